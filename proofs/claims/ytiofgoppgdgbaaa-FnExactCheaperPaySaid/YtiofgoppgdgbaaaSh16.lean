/- The law CheaperPay. No conditions. -/
import Derived.Test.YtiofgoppgdgbaaaSh15
import Derived.Test.YtiofgoppgdgbaaaMark
import Derived.Deep.RegionHeld3
namespace Go.Proofs.Ytiofgoppgdgbaaa
set_option linter.unusedSimpArgs false
set_option linter.unusedVariables false
open Go.RowKit


theorem below_then' {S w1 w2 : World} (h : Below S.heap.size S w1) (h' : Below w1.heap.size w1 w2) : Below S.heap.size S w2 := h.trans (h'.mono h.size)
set_option maxHeartbeats 4000000 in
set_option maxRecDepth 100000 in
theorem law_FnExactCheaperPay (w : World) {v0 v1 v2 v3 : Value} (h0 : IsAgg4 v0) (h1 : IsAgg4 v1) (h2 : IsRows3 w v2) (h3 : IsInts w v3) :
    Calls Try.prog 11 #[v0, v1, v2, v3] w fun e w' => e = .returned (.bool true) ∧ Below w.heap.size w w' := by
  obtain ⟨a, b, c, d, rfl, _⟩ := h0
  obtain ⟨a', b', c', d', rfl, _⟩ := h1
  obtain ⟨A, n, cc, l, rfl, hnc, hcm, _, hr2, _⟩ := h2
  obtain ⟨B, m, mc, ms, rfl, _, _, hr3, _⟩ := h3
  have HZ : Hid (∀ W, Below ((w.alloc (.cells #[.int .i64 a, .int .i64 b, .int .i64 c, .int .i64 d] 23)).alloc (.cells #[.int .i64 a', .int .i64 b', .int .i64 c', .int .i64 d'] 23)).heap.size ((w.alloc (.cells #[.int .i64 a, .int .i64 b, .int .i64 c, .int .i64 d] 23)).alloc (.cells #[.int .i64 a', .int .i64 b', .int .i64 c', .int .i64 d'] 23)) W → Below w.heap.size w W) := Lib.hid (fun W hW => (((Below.refl _ _).alloc (Nat.le_refl _) _).alloc (by simp) _).trans (hW.mono (by simp; omega)))
  have HR2 := Lib.hid ((hr2.alloc (.cells #[.int .i64 a, .int .i64 b, .int .i64 c, .int .i64 d] 23)).alloc (.cells #[.int .i64 a', .int .i64 b', .int .i64 c', .int .i64 d'] 23)); clear hr2
  have HR3 := Lib.hid ((hr3.alloc (.cells #[.int .i64 a, .int .i64 b, .int .i64 c, .int .i64 d] 23)).alloc (.cells #[.int .i64 a', .int .i64 b', .int .i64 c', .int .i64 d'] 23)); clear hr3
  by_cases hm : m ≤ 1048576
  rotate_left
  · go_enter Try.func11, Try.ntmps11
    go_wp2
    go_ret
    exact ⟨rfl, HZ.out _ (Below.refl _ _)⟩
  by_cases hn : n ≤ 1048576
  rotate_left
  · go_enter Try.func11, Try.ntmps11
    go_wp2_with fail
    refine (szShiftS_bigI A n cc _ _ (by omega) (by omega) (by omega) (by omega)).mono ?_
    rintro e w' ⟨rfl, rfl⟩
    go_wp2_with fail
    go_ret
    exact ⟨rfl, HZ.out _ (Below.refl _ _)⟩
  have KB : Hid (∀ W, Below ((w.alloc (.cells #[.int .i64 a, .int .i64 b, .int .i64 c, .int .i64 d] 23)).alloc (.cells #[.int .i64 a', .int .i64 b', .int .i64 c', .int .i64 d'] 23)).heap.size ((w.alloc (.cells #[.int .i64 a, .int .i64 b, .int .i64 c, .int .i64 d] 23)).alloc (.cells #[.int .i64 a', .int .i64 b', .int .i64 c', .int .i64 d'] 23)) W → (W.cell? ⟨w.heap.size, 0, none⟩ = some (.int .i64 a) ∧ W.cell? ⟨w.heap.size, 1, none⟩ = some (.int .i64 b) ∧ W.cell? ⟨w.heap.size, 2, none⟩ = some (.int .i64 c) ∧ W.cell? ⟨w.heap.size, 3, none⟩ = some (.int .i64 d)) ∧ W.cell? ⟨w.heap.size + 1, 0, none⟩ = some (.int .i64 a') ∧ W.cell? ⟨w.heap.size + 1, 1, none⟩ = some (.int .i64 b') ∧ W.cell? ⟨w.heap.size + 1, 2, none⟩ = some (.int .i64 c') ∧ W.cell? ⟨w.heap.size + 1, 3, none⟩ = some (.int .i64 d')) := Lib.hid (fun W hW => two_boxes (w := w) (t := 23) (v0 := .int .i64 a) (v1 := .int .i64 b) (v2 := .int .i64 c) (v3 := .int .i64 d) (u0 := .int .i64 a') (u1 := .int .i64 b') (u2 := .int .i64 c') (u3 := .int .i64 d') W hW)
  have hS : Below ((w.alloc (.cells #[.int .i64 a, .int .i64 b, .int .i64 c, .int .i64 d] 23)).alloc (.cells #[.int .i64 a', .int .i64 b', .int .i64 c', .int .i64 d'] 23)).heap.size ((w.alloc (.cells #[.int .i64 a, .int .i64 b, .int .i64 c, .int .i64 d] 23)).alloc (.cells #[.int .i64 a', .int .i64 b', .int .i64 c', .int .i64 d'] 23)) ((w.alloc (.cells #[.int .i64 a, .int .i64 b, .int .i64 c, .int .i64 d] 23)).alloc (.cells #[.int .i64 a', .int .i64 b', .int .i64 c', .int .i64 d'] 23)).drew := (Below.refl _ _).drew
  obtain ⟨⟨k0, k1, k2, k3⟩, k4, k5, k6, k7⟩ := KB.out _ hS
  go_enter Try.func11, Try.ntmps11
  go_wp2_with fail
  refine (szShiftS_okI A n cc _ _ (by omega) (by omega) (by omega) (by omega)).mono ?_
  rintro e w' ⟨rfl, rfl⟩
  go_wp2_with fail
  go_region_held3 (fun W => (W.cell? ⟨w.heap.size, 0, none⟩ = some (.int .i64 a) ∧ W.cell? ⟨w.heap.size, 1, none⟩ = some (.int .i64 b) ∧ W.cell? ⟨w.heap.size, 2, none⟩ = some (.int .i64 c) ∧ W.cell? ⟨w.heap.size, 3, none⟩ = some (.int .i64 d)) ∧ W.cell? ⟨w.heap.size + 1, 0, none⟩ = some (.int .i64 a') ∧ W.cell? ⟨w.heap.size + 1, 1, none⟩ = some (.int .i64 b') ∧ W.cell? ⟨w.heap.size + 1, 2, none⟩ = some (.int .i64 c') ∧ W.cell? ⟨w.heap.size + 1, 3, none⟩ = some (.int .i64 d')) (exact KB.out _ (by assumption)) (first | (go_at_call_of 14 (Value.int IntKind.i64 a); refine (toPay_any a b c d _).mono ?_; rintro e wp ⟨rfl, hb⟩; replace hS := below_then' hS hb;  clear hb) | (go_at_call_of 14 (Value.int IntKind.i64 a'); refine (toPay_any a' b' c' d' _).mono ?_; rintro e wp ⟨rfl, hb⟩; replace hS := below_then' hS hb;  clear hb) | (go_at_call 18; refine (toShiftS_any A n cc l _ (by omega) (HR2.out.below (by assumption))).mono ?_; rintro e wp ⟨A1, c1, rfl, hown, hb⟩; replace hS := below_then' hS hb; have HO1 := Lib.hid hown; clear hb hown) | (go_at_call 34; refine (toIntS_any B m mc ms _ (by omega) (HR3.out.below (by assumption))).mono ?_; rintro e wp ⟨A2, c2, rfl, hown, hb⟩; replace hS := below_then' hS hb; have HO1 := Lib.hid (own_below HO1.out hb); have HO2 := Lib.hid hown; clear hb hown) | (go_at_call 38; refine (specCheaper_any a b c d a' b' c' d' A1 n c1 l A2 m c2 ms _ (by omega) (Reads.of_own HO1.out) (own_cap HO1.out) (by omega) (Reads.of_own HO2.out) (own_cap HO2.out)).mono ?_; rintro e wp ⟨rfl, hb⟩; replace hS := below_then' hS hb;  clear hb))
  clear HO1 HO2
  go_wp2_with fail
  refine (toShiftS_any A n cc l _ (by omega) (HR2.out.below hS)).mono ?_
  rintro e w5 ⟨A1, c1, rfl, hown, hb⟩
  replace hS := below_then' hS hb
  have HO1 := Lib.hid hown; clear hb hown
  go_wp2_with fail
  refine (toIntS_any B m mc ms _ (by omega) (HR3.out.below hS)).mono ?_
  rintro e w6 ⟨A2, c2, rfl, hown, hb⟩
  replace hS := below_then' hS hb
  have HO1 := Lib.hid (own_below HO1.out hb)
  have HO2 := Lib.hid hown; clear hb hown
  go_wp2_with fail
  replace hS := hS.drew
  have HO1 := Lib.hid (own_below HO1.out (Below.refl _ _).drew)
  have HO2 := Lib.hid (own_below HO2.out (Below.refl _ _).drew)
  go_region_held3 (fun W => (W.cell? ⟨w.heap.size, 0, none⟩ = some (.int .i64 a) ∧ W.cell? ⟨w.heap.size, 1, none⟩ = some (.int .i64 b) ∧ W.cell? ⟨w.heap.size, 2, none⟩ = some (.int .i64 c) ∧ W.cell? ⟨w.heap.size, 3, none⟩ = some (.int .i64 d)) ∧ W.cell? ⟨w.heap.size + 1, 0, none⟩ = some (.int .i64 a') ∧ W.cell? ⟨w.heap.size + 1, 1, none⟩ = some (.int .i64 b') ∧ W.cell? ⟨w.heap.size + 1, 2, none⟩ = some (.int .i64 c') ∧ W.cell? ⟨w.heap.size + 1, 3, none⟩ = some (.int .i64 d')) (exact KB.out _ (by assumption)) (first | (go_at_call_of 14 (Value.int IntKind.i64 a); refine (toPay_any a b c d _).mono ?_; rintro e wp ⟨rfl, hb⟩; replace hS := below_then' hS hb; have HO1 := Lib.hid (own_below HO1.out hb); have HO2 := Lib.hid (own_below HO2.out hb); clear hb) | (go_at_call_of 14 (Value.int IntKind.i64 a'); refine (toPay_any a' b' c' d' _).mono ?_; rintro e wp ⟨rfl, hb⟩; replace hS := below_then' hS hb; have HO1 := Lib.hid (own_below HO1.out hb); have HO2 := Lib.hid (own_below HO2.out hb); clear hb) | (go_at_call 39; refine (implCheaper_any a b c d a' b' c' d' A1 n c1 l A2 m c2 ms _ (by omega) (Reads.of_own HO1.out) (own_cap HO1.out) (by omega) (Reads.of_own HO2.out) (own_cap HO2.out)).mono ?_; rintro e wp ⟨rfl, hb⟩; replace hS := below_then' hS hb; have HO1 := Lib.hid (own_below HO1.out hb); have HO2 := Lib.hid (own_below HO2.out hb); clear hb))
  go_wp2_with fail
  refine (toShiftS_any A n cc l _ (by omega) (HR2.out.below hS)).mono ?_
  rintro e w7 ⟨A3, c3, rfl, hown, hb⟩
  replace hS := below_then' hS hb
  have HO1 := Lib.hid (own_below HO1.out hb)
  have HO2 := Lib.hid (own_below HO2.out hb)
  have HO3 := Lib.hid hown; clear hb hown
  go_wp2_with fail
  refine (eqShiftS_any A1 A3 n c1 c3 l _ (by omega) (Reads.of_own HO1.out) (Reads.of_own HO3.out)).mono ?_
  rintro e w8 ⟨rfl, hb⟩
  replace hS := below_then' hS hb
  have HO2 := Lib.hid (own_below HO2.out hb)
  clear hb HO1 HO3
  go_wp2_with fail
  refine (toIntS_any B m mc ms _ (by omega) (HR3.out.below hS)).mono ?_
  rintro e w9 ⟨A3, c3, rfl, hown, hb⟩
  replace hS := below_then' hS hb
  have HO2 := Lib.hid (own_below HO2.out hb)
  have HO3 := Lib.hid hown; clear hb hown
  go_wp2_with fail
  refine (eqIntS_any A2 A3 m c2 c3 ms _ (by omega) (Reads.of_own HO2.out) (Reads.of_own HO3.out)).mono ?_
  rintro e w10 ⟨rfl, hq⟩
  replace hS := below_then' hS (below_of_quiet hq)
  clear hq
  go_wp2_with fail
  go_ret
  exact ⟨rfl, HZ.out _ hS⟩

end Go.Proofs.Ytiofgoppgdgbaaa
