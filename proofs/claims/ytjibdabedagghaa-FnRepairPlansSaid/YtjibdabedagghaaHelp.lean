/- Contracts of the laws' helpers on structs of integers and on slices of them. No conditions. -/
import Derived.Test.YtjibdabedagghaaCom
namespace Go.Proofs.Ytjibdabedagghaa
set_option linter.unusedSimpArgs false
set_option linter.unusedVariables false
open Go.RowKit


theorem infoGear : (Try.prog.info? 26).map (fun i => (i.zero, i.size, i.bytes)) = some (some (.agg #[.int .i64 0, .int .i64 0, .int .i64 0, .int .i64 0]), 4, 32) := by kernel_rfl
theorem szGearS_any (A : Option Addr) (n c : Nat) (left : Int) (w : World) (hn : n ≤ 9223372036854775807) (h1 : 0 ≤ left) (h2 : left ≤ 1000000000) :
    Calls Try.prog 18 #[.slice A n c, .int .i64 left] w fun e w' => e = .returned (.int .i64 (if left < (n : Int) then -1 else left - (n : Int))) ∧ w = w' := by
  by_cases hlt : left < (n : Int)
  · rw [if_pos hlt]
    go_enter Try.func18, Try.ntmps18
    go_wp2
    go_ret
    exact ⟨rfl, rfl⟩
  · rw [if_neg hlt]
    go_enter Try.func18, Try.ntmps18
    go_wp2
    go_ret
    exact ⟨rfl, rfl⟩
theorem szGearS_ok (A : Option Addr) (n c : Nat) (left : Nat) (w : World) (h1 : n ≤ left) (h2 : left ≤ 1000000000) :
    Calls Try.prog 18 #[.slice A n c, .int .i64 left] w fun e w' => e = .returned (.int .i64 ((left : Int) - (n : Int))) ∧ w = w' := by
  have := szGearS_any A n c left w (by omega) (by omega) (by omega)
  rw [if_neg (by omega)] at this
  exact this
theorem szGearS_big (A : Option Addr) (n c : Nat) (left : Nat) (w : World) (h0 : n ≤ 9223372036854775807) (h1 : left < n) (h2 : left ≤ 1000000000) :
    Calls Try.prog 18 #[.slice A n c, .int .i64 left] w fun e w' => e = .returned (.int .i64 (-1)) ∧ w = w' := by
  have := szGearS_any A n c left w (by omega) (by omega) (by omega)
  rw [if_pos (by omega)] at this
  exact this
theorem toGear_any (a0 a1 a2 a3 : Int) (w : World) :
    Calls Try.prog 16 #[.agg #[.int .i64 a0, .int .i64 a1, .int .i64 a2, .int .i64 a3]] w fun e w' => e = .returned (.agg #[.int .i64 a0, .int .i64 a1, .int .i64 a2, .int .i64 a3]) ∧ Below w.heap.size w w' := by
  go_enter Try.func16, Try.ntmps16
  go_wp2
  go_returns
  exact ⟨rfl, by go_grown⟩
set_option maxHeartbeats 1000000 in
theorem toGearS_any (A : Option Addr) (n c : Nat) (l : List (Int × Int × Int × Int)) (w : World) (hn : n ≤ 1000000000) (h : Reads w 4 A n (rows4 l)) :
    Calls Try.prog 20 #[.slice A n c] w (Made w 26 4 n (rows4 l)) := by
  have HX := Lib.hid (show l.length = n by have := h.1; rw [length_rows4] at this; omega)
  have HRL := Lib.hid h.1
  have H := Lib.hid h; clear h
  go_enter Try.func20, Try.ntmps20
  go_wp2_with (at_make; refine wpList_mkN _ rfl (.tmp 6) (.tmp 6) 32 rfl w.heap.size 26 _ 4 _ infoGear Try.underlying32 _ _ _ _ n rfl rfl rfl rfl (by omega) (by omega) (Nat.le_refl _) ?_; intro w1 old hol hown1 hb1 hz1)
  have hown1' : w1.ownsRow w.heap.size 26 4 (.slice (some ⟨w.heap.size, 0, none⟩) n n) n ((rows4 l).take (0 * 4) ++ old.drop (0 * 4)) := by simpa using hown1
  have HS0 := Lib.hid (And.intro hown1' (And.intro hb1 hz1))
  have HOL := Lib.hid hol
  clear hown1 hown1' hb1 hz1 hol
  generalize hg : w.heap.size = g at *
  go_loopw [4] (fun i wr => ∃ k : Nat, k ≤ n ∧ i = .int .i64 k ∧ wr.ownsRow g 26 4 (.slice (some ⟨g, 0, none⟩) n n) n ((rows4 l).take (k * 4) ++ old.drop (k * 4)) ∧ Below g w wr ∧ g < wr.heap.size) (fun i _ => n - (intOf i).toNat)
  case atStart => exact ⟨0, Nat.zero_le _, rfl, HS0.out.1, HS0.out.2.1, HS0.out.2.2⟩
  case round =>
    obtain ⟨k, hk, rfl, hown, hb, hgz⟩ := hrel
    clear HS0
    have HO := Lib.hid hown; clear hown
    have HB := Lib.hid hb; clear hb
    by_cases hlt : k < n
    · obtain ⟨ad, rfl, k0, k1, k2, k3⟩ := rows4_at (H.out.keep (w' := wr) (fun p hp => HB.out.cell (by omega))) hlt HX.out
      have hx : k < l.length := by rw [HX.out]; exact hlt
      have HG := Lib.hid (rows4_get hx)
      generalize l[k] = x at *
      obtain ⟨x0, x1, x2, x3⟩ := x
      have hst : ∀ W, Below wr.heap.size wr W → (∃ o0 o1 o2 o3, W.cell? ⟨g, k * 4, none⟩ = some o0 ∧ W.cell? ⟨g, k * 4 + 1, none⟩ = some o1 ∧ W.cell? ⟨g, k * 4 + 2, none⟩ = some o2 ∧ W.cell? ⟨g, k * 4 + 3, none⟩ = some o3) ∧ W.frozen? ⟨g, k * 4, none⟩ = false ∧ W.frozen? ⟨g, k * 4 + 1, none⟩ = false ∧ W.frozen? ⟨g, k * 4 + 2, none⟩ = false ∧ W.frozen? ⟨g, k * 4 + 3, none⟩ = false := by
        intro W hW
        have ho := own_below HO.out hW
        have hol : ((rows4 l).take (k * 4) ++ old.drop (k * 4)).length = n * 4 := ho.1
        have f : ∀ j, k * 4 + j < n * 4 → ∃ o, W.cell? ⟨g, k * 4 + j, none⟩ = some o := fun j hj => ⟨_, by rw [ho.cellAt _ (by omega)]; exact List.getElem?_eq_getElem (by rw [hol]; exact hj)⟩
        obtain ⟨o0, e0⟩ := f 0 (by omega)
        obtain ⟨o1, e1⟩ := f 1 (by omega)
        obtain ⟨o2, e2⟩ := f 2 (by omega)
        obtain ⟨o3, e3⟩ := f 3 (by omega)
        exact ⟨⟨o0, o1, o2, o3, e0, e1, e2, e3⟩, ho.frozenAt _, ho.frozenAt _, ho.frozenAt _, ho.frozenAt _⟩
      have HST := Lib.hid hst; clear hst
      go_wp2_with (go_at_call 16; refine (toGear_any x0 x1 x2 x3 _).mono ?_; rintro e w1 ⟨rfl, hb1⟩; obtain ⟨⟨o0, o1, o2, o3, c0, c1, c2, c3⟩, f0, f1, f2, f3⟩ := HST.out w1 hb1; have HB1 := Lib.hid hb1; clear hb1)
      go_roundw
      case rel => exact ⟨k + 1, by omega, by go_num, own_set4 HRL.out HOL.out hlt (own_below HO.out HB1.out) HG.out.1 HG.out.2.1 HG.out.2.2.1 HG.out.2.2.2, (((((HB.out.trans (HB1.out.mono (by omega))).setCell (p := ⟨g, k * 4, none⟩) (Nat.le_refl _) _).setCell (p := ⟨g, k * 4 + 1, none⟩) (Nat.le_refl _) _).setCell (p := ⟨g, k * 4 + 2, none⟩) (Nat.le_refl _) _).setCell (p := ⟨g, k * 4 + 3, none⟩) (Nat.le_refl _) _), by have := HB1.out.size; simp; omega⟩
      case measure => simp [intOf]; omega
    · obtain rfl : k = n := by omega
      have ho := HO.out
      rw [two_end HRL.out HOL.out] at ho
      have HO2 := Lib.hid ho
      clear ho
      go_wp2
      go_ret
      subst hg
      exact ⟨_, _, rfl, HO2.out, HB.out⟩
theorem eqGear_any (a0 a1 a2 a3 : Int) (w : World) :
    Calls Try.prog 66 #[.agg #[.int .i64 a0, .int .i64 a1, .int .i64 a2, .int .i64 a3], .agg #[.int .i64 a0, .int .i64 a1, .int .i64 a2, .int .i64 a3]] w fun e w' => e = .returned (.bool true) ∧ Below w.heap.size w w' := by
  go_enter Try.func66, Try.ntmps66
  go_wp2
  go_ret
  exact ⟨rfl, by go_grown⟩
set_option maxHeartbeats 2000000 in
theorem eqGearS_any (A B : Option Addr) (n c c' : Nat) (l : List (Int × Int × Int × Int)) (w : World) (hn : n ≤ 1000000000000) (h : Reads w 4 A n (rows4 l)) (h' : Reads w 4 B n (rows4 l)) :
    Calls Try.prog 22 #[.slice A n c, .slice B n c'] w fun e w' => e = .returned (.bool true) ∧ Below w.heap.size w w' := by
  have HX := Lib.hid (show l.length = n by have := h.1; rw [length_rows4] at this; omega)
  have H := Lib.hid h
  have H' := Lib.hid h'
  clear h h'
  go_enter Try.func22, Try.ntmps22
  go_wp2
  go_loopw [5] (fun i wr => ∃ k : Nat, k ≤ n ∧ i = .int .i64 k ∧ Below w.heap.size w wr) (fun i _ => n - (intOf i).toNat)
  case atStart => exact ⟨0, Nat.zero_le _, rfl, Below.refl _ _⟩
  case round =>
    obtain ⟨k, hk, rfl, hb⟩ := hrel
    have HB := Lib.hid hb; clear hb
    by_cases hlt : k < n
    · obtain ⟨ad, rfl, k0, k1, k2, k3⟩ := rows4_at (H.out.below HB.out) hlt HX.out
      obtain ⟨ad', rfl, j0, j1, j2, j3⟩ := rows4_at (H'.out.below HB.out) hlt HX.out
      have hx : k < l.length := by rw [HX.out]; exact hlt
      generalize l[k] = x at *
      obtain ⟨x0, x1, x2, x3⟩ := x
      go_wp2
      go_region_with (go_at_call 66; refine (eqGear_any x0 x1 x2 x3 _).mono ?_; rintro e w1 ⟨rfl, hb1⟩)
      all_goals
        have HB1 := Lib.hid hb1; clear hb1
        go_wp2
        go_roundw
        case rel => exact ⟨k + 1, by omega, by go_num, HB.out.drew.trans (HB1.out.mono HB.out.size)⟩
        case measure => simp [intOf]; omega
    · go_wp2
      go_ret
      exact ⟨rfl, HB.out⟩






end Go.Proofs.Ytjibdabedagghaa
