/- The law over FogsBySlots of both packages. No conditions. -/
import Derived.Test.YthpfgmnhpnfopaaFgI
import Derived.Test.YthpfgmnhpnfopaaNetH
import Derived.Test.YthpfgmnhpnfopaaIsN
import Derived.Deep.RegionHeld3
namespace Go.Proofs.Ythpfgmnhpnfopaa
set_option linter.unusedSimpArgs false
set_option linter.unusedVariables false
open Go.RowKit

theorem reads_drew1 {w : World} {k n : Nat} {A : Option Addr} {xs : List Value} (h : Reads w k A n xs) : Reads w.drew k A n xs := h
set_option maxHeartbeats 8000000 in
set_option maxRecDepth 100000 in
theorem law_FnExactFogsBySlots (w : World) {v0 v1 : Value} (h0 : IsNet w v0) (h1 : IsBoolss w v1) :
    Calls Try.prog 13 #[v0, v1] w fun e w' => e = .returned (.bool true) ∧ Below w.heap.size w w' := by
  obtain ⟨At, nT, cT, Ak, nK, cK, T, K, rfl, hct1, hct2, hck1, hck2, hrt, hrk⟩ := h0
  obtain ⟨A1, n1, c1, xs1, rfl, hnc1, hcm1, _, hr1, hin1⟩ := h1
  have HB0 : Hid (Below w.heap.size w (w.alloc (.cells #[.slice At nT cT, .slice Ak nK cK] 60))) := Lib.hid ((Below.refl _ _).alloc (Nat.le_refl _) _)
  have HRT := Lib.hid (hrt.alloc (.cells #[.slice At nT cT, .slice Ak nK cK] 60)); have HRK := Lib.hid (hrk.alloc (.cells #[.slice At nT cT, .slice Ak nK cK] 60)); clear hrt hrk
  have HR1 := Lib.hid (hr1.alloc (.cells #[.slice At nT cT, .slice Ak nK cK] 60)); clear hr1
  have HIN1 := Lib.hid hin1; clear hin1
  obtain ⟨s1, hs1⟩ : ∃ s, s = n1 + tot (xs1.map bools) := ⟨_, rfl⟩
  have HS_1 := Lib.hid hs1
  have hs1' : n1 ≤ s1 := by omega
  clear hs1
  have KB : Hid (∀ W, Below (w.alloc (.cells #[.slice At nT cT, .slice Ak nK cK] 60)).heap.size (w.alloc (.cells #[.slice At nT cT, .slice Ak nK cK] 60)) W → W.cell? ⟨w.heap.size, 0, none⟩ = some (.slice At nT cT) ∧ W.cell? ⟨w.heap.size, 1, none⟩ = some (.slice Ak nK cK)) := Lib.hid (fun W hW => ⟨(hW.cell (by simp)).trans (by simp), (hW.cell (by simp)).trans (by simp)⟩)
  have HZ : Hid (∀ W, Below (w.alloc (.cells #[.slice At nT cT, .slice Ak nK cK] 60)).heap.size (w.alloc (.cells #[.slice At nT cT, .slice Ak nK cK] 60)) W → Below w.heap.size w W) := Lib.hid (fun W hW => HB0.out.trans (hW.mono HB0.out.size))
  by_cases hz0 : nT + nK ≤ 1048576
  rotate_left
  · go_enter Try.func13, Try.ntmps13
    go_wp2_with fail
    refine (szNet_bigI At Ak nT cT nK cK 1048576 _ (by omega) (by omega) (by omega) (by omega) (by omega)).mono ?_
    rintro e w1 ⟨rfl, hb⟩
    go_wp2
    go_ret
    exact ⟨rfl, HZ.out _ hb⟩
  by_cases hz1 : nT + nK + s1 ≤ 1048576
  rotate_left
  · go_enter Try.func13, Try.ntmps13
    go_wp2_with fail
    refine (szNet_okI At Ak nT cT nK cK 1048576 _ (by omega) (by omega) (by omega)).mono ?_
    rintro e w1 ⟨rfl, hb⟩
    have BB1 := Lib.hid hb; clear hb
    go_wp2_with fail
    refine (szBoolSS_bigI A1 n1 c1 xs1 _ s1 _ (by omega) (by omega) (by omega) (by omega) HS_1.out HIN1.out (HR1.out.below BB1.out)).mono ?_
    rintro e w' ⟨rfl, rfl⟩
    go_wp2
    go_ret
    exact ⟨rfl, HZ.out _ BB1.out⟩
  have HLX1 := Lib.hid (bdBoolSS (xs := xs1) (n := n1) (s := s1) HS_1.out (by omega))
  go_enter Try.func13, Try.ntmps13
  go_wp2_with fail
  refine (szNet_okI At Ak nT cT nK cK 1048576 _ (by omega) (by omega) (by omega)).mono ?_
  rintro e w1 ⟨rfl, hb⟩
  have BB1 := Lib.hid hb; clear hb
  go_wp2_with fail
  refine (szBoolSS_okI A1 n1 c1 xs1 _ s1 _ (by omega) (by omega) (by omega) (by omega) HS_1.out HIN1.out (HR1.out.below BB1.out)).mono ?_
  rintro e w' ⟨rfl, rfl⟩
  obtain ⟨ka, kb⟩ := KB.out w1 BB1.out
  go_wp2_with fail
  clear ka kb
  refine (toNet_any At Ak nT cT nK cK T K w1 (by omega) (by omega) (HRT.out.below BB1.out) (HRK.out.below BB1.out)).mono ?_
  rintro e w2 ⟨AsT, csT, AsK, csK, rfl, hown, hown2, hap, hb⟩
  have OsT_2 := Lib.hid hown; have OsK_2 := Lib.hid hown2; have HAPs := Lib.hid hap; clear hown hown2 hap
  have LsT := Lib.hid (own_lt OsT_2.out); have LsK := Lib.hid (own_lt OsK_2.out)
  have B1 := Lib.hid hb; clear hb
  have Z1 := Lib.hid (B1.out.size)
  have BB2 := Lib.hid (BB1.out.trans (B1.out.mono BB1.out.size))
  obtain ⟨ka, kb⟩ := KB.out w2 BB2.out
  go_wp2_with fail
  clear ka kb
  refine (toBoolSS_any A1 n1 c1 xs1 w2 (by omega) HLX1.out (HR1.out.below BB2.out)).mono ?_
  rintro e w3 ⟨AsB, csB, hssB, rfl, hown, hb⟩
  have OsB_3 := Lib.hid hown; clear hown
  have B2 := Lib.hid hb; clear hb
  have Z2 := Lib.hid (B2.out.size)
  have BB3 := Lib.hid (BB2.out.trans (B2.out.mono BB2.out.size))
  have OsT_3 := Lib.hid (own_below OsT_2.out B2.out)
  have OsK_3 := Lib.hid (own_below OsK_2.out B2.out)
  obtain ⟨ka, kb⟩ := KB.out w3 BB3.out
  go_wp2_with fail
  clear ka kb
  refine (specFogsBySlots_any AsT AsK AsB nT csT nK csK n1 csB T K xs1 w3 (by omega) (by omega) (by omega) HLX1.out (Reads.of_own OsT_3.out) (Reads.of_own OsK_3.out) (Reads2.of_own OsB_3.out)).mono ?_
  rintro e w4 ⟨Aw, cw, rfl, hown, hb⟩
  have Ow_4 := Lib.hid hown; clear hown
  have Lw := Lib.hid (own_lt Ow_4.out)
  have B3 := Lib.hid hb; clear hb
  have Z3 := Lib.hid (B3.out.size)
  have BB4 := Lib.hid (BB3.out.trans (B3.out.mono BB3.out.size))
  have OsT_4 := Lib.hid (own_below OsT_3.out B3.out)
  have OsK_4 := Lib.hid (own_below OsK_3.out B3.out)
  have OsB_4 := Lib.hid (OsB_3.out.below B3.out (Nat.le_refl _))
  obtain ⟨ka, kb⟩ := KB.out w4 BB4.out
  go_wp2_with fail
  clear ka kb
  refine (toNet_any At Ak nT cT nK cK T K w4 (by omega) (by omega) (HRT.out.below BB4.out) (HRK.out.below BB4.out)).mono ?_
  rintro e w5 ⟨AxT, cxT, AxK, cxK, rfl, hown, hown2, hap, hb⟩
  have OxT_5 := Lib.hid hown; have OxK_5 := Lib.hid hown2; have HAPx := Lib.hid hap; clear hown hown2 hap
  have LxT := Lib.hid (own_lt OxT_5.out); have LxK := Lib.hid (own_lt OxK_5.out)
  have B4 := Lib.hid hb; clear hb
  have Z4 := Lib.hid (B4.out.size)
  have BB5 := Lib.hid (BB4.out.trans (B4.out.mono BB4.out.size))
  have Ow_5 := Lib.hid (own_below Ow_4.out B4.out)
  obtain ⟨ka, kb⟩ := KB.out w5 BB5.out
  go_wp2_with fail
  clear ka kb
  have hb : Below w5.heap.size w5 (w5.alloc (.cells #[.slice AxT nT cxT, .slice AxK nK cxK] 68)) := (Below.refl _ _).alloc (Nat.le_refl _) _
  have hx := Box2.new w5 68 (.slice AxT nT cxT) (.slice AxK nK cxK)
  obtain ⟨gx, hgx⟩ : ∃ gx, gx = w5.heap.size := ⟨_, rfl⟩
  have HGX := Lib.hid hgx
  obtain ⟨w6, hw⟩ : ∃ x, x = w5.alloc (.cells #[.slice AxT nT cxT, .slice AxK nK cxK] 68) := ⟨_, rfl⟩
  rw [← hw] at hb hx
  rw [← hw]
  rw [← hgx] at hx
  try rw [← hgx]
  clear hw hgx
  have B5 := Lib.hid hb; clear hb
  have Z5 := Lib.hid (B5.out.size)
  have BB6 := Lib.hid (BB5.out.trans (B5.out.mono BB5.out.size))
  have Ow_6 := Lib.hid (own_below Ow_5.out B5.out)
  have OxT_6 := Lib.hid (own_below OxT_5.out B5.out)
  have OxK_6 := Lib.hid (own_below OxK_5.out B5.out)
  have HX_6 := Lib.hid hx; clear hx
  refine (toBoolSS_any A1 n1 c1 xs1 w6 (by omega) HLX1.out (HR1.out.below BB6.out)).mono ?_
  rintro e w7 ⟨AxB, cxB, hsxB, rfl, hown, hb⟩
  have OxB_7 := Lib.hid hown; clear hown
  have B6 := Lib.hid hb; clear hb
  have Z6 := Lib.hid (B6.out.size)
  have BB7 := Lib.hid (BB6.out.trans (B6.out.mono BB6.out.size))
  have HX_7 := Lib.hid (HX_6.out.bel B6.out)
  have Ow_7 := Lib.hid (own_below Ow_6.out B6.out)
  have OxT_7 := Lib.hid (own_below OxT_6.out B6.out)
  have OxK_7 := Lib.hid (own_below OxK_6.out B6.out)
  obtain ⟨ka, kb⟩ := KB.out w7 BB7.out
  obtain ⟨xa, xb⟩ := HX_7.out.cells
  go_wp2_with fail
  clear ka kb xa xb
  refine (implFogsBySlots_any AxT AxK AxB nT cxT nK cxK n1 cxB T K xs1 w7 (by omega) (by omega) (by omega) HLX1.out (Reads.of_own OxT_7.out) (Reads.of_own OxK_7.out) (Reads2.of_own OxB_7.out)).mono ?_
  rintro e w8 ⟨Ag, cg, rfl, hown, hb⟩
  have Og_8 := Lib.hid hown; clear hown
  have Lg := Lib.hid (own_lt Og_8.out)
  have B7 := Lib.hid hb; clear hb
  have Z7 := Lib.hid (B7.out.size)
  have BB8 := Lib.hid (BB7.out.trans (B7.out.mono BB7.out.size))
  have HX_8 := Lib.hid (HX_7.out.bel B7.out)
  have Ow_8 := Lib.hid (own_below Ow_7.out B7.out)
  have OxT_8 := Lib.hid (own_below OxT_7.out B7.out)
  have OxK_8 := Lib.hid (own_below OxK_7.out B7.out)
  have OxB_8 := Lib.hid (OxB_7.out.below B7.out (Nat.le_refl _))
  obtain ⟨ka, kb⟩ := KB.out w8 BB8.out
  obtain ⟨xa, xb⟩ := HX_8.out.cells
  go_wp2_with fail
  clear ka kb xa xb
  refine (eqFogS_any Ag Aw (fogsR T K xs1).1.length cg cw (fogsR T K xs1).1 w8 (by have := fogsR_len T K xs1; omega) (Reads.of_own Og_8.out) (Reads.of_own Ow_8.out)).mono ?_
  rintro e w9 ⟨rfl, hb⟩
  have B8 := Lib.hid hb; clear hb
  have Z8 := Lib.hid (B8.out.size)
  have BB9 := Lib.hid (BB8.out.trans (B8.out.mono BB8.out.size))
  have HX_9 := Lib.hid (HX_8.out.bel B8.out)
  have Ow_9 := Lib.hid (own_below Ow_8.out B8.out)
  have OxT_9 := Lib.hid (own_below OxT_8.out B8.out)
  have OxK_9 := Lib.hid (own_below OxK_8.out B8.out)
  have OxB_9 := Lib.hid (OxB_8.out.below B8.out (by have := Z7.out; omega))
  have Og_9 := Lib.hid (own_below Og_8.out B8.out)
  obtain ⟨ka, kb⟩ := KB.out w9 BB9.out
  obtain ⟨xa, xb⟩ := HX_9.out.cells
  go_wp2
  have hkeep : ∀ W, Below w9.heap.size w9 W → W.cell? ⟨gx, 0, none⟩ = some (.slice AxT nT cxT) ∧ W.cell? ⟨gx, 1, none⟩ = some (.slice AxK nK cxK) ∧ W.cell? ⟨w.heap.size, 0, none⟩ = some (.slice At nT cT) ∧ W.cell? ⟨w.heap.size, 1, none⟩ = some (.slice Ak nK cK) := fun W hW => ⟨(hW.cell (World.block_lt_of_cell? _ _ xa)).trans xa, (hW.cell (World.block_lt_of_cell? _ _ xb)).trans xb, (hW.cell (World.block_lt_of_cell? _ _ ka)).trans ka, (hW.cell (World.block_lt_of_cell? _ _ kb)).trans kb⟩
  have HKEEP := Lib.hid hkeep; clear hkeep
  go_region_held3 (fun W => W.cell? ⟨gx, 0, none⟩ = some (.slice AxT nT cxT) ∧ W.cell? ⟨gx, 1, none⟩ = some (.slice AxK nK cxK) ∧ W.cell? ⟨w.heap.size, 0, none⟩ = some (.slice At nT cT) ∧ W.cell? ⟨w.heap.size, 1, none⟩ = some (.slice Ak nK cK)) (first | exact HKEEP.out _ (by first | exact (Below.refl _ _).drew | exact hb2 | exact B9'.out | assumption) | fail) (first | (go_at_call 47; refine (toNet_any At Ak nT cT nK cK T K w9.drew (by omega) (by omega) (reads_drew1 (HRT.out.below BB9.out)) (reads_drew1 (HRK.out.below BB9.out))).mono ?_; rintro e w10 ⟨AtT, ctT, AtK, ctK, rfl, hown, hown2, hap, hb⟩; have B9' := Lib.hid ((Below.refl w9.heap.size w9).drew.trans hb); have hS1 := HKEEP.out _ B9'.out; have OtT := Lib.hid hown; have OtK := Lib.hid hown2; clear hown hown2 hap hb) | (go_at_call 50; refine (eqNet_any AxT AxK AtT AtK nT cxT nK cxK ctT ctK T K w10 (by omega) (by omega) ((Reads.of_own OxT_9.out).below B9'.out) ((Reads.of_own OxK_9.out).below B9'.out) (Reads.of_own OtT.out) (Reads.of_own OtK.out)).mono ?_; rintro e w11 ⟨rfl, hb⟩; have hb2 : Below w9.heap.size w9 w11 := B9'.out.trans (hb.mono B9'.out.size); have hS2 := HKEEP.out _ hb2))
  have hb := hb2
  clear hb2 hS2 hS1
  clear ka kb xa xb
  obtain ⟨w12, rfl⟩ : ∃ x, x = w11 := ⟨_, rfl⟩
  have B9 := Lib.hid hb; clear hb
  have Z9 := Lib.hid (B9.out.size)
  have BB12 := Lib.hid (BB9.out.trans (B9.out.mono BB9.out.size))
  have HX_12 := Lib.hid (HX_9.out.bel B9.out)
  have Ow_12 := Lib.hid (own_below Ow_9.out B9.out)
  have OxT_12 := Lib.hid (own_below OxT_9.out B9.out)
  have OxK_12 := Lib.hid (own_below OxK_9.out B9.out)
  have OxB_12 := Lib.hid (OxB_9.out.below B9.out (by have := Z7.out; have := Z8.out; omega))
  have Og_12 := Lib.hid (own_below Og_9.out B9.out)
  have Z10 : Hid (w12.heap.size ≤ w12.heap.size) := Lib.hid (Nat.le_refl _); have Z11 := Z10
  obtain ⟨ka, kb⟩ := KB.out w12 BB12.out
  obtain ⟨xa, xb⟩ := HX_12.out.cells
  go_wp2_with fail
  clear ka kb xa xb
  refine (toBoolSS_any A1 n1 c1 xs1 w12 (by omega) HLX1.out (HR1.out.below BB12.out)).mono ?_
  rintro e w13 ⟨AtB, ctB, hstB, rfl, hown, hb⟩
  have OtB_13 := Lib.hid hown; clear hown
  have B12 := Lib.hid hb; clear hb
  have Z12 := Lib.hid (B12.out.size)
  have BB13 := Lib.hid (BB12.out.trans (B12.out.mono BB12.out.size))
  have HX_13 := Lib.hid (HX_12.out.bel B12.out)
  have Ow_13 := Lib.hid (own_below Ow_12.out B12.out)
  have OxT_13 := Lib.hid (own_below OxT_12.out B12.out)
  have OxK_13 := Lib.hid (own_below OxK_12.out B12.out)
  have OxB_13 := Lib.hid (OxB_12.out.below B12.out (by have := Z7.out; have := Z8.out; have := Z9.out; have := Z10.out; have := Z11.out; omega))
  have Og_13 := Lib.hid (own_below Og_12.out B12.out)
  obtain ⟨ka, kb⟩ := KB.out w13 BB13.out
  obtain ⟨xa, xb⟩ := HX_13.out.cells
  go_wp2_with fail
  clear ka kb xa xb
  refine (eqBoolSS_any AxB AtB n1 cxB ctB xs1 w13 (by omega) HLX1.out (Reads2.of_own OxB_13.out) (Reads2.of_own OtB_13.out)).mono ?_
  rintro e w14 ⟨rfl, hb⟩
  have B13 := Lib.hid hb; clear hb
  have Z13 := Lib.hid (B13.out.size)
  have BB14 := Lib.hid (BB13.out.trans (B13.out.mono BB13.out.size))
  have HX_14 := Lib.hid (HX_13.out.bel B13.out)
  have Ow_14 := Lib.hid (own_below Ow_13.out B13.out)
  have OxT_14 := Lib.hid (own_below OxT_13.out B13.out)
  have OxK_14 := Lib.hid (own_below OxK_13.out B13.out)
  have OxB_14 := Lib.hid (OxB_13.out.below B13.out (by have := Z7.out; have := Z8.out; have := Z9.out; have := Z10.out; have := Z11.out; have := Z12.out; omega))
  have Og_14 := Lib.hid (own_below Og_13.out B13.out)
  have OtB_14 := Lib.hid (OtB_13.out.below B13.out (Nat.le_refl _))
  obtain ⟨ka, kb⟩ := KB.out w14 BB14.out
  obtain ⟨xa, xb⟩ := HX_14.out.cells
  go_wp2_with fail
  clear ka kb xa xb
  refine (markNet_any AxT AxK nT cxT nK cxK 1 w4.heap.size w5.heap.size _ _ _ _ w14 (by omega) (by omega) (by omega) OxT_14.out OxK_14.out (Nat.le_refl _) (Nat.le_refl _) (by have := Z5.out; have := Z6.out; have := Z7.out; have := Z8.out; have := Z9.out; have := Z10.out; have := Z11.out; have := Z12.out; have := Z13.out; omega) LxT.out LxK.out HAPx.out).mono ?_
  rintro e w15 ⟨rfl, hT⟩
  have T14 := Lib.hid hT; clear hT
  have Z14 := Lib.hid T14.out.size
  have BB15 := Lib.hid (below_turned BB14.out T14.out (by have := BB4.out.size; omega) BB14.out.size)
  have Ow_15 := Lib.hid (row_turned_after Ow_14.out T14.out Lw.out (Nat.le_refl _))
  have OxB_15 := Lib.hid (Own2.turned_before OxB_14.out T14.out (by have := Z7.out; have := Z8.out; have := Z9.out; have := Z10.out; have := Z11.out; have := Z12.out; have := Z13.out; omega) (by have := Z5.out; omega))
  have Og_15 := Lib.hid (row_turned_before Og_14.out T14.out (by have := Z5.out; have := Z6.out; omega))
  obtain ⟨ka, kb⟩ := KB.out w15 BB15.out
  go_wp2_with fail
  clear ka kb
  refine (markBoolSS_any AxB n1 cxB (1 + nT * 3 + nK * 3) w6.heap.size w7.heap.size (xs1.map bools) hsxB w15 (by have := HS_1.out; omega) (by have := HS_1.out; omega) (by have := Z7.out; have := Z8.out; have := Z9.out; have := Z10.out; have := Z11.out; have := Z12.out; have := Z13.out; have := Z14.out; omega) OxB_15.out).mono ?_
  rintro e w16 ⟨rfl, hown, hT⟩
  clear hown
  have T15 := Lib.hid hT; clear hT
  have Z15 := Lib.hid T15.out.size
  have BB16 := Lib.hid (below_turned BB15.out T15.out (by have := BB6.out.size; omega) BB15.out.size)
  have Ow_16 := Lib.hid (row_turned_after Ow_15.out T15.out Lw.out (by have := Z4.out; have := Z5.out; omega))
  have Og_16 := Lib.hid (row_turned_before Og_15.out T15.out (Nat.le_refl _))
  obtain ⟨ka, kb⟩ := KB.out w16 BB16.out
  go_wp2_with fail
  clear ka kb
  refine (eqFogS_any Ag Aw (fogsR T K xs1).1.length cg cw (fogsR T K xs1).1 w16 (by have := fogsR_len T K xs1; omega) (Reads.of_own Og_16.out) (Reads.of_own Ow_16.out)).mono ?_
  rintro e w17 ⟨rfl, hb⟩
  have B16 := Lib.hid hb; clear hb
  have Z16 := Lib.hid (B16.out.size)
  have BB17 := Lib.hid (BB16.out.trans (B16.out.mono BB16.out.size))
  have Ow_17 := Lib.hid (own_below Ow_16.out B16.out)
  have Og_17 := Lib.hid (own_below Og_16.out B16.out)
  obtain ⟨ka, kb⟩ := KB.out w17 BB17.out
  go_wp2_with fail
  clear ka kb
  refine (markFogS_any Ag (fogsR T K xs1).1.length cg 1 _ _ w17 (by have := fogsR_len T K xs1; omega) Og_17.out).mono ?_
  rintro e w18 ⟨rfl, hown, hg⟩
  have hT := Turned.of_mark hg Og_17.out Lg.out; clear hg
  have Og_18 := Lib.hid hown; clear hown
  have T17 := Lib.hid hT; clear hT
  have Z17 := Lib.hid T17.out.size
  have BB18 := Lib.hid (below_turned BB17.out T17.out (by have := BB7.out.size; omega) BB17.out.size)
  have Ow_18 := Lib.hid (row_turned_after Ow_17.out T17.out Lw.out (by have := Z4.out; have := Z5.out; have := Z6.out; omega))
  obtain ⟨ka, kb⟩ := KB.out w18 BB18.out
  go_wp2_with fail
  clear ka kb
  refine (heldFogS_any Ag (fogsR T K xs1).1.length cg 1 w18 (by have := fogsR_len T K xs1; omega) (Reads.of_own Og_18.out)).mono ?_
  rintro e wq ⟨rfl, hb⟩
  subst hb
  obtain ⟨ka, kb⟩ := KB.out w18 BB18.out
  go_wp2_with fail
  clear ka kb
  refine (toNet_any At Ak nT cT nK cK T K w18 (by omega) (by omega) (HRT.out.below BB18.out) (HRK.out.below BB18.out)).mono ?_
  rintro e w19 ⟨AyT, cyT, AyK, cyK, rfl, hown, hown2, hap, hb⟩
  have OyT_19 := Lib.hid hown; have OyK_19 := Lib.hid hown2; have HAPy := Lib.hid hap; clear hown hown2 hap
  have LyT := Lib.hid (own_lt OyT_19.out); have LyK := Lib.hid (own_lt OyK_19.out)
  have B18 := Lib.hid hb; clear hb
  have Z18 := Lib.hid (B18.out.size)
  have BB19 := Lib.hid (BB18.out.trans (B18.out.mono BB18.out.size))
  have Ow_19 := Lib.hid (own_below Ow_18.out B18.out)
  have Og_19 := Lib.hid (own_below Og_18.out B18.out)
  obtain ⟨ka, kb⟩ := KB.out w19 BB19.out
  go_wp2_with fail
  clear ka kb
  refine (toBoolSS_any A1 n1 c1 xs1 w19 (by omega) HLX1.out (HR1.out.below BB19.out)).mono ?_
  rintro e w20 ⟨AyB, cyB, hsyB, rfl, hown, hb⟩
  have OyB_20 := Lib.hid hown; clear hown
  have B19 := Lib.hid hb; clear hb
  have Z19 := Lib.hid (B19.out.size)
  have BB20 := Lib.hid (BB19.out.trans (B19.out.mono BB19.out.size))
  have Ow_20 := Lib.hid (own_below Ow_19.out B19.out)
  have Og_20 := Lib.hid (own_below Og_19.out B19.out)
  have OyT_20 := Lib.hid (own_below OyT_19.out B19.out)
  have OyK_20 := Lib.hid (own_below OyK_19.out B19.out)
  obtain ⟨ka, kb⟩ := KB.out w20 BB20.out
  go_wp2_with fail
  clear ka kb
  refine (implFogsBySlots_any AyT AyK AyB nT cyT nK cyK n1 cyB T K xs1 w20 (by omega) (by omega) (by omega) HLX1.out (Reads.of_own OyT_20.out) (Reads.of_own OyK_20.out) (Reads2.of_own OyB_20.out)).mono ?_
  rintro e w21 ⟨Ah, ch, rfl, hown, hb⟩
  have Oh_21 := Lib.hid hown; clear hown
  have Lh := Lib.hid (own_lt Oh_21.out)
  have B20 := Lib.hid hb; clear hb
  have Z20 := Lib.hid (B20.out.size)
  have BB21 := Lib.hid (BB20.out.trans (B20.out.mono BB20.out.size))
  have Ow_21 := Lib.hid (own_below Ow_20.out B20.out)
  have Og_21 := Lib.hid (own_below Og_20.out B20.out)
  have OyT_21 := Lib.hid (own_below OyT_20.out B20.out)
  have OyK_21 := Lib.hid (own_below OyK_20.out B20.out)
  have OyB_21 := Lib.hid (OyB_20.out.below B20.out (Nat.le_refl _))
  obtain ⟨ka, kb⟩ := KB.out w21 BB21.out
  go_wp2_with fail
  clear ka kb
  refine (eqFogS_any Ah Aw (fogsR T K xs1).1.length ch cw (fogsR T K xs1).1 w21 (by have := fogsR_len T K xs1; omega) (Reads.of_own Oh_21.out) (Reads.of_own Ow_21.out)).mono ?_
  rintro e w22 ⟨rfl, hb⟩
  have B21 := Lib.hid hb; clear hb
  have Z21 := Lib.hid (B21.out.size)
  have BB22 := Lib.hid (BB21.out.trans (B21.out.mono BB21.out.size))
  have Ow_22 := Lib.hid (own_below Ow_21.out B21.out)
  have Og_22 := Lib.hid (own_below Og_21.out B21.out)
  have Oh_22 := Lib.hid (own_below Oh_21.out B21.out)
  obtain ⟨ka, kb⟩ := KB.out w22 BB22.out
  go_wp2_with fail
  clear ka kb
  refine (heldFogS_any Ag (fogsR T K xs1).1.length cg 1 w22 (by have := fogsR_len T K xs1; omega) (Reads.of_own Og_22.out)).mono ?_
  rintro e wq ⟨rfl, hb⟩
  subst hb
  go_wp2_with fail
  go_ret
  exact ⟨rfl, HZ.out _ BB22.out⟩

end Go.Proofs.Ythpfgmnhpnfopaa
