/- The law over FogsByKey of both packages. No conditions. -/
import Derived.Test.YthpfgmnhpnfopaaFgK
import Derived.Test.YthpfgmnhpnfopaaNetH
import Derived.Test.YthpfgmnhpnfopaaIsN
import Derived.Deep.RegionHeld3
namespace Go.Proofs.Ythpfgmnhpnfopaa
set_option linter.unusedSimpArgs false
set_option linter.unusedVariables false
open Go.RowKit

theorem reads_drew1 {w : World} {k n : Nat} {A : Option Addr} {xs : List Value} (h : Reads w k A n xs) : Reads w.drew k A n xs := h
set_option maxHeartbeats 8000000 in
set_option maxRecDepth 100000 in
theorem law_FnExactFogsByKey (w : World) {v0 v1 v2 : Value} (h0 : IsNet w v0) (h1 : IsInt v1) (h2 : IsInt v2) :
    Calls Try.prog 12 #[v0, v1, v2] w fun e w' => e = .returned (.bool true) ∧ Below w.heap.size w w' := by
  obtain ⟨At, nT, cT, Ak, nK, cK, T, K, rfl, hct1, hct2, hck1, hck2, hrt, hrk⟩ := h0
  obtain ⟨a1, rfl, _⟩ := h1
  obtain ⟨a2, rfl, _⟩ := h2
  have HB0 : Hid (Below w.heap.size w (w.alloc (.cells #[.slice At nT cT, .slice Ak nK cK] 60))) := Lib.hid ((Below.refl _ _).alloc (Nat.le_refl _) _)
  have HRT := Lib.hid (hrt.alloc (.cells #[.slice At nT cT, .slice Ak nK cK] 60)); have HRK := Lib.hid (hrk.alloc (.cells #[.slice At nT cT, .slice Ak nK cK] 60)); clear hrt hrk
  have KB : Hid (∀ W, Below (w.alloc (.cells #[.slice At nT cT, .slice Ak nK cK] 60)).heap.size (w.alloc (.cells #[.slice At nT cT, .slice Ak nK cK] 60)) W → W.cell? ⟨w.heap.size, 0, none⟩ = some (.slice At nT cT) ∧ W.cell? ⟨w.heap.size, 1, none⟩ = some (.slice Ak nK cK)) := Lib.hid (fun W hW => ⟨(hW.cell (by simp)).trans (by simp), (hW.cell (by simp)).trans (by simp)⟩)
  have HZ : Hid (∀ W, Below (w.alloc (.cells #[.slice At nT cT, .slice Ak nK cK] 60)).heap.size (w.alloc (.cells #[.slice At nT cT, .slice Ak nK cK] 60)) W → Below w.heap.size w W) := Lib.hid (fun W hW => HB0.out.trans (hW.mono HB0.out.size))
  by_cases hz0 : nT + nK ≤ 1048576
  rotate_left
  · go_enter Try.func12, Try.ntmps12
    go_wp2_with fail
    refine (szNet_bigI At Ak nT cT nK cK 1048576 _ (by omega) (by omega) (by omega) (by omega) (by omega)).mono ?_
    rintro e w1 ⟨rfl, hb⟩
    go_wp2
    go_ret
    exact ⟨rfl, HZ.out _ hb⟩
  go_enter Try.func12, Try.ntmps12
  go_wp2_with fail
  refine (szNet_okI At Ak nT cT nK cK 1048576 _ (by omega) (by omega) (by omega)).mono ?_
  rintro e w1 ⟨rfl, hb⟩
  have BB1 := Lib.hid hb; clear hb
  obtain ⟨ka, kb⟩ := KB.out w1 BB1.out
  go_wp2_with fail
  clear ka kb
  refine (toNet_any At Ak nT cT nK cK T K w1 (by omega) (by omega) (HRT.out.below BB1.out) (HRK.out.below BB1.out)).mono ?_
  rintro e w2 ⟨AsT, csT, AsK, csK, rfl, hown, hown2, hap, hb⟩
  have OsT_2 := Lib.hid hown; have OsK_2 := Lib.hid hown2; have HAPs := Lib.hid hap; clear hown hown2 hap
  have LsT := Lib.hid (own_lt OsT_2.out); have LsK := Lib.hid (own_lt OsK_2.out)
  have B1 := Lib.hid hb; clear hb
  have Z1 := Lib.hid (B1.out.size)
  have BB2 := Lib.hid (BB1.out.trans (B1.out.mono BB1.out.size))
  obtain ⟨ka, kb⟩ := KB.out w2 BB2.out
  go_wp2_with fail
  clear ka kb
  refine (specFogsByKey_any AsT AsK nT csT nK csK T K a1 a2 w2 (by omega) (by omega) (Reads.of_own OsT_2.out) (Reads.of_own OsK_2.out)).mono ?_
  rintro e w3 ⟨Aw, cw, rfl, hown, hb⟩
  have Ow_3 := Lib.hid hown; clear hown
  have Lw := Lib.hid (own_lt Ow_3.out)
  have B2 := Lib.hid hb; clear hb
  have Z2 := Lib.hid (B2.out.size)
  have BB3 := Lib.hid (BB2.out.trans (B2.out.mono BB2.out.size))
  have OsT_3 := Lib.hid (own_below OsT_2.out B2.out)
  have OsK_3 := Lib.hid (own_below OsK_2.out B2.out)
  obtain ⟨ka, kb⟩ := KB.out w3 BB3.out
  go_wp2_with fail
  clear ka kb
  refine (toNet_any At Ak nT cT nK cK T K w3 (by omega) (by omega) (HRT.out.below BB3.out) (HRK.out.below BB3.out)).mono ?_
  rintro e w4 ⟨AxT, cxT, AxK, cxK, rfl, hown, hown2, hap, hb⟩
  have OxT_4 := Lib.hid hown; have OxK_4 := Lib.hid hown2; have HAPx := Lib.hid hap; clear hown hown2 hap
  have LxT := Lib.hid (own_lt OxT_4.out); have LxK := Lib.hid (own_lt OxK_4.out)
  have B3 := Lib.hid hb; clear hb
  have Z3 := Lib.hid (B3.out.size)
  have BB4 := Lib.hid (BB3.out.trans (B3.out.mono BB3.out.size))
  have Ow_4 := Lib.hid (own_below Ow_3.out B3.out)
  obtain ⟨ka, kb⟩ := KB.out w4 BB4.out
  go_wp2_with fail
  clear ka kb
  have hb : Below w4.heap.size w4 (w4.alloc (.cells #[.slice AxT nT cxT, .slice AxK nK cxK] 68)) := (Below.refl _ _).alloc (Nat.le_refl _) _
  have hx := Box2.new w4 68 (.slice AxT nT cxT) (.slice AxK nK cxK)
  obtain ⟨gx, hgx⟩ : ∃ gx, gx = w4.heap.size := ⟨_, rfl⟩
  have HGX := Lib.hid hgx
  obtain ⟨w5, hw⟩ : ∃ x, x = w4.alloc (.cells #[.slice AxT nT cxT, .slice AxK nK cxK] 68) := ⟨_, rfl⟩
  rw [← hw] at hb hx
  rw [← hw]
  rw [← hgx] at hx
  try rw [← hgx]
  clear hw hgx
  have B4 := Lib.hid hb; clear hb
  have Z4 := Lib.hid (B4.out.size)
  have BB5 := Lib.hid (BB4.out.trans (B4.out.mono BB4.out.size))
  have Ow_5 := Lib.hid (own_below Ow_4.out B4.out)
  have OxT_5 := Lib.hid (own_below OxT_4.out B4.out)
  have OxK_5 := Lib.hid (own_below OxK_4.out B4.out)
  have HX_5 := Lib.hid hx; clear hx
  refine (implFogsByKey_any AxT AxK nT cxT nK cxK T K a1 a2 w5 (by omega) (by omega) (Reads.of_own OxT_5.out) (Reads.of_own OxK_5.out)).mono ?_
  rintro e w6 ⟨Ag, cg, rfl, hown, hb⟩
  have Og_6 := Lib.hid hown; clear hown
  have Lg := Lib.hid (own_lt Og_6.out)
  have B5 := Lib.hid hb; clear hb
  have Z5 := Lib.hid (B5.out.size)
  have BB6 := Lib.hid (BB5.out.trans (B5.out.mono BB5.out.size))
  have HX_6 := Lib.hid (HX_5.out.bel B5.out)
  have Ow_6 := Lib.hid (own_below Ow_5.out B5.out)
  have OxT_6 := Lib.hid (own_below OxT_5.out B5.out)
  have OxK_6 := Lib.hid (own_below OxK_5.out B5.out)
  obtain ⟨ka, kb⟩ := KB.out w6 BB6.out
  obtain ⟨xa, xb⟩ := HX_6.out.cells
  go_wp2_with fail
  clear ka kb xa xb
  refine (eqFogS_any Ag Aw (fogsK T K a1 a2).1.length cg cw (fogsK T K a1 a2).1 w6 (by have := fogsK_len T K a1 a2; omega) (Reads.of_own Og_6.out) (Reads.of_own Ow_6.out)).mono ?_
  rintro e w7 ⟨rfl, hb⟩
  have B6 := Lib.hid hb; clear hb
  have Z6 := Lib.hid (B6.out.size)
  have BB7 := Lib.hid (BB6.out.trans (B6.out.mono BB6.out.size))
  have HX_7 := Lib.hid (HX_6.out.bel B6.out)
  have Ow_7 := Lib.hid (own_below Ow_6.out B6.out)
  have OxT_7 := Lib.hid (own_below OxT_6.out B6.out)
  have OxK_7 := Lib.hid (own_below OxK_6.out B6.out)
  have Og_7 := Lib.hid (own_below Og_6.out B6.out)
  obtain ⟨ka, kb⟩ := KB.out w7 BB7.out
  obtain ⟨xa, xb⟩ := HX_7.out.cells
  go_wp2
  have hkeep : ∀ W, Below w7.heap.size w7 W → W.cell? ⟨gx, 0, none⟩ = some (.slice AxT nT cxT) ∧ W.cell? ⟨gx, 1, none⟩ = some (.slice AxK nK cxK) ∧ W.cell? ⟨w.heap.size, 0, none⟩ = some (.slice At nT cT) ∧ W.cell? ⟨w.heap.size, 1, none⟩ = some (.slice Ak nK cK) := fun W hW => ⟨(hW.cell (World.block_lt_of_cell? _ _ xa)).trans xa, (hW.cell (World.block_lt_of_cell? _ _ xb)).trans xb, (hW.cell (World.block_lt_of_cell? _ _ ka)).trans ka, (hW.cell (World.block_lt_of_cell? _ _ kb)).trans kb⟩
  have HKEEP := Lib.hid hkeep; clear hkeep
  go_region_held3 (fun W => W.cell? ⟨gx, 0, none⟩ = some (.slice AxT nT cxT) ∧ W.cell? ⟨gx, 1, none⟩ = some (.slice AxK nK cxK) ∧ W.cell? ⟨w.heap.size, 0, none⟩ = some (.slice At nT cT) ∧ W.cell? ⟨w.heap.size, 1, none⟩ = some (.slice Ak nK cK)) (first | exact HKEEP.out _ (by first | exact (Below.refl _ _).drew | exact hb2 | exact B7'.out | assumption) | fail) (first | (go_at_call 47; refine (toNet_any At Ak nT cT nK cK T K w7.drew (by omega) (by omega) (reads_drew1 (HRT.out.below BB7.out)) (reads_drew1 (HRK.out.below BB7.out))).mono ?_; rintro e w8 ⟨AtT, ctT, AtK, ctK, rfl, hown, hown2, hap, hb⟩; have B7' := Lib.hid ((Below.refl w7.heap.size w7).drew.trans hb); have hS1 := HKEEP.out _ B7'.out; have OtT := Lib.hid hown; have OtK := Lib.hid hown2; clear hown hown2 hap hb) | (go_at_call 50; refine (eqNet_any AxT AxK AtT AtK nT cxT nK cxK ctT ctK T K w8 (by omega) (by omega) ((Reads.of_own OxT_7.out).below B7'.out) ((Reads.of_own OxK_7.out).below B7'.out) (Reads.of_own OtT.out) (Reads.of_own OtK.out)).mono ?_; rintro e w9 ⟨rfl, hb⟩; have hb2 : Below w7.heap.size w7 w9 := B7'.out.trans (hb.mono B7'.out.size); have hS2 := HKEEP.out _ hb2))
  have hb := hb2
  clear hb2 hS2 hS1
  clear ka kb xa xb
  obtain ⟨w10, rfl⟩ : ∃ x, x = w9 := ⟨_, rfl⟩
  have B7 := Lib.hid hb; clear hb
  have Z7 := Lib.hid (B7.out.size)
  have BB10 := Lib.hid (BB7.out.trans (B7.out.mono BB7.out.size))
  have HX_10 := Lib.hid (HX_7.out.bel B7.out)
  have Ow_10 := Lib.hid (own_below Ow_7.out B7.out)
  have OxT_10 := Lib.hid (own_below OxT_7.out B7.out)
  have OxK_10 := Lib.hid (own_below OxK_7.out B7.out)
  have Og_10 := Lib.hid (own_below Og_7.out B7.out)
  have Z8 : Hid (w10.heap.size ≤ w10.heap.size) := Lib.hid (Nat.le_refl _); have Z9 := Z8
  obtain ⟨ka, kb⟩ := KB.out w10 BB10.out
  obtain ⟨xa, xb⟩ := HX_10.out.cells
  go_wp2_with fail
  clear ka kb xa xb
  refine (markNet_any AxT AxK nT cxT nK cxK 1 w3.heap.size w4.heap.size _ _ _ _ w10 (by omega) (by omega) (by omega) OxT_10.out OxK_10.out (Nat.le_refl _) (Nat.le_refl _) (by have := Z4.out; have := Z5.out; have := Z6.out; have := Z7.out; have := Z8.out; have := Z9.out; omega) LxT.out LxK.out HAPx.out).mono ?_
  rintro e w11 ⟨rfl, hT⟩
  have T10 := Lib.hid hT; clear hT
  have Z10 := Lib.hid T10.out.size
  have BB11 := Lib.hid (below_turned BB10.out T10.out (by have := BB3.out.size; omega) BB10.out.size)
  have Ow_11 := Lib.hid (row_turned_after Ow_10.out T10.out Lw.out (Nat.le_refl _))
  have Og_11 := Lib.hid (row_turned_before Og_10.out T10.out (by have := Z4.out; omega))
  obtain ⟨ka, kb⟩ := KB.out w11 BB11.out
  go_wp2_with fail
  clear ka kb
  refine (eqFogS_any Ag Aw (fogsK T K a1 a2).1.length cg cw (fogsK T K a1 a2).1 w11 (by have := fogsK_len T K a1 a2; omega) (Reads.of_own Og_11.out) (Reads.of_own Ow_11.out)).mono ?_
  rintro e w12 ⟨rfl, hb⟩
  have B11 := Lib.hid hb; clear hb
  have Z11 := Lib.hid (B11.out.size)
  have BB12 := Lib.hid (BB11.out.trans (B11.out.mono BB11.out.size))
  have Ow_12 := Lib.hid (own_below Ow_11.out B11.out)
  have Og_12 := Lib.hid (own_below Og_11.out B11.out)
  obtain ⟨ka, kb⟩ := KB.out w12 BB12.out
  go_wp2_with fail
  clear ka kb
  refine (markFogS_any Ag (fogsK T K a1 a2).1.length cg 1 _ _ w12 (by have := fogsK_len T K a1 a2; omega) Og_12.out).mono ?_
  rintro e w13 ⟨rfl, hown, hg⟩
  have hT := Turned.of_mark hg Og_12.out Lg.out; clear hg
  have Og_13 := Lib.hid hown; clear hown
  have T12 := Lib.hid hT; clear hT
  have Z12 := Lib.hid T12.out.size
  have BB13 := Lib.hid (below_turned BB12.out T12.out (by have := BB5.out.size; omega) BB12.out.size)
  have Ow_13 := Lib.hid (row_turned_after Ow_12.out T12.out Lw.out (by have := Z3.out; have := Z4.out; omega))
  obtain ⟨ka, kb⟩ := KB.out w13 BB13.out
  go_wp2_with fail
  clear ka kb
  refine (heldFogS_any Ag (fogsK T K a1 a2).1.length cg 1 w13 (by have := fogsK_len T K a1 a2; omega) (Reads.of_own Og_13.out)).mono ?_
  rintro e wq ⟨rfl, hb⟩
  subst hb
  obtain ⟨ka, kb⟩ := KB.out w13 BB13.out
  go_wp2_with fail
  clear ka kb
  refine (toNet_any At Ak nT cT nK cK T K w13 (by omega) (by omega) (HRT.out.below BB13.out) (HRK.out.below BB13.out)).mono ?_
  rintro e w14 ⟨AyT, cyT, AyK, cyK, rfl, hown, hown2, hap, hb⟩
  have OyT_14 := Lib.hid hown; have OyK_14 := Lib.hid hown2; have HAPy := Lib.hid hap; clear hown hown2 hap
  have LyT := Lib.hid (own_lt OyT_14.out); have LyK := Lib.hid (own_lt OyK_14.out)
  have B13 := Lib.hid hb; clear hb
  have Z13 := Lib.hid (B13.out.size)
  have BB14 := Lib.hid (BB13.out.trans (B13.out.mono BB13.out.size))
  have Ow_14 := Lib.hid (own_below Ow_13.out B13.out)
  have Og_14 := Lib.hid (own_below Og_13.out B13.out)
  obtain ⟨ka, kb⟩ := KB.out w14 BB14.out
  go_wp2_with fail
  clear ka kb
  refine (implFogsByKey_any AyT AyK nT cyT nK cyK T K a1 a2 w14 (by omega) (by omega) (Reads.of_own OyT_14.out) (Reads.of_own OyK_14.out)).mono ?_
  rintro e w15 ⟨Ah, ch, rfl, hown, hb⟩
  have Oh_15 := Lib.hid hown; clear hown
  have Lh := Lib.hid (own_lt Oh_15.out)
  have B14 := Lib.hid hb; clear hb
  have Z14 := Lib.hid (B14.out.size)
  have BB15 := Lib.hid (BB14.out.trans (B14.out.mono BB14.out.size))
  have Ow_15 := Lib.hid (own_below Ow_14.out B14.out)
  have Og_15 := Lib.hid (own_below Og_14.out B14.out)
  have OyT_15 := Lib.hid (own_below OyT_14.out B14.out)
  have OyK_15 := Lib.hid (own_below OyK_14.out B14.out)
  obtain ⟨ka, kb⟩ := KB.out w15 BB15.out
  go_wp2_with fail
  clear ka kb
  refine (eqFogS_any Ah Aw (fogsK T K a1 a2).1.length ch cw (fogsK T K a1 a2).1 w15 (by have := fogsK_len T K a1 a2; omega) (Reads.of_own Oh_15.out) (Reads.of_own Ow_15.out)).mono ?_
  rintro e w16 ⟨rfl, hb⟩
  have B15 := Lib.hid hb; clear hb
  have Z15 := Lib.hid (B15.out.size)
  have BB16 := Lib.hid (BB15.out.trans (B15.out.mono BB15.out.size))
  have Ow_16 := Lib.hid (own_below Ow_15.out B15.out)
  have Og_16 := Lib.hid (own_below Og_15.out B15.out)
  have Oh_16 := Lib.hid (own_below Oh_15.out B15.out)
  obtain ⟨ka, kb⟩ := KB.out w16 BB16.out
  go_wp2_with fail
  clear ka kb
  refine (heldFogS_any Ag (fogsK T K a1 a2).1.length cg 1 w16 (by have := fogsK_len T K a1 a2; omega) (Reads.of_own Og_16.out)).mono ?_
  rintro e wq ⟨rfl, hb⟩
  subst hb
  go_wp2_with fail
  go_ret
  exact ⟨rfl, HZ.out _ BB16.out⟩

end Go.Proofs.Ythpfgmnhpnfopaa
