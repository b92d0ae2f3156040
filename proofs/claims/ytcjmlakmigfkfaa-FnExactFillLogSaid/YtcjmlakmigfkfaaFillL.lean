/- The law FnExactFillLog. No conditions. -/
import Derived.Test.YtcjmlakmigfkfaaFill
import Derived.Test.YtcjmlakmigfkfaaLogR
namespace Go.Proofs.Ytcjmlakmigfkfaa
set_option linter.unusedSimpArgs false
set_option linter.unusedVariables false
open Go.RowKit

theorem fillR_good (R L M : List EntryT) (a b : Int) : (fillR R L M a b).1 = [] ∨ goodE (fillR R L M a b).1 = true := by
  unfold fillR joinLR
  split
  · split
    · split
      · next h => exact .inr h
      · exact .inl rfl
    · exact .inl rfl
  · exact .inl rfl
theorem fillR_len (R L M : List EntryT) (a b : Int) : (fillR R L M a b).1.length ≤ 30 := by
  rcases fillR_good R L M a b with h | h
  · rw [h]; simp
  · exact (goodE_all h).2
theorem fillR_all (R L M : List EntryT) (a b : Int) : ∀ x ∈ (fillR R L M a b).1, x.2.2.2.1.length ≤ 8 ∧ x.2.2.2.2.length ≤ 8 := by
  rcases fillR_good R L M a b with h | h
  · rw [h]; simp
  · exact fun x hx => entB_len ((goodE_all h).1 x hx)
theorem fillR_lenE (R L M : List EntryT) (a b : Int) : ∀ x ∈ (fillR R L M a b).1, lenE 1000000000 x := by
  intro x hx
  have := fillR_all R L M a b x hx
  unfold lenE
  omega
theorem fillR_mE (R L M : List EntryT) (a b : Int) : mE (fillR R L M a b).1 ≤ 1000 := by
  have h1 := fillR_len R L M a b
  have h2 := totE_short (fillR_all R L M a b)
  unfold mE
  omega
set_option maxHeartbeats 4000000 in
set_option maxRecDepth 100000 in
theorem law_FnExactFillLog (w : World) {v0 v1 v2 v3 v4 : Value} (h0 : IsEntries w v0) (h1 : IsEntries w v1) (h2 : IsEntries w v2) (h3 : IsInt v3) (h4 : IsInt v4) :
    Calls Try.prog 6 #[v0, v1, v2, v3, v4] w fun e w' => e = .returned (.bool true) ∧ Below w.heap.size w w' := by
  obtain ⟨A0, n0, c0, xs0, rfl, hnc0, hcm0, hlx0, hr0, hin0⟩ := h0
  obtain ⟨A1, n1, c1, xs1, rfl, hnc1, hcm1, hlx1, hr1, hin1⟩ := h1
  obtain ⟨A2, n2, c2, xs2, rfl, hnc2, hcm2, hlx2, hr2, hin2⟩ := h2
  obtain ⟨a3, rfl, _⟩ := h3
  obtain ⟨a4, rfl, _⟩ := h4
  have HR0 := Lib.hid (hr0); clear hr0
  have HR1 := Lib.hid (hr1); clear hr1
  have HR2 := Lib.hid (hr2); clear hr2
  have HIN0 := Lib.hid hin0; clear hin0
  obtain ⟨s0, hs0⟩ : ∃ s, s = n0 + totE xs0 := ⟨_, rfl⟩
  have HS_0 := Lib.hid hs0
  have HIN1 := Lib.hid hin1; clear hin1
  obtain ⟨s1, hs1⟩ : ∃ s, s = n1 + totE xs1 := ⟨_, rfl⟩
  have HS_1 := Lib.hid hs1
  have HIN2 := Lib.hid hin2; clear hin2
  obtain ⟨s2, hs2⟩ : ∃ s, s = n2 + totE xs2 := ⟨_, rfl⟩
  have HS_2 := Lib.hid hs2
  have HSZ : Hid (Below w.heap.size w w) := Lib.hid (Below.refl _ _)
  have hs0' : n0 ≤ s0 := by omega
  clear hs0
  have hs1' : n1 ≤ s1 := by omega
  clear hs1
  have hs2' : n2 ≤ s2 := by omega
  clear hs2
  by_cases hz0 : s0 ≤ 1048576
  rotate_left
  · go_enter Try.func6, Try.ntmps6
    go_wp2_with fail
    refine (szEntryS_bigI A0 n0 c0 xs0 _ s0 _ (by omega) (by omega) (by omega) (by omega) HS_0.out (fun x hx => (HIN0.out x hx).1) (HR0.out.below HSZ.out)).mono ?_
    rintro e wz ⟨rfl, hb⟩
    have HSZ := Lib.hid (HSZ.out.trans (hb.mono HSZ.out.size)); clear hb
    go_wp2_with fail
    go_ret
    exact ⟨rfl, HSZ.out⟩
  by_cases hz1 : s0 + s1 ≤ 1048576
  rotate_left
  · go_enter Try.func6, Try.ntmps6
    go_wp2_with fail
    refine (szEntryS_okI A0 n0 c0 xs0 _ s0 _ (by omega) (by omega) (by omega) (by omega) HS_0.out (fun x hx => (HIN0.out x hx).1) (HR0.out.below HSZ.out)).mono ?_
    rintro e wz ⟨rfl, hb⟩
    have HSZ := Lib.hid (HSZ.out.trans (hb.mono HSZ.out.size)); clear hb
    go_wp2_with fail
    refine (szEntryS_bigI A1 n1 c1 xs1 _ s1 _ (by omega) (by omega) (by omega) (by omega) HS_1.out (fun x hx => (HIN1.out x hx).1) (HR1.out.below HSZ.out)).mono ?_
    rintro e wz ⟨rfl, hb⟩
    have HSZ := Lib.hid (HSZ.out.trans (hb.mono HSZ.out.size)); clear hb
    go_wp2_with fail
    go_ret
    exact ⟨rfl, HSZ.out⟩
  by_cases hz2 : s0 + s1 + s2 ≤ 1048576
  rotate_left
  · go_enter Try.func6, Try.ntmps6
    go_wp2_with fail
    refine (szEntryS_okI A0 n0 c0 xs0 _ s0 _ (by omega) (by omega) (by omega) (by omega) HS_0.out (fun x hx => (HIN0.out x hx).1) (HR0.out.below HSZ.out)).mono ?_
    rintro e wz ⟨rfl, hb⟩
    have HSZ := Lib.hid (HSZ.out.trans (hb.mono HSZ.out.size)); clear hb
    go_wp2_with fail
    refine (szEntryS_okI A1 n1 c1 xs1 _ s1 _ (by omega) (by omega) (by omega) (by omega) HS_1.out (fun x hx => (HIN1.out x hx).1) (HR1.out.below HSZ.out)).mono ?_
    rintro e wz ⟨rfl, hb⟩
    have HSZ := Lib.hid (HSZ.out.trans (hb.mono HSZ.out.size)); clear hb
    go_wp2_with fail
    refine (szEntryS_bigI A2 n2 c2 xs2 _ s2 _ (by omega) (by omega) (by omega) (by omega) HS_2.out (fun x hx => (HIN2.out x hx).1) (HR2.out.below HSZ.out)).mono ?_
    rintro e wz ⟨rfl, hb⟩
    have HSZ := Lib.hid (HSZ.out.trans (hb.mono HSZ.out.size)); clear hb
    go_wp2_with fail
    go_ret
    exact ⟨rfl, HSZ.out⟩
  have HLX0 := Lib.hid (bdEntryS (xs := xs0) (n := n0) (s := s0) HS_0.out (by omega))
  have HLX1 := Lib.hid (bdEntryS (xs := xs1) (n := n1) (s := s1) HS_1.out (by omega))
  have HLX2 := Lib.hid (bdEntryS (xs := xs2) (n := n2) (s := s2) HS_2.out (by omega))
  obtain ⟨S0, hS0⟩ : ∃ S0, S0 = w := ⟨_, rfl⟩
  have HS0 := Lib.hid hS0
  have BW0 : Hid (Below w.heap.size w S0 ∧ w.heap.size ≤ S0.heap.size) := Lib.hid (by subst hS0; exact ⟨(Below.refl _ _), by simp; try omega⟩)
  rw [← hS0] at HR0
  rw [← hS0] at HR1
  rw [← hS0] at HR2
  clear hS0
  go_enter Try.func6, Try.ntmps6
  have BB0 : Hid (Below S0.heap.size S0 S0) := Lib.hid (Below.refl _ _)
  have HM0 := Lib.hid (show mE xs0 ≤ 4000000 by have := HS_0.out; unfold mE; omega)
  have HM1 := Lib.hid (show mE xs1 ≤ 4000000 by have := HS_1.out; unfold mE; omega)
  have HM2 := Lib.hid (show mE xs2 ≤ 4000000 by have := HS_2.out; unfold mE; omega)
  clear HSZ
  try rw [← HS0.out]
  go_wp2_with fail
  try rw [← HS0.out]
  refine (szEntryS_okI A0 n0 c0 xs0 _ s0 S0 (by omega) (by omega) (by omega) (by omega) HS_0.out (fun x hx => (HIN0.out x hx).1) (HR0.out.below BB0.out)).mono ?_
  rintro e w1 ⟨rfl, hb⟩
  have B0 := Lib.hid hb; clear hb
  have Z0 := Lib.hid (B0.out.size)
  have BB1 := Lib.hid (BB0.out.trans (B0.out.mono BB0.out.size))
  go_wp2_with fail
  refine (szEntryS_okI A1 n1 c1 xs1 _ s1 w1 (by omega) (by omega) (by omega) (by omega) HS_1.out (fun x hx => (HIN1.out x hx).1) (HR1.out.below BB1.out)).mono ?_
  rintro e w2 ⟨rfl, hb⟩
  have B1 := Lib.hid hb; clear hb
  have Z1 := Lib.hid (B1.out.size)
  have BB2 := Lib.hid (BB1.out.trans (B1.out.mono BB1.out.size))
  go_wp2_with fail
  refine (szEntryS_okI A2 n2 c2 xs2 _ s2 w2 (by omega) (by omega) (by omega) (by omega) HS_2.out (fun x hx => (HIN2.out x hx).1) (HR2.out.below BB2.out)).mono ?_
  rintro e w3 ⟨rfl, hb⟩
  have B2 := Lib.hid hb; clear hb
  have Z2 := Lib.hid (B2.out.size)
  have BB3 := Lib.hid (BB2.out.trans (B2.out.mono BB2.out.size))
  go_wp2_with fail
  refine (toEntryS_any A0 n0 c0 xs0 w3 (by omega) HLX0.out (HR0.out.below BB3.out)).mono ?_
  rintro e w4 ⟨As0, cs0, hss0, rfl, hown, hb⟩
  have Os0_4 := Lib.hid hown; clear hown
  have B3 := Lib.hid hb; clear hb
  have Z3 := Lib.hid (B3.out.size)
  have BB4 := Lib.hid (BB3.out.trans (B3.out.mono BB3.out.size))
  go_wp2_with fail
  refine (toEntryS_any A1 n1 c1 xs1 w4 (by omega) HLX1.out (HR1.out.below BB4.out)).mono ?_
  rintro e w5 ⟨As1, cs1, hss1, rfl, hown, hb⟩
  have Os1_5 := Lib.hid hown; clear hown
  have B4 := Lib.hid hb; clear hb
  have Z4 := Lib.hid (B4.out.size)
  have BB5 := Lib.hid (BB4.out.trans (B4.out.mono BB4.out.size))
  have Os0_5 := Lib.hid (Os0_4.out.below B4.out (Nat.le_refl _))
  go_wp2_with fail
  refine (toEntryS_any A2 n2 c2 xs2 w5 (by omega) HLX2.out (HR2.out.below BB5.out)).mono ?_
  rintro e w6 ⟨As2, cs2, hss2, rfl, hown, hb⟩
  have Os2_6 := Lib.hid hown; clear hown
  have B5 := Lib.hid hb; clear hb
  have Z5 := Lib.hid (B5.out.size)
  have BB6 := Lib.hid (BB5.out.trans (B5.out.mono BB5.out.size))
  have Os0_6 := Lib.hid (Os0_5.out.below B5.out (by have := Z4.out; omega))
  have Os1_6 := Lib.hid (Os1_5.out.below B5.out (Nat.le_refl _))
  go_wp2_with fail
  refine (specFillLog_any As0 n0 cs0 xs0 As1 n1 cs1 xs1 As2 n2 cs2 xs2 a3 a4 w6 (by omega) HLX0.out (Reads2.of_own Os0_6.out) (own_cap Os0_6.out.row) (by omega) HLX1.out (Reads2.of_own Os1_6.out) (own_cap Os1_6.out.row) (by omega) HLX2.out (Reads2.of_own Os2_6.out) (own_cap Os2_6.out.row)).mono ?_
  rintro e w7 ⟨Aw, cw, hsw, rfl, hown, hb⟩
  have Ow_7 := Lib.hid hown; clear hown
  have B6 := Lib.hid hb; clear hb
  have Z6 := Lib.hid (B6.out.size)
  have BB7 := Lib.hid (BB6.out.trans (B6.out.mono BB6.out.size))
  have Os0_7 := Lib.hid (Os0_6.out.below B6.out (by have := Z4.out; have := Z5.out; omega))
  have Os1_7 := Lib.hid (Os1_6.out.below B6.out (by have := Z5.out; omega))
  have Os2_7 := Lib.hid (Os2_6.out.below B6.out (Nat.le_refl _))
  go_wp2_with fail
  refine (toEntryS_any A0 n0 c0 xs0 w7 (by omega) HLX0.out (HR0.out.below BB7.out)).mono ?_
  rintro e w8 ⟨Ax0, cx0, hsx0, rfl, hown, hb⟩
  have Ox0_8 := Lib.hid hown; clear hown
  have B7 := Lib.hid hb; clear hb
  have Z7 := Lib.hid (B7.out.size)
  have BB8 := Lib.hid (BB7.out.trans (B7.out.mono BB7.out.size))
  have Ow_8 := Lib.hid (Ow_7.out.below B7.out (Nat.le_refl _))
  go_wp2_with fail
  refine (toEntryS_any A1 n1 c1 xs1 w8 (by omega) HLX1.out (HR1.out.below BB8.out)).mono ?_
  rintro e w9 ⟨Ax1, cx1, hsx1, rfl, hown, hb⟩
  have Ox1_9 := Lib.hid hown; clear hown
  have B8 := Lib.hid hb; clear hb
  have Z8 := Lib.hid (B8.out.size)
  have BB9 := Lib.hid (BB8.out.trans (B8.out.mono BB8.out.size))
  have Ow_9 := Lib.hid (Ow_8.out.below B8.out (by have := Z7.out; omega))
  have Ox0_9 := Lib.hid (Ox0_8.out.below B8.out (Nat.le_refl _))
  go_wp2_with fail
  refine (toEntryS_any A2 n2 c2 xs2 w9 (by omega) HLX2.out (HR2.out.below BB9.out)).mono ?_
  rintro e w10 ⟨Ax2, cx2, hsx2, rfl, hown, hb⟩
  have Ox2_10 := Lib.hid hown; clear hown
  have B9 := Lib.hid hb; clear hb
  have Z9 := Lib.hid (B9.out.size)
  have BB10 := Lib.hid (BB9.out.trans (B9.out.mono BB9.out.size))
  have Ow_10 := Lib.hid (Ow_9.out.below B9.out (by have := Z7.out; have := Z8.out; omega))
  have Ox0_10 := Lib.hid (Ox0_9.out.below B9.out (by have := Z8.out; omega))
  have Ox1_10 := Lib.hid (Ox1_9.out.below B9.out (Nat.le_refl _))
  go_wp2_with fail
  refine (implFillLog_any Ax0 n0 cx0 xs0 Ax1 n1 cx1 xs1 Ax2 n2 cx2 xs2 a3 a4 w10 (by omega) HLX0.out (Reads2.of_own Ox0_10.out) (own_cap Ox0_10.out.row) (by omega) HLX1.out (Reads2.of_own Ox1_10.out) (own_cap Ox1_10.out.row) (by omega) HLX2.out (Reads2.of_own Ox2_10.out) (own_cap Ox2_10.out.row)).mono ?_
  rintro e w11 ⟨Ag, cg, hsg, rfl, hown, hb⟩
  have Og_11 := Lib.hid hown; clear hown
  have B10 := Lib.hid hb; clear hb
  have Z10 := Lib.hid (B10.out.size)
  have BB11 := Lib.hid (BB10.out.trans (B10.out.mono BB10.out.size))
  have Ow_11 := Lib.hid (Ow_10.out.below B10.out (by have := Z7.out; have := Z8.out; have := Z9.out; omega))
  have Ox0_11 := Lib.hid (Ox0_10.out.below B10.out (by have := Z8.out; have := Z9.out; omega))
  have Ox1_11 := Lib.hid (Ox1_10.out.below B10.out (by have := Z9.out; omega))
  have Ox2_11 := Lib.hid (Ox2_10.out.below B10.out (Nat.le_refl _))
  go_wp2_with fail
  refine (eqEntryS_any Ag Aw ((fillR xs0 xs1 xs2 a3 a4).1).length cg cw (fillR xs0 xs1 xs2 a3 a4).1 w11 (by (have := fillR_len xs0 xs1 xs2 a3 a4; have := fillR_mE xs0 xs1 xs2 a3 a4; omega)) (fillR_lenE xs0 xs1 xs2 a3 a4) (Reads2.of_own Og_11.out) (Reads2.of_own Ow_11.out)).mono ?_
  rintro e w12 ⟨rfl, hb⟩
  have B11 := Lib.hid hb; clear hb
  have Z11 := Lib.hid (B11.out.size)
  have BB12 := Lib.hid (BB11.out.trans (B11.out.mono BB11.out.size))
  have Ow_12 := Lib.hid (Ow_11.out.below B11.out (by have := Z7.out; have := Z8.out; have := Z9.out; have := Z10.out; omega))
  have Ox0_12 := Lib.hid (Ox0_11.out.below B11.out (by have := Z8.out; have := Z9.out; have := Z10.out; omega))
  have Ox1_12 := Lib.hid (Ox1_11.out.below B11.out (by have := Z9.out; have := Z10.out; omega))
  have Ox2_12 := Lib.hid (Ox2_11.out.below B11.out (by have := Z10.out; omega))
  have Og_12 := Lib.hid (Og_11.out.below B11.out (Nat.le_refl _))
  go_wp2_with fail
  refine (toEntryS_any A0 n0 c0 xs0 w12 (by omega) HLX0.out (HR0.out.below BB12.out)).mono ?_
  rintro e w13 ⟨At0, ct0, hst0, rfl, hown, hb⟩
  have Ot0_13 := Lib.hid hown; clear hown
  have B12 := Lib.hid hb; clear hb
  have Z12 := Lib.hid (B12.out.size)
  have BB13 := Lib.hid (BB12.out.trans (B12.out.mono BB12.out.size))
  have Ow_13 := Lib.hid (Ow_12.out.below B12.out (by have := Z7.out; have := Z8.out; have := Z9.out; have := Z10.out; have := Z11.out; omega))
  have Ox0_13 := Lib.hid (Ox0_12.out.below B12.out (by have := Z8.out; have := Z9.out; have := Z10.out; have := Z11.out; omega))
  have Ox1_13 := Lib.hid (Ox1_12.out.below B12.out (by have := Z9.out; have := Z10.out; have := Z11.out; omega))
  have Ox2_13 := Lib.hid (Ox2_12.out.below B12.out (by have := Z10.out; have := Z11.out; omega))
  have Og_13 := Lib.hid (Og_12.out.below B12.out (by have := Z11.out; omega))
  go_wp2_with fail
  refine (eqEntryS_any Ax0 At0 n0 cx0 ct0 xs0 w13 (by omega) HLX0.out (Reads2.of_own Ox0_13.out) (Reads2.of_own Ot0_13.out)).mono ?_
  rintro e w14 ⟨rfl, hb⟩
  have B13 := Lib.hid hb; clear hb
  have Z13 := Lib.hid (B13.out.size)
  have BB14 := Lib.hid (BB13.out.trans (B13.out.mono BB13.out.size))
  have Ow_14 := Lib.hid (Ow_13.out.below B13.out (by have := Z7.out; have := Z8.out; have := Z9.out; have := Z10.out; have := Z11.out; have := Z12.out; omega))
  have Ox0_14 := Lib.hid (Ox0_13.out.below B13.out (by have := Z8.out; have := Z9.out; have := Z10.out; have := Z11.out; have := Z12.out; omega))
  have Ox1_14 := Lib.hid (Ox1_13.out.below B13.out (by have := Z9.out; have := Z10.out; have := Z11.out; have := Z12.out; omega))
  have Ox2_14 := Lib.hid (Ox2_13.out.below B13.out (by have := Z10.out; have := Z11.out; have := Z12.out; omega))
  have Og_14 := Lib.hid (Og_13.out.below B13.out (by have := Z11.out; have := Z12.out; omega))
  have Ot0_14 := Lib.hid (Ot0_13.out.below B13.out (Nat.le_refl _))
  go_wp2_with fail
  refine (toEntryS_any A1 n1 c1 xs1 w14 (by omega) HLX1.out (HR1.out.below BB14.out)).mono ?_
  rintro e w15 ⟨At1, ct1, hst1, rfl, hown, hb⟩
  have Ot1_15 := Lib.hid hown; clear hown
  have B14 := Lib.hid hb; clear hb
  have Z14 := Lib.hid (B14.out.size)
  have BB15 := Lib.hid (BB14.out.trans (B14.out.mono BB14.out.size))
  have Ow_15 := Lib.hid (Ow_14.out.below B14.out (by have := Z7.out; have := Z8.out; have := Z9.out; have := Z10.out; have := Z11.out; have := Z12.out; have := Z13.out; omega))
  have Ox0_15 := Lib.hid (Ox0_14.out.below B14.out (by have := Z8.out; have := Z9.out; have := Z10.out; have := Z11.out; have := Z12.out; have := Z13.out; omega))
  have Ox1_15 := Lib.hid (Ox1_14.out.below B14.out (by have := Z9.out; have := Z10.out; have := Z11.out; have := Z12.out; have := Z13.out; omega))
  have Ox2_15 := Lib.hid (Ox2_14.out.below B14.out (by have := Z10.out; have := Z11.out; have := Z12.out; have := Z13.out; omega))
  have Og_15 := Lib.hid (Og_14.out.below B14.out (by have := Z11.out; have := Z12.out; have := Z13.out; omega))
  go_wp2_with fail
  refine (eqEntryS_any Ax1 At1 n1 cx1 ct1 xs1 w15 (by omega) HLX1.out (Reads2.of_own Ox1_15.out) (Reads2.of_own Ot1_15.out)).mono ?_
  rintro e w16 ⟨rfl, hb⟩
  have B15 := Lib.hid hb; clear hb
  have Z15 := Lib.hid (B15.out.size)
  have BB16 := Lib.hid (BB15.out.trans (B15.out.mono BB15.out.size))
  have Ow_16 := Lib.hid (Ow_15.out.below B15.out (by have := Z7.out; have := Z8.out; have := Z9.out; have := Z10.out; have := Z11.out; have := Z12.out; have := Z13.out; have := Z14.out; omega))
  have Ox0_16 := Lib.hid (Ox0_15.out.below B15.out (by have := Z8.out; have := Z9.out; have := Z10.out; have := Z11.out; have := Z12.out; have := Z13.out; have := Z14.out; omega))
  have Ox1_16 := Lib.hid (Ox1_15.out.below B15.out (by have := Z9.out; have := Z10.out; have := Z11.out; have := Z12.out; have := Z13.out; have := Z14.out; omega))
  have Ox2_16 := Lib.hid (Ox2_15.out.below B15.out (by have := Z10.out; have := Z11.out; have := Z12.out; have := Z13.out; have := Z14.out; omega))
  have Og_16 := Lib.hid (Og_15.out.below B15.out (by have := Z11.out; have := Z12.out; have := Z13.out; have := Z14.out; omega))
  have Ot1_16 := Lib.hid (Ot1_15.out.below B15.out (Nat.le_refl _))
  go_wp2_with fail
  refine (toEntryS_any A2 n2 c2 xs2 w16 (by omega) HLX2.out (HR2.out.below BB16.out)).mono ?_
  rintro e w17 ⟨At2, ct2, hst2, rfl, hown, hb⟩
  have Ot2_17 := Lib.hid hown; clear hown
  have B16 := Lib.hid hb; clear hb
  have Z16 := Lib.hid (B16.out.size)
  have BB17 := Lib.hid (BB16.out.trans (B16.out.mono BB16.out.size))
  have Ow_17 := Lib.hid (Ow_16.out.below B16.out (by have := Z7.out; have := Z8.out; have := Z9.out; have := Z10.out; have := Z11.out; have := Z12.out; have := Z13.out; have := Z14.out; have := Z15.out; omega))
  have Ox0_17 := Lib.hid (Ox0_16.out.below B16.out (by have := Z8.out; have := Z9.out; have := Z10.out; have := Z11.out; have := Z12.out; have := Z13.out; have := Z14.out; have := Z15.out; omega))
  have Ox1_17 := Lib.hid (Ox1_16.out.below B16.out (by have := Z9.out; have := Z10.out; have := Z11.out; have := Z12.out; have := Z13.out; have := Z14.out; have := Z15.out; omega))
  have Ox2_17 := Lib.hid (Ox2_16.out.below B16.out (by have := Z10.out; have := Z11.out; have := Z12.out; have := Z13.out; have := Z14.out; have := Z15.out; omega))
  have Og_17 := Lib.hid (Og_16.out.below B16.out (by have := Z11.out; have := Z12.out; have := Z13.out; have := Z14.out; have := Z15.out; omega))
  go_wp2_with fail
  refine (eqEntryS_any Ax2 At2 n2 cx2 ct2 xs2 w17 (by omega) HLX2.out (Reads2.of_own Ox2_17.out) (Reads2.of_own Ot2_17.out)).mono ?_
  rintro e w18 ⟨rfl, hb⟩
  have B17 := Lib.hid hb; clear hb
  have Z17 := Lib.hid (B17.out.size)
  have BB18 := Lib.hid (BB17.out.trans (B17.out.mono BB17.out.size))
  have Ow_18 := Lib.hid (Ow_17.out.below B17.out (by have := Z7.out; have := Z8.out; have := Z9.out; have := Z10.out; have := Z11.out; have := Z12.out; have := Z13.out; have := Z14.out; have := Z15.out; have := Z16.out; omega))
  have Ox0_18 := Lib.hid (Ox0_17.out.below B17.out (by have := Z8.out; have := Z9.out; have := Z10.out; have := Z11.out; have := Z12.out; have := Z13.out; have := Z14.out; have := Z15.out; have := Z16.out; omega))
  have Ox1_18 := Lib.hid (Ox1_17.out.below B17.out (by have := Z9.out; have := Z10.out; have := Z11.out; have := Z12.out; have := Z13.out; have := Z14.out; have := Z15.out; have := Z16.out; omega))
  have Ox2_18 := Lib.hid (Ox2_17.out.below B17.out (by have := Z10.out; have := Z11.out; have := Z12.out; have := Z13.out; have := Z14.out; have := Z15.out; have := Z16.out; omega))
  have Og_18 := Lib.hid (Og_17.out.below B17.out (by have := Z11.out; have := Z12.out; have := Z13.out; have := Z14.out; have := Z15.out; have := Z16.out; omega))
  have Ot2_18 := Lib.hid (Ot2_17.out.below B17.out (Nat.le_refl _))
  go_wp2_with fail
  refine (markEntryS_any Ax0 n0 cx0 (1) w7.heap.size w8.heap.size xs0 hsx0 w18 (by have := HS_0.out; have := HM0.out; have := HM1.out; have := HM2.out; omega) (by have := HS_0.out; have := HM0.out; have := HM1.out; have := HM2.out; omega) (by have := Z8.out; have := Z9.out; have := Z10.out; have := Z11.out; have := Z12.out; have := Z13.out; have := Z14.out; have := Z15.out; have := Z16.out; have := Z17.out; omega) Ox0_18.out).mono ?_
  rintro e w19 ⟨rfl, ⟨hsx0, hown⟩, hT⟩
  have T18 := Lib.hid hT; clear hT
  have Ox0_19 := Lib.hid hown; clear hown
  have Z18 := Lib.hid T18.out.size
  have BB19 := Lib.hid (below_turned BB18.out T18.out (by have := Z0.out; have := Z1.out; have := Z2.out; have := Z3.out; have := Z4.out; have := Z5.out; have := Z6.out; omega) BB18.out.size)
  have Ow_19 := Lib.hid (Own2.turned_after Ow_18.out T18.out (by have := Z7.out; have := Z8.out; have := Z9.out; have := Z10.out; have := Z11.out; have := Z12.out; have := Z13.out; have := Z14.out; have := Z15.out; have := Z16.out; have := Z17.out; omega) (Nat.le_refl _))
  have Ox1_19 := Lib.hid (Own2.turned_before Ox1_18.out T18.out (by have := Z9.out; have := Z10.out; have := Z11.out; have := Z12.out; have := Z13.out; have := Z14.out; have := Z15.out; have := Z16.out; have := Z17.out; omega) (Nat.le_refl _))
  have Ox2_19 := Lib.hid (Own2.turned_before Ox2_18.out T18.out (by have := Z10.out; have := Z11.out; have := Z12.out; have := Z13.out; have := Z14.out; have := Z15.out; have := Z16.out; have := Z17.out; omega) (by have := Z8.out; omega))
  have Og_19 := Lib.hid (Own2.turned_before Og_18.out T18.out (by have := Z11.out; have := Z12.out; have := Z13.out; have := Z14.out; have := Z15.out; have := Z16.out; have := Z17.out; omega) (by have := Z8.out; have := Z9.out; omega))
  go_wp2_with fail
  refine (markEntryS_any Ax1 n1 cx1 (1 + mE xs0) w8.heap.size w9.heap.size xs1 hsx1 w19 (by have := HS_1.out; have := HM0.out; have := HM1.out; have := HM2.out; omega) (by have := HS_1.out; have := HM0.out; have := HM1.out; have := HM2.out; omega) (by have := Z9.out; have := Z10.out; have := Z11.out; have := Z12.out; have := Z13.out; have := Z14.out; have := Z15.out; have := Z16.out; have := Z17.out; have := Z18.out; omega) Ox1_19.out).mono ?_
  rintro e w20 ⟨rfl, ⟨hsx1, hown⟩, hT⟩
  have T19 := Lib.hid hT; clear hT
  have Ox1_20 := Lib.hid hown; clear hown
  have Z19 := Lib.hid T19.out.size
  have BB20 := Lib.hid (below_turned BB19.out T19.out (by have := Z0.out; have := Z1.out; have := Z2.out; have := Z3.out; have := Z4.out; have := Z5.out; have := Z6.out; have := Z7.out; omega) BB19.out.size)
  have Ow_20 := Lib.hid (Own2.turned_after Ow_19.out T19.out (by have := Z7.out; have := Z8.out; have := Z9.out; have := Z10.out; have := Z11.out; have := Z12.out; have := Z13.out; have := Z14.out; have := Z15.out; have := Z16.out; have := Z17.out; have := Z18.out; omega) (by have := Z7.out; omega))
  have Ox0_20 := Lib.hid (Own2.turned_after Ox0_19.out T19.out (by have := Z8.out; have := Z9.out; have := Z10.out; have := Z11.out; have := Z12.out; have := Z13.out; have := Z14.out; have := Z15.out; have := Z16.out; have := Z17.out; have := Z18.out; omega) (Nat.le_refl _))
  have Ox2_20 := Lib.hid (Own2.turned_before Ox2_19.out T19.out (by have := Z10.out; have := Z11.out; have := Z12.out; have := Z13.out; have := Z14.out; have := Z15.out; have := Z16.out; have := Z17.out; have := Z18.out; omega) (Nat.le_refl _))
  have Og_20 := Lib.hid (Own2.turned_before Og_19.out T19.out (by have := Z11.out; have := Z12.out; have := Z13.out; have := Z14.out; have := Z15.out; have := Z16.out; have := Z17.out; have := Z18.out; omega) (by have := Z9.out; omega))
  go_wp2_with fail
  refine (markEntryS_any Ax2 n2 cx2 (1 + mE xs0 + mE xs1) w9.heap.size w10.heap.size xs2 hsx2 w20 (by have := HS_2.out; have := HM0.out; have := HM1.out; have := HM2.out; omega) (by have := HS_2.out; have := HM0.out; have := HM1.out; have := HM2.out; omega) (by have := Z10.out; have := Z11.out; have := Z12.out; have := Z13.out; have := Z14.out; have := Z15.out; have := Z16.out; have := Z17.out; have := Z18.out; have := Z19.out; omega) Ox2_20.out).mono ?_
  rintro e w21 ⟨rfl, ⟨hsx2, hown⟩, hT⟩
  have T20 := Lib.hid hT; clear hT
  have Ox2_21 := Lib.hid hown; clear hown
  have Z20 := Lib.hid T20.out.size
  have BB21 := Lib.hid (below_turned BB20.out T20.out (by have := Z0.out; have := Z1.out; have := Z2.out; have := Z3.out; have := Z4.out; have := Z5.out; have := Z6.out; have := Z7.out; have := Z8.out; omega) BB20.out.size)
  have Ow_21 := Lib.hid (Own2.turned_after Ow_20.out T20.out (by have := Z7.out; have := Z8.out; have := Z9.out; have := Z10.out; have := Z11.out; have := Z12.out; have := Z13.out; have := Z14.out; have := Z15.out; have := Z16.out; have := Z17.out; have := Z18.out; have := Z19.out; omega) (by have := Z7.out; have := Z8.out; omega))
  have Ox0_21 := Lib.hid (Own2.turned_after Ox0_20.out T20.out (by have := Z8.out; have := Z9.out; have := Z10.out; have := Z11.out; have := Z12.out; have := Z13.out; have := Z14.out; have := Z15.out; have := Z16.out; have := Z17.out; have := Z18.out; have := Z19.out; omega) (by have := Z8.out; omega))
  have Ox1_21 := Lib.hid (Own2.turned_after Ox1_20.out T20.out (by have := Z9.out; have := Z10.out; have := Z11.out; have := Z12.out; have := Z13.out; have := Z14.out; have := Z15.out; have := Z16.out; have := Z17.out; have := Z18.out; have := Z19.out; omega) (Nat.le_refl _))
  have Og_21 := Lib.hid (Own2.turned_before Og_20.out T20.out (by have := Z11.out; have := Z12.out; have := Z13.out; have := Z14.out; have := Z15.out; have := Z16.out; have := Z17.out; have := Z18.out; have := Z19.out; omega) (Nat.le_refl _))
  go_wp2_with fail
  refine (eqEntryS_any Ag Aw ((fillR xs0 xs1 xs2 a3 a4).1).length cg cw (fillR xs0 xs1 xs2 a3 a4).1 w21 (by (have := fillR_len xs0 xs1 xs2 a3 a4; have := fillR_mE xs0 xs1 xs2 a3 a4; omega)) (fillR_lenE xs0 xs1 xs2 a3 a4) (Reads2.of_own Og_21.out) (Reads2.of_own Ow_21.out)).mono ?_
  rintro e w22 ⟨rfl, hb⟩
  have B21 := Lib.hid hb; clear hb
  have Z21 := Lib.hid (B21.out.size)
  have BB22 := Lib.hid (BB21.out.trans (B21.out.mono BB21.out.size))
  have Ow_22 := Lib.hid (Ow_21.out.below B21.out (by have := Z7.out; have := Z8.out; have := Z9.out; have := Z10.out; have := Z11.out; have := Z12.out; have := Z13.out; have := Z14.out; have := Z15.out; have := Z16.out; have := Z17.out; have := Z18.out; have := Z19.out; have := Z20.out; omega))
  have Ox0_22 := Lib.hid (Ox0_21.out.below B21.out (by have := Z8.out; have := Z9.out; have := Z10.out; have := Z11.out; have := Z12.out; have := Z13.out; have := Z14.out; have := Z15.out; have := Z16.out; have := Z17.out; have := Z18.out; have := Z19.out; have := Z20.out; omega))
  have Ox1_22 := Lib.hid (Ox1_21.out.below B21.out (by have := Z9.out; have := Z10.out; have := Z11.out; have := Z12.out; have := Z13.out; have := Z14.out; have := Z15.out; have := Z16.out; have := Z17.out; have := Z18.out; have := Z19.out; have := Z20.out; omega))
  have Ox2_22 := Lib.hid (Ox2_21.out.below B21.out (by have := Z10.out; have := Z11.out; have := Z12.out; have := Z13.out; have := Z14.out; have := Z15.out; have := Z16.out; have := Z17.out; have := Z18.out; have := Z19.out; have := Z20.out; omega))
  have Og_22 := Lib.hid (Og_21.out.below B21.out (by have := Z11.out; have := Z12.out; have := Z13.out; have := Z14.out; have := Z15.out; have := Z16.out; have := Z17.out; have := Z18.out; have := Z19.out; have := Z20.out; omega))
  go_wp2_with fail
  refine (markEntryS_any Ag ((fillR xs0 xs1 xs2 a3 a4).1).length cg (1) w10.heap.size w11.heap.size (fillR xs0 xs1 xs2 a3 a4).1 hsg w22 (by (have := fillR_len xs0 xs1 xs2 a3 a4; have := fillR_mE xs0 xs1 xs2 a3 a4; omega)) (by (have := fillR_len xs0 xs1 xs2 a3 a4; have := fillR_mE xs0 xs1 xs2 a3 a4; omega)) (by have := Z11.out; have := Z12.out; have := Z13.out; have := Z14.out; have := Z15.out; have := Z16.out; have := Z17.out; have := Z18.out; have := Z19.out; have := Z20.out; have := Z21.out; omega) Og_22.out).mono ?_
  rintro e w23 ⟨rfl, ⟨hsg, hown⟩, hT⟩
  have T22 := Lib.hid hT; clear hT
  have Og_23 := Lib.hid hown; clear hown
  have Z22 := Lib.hid T22.out.size
  have BB23 := Lib.hid (below_turned BB22.out T22.out (by have := Z0.out; have := Z1.out; have := Z2.out; have := Z3.out; have := Z4.out; have := Z5.out; have := Z6.out; have := Z7.out; have := Z8.out; have := Z9.out; omega) BB22.out.size)
  have Ow_23 := Lib.hid (Own2.turned_after Ow_22.out T22.out (by have := Z7.out; have := Z8.out; have := Z9.out; have := Z10.out; have := Z11.out; have := Z12.out; have := Z13.out; have := Z14.out; have := Z15.out; have := Z16.out; have := Z17.out; have := Z18.out; have := Z19.out; have := Z20.out; have := Z21.out; omega) (by have := Z7.out; have := Z8.out; have := Z9.out; omega))
  go_wp2_with fail
  refine (heldEntryS_any Ag ((fillR xs0 xs1 xs2 a3 a4).1).length cg (1) (fillR xs0 xs1 xs2 a3 a4).1 w23 (by (have := fillR_len xs0 xs1 xs2 a3 a4; have := fillR_mE xs0 xs1 xs2 a3 a4; omega)) (by (have := fillR_len xs0 xs1 xs2 a3 a4; have := fillR_mE xs0 xs1 xs2 a3 a4; omega)) (Reads2.of_own Og_23.out)).mono ?_
  rintro e w24 ⟨rfl, hb⟩
  subst hb
  go_wp2_with fail
  refine (toEntryS_any A0 n0 c0 xs0 w23 (by omega) HLX0.out (HR0.out.below BB23.out)).mono ?_
  rintro e w24 ⟨Ay0, cy0, hsy0, rfl, hown, hb⟩
  have Oy0_24 := Lib.hid hown; clear hown
  have B23 := Lib.hid hb; clear hb
  have Z23 := Lib.hid (B23.out.size)
  have BB24 := Lib.hid (BB23.out.trans (B23.out.mono BB23.out.size))
  have Ow_24 := Lib.hid (Ow_23.out.below B23.out (by have := Z7.out; have := Z8.out; have := Z9.out; have := Z10.out; have := Z11.out; have := Z12.out; have := Z13.out; have := Z14.out; have := Z15.out; have := Z16.out; have := Z17.out; have := Z18.out; have := Z19.out; have := Z20.out; have := Z21.out; have := Z22.out; omega))
  have Og_24 := Lib.hid (Og_23.out.below B23.out (by have := Z11.out; have := Z12.out; have := Z13.out; have := Z14.out; have := Z15.out; have := Z16.out; have := Z17.out; have := Z18.out; have := Z19.out; have := Z20.out; have := Z21.out; have := Z22.out; omega))
  go_wp2_with fail
  refine (toEntryS_any A1 n1 c1 xs1 w24 (by omega) HLX1.out (HR1.out.below BB24.out)).mono ?_
  rintro e w25 ⟨Ay1, cy1, hsy1, rfl, hown, hb⟩
  have Oy1_25 := Lib.hid hown; clear hown
  have B24 := Lib.hid hb; clear hb
  have Z24 := Lib.hid (B24.out.size)
  have BB25 := Lib.hid (BB24.out.trans (B24.out.mono BB24.out.size))
  have Ow_25 := Lib.hid (Ow_24.out.below B24.out (by have := Z7.out; have := Z8.out; have := Z9.out; have := Z10.out; have := Z11.out; have := Z12.out; have := Z13.out; have := Z14.out; have := Z15.out; have := Z16.out; have := Z17.out; have := Z18.out; have := Z19.out; have := Z20.out; have := Z21.out; have := Z22.out; have := Z23.out; omega))
  have Og_25 := Lib.hid (Og_24.out.below B24.out (by have := Z11.out; have := Z12.out; have := Z13.out; have := Z14.out; have := Z15.out; have := Z16.out; have := Z17.out; have := Z18.out; have := Z19.out; have := Z20.out; have := Z21.out; have := Z22.out; have := Z23.out; omega))
  have Oy0_25 := Lib.hid (Oy0_24.out.below B24.out (Nat.le_refl _))
  go_wp2_with fail
  refine (toEntryS_any A2 n2 c2 xs2 w25 (by omega) HLX2.out (HR2.out.below BB25.out)).mono ?_
  rintro e w26 ⟨Ay2, cy2, hsy2, rfl, hown, hb⟩
  have Oy2_26 := Lib.hid hown; clear hown
  have B25 := Lib.hid hb; clear hb
  have Z25 := Lib.hid (B25.out.size)
  have BB26 := Lib.hid (BB25.out.trans (B25.out.mono BB25.out.size))
  have Ow_26 := Lib.hid (Ow_25.out.below B25.out (by have := Z7.out; have := Z8.out; have := Z9.out; have := Z10.out; have := Z11.out; have := Z12.out; have := Z13.out; have := Z14.out; have := Z15.out; have := Z16.out; have := Z17.out; have := Z18.out; have := Z19.out; have := Z20.out; have := Z21.out; have := Z22.out; have := Z23.out; have := Z24.out; omega))
  have Og_26 := Lib.hid (Og_25.out.below B25.out (by have := Z11.out; have := Z12.out; have := Z13.out; have := Z14.out; have := Z15.out; have := Z16.out; have := Z17.out; have := Z18.out; have := Z19.out; have := Z20.out; have := Z21.out; have := Z22.out; have := Z23.out; have := Z24.out; omega))
  have Oy0_26 := Lib.hid (Oy0_25.out.below B25.out (by have := Z24.out; omega))
  have Oy1_26 := Lib.hid (Oy1_25.out.below B25.out (Nat.le_refl _))
  go_wp2_with fail
  refine (implFillLog_any Ay0 n0 cy0 xs0 Ay1 n1 cy1 xs1 Ay2 n2 cy2 xs2 a3 a4 w26 (by omega) HLX0.out (Reads2.of_own Oy0_26.out) (own_cap Oy0_26.out.row) (by omega) HLX1.out (Reads2.of_own Oy1_26.out) (own_cap Oy1_26.out.row) (by omega) HLX2.out (Reads2.of_own Oy2_26.out) (own_cap Oy2_26.out.row)).mono ?_
  rintro e w27 ⟨Ah, ch, hsh, rfl, hown, hb⟩
  have Oh_27 := Lib.hid hown; clear hown
  have B26 := Lib.hid hb; clear hb
  have Z26 := Lib.hid (B26.out.size)
  have BB27 := Lib.hid (BB26.out.trans (B26.out.mono BB26.out.size))
  have Ow_27 := Lib.hid (Ow_26.out.below B26.out (by have := Z7.out; have := Z8.out; have := Z9.out; have := Z10.out; have := Z11.out; have := Z12.out; have := Z13.out; have := Z14.out; have := Z15.out; have := Z16.out; have := Z17.out; have := Z18.out; have := Z19.out; have := Z20.out; have := Z21.out; have := Z22.out; have := Z23.out; have := Z24.out; have := Z25.out; omega))
  have Og_27 := Lib.hid (Og_26.out.below B26.out (by have := Z11.out; have := Z12.out; have := Z13.out; have := Z14.out; have := Z15.out; have := Z16.out; have := Z17.out; have := Z18.out; have := Z19.out; have := Z20.out; have := Z21.out; have := Z22.out; have := Z23.out; have := Z24.out; have := Z25.out; omega))
  have Oy0_27 := Lib.hid (Oy0_26.out.below B26.out (by have := Z24.out; have := Z25.out; omega))
  have Oy1_27 := Lib.hid (Oy1_26.out.below B26.out (by have := Z25.out; omega))
  have Oy2_27 := Lib.hid (Oy2_26.out.below B26.out (Nat.le_refl _))
  go_wp2_with fail
  refine (eqEntryS_any Ah Aw ((fillR xs0 xs1 xs2 a3 a4).1).length ch cw (fillR xs0 xs1 xs2 a3 a4).1 w27 (by (have := fillR_len xs0 xs1 xs2 a3 a4; have := fillR_mE xs0 xs1 xs2 a3 a4; omega)) (fillR_lenE xs0 xs1 xs2 a3 a4) (Reads2.of_own Oh_27.out) (Reads2.of_own Ow_27.out)).mono ?_
  rintro e w28 ⟨rfl, hb⟩
  have B27 := Lib.hid hb; clear hb
  have Z27 := Lib.hid (B27.out.size)
  have BB28 := Lib.hid (BB27.out.trans (B27.out.mono BB27.out.size))
  have Ow_28 := Lib.hid (Ow_27.out.below B27.out (by have := Z7.out; have := Z8.out; have := Z9.out; have := Z10.out; have := Z11.out; have := Z12.out; have := Z13.out; have := Z14.out; have := Z15.out; have := Z16.out; have := Z17.out; have := Z18.out; have := Z19.out; have := Z20.out; have := Z21.out; have := Z22.out; have := Z23.out; have := Z24.out; have := Z25.out; have := Z26.out; omega))
  have Og_28 := Lib.hid (Og_27.out.below B27.out (by have := Z11.out; have := Z12.out; have := Z13.out; have := Z14.out; have := Z15.out; have := Z16.out; have := Z17.out; have := Z18.out; have := Z19.out; have := Z20.out; have := Z21.out; have := Z22.out; have := Z23.out; have := Z24.out; have := Z25.out; have := Z26.out; omega))
  have Oh_28 := Lib.hid (Oh_27.out.below B27.out (Nat.le_refl _))
  go_wp2_with fail
  refine (heldEntryS_any Ag ((fillR xs0 xs1 xs2 a3 a4).1).length cg (1) (fillR xs0 xs1 xs2 a3 a4).1 w28 (by (have := fillR_len xs0 xs1 xs2 a3 a4; have := fillR_mE xs0 xs1 xs2 a3 a4; omega)) (by (have := fillR_len xs0 xs1 xs2 a3 a4; have := fillR_mE xs0 xs1 xs2 a3 a4; omega)) (Reads2.of_own Og_28.out)).mono ?_
  rintro e w29 ⟨rfl, hb⟩
  subst hb
  go_wp2_with fail
  go_ret
  first | exact ⟨rfl, BW0.out.1.trans (BB28.out.mono BW0.out.2)⟩ | exact ⟨rfl, BB28.out⟩

end Go.Proofs.Ytcjmlakmigfkfaa
