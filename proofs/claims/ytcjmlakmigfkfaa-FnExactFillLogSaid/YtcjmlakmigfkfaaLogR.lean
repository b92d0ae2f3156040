/- The law of RebuildLog over the contracts of both packages. No conditions. -/
import Derived.Test.YtcjmlakmigfkfaaLog14
import Derived.Test.YtcjmlakmigfkfaaLog15
import Derived.Test.YtcjmlakmigfkfaaMarkE
namespace Go.Proofs.Ytcjmlakmigfkfaa
set_option linter.unusedSimpArgs false
set_option linter.unusedVariables false
open Go.RowKit
theorem rebR_lenE (L M : List EntryT) (a b : Int) : ∀ x ∈ (rebR L M a b).1, lenE 1000000000 x := fun x hx => by
  have := rebR_all L M a b x hx
  unfold lenE
  omega
theorem rebR_mE (L M : List EntryT) (a b : Int) : mE (rebR L M a b).1 ≤ 1000 := by
  have h1 := rebR_len L M a b
  have h2 := rebR_tot L M a b
  unfold mE
  omega
set_option maxHeartbeats 4000000 in
set_option maxRecDepth 100000 in
theorem law_FnExactRebuildLog (w : World) {v0 v1 v2 v3 : Value} (h0 : IsEntries w v0) (h1 : IsEntries w v1) (h2 : IsInt v2) (h3 : IsInt v3) :
    Calls Try.prog 5 #[v0, v1, v2, v3] w fun e w' => e = .returned (.bool true) ∧ Below w.heap.size w w' := by
  obtain ⟨A0, n0, c0, xs0, rfl, hnc0, hcm0, hlx0, hr0, hin0⟩ := h0
  obtain ⟨A1, n1, c1, xs1, rfl, hnc1, hcm1, hlx1, hr1, hin1⟩ := h1
  obtain ⟨a2, rfl, _⟩ := h2
  obtain ⟨a3, rfl, _⟩ := h3
  have HR0 := Lib.hid (hr0); clear hr0
  have HR1 := Lib.hid (hr1); clear hr1
  have HIN0 := Lib.hid hin0; clear hin0
  obtain ⟨s0, hs0⟩ : ∃ s, s = n0 + totE xs0 := ⟨_, rfl⟩
  have HS_0 := Lib.hid hs0
  have HIN1 := Lib.hid hin1; clear hin1
  obtain ⟨s1, hs1⟩ : ∃ s, s = n1 + totE xs1 := ⟨_, rfl⟩
  have HS_1 := Lib.hid hs1
  have HSZ : Hid (Below w.heap.size w w) := Lib.hid (Below.refl _ _)
  have hs0' : n0 ≤ s0 := by omega
  clear hs0
  have hs1' : n1 ≤ s1 := by omega
  clear hs1
  by_cases hz0 : s0 ≤ 1048576
  rotate_left
  · go_enter Try.func5, Try.ntmps5
    go_wp2_with fail
    refine (szEntryS_bigI A0 n0 c0 xs0 _ s0 _ (by omega) (by omega) (by omega) (by omega) HS_0.out (fun x hx => (HIN0.out x hx).1) (HR0.out.below HSZ.out)).mono ?_
    rintro e wz ⟨rfl, hb⟩
    have HSZ := Lib.hid (HSZ.out.trans (hb.mono HSZ.out.size)); clear hb
    go_wp2_with fail
    go_ret
    exact ⟨rfl, HSZ.out⟩
  by_cases hz1 : s0 + s1 ≤ 1048576
  rotate_left
  · go_enter Try.func5, Try.ntmps5
    go_wp2_with fail
    refine (szEntryS_okI A0 n0 c0 xs0 _ s0 _ (by omega) (by omega) (by omega) (by omega) HS_0.out (fun x hx => (HIN0.out x hx).1) (HR0.out.below HSZ.out)).mono ?_
    rintro e wz ⟨rfl, hb⟩
    have HSZ := Lib.hid (HSZ.out.trans (hb.mono HSZ.out.size)); clear hb
    go_wp2_with fail
    refine (szEntryS_bigI A1 n1 c1 xs1 _ s1 _ (by omega) (by omega) (by omega) (by omega) HS_1.out (fun x hx => (HIN1.out x hx).1) (HR1.out.below HSZ.out)).mono ?_
    rintro e wz ⟨rfl, hb⟩
    have HSZ := Lib.hid (HSZ.out.trans (hb.mono HSZ.out.size)); clear hb
    go_wp2_with fail
    go_ret
    exact ⟨rfl, HSZ.out⟩
  have HLX0 := Lib.hid (bdEntryS (xs := xs0) (n := n0) (s := s0) HS_0.out (by omega))
  have HLX1 := Lib.hid (bdEntryS (xs := xs1) (n := n1) (s := s1) HS_1.out (by omega))
  obtain ⟨S0, hS0⟩ : ∃ S0, S0 = w := ⟨_, rfl⟩
  have HS0 := Lib.hid hS0
  have BW0 : Hid (Below w.heap.size w S0 ∧ w.heap.size ≤ S0.heap.size) := Lib.hid (by subst hS0; exact ⟨(Below.refl _ _), by simp; try omega⟩)
  rw [← hS0] at HR0
  rw [← hS0] at HR1
  clear hS0
  go_enter Try.func5, Try.ntmps5
  have BB0 : Hid (Below S0.heap.size S0 S0) := Lib.hid (Below.refl _ _)
  have HM0 := Lib.hid (show mE xs0 ≤ 4000000 by have := HS_0.out; unfold mE; omega)
  have HM1 := Lib.hid (show mE xs1 ≤ 4000000 by have := HS_1.out; unfold mE; omega)
  clear HSZ
  try rw [← HS0.out]
  go_wp2_with fail
  try rw [← HS0.out]
  refine (szEntryS_okI A0 n0 c0 xs0 _ s0 S0 (by omega) (by omega) (by omega) (by omega) HS_0.out (fun x hx => (HIN0.out x hx).1) (HR0.out.below BB0.out)).mono ?_
  rintro e w1 ⟨rfl, hb⟩
  have B0 := Lib.hid hb; clear hb
  have Z0 := Lib.hid (B0.out.size)
  have BB1 := Lib.hid (BB0.out.trans (B0.out.mono BB0.out.size))
  go_wp2_with fail
  refine (szEntryS_okI A1 n1 c1 xs1 _ s1 w1 (by omega) (by omega) (by omega) (by omega) HS_1.out (fun x hx => (HIN1.out x hx).1) (HR1.out.below BB1.out)).mono ?_
  rintro e w2 ⟨rfl, hb⟩
  have B1 := Lib.hid hb; clear hb
  have Z1 := Lib.hid (B1.out.size)
  have BB2 := Lib.hid (BB1.out.trans (B1.out.mono BB1.out.size))
  go_wp2_with fail
  refine (toEntryS_any A0 n0 c0 xs0 w2 (by omega) HLX0.out (HR0.out.below BB2.out)).mono ?_
  rintro e w3 ⟨As0, cs0, hss0, rfl, hown, hb⟩
  have Os0_3 := Lib.hid hown; clear hown
  have B2 := Lib.hid hb; clear hb
  have Z2 := Lib.hid (B2.out.size)
  have BB3 := Lib.hid (BB2.out.trans (B2.out.mono BB2.out.size))
  go_wp2_with fail
  refine (toEntryS_any A1 n1 c1 xs1 w3 (by omega) HLX1.out (HR1.out.below BB3.out)).mono ?_
  rintro e w4 ⟨As1, cs1, hss1, rfl, hown, hb⟩
  have Os1_4 := Lib.hid hown; clear hown
  have B3 := Lib.hid hb; clear hb
  have Z3 := Lib.hid (B3.out.size)
  have BB4 := Lib.hid (BB3.out.trans (B3.out.mono BB3.out.size))
  have Os0_4 := Lib.hid (Os0_3.out.below B3.out (Nat.le_refl _))
  go_wp2_with fail
  refine (specRebuildLog_any As0 n0 cs0 xs0 As1 n1 cs1 xs1 a2 a3 w4 (by omega) HLX0.out (Reads2.of_own Os0_4.out) (own_cap Os0_4.out.row) (by omega) HLX1.out (Reads2.of_own Os1_4.out) (own_cap Os1_4.out.row)).mono ?_
  rintro e w5 ⟨Aw, cw, hsw, rfl, hown, hb⟩
  have Ow_5 := Lib.hid hown; clear hown
  have B4 := Lib.hid hb; clear hb
  have Z4 := Lib.hid (B4.out.size)
  have BB5 := Lib.hid (BB4.out.trans (B4.out.mono BB4.out.size))
  have Os0_5 := Lib.hid (Os0_4.out.below B4.out (by have := Z3.out; omega))
  have Os1_5 := Lib.hid (Os1_4.out.below B4.out (Nat.le_refl _))
  go_wp2_with fail
  refine (toEntryS_any A0 n0 c0 xs0 w5 (by omega) HLX0.out (HR0.out.below BB5.out)).mono ?_
  rintro e w6 ⟨Ax0, cx0, hsx0, rfl, hown, hb⟩
  have Ox0_6 := Lib.hid hown; clear hown
  have B5 := Lib.hid hb; clear hb
  have Z5 := Lib.hid (B5.out.size)
  have BB6 := Lib.hid (BB5.out.trans (B5.out.mono BB5.out.size))
  have Ow_6 := Lib.hid (Ow_5.out.below B5.out (Nat.le_refl _))
  go_wp2_with fail
  refine (toEntryS_any A1 n1 c1 xs1 w6 (by omega) HLX1.out (HR1.out.below BB6.out)).mono ?_
  rintro e w7 ⟨Ax1, cx1, hsx1, rfl, hown, hb⟩
  have Ox1_7 := Lib.hid hown; clear hown
  have B6 := Lib.hid hb; clear hb
  have Z6 := Lib.hid (B6.out.size)
  have BB7 := Lib.hid (BB6.out.trans (B6.out.mono BB6.out.size))
  have Ow_7 := Lib.hid (Ow_6.out.below B6.out (by have := Z5.out; omega))
  have Ox0_7 := Lib.hid (Ox0_6.out.below B6.out (Nat.le_refl _))
  go_wp2_with fail
  refine (implRebuildLog_any Ax0 n0 cx0 xs0 Ax1 n1 cx1 xs1 a2 a3 w7 (by omega) HLX0.out (Reads2.of_own Ox0_7.out) (own_cap Ox0_7.out.row) (by omega) HLX1.out (Reads2.of_own Ox1_7.out) (own_cap Ox1_7.out.row)).mono ?_
  rintro e w8 ⟨Ag, cg, hsg, rfl, hown, hb⟩
  have Og_8 := Lib.hid hown; clear hown
  have B7 := Lib.hid hb; clear hb
  have Z7 := Lib.hid (B7.out.size)
  have BB8 := Lib.hid (BB7.out.trans (B7.out.mono BB7.out.size))
  have Ow_8 := Lib.hid (Ow_7.out.below B7.out (by have := Z5.out; have := Z6.out; omega))
  have Ox0_8 := Lib.hid (Ox0_7.out.below B7.out (by have := Z6.out; omega))
  have Ox1_8 := Lib.hid (Ox1_7.out.below B7.out (Nat.le_refl _))
  go_wp2_with fail
  refine (eqEntryS_any Ag Aw ((rebR xs0 xs1 a2 a3).1).length cg cw (rebR xs0 xs1 a2 a3).1 w8 (by (have := rebR_len xs0 xs1 a2 a3; have := rebR_mE xs0 xs1 a2 a3; omega)) (rebR_lenE xs0 xs1 a2 a3) (Reads2.of_own Og_8.out) (Reads2.of_own Ow_8.out)).mono ?_
  rintro e w9 ⟨rfl, hb⟩
  have B8 := Lib.hid hb; clear hb
  have Z8 := Lib.hid (B8.out.size)
  have BB9 := Lib.hid (BB8.out.trans (B8.out.mono BB8.out.size))
  have Ow_9 := Lib.hid (Ow_8.out.below B8.out (by have := Z5.out; have := Z6.out; have := Z7.out; omega))
  have Ox0_9 := Lib.hid (Ox0_8.out.below B8.out (by have := Z6.out; have := Z7.out; omega))
  have Ox1_9 := Lib.hid (Ox1_8.out.below B8.out (by have := Z7.out; omega))
  have Og_9 := Lib.hid (Og_8.out.below B8.out (Nat.le_refl _))
  go_wp2_with fail
  refine (toEntryS_any A0 n0 c0 xs0 w9 (by omega) HLX0.out (HR0.out.below BB9.out)).mono ?_
  rintro e w10 ⟨At0, ct0, hst0, rfl, hown, hb⟩
  have Ot0_10 := Lib.hid hown; clear hown
  have B9 := Lib.hid hb; clear hb
  have Z9 := Lib.hid (B9.out.size)
  have BB10 := Lib.hid (BB9.out.trans (B9.out.mono BB9.out.size))
  have Ow_10 := Lib.hid (Ow_9.out.below B9.out (by have := Z5.out; have := Z6.out; have := Z7.out; have := Z8.out; omega))
  have Ox0_10 := Lib.hid (Ox0_9.out.below B9.out (by have := Z6.out; have := Z7.out; have := Z8.out; omega))
  have Ox1_10 := Lib.hid (Ox1_9.out.below B9.out (by have := Z7.out; have := Z8.out; omega))
  have Og_10 := Lib.hid (Og_9.out.below B9.out (by have := Z8.out; omega))
  go_wp2_with fail
  refine (eqEntryS_any Ax0 At0 n0 cx0 ct0 xs0 w10 (by omega) HLX0.out (Reads2.of_own Ox0_10.out) (Reads2.of_own Ot0_10.out)).mono ?_
  rintro e w11 ⟨rfl, hb⟩
  have B10 := Lib.hid hb; clear hb
  have Z10 := Lib.hid (B10.out.size)
  have BB11 := Lib.hid (BB10.out.trans (B10.out.mono BB10.out.size))
  have Ow_11 := Lib.hid (Ow_10.out.below B10.out (by have := Z5.out; have := Z6.out; have := Z7.out; have := Z8.out; have := Z9.out; omega))
  have Ox0_11 := Lib.hid (Ox0_10.out.below B10.out (by have := Z6.out; have := Z7.out; have := Z8.out; have := Z9.out; omega))
  have Ox1_11 := Lib.hid (Ox1_10.out.below B10.out (by have := Z7.out; have := Z8.out; have := Z9.out; omega))
  have Og_11 := Lib.hid (Og_10.out.below B10.out (by have := Z8.out; have := Z9.out; omega))
  have Ot0_11 := Lib.hid (Ot0_10.out.below B10.out (Nat.le_refl _))
  go_wp2_with fail
  refine (toEntryS_any A1 n1 c1 xs1 w11 (by omega) HLX1.out (HR1.out.below BB11.out)).mono ?_
  rintro e w12 ⟨At1, ct1, hst1, rfl, hown, hb⟩
  have Ot1_12 := Lib.hid hown; clear hown
  have B11 := Lib.hid hb; clear hb
  have Z11 := Lib.hid (B11.out.size)
  have BB12 := Lib.hid (BB11.out.trans (B11.out.mono BB11.out.size))
  have Ow_12 := Lib.hid (Ow_11.out.below B11.out (by have := Z5.out; have := Z6.out; have := Z7.out; have := Z8.out; have := Z9.out; have := Z10.out; omega))
  have Ox0_12 := Lib.hid (Ox0_11.out.below B11.out (by have := Z6.out; have := Z7.out; have := Z8.out; have := Z9.out; have := Z10.out; omega))
  have Ox1_12 := Lib.hid (Ox1_11.out.below B11.out (by have := Z7.out; have := Z8.out; have := Z9.out; have := Z10.out; omega))
  have Og_12 := Lib.hid (Og_11.out.below B11.out (by have := Z8.out; have := Z9.out; have := Z10.out; omega))
  go_wp2_with fail
  refine (eqEntryS_any Ax1 At1 n1 cx1 ct1 xs1 w12 (by omega) HLX1.out (Reads2.of_own Ox1_12.out) (Reads2.of_own Ot1_12.out)).mono ?_
  rintro e w13 ⟨rfl, hb⟩
  have B12 := Lib.hid hb; clear hb
  have Z12 := Lib.hid (B12.out.size)
  have BB13 := Lib.hid (BB12.out.trans (B12.out.mono BB12.out.size))
  have Ow_13 := Lib.hid (Ow_12.out.below B12.out (by have := Z5.out; have := Z6.out; have := Z7.out; have := Z8.out; have := Z9.out; have := Z10.out; have := Z11.out; omega))
  have Ox0_13 := Lib.hid (Ox0_12.out.below B12.out (by have := Z6.out; have := Z7.out; have := Z8.out; have := Z9.out; have := Z10.out; have := Z11.out; omega))
  have Ox1_13 := Lib.hid (Ox1_12.out.below B12.out (by have := Z7.out; have := Z8.out; have := Z9.out; have := Z10.out; have := Z11.out; omega))
  have Og_13 := Lib.hid (Og_12.out.below B12.out (by have := Z8.out; have := Z9.out; have := Z10.out; have := Z11.out; omega))
  have Ot1_13 := Lib.hid (Ot1_12.out.below B12.out (Nat.le_refl _))
  go_wp2_with fail
  refine (markEntryS_any Ax0 n0 cx0 (1) w5.heap.size w6.heap.size xs0 hsx0 w13 (by have := HS_0.out; have := HM0.out; have := HM1.out; omega) (by have := HS_0.out; have := HM0.out; have := HM1.out; omega) (by have := Z6.out; have := Z7.out; have := Z8.out; have := Z9.out; have := Z10.out; have := Z11.out; have := Z12.out; omega) Ox0_13.out).mono ?_
  rintro e w14 ⟨rfl, ⟨hsx0, hown⟩, hT⟩
  have T13 := Lib.hid hT; clear hT
  have Ox0_14 := Lib.hid hown; clear hown
  have Z13 := Lib.hid T13.out.size
  have BB14 := Lib.hid (below_turned BB13.out T13.out (by have := Z0.out; have := Z1.out; have := Z2.out; have := Z3.out; have := Z4.out; omega) BB13.out.size)
  have Ow_14 := Lib.hid (Own2.turned_after Ow_13.out T13.out (by have := Z5.out; have := Z6.out; have := Z7.out; have := Z8.out; have := Z9.out; have := Z10.out; have := Z11.out; have := Z12.out; omega) (Nat.le_refl _))
  have Ox1_14 := Lib.hid (Own2.turned_before Ox1_13.out T13.out (by have := Z7.out; have := Z8.out; have := Z9.out; have := Z10.out; have := Z11.out; have := Z12.out; omega) (Nat.le_refl _))
  have Og_14 := Lib.hid (Own2.turned_before Og_13.out T13.out (by have := Z8.out; have := Z9.out; have := Z10.out; have := Z11.out; have := Z12.out; omega) (by have := Z6.out; omega))
  go_wp2_with fail
  refine (markEntryS_any Ax1 n1 cx1 (1 + mE xs0) w6.heap.size w7.heap.size xs1 hsx1 w14 (by have := HS_1.out; have := HM0.out; have := HM1.out; omega) (by have := HS_1.out; have := HM0.out; have := HM1.out; omega) (by have := Z7.out; have := Z8.out; have := Z9.out; have := Z10.out; have := Z11.out; have := Z12.out; have := Z13.out; omega) Ox1_14.out).mono ?_
  rintro e w15 ⟨rfl, ⟨hsx1, hown⟩, hT⟩
  have T14 := Lib.hid hT; clear hT
  have Ox1_15 := Lib.hid hown; clear hown
  have Z14 := Lib.hid T14.out.size
  have BB15 := Lib.hid (below_turned BB14.out T14.out (by have := Z0.out; have := Z1.out; have := Z2.out; have := Z3.out; have := Z4.out; have := Z5.out; omega) BB14.out.size)
  have Ow_15 := Lib.hid (Own2.turned_after Ow_14.out T14.out (by have := Z5.out; have := Z6.out; have := Z7.out; have := Z8.out; have := Z9.out; have := Z10.out; have := Z11.out; have := Z12.out; have := Z13.out; omega) (by have := Z5.out; omega))
  have Ox0_15 := Lib.hid (Own2.turned_after Ox0_14.out T14.out (by have := Z6.out; have := Z7.out; have := Z8.out; have := Z9.out; have := Z10.out; have := Z11.out; have := Z12.out; have := Z13.out; omega) (Nat.le_refl _))
  have Og_15 := Lib.hid (Own2.turned_before Og_14.out T14.out (by have := Z8.out; have := Z9.out; have := Z10.out; have := Z11.out; have := Z12.out; have := Z13.out; omega) (Nat.le_refl _))
  go_wp2_with fail
  refine (eqEntryS_any Ag Aw ((rebR xs0 xs1 a2 a3).1).length cg cw (rebR xs0 xs1 a2 a3).1 w15 (by (have := rebR_len xs0 xs1 a2 a3; have := rebR_mE xs0 xs1 a2 a3; omega)) (rebR_lenE xs0 xs1 a2 a3) (Reads2.of_own Og_15.out) (Reads2.of_own Ow_15.out)).mono ?_
  rintro e w16 ⟨rfl, hb⟩
  have B15 := Lib.hid hb; clear hb
  have Z15 := Lib.hid (B15.out.size)
  have BB16 := Lib.hid (BB15.out.trans (B15.out.mono BB15.out.size))
  have Ow_16 := Lib.hid (Ow_15.out.below B15.out (by have := Z5.out; have := Z6.out; have := Z7.out; have := Z8.out; have := Z9.out; have := Z10.out; have := Z11.out; have := Z12.out; have := Z13.out; have := Z14.out; omega))
  have Ox0_16 := Lib.hid (Ox0_15.out.below B15.out (by have := Z6.out; have := Z7.out; have := Z8.out; have := Z9.out; have := Z10.out; have := Z11.out; have := Z12.out; have := Z13.out; have := Z14.out; omega))
  have Ox1_16 := Lib.hid (Ox1_15.out.below B15.out (by have := Z7.out; have := Z8.out; have := Z9.out; have := Z10.out; have := Z11.out; have := Z12.out; have := Z13.out; have := Z14.out; omega))
  have Og_16 := Lib.hid (Og_15.out.below B15.out (by have := Z8.out; have := Z9.out; have := Z10.out; have := Z11.out; have := Z12.out; have := Z13.out; have := Z14.out; omega))
  go_wp2_with fail
  refine (markEntryS_any Ag ((rebR xs0 xs1 a2 a3).1).length cg (1) w7.heap.size w8.heap.size (rebR xs0 xs1 a2 a3).1 hsg w16 (by (have := rebR_len xs0 xs1 a2 a3; have := rebR_mE xs0 xs1 a2 a3; omega)) (by (have := rebR_len xs0 xs1 a2 a3; have := rebR_mE xs0 xs1 a2 a3; omega)) (by have := Z8.out; have := Z9.out; have := Z10.out; have := Z11.out; have := Z12.out; have := Z13.out; have := Z14.out; have := Z15.out; omega) Og_16.out).mono ?_
  rintro e w17 ⟨rfl, ⟨hsg, hown⟩, hT⟩
  have T16 := Lib.hid hT; clear hT
  have Og_17 := Lib.hid hown; clear hown
  have Z16 := Lib.hid T16.out.size
  have BB17 := Lib.hid (below_turned BB16.out T16.out (by have := Z0.out; have := Z1.out; have := Z2.out; have := Z3.out; have := Z4.out; have := Z5.out; have := Z6.out; omega) BB16.out.size)
  have Ow_17 := Lib.hid (Own2.turned_after Ow_16.out T16.out (by have := Z5.out; have := Z6.out; have := Z7.out; have := Z8.out; have := Z9.out; have := Z10.out; have := Z11.out; have := Z12.out; have := Z13.out; have := Z14.out; have := Z15.out; omega) (by have := Z5.out; have := Z6.out; omega))
  go_wp2_with fail
  refine (heldEntryS_any Ag ((rebR xs0 xs1 a2 a3).1).length cg (1) (rebR xs0 xs1 a2 a3).1 w17 (by (have := rebR_len xs0 xs1 a2 a3; have := rebR_mE xs0 xs1 a2 a3; omega)) (by (have := rebR_len xs0 xs1 a2 a3; have := rebR_mE xs0 xs1 a2 a3; omega)) (Reads2.of_own Og_17.out)).mono ?_
  rintro e w18 ⟨rfl, hb⟩
  subst hb
  go_wp2_with fail
  refine (toEntryS_any A0 n0 c0 xs0 w17 (by omega) HLX0.out (HR0.out.below BB17.out)).mono ?_
  rintro e w18 ⟨Ay0, cy0, hsy0, rfl, hown, hb⟩
  have Oy0_18 := Lib.hid hown; clear hown
  have B17 := Lib.hid hb; clear hb
  have Z17 := Lib.hid (B17.out.size)
  have BB18 := Lib.hid (BB17.out.trans (B17.out.mono BB17.out.size))
  have Ow_18 := Lib.hid (Ow_17.out.below B17.out (by have := Z5.out; have := Z6.out; have := Z7.out; have := Z8.out; have := Z9.out; have := Z10.out; have := Z11.out; have := Z12.out; have := Z13.out; have := Z14.out; have := Z15.out; have := Z16.out; omega))
  have Og_18 := Lib.hid (Og_17.out.below B17.out (by have := Z8.out; have := Z9.out; have := Z10.out; have := Z11.out; have := Z12.out; have := Z13.out; have := Z14.out; have := Z15.out; have := Z16.out; omega))
  go_wp2_with fail
  refine (toEntryS_any A1 n1 c1 xs1 w18 (by omega) HLX1.out (HR1.out.below BB18.out)).mono ?_
  rintro e w19 ⟨Ay1, cy1, hsy1, rfl, hown, hb⟩
  have Oy1_19 := Lib.hid hown; clear hown
  have B18 := Lib.hid hb; clear hb
  have Z18 := Lib.hid (B18.out.size)
  have BB19 := Lib.hid (BB18.out.trans (B18.out.mono BB18.out.size))
  have Ow_19 := Lib.hid (Ow_18.out.below B18.out (by have := Z5.out; have := Z6.out; have := Z7.out; have := Z8.out; have := Z9.out; have := Z10.out; have := Z11.out; have := Z12.out; have := Z13.out; have := Z14.out; have := Z15.out; have := Z16.out; have := Z17.out; omega))
  have Og_19 := Lib.hid (Og_18.out.below B18.out (by have := Z8.out; have := Z9.out; have := Z10.out; have := Z11.out; have := Z12.out; have := Z13.out; have := Z14.out; have := Z15.out; have := Z16.out; have := Z17.out; omega))
  have Oy0_19 := Lib.hid (Oy0_18.out.below B18.out (Nat.le_refl _))
  go_wp2_with fail
  refine (implRebuildLog_any Ay0 n0 cy0 xs0 Ay1 n1 cy1 xs1 a2 a3 w19 (by omega) HLX0.out (Reads2.of_own Oy0_19.out) (own_cap Oy0_19.out.row) (by omega) HLX1.out (Reads2.of_own Oy1_19.out) (own_cap Oy1_19.out.row)).mono ?_
  rintro e w20 ⟨Ah, ch, hsh, rfl, hown, hb⟩
  have Oh_20 := Lib.hid hown; clear hown
  have B19 := Lib.hid hb; clear hb
  have Z19 := Lib.hid (B19.out.size)
  have BB20 := Lib.hid (BB19.out.trans (B19.out.mono BB19.out.size))
  have Ow_20 := Lib.hid (Ow_19.out.below B19.out (by have := Z5.out; have := Z6.out; have := Z7.out; have := Z8.out; have := Z9.out; have := Z10.out; have := Z11.out; have := Z12.out; have := Z13.out; have := Z14.out; have := Z15.out; have := Z16.out; have := Z17.out; have := Z18.out; omega))
  have Og_20 := Lib.hid (Og_19.out.below B19.out (by have := Z8.out; have := Z9.out; have := Z10.out; have := Z11.out; have := Z12.out; have := Z13.out; have := Z14.out; have := Z15.out; have := Z16.out; have := Z17.out; have := Z18.out; omega))
  have Oy0_20 := Lib.hid (Oy0_19.out.below B19.out (by have := Z18.out; omega))
  have Oy1_20 := Lib.hid (Oy1_19.out.below B19.out (Nat.le_refl _))
  go_wp2_with fail
  refine (eqEntryS_any Ah Aw ((rebR xs0 xs1 a2 a3).1).length ch cw (rebR xs0 xs1 a2 a3).1 w20 (by (have := rebR_len xs0 xs1 a2 a3; have := rebR_mE xs0 xs1 a2 a3; omega)) (rebR_lenE xs0 xs1 a2 a3) (Reads2.of_own Oh_20.out) (Reads2.of_own Ow_20.out)).mono ?_
  rintro e w21 ⟨rfl, hb⟩
  have B20 := Lib.hid hb; clear hb
  have Z20 := Lib.hid (B20.out.size)
  have BB21 := Lib.hid (BB20.out.trans (B20.out.mono BB20.out.size))
  have Ow_21 := Lib.hid (Ow_20.out.below B20.out (by have := Z5.out; have := Z6.out; have := Z7.out; have := Z8.out; have := Z9.out; have := Z10.out; have := Z11.out; have := Z12.out; have := Z13.out; have := Z14.out; have := Z15.out; have := Z16.out; have := Z17.out; have := Z18.out; have := Z19.out; omega))
  have Og_21 := Lib.hid (Og_20.out.below B20.out (by have := Z8.out; have := Z9.out; have := Z10.out; have := Z11.out; have := Z12.out; have := Z13.out; have := Z14.out; have := Z15.out; have := Z16.out; have := Z17.out; have := Z18.out; have := Z19.out; omega))
  have Oh_21 := Lib.hid (Oh_20.out.below B20.out (Nat.le_refl _))
  go_wp2_with fail
  refine (heldEntryS_any Ag ((rebR xs0 xs1 a2 a3).1).length cg (1) (rebR xs0 xs1 a2 a3).1 w21 (by (have := rebR_len xs0 xs1 a2 a3; have := rebR_mE xs0 xs1 a2 a3; omega)) (by (have := rebR_len xs0 xs1 a2 a3; have := rebR_mE xs0 xs1 a2 a3; omega)) (Reads2.of_own Og_21.out)).mono ?_
  rintro e w22 ⟨rfl, hb⟩
  subst hb
  go_wp2_with fail
  go_ret
  first | exact ⟨rfl, BW0.out.1.trans (BB21.out.mono BW0.out.2)⟩ | exact ⟨rfl, BB21.out⟩

end Go.Proofs.Ytcjmlakmigfkfaa
