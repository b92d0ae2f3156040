/- The law over JoinDays of both packages. No conditions. -/
import Derived.Test.YtjibdabedagghaaJoiU
namespace Go.Proofs.Ytjibdabedagghaa
set_option linter.unusedSimpArgs false
set_option linter.unusedVariables false
open Go.RowKit

theorem tot_le {X : PL} {b : Nat} (h : ∀ x ∈ X, x.length ≤ b) : tot (X.map ints) ≤ b * X.length := by
  induction X with
  | nil => simp [tot]
  | cons x r ih =>
    have h1 := ih (fun y hy => h y (by simp [hy]))
    have h2 := h x (by simp)
    simp only [tot, List.map_cons, List.sum_cons, List.length_cons, length_ints] at h1 ⊢
    rw [Nat.mul_add]
    omega
theorem joinR_tot (L : PL) (f t : Int) : tot ((joinR L f t).1.map ints) ≤ 240 := by
  have h := joinR_bd L f t
  have h1 := tot_le h.2
  have h2 : 8 * (joinR L f t).1.length ≤ 8 * 30 := Nat.mul_le_mul_left _ h.1
  omega
set_option maxHeartbeats 4000000 in
set_option maxRecDepth 100000 in
theorem law_FnExactJoinDays (w : World) {v0 v1 v2 : Value} (h0 : IsIntss w v0) (h1 : IsInt v1) (h2 : IsInt v2) :
    Calls Try.prog 12 #[v0, v1, v2] w fun e w' => e = .returned (.bool true) ∧ Below w.heap.size w w' := by
  obtain ⟨A0, n0, c0, xs0, rfl, hnc0, hcm0, _, hr0, hin0⟩ := h0
  obtain ⟨a1, rfl, _⟩ := h1
  obtain ⟨a2, rfl, _⟩ := h2
  have HR0 := Lib.hid (hr0); clear hr0
  have HIN0 := Lib.hid hin0; clear hin0
  obtain ⟨s0, hs0⟩ : ∃ s, s = n0 + tot (xs0.map ints) := ⟨_, rfl⟩
  have HS_0 := Lib.hid hs0
  have hs0' : n0 ≤ s0 := by omega
  clear hs0
  by_cases hz0 : s0 ≤ 1048576
  rotate_left
  · go_enter Try.func12, Try.ntmps12
    go_wp2_with fail
    refine (szIntSS_bigI A0 n0 c0 xs0 _ s0 _ (by omega) (by omega) (by omega) (by omega) HS_0.out (fun x hx => (HIN0.out x hx).1) HR0.out).mono ?_
    rintro e w' ⟨rfl, rfl⟩
    go_wp2_with fail
    go_ret
    exact ⟨rfl, (Below.refl _ _)⟩
  have HLX0 := Lib.hid (bdIntSS (xs := xs0) (n := n0) (s := s0) HS_0.out (by omega))
  obtain ⟨S0, hS0⟩ : ∃ S0, S0 = w := ⟨_, rfl⟩
  have HS0 := Lib.hid hS0
  have BW0 : Hid (Below w.heap.size w S0 ∧ w.heap.size ≤ S0.heap.size) := Lib.hid (by subst hS0; exact ⟨(Below.refl _ _), by simp; try omega⟩)
  rw [← hS0] at HR0
  clear hS0
  go_enter Try.func12, Try.ntmps12
  try rw [← HS0.out]
  go_wp2_with fail
  try rw [← HS0.out]
  refine (szIntSS_okI A0 n0 c0 xs0 _ s0 _ (by omega) (by omega) (by omega) (by omega) HS_0.out (fun x hx => (HIN0.out x hx).1) HR0.out).mono ?_
  rintro e w' ⟨rfl, rfl⟩
  have BB0 : Hid (Below S0.heap.size S0 S0) := Lib.hid (Below.refl _ _)
  try rw [← HS0.out]
  go_wp2_with fail
  try rw [← HS0.out]
  refine (toIntSS_any A0 n0 c0 xs0 S0 (by omega) HLX0.out (HR0.out.below BB0.out)).mono ?_
  rintro e w1 ⟨As0, cs0, hss0, rfl, hown, hb⟩
  have Os0_1 := Lib.hid hown; clear hown
  have B0 := Lib.hid hb; clear hb
  have Z0 := Lib.hid (B0.out.size)
  have BB1 := Lib.hid (BB0.out.trans (B0.out.mono BB0.out.size))
  go_wp2_with fail
  refine (specJoinDays_any As0 n0 cs0 xs0 a1 a2 w1 (by omega) HLX0.out (Reads2.of_own Os0_1.out)).mono ?_
  rintro e w2 ⟨Aw, cw, hsw, rfl, hown, hb⟩
  have Ow_2 := Lib.hid hown; clear hown
  have B1 := Lib.hid hb; clear hb
  have Z1 := Lib.hid (B1.out.size)
  have BB2 := Lib.hid (BB1.out.trans (B1.out.mono BB1.out.size))
  have Os0_2 := Lib.hid (Os0_1.out.below B1.out (Nat.le_refl _))
  go_wp2_with fail
  refine (toIntSS_any A0 n0 c0 xs0 w2 (by omega) HLX0.out (HR0.out.below BB2.out)).mono ?_
  rintro e w3 ⟨Ax0, cx0, hsx0, rfl, hown, hb⟩
  have Ox0_3 := Lib.hid hown; clear hown
  have B2 := Lib.hid hb; clear hb
  have Z2 := Lib.hid (B2.out.size)
  have BB3 := Lib.hid (BB2.out.trans (B2.out.mono BB2.out.size))
  have Ow_3 := Lib.hid (Ow_2.out.below B2.out (Nat.le_refl _))
  go_wp2_with fail
  refine (implJoinDays_any Ax0 n0 cx0 xs0 a1 a2 w3 (by omega) HLX0.out (Reads2.of_own Ox0_3.out)).mono ?_
  rintro e w4 ⟨Ag, cg, hsg, rfl, hown, hb⟩
  have Og_4 := Lib.hid hown; clear hown
  have B3 := Lib.hid hb; clear hb
  have Z3 := Lib.hid (B3.out.size)
  have BB4 := Lib.hid (BB3.out.trans (B3.out.mono BB3.out.size))
  have Ow_4 := Lib.hid (Ow_3.out.below B3.out (by have := Z2.out; omega))
  have Ox0_4 := Lib.hid (Ox0_3.out.below B3.out (Nat.le_refl _))
  go_wp2_with fail
  refine (eqIntSS_any Ag Aw ((joinR xs0 a1 a2).1).length cg cw (joinR xs0 a1 a2).1 w4 (by (have := joinR_bd xs0 a1 a2; have := joinR_tot xs0 a1 a2; omega)) (fun x hx => by have := (joinR_bd xs0 a1 a2).2 x hx; omega) (Reads2.of_own Og_4.out) (Reads2.of_own Ow_4.out)).mono ?_
  rintro e w5 ⟨rfl, hb⟩
  have B4 := Lib.hid hb; clear hb
  have Z4 := Lib.hid (B4.out.size)
  have BB5 := Lib.hid (BB4.out.trans (B4.out.mono BB4.out.size))
  have Ow_5 := Lib.hid (Ow_4.out.below B4.out (by have := Z2.out; have := Z3.out; omega))
  have Ox0_5 := Lib.hid (Ox0_4.out.below B4.out (by have := Z3.out; omega))
  have Og_5 := Lib.hid (Og_4.out.below B4.out (Nat.le_refl _))
  go_wp2_with fail
  refine (toIntSS_any A0 n0 c0 xs0 w5 (by omega) HLX0.out (HR0.out.below BB5.out)).mono ?_
  rintro e w6 ⟨At0, ct0, hst0, rfl, hown, hb⟩
  have Ot0_6 := Lib.hid hown; clear hown
  have B5 := Lib.hid hb; clear hb
  have Z5 := Lib.hid (B5.out.size)
  have BB6 := Lib.hid (BB5.out.trans (B5.out.mono BB5.out.size))
  have Ow_6 := Lib.hid (Ow_5.out.below B5.out (by have := Z2.out; have := Z3.out; have := Z4.out; omega))
  have Ox0_6 := Lib.hid (Ox0_5.out.below B5.out (by have := Z3.out; have := Z4.out; omega))
  have Og_6 := Lib.hid (Og_5.out.below B5.out (by have := Z4.out; omega))
  go_wp2_with fail
  refine (eqIntSS_any Ax0 At0 n0 cx0 ct0 xs0 w6 (by omega) HLX0.out (Reads2.of_own Ox0_6.out) (Reads2.of_own Ot0_6.out)).mono ?_
  rintro e w7 ⟨rfl, hb⟩
  have B6 := Lib.hid hb; clear hb
  have Z6 := Lib.hid (B6.out.size)
  have BB7 := Lib.hid (BB6.out.trans (B6.out.mono BB6.out.size))
  have Ow_7 := Lib.hid (Ow_6.out.below B6.out (by have := Z2.out; have := Z3.out; have := Z4.out; have := Z5.out; omega))
  have Ox0_7 := Lib.hid (Ox0_6.out.below B6.out (by have := Z3.out; have := Z4.out; have := Z5.out; omega))
  have Og_7 := Lib.hid (Og_6.out.below B6.out (by have := Z4.out; have := Z5.out; omega))
  have Ot0_7 := Lib.hid (Ot0_6.out.below B6.out (Nat.le_refl _))
  go_wp2_with fail
  refine (markIntSS_any Ax0 n0 cx0 (1) w2.heap.size w3.heap.size (xs0.map ints) hsx0 w7 (by have := HS_0.out; omega) (by have := HS_0.out; omega) (by have := Z3.out; have := Z4.out; have := Z5.out; have := Z6.out; omega) Ox0_7.out).mono ?_
  rintro e w8 ⟨rfl, hown, hT⟩
  have T7 := Lib.hid hT; clear hT
  have Ox0_8 := Lib.hid hown; clear hown
  have Z7 := Lib.hid T7.out.size
  have BB8 := Lib.hid (below_turned BB7.out T7.out (by have := Z0.out; have := Z1.out; omega) BB7.out.size)
  have Ow_8 := Lib.hid (Own2.turned_after Ow_7.out T7.out (by have := Z2.out; have := Z3.out; have := Z4.out; have := Z5.out; have := Z6.out; omega) (Nat.le_refl _))
  have Og_8 := Lib.hid (Own2.turned_before Og_7.out T7.out (by have := Z4.out; have := Z5.out; have := Z6.out; omega) (Nat.le_refl _))
  go_wp2_with fail
  refine (eqIntSS_any Ag Aw ((joinR xs0 a1 a2).1).length cg cw (joinR xs0 a1 a2).1 w8 (by (have := joinR_bd xs0 a1 a2; have := joinR_tot xs0 a1 a2; omega)) (fun x hx => by have := (joinR_bd xs0 a1 a2).2 x hx; omega) (Reads2.of_own Og_8.out) (Reads2.of_own Ow_8.out)).mono ?_
  rintro e w9 ⟨rfl, hb⟩
  have B8 := Lib.hid hb; clear hb
  have Z8 := Lib.hid (B8.out.size)
  have BB9 := Lib.hid (BB8.out.trans (B8.out.mono BB8.out.size))
  have Ow_9 := Lib.hid (Ow_8.out.below B8.out (by have := Z2.out; have := Z3.out; have := Z4.out; have := Z5.out; have := Z6.out; have := Z7.out; omega))
  have Ox0_9 := Lib.hid (Ox0_8.out.below B8.out (by have := Z3.out; have := Z4.out; have := Z5.out; have := Z6.out; have := Z7.out; omega))
  have Og_9 := Lib.hid (Og_8.out.below B8.out (by have := Z4.out; have := Z5.out; have := Z6.out; have := Z7.out; omega))
  go_wp2_with fail
  refine (markIntSS_any Ag ((joinR xs0 a1 a2).1).length cg (1) w3.heap.size w4.heap.size ((joinR xs0 a1 a2).1.map ints) hsg w9 (by (have := joinR_bd xs0 a1 a2; have := joinR_tot xs0 a1 a2; omega)) (by (have := joinR_bd xs0 a1 a2; have := joinR_tot xs0 a1 a2; omega)) (by have := Z4.out; have := Z5.out; have := Z6.out; have := Z7.out; have := Z8.out; omega) Og_9.out).mono ?_
  rintro e w10 ⟨rfl, hown, hT⟩
  have T9 := Lib.hid hT; clear hT
  have Og_10 := Lib.hid hown; clear hown
  have Z9 := Lib.hid T9.out.size
  have BB10 := Lib.hid (below_turned BB9.out T9.out (by have := Z0.out; have := Z1.out; have := Z2.out; omega) BB9.out.size)
  have Ow_10 := Lib.hid (Own2.turned_after Ow_9.out T9.out (by have := Z2.out; have := Z3.out; have := Z4.out; have := Z5.out; have := Z6.out; have := Z7.out; have := Z8.out; omega) (by have := Z2.out; omega))
  go_wp2_with fail
  refine (heldIntSS_any Ag ((joinR xs0 a1 a2).1).length cg (1) ((joinR xs0 a1 a2).1.map ints) w10 (by (have := joinR_bd xs0 a1 a2; have := joinR_tot xs0 a1 a2; omega)) (by (have := joinR_bd xs0 a1 a2; have := joinR_tot xs0 a1 a2; omega)) (Reads2.of_own Og_10.out)).mono ?_
  rintro e w11 ⟨rfl, hb⟩
  subst hb
  go_wp2_with fail
  refine (toIntSS_any A0 n0 c0 xs0 w10 (by omega) HLX0.out (HR0.out.below BB10.out)).mono ?_
  rintro e w11 ⟨Ay0, cy0, hsy0, rfl, hown, hb⟩
  have Oy0_11 := Lib.hid hown; clear hown
  have B10 := Lib.hid hb; clear hb
  have Z10 := Lib.hid (B10.out.size)
  have BB11 := Lib.hid (BB10.out.trans (B10.out.mono BB10.out.size))
  have Ow_11 := Lib.hid (Ow_10.out.below B10.out (by have := Z2.out; have := Z3.out; have := Z4.out; have := Z5.out; have := Z6.out; have := Z7.out; have := Z8.out; have := Z9.out; omega))
  have Og_11 := Lib.hid (Og_10.out.below B10.out (by have := Z4.out; have := Z5.out; have := Z6.out; have := Z7.out; have := Z8.out; have := Z9.out; omega))
  go_wp2_with fail
  refine (implJoinDays_any Ay0 n0 cy0 xs0 a1 a2 w11 (by omega) HLX0.out (Reads2.of_own Oy0_11.out)).mono ?_
  rintro e w12 ⟨Ah, ch, hsh, rfl, hown, hb⟩
  have Oh_12 := Lib.hid hown; clear hown
  have B11 := Lib.hid hb; clear hb
  have Z11 := Lib.hid (B11.out.size)
  have BB12 := Lib.hid (BB11.out.trans (B11.out.mono BB11.out.size))
  have Ow_12 := Lib.hid (Ow_11.out.below B11.out (by have := Z2.out; have := Z3.out; have := Z4.out; have := Z5.out; have := Z6.out; have := Z7.out; have := Z8.out; have := Z9.out; have := Z10.out; omega))
  have Og_12 := Lib.hid (Og_11.out.below B11.out (by have := Z4.out; have := Z5.out; have := Z6.out; have := Z7.out; have := Z8.out; have := Z9.out; have := Z10.out; omega))
  have Oy0_12 := Lib.hid (Oy0_11.out.below B11.out (Nat.le_refl _))
  go_wp2_with fail
  refine (eqIntSS_any Ah Aw ((joinR xs0 a1 a2).1).length ch cw (joinR xs0 a1 a2).1 w12 (by (have := joinR_bd xs0 a1 a2; have := joinR_tot xs0 a1 a2; omega)) (fun x hx => by have := (joinR_bd xs0 a1 a2).2 x hx; omega) (Reads2.of_own Oh_12.out) (Reads2.of_own Ow_12.out)).mono ?_
  rintro e w13 ⟨rfl, hb⟩
  have B12 := Lib.hid hb; clear hb
  have Z12 := Lib.hid (B12.out.size)
  have BB13 := Lib.hid (BB12.out.trans (B12.out.mono BB12.out.size))
  have Ow_13 := Lib.hid (Ow_12.out.below B12.out (by have := Z2.out; have := Z3.out; have := Z4.out; have := Z5.out; have := Z6.out; have := Z7.out; have := Z8.out; have := Z9.out; have := Z10.out; have := Z11.out; omega))
  have Og_13 := Lib.hid (Og_12.out.below B12.out (by have := Z4.out; have := Z5.out; have := Z6.out; have := Z7.out; have := Z8.out; have := Z9.out; have := Z10.out; have := Z11.out; omega))
  have Oh_13 := Lib.hid (Oh_12.out.below B12.out (Nat.le_refl _))
  go_wp2_with fail
  refine (heldIntSS_any Ag ((joinR xs0 a1 a2).1).length cg (1) ((joinR xs0 a1 a2).1.map ints) w13 (by (have := joinR_bd xs0 a1 a2; have := joinR_tot xs0 a1 a2; omega)) (by (have := joinR_bd xs0 a1 a2; have := joinR_tot xs0 a1 a2; omega)) (Reads2.of_own Og_13.out)).mono ?_
  rintro e w14 ⟨rfl, hb⟩
  subst hb
  go_wp2_with fail
  go_ret
  first | exact ⟨rfl, BW0.out.1.trans (BB13.out.mono BW0.out.2)⟩ | exact ⟨rfl, BB13.out⟩

end Go.Proofs.Ytjibdabedagghaa
