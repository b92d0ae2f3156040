/- Contracts of the tests on what is asked and of the wage, of both packages. No conditions. -/
import Derived.Test.YtiofgoppgdgbaaaDoorSh6
namespace Go.Proofs.YtiofgoppgdgbaaaDoor
set_option linter.unusedSimpArgs false
set_option linter.unusedVariables false
open Go.RowKit

def baseV (a b c hh nn m : Int) : Int := a * hh + a * b * nn / 100 + c * m
def wageV (a b c d hh nn m : Int) : Int := if 0 < hh then max (baseV a b c hh nn m) d else baseV a b c hh nn m
def wage (a b c d : Int) (l : List S3) (op m : Int) : Int := wageV a b c d (duty op l).1 (duty op l).2 m
def askB (a b c d : Int) (l : List S3) (op m : Int) : Bool := payB a b c d && (goodShifts l && (inB op 1 30 && inB m 0 1000))
theorem prod_bd {a b x y : Int} (ha : 0 ≤ a) (hb : a ≤ x) (hc : 0 ≤ b) (hd : b ≤ y) : 0 ≤ a * b ∧ a * b ≤ x * y :=
  ⟨Int.mul_nonneg ha hc, Int.mul_le_mul hb hd hc (by omega)⟩
theorem payB_of {a b c d : Int} (h : payB a b c d = true) : (0 ≤ a ∧ a ≤ 1000) ∧ (0 ≤ b ∧ b ≤ 100) ∧ (0 ≤ c ∧ c ≤ 100) ∧ 0 ≤ d ∧ d ≤ 100000 := payB_true.1 h
theorem wage_parts {a b c hh nn m : Int} (ha : 0 ≤ a ∧ a ≤ 1000) (hb : 0 ≤ b ∧ b ≤ 100) (hc : 0 ≤ c ∧ c ≤ 100) (hm : 0 ≤ m ∧ m ≤ 1000) (hh' : 0 ≤ hh ∧ hh ≤ 10080) (hn : 0 ≤ nn ∧ nn ≤ 10080) :
    (0 ≤ a * hh ∧ a * hh ≤ 10080000) ∧ (0 ≤ a * b ∧ a * b ≤ 100000) ∧ (0 ≤ a * b * nn ∧ a * b * nn ≤ 1008000000) ∧ 0 ≤ c * m ∧ c * m ≤ 100000 := by
  have p1 := prod_bd ha.1 ha.2 hh'.1 hh'.2
  have p2 := prod_bd ha.1 ha.2 hb.1 hb.2
  have p3 := prod_bd p2.1 p2.2 hn.1 hn.2
  have p4 := prod_bd hc.1 hc.2 hm.1 hm.2
  omega
theorem l1Most_any (a b : Int) (w : World) :
    Calls Tryd.prog 71 #[.int .i64 a, .int .i64 b] w fun e w' => e = .returned (.int .i64 (max a b)) ∧ w = w' := by
  by_cases h : b < a
  · go_enter Tryd.func71, Tryd.ntmps71
    go_wp2
    go_ret
    exact ⟨ret_int (by omega), rfl⟩
  · go_enter Tryd.func71, Tryd.ntmps71
    go_wp2
    go_ret
    exact ⟨ret_int (by omega), rfl⟩

theorem wgAsked_any (a b c d : Int) (A : Option Addr) (n cc : Nat) (l : List S3) (op m : Int) (w : World) (hn : n ≤ 1000000000) (hnc : n ≤ cc) (h : Reads w 3 A n (rows3 l)) :
    Calls Tryd.prog 47 #[.agg #[.int .i64 a, .int .i64 b, .int .i64 c, .int .i64 d], .slice A n cc, .int .i64 op, .int .i64 m] w fun e w' => e = .returned (.bool (askB a b c d l op m)) ∧ Below w.heap.size w w' := by
  have SG := Lib.hid (fun W (hW : Below w.heap.size w W) => shGood_any A n cc l W hn hnc (h.below hW))
  clear h
  cases h1 : payB a b c d with
  | false =>
    go_enter Tryd.func47, Tryd.ntmps47
    go_wp2_with (first | (go_at_call 52; refine (wgPay_any a b c d _).mono ?_; rintro e w1 ⟨rfl, hb1⟩; have HB1 := Lib.hid (((Below.refl _ _).alloc (Nat.le_refl _) _).trans (hb1.mono (by simp))); clear hb1) | (go_at_call 53; refine (SG.out _ HB1.out).mono ?_; rintro e w2 ⟨rfl, hb2⟩; have HB2 := Lib.hid (below_then HB1.out hb2); clear hb2) | (go_at_call 54; refine (shOperator_any _ _).mono ?_; rintro e w' ⟨rfl, rfl⟩) | (go_at_call 70; refine (l1In_any _ _ _ _).mono ?_; rintro e w' ⟨rfl, rfl⟩))
    go_ret
    exact ⟨ret_bool (by simp [askB, h1]), HB1.out⟩
  | true =>
    cases h2 : goodShifts l with
    | false =>
      go_enter Tryd.func47, Tryd.ntmps47
      go_wp2_with (first | (go_at_call 52; refine (wgPay_any a b c d _).mono ?_; rintro e w1 ⟨rfl, hb1⟩; have HB1 := Lib.hid (((Below.refl _ _).alloc (Nat.le_refl _) _).trans (hb1.mono (by simp))); clear hb1) | (go_at_call 53; refine (SG.out _ HB1.out).mono ?_; rintro e w2 ⟨rfl, hb2⟩; have HB2 := Lib.hid (below_then HB1.out hb2); clear hb2) | (go_at_call 54; refine (shOperator_any _ _).mono ?_; rintro e w' ⟨rfl, rfl⟩) | (go_at_call 70; refine (l1In_any _ _ _ _).mono ?_; rintro e w' ⟨rfl, rfl⟩))
      go_ret
      exact ⟨ret_bool (by simp [askB, h1, h2]), HB2.out⟩
    | true =>
      cases h3 : inB op 1 30 with
      | false =>
        go_enter Tryd.func47, Tryd.ntmps47
        go_wp2_with (first | (go_at_call 52; refine (wgPay_any a b c d _).mono ?_; rintro e w1 ⟨rfl, hb1⟩; have HB1 := Lib.hid (((Below.refl _ _).alloc (Nat.le_refl _) _).trans (hb1.mono (by simp))); clear hb1) | (go_at_call 53; refine (SG.out _ HB1.out).mono ?_; rintro e w2 ⟨rfl, hb2⟩; have HB2 := Lib.hid (below_then HB1.out hb2); clear hb2) | (go_at_call 54; refine (shOperator_any _ _).mono ?_; rintro e w' ⟨rfl, rfl⟩) | (go_at_call 70; refine (l1In_any _ _ _ _).mono ?_; rintro e w' ⟨rfl, rfl⟩))
        go_ret
        exact ⟨ret_bool (by simp [askB, h1, h2, h3]), HB2.out⟩
      | true =>
        cases h4 : inB m 0 1000 with
        | false =>
          go_enter Tryd.func47, Tryd.ntmps47
          go_wp2_with (first | (go_at_call 52; refine (wgPay_any a b c d _).mono ?_; rintro e w1 ⟨rfl, hb1⟩; have HB1 := Lib.hid (((Below.refl _ _).alloc (Nat.le_refl _) _).trans (hb1.mono (by simp))); clear hb1) | (go_at_call 53; refine (SG.out _ HB1.out).mono ?_; rintro e w2 ⟨rfl, hb2⟩; have HB2 := Lib.hid (below_then HB1.out hb2); clear hb2) | (go_at_call 54; refine (shOperator_any _ _).mono ?_; rintro e w' ⟨rfl, rfl⟩) | (go_at_call 70; refine (l1In_any _ _ _ _).mono ?_; rintro e w' ⟨rfl, rfl⟩))
          go_ret
          exact ⟨ret_bool (by simp [askB, h1, h2, h3, h4]), HB2.out⟩
        | true =>
          go_enter Tryd.func47, Tryd.ntmps47
          go_wp2_with (first | (go_at_call 52; refine (wgPay_any a b c d _).mono ?_; rintro e w1 ⟨rfl, hb1⟩; have HB1 := Lib.hid (((Below.refl _ _).alloc (Nat.le_refl _) _).trans (hb1.mono (by simp))); clear hb1) | (go_at_call 53; refine (SG.out _ HB1.out).mono ?_; rintro e w2 ⟨rfl, hb2⟩; have HB2 := Lib.hid (below_then HB1.out hb2); clear hb2) | (go_at_call 54; refine (shOperator_any _ _).mono ?_; rintro e w' ⟨rfl, rfl⟩) | (go_at_call 70; refine (l1In_any _ _ _ _).mono ?_; rintro e w' ⟨rfl, rfl⟩))
          go_ret
          exact ⟨ret_bool (by simp [askB, h1, h2, h3, h4]), HB2.out⟩

set_option maxHeartbeats 1000000 in
theorem wgWage_any (a b c d : Int) (A : Option Addr) (n cc : Nat) (l : List S3) (op m : Int) (w : World) (hp : payB a b c d = true) (hg : goodShifts l = true) (hop : inB op 1 30 = true) (hm : 0 ≤ m ∧ m ≤ 1000) (hnc : n ≤ cc) (h : Reads w 3 A n (rows3 l)) :
    Calls Tryd.prog 48 #[.agg #[.int .i64 a, .int .i64 b, .int .i64 c, .int .i64 d], .slice A n cc, .int .i64 op, .int .i64 m] w fun e w' => e = .returned (.int .i64 (wage a b c d l op m)) ∧ Below w.heap.size w w' := by
  have hlx : l.length = n := by have := h.1; rw [length_rows3] at this; omega
  have hn60 := good_len hg
  have hw := good_week hg
  have hdt := duty_bd (op := op) hw
  rw [hlx] at hn60 hdt
  have ch := fun W (hW : Below w.heap.size w W) => wgHours_any A n cc l op W hn60 hw (h.below hW)
  have hwd : wage a b c d l op m = wageV a b c d (duty op l).1 (duty op l).2 m := rfl
  rw [hwd]
  clear hwd
  generalize duty op l = D at *
  obtain ⟨hh, nn⟩ := D
  dsimp only at hdt ch ⊢
  obtain ⟨ha, hb, hc, hd⟩ := payB_of hp
  obtain ⟨⟨q1, q2⟩, ⟨q3, q4⟩, ⟨q5, q6⟩, q7, q8⟩ := wage_parts (hh := hh) (nn := nn) ha hb hc hm (by omega) (by omega)
  have CH := Lib.hid ch
  clear ch h hw hg hlx hp
  obtain ⟨g1, g2, g3, g4⟩ := hdt
  by_cases h0 : 0 < hh
  · by_cases hd2 : a * hh + a * b * nn / 100 + c * m ≤ d
    · go_enter Tryd.func48, Tryd.ntmps48
      go_wp2_with (first | (go_at_call 50; refine (CH.out _ ((Below.refl _ _).alloc (Nat.le_refl _) _)).mono ?_; rintro e w1 ⟨rfl, hb1⟩; obtain ⟨k0, k1, k2, k3⟩ := box4 hb1; have HB1 := Lib.hid (((Below.refl _ _).alloc (Nat.le_refl _) _).trans (hb1.mono (by simp))); clear hb1) | (go_at_call 71; refine (l1Most_any _ _ _).mono ?_; rintro e w' ⟨rfl, rfl⟩))
      all_goals
        go_ret
        exact ⟨ret_int (by simp only [wageV, baseV]; rw [if_pos h0]), HB1.out⟩
    · go_enter Tryd.func48, Tryd.ntmps48
      go_wp2_with (first | (go_at_call 50; refine (CH.out _ ((Below.refl _ _).alloc (Nat.le_refl _) _)).mono ?_; rintro e w1 ⟨rfl, hb1⟩; obtain ⟨k0, k1, k2, k3⟩ := box4 hb1; have HB1 := Lib.hid (((Below.refl _ _).alloc (Nat.le_refl _) _).trans (hb1.mono (by simp))); clear hb1) | (go_at_call 71; refine (l1Most_any _ _ _).mono ?_; rintro e w' ⟨rfl, rfl⟩))
      all_goals
        go_ret
        exact ⟨ret_int (by simp only [wageV, baseV]; rw [if_pos h0]), HB1.out⟩
  · go_enter Tryd.func48, Tryd.ntmps48
    go_wp2_with (first | (go_at_call 50; refine (CH.out _ ((Below.refl _ _).alloc (Nat.le_refl _) _)).mono ?_; rintro e w1 ⟨rfl, hb1⟩; obtain ⟨k0, k1, k2, k3⟩ := box4 hb1; have HB1 := Lib.hid (((Below.refl _ _).alloc (Nat.le_refl _) _).trans (hb1.mono (by simp))); clear hb1) | (go_at_call 71; refine (l1Most_any _ _ _).mono ?_; rintro e w' ⟨rfl, rfl⟩))
    all_goals
      go_ret
      exact ⟨ret_int (by simp only [wageV, baseV]; rw [if_neg (by omega)]), HB1.out⟩

set_option maxHeartbeats 1000000 in
theorem wageOfI_any (a b c d : Int) (A : Option Addr) (n cc : Nat) (l : List S3) (op m : Int) (w : World) (hp : payB a b c d = true) (hg : goodShifts l = true) (hop : inB op 1 30 = true) (hm : 0 ≤ m ∧ m ≤ 1000) (hnc : n ≤ cc) (h : Reads w 3 A n (rows3 l)) :
    Calls Tryd.prog 36 #[.agg #[.int .i64 a, .int .i64 b, .int .i64 c, .int .i64 d], .slice A n cc, .int .i64 op, .int .i64 m] w fun e w' => e = .returned (.int .i64 (wage a b c d l op m)) ∧ Below w.heap.size w w' := by
  have hlx : l.length = n := by have := h.1; rw [length_rows3] at this; omega
  have hn60 := good_len hg
  have hw := good_week hg
  have hdt := duty_bd (op := op) hw
  rw [hlx] at hn60 hdt
  have ch := fun W (hW : Below w.heap.size w W) => dutyHours_any A n cc l op W (by omega) hnc (h.below hW)
  have hr : dutyR l op = ((duty op l).1, (duty op l).2, true) := by simp [dutyR, hop, hg]
  rw [hr] at ch
  have hwd : wage a b c d l op m = wageV a b c d (duty op l).1 (duty op l).2 m := rfl
  rw [hwd]
  clear hwd hr
  generalize duty op l = D at *
  obtain ⟨hh, nn⟩ := D
  dsimp only at hdt ch ⊢
  obtain ⟨ha, hb, hc, hd⟩ := payB_of hp
  obtain ⟨⟨q1, q2⟩, ⟨q3, q4⟩, ⟨q5, q6⟩, q7, q8⟩ := wage_parts (hh := hh) (nn := nn) ha hb hc hm (by omega) (by omega)
  have CH := Lib.hid ch
  clear ch h hw hg hlx hp
  obtain ⟨g1, g2, g3, g4⟩ := hdt
  by_cases h0 : 0 < hh
  · by_cases hd2 : a * hh + a * b * nn / 100 + c * m ≤ d
    · go_enter Tryd.func36, Tryd.ntmps36
      go_wp2_with (first | (go_at_call 21; refine (CH.out _ ((Below.refl _ _).alloc (Nat.le_refl _) _)).mono ?_; rintro e w1 ⟨rfl, hb1⟩; obtain ⟨k0, k1, k2, k3⟩ := box4 hb1; have HB1 := Lib.hid (((Below.refl _ _).alloc (Nat.le_refl _) _).trans (hb1.mono (by simp))); clear hb1))
      all_goals
        go_ret
        exact ⟨ret_int (by simp only [wageV, baseV]; rw [if_pos h0]; omega), HB1.out⟩
    · go_enter Tryd.func36, Tryd.ntmps36
      go_wp2_with (first | (go_at_call 21; refine (CH.out _ ((Below.refl _ _).alloc (Nat.le_refl _) _)).mono ?_; rintro e w1 ⟨rfl, hb1⟩; obtain ⟨k0, k1, k2, k3⟩ := box4 hb1; have HB1 := Lib.hid (((Below.refl _ _).alloc (Nat.le_refl _) _).trans (hb1.mono (by simp))); clear hb1))
      all_goals
        go_ret
        exact ⟨ret_int (by simp only [wageV, baseV]; rw [if_pos h0]; omega), HB1.out⟩
  · go_enter Tryd.func36, Tryd.ntmps36
    go_wp2_with (first | (go_at_call 21; refine (CH.out _ ((Below.refl _ _).alloc (Nat.le_refl _) _)).mono ?_; rintro e w1 ⟨rfl, hb1⟩; obtain ⟨k0, k1, k2, k3⟩ := box4 hb1; have HB1 := Lib.hid (((Below.refl _ _).alloc (Nat.le_refl _) _).trans (hb1.mono (by simp))); clear hb1))
    all_goals
      go_ret
      exact ⟨ret_int (by simp only [wageV, baseV]; rw [if_neg (by omega)]), HB1.out⟩

end Go.Proofs.YtiofgoppgdgbaaaDoor
