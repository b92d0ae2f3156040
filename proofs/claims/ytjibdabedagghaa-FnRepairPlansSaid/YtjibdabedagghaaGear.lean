/- Contracts of the tests on one gear and of DaysLeft of both packages, and the law over them. No conditions. -/
import Derived.Test.YtjibdabedagghaaHelp
namespace Go.Proofs.Ytjibdabedagghaa
set_option linter.unusedSimpArgs false
set_option linter.unusedVariables false
open Go.RowKit

/-- Wear, Rate, Limit, Cost. -/
def gearB (a b c d : Int) : Bool := inB b 1 100 && (inB c b 1000 && (inB a 0 c && inB d 0 1000))
theorem gearB_true {a b c d : Int} : gearB a b c d = true ↔ (1 ≤ b ∧ b ≤ 100) ∧ (b ≤ c ∧ c ≤ 1000) ∧ (0 ≤ a ∧ a ≤ c) ∧ 0 ≤ d ∧ d ≤ 1000 := by simp [gearB, inB_true]
def leftOf (a b c : Int) : Int := (c - a) / b
def daysR (a b c d : Int) : Int × Bool := if gearB a b c d = true then (leftOf a b c, true) else (0, false)

theorem rrGear_any (a b c d : Int) (w : World) :
    Calls Try.prog 60 #[.agg #[.int .i64 a, .int .i64 b, .int .i64 c, .int .i64 d]] w fun e w' => e = .returned (.bool (gearB a b c d)) ∧ Below w.heap.size w w' := by
  cases h1 : inB b 1 100 with
  | false =>
    go_enter Try.func60, Try.ntmps60
    go_wp2_with (go_at_call 68; refine (l1In_any _ _ _ _).mono ?_; rintro e w' ⟨rfl, rfl⟩)
    go_ret
    exact ⟨ret_bool (by simp [gearB, h1]), (Below.refl _ _).alloc (Nat.le_refl _) _⟩
  | true =>
    cases h2 : inB c b 1000 with
    | false =>
      go_enter Try.func60, Try.ntmps60
      go_wp2_with (go_at_call 68; refine (l1In_any _ _ _ _).mono ?_; rintro e w' ⟨rfl, rfl⟩)
      go_ret
      exact ⟨ret_bool (by simp [gearB, h1, h2]), (Below.refl _ _).alloc (Nat.le_refl _) _⟩
    | true =>
      cases h3 : inB a 0 c with
      | false =>
        go_enter Try.func60, Try.ntmps60
        go_wp2_with (go_at_call 68; refine (l1In_any _ _ _ _).mono ?_; rintro e w' ⟨rfl, rfl⟩)
        go_ret
        exact ⟨ret_bool (by simp [gearB, h1, h2, h3]), (Below.refl _ _).alloc (Nat.le_refl _) _⟩
      | true =>
        cases h4 : inB d 0 1000 with
        | false =>
          go_enter Try.func60, Try.ntmps60
          go_wp2_with (go_at_call 68; refine (l1In_any _ _ _ _).mono ?_; rintro e w' ⟨rfl, rfl⟩)
          go_ret
          exact ⟨ret_bool (by simp [gearB, h1, h2, h3, h4]), (Below.refl _ _).alloc (Nat.le_refl _) _⟩
        | true =>
          go_enter Try.func60, Try.ntmps60
          go_wp2_with (go_at_call 68; refine (l1In_any _ _ _ _).mono ?_; rintro e w' ⟨rfl, rfl⟩)
          go_ret
          exact ⟨ret_bool (by simp [gearB, h1, h2, h3, h4]), (Below.refl _ _).alloc (Nat.le_refl _) _⟩

theorem isGear_any (a b c d : Int) (w : World) :
    Calls Try.prog 62 #[.agg #[.int .i64 a, .int .i64 b, .int .i64 c, .int .i64 d]] w fun e w' => e = .returned (.bool (gearB a b c d)) ∧ Below w.heap.size w w' := by
  cases h1 : inB b 1 100 with
  | false =>
    go_enter Try.func62, Try.ntmps62
    go_wp2_with (go_at_call 73; refine (within_any _ _ _ _).mono ?_; rintro e w' ⟨rfl, rfl⟩)
    go_ret
    exact ⟨ret_bool (by simp [gearB, h1]), (Below.refl _ _).alloc (Nat.le_refl _) _⟩
  | true =>
    cases h2 : inB c b 1000 with
    | false =>
      go_enter Try.func62, Try.ntmps62
      go_wp2_with (go_at_call 73; refine (within_any _ _ _ _).mono ?_; rintro e w' ⟨rfl, rfl⟩)
      go_ret
      exact ⟨ret_bool (by simp [gearB, h1, h2]), (Below.refl _ _).alloc (Nat.le_refl _) _⟩
    | true =>
      cases h3 : inB a 0 c with
      | false =>
        go_enter Try.func62, Try.ntmps62
        go_wp2_with (go_at_call 73; refine (within_any _ _ _ _).mono ?_; rintro e w' ⟨rfl, rfl⟩)
        go_ret
        exact ⟨ret_bool (by simp [gearB, h1, h2, h3]), (Below.refl _ _).alloc (Nat.le_refl _) _⟩
      | true =>
        cases h4 : inB d 0 1000 with
        | false =>
          go_enter Try.func62, Try.ntmps62
          go_wp2_with (go_at_call 73; refine (within_any _ _ _ _).mono ?_; rintro e w' ⟨rfl, rfl⟩)
          go_ret
          exact ⟨ret_bool (by simp [gearB, h1, h2, h3, h4]), (Below.refl _ _).alloc (Nat.le_refl _) _⟩
        | true =>
          go_enter Try.func62, Try.ntmps62
          go_wp2_with (go_at_call 73; refine (within_any _ _ _ _).mono ?_; rintro e w' ⟨rfl, rfl⟩)
          go_ret
          exact ⟨ret_bool (by simp [gearB, h1, h2, h3, h4]), (Below.refl _ _).alloc (Nat.le_refl _) _⟩

theorem rrLeft_any (a b c d : Int) (w : World) (hb1 : 1 ≤ b) (ha : 0 ≤ a) (hac : a ≤ c) (hc : c ≤ 1000) :
    Calls Try.prog 61 #[.agg #[.int .i64 a, .int .i64 b, .int .i64 c, .int .i64 d]] w fun e w' => e = .returned (.int .i64 (leftOf a b c)) ∧ Below w.heap.size w w' := by
  go_enter Try.func61, Try.ntmps61
  go_wp2
  go_ret
  exact ⟨rfl, (Below.refl _ _).alloc (Nat.le_refl _) _⟩

theorem specDaysLeft_any (a b c d : Int) (w : World) :
    Calls Try.prog 15 #[.agg #[.int .i64 a, .int .i64 b, .int .i64 c, .int .i64 d]] w fun e w' => e = .returned (.tuple #[.int .i64 (daysR a b c d).1, .bool (daysR a b c d).2]) ∧ Below w.heap.size w w' := by
  have c1 := fun W => rrGear_any a b c d W
  cases hg : gearB a b c d with
  | false =>
    have hr : daysR a b c d = (0, false) := by simp [daysR, hg]
    rw [hr]
    simp only [hg] at c1
    have C1 := Lib.hid c1
    clear c1 hr hg
    go_enter Try.func15, Try.ntmps15
    go_wp2_with fail
    refine (C1.out _).mono ?_
    rintro e w1 ⟨rfl, hb1⟩
    have B1 := Lib.hid hb1; clear hb1
    go_wp2_with fail
    go_ret2
    exact ⟨rfl, ((Below.refl _ _).alloc (Nat.le_refl _) _).trans (B1.out.mono (by simp))⟩
  | true =>
    have hr : daysR a b c d = (leftOf a b c, true) := by simp [daysR, hg]
    rw [hr]
    simp only [hg] at c1
    have C1 := Lib.hid c1
    obtain ⟨⟨hb1, _⟩, ⟨_, hc1⟩, ⟨ha, hac⟩, _⟩ := gearB_true.1 hg
    clear c1 hr hg
    go_enter Try.func15, Try.ntmps15
    go_wp2_with fail
    refine (C1.out _).mono ?_
    rintro e w1 ⟨rfl, hbw1⟩
    obtain ⟨k0, k1, k2, k3⟩ := box4 hbw1
    have B1 := Lib.hid (And.intro hbw1 trivial); clear hbw1
    have B1' := Lib.hid B1.out.2; clear B1'
    go_wp2_with fail
    refine (rrLeft_any a b c d _ hb1 ha hac hc1).mono ?_
    rintro e w2 ⟨rfl, hb2⟩
    have B2 := Lib.hid (below_then B1.out.1 hb2); clear hb2 k0 k1 k2 k3
    go_wp2_with fail
    
    go_ret2
    exact ⟨rfl, ((Below.refl _ _).alloc (Nat.le_refl _) _).trans (B2.out.mono (by simp))⟩

theorem implDaysLeft_any (a b c d : Int) (w : World) :
    Calls Try.prog 17 #[.agg #[.int .i64 a, .int .i64 b, .int .i64 c, .int .i64 d]] w fun e w' => e = .returned (.tuple #[.int .i64 (daysR a b c d).1, .bool (daysR a b c d).2]) ∧ Below w.heap.size w w' := by
  have c1 := fun W => isGear_any a b c d W
  cases hg : gearB a b c d with
  | false =>
    have hr : daysR a b c d = (0, false) := by simp [daysR, hg]
    rw [hr]
    simp only [hg] at c1
    have C1 := Lib.hid c1
    clear c1 hr hg
    go_enter Try.func17, Try.ntmps17
    go_wp2_with fail
    refine (C1.out _).mono ?_
    rintro e w1 ⟨rfl, hb1⟩
    have B1 := Lib.hid hb1; clear hb1
    go_wp2_with fail
    go_ret2
    exact ⟨rfl, ((Below.refl _ _).alloc (Nat.le_refl _) _).trans (B1.out.mono (by simp))⟩
  | true =>
    have hr : daysR a b c d = (leftOf a b c, true) := by simp [daysR, hg]
    rw [hr]
    simp only [hg] at c1
    have C1 := Lib.hid c1
    obtain ⟨⟨hb1, _⟩, ⟨_, hc1⟩, ⟨ha, hac⟩, _⟩ := gearB_true.1 hg
    clear c1 hr hg
    go_enter Try.func17, Try.ntmps17
    go_wp2_with fail
    refine (C1.out _).mono ?_
    rintro e w1 ⟨rfl, hbw1⟩
    obtain ⟨k0, k1, k2, k3⟩ := box4 hbw1
    have B1 := Lib.hid (And.intro hbw1 trivial); clear hbw1
    go_wp2_with fail
    go_ret2
    exact ⟨rfl, ((Below.refl _ _).alloc (Nat.le_refl _) _).trans (B1.out.1.mono (by simp))⟩

theorem law_FnExactDaysLeft (w : World) {v : Value} (h : IsAgg4 v) :
    Calls Try.prog 3 #[v] w fun e w' => e = .returned (.bool true) ∧ Below w.heap.size w w' := by
  obtain ⟨a, b, c, d, rfl, _⟩ := h
  go_enter Try.func3, Try.ntmps3
  go_wp2_with fail
  refine (toGear_any a b c d _).mono ?_
  rintro e w1 ⟨rfl, hb1⟩
  have B1 := Lib.hid hb1; clear hb1
  go_wp2_with fail
  refine (specDaysLeft_any a b c d _).mono ?_
  rintro e w2 ⟨rfl, hb2⟩
  have B2 := Lib.hid (below_then B1.out hb2); clear hb2
  obtain ⟨k0, k1, k2, k3⟩ := box4 B2.out
  go_wp2_with fail
  refine (toGear_any a b c d _).mono ?_
  rintro e w3 ⟨rfl, hb3⟩
  have B3 := Lib.hid (below_then B2.out hb3); clear hb3 k0 k1 k2 k3
  go_wp2_with fail
  refine (implDaysLeft_any a b c d _).mono ?_
  rintro e w4 ⟨rfl, hb4⟩
  have B4 := Lib.hid (below_then B3.out hb4); clear hb4
  go_wp2_with fail
  go_ret
  exact ⟨rfl, ((Below.refl _ _).alloc (Nat.le_refl _) _).trans (B4.out.mono (by simp))⟩
end Go.Proofs.Ytjibdabedagghaa
