/- Contracts of IsPay of both packages, and the law over them. No conditions. -/
import Derived.Test.YtiofgoppgdgbaaaCom
namespace Go.Proofs.Ytiofgoppgdgbaaa
set_option linter.unusedSimpArgs false
set_option linter.unusedVariables false
open Go.RowKit

def payB (h n m l : Int) : Bool := inB h 0 1000 && (inB n 0 100 && (inB m 0 100 && inB l 0 100000))
theorem payB_true {h n m l : Int} : payB h n m l = true ↔ (0 ≤ h ∧ h ≤ 1000) ∧ (0 ≤ n ∧ n ≤ 100) ∧ (0 ≤ m ∧ m ≤ 100) ∧ 0 ≤ l ∧ l ≤ 100000 := by simp [payB, inB_true]
abbrev pay4 (a b c d : Int) : Value := .agg #[.int .i64 a, .int .i64 b, .int .i64 c, .int .i64 d]

theorem wgPay_any (a b c d : Int) (w : World) :
    Calls Try.prog 49 #[.agg #[.int .i64 a, .int .i64 b, .int .i64 c, .int .i64 d]] w fun e w' => e = .returned (.bool (payB a b c d)) ∧ Below w.heap.size w w' := by
  cases h1 : inB a 0 1000 with
  | false =>
    go_enter Try.func49, Try.ntmps49
    go_wp2_with (go_at_call 59; refine (l1In_any _ _ _ _).mono ?_; rintro e w' ⟨rfl, rfl⟩)
    go_ret
    exact ⟨ret_bool (by simp [payB, h1]), (Below.refl _ _).alloc (Nat.le_refl _) _⟩
  | true =>
    cases h2 : inB b 0 100 with
    | false =>
      go_enter Try.func49, Try.ntmps49
      go_wp2_with (go_at_call 59; refine (l1In_any _ _ _ _).mono ?_; rintro e w' ⟨rfl, rfl⟩)
      go_ret
      exact ⟨ret_bool (by simp [payB, h1, h2]), (Below.refl _ _).alloc (Nat.le_refl _) _⟩
    | true =>
      cases h3 : inB c 0 100 with
      | false =>
        go_enter Try.func49, Try.ntmps49
        go_wp2_with (go_at_call 59; refine (l1In_any _ _ _ _).mono ?_; rintro e w' ⟨rfl, rfl⟩)
        go_ret
        exact ⟨ret_bool (by simp [payB, h1, h2, h3]), (Below.refl _ _).alloc (Nat.le_refl _) _⟩
      | true =>
        cases h4 : inB d 0 100000 with
        | false =>
          go_enter Try.func49, Try.ntmps49
          go_wp2_with (go_at_call 59; refine (l1In_any _ _ _ _).mono ?_; rintro e w' ⟨rfl, rfl⟩)
          go_ret
          exact ⟨ret_bool (by simp [payB, h1, h2, h3, h4]), (Below.refl _ _).alloc (Nat.le_refl _) _⟩
        | true =>
          go_enter Try.func49, Try.ntmps49
          go_wp2_with (go_at_call 59; refine (l1In_any _ _ _ _).mono ?_; rintro e w' ⟨rfl, rfl⟩)
          go_ret
          exact ⟨ret_bool (by simp [payB, h1, h2, h3, h4]), (Below.refl _ _).alloc (Nat.le_refl _) _⟩

theorem isPay_any (a b c d : Int) (w : World) :
    Calls Try.prog 15 #[.agg #[.int .i64 a, .int .i64 b, .int .i64 c, .int .i64 d]] w fun e w' => e = .returned (.bool (payB a b c d)) ∧ Below w.heap.size w w' := by
  cases h1 : inB a 0 1000 with
  | false =>
    go_enter Try.func15, Try.ntmps15
    go_wp2_with (go_at_call 50; refine (within_any _ _ _ _).mono ?_; rintro e w' ⟨rfl, rfl⟩)
    go_ret
    exact ⟨ret_bool (by simp [payB, h1]), (Below.refl _ _).alloc (Nat.le_refl _) _⟩
  | true =>
    cases h2 : inB b 0 100 with
    | false =>
      go_enter Try.func15, Try.ntmps15
      go_wp2_with (go_at_call 50; refine (within_any _ _ _ _).mono ?_; rintro e w' ⟨rfl, rfl⟩)
      go_ret
      exact ⟨ret_bool (by simp [payB, h1, h2]), (Below.refl _ _).alloc (Nat.le_refl _) _⟩
    | true =>
      cases h3 : inB c 0 100 with
      | false =>
        go_enter Try.func15, Try.ntmps15
        go_wp2_with (go_at_call 50; refine (within_any _ _ _ _).mono ?_; rintro e w' ⟨rfl, rfl⟩)
        go_ret
        exact ⟨ret_bool (by simp [payB, h1, h2, h3]), (Below.refl _ _).alloc (Nat.le_refl _) _⟩
      | true =>
        cases h4 : inB d 0 100000 with
        | false =>
          go_enter Try.func15, Try.ntmps15
          go_wp2_with (go_at_call 50; refine (within_any _ _ _ _).mono ?_; rintro e w' ⟨rfl, rfl⟩)
          go_ret
          exact ⟨ret_bool (by simp [payB, h1, h2, h3, h4]), (Below.refl _ _).alloc (Nat.le_refl _) _⟩
        | true =>
          go_enter Try.func15, Try.ntmps15
          go_wp2_with (go_at_call 50; refine (within_any _ _ _ _).mono ?_; rintro e w' ⟨rfl, rfl⟩)
          go_ret
          exact ⟨ret_bool (by simp [payB, h1, h2, h3, h4]), (Below.refl _ _).alloc (Nat.le_refl _) _⟩

theorem specIsPay_any (a b c d : Int) (w : World) :
    Calls Try.prog 13 #[.agg #[.int .i64 a, .int .i64 b, .int .i64 c, .int .i64 d]] w fun e w' => e = .returned (.bool (payB a b c d)) ∧ Below w.heap.size w w' := by
  go_enter Try.func13, Try.ntmps13
  go_wp2_with (go_at_call 49; refine (wgPay_any _ _ _ _ _).mono ?_; rintro e w1 ⟨rfl, hb⟩)
  go_ret
  exact ⟨rfl, ((Below.refl _ _).alloc (Nat.le_refl _) _).trans (hb.mono (by simp))⟩
theorem toPay_any (a b c d : Int) (w : World) :
    Calls Try.prog 14 #[.agg #[.int .i64 a, .int .i64 b, .int .i64 c, .int .i64 d]] w fun e w' => e = .returned (.agg #[.int .i64 a, .int .i64 b, .int .i64 c, .int .i64 d]) ∧ Below w.heap.size w w' := by
  go_enter Try.func14, Try.ntmps14
  go_wp2
  go_returns
  exact ⟨rfl, by go_grown⟩

theorem law_FnExactIsPay (w : World) {v : Value} (h : IsAgg4 v) :
    Calls Try.prog 3 #[v] w fun e w' => e = .returned (.bool true) ∧ Below w.heap.size w w' := by
  obtain ⟨a, b, c, d, rfl, _⟩ := h
  go_enter Try.func3, Try.ntmps3
  go_wp2_with fail
  refine (toPay_any a b c d _).mono ?_
  rintro e w1 ⟨rfl, hb1⟩
  have B1 := Lib.hid hb1; clear hb1
  go_wp2_with fail
  refine (specIsPay_any a b c d _).mono ?_
  rintro e w2 ⟨rfl, hb2⟩
  have B2 := Lib.hid (below_then B1.out hb2); clear hb2
  obtain ⟨k0, k1, k2, k3⟩ := box4 B2.out
  go_wp2_with fail
  refine (toPay_any a b c d _).mono ?_
  rintro e w3 ⟨rfl, hb3⟩
  have B3 := Lib.hid (below_then B2.out hb3); clear hb3 k0 k1 k2 k3
  go_wp2_with fail
  refine (isPay_any a b c d _).mono ?_
  rintro e w4 ⟨rfl, hb4⟩
  have B4 := Lib.hid (below_then B3.out hb4); clear hb4
  go_wp2_with fail
  go_ret
  exact ⟨rfl, ((Below.refl _ _).alloc (Nat.le_refl _) _).trans (B4.out.mono (by simp))⟩
end Go.Proofs.Ytiofgoppgdgbaaa
