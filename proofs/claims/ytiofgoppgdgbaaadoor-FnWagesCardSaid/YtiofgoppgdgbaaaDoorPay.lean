/- Contracts of IsPay of both packages, and the law over them. No conditions. -/
import Derived.Test.YtiofgoppgdgbaaaDoorCom
namespace Go.Proofs.YtiofgoppgdgbaaaDoor
set_option linter.unusedSimpArgs false
set_option linter.unusedVariables false
open Go.RowKit

def payB (h n m l : Int) : Bool := inB h 0 1000 && (inB n 0 100 && (inB m 0 100 && inB l 0 100000))
theorem payB_true {h n m l : Int} : payB h n m l = true ↔ (0 ≤ h ∧ h ≤ 1000) ∧ (0 ≤ n ∧ n ≤ 100) ∧ (0 ≤ m ∧ m ≤ 100) ∧ 0 ≤ l ∧ l ≤ 100000 := by simp [payB, inB_true]
abbrev pay4 (a b c d : Int) : Value := .agg #[.int .i64 a, .int .i64 b, .int .i64 c, .int .i64 d]

theorem wgPay_any (a b c d : Int) (w : World) :
    Calls Tryd.prog 52 #[.agg #[.int .i64 a, .int .i64 b, .int .i64 c, .int .i64 d]] w fun e w' => e = .returned (.bool (payB a b c d)) ∧ Below w.heap.size w w' := by
  cases h1 : inB a 0 1000 with
  | false =>
    go_enter Tryd.func52, Tryd.ntmps52
    go_wp2_with (go_at_call 70; refine (l1In_any _ _ _ _).mono ?_; rintro e w' ⟨rfl, rfl⟩)
    go_ret
    exact ⟨ret_bool (by simp [payB, h1]), (Below.refl _ _).alloc (Nat.le_refl _) _⟩
  | true =>
    cases h2 : inB b 0 100 with
    | false =>
      go_enter Tryd.func52, Tryd.ntmps52
      go_wp2_with (go_at_call 70; refine (l1In_any _ _ _ _).mono ?_; rintro e w' ⟨rfl, rfl⟩)
      go_ret
      exact ⟨ret_bool (by simp [payB, h1, h2]), (Below.refl _ _).alloc (Nat.le_refl _) _⟩
    | true =>
      cases h3 : inB c 0 100 with
      | false =>
        go_enter Tryd.func52, Tryd.ntmps52
        go_wp2_with (go_at_call 70; refine (l1In_any _ _ _ _).mono ?_; rintro e w' ⟨rfl, rfl⟩)
        go_ret
        exact ⟨ret_bool (by simp [payB, h1, h2, h3]), (Below.refl _ _).alloc (Nat.le_refl _) _⟩
      | true =>
        cases h4 : inB d 0 100000 with
        | false =>
          go_enter Tryd.func52, Tryd.ntmps52
          go_wp2_with (go_at_call 70; refine (l1In_any _ _ _ _).mono ?_; rintro e w' ⟨rfl, rfl⟩)
          go_ret
          exact ⟨ret_bool (by simp [payB, h1, h2, h3, h4]), (Below.refl _ _).alloc (Nat.le_refl _) _⟩
        | true =>
          go_enter Tryd.func52, Tryd.ntmps52
          go_wp2_with (go_at_call 70; refine (l1In_any _ _ _ _).mono ?_; rintro e w' ⟨rfl, rfl⟩)
          go_ret
          exact ⟨ret_bool (by simp [payB, h1, h2, h3, h4]), (Below.refl _ _).alloc (Nat.le_refl _) _⟩

theorem isPay_any (a b c d : Int) (w : World) :
    Calls Tryd.prog 19 #[.agg #[.int .i64 a, .int .i64 b, .int .i64 c, .int .i64 d]] w fun e w' => e = .returned (.bool (payB a b c d)) ∧ Below w.heap.size w w' := by
  cases h1 : inB a 0 1000 with
  | false =>
    go_enter Tryd.func19, Tryd.ntmps19
    go_wp2_with (go_at_call 46; refine (within_any _ _ _ _).mono ?_; rintro e w' ⟨rfl, rfl⟩)
    go_ret
    exact ⟨ret_bool (by simp [payB, h1]), (Below.refl _ _).alloc (Nat.le_refl _) _⟩
  | true =>
    cases h2 : inB b 0 100 with
    | false =>
      go_enter Tryd.func19, Tryd.ntmps19
      go_wp2_with (go_at_call 46; refine (within_any _ _ _ _).mono ?_; rintro e w' ⟨rfl, rfl⟩)
      go_ret
      exact ⟨ret_bool (by simp [payB, h1, h2]), (Below.refl _ _).alloc (Nat.le_refl _) _⟩
    | true =>
      cases h3 : inB c 0 100 with
      | false =>
        go_enter Tryd.func19, Tryd.ntmps19
        go_wp2_with (go_at_call 46; refine (within_any _ _ _ _).mono ?_; rintro e w' ⟨rfl, rfl⟩)
        go_ret
        exact ⟨ret_bool (by simp [payB, h1, h2, h3]), (Below.refl _ _).alloc (Nat.le_refl _) _⟩
      | true =>
        cases h4 : inB d 0 100000 with
        | false =>
          go_enter Tryd.func19, Tryd.ntmps19
          go_wp2_with (go_at_call 46; refine (within_any _ _ _ _).mono ?_; rintro e w' ⟨rfl, rfl⟩)
          go_ret
          exact ⟨ret_bool (by simp [payB, h1, h2, h3, h4]), (Below.refl _ _).alloc (Nat.le_refl _) _⟩
        | true =>
          go_enter Tryd.func19, Tryd.ntmps19
          go_wp2_with (go_at_call 46; refine (within_any _ _ _ _).mono ?_; rintro e w' ⟨rfl, rfl⟩)
          go_ret
          exact ⟨ret_bool (by simp [payB, h1, h2, h3, h4]), (Below.refl _ _).alloc (Nat.le_refl _) _⟩

theorem specIsPay_any (a b c d : Int) (w : World) :
    Calls Tryd.prog 20 #[.agg #[.int .i64 a, .int .i64 b, .int .i64 c, .int .i64 d]] w fun e w' => e = .returned (.bool (payB a b c d)) ∧ Below w.heap.size w w' := by
  go_enter Tryd.func20, Tryd.ntmps20
  go_wp2_with (go_at_call 52; refine (wgPay_any _ _ _ _ _).mono ?_; rintro e w1 ⟨rfl, hb⟩)
  go_ret
  exact ⟨rfl, ((Below.refl _ _).alloc (Nat.le_refl _) _).trans (hb.mono (by simp))⟩
theorem toPay_any (a b c d : Int) (w : World) :
    Calls Tryd.prog 7 #[.agg #[.int .i64 a, .int .i64 b, .int .i64 c, .int .i64 d]] w fun e w' => e = .returned (.agg #[.int .i64 a, .int .i64 b, .int .i64 c, .int .i64 d]) ∧ Below w.heap.size w w' := by
  go_enter Tryd.func7, Tryd.ntmps7
  go_wp2
  go_returns
  exact ⟨rfl, by go_grown⟩

end Go.Proofs.YtiofgoppgdgbaaaDoor
