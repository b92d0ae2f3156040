/- Contract of the laws' test on the size of the bytes. No conditions. -/
import Derived.Test.YtcjmlakmigfkfaaCom
namespace Go.Proofs.Ytcjmlakmigfkfaa
set_option linter.unusedSimpArgs false
set_option linter.unusedVariables false
open Go.RowKit

def bigB (n m : Nat) : Bool := decide (1048576 < n) || decide ((1048576 : Int) - (n : Int) < (m : Int))
theorem bigB_no {n m : Nat} (h : bigB n m = false) : n ≤ 1048576 ∧ m ≤ 1048576 := by
  simp [bigB] at h
  omega
theorem big_any (A : Option Addr) (n c : Nat) (B : Option Addr) (m d : Nat) (w : World) (hn : n ≤ 9223372036854775807) (hm : m ≤ 9223372036854775807) :
    Calls Try.prog 30 #[.slice A n c, .slice B m d] w fun e w' => e = .returned (.bool (bigB n m)) ∧ w = w' := by
  by_cases h1 : 1048576 < n
  · have hr : bigB n m = true := by simp [bigB, h1]
    rw [hr]
    clear hr
    go_enter Try.func30, Try.ntmps30
    go_wp2
    go_ret
    exact ⟨rfl, rfl⟩
  · by_cases h2 : (1048576 : Int) - (n : Int) < (m : Int)
    · have hr : bigB n m = true := by simp [bigB, h2]
      rw [hr]
      clear hr
      go_enter Try.func30, Try.ntmps30
      go_wp2
      go_ret
      exact ⟨rfl, rfl⟩
    · have hr : bigB n m = false := by simp [bigB]; omega
      rw [hr]
      clear hr
      go_enter Try.func30, Try.ntmps30
      go_wp2
      go_ret
      exact ⟨ret_bool (show decide ((1048576 : Int) < (n : Int)) = false by simp; omega), rfl⟩
end Go.Proofs.Ytcjmlakmigfkfaa
