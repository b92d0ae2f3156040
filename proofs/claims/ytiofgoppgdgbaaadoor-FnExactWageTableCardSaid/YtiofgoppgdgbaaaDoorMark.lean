/- Contracts of the laws' helpers that write marks into slices of structs of integers and that look for them. No conditions. -/
import Derived.Test.YtiofgoppgdgbaaaDoorHelp
namespace Go.Proofs.YtiofgoppgdgbaaaDoor
set_option linter.unusedSimpArgs false
set_option linter.unusedVariables false
open Go.RowKit

theorem marksInt_get {K n j : Nat} (h : j < n) : (marksInt K n)[j]? = some (.int .i64 ((K + j : Nat) : Int)) := by simp [marksInt, h]
theorem length_marksInt (K n : Nat) : (marksInt K n).length = n := by simp [marksInt]



theorem szShiftS_okI (A : Option Addr) (n c : Nat) (left : Int) (w : World) (h0 : 0 ≤ left) (h2 : left ≤ 1000000000) (h1 : (n : Int) ≤ left) (hn : n ≤ 9223372036854775807) :
    Calls Tryd.prog 5 #[.slice A n c, .int .i64 left] w fun e w' => e = .returned (.int .i64 (left - (n : Int))) ∧ w = w' := by
  have := szShiftS_any A n c left w hn h0 h2
  rw [if_neg (by omega)] at this
  exact this
theorem szShiftS_bigI (A : Option Addr) (n c : Nat) (left : Int) (w : World) (h0 : 0 ≤ left) (h2 : left ≤ 1000000000) (h1 : left < (n : Int)) (hn : n ≤ 9223372036854775807) :
    Calls Tryd.prog 5 #[.slice A n c, .int .i64 left] w fun e w' => e = .returned (.int .i64 (-1)) ∧ w = w' := by
  have := szShiftS_any A n c left w hn h0 h2
  rw [if_pos (by omega)] at this
  exact this




end Go.Proofs.YtiofgoppgdgbaaaDoor
