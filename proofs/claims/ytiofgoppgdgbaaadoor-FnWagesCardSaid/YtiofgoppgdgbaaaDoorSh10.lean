/- Contracts of HourFor of both packages, and the law over them. No conditions. -/
import Derived.Test.YtiofgoppgdgbaaaDoorSh9
namespace Go.Proofs.YtiofgoppgdgbaaaDoor
set_option linter.unusedSimpArgs false
set_option linter.unusedVariables false
open Go.RowKit

def hourF (b c d : Int) (l : List S3) (op m wanted : Int) : Nat → Int → Int × Bool
  | 0, _ => (0, false)
  | f + 1, h => if wanted ≤ wage h b c d l op m then (h, true) else hourF b c d l op m wanted f (h + 1)
def hourR (a b c d : Int) (l : List S3) (op m wanted : Int) : Int × Bool := if askB a b c d l op m = true ∧ inB wanted 0 1000000 = true then hourF b c d l op m wanted 1001 0 else (0, false)
theorem payB_hour {a b c d : Int} (h : payB a b c d = true) (k : Nat) (hk : k ≤ 1000) : payB k b c d = true := by
  obtain ⟨_, hb, hc, hd⟩ := payB_of h
  rw [payB_true]; omega
theorem Box4.set_0 {w : World} {g : Nat} {t : TypeId} {v0 v1 v2 v3 : Value} (h : Box4 w g t v0 v1 v2 v3) (u : Value) : Box4 (w.setCell ⟨g, 0, none⟩ u) g t u v1 v2 v3 := by
  unfold Box4 at h ⊢
  simp [World.setCell, Array.getElem?_modify, h]
theorem ret_ib {a b : Int} {x y : Bool} (h : (a, x) = (b, y)) : Ending.returned (.tuple #[.int .i64 a, .bool x]) = .returned (.tuple #[.int .i64 b, .bool y]) := by injection h with h1 h2; rw [h1, h2]

end Go.Proofs.YtiofgoppgdgbaaaDoor
