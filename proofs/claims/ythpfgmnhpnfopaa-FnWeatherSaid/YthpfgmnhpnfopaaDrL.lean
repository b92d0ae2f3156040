/- Small lists that are drawn: lemmas. Speaks of no function. No conditions. -/
import Derived.Test.YthpfgmnhpnfopaaDraw
namespace Go.Proofs.Ythpfgmnhpnfopaa
set_option linter.unusedSimpArgs false
set_option linter.unusedVariables false
open Go.RowKit

def lenV : Value → Nat
  | .slice _ n _ => n
  | _ => 0
theorem ints_put (l : List Int) (i : Nat) (x : Int) : (ints l).set i (.int .i64 x) = ints (l.set i x) := by simp [ints, List.map_set]
theorem ints_snoc (l : List Int) (x : Int) : ints l ++ [.int .i64 x] = ints (l ++ [x]) := by simp [ints]
def smallL (lo hi : Int) (l : List Int) : Prop := ∀ x ∈ l, lo ≤ x ∧ x ≤ hi
theorem smallL.snoc {lo hi : Int} {l : List Int} {x : Int} (h : smallL lo hi l) (hx : lo ≤ x ∧ x ≤ hi) : smallL lo hi (l ++ [x]) := fun y hy => by
  rcases List.mem_append.1 hy with hy | hy
  · exact h y hy
  · simp at hy; subst hy; exact hx
theorem smallL.set {lo hi : Int} {l : List Int} {x : Int} (h : smallL lo hi l) (hx : lo ≤ x ∧ x ≤ hi) (i : Nat) : smallL lo hi (l.set i x) := fun y hy => by
  rcases List.mem_or_eq_of_mem_set hy with hy | hy
  · exact h y hy
  · subst hy; exact hx
/-- A row of the call's own, and its first cell's place. -/
theorem own_at0 {w : World} {base n c : Nat} {e : TypeId} {A : Option Addr} {xs : List Value} (h : w.ownsRow base e 1 (.slice A n c) n xs) (hn : 0 < n) : ∃ ga, A = some ⟨ga, 0, none⟩ ∧ base ≤ ga := by
  rcases h.2 with ⟨_, h0⟩ | ⟨g, cap, cur, hv, hb, _⟩
  · omega
  · injection hv with e _ _
    exact ⟨g, e, hb⟩
end Go.Proofs.Ythpfgmnhpnfopaa
