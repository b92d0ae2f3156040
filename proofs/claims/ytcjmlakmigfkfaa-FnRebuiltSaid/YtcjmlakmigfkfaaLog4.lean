/- Entries: the prefix of a log; the first index by the prefix. No conditions. -/
import Derived.Test.YtcjmlakmigfkfaaLog3
namespace Go.Proofs.Ytcjmlakmigfkfaa
set_option linter.unusedSimpArgs false
set_option linter.unusedVariables false
open Go.RowKit

theorem rowsE_take (L : List EntryT) (k : Nat) : (rowsE L).take (k * 5) = rowsE (L.take k) := by
  induction L generalizing k with
  | nil => simp [rowsE]
  | cons x r ih =>
    cases k with
    | zero => simp [rowsE]
    | succ k =>
      have e : (k + 1) * 5 = k * 5 + 1 + 1 + 1 + 1 + 1 := by omega
      have := ih k
      simp only [rowsE, List.flatMap_cons, List.take_succ_cons, celEntry] at this ⊢
      rw [e]
      simp [this]
theorem Reads2.take' {w : World} {k n m : Nat} {A : Option Addr} {cs : List Cel} (h : Reads2 w k A n cs) (hm : m ≤ n) : Reads2 w k A m (cs.take (m * k)) := by
  obtain ⟨hs, h1, h2, h3⟩ := h
  refine ⟨hs.take (m * k), h1.take hm, by simp [h2], fun j u c hu hc => ?_⟩
  rw [List.getElem?_take] at hu hc
  split at hu
  · rename_i hj
    rw [if_pos hj] at hc
    exact h3 j u c hu hc
  · cases hu
theorem idxP_take {α : Type} {p : α → Bool} {L : List α} : ∀ {k : Nat} (i : Int) (hk : k < L.length), p L[k] = true → (0 ≤ i) → (idxP p L i = i + (k : Int) ↔ idxP p (L.take k) i < 0) := by
  induction L with
  | nil => intro k i hk; simp at hk
  | cons x r ih =>
    intro k i hk hp hi
    cases k with
    | zero =>
      simp at hp
      simp [idxP, hp]
    | succ k =>
      simp only [List.take_succ_cons, idxP]
      cases hx : p x with
      | true => simp; omega
      | false =>
        have := ih (k := k) (i + 1) (by simpa using hk) (by simpa using hp) (by omega)
        simp only [Bool.false_eq_true, if_false]
        rw [← this]
        constructor <;> intro h <;> omega
end Go.Proofs.Ytcjmlakmigfkfaa
