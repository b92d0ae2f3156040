/- The greatest of a list and its place; contracts of slices.Max and slices.Index on integers. No conditions. -/
import Derived.Test.YtiofgoppgdgbaaaDoorCom
namespace Go.Proofs.YtiofgoppgdgbaaaDoor
set_option linter.unusedSimpArgs false
set_option linter.unusedVariables false
open Go.RowKit

/-- The first index whose element has the property, counted from i; -1 if there is none. -/
def idx (p : Int → Bool) : List Int → Int → Int
  | [], _ => -1
  | x :: r, i => if p x then i else idx p r (i + 1)
def maxL : List Int → Int
  | [] => 0
  | x :: r => r.foldl max x
theorem foldl_max_ge (l : List Int) : ∀ a, a ≤ l.foldl max a ∧ ∀ x ∈ l, x ≤ l.foldl max a := by
  induction l with
  | nil => intro a; simp
  | cons y r ih =>
    intro a
    obtain ⟨h1, h2⟩ := ih (max a y)
    refine ⟨by simp only [List.foldl_cons]; omega, fun x hx => ?_⟩
    simp only [List.foldl_cons]
    rcases List.mem_cons.1 hx with rfl | hx
    · omega
    · exact h2 x hx
theorem foldl_max_mem (l : List Int) : ∀ a, l.foldl max a = a ∨ l.foldl max a ∈ l := by
  induction l with
  | nil => intro a; simp
  | cons y r ih =>
    intro a
    simp only [List.foldl_cons, List.mem_cons]
    rcases ih (max a y) with h | h
    · rcases (show max a y = a ∨ max a y = y by omega) with h' | h' <;> rw [h'] at h ⊢ <;> simp [h]
    · simp [h]
theorem maxL_ge {l : List Int} {x : Int} (h : x ∈ l) : x ≤ maxL l := by
  cases l with
  | nil => cases h
  | cons y r =>
    have := foldl_max_ge r y
    rcases List.mem_cons.1 h with rfl | h
    · exact this.1
    · exact this.2 x h
theorem maxL_mem {l : List Int} (h : l ≠ []) : maxL l ∈ l := by
  cases l with
  | nil => exact absurd rfl h
  | cons y r =>
    rcases foldl_max_mem r y with h | h
    · simp [maxL, h]
    · simp [maxL, h]
/-- The first index at which v stands. -/
def idxOf (l : List Int) (v : Int) : Int := idx (fun x => decide (x = v)) l 0
theorem idx_at {p : Int → Bool} {l : List Int} : ∀ {i : Int} {b : Nat} (hb : b < l.length), p l[b] = true → (∀ j (hj : j < b), p (l[j]'(by omega)) = false) → idx p l i = i + (b : Int) := by
  induction l with
  | nil => intro i b hb; simp at hb
  | cons x r ih =>
    intro i b hb h1 h2
    unfold idx
    cases b with
    | zero => simp at h1; simp [h1]
    | succ b =>
      have hx := h2 0 (by omega)
      simp at hx
      simp only [hx]
      have := ih (i := i + 1) (b := b) (by simpa using hb) (by simpa using h1) (fun j hj => by simpa using h2 (j + 1) (by omega))
      rw [if_neg (by simp), this]
      omega
theorem idxOf_first {l : List Int} {b : Nat} {v : Int} (hb : b < l.length) (h1 : l[b] = v) (h2 : ∀ j (hj : j < b), (l[j]'(by omega)) ≠ v) : idxOf l v = (b : Int) := by
  unfold idxOf
  rw [idx_at hb (by simpa using h1) (fun j hj => by simpa using h2 j hj)]
  omega
theorem idxOf_max {l : List Int} {b : Nat} (hb : b < l.length) (h1 : ∀ x ∈ l, x ≤ l[b]) (h2 : ∀ j (hj : j < b), (l[j]'(by omega)) < l[b]) : maxL l = l[b] ∧ idxOf l (maxL l) = (b : Int) := by
  have hne : l ≠ [] := by rintro rfl; simp at hb
  have e : maxL l = l[b] := by
    have := h1 _ (maxL_mem hne)
    have := maxL_ge (List.getElem_mem hb)
    omega
  exact ⟨e, by rw [e]; exact idxOf_first hb rfl (fun j hj => by have := h2 j hj; omega)⟩
end Go.Proofs.YtiofgoppgdgbaaaDoor
