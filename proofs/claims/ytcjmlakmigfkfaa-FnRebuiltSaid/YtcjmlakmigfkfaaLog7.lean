/- Entries that belong together: their indices, pairs and gaps; plain. No conditions. -/
import Derived.Test.YtcjmlakmigfkfaaLog6
namespace Go.Proofs.Ytcjmlakmigfkfaa
set_option linter.unusedSimpArgs false
set_option linter.unusedVariables false
open Go.RowKit

abbrev G4T := Int × Int × Int × Int
def zE : EntryT := (0, 0, 0, [], [])
/-- The index of the entry of M with the message and the part of x, or -1. -/
def findE (M : List EntryT) (x : EntryT) : Int := idxP (isE x.2.1 x.2.2.1) M 0
/-- The indices of the entries that belong together. -/
def ixE (M : List EntryT) : Nat → List EntryT → List (Nat × Nat)
  | _, [] => []
  | i, x :: r => if findE M x < 0 then ixE M (i + 1) r else (i, (findE M x).toNat) :: ixE M (i + 1) r
/-- The entries that belong together. -/
def togE (M : List EntryT) : List EntryT → List (EntryT × EntryT)
  | [] => []
  | x :: r => if findE M x < 0 then togE M r else (x, M.getD (findE M x).toNat zE) :: togE M r
def gapOf (a b : Int) (p : EntryT × EntryT) : G4T := (p.1.2.1, p.1.2.2.1, p.1.1 + a, p.2.1 - b)
def gapsE (M : List EntryT) (a b : Int) (L : List EntryT) : List G4T := (togE M L).map (gapOf a b)
def ixL (l : List (Nat × Nat)) : List (List Int) := l.map fun p => [(p.1 : Int), (p.2 : Int)]
theorem idxP_bd {α : Type} {p : α → Bool} {L : List α} : ∀ (i : Int), 0 ≤ i → ((idxP p L i = -1) ∨ ∃ k : Nat, idxP p L i = i + (k : Int) ∧ ∃ h : k < L.length, p L[k] = true) := by
  induction L with
  | nil => intro i _; exact .inl rfl
  | cons x r ih =>
    intro i hi
    by_cases hx : p x = true
    · exact .inr ⟨0, by simp [idxP, hx], by simp, by simpa using hx⟩
    · rcases ih (i + 1) (by omega) with h | ⟨k, h, hk, hp⟩
      · exact .inl (by simp [idxP, hx, h])
      · exact .inr ⟨k + 1, by simp [idxP, hx, h]; omega, by simp; omega, by simpa using hp⟩
theorem findE_cases (M : List EntryT) (x : EntryT) : findE M x = -1 ∨ ∃ k : Nat, findE M x = (k : Int) ∧ k < M.length := by
  rcases idxP_bd (p := isE x.2.1 x.2.2.1) (L := M) 0 (Int.le_refl _) with h | ⟨k, h, hk, _⟩
  · exact .inl h
  · exact .inr ⟨k, by unfold findE; rw [h]; simp, hk⟩
theorem ixE_bd {M : List EntryT} {L : List EntryT} : ∀ {i : Nat}, ∀ p ∈ ixE M i L, p.1 < i + L.length ∧ p.2 < M.length := by
  induction L with
  | nil => intro i p hp; simp [ixE] at hp
  | cons x r ih =>
    intro i p hp
    unfold ixE at hp
    rcases findE_cases M x with h | ⟨k, h, hk⟩
    · rw [h, if_pos (by omega)] at hp
      have := ih p hp
      simp only [List.length_cons]
      omega
    · rw [h, if_neg (by omega)] at hp
      rcases List.mem_cons.1 hp with rfl | hp
      · simp; exact hk
      · have := ih p hp
        simp only [List.length_cons]
        omega
theorem togE_ix {M L : List EntryT} : ∀ i, togE M (L.drop i) = (ixE M i (L.drop i)).map fun p => (L.getD p.1 zE, M.getD p.2 zE) := by
  intro i
  by_cases hi : i < L.length
  · have hd := List.drop_eq_getElem_cons hi
    have ih := togE_ix (M := M) (L := L) (i + 1)
    rw [hd]
    unfold togE ixE
    by_cases hf : findE M L[i] < 0
    · rw [if_pos hf, if_pos hf, ih]
    · rw [if_neg hf, if_neg hf, List.map_cons, ih]
      simp [List.getD, List.getElem?_eq_getElem hi]
  · rw [List.drop_eq_nil_of_le (by omega)]; rfl
termination_by i => L.length - i
theorem togE_ix0 (M L : List EntryT) : togE M L = (ixE M 0 L).map fun p => (L.getD p.1 zE, M.getD p.2 zE) := by simpa using togE_ix (M := M) (L := L) 0
theorem length_togE (M L : List EntryT) : (togE M L).length = (ixE M 0 L).length := by rw [togE_ix0]; simp
theorem ixE_len {M L : List EntryT} : ∀ {i : Nat}, (ixE M i L).length ≤ L.length := by
  induction L with
  | nil => intro i; simp [ixE]
  | cons x r ih =>
    intro i
    unfold ixE
    have := ih (i := i + 1)
    split <;> simp <;> omega
theorem togE_len (M L : List EntryT) : (togE M L).length ≤ L.length := by rw [length_togE]; exact ixE_len
theorem togE_mem {M L : List EntryT} : ∀ p ∈ togE M L, p.1 ∈ L ∧ p.2 ∈ M := by
  induction L with
  | nil => intro p hp; simp [togE] at hp
  | cons x r ih =>
    intro p hp
    unfold togE at hp
    rcases findE_cases M x with h | ⟨k, h, hk⟩
    · rw [h, if_pos (by omega)] at hp
      exact ⟨List.mem_cons_of_mem _ (ih p hp).1, (ih p hp).2⟩
    · rw [h, if_neg (by omega)] at hp
      rcases List.mem_cons.1 hp with rfl | hp
      · refine ⟨List.mem_cons_self, ?_⟩
        simp [List.getD, List.getElem?_eq_getElem hk]
      · exact ⟨List.mem_cons_of_mem _ (ih p hp).1, (ih p hp).2⟩
theorem goE_all {W L : List EntryT} : ∀ {pv : Option Int} {i : Nat}, goE W pv i L = true → ∀ x ∈ L, entB x = true := by
  induction L with
  | nil => intro _ _ _ x hx; cases hx
  | cons y r ih =>
    intro pv i h x hx
    unfold goE at h
    by_cases ho : okE W pv i y = true
    · rw [if_pos ho] at h
      rcases List.mem_cons.1 hx with rfl | hx
      · unfold okE at ho
        simp only [Bool.and_eq_true] at ho
        exact ho.1
      · exact ih h x hx
    · rw [if_neg ho] at h; cases h
theorem goodE_all {L : List EntryT} (h : goodE L = true) : (∀ x ∈ L, entB x = true) ∧ L.length ≤ 30 := by
  unfold goodE at h
  simp only [Bool.and_eq_true, decide_eq_true_eq] at h
  exact ⟨goE_all h.1, h.2⟩
theorem entB_time {x : EntryT} (h : entB x = true) : 0 ≤ x.1 ∧ x.1 ≤ 10000 := by
  unfold entB at h
  simp only [Bool.and_eq_true] at h
  exact inB_true.1 h.1
end Go.Proofs.Ytcjmlakmigfkfaa
