/- The law of rebuilt logs: plain. No conditions. -/
import Derived.Test.YtcjmlakmigfkfaaFitB
import Derived.Test.YtcjmlakmigfkfaaChI
namespace Go.Proofs.Ytcjmlakmigfkfaa
set_option linter.unusedSimpArgs false
set_option linter.unusedVariables false
open Go.RowKit

def openN : List G4T → Nat
  | [] => 0
  | g :: r => (if g.2.2.1 ≤ g.2.2.2 then 1 else 0) + openN r
theorem openN_rebE (a b : Int) : ∀ P : List (EntryT × EntryT), openN (P.map (gapOf a b)) = (rebE a b P).length := by
  intro P
  induction P with
  | nil => rfl
  | cons p r ih =>
    simp only [List.map_cons, openN, ih, rebE, gapOf, openG]
    by_cases h : p.1.1 + a ≤ p.2.1 - b
    · simp [h]; omega
    · simp [h]
theorem openN_le : ∀ G : List G4T, openN G ≤ G.length := by
  intro G
  induction G with
  | nil => exact Nat.le_refl _
  | cons g r ih => simp only [openN, List.length_cons]; split <;> omega
theorem chI_chg (a b : Int) : ∀ (P : List (EntryT × EntryT)) (i : Nat), (chI (rebE a b P) i).length ≤ (chgE P).length := by
  intro P
  induction P with
  | nil => intro i; simp [rebE, chI]
  | cons p r ih =>
    intro i
    simp only [rebE, chgE]
    by_cases h : openG a b p = true
    · rw [if_pos h]
      have e : chI (rebOf a b p :: rebE a b r) i = if sameB p.1.2.2.2.2 p.2.2.2.2.1 = true then chI (rebE a b r) (i + 1) else (i : Int) :: chI (rebE a b r) (i + 1) := rfl
      rw [e]
      have := ih (i + 1)
      by_cases hs : sameB p.1.2.2.2.2 p.2.2.2.2.1 = true
      · rw [if_pos hs, if_pos hs]; exact this
      · rw [if_neg hs, if_neg hs]; simp only [List.length_cons]; omega
    · rw [if_neg h]
      have := ih i
      by_cases hs : sameB p.1.2.2.2.2 p.2.2.2.2.1 = true
      · rw [if_pos hs]; exact this
      · rw [if_neg hs]; simp only [List.length_cons]; omega
theorem rebE_all (a b : Int) : ∀ P : List (EntryT × EntryT), (rebE a b P).length = P.length → rebE a b P = P.map (rebOf a b) ∧ ∀ p ∈ P, openG a b p = true := by
  intro P
  have hle : ∀ Q : List (EntryT × EntryT), (rebE a b Q).length ≤ Q.length := fun Q => by rw [rebE_eq, List.length_map]; exact List.length_filter_le _ _
  induction P with
  | nil => intro _; exact ⟨rfl, fun p hp => by simp at hp⟩
  | cons p r ih =>
    intro h
    simp only [rebE] at h ⊢
    by_cases ho : openG a b p = true
    · rw [if_pos ho] at h ⊢
      obtain ⟨h1, h2⟩ := ih (by simpa using h)
      refine ⟨by rw [h1]; rfl, fun q hq => ?_⟩
      rcases List.mem_cons.1 hq with rfl | hq
      · exact ho
      · exact h2 q hq
    · rw [if_neg ho] at h
      have := hle r
      simp only [List.length_cons] at h
      omega
theorem idxP_first {α : Type} {p : α → Bool} {L : List α} {k : Nat} (hk : k < L.length) (hp : p L[k] = true) (hn : ∀ j (hj : j < k), p (L[j]'(by omega)) = false) : idxP p L 0 = (k : Int) := by
  have h := (idxP_take (p := p) (L := L) 0 hk hp (Int.le_refl _)).2 (by
    rw [idxP_none]
    · omega
    · intro x hx
      obtain ⟨j, hj, rfl⟩ := List.getElem_of_mem hx
      rw [List.length_take] at hj
      rw [List.getElem_take]
      exact hn j (by omega))
  rw [h]
  omega
theorem sameB_refl (l : List Int) : sameB l l = true := by simp [sameB]
theorem fitA_all {T : List EntryT} {a b : Int} : ∀ {P : List (EntryT × EntryT)}, (∀ p ∈ P, fit1 T a b p = true) → fitA T a b P = true := by
  intro P
  induction P with
  | nil => intro _; rfl
  | cons p r ih =>
    intro h
    simp only [fitA, h p (by simp), ih (fun q hq => h q (by simp [hq])), Bool.and_self]
/-- A rebuilt log fits between its neighbours unless a gap is closed. -/
theorem law_fits {L M : List EntryT} {a b : Int} (h : askE L M a b = true) :
    (fitA (rebE a b (togE M L)) a b (togE M L) && decide ((togE M L).length = (rebE a b (togE M L)).length)) = decide ((rebE a b (togE M L)).length = (togE M L).length) := by
  by_cases hl : (rebE a b (togE M L)).length = (togE M L).length
  · obtain ⟨h1, h2⟩ := rebE_all a b _ hl
    have hg := rebE_good h
    rw [decide_eq_true hl, decide_eq_true hl.symm, Bool.and_true]
    rw [h1] at hg ⊢
    have hord := goodE_ord hg
    refine fitA_all (fun p hp => ?_)
    obtain ⟨k, hk, rfl⟩ := List.getElem_of_mem hp
    have hk' : k < ((togE M L).map (rebOf a b)).length := by simpa using hk
    have e1 : ((togE M L).map (rebOf a b))[k] = rebOf a b (togE M L)[k] := by simp
    have hf : findE ((togE M L).map (rebOf a b)) (togE M L)[k].1 = (k : Int) := by
      refine idxP_first hk' ?_ (fun j hj => ?_)
      · rw [e1]; simp [isE, rebOf]
      · have := (List.pairwise_iff_getElem.1 hord j k (by omega) hk' hj).2
        rw [e1] at this
        simp only [rebOf] at this
        unfold isE
        rw [Bool.and_eq_false_iff, beq_eq_false_iff_ne, beq_eq_false_iff_ne]
        by_cases hm : ((togE M L).map (rebOf a b))[j].2.1 = (togE M L)[k].1.2.1
        · exact .inr (fun e => this ⟨hm, e⟩)
        · exact .inl hm
    have ho := h2 _ (List.getElem_mem hk)
    have hgd : ((togE M L).map (rebOf a b)).getD k zE = rebOf a b (togE M L)[k] := by
      rw [List.getD_eq_getElem?_getD, List.getElem?_eq_getElem hk', e1]; rfl
    unfold fit1
    rw [hf, if_neg (by omega), Int.toNat_natCast, hgd]
    unfold openG at ho
    simp only [rebOf, sameB_refl, Bool.and_self, Bool.and_true]
    rw [decide_eq_true_eq] at ho
    exact inB_true.2 ⟨Int.le_refl _, ho⟩
  · rw [decide_eq_false hl, decide_eq_false (fun e => hl e.symm), Bool.and_false]
end Go.Proofs.Ytcjmlakmigfkfaa
