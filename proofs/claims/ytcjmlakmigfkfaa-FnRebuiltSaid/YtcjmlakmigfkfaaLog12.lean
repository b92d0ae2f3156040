/- When a list of entries is a log; the lost log is one. Plain. No conditions. -/
import Derived.Test.YtcjmlakmigfkfaaLog10
import Derived.Test.YtcjmlakmigfkfaaSame
namespace Go.Proofs.Ytcjmlakmigfkfaa
set_option linter.unusedSimpArgs false
set_option linter.unusedVariables false
open Go.RowKit

theorem idxP_none {α : Type} {p : α → Bool} {L : List α} : ∀ (i : Int), (∀ x ∈ L, p x = false) → idxP p L i = -1 := by
  induction L with
  | nil => intro i _; rfl
  | cons x r ih =>
    intro i h
    have h1 := h x (by simp)
    simp only [idxP, h1]
    exact ih _ (fun y hy => h y (by simp [hy]))
theorem idxP_neg {α : Type} {p : α → Bool} {L : List α} : ∀ (i : Int), 0 ≤ i → idxP p L i < 0 → ∀ x ∈ L, p x = false := by
  induction L with
  | nil => intro i _ _ x hx; cases hx
  | cons y r ih =>
    intro i hi h x hx
    cases hy : p y with
    | true => simp only [idxP, hy, if_true] at h; omega
    | false =>
      simp only [idxP, hy] at h
      rcases List.mem_cons.1 hx with rfl | hx
      · exact hy
      · exact ih (i + 1) (by omega) h x hx
def ordE (x y : EntryT) : Prop := x.1 ≤ y.1 ∧ ¬ (x.2.1 = y.2.1 ∧ x.2.2.1 = y.2.2.1)
theorem goE_at {W : List EntryT} : ∀ {i : Nat}, goE W (prevE W i) i (W.drop i) = true → ∀ j, (hj : j < W.length) → i ≤ j → okE W (prevE W j) j W[j] = true := by
  intro i h j hj hij
  by_cases hi : i < W.length
  · rw [List.drop_eq_getElem_cons hi] at h
    unfold goE at h
    by_cases ho : okE W (prevE W i) i W[i] = true
    · rw [if_pos ho, ← prevE_succ hi] at h
      by_cases he : i = j
      · subst he; exact ho
      · exact goE_at h j hj (by omega)
    · rw [if_neg ho] at h; cases h
  · omega
termination_by i => W.length - i
theorem goodE_ord {L : List EntryT} (h : goodE L = true) : L.Pairwise ordE := by
  unfold goodE at h
  simp only [Bool.and_eq_true] at h
  have hat := goE_at (W := L) (i := 0) (by simpa [prevE] using h.1)
  have hok : ∀ j, (hj : j < L.length) → (idxP (isE L[j].2.1 L[j].2.2.1) L 0 = (j : Int)) ∧ ∀ i, (hi : i + 1 = j) → (L[i]'(by omega)).1 ≤ L[j].1 := by
    intro j hj
    have h1 := hat j hj (Nat.zero_le _)
    unfold okE at h1
    simp only [Bool.and_eq_true, decide_eq_true_eq] at h1
    refine ⟨h1.2.1, fun i hi => ?_⟩
    subst hi
    have h2 := h1.2.2
    rw [prevE_succ (by omega : i < L.length)] at h2
    simpa using h2
  have hsort : ∀ d i, (hd : i + d < L.length) → (L[i]'(by omega)).1 ≤ (L[i + d]'hd).1 := by
    intro d
    induction d with
    | zero => intro i hd; simp
    | succ d ih =>
      intro i hd
      have h1 := ih i (by omega)
      have h2 := (hok (i + d + 1) (by omega)).2 (i + d) rfl
      simp only [Nat.add_assoc] at h2 ⊢
      omega
  rw [List.pairwise_iff_getElem]
  intro i j hi hj hij
  refine ⟨?_, fun hkey => ?_⟩
  · have := hsort (j - i) i (by omega)
    have e : i + (j - i) = j := by omega
    simp only [e] at this
    exact this
  · have h1 := (hok j hj).1
    have h2 := (idxP_take (p := isE L[j].2.1 L[j].2.2.1) (L := L) 0 hj (by simp [isE]) (by omega)).1 (by rw [h1]; simp)
    have h3 := idxP_neg 0 (by omega) h2 L[i] (by rw [List.mem_take_iff_getElem]; exact ⟨i, by omega, rfl⟩)
    simp [isE, hkey.1, hkey.2] at h3
theorem goE_of {W : List EntryT} (hE : ∀ x ∈ W, entB x = true) (hO : W.Pairwise ordE) : ∀ i, goE W (prevE W i) i (W.drop i) = true := by
  intro i
  by_cases hi : i < W.length
  · have ih := goE_of hE hO (i + 1)
    rw [List.drop_eq_getElem_cons hi]
    unfold goE
    have hP := List.pairwise_iff_getElem.1 hO
    have ho : okE W (prevE W i) i W[i] = true := by
      unfold okE
      simp only [Bool.and_eq_true, decide_eq_true_eq]
      refine ⟨hE _ (List.getElem_mem hi), ?_, ?_⟩
      · have h2 := (idxP_take (p := isE W[i].2.1 W[i].2.2.1) (L := W) 0 hi (by simp [isE]) (by omega)).2 (by
          rw [idxP_none 0 (fun x hx => ?_)]
          · omega
          · obtain ⟨j, hj, rfl⟩ := List.mem_take_iff_getElem.1 hx
            have := (hP j i (by omega) hi (by omega)).2
            cases hb : isE W[i].2.1 W[i].2.2.1 W[j] with
            | false => rfl
            | true => simp [isE] at hb; exact absurd ⟨hb.1, hb.2⟩ this)
        simpa using h2
      · cases i with
        | zero => simp [prevE]
        | succ i =>
          rw [prevE_succ (by omega : i < W.length)]
          simp only [decide_eq_true_eq]
          exact (hP i (i + 1) (by omega) hi (by omega)).1
    rw [if_pos ho, ← prevE_succ hi]
    exact ih
  · rw [List.drop_eq_nil_of_le (by omega)]; rfl
termination_by i => W.length - i
theorem goodE_of {L : List EntryT} (hE : ∀ x ∈ L, entB x = true) (hO : L.Pairwise ordE) (hn : L.length ≤ 30) : goodE L = true := by
  unfold goodE
  simp only [Bool.and_eq_true, decide_eq_true_eq]
  exact ⟨by simpa [prevE] using goE_of hE hO 0, hn⟩
/-- The lost log. -/
def rebOf (a b : Int) (p : EntryT × EntryT) : EntryT := (p.1.1 + a, p.1.2.1, p.1.2.2.1, p.1.2.2.2.2, p.2.2.2.2.1)
def openG (a b : Int) (p : EntryT × EntryT) : Bool := decide (p.1.1 + a ≤ p.2.1 - b)
def rebE (a b : Int) : List (EntryT × EntryT) → List EntryT
  | [] => []
  | p :: r => if openG a b p = true then rebOf a b p :: rebE a b r else rebE a b r
theorem rebE_eq (a b : Int) (P : List (EntryT × EntryT)) : rebE a b P = (P.filter (openG a b)).map (rebOf a b) := by
  induction P with
  | nil => rfl
  | cons p r ih =>
    unfold rebE
    by_cases h : openG a b p = true
    · simp [h, ih]
    · simp [h, ih]
theorem togE_fst (M L : List EntryT) : ((togE M L).map Prod.fst).Sublist L := by
  induction L with
  | nil => simp [togE]
  | cons x r ih =>
    unfold togE
    split
    · exact ih.cons _
    · exact ih.cons_cons _
def rebR (L M : List EntryT) (a b : Int) : List EntryT × Bool := if askE L M a b = true then (rebE a b (togE M L), true) else ([], false)
theorem rebE_good {L M : List EntryT} {a b : Int} (h : askE L M a b = true) : goodE (rebE a b (togE M L)) = true := by
  obtain ⟨hL, hM, ha, hb⟩ := askE_true h
  have gL := goodE_all hL
  have gM := goodE_all hM
  have oL := goodE_ord hL
  have hmem : ∀ x ∈ rebE a b (togE M L), ∃ p ∈ togE M L, openG a b p = true ∧ x = rebOf a b p := by
    intro x hx
    rw [rebE_eq] at hx
    obtain ⟨p, hp, rfl⟩ := List.mem_map.1 hx
    obtain ⟨hp1, hp2⟩ := List.mem_filter.1 hp
    exact ⟨p, hp1, hp2, rfl⟩
  refine goodE_of (fun x hx => ?_) ?_ ?_
  · obtain ⟨p, hp, ho, rfl⟩ := hmem x hx
    have hpm := togE_mem p hp
    have e1 := gL.1 _ hpm.1
    have e2 := gM.1 _ hpm.2
    have t1 := entB_time e1
    have t2 := entB_time e2
    unfold openG at ho
    rw [decide_eq_true_eq] at ho
    unfold entB at e1 e2
    simp only [Bool.and_eq_true] at e1 e2
    unfold entB rebOf
    simp only [Bool.and_eq_true]
    exact ⟨inB_true.2 ⟨by omega, by omega⟩, e1.2.1, e1.2.2.1, e1.2.2.2.2, e2.2.2.2.1⟩
  · rw [rebE_eq, List.pairwise_map]
    have hs : ((togE M L).map Prod.fst).Pairwise ordE := oL.sublist (togE_fst M L)
    rw [List.pairwise_map] at hs
    refine (hs.sublist List.filter_sublist).imp ?_
    intro p q hpq
    unfold ordE at hpq ⊢
    unfold rebOf
    exact ⟨by simp only; omega, hpq.2⟩
  · have h1 := togE_len M L
    have h2 := List.length_filter_le (openG a b) (togE M L)
    rw [rebE_eq]
    simp
    omega
theorem rebR_len (L M : List EntryT) (a b : Int) : (rebR L M a b).1.length ≤ 30 := by
  unfold rebR
  split
  · rename_i h
    exact (goodE_all (rebE_good h)).2
  · simp
/-- Each list of an entry is short. -/
theorem entB_len {x : EntryT} (h : entB x = true) : x.2.2.2.1.length ≤ 8 ∧ x.2.2.2.2.length ≤ 8 := by
  unfold entB sigB at h
  simp only [Bool.and_eq_true] at h
  have h1 := inB_true.1 h.2.2.2.1.1
  have h2 := inB_true.1 h.2.2.2.2.1
  omega
theorem totE_short {L : List EntryT} (h : ∀ x ∈ L, x.2.2.2.1.length ≤ 8 ∧ x.2.2.2.2.length ≤ 8) : totE L ≤ L.length * 16 := by
  induction L with
  | nil => simp [totE]
  | cons x r ih =>
    have h1 := ih (fun y hy => h y (by simp [hy]))
    have h2 := h x (by simp)
    simp only [totE, List.length_cons]
    omega
theorem rebR_all (L M : List EntryT) (a b : Int) : ∀ x ∈ (rebR L M a b).1, x.2.2.2.1.length ≤ 8 ∧ x.2.2.2.2.length ≤ 8 := by
  unfold rebR
  split
  · rename_i h
    exact fun x hx => entB_len ((goodE_all (rebE_good h)).1 x hx)
  · simp
theorem rebR_tot (L M : List EntryT) (a b : Int) : totE (rebR L M a b).1 ≤ 480 := by
  have h1 := totE_short (rebR_all L M a b)
  have h2 := rebR_len L M a b
  omega
end Go.Proofs.Ytcjmlakmigfkfaa
