/- Joining two increasing lists: sorted and compacted, or put in one by one. Plain. No conditions. -/
import Derived.Test.YtjibdabedagghaaSrt
import Derived.Test.YtjibdabedagghaaPlan
namespace Go.Proofs.Ytjibdabedagghaa
set_option linter.unusedSimpArgs false
set_option linter.unusedVariables false
open Go.RowKit

def putL : List Int → Int → List Int
  | [], v => [v]
  | x :: r, v => if x < v then x :: putL r v else if x = v then x :: r else v :: x :: r
theorem mem_putL (l : List Int) (v y : Int) : y ∈ putL l v ↔ y ∈ l ∨ y = v := by
  induction l with
  | nil => simp [putL]
  | cons x r ih =>
    unfold putL
    split
    · simp only [List.mem_cons, ih, or_assoc]
    · split
      · rename_i h; subst h; simp only [List.mem_cons]; constructor
        · intro h; exact .inl h
        · rintro (h | h)
          · exact h
          · exact .inl h
      · simp only [List.mem_cons]
        constructor
        · rintro (h | h | h)
          · exact .inr h
          · exact .inl (.inl h)
          · exact .inl (.inr h)
        · rintro ((h | h) | h)
          · exact .inr (.inl h)
          · exact .inr (.inr h)
          · exact .inl h
theorem inc_putL {l : List Int} (v : Int) (h : l.Pairwise (· < ·)) : (putL l v).Pairwise (· < ·) := by
  induction l with
  | nil => simp [putL]
  | cons x r ih =>
    obtain ⟨h1, h2⟩ := List.pairwise_cons.1 h
    unfold putL
    split
    · rename_i hx
      refine List.pairwise_cons.2 ⟨fun y hy => ?_, ih h2⟩
      rcases (mem_putL r v y).1 hy with hy | rfl
      · exact h1 y hy
      · exact hx
    · split
      · exact h
      · refine List.pairwise_cons.2 ⟨fun y hy => ?_, h⟩
        rcases List.mem_cons.1 hy with rfl | hy
        · omega
        · have := h1 y hy; omega
def joinP (a b : List Int) : List Int := b.foldl putL a
theorem mem_joinP (b : List Int) : ∀ (a : List Int) (y : Int), y ∈ joinP a b ↔ y ∈ a ∨ y ∈ b := by
  induction b with
  | nil => intro a y; simp [joinP]
  | cons v r ih =>
    intro a y
    have := ih (putL a v) y
    simp only [joinP, List.foldl_cons] at this ⊢
    rw [this, mem_putL, List.mem_cons, or_assoc]
theorem inc_joinP (b : List Int) : ∀ {a : List Int}, a.Pairwise (· < ·) → (joinP a b).Pairwise (· < ·) := by
  induction b with
  | nil => intro a h; exact h
  | cons v r ih => intro a h; exact ih (inc_putL v h)
theorem inc_ext : ∀ {l m : List Int}, l.Pairwise (· < ·) → m.Pairwise (· < ·) → (∀ x, x ∈ l ↔ x ∈ m) → l = m := by
  intro l
  induction l with
  | nil =>
    intro m _ _ h
    cases m with
    | nil => rfl
    | cons y r => exact absurd ((h y).2 (by simp)) (by simp)
  | cons x r ih =>
    intro m hl hm h
    cases m with
    | nil => exact absurd ((h x).1 (by simp)) (by simp)
    | cons y s =>
      obtain ⟨h1, h2⟩ := List.pairwise_cons.1 hl
      obtain ⟨h3, h4⟩ := List.pairwise_cons.1 hm
      have e : x = y := by
        rcases List.mem_cons.1 ((h x).1 (by simp)) with e | hx
        · exact e
        · rcases List.mem_cons.1 ((h y).2 (by simp)) with e | hy
          · exact e.symm
          · have a := h3 x hx; have b := h1 y hy; omega
      subst e
      congr 1
      refine ih h2 h4 fun z => ⟨fun hz => ?_, fun hz => ?_⟩
      · rcases List.mem_cons.1 ((h z).1 (by simp [hz])) with e | h'
        · have := h1 z hz; omega
        · exact h'
      · rcases List.mem_cons.1 ((h z).2 (by simp [hz])) with e | h'
        · have := h3 z hz; omega
        · exact h'
/-- Equal neighbours once, behind p. -/
def uniq : Option Int → List Int → List Int
  | _, [] => []
  | p, x :: r => if p = some x then uniq p r else x :: uniq (some x) r
theorem mem_uniq (l : List Int) : ∀ p y, (y ∈ uniq p l → y ∈ l) ∧ (y ∈ l → p ≠ some y → y ∈ uniq p l) := by
  induction l with
  | nil => intro p y; simp [uniq]
  | cons x r ih =>
    intro p y
    unfold uniq
    split
    · rename_i h
      have := ih p y
      refine ⟨fun hy => List.mem_cons_of_mem _ (this.1 hy), fun hy hp => ?_⟩
      rcases List.mem_cons.1 hy with rfl | hy
      · exact absurd h hp
      · exact this.2 hy hp
    · have := ih (some x) y
      refine ⟨fun hy => ?_, fun hy hp => ?_⟩
      · rcases List.mem_cons.1 hy with rfl | hy
        · simp
        · exact List.mem_cons_of_mem _ (this.1 hy)
      · rcases List.mem_cons.1 hy with rfl | hy
        · simp
        · by_cases e : x = y
          · subst e; simp
          · exact List.mem_cons_of_mem _ (this.2 hy (by intro h'; injection h' with h'; exact e h'))
theorem inc_uniq (l : List Int) : ∀ p, l.Pairwise (· ≤ ·) → (∀ v, p = some v → ∀ x ∈ l, v ≤ x) → (uniq p l).Pairwise (· < ·) ∧ (∀ v, p = some v → ∀ x ∈ uniq p l, v < x) := by
  induction l with
  | nil => intro p _ _; simp [uniq]
  | cons x r ih =>
    intro p hl hp
    obtain ⟨h1, h2⟩ := List.pairwise_cons.1 hl
    unfold uniq
    split
    · exact ih p h2 (fun v hv y hy => hp v hv y (by simp [hy]))
    · rename_i hne
      obtain ⟨i1, i2⟩ := ih (some x) h2 (fun v hv y hy => by injection hv with hv; subst hv; exact h1 y hy)
      refine ⟨List.pairwise_cons.2 ⟨fun y hy => i2 x rfl y hy, i1⟩, fun v hv y hy => ?_⟩
      have hvx := hp v hv x (by simp)
      have hvne : v ≠ x := fun e => hne (by rw [hv, e])
      rcases List.mem_cons.1 hy with rfl | hy
      · omega
      · have := i2 x rfl y hy; omega
theorem compactUpTo_uniq (l : List Int) : ∀ m, m ≤ l.length → Lib.compactUpTo l.toArray m = uniq none (l.take m) := by
  have key : ∀ (l : List Int) (p : Option Int) (x : Int), uniq p (l ++ [x]) = uniq p l ++ (if (if l = [] then p else l.getLast?) = some x then [] else [x]) := by
    intro l
    induction l with
    | nil => intro p x; simp only [List.nil_append, uniq]; split <;> simp_all
    | cons y r ih =>
      intro p x
      simp only [List.cons_append, uniq]
      have e : (if y :: r = [] then p else (y :: r).getLast?) = (if r = [] then some y else r.getLast?) := by
        cases r with
        | nil => simp
        | cons z s => simp
      by_cases hp : p = some y
      · rw [if_pos hp, if_pos hp, ih, e]
        cases r with
        | nil => simp [hp]
        | cons z s => simp
      · rw [if_neg hp, if_neg hp, ih, e, List.cons_append]
  intro m
  induction m with
  | zero => intro _; simp [Lib.compactUpTo, uniq]
  | succ m ih =>
    intro hm
    rw [Lib.compactUpTo_succ, ih (by omega), List.take_succ_eq_append_getElem (by omega), key]
    congr 1
    have hm' : m < l.toArray.size := by rw [List.size_toArray]; omega
    have e1 : l.toArray[m]! = l[m]'(by omega) := by rw [getElem!_pos l.toArray m hm']; simp
    rw [e1]
    by_cases h0 : m = 0
    · subst h0
      simp [Lib.keeps]
    · have e2 : l.toArray[m - 1]! = l[m - 1]'(by omega) := by rw [getElem!_pos l.toArray (m - 1) (by rw [List.size_toArray]; omega)]; simp
      have e3 : (l.take m).getLast? = some (l[m - 1]'(by omega)) := by
        rw [List.getLast?_eq_getElem?]
        simp only [List.length_take, Nat.min_eq_left (show m ≤ l.length by omega)]
        rw [List.getElem?_take_of_lt (by omega), List.getElem?_eq_getElem (by omega)]
      have e4 : l.take m ≠ [] := by
        intro h
        rcases List.take_eq_nil_iff.1 h with h | h
        · exact h0 h
        · rw [h] at hm; simp at hm
      rw [if_neg e4, e3]
      by_cases hk : l[m]'(by omega) = l[m - 1]'(by omega)
      · have k1 := Lib.keeps_neg (d := l.toArray) (m := m) (by omega) (by rw [e1, e2]; exact hk)
        simp [k1, hk]
      · have k1 := Lib.keeps_pos (d := l.toArray) (m := m) (by rw [e1, e2]; exact hk)
        have k2 : ¬ (l[m - 1]'(by omega) = l[m]'(by omega)) := fun h => hk h.symm
        simp [k1, k2]
theorem compact_uniq (l : List Int) : Lib.compact l = uniq none l := by
  unfold Lib.compact
  rw [compactUpTo_uniq l l.length (Nat.le_refl _), List.take_length]
theorem sorted_sortL (l : List Int) : (sortL l).Pairwise (· ≤ ·) := by
  have h := List.pairwise_mergeSort (le := fun x y : Int => decide (x ≤ y)) (by intro a b c h1 h2; simp at h1 h2 ⊢; omega) (by intro a b; simp; omega) l
  exact h.imp fun h' => by simpa using h'
theorem join_eq {a b : List Int} (ha : a.Pairwise (· < ·)) : Lib.compact (sortL (a ++ b)) = joinP a b := by
  rw [compact_uniq]
  have h1 := inc_uniq (sortL (a ++ b)) none (sorted_sortL _) (fun v h => by cases h)
  refine inc_ext h1.1 (inc_joinP b ha) fun x => ?_
  rw [mem_joinP]
  have h2 := mem_uniq (sortL (a ++ b)) none x
  have h3 : x ∈ sortL (a ++ b) ↔ x ∈ a ∨ x ∈ b := by unfold sortL; rw [List.mem_mergeSort, List.mem_append]
  exact ⟨fun h => h3.1 (h2.1 h), fun h => h2.2 (h3.2 h) (by simp)⟩
theorem rise_pair {lo hi : Int} : ∀ (l : List Int) (p : Option Int), riseP lo hi p l = true → l.Pairwise (· < ·) ∧ (∀ v, p = some v → ∀ x ∈ l, v < x) ∧ ∀ x ∈ l, lo ≤ x ∧ x ≤ hi := by
  intro l
  induction l with
  | nil => intro p _; simp
  | cons x r ih =>
    intro p h
    rw [riseP_eq] at h
    simp only [Bool.and_eq_true] at h
    obtain ⟨ha, hi'⟩ := h
    have hall := allB_true.1 ha
    have h2 : incP (some x) r = true ∧ (∀ v, p = some v → v < x) := by
      cases p with
      | none => simpa [incP] using hi'
      | some q => simp [incP] at hi'; exact ⟨hi'.2, fun v hv => by injection hv with hv; omega⟩
    obtain ⟨i1, i2, i3⟩ := ih (some x) (by rw [riseP_eq, h2.1, allB_true.2 (fun y hy => hall y (by simp [hy]))]; rfl)
    refine ⟨List.pairwise_cons.2 ⟨fun y hy => i2 x rfl y hy, i1⟩, fun v hv y hy => ?_, fun y hy => hall y hy⟩
    have hvx := h2.2 v hv
    rcases List.mem_cons.1 hy with rfl | hy
    · exact hvx
    · have := i2 x rfl y hy; omega
theorem rise_inc {hi : Int} {l : List Int} (h : riseB 0 hi l = true) : l.Pairwise (· < ·) ∧ ∀ x ∈ l, 0 ≤ x ∧ x ≤ hi := ⟨(rise_pair l none h).1, (rise_pair l none h).2.2⟩
theorem inc_len {lo hi : Int} : ∀ {l : List Int}, l.Pairwise (· < ·) → (∀ x ∈ l, lo ≤ x ∧ x ≤ hi) → lo ≤ hi + 1 → (l.length : Int) ≤ hi + 1 - lo := by
  intro l
  induction l generalizing lo with
  | nil => intro _ _ h; simp; omega
  | cons x r ih =>
    intro hl hb hlo
    obtain ⟨h1, h2⟩ := List.pairwise_cons.1 hl
    have hx := hb x (by simp)
    have := ih (lo := x + 1) h2 (fun y hy => ⟨by have := h1 y hy; omega, (hb y (by simp [hy])).2⟩) (by omega)
    simp only [List.length_cons]
    push_cast
    omega
/-- The plan with the repairs of day f done on day t. -/
def joinL (L : PL) (f t : Nat) : PL := if f = t then L else (L.set t (joinP (L.getD t []) (L.getD f []))).set f []
def joinR (L : PL) (f t : Int) : PL × Bool := if planB 7 L = true ∧ inB f 0 ((L.length : Int) - 1) = true ∧ inB t 0 ((L.length : Int) - 1) = true then (joinL L f.toNat t.toNat, true) else ([], false)
theorem joinP_bd {a b : List Int} {hi : Int} (ha : a.Pairwise (· < ·)) (hba : ∀ x ∈ a, 0 ≤ x ∧ x ≤ hi) (hbb : ∀ x ∈ b, 0 ≤ x ∧ x ≤ hi) (hh : 0 ≤ hi) : ((joinP a b).length : Int) ≤ hi + 1 := by
  have := inc_len (lo := 0) (hi := hi) (inc_joinP b ha) (fun x hx => by
    rcases (mem_joinP b a x).1 hx with h | h
    · exact hba x h
    · exact hbb x h) (by omega)
  omega
theorem plan_rows {L : PL} (h : planB 7 L = true) : L.length ≤ 30 ∧ ∀ l ∈ L, l.Pairwise (· < ·) ∧ (∀ x ∈ l, 0 ≤ x ∧ x ≤ 7) ∧ l.length ≤ 8 := by
  simp only [planB, Bool.and_eq_true, decide_eq_true_eq] at h
  refine ⟨h.2, fun l hl => ?_⟩
  obtain ⟨h1, h2⟩ := rise_inc (allR_true.1 h.1 l hl)
  exact ⟨h1, h2, by have := inc_len (lo := 0) (hi := 7) h1 h2 (by omega); omega⟩
theorem joinR_bd (L : PL) (f t : Int) : (joinR L f t).1.length ≤ 30 ∧ ∀ x ∈ (joinR L f t).1, x.length ≤ 8 := by
  unfold joinR
  split
  · rename_i h
    obtain ⟨h1, h2⟩ := plan_rows h.1
    have hd : ∀ i, (L.getD i []).Pairwise (· < ·) ∧ (∀ x ∈ L.getD i [], 0 ≤ x ∧ x ≤ 7) ∧ (L.getD i []).length ≤ 8 := by
      intro i
      rw [List.getD_eq_getElem?_getD]
      cases hi : L[i]? with
      | none => simp
      | some l => exact h2 l (List.mem_of_getElem? hi)
    unfold joinL
    simp only
    split
    · exact ⟨h1, fun x hx => (h2 x hx).2.2⟩
    · refine ⟨by simpa using h1, fun x hx => ?_⟩
      rcases List.mem_or_eq_of_mem_set hx with hx | rfl
      · rcases List.mem_or_eq_of_mem_set hx with hx | rfl
        · exact (h2 x hx).2.2
        · have := joinP_bd (hi := 7) (hd t.toNat).1 (hd t.toNat).2.1 (hd f.toNat).2.1 (by omega); omega
      · simp
  · simp
end Go.Proofs.Ytjibdabedagghaa
