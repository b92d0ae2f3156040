/- Sharing by the greatest rests: plain lists and integers, no program. No conditions. -/
import Derived.Test.YtiofgoppgdgbaaaDoorMaxI
namespace Go.Proofs.YtiofgoppgdgbaaaDoor
set_option linter.unusedSimpArgs false
set_option linter.unusedVariables false
open Go.RowKit

def sumI : List Int → Int
  | [] => 0
  | x :: r => x + sumI r
theorem sumI_append (a b : List Int) : sumI (a ++ b) = sumI a + sumI b := by
  induction a with
  | nil => simp [sumI]
  | cons x r ih => simp only [List.cons_append, sumI, ih]; omega
theorem sumI_take {l : List Int} {k : Nat} (h : k < l.length) : sumI (l.take (k + 1)) = sumI (l.take k) + l[k] := by
  rw [List.take_succ_eq_append_getElem h, sumI_append]
  simp [sumI]
theorem sumI_bd {l : List Int} {b : Int} (h : ∀ x ∈ l, 0 ≤ x ∧ x ≤ b) : 0 ≤ sumI l ∧ sumI l ≤ b * (l.length : Int) := by
  induction l with
  | nil => simp [sumI]
  | cons x r ih =>
    have h1 := ih (fun y hy => h y (by simp [hy]))
    have h2 := h x (by simp)
    simp only [sumI, List.length_cons]
    have e : b * ((r.length + 1 : Nat) : Int) = b * (r.length : Int) + b := by rw [Int.natCast_add, Int.mul_add]; simp
    rw [e]
    omega
def quos (p s : Int) (ns : List Int) : List Int := ns.map fun n => p * n / s
def rests (p s : Int) (ns : List Int) : List Int := ns.map fun n => p * n % s
@[simp] theorem length_quos (p s : Int) (ns : List Int) : (quos p s ns).length = ns.length := by simp [quos]
@[simp] theorem length_rests (p s : Int) (ns : List Int) : (rests p s ns).length = ns.length := by simp [rests]
theorem quos_rests (p s : Int) (ns : List Int) : p * sumI ns = s * sumI (quos p s ns) + sumI (rests p s ns) := by
  induction ns with
  | nil => simp [sumI, quos, rests]
  | cons x r ih =>
    simp only [quos, rests, List.map_cons, sumI] at ih ⊢
    have h := Int.mul_ediv_add_emod (p * x) s
    rw [Int.mul_add, Int.mul_add, ih]
    omega
theorem rests_lt {p s : Int} (hs : 0 < s) (ns : List Int) : 0 ≤ sumI (rests p s ns) ∧ (ns ≠ [] → sumI (rests p s ns) < s * (ns.length : Int)) := by
  induction ns with
  | nil => simp [sumI, rests]
  | cons x r ih =>
    have h1 := Int.emod_nonneg (p * x) (show s ≠ 0 by omega)
    have h2 := Int.emod_lt_of_pos (p * x) hs
    simp only [rests, List.map_cons, sumI, List.length_cons] at ih ⊢
    have e : s * ((r.length + 1 : Nat) : Int) = s * (r.length : Int) + s := by rw [Int.natCast_add, Int.mul_add]; simp
    rw [e]
    refine ⟨by omega, fun _ => ?_⟩
    cases r with
    | nil => simp [sumI]; omega
    | cons y q => have := ih.2 (by simp); omega
/-- What is left when everyone has the whole quotient: less than one each. -/
theorem left_bd {p : Int} {ns : List Int} (hs : 0 < sumI ns) (hne : ns ≠ []) : 0 ≤ p - sumI (quos p (sumI ns) ns) ∧ p - sumI (quos p (sumI ns) ns) < (ns.length : Int) := by
  have h1 := quos_rests p (sumI ns) ns
  have h2 := rests_lt (p := p) hs ns
  have h3 := h2.2 hne
  generalize sumI ns = s at *
  generalize sumI (quos p s ns) = q at *
  generalize sumI (rests p s ns) = r at *
  have e : s * (p - q) = r := by rw [Int.mul_sub, Int.mul_comm s p]; omega
  constructor
  · rcases Int.lt_or_le (p - q) 0 with h | h
    · have := Int.mul_neg_of_pos_of_neg hs h; omega
    · exact h
  · rcases Int.lt_or_le (p - q) (ns.length : Int) with h | h
    · exact h
    · have := Int.mul_le_mul_of_nonneg_left h (Int.le_of_lt hs); omega
/-- The place of the greatest rest. -/
def best (R : List Int) : Nat := (idxOf R (maxL R)).toNat
def stepS (x : List Int × List Int) : List Int × List Int := (x.1.set (best x.2) (x.1.getD (best x.2) 0 + 1), x.2.set (best x.2) (-1))
def shareN : Nat → List Int × List Int → List Int × List Int
  | 0, x => x
  | t + 1, x => shareN t (stepS x)
/-- How many can still be served. -/
def open_ (R : List Int) : Nat := (R.filter fun x => decide (0 ≤ x)).length
theorem open_pos {R : List Int} (h : 0 < open_ R) : ∃ x ∈ R, 0 ≤ x := by
  unfold open_ at h
  obtain ⟨x, hx⟩ := List.exists_mem_of_length_pos h
  rw [List.mem_filter] at hx
  exact ⟨x, hx.1, by simpa using hx.2⟩
theorem open_set {R : List Int} {b : Nat} (hb : b < R.length) (h : 0 ≤ R[b]) : open_ (R.set b (-1)) + 1 = open_ R := by
  unfold open_
  induction R generalizing b with
  | nil => simp at hb
  | cons x r ih =>
    cases b with
    | zero => simp at h; simp [List.filter_cons, h]
    | succ b =>
      have := ih (b := b) (by simpa using hb) (by simpa using h)
      simp only [List.set_cons_succ, List.filter_cons]
      split
      all_goals
        try simp only [List.length_cons]
        omega
theorem open_all {R : List Int} (h : ∀ x ∈ R, 0 ≤ x) : open_ R = R.length := by
  unfold open_
  rw [List.filter_eq_self.2 (fun x hx => by simpa using h x hx)]
/-- The place, where someone can be served. -/
theorem best_spec {R : List Int} (h : 0 < open_ R) : ∃ hb : best R < R.length, idxOf R (maxL R) = (best R : Int) ∧ R[best R] = maxL R ∧ 0 ≤ R[best R] ∧ (∀ x ∈ R, x ≤ R[best R]) ∧ ∀ j (hj : j < best R), (R[j]'(by omega)) < R[best R] := by
  obtain ⟨x, hx, h0⟩ := open_pos h
  have hne : R ≠ [] := by rintro rfl; cases hx
  have hm := maxL_mem hne
  have hge : ∀ y ∈ R, y ≤ maxL R := fun y hy => maxL_ge hy
  -- the first place of the greatest
  have hex : ∃ b, ∃ hb : b < R.length, R[b] = maxL R ∧ ∀ j (hj : j < b), (R[j]'(by omega)) ≠ maxL R := by
    have key : ∀ (l : List Int) (v : Int), v ∈ l → ∃ b, ∃ hb : b < l.length, l[b] = v ∧ ∀ j (hj : j < b), (l[j]'(by omega)) ≠ v := by
      intro l v
      induction l with
      | nil => intro h; cases h
      | cons y r ih =>
        intro h
        by_cases e : y = v
        · exact ⟨0, by simp, by simpa using e, fun j hj => by omega⟩
        · have hv : v ∈ r := by
            rcases List.mem_cons.1 h with rfl | h
            · exact absurd rfl e
            · exact h
          obtain ⟨b, hb, h1, h2⟩ := ih hv
          refine ⟨b + 1, by simpa using hb, by simpa using h1, fun j hj => ?_⟩
          cases j with
          | zero => simpa using e
          | succ j => simpa using h2 j (by omega)
    exact key R _ hm
  obtain ⟨b, hb, h1, h2⟩ := hex
  have hi : idxOf R (maxL R) = (b : Int) := idxOf_first hb h1 h2
  have hbest : best R = b := by unfold best; rw [hi]; simp
  have hx' := hge x hx
  refine ⟨by rw [hbest]; exact hb, by rw [hbest]; exact hi, by simp only [hbest]; exact h1, by simp only [hbest]; omega, fun y hy => by simp only [hbest]; have := hge y hy; omega, fun j hj => ?_⟩
  simp only [hbest] at hj ⊢
  have h3 := h2 j hj
  have h4 := hge _ (List.getElem_mem (show j < R.length by omega))
  omega
/-- The search for the best, so far: none, or the first of the greatest among those that can be served. -/
def BestN (R : List Int) (b : Int) (k : Nat) : Prop :=
  (b = -1 ∧ ∀ j x, j < k → R[j]? = some x → x < 0) ∨
  (∃ m : Nat, b = (m : Int) ∧ m < k ∧ ∃ y, R[m]? = some y ∧ 0 ≤ y ∧ (∀ j x, j < k → R[j]? = some x → x ≤ y) ∧ ∀ j x, j < m → R[j]? = some x → x < y)
theorem BestN.start {R : List Int} : BestN R (-1) 0 := .inl ⟨rfl, fun j x h => by omega⟩
/-- One who cannot be served, or is not better. -/
theorem BestN.keep {R : List Int} {b : Int} {k : Nat} {x : Int} (h : BestN R b k) (hx : R[k]? = some x) (hn : x < 0 ∨ ∃ m : Nat, b = (m : Int) ∧ ∃ y, R[m]? = some y ∧ x ≤ y) : BestN R b (k + 1) := by
  rcases h with ⟨rfl, h⟩ | ⟨m, rfl, hm, y, hy, h0, h1, h2⟩
  · refine .inl ⟨rfl, fun j z hj hz => ?_⟩
    by_cases e : j = k
    · subst e
      rw [hx] at hz
      injection hz with hz
      rcases hn with hn | ⟨m, hm, _⟩
      · omega
      · omega
    · exact h j z (by omega) hz
  · refine .inr ⟨m, rfl, by omega, y, hy, h0, fun j z hj hz => ?_, h2⟩
    by_cases e : j = k
    · subst e
      rw [hx] at hz
      injection hz with hz
      rcases hn with hn | ⟨m', hm', y', hy', hle⟩
      · omega
      · have : m' = m := by omega
        subst this
        rw [hy] at hy'
        injection hy' with hy'
        omega
    · exact h1 j z (by omega) hz
/-- One who is better. -/
theorem BestN.take {R : List Int} {b : Int} {k : Nat} {x : Int} (h : BestN R b k) (hx : R[k]? = some x) (h0 : 0 ≤ x) (hn : b = -1 ∨ ∃ m : Nat, b = (m : Int) ∧ ∃ y, R[m]? = some y ∧ y < x) : BestN R (k : Int) (k + 1) := by
  have hall : ∀ j z, j < k → R[j]? = some z → z < x := by
    intro j z hj hz
    rcases h with ⟨rfl, h⟩ | ⟨m, rfl, hm, y, hy, hy0, h1, h2⟩
    · have := h j z hj hz; omega
    · have h3 := h1 j z hj hz
      rcases hn with hn | ⟨m', hm', y', hy', hlt⟩
      · omega
      · have : m' = m := by omega
        subst this
        rw [hy] at hy'
        injection hy' with hy'
        omega
  refine .inr ⟨k, rfl, by omega, x, hx, h0, fun j z hj hz => ?_, hall⟩
  by_cases e : j = k
  · subst e
    rw [hx] at hz
    injection hz with hz
    omega
  · have := hall j z (by omega) hz; omega
theorem BestN.end_ {R : List Int} {b : Int} (h : BestN R b R.length) (ho : 0 < open_ R) : b = (best R : Int) := by
  obtain ⟨hb, _, _, h0, h1, h2⟩ := best_spec ho
  rcases h with ⟨rfl, h⟩ | ⟨m, rfl, hm, y, hy, hy0, h3, h4⟩
  · obtain ⟨x, hx, hx0⟩ := open_pos ho
    obtain ⟨j, hj, rfl⟩ := List.getElem_of_mem hx
    have := h j _ hj (List.getElem?_eq_getElem hj)
    omega
  · have e1 : R[m]? = some (R[m]'(by omega)) := List.getElem?_eq_getElem (by omega)
    rw [e1] at hy
    injection hy with hy
    have hb1 := h3 (best R) _ hb (List.getElem?_eq_getElem hb)
    have hb2 := h1 _ (List.getElem_mem (show m < R.length by omega))
    rcases Nat.lt_trichotomy m (best R) with hl | hl | hl
    · have := h2 m hl; omega
    · rw [hl]
    · have := h4 (best R) _ hl (List.getElem?_eq_getElem hb); omega
def sharesOf (p : Int) (ns : List Int) : List Int := (shareN (p - sumI (quos p (sumI ns) ns)).toNat (quos p (sumI ns) ns, rests p (sumI ns) ns)).1
theorem stepS_len (x : List Int × List Int) : (stepS x).1.length = x.1.length ∧ (stepS x).2.length = x.2.length := by simp [stepS]
theorem shareN_len (t : Nat) : ∀ x, (shareN t x).1.length = x.1.length ∧ (shareN t x).2.length = x.2.length := by
  induction t with
  | zero => intro x; simp [shareN]
  | succ t ih => intro x; have h1 := ih (stepS x); have h2 := stepS_len x; simp only [shareN]; omega
@[simp] theorem length_sharesOf (p : Int) (ns : List Int) : (sharesOf p ns).length = ns.length := by
  unfold sharesOf
  rw [(shareN_len _ _).1]
  simp
/-- What holds while t are still to be shared. -/
structure ShInv (p s : Int) (ns : List Int) (t : Nat) (S R : List Int) : Prop where
  lenS : S.length = ns.length
  lenR : R.length = ns.length
  left : t ≤ open_ R
  rest : ∀ (i : Nat) (x : Int), R[i]? = some x → x = -1 ∨ (0 ≤ x ∧ ∃ n, ns[i]? = some n ∧ x = p * n % s)
  bd : ∀ x ∈ S, 0 ≤ x ∧ x + (t : Int) ≤ 3000000
theorem ShInv.start {p : Int} {ns : List Int} (hs : 0 < sumI ns) (hp0 : 0 ≤ p) (hp : p ≤ 1000000) (hn : ∀ n ∈ ns, 0 ≤ n) (hl : ns.length ≤ 1000) :
    ShInv p (sumI ns) ns (p - sumI (quos p (sumI ns) ns)).toNat (quos p (sumI ns) ns) (rests p (sumI ns) ns) := by
  have hne : ns ≠ [] := by rintro rfl; simp [sumI] at hs
  have hb := left_bd (p := p) hs hne
  have hr0 : ∀ x ∈ rests p (sumI ns) ns, 0 ≤ x := by
    intro x hx
    simp only [rests, List.mem_map] at hx
    obtain ⟨n, _, rfl⟩ := hx
    exact Int.emod_nonneg _ (by omega)
  have hmem : ∀ (l : List Int), (∀ n ∈ l, 0 ≤ n) → ∀ n ∈ l, n ≤ sumI l := by
    intro l
    induction l with
    | nil => intro _ n hn; cases hn
    | cons y r ih =>
      intro h n hn
      have h1 := (sumI_bd (l := r) (b := sumI r) (fun z hz => ⟨h z (by simp [hz]), ih (fun z hz => h z (by simp [hz])) z hz⟩)).1
      simp only [sumI]
      rcases List.mem_cons.1 hn with rfl | hn
      · omega
      · have h2 := ih (fun z hz => h z (by simp [hz])) n hn
        have h3 := h y (by simp)
        omega
  refine ⟨by simp, by simp, ?_, fun i x hx => ?_, fun x hx => ?_⟩
  · rw [open_all hr0]
    simp
    omega
  · refine .inr ⟨hr0 x (List.mem_of_getElem? hx), ?_⟩
    simp only [rests, List.getElem?_map] at hx
    cases h : ns[i]? with
    | none => rw [h] at hx; cases hx
    | some n => rw [h] at hx; injection hx with hx; exact ⟨n, rfl, hx.symm⟩
  · simp only [quos, List.mem_map] at hx
    obtain ⟨n, hnm, rfl⟩ := hx
    have h1 := hmem ns hn n hnm
    have h2 := hn n hnm
    have h3 : p * n / sumI ns ≤ p := by
      have h4 : p * n ≤ p * sumI ns := Int.mul_le_mul_of_nonneg_left h1 hp0
      have h5 := Int.ediv_le_ediv hs h4
      rwa [Int.mul_ediv_cancel _ (by omega)] at h5
    have h6 : 0 ≤ p * n / sumI ns := Int.ediv_nonneg (Int.mul_nonneg hp0 h2) (by omega)
    omega
theorem ShInv.step {p s : Int} {ns : List Int} {t : Nat} {S R : List Int} (h : ShInv p s ns (t + 1) S R) :
    ∃ hb : best R < ns.length, idxOf R (maxL R) = (best R : Int) ∧ (∃ y, R[best R]? = some y ∧ 0 ≤ y) ∧ S[best R]? = some (S.getD (best R) 0) ∧ ShInv p s ns t (stepS (S, R)).1 (stepS (S, R)).2 := by
  have ho : 0 < open_ R := by have := h.left; omega
  obtain ⟨hb, h1, h2, h3, _, _⟩ := best_spec ho
  have hbS : best R < S.length := by rw [h.lenS, ← h.lenR]; exact hb
  have hS : S[best R]? = some (S.getD (best R) 0) := by simp [List.getD, List.getElem?_eq_getElem hbS]
  refine ⟨by rw [← h.lenR]; exact hb, h1, ⟨_, List.getElem?_eq_getElem hb, h3⟩, hS, ⟨by simp [stepS, h.lenS], by simp [stepS, h.lenR], ?_, fun i x hx => ?_, fun x hx => ?_⟩⟩
  · have := open_set hb h3
    have := h.left
    simp only [stepS]
    omega
  · simp only [stepS] at hx
    by_cases e : best R = i
    · subst e
      rw [List.getElem?_set_self hb] at hx
      injection hx with hx
      exact .inl hx.symm
    · rw [List.getElem?_set_ne e] at hx
      exact h.rest i x hx
  · simp only [stepS] at hx
    rcases List.mem_or_eq_of_mem_set hx with hx | rfl
    · have := h.bd x hx; omega
    · have := h.bd _ (List.mem_of_getElem? hS); omega
end Go.Proofs.YtiofgoppgdgbaaaDoor
