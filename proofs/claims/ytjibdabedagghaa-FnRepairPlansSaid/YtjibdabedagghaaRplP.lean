/- The law of repair plans: plain lists and integers, no program. No conditions. -/
import Derived.Test.YtjibdabedagghaaLate
import Derived.Test.YtjibdabedagghaaRep
import Derived.Test.YtjibdabedagghaaJoi
import Derived.Test.YtjibdabedagghaaLp6
namespace Go.Proofs.Ytjibdabedagghaa
set_option linter.unusedSimpArgs false
set_option linter.unusedVariables false
open Go.RowKit

theorem hasB_memR {l : List Int} {v : Int} : hasB l v = true ↔ v ∈ l := by simp [hasB]
/-! A plan's day as a set. -/
def setF (d : List Int) : Nat → Int → Nat
  | 0, _ => 0
  | n + 1, i => (if hasB d i = true then 1 else 0) + 2 * setF d n (i + 1)
theorem setF_lt (d : List Int) : ∀ n i, setF d n i < 2 ^ n := by
  intro n
  induction n with
  | zero => intro i; simp [setF]
  | succ n ih =>
    intro i
    have := ih (i + 1)
    simp only [setF, Nat.pow_succ]
    split <;> omega
theorem setF_odd (d : List Int) (n : Nat) (i : Int) : (setF d (n + 1) i % 2 = 1 ↔ hasB d i = true) ∧ setF d (n + 1) i / 2 = setF d n (i + 1) := by
  simp only [setF]
  split
  · next h => exact ⟨⟨fun _ => h, fun _ => by omega⟩, by omega⟩
  · next h => exact ⟨⟨fun hh => by omega, fun hh => absurd hh h⟩, by omega⟩
theorem setF_congr {d d' : List Int} : ∀ (n : Nat) (i : Int), (∀ j, i ≤ j → hasB d j = hasB d' j) → setF d n i = setF d' n i := by
  intro n
  induction n with
  | zero => intro i _; rfl
  | succ n ih =>
    intro i h
    simp only [setF, h i (Int.le_refl _), ih (i + 1) (fun j hj => h j (by omega))]
theorem setF_pos (d : List Int) : ∀ (n : Nat) (i : Int), 0 < setF d n i ↔ ∃ j, i ≤ j ∧ j < i + (n : Int) ∧ hasB d j = true := by
  intro n
  induction n with
  | zero => intro i; simp [setF]; intro j h1 h2; omega
  | succ n ih =>
    intro i
    simp only [setF]
    constructor
    · intro h
      by_cases hi : hasB d i = true
      · exact ⟨i, Int.le_refl _, by omega, hi⟩
      · rw [if_neg hi] at h
        obtain ⟨j, h1, h2, h3⟩ := (ih (i + 1)).1 (by omega)
        exact ⟨j, by omega, by omega, h3⟩
    · rintro ⟨j, h1, h2, h3⟩
      by_cases hji : j = i
      · subst hji; rw [if_pos h3]; omega
      · have := (ih (i + 1)).2 ⟨j, by omega, by omega, h3⟩
        omega
theorem holdsG_cons {i b c a : Int} {d : List Int} {r : PL} (h : holdsG i b c a (d :: r) = true) : ∃ y, y = (if hasB d i = true then 0 else a) + b ∧ y ≤ c ∧ holdsG i b c y r = true := by
  refine ⟨_, rfl, ?_⟩
  rw [holdsG] at h
  by_cases hc : c < (if hasB d i = true then 0 else a) + b
  · rw [if_pos hc] at h; cases h
  · rw [if_neg hc] at h
    exact ⟨by omega, h⟩
/-- No gear fails by a plan, from these wears on. -/
def holdsW (P : PL) : List G4 → List Int → Int → Prop
  | g :: r, x :: xs, i => holdsG i g.2.1 g.2.2.1 x P = true ∧ holdsW P r xs (i + 1)
  | _, _, _ => True
theorem holdsW_of (P : PL) : ∀ (l : List G4) (i : Int), holdsL P l i = true → holdsW P l (l.map (·.1)) i := by
  intro l
  induction l with
  | nil => intro i _; trivial
  | cons g r ih =>
    intro i h
    simp only [holdsL] at h
    split at h
    · next hg => exact ⟨hg, ih _ h⟩
    · cases h
theorem holdsW_step (d : List Int) (P : PL) : ∀ (l : List G4) (ws : List Int) (i : Int), holdsW (d :: P) l ws i → failsW l ws (setF d l.length i) = false ∧ holdsW P l (stepW l ws (setF d l.length i)) i := by
  intro l
  induction l with
  | nil => intro ws i _; cases ws <;> exact ⟨rfl, trivial⟩
  | cons g r ih =>
    intro ws i h
    cases ws with
    | nil => exact ⟨rfl, trivial⟩
    | cons x xs =>
      obtain ⟨h1, h2⟩ := h
      obtain ⟨o1, o2⟩ := setF_odd d r.length i
      obtain ⟨f1, f2⟩ := ih xs (i + 1) h2
      simp only [List.length_cons, failsW, stepW, o2]
      rw [← o2] at f1 f2
      have e : (if setF d (r.length + 1) i % 2 = 1 then (0 : Int) else x) = (if hasB d i = true then 0 else x) := by
        by_cases hh : hasB d i = true
        · rw [if_pos (o1.2 hh), if_pos hh]
        · rw [if_neg (fun h => hh (o1.1 h)), if_neg hh]
      simp only [e]
      rw [o2] at f1 f2
      obtain ⟨y, hy, hc, h1⟩ := holdsG_cons h1
      rw [← hy]
      refine ⟨?_, h1, f2⟩
      rw [f1]
      simpa using hc
/-- What a day costs, as a list and as a set. -/
theorem dayC_set (L : List G4) : ∀ (l pre : List G4) (d : List Int), L = pre ++ l → d.Pairwise (· < ·) → (∀ x ∈ d, (pre.length : Int) ≤ x ∧ x < (pre.length : Int) + (l.length : Int)) → dayC L d = sumC l (setF d l.length (pre.length : Int)) := by
  intro l
  induction l with
  | nil =>
    intro pre d hL hp hd
    cases d with
    | nil => rfl
    | cons x r => have := hd x (by simp); simp at this; omega
  | cons g r ih =>
    intro pre d hL hp hd
    obtain ⟨o1, o2⟩ := setF_odd d r.length (pre.length : Int)
    have hpre : ((pre ++ [g]).length : Int) = (pre.length : Int) + 1 := by simp
    simp only [List.length_cons, sumC, o2]
    by_cases hi : hasB d (pre.length : Int) = true
    · rw [if_pos (o1.2 hi)]
      cases d with
      | nil => simp [hasB] at hi
      | cons x q =>
        obtain ⟨hx, hq⟩ := List.pairwise_cons.1 hp
        have hxe : x = (pre.length : Int) := by
          rcases List.mem_cons.1 (hasB_memR.1 hi) with h | h
          · exact h.symm
          · have h1 := hx _ h
            have h2 := (hd x (by simp)).1
            omega
        subst hxe
        have hc : costAt L (pre.length : Int) = g.2.2.2 := by
          unfold costAt
          rw [hL]
          simp
        have ihq := ih (pre ++ [g]) q (by rw [hL]; simp) hq (fun y hy => by
          have h1 := hx y hy
          have h2 := hd y (by simp [hy])
          simp only [List.length_cons] at h2
          rw [hpre]
          omega)
        rw [hpre] at ihq
        show costAt L _ + dayC L q = _
        rw [hc, ihq]
        congr 2
        refine setF_congr _ _ (fun j hj => ?_)
        unfold hasB
        rw [List.any_cons]
        have : ((pre.length : Int) == j) = false := by rw [beq_eq_false_iff_ne]; omega
        rw [this]
        rfl
    · rw [if_neg (fun h => hi (o1.1 h))]
      have ihq := ih (pre ++ [g]) d (by rw [hL]; simp) hp (fun y hy => by
        have h2 := hd y hy
        have h3 : y ≠ (pre.length : Int) := fun e => hi (hasB_memR.2 (e ▸ hy))
        simp only [List.length_cons] at h2
        rw [hpre]
        omega)
      rw [hpre] at ihq
      rw [ihq]
      omega
theorem dayC_setC (l : List G4) (trip : Int) (d : List Int) (hp : d.Pairwise (· < ·)) (hd : ∀ x ∈ d, 0 ≤ x ∧ x < (l.length : Int)) : (if d = [] then 0 else trip) + dayC l d = setC l trip (setF d l.length 0) := by
  have h1 := dayC_set l l [] d rfl hp (fun x hx => by have := hd x hx; simp; omega)
  simp only [List.length_nil] at h1
  unfold setC
  have h2 := setF_pos d l.length 0
  by_cases e : d = []
  · subst e
    rw [if_pos rfl, if_neg (fun hh => by obtain ⟨j, _, _, hj⟩ := h2.1 hh; simp [hasB] at hj), h1]
    rfl
  · rw [if_neg e, if_pos (h2.2 (by
      cases d with
      | nil => exact absurd rfl e
      | cons x r => have := hd x (by simp); exact ⟨x, this.1, by omega, hasB_memR.2 (by simp)⟩)), h1]
    rfl
/-- No plan is cheaper. -/
theorem least_le_plan {l : List G4} {trip : Int} (hg : goodG l) (ht : 0 ≤ trip ∧ trip ≤ 1000) : ∀ (P : PL) (ws : List Int), holdsW P l ws 0 → (∀ d ∈ P, d.Pairwise (· < ·) ∧ ∀ x ∈ d, 0 ≤ x ∧ x < (l.length : Int)) → leastW l trip P.length ws ≤ planC l trip P := by
  intro P
  induction P with
  | nil => intro ws _ _; simp [leastW, planC]
  | cons d r ih =>
    intro ws h hd
    obtain ⟨f1, f2⟩ := holdsW_step d r l ws 0 h
    have h1 := (leastW_way hg ht r.length ws).2 _ (setF_lt d l.length 0) f1
    have h2 := ih _ f2 (fun x hx => hd x (by simp [hx]))
    have h3 := dayC_setC l trip d (hd d (by simp)).1 (hd d (by simp)).2
    simp only [List.length_cons, planC]
    omega
/-! The late plan. -/
theorem hasB_late (l : List G4) (t : Nat) : ∀ (i : Int) (k : Nat) (hk : k < l.length), hasB (lateCol l i t) (i + (k : Int)) = repB l[k] t := by
  have hlow : ∀ (l : List G4) (i j : Int), j < i → hasB (lateCol l i t) j = false := by
    intro l
    induction l with
    | nil => intro i j _; rfl
    | cons g r ih =>
      intro i j hj
      have := ih (i + 1) j (by omega)
      unfold hasB at this ⊢
      simp only [lateCol, List.any_append, this, Bool.or_false]
      split
      · simp; omega
      · rfl
  induction l with
  | nil => intro i k hk; simp at hk
  | cons g r ih =>
    intro i k hk
    cases k with
    | zero =>
      have h1 := hlow r (i + 1) i (by omega)
      unfold hasB at h1 ⊢
      simp only [lateCol, List.any_append, Int.natCast_zero, Int.add_zero, h1, Bool.or_false, List.getElem_cons_zero]
      cases hr : repB g t <;> simp
    | succ k =>
      have h1 := ih (i + 1) k (by simpa using hk)
      have e : i + ((k + 1 : Nat) : Int) = i + 1 + (k : Int) := by omega
      rw [e]
      unfold hasB at h1 ⊢
      simp only [lateCol, List.any_append, List.getElem_cons_succ, h1]
      have : (if repB g t = true then [i] else []).any (fun x => x == i + 1 + (k : Int)) = false := by
        split
        · simp; omega
        · rfl
      rw [this]
      simp
def lateFrom (l : List G4) (t m : Nat) : PL := (List.range' t m).map (lateCol l 0)
theorem lateL_from (l : List G4) (d : Nat) : lateL l d = lateFrom l 0 d := by simp [lateL, lateFrom, List.range_eq_range']
theorem lateFrom_succ (l : List G4) (t m : Nat) : lateFrom l t (m + 1) = lateCol l 0 t :: lateFrom l (t + 1) m := by simp [lateFrom, List.range'_succ]
theorem holdsG_late (l : List G4) (k : Nat) (hk : k < l.length) (hg : gearB l[k].1 l[k].2.1 l[k].2.2.1 l[k].2.2.2 = true) : ∀ (m t : Nat), holdsG (k : Int) l[k].2.1 l[k].2.2.1 (wearD l[k] t) (lateFrom l t m) = true := by
  intro m
  induction m with
  | zero => intro t; rfl
  | succ m ih =>
    intro t
    have h1 := hasB_late l t 0 k hk
    rw [Int.zero_add] at h1
    have h2 := ih (t + 1)
    have h3 := (wearD_bd hg (t + 1)).2
    have e : wearD l[k] (t + 1) = (if repB l[k] t = true then 0 else wearD l[k] t) + l[k].2.1 := by simp [wearD, repB]
    rw [e] at h2 h3
    rw [lateFrom_succ]
    simp only [holdsG, h1]
    rw [if_neg (by omega)]
    exact h2
theorem holdsL_of {P : PL} : ∀ (l : List G4) (i : Int), (∀ (k : Nat) (hk : k < l.length), holdsG (i + (k : Int)) l[k].2.1 l[k].2.2.1 l[k].1 P = true) → holdsL P l i = true := by
  intro l
  induction l with
  | nil => intro i _; rfl
  | cons g r ih =>
    intro i h
    have h0 := h 0 (by simp)
    simp only [List.getElem_cons_zero, Int.natCast_zero, Int.add_zero] at h0
    simp only [holdsL, h0, if_true]
    refine ih (i + 1) (fun k hk => ?_)
    have h1 := h (k + 1) (by simpa using hk)
    simp only [List.getElem_cons_succ] at h1
    rw [show i + 1 + (k : Int) = i + ((k + 1 : Nat) : Int) by omega]
    exact h1
theorem holdsL_at {P : PL} : ∀ (l : List G4) (i : Int), holdsL P l i = true → ∀ (k : Nat) (hk : k < l.length), holdsG (i + (k : Int)) l[k].2.1 l[k].2.2.1 l[k].1 P = true := by
  intro l
  induction l with
  | nil => intro i _ k hk; simp at hk
  | cons g r ih =>
    intro i h k hk
    simp only [holdsL] at h
    split at h
    · next hg =>
      cases k with
      | zero => simpa using hg
      | succ k =>
        have h1 := ih (i + 1) h k (by simpa using hk)
        simp only [List.getElem_cons_succ]
        rw [show i + ((k + 1 : Nat) : Int) = i + 1 + (k : Int) by omega]
        exact h1
    · cases h
/-- How many days a gear is repaired on. -/
def cntP (g : Int) : PL → Nat
  | [] => 0
  | d :: r => (if hasB d g = true then 1 else 0) + cntP g r
theorem repF_cnt (g : Int) : ∀ (P : PL) (i : Int), (repF g P i).length = cntP g P := by
  intro P
  induction P with
  | nil => intro i; rfl
  | cons d r ih =>
    intro i
    simp only [repF, cntP]
    split
    · simp [ih]; omega
    · simp [ih]
theorem late_few (l : List G4) (k : Nat) (hk : k < l.length) (hg : gearB l[k].1 l[k].2.1 l[k].2.2.1 l[k].2.2.2 = true) : ∀ (P : PL) (t : Nat) (y : Int), holdsG (k : Int) l[k].2.1 l[k].2.2.1 y P = true → 0 ≤ y →
    (wearD l[k] t ≤ y → cntP (k : Int) (lateFrom l t P.length) ≤ cntP (k : Int) P) ∧ cntP (k : Int) (lateFrom l t P.length) ≤ cntP (k : Int) P + 1 := by
  obtain ⟨⟨hb1, hb2⟩, _⟩ := gearB_true.1 hg
  intro P
  induction P with
  | nil => intro t y _ _; simp [lateFrom, cntP]
  | cons d r ih =>
    intro t y h hy
    obtain ⟨y2, hy2, hc, h⟩ := holdsG_cons h
    have h1 := hasB_late l t 0 k hk
    rw [Int.zero_add] at h1
    have hx := wearD_bd hg t
    have e : wearD l[k] (t + 1) = (if repB l[k] t = true then 0 else wearD l[k] t) + l[k].2.1 := by simp [wearD, repB]
    have hih := ih (t + 1) y2 h (by rw [hy2]; split <;> omega)
    rw [e] at hih
    simp only [List.length_cons, lateFrom_succ, cntP, h1]
    have hr : repB l[k] t = true ↔ l[k].2.2.1 < wearD l[k] t + l[k].2.1 := by simp [repB]
    by_cases c1 : repB l[k] t = true
    · have c1' := hr.1 c1
      rw [if_pos c1] at hih ⊢
      by_cases c2 : hasB d (k : Int) = true
      · rw [if_pos c2] at hy2 ⊢
        have := hih.1 (by omega)
        omega
      · rw [if_neg c2] at hy2 ⊢
        have := hih.1 (by omega)
        omega
    · have c1' : ¬ l[k].2.2.1 < wearD l[k] t + l[k].2.1 := fun hh => c1 (hr.2 hh)
      rw [if_neg c1] at hih ⊢
      by_cases c2 : hasB d (k : Int) = true
      · rw [if_pos c2] at hy2 ⊢
        omega
      · rw [if_neg c2] at hy2 ⊢
        refine ⟨fun hxy => ?_, by omega⟩
        have := hih.1 (by omega)
        omega
theorem riseP_of (lo hi : Int) : ∀ (l : List Int) (p : Option Int), l.Pairwise (· < ·) → (∀ x ∈ l, lo ≤ x ∧ x ≤ hi) → (∀ v, p = some v → ∀ x ∈ l, v < x) → riseP lo hi p l = true := by
  intro l
  induction l with
  | nil => intro p _ _ _; rfl
  | cons x r ih =>
    intro p hp hb hv
    obtain ⟨h1, h2⟩ := List.pairwise_cons.1 hp
    have h3 : inB x lo hi = true := inB_true.2 (hb x (by simp))
    have h5 := ih (some x) h2 (fun y hy => hb y (by simp [hy])) (fun v hv' y hy => by injection hv' with hv'; subst hv'; exact h1 y hy)
    cases p with
    | none => simp [riseP, h3, h5]
    | some v =>
      have h4 := hv v rfl x (by simp)
      simp [riseP, h3, h4, h5]
theorem lateCol_inc (l : List G4) (t : Nat) : ∀ i, (lateCol l i t).Pairwise (· < ·) ∧ ∀ x ∈ lateCol l i t, i ≤ x ∧ x < i + (l.length : Int) := by
  induction l with
  | nil => intro i; simp [lateCol]
  | cons g r ih =>
    intro i
    obtain ⟨h1, h2⟩ := ih (i + 1)
    simp only [lateCol]
    split
    · refine ⟨?_, fun x hx => ?_⟩
      · simp only [List.singleton_append, List.pairwise_cons]
        exact ⟨fun x hx => by have := h2 x hx; omega, h1⟩
      · simp only [List.singleton_append, List.mem_cons] at hx
        simp only [List.length_cons]
        rcases hx with rfl | hx
        · omega
        · have := h2 x hx; omega
    · refine ⟨by simpa using h1, fun x hx => ?_⟩
      have := h2 x (by simpa using hx)
      simp only [List.length_cons]
      omega
theorem planB_late (l : List G4) (d : Nat) (hd : d ≤ 30) (hi : Int) (hh : (l.length : Int) - 1 ≤ hi) : planB hi (lateL l d) = true := by
  simp only [planB, Bool.and_eq_true, allR_true, decide_eq_true_eq]
  refine ⟨fun x hx => ?_, by simp [lateL]; exact hd⟩
  obtain ⟨t, _, rfl⟩ := List.mem_map.1 hx
  obtain ⟨h1, h2⟩ := lateCol_inc l t 0
  exact riseP_of 0 hi _ none h1 (fun x hx => by have := h2 x hx; omega) (fun v h => by cases h)
end Go.Proofs.Ytjibdabedagghaa
