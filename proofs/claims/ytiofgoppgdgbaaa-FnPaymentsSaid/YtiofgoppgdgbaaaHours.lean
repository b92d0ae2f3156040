/- The hours of all operators: plain lists and integers. No conditions. -/
import Derived.Test.YtiofgoppgdgbaaaSh11
import Derived.Test.YtiofgoppgdgbaaaShare
namespace Go.Proofs.Ytiofgoppgdgbaaa
set_option linter.unusedSimpArgs false
set_option linter.unusedVariables false
open Go.RowKit

def hoursOf (l : List S3) : List Int := (List.range 30).map fun i : Nat => (duty ((i : Int) + 1) l).1
@[simp] theorem length_hoursOf (l : List S3) : (hoursOf l).length = 30 := by simp [hoursOf]
theorem hoursOf_get {l : List S3} {i : Nat} (h : i < 30) : (hoursOf l)[i]? = some (duty ((i : Int) + 1) l).1 := by simp [hoursOf, h]
theorem duty_snoc (op : Int) (l : List S3) (x : S3) : (duty op (l ++ [x])).1 = (duty op l).1 + (duty1 op x).1 := by
  induction l with
  | nil => simp [duty]
  | cons y r ih => simp only [List.cons_append, duty, ih]; omega
/-- One shift more. -/
theorem hoursOf_snoc {l : List S3} {x : S3} (h : 1 ≤ x.1 ∧ x.1 ≤ 30) : hoursOf (l ++ [x]) = (hoursOf l).set (x.1 - 1).toNat ((duty x.1 l).1 + (x.2.2 - x.2.1)) := by
  refine List.ext_getElem? fun i => ?_
  by_cases hi : i < 30
  · rw [hoursOf_get hi]
    by_cases e : (x.1 - 1).toNat = i
    · subst e
      rw [List.getElem?_set_self (by simp; omega), duty_snoc]
      have e2 : (((x.1 - 1).toNat : Nat) : Int) + 1 = x.1 := by omega
      rw [e2]
      simp [duty1]
    · rw [List.getElem?_set_ne e, hoursOf_get hi, duty_snoc]
      have : ¬ x.1 = (i : Int) + 1 := by omega
      simp [duty1, this]
  · rw [List.getElem?_eq_none (by simp; omega), List.getElem?_eq_none (by simp; omega)]
theorem sumI_set {l : List Int} {i : Nat} {v : Int} (h : i < l.length) : sumI (l.set i v) = sumI l - l[i] + v := by
  induction l generalizing i with
  | nil => simp at h
  | cons x r ih =>
    cases i with
    | zero => simp [sumI]; omega
    | succ i =>
      have := ih (i := i) (by simpa using h)
      simp only [List.set_cons_succ, sumI, List.getElem_cons_succ, this]
      omega
def durs : List S3 → Int
  | [] => 0
  | x :: r => (x.2.2 - x.2.1) + durs r
theorem durs_snoc (l : List S3) (x : S3) : durs (l ++ [x]) = durs l + (x.2.2 - x.2.1) := by
  induction l with
  | nil => simp [durs]
  | cons y r ih => simp only [List.cons_append, durs, ih]; omega
theorem sum_hours_snoc {l : List S3} {x : S3} (h : 1 ≤ x.1 ∧ x.1 ≤ 30) : sumI (hoursOf (l ++ [x])) = sumI (hoursOf l) + (x.2.2 - x.2.1) := by
  have hi : (x.1 - 1).toNat < (hoursOf l).length := by simp; omega
  rw [hoursOf_snoc h, sumI_set hi]
  have e : (hoursOf l)[(x.1 - 1).toNat]? = some (duty x.1 l).1 := by
    rw [hoursOf_get (by omega)]
    have e2 : (((x.1 - 1).toNat : Nat) : Int) + 1 = x.1 := by omega
    rw [e2]
  rw [List.getElem?_eq_getElem hi] at e
  injection e with e
  rw [e]
  omega
theorem sumI_zero {l : List Int} (h : ∀ x ∈ l, x = 0) : sumI l = 0 := by
  induction l with
  | nil => rfl
  | cons x r ih => simp only [sumI]; rw [ih (fun y hy => h y (by simp [hy])), h x (by simp)]; rfl
/-- All hours are the shifts' lengths. -/
theorem sum_hours_take {l : List S3} (hop : ∀ x ∈ l, 1 ≤ x.1 ∧ x.1 ≤ 30) : ∀ k, k ≤ l.length → sumI (hoursOf (l.take k)) = durs (l.take k) := by
  intro k
  induction k with
  | zero =>
    intro _
    simp only [List.take_zero, durs]
    exact sumI_zero (fun x hx => by simp only [hoursOf, List.mem_map] at hx; obtain ⟨i, _, rfl⟩ := hx; rfl)
  | succ k ih =>
    intro hk
    have h1 := ih (by omega)
    have hkl : k < l.length := by omega
    rw [List.take_succ_eq_append_getElem hkl, sum_hours_snoc (hop _ (List.getElem_mem hkl)), durs_snoc, h1]
theorem durs_bd {l : List S3} (h : inWeek l) : (l.length : Int) ≤ durs l ∧ durs l ≤ 168 * (l.length : Int) := by
  induction l with
  | nil => simp [durs]
  | cons x r ih =>
    have h1 := ih (fun y hy => h y (by simp [hy]))
    have h2 := h x (by simp)
    simp only [durs, List.length_cons]
    omega
theorem sum_hours {l : List S3} (hg : goodShifts l = true) : sumI (hoursOf l) = durs l := by
  have := sum_hours_take (good_op hg) l.length (Nat.le_refl _)
  rwa [List.take_length] at this
theorem hours_bd {l : List S3} (hg : goodShifts l = true) : ∀ x ∈ hoursOf l, 0 ≤ x ∧ x ≤ 10080 := by
  intro x hx
  simp only [hoursOf, List.mem_map] at hx
  obtain ⟨i, _, rfl⟩ := hx
  have h1 := duty_bd (op := (i : Int) + 1) (good_week hg)
  have h2 := good_len hg
  omega
theorem sumL_sumI (l : List Int) : sumL l = sumI l := by
  induction l with
  | nil => rfl
  | cons x r ih => simp only [sumL, sumI, ih]
def shareR (l : List S3) (cents : Int) : List Int × Bool := if goodShifts l = true ∧ l.length ≠ 0 ∧ inB cents 0 1000000 = true then (sharesOf cents (hoursOf l), true) else ([], false)
end Go.Proofs.Ytiofgoppgdgbaaa
