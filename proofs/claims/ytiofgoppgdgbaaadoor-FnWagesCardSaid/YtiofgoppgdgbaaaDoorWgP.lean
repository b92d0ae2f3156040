/- Wages: the hourly wage is the wage's fraction, the best paid one, sums. Plain. No conditions. -/
import Derived.Test.YtiofgoppgdgbaaaDoorWt2
namespace Go.Proofs.YtiofgoppgdgbaaaDoor
set_option linter.unusedSimpArgs false
set_option linter.unusedVariables false
open Go.RowKit

theorem bestF_facts : ∀ (l : List Int) (k : Nat) (b : Nat × Int), b.1 ≤ k →
    b.2 ≤ (bestF l k b).2 ∧ ((bestF l k b).2 = b.2 → (bestF l k b).1 = b.1) ∧ ∀ (j : Nat) (x : Int), l[j]? = some x → x ≤ (bestF l k b).2 ∧ (x = (bestF l k b).2 → (bestF l k b).1 ≤ k + j) := by
  intro l
  induction l with
  | nil => intro k b _; exact ⟨Int.le_refl _, fun _ => rfl, fun j x h => by simp at h⟩
  | cons y r ih =>
    intro k b hb
    simp only [bestF]
    by_cases hy : b.2 < y
    · rw [if_pos hy]
      obtain ⟨h1, h2, h3⟩ := ih (k + 1) (k, y) (Nat.le_succ _)
      simp only at h1 h2
      refine ⟨by omega, fun e => by omega, fun j x hj => ?_⟩
      cases j with
      | zero =>
        simp at hj
        subst hj
        exact ⟨h1, fun e => by rw [h2 e.symm]; omega⟩
      | succ j =>
        have h4 := h3 j x (by simpa using hj)
        exact ⟨h4.1, fun e => by have := h4.2 e; omega⟩
    · rw [if_neg hy]
      obtain ⟨h1, h2, h3⟩ := ih (k + 1) b (by omega)
      refine ⟨h1, h2, fun j x hj => ?_⟩
      cases j with
      | zero =>
        simp at hj
        subst hj
        exact ⟨by omega, fun e => by rw [h2 (by omega)]; omega⟩
      | succ j =>
        have h4 := h3 j x (by simpa using hj)
        exact ⟨h4.1, fun e => by have := h4.2 e; omega⟩
theorem bestW_facts {ws : List Int} (h : 0 < ws.length) (j : Nat) (x : Int) (hj : ws[j]? = some x) : x ≤ (bestW ws).2 ∧ (x = (bestW ws).2 → (bestW ws).1 ≤ j) := by
  have h1 := (bestF_facts ws 0 (0, ws[0]) (Nat.le_refl _)).2.2 j x hj
  rw [bestW_start h] at h1
  simpa using h1
theorem sumL_app (a b : List Int) : sumL (a ++ b) = sumL a + sumL b := by
  induction a with
  | nil => simp [sumL]
  | cons x r ih => simp only [List.cons_append, sumL, ih]; omega
theorem sumL_take {l : List Int} {k : Nat} (h : k < l.length) : sumL (l.take (k + 1)) = sumL (l.take k) + l[k] := by
  rw [List.take_succ_eq_append_getElem h, sumL_app]
  simp [sumL]
theorem frac (W H : Nat) (hH : 0 < H) : ((W : Int) / (Nat.gcd W H : Int)) * (H : Int) = (W : Int) * ((H : Int) / (Nat.gcd W H : Int)) := by
  have hg : 0 < Nat.gcd W H := Nat.gcd_pos_of_pos_right _ hH
  obtain ⟨x, hx⟩ := Nat.gcd_dvd_left W H
  obtain ⟨y, hy⟩ := Nat.gcd_dvd_right W H
  generalize Nat.gcd W H = g at *
  subst hx
  subst hy
  have e1 : ((g * x : Nat) : Int) / (g : Int) = (x : Int) := by
    rw [Int.natCast_mul]
    exact Int.mul_ediv_cancel_left _ (by omega)
  have e2 : ((g * y : Nat) : Int) / (g : Int) = (y : Int) := by
    rw [Int.natCast_mul]
    exact Int.mul_ediv_cancel_left _ (by omega)
  rw [e1, e2, Int.natCast_mul, Int.natCast_mul, Int.mul_left_comm, Int.mul_assoc]
theorem perHour_yes {a b c d : Int} {l : List S3} {op m : Int} (h : (perHourR a b c d l op m).2.2 = true) :
    askB a b c d l op m = true ∧ 0 < (duty op l).1 ∧ (perHourR a b c d l op m).1 * (duty op l).1 = wage a b c d l op m * (perHourR a b c d l op m).2.1 ∧ (0 ≤ (perHourR a b c d l op m).1 ∧ (perHourR a b c d l op m).1 ≤ 1000000000) ∧ 0 ≤ (perHourR a b c d l op m).2.1 ∧ (perHourR a b c d l op m).2.1 ≤ 10080 := by
  unfold perHourR at h ⊢
  split at h
  · rename_i hc
    rw [if_pos hc]
    obtain ⟨hp, hg, _, hm⟩ := askB_of hc.1
    have h1 := duty_pos hc.1
    have h2 := wage_bd (op := op) hp hg (inB_true.1 hm)
    have h3 := hc.2
    obtain ⟨W, hW⟩ : ∃ W : Nat, wage a b c d l op m = (W : Int) := ⟨(wage a b c d l op m).toNat, by omega⟩
    obtain ⟨H, hH⟩ : ∃ H : Nat, (duty op l).1 = (H : Int) := ⟨(duty op l).1.toNat, by omega⟩
    rw [hW] at h2 ⊢
    rw [hH] at h1 h3 ⊢
    simp only [Int.toNat_natCast]
    have hf := frac W H (by omega)
    have hW1 := Nat.div_le_self W (Nat.gcd W H)
    have hH1 := Nat.div_le_self H (Nat.gcd W H)
    have e1 : (W : Int) / (Nat.gcd W H : Int) = ((W / Nat.gcd W H : Nat) : Int) := by simp
    have e2 : (H : Int) / (Nat.gcd W H : Int) = ((H / Nat.gcd W H : Nat) : Int) := by simp
    refine ⟨hc.1, by omega, hf, ?_, ?_⟩
    · rw [e1]
      generalize W / Nat.gcd W H = q at *
      exact ⟨by omega, by omega⟩
    · rw [e2]
      generalize H / Nat.gcd W H = q at *
      exact ⟨by omega, by omega⟩
  · simp at h
theorem perHour_no {a b c d : Int} {l : List S3} {op m : Int} (h : askB a b c d l op m = true) (h2 : (perHourR a b c d l op m).2.2 = false) : (duty op l).1 = 0 := by
  unfold perHourR at h2
  split at h2
  · simp at h2
  · rename_i hc
    rcases Classical.em ((duty op l).1 = 0) with h3 | h3
    · exact h3
    · exact absurd ⟨h, h3⟩ hc
theorem wageR_ok {a b c d : Int} {l : List S3} {op m : Int} (h : (wageR a b c d l op m).2 = true) : askB a b c d l op m = true ∧ (wageR a b c d l op m).1 = wage a b c d l op m := by
  unfold wageR at h ⊢
  split at h
  · rename_i hc
    rw [if_pos hc]
    exact ⟨hc, rfl⟩
  · simp at h
theorem wageR_no {a b c d : Int} {l : List S3} {op m : Int} (h : (wageR a b c d l op m).2 = false) : askB a b c d l op m = false := by
  unfold wageR at h
  split at h
  · simp at h
  · rename_i hc; simpa using hc
theorem perHour_false {a b c d : Int} {l : List S3} {op m : Int} (h : askB a b c d l op m = false) : (perHourR a b c d l op m).2.2 = false := by
  unfold perHourR
  rw [if_neg (by rw [h]; simp)]
theorem ask_zero {a b c d : Int} {l : List S3} {op m : Int} (h : askB a b c d l op m = true) : askB a b c d l op 0 = true := by
  obtain ⟨hp, hg, ho, _⟩ := askB_of h
  have : inB 0 0 1000 = true := rfl
  simp [askB, hp, hg, ho, this]
theorem nightR_ok {a b c d : Int} {l : List S3} {op m : Int} (h : askB a b c d l op m = true) : nightR a b c d l op = (a * b * (duty op l).2 / 100, true) := by
  unfold nightR
  rw [if_pos (ask_zero h)]
theorem dutyR_ok {a b c d : Int} {l : List S3} {op m : Int} (h : askB a b c d l op m = true) : dutyR l op = ((duty op l).1, (duty op l).2, true) := by
  obtain ⟨_, hg, ho, _⟩ := askB_of h
  unfold dutyR
  rw [if_pos ⟨hg, ho⟩]
/-- The wage out of its parts, and the parts' bounds. -/
theorem wage_is {a b c d : Int} {l : List S3} {op m : Int} (h : askB a b c d l op m = true) :
    wage a b c d l op m = (if 0 < (duty op l).1 then max (a * (duty op l).1 + a * b * (duty op l).2 / 100 + c * m) d else a * (duty op l).1 + a * b * (duty op l).2 / 100 + c * m) ∧
    (0 ≤ a * (duty op l).1 ∧ a * (duty op l).1 ≤ 10080000) ∧ (0 ≤ a * b * (duty op l).2 / 100 ∧ a * b * (duty op l).2 / 100 ≤ 1000000000) ∧ (0 ≤ c * m ∧ c * m ≤ 100000) ∧ 0 ≤ d ∧ d ≤ 100000 := by
  obtain ⟨hp, hg, _, hm⟩ := askB_of h
  have hm' := inB_true.1 hm
  obtain ⟨ha, hb, hc, hd⟩ := payB_of hp
  have h1 := duty_pos h
  have h60 := good_len hg
  have hdt := duty_bd (op := op) (good_week hg)
  refine ⟨rfl, prod_bd ha.1 ha.2 h1.1 h1.2, ?_, prod_bd hc.1 hc.2 hm'.1 hm'.2, hd⟩
  have hab := prod_bd ha.1 ha.2 hb.1 hb.2
  have hn : 0 ≤ (duty op l).2 ∧ (duty op l).2 ≤ 10080 := by omega
  have h3 := prod_bd hab.1 hab.2 hn.1 hn.2
  omega
/-- What the bill's three answers have in common. -/
theorem all_flags (a b c d : Int) (l : List S3) (ms : List Int) : (billR a b c d l ms).2 = allAsk a b c d l ms ∧ (bestR a b c d l ms).2.2 = allAsk a b c d l ms ∧ (tableR a b c d l ms).2 = allAsk a b c d l ms := by
  cases h : allAsk a b c d l ms <;> simp [billR, bestR, tableR, h]
theorem bill_yes {a b c d : Int} {l : List S3} {ms : List Int} (h : allAsk a b c d l ms = true) : (billR a b c d l ms).1 = sumL (wagesF a b c d l ms 0) ∧ (bestR a b c d l ms).1 = ((bestW (wagesF a b c d l ms 0)).1 : Int) + 1 ∧ (bestR a b c d l ms).2.1 = (bestW (wagesF a b c d l ms 0)).2 := by
  simp [billR, bestR, h]
theorem wages_at {a b c d : Int} {l : List S3} {ms : List Int} {k : Nat} (hk : k < ms.length) : (wagesF a b c d l ms 0)[k]? = some (wage a b c d l ((k : Int) + 1) ms[k]) := by
  have h1 := drop_wagesF a b c d l ms 0 k
  rw [List.drop_eq_getElem_cons hk] at h1
  simp only [wagesF, Nat.zero_add] at h1
  have hx : k < (wagesF a b c d l ms 0).length := by simpa using hk
  rw [List.drop_eq_getElem_cons hx] at h1
  injection h1 with h2 _
  rw [List.getElem?_eq_getElem hx, h2]
  have : ((k + 1 : Nat) : Int) = (k : Int) + 1 := by omega
  rw [this]
theorem wageR_at {a b c d : Int} {l : List S3} {ms : List Int} {k : Nat} (h : allAsk a b c d l ms = true) (hk : k < ms.length) : wageR a b c d l ((k : Int) + 1) ms[k] = (wage a b c d l ((k : Int) + 1) ms[k], true) := by
  obtain ⟨hp, hg, h30, hms⟩ := allAsk_of h
  have h1 := allB_true.1 hms _ (List.getElem_mem hk)
  have h2 : inB ms[k] 0 1000 = true := inB_true.2 h1
  have h3 : inB ((k : Int) + 1) 1 30 = true := by rw [inB_true]; omega
  have : askB a b c d l ((k : Int) + 1) ms[k] = true := by simp [askB, hp, hg, h2, h3]
  unfold wageR
  rw [if_pos this]
end Go.Proofs.YtiofgoppgdgbaaaDoor
