/- Shares by hours: they add up, and who has no hours gets none; the least hourly pay; pays compared both ways. Plain. No conditions. -/
import Derived.Test.YtiofgoppgdgbaaaHours
import Derived.Test.YtiofgoppgdgbaaaSh10
import Derived.Test.YtiofgoppgdgbaaaSh14
namespace Go.Proofs.Ytiofgoppgdgbaaa
set_option linter.unusedSimpArgs false
set_option linter.unusedVariables false
open Go.RowKit

def posN (R : List Int) : Nat := (R.filter fun x => decide (0 < x)).length
theorem posN_mem {R : List Int} (h : 0 < posN R) : ∃ x ∈ R, 0 < x := by
  unfold posN at h
  obtain ⟨x, hx⟩ := List.exists_mem_of_length_pos h
  rw [List.mem_filter] at hx
  exact ⟨x, hx.1, by simpa using hx.2⟩
theorem posN_set {R : List Int} {b : Nat} (hb : b < R.length) (h : 0 < R[b]) : posN (R.set b (-1)) + 1 = posN R := by
  unfold posN
  induction R generalizing b with
  | nil => simp at hb
  | cons x r ih =>
    cases b with
    | zero => simp at h; simp [List.filter_cons, h]
    | succ b =>
      have := ih (b := b) (by simpa using hb) (by simpa using h)
      simp only [List.set_cons_succ, List.filter_cons]
      split
      all_goals
        try simp only [List.length_cons]
        omega
theorem open_of_mem {R : List Int} {x : Int} (hx : x ∈ R) (h : 0 ≤ x) : 0 < open_ R := by
  unfold open_
  refine List.length_pos_of_mem (a := x) ?_
  rw [List.mem_filter]
  exact ⟨hx, by simpa using h⟩
theorem best_pos {R : List Int} (h : 0 < posN R) : ∃ hb : best R < R.length, 0 < R[best R] := by
  obtain ⟨x, hx, h0⟩ := posN_mem h
  obtain ⟨hb, _, _, _, h1, _⟩ := best_spec (open_of_mem hx (by omega))
  exact ⟨hb, by have := h1 x hx; omega⟩
theorem shareN_sum : ∀ (t : Nat) (S R : List Int), S.length = R.length → t ≤ posN R → sumI (shareN t (S, R)).1 = sumI S + (t : Int) := by
  intro t
  induction t with
  | zero => intro S R _ _; simp [shareN]
  | succ t ih =>
    intro S R hl ht
    obtain ⟨hb, h0⟩ := best_pos (R := R) (by omega)
    have hp := posN_set hb h0
    have hbS : best R < S.length := by omega
    simp only [shareN, stepS]
    rw [ih _ _ (by simp [hl]) (by omega), sumI_set hbS]
    have e : S.getD (best R) 0 = S[best R] := by simp [List.getD, hbS]
    rw [e]
    omega
theorem shareN_none : ∀ (t : Nat) (S R : List Int) (i : Nat) (v : Int), S.length = R.length → t ≤ posN R → R[i]? = some 0 → S[i]? = some v → (shareN t (S, R)).1[i]? = some v := by
  intro t
  induction t with
  | zero => intro S R i v _ _ _ h; simpa [shareN] using h
  | succ t ih =>
    intro S R i v hl ht hr hs
    obtain ⟨hb, h0⟩ := best_pos (R := R) (by omega)
    have hp := posN_set hb h0
    have hne : best R ≠ i := by
      intro e
      rw [← e, List.getElem?_eq_getElem hb] at hr
      injection hr with hr
      omega
    simp only [shareN, stepS]
    refine ih _ _ i v (by simp [hl]) (by omega) ?_ ?_
    · rw [List.getElem?_set_ne hne]; exact hr
    · rw [List.getElem?_set_ne hne]; exact hs
theorem sum_posN {s : Int} {R : List Int} (hs : 0 < s) (h : ∀ x ∈ R, 0 ≤ x ∧ x < s) : sumI R ≤ (s - 1) * (posN R : Int) := by
  induction R with
  | nil => simp [sumI, posN]
  | cons x r ih =>
    have h1 := ih (fun y hy => h y (by simp [hy]))
    have h2 := h x (by simp)
    simp only [sumI]
    by_cases hx : 0 < x
    · have e : posN (x :: r) = posN r + 1 := by simp [posN, List.filter_cons, hx]
      have e2 : (s - 1) * ((posN r + 1 : Nat) : Int) = (s - 1) * (posN r : Int) + (s - 1) := by rw [Int.natCast_add, Int.mul_add]; simp
      rw [e, e2]
      omega
    · have e : posN (x :: r) = posN r := by simp [posN, List.filter_cons, hx]
      rw [e]
      omega
theorem left_pos {p : Int} {ns : List Int} (hs : 0 < sumI ns) (hne : ns ≠ []) : (p - sumI (quos p (sumI ns) ns)).toNat ≤ posN (rests p (sumI ns) ns) := by
  have h1 := quos_rests p (sumI ns) ns
  have h2 : ∀ x ∈ rests p (sumI ns) ns, 0 ≤ x ∧ x < sumI ns := by
    intro x hx
    simp only [rests, List.mem_map] at hx
    obtain ⟨n, _, rfl⟩ := hx
    exact ⟨Int.emod_nonneg _ (by omega), Int.emod_lt_of_pos _ hs⟩
  have h3 := sum_posN hs h2
  have h4 := (left_bd (p := p) hs hne).1
  generalize sumI ns = s at *
  generalize sumI (quos p s ns) = q at *
  generalize sumI (rests p s ns) = r at *
  generalize posN (rests p s ns) = k at *
  obtain ⟨t, ht⟩ : ∃ t : Nat, p - q = (t : Int) := ⟨(p - q).toNat, by omega⟩
  rw [ht]
  have e : s * (t : Int) = r := by rw [← ht, Int.mul_sub, Int.mul_comm s p]; omega
  rcases Nat.lt_or_ge k t with h | h
  · exfalso
    have h5 : s * ((k : Int) + 1) ≤ s * (t : Int) := Int.mul_le_mul_of_nonneg_left (by omega) (by omega)
    rw [Int.mul_add, Int.mul_one] at h5
    rw [Int.sub_mul] at h3
    omega
  · omega
theorem sharesOf_sum {p : Int} {ns : List Int} (hs : 0 < sumI ns) : sumI (sharesOf p ns) = p := by
  have hne : ns ≠ [] := by rintro rfl; simp [sumI] at hs
  have h1 := left_pos (p := p) hs hne
  have h2 := (left_bd (p := p) hs hne).1
  unfold sharesOf
  rw [shareN_sum _ _ _ (by simp) h1]
  omega
theorem sharesOf_none {p : Int} {ns : List Int} {i : Nat} (hs : 0 < sumI ns) (h : ns[i]? = some 0) : (sharesOf p ns)[i]? = some 0 := by
  have hne : ns ≠ [] := by rintro rfl; simp [sumI] at hs
  unfold sharesOf
  refine shareN_none _ _ _ i 0 (by simp) (left_pos hs hne) ?_ ?_
  · simp [rests, h]
  · simp [quos, h]
/-- What holds of the shares that are told. -/
theorem shareR_facts {l : List S3} {cents : Int} (h : (shareR l cents).2 = true) :
    goodShifts l = true ∧ 0 ≤ cents ∧ cents ≤ 1000000 ∧ (shareR l cents).1.length = 30 ∧ sumI (shareR l cents).1 = cents ∧ ∀ i : Nat, i < 30 → (duty ((i : Int) + 1) l).1 = 0 → (shareR l cents).1[i]? = some 0 := by
  unfold shareR at h ⊢
  split at h
  · rename_i hc
    obtain ⟨hg, hl, hcin⟩ := hc
    rw [if_pos ⟨hg, hl, hcin⟩]
    have hb := inB_true.1 hcin
    have hs : 0 < sumI (hoursOf l) := by
      rw [sum_hours hg]
      have := (durs_bd (good_week hg)).1
      omega
    refine ⟨hg, hb.1, hb.2, by simp, sharesOf_sum hs, fun i hi h0 => sharesOf_none hs ?_⟩
    rw [hoursOf_get hi, h0]
  · simp at h
theorem sharesOf_nonneg {p : Int} {ns : List Int} (hs : 0 < sumI ns) (hp0 : 0 ≤ p) (hp : p ≤ 1000000) (hn : ∀ n ∈ ns, 0 ≤ n) (hl : ns.length ≤ 1000) : ∀ x ∈ sharesOf p ns, 0 ≤ x ∧ x ≤ 3000000 := by
  have key : ∀ (t : Nat) (S R : List Int), ShInv p (sumI ns) ns t S R → ∀ x ∈ (shareN t (S, R)).1, 0 ≤ x ∧ x ≤ 3000000 := by
    intro t
    induction t with
    | zero => intro S R h x hx; have := h.bd x (by simpa [shareN] using hx); omega
    | succ t ih =>
      intro S R h
      obtain ⟨_, _, _, _, h2⟩ := h.step
      exact ih _ _ h2
  exact key _ _ _ (ShInv.start hs hp0 hp hn hl)
theorem shareR_bd {l : List S3} {cents : Int} : ∀ x ∈ (shareR l cents).1, 0 ≤ x ∧ x ≤ 3000000 := by
  unfold shareR
  split
  · rename_i hc
    obtain ⟨hg, hl, hcin⟩ := hc
    have hb := inB_true.1 hcin
    have hs : 0 < sumI (hoursOf l) := by
      rw [sum_hours hg]
      have := (durs_bd (good_week hg)).1
      omega
    exact sharesOf_nonneg hs hb.1 hb.2 (fun n hn => (hours_bd hg n hn).1) (by simp)
  · intro x hx; cases hx
/-- The least hourly pay. -/
theorem hourF_facts {b c d : Int} {l : List S3} {op m wanted : Int} : ∀ (f : Nat) (h : Int), (hourF b c d l op m wanted f h).2 = true → h ≤ (hourF b c d l op m wanted f h).1 ∧ (hourF b c d l op m wanted f h).1 < h + (f : Int) ∧ wanted ≤ wage (hourF b c d l op m wanted f h).1 b c d l op m ∧ ∀ k, h ≤ k → k < (hourF b c d l op m wanted f h).1 → wage k b c d l op m < wanted := by
  intro f
  induction f with
  | zero => intro h he; simp [hourF] at he
  | succ f ih =>
    intro h he
    unfold hourF at he ⊢
    split
    · rename_i hw
      exact ⟨by simp, by simp; omega, hw, fun k h1 h2 => by simp at h2; omega⟩
    · rename_i hw
      rw [if_neg hw] at he
      obtain ⟨h1, h2, h3, h4⟩ := ih (h + 1) he
      refine ⟨by omega, by omega, h3, fun k hk1 hk2 => ?_⟩
      by_cases e : k = h
      · subst e; omega
      · exact h4 k (by omega) hk2
theorem hourR_facts {a b c d : Int} {l : List S3} {op m wanted : Int} (h : (hourR a b c d l op m wanted).2 = true) :
    askB a b c d l op m = true ∧ 0 ≤ (hourR a b c d l op m wanted).1 ∧ (hourR a b c d l op m wanted).1 ≤ 1000 ∧ wanted ≤ wage (hourR a b c d l op m wanted).1 b c d l op m ∧ (0 < (hourR a b c d l op m wanted).1 → wage ((hourR a b c d l op m wanted).1 - 1) b c d l op m < wanted) := by
  unfold hourR at h ⊢
  split at h
  · rename_i hc
    rw [if_pos hc]
    obtain ⟨h1, h2, h3, h4⟩ := hourF_facts 1001 0 h
    exact ⟨hc.1, h1, by omega, h3, fun h0 => h4 _ (by omega) (by omega)⟩
  · simp at h
theorem wageR_hour {a b c d : Int} {l : List S3} {op m : Int} (h : askB a b c d l op m = true) {k : Int} (h0 : 0 ≤ k) (h1 : k ≤ 1000) : wageR k b c d l op m = (wage k b c d l op m, true) := by
  obtain ⟨hp, hg, ho, hm⟩ := askB_of h
  have hq : payB k b c d = true := by
    rw [payB_true] at hp ⊢
    exact ⟨⟨h0, h1⟩, hp.2⟩
  have : askB k b c d l op m = true := by simp [askB, hq, hg, ho, hm]
  unfold wageR
  rw [if_pos this]
/-- Pays compared both ways. -/
theorem sgnI_swap (a b : Int) : sgnI b a = - sgnI a b := by
  unfold sgnI
  repeat' split
  all_goals omega
theorem cheapR_swap {a b c d a' b' c' d' : Int} {l : List S3} {ms : List Int} : (cheapR a' b' c' d' a b c d l ms).2 = (cheapR a b c d a' b' c' d' l ms).2 ∧ (cheapR a' b' c' d' a b c d l ms).1 = - (cheapR a b c d a' b' c' d' l ms).1 := by
  by_cases h : cheapB a b c d a' b' c' d' l ms = true
  · have h1 : allAsk a b c d l ms = true ∧ payB a' b' c' d' = true := by simpa [cheapB] using h
    have h2 : cheapB a' b' c' d' a b c d l ms = true := by
      have := allAsk_other h1.1 h1.2
      have h3 := (allAsk_of h1.1).1
      simp [cheapB, this, h3]
    unfold cheapR
    rw [if_pos h, if_pos h2]
    exact ⟨rfl, sgnI_swap _ _⟩
  · have h2 : ¬ cheapB a' b' c' d' a b c d l ms = true := by
      intro h2
      apply h
      have h1 : allAsk a' b' c' d' l ms = true ∧ payB a b c d = true := by simpa [cheapB] using h2
      have := allAsk_other h1.1 h1.2
      have h3 := (allAsk_of h1.1).1
      simp [cheapB, this, h3]
    unfold cheapR
    rw [if_neg h, if_neg h2]
    exact ⟨rfl, rfl⟩
theorem cheapR_bills {a b c d a' b' c' d' : Int} {l : List S3} {ms : List Int} (h : (cheapR a b c d a' b' c' d' l ms).2 = true) :
    billR a b c d l ms = (billV a b c d l ms, true) ∧ billR a' b' c' d' l ms = (billV a' b' c' d' l ms, true) ∧ (cheapR a b c d a' b' c' d' l ms).1 = sgnI (billV a b c d l ms) (billV a' b' c' d' l ms) := by
  unfold cheapR at h ⊢
  split at h
  · rename_i hc
    rw [if_pos hc]
    have h1 : allAsk a b c d l ms = true ∧ payB a' b' c' d' = true := by simpa [cheapB] using hc
    refine ⟨?_, ?_, rfl⟩
    · unfold billR; rw [if_pos h1.1]; rfl
    · unfold billR; rw [if_pos (allAsk_other h1.1 h1.2)]; rfl
  · simp at h
theorem sgnI_neg (a b : Int) : decide (sgnI a b < 0) = decide (a < b) := by
  unfold sgnI
  repeat' split
  all_goals simp
  all_goals omega
theorem sgnI_pos (a b : Int) : decide (0 < sgnI a b) = decide (b < a) := by
  unfold sgnI
  repeat' split
  all_goals simp
  all_goals omega
end Go.Proofs.Ytiofgoppgdgbaaa
