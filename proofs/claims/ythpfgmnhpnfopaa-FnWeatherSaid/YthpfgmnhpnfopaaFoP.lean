/- Forecasts: sums of counts, losses of true forecasts, the best constant, turns. Plain. No conditions. -/
import Derived.Test.YthpfgmnhpnfopaaWe5
import Derived.Test.YthpfgmnhpnfopaaWe6
import Derived.Test.YthpfgmnhpnfopaaWe7
namespace Go.Proofs.Ythpfgmnhpnfopaa
set_option linter.unusedSimpArgs false
set_option linter.unusedVariables false
open Go.RowKit

def sumZ : List Int → Int
  | [] => 0
  | x :: r => x + sumZ r
theorem sumZ_snoc (l : List Int) (x : Int) : sumZ (l ++ [x]) = sumZ l + x := by
  induction l with
  | nil => simp [sumZ]
  | cons a r ih => simp only [List.cons_append, sumZ, ih]; omega
theorem sumZ_bd (l : List Int) (b : Int) (h : ∀ x ∈ l, 0 ≤ x ∧ x ≤ b) : 0 ≤ sumZ l ∧ sumZ l ≤ b * (l.length : Int) := by
  induction l with
  | nil => simp [sumZ]
  | cons a r ih =>
    have h1 := ih (fun x hx => h x (by simp [hx]))
    have h2 := h a (by simp)
    have e : b * ((r.length + 1 : Nat) : Int) = b * (r.length : Int) + b := by push_cast; rw [Int.mul_add, Int.mul_one]
    simp only [sumZ, List.length_cons]
    rw [e]
    omega
def cntB : List Bool → Nat
  | [] => 0
  | f :: r => (if f = true then 1 else 0) + cntB r
theorem cntB_snoc (l : List Bool) (f : Bool) : cntB (l ++ [f]) = cntB l + (if f = true then 1 else 0) := by
  induction l with
  | nil => simp [cntB]
  | cons a r ih => simp only [List.cons_append, cntB, ih]; omega
theorem cntB_le (l : List Bool) : cntB l ≤ l.length := by
  induction l with
  | nil => simp [cntB]
  | cons a r ih => simp only [cntB, List.length_cons]; split <;> omega
theorem hits_sum (least : Int) : ∀ (xs : List Int) (fs : List Bool), xs.length = fs.length → ∀ a b c d : Int, 0 ≤ a → 0 ≤ b → 0 ≤ c → 0 ≤ d →
    ∃ a' b' c' d', hits least [a, b, c, d] xs fs = [a', b', c', d'] ∧ 0 ≤ a' ∧ 0 ≤ b' ∧ 0 ≤ c' ∧ 0 ≤ d' ∧ a' + b' + c' + d' = a + b + c + d + (fs.length : Int) ∧ a' + c' = a + c + (cntB fs : Int) := by
  intro xs
  induction xs with
  | nil =>
    intro fs hl a b c d ha hb hc hd
    obtain rfl : fs = [] := List.eq_nil_of_length_eq_zero hl.symm
    exact ⟨a, b, c, d, by simp [hits], ha, hb, hc, hd, by simp, by simp [cntB]⟩
  | cons p ps ih =>
    intro fs hl a b c d ha hb hc hd
    cases fs with
    | nil => simp at hl
    | cons f fs =>
      simp only [List.length_cons, Nat.add_right_cancel_iff] at hl
      have e1 : ((fs.length + 1 : Nat) : Int) = (fs.length : Int) + 1 := by omega
      simp only [hits, List.length_cons, cntB]
      by_cases hp : p < least <;> cases f
      · have e : bump [a, b, c, d] (hitAt least p false) = [a, b, c, d + 1] := by simp [hitAt, hp, bump]
        rw [e]
        obtain ⟨a', b', c', d', h1, h2, h3, h4, h5, h6, h7⟩ := ih fs hl a b c (d + 1) ha hb hc (by omega)
        exact ⟨a', b', c', d', h1, h2, h3, h4, h5, by omega, by simp; omega⟩
      · have e : bump [a, b, c, d] (hitAt least p true) = [a, b, c + 1, d] := by simp [hitAt, hp, bump]
        rw [e]
        obtain ⟨a', b', c', d', h1, h2, h3, h4, h5, h6, h7⟩ := ih fs hl a b (c + 1) d ha hb (by omega) hd
        exact ⟨a', b', c', d', h1, h2, h3, h4, h5, by omega, by simp; omega⟩
      · have e : bump [a, b, c, d] (hitAt least p false) = [a, b + 1, c, d] := by simp [hitAt, hp, bump]
        rw [e]
        obtain ⟨a', b', c', d', h1, h2, h3, h4, h5, h6, h7⟩ := ih fs hl a (b + 1) c d ha (by omega) hc hd
        exact ⟨a', b', c', d', h1, h2, h3, h4, h5, by omega, by simp; omega⟩
      · have e : bump [a, b, c, d] (hitAt least p true) = [a + 1, b, c, d] := by simp [hitAt, hp, bump]
        rw [e]
        obtain ⟨a', b', c', d', h1, h2, h3, h4, h5, h6, h7⟩ := ih fs hl (a + 1) b c d (by omega) hb hc hd
        exact ⟨a', b', c', d', h1, h2, h3, h4, h5, by omega, by simp; omega⟩
theorem hitCountsR_facts {xs : List Int} {fs : List Bool} {least : Int} (h : (hitCountsR xs fs least).2 = true) :
    fs.length ≤ 20 ∧ ∃ a b c d : Int, (hitCountsR xs fs least).1 = [a, b, c, d] ∧ 0 ≤ a ∧ 0 ≤ b ∧ 0 ≤ c ∧ 0 ≤ d ∧ a + b + c + d = (fs.length : Int) ∧ a + c = (cntB fs : Int) := by
  unfold hitCountsR at h ⊢
  split at h
  · rename_i hc
    rw [if_pos hc]
    obtain ⟨h1, h2, _⟩ := goodF_true.1 hc.1
    obtain ⟨a, b, c, d, e, ha, hb, hc', hd, hs, ht⟩ := hits_sum least xs fs h1 0 0 0 0 (by omega) (by omega) (by omega) (by omega)
    exact ⟨h2, a, b, c, d, e, ha, hb, hc', hd, by omega, by omega⟩
  · simp at h
theorem loss_true (fs : List Bool) : loss (fs.map saysOf) fs = 0 := by
  induction fs with
  | nil => rfl
  | cons f r ih =>
    simp only [List.map_cons, loss, ih]
    cases f <;> simp [lossTerm, saysOf]
theorem good_true {fs : List Bool} (h : fs.length ≤ 20) : forecastLossR (fs.map saysOf) fs = (0, true) := by
  unfold forecastLossR
  rw [if_pos (goodF_true.2 ⟨by simp, h, fun x hx => by
    obtain ⟨f, _, rfl⟩ := List.mem_map.1 hx
    unfold saysOf
    split <;> omega⟩), loss_true]
theorem forecastLossR_ok {xs : List Int} {fs : List Bool} (h : (forecastLossR xs fs).2 = true) : fs.length ≤ 20 ∧ 0 ≤ (forecastLossR xs fs).1 ∧ (forecastLossR xs fs).1 ≤ 10000 * (fs.length : Int) := by
  unfold forecastLossR at h ⊢
  split at h
  · rename_i hg
    rw [if_pos hg]
    obtain ⟨h1, h2, h3⟩ := goodF_true.1 hg
    have := loss_bd xs fs h3
    rw [h1] at this
    exact ⟨h2, this⟩
  · simp at h
theorem good_rep {fs : List Bool} {q : Nat} (h : fs.length ≤ 20) (hq : q ≤ 100) : forecastLossR (List.replicate fs.length (q : Int)) fs = (loss (List.replicate fs.length (q : Int)) fs, true) := by
  unfold forecastLossR
  rw [if_pos (goodF_true.2 ⟨by simp, h, rep_bd _ q hq⟩)]
theorem bestF_best (fs : List Bool) : ∀ k : Nat, k ≤ 101 → 1 ≤ k → 0 ≤ (bestF fs k).2 ∧ (∀ q, q < k → (bestF fs k).2 ≤ loss (List.replicate fs.length (q : Int)) fs ∧ ((bestF fs k).2 = loss (List.replicate fs.length (q : Int)) fs → (bestF fs k).1 ≤ (q : Int))) := by
  intro k
  induction k with
  | zero => intro _ h; omega
  | succ k ih =>
    intro hk _
    have hL := (loss_bd (List.replicate fs.length (k : Int)) fs (rep_bd _ k (by omega))).1
    rw [bestF_succ]
    unfold bestStep
    by_cases h0 : k = 0
    · subst h0
      have e : (bestF fs 0).2 = -1 := rfl
      rw [if_pos (.inl (by rw [e]; omega))]
      refine ⟨hL, fun q hq => ?_⟩
      obtain rfl : q = 0 := by omega
      exact ⟨Int.le_refl _, fun _ => Int.le_refl _⟩
    · obtain ⟨i1, i2⟩ := ih (by omega) (by omega)
      by_cases hs : (bestF fs k).2 < 0 ∨ loss (List.replicate fs.length (k : Int)) fs < (bestF fs k).2
      · rw [if_pos hs]
        have hs' : loss (List.replicate fs.length (k : Int)) fs < (bestF fs k).2 := by omega
        refine ⟨hL, fun q hq => ?_⟩
        by_cases hqk : q = k
        · subst hqk; exact ⟨Int.le_refl _, fun _ => Int.le_refl _⟩
        · have := (i2 q (by omega)).1
          exact ⟨by simp only; omega, fun he => by simp only at he; omega⟩
      · rw [if_neg hs]
        refine ⟨i1, fun q hq => ?_⟩
        by_cases hqk : q = k
        · subst hqk
          refine ⟨by omega, fun he => ?_⟩
          have h3 := (bestF_le fs q)
          exact h3
        · exact i2 q (by omega)
where
  bestF_le (fs : List Bool) : ∀ k : Nat, (bestF fs k).1 ≤ (k : Int) := by
    intro k
    induction k with
    | zero => simp [bestF]
    | succ k ih =>
      rw [bestF_succ]
      unfold bestStep
      split
      · simp only; omega
      · omega
theorem bestR_facts {fs : List Bool} {q : Nat} (h : fs.length ≤ 20) (hq : q ≤ 100) : (bestR fs).2.2 = true ∧ (bestR fs).2.1 ≤ loss (List.replicate fs.length (q : Int)) fs ∧ ((bestR fs).2.1 = loss (List.replicate fs.length (q : Int)) fs → (bestR fs).1 ≤ (q : Int)) := by
  have h1 := (bestF_best fs 101 (by omega) (by omega)).2 q (by omega)
  unfold bestR
  rw [if_pos h]
  generalize bestF fs 101 = s at h1 ⊢
  exact ⟨rfl, h1⟩
/-- How often the weather turns. -/
def turnsB : Bool → List Bool → Nat
  | _, [] => 0
  | p, f :: r => (if f = p then 0 else 1) + turnsB f r
theorem turnsB_le (p : Bool) (fs : List Bool) : turnsB p fs ≤ fs.length := by
  induction fs generalizing p with
  | nil => simp [turnsB]
  | cons f r ih => have := ih f; simp only [turnsB, List.length_cons]; split <;> omega
theorem loss_prev (r : List Bool) : ∀ p : Bool, loss (((p :: r).take r.length).map saysOf) r = 10000 * (turnsB p r : Int) := by
  induction r with
  | nil => intro p; simp [loss, turnsB]
  | cons f r ih =>
    intro p
    have h := ih f
    simp only [List.length_cons, List.take_succ_cons, List.map_cons, loss, turnsB] at h ⊢
    rw [h]
    cases p <;> cases f <;> simp [lossTerm, saysOf] <;> omega
theorem stayR_facts {fs : List Bool} (h : (stayR fs).2 = true) : fs.length ≤ 20 ∧ ∃ h0 : 0 < fs.length, (stayR fs).1 = 2500 + 10000 * (turnsB fs[0] (fs.drop 1) : Int) := by
  unfold stayR at h ⊢
  split at h
  · rename_i hc
    rw [if_pos hc]
    refine ⟨hc.1, by omega, ?_⟩
    cases fs with
    | nil => simp at hc
    | cons f r =>
      have h := loss_prev r f
      simp only [stay, List.length_cons, Nat.add_sub_cancel, loss, List.getElem_cons_zero, List.drop_succ_cons, List.drop_zero]
      rw [h]
      cases f <;> simp [lossTerm]
  · simp at h
end Go.Proofs.Ythpfgmnhpnfopaa
