/- Traffic: what comes is sent or waits, the hours to clear, the most that wait, the least capacity, the busiest window, the shares. Plain. No conditions. -/
import Derived.Test.YtgdlaeibdpbgdaaTr6
import Derived.Test.YtgdlaeibdpbgdaaTr8
import Derived.Test.YtgdlaeibdpbgdaaTr9
import Derived.Test.YtgdlaeibdpbgdaaTrS
namespace Go.Proofs.Ytgdlaeibdpbgdaa
set_option linter.unusedSimpArgs false
set_option linter.unusedVariables false
open Go.RowKit

/-- Hour i begins: q wait; what is still sent and what still waits comes of q and of what still arrives. -/
def Flow (cap : Int) (xs : List Int) (i : Nat) (q : Int) : Prop :=
  ∃ F : Nat, 0 ≤ q ∧ q + sumL (xs.drop i) ≤ (F : Int) ∧ (sents cap 12000 0 xs).drop i = sents cap F q (xs.drop i) ∧ (waits cap 0 xs).drop i = waits cap q (xs.drop i)
theorem sumL_drop_nonneg {xs : List Int} (h : ∀ x ∈ xs, 0 ≤ x ∧ x ≤ 200) (i : Nat) : 0 ≤ sumL (xs.drop i) := by
  have := (sumL_bd (xs.drop i) 0 200 (fun x hx => h x (List.mem_of_mem_drop hx))).1
  omega
theorem Flow.start {cap : Int} {xs : List Int} (h : ∀ x ∈ xs, 0 ≤ x ∧ x ≤ 200) (hn : xs.length ≤ 60) : Flow cap xs 0 0 := by
  have := (sumL_bd xs 0 200 h).2
  exact ⟨12000, by omega, by simp only [List.drop_zero]; omega, by simp, by simp⟩
theorem Flow.bd {cap : Int} {xs : List Int} {i : Nat} {q : Int} (h : Flow cap xs i q) : 0 ≤ q := by
  obtain ⟨F, h0, _⟩ := h
  exact h0
theorem Flow.come {cap : Int} {xs : List Int} {i : Nat} {q : Int} (h : Flow cap xs i q) (hx : ∀ x ∈ xs, 0 ≤ x ∧ x ≤ 200) (hc : 1 ≤ cap) (hi : i < xs.length) :
    ∃ (hs : i < (sents cap 12000 0 xs).length) (hw : i < (waits cap 0 xs).length), (sents cap 12000 0 xs)[i] = min (q + xs[i]) cap ∧ (waits cap 0 xs)[i] = q + xs[i] - min (q + xs[i]) cap ∧ 0 ≤ q ∧ Flow cap xs (i + 1) (q + xs[i] - min (q + xs[i]) cap) := by
  obtain ⟨F, h0, h1, h2, h3⟩ := h
  have hxi := hx _ (List.getElem_mem hi)
  rw [List.drop_eq_getElem_cons hi] at h1 h2 h3
  generalize xs[i] = x at *
  simp only [sents, waits, sumL] at h1 h2 h3
  have hs : i < (sents cap 12000 0 xs).length := by
    rcases Nat.lt_or_ge i (sents cap 12000 0 xs).length with h | h
    · exact h
    · rw [List.drop_eq_nil_of_le h] at h2; cases h2
  have hw : i < (waits cap 0 xs).length := by simpa using hi
  rw [List.drop_eq_getElem_cons hs] at h2
  rw [List.drop_eq_getElem_cons hw] at h3
  injection h2 with h4 h5
  injection h3 with h6 h7
  have e : max 0 (q + x - cap) = q + x - min (q + x) cap := by omega
  rw [e] at h6 h7
  exact ⟨hs, hw, h4, h6, h0, ⟨F, by omega, by omega, h5, h7⟩⟩
theorem Flow.clear {cap : Int} {xs : List Int} {i : Nat} {q : Int} (h : Flow cap xs i q) (hc : 1 ≤ cap) (hi : xs.length ≤ i) (hs : i < (sents cap 12000 0 xs).length) :
    0 < q ∧ (sents cap 12000 0 xs)[i] = min q cap ∧ Flow cap xs (i + 1) (q - min q cap) := by
  obtain ⟨F, h0, h1, h2, h3⟩ := h
  rw [List.drop_eq_nil_of_le hi] at h1 h2 h3
  simp only [sents, waits, sumL] at h1 h2 h3
  rw [List.drop_eq_getElem_cons hs] at h2
  cases F with
  | zero =>
    unfold drain at h2
    cases h2
  | succ F =>
    unfold drain at h2
    split at h2
    · rename_i hq
      injection h2 with h4 h5
      have d1 : xs.drop (i + 1) = [] := List.drop_eq_nil_of_le (by omega)
      have d2 : (waits cap 0 xs).drop (i + 1) = [] := List.drop_eq_nil_of_le (by simp; omega)
      refine ⟨hq, h4, ⟨F, by omega, ?_, ?_, ?_⟩⟩
      · rw [d1]; simp only [sumL]; omega
      · rw [d1]; exact h5
      · rw [d1, d2]; rfl
    · cases h2
theorem Flow.end_ {cap : Int} {xs : List Int} {i : Nat} {q : Int} (h : Flow cap xs i q) (hs : (sents cap 12000 0 xs).length ≤ i) (hi : xs.length ≤ i) : q = 0 := by
  obtain ⟨F, h0, h1, h2, _⟩ := h
  rw [List.drop_eq_nil_of_le hi] at h1 h2
  rw [List.drop_eq_nil_of_le hs] at h2
  simp only [sents, sumL] at h1 h2
  cases F with
  | zero => omega
  | succ F =>
    unfold drain at h2
    split at h2
    · cases h2
    · omega
theorem drain_facts (cap : Int) (hc : 1 ≤ cap) (f : Nat) : ∀ q : Int, 0 ≤ q → q ≤ (f : Int) → sumL (drain cap f q) = q ∧ ((drain cap f q).length : Int) = (q + cap - 1) / cap := by
  have hz : (0 + cap - 1) / cap = 0 := Int.ediv_eq_zero_of_lt (by omega) (by omega)
  induction f with
  | zero =>
    intro q h0 h1
    have e : q = 0 := by omega
    subst e
    exact ⟨rfl, by rw [hz]; rfl⟩
  | succ f ih =>
    intro q h0 h1
    unfold drain
    by_cases hq : 0 < q
    · rw [if_pos hq]
      obtain ⟨i1, i2⟩ := ih (q - min q cap) (by omega) (by omega)
      simp only [sumL, List.length_cons]
      refine ⟨by omega, ?_⟩
      rw [Int.natCast_add, i2]
      by_cases hqc : q ≤ cap
      · have e : q - min q cap = 0 := by omega
        rw [e, hz]
        have h1 : (q + cap - 1) / cap = 1 + (q - 1) / cap := by
          rw [show q + cap - 1 = (q - 1) + cap * 1 by omega, Int.add_mul_ediv_left _ _ (by omega)]; omega
        rw [h1, Int.ediv_eq_zero_of_lt (by omega) (by omega)]; rfl
      · have e : q - min q cap = q - cap := by omega
        have h1 : (q + cap - 1) / cap = 1 + (q - 1) / cap := by
          rw [show q + cap - 1 = (q - 1) + cap * 1 by omega, Int.add_mul_ediv_left _ _ (by omega)]; omega
        rw [e, h1, show q - cap + cap - 1 = q - 1 by omega]; simp; omega
    · rw [if_neg hq]
      obtain rfl : q = 0 := by omega
      exact ⟨rfl, by rw [hz]; rfl⟩
/-- What waits behind all hours. -/
def qEnd (cap : Int) : Int → List Int → Int
  | q, [] => q
  | q, x :: r => qEnd cap (max 0 (q + x - cap)) r
theorem lastOf_cons (x : Int) (l : List Int) (h : l ≠ []) : lastOf (x :: l) = lastOf l := by
  unfold lastOf
  cases l with
  | nil => exact absurd rfl h
  | cons y r => simp
theorem lastOf_waits (cap : Int) (xs : List Int) : ∀ q, xs ≠ [] → lastOf (waits cap q xs) = qEnd cap q xs := by
  induction xs with
  | nil => intro q h; exact absurd rfl h
  | cons x r ih =>
    intro q _
    cases r with
    | nil => simp [waits, qEnd, lastOf]
    | cons y r =>
      rw [show waits cap q (x :: y :: r) = max 0 (q + x - cap) :: waits cap (max 0 (q + x - cap)) (y :: r) from rfl, lastOf_cons _ _ (by simp [waits]), ih _ (by simp)]
      rfl
theorem lastOf_waits0 (cap : Int) (xs : List Int) : lastOf (waits cap 0 xs) = qEnd cap 0 xs := by
  cases xs with
  | nil => rfl
  | cons x r => exact lastOf_waits cap _ 0 (by simp)
theorem sents_facts (cap : Int) (hc : 1 ≤ cap) (f : Nat) (xs : List Int) (h : ∀ x ∈ xs, 0 ≤ x ∧ x ≤ 200) : ∀ q : Int, 0 ≤ q → q + sumL xs ≤ (f : Int) →
    sumL (sents cap f q xs) = q + sumL xs ∧ ((sents cap f q xs).length : Int) = (xs.length : Int) + (qEnd cap q xs + cap - 1) / cap := by
  induction xs with
  | nil =>
    intro q h0 h1
    simp only [sumL] at h1
    obtain ⟨h2, h3⟩ := drain_facts cap hc f q h0 (by omega)
    simp only [sents, sumL, qEnd, List.length_nil]
    exact ⟨by omega, by rw [h3]; simp⟩
  | cons x r ih =>
    intro q h0 h1
    have hx := h x (by simp)
    simp only [sumL] at h1
    obtain ⟨i1, i2⟩ := ih (fun y hy => h y (by simp [hy])) (q + x - min (q + x) cap) (by omega) (by omega)
    have e : max 0 (q + x - cap) = q + x - min (q + x) cap := by omega
    simp only [sents, sumL, qEnd, List.length_cons, e]
    exact ⟨by omega, by rw [Int.natCast_add, i2]; omega⟩
theorem sentR_facts {cap : Int} {xs : List Int} (h : trafB xs cap = true) :
    sumL (sents cap 12000 0 xs) = sumL xs ∧ ((sents cap 12000 0 xs).length : Int) = (xs.length : Int) + (lastOf (waits cap 0 xs) + cap - 1) / cap ∧ (∀ y ∈ sents cap 12000 0 xs, 0 ≤ y ∧ y ≤ 200) := by
  obtain ⟨⟨hn, hx⟩, hc1, hc2⟩ := trafB_true.1 h
  have hs := (sumL_bd xs 0 200 hx).2
  have h1 := sents_facts cap hc1 12000 xs hx 0 (by omega) (by omega)
  rw [lastOf_waits0]
  refine ⟨by omega, h1.2, ?_⟩
  have hf : ∀ (k : Nat), k ≤ (sents cap 12000 0 xs).length → ∃ q, Flow cap xs k q := by
    intro k
    induction k with
    | zero => intro _; exact ⟨0, Flow.start hx hn⟩
    | succ k ih =>
      intro hk
      obtain ⟨q, hq⟩ := ih (by omega)
      by_cases hi : k < xs.length
      · obtain ⟨_, _, _, _, _, h⟩ := hq.come hx hc1 hi
        exact ⟨_, h⟩
      · exact ⟨_, (hq.clear hc1 (by omega) (by omega)).2.2⟩
  intro y hy
  obtain ⟨k, hk, rfl⟩ := List.getElem_of_mem hy
  obtain ⟨q, hq⟩ := hf k (by omega)
  have h0 := hq.bd
  by_cases hi : k < xs.length
  · obtain ⟨_, _, h1, _, _, _⟩ := hq.come hx hc1 hi
    have := hx _ (List.getElem_mem hi)
    rw [h1]
    omega
  · obtain ⟨h1, h2, _⟩ := hq.clear hc1 (by omega) hk
    rw [h2]
    omega
theorem sentR_yes {xs : List Int} {cap : Int} (h : trafB xs cap = true) : sentR xs cap = (sents cap 12000 0 xs, true) := by unfold sentR; rw [if_pos h]
theorem waitR_yes {xs : List Int} {cap : Int} (h : trafB xs cap = true) : waitR xs cap = (waits cap 0 xs, true) := by unfold waitR; rw [if_pos h]
theorem clearR_yes {xs : List Int} {cap : Int} (h : trafB xs cap = true) : clearR xs cap = ((lastOf (waits cap 0 xs) + cap - 1) / cap, true) := by unfold clearR; rw [if_pos h]
theorem flags (xs : List Int) (cap : Int) : (sentR xs cap).2 = trafB xs cap ∧ (waitR xs cap).2 = trafB xs cap ∧ (clearR xs cap).2 = trafB xs cap ∧ (mostR xs cap).2.2 = (trafB xs cap && decide ((0 : Int) < (xs.length : Int))) := by
  cases h : trafB xs cap with
  | false => simp [sentR, waitR, clearR, mostR, h]
  | true =>
    refine ⟨by rw [sentR_yes h], by rw [waitR_yes h], by rw [clearR_yes h], ?_⟩
    unfold mostR
    by_cases h0 : xs.length = 0
    · rw [if_neg (fun h' => h'.2 h0)]; simp [h0]
    · rw [if_pos ⟨h, h0⟩]; simp; omega
theorem idx_found {p : Int → Bool} {l : List Int} : ∀ {i : Int}, (∃ x ∈ l, p x = true) → ∃ b : Nat, ∃ hb : b < l.length, idx p l i = i + (b : Int) ∧ p l[b] = true := by
  induction l with
  | nil => intro i h; obtain ⟨x, hx, _⟩ := h; cases hx
  | cons x r ih =>
    intro i h
    unfold idx
    by_cases hp : p x = true
    · exact ⟨0, by simp, by rw [if_pos hp]; simp, by simpa using hp⟩
    · rw [if_neg hp]
      obtain ⟨y, hy, hyp⟩ := h
      have hyr : y ∈ r := by
        rcases List.mem_cons.1 hy with rfl | hy
        · exact absurd hyp hp
        · exact hy
      obtain ⟨b, hb, h1, h2⟩ := ih (i := i + 1) ⟨y, hyr, hyp⟩
      exact ⟨b + 1, by simp; omega, by rw [h1]; push_cast; omega, by simpa using h2⟩
theorem idxOf_maxL {l : List Int} (h : l ≠ []) : ∃ b : Nat, ∃ hb : b < l.length, idxOf l (maxL l) = (b : Int) ∧ l[b] = maxL l := by
  obtain ⟨b, hb, h1, h2⟩ := idx_found (p := fun x => decide (x = maxL l)) (l := l) (i := 0) ⟨maxL l, maxL_mem h, by simp⟩
  exact ⟨b, hb, by unfold idxOf; rw [h1]; simp, by simpa using h2⟩
theorem mostR_no {xs : List Int} {cap : Int} (h : ¬ trafB xs cap = true) : mostR xs cap = (0, 0, false) := by
  unfold mostR
  rw [if_neg (fun h' => h h'.1)]
theorem mostR_nil {cap : Int} : mostR [] cap = (0, 0, false) := by
  unfold mostR
  rw [if_neg (fun h' => h'.2 rfl)]
theorem mostR_yes {xs : List Int} {cap : Int} (h : trafB xs cap = true) (hn : xs ≠ []) : ∃ b : Nat, ∃ hb : b < (waits cap 0 xs).length, mostR xs cap = ((b : Int), (waits cap 0 xs)[b], true) := by
  unfold mostR
  rw [if_pos ⟨h, fun h' => hn (List.eq_nil_of_length_eq_zero h')⟩]
  obtain ⟨b, hb, h1, h2⟩ := idxOf_maxL (l := waits cap 0 xs) (by intro h'; have := congrArg List.length h'; simp at this; exact hn this)
  exact ⟨b, hb, by rw [h1, h2]⟩
/-- The least capacity: with it at most so many wait; with one less, more. -/
theorem lc_facts (xs : List Int) (most : Int) (hm : 0 ≤ most) (h : ∀ x ∈ xs, 0 ≤ x ∧ x ≤ 200) : ∀ (f : Nat) (c : Int), 1 ≤ c → c + f = 201 → (c = 1 ∨ allB 0 most (waits (c - 1) 0 xs) = false) →
    1 ≤ lc xs most f c ∧ lc xs most f c ≤ 201 ∧ ((∀ y ∈ waits (lc xs most f c) 0 xs, 0 ≤ y ∧ y ≤ most) ∧ lc xs most f c ≤ 200) ∧ (lc xs most f c = 1 ∨ allB 0 most (waits (lc xs most f c - 1) 0 xs) = false) := by
  intro f
  induction f with
  | zero =>
    intro c h1 h2 h3
    obtain rfl : c = 201 := by omega
    exfalso
    rcases h3 with h3 | h3
    · omega
    · have : allB 0 most (waits (201 - 1) 0 xs) = true := allB_true.2 fun y hy => by
        have := waits_zero (cap := 201 - 1) (xs := xs) (fun x hx => by have := h x hx; omega) y hy
        omega
      rw [h3] at this
      cases this
  | succ f ih =>
    intro c h1 h2 h3
    unfold lc
    by_cases ha : allB 0 most (waits c 0 xs) = true
    · rw [if_pos ha]
      exact ⟨h1, by omega, ⟨allB_true.1 ha, by omega⟩, h3⟩
    · rw [if_neg ha]
      exact ih (c + 1) (by omega) (by omega) (.inr (by rw [show c + 1 - 1 = c by omega]; simpa using ha))
theorem leastR_facts {xs : List Int} {most : Int} (h : (leastR xs most).2 = true) :
    trafB xs (leastR xs most).1 = true ∧ 1 ≤ (leastR xs most).1 ∧ (leastR xs most).1 ≤ 200 ∧ (∀ y ∈ waits (leastR xs most).1 0 xs, 0 ≤ y ∧ y ≤ most) ∧
    (1 < (leastR xs most).1 → ∃ a m, mostR xs ((leastR xs most).1 - 1) = (a, m, true) ∧ most < m) := by
  unfold leastR at h ⊢
  by_cases hc : arrB xs = true ∧ inB most 0 12000 = true
  · rw [if_pos hc]
    obtain ⟨hn, hx⟩ := arrB_true.1 hc.1
    obtain ⟨hm0, hm1⟩ := inB_true.1 hc.2
    obtain ⟨h1, h2, ⟨h3, h4⟩, h5⟩ := lc_facts xs most hm0 hx 200 1 (by omega) (by omega) (.inl rfl)
    simp only
    generalize lc xs most 200 1 = L at *
    refine ⟨trafB_true.2 ⟨⟨hn, hx⟩, h1, h4⟩, h1, h4, h3, fun hL => ?_⟩
    have ht : trafB xs (L - 1) = true := trafB_true.2 ⟨⟨hn, hx⟩, by omega, by omega⟩
    rcases h5 with h5 | h5
    · omega
    · have hne : xs ≠ [] := by
        rintro rfl
        simp [waits, allB] at h5
      have hex : ∃ y ∈ waits (L - 1) 0 xs, most < y := by
        rcases Classical.em (∃ y ∈ waits (L - 1) 0 xs, most < y) with h | h
        · exact h
        · exfalso
          have : allB 0 most (waits (L - 1) 0 xs) = true := allB_true.2 fun y hy => by
            have hb := waits_bd (L - 1) (by omega) xs hx 0 0 (by omega) (by omega) y hy
            have : ¬ most < y := fun h' => h ⟨y, hy, h'⟩
            omega
          rw [h5] at this
          cases this
      obtain ⟨y, hy, hlt⟩ := hex
      refine ⟨idxOf (waits (L - 1) 0 xs) (maxL (waits (L - 1) 0 xs)), maxL (waits (L - 1) 0 xs), ?_, ?_⟩
      · unfold mostR
        rw [if_pos ⟨ht, fun h' => hne (List.eq_nil_of_length_eq_zero h')⟩]
      · have := maxL_ge hy
        omega
  · rw [if_neg hc] at h
    simp at h
/-- The busiest window: no window has more, the first of the busiest. -/
theorem busy_facts (xs : List Int) (k : Nat) (hn : ∀ t, 0 ≤ sumL ((xs.drop t).take k)) : ∀ m : Nat, 1 ≤ m → ∃ b : Nat, b < m ∧ busy xs k m = ((b : Int), sumL ((xs.drop b).take k)) ∧ ∀ t, t < m → sumL ((xs.drop t).take k) ≤ sumL ((xs.drop b).take k) ∧ (sumL ((xs.drop t).take k) = sumL ((xs.drop b).take k) → b ≤ t) := by
  intro m
  induction m with
  | zero => intro h; omega
  | succ m ih =>
    intro _
    rw [busy_succ]
    by_cases hm : m = 0
    · subst hm
      refine ⟨0, by omega, ?_, fun t ht => ?_⟩
      · have h0 := hn 0
        have e : busy xs k 0 = (0, -1) := rfl
        rw [e]
        unfold busyStep
        simp only
        rw [if_pos (by omega)]
      · obtain rfl : t = 0 := by omega
        exact ⟨Int.le_refl _, fun _ => Nat.le_refl _⟩
    · obtain ⟨b, hb, he, hall⟩ := ih (by omega)
      rw [he]
      unfold busyStep
      simp only
      by_cases hs : sumL ((xs.drop b).take k) < sumL ((xs.drop m).take k)
      · rw [if_pos hs]
        refine ⟨m, by omega, rfl, fun t ht => ?_⟩
        by_cases e : t = m
        · subst e; exact ⟨Int.le_refl _, fun _ => Nat.le_refl _⟩
        · have := (hall t (by omega)).1
          exact ⟨by omega, fun h => by omega⟩
      · rw [if_neg hs]
        refine ⟨b, by omega, rfl, fun t ht => ?_⟩
        by_cases e : t = m
        · subst e; exact ⟨by omega, fun _ => by omega⟩
        · exact hall t (by omega)
theorem busyR_facts {xs : List Int} {k0 : Int} (h : (busyR xs k0).2.2 = true) : ∃ k b : Nat, k0 = (k : Int) ∧ 1 ≤ k ∧ b + k ≤ xs.length ∧ xs.length ≤ 60 ∧ (∀ x ∈ xs, 0 ≤ x ∧ x ≤ 200) ∧ (busyR xs k0).1 = (b : Int) ∧ (busyR xs k0).2.1 = sumL ((xs.drop b).take k) ∧
    ∀ t, t + k ≤ xs.length → sumL ((xs.drop t).take k) ≤ sumL ((xs.drop b).take k) ∧ (sumL ((xs.drop t).take k) = sumL ((xs.drop b).take k) → b ≤ t) := by
  unfold busyR at h ⊢
  by_cases hc : arrB xs = true ∧ inB k0 1 (xs.length : Int) = true
  · rw [if_pos hc]
    obtain ⟨hn, hx⟩ := arrB_true.1 hc.1
    obtain ⟨h1, h2⟩ := inB_true.1 hc.2
    obtain ⟨k, rfl⟩ : ∃ k : Nat, k0 = (k : Int) := ⟨k0.toNat, by omega⟩
    simp only [Int.toNat_natCast]
    obtain ⟨b, hb, he, hall⟩ := busy_facts xs k (fun t => by
      have := (sumL_bd ((xs.drop t).take k) 0 200 (fun x hx' => hx x (List.mem_of_mem_drop (List.mem_of_mem_take hx')))).1
      omega) (xs.length + 1 - k) (by omega)
    rw [he]
    exact ⟨k, b, rfl, by omega, by omega, hn, hx, rfl, rfl, fun t ht => hall t (by omega)⟩
  · rw [if_neg hc] at h
    simp at h
theorem sumI_set (l : List Int) (b : Nat) (v : Int) (hb : b < l.length) : sumI (l.set b v) = sumI l - l[b] + v := by
  induction l generalizing b with
  | nil => simp at hb
  | cons x r ih =>
    cases b with
    | zero => simp [sumI]; omega
    | succ b =>
      simp only [List.length_cons] at hb
      have := ih b (by omega)
      simp only [List.set_cons_succ, sumI, List.getElem_cons_succ]
      omega
theorem shareN_sum {p s : Int} {ns : List Int} (t : Nat) : ∀ S R, ShInv p s ns t S R → sumI (shareN t (S, R)).1 = sumI S + (t : Int) := by
  induction t with
  | zero => intro S R _; simp [shareN]
  | succ t ih =>
    intro S R h
    obtain ⟨hb, _, _, hS, hn⟩ := h.step
    have hbS : best R < S.length := by rw [h.lenS]; exact hb
    have h1 := ih _ _ hn
    have e : (shareN (t + 1) (S, R)) = shareN t (stepS (S, R)) := rfl
    rw [e, show stepS (S, R) = ((stepS (S, R)).1, (stepS (S, R)).2) from rfl, h1]
    have h2 : S.getD (best R) 0 = S[best R] := by simp [List.getD, List.getElem?_eq_getElem hbS]
    simp only [stepS, h2]
    rw [sumI_set _ _ _ hbS]
    omega
theorem sharesR_facts {xs : List Int} {p : Int} (h : (sharesR xs p).2 = true) : sumL (sharesR xs p).1 = p ∧ ∀ y ∈ (sharesR xs p).1, -1000000 ≤ y ∧ y ≤ 1000000 := by
  unfold sharesR at h ⊢
  by_cases hc : inB (xs.length : Int) 1 20 = true ∧ allB 0 12000 xs = true ∧ inB p 1 1000 = true ∧ sumI xs ≠ 0
  · rw [if_pos hc]
    obtain ⟨c1, c2, c3, c4⟩ := hc
    obtain ⟨l1, l2⟩ := inB_true.1 c1
    obtain ⟨p1, p2⟩ := inB_true.1 c3
    have hx := allB_true.1 c2
    have hs := (sumI_bd hx).1
    have hne : xs ≠ [] := by rintro rfl; simp at l1
    have hl := left_bd (p := p) (ns := xs) (by omega) hne
    have hI := ShInv.start (p := p) (ns := xs) (by omega) (by omega) (by omega) (fun n hn => (hx n hn).1) (by omega)
    have h1 := shareN_sum _ _ _ hI
    have hsum : sumI (sharesOf p xs) = p := by
      unfold sharesOf
      rw [h1]
      omega
    refine ⟨by rw [sumL_sumI]; exact hsum, ?_⟩
    have hnn : ∀ y ∈ sharesOf p xs, 0 ≤ y := by
      have key : ∀ t S R, ShInv p (sumI xs) xs t S R → ∀ y ∈ (shareN t (S, R)).1, 0 ≤ y := by
        intro t
        induction t with
        | zero => intro S R hi y hy; exact (hi.bd y hy).1
        | succ t ih =>
          intro S R hi y hy
          obtain ⟨_, _, _, _, hn⟩ := hi.step
          exact ih _ _ hn y hy
      exact key _ _ _ hI
    have hmem : ∀ (l : List Int), (∀ n ∈ l, 0 ≤ n) → (0 ≤ sumI l) ∧ ∀ n ∈ l, n ≤ sumI l := by
      intro l
      induction l with
      | nil => intro _; exact ⟨by simp [sumI], fun n hn => by cases hn⟩
      | cons y r ih =>
        intro h
        have h1 := ih (fun z hz => h z (by simp [hz]))
        have h3 := h y (by simp)
        simp only [sumI]
        refine ⟨by omega, fun n hn => ?_⟩
        rcases List.mem_cons.1 hn with rfl | hn
        · omega
        · have h2 := h1.2 n hn
          omega
    intro y hy
    have h2 := (hmem _ hnn).2 y hy
    have h3 := hnn y hy
    simp only at h2 h3 hy ⊢
    omega
  · rw [if_neg hc] at h
    simp at h
end Go.Proofs.Ytgdlaeibdpbgdaa
