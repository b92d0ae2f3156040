/- The library's stable sort at 60 elements or fewer: the whole of it, plain. No conditions. -/
import Derived.Test.YtcjmlakmigfkfaaStb1
namespace Go.Proofs.Ytcjmlakmigfkfaa
set_option linter.unusedSimpArgs false
set_option linter.unusedVariables false
open Go.Sort
section
variable {α : Type} [Inhabited α] {lt lx : α → α → Bool}

theorem insInner_permS (lt : α → α → Bool) (a : Nat) : ∀ (j : Nat) (d : Array α), a ≤ j → j < d.size → PermIn a (j + 1) d (insInner lt a j d) := by
  intro j
  induction j with
  | zero => intro d _ _; exact permIn_refl _ _ _
  | succ j ih =>
    intro d h1 h2
    unfold insInner
    split
    · rename_i hc
      simp only [Bool.and_eq_true, decide_eq_true_eq] at hc
      have := ih (swp d (j + 1) j) (by omega) (by rw [swp_size]; omega)
      exact permIn_trans _ _ _ _ _ (swp_permIn d a (j + 1 + 1) (j + 1) j (by omega) (by omega) (by omega) (by omega) (by omega)) (permIn_mono _ _ _ _ _ _ (Nat.le_refl _) (by omega) (by rw [swp_size]; omega) this)
    · exact permIn_refl _ _ _
theorem insInner_eq (a : Nat) : ∀ (j : Nat) (d : Array α), j < d.size → (∀ p, a ≤ p → p < j → lt d[j]! d[p]! = lx d[j]! d[p]!) → insInner lt a j d = insInner lx a j d := by
  intro j
  induction j with
  | zero => intro d _ _; rfl
  | succ j ih =>
    intro d h1 h
    unfold insInner
    by_cases hj : j + 1 > a
    · rw [h j (by omega) (by omega)]
      have g := swp_get d h1 (show j < d.size by omega)
      rw [ih (swp d (j + 1) j) (by rw [swp_size]; omega) (fun p hp1 hp2 => by
        rw [g, g, if_pos rfl, if_neg (by omega), if_neg (by omega)]
        exact h p hp1 (by omega))]
    · have : decide (j + 1 > a) = false := by simpa using hj
      rw [this]
      simp
theorem insOuter_on (lt : α → α → Bool) (a b i : Nat) (d : Array α) (h : i < b) : insOuter lt a b i d = insOuter lt a b (i + 1) (insInner lt a i d) := by
  conv => lhs; rw [insOuter]
  rw [if_pos h]
theorem insOuter_off (lt : α → α → Bool) (a b i : Nat) (d : Array α) (h : ¬ i < b) : insOuter lt a b i d = d := by
  rw [insOuter, if_neg h]
theorem insOuter_eq (a b : Nat) : ∀ (k i : Nat) (d : Array α), b - i ≤ k → a ≤ i → b ≤ d.size → (∀ p q, a ≤ p → p < q → i ≤ q → q < b → lt d[q]! d[p]! = lx d[q]! d[p]!) → insOuter lt a b i d = insOuter lx a b i d := by
  intro k
  induction k with
  | zero =>
    intro i d h1 _ _ _
    rw [insOuter_off lt _ _ _ _ (by omega), insOuter_off lx _ _ _ _ (by omega)]
  | succ k ih =>
    intro i d h1 h2 h3 h
    by_cases hi : i < b
    · have e := insInner_eq (lt := lt) (lx := lx) a i d (by omega) (fun p hp1 hp2 => h p i hp1 hp2 (Nat.le_refl _) hi)
      have hp := insInner_permS lx a i d h2 (by omega)
      rw [insOuter_on lt _ _ _ _ hi, insOuter_on lx _ _ _ _ hi, e]
      refine ih (i + 1) _ (by omega) (by omega) (by rw [hp.1]; exact h3) (fun p q hp1 hpq hq1 hq2 => ?_)
      rw [hp.2.1 q (.inr hq1)]
      by_cases hpi : p < i + 1
      · exact permIn_all d _ a (i + 1) (fun z => lt d[q]! z = lx d[q]! z) (by omega) hp (fun r hr1 hr2 => h r q hr1 (by omega) (by omega) hq2) p hp1 hpi
      · rw [hp.2.1 p (.inr (by omega))]
        exact h p q hp1 hpq (by omega) hq2
    · rw [insOuter_off lt _ _ _ _ hi, insOuter_off lx _ _ _ _ hi]
theorem insertion_sorts (hS : SWO lx) (a b : Nat) (d : Array α) (hab : a ≤ b) (hb : b ≤ d.size) (h : ∀ p q, a ≤ p → p < q → q < b → lt d[q]! d[p]! = lx d[q]! d[p]!) :
    PermIn a b d (insertionSort lt d a b) ∧ SortedIn lx a b (insertionSort lt d a b) := by
  have e : insertionSort lt d a b = insertionSort lx d a b := by
    unfold insertionSort
    exact insOuter_eq a b (b - (a + 1)) (a + 1) d (Nat.le_refl _) (by omega) hb (fun p q h1 h2 _ h3 => h p q h1 h2 h3)
  rw [e]
  exact insertionSort_holds hS d a b hab hb

def insB (lt : α → α → Bool) (n : Nat) : Nat → Nat → Array α → Array α
  | 0, _, d => d
  | f + 1, a, d => if a + 20 ≤ n then insB lt n f (a + 20) (insertionSort lt d a (a + 20)) else insertionSort lt d a n
def merB (lt : α → α → Bool) (n bs : Nat) : Nat → Nat → Array α → Array α
  | 0, _, d => d
  | f + 1, a, d => if a + 2 * bs ≤ n then merB lt n bs f (a + 2 * bs) (symP lt n a (a + bs) (a + 2 * bs) d) else if a + bs < n then symP lt n a (a + bs) n d else d
def merA (lt : α → α → Bool) (n : Nat) : Nat → Nat → Array α → Array α
  | 0, _, d => d
  | f + 1, bs, d => if bs < n then merA lt n f (2 * bs) (merB lt n bs (n + 4) 0 d) else d
def stableP (lt : α → α → Bool) (n : Nat) (d : Array α) : Array α := merA lt n (n + 4) 20 (insB lt n (n + 4) 0 d)

def CutAt (tag : α → Nat) (c n : Nat) (d : Array α) : Prop := ∀ i, i < n → (i < c ↔ tag d[i]! < c)
theorem CutAt.perm {tag : α → Nat} {c n a b : Nat} {d d' : Array α} (h : CutAt tag c n d) (hp : PermIn a b d d') (hb : b ≤ n) (hn : n ≤ d.size) (hc : b ≤ c ∨ c ≤ a) : CutAt tag c n d' := by
  intro i hi
  by_cases ho : i < a ∨ b ≤ i
  · rw [hp.2.1 i ho]; exact h i hi
  · rcases hc with hc | hc
    · exact ⟨fun _ => permIn_all d d' a b (fun z => tag z < c) (by omega) hp (fun j h1 h2 => (h j (by omega)).1 (by omega)) i (by omega) (by omega), fun _ => by omega⟩
    · have := permIn_all d d' a b (fun z => ¬ tag z < c) (by omega) hp (fun j h1 h2 hh => by have := (h j (by omega)).2 hh; omega) i (by omega) (by omega)
      exact ⟨fun _ => by omega, fun hh => absurd hh this⟩
theorem CutAt.asks {tag : α → Nat} {c n a b : Nat} {d : Array α} (hA : ∀ x y, tag x < tag y → lt y x = lx y x) (h : CutAt tag c n d) (hb : b ≤ n) : Asks lt lx a c b d := fun i j _ i2 j1 j2 =>
  hA _ _ (by have h1 := (h i (by omega)).1 i2; have h2 := (h j (by omega)).2; by_cases hh : tag d[j]! < c; · have := h2 hh; omega
             · omega)
/-- All blocks sorted, the blocks' elements apart. -/
structure Blks (tag : α → Nat) (lx : α → α → Bool) (n : Nat) (d d' : Array α) : Prop where
  perm : PermIn 0 n d d'
  s0 : SortedIn lx 0 (min 20 n) d'
  s1 : SortedIn lx (min 20 n) (min 40 n) d'
  s2 : SortedIn lx (min 40 n) n d'
  c0 : CutAt tag 20 n d'
  c1 : CutAt tag 40 n d'
theorem sorted_nil (a b : Nat) (d : Array α) (h : b ≤ a) : SortedIn lx a b d := fun _ _ _ _ _ => by omega
theorem insertion_none (lt : α → α → Bool) (d : Array α) (a : Nat) : insertionSort lt d a a = d := insOuter_off lt _ _ _ _ (by omega)
theorem insB_blks (hS : SWO lx) (tag : α → Nat) (hA : ∀ x y, tag x < tag y → lt y x = lx y x) (n : Nat) (d : Array α) (hn : n ≤ 60) (hd : d.size = n) (ht : ∀ i, i < n → tag d[i]! = i) : Blks tag lx n d (insB lt n (n + 4) 0 d) := by
  have c0 : ∀ c, CutAt tag c n d := fun c i hi => by rw [ht i hi]
  have hask : ∀ (d' : Array α) (a b : Nat), (∀ i, a ≤ i → d'[i]! = d[i]!) → b ≤ n → ∀ p q, a ≤ p → p < q → q < b → lt d'[q]! d'[p]! = lx d'[q]! d'[p]! := fun d' a b he hb p q h1 h2 h3 => by
    rw [he p h1, he q (by omega)]
    exact hA _ _ (by rw [ht p (by omega), ht q (by omega)]; exact h2)
  simp only [insB, Nat.zero_add]
  by_cases h20 : 20 ≤ n
  · rw [if_pos h20]
    obtain ⟨p1, s1⟩ := insertion_sorts (lt := lt) hS 0 20 d (by omega) (by omega) (hask d 0 20 (fun _ _ => rfl) h20)
    obtain ⟨d1, e1⟩ : ∃ d1, d1 = insertionSort lt d 0 20 := ⟨_, rfl⟩
    rw [← e1] at p1 s1 ⊢
    have z1 : d1.size = n := by rw [p1.1, hd]
    by_cases h40 : 20 + 20 ≤ n
    · rw [if_pos h40]
      obtain ⟨p2, s2⟩ := insertion_sorts (lt := lt) hS 20 40 d1 (by omega) (by omega) (hask d1 20 40 (fun i hi => p1.2.1 i (.inr hi)) h40)
      obtain ⟨d2, e2⟩ : ∃ d2, d2 = insertionSort lt d1 20 40 := ⟨_, rfl⟩
      rw [show 20 + 20 = 40 from rfl, ← e2]
      rw [← e2] at p2 s2
      have z2 : d2.size = n := by rw [p2.1, z1]
      have he2 : ∀ i, 40 ≤ i → d2[i]! = d[i]! := fun i hi => by rw [p2.2.1 i (.inr hi), p1.2.1 i (.inr (by omega))]
      have h3 : PermIn 40 n d2 (if 40 + 20 ≤ n then (if 40 + 20 + 20 ≤ n then insB lt n n (40 + 20 + 20) (insertionSort lt (insertionSort lt d2 40 (40 + 20)) (40 + 20) (40 + 20 + 20)) else insertionSort lt (insertionSort lt d2 40 (40 + 20)) (40 + 20) n) else insertionSort lt d2 40 n) ∧
          SortedIn lx 40 n (if 40 + 20 ≤ n then (if 40 + 20 + 20 ≤ n then insB lt n n (40 + 20 + 20) (insertionSort lt (insertionSort lt d2 40 (40 + 20)) (40 + 20) (40 + 20 + 20)) else insertionSort lt (insertionSort lt d2 40 (40 + 20)) (40 + 20) n) else insertionSort lt d2 40 n) := by
        have q := insertion_sorts (lt := lt) hS 40 n d2 (by omega) (by omega) (hask d2 40 n he2 (Nat.le_refl _))
        by_cases h60 : 40 + 20 ≤ n
        · obtain rfl : n = 60 := by omega
          rw [if_pos (by omega), if_neg (by omega), insertion_none]
          exact q
        · rw [if_neg h60]
          exact q
      obtain ⟨p3, s3⟩ := h3
      have m1 : min 20 n = 20 := by omega
      have m2 : min 40 n = 40 := by omega
      refine ⟨permIn_trans _ _ _ _ _ (permIn_mono _ _ _ _ _ _ (Nat.le_refl _) h20 (by omega) p1) (permIn_trans _ _ _ _ _ (permIn_mono _ _ _ _ _ _ (by omega) (by omega) (by omega) p2) (permIn_mono _ _ _ _ _ _ (by omega) (Nat.le_refl _) (by omega) p3)), ?_, ?_, ?_, ?_, ?_⟩
      · rw [m1]; exact sorted_out (sorted_out s1 p2 (.inl (Nat.le_refl _))) p3 (.inl (by omega))
      · rw [m1, m2]; exact sorted_out s2 p3 (.inl (Nat.le_refl _))
      · rw [m2]; exact s3
      · exact (((c0 20).perm p1 h20 (by omega) (.inl (Nat.le_refl _))).perm p2 (by omega) (by omega) (.inr (Nat.le_refl _))).perm p3 (Nat.le_refl _) (by omega) (.inr (by omega))
      · exact (((c0 40).perm p1 h20 (by omega) (.inl (by omega))).perm p2 (by omega) (by omega) (.inl (Nat.le_refl _))).perm p3 (Nat.le_refl _) (by omega) (.inr (Nat.le_refl _))
    · rw [if_neg h40]
      obtain ⟨p2, s2⟩ := insertion_sorts (lt := lt) hS 20 n d1 h20 (by omega) (hask d1 20 n (fun i hi => p1.2.1 i (.inr hi)) (Nat.le_refl _))
      have m1 : min 20 n = 20 := by omega
      have m2 : min 40 n = n := by omega
      refine ⟨permIn_trans _ _ _ _ _ (permIn_mono _ _ _ _ _ _ (Nat.le_refl _) h20 (by omega) p1) (permIn_mono _ _ _ _ _ _ (by omega) (Nat.le_refl _) (by omega) p2), ?_, ?_, ?_, ?_, ?_⟩
      · rw [m1]; exact sorted_out s1 p2 (.inl (Nat.le_refl _))
      · rw [m1, m2]; exact s2
      · exact sorted_nil _ _ _ (by omega)
      · exact ((c0 20).perm p1 h20 (by omega) (.inl (Nat.le_refl _))).perm p2 (Nat.le_refl _) (by omega) (.inr (Nat.le_refl _))
      · exact ((c0 40).perm p1 h20 (by omega) (.inl (by omega))).perm p2 (Nat.le_refl _) (by omega) (.inl (by omega))
  · rw [if_neg h20]
    obtain ⟨p1, s1⟩ := insertion_sorts (lt := lt) hS 0 n d (by omega) (by omega) (hask d 0 n (fun _ _ => rfl) (Nat.le_refl _))
    refine ⟨p1, ?_, ?_, ?_, ?_, ?_⟩
    · rw [show min 20 n = n by omega]; exact s1
    · exact sorted_nil _ _ _ (by omega)
    · exact sorted_nil _ _ _ (by omega)
    · exact (c0 20).perm p1 (Nat.le_refl _) (by omega) (.inl (by omega))
    · exact (c0 40).perm p1 (Nat.le_refl _) (by omega) (.inl (by omega))
/-- The stable sort, sorted by the sharper order. -/
theorem stableP_sorts (hS : SWO lx) (tag : α → Nat) (hA : ∀ x y, tag x < tag y → lt y x = lx y x) (n : Nat) (d : Array α) (hn : n ≤ 60) (hd : d.size = n) (ht : ∀ i, i < n → tag d[i]! = i) :
    PermIn 0 n d (stableP lt n d) ∧ SortedIn lx 0 n (stableP lt n d) := by
  have hB := insB_blks hS tag hA n d hn hd ht
  unfold stableP
  obtain ⟨d1, e1⟩ : ∃ d1, d1 = insB lt n (n + 4) 0 d := ⟨_, rfl⟩
  rw [← e1] at hB ⊢
  have z1 : d1.size = n := by rw [hB.perm.1, hd]
  simp only [merA]
  by_cases h20 : 20 < n
  · rw [if_pos h20]
    have hs0 := hB.s0
    have hs1 := hB.s1
    have hs2 := hB.s2
    rw [show min 20 n = 20 by omega] at hs0 hs1
    by_cases h40 : 40 ≤ n
    · rw [show min 40 n = 40 by omega] at hs1 hs2
      obtain ⟨p2, s2⟩ := symP_sorts (lt := lt) hS n 0 20 40 d1 (by omega) (by omega) (by omega) (by omega) hs0 hs1 (hB.c0.asks hA (by omega))
      have eM : merB lt n 20 (n + 4) 0 d1 = symP lt n 0 20 40 d1 := by
        simp only [merB, Nat.zero_add]
        rw [if_pos (by omega), if_neg (by omega), if_neg (by omega)]
      rw [eM]
      obtain ⟨d2, e2⟩ : ∃ d2, d2 = symP lt n 0 20 40 d1 := ⟨_, rfl⟩
      rw [← e2] at p2 s2 ⊢
      have z2 : d2.size = n := by rw [p2.1, z1]
      have P2 := permIn_trans _ _ _ _ _ hB.perm (permIn_mono _ _ _ _ _ _ (Nat.le_refl _) h40 (by omega) p2)
      have s22 := sorted_out hs2 p2 (.inr (Nat.le_refl _))
      by_cases hn40 : 2 * 20 < n
      · rw [if_pos hn40]
        obtain ⟨p3, s3⟩ := symP_sorts (lt := lt) hS n 0 40 n d2 (by omega) (by omega) (by omega) (by omega) s2 s22 ((hB.c1.perm p2 (by omega) (by omega) (.inl (Nat.le_refl _))).asks hA (Nat.le_refl _))
        have eM2 : merB lt n (2 * 20) (n + 4) 0 d2 = symP lt n 0 40 n d2 := by
          simp only [merB, Nat.zero_add]
          rw [if_neg (by omega), if_pos (by omega)]
        rw [eM2, if_neg (by omega)]
        exact ⟨permIn_trans _ _ _ _ _ P2 p3, s3⟩
      · obtain rfl : n = 40 := by omega
        rw [if_neg hn40]
        exact ⟨P2, s2⟩
    · rw [show min 40 n = n by omega] at hs1
      obtain ⟨p2, s2⟩ := symP_sorts (lt := lt) hS n 0 20 n d1 (by omega) (by omega) (by omega) (by omega) hs0 hs1 (hB.c0.asks hA (Nat.le_refl _))
      have eM : merB lt n 20 (n + 4) 0 d1 = symP lt n 0 20 n d1 := by
        simp only [merB, Nat.zero_add]
        rw [if_neg (by omega), if_pos (by omega)]
      rw [eM, if_neg (by omega)]
      exact ⟨permIn_trans _ _ _ _ _ hB.perm p2, s2⟩
  · rw [if_neg h20]
    have hs0 := hB.s0
    rw [show min 20 n = n by omega] at hs0
    exact ⟨hB.perm, hs0⟩
end
end Go.Proofs.Ytcjmlakmigfkfaa
