/- The law of wear: days left, the first one to fail, wear since the last repair. Plain. No conditions. -/
import Derived.Test.YtjibdabedagghaaFirst
import Derived.Test.YtjibdabedagghaaWear
namespace Go.Proofs.Ytjibdabedagghaa
set_option linter.unusedSimpArgs false
set_option linter.unusedVariables false
open Go.RowKit

theorem daysR_facts {a b c d : Int} (h : (daysR a b c d).2 = true) : gearB a b c d = true ∧ (daysR a b c d).1 = leftOf a b c ∧ 0 ≤ leftOf a b c ∧ leftOf a b c ≤ 1000 ∧ (0 ≤ leftOf a b c * b ∧ leftOf a b c * b ≤ 1000) ∧ a + leftOf a b c * b ≤ c ∧ c < a + (leftOf a b c + 1) * b := by
  unfold daysR at h ⊢
  split at h
  · rename_i hg
    rw [if_pos hg]
    obtain ⟨⟨hb1, hb2⟩, ⟨hc1, hc2⟩, ⟨ha1, ha2⟩, _⟩ := gearB_true.1 hg
    have h1 : leftOf a b c * b ≤ c - a := Int.ediv_mul_le _ (by omega)
    have h2 : c - a < (leftOf a b c + 1) * b := Int.lt_ediv_add_one_mul_self _ (by omega)
    have h3 : 0 ≤ leftOf a b c := Int.ediv_nonneg (by omega) (by omega)
    have h4 : leftOf a b c ≤ leftOf a b c * b := by
      have := Int.mul_le_mul_of_nonneg_left hb1 h3
      omega
    exact ⟨hg, rfl, h3, by omega, ⟨by omega, by omega⟩, by omega, by omega⟩
  · simp at h
def zG : G4 := (0, 0, 0, 0)
/-- Of the first k ones, i is the first with the fewest days left, v. -/
def GoodF (L : List G4) (k : Nat) (b : Nat × Int) : Prop := b.1 < k ∧ leftG (L.getD b.1 zG) = b.2 ∧ ∀ j, j < k → b.2 ≤ leftG (L.getD j zG) ∧ (j < b.1 → b.2 < leftG (L.getD j zG))
theorem ffail_good (L : List G4) : ∀ (k : Nat) (b : Nat × Int), k ≤ L.length → GoodF L k b → GoodF L L.length (ffail (L.drop k) k b) := by
  intro k b hk hg
  by_cases hlt : k < L.length
  · rw [List.drop_eq_getElem_cons hlt]
    have e : L.getD k zG = L[k] := by simp [List.getD, List.getElem?_eq_getElem hlt]
    simp only [ffail]
    obtain ⟨h1, h2, h3⟩ := hg
    split
    · rename_i hl
      refine ffail_good L (k + 1) _ (by omega) ⟨by simp only; omega, by simp only [e], fun j hj => ?_⟩
      by_cases hjk : j = k
      · subst hjk
        refine ⟨by rw [e]; simp, fun h => absurd h (by simp)⟩
      · have := (h3 j (by omega)).1
        exact ⟨by simp only; omega, fun _ => by simp only; omega⟩
    · rename_i hl
      refine ffail_good L (k + 1) b (by omega) ⟨by omega, h2, fun j hj => ?_⟩
      by_cases hjk : j = k
      · subst hjk
        rw [e]
        exact ⟨by omega, fun h => absurd h (by omega)⟩
      · exact h3 j (by omega)
  · rw [List.drop_eq_nil_of_le (by omega)]
    simp only [ffail]
    have : k = L.length := by omega
    subst this
    exact hg
termination_by k => L.length - k
theorem firstF_good {L : List G4} (h : 0 < L.length) : GoodF L L.length (firstF L) := by
  rw [← firstF_start h]
  have e : L.getD 0 zG = L[0] := by simp [List.getD, List.getElem?_eq_getElem h]
  have h1 : GoodF L 1 (0, leftG L[0]) := ⟨by simp, by rw [e], fun j hj => by
    obtain rfl : j = 0 := by omega
    rw [e]
    exact ⟨Int.le_refl _, fun h => absurd h (by simp)⟩⟩
  have h2 := ffail_good L 1 _ (by omega) h1
  rw [firstF_one h] at h2
  rw [firstF_start h]
  exact h2
theorem firstR_facts {L : List G4} (h : (firstR L).2.2 = true) : L.length ≤ 8 ∧ ∃ F : Nat, ∃ W : Int, (firstR L).1 = (F : Int) ∧ (firstR L).2.1 = W ∧ ∀ k, (hk : k < L.length) → (daysR L[k].1 L[k].2.1 L[k].2.2.1 L[k].2.2.2 = (leftG L[k], true)) ∧ W ≤ leftG L[k] ∧ (k < F → leftG L[k] ≠ W) ∧ (k = F → leftG L[k] = W) := by
  unfold firstR at h ⊢
  split at h
  · rename_i hc
    rw [if_pos hc]
    obtain ⟨hall, hn⟩ := goodGears_true.1 hc.1
    have hg := firstF_good (L := L) (by have := hc.2; omega)
    refine ⟨hn, (firstF L).1, (firstF L).2, rfl, rfl, fun k hk => ?_⟩
    have e : L.getD k zG = L[k] := by simp [List.getD, List.getElem?_eq_getElem hk]
    obtain ⟨g1, g2, g3⟩ := hg
    have h3 := g3 k hk
    rw [e] at h3
    refine ⟨?_, h3.1, fun hl => ?_, fun he => ?_⟩
    · unfold daysR
      rw [if_pos (hall _ (List.getElem_mem hk))]
      rfl
    · have := h3.2 hl; omega
    · subst he
      rw [e] at g2
      exact g2
  · simp at h
/-- The last day of repair up to a day, -1 if there is none. -/
def lastR (day : Int) (ds : List Int) : Int := ds.foldl (fun last t => if t ≤ day then t else last) (-1)
theorem lastR_snoc (day : Int) (ds : List Int) (t : Int) : lastR day (ds ++ [t]) = if t ≤ day then t else lastR day ds := by simp [lastR]
theorem hasB_iff {l : List Int} {v : Int} : hasB l v = true ↔ v ∈ l := by simp [hasB]
theorem wearAt_none (a b : Int) (ds : List Int) : ∀ m : Nat, (∀ t : Nat, t < m → ¬ (t : Int) ∈ ds) → wearAt a b ds m = a + (m : Int) * b := by
  intro m
  induction m with
  | zero => intro _; simp [wearAt]
  | succ m ih =>
    intro h
    have h1 := ih (fun t ht => h t (by omega))
    have h2 : ¬ hasB ds (m : Int) = true := fun hb => h m (by omega) (hasB_iff.1 hb)
    simp only [wearAt]
    rw [if_neg h2, h1]
    push_cast
    rw [Int.add_mul, Int.one_mul]
    omega
theorem wearAt_since (a b : Int) (ds : List Int) (L : Nat) (hL : (L : Int) ∈ ds) : ∀ m : Nat, L < m → (∀ t : Nat, L < t → t < m → ¬ (t : Int) ∈ ds) → wearAt a b ds m = ((m : Int) - (L : Int)) * b := by
  intro m
  induction m with
  | zero => intro h; omega
  | succ m ih =>
    intro hlt h
    simp only [wearAt]
    by_cases hm : m = L
    · subst hm
      rw [if_pos (hasB_iff.2 hL)]
      have e : ((m + 1 : Nat) : Int) - (m : Int) = 1 := by omega
      rw [e, Int.one_mul, Int.zero_add]
    · have h2 : ¬ hasB ds (m : Int) = true := fun hb => h m (by omega) (by omega) (hasB_iff.1 hb)
      rw [if_neg h2, ih (by omega) (fun t h1 h3 => h t h1 (by omega))]
      have e : ((m + 1 : Nat) : Int) - (L : Int) = ((m : Int) - (L : Int)) + 1 := by omega
      rw [e, Int.add_mul, Int.one_mul]
theorem snoc_rec {α : Type} {P : List α → Prop} (h0 : P []) (h1 : ∀ l x, P l → P (l ++ [x])) : ∀ l, P l := by
  have : ∀ (n : Nat) (l : List α), l.length = n → P l := by
    intro n
    induction n with
    | zero => intro l hl; rw [List.eq_nil_of_length_eq_zero hl]; exact h0
    | succ n ih =>
      intro l hl
      have hne : l ≠ [] := by intro e; rw [e] at hl; simp at hl
      rw [← List.dropLast_concat_getLast hne]
      exact h1 _ _ (ih _ (by simp [hl]))
  exact fun l => this _ l rfl
theorem incP_pair : ∀ (l : List Int) (pv : Option Int), incP pv l = true → l.Pairwise (· < ·) ∧ ∀ p, pv = some p → ∀ x ∈ l, p < x := by
  intro l
  induction l with
  | nil => intro pv _; simp
  | cons x r ih =>
    intro pv h
    have hx : incP (some x) r = true ∧ ∀ p, pv = some p → p < x := by
      cases pv with
      | none => simp [incP] at h; exact ⟨h, fun p hp => by cases hp⟩
      | some p =>
        simp [incP] at h
        exact ⟨h.2, fun q hq => by injection hq with hq; omega⟩
    obtain ⟨i1, i2⟩ := ih (some x) hx.1
    refine ⟨List.pairwise_cons.2 ⟨fun y hy => i2 x rfl y hy, i1⟩, fun p hp y hy => ?_⟩
    have h1 := hx.2 p hp
    rcases List.mem_cons.1 hy with rfl | hy
    · exact h1
    · have := i2 x rfl y hy; omega
theorem incB_pair {l : List Int} (h : incB l = true) : l.Pairwise (· < ·) := (incP_pair l none h).1
theorem lastR_facts (day : Int) : ∀ (ds : List Int), ds.Pairwise (· < ·) → (∀ t ∈ ds, 0 ≤ t) → (lastR day ds = -1 ∧ ∀ t ∈ ds, day < t) ∨ (lastR day ds ∈ ds ∧ lastR day ds ≤ day ∧ ∀ t ∈ ds, t ≤ day → t ≤ lastR day ds) := by
  refine snoc_rec ?_ ?_
  · intro _ _; exact .inl ⟨rfl, by simp⟩
  · intro l t ih hp h0
    rw [lastR_snoc]
    obtain ⟨p1, p2, p3⟩ := List.pairwise_append.1 hp
    have hlt : ∀ x ∈ l, x < t := fun x hx => p3 x hx t (by simp)
    have ih := ih p1 (fun x hx => h0 x (by simp [hx]))
    by_cases ht : t ≤ day
    · rw [if_pos ht]
      refine .inr ⟨by simp, ht, fun x hx _ => ?_⟩
      rcases List.mem_append.1 hx with hx | hx
      · have := hlt x hx; omega
      · simp at hx; omega
    · rw [if_neg ht]
      rcases ih with ⟨e, h1⟩ | ⟨h1, h2, h3⟩
      · refine .inl ⟨e, fun x hx => ?_⟩
        rcases List.mem_append.1 hx with hx | hx
        · exact h1 x hx
        · simp at hx; omega
      · refine .inr ⟨by simp [h1], h2, fun x hx hd => ?_⟩
        rcases List.mem_append.1 hx with hx | hx
        · exact h3 x hx hd
        · simp at hx; omega
theorem wearR_facts {a b c d day : Int} {ds : List Int} (h : (wearR a b c d ds day).2 = true) : gearB a b c d = true ∧ 0 ≤ day ∧ day ≤ 30 ∧ -1 ≤ lastR day ds ∧ lastR day ds ≤ day ∧
    (lastR day ds < 0 → (wearR a b c d ds day).1 = a + (day + 1) * b) ∧ (¬ lastR day ds < 0 → (wearR a b c d ds day).1 = (day - lastR day ds + 1) * b) := by
  unfold wearR at h ⊢
  split at h
  · rename_i hc
    rw [if_pos hc]
    obtain ⟨hg, hr, hd⟩ := hc
    obtain ⟨hd0, hd1⟩ := inB_true.1 hd
    rw [riseB_eq] at hr
    simp only [Bool.and_eq_true] at hr
    have hall := allB_true.1 hr.1
    have hl := lastR_facts day ds (incB_pair hr.2) (fun t ht => (hall t ht).1)
    obtain ⟨m, rfl⟩ : ∃ m : Nat, day = (m : Int) := ⟨day.toNat, by omega⟩
    have em : (m : Int).toNat + 1 = m + 1 := by simp
    rw [em]
    refine ⟨hg, hd0, hd1, ?_⟩
    rcases hl with ⟨e, h1⟩ | ⟨h1, h2, h3⟩
    · refine ⟨by omega, by omega, fun _ => ?_, fun hn => absurd hn (by omega)⟩
      simp only
      rw [wearAt_none a b ds (m + 1) (fun t ht hm => by have := h1 _ hm; omega)]
      push_cast
      rfl
    · have h0 := (hall _ h1).1
      obtain ⟨L, hL⟩ : ∃ L : Nat, lastR (m : Int) ds = (L : Int) := ⟨(lastR (m : Int) ds).toNat, by omega⟩
      rw [hL] at h1 h2 h3 ⊢
      refine ⟨by omega, by omega, fun hn => absurd hn (by omega), fun _ => ?_⟩
      simp only
      rw [wearAt_since a b ds L h1 (m + 1) (by omega) (fun t h4 h5 h6 => by have := h3 _ h6 (by omega); omega)]
      congr 1
      omega
  · simp at h
end Go.Proofs.Ytjibdabedagghaa
