/- Delays: what is left of them behind some messages; order, sum, worst and mean. Plain. No conditions. -/
import Derived.Test.YtgdlaeibdpbgdaaTr4
namespace Go.Proofs.Ytgdlaeibdpbgdaa
set_option linter.unusedSimpArgs false
set_option linter.unusedVariables false
open Go.RowKit

theorem nxt_le (cap t : Int) (su : Int × Int) : su.1 ≤ (nxt cap t su).1 ∧ t ≤ (nxt cap t su).1 := by
  unfold nxt reset
  (repeat' split) <;> simp_all <;> omega
/-- Ahead of hour t, many messages sent, the last one's end not behind it. -/
def Outer (cap : Int) (xs : List Int) (t many : Nat) (last : Int) : Prop :=
  ∃ su : Int × Int, (delays cap xs).drop many = dl cap (t : Int) su (xs.drop t) ∧ last ≤ su.1 ∧ many ≤ (delays cap xs).length
/-- Within hour t, m of its messages left. -/
def Inner (cap : Int) (xs : List Int) (t m many : Nat) (last : Int) : Prop :=
  ∃ su : Int × Int, (delays cap xs).drop many = run cap (t : Int) m su ++ dl cap ((t : Int) + 1) (fin cap (t : Int) m su) (xs.drop (t + 1)) ∧ last ≤ su.1 ∧ many ≤ (delays cap xs).length
theorem Outer.start (cap : Int) (xs : List Int) : Outer cap xs 0 0 0 := ⟨(0, 0), by simp [delays], Int.le_refl _, Nat.zero_le _⟩
theorem Outer.inner {cap : Int} {xs : List Int} {t many : Nat} {last : Int} (h : Outer cap xs t many last) (ht : t < xs.length) : Inner cap xs t xs[t].toNat many last := by
  obtain ⟨su, h1, h2, h3⟩ := h
  refine ⟨su, ?_, h2, h3⟩
  rw [h1, List.drop_eq_getElem_cons ht]
  rfl
theorem Inner.outer {cap : Int} {xs : List Int} {t many : Nat} {last : Int} (h : Inner cap xs t 0 many last) : Outer cap xs (t + 1) many last := by
  obtain ⟨su, h1, h2, h3⟩ := h
  exact ⟨su, by rw [h1]; simp [run, fin], h2, h3⟩
theorem Inner.step {cap : Int} {xs : List Int} {t m many : Nat} {last : Int} (h : Inner cap xs t (m + 1) many last) :
    ∃ hm : many < (delays cap xs).length, last ≤ (t : Int) + (delays cap xs)[many] ∧ Inner cap xs t m (many + 1) ((t : Int) + (delays cap xs)[many]) ∧ Inner cap xs t m (many + 1) last := by
  obtain ⟨su, h1, h2, h3⟩ := h
  simp only [run, fin, List.cons_append] at h1
  have hm : many < (delays cap xs).length := by
    rcases Nat.lt_or_ge many (delays cap xs).length with h | h
    · exact h
    · rw [List.drop_eq_nil_of_le h] at h1; cases h1
  rw [List.drop_eq_getElem_cons hm] at h1
  injection h1 with h4 h5
  have hl := nxt_le cap t su
  refine ⟨hm, by rw [h4]; omega, ⟨nxt cap t su, h5, by rw [h4]; omega, by omega⟩, ⟨nxt cap t su, h5, by omega, by omega⟩⟩
theorem Outer.all {cap : Int} {xs : List Int} {t many : Nat} {last : Int} (h : Outer cap xs t many last) (ht : xs.length ≤ t) : many = (delays cap xs).length := by
  obtain ⟨su, h1, _, h3⟩ := h
  rw [List.drop_eq_nil_of_le ht] at h1
  simp only [dl] at h1
  have := List.drop_eq_nil_iff.1 h1
  omega
/-- What has been summed up: the first 200 at most. -/
def headD (cap : Int) (xs : List Int) (many : Nat) : List Int := (delays cap xs).take (min many 200)
theorem headD_zero (cap : Int) (xs : List Int) : headD cap xs 0 = [] := by simp [headD]
theorem headD_step {cap : Int} {xs : List Int} {many : Nat} (hm : many < (delays cap xs).length) (h2 : many < 200) : headD cap xs (many + 1) = headD cap xs many ++ [(delays cap xs)[many]] := by
  unfold headD
  rw [Nat.min_eq_left (by omega), Nat.min_eq_left (by omega), List.take_succ_eq_append_getElem hm]
theorem headD_late {cap : Int} {xs : List Int} {many : Nat} (h2 : 200 ≤ many) : headD cap xs (many + 1) = headD cap xs many := by
  unfold headD
  rw [Nat.min_eq_right (by omega), Nat.min_eq_right (by omega)]
theorem headD_all {cap : Int} {xs : List Int} (h2 : (delays cap xs).length ≤ 200) : headD cap xs (delays cap xs).length = delays cap xs := by
  unfold headD
  rw [Nat.min_eq_left h2]
  simp
theorem sumL_snoc (l : List Int) (x : Int) : sumL (l ++ [x]) = sumL l + x := by
  induction l with
  | nil => simp [sumL]
  | cons a r ih => simp only [List.cons_append, sumL, ih]; omega
theorem worst_snoc (l : List Int) (x : Int) : worst (l ++ [x]) = max (worst l) x := by simp [worst]
theorem le_foldl_max (l : List Int) : ∀ a, a ≤ l.foldl max a ∧ ∀ y ∈ l, y ≤ l.foldl max a := by
  induction l with
  | nil => intro a; simp
  | cons x r ih =>
    intro a
    have h := ih (max a x)
    refine ⟨by simp only [List.foldl_cons]; omega, fun y hy => ?_⟩
    simp only [List.foldl_cons]
    rcases List.mem_cons.1 hy with rfl | hy
    · omega
    · exact h.2 y hy
theorem le_worst {l : List Int} {y : Int} (h : y ∈ l) : y ≤ worst l := (le_foldl_max l 0).2 y h
theorem worst_nonneg (l : List Int) : 0 ≤ worst l := (le_foldl_max l 0).1
theorem worst_le {l : List Int} {b : Int} (hb : 0 ≤ b) (h : ∀ y ∈ l, y ≤ b) : worst l ≤ b := by
  have : ∀ (l : List Int) a, a ≤ b → (∀ y ∈ l, y ≤ b) → l.foldl max a ≤ b := by
    intro l
    induction l with
    | nil => intro a ha _; exact ha
    | cons x r ih =>
      intro a ha h
      have hx := h x (by simp)
      exact ih (max a x) (by omega) (fun y hy => h y (by simp [hy]))
  exact this l 0 hb h
theorem headD_worst (cap : Int) (xs : List Int) (many : Nat) : worst (headD cap xs many) ≤ worst (delays cap xs) := worst_le (worst_nonneg _) (fun y hy => le_worst (List.mem_of_mem_take hy))
theorem delayR_facts {xs : List Int} {cap n : Int} (h : (delayR xs cap n).2 = true) : (worstR xs cap) = (worst (delays cap xs), true) ∧ 0 ≤ (delayR xs cap n).1 ∧ (delayR xs cap n).1 ≤ worst (delays cap xs) := by
  unfold delayR at h ⊢
  by_cases hc : trafB xs cap = true ∧ inB n 0 (sumL xs - 1) = true
  · rw [if_pos hc]
    obtain ⟨⟨hn60, hx⟩, hc1, hc2⟩ := trafB_true.1 hc.1
    obtain ⟨hn0, hn1⟩ := inB_true.1 hc.2
    have hl := length_delays cap xs (fun x hx' => (hx x hx').1)
    have hlt : n.toNat < (delays cap xs).length := by omega
    have e : (delays cap xs).getD n.toNat 0 = (delays cap xs)[n.toNat] := by rw [List.getD_eq_getElem?_getD, List.getElem?_eq_getElem hlt]; rfl
    have hb := delays_bd cap hc1 xs hx hn60 _ (List.getElem_mem hlt)
    refine ⟨by unfold worstR; rw [if_pos hc.1], ?_, ?_⟩
    · simp only [e]; exact hb.1
    · simp only [e]; exact le_worst (List.getElem_mem hlt)
  · rw [if_neg hc] at h; simp at h
theorem delayR_at {xs : List Int} {cap : Int} {many : Nat} (ht : trafB xs cap = true) (hm : many < (delays cap xs).length) : delayR xs cap (many : Int) = ((delays cap xs)[many], true) := by
  obtain ⟨⟨hn60, hx⟩, hc1, hc2⟩ := trafB_true.1 ht
  have hl := length_delays cap xs (fun x hx' => (hx x hx').1)
  unfold delayR
  rw [if_pos ⟨ht, inB_true.2 ⟨by omega, by omega⟩⟩]
  simp [List.getD_eq_getElem?_getD, List.getElem?_eq_getElem hm]
theorem meanR_ok {xs : List Int} {cap : Int} (h : (meanR xs cap).2.2 = true) : trafB xs cap = true ∧ sumL xs ≠ 0 := by
  unfold meanR at h
  split at h
  · assumption
  · simp at h
theorem meanR_no {xs : List Int} {cap : Int} (h : ¬ trafB xs cap = true) : meanR xs cap = (0, 0, false) := by
  unfold meanR
  rw [if_neg (fun h' => h h'.1)]
/-- The mean of all of them. -/
theorem meanR_facts {xs : List Int} {cap : Int} (ht : trafB xs cap = true) (hs : sumL xs ≠ 0) : 0 ≤ (meanR xs cap).1 ∧ (meanR xs cap).1 ≤ 200000000 ∧ 1 ≤ (meanR xs cap).2.1 ∧ (meanR xs cap).2.1 ≤ 12000 ∧ (meanR xs cap).1 * sumL xs = sumL (delays cap xs) * (meanR xs cap).2.1 := by
  obtain ⟨⟨hn60, hx⟩, hc1, hc2⟩ := trafB_true.1 ht
  have hl := length_delays cap xs (fun x hx' => (hx x hx').1)
  have hsb := sumL_bd xs 0 200 hx
  have hdb := delays_bd cap hc1 xs hx hn60
  have hsd := sumL_bd (delays cap xs) 0 12060 hdb
  have hlen : (delays cap xs).length ≤ 12000 := by omega
  unfold meanR
  rw [if_pos ⟨ht, hs⟩]
  obtain ⟨S, hS⟩ : ∃ S : Nat, sumL (delays cap xs) = (S : Int) := ⟨(sumL (delays cap xs)).toNat, by omega⟩
  obtain ⟨N, hN⟩ : ∃ N : Nat, sumL xs = (N : Int) := ⟨(sumL xs).toNat, by omega⟩
  rw [hS] at hsd ⊢
  rw [hN] at hsb hl hs ⊢
  simp only [Int.toNat_natCast]
  have hN0 : 0 < N := by omega
  have hg := Nat.gcd_pos_of_pos_right S hN0
  obtain ⟨s', hs'⟩ := Nat.gcd_dvd_left S N
  obtain ⟨n', hn'⟩ := Nat.gcd_dvd_right S N
  have hSb : S ≤ 200000000 := by omega
  have hNb : N ≤ 12000 := by omega
  generalize Nat.gcd S N = q at *
  have e1 : (S : Int) / (q : Int) = (s' : Int) := by
    have : S / q = s' := by rw [hs']; exact Nat.mul_div_cancel_left _ hg
    rw [← this]; simp
  have e2 : (N : Int) / (q : Int) = (n' : Int) := by
    have : N / q = n' := by rw [hn']; exact Nat.mul_div_cancel_left _ hg
    rw [← this]; simp
  rw [e1, e2]
  have b1 : s' ≤ S := by rw [hs']; exact Nat.le_mul_of_pos_left _ hg
  have b2 : n' ≤ N := by rw [hn']; exact Nat.le_mul_of_pos_left _ hg
  have b3 : 1 ≤ n' := by
    rcases Nat.eq_zero_or_pos n' with h | h
    · rw [h] at hn'; omega
    · exact h
  refine ⟨by omega, by omega, by omega, by omega, ?_⟩
  rw [hs', hn']
  push_cast
  rw [Int.mul_comm (q : Int) (n' : Int), ← Int.mul_assoc, Int.mul_comm ((s' : Int) * (n' : Int)) (q : Int), ← Int.mul_assoc]
end Go.Proofs.Ytgdlaeibdpbgdaa
