/- The greatest of a list and its place; contracts of slices.Max and slices.Index on integers. No conditions. -/
import Derived.Test.YtiofgoppgdgbaaaCom
namespace Go.Proofs.Ytiofgoppgdgbaaa
set_option linter.unusedSimpArgs false
set_option linter.unusedVariables false
open Go.RowKit

/-- The first index whose element has the property, counted from i; -1 if there is none. -/
def idx (p : Int → Bool) : List Int → Int → Int
  | [], _ => -1
  | x :: r, i => if p x then i else idx p r (i + 1)
def maxL : List Int → Int
  | [] => 0
  | x :: r => r.foldl max x
theorem foldl_max_ge (l : List Int) : ∀ a, a ≤ l.foldl max a ∧ ∀ x ∈ l, x ≤ l.foldl max a := by
  induction l with
  | nil => intro a; simp
  | cons y r ih =>
    intro a
    obtain ⟨h1, h2⟩ := ih (max a y)
    refine ⟨by simp only [List.foldl_cons]; omega, fun x hx => ?_⟩
    simp only [List.foldl_cons]
    rcases List.mem_cons.1 hx with rfl | hx
    · omega
    · exact h2 x hx
theorem foldl_max_mem (l : List Int) : ∀ a, l.foldl max a = a ∨ l.foldl max a ∈ l := by
  induction l with
  | nil => intro a; simp
  | cons y r ih =>
    intro a
    simp only [List.foldl_cons, List.mem_cons]
    rcases ih (max a y) with h | h
    · rcases (show max a y = a ∨ max a y = y by omega) with h' | h' <;> rw [h'] at h ⊢ <;> simp [h]
    · simp [h]
theorem maxL_ge {l : List Int} {x : Int} (h : x ∈ l) : x ≤ maxL l := by
  cases l with
  | nil => cases h
  | cons y r =>
    have := foldl_max_ge r y
    rcases List.mem_cons.1 h with rfl | h
    · exact this.1
    · exact this.2 x h
theorem maxL_mem {l : List Int} (h : l ≠ []) : maxL l ∈ l := by
  cases l with
  | nil => exact absurd rfl h
  | cons y r =>
    rcases foldl_max_mem r y with h | h
    · simp [maxL, h]
    · simp [maxL, h]
/-- The first index at which v stands. -/
def idxOf (l : List Int) (v : Int) : Int := idx (fun x => decide (x = v)) l 0
theorem idx_at {p : Int → Bool} {l : List Int} : ∀ {i : Int} {b : Nat} (hb : b < l.length), p l[b] = true → (∀ j (hj : j < b), p (l[j]'(by omega)) = false) → idx p l i = i + (b : Int) := by
  induction l with
  | nil => intro i b hb; simp at hb
  | cons x r ih =>
    intro i b hb h1 h2
    unfold idx
    cases b with
    | zero => simp at h1; simp [h1]
    | succ b =>
      have hx := h2 0 (by omega)
      simp at hx
      simp only [hx]
      have := ih (i := i + 1) (b := b) (by simpa using hb) (by simpa using h1) (fun j hj => by simpa using h2 (j + 1) (by omega))
      rw [if_neg (by simp), this]
      omega
theorem idxOf_first {l : List Int} {b : Nat} {v : Int} (hb : b < l.length) (h1 : l[b] = v) (h2 : ∀ j (hj : j < b), (l[j]'(by omega)) ≠ v) : idxOf l v = (b : Int) := by
  unfold idxOf
  rw [idx_at hb (by simpa using h1) (fun j hj => by simpa using h2 j hj)]
  omega
theorem idxOf_max {l : List Int} {b : Nat} (hb : b < l.length) (h1 : ∀ x ∈ l, x ≤ l[b]) (h2 : ∀ j (hj : j < b), (l[j]'(by omega)) < l[b]) : maxL l = l[b] ∧ idxOf l (maxL l) = (b : Int) := by
  have hne : l ≠ [] := by rintro rfl; simp at hb
  have e : maxL l = l[b] := by
    have := h1 _ (maxL_mem hne)
    have := maxL_ge (List.getElem_mem hb)
    omega
  exact ⟨e, by rw [e]; exact idxOf_first hb rfl (fun j hj => by have := h2 j hj; omega)⟩
theorem slicesMax_any (A : Option Addr) (n c : Nat) (xs : List Int) (w : World) (hn : n ≤ 1000000000) (hn0 : 1 ≤ n) (h : Reads w 1 A n (ints xs)) :
    Calls Try.prog 65 #[.slice A n c] w fun e w' => e = .returned (.int .i64 (maxL xs)) ∧ w = w' := by
  have HX := Lib.hid (show xs.length = n by simpa using h.1)
  obtain ⟨ad, rfl, hc⟩ := h.2 (by omega)
  have h0x : 0 < xs.length := by rw [HX.out]; omega
  have hc0 : w.cell? ad = some (.int .i64 xs[0]) := hc 0 _ (by simp [ints, h0x])
  have hm : (xs.drop 1).foldl max xs[0] = maxL xs := by
    cases xs with
    | nil => simp at h0x
    | cons x0 r => rfl
  have HC := Lib.hid hc
  have HM := Lib.hid hm
  clear hc h hm
  generalize xs[0] = x0 at *
  go_enter Try.func65, Try.ntmps65
  go_wp2
  go_loop [3, 4] (fun s i => ∃ k : Nat, ∃ q : Int, k ≤ n ∧ 1 ≤ k ∧ i = .int .i64 k ∧ s = .int .i64 q ∧ (xs.drop k).foldl max q = maxL xs) (fun _ i => n - (intOf i).toNat)
  case atStart => exact ⟨1, x0, by omega, by omega, rfl, rfl, HM.out⟩
  case round =>
    obtain ⟨k, q, hk, hk1, rfl, rfl, hrel⟩ := hrel
    have HR := Lib.hid hrel; clear hrel
    by_cases hlt : k < n
    · have hxk : k < xs.length := by rw [HX.out]; exact hlt
      have hcell : w.cell? (ad.add k) = some (.int .i64 xs[k]) := HC.out k _ (by simp [ints, hxk])
      have HDR : Hid ((xs.drop k).foldl max q = (xs.drop (k + 1)).foldl max (max q xs[k])) := by rw [drop_cons hxk]; exact Lib.hid rfl
      generalize xs[k] = x at hcell HDR
      rcases (show (q < x ∧ max q x = x) ∨ (¬ q < x ∧ max q x = q) by omega) with ⟨hmx, e⟩ | ⟨hmx, e⟩
      all_goals
        rw [e] at HDR
        clear e
        go_wp2
        go_round
        case rel => exact ⟨k + 1, _, by omega, by omega, by go_num, rfl, by rw [← HR.out, HDR.out]⟩
        case measure => simp [intOf]; omega
    · have HE := Lib.hid (drop_end (xs := xs) (k := k) (by rw [HX.out]; omega))
      go_wp2
      go_ret
      refine ⟨ret_int ?_, rfl⟩
      rw [← HR.out, HE.out]
      rfl
theorem slicesIndex_any (A : Option Addr) (n c : Nat) (xs : List Int) (v : Int) (w : World) (hn : n ≤ 1000000000) (h : Reads w 1 A n (ints xs)) :
    Calls Try.prog 64 #[.slice A n c, .int .i64 v] w fun e w' => e = .returned (.int .i64 (idxOf xs v)) ∧ w = w' := by
  have HX := Lib.hid (show xs.length = n by simpa using h.1)
  go_enter Try.func64, Try.ntmps64
  go_wp2
  go_loop [8] (fun i => ∃ k : Nat, k ≤ n ∧ i = .int .i64 k ∧ idx (fun x => decide (x = v)) (xs.drop k) (k : Int) = idxOf xs v) (fun i => n - (intOf i).toNat)
  case atStart => exact ⟨0, Nat.zero_le _, rfl, rfl⟩
  case round =>
    obtain ⟨k, hk, rfl, hrel⟩ := hrel
    have HR := Lib.hid hrel; clear hrel
    by_cases hlt : k < n
    · obtain ⟨ad, rfl, hc⟩ := h.2 (by omega)
      have hxk : k < xs.length := by rw [HX.out]; exact hlt
      have hcell : w.cell? (ad.add k) = some (.int .i64 xs[k]) := hc k _ (by simp [ints, hxk])
      have HD := Lib.hid (drop_cons hxk)
      clear hc h
      generalize xs[k] = x at hcell HD
      by_cases hpx : x = v
      · subst hpx
        go_wp2
        go_ret
        refine ⟨ret_int ?_, rfl⟩
        rw [← HR.out, HD.out]
        simp [idx]
      · have hpx' : (v == x) = false := by simp; omega
        have HP := Lib.hid hpx
        clear hpx
        go_wp2
        go_round
        case rel =>
          refine ⟨k + 1, by omega, by go_num, ?_⟩
          rw [← HR.out, HD.out]
          simp [idx, HP.out]
        case measure => simp [intOf]; omega
    · have HE := Lib.hid (drop_end (xs := xs) (k := k) (by rw [HX.out]; omega))
      clear h
      go_wp2
      go_ret
      refine ⟨ret_int ?_, rfl⟩
      rw [← HR.out, HE.out]
      rfl
end Go.Proofs.Ytiofgoppgdgbaaa
