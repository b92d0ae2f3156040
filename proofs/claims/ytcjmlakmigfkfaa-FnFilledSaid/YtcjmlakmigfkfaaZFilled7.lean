/- Lemmas and contracts of this claim, several texts in one: The library's stable sort at 60 elements or fewer: plain arrays, no program. The library's stable sort at 60 elements or fewer: the whole of it, plain. Two logs joined: the stable sort of both is their merge. Plain. No conditions. -/
import Derived.Sort.LotA
import Derived.Shelf.SlSortCmp.Insertion
import Derived.Test.YtcjmlakmigfkfaaZFilled6
namespace Go.Proofs.Ytcjmlakmigfkfaa
set_option linter.unusedSimpArgs false
set_option linter.unusedVariables false
open Go.Sort
section
variable {α : Type} [Inhabited α]

def swapRangeP (a b : Nat) : Nat → Array α → Array α
  | 0, d => d
  | n + 1, d => swp (swapRangeP a b n d) (a + n) (b + n)
def rotP (m : Nat) : Nat → Nat → Nat → Array α → Array α
  | 0, _, _, d => d
  | f + 1, i, j, d => if i = j then swapRangeP (m - i) m i d else if j < i then rotP m f (i - j) j (swapRangeP (m - i) m j d) else rotP m f i (j - i) (swapRangeP (m - i) (m + j - i) i d)
def find1 (p : Nat → Bool) : Nat → Nat → Nat → Nat
  | 0, i, _ => i
  | f + 1, i, j => if i < j then (if p ((i + j) / 2) = true then find1 p f ((i + j) / 2 + 1) j else find1 p f i ((i + j) / 2)) else i
def shUpP (a : Nat) : Nat → Array α → Array α
  | 0, d => d
  | n + 1, d => swp (shUpP a n d) (a + n) (a + n + 1)
def shDnP (m : Nat) : Nat → Array α → Array α
  | 0, d => d
  | n + 1, d => swp (shDnP m n d) (m - n) (m - n - 1)
/-- How far the two runs give way to one another. -/
def symS (lt : α → α → Bool) (a m b : Nat) (d : Array α) : Nat :=
  find1 (fun c => !lt d[(a + b) / 2 + m - 1 - c]! d[c]!) ((if (a + b) / 2 < m then (a + b) / 2 else m) - (if (a + b) / 2 < m then (a + b) / 2 + m - b else a)) (if (a + b) / 2 < m then (a + b) / 2 + m - b else a) (if (a + b) / 2 < m then (a + b) / 2 else m)
def rotIf (s m e : Nat) (d : Array α) : Array α := if s < m ∧ m < e then rotP m (e - s) (m - s) (e - m) d else d
def symP (lt : α → α → Bool) : Nat → Nat → Nat → Nat → Array α → Array α
  | 0, _, _, _, d => d
  | f + 1, a, m, b, d =>
    if m - a = 1 then shUpP a (find1 (fun h => lt d[h]! d[a]!) (b - m) m b - 1 - a) d
    else if b - m = 1 then shDnP m (m - find1 (fun h => !lt d[m]! d[h]!) (m - a) a m) d
    else
      let s := symS lt a m b d
      let e := (a + b) / 2 + m - s
      let d1 := rotIf s m e d
      let d2 := if a < s ∧ s < (a + b) / 2 then symP lt f a s ((a + b) / 2) d1 else d1
      if (a + b) / 2 < e ∧ e < b then symP lt f ((a + b) / 2) e b d2 else d2

theorem find1_spec (p : Nat → Bool) : ∀ (f i j : Nat), j - i ≤ f → i ≤ j → i ≤ find1 p f i j ∧ find1 p f i j ≤ j ∧ (find1 p f i j = i ∨ p (find1 p f i j - 1) = true) ∧ (find1 p f i j = j ∨ p (find1 p f i j) = false) := by
  intro f
  induction f with
  | zero =>
    intro i j h1 h2
    obtain rfl : i = j := by omega
    exact ⟨Nat.le_refl _, Nat.le_refl _, .inl rfl, .inl rfl⟩
  | succ f ih =>
    intro i j h1 h2
    unfold find1
    by_cases hij : i < j
    · rw [if_pos hij]
      cases hp : p ((i + j) / 2) with
      | true =>
        rw [if_pos rfl]
        obtain ⟨q1, q2, q3, q4⟩ := ih ((i + j) / 2 + 1) j (by omega) (by omega)
        refine ⟨by omega, q2, .inr ?_, q4⟩
        rcases q3 with q3 | q3
        · rw [q3]; simpa using hp
        · exact q3
      | false =>
        rw [if_neg (by simp)]
        obtain ⟨q1, q2, q3, q4⟩ := ih i ((i + j) / 2) (by omega) (by omega)
        refine ⟨q1, by omega, q3, .inr ?_⟩
        rcases q4 with q4 | q4
        · rw [q4]; exact hp
        · exact q4
    · rw [if_neg hij]
      exact ⟨Nat.le_refl _, by omega, .inl rfl, .inl (by omega)⟩

@[simp] theorem size_swapRangeP (a b : Nat) : ∀ (n : Nat) (d : Array α), (swapRangeP a b n d).size = d.size := by
  intro n
  induction n with
  | zero => intro d; rfl
  | succ n ih => intro d; simp [swapRangeP, swp_size, ih]
theorem swapRangeP_get (a b : Nat) (d : Array α) : ∀ (n : Nat), a + n ≤ b → b + n ≤ d.size → ∀ x, (swapRangeP a b n d)[x]! = if a ≤ x ∧ x < a + n then d[x - a + b]! else if b ≤ x ∧ x < b + n then d[x - b + a]! else d[x]! := by
  intro n
  induction n with
  | zero =>
    intro _ _ x
    rw [if_neg (by omega), if_neg (by omega)]
    rfl
  | succ n ih =>
    intro h1 h2 x
    have ih := ih (by omega) (by omega)
    show (swp (swapRangeP a b n d) (a + n) (b + n))[x]! = _
    rw [swp_get _ (by simp; omega) (by simp; omega)]
    by_cases c1 : x = b + n
    · subst c1
      rw [if_pos rfl, ih (a + n), if_neg (by omega), if_neg (by omega), if_neg (by omega), if_pos (by omega)]
      congr 1
      omega
    · rw [if_neg c1]
      by_cases c2 : x = a + n
      · subst c2
        rw [if_pos rfl, ih (b + n), if_neg (by omega), if_neg (by omega), if_pos (by omega)]
        congr 1
        omega
      · rw [if_neg c2, ih x]
        by_cases c3 : a ≤ x ∧ x < a + n
        · rw [if_pos c3, if_pos (by omega)]
        · by_cases c4 : b ≤ x ∧ x < b + n
          · rw [if_neg c3, if_pos c4, if_neg (by omega), if_pos (by omega)]
          · rw [if_neg c3, if_neg c4, if_neg (by omega), if_neg (by omega)]
theorem swapRangeP_perm (a b lo hi : Nat) (d : Array α) : ∀ (n : Nat), lo ≤ a → a + n ≤ hi → lo ≤ b → b + n ≤ hi → hi ≤ d.size → PermIn lo hi d (swapRangeP a b n d) := by
  intro n
  induction n with
  | zero => intro _ _ _ _ _; exact permIn_refl _ _ _
  | succ n ih =>
    intro h1 h2 h3 h4 h5
    have := ih h1 (by omega) h3 (by omega) h5
    exact permIn_trans _ _ _ _ _ this (swp_permIn _ _ _ _ _ (by omega) (by omega) (by omega) (by omega) (by simp; omega))
/-- d' is d with the runs [a, m) and [m, b) changed for one another. -/
structure RotIn (a m b : Nat) (d d' : Array α) : Prop where
  size : d'.size = d.size
  out : ∀ k, k < a ∨ b ≤ k → d'[k]! = d[k]!
  fst : ∀ k, a ≤ k → k < a + (b - m) → d'[k]! = d[k + (m - a)]!
  snd : ∀ k, a + (b - m) ≤ k → k < b → d'[k]! = d[k - (b - m)]!
  perm : PermIn a b d d'
theorem rotP_rot (m : Nat) : ∀ (f i j : Nat) (d : Array α), i + j ≤ f → 0 < i → 0 < j → i ≤ m → m + j ≤ d.size → RotIn (m - i) m (m + j) d (rotP m f i j d) := by
  intro f
  induction f with
  | zero => intro i j d h1 h2; omega
  | succ f ih =>
    intro i j d h1 h2 h3 h4 h5
    unfold rotP
    by_cases hij : i = j
    · subst hij
      rw [if_pos rfl]
      have g := swapRangeP_get (m - i) m d i (by omega) h5
      refine ⟨by simp, fun k hk => ?_, fun k hk1 hk2 => ?_, fun k hk1 hk2 => ?_, swapRangeP_perm _ _ _ _ _ _ (by omega) (by omega) (by omega) (by omega) h5⟩
      · rw [g, if_neg (by omega), if_neg (by omega)]
      · rw [g, if_pos (by omega)]; congr 1; omega
      · rw [g, if_neg (by omega), if_pos (by omega)]; congr 1; omega
    · rw [if_neg hij]
      by_cases hji : j < i
      · rw [if_pos hji]
        have g := swapRangeP_get (m - i) m d j (by omega) h5
        have q := ih (i - j) j (swapRangeP (m - i) m j d) (by omega) (by omega) h3 (by omega) (by simp; omega)
        have hp := swapRangeP_perm (m - i) m (m - i) (m + j) d j (by omega) (by omega) (by omega) (by omega) h5
        refine ⟨by rw [q.size]; simp, fun k hk => ?_, fun k hk1 hk2 => ?_, fun k hk1 hk2 => ?_, permIn_trans _ _ _ _ _ hp (permIn_mono _ _ _ _ _ _ (by omega) (Nat.le_refl _) (by simp; omega) q.perm)⟩
        · rw [q.out k (by omega), g, if_neg (by omega), if_neg (by omega)]
        · rw [q.out k (by omega), g, if_pos (by omega)]; congr 1; omega
        · by_cases hk3 : k < m - (i - j) + (m + j - m)
          · rw [q.fst k (by omega) hk3, g, if_neg (by omega), if_pos (by omega)]; congr 1; omega
          · rw [q.snd k (by omega) (by omega), g, if_neg (by omega), if_neg (by omega)]
      · rw [if_neg hji]
        have g := swapRangeP_get (m - i) (m + j - i) d i (by omega) (by omega)
        have q := ih i (j - i) (swapRangeP (m - i) (m + j - i) i d) (by omega) h2 (by omega) h4 (by simp; omega)
        have hp := swapRangeP_perm (m - i) (m + j - i) (m - i) (m + j) d i (by omega) (by omega) (by omega) (by omega) h5
        refine ⟨by rw [q.size]; simp, fun k hk => ?_, fun k hk1 hk2 => ?_, fun k hk1 hk2 => ?_, permIn_trans _ _ _ _ _ hp (permIn_mono _ _ _ _ _ _ (by omega) (by omega) (by simp; omega) q.perm)⟩
        · rw [q.out k (by omega), g, if_neg (by omega), if_neg (by omega)]
        · by_cases hk3 : k < m - i + (m + (j - i) - m)
          · rw [q.fst k hk1 hk3, g, if_neg (by omega)]
            by_cases hk4 : m + j - i ≤ k + (m - (m - i))
            · omega
            · rw [if_neg (by omega)]
          · by_cases hk5 : k < m + (j - i)
            · rw [q.snd k (by omega) hk5, g, if_pos (by omega)]; congr 1; omega
            · omega
        · rw [q.out k (by omega), g, if_neg (by omega), if_pos (by omega)]; congr 1; omega
@[simp] theorem size_shUpP (a : Nat) : ∀ (n : Nat) (d : Array α), (shUpP a n d).size = d.size := by
  intro n
  induction n with
  | zero => intro d; rfl
  | succ n ih => intro d; simp [shUpP, swp_size, ih]
theorem shUpP_rot (a : Nat) (d : Array α) : ∀ n, a + n < d.size → RotIn a (a + 1) (a + n + 1) d (shUpP a n d) := by
  intro n
  induction n with
  | zero => intro _; exact ⟨rfl, fun _ _ => rfl, fun k h1 h2 => by omega, fun k h1 h2 => by show d[k]! = _; congr 1; omega, permIn_refl _ _ _⟩
  | succ n ih =>
    intro h
    have q := ih (by omega)
    have g := swp_get (shUpP a n d) (i := a + n) (j := a + n + 1) (by simp; omega) (by simp; omega)
    refine ⟨by simp, fun k hk => ?_, fun k hk1 hk2 => ?_, fun k hk1 hk2 => ?_, permIn_trans _ _ _ _ _ (permIn_mono _ _ _ _ _ _ (Nat.le_refl _) (by omega) (by omega) q.perm) (swp_permIn _ _ _ _ _ (by omega) (by omega) (by omega) (by omega) (by simp; omega))⟩
    · show (swp _ _ _)[k]! = _
      rw [g, if_neg (by omega), if_neg (by omega), q.out k (by omega)]
    · show (swp _ _ _)[k]! = _
      rw [g, if_neg (by omega)]
      by_cases e : k = a + n
      · rw [if_pos e, q.out _ (by omega)]; congr 1; omega
      · rw [if_neg e, q.fst k hk1 (by omega)]
    · show (swp _ _ _)[k]! = _
      rw [g, if_pos (by omega), q.snd (a + n) (by omega) (by omega)]; congr 1; omega
@[simp] theorem size_shDnP (m : Nat) : ∀ (n : Nat) (d : Array α), (shDnP m n d).size = d.size := by
  intro n
  induction n with
  | zero => intro d; rfl
  | succ n ih => intro d; simp [shDnP, swp_size, ih]
theorem shDnP_rot (m : Nat) (d : Array α) (hm : m < d.size) : ∀ n, n ≤ m → RotIn (m - n) m (m + 1) d (shDnP m n d) := by
  intro n
  induction n with
  | zero => intro _; exact ⟨rfl, fun _ _ => rfl, fun k h1 h2 => by show d[k]! = _; congr 1; omega, fun k h1 h2 => by omega, permIn_refl _ _ _⟩
  | succ n ih =>
    intro h
    have q := ih (by omega)
    have g := swp_get (shDnP m n d) (i := m - n) (j := m - n - 1) (by simp; omega) (by simp; omega)
    refine ⟨by simp, fun k hk => ?_, fun k hk1 hk2 => ?_, fun k hk1 hk2 => ?_, permIn_trans _ _ _ _ _ (permIn_mono _ _ _ _ _ _ (by omega) (Nat.le_refl _) (by omega) q.perm) (swp_permIn _ _ _ _ _ (by omega) (by omega) (by omega) (by omega) (by simp; omega))⟩
    · show (swp _ _ _)[k]! = _
      rw [g, if_neg (by omega), if_neg (by omega), q.out k (by omega)]
    · show (swp _ _ _)[k]! = _
      rw [g, if_pos (by omega), q.fst (m - n) (by omega) (by omega)]; congr 1; omega
    · show (swp _ _ _)[k]! = _
      rw [g, if_neg (by omega)]
      by_cases e : k = m - n
      · rw [if_pos e, q.out _ (by omega)]; congr 1; omega
      · rw [if_neg e, q.snd k (by omega) hk2]
variable {lt lx : α → α → Bool}
/-- What the sort asks is what the sharper order says: of a later run's element and an earlier one's. -/
def Asks (lt lx : α → α → Bool) (a m b : Nat) (d : Array α) : Prop := ∀ i j, a ≤ i → i < m → m ≤ j → j < b → lt d[j]! d[i]! = lx d[j]! d[i]!
/-- Two runs laid in order behind an exchange of their inner parts. -/
theorem rot_sorted (hS : SWO lx) {a s m e b : Nat} {d d' : Array α} (h : RotIn s m e d d') (h1 : a ≤ s) (h2 : s ≤ m) (h3 : m ≤ e) (h4 : e ≤ b) (sL : SortedIn lx a m d) (sR : SortedIn lx m b d)
    (c1 : a < s → e < b → lx d[e]! d[s - 1]! = false) (c2 : s < m → m < e → lx d[s]! d[e - 1]! = false) :
    (∀ x y, a ≤ x → x < s + (e - m) → s + (e - m) ≤ y → y < b → lx d'[y]! d'[x]! = false) ∧ SortedIn lx a s d' ∧ SortedIn lx s (s + (e - m)) d' ∧ SortedIn lx (s + (e - m)) e d' ∧ SortedIn lx e b d' := by
  have rf : ∀ x, lx x x = false := hS.irrefl
  have le : ∀ {x y : Nat}, (a ≤ x ∧ x ≤ y ∧ y < m) ∨ (m ≤ x ∧ x ≤ y ∧ y < b) → lx d[y]! d[x]! = false := fun {x y} hh => by
    by_cases exy : x = y
    · subst exy; exact rf _
    · rcases hh with hh | hh
      · exact sL x y hh.1 (by omega) hh.2.2
      · exact sR x y hh.1 (by omega) hh.2.2
  -- an element of the first part, of the second one
  have lft : ∀ x, a ≤ x → x < s + (e - m) → ∃ k, d'[x]! = d[k]! ∧ ((a ≤ k ∧ k < s) ∨ (m ≤ k ∧ k < e)) := fun x hx1 hx2 => by
    by_cases hx : x < s
    · exact ⟨x, h.out x (.inl hx), .inl ⟨hx1, hx⟩⟩
    · exact ⟨x + (m - s), h.fst x (by omega) hx2, .inr (by omega)⟩
  have rgt : ∀ y, s + (e - m) ≤ y → y < b → ∃ k, d'[y]! = d[k]! ∧ ((s ≤ k ∧ k < m) ∨ (e ≤ k ∧ k < b)) := fun y hy1 hy2 => by
    by_cases hy : y < e
    · exact ⟨y - (e - m), h.snd y hy1 hy, .inl (by omega)⟩
    · exact ⟨y, h.out y (.inr (by omega)), .inr (by omega)⟩
  refine ⟨fun x y hx1 hx2 hy1 hy2 => ?_, fun x y hx hxy hy => ?_, fun x y hx hxy hy => ?_, fun x y hx hxy hy => ?_, fun x y hx hxy hy => ?_⟩
  · obtain ⟨k, ek, hk⟩ := lft x hx1 hx2
    obtain ⟨l, el, hl⟩ := rgt y hy1 hy2
    rw [ek, el]
    rcases hk with hk | hk <;> rcases hl with hl | hl
    · exact le (.inl (by omega))
    · -- d[k] ≤ d[s-1] ≤ d[e] ≤ d[l]
      exact hS.ntrans _ _ _ (le (.inr (show m ≤ e ∧ e ≤ l ∧ l < b by omega))) (hS.ntrans _ _ _ (c1 (by omega) (by omega)) (le (.inl (show a ≤ k ∧ k ≤ s - 1 ∧ s - 1 < m by omega))))
    · exact hS.ntrans _ _ _ (le (.inl (show a ≤ s ∧ s ≤ l ∧ l < m by omega))) (hS.ntrans _ _ _ (c2 (by omega) (by omega)) (le (.inr (show m ≤ k ∧ k ≤ e - 1 ∧ e - 1 < b by omega))))
    · exact le (.inr (by omega))
  · rw [h.out x (.inl (by omega)), h.out y (.inl (by omega))]; exact sL x y hx hxy (by omega)
  · rw [h.fst x hx (by omega), h.fst y (by omega) (by omega)]; exact sR _ _ (by omega) (by omega) (by omega)
  · rw [h.snd x hx (by omega), h.snd y (by omega) (by omega)]; exact sL _ _ (by omega) (by omega) (by omega)
  · rw [h.out x (.inr (by omega)), h.out y (.inr (by omega))]; exact sR x y (by omega) hxy hy
/-- Two sorted parts, all of the first no greater than all of the second. -/
theorem sorted_join {a c b : Nat} {d : Array α} (h1 : SortedIn lx a c d) (h2 : SortedIn lx c b d) (h : ∀ x y, a ≤ x → x < c → c ≤ y → y < b → lx d[y]! d[x]! = false) : SortedIn lx a b d := fun x y hx hxy hy => by
  by_cases c1 : y < c
  · exact h1 x y hx hxy c1
  · by_cases c2 : c ≤ x
    · exact h2 x y c2 hxy hy
    · exact h x y hx (by omega) (by omega) hy
/-- A relation of all of one part to all of the other goes through permutations of the parts. -/
theorem cross_perm {R : α → α → Prop} {a c b a' b' : Nat} {d d' : Array α} (hb : b ≤ d.size) (hp : PermIn a' b' d d') (hin : (a ≤ a' ∧ b' ≤ c) ∨ (c ≤ a' ∧ b' ≤ b)) (hcb : c ≤ b)
    (h : ∀ x y, a ≤ x → x < c → c ≤ y → y < b → R d[y]! d[x]!) : ∀ x y, a ≤ x → x < c → c ≤ y → y < b → R d'[y]! d'[x]! := by
  intro x y hx1 hx2 hy1 hy2
  have hp' : (a ≤ a' ∧ b' ≤ c → PermIn a c d d') ∧ (c ≤ a' ∧ b' ≤ b → PermIn c b d d') := ⟨fun hh => permIn_mono _ _ _ _ _ _ hh.1 hh.2 (by omega) hp, fun hh => permIn_mono _ _ _ _ _ _ hh.1 hh.2 hb hp⟩
  rcases hin with hin | hin
  · rw [hp.2.1 y (by omega)]
    exact permIn_all d d' a c (fun z => R d[y]! z) (by omega) (hp'.1 hin) (fun i h1 h2 => h i y h1 h2 hy1 hy2) x hx1 hx2
  · rw [hp.2.1 x (by omega)]
    exact permIn_all d d' c b (fun z => R z d[x]!) hb (hp'.2 hin) (fun i h1 h2 => h x i hx1 hx2 h1 h2) y hy1 hy2
theorem sorted_out {a b a' b' : Nat} {d d' : Array α} (h : SortedIn lx a b d) (hp : PermIn a' b' d d') (ho : b ≤ a' ∨ b' ≤ a) : SortedIn lx a b d' := fun x y hx hxy hy => by
  rw [hp.2.1 x (by omega), hp.2.1 y (by omega)]; exact h x y hx hxy hy
theorem rot_full (hS : SWO lx) {a s m e b : Nat} {d d' : Array α} (h : RotIn s m e d d') (h1 : a ≤ s) (h2 : s ≤ m) (h3 : m ≤ e) (h4 : e ≤ b) (sL : SortedIn lx a m d) (sR : SortedIn lx m b d)
    (c1 : a < s → e < b → lx d[e]! d[s - 1]! = false) (c2 : s < m → m < e → lx d[s]! d[e - 1]! = false) (c3 : a < s → m < e → lx d[m]! d[s - 1]! = false) (c4 : s < m → e < b → lx d[e]! d[m - 1]! = false) : SortedIn lx a b d' := by
  have rf : ∀ x, lx x x = false := hS.irrefl
  have leL : ∀ {x y : Nat}, a ≤ x → x ≤ y → y < m → lx d[y]! d[x]! = false := fun {x y} ha hxy hb => by
    by_cases exy : x = y
    · subst exy; exact rf _
    · exact sL x y ha (by omega) hb
  have leR : ∀ {x y : Nat}, m ≤ x → x ≤ y → y < b → lx d[y]! d[x]! = false := fun {x y} ha hxy hb => by
    by_cases exy : x = y
    · subst exy; exact rf _
    · exact sR x y ha (by omega) hb
  obtain ⟨q1, q2, q3, q4, q5⟩ := rot_sorted hS h h1 h2 h3 h4 sL sR c1 c2
  refine sorted_join (c := s + (e - m)) (sorted_join q2 q3 fun x y hx1 hx2 hy1 hy2 => ?_) (sorted_join q4 q5 fun x y hx1 hx2 hy1 hy2 => ?_) q1
  · rw [h.out x (.inl hx2), h.fst y hy1 hy2]
    exact hS.ntrans _ _ _ (leR (x := m) (by omega) (by omega) (by omega)) (hS.ntrans _ _ _ (c3 (by omega) (by omega)) (leL hx1 (show x ≤ s - 1 by omega) (by omega)))
  · rw [h.snd x hx1 hx2, h.out y (.inr hy1)]
    exact hS.ntrans _ _ _ (leR (x := e) (by omega) hy1 hy2) (hS.ntrans _ _ _ (c4 (by omega) (by omega)) (leL (show a ≤ x - (e - m) by omega) (show x - (e - m) ≤ m - 1 by omega) (by omega)))
theorem rotIf_rot {s m e : Nat} {d : Array α} (h2 : s ≤ m) (h3 : m ≤ e) (h4 : e ≤ d.size) : RotIn s m e d (rotIf s m e d) := by
  unfold rotIf
  by_cases h : s < m ∧ m < e
  · rw [if_pos h]
    have q := rotP_rot m (e - s) (m - s) (e - m) d (by omega) (by omega) (by omega) (by omega) (by omega)
    rwa [show m - (m - s) = s by omega, show m + (e - m) = e by omega] at q
  · rw [if_neg h]
    refine ⟨rfl, fun _ _ => rfl, fun k hk1 hk2 => ?_, fun k hk1 hk2 => ?_, permIn_refl _ _ _⟩
    · congr 1; omega
    · congr 1; omega
theorem symS_spec (lt : α → α → Bool) {a m b : Nat} (d : Array α) (h1 : a < m) (h2 : m < b) : a ≤ symS lt a m b d ∧ symS lt a m b d ≤ m ∧ symS lt a m b d ≤ (a + b) / 2 ∧ (a + b) / 2 + m - symS lt a m b d ≤ b ∧
    (a < symS lt a m b d → (a + b) / 2 + m - symS lt a m b d < b → lt d[(a + b) / 2 + m - symS lt a m b d]! d[symS lt a m b d - 1]! = false) ∧
    (symS lt a m b d < m → m < (a + b) / 2 + m - symS lt a m b d → lt d[(a + b) / 2 + m - symS lt a m b d - 1]! d[symS lt a m b d]! = true) := by
  obtain ⟨S0, e0⟩ : ∃ S0, S0 = if (a + b) / 2 < m then (a + b) / 2 + m - b else a := ⟨_, rfl⟩
  obtain ⟨R0, e1⟩ : ∃ R0, R0 = if (a + b) / 2 < m then (a + b) / 2 else m := ⟨_, rfl⟩
  have f0 : ((a + b) / 2 < m ∧ S0 = (a + b) / 2 + m - b ∧ R0 = (a + b) / 2) ∨ (m ≤ (a + b) / 2 ∧ S0 = a ∧ R0 = m) := by
    by_cases h : (a + b) / 2 < m
    · rw [if_pos h] at e0 e1; exact .inl ⟨h, e0, e1⟩
    · rw [if_neg h] at e0 e1; exact .inr ⟨by omega, e0, e1⟩
  have q := find1_spec (fun c => !lt d[(a + b) / 2 + m - 1 - c]! d[c]!) (R0 - S0) S0 R0 (Nat.le_refl _) (by omega)
  obtain ⟨s, es⟩ : ∃ s, s = find1 (fun c => !lt d[(a + b) / 2 + m - 1 - c]! d[c]!) (R0 - S0) S0 R0 := ⟨_, rfl⟩
  have eS : symS lt a m b d = s := by rw [es, e0, e1]; rfl
  rw [← es] at q
  rw [eS]
  obtain ⟨q1, q2, q3, q4⟩ := q
  clear es e0 e1 eS
  refine ⟨by omega, by omega, by omega, by omega, fun ha hb => ?_, fun ha hb => ?_⟩
  · rcases q3 with q3 | q3
    · omega
    · rw [show (a + b) / 2 + m - 1 - (s - 1) = (a + b) / 2 + m - s by omega] at q3
      simpa using q3
  · rcases q4 with q4 | q4
    · omega
    · rw [show (a + b) / 2 + m - 1 - s = (a + b) / 2 + m - s - 1 by omega] at q4
      simpa using q4
/-- The merge sorts, and moves nothing out. -/
theorem symP_sorts (hS : SWO lx) : ∀ (f a m b : Nat) (d : Array α), b - a ≤ f → a < m → m < b → b ≤ d.size → SortedIn lx a m d → SortedIn lx m b d → Asks lt lx a m b d →
    PermIn a b d (symP lt f a m b d) ∧ SortedIn lx a b (symP lt f a m b d) := by
  intro f
  induction f with
  | zero => intro a m b d h1 h2 h3; omega
  | succ f ih =>
    intro a m b d hf hm hb hd sL sR hA
    unfold symP
    by_cases c1 : m - a = 1
    · rw [if_pos c1]
      obtain ⟨q1, q2, q3, q4⟩ := find1_spec (fun h => lt d[h]! d[a]!) (b - m) m b (Nat.le_refl _) (by omega)
      obtain ⟨i, ei⟩ : ∃ i, i = find1 (fun h => lt d[h]! d[a]!) (b - m) m b := ⟨_, rfl⟩
      rw [← ei] at q1 q2 q3 q4 ⊢
      have hr := shUpP_rot a d (i - 1 - a) (by omega)
      rw [show a + (i - 1 - a) + 1 = i by omega, show a + 1 = m by omega] at hr
      refine ⟨permIn_mono _ _ _ _ _ _ (Nat.le_refl _) q2 hd hr.perm, rot_full hS hr (Nat.le_refl _) (by omega) q1 q2 sL sR (fun h => by omega) (fun _ h => ?_) (fun h => by omega) (fun _ h => ?_)⟩
      · rcases q3 with q3 | q3
        · omega
        · rw [hA a (i - 1) (Nat.le_refl _) hm (by omega) (by omega)] at q3
          exact hS.asymmA q3
      · rcases q4 with q4 | q4
        · omega
        · rw [hA a i (Nat.le_refl _) hm (by omega) (by omega)] at q4
          rw [show m - 1 = a by omega]
          exact q4
    · rw [if_neg c1]
      by_cases c2 : b - m = 1
      · rw [if_pos c2]
        obtain ⟨q1, q2, q3, q4⟩ := find1_spec (fun h => !lt d[m]! d[h]!) (m - a) a m (Nat.le_refl _) (by omega)
        obtain ⟨i, ei⟩ : ∃ i, i = find1 (fun h => !lt d[m]! d[h]!) (m - a) a m := ⟨_, rfl⟩
        rw [← ei] at q1 q2 q3 q4 ⊢
        have hr := shDnP_rot m d (by omega) (m - i) (by omega)
        rw [show m - (m - i) = i by omega, show m + 1 = b by omega] at hr
        refine ⟨permIn_mono _ _ _ _ _ _ q1 (Nat.le_refl _) hd hr.perm, rot_full hS hr q1 q2 (by omega) (Nat.le_refl _) sL sR (fun _ h => by omega) (fun h _ => ?_) (fun h _ => ?_) (fun _ h => by omega)⟩
        · rcases q4 with q4 | q4
          · omega
          · have q4 : lt d[m]! d[i]! = true := by simpa using q4
            rw [hA i m q1 h (Nat.le_refl _) hb] at q4
            rw [show b - 1 = m by omega]
            exact hS.asymmA q4
        · rcases q3 with q3 | q3
          · omega
          · have q3 : lt d[m]! d[i - 1]! = false := by simpa using q3
            rw [hA (i - 1) m (by omega) (by omega) (Nat.le_refl _) hb] at q3
            exact q3
      · rw [if_neg c2]
        obtain ⟨p1, p2, p3, p4, p5, p6⟩ := symS_spec lt d hm hb
        obtain ⟨s, es⟩ : ∃ s, s = symS lt a m b d := ⟨_, rfl⟩
        rw [← es] at p1 p2 p3 p4 p5 p6 ⊢
        obtain ⟨mid, emid⟩ : ∃ mid, mid = (a + b) / 2 := ⟨_, rfl⟩
        rw [← emid] at p3 p4 p5 p6 ⊢
        obtain ⟨e, ee⟩ : ∃ e, e = mid + m - s := ⟨_, rfl⟩
        rw [← ee] at p4 p5 p6
        simp only [← ee]
        have hme : m ≤ e := by omega
        have hr := rotIf_rot (d := d) p2 hme (by omega)
        obtain ⟨d1, ed1⟩ : ∃ d1, d1 = rotIf s m e d := ⟨_, rfl⟩
        rw [← ed1] at hr ⊢
        obtain ⟨r1, r2, r3, r4, r5⟩ := rot_sorted hS hr p1 p2 hme p4 sL sR
          (fun h1 h2 => by have := p5 h1 h2; rw [hA (s - 1) e (by omega) (by omega) hme h2] at this; exact this)
          (fun h1 h2 => by have := p6 h1 h2; rw [hA s (e - 1) p1 h1 (by omega) (by omega)] at this; exact hS.asymmA this)
        have hmid : s + (e - m) = mid := by omega
        rw [hmid] at r1 r3 r4
        have hd1 : d1.size = d.size := hr.size
        have hP1 : PermIn a b d d1 := permIn_mono _ _ _ _ _ _ p1 p4 hd hr.perm
        have A1 : Asks lt lx a s mid d1 := fun i j i1 i2 j1 j2 => by
          rw [hr.out i (.inl i2), hr.fst j j1 (by omega)]; exact hA _ _ i1 (by omega) (by omega) (by omega)
        have A2 : Asks lt lx mid e b d1 := fun i j i1 i2 j1 j2 => by
          rw [hr.snd i (by omega) i2, hr.out j (.inr j1)]; exact hA _ _ (by omega) (by omega) (by omega) j2
        have hs2 : PermIn a mid d1 (if a < s ∧ s < mid then symP lt f a s mid d1 else d1) ∧ SortedIn lx a mid (if a < s ∧ s < mid then symP lt f a s mid d1 else d1) := by
          by_cases c3 : a < s ∧ s < mid
          · rw [if_pos c3]
            exact ih a s mid d1 (by omega) c3.1 c3.2 (by omega) r2 r3 A1
          · rw [if_neg c3]
            refine ⟨permIn_refl _ _ _, ?_⟩
            by_cases c4 : s = a
            · subst c4; exact r3
            · obtain rfl : s = mid := by omega
              exact r2
        obtain ⟨d2, ed2⟩ : ∃ d2, d2 = if a < s ∧ s < mid then symP lt f a s mid d1 else d1 := ⟨_, rfl⟩
        rw [← ed2] at hs2 ⊢
        obtain ⟨hP2, hS2⟩ := hs2
        have hd2 : d2.size = d.size := by rw [hP2.1, hd1]
        have r4' := sorted_out r4 hP2 (.inr (Nat.le_refl _))
        have r5' := sorted_out r5 hP2 (.inr (by omega))
        have A2' : Asks lt lx mid e b d2 := fun i j i1 i2 j1 j2 => by
          rw [hP2.2.1 i (.inr i1), hP2.2.1 j (.inr (by omega))]; exact A2 i j i1 i2 j1 j2
        have hs3 : PermIn mid b d2 (if mid < e ∧ e < b then symP lt f mid e b d2 else d2) ∧ SortedIn lx mid b (if mid < e ∧ e < b then symP lt f mid e b d2 else d2) := by
          by_cases c3 : mid < e ∧ e < b
          · rw [if_pos c3]
            exact ih mid e b d2 (by omega) c3.1 c3.2 (by omega) r4' r5' A2'
          · rw [if_neg c3]
            refine ⟨permIn_refl _ _ _, ?_⟩
            by_cases c4 : e = mid
            · subst c4; exact r5'
            · obtain rfl : e = b := by omega
              exact r4'
        obtain ⟨d3, ed3⟩ : ∃ d3, d3 = if mid < e ∧ e < b then symP lt f mid e b d2 else d2 := ⟨_, rfl⟩
        rw [← ed3] at hs3 ⊢
        obtain ⟨hP3, hS3⟩ := hs3
        have hP2' : PermIn a b d1 d2 := permIn_mono _ _ _ _ _ _ (Nat.le_refl _) (by omega) (by omega) hP2
        have hP3' : PermIn a b d2 d3 := permIn_mono _ _ _ _ _ _ (by omega) (Nat.le_refl _) (by omega) hP3
        refine ⟨permIn_trans _ _ _ _ _ hP1 (permIn_trans _ _ _ _ _ hP2' hP3'), sorted_join (sorted_out hS2 hP3 (.inl (Nat.le_refl _))) hS3 ?_⟩
        exact cross_perm (R := fun x y => lx x y = false) (by omega) hP3 (.inr ⟨Nat.le_refl _, Nat.le_refl _⟩) (by omega)
          (cross_perm (R := fun x y => lx x y = false) (by omega) hP2 (.inl ⟨Nat.le_refl _, Nat.le_refl _⟩) (by omega) r1)
end
end Go.Proofs.Ytcjmlakmigfkfaa

namespace Go.Proofs.Ytcjmlakmigfkfaa
set_option linter.unusedSimpArgs false
set_option linter.unusedVariables false
open Go.Sort
section
variable {α : Type} [Inhabited α] {lt lx : α → α → Bool}

theorem insInner_permS (lt : α → α → Bool) (a : Nat) : ∀ (j : Nat) (d : Array α), a ≤ j → j < d.size → PermIn a (j + 1) d (insInner lt a j d) := by
  intro j
  induction j with
  | zero => intro d _ _; exact permIn_refl _ _ _
  | succ j ih =>
    intro d h1 h2
    unfold insInner
    split
    · rename_i hc
      simp only [Bool.and_eq_true, decide_eq_true_eq] at hc
      have := ih (swp d (j + 1) j) (by omega) (by rw [swp_size]; omega)
      exact permIn_trans _ _ _ _ _ (swp_permIn d a (j + 1 + 1) (j + 1) j (by omega) (by omega) (by omega) (by omega) (by omega)) (permIn_mono _ _ _ _ _ _ (Nat.le_refl _) (by omega) (by rw [swp_size]; omega) this)
    · exact permIn_refl _ _ _
theorem insInner_eq (a : Nat) : ∀ (j : Nat) (d : Array α), j < d.size → (∀ p, a ≤ p → p < j → lt d[j]! d[p]! = lx d[j]! d[p]!) → insInner lt a j d = insInner lx a j d := by
  intro j
  induction j with
  | zero => intro d _ _; rfl
  | succ j ih =>
    intro d h1 h
    unfold insInner
    by_cases hj : j + 1 > a
    · rw [h j (by omega) (by omega)]
      have g := swp_get d h1 (show j < d.size by omega)
      rw [ih (swp d (j + 1) j) (by rw [swp_size]; omega) (fun p hp1 hp2 => by
        rw [g, g, if_pos rfl, if_neg (by omega), if_neg (by omega)]
        exact h p hp1 (by omega))]
    · have : decide (j + 1 > a) = false := by simpa using hj
      rw [this]
      simp
theorem insOuter_on (lt : α → α → Bool) (a b i : Nat) (d : Array α) (h : i < b) : insOuter lt a b i d = insOuter lt a b (i + 1) (insInner lt a i d) := by
  conv => lhs; rw [insOuter]
  rw [if_pos h]
theorem insOuter_off (lt : α → α → Bool) (a b i : Nat) (d : Array α) (h : ¬ i < b) : insOuter lt a b i d = d := by
  rw [insOuter, if_neg h]
theorem insOuter_eq (a b : Nat) : ∀ (k i : Nat) (d : Array α), b - i ≤ k → a ≤ i → b ≤ d.size → (∀ p q, a ≤ p → p < q → i ≤ q → q < b → lt d[q]! d[p]! = lx d[q]! d[p]!) → insOuter lt a b i d = insOuter lx a b i d := by
  intro k
  induction k with
  | zero =>
    intro i d h1 _ _ _
    rw [insOuter_off lt _ _ _ _ (by omega), insOuter_off lx _ _ _ _ (by omega)]
  | succ k ih =>
    intro i d h1 h2 h3 h
    by_cases hi : i < b
    · have e := insInner_eq (lt := lt) (lx := lx) a i d (by omega) (fun p hp1 hp2 => h p i hp1 hp2 (Nat.le_refl _) hi)
      have hp := insInner_permS lx a i d h2 (by omega)
      rw [insOuter_on lt _ _ _ _ hi, insOuter_on lx _ _ _ _ hi, e]
      refine ih (i + 1) _ (by omega) (by omega) (by rw [hp.1]; exact h3) (fun p q hp1 hpq hq1 hq2 => ?_)
      rw [hp.2.1 q (.inr hq1)]
      by_cases hpi : p < i + 1
      · exact permIn_all d _ a (i + 1) (fun z => lt d[q]! z = lx d[q]! z) (by omega) hp (fun r hr1 hr2 => h r q hr1 (by omega) (by omega) hq2) p hp1 hpi
      · rw [hp.2.1 p (.inr (by omega))]
        exact h p q hp1 hpq (by omega) hq2
    · rw [insOuter_off lt _ _ _ _ hi, insOuter_off lx _ _ _ _ hi]
theorem insertion_sorts (hS : SWO lx) (a b : Nat) (d : Array α) (hab : a ≤ b) (hb : b ≤ d.size) (h : ∀ p q, a ≤ p → p < q → q < b → lt d[q]! d[p]! = lx d[q]! d[p]!) :
    PermIn a b d (insertionSort lt d a b) ∧ SortedIn lx a b (insertionSort lt d a b) := by
  have e : insertionSort lt d a b = insertionSort lx d a b := by
    unfold insertionSort
    exact insOuter_eq a b (b - (a + 1)) (a + 1) d (Nat.le_refl _) (by omega) hb (fun p q h1 h2 _ h3 => h p q h1 h2 h3)
  rw [e]
  exact insertionSort_holds hS d a b hab hb

def insB (lt : α → α → Bool) (n : Nat) : Nat → Nat → Array α → Array α
  | 0, _, d => d
  | f + 1, a, d => if a + 20 ≤ n then insB lt n f (a + 20) (insertionSort lt d a (a + 20)) else insertionSort lt d a n
def merB (lt : α → α → Bool) (n bs : Nat) : Nat → Nat → Array α → Array α
  | 0, _, d => d
  | f + 1, a, d => if a + 2 * bs ≤ n then merB lt n bs f (a + 2 * bs) (symP lt n a (a + bs) (a + 2 * bs) d) else if a + bs < n then symP lt n a (a + bs) n d else d
def merA (lt : α → α → Bool) (n : Nat) : Nat → Nat → Array α → Array α
  | 0, _, d => d
  | f + 1, bs, d => if bs < n then merA lt n f (2 * bs) (merB lt n bs (n + 4) 0 d) else d
def stableP (lt : α → α → Bool) (n : Nat) (d : Array α) : Array α := merA lt n (n + 4) 20 (insB lt n (n + 4) 0 d)

def CutAt (tag : α → Nat) (c n : Nat) (d : Array α) : Prop := ∀ i, i < n → (i < c ↔ tag d[i]! < c)
theorem CutAt.perm {tag : α → Nat} {c n a b : Nat} {d d' : Array α} (h : CutAt tag c n d) (hp : PermIn a b d d') (hb : b ≤ n) (hn : n ≤ d.size) (hc : b ≤ c ∨ c ≤ a) : CutAt tag c n d' := by
  intro i hi
  by_cases ho : i < a ∨ b ≤ i
  · rw [hp.2.1 i ho]; exact h i hi
  · rcases hc with hc | hc
    · exact ⟨fun _ => permIn_all d d' a b (fun z => tag z < c) (by omega) hp (fun j h1 h2 => (h j (by omega)).1 (by omega)) i (by omega) (by omega), fun _ => by omega⟩
    · have := permIn_all d d' a b (fun z => ¬ tag z < c) (by omega) hp (fun j h1 h2 hh => by have := (h j (by omega)).2 hh; omega) i (by omega) (by omega)
      exact ⟨fun _ => by omega, fun hh => absurd hh this⟩
theorem CutAt.asks {tag : α → Nat} {c n a b : Nat} {d : Array α} (hA : ∀ x y, tag x < tag y → lt y x = lx y x) (h : CutAt tag c n d) (hb : b ≤ n) : Asks lt lx a c b d := fun i j _ i2 j1 j2 =>
  hA _ _ (by have h1 := (h i (by omega)).1 i2; have h2 := (h j (by omega)).2; by_cases hh : tag d[j]! < c; · have := h2 hh; omega
             · omega)
/-- All blocks sorted, the blocks' elements apart. -/
structure Blks (tag : α → Nat) (lx : α → α → Bool) (n : Nat) (d d' : Array α) : Prop where
  perm : PermIn 0 n d d'
  s0 : SortedIn lx 0 (min 20 n) d'
  s1 : SortedIn lx (min 20 n) (min 40 n) d'
  s2 : SortedIn lx (min 40 n) n d'
  c0 : CutAt tag 20 n d'
  c1 : CutAt tag 40 n d'
theorem sorted_nil (a b : Nat) (d : Array α) (h : b ≤ a) : SortedIn lx a b d := fun _ _ _ _ _ => by omega
theorem insertion_none (lt : α → α → Bool) (d : Array α) (a : Nat) : insertionSort lt d a a = d := insOuter_off lt _ _ _ _ (by omega)
theorem insB_blks (hS : SWO lx) (tag : α → Nat) (hA : ∀ x y, tag x < tag y → lt y x = lx y x) (n : Nat) (d : Array α) (hn : n ≤ 60) (hd : d.size = n) (ht : ∀ i, i < n → tag d[i]! = i) : Blks tag lx n d (insB lt n (n + 4) 0 d) := by
  have c0 : ∀ c, CutAt tag c n d := fun c i hi => by rw [ht i hi]
  have hask : ∀ (d' : Array α) (a b : Nat), (∀ i, a ≤ i → d'[i]! = d[i]!) → b ≤ n → ∀ p q, a ≤ p → p < q → q < b → lt d'[q]! d'[p]! = lx d'[q]! d'[p]! := fun d' a b he hb p q h1 h2 h3 => by
    rw [he p h1, he q (by omega)]
    exact hA _ _ (by rw [ht p (by omega), ht q (by omega)]; exact h2)
  simp only [insB, Nat.zero_add]
  by_cases h20 : 20 ≤ n
  · rw [if_pos h20]
    obtain ⟨p1, s1⟩ := insertion_sorts (lt := lt) hS 0 20 d (by omega) (by omega) (hask d 0 20 (fun _ _ => rfl) h20)
    obtain ⟨d1, e1⟩ : ∃ d1, d1 = insertionSort lt d 0 20 := ⟨_, rfl⟩
    rw [← e1] at p1 s1 ⊢
    have z1 : d1.size = n := by rw [p1.1, hd]
    by_cases h40 : 20 + 20 ≤ n
    · rw [if_pos h40]
      obtain ⟨p2, s2⟩ := insertion_sorts (lt := lt) hS 20 40 d1 (by omega) (by omega) (hask d1 20 40 (fun i hi => p1.2.1 i (.inr hi)) h40)
      obtain ⟨d2, e2⟩ : ∃ d2, d2 = insertionSort lt d1 20 40 := ⟨_, rfl⟩
      rw [show 20 + 20 = 40 from rfl, ← e2]
      rw [← e2] at p2 s2
      have z2 : d2.size = n := by rw [p2.1, z1]
      have he2 : ∀ i, 40 ≤ i → d2[i]! = d[i]! := fun i hi => by rw [p2.2.1 i (.inr hi), p1.2.1 i (.inr (by omega))]
      have h3 : PermIn 40 n d2 (if 40 + 20 ≤ n then (if 40 + 20 + 20 ≤ n then insB lt n n (40 + 20 + 20) (insertionSort lt (insertionSort lt d2 40 (40 + 20)) (40 + 20) (40 + 20 + 20)) else insertionSort lt (insertionSort lt d2 40 (40 + 20)) (40 + 20) n) else insertionSort lt d2 40 n) ∧
          SortedIn lx 40 n (if 40 + 20 ≤ n then (if 40 + 20 + 20 ≤ n then insB lt n n (40 + 20 + 20) (insertionSort lt (insertionSort lt d2 40 (40 + 20)) (40 + 20) (40 + 20 + 20)) else insertionSort lt (insertionSort lt d2 40 (40 + 20)) (40 + 20) n) else insertionSort lt d2 40 n) := by
        have q := insertion_sorts (lt := lt) hS 40 n d2 (by omega) (by omega) (hask d2 40 n he2 (Nat.le_refl _))
        by_cases h60 : 40 + 20 ≤ n
        · obtain rfl : n = 60 := by omega
          rw [if_pos (by omega), if_neg (by omega), insertion_none]
          exact q
        · rw [if_neg h60]
          exact q
      obtain ⟨p3, s3⟩ := h3
      have m1 : min 20 n = 20 := by omega
      have m2 : min 40 n = 40 := by omega
      refine ⟨permIn_trans _ _ _ _ _ (permIn_mono _ _ _ _ _ _ (Nat.le_refl _) h20 (by omega) p1) (permIn_trans _ _ _ _ _ (permIn_mono _ _ _ _ _ _ (by omega) (by omega) (by omega) p2) (permIn_mono _ _ _ _ _ _ (by omega) (Nat.le_refl _) (by omega) p3)), ?_, ?_, ?_, ?_, ?_⟩
      · rw [m1]; exact sorted_out (sorted_out s1 p2 (.inl (Nat.le_refl _))) p3 (.inl (by omega))
      · rw [m1, m2]; exact sorted_out s2 p3 (.inl (Nat.le_refl _))
      · rw [m2]; exact s3
      · exact (((c0 20).perm p1 h20 (by omega) (.inl (Nat.le_refl _))).perm p2 (by omega) (by omega) (.inr (Nat.le_refl _))).perm p3 (Nat.le_refl _) (by omega) (.inr (by omega))
      · exact (((c0 40).perm p1 h20 (by omega) (.inl (by omega))).perm p2 (by omega) (by omega) (.inl (Nat.le_refl _))).perm p3 (Nat.le_refl _) (by omega) (.inr (Nat.le_refl _))
    · rw [if_neg h40]
      obtain ⟨p2, s2⟩ := insertion_sorts (lt := lt) hS 20 n d1 h20 (by omega) (hask d1 20 n (fun i hi => p1.2.1 i (.inr hi)) (Nat.le_refl _))
      have m1 : min 20 n = 20 := by omega
      have m2 : min 40 n = n := by omega
      refine ⟨permIn_trans _ _ _ _ _ (permIn_mono _ _ _ _ _ _ (Nat.le_refl _) h20 (by omega) p1) (permIn_mono _ _ _ _ _ _ (by omega) (Nat.le_refl _) (by omega) p2), ?_, ?_, ?_, ?_, ?_⟩
      · rw [m1]; exact sorted_out s1 p2 (.inl (Nat.le_refl _))
      · rw [m1, m2]; exact s2
      · exact sorted_nil _ _ _ (by omega)
      · exact ((c0 20).perm p1 h20 (by omega) (.inl (Nat.le_refl _))).perm p2 (Nat.le_refl _) (by omega) (.inr (Nat.le_refl _))
      · exact ((c0 40).perm p1 h20 (by omega) (.inl (by omega))).perm p2 (Nat.le_refl _) (by omega) (.inl (by omega))
  · rw [if_neg h20]
    obtain ⟨p1, s1⟩ := insertion_sorts (lt := lt) hS 0 n d (by omega) (by omega) (hask d 0 n (fun _ _ => rfl) (Nat.le_refl _))
    refine ⟨p1, ?_, ?_, ?_, ?_, ?_⟩
    · rw [show min 20 n = n by omega]; exact s1
    · exact sorted_nil _ _ _ (by omega)
    · exact sorted_nil _ _ _ (by omega)
    · exact (c0 20).perm p1 (Nat.le_refl _) (by omega) (.inl (by omega))
    · exact (c0 40).perm p1 (Nat.le_refl _) (by omega) (.inl (by omega))
/-- The stable sort, sorted by the sharper order. -/
theorem stableP_sorts (hS : SWO lx) (tag : α → Nat) (hA : ∀ x y, tag x < tag y → lt y x = lx y x) (n : Nat) (d : Array α) (hn : n ≤ 60) (hd : d.size = n) (ht : ∀ i, i < n → tag d[i]! = i) :
    PermIn 0 n d (stableP lt n d) ∧ SortedIn lx 0 n (stableP lt n d) := by
  have hB := insB_blks hS tag hA n d hn hd ht
  unfold stableP
  obtain ⟨d1, e1⟩ : ∃ d1, d1 = insB lt n (n + 4) 0 d := ⟨_, rfl⟩
  rw [← e1] at hB ⊢
  have z1 : d1.size = n := by rw [hB.perm.1, hd]
  simp only [merA]
  by_cases h20 : 20 < n
  · rw [if_pos h20]
    have hs0 := hB.s0
    have hs1 := hB.s1
    have hs2 := hB.s2
    rw [show min 20 n = 20 by omega] at hs0 hs1
    by_cases h40 : 40 ≤ n
    · rw [show min 40 n = 40 by omega] at hs1 hs2
      obtain ⟨p2, s2⟩ := symP_sorts (lt := lt) hS n 0 20 40 d1 (by omega) (by omega) (by omega) (by omega) hs0 hs1 (hB.c0.asks hA (by omega))
      have eM : merB lt n 20 (n + 4) 0 d1 = symP lt n 0 20 40 d1 := by
        simp only [merB, Nat.zero_add]
        rw [if_pos (by omega), if_neg (by omega), if_neg (by omega)]
      rw [eM]
      obtain ⟨d2, e2⟩ : ∃ d2, d2 = symP lt n 0 20 40 d1 := ⟨_, rfl⟩
      rw [← e2] at p2 s2 ⊢
      have z2 : d2.size = n := by rw [p2.1, z1]
      have P2 := permIn_trans _ _ _ _ _ hB.perm (permIn_mono _ _ _ _ _ _ (Nat.le_refl _) h40 (by omega) p2)
      have s22 := sorted_out hs2 p2 (.inr (Nat.le_refl _))
      by_cases hn40 : 2 * 20 < n
      · rw [if_pos hn40]
        obtain ⟨p3, s3⟩ := symP_sorts (lt := lt) hS n 0 40 n d2 (by omega) (by omega) (by omega) (by omega) s2 s22 ((hB.c1.perm p2 (by omega) (by omega) (.inl (Nat.le_refl _))).asks hA (Nat.le_refl _))
        have eM2 : merB lt n (2 * 20) (n + 4) 0 d2 = symP lt n 0 40 n d2 := by
          simp only [merB, Nat.zero_add]
          rw [if_neg (by omega), if_pos (by omega)]
        rw [eM2, if_neg (by omega)]
        exact ⟨permIn_trans _ _ _ _ _ P2 p3, s3⟩
      · obtain rfl : n = 40 := by omega
        rw [if_neg hn40]
        exact ⟨P2, s2⟩
    · rw [show min 40 n = n by omega] at hs1
      obtain ⟨p2, s2⟩ := symP_sorts (lt := lt) hS n 0 20 n d1 (by omega) (by omega) (by omega) (by omega) hs0 hs1 (hB.c0.asks hA (Nat.le_refl _))
      have eM : merB lt n 20 (n + 4) 0 d1 = symP lt n 0 20 n d1 := by
        simp only [merB, Nat.zero_add]
        rw [if_neg (by omega), if_pos (by omega)]
      rw [eM, if_neg (by omega)]
      exact ⟨permIn_trans _ _ _ _ _ hB.perm p2, s2⟩
  · rw [if_neg h20]
    have hs0 := hB.s0
    rw [show min 20 n = n by omega] at hs0
    exact ⟨hB.perm, hs0⟩
end
end Go.Proofs.Ytcjmlakmigfkfaa

namespace Go.Proofs.Ytcjmlakmigfkfaa
set_option linter.unusedSimpArgs false
set_option linter.unusedVariables false
open Go.Sort

def lxT (T : Nat → Int) (i j : Nat) : Bool := decide (T i < T j ∨ (T i = T j ∧ i < j))
theorem lxT_swo (T : Nat → Int) : SWO (lxT T) := by
  refine ⟨fun x => ?_, fun x y z h1 h2 => ?_, fun x y z h1 h2 => ?_⟩
  · unfold lxT; rw [decide_eq_false_iff_not]; omega
  · unfold lxT at *; rw [decide_eq_true_eq] at *; omega
  · unfold lxT at *; rw [decide_eq_false_iff_not] at *; omega
theorem stable_merge (T : Nat → Int) (lt : Nat → Nat → Bool) (na nb : Nat) (hn : na + nb ≤ 60) (hA : ∀ i j, i < j → j < na → T i ≤ T j) (hB : ∀ i j, na ≤ i → i < j → j < na + nb → T i ≤ T j) (hlt : ∀ x y, lt x y = decide (T x < T y)) :
    (stableP lt (na + nb) (Array.range (na + nb))).toList = List.merge (List.range na) (List.range' na nb) (fun i j => decide (T i ≤ T j)) := by
  have hgr : ∀ i, i < na + nb → (Array.range (na + nb))[i]! = i := fun i hi => by simp [hi]
  obtain ⟨hP, hS⟩ := stableP_sorts (lt := lt) (lxT_swo T) (fun x => x) (fun x y hxy => by
    rw [hlt]; unfold lxT; rw [decide_eq_decide]; omega) (na + nb) (Array.range (na + nb)) hn (by simp) hgr
  generalize stableP lt (na + nb) (Array.range (na + nb)) = d at *
  have hsz : d.size = na + nb := by have := hP.1; simpa using this
  have hperm : d.toList.Perm (List.range (na + nb)) := by
    have h := hP.2.2
    rw [show d.extract 0 (na + nb) = d by rw [← hsz]; simp] at h
    simpa using h
  have hpd : d.toList.Pairwise (fun a b => (!lxT T b a) = true) := by
    rw [List.pairwise_iff_getElem]
    intro i j hi hj hij
    have h := hS i j (Nat.zero_le _) hij (by simpa [hsz] using hj)
    rw [Array.length_toList] at hi hj
    rw [getElem!_pos d i hi, getElem!_pos d j hj] at h
    simpa using h
  have hle : ∀ i ∈ List.range na, ∀ j ∈ List.range' na nb, decide (T i ≤ T j) = !lxT T j i := by
    intro i hi j hj
    rw [List.mem_range] at hi
    rw [List.mem_range'_1] at hj
    unfold lxT
    rw [← decide_not, decide_eq_decide]
    omega
  have hm := List.map_merge (f := id) (r := fun i j => decide (T i ≤ T j)) (s := fun i j => !lxT T j i) hle
  simp only [List.map_id] at hm
  have hm' : List.merge (List.range na) (List.range' na nb) (fun i j => decide (T i ≤ T j)) = List.merge (List.range na) (List.range' na nb) (fun i j => !lxT T j i) := by simpa using hm
  rw [hm']
  have hr : List.range na ++ List.range' na nb = List.range (na + nb) := by
    rw [List.range_eq_range', List.range_eq_range']
    have := List.range'_append (s := 0) (m := na) (n := nb) (step := 1)
    simpa using this
  refine List.Perm.eq_of_pairwise (le := fun a b => (!lxT T b a) = true) (fun a b _ _ h1 h2 => ?_) hpd ?_ ?_
  · unfold lxT at h1 h2
    simp only [Bool.not_eq_true', decide_eq_false_iff_not] at h1 h2
    omega
  · refine List.pairwise_merge (le := fun a b => !lxT T b a) (fun a b c h1 h2 => ?_) (fun a b => ?_) _ _ ?_ ?_
    · unfold lxT at *; simp only [Bool.not_eq_true', decide_eq_false_iff_not] at *; omega
    · unfold lxT; simp only [Bool.or_eq_true, Bool.not_eq_true', decide_eq_false_iff_not]; omega
    · rw [List.pairwise_iff_getElem]
      intro i j hi hj hij
      simp only [List.length_range] at hi hj
      have := hA i j hij hj
      simp only [List.getElem_range, lxT, Bool.not_eq_true', decide_eq_false_iff_not]
      omega
    · rw [List.pairwise_iff_getElem]
      intro i j hi hj hij
      simp only [List.length_range'] at hi hj
      have := hB (na + i) (na + j) (by omega) (by omega) (by omega)
      simp only [List.getElem_range', Nat.one_mul, lxT, Bool.not_eq_true', decide_eq_false_iff_not]
      omega
  · exact hperm.trans (by rw [← hr]; exact (List.merge_perm_append _).symm)
/-- Logs joined: those of the first before those of the second with the same time. -/
def leE (x y : EntryT) : Bool := decide (x.1 ≤ y.1)
def joinE (L M : List EntryT) : List EntryT := List.merge L M leE
theorem joinE_nil (L : List EntryT) : joinE L [] = L := by simp [joinE]
theorem joinE_len (L M : List EntryT) : (joinE L M).length = L.length + M.length := by simp [joinE]
theorem joinE_mem {L M : List EntryT} {x : EntryT} : x ∈ joinE L M ↔ x ∈ L ∨ x ∈ M := by unfold joinE; exact List.mem_merge
theorem ord_time {L : List EntryT} (h : L.Pairwise ordE) {i j : Nat} (hij : i < j) (hj : j < L.length) : L[i].1 ≤ L[j].1 := (List.pairwise_iff_getElem.1 h i j (by omega) hj hij).1
theorem stable_join {L M : List EntryT} (hL : L.Pairwise ordE) (hM : M.Pairwise ordE) (hn : L.length + M.length ≤ 60) (lt : Nat → Nat → Bool) (hlt : ∀ x y, lt x y = decide (((L ++ M).getD x zE).1 < ((L ++ M).getD y zE).1)) :
    (stableP lt (L.length + M.length) (Array.range (L.length + M.length))).toList.map (fun i => (L ++ M).getD i zE) = joinE L M := by
  have gl : ∀ i (h : i < L.length), (L ++ M).getD i zE = L[i] := fun i h => by
    rw [List.getD_eq_getElem?_getD, List.getElem?_append_left h, List.getElem?_eq_getElem h]; rfl
  have gr : ∀ i (h : i < M.length), (L ++ M).getD (L.length + i) zE = M[i] := fun i h => by
    rw [List.getD_eq_getElem?_getD, List.getElem?_append_right (by omega), Nat.add_sub_cancel_left, List.getElem?_eq_getElem h]; rfl
  rw [stable_merge (fun i => ((L ++ M).getD i zE).1) lt L.length M.length hn ?_ ?_ hlt]
  · rw [List.map_merge (f := fun i => (L ++ M).getD i zE) (r := fun i j => decide (((L ++ M).getD i zE).1 ≤ ((L ++ M).getD j zE).1)) (s := leE) (fun a _ b _ => rfl)]
    unfold joinE
    congr 1
    · refine List.ext_getElem (by simp) (fun i h1 h2 => ?_)
      simp only [List.getElem_map, List.getElem_range]
      exact gl i h2
    · refine List.ext_getElem (by simp) (fun i h1 h2 => ?_)
      simp only [List.getElem_map, List.getElem_range', Nat.one_mul]
      exact gr i h2
  · intro i j hij hj
    simp only [gl i (by omega), gl j hj]
    exact ord_time hL hij hj
  · intro i j hi hij hj
    obtain ⟨i, rfl⟩ : ∃ q, i = L.length + q := ⟨i - L.length, by omega⟩
    obtain ⟨j, rfl⟩ : ∃ q, j = L.length + q := ⟨j - L.length, by omega⟩
    simp only [gr i (by omega), gr j (by omega)]
    exact ord_time hM (by omega) (by omega)
/-- The answer of JoinLogs. -/
def joinLR (L M : List EntryT) : List EntryT × Bool := if (goodE L && goodE M) = true then (if goodE (joinE L M) = true then (joinE L M, true) else ([], false)) else ([], false)
end Go.Proofs.Ytcjmlakmigfkfaa
