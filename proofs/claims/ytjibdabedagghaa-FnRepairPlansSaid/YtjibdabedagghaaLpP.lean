/- The least cost of repair plans: plain lists and integers, no program. No conditions. -/
import Derived.Test.YtjibdabedagghaaGears
namespace Go.Proofs.Ytjibdabedagghaa
set_option linter.unusedSimpArgs false
set_option linter.unusedVariables false
open Go.RowKit

/-- The wears behind a day on which a set is repaired; does a gear fail; what it costs. -/
def stepW : List G4 → List Int → Nat → List Int
  | g :: r, x :: xs, s => ((if s % 2 = 1 then 0 else x) + g.2.1) :: stepW r xs (s / 2)
  | _, xs, _ => xs
def failsW : List G4 → List Int → Nat → Bool
  | g :: r, x :: xs, s => decide (g.2.2.1 < (if s % 2 = 1 then 0 else x) + g.2.1) || failsW r xs (s / 2)
  | _, _, _ => false
def sumC : List G4 → Nat → Int
  | [], _ => 0
  | g :: r, s => (if s % 2 = 1 then g.2.2.2 else 0) + sumC r (s / 2)
def setC (l : List G4) (trip : Int) (s : Nat) : Int := (if 0 < s then trip else 0) + sumC l s
def minStep (acc : Int) (o : Option Int) : Int := match o with | none => acc | some x => if acc < 0 ∨ x < acc then x else acc
/-- The least of what is there below k, or -1. -/
def bestTo (f : Nat → Option Int) : Nat → Int
  | 0 => -1
  | k + 1 => minStep (bestTo f k) (f k)
/-- The least cost of so many days from some wears on. -/
def leastW (l : List G4) (trip : Int) : Nat → List Int → Int
  | 0, _ => 0
  | d + 1, ws => bestTo (fun s => if failsW l ws s = true then none else some (setC l trip s + leastW l trip d (stepW l ws s))) (2 ^ l.length)
def wayW (l : List G4) (trip : Int) (d : Nat) (ws : List Int) (s : Nat) : Option Int := if failsW l ws s = true then none else some (setC l trip s + leastW l trip d (stepW l ws s))
theorem leastW_succ (l : List G4) (trip : Int) (d : Nat) (ws : List Int) : leastW l trip (d + 1) ws = bestTo (wayW l trip d ws) (2 ^ l.length) := rfl
def goodG (l : List G4) : Prop := ∀ g ∈ l, (1 ≤ g.2.1 ∧ g.2.1 ≤ 100) ∧ (g.2.1 ≤ g.2.2.1 ∧ g.2.2.1 ≤ 1000) ∧ (0 ≤ g.1 ∧ g.1 ≤ g.2.2.1) ∧ 0 ≤ g.2.2.2 ∧ g.2.2.2 ≤ 1000
theorem goodG_cons {g : G4} {r : List G4} (h : goodG (g :: r)) : ((1 ≤ g.2.1 ∧ g.2.1 ≤ 100) ∧ (g.2.1 ≤ g.2.2.1 ∧ g.2.2.1 ≤ 1000) ∧ (0 ≤ g.1 ∧ g.1 ≤ g.2.2.1) ∧ 0 ≤ g.2.2.2 ∧ g.2.2.2 ≤ 1000) ∧ goodG r := ⟨h g (by simp), fun x hx => h x (by simp [hx])⟩
theorem length_stepW : ∀ (l : List G4) (ws : List Int) (s : Nat), (stepW l ws s).length = ws.length := by
  intro l
  induction l with
  | nil => intro ws s; cases ws <;> simp [stepW]
  | cons g r ih =>
    intro ws s
    cases ws with
    | nil => simp [stepW]
    | cons x xs => simp [stepW, ih]
theorem stepW_app : ∀ (l : List G4) (ws z : List Int) (s : Nat), ws.length = l.length → stepW l (ws ++ z) s = stepW l ws s ++ z := by
  intro l
  induction l with
  | nil => intro ws z s h; obtain rfl := List.eq_nil_of_length_eq_zero h; cases z <;> simp [stepW]
  | cons g r ih =>
    intro ws z s h
    cases ws with
    | nil => simp at h
    | cons x xs => simp only [List.cons_append, stepW, ih xs z _ (by simpa using h)]
theorem failsW_app : ∀ (l : List G4) (ws z : List Int) (s : Nat), ws.length = l.length → failsW l (ws ++ z) s = failsW l ws s := by
  intro l
  induction l with
  | nil => intro ws z s h; obtain rfl := List.eq_nil_of_length_eq_zero h; cases z <;> simp [failsW]
  | cons g r ih =>
    intro ws z s h
    cases ws with
    | nil => simp at h
    | cons x xs => simp only [List.cons_append, failsW, ih xs z _ (by simpa using h)]
theorem leastW_app (l : List G4) (trip : Int) : ∀ (d : Nat) (ws z : List Int), ws.length = l.length → leastW l trip d (ws ++ z) = leastW l trip d ws := by
  intro d
  induction d with
  | zero => intro ws z _; rfl
  | succ d ih =>
    intro ws z h
    rw [leastW_succ, leastW_succ]
    congr 1
    funext s
    unfold wayW
    rw [failsW_app l ws z s h, stepW_app l ws z s h, ih _ z (by rw [length_stepW]; exact h)]
theorem sumC_bd : ∀ (l : List G4), goodG l → ∀ s, 0 ≤ sumC l s ∧ sumC l s ≤ 1000 * (l.length : Int) := by
  intro l
  induction l with
  | nil => intro _ s; simp [sumC]
  | cons g r ih =>
    intro h s
    obtain ⟨h1, h2⟩ := goodG_cons h
    have h3 := ih h2 (s / 2)
    simp only [sumC, List.length_cons]
    split <;> omega
theorem setC_bd {l : List G4} {trip : Int} (h : goodG l) (ht : 0 ≤ trip ∧ trip ≤ 1000) (s : Nat) : 0 ≤ setC l trip s ∧ setC l trip s ≤ 1000 * (l.length : Int) + 1000 := by
  have := sumC_bd l h s
  unfold setC
  split <;> omega
theorem two_odd (n : Nat) : (2 ^ (n + 1) - 1) % 2 = 1 ∧ (2 ^ (n + 1) - 1) / 2 = 2 ^ n - 1 := by
  have : 0 < 2 ^ n := Nat.pos_of_ne_zero (by simp)
  rw [Nat.pow_succ]
  omega
theorem failsW_all : ∀ (l : List G4) (ws : List Int), goodG l → failsW l ws (2 ^ l.length - 1) = false := by
  intro l
  induction l with
  | nil => intro ws _; cases ws <;> simp [failsW]
  | cons g r ih =>
    intro ws h
    cases ws with
    | nil => simp [failsW]
    | cons x xs =>
      obtain ⟨h1, h2⟩ := goodG_cons h
      have h3 := two_odd r.length
      simp only [failsW, List.length_cons, h3.1, h3.2, ih xs h2, if_true, Bool.or_false]
      simp
      omega
section
variable {f : Nat → Option Int}
theorem bestTo_none : ∀ (k : Nat), (∀ s, s < k → f s = none) → bestTo f k = -1 := by
  intro k
  induction k with
  | zero => intro _; rfl
  | succ k ih => intro h; simp [bestTo, h k (by omega), minStep, ih (fun s hs => h s (by omega))]
theorem bestTo_some : ∀ (k : Nat), (∀ s x, s < k → f s = some x → 0 ≤ x) → (bestTo f k = -1 ∧ (∀ s, s < k → f s = none)) ∨ (0 ≤ bestTo f k ∧ (∃ s, s < k ∧ f s = some (bestTo f k)) ∧ ∀ s x, s < k → f s = some x → bestTo f k ≤ x) := by
  intro k
  induction k with
  | zero => intro _; exact .inl ⟨rfl, fun s h => by omega⟩
  | succ k ih =>
    intro h
    have ih' := ih (fun s x hs => h s x (by omega))
    cases hk : f k with
    | none =>
      have e : bestTo f (k + 1) = bestTo f k := by simp [bestTo, hk, minStep]
      rw [e]
      rcases ih' with ⟨h1, h2⟩ | ⟨h1, ⟨s, hs, hs2⟩, h3⟩
      · refine .inl ⟨h1, fun s hs => ?_⟩
        by_cases e : s = k
        · rw [e]; exact hk
        · exact h2 s (by omega)
      · refine .inr ⟨h1, ⟨s, by omega, hs2⟩, fun t x ht hx => ?_⟩
        by_cases e : t = k
        · rw [e, hk] at hx; cases hx
        · exact h3 t x (by omega) hx
    | some y =>
      have hy := h k y (by omega) hk
      have e : bestTo f (k + 1) = if bestTo f k < 0 ∨ y < bestTo f k then y else bestTo f k := by simp [bestTo, hk, minStep]
      rw [e]
      refine .inr ?_
      by_cases hc : bestTo f k < 0 ∨ y < bestTo f k
      · rw [if_pos hc]
        refine ⟨hy, ⟨k, by omega, hk⟩, fun t x ht hx => ?_⟩
        by_cases e : t = k
        · rw [e, hk] at hx; injection hx with hx; omega
        · rcases ih' with ⟨h1, h2⟩ | ⟨h1, _, h3⟩
          · rw [h2 t (by omega)] at hx; cases hx
          · have := h3 t x (by omega) hx; omega
      · rw [if_neg hc]
        rcases ih' with ⟨h1, h2⟩ | ⟨h1, ⟨s, hs, hs2⟩, h3⟩
        · omega
        · refine ⟨h1, ⟨s, by omega, hs2⟩, fun t x ht hx => ?_⟩
          by_cases e : t = k
          · rw [e, hk] at hx; injection hx with hx; omega
          · exact h3 t x (by omega) hx
end
theorem leastW_bd {l : List G4} {trip : Int} (h : goodG l) (ht : 0 ≤ trip ∧ trip ≤ 1000) : ∀ (d : Nat) (ws : List Int), 0 ≤ leastW l trip d ws ∧ leastW l trip d ws ≤ (1000 * (l.length : Int) + 1000) * (d : Int) := by
  intro d
  induction d with
  | zero => intro ws; simp [leastW]
  | succ d ih =>
    intro ws
    rw [leastW_succ]
    have hw : ∀ s x, wayW l trip d ws s = some x → 0 ≤ x ∧ x ≤ (1000 * (l.length : Int) + 1000) * ((d + 1 : Nat) : Int) := by
      intro s x hx
      unfold wayW at hx
      split at hx
      · cases hx
      · injection hx with hx
        have h1 := setC_bd h ht s
        have h2 := ih (stepW l ws s)
        rw [Int.natCast_add, Int.mul_add]
        simp only [Int.natCast_one, Int.mul_one]
        omega
    have hp : 0 < 2 ^ l.length := Nat.pos_of_ne_zero (by simp)
    have ha : wayW l trip d ws (2 ^ l.length - 1) = some (setC l trip (2 ^ l.length - 1) + leastW l trip d (stepW l ws (2 ^ l.length - 1))) := by
      unfold wayW
      rw [failsW_all l ws h]
      simp
    rcases bestTo_some (f := wayW l trip d ws) (2 ^ l.length) (fun s x _ hx => (hw s x hx).1) with ⟨_, h2⟩ | ⟨h1, ⟨s, _, h2⟩, _⟩
    · rw [h2 _ (by omega)] at ha; cases ha
    · exact hw s _ h2
/-- The least way is one, and none is less. -/
theorem leastW_way {l : List G4} {trip : Int} (h : goodG l) (ht : 0 ≤ trip ∧ trip ≤ 1000) (d : Nat) (ws : List Int) :
    (∃ s, s < 2 ^ l.length ∧ failsW l ws s = false ∧ leastW l trip (d + 1) ws = setC l trip s + leastW l trip d (stepW l ws s)) ∧ ∀ s, s < 2 ^ l.length → failsW l ws s = false → leastW l trip (d + 1) ws ≤ setC l trip s + leastW l trip d (stepW l ws s) := by
  have hw : ∀ s x, wayW l trip d ws s = some x → 0 ≤ x := by
    intro s x hx
    unfold wayW at hx
    split at hx
    · cases hx
    · injection hx with hx
      have h1 := setC_bd h ht s
      have h2 := leastW_bd h ht d (stepW l ws s)
      omega
  have hway : ∀ s, failsW l ws s = false → wayW l trip d ws s = some (setC l trip s + leastW l trip d (stepW l ws s)) := fun s hs => by unfold wayW; rw [hs]; simp
  have hp : 0 < 2 ^ l.length := Nat.pos_of_ne_zero (by simp)
  rw [leastW_succ]
  rcases bestTo_some (f := wayW l trip d ws) (2 ^ l.length) (fun s x _ hx => hw s x hx) with ⟨_, h2⟩ | ⟨h1, ⟨s, hs, h2⟩, h3⟩
  · have := h2 (2 ^ l.length - 1) (by omega)
    rw [hway _ (failsW_all l ws h)] at this
    cases this
  · refine ⟨⟨s, hs, ?_⟩, fun t ht hf => h3 t _ ht (hway t hf)⟩
    cases hf : failsW l ws s with
    | true => unfold wayW at h2; rw [hf] at h2; simp at h2
    | false => rw [hway s hf] at h2; injection h2 with h2; exact ⟨rfl, h2.symm⟩
/-! The reference's state: the days since the last repair, -1 for none. -/
def wearOf (g : G4) (n : Int) (day : Int) : Int := if n < 0 then g.1 + day * g.2.1 else n * g.2.1
def wearsOf : List G4 → List Int → Int → List Int
  | g :: r, n :: ns, day => wearOf g n day :: wearsOf r ns day
  | _, _, _ => []
def nextS : List Int → Nat → List Int
  | [], _ => []
  | n :: ns, s => (if s % 2 = 1 then 1 else if 0 ≤ n then n + 1 else n) :: nextS ns (s / 2)
@[simp] theorem length_nextS : ∀ (ns : List Int) (s : Nat), (nextS ns s).length = ns.length := by
  intro ns
  induction ns with
  | nil => intro s; rfl
  | cons n r ih => intro s; simp [nextS, ih]
theorem length_wearsOf : ∀ (l : List G4) (ns : List Int) (day : Int), ns.length = l.length → (wearsOf l ns day).length = l.length := by
  intro l
  induction l with
  | nil => intro ns day _; cases ns <;> simp [wearsOf]
  | cons g r ih =>
    intro ns day h
    cases ns with
    | nil => simp at h
    | cons n ns => simp [wearsOf, ih ns day (by simpa using h)]
theorem stepW_wearsOf : ∀ (l : List G4) (ns : List Int) (day : Int) (s : Nat), ns.length = l.length → stepW l (wearsOf l ns day) s = wearsOf l (nextS ns s) (day + 1) := by
  intro l
  induction l with
  | nil => intro ns day s _; cases ns <;> simp [wearsOf, stepW, nextS]
  | cons g r ih =>
    intro ns day s h
    cases ns with
    | nil => simp at h
    | cons n ns =>
      simp only [wearsOf, stepW, nextS, ih ns day _ (by simpa using h)]
      congr 1
      unfold wearOf
      by_cases hs : s % 2 = 1
      · simp [hs]
      · by_cases hn : 0 ≤ n
        · have h1 : ¬ n < 0 := by omega
          have h2 : ¬ n + 1 < 0 := by omega
          simp only [hs, hn, h1, h2, if_false, if_true]
          rw [Int.add_mul]; simp
        · have h1 : n < 0 := by omega
          simp only [hs, hn, h1, if_false, if_true]
          rw [Int.add_mul]; omega
theorem nextS_bd : ∀ (ns : List Int) (s : Nat) (m : Int), 0 ≤ m → (∀ x ∈ ns, -1 ≤ x ∧ x ≤ m) → ∀ x ∈ nextS ns s, -1 ≤ x ∧ x ≤ m + 1 := by
  intro ns
  induction ns with
  | nil => intro s m _ _ x hx; cases hx
  | cons n r ih =>
    intro s m hm h x hx
    simp only [nextS, List.mem_cons] at hx
    rcases hx with rfl | hx
    · have := h n (by simp)
      split
      · omega
      · split <;> omega
    · exact ih (s / 2) m hm (fun y hy => h y (by simp [hy])) x hx
def keyF : List Int → Int → Int
  | [], k => k
  | n :: ns, k => keyF ns (12 * k + n + 1)
theorem keyF_inj : ∀ (a b : List Int) (k k' : Int), a.length = b.length → (∀ x ∈ a, -1 ≤ x ∧ x ≤ 10) → (∀ x ∈ b, -1 ≤ x ∧ x ≤ 10) → keyF a k = keyF b k' → k = k' ∧ a = b := by
  intro a
  induction a with
  | nil => intro b k k' h _ _ e; obtain rfl := List.eq_nil_of_length_eq_zero h.symm; exact ⟨e, rfl⟩
  | cons x r ih =>
    intro b k k' h ha hb e
    cases b with
    | nil => simp at h
    | cons y q =>
      have h1 := ha x (by simp)
      have h2 := hb y (by simp)
      obtain ⟨h3, h4⟩ := ih q _ _ (by simpa using h) (fun z hz => ha z (by simp [hz])) (fun z hz => hb z (by simp [hz])) e
      have : k = k' := by omega
      have : x = y := by omega
      subst this; subst h4
      exact ⟨by assumption, rfl⟩
theorem keyF_bd : ∀ (a : List Int) (k : Int), 0 ≤ k → (∀ x ∈ a, -1 ≤ x ∧ x ≤ 10) → 0 ≤ keyF a k ∧ keyF a k < (12 : Int) ^ a.length * (k + 1) := by
  intro a
  induction a with
  | nil => intro k h _; simp [keyF]; omega
  | cons x r ih =>
    intro k h ha
    have h1 := ha x (by simp)
    have h2 := ih (12 * k + x + 1) (by omega) (fun y hy => ha y (by simp [hy]))
    refine ⟨h2.1, Int.lt_of_lt_of_le h2.2 ?_⟩
    simp only [List.length_cons]
    rw [Int.pow_succ, Int.mul_assoc]
    exact Int.mul_le_mul_of_nonneg_left (by omega) (Int.pow_nonneg (by omega))
/-! The program's state: what each state of wears costs, forward. -/
def Fwd (l : List G4) (trip : Int) (rem : Nat) (V B : Int) (M : List Int → Option Int) : Prop :=
  (∀ k c, M k = some c → 0 ≤ c ∧ c ≤ B ∧ V ≤ c + leastW l trip rem k) ∧ ∃ k c, M k = some c ∧ c + leastW l trip rem k = V
end Go.Proofs.Ytjibdabedagghaa
