/- Fogs out of slots are fogs in order, and their seconds tell the slots. Speaks of no function. No conditions. -/
import Derived.Test.YthpfgmnhpnfopaaFgK
import Derived.Test.YthpfgmnhpnfopaaFgD
namespace Go.Proofs.Ythpfgmnhpnfopaa
set_option linter.unusedSimpArgs false
set_option linter.unusedVariables false
open Go.RowKit

def NxF (F : List S3) : Prop := ∀ (j : Nat) (h : j + 1 < F.length), nxtFog (F[j]'(by omega)) F[j + 1]
theorem NxF.nil : NxF [] := fun j h => absurd h (by simp)
theorem NxF.one (x : S3) : NxF [x] := fun j h => absurd h (by simp)
theorem NxF.init {G : List S3} {x : S3} (h : NxF (G ++ [x])) : NxF G := fun j hj => by
  have h1 := h j (by simp; omega)
  rw [List.getElem_append_left (by omega), List.getElem_append_left (by omega)] at h1
  exact h1
theorem NxF.last {G : List S3} {x y : S3} (h : NxF (G ++ [x] ++ [y])) : nxtFog x y := by
  have h1 := h G.length (by simp)
  rw [List.getElem_append_left (by simp), List.getElem_append_right (by simp), List.getElem_append_right (by simp)] at h1
  simpa using h1
theorem NxF.snoc {G : List S3} {x y : S3} (h : NxF (G ++ [x])) (hn : nxtFog x y) : NxF (G ++ [x] ++ [y]) := fun j hj => by
  simp only [List.length_append, List.length_cons, List.length_nil] at hj
  by_cases hl : j + 1 < (G ++ [x]).length
  · rw [List.getElem_append_left (by omega), List.getElem_append_left hl]
    exact h j hl
  · have hje : j = G.length := by simp at hl; omega
    subst hje
    rw [List.getElem_append_left (by simp), List.getElem_append_right (by simp), List.getElem_append_right (by simp)]
    simpa using hn
theorem NxF.change {G : List S3} {x y : S3} (h : NxF (G ++ [x])) (h1 : y.1 = x.1) (h2 : y.2.1 = x.2.1) : NxF (G ++ [y]) := by
  rcases snoc_or_nil G with rfl | ⟨G, z, rfl⟩
  · exact NxF.one y
  · refine h.init.snoc ?_
    have hz := h.last
    unfold nxtFog at hz ⊢
    rw [h1, h2]
    exact hz
/-- Fogs of the links below i and of link i up to slot j. -/
def InvF (i j : Nat) (F : List S3) : Prop := (∀ x ∈ F, 0 ≤ x.1 ∧ (x.1 < (i : Int) ∨ (x.1 = (i : Int) ∧ x.2.2 ≤ (j : Int) * 500)) ∧ 0 ≤ x.2.1 ∧ x.2.1 < x.2.2 ∧ x.2.2 ≤ 10000) ∧ NxF F
theorem InvF.nil (i j : Nat) : InvF i j [] := ⟨fun x hx => (by cases hx), NxF.nil⟩
theorem InvF.skip {i j : Nat} {F : List S3} (h : InvF i j F) : InvF i (j + 1) F :=
  ⟨fun x hx => by have h1 := h.1 x hx; push_cast; omega, h.2⟩
theorem InvF.next {i j : Nat} {F : List S3} (h : InvF i j F) : InvF (i + 1) 0 F :=
  ⟨fun x hx => by have h1 := h.1 x hx; push_cast; omega, h.2⟩
theorem InvF.step {i j : Nat} {F : List S3} (h : InvF i j F) (hj : j < 20) : InvF i (j + 1) (stepF i j F) := by
  rcases snoc_or_nil F with rfl | ⟨G, x, rfl⟩
  · rw [stepF_nil]
    refine ⟨fun y hy => ?_, NxF.one _⟩
    simp only [List.mem_singleton] at hy
    subst hy
    exact ⟨by first | (simp only; omega) | omega, .inr ⟨by first | rfl | omega | (simp only; omega), by (try simp only); push_cast; omega⟩, by (try simp only); omega, by (try simp only); omega, by (try simp only); omega⟩
  · have hx := h.1 x (by simp)
    rw [stepF_snoc]
    split
    · rename_i he
      refine ⟨fun y hy => ?_, h.2.change rfl rfl⟩
      rcases List.mem_append.1 hy with hy | hy
      · have h1 := h.1 y (by simp [hy])
        push_cast
        omega
      · simp only [List.mem_singleton] at hy
        subst hy
        exact ⟨by first | (simp only; omega) | omega, .inr ⟨by first | rfl | omega | (simp only; omega), by (try simp only); push_cast; omega⟩, by (try simp only); omega, by (try simp only); omega, by (try simp only); omega⟩
    · rename_i he
      refine ⟨fun y hy => ?_, h.2.snoc ?_⟩
      · rcases List.mem_append.1 hy with hy | hy
        · have h1 := h.1 y hy
          push_cast
          omega
        · simp only [List.mem_singleton] at hy
          subst hy
          exact ⟨by first | (simp only; omega) | omega, .inr ⟨by first | rfl | omega | (simp only; omega), by (try simp only); push_cast; omega⟩, by (try simp only); omega, by (try simp only); omega, by (try simp only); omega⟩
      · unfold nxtFog
        simp only
        omega
theorem InvF.row {i : Nat} : ∀ (l : List Bool) (j : Nat) (F : List S3), InvF i j F → j + l.length ≤ 20 → InvF i (j + l.length) (rowF i j l F) := by
  intro l
  induction l with
  | nil => intro j F h _; exact h
  | cons b r ih =>
    intro j F h hj
    simp only [List.length_cons] at hj ⊢
    have e : j + (r.length + 1) = j + 1 + r.length := by omega
    rw [e]
    refine ih (j + 1) _ ?_ (by omega)
    cases b with
    | true => exact h.step (by omega)
    | false => exact h.skip
theorem InvF.all : ∀ (L : List (List Bool)) (i : Nat) (F : List S3), InvF i 0 F → (∀ l ∈ L, l.length ≤ 20) → InvF (i + L.length) 0 (fogsF i L F) := by
  intro L
  induction L with
  | nil => intro i F h _; exact h
  | cons l r ih =>
    intro i F h hl
    have e : i + (l :: r).length = i + 1 + r.length := by simp only [List.length_cons]; omega
    rw [e]
    exact ih (i + 1) _ (InvF.row l 0 F h (by have := hl l (by simp); omega)).next fun l' hl' => hl l' (by simp [hl'])
theorem fogsOk_fogsF {L : List (List Bool)} {nK : Nat} (hn : L.length = nK) (hl : ∀ l ∈ L, l.length ≤ 20) (h60 : (fogsF 0 L []).length ≤ 60) : FogsOk nK (fogsF 0 L []) := by
  have h := InvF.all L 0 [] (InvF.nil 0 0) hl
  rw [Nat.zero_add, hn] at h
  refine ⟨fun x hx => ?_, h.2, h60⟩
  have h1 := h.1 x hx
  unfold okFog
  omega
theorem sec_step {i j : Nat} {F : List S3} (h : InvF i j F) (l k : Nat) : secF (l : Int) ((k : Int) * 500) (((k : Int) + 1) * 500) (stepF i j F) = secF (l : Int) ((k : Int) * 500) (((k : Int) + 1) * 500) F + (if l = i ∧ k = j then 500 else 0) := by
  have hnew : secF (l : Int) ((k : Int) * 500) (((k : Int) + 1) * 500) [((i : Int), (j : Int) * 500, ((j : Int) + 1) * 500)] = (if l = i ∧ k = j then 500 else 0) := by
    simp only [secF, sec1]
    split <;> split <;> omega
  rcases snoc_or_nil F with rfl | ⟨G, x, rfl⟩
  · rw [stepF_nil, hnew]
    simp [secF]
  · have hx := h.1 x (by simp)
    rw [stepF_snoc]
    split
    · rename_i he
      rw [secF_app, secF_app]
      have : secF (l : Int) ((k : Int) * 500) (((k : Int) + 1) * 500) [(x.1, x.2.1, x.2.2 + 500)] = secF (l : Int) ((k : Int) * 500) (((k : Int) + 1) * 500) [x] + (if l = i ∧ k = j then 500 else 0) := by
        simp only [secF, sec1]
        split <;> split <;> omega
      rw [this]
      omega
    · rw [secF_app _ _ _ (G ++ [x]), hnew]
def slotAt (L : List (List Bool)) (l k : Nat) : Bool := (L.getD l []).getD k false
theorem sec_row {i : Nat} (l k : Nat) : ∀ (r : List Bool) (j : Nat) (F : List S3), InvF i j F → j + r.length ≤ 20 → secF (l : Int) ((k : Int) * 500) (((k : Int) + 1) * 500) (rowF i j r F) = secF (l : Int) ((k : Int) * 500) (((k : Int) + 1) * 500) F + (if l = i ∧ j ≤ k ∧ r.getD (k - j) false = true then 500 else 0) := by
  intro r
  induction r with
  | nil => intro j F _ _; simp [rowF]
  | cons b r ih =>
    intro j F h hj
    simp only [List.length_cons] at hj
    have hi : InvF i (j + 1) (if b = true then stepF i j F else F) := by
      cases b with
      | true => exact h.step (by omega)
      | false => exact h.skip
    simp only [rowF]
    rw [ih (j + 1) _ hi (by omega)]
    have hs : secF (l : Int) ((k : Int) * 500) (((k : Int) + 1) * 500) (if b = true then stepF i j F else F) = secF (l : Int) ((k : Int) * 500) (((k : Int) + 1) * 500) F + (if b = true then (if l = i ∧ k = j then 500 else 0) else 0) := by
      cases b with
      | true => simpa using sec_step h l k
      | false => simp
    rw [hs]
    by_cases hk : k = j
    · subst hk
      cases b <;> simp <;> omega
    · by_cases hlt : j + 1 ≤ k
      · have e : k - j = (k - (j + 1)) + 1 := by omega
        rw [e, List.getD_cons_succ]
        have e2 : (l = i ∧ j + 1 ≤ k ∧ r.getD (k - (j + 1)) false = true) ↔ (l = i ∧ j ≤ k ∧ r.getD (k - (j + 1)) false = true) := by
          constructor
          · rintro ⟨a, b, c⟩; exact ⟨a, by omega, c⟩
          · rintro ⟨a, b, c⟩; exact ⟨a, by omega, c⟩
        simp only [e2, hk, and_false, if_false, ite_self, Int.add_zero]
      · have n1 : ¬ (l = i ∧ j + 1 ≤ k ∧ r.getD (k - (j + 1)) false = true) := fun h' => hlt h'.2.1
        have n2 : ¬ (l = i ∧ j ≤ k ∧ (b :: r).getD (k - j) false = true) := fun h' => by have := h'.2.1; omega
        rw [if_neg n1, if_neg n2]
        simp [hk]
theorem sec_all (l k : Nat) : ∀ (L : List (List Bool)) (i : Nat) (F : List S3), InvF i 0 F → (∀ r ∈ L, r.length ≤ 20) → secF (l : Int) ((k : Int) * 500) (((k : Int) + 1) * 500) (fogsF i L F) = secF (l : Int) ((k : Int) * 500) (((k : Int) + 1) * 500) F + (if i ≤ l ∧ slotAt L (l - i) k = true then 500 else 0) := by
  intro L
  induction L with
  | nil => intro i F _ _; simp [fogsF, slotAt]
  | cons r L ih =>
    intro i F h hl
    have h1 := InvF.row r 0 F h (by have := hl r (by simp); omega)
    simp only [fogsF]
    rw [ih (i + 1) _ h1.next (fun l' hl' => hl l' (by simp [hl'])), sec_row l k r 0 F h (by have := hl r (by simp); omega)]
    by_cases hk : l = i
    · subst hk
      have n1 : ¬ (l + 1 ≤ l ∧ slotAt L (l - (l + 1)) k = true) := fun h' => by have := h'.1; omega
      rw [if_neg n1]
      simp [slotAt]
    · by_cases hlt : i + 1 ≤ l
      · have e : l - i = (l - (i + 1)) + 1 := by omega
        have e2 : slotAt (r :: L) (l - i) k = slotAt L (l - (i + 1)) k := by rw [e]; simp [slotAt]
        have e3 : i ≤ l := by omega
        rw [e2]
        simp [hk, hlt, e3]
      · have n1 : ¬ (i + 1 ≤ l ∧ slotAt L (l - (i + 1)) k = true) := fun h' => hlt h'.1
        have n2 : ¬ (l = i ∧ 0 ≤ k ∧ r.getD (k - 0) false = true) := fun h' => hk h'.1
        have n3 : ¬ (i ≤ l ∧ slotAt (r :: L) (l - i) k = true) := fun h' => by have := h'.1; omega
        rw [if_neg n1, if_neg n2, if_neg n3]
        simp
/-- The seconds of fog in a slot. -/
theorem sec_slot {L : List (List Bool)} (hl : ∀ r ∈ L, r.length ≤ 20) (l k : Nat) : secF (l : Int) ((k : Int) * 500) (((k : Int) + 1) * 500) (fogsF 0 L []) = (if slotAt L l k = true then 500 else 0) := by
  rw [sec_all l k L 0 [] (InvF.nil 0 0) hl]
  simp [secF]
theorem slotAt_get {L : List (List Bool)} {l k : Nat} {r : List Bool} (hr : L[l]? = some r) (hk : k < r.length) : slotAt L l k = r[k] := by
  simp [slotAt, List.getD, hr, hk]
/-- What a good answer of FogsBySlots tells. -/
theorem fogsR_facts {T K : List S3} {B : List (List Bool)} (h : (fogsR T K B).2 = true) : netB T K = true ∧ B.length = K.length ∧ K.length ≤ 40 ∧ (∀ l ∈ B, l.length ≤ 20) ∧ (fogsR T K B).1 = fogsF 0 B [] ∧ FogsOk K.length (fogsF 0 B []) := by
  unfold fogsR at h ⊢
  split at h
  · rename_i hc
    rw [if_pos hc]
    exact ⟨hc.1, hc.2.1, netB_len hc.1, okRows_len hc.2.2.1, rfl, fogsOk_fogsF hc.2.1 (okRows_len hc.2.2.1) hc.2.2.2⟩
  · cases h
/-- What a good answer of FogsByKey tells. -/
theorem fogsK_facts {T K : List S3} {key slots : Int} (h : (fogsK T K key slots).2 = true) : netB T K = true ∧ K.length ≤ 40 ∧ (0 ≤ key ∧ key ≤ 1000000000) ∧ (0 ≤ slots ∧ slots ≤ 20) ∧ (fogsK T K key slots).1 = (fogsR T K (rowsK key K.length slots.toNat)).1 ∧ (fogsR T K (rowsK key K.length slots.toNat)).2 = true ∧ (∀ l : Nat, l < K.length → slotsR key (l : Int) slots = (slotsL key (l : Int) slots.toNat, true)) := by
  unfold fogsK at h ⊢
  split at h
  · rename_i hc
    rw [if_pos hc]
    have hk := netB_len hc.1
    refine ⟨hc.1, hk, inB_true.1 hc.2.1, inB_true.1 hc.2.2, rfl, h, fun l hl => ?_⟩
    unfold slotsR
    rw [if_pos ⟨hc.2.1, inB_true.2 ⟨by omega, by omega⟩, hc.2.2⟩]
  · cases h
end Go.Proofs.Ythpfgmnhpnfopaa
