/- Contracts of FogDrawn and SlotsOf of both packages, and of what they call. No conditions. -/
import Derived.Test.YthpfgmnhpnfopaaWe
namespace Go.Proofs.Ythpfgmnhpnfopaa
set_option linter.unusedSimpArgs false
set_option linter.unusedVariables false
open Go.RowKit

def drawn (key link slot : Int) : Bool := decide (mix [key, link, slot] % 100 < chance slot)
def slotsL (key link : Int) (n : Nat) : List Bool := (List.range n).map fun (i : Nat) => drawn key link (i : Int)
theorem slotsL_succ (key link : Int) (n : Nat) : slotsL key link (n + 1) = slotsL key link n ++ [drawn key link (n : Int)] := by simp [slotsL, List.range_succ]
@[simp] theorem length_slotsL (key link : Int) (n : Nat) : (slotsL key link n).length = n := by simp [slotsL]
def fogDrawnR (key link slot : Int) : Bool × Bool := if inB key 0 1000000000 = true ∧ inB link 0 39 = true ∧ inB slot 0 19 = true then (drawn key link slot, true) else (false, false)
def slotsR (key link slots : Int) : List Bool × Bool := if inB key 0 1000000000 = true ∧ inB link 0 39 = true ∧ inB slots 0 20 = true then (slotsL key link slots.toNat, true) else ([], false)

theorem weKey_any (a : Int) (w : World) : Calls Try.prog 74 #[.int .i64 a] w fun e w' => e = .returned (.bool (inB a 0 1000000000)) ∧ w = w' := by
  go_enter Try.func74, Try.ntmps74
  go_wp2_with (go_at_call 75; refine (l1In_any _ _ _ _).mono ?_; rintro e w' ⟨rfl, rfl⟩)
  go_ret
  exact ⟨rfl, rfl⟩
theorem weSlot_any (a : Int) (w : World) : Calls Try.prog 70 #[.int .i64 a] w fun e w' => e = .returned (.bool (inB a 0 19)) ∧ w = w' := by
  go_enter Try.func70, Try.ntmps70
  go_wp2_with (go_at_call 75; refine (l1In_any _ _ _ _).mono ?_; rintro e w' ⟨rfl, rfl⟩)
  go_ret
  exact ⟨rfl, rfl⟩

theorem weDrawn_any (key link slot : Int) (w : World) (h1 : 0 ≤ key ∧ key ≤ 1000000000) (h2 : 0 ≤ link ∧ link ≤ 1000000000) (h3 : 0 ≤ slot ∧ slot ≤ 1000000000) :
    Calls Try.prog 76 #[.int .i64 key, .int .i64 link, .int .i64 slot] w fun e w' => e = .returned (.bool (drawn key link slot)) ∧ Below w.heap.size w w' := by
  have c1 := weMix_any (some ⟨w.heap.size, 0, none⟩) 3 3 [key, link, slot] _ (by omega) (reads_lit w (ints [key, link, slot]) 3) (by simp; omega)
  have hm := mix_bd [key, link, slot] (by simp)
  have hD : drawn key link slot = decide (mix [key, link, slot] % 100 < chance slot) := rfl
  have HD := Lib.hid hD
  clear hD
  generalize mix [key, link, slot] = m at c1 hm HD
  have C1 := Lib.hid c1; clear c1
  go_enter Try.func76, Try.ntmps76
  go_wp2_with (first | (go_at_call 81; refine (C1.out).mono ?_; rintro e w1 ⟨rfl, hb⟩) | (go_at_call 71; refine (weChance_any _ _ h3.1).mono ?_; rintro e w' ⟨rfl, rfl⟩))
  go_ret
  exact ⟨ret_bool HD.out.symm, ((Below.refl _ _).alloc (Nat.le_refl _) _).trans (hb.mono (by simp))⟩

theorem fogDrawn_any (key link slot : Int) (w : World) (h1 : 0 ≤ key ∧ key ≤ 1000000000) (h2 : 0 ≤ link ∧ link ≤ 1000000000) (h3 : 0 ≤ slot ∧ slot ≤ 1000000000) :
    Calls Try.prog 77 #[.int .i64 key, .int .i64 link, .int .i64 slot] w fun e w' => e = .returned (.bool (drawn key link slot)) ∧ Below w.heap.size w w' := by
  have c1 := fogMix_any (some ⟨w.heap.size, 0, none⟩) 3 3 [key, link, slot] _ (by omega) (reads_lit w (ints [key, link, slot]) 3) (by simp; omega)
  have hm := mix_bd [key, link, slot] (by simp)
  have hD : drawn key link slot = decide (mix [key, link, slot] % 100 < chance slot) := rfl
  have HD := Lib.hid hD
  clear hD
  generalize mix [key, link, slot] = m at c1 hm HD
  have C1 := Lib.hid c1; clear c1
  go_enter Try.func77, Try.ntmps77
  go_wp2_with (first | (go_at_call 83; refine (C1.out).mono ?_; rintro e w1 ⟨rfl, hb⟩) | (go_at_call 73; refine (fogChance_any _ _ h3.1).mono ?_; rintro e w' ⟨rfl, rfl⟩))
  go_ret
  exact ⟨ret_bool HD.out.symm, ((Below.refl _ _).alloc (Nat.le_refl _) _).trans (hb.mono (by simp))⟩

theorem specFogDrawn_any (key link slot : Int) (w : World) :
    Calls Try.prog 17 #[.int .i64 key, .int .i64 link, .int .i64 slot] w fun e w' => e = .returned (.tuple #[.bool (fogDrawnR key link slot).1, .bool (fogDrawnR key link slot).2]) ∧ Below w.heap.size w w' := by
  cases h1 : inB key 0 1000000000 <;> cases h2 : inB link 0 39 <;> cases h3 : inB slot 0 19
  case true.true.true =>
    have hr : fogDrawnR key link slot = (drawn key link slot, true) := by simp [fogDrawnR, h1, h2, h3]
    rw [hr]
    have H := Lib.hid (And.intro (inB_true.1 h1) (And.intro (inB_true.1 h2) (inB_true.1 h3)))
    clear hr
    go_enter Try.func17, Try.ntmps17
    go_wp2_with (first | (go_at_call 74; refine (weKey_any _ _).mono ?_; rintro e w' ⟨rfl, rfl⟩) | (go_at_call 75; refine (l1In_any _ _ _ _).mono ?_; rintro e w' ⟨rfl, rfl⟩) | (go_at_call 70; refine (weSlot_any _ _).mono ?_; rintro e w' ⟨rfl, rfl⟩) | (go_at_call 76; refine (weDrawn_any _ _ _ _ H.out.1 ⟨H.out.2.1.1, by have := H.out.2.1.2; omega⟩ ⟨H.out.2.2.1, by have := H.out.2.2.2; omega⟩).mono ?_; rintro e w' ⟨rfl, hb⟩))
    go_ret2
    exact ⟨rfl, hb⟩
  all_goals
    have hr : fogDrawnR key link slot = (false, false) := by simp [fogDrawnR, h1, h2, h3]
    rw [hr]
    clear hr
    go_enter Try.func17, Try.ntmps17
    go_wp2_with (first | (go_at_call 74; refine (weKey_any _ _).mono ?_; rintro e w' ⟨rfl, rfl⟩) | (go_at_call 75; refine (l1In_any _ _ _ _).mono ?_; rintro e w' ⟨rfl, rfl⟩) | (go_at_call 70; refine (weSlot_any _ _).mono ?_; rintro e w' ⟨rfl, rfl⟩))
    go_ret2
    exact ⟨rfl, Below.refl _ _⟩

theorem implFogDrawn_any (key link slot : Int) (w : World) :
    Calls Try.prog 18 #[.int .i64 key, .int .i64 link, .int .i64 slot] w fun e w' => e = .returned (.tuple #[.bool (fogDrawnR key link slot).1, .bool (fogDrawnR key link slot).2]) ∧ Below w.heap.size w w' := by
  cases h1 : inB key 0 1000000000 <;> cases h2 : inB link 0 39 <;> cases h3 : inB slot 0 19
  case true.true.true =>
    have hr : fogDrawnR key link slot = (drawn key link slot, true) := by simp [fogDrawnR, h1, h2, h3]
    rw [hr]
    have H := Lib.hid (And.intro (inB_true.1 h1) (And.intro (inB_true.1 h2) (inB_true.1 h3)))
    clear hr
    go_enter Try.func18, Try.ntmps18
    go_wp2_with (first | (go_at_call 72; refine (within_any _ _ _ _).mono ?_; rintro e w' ⟨rfl, rfl⟩) | (go_at_call 72; refine (within_any _ _ _ _).mono ?_; rintro e w' ⟨rfl, rfl⟩) | (go_at_call 72; refine (within_any _ _ _ _).mono ?_; rintro e w' ⟨rfl, rfl⟩) | (go_at_call 77; refine (fogDrawn_any _ _ _ _ H.out.1 ⟨H.out.2.1.1, by have := H.out.2.1.2; omega⟩ ⟨H.out.2.2.1, by have := H.out.2.2.2; omega⟩).mono ?_; rintro e w' ⟨rfl, hb⟩))
    go_ret2
    exact ⟨rfl, hb⟩
  all_goals
    have hr : fogDrawnR key link slot = (false, false) := by simp [fogDrawnR, h1, h2, h3]
    rw [hr]
    clear hr
    go_enter Try.func18, Try.ntmps18
    go_wp2_with (first | (go_at_call 72; refine (within_any _ _ _ _).mono ?_; rintro e w' ⟨rfl, rfl⟩) | (go_at_call 72; refine (within_any _ _ _ _).mono ?_; rintro e w' ⟨rfl, rfl⟩) | (go_at_call 72; refine (within_any _ _ _ _).mono ?_; rintro e w' ⟨rfl, rfl⟩))
    go_ret2
    exact ⟨rfl, Below.refl _ _⟩

set_option maxHeartbeats 400000 in
theorem law_FnExactFogDrawn (w : World) {v0 v1 v2 : Value} (h0 : IsInt v0) (h1 : IsInt v1) (h2 : IsInt v2) :
    Calls Try.prog 4 #[v0, v1, v2] w fun e w' => e = .returned (.bool true) ∧ Below w.heap.size w w' := by
  obtain ⟨a, rfl, _⟩ := h0
  obtain ⟨b, rfl, _⟩ := h1
  obtain ⟨c, rfl, _⟩ := h2
  go_enter Try.func4, Try.ntmps4
  go_wp2_with fail
  refine (specFogDrawn_any a b c w).mono ?_
  rintro e w1 ⟨rfl, hb1⟩
  have H1 := Lib.hid hb1; clear hb1
  go_wp2_with fail
  refine (implFogDrawn_any a b c w1).mono ?_
  rintro e w2 ⟨rfl, hb2⟩
  have H2 := Lib.hid (below_then H1.out hb2); clear hb2
  go_wp2_with fail
  go_ret
  exact ⟨rfl, H2.out⟩
end Go.Proofs.Ythpfgmnhpnfopaa
