/- FogChance of both packages. No conditions. -/
import Derived.Test.YthpfgmnhpnfopaaWe3
import Derived.Test.YthpfgmnhpnfopaaWe2
namespace Go.Proofs.Ythpfgmnhpnfopaa
set_option linter.unusedSimpArgs false
set_option linter.unusedVariables false
open Go.RowKit

def fogChanceR (s : Int) : Int × Bool := if inB s 0 19 = true then (chance s, true) else (0, false)

theorem specFogChance_any (s : Int) (w : World) :
    Calls Try.prog 15 #[.int .i64 s] w fun e w' => e = .returned (.tuple #[.int .i64 (fogChanceR s).1, .bool (fogChanceR s).2]) ∧ Below w.heap.size w w' := by
  cases h1 : inB s 0 19 with
  | true =>
    have hr : fogChanceR s = (chance s, true) := by simp [fogChanceR, h1]
    rw [hr]
    have H := Lib.hid (inB_true.1 h1)
    clear hr
    go_enter Try.func15, Try.ntmps15
    go_wp2_with (first | (go_at_call 70; refine (weSlot_any _ _).mono ?_; rintro e w' ⟨rfl, rfl⟩) | (go_at_call 71; refine (weChance_any _ _ H.out.1).mono ?_; rintro e w' ⟨rfl, rfl⟩))
    go_ret2
    exact ⟨rfl, Below.refl _ _⟩
  | false =>
    have hr : fogChanceR s = (0, false) := by simp [fogChanceR, h1]
    rw [hr]
    clear hr
    go_enter Try.func15, Try.ntmps15
    go_wp2_with (first | (go_at_call 70; refine (weSlot_any _ _).mono ?_; rintro e w' ⟨rfl, rfl⟩))
    go_ret2
    exact ⟨rfl, Below.refl _ _⟩

theorem implFogChance_any (s : Int) (w : World) :
    Calls Try.prog 16 #[.int .i64 s] w fun e w' => e = .returned (.tuple #[.int .i64 (fogChanceR s).1, .bool (fogChanceR s).2]) ∧ Below w.heap.size w w' := by
  cases h1 : inB s 0 19 with
  | true =>
    have hr : fogChanceR s = (chance s, true) := by simp [fogChanceR, h1]
    rw [hr]
    have H := Lib.hid (inB_true.1 h1)
    clear hr
    go_enter Try.func16, Try.ntmps16
    go_wp2_with (first | (go_at_call 72; refine (within_any _ _ _ _).mono ?_; rintro e w' ⟨rfl, rfl⟩) | (go_at_call 73; refine (fogChance_any _ _ H.out.1).mono ?_; rintro e w' ⟨rfl, rfl⟩))
    go_ret2
    exact ⟨rfl, Below.refl _ _⟩
  | false =>
    have hr : fogChanceR s = (0, false) := by simp [fogChanceR, h1]
    rw [hr]
    clear hr
    go_enter Try.func16, Try.ntmps16
    go_wp2_with (first | (go_at_call 72; refine (within_any _ _ _ _).mono ?_; rintro e w' ⟨rfl, rfl⟩))
    go_ret2
    exact ⟨rfl, Below.refl _ _⟩

theorem fogMixR_facts {xs : List Int} (h : (fogMixR xs).2 = true) : 0 ≤ (fogMixR xs).1 ∧ (fogMixR xs).1 < 1000003 := by
  unfold fogMixR at h ⊢
  split at h
  · rename_i hc
    rw [if_pos hc]
    have := mix_bd xs (by omega)
    simp only
    omega
  · cases h
end Go.Proofs.Ythpfgmnhpnfopaa
