/- Contracts of the small functions of chapter 27 and of the tests on ranges. No conditions. -/
import Derived.Test.YthpfgmnhpnfopaaProg
import Derived.Test.YthpfgmnhpnfopaaLib
namespace Go.Proofs.Ythpfgmnhpnfopaa
open Go.RowKit

theorem law_FnExactFogChance (w : World) {v : Value} (h : IsInt v) :
    Calls Try.prog 3 #[v] w fun e w' => e = .returned (.bool true) ∧ Below w.heap.size w w' := by
  obtain ⟨s, rfl, _⟩ := h
  by_cases h1 : 0 ≤ s
  · by_cases h2 : s ≤ 19
    · by_cases h3 : s % 10 < 3
      · go_enter Try.func3, Try.ntmps3
        go_wp2
        go_ret
        exact ⟨rfl, Below.refl _ _⟩
      · go_enter Try.func3, Try.ntmps3
        go_wp2
        go_ret
        exact ⟨rfl, Below.refl _ _⟩
    · go_enter Try.func3, Try.ntmps3
      go_wp2
      go_ret
      exact ⟨rfl, Below.refl _ _⟩
  · go_enter Try.func3, Try.ntmps3
    go_wp2
    go_ret
    exact ⟨rfl, Below.refl _ _⟩
end Go.Proofs.Ythpfgmnhpnfopaa
