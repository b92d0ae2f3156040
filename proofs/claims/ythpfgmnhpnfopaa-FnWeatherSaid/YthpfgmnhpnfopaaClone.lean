/- Contracts of the two functions that copy a slice of integers. No conditions. -/
import Derived.Test.YthpfgmnhpnfopaaCom
namespace Go.Proofs.Ythpfgmnhpnfopaa
set_option linter.unusedSimpArgs false
set_option linter.unusedVariables false
open Go.RowKit

theorem one_ints (l : List Int) : ∀ u ∈ ints l, u.oneCell' = true := by
  intro u hu
  obtain ⟨x, _, rfl⟩ := List.mem_map.1 hu
  rfl
theorem one_bools (l : List Bool) : ∀ u ∈ bools l, u.oneCell' = true := by
  intro u hu
  obtain ⟨x, _, rfl⟩ := List.mem_map.1 hu
  rfl
theorem l1Own_any (A : Option Addr) (n c : Nat) (xs : List Int) (w : World) (hn : n ≤ 1000000000) (h : Reads w 1 A n (ints xs)) :
    Calls Try.prog 112 #[.slice A n c] w (Made w 3 1 n (ints xs)) := by
  go_enter Try.func112, Try.ntmps112
  go_wp2_with (at_builtin; refine wpList_push _ rfl (.tmp 3) (.tmp 4) 33 rfl w.heap.size 3 (.int .i64 0) 1 8 infoInt rfl (by omega) Try.underlying33 (some ⟨w.heap.size, 0, none⟩) 0 0 [] rfl (World.ownsRow_made w #[] 0 (Nat.le_refl _) (by unfold maxLen; omega) rfl) A n c (ints xs) rfl (h.alloc _) (one_ints xs) (by omega) (by omega) (by simp) ?_; intro A' c' w1 hown1 hg1 hb1)
  go_ret
  rw [Nat.zero_add, List.nil_append] at hown1
  exact ⟨A', c', by simp, hown1, ((Below.refl _ _).alloc (Nat.le_refl _) _).trans hb1⟩
set_option maxRecDepth 100000 in
theorem clone_any (A : Option Addr) (n c : Nat) (xs : List Int) (w : World) (hn : n ≤ 1000000000) (h : Reads w 1 A n (ints xs)) :
    Calls Try.prog 113 #[.slice A n c] w (Made w 3 1 n (ints xs)) := by
  rcases A with _ | ad
  · have hn0 : n = 0 := by
      rcases Nat.eq_zero_or_pos n with h0 | h0
      · exact h0
      · obtain ⟨_, h, _⟩ := h.2 h0
        cases h
    subst hn0
    have hx : ints xs = [] := List.eq_nil_of_length_eq_zero (by simpa using h.1)
    have HX := Lib.hid hx; clear hx h
    have hnil := fun (w : World) (n c n' c' : Nat) => Lib.run_eql_slice_nil (P := Try.prog) w 33 3 none n c n' c' Try.underlying33
    go_enter Try.func113, Try.ntmps113
    go_wp2
    go_ret
    exact ⟨none, 0, rfl, by rw [HX.out]; exact own_start, Below.refl _ _⟩
  · have hnil := fun (w : World) (n c n' c' : Nat) => Lib.run_eql_slice_nil (P := Try.prog) w 33 3 (some ad) n c n' c' Try.underlying33
    go_enter Try.func113, Try.ntmps113
    go_wp2_with (at_builtin; refine wpList_push _ rfl (.tmp 5) (.tmp 6) 33 rfl w.heap.size 3 (.int .i64 0) 1 8 infoInt rfl (by omega) Try.underlying33 (some ⟨w.heap.size, 0, none⟩) 0 0 [] rfl (World.ownsRow_made w #[] 0 (Nat.le_refl _) (by unfold maxLen; omega) rfl) (some ad) n c (ints xs) rfl (h.alloc _) (one_ints xs) (by omega) (by omega) (by simp) ?_; intro A' c' w1 hown1 hg1 hb1)
    go_ret
    rw [Nat.zero_add, List.nil_append] at hown1
    exact ⟨A', c', by simp, hown1, ((Below.refl _ _).alloc (Nat.le_refl _) _).trans hb1⟩
end Go.Proofs.Ythpfgmnhpnfopaa
