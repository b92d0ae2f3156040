/- The law FnExactLeastPlanCost. No conditions. -/
import Derived.Test.YtjibdabedagghaaLpB
import Derived.Test.YtjibdabedagghaaLp6
namespace Go.Proofs.Ytjibdabedagghaa
set_option linter.unusedSimpArgs false
set_option linter.unusedVariables false
open Go.RowKit
theorem specLeast_law (A : Option Addr) (n c : Nat) (l : List G4) (D : Int) (trip : Int) (w : World) (hn : n ≤ 1000000000) (h : Reads w 4 A n (rows4 l)) :
    Calls Try.prog 41 #[.slice A n c, .int .i64 D, .int .i64 trip] w fun e w' => e = .returned (.tuple #[.int .i64 (leastR l D trip).1, .bool (leastR l D trip).2]) ∧ Below w.heap.size w w' := specLeast_any A n c D trip l w hn h
theorem implLeast_law (A : Option Addr) (n c : Nat) (l : List G4) (D : Int) (trip : Int) (w : World) (hn : n ≤ 1000000000) (h : Reads w 4 A n (rows4 l)) :
    Calls Try.prog 42 #[.slice A n c, .int .i64 D, .int .i64 trip] w fun e w' => e = .returned (.tuple #[.int .i64 (leastR l D trip).1, .bool (leastR l D trip).2]) ∧ Below w.heap.size w w' := implLeast_any A n c D trip l w hn h
set_option maxHeartbeats 4000000 in
set_option maxRecDepth 100000 in
theorem law_FnExactLeastPlanCost (w : World) {v0 v1 v2 : Value} (h0 : IsRows4 w v0) (h1 : IsInt v1) (h2 : IsInt v2) :
    Calls Try.prog 9 #[v0, v1, v2] w fun e w' => e = .returned (.bool true) ∧ Below w.heap.size w w' := by
  obtain ⟨A0, n0, c0, xs0, rfl, hnc0, hcm0, _, hr0, _⟩ := h0
  obtain ⟨a1, rfl, _⟩ := h1
  obtain ⟨a2, rfl, _⟩ := h2
  have HR0 := Lib.hid (hr0); clear hr0
  by_cases hn0 : n0 ≤ 1048576
  rotate_left
  · go_enter Try.func9, Try.ntmps9
    go_wp2_with fail
    refine (szGearS_big A0 n0 c0 1048576 _ (by omega) (by omega) (by omega)).mono ?_
    rintro e w' ⟨rfl, rfl⟩
    go_wp2_with fail
    go_ret
    exact ⟨rfl, (Below.refl _ _)⟩
  obtain ⟨S0, hS0⟩ : ∃ S0, S0 = w := ⟨_, rfl⟩
  have HS0 := Lib.hid hS0
  have BW0 : Hid (Below w.heap.size w S0 ∧ w.heap.size ≤ S0.heap.size) := Lib.hid (by subst hS0; exact ⟨(Below.refl _ _), by simp; try omega⟩)
  rw [← hS0] at HR0
  clear hS0
  go_enter Try.func9, Try.ntmps9
  go_wp2_with fail
  refine (szGearS_ok A0 n0 c0 1048576 _ (by omega) (by omega)).mono ?_
  rintro e w' ⟨rfl, rfl⟩
  have BB0 : Hid (Below S0.heap.size S0 S0) := Lib.hid (Below.refl _ _)
  try rw [← HS0.out]
  go_wp2_with fail
  try rw [← HS0.out]
  refine (toGearS_any A0 n0 c0 xs0 S0 (by omega) (HR0.out.below BB0.out)).mono ?_
  rintro e w1 ⟨As0, cs0, rfl, hown, hb⟩
  have Os0_1 := Lib.hid hown; clear hown
  have Ls0 := Lib.hid (own_lt Os0_1.out)
  have B0 := Lib.hid hb; clear hb
  have Z0 := Lib.hid (B0.out.size)
  have BB1 := Lib.hid (BB0.out.trans (B0.out.mono BB0.out.size))
  go_wp2_with fail
  refine (specLeast_law As0 n0 cs0 xs0 a1 a2 w1 (by omega) (Reads.of_own Os0_1.out)).mono ?_
  rintro e w2 ⟨rfl, hb⟩
  have B1 := Lib.hid hb; clear hb
  have Z1 := Lib.hid (B1.out.size)
  have BB2 := Lib.hid (BB1.out.trans (B1.out.mono BB1.out.size))
  have Os0_2 := Lib.hid (own_below Os0_1.out B1.out)
  go_wp2_with fail
  refine (toGearS_any A0 n0 c0 xs0 w2 (by omega) (HR0.out.below BB2.out)).mono ?_
  rintro e w3 ⟨Ax0, cx0, rfl, hown, hb⟩
  have Ox0_3 := Lib.hid hown; clear hown
  have Lx0 := Lib.hid (own_lt Ox0_3.out)
  have B2 := Lib.hid hb; clear hb
  have Z2 := Lib.hid (B2.out.size)
  have BB3 := Lib.hid (BB2.out.trans (B2.out.mono BB2.out.size))
  go_wp2_with fail
  refine (implLeast_law Ax0 n0 cx0 xs0 a1 a2 w3 (by omega) (Reads.of_own Ox0_3.out)).mono ?_
  rintro e w4 ⟨rfl, hb⟩
  have B3 := Lib.hid hb; clear hb
  have Z3 := Lib.hid (B3.out.size)
  have BB4 := Lib.hid (BB3.out.trans (B3.out.mono BB3.out.size))
  have Ox0_4 := Lib.hid (own_below Ox0_3.out B3.out)
  go_wp2_with fail
  refine (toGearS_any A0 n0 c0 xs0 w4 (by omega) (HR0.out.below BB4.out)).mono ?_
  rintro e w5 ⟨At0, ct0, rfl, hown, hb⟩
  have Ot0_5 := Lib.hid hown; clear hown
  have Lt0 := Lib.hid (own_lt Ot0_5.out)
  have B4 := Lib.hid hb; clear hb
  have Z4 := Lib.hid (B4.out.size)
  have BB5 := Lib.hid (BB4.out.trans (B4.out.mono BB4.out.size))
  have Ox0_5 := Lib.hid (own_below Ox0_4.out B4.out)
  go_wp2_with fail
  refine (eqGearS_any Ax0 At0 n0 cx0 ct0 xs0 w5 (by omega) (Reads.of_own Ox0_5.out) (Reads.of_own Ot0_5.out)).mono ?_
  rintro e w6 ⟨rfl, hb⟩
  have B5 := Lib.hid hb; clear hb
  have Z5 := Lib.hid (B5.out.size)
  have BB6 := Lib.hid (BB5.out.trans (B5.out.mono BB5.out.size))
  have Ox0_6 := Lib.hid (own_below Ox0_5.out B5.out)
  have Ot0_6 := Lib.hid (own_below Ot0_5.out B5.out)
  go_wp2_with fail
  go_ret
  exact ⟨rfl, BW0.out.1.trans (BB6.out.mono BW0.out.2)⟩

end Go.Proofs.Ytjibdabedagghaa
