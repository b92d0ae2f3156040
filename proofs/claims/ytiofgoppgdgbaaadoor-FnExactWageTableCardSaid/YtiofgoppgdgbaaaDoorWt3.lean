/- The law of WageTable. No conditions but on the library's table. -/
import Derived.Test.YtiofgoppgdgbaaaDoorWt2
import Derived.Test.YtiofgoppgdgbaaaDoorMark
namespace Go.Proofs.YtiofgoppgdgbaaaDoor
set_option linter.unusedSimpArgs false
set_option linter.unusedVariables false
open Go.RowKit

set_option maxHeartbeats 4000000 in
set_option maxRecDepth 100000 in
theorem law_FnExactWageTable (w : World) {v0 v1 v2 : Value} (h0 : IsAgg4 v0) (h1 : IsRows3 w v1) (h2 : IsInts w v2) (hT : TabP w) :
    Calls Tryd.prog 3 #[v0, v1, v2] w fun e w' => e = .returned (.bool true) ∧ Below w.heap.size w w' := by
  have HTW := Lib.hid hT
  clear hT
  obtain ⟨a0, b0, c0, d0, rfl, _⟩ := h0
  obtain ⟨A1, n1, c1, xs1, rfl, hnc1, hcm1, _, hr1, _⟩ := h1
  obtain ⟨A2, n2, c2, xs2, rfl, _, _, hr2, _⟩ := h2
  have HR1 := Lib.hid ((hr1.alloc (.cells #[.int .i64 a0, .int .i64 b0, .int .i64 c0, .int .i64 d0] 23))); clear hr1
  have HR2 := Lib.hid ((hr2.alloc (.cells #[.int .i64 a0, .int .i64 b0, .int .i64 c0, .int .i64 d0] 23))); clear hr2
  by_cases hn2 : n2 ≤ 1048576
  rotate_left
  · go_enter Tryd.func3, Tryd.ntmps3
    go_wp2
    go_ret
    exact ⟨rfl, ((Below.refl _ _).alloc (by first | exact Nat.le_refl _ | (simp; done) | (simp; omega)) _)⟩
  by_cases hn1 : n1 ≤ 1048576
  rotate_left
  · go_enter Tryd.func3, Tryd.ntmps3
    go_wp2_with fail
    refine (szShiftS_big A1 n1 c1 1048576 _ (by omega) (by omega) (by omega)).mono ?_
    rintro e w' ⟨rfl, rfl⟩
    go_wp2_with fail
    go_ret
    exact ⟨rfl, ((Below.refl _ _).alloc (by first | exact Nat.le_refl _ | (simp; done) | (simp; omega)) _)⟩
  obtain ⟨S0, hS0⟩ : ∃ S0, S0 = (w.alloc (.cells #[.int .i64 a0, .int .i64 b0, .int .i64 c0, .int .i64 d0] 23)) := ⟨_, rfl⟩
  have KB0 : Hid (∀ W, Below S0.heap.size S0 W → W.cell? ⟨w.heap.size, 0, none⟩ = some (.int .i64 a0) ∧ W.cell? ⟨w.heap.size, 1, none⟩ = some (.int .i64 b0) ∧ W.cell? ⟨w.heap.size, 2, none⟩ = some (.int .i64 c0) ∧ W.cell? ⟨w.heap.size, 3, none⟩ = some (.int .i64 d0)) := Lib.hid (by
    intro W hW; subst hS0; exact box4 hW)
  have HS0 := Lib.hid hS0
  have BW0 : Hid (Below w.heap.size w S0 ∧ w.heap.size ≤ S0.heap.size) := Lib.hid (by subst hS0; exact ⟨((Below.refl _ _).alloc (by first | exact Nat.le_refl _ | (simp; done) | (simp; omega)) _), by simp; try omega⟩)
  rw [← hS0] at HR1
  rw [← hS0] at HR2
  clear hS0
  go_enter Tryd.func3, Tryd.ntmps3
  go_wp2_with fail
  refine (szShiftS_ok A1 n1 c1 1048576 _ (by omega) (by omega)).mono ?_
  rintro e w' ⟨rfl, rfl⟩
  have BB0 : Hid (Below S0.heap.size S0 S0) := Lib.hid (Below.refl _ _)
  try rw [← HS0.out]
  obtain ⟨ka0, kb0, kc0, kd0⟩ := KB0.out S0 BB0.out
  go_wp2_with fail
  try rw [← HS0.out]
  clear ka0 kb0 kc0 kd0
  refine (toPay_any a0 b0 c0 d0 S0).mono ?_
  rintro e w1 ⟨rfl, hb⟩
  have B0 := Lib.hid hb; clear hb
  have Z0 := Lib.hid (B0.out.size)
  have BB1 := Lib.hid (BB0.out.trans (B0.out.mono BB0.out.size))
  obtain ⟨ka0, kb0, kc0, kd0⟩ := KB0.out w1 BB1.out
  go_wp2_with fail
  clear ka0 kb0 kc0 kd0
  refine (toShiftS_any A1 n1 c1 xs1 w1 (by omega) (HR1.out.below BB1.out)).mono ?_
  rintro e w2 ⟨As1, cs1, rfl, hown, hb⟩
  have Os1_2 := Lib.hid hown; clear hown
  have Ls1 := Lib.hid (own_lt Os1_2.out)
  have B1 := Lib.hid hb; clear hb
  have Z1 := Lib.hid (B1.out.size)
  have BB2 := Lib.hid (BB1.out.trans (B1.out.mono BB1.out.size))
  obtain ⟨ka0, kb0, kc0, kd0⟩ := KB0.out w2 BB2.out
  go_wp2_with fail
  clear ka0 kb0 kc0 kd0
  refine (toIntS_any A2 n2 c2 xs2 w2 (by omega) (HR2.out.below BB2.out)).mono ?_
  rintro e w3 ⟨As2, cs2, rfl, hown, hb⟩
  have Os2_3 := Lib.hid hown; clear hown
  have Ls2 := Lib.hid (own_lt Os2_3.out)
  have B2 := Lib.hid hb; clear hb
  have Z2 := Lib.hid (B2.out.size)
  have BB3 := Lib.hid (BB2.out.trans (B2.out.mono BB2.out.size))
  have Os1_3 := Lib.hid (own_below Os1_2.out B2.out)
  obtain ⟨ka0, kb0, kc0, kd0⟩ := KB0.out w3 BB3.out
  go_wp2_with fail
  clear ka0 kb0 kc0 kd0
  refine (specWageTable_any a0 b0 c0 d0 As1 n1 cs1 xs1 As2 n2 cs2 xs2 w3 (by omega) (Reads.of_own Os1_3.out) (own_cap Os1_3.out) (by omega) (Reads.of_own Os2_3.out) (own_cap Os2_3.out)).mono ?_
  rintro e w4 ⟨rfl, hb⟩
  have B3 := Lib.hid hb; clear hb
  have Z3 := Lib.hid (B3.out.size)
  have BB4 := Lib.hid (BB3.out.trans (B3.out.mono BB3.out.size))
  have Os1_4 := Lib.hid (own_below Os1_3.out B3.out)
  have Os2_4 := Lib.hid (own_below Os2_3.out B3.out)
  obtain ⟨ka0, kb0, kc0, kd0⟩ := KB0.out w4 BB4.out
  go_wp2_with fail
  clear ka0 kb0 kc0 kd0
  refine (toShiftS_any A1 n1 c1 xs1 w4 (by omega) (HR1.out.below BB4.out)).mono ?_
  rintro e w5 ⟨Ax1, cx1, rfl, hown, hb⟩
  have Ox1_5 := Lib.hid hown; clear hown
  have Lx1 := Lib.hid (own_lt Ox1_5.out)
  have B4 := Lib.hid hb; clear hb
  have Z4 := Lib.hid (B4.out.size)
  have BB5 := Lib.hid (BB4.out.trans (B4.out.mono BB4.out.size))
  obtain ⟨ka0, kb0, kc0, kd0⟩ := KB0.out w5 BB5.out
  go_wp2_with fail
  clear ka0 kb0 kc0 kd0
  refine (toIntS_any A2 n2 c2 xs2 w5 (by omega) (HR2.out.below BB5.out)).mono ?_
  rintro e w6 ⟨Ax2, cx2, rfl, hown, hb⟩
  have Ox2_6 := Lib.hid hown; clear hown
  have Lx2 := Lib.hid (own_lt Ox2_6.out)
  have B5 := Lib.hid hb; clear hb
  have Z5 := Lib.hid (B5.out.size)
  have BB6 := Lib.hid (BB5.out.trans (B5.out.mono BB5.out.size))
  have Ox1_6 := Lib.hid (own_below Ox1_5.out B5.out)
  obtain ⟨ka0, kb0, kc0, kd0⟩ := KB0.out w6 BB6.out
  go_wp2_with fail
  clear ka0 kb0 kc0 kd0
  refine (toPay_any a0 b0 c0 d0 w6).mono ?_
  rintro e w7 ⟨rfl, hb⟩
  have B6 := Lib.hid hb; clear hb
  have Z6 := Lib.hid (B6.out.size)
  have BB7 := Lib.hid (BB6.out.trans (B6.out.mono BB6.out.size))
  have Ox1_7 := Lib.hid (own_below Ox1_6.out B6.out)
  have Ox2_7 := Lib.hid (own_below Ox2_6.out B6.out)
  obtain ⟨ka0, kb0, kc0, kd0⟩ := KB0.out w7 BB7.out
  go_wp2_with fail
  clear ka0 kb0 kc0 kd0
  refine (implWageTable_any a0 b0 c0 d0 Ax1 n1 cx1 xs1 Ax2 n2 cx2 xs2 w7 (by omega) (Reads.of_own Ox1_7.out) (own_cap Ox1_7.out) (by omega) (Reads.of_own Ox2_7.out) (own_cap Ox2_7.out) (HTW.out.below (BW0.out.1.trans (BB7.out.mono BW0.out.2)) (Nat.le_refl _))).mono ?_
  rintro e w8 ⟨rfl, hb⟩
  have B7 := Lib.hid hb; clear hb
  have Z7 := Lib.hid (B7.out.size)
  have BB8 := Lib.hid (BB7.out.trans (B7.out.mono BB7.out.size))
  have Ox1_8 := Lib.hid (own_below Ox1_7.out B7.out)
  have Ox2_8 := Lib.hid (own_below Ox2_7.out B7.out)
  obtain ⟨ka0, kb0, kc0, kd0⟩ := KB0.out w8 BB8.out
  go_wp2_with fail
  clear ka0 kb0 kc0 kd0
  refine (toShiftS_any A1 n1 c1 xs1 w8 (by omega) (HR1.out.below BB8.out)).mono ?_
  rintro e w9 ⟨At1, ct1, rfl, hown, hb⟩
  have Ot1_9 := Lib.hid hown; clear hown
  have Lt1 := Lib.hid (own_lt Ot1_9.out)
  have B8 := Lib.hid hb; clear hb
  have Z8 := Lib.hid (B8.out.size)
  have BB9 := Lib.hid (BB8.out.trans (B8.out.mono BB8.out.size))
  have Ox1_9 := Lib.hid (own_below Ox1_8.out B8.out)
  have Ox2_9 := Lib.hid (own_below Ox2_8.out B8.out)
  obtain ⟨ka0, kb0, kc0, kd0⟩ := KB0.out w9 BB9.out
  go_wp2_with fail
  clear ka0 kb0 kc0 kd0
  refine (eqShiftS_any Ax1 At1 n1 cx1 ct1 xs1 w9 (by omega) (Reads.of_own Ox1_9.out) (Reads.of_own Ot1_9.out)).mono ?_
  rintro e w10 ⟨rfl, hb⟩
  have B9 := Lib.hid hb; clear hb
  have Z9 := Lib.hid (B9.out.size)
  have BB10 := Lib.hid (BB9.out.trans (B9.out.mono BB9.out.size))
  have Ox1_10 := Lib.hid (own_below Ox1_9.out B9.out)
  have Ox2_10 := Lib.hid (own_below Ox2_9.out B9.out)
  have Ot1_10 := Lib.hid (own_below Ot1_9.out B9.out)
  obtain ⟨ka0, kb0, kc0, kd0⟩ := KB0.out w10 BB10.out
  go_wp2_with fail
  clear ka0 kb0 kc0 kd0
  refine (toIntS_any A2 n2 c2 xs2 w10 (by omega) (HR2.out.below BB10.out)).mono ?_
  rintro e w11 ⟨At2, ct2, rfl, hown, hb⟩
  have Ot2_11 := Lib.hid hown; clear hown
  have Lt2 := Lib.hid (own_lt Ot2_11.out)
  have B10 := Lib.hid hb; clear hb
  have Z10 := Lib.hid (B10.out.size)
  have BB11 := Lib.hid (BB10.out.trans (B10.out.mono BB10.out.size))
  have Ox1_11 := Lib.hid (own_below Ox1_10.out B10.out)
  have Ox2_11 := Lib.hid (own_below Ox2_10.out B10.out)
  obtain ⟨ka0, kb0, kc0, kd0⟩ := KB0.out w11 BB11.out
  go_wp2_with fail
  clear ka0 kb0 kc0 kd0
  refine (eqIntS_any Ax2 At2 n2 cx2 ct2 xs2 w11 (by omega) (Reads.of_own Ox2_11.out) (Reads.of_own Ot2_11.out)).mono ?_
  rintro e w12 ⟨rfl, hb⟩
  replace hb := below_of_quiet (B := w11.heap.size) hb
  have B11 := Lib.hid hb; clear hb
  have Z11 := Lib.hid (B11.out.size)
  have BB12 := Lib.hid (BB11.out.trans (B11.out.mono BB11.out.size))
  have Ox1_12 := Lib.hid (own_below Ox1_11.out B11.out)
  have Ox2_12 := Lib.hid (own_below Ox2_11.out B11.out)
  have Ot2_12 := Lib.hid (own_below Ot2_11.out B11.out)
  go_wp2_with fail
  go_ret
  exact ⟨rfl, BW0.out.1.trans (BB12.out.mono BW0.out.2)⟩

end Go.Proofs.YtiofgoppgdgbaaaDoor
