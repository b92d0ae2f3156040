/- Contracts of compareShifts and of the tests on shifts, of both packages. No conditions. -/
import Derived.Test.YtiofgoppgdgbaaaDoorSh1
import Derived.Test.YtiofgoppgdgbaaaDoorTail
namespace Go.Proofs.YtiofgoppgdgbaaaDoor
set_option linter.unusedSimpArgs false
set_option linter.unusedVariables false
open Go.RowKit

set_option maxRecDepth 100000 in
theorem compareShifts_any (a b c x y z : Int) (w : World) :
    Calls Tryd.prog 60 #[.agg #[.int .i64 a, .int .i64 b, .int .i64 c], .agg #[.int .i64 x, .int .i64 y, .int .i64 z]] w fun e w' => e = .returned (.int .i64 (cmpS (a, b, c) (x, y, z))) ∧ Below w.heap.size w w' := by
  have hcmp : cmpS (a, b, c) (x, y, z) = orI [sgnI b y, sgnI a x] := by simp only [cmpS, orI]; split <;> rename_i h1 <;> simp at h1 <;> simp [h1]
  have hor : ∀ W : World, Calls Tryd.prog 76 #[.slice (some ⟨W.heap.size, 0, none⟩) 2 2] (W.alloc (.cells #[.int .i64 (sgnI b y), .int .i64 (sgnI a x)] 3)) fun e w' => e = .returned (.int .i64 (cmpS (a, b, c) (x, y, z))) ∧ (W.alloc (.cells #[.int .i64 (sgnI b y), .int .i64 (sgnI a x)] 3)) = w' := by
    intro W
    rw [hcmp]
    exact cmpOr_any _ 2 2 [sgnI b y, sgnI a x] _ (by omega) (reads_lit W (ints [sgnI b y, sgnI a x]) _)
  have HOR := Lib.hid hor
  clear hor hcmp
  go_enter Tryd.func60, Tryd.ntmps60
  go_wp2
  refine region_tail 10 (by kernel_rfl) (by kernel_rfl) ?_
  simp only [List.take_succ_cons, List.take_zero, List.drop_succ_cons, List.drop_zero]
  repeat (refine wpStill_step (fun K hK => ?_)
          go_simp
          first
            | (refine hK _ ?_; clear hK K)
            | (apply Exists.intro
               refine ⟨?_, hK _ ?_⟩
               (exact still_of (cmpCompare_any _ _ _))
               clear hK K))
  refine wpStill_nil ?_
  have hB : Below w.heap.size w (((w.alloc (.cells #[.int .i64 a, .int .i64 b, .int .i64 c] 56)).alloc (.cells #[.int .i64 x, .int .i64 y, .int .i64 z] 56)).drew) := (((Below.refl _ _).alloc (Nat.le_refl _) _).alloc (by simp) _).drew
  generalize ((w.alloc (.cells #[.int .i64 a, .int .i64 b, .int .i64 c] 56)).alloc (.cells #[.int .i64 x, .int .i64 y, .int .i64 z] 56)).drew = W0 at hB ⊢
  go_wp2_with (go_at_call 76; refine (HOR.out W0).mono ?_; rintro e w' ⟨rfl, rfl⟩)
  go_ret
  exact ⟨rfl, hB.alloc hB.size _⟩
end Go.Proofs.YtiofgoppgdgbaaaDoor
