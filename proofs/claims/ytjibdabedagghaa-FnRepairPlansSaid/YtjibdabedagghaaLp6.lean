/- Contract of the reference's LeastPlanCost. No conditions. -/
import Derived.Test.YtjibdabedagghaaLp5
namespace Go.Proofs.Ytjibdabedagghaa
set_option linter.unusedSimpArgs false
set_option linter.unusedVariables false
open Go.RowKit


set_option maxHeartbeats 2000000 in
theorem specLeast_any (A : Option Addr) (n c : Nat) (D : Int) (trip : Int) (l : List G4) (w : World) (hn : n ≤ 1000000000) (h : Reads w 4 A n (rows4 l)) :
    Calls Try.prog 41 #[.slice A n c, .int .i64 D, .int .i64 trip] w fun e w' => e = .returned (.tuple #[.int .i64 (leastR l D trip).1, .bool (leastR l D trip).2]) ∧ Below w.heap.size w w' := by
  have hlx : l.length = n := by have := h.1; rw [length_rows4] at this; omega
  have CG := fun (W : World) (hW : Below w.heap.size w W) => rrGood_any A n c l W (by omega) (h.below hW)
  cases h1 : goodGears l with
  | false =>
    simp only [h1] at CG
    have hr : leastR l D trip = (0, false) := by
      have hb : leastB l D trip = false := by simp [leastB, h1]
      simp [leastR, hb]
    rw [hr]
    have HCG := Lib.hid CG
    clear hr CG hlx h
    go_enter Try.func41, Try.ntmps41
    go_wp2_with (first | (go_at_call 63; refine (HCG.out _ (Below.refl _ _)).mono ?_; rintro e w1 ⟨rfl, hb⟩; have HB := Lib.hid hb; clear hb) | (go_at_call 68; refine (l1In_any _ _ _ _).mono ?_; rintro e w' ⟨rfl, rfl⟩))
    go_ret2
    exact ⟨rfl, HB.out⟩
  | true =>
   simp only [h1] at CG
   by_cases hn3 : n ≤ 3
   · have hn3' : ¬ (3 < (n : Int)) := by omega
     cases h2 : inB D 0 10 with
     | false =>
      have hr : leastR l D trip = (0, false) := by
        have hb : leastB l D trip = false := by simp [leastB, h2]
        simp [leastR, hb]
      rw [hr]
      have HCG := Lib.hid CG
      clear hr CG hlx h
      go_enter Try.func41, Try.ntmps41
      go_wp2_with (first | (go_at_call 63; refine (HCG.out _ (Below.refl _ _)).mono ?_; rintro e w1 ⟨rfl, hb⟩; have HB := Lib.hid hb; clear hb) | (go_at_call 68; refine (l1In_any _ _ _ _).mono ?_; rintro e w' ⟨rfl, rfl⟩))
      go_ret2
      exact ⟨rfl, HB.out⟩
     | true =>
      cases h3 : inB trip 0 1000 with
      | false =>
       have hr : leastR l D trip = (0, false) := by
         have hb : leastB l D trip = false := by simp [leastB, h3]
         simp [leastR, hb]
       rw [hr]
       have HCG := Lib.hid CG
       clear hr CG hlx h
       go_enter Try.func41, Try.ntmps41
       go_wp2_with (first | (go_at_call 63; refine (HCG.out _ (Below.refl _ _)).mono ?_; rintro e w1 ⟨rfl, hb⟩; have HB := Lib.hid hb; clear hb) | (go_at_call 68; refine (l1In_any _ _ _ _).mono ?_; rintro e w' ⟨rfl, rfl⟩))
       go_ret2
       exact ⟨rfl, HB.out⟩
      | true =>
       have h2' := inB_true.1 h2
       obtain ⟨d, rfl⟩ : ∃ d : Nat, D = (d : Int) := ⟨D.toNat, by omega⟩
       have hr : leastR l (d : Int) trip = (leastW l trip d (l.map (·.1)), true) := by simp [leastR, leastB, h1, h2, h3, hlx, hn3]
       rw [hr]
       exact specLeast_yes A n c d trip l w hn3 (by omega) (inB_true.1 h3) h1 h
   · have hn3' : 3 < (n : Int) := by omega
     have hr : leastR l D trip = (0, false) := by
       have hb : leastB l D trip = false := by simp [leastB, hlx, hn3]
       simp [leastR, hb]
     rw [hr]
     have HCG := Lib.hid CG
     clear hr CG hlx h
     go_enter Try.func41, Try.ntmps41
     go_wp2_with (first | (go_at_call 63; refine (HCG.out _ (Below.refl _ _)).mono ?_; rintro e w1 ⟨rfl, hb⟩; have HB := Lib.hid hb; clear hb) | (go_at_call 68; refine (l1In_any _ _ _ _).mono ?_; rintro e w' ⟨rfl, rfl⟩))
     go_ret2
     exact ⟨rfl, HB.out⟩

end Go.Proofs.Ytjibdabedagghaa
