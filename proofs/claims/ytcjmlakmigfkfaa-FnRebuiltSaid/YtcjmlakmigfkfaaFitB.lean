/- FitsBetween of the implementation, every input. No conditions. -/
import Derived.Test.YtcjmlakmigfkfaaFit
namespace Go.Proofs.Ytcjmlakmigfkfaa
set_option linter.unusedSimpArgs false
set_option linter.unusedVariables false
open Go.RowKit

theorem implFits_any (A0 : Option Addr) (n0 c0 : Nat) (T : List EntryT) (A : Option Addr) (n c : Nat) (L : List EntryT) (B : Option Addr) (m d : Nat) (M : List EntryT) (a b : Int) (w : World) (hn0 : n0 ≤ 1000000000) (hl0 : ∀ x ∈ T, lenE 1000000000 x) (h0 : Reads2 w 5 A0 n0 (rowsE T)) (hc0 : n0 ≤ c0) (hn : n ≤ 1000000000) (hl : ∀ x ∈ L, lenE 1000000000 x) (h : Reads2 w 5 A n (rowsE L)) (hc : n ≤ c) (hm : m ≤ 1000000000) (hl' : ∀ x ∈ M, lenE 1000000000 x) (h' : Reads2 w 5 B m (rowsE M)) (hd : m ≤ d) :
    Calls Try.prog 40 #[.slice A0 n0 c0, .slice A n c, .slice B m d, .int .i64 a, .int .i64 b] w fun e w' => e = .returned (.tuple #[.bool (fitsR T L M a b).1, .bool (fitsR T L M a b).2]) ∧ Below w.heap.size w w' := by
  have c1 := fun W (hW : Below w.heap.size w W) => isLog_any A0 n0 c0 T W hn0 hc0 hl0 (h0.below hW)
  have c2 := fun W (hW : Below w.heap.size w W) => gapAsked_any A n c L B m d M a b W hn hl (h.below hW) hc hd hm hl' (h'.below hW)
  cases hgT : goodE T with
  | false =>
    have hr : fitsR T L M a b = (false, false) := by simp [fitsR, hgT]
    rw [hr]
    simp only [hgT] at c1
    have C1 := Lib.hid c1
    clear c1 c2 hr h h' h0 hl hl' hl0 hgT
    go_enter Try.func40, Try.ntmps40
    go_wp2_with fail
    refine (C1.out _ (Below.refl _ _)).mono ?_
    rintro e w1 ⟨rfl, hb⟩
    have HB1 := Lib.hid hb
    clear hb
    go_wp2
    go_ret2
    exact ⟨rfl, HB1.out⟩
  | true =>
    cases hgA : askE L M a b with
    | false =>
      have hr : fitsR T L M a b = (false, false) := by simp [fitsR, hgA]
      rw [hr]
      simp only [hgT] at c1
      simp only [hgA] at c2
      have C1 := Lib.hid c1
      have C2 := Lib.hid c2
      clear c1 c2 hr h h' h0 hl hl' hl0 hgT hgA
      go_enter Try.func40, Try.ntmps40
      go_wp2_with fail
      refine (C1.out _ (Below.refl _ _)).mono ?_
      rintro e w1 ⟨rfl, hb⟩
      have HB1 := Lib.hid hb
      clear hb
      go_wp2_with fail
      refine (C2.out _ HB1.out).mono ?_
      rintro e w2 ⟨rfl, hb⟩
      have HB2 := Lib.hid (HB1.out.trans (hb.mono HB1.out.size))
      clear hb
      go_wp2
      go_ret2
      exact ⟨rfl, HB2.out⟩
    | true =>
      have hr : fitsR T L M a b = ((fitA T a b (togE M L) && decide ((togE M L).length = T.length)), true) := by simp [fitsR, hgA, hgT]
      rw [hr]
      exact implFitsBetween_any A0 n0 c0 T A n c L B m d M a b w hn0 hl0 h0 hc0 hn hl h hc hm hl' h' hd hgT hgA
end Go.Proofs.Ytcjmlakmigfkfaa
