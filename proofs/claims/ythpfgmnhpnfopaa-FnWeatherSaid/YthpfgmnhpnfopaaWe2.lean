/- Contracts of FogMix and FogDrawn of both packages, and the laws over them. No conditions. -/
import Derived.Test.YthpfgmnhpnfopaaWe
namespace Go.Proofs.Ythpfgmnhpnfopaa
set_option linter.unusedSimpArgs false
set_option linter.unusedVariables false
open Go.RowKit

def fogMixR (xs : List Int) : Int × Bool := if xs.length ≤ 5 ∧ allB 0 1000000000 xs = true then (mix xs, true) else (0, false)

theorem specFogMix_any (A : Option Addr) (n c : Nat) (xs : List Int) (w : World) (hn : n ≤ 1000000000) (h : Reads w 1 A n (ints xs)) :
    Calls Try.prog 23 #[.slice A n c] w fun e w' => e = .returned (.tuple #[.int .i64 (fogMixR xs).1, .bool (fogMixR xs).2]) ∧ Below w.heap.size w w' := by
  have hlen : xs.length = n := by simpa using h.1
  by_cases h5 : n ≤ 5
  · cases hA : allB 0 1000000000 xs with
    | true =>
      have hr : fogMixR xs = (mix xs, true) := by unfold fogMixR; rw [if_pos ⟨by omega, hA⟩]
      have c1 := l1All_any A n c xs 0 1000000000 w (by omega) h
      rw [hA] at c1
      have c2 := weMix_any A n c xs w (by omega) h (allB_true.1 hA)
      rw [hr]
      have C1 := Lib.hid c1
      have C2 := Lib.hid c2
      clear c1 c2 hr hA hlen h
      go_enter Try.func23, Try.ntmps23
      go_wp2_with (first | (go_at_call 80; refine (C1.out).mono ?_; rintro e w' ⟨rfl, rfl⟩) | (go_at_call 81; refine (C2.out).mono ?_; rintro e w' ⟨rfl, hb⟩))
      go_ret2
      exact ⟨rfl, hb⟩
    | false =>
      have hr : fogMixR xs = (0, false) := by unfold fogMixR; rw [if_neg (by rintro ⟨_, h⟩; rw [hA] at h; cases h)]
      have c1 := l1All_any A n c xs 0 1000000000 w (by omega) h
      rw [hA] at c1
      rw [hr]
      have C1 := Lib.hid c1
      clear c1 hr hA hlen h
      go_enter Try.func23, Try.ntmps23
      go_wp2_with (go_at_call 80; refine (C1.out).mono ?_; rintro e w' ⟨rfl, rfl⟩)
      go_ret2
      exact ⟨rfl, Below.refl _ _⟩
  · have hr : fogMixR xs = (0, false) := by unfold fogMixR; rw [if_neg (by rintro ⟨h, _⟩; omega)]
    rw [hr]
    clear hr hlen h
    go_enter Try.func23, Try.ntmps23
    go_wp2
    go_ret2
    exact ⟨rfl, Below.refl _ _⟩

theorem implFogMix_any (A : Option Addr) (n c : Nat) (xs : List Int) (w : World) (hn : n ≤ 1000000000) (h : Reads w 1 A n (ints xs)) :
    Calls Try.prog 25 #[.slice A n c] w fun e w' => e = .returned (.tuple #[.int .i64 (fogMixR xs).1, .bool (fogMixR xs).2]) ∧ Below w.heap.size w w' := by
  have hlen : xs.length = n := by simpa using h.1
  by_cases h5 : n ≤ 5
  · cases hA : allB 0 1000000000 xs with
    | true =>
      have hr : fogMixR xs = (mix xs, true) := by unfold fogMixR; rw [if_pos ⟨by omega, hA⟩]
      have c1 := allWithin_any A n c xs 0 1000000000 w (by omega) h
      rw [hA] at c1
      have c2 := fogMix_any A n c xs w (by omega) h (allB_true.1 hA)
      rw [hr]
      have C1 := Lib.hid c1
      have C2 := Lib.hid c2
      clear c1 c2 hr hA hlen h
      go_enter Try.func25, Try.ntmps25
      go_wp2_with (first | (go_at_call 82; refine (C1.out).mono ?_; rintro e w' ⟨rfl, rfl⟩) | (go_at_call 83; refine (C2.out).mono ?_; rintro e w' ⟨rfl, hb⟩))
      go_ret2
      exact ⟨rfl, hb⟩
    | false =>
      have hr : fogMixR xs = (0, false) := by unfold fogMixR; rw [if_neg (by rintro ⟨_, h⟩; rw [hA] at h; cases h)]
      have c1 := allWithin_any A n c xs 0 1000000000 w (by omega) h
      rw [hA] at c1
      rw [hr]
      have C1 := Lib.hid c1
      clear c1 hr hA hlen h
      go_enter Try.func25, Try.ntmps25
      go_wp2_with (go_at_call 82; refine (C1.out).mono ?_; rintro e w' ⟨rfl, rfl⟩)
      go_ret2
      exact ⟨rfl, Below.refl _ _⟩
  · have hr : fogMixR xs = (0, false) := by unfold fogMixR; rw [if_neg (by rintro ⟨h, _⟩; omega)]
    rw [hr]
    clear hr hlen h
    go_enter Try.func25, Try.ntmps25
    go_wp2
    go_ret2
    exact ⟨rfl, Below.refl _ _⟩

theorem law_FnExactFogMix (w : World) {v : Value} (h : IsInts w v) :
    Calls Try.prog 6 #[v] w fun e w' => e = .returned (.bool true) ∧ Below w.heap.size w w' := by
  obtain ⟨A, n, c, xs, rfl, hnc, hc, hr, _⟩ := h
  by_cases hn : n ≤ 1048576
  · have HR := Lib.hid hr; clear hr
    go_enter Try.func6, Try.ntmps6
    go_wp2_with fail
    refine (toIntS_any A n c xs w (by omega) HR.out).mono ?_
    rintro e w1 ⟨A1, c1, rfl, hown1, hb1⟩
    have H1 := Lib.hid (And.intro hown1 hb1); clear hown1 hb1
    go_wp2_with fail
    refine (specFogMix_any A1 n c1 xs w1 (by omega) (Reads.of_own H1.out.1)).mono ?_
    rintro e w2 ⟨rfl, hb2⟩
    have B2 := Lib.hid (below_then H1.out.2 hb2); clear hb2
    go_wp2_with fail
    refine (toIntS_any A n c xs w2 (by omega) (HR.out.below B2.out)).mono ?_
    rintro e w3 ⟨A3, c3, rfl, hown3, hb3⟩
    have H3 := Lib.hid (And.intro hown3 (below_then B2.out hb3)); clear hown3 hb3
    go_wp2_with fail
    refine (implFogMix_any A3 n c3 xs w3 (by omega) (Reads.of_own H3.out.1)).mono ?_
    rintro e w4 ⟨rfl, hb4⟩
    have B4 := Lib.hid (And.intro hb4 (below_then H3.out.2 hb4)); clear hb4
    go_wp2_with fail
    refine (toIntS_any A n c xs w4 (by omega) (HR.out.below B4.out.2)).mono ?_
    rintro e w5 ⟨A5, c5, rfl, hown5, hb5⟩
    have H5 := Lib.hid (And.intro hown5 (And.intro hb5 (below_then B4.out.2 hb5))); clear hown5 hb5
    go_wp2_with fail
    refine (eqIntS_any A3 A5 n c3 c5 xs w5 (by omega) (((Reads.of_own H3.out.1).below B4.out.1).below H5.out.2.1) (Reads.of_own H5.out.1)).mono ?_
    rintro e w6 ⟨rfl, hb6⟩
    have B6 := Lib.hid (H5.out.2.2.trans (below_of_quiet hb6)); clear hb6
    go_wp2_with fail
    go_ret
    exact ⟨rfl, B6.out⟩
  · clear hr
    go_enter Try.func6, Try.ntmps6
    go_wp2
    go_ret
    exact ⟨rfl, Below.refl _ _⟩
end Go.Proofs.Ythpfgmnhpnfopaa
