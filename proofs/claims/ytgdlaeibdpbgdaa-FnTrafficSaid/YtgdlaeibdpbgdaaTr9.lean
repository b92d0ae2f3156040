/- Contracts of slices.Max, slices.Index and MostWaiting of both packages, and the law over them. No conditions. -/
import Derived.Test.YtgdlaeibdpbgdaaTr7
namespace Go.Proofs.Ytgdlaeibdpbgdaa
set_option linter.unusedSimpArgs false
set_option linter.unusedVariables false
open Go.RowKit

def mostR (xs : List Int) (cap : Int) : Int × Int × Bool := if trafB xs cap = true ∧ xs.length ≠ 0 then (idxOf (waits cap 0 xs) (maxL (waits cap 0 xs)), maxL (waits cap 0 xs), true) else (0, 0, false)
/-- b is the first of the greatest among the first k. -/
def Best (L : List Int) (b k : Nat) : Prop := (∀ j x, j < k → L[j]? = some x → ∀ y, L[b]? = some y → x ≤ y) ∧ (∀ j x, j < b → L[j]? = some x → ∀ y, L[b]? = some y → x < y)
theorem Best.start {L : List Int} : Best L 0 0 := ⟨fun j x h => by omega, fun j x h => by omega⟩
theorem Best.step {L : List Int} {b k : Nat} (h : Best L b k) (hb : b < L.length) (hk : k < L.length) (hbk : b ≤ k) : (L[b] < L[k] → Best L k (k + 1)) ∧ (¬ L[b] < L[k] → Best L b (k + 1)) := by
  have eb : L[b]? = some L[b] := List.getElem?_eq_getElem hb
  have ek : L[k]? = some L[k] := List.getElem?_eq_getElem hk
  refine ⟨fun hlt => ⟨?_, ?_⟩, fun hge => ⟨?_, h.2⟩⟩
  · intro j x hj hx y hy
    rw [ek] at hy
    injection hy with hy
    by_cases hjk : j = k
    · subst hjk; rw [ek] at hx; injection hx with hx; omega
    · have := h.1 j x (by omega) hx _ eb; omega
  · intro j x hj hx y hy
    rw [ek] at hy
    injection hy with hy
    have := h.1 j x hj hx _ eb; omega
  · intro j x hj hx y hy
    rw [eb] at hy
    injection hy with hy
    by_cases hjk : j = k
    · subst hjk; rw [ek] at hx; injection hx with hx; omega
    · have := h.1 j x (by omega) hx _ eb; omega
theorem Best.end_ {L : List Int} {b k : Nat} (h : Best L b k) (hb : b < L.length) (hk : L.length ≤ k) : maxL L = L[b] ∧ idxOf L (maxL L) = (b : Int) := by
  have eb : L[b]? = some L[b] := List.getElem?_eq_getElem hb
  refine idxOf_max hb (fun x hx => ?_) (fun j hj => ?_)
  · obtain ⟨j, hj, rfl⟩ := List.getElem_of_mem hx
    exact h.1 j _ (by omega) (List.getElem?_eq_getElem hj) _ eb
  · exact h.2 j _ hj (List.getElem?_eq_getElem (by omega)) _ eb

set_option maxHeartbeats 2000000 in
theorem specMostWaiting_any (A : Option Addr) (n c : Nat) (xs : List Int) (cap : Int) (w : World) (hn : n ≤ 1000000000) (h : Reads w 1 A n (ints xs)) :
    Calls Try.prog 33 #[.slice A n c, .int .i64 cap] w fun e w' => e = .returned (.tuple #[.int .i64 (mostR xs cap).1, .int .i64 (mostR xs cap).2.1, .bool (mostR xs cap).2.2]) ∧ Below w.heap.size w w' := by
  have c1 := trGood_any A n c xs cap w hn h
  have hlx : xs.length = n := by simpa using h.1
  cases hg : trafB xs cap with
  | false =>
    rw [hg] at c1
    have hr : mostR xs cap = (0, 0, false) := by simp [mostR, hg]
    rw [hr]
    have C1 := Lib.hid c1
    clear c1 hr h hg hlx
    go_enter Try.func33, Try.ntmps33
    go_wp2_with (go_at_call 52; refine (C1.out).mono ?_; rintro e w' ⟨rfl, rfl⟩)
    go_ret3
    exact ⟨rfl, Below.refl _ _⟩
  | true =>
    rw [hg] at c1
    have C1 := Lib.hid c1
    clear c1
    obtain ⟨⟨hn60, hx⟩, hc1, hc2⟩ := trafB_true.1 hg
    by_cases h0 : n = 0
    · have hr : mostR xs cap = (0, 0, false) := by simp [mostR, hlx, h0]
      rw [hr]
      subst h0
      clear hr h hg hlx hx hn60
      go_enter Try.func33, Try.ntmps33
      go_wp2_with (go_at_call 52; refine (C1.out).mono ?_; rintro e w' ⟨rfl, rfl⟩)
      go_ret3
      exact ⟨rfl, Below.refl _ _⟩
    · have hr : mostR xs cap = (idxOf (waits cap 0 xs) (maxL (waits cap 0 xs)), maxL (waits cap 0 xs), true) := by simp [mostR, hg, hlx, h0]
      rw [hr]
      have hne : ((n : Int) == 0) = false := by rw [beq_eq_false_iff_ne]; omega
      have C2 := Lib.hid (trWaiting_any A n c xs cap w (by omega) h hx hc1 (by omega))
      have hlw : (waits cap 0 xs).length = n := by simp [hlx]
      generalize waits cap 0 xs = L at *

      have hL1 : 1 ≤ n := by omega
      have HLW := Lib.hid hlw
      clear hr hg hx hlx hn60 h hlw
      go_enter Try.func33, Try.ntmps33
      go_wp2_with (first | (go_at_call 52; refine (C1.out).mono ?_; rintro e w' ⟨rfl, rfl⟩) | (go_at_call 56; refine (C2.out).mono ?_; rintro e w1 ⟨A1, c1, rfl, hown, hb⟩; have HO := Lib.hid hown; clear hown; have HB := Lib.hid hb; clear hb))
      obtain ⟨ad, rfl, hc⟩ := (Reads.of_own HO.out).2 (by omega)
      have HC := Lib.hid hc; clear hc
      go_loop [7, 25] (fun s i => ∃ b k : Nat, b < n ∧ b ≤ k ∧ k ≤ n ∧ i = .int .i64 k ∧ s = .int .i64 b ∧ Best L b k) (fun _ i => n - (intOf i).toNat)
      case atStart => exact ⟨0, 0, by omega, by omega, by omega, rfl, rfl, Best.start⟩
      case round =>
        obtain ⟨b, k, hbn, hbk, hk, rfl, rfl, hbest⟩ := hrel
        have HBE := Lib.hid hbest; clear hbest
        have hbL : b < L.length := by rw [HLW.out]; exact hbn
        have hcb : w1.cell? (ad.add b) = some (.int .i64 L[b]) := HC.out b _ (by simp [ints, hbL])
        by_cases hlt : k < n
        · have hkL : k < L.length := by rw [HLW.out]; exact hlt
          have hck : w1.cell? (ad.add k) = some (.int .i64 L[k]) := HC.out k _ (by simp [ints, hkL])
          have HN : Hid ((L[b] < L[k] → Best L k (k + 1)) ∧ (¬ L[b] < L[k] → Best L b (k + 1))) := Lib.hid (Best.step HBE.out hbL hkL hbk)
          generalize L[b] = y at *
          generalize L[k] = x at *
          by_cases hyx : y < x
          · go_wp2
            go_round
            case rel => exact ⟨k, k + 1, by omega, by omega, by omega, by go_num, rfl, HN.out.1 hyx⟩
            case measure => simp [intOf]; omega
          · go_wp2
            go_round
            case rel => exact ⟨b, k + 1, by omega, by omega, by omega, by go_num, rfl, HN.out.2 (by omega)⟩
            case measure => simp [intOf]; omega
        · obtain rfl : k = n := by omega
          have HF := Lib.hid (Best.end_ HBE.out hbL (by rw [HLW.out]; omega))
          generalize L[b] = y at *
          go_wp2
          go_quiet (fail)
          go_wp2
          go_ret3
          exact ⟨by rw [HF.out.2, HF.out.1]; rfl, below_toN HB.out _⟩

set_option maxHeartbeats 2000000 in
theorem implMostWaiting_any (A : Option Addr) (n c : Nat) (xs : List Int) (cap : Int) (w : World) (hn : n ≤ 1000000000) (h : Reads w 1 A n (ints xs)) :
    Calls Try.prog 34 #[.slice A n c, .int .i64 cap] w fun e w' => e = .returned (.tuple #[.int .i64 (mostR xs cap).1, .int .i64 (mostR xs cap).2.1, .bool (mostR xs cap).2.2]) ∧ Below w.heap.size w w' := by
  have c1 := trafficAsked_any A n c xs cap w hn h
  have hlx : xs.length = n := by simpa using h.1
  cases hg : trafB xs cap with
  | false =>
    rw [hg] at c1
    have hr : mostR xs cap = (0, 0, false) := by simp [mostR, hg]
    rw [hr]
    have C1 := Lib.hid c1
    clear c1 hr h hg hlx
    go_enter Try.func34, Try.ntmps34
    go_wp2_with (go_at_call 50; refine (C1.out).mono ?_; rintro e w' ⟨rfl, rfl⟩)
    go_ret3
    exact ⟨rfl, Below.refl _ _⟩
  | true =>
    rw [hg] at c1
    have C1 := Lib.hid c1
    clear c1
    obtain ⟨⟨hn60, hx⟩, hc1, hc2⟩ := trafB_true.1 hg
    by_cases h0 : n = 0
    · have hr : mostR xs cap = (0, 0, false) := by simp [mostR, hlx, h0]
      rw [hr]
      subst h0
      clear hr h hg hlx hx hn60
      go_enter Try.func34, Try.ntmps34
      go_wp2_with (go_at_call 50; refine (C1.out).mono ?_; rintro e w' ⟨rfl, rfl⟩)
      go_ret3
      exact ⟨rfl, Below.refl _ _⟩
    · have hr : mostR xs cap = (idxOf (waits cap 0 xs) (maxL (waits cap 0 xs)), maxL (waits cap 0 xs), true) := by simp [mostR, hg, hlx, h0]
      rw [hr]
      have hne : ((n : Int) == 0) = false := by rw [beq_eq_false_iff_ne]; omega
      have C2 := Lib.hid (waitingAfter_any A n c xs cap w (by omega) h hx hc1 (by omega))
      have hlw : (waits cap 0 xs).length = n := by simp [hlx]
      generalize waits cap 0 xs = L at *

      have hL1 : 1 ≤ n := by omega
      clear hr hg hx hlx hn60 h hlw
      go_enter Try.func34, Try.ntmps34
      go_wp2_with (first | (go_at_call 50; refine (C1.out).mono ?_; rintro e w' ⟨rfl, rfl⟩) | (go_at_call 54; refine (C2.out).mono ?_; rintro e w1 ⟨A1, c1, rfl, hown, hb⟩; have HO := Lib.hid hown; clear hown; have HB := Lib.hid hb; clear hb) | (go_at_call 63; refine (slicesMax_any A1 n c1 L _ (by omega) (by omega) (Reads.of_own HO.out)).mono ?_; rintro e w' ⟨rfl, rfl⟩) | (go_at_call 64; refine (slicesIndex_any A1 n c1 L _ _ (by omega) (Reads.of_own HO.out)).mono ?_; rintro e w' ⟨rfl, rfl⟩))
      go_ret3
      exact ⟨rfl, HB.out⟩
set_option maxHeartbeats 2000000 in
set_option maxRecDepth 100000 in
theorem law_FnExactMostWaiting (w : World) {v0 v1 : Value} (h0 : IsInts w v0) (h1 : IsInt v1) :
    Calls Try.prog 10 #[v0, v1] w fun e w' => e = .returned (.bool true) ∧ Below w.heap.size w w' := by
  obtain ⟨A0, n0, c0, xs0, rfl, _, _, hr0, _⟩ := h0
  obtain ⟨a1, rfl, _⟩ := h1
  have HR0 := Lib.hid hr0; clear hr0
  by_cases hn0 : n0 ≤ 1048576
  rotate_left
  · go_enter Try.func10, Try.ntmps10
    go_wp2
    go_ret
    exact ⟨rfl, Below.refl _ _⟩
  go_enter Try.func10, Try.ntmps10
  have BB0 : Hid (Below w.heap.size w w) := Lib.hid (Below.refl _ _)
  go_wp2_with fail
  refine (toIntS_any A0 n0 c0 xs0 w (by omega) (HR0.out.below BB0.out)).mono ?_
  rintro e w1 ⟨As0, cs0, rfl, hown, hb⟩
  have Os0_1 := Lib.hid hown; clear hown
  have Ls0 := Lib.hid (own_lt Os0_1.out)
  have B0 := Lib.hid hb; clear hb
  have Z0 := Lib.hid (B0.out.size)
  have BB1 := Lib.hid (below_then BB0.out B0.out)
  go_wp2_with fail
  refine (specMostWaiting_any As0 n0 cs0 xs0 a1 w1 (by omega) (Reads.of_own Os0_1.out)).mono ?_
  rintro e w2 ⟨rfl, hb⟩
  have B1 := Lib.hid hb; clear hb
  have Z1 := Lib.hid (B1.out.size)
  have BB2 := Lib.hid (BB1.out.trans (B1.out.mono BB1.out.size))
  have Os0_2 := Lib.hid (own_below Os0_1.out B1.out)
  go_wp2_with fail
  refine (toIntS_any A0 n0 c0 xs0 w2 (by omega) (HR0.out.below BB2.out)).mono ?_
  rintro e w3 ⟨Ax0, cx0, rfl, hown, hb⟩
  have Ox0_3 := Lib.hid hown; clear hown
  have Lx0 := Lib.hid (own_lt Ox0_3.out)
  have B2 := Lib.hid hb; clear hb
  have Z2 := Lib.hid (B2.out.size)
  have BB3 := Lib.hid (BB2.out.trans (B2.out.mono BB2.out.size))
  go_wp2_with fail
  refine (implMostWaiting_any Ax0 n0 cx0 xs0 a1 w3 (by omega) (Reads.of_own Ox0_3.out)).mono ?_
  rintro e w4 ⟨rfl, hb⟩
  have B3 := Lib.hid hb; clear hb
  have Z3 := Lib.hid (B3.out.size)
  have BB4 := Lib.hid (BB3.out.trans (B3.out.mono BB3.out.size))
  have Ox0_4 := Lib.hid (own_below Ox0_3.out B3.out)
  go_wp2_with fail
  refine (toIntS_any A0 n0 c0 xs0 w4 (by omega) (HR0.out.below BB4.out)).mono ?_
  rintro e w5 ⟨At0, ct0, rfl, hown, hb⟩
  have Ot0_5 := Lib.hid hown; clear hown
  have Lt0 := Lib.hid (own_lt Ot0_5.out)
  have B4 := Lib.hid hb; clear hb
  have Z4 := Lib.hid (B4.out.size)
  have BB5 := Lib.hid (BB4.out.trans (B4.out.mono BB4.out.size))
  have Ox0_5 := Lib.hid (own_below Ox0_4.out B4.out)
  go_wp2_with fail
  refine (eqIntS_any Ax0 At0 n0 cx0 ct0 xs0 w5 (by omega) (Reads.of_own Ox0_5.out) (Reads.of_own Ot0_5.out)).mono ?_
  rintro e w6 ⟨rfl, hb⟩
  replace hb := below_of_quiet (B := w5.heap.size) hb
  have B5 := Lib.hid hb; clear hb
  have Z5 := Lib.hid (B5.out.size)
  have BB6 := Lib.hid (BB5.out.trans (B5.out.mono BB5.out.size))
  have Ox0_6 := Lib.hid (own_below Ox0_5.out B5.out)
  have Ot0_6 := Lib.hid (own_below Ot0_5.out B5.out)
  go_wp2_with fail
  go_ret
  exact ⟨rfl, BB6.out⟩

end Go.Proofs.Ytgdlaeibdpbgdaa
