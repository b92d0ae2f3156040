/- Contracts of WaitingAfter, HoursToClear, DelayOf, WorstDelay of both packages, and the laws over them. No conditions. -/
import Derived.Test.YtgdlaeibdpbgdaaTr2
namespace Go.Proofs.Ytgdlaeibdpbgdaa
set_option linter.unusedSimpArgs false
set_option linter.unusedVariables false
open Go.RowKit

def waitR (xs : List Int) (cap : Int) : List Int × Bool := if trafB xs cap = true then (waits cap 0 xs, true) else ([], false)
theorem waitR_bd (xs : List Int) (cap : Int) : (waitR xs cap).1.length ≤ 60 := by
  unfold waitR
  split
  · rename_i h
    have := (trafB_true.1 h).1.1
    simpa using this
  · simp
def lastOf (l : List Int) : Int := l.getD (l.length - 1) 0
def clearR (xs : List Int) (cap : Int) : Int × Bool := if trafB xs cap = true then ((lastOf (waits cap 0 xs) + cap - 1) / cap, true) else (0, false)
def delayR (xs : List Int) (cap n : Int) : Int × Bool := if trafB xs cap = true ∧ inB n 0 (sumL xs - 1) = true then ((delays cap xs).getD n.toNat 0, true) else (0, false)
def worst (l : List Int) : Int := l.foldl max 0
def worstR (xs : List Int) (cap : Int) : Int × Bool := if trafB xs cap = true then (worst (delays cap xs), true) else (0, false)
theorem foldl_max_bd (l : List Int) (b : Int) (h : ∀ y ∈ l, 0 ≤ y ∧ y ≤ b) : ∀ a, 0 ≤ a → a ≤ b → 0 ≤ l.foldl max a ∧ l.foldl max a ≤ b := by
  induction l with
  | nil => intro a h0 h1; exact ⟨h0, h1⟩
  | cons y r ih =>
    intro a h0 h1
    have hy := h y (by simp)
    exact ih (fun z hz => h z (by simp [hz])) (max a y) (by omega) (by omega)
theorem lastOf_bd {cap : Int} {xs : List Int} (hc : 1 ≤ cap) (h : ∀ x ∈ xs, 0 ≤ x ∧ x ≤ 200) (hn : xs.length ≤ 60) : 0 ≤ lastOf (waits cap 0 xs) ∧ lastOf (waits cap 0 xs) ≤ 12000 := by
  unfold lastOf
  by_cases hl : (waits cap 0 xs).length - 1 < (waits cap 0 xs).length
  · have := waits_bd cap hc xs h 0 0 (by omega) (by omega) _ (List.getElem_mem hl)
    have e : (waits cap 0 xs).getD ((waits cap 0 xs).length - 1) 0 = (waits cap 0 xs)[(waits cap 0 xs).length - 1] := by
      rw [List.getD_eq_getElem?_getD, List.getElem?_eq_getElem hl]; rfl
    omega
  · have e : (waits cap 0 xs).getD ((waits cap 0 xs).length - 1) 0 = 0 := by
      rw [List.getD_eq_getElem?_getD, List.getElem?_eq_none (by omega)]; rfl
    omega

theorem specWaitingAfter_any (A : Option Addr) (n c : Nat) (xs : List Int) (cap : Int) (w : World) (hn : n ≤ 1000000000) (h : Reads w 1 A n (ints xs)) :
    Calls Try.prog 23 #[.slice A n c, .int .i64 cap] w (Made2 w 3 1 (waitR xs cap).1.length (ints (waitR xs cap).1) (waitR xs cap).2) := by
  have c1 := trGood_any A n c xs cap w hn h
  cases hg : trafB xs cap with
  | false =>
    rw [hg] at c1
    have hr : waitR xs cap = ([], false) := by simp [waitR, hg]
    rw [hr]
    have C1 := Lib.hid c1
    clear c1 hr h hg
    go_enter Try.func23, Try.ntmps23
    go_wp2_with (go_at_call 52; refine (C1.out).mono ?_; rintro e w' ⟨rfl, rfl⟩)
    go_ret2
    exact ⟨none, 0, rfl, own_start, Below.refl _ _⟩
  | true =>
    rw [hg] at c1
    have C1 := Lib.hid c1
    clear c1
    obtain ⟨⟨hn60, hx⟩, hc1, hc2⟩ := trafB_true.1 hg
    have hlx : xs.length = n := by simpa using h.1
    have hr : waitR xs cap = (waits cap 0 xs, true) := by simp [waitR, hg]
    rw [hr]
    have C2 := Lib.hid (trWaiting_any A n c xs cap w (by omega) h hx hc1 (by omega))
    have hl : (waits cap 0 xs).length = n := by simp [hlx]
    rw [hl]
    clear hr h hg hx hlx hl hn60
    go_enter Try.func23, Try.ntmps23
    go_wp2_with (first | (go_at_call 52; refine (C1.out).mono ?_; rintro e w' ⟨rfl, rfl⟩) | (go_at_call 56; refine (C2.out).mono ?_; rintro e w1 ⟨A1, c1, rfl, hown, hb⟩))
    go_ret2
    exact ⟨A1, c1, rfl, hown, hb⟩

theorem implWaitingAfter_any (A : Option Addr) (n c : Nat) (xs : List Int) (cap : Int) (w : World) (hn : n ≤ 1000000000) (h : Reads w 1 A n (ints xs)) :
    Calls Try.prog 24 #[.slice A n c, .int .i64 cap] w (Made2 w 3 1 (waitR xs cap).1.length (ints (waitR xs cap).1) (waitR xs cap).2) := by
  have c1 := trafficAsked_any A n c xs cap w hn h
  cases hg : trafB xs cap with
  | false =>
    rw [hg] at c1
    have hr : waitR xs cap = ([], false) := by simp [waitR, hg]
    rw [hr]
    have C1 := Lib.hid c1
    clear c1 hr h hg
    go_enter Try.func24, Try.ntmps24
    go_wp2_with (go_at_call 50; refine (C1.out).mono ?_; rintro e w' ⟨rfl, rfl⟩)
    go_ret2
    exact ⟨none, 0, rfl, own_start, Below.refl _ _⟩
  | true =>
    rw [hg] at c1
    have C1 := Lib.hid c1
    clear c1
    obtain ⟨⟨hn60, hx⟩, hc1, hc2⟩ := trafB_true.1 hg
    have hlx : xs.length = n := by simpa using h.1
    have hr : waitR xs cap = (waits cap 0 xs, true) := by simp [waitR, hg]
    rw [hr]
    have C2 := Lib.hid (waitingAfter_any A n c xs cap w (by omega) h hx hc1 (by omega))
    have hl : (waits cap 0 xs).length = n := by simp [hlx]
    rw [hl]
    clear hr h hg hx hlx hl hn60
    go_enter Try.func24, Try.ntmps24
    go_wp2_with (first | (go_at_call 50; refine (C1.out).mono ?_; rintro e w' ⟨rfl, rfl⟩) | (go_at_call 54; refine (C2.out).mono ?_; rintro e w1 ⟨A1, c1, rfl, hown, hb⟩))
    go_ret2
    exact ⟨A1, c1, rfl, hown, hb⟩
set_option maxHeartbeats 2000000 in
set_option maxRecDepth 100000 in
theorem law_FnExactWaitingAfter (w : World) {v0 v1 : Value} (h0 : IsInts w v0) (h1 : IsInt v1) :
    Calls Try.prog 6 #[v0, v1] w fun e w' => e = .returned (.bool true) ∧ Below w.heap.size w w' := by
  obtain ⟨A0, n0, c0, xs0, rfl, _, _, hr0, _⟩ := h0
  obtain ⟨a1, rfl, _⟩ := h1
  have HR0 := Lib.hid hr0; clear hr0
  by_cases hn0 : n0 ≤ 1048576
  rotate_left
  · go_enter Try.func6, Try.ntmps6
    go_wp2
    go_ret
    exact ⟨rfl, Below.refl _ _⟩
  go_enter Try.func6, Try.ntmps6
  have BB0 : Hid (Below w.heap.size w w) := Lib.hid (Below.refl _ _)
  go_wp2_with fail
  refine (toIntS_any A0 n0 c0 xs0 w (by omega) (HR0.out.below BB0.out)).mono ?_
  rintro e w1 ⟨As0, cs0, rfl, hown, hb⟩
  have Os0_1 := Lib.hid hown; clear hown
  have Ls0 := Lib.hid (own_lt Os0_1.out)
  have B0 := Lib.hid hb; clear hb
  have Z0 := Lib.hid (B0.out.size)
  have BB1 := Lib.hid (below_then BB0.out B0.out)
  go_wp2_with fail
  refine (specWaitingAfter_any As0 n0 cs0 xs0 a1 w1 (by omega) (Reads.of_own Os0_1.out)).mono ?_
  rintro e w2 ⟨Aw, cw, rfl, hown, hb⟩
  have Ow_2 := Lib.hid hown; clear hown
  have Lw := Lib.hid (own_lt Ow_2.out)
  have B1 := Lib.hid hb; clear hb
  have Z1 := Lib.hid (B1.out.size)
  have BB2 := Lib.hid (BB1.out.trans (B1.out.mono BB1.out.size))
  have Os0_2 := Lib.hid (own_below Os0_1.out B1.out)
  go_wp2_with fail
  refine (toIntS_any A0 n0 c0 xs0 w2 (by omega) (HR0.out.below BB2.out)).mono ?_
  rintro e w3 ⟨Ax0, cx0, rfl, hown, hb⟩
  have Ox0_3 := Lib.hid hown; clear hown
  have Lx0 := Lib.hid (own_lt Ox0_3.out)
  have B2 := Lib.hid hb; clear hb
  have Z2 := Lib.hid (B2.out.size)
  have BB3 := Lib.hid (BB2.out.trans (B2.out.mono BB2.out.size))
  have Ow_3 := Lib.hid (own_below Ow_2.out B2.out)
  go_wp2_with fail
  refine (implWaitingAfter_any Ax0 n0 cx0 xs0 a1 w3 (by omega) (Reads.of_own Ox0_3.out)).mono ?_
  rintro e w4 ⟨Ag, cg, rfl, hown, hb⟩
  have Og_4 := Lib.hid hown; clear hown
  have Lg := Lib.hid (own_lt Og_4.out)
  have B3 := Lib.hid hb; clear hb
  have Z3 := Lib.hid (B3.out.size)
  have BB4 := Lib.hid (BB3.out.trans (B3.out.mono BB3.out.size))
  have Ow_4 := Lib.hid (own_below Ow_3.out B3.out)
  have Ox0_4 := Lib.hid (own_below Ox0_3.out B3.out)
  go_wp2_with fail
  refine (eqIntS_any Ag Aw ((waitR xs0 a1).1).length cg cw (waitR xs0 a1).1 w4 (by (have := waitR_bd xs0 a1; omega)) (Reads.of_own Og_4.out) (Reads.of_own Ow_4.out)).mono ?_
  rintro e w5 ⟨rfl, hb⟩
  replace hb := below_of_quiet (B := w4.heap.size) hb
  have B4 := Lib.hid hb; clear hb
  have Z4 := Lib.hid (B4.out.size)
  have BB5 := Lib.hid (BB4.out.trans (B4.out.mono BB4.out.size))
  have Ow_5 := Lib.hid (own_below Ow_4.out B4.out)
  have Ox0_5 := Lib.hid (own_below Ox0_4.out B4.out)
  have Og_5 := Lib.hid (own_below Og_4.out B4.out)
  go_wp2_with fail
  refine (toIntS_any A0 n0 c0 xs0 w5 (by omega) (HR0.out.below BB5.out)).mono ?_
  rintro e w6 ⟨At0, ct0, rfl, hown, hb⟩
  have Ot0_6 := Lib.hid hown; clear hown
  have Lt0 := Lib.hid (own_lt Ot0_6.out)
  have B5 := Lib.hid hb; clear hb
  have Z5 := Lib.hid (B5.out.size)
  have BB6 := Lib.hid (BB5.out.trans (B5.out.mono BB5.out.size))
  have Ow_6 := Lib.hid (own_below Ow_5.out B5.out)
  have Ox0_6 := Lib.hid (own_below Ox0_5.out B5.out)
  have Og_6 := Lib.hid (own_below Og_5.out B5.out)
  go_wp2_with fail
  refine (eqIntS_any Ax0 At0 n0 cx0 ct0 xs0 w6 (by omega) (Reads.of_own Ox0_6.out) (Reads.of_own Ot0_6.out)).mono ?_
  rintro e w7 ⟨rfl, hb⟩
  replace hb := below_of_quiet (B := w6.heap.size) hb
  have B6 := Lib.hid hb; clear hb
  have Z6 := Lib.hid (B6.out.size)
  have BB7 := Lib.hid (BB6.out.trans (B6.out.mono BB6.out.size))
  have Ow_7 := Lib.hid (own_below Ow_6.out B6.out)
  have Ox0_7 := Lib.hid (own_below Ox0_6.out B6.out)
  have Og_7 := Lib.hid (own_below Og_6.out B6.out)
  have Ot0_7 := Lib.hid (own_below Ot0_6.out B6.out)
  go_wp2_with fail
  refine (markIntS_any Ax0 n0 cx0 (1) _ _ w7 (by omega) Ox0_7.out).mono ?_
  rintro e w8 ⟨rfl, hown, hg⟩
  have G7 := Lib.hid hg; clear hg
  have Ox0_8 := Lib.hid hown; clear hown
  have Z7 := Lib.hid G7.out.size
  have BB8 := Lib.hid (below_mark BB7.out Ox0_7.out G7.out (by have := Z0.out; have := Z1.out; omega) BB7.out.size)
  have Ow_8 := Lib.hid (kept_earlier Ow_7.out Lw.out Ox0_7.out G7.out (by  omega))
  have Og_8 := Lib.hid (kept_later Og_7.out G7.out Lx0.out (by  omega))
  go_wp2_with fail
  refine (eqIntS_any Ag Aw ((waitR xs0 a1).1).length cg cw (waitR xs0 a1).1 w8 (by (have := waitR_bd xs0 a1; omega)) (Reads.of_own Og_8.out) (Reads.of_own Ow_8.out)).mono ?_
  rintro e w9 ⟨rfl, hb⟩
  replace hb := below_of_quiet (B := w8.heap.size) hb
  have B8 := Lib.hid hb; clear hb
  have Z8 := Lib.hid (B8.out.size)
  have BB9 := Lib.hid (BB8.out.trans (B8.out.mono BB8.out.size))
  have Ow_9 := Lib.hid (own_below Ow_8.out B8.out)
  have Ox0_9 := Lib.hid (own_below Ox0_8.out B8.out)
  have Og_9 := Lib.hid (own_below Og_8.out B8.out)
  go_wp2_with fail
  refine (markIntS_any Ag ((waitR xs0 a1).1).length cg (1) _ _ w9 (by (have := waitR_bd xs0 a1; omega)) Og_9.out).mono ?_
  rintro e w10 ⟨rfl, hown, hg⟩
  have G9 := Lib.hid hg; clear hg
  have Og_10 := Lib.hid hown; clear hown
  have Z9 := Lib.hid G9.out.size
  have BB10 := Lib.hid (below_mark BB9.out Og_9.out G9.out (by have := Z0.out; have := Z1.out; have := Z2.out; omega) BB9.out.size)
  have Ow_10 := Lib.hid (kept_earlier Ow_9.out Lw.out Og_9.out G9.out (by have := Z2.out; omega))
  go_wp2_with fail
  refine (heldIntS_any Ag ((waitR xs0 a1).1).length cg (1) w10 (by (have := waitR_bd xs0 a1; omega)) (Reads.of_own Og_10.out)).mono ?_
  rintro e w11 ⟨rfl, hb⟩
  subst hb
  go_wp2_with fail
  refine (toIntS_any A0 n0 c0 xs0 w10 (by omega) (HR0.out.below BB10.out)).mono ?_
  rintro e w11 ⟨Ay0, cy0, rfl, hown, hb⟩
  have Oy0_11 := Lib.hid hown; clear hown
  have Ly0 := Lib.hid (own_lt Oy0_11.out)
  have B10 := Lib.hid hb; clear hb
  have Z10 := Lib.hid (B10.out.size)
  have BB11 := Lib.hid (BB10.out.trans (B10.out.mono BB10.out.size))
  have Ow_11 := Lib.hid (own_below Ow_10.out B10.out)
  have Og_11 := Lib.hid (own_below Og_10.out B10.out)
  go_wp2_with fail
  refine (implWaitingAfter_any Ay0 n0 cy0 xs0 a1 w11 (by omega) (Reads.of_own Oy0_11.out)).mono ?_
  rintro e w12 ⟨Ah, ch, rfl, hown, hb⟩
  have Oh_12 := Lib.hid hown; clear hown
  have Lh := Lib.hid (own_lt Oh_12.out)
  have B11 := Lib.hid hb; clear hb
  have Z11 := Lib.hid (B11.out.size)
  have BB12 := Lib.hid (BB11.out.trans (B11.out.mono BB11.out.size))
  have Ow_12 := Lib.hid (own_below Ow_11.out B11.out)
  have Og_12 := Lib.hid (own_below Og_11.out B11.out)
  have Oy0_12 := Lib.hid (own_below Oy0_11.out B11.out)
  go_wp2_with fail
  refine (eqIntS_any Ah Aw ((waitR xs0 a1).1).length ch cw (waitR xs0 a1).1 w12 (by (have := waitR_bd xs0 a1; omega)) (Reads.of_own Oh_12.out) (Reads.of_own Ow_12.out)).mono ?_
  rintro e w13 ⟨rfl, hb⟩
  replace hb := below_of_quiet (B := w12.heap.size) hb
  have B12 := Lib.hid hb; clear hb
  have Z12 := Lib.hid (B12.out.size)
  have BB13 := Lib.hid (BB12.out.trans (B12.out.mono BB12.out.size))
  have Ow_13 := Lib.hid (own_below Ow_12.out B12.out)
  have Og_13 := Lib.hid (own_below Og_12.out B12.out)
  have Oh_13 := Lib.hid (own_below Oh_12.out B12.out)
  go_wp2_with fail
  refine (heldIntS_any Ag ((waitR xs0 a1).1).length cg (1) w13 (by (have := waitR_bd xs0 a1; omega)) (Reads.of_own Og_13.out)).mono ?_
  rintro e w14 ⟨rfl, hb⟩
  subst hb
  go_wp2_with fail
  go_ret
  exact ⟨rfl, BB13.out⟩

theorem trLeft_any (A : Option Addr) (n c : Nat) (xs : List Int) (cap : Int) (w : World) (hn : n ≤ 60) (h : Reads w 1 A n (ints xs)) (hx : ∀ x ∈ xs, 0 ≤ x ∧ x ≤ 200) (hc1 : 1 ≤ cap) (hc2 : cap ≤ 100000) :
    Calls Try.prog 53 #[.slice A n c, .int .i64 cap] w fun e w' => e = .returned (.int .i64 (lastOf (waits cap 0 xs))) ∧ Below w.heap.size w w' := by
  have hlx : xs.length = n := by simpa using h.1
  have C2 := Lib.hid (trWaiting_any A n c xs cap w (by omega) h hx hc1 hc2)
  have hl : (waits cap 0 xs).length = n := by simp [hlx]
  have hL : lastOf (waits cap 0 xs) = (waits cap 0 xs).getD (n - 1) 0 := by unfold lastOf; rw [hl]
  rw [hL]
  generalize waits cap 0 xs = L at *
  clear hL hx hlx h hc1 hc2
  by_cases h0 : n = 0
  · subst h0
    have e : L.getD (0 - 1) 0 = 0 := by
      rw [List.getD_eq_getElem?_getD, List.getElem?_eq_none (by omega)]; rfl
    rw [e]
    clear e hl
    go_enter Try.func53, Try.ntmps53
    go_wp2_with (go_at_call 56; refine (C2.out).mono ?_; rintro e w1 ⟨A1, c1, rfl, hown, hb⟩; have HO := Lib.hid hown; clear hown)
    go_ret
    exact ⟨rfl, hb⟩
  · obtain ⟨m, rfl⟩ : ∃ m, n = m + 1 := ⟨n - 1, by omega⟩
    have hmL : m < L.length := by omega
    have e : L.getD (m + 1 - 1) 0 = L[m] := by simp [hmL]
    rw [e]
    clear e hl h0
    have hne : ((m : Int) + 1 == 0) = false := by simp; omega
    have hrd : ∀ (W : World) A1 c1, W.ownsRow w.heap.size 3 1 (.slice A1 (m + 1) c1) (m + 1) (ints L) → ∃ ad, A1 = some ad ∧ W.cell? (ad.add m) = some (.int .i64 L[m]) := by
      intro W A1 c1 hW
      obtain ⟨ad, e, hc⟩ := (Reads.of_own hW).2 (by omega)
      exact ⟨ad, e, hc m _ (by simp [ints, hmL])⟩
    have HRD := Lib.hid hrd; clear hrd
    generalize L[m] = y at *
    go_enter Try.func53, Try.ntmps53
    go_wp2_with (go_at_call 56; refine (C2.out).mono ?_; rintro e w1 ⟨A1, c1, rfl, hown, hb⟩; obtain ⟨ad, rfl, hcell⟩ := HRD.out w1 A1 c1 hown; clear hown; have HB := Lib.hid hb; clear hb)
    go_ret
    exact ⟨rfl, HB.out⟩

theorem specHoursToClear_any (A : Option Addr) (n c : Nat) (xs : List Int) (cap : Int) (w : World) (hn : n ≤ 1000000000) (h : Reads w 1 A n (ints xs)) :
    Calls Try.prog 19 #[.slice A n c, .int .i64 cap] w fun e w' => e = .returned (.tuple #[.int .i64 (clearR xs cap).1, .bool (clearR xs cap).2]) ∧ Below w.heap.size w w' := by
  have c1 := trGood_any A n c xs cap w hn h
  cases hg : trafB xs cap with
  | false =>
    rw [hg] at c1
    have hr : clearR xs cap = (0, false) := by simp [clearR, hg]
    rw [hr]
    have C1 := Lib.hid c1
    clear c1 hr h hg
    go_enter Try.func19, Try.ntmps19
    go_wp2_with (go_at_call 52; refine (C1.out).mono ?_; rintro e w' ⟨rfl, rfl⟩)
    go_ret2
    exact ⟨rfl, Below.refl _ _⟩
  | true =>
    rw [hg] at c1
    have C1 := Lib.hid c1
    clear c1
    obtain ⟨⟨hn60, hx⟩, hc1, hc2⟩ := trafB_true.1 hg
    have hlx : xs.length = n := by simpa using h.1
    have hr : clearR xs cap = ((lastOf (waits cap 0 xs) + cap - 1) / cap, true) := by simp [clearR, hg]
    rw [hr]
    have hlb := lastOf_bd hc1 hx hn60
    have C2 := Lib.hid (trLeft_any A n c xs cap w (by omega) h hx hc1 (by omega))
    generalize lastOf (waits cap 0 xs) = q at *
    clear hr h hg hx hlx hn60
    go_enter Try.func19, Try.ntmps19
    go_wp2_with (first | (go_at_call 52; refine (C1.out).mono ?_; rintro e w' ⟨rfl, rfl⟩) | (go_at_call 53; refine (C2.out).mono ?_; rintro e w1 ⟨rfl, hb⟩; have HB := Lib.hid hb; clear hb))
    go_ret2
    exact ⟨rfl, HB.out⟩

theorem implHoursToClear_any (A : Option Addr) (n c : Nat) (xs : List Int) (cap : Int) (w : World) (hn : n ≤ 1000000000) (h : Reads w 1 A n (ints xs)) :
    Calls Try.prog 20 #[.slice A n c, .int .i64 cap] w fun e w' => e = .returned (.tuple #[.int .i64 (clearR xs cap).1, .bool (clearR xs cap).2]) ∧ Below w.heap.size w w' := by
  have c1 := trafficAsked_any A n c xs cap w hn h
  cases hg : trafB xs cap with
  | false =>
    rw [hg] at c1
    have hr : clearR xs cap = (0, false) := by simp [clearR, hg]
    rw [hr]
    have C1 := Lib.hid c1
    clear c1 hr h hg
    go_enter Try.func20, Try.ntmps20
    go_wp2_with (go_at_call 50; refine (C1.out).mono ?_; rintro e w' ⟨rfl, rfl⟩)
    go_ret2
    exact ⟨rfl, Below.refl _ _⟩
  | true =>
    rw [hg] at c1
    have C1 := Lib.hid c1
    clear c1
    obtain ⟨⟨hn60, hx⟩, hc1, hc2⟩ := trafB_true.1 hg
    have hlx : xs.length = n := by simpa using h.1
    have hr : clearR xs cap = ((lastOf (waits cap 0 xs) + cap - 1) / cap, true) := by simp [clearR, hg]
    rw [hr]
    have hlb := lastOf_bd hc1 hx hn60
    have hl : (waits cap 0 xs).length = n := by simp [hlx]
    have hL : lastOf (waits cap 0 xs) = (waits cap 0 xs).getD (n - 1) 0 := by unfold lastOf; rw [hl]
    by_cases h0 : n = 0
    · subst h0
      have e : (waits cap 0 xs).getD (0 - 1) 0 = 0 := by
        rw [List.getD_eq_getElem?_getD, List.getElem?_eq_none (by omega)]; rfl
      rw [hL, e, Int.ediv_eq_zero_of_lt (by omega) (by omega)]
      clear e hl hr h hg hx hlx hn60 hlb hL
      go_enter Try.func20, Try.ntmps20
      go_wp2_with (go_at_call 50; refine (C1.out).mono ?_; rintro e w' ⟨rfl, rfl⟩)
      go_ret2
      exact ⟨rfl, Below.refl _ _⟩
    · obtain ⟨m, rfl⟩ : ∃ m, n = m + 1 := ⟨n - 1, by omega⟩
      have C2 := Lib.hid (waitingAfter_any A (m + 1) c xs cap w (by omega) h hx hc1 (by omega))
      generalize waits cap 0 xs = L at *
      have hmL : m < L.length := by omega
      have e : L.getD (m + 1 - 1) 0 = L[m] := by simp [hmL]
      rw [hL, e] at hlb
      rw [hL, e]
      clear e hl hr h hg hx hlx hn60 hL
      have hne : ((m : Int) + 1 == 0) = false := by simp; omega
      have hrd : ∀ (W : World) A1 c1, W.ownsRow w.heap.size 3 1 (.slice A1 (m + 1) c1) (m + 1) (ints L) → ∃ ad, A1 = some ad ∧ W.cell? (ad.add m) = some (.int .i64 L[m]) := by
        intro W A1 c1 hW
        obtain ⟨ad, e, hc⟩ := (Reads.of_own hW).2 (by omega)
        exact ⟨ad, e, hc m _ (by simp [ints, hmL])⟩
      have HRD := Lib.hid hrd; clear hrd
      generalize L[m] = y at *
      go_enter Try.func20, Try.ntmps20
      go_wp2_with (first | (go_at_call 50; refine (C1.out).mono ?_; rintro e w' ⟨rfl, rfl⟩) | (go_at_call 54; refine (C2.out).mono ?_; rintro e w1 ⟨A1, c1, rfl, hown, hb⟩; obtain ⟨ad, rfl, hcell⟩ := HRD.out w1 A1 c1 hown; clear hown; have HB := Lib.hid hb; clear hb))
      go_ret2
      exact ⟨rfl, HB.out⟩
set_option maxHeartbeats 2000000 in
set_option maxRecDepth 100000 in
theorem law_FnExactHoursToClear (w : World) {v0 v1 : Value} (h0 : IsInts w v0) (h1 : IsInt v1) :
    Calls Try.prog 4 #[v0, v1] w fun e w' => e = .returned (.bool true) ∧ Below w.heap.size w w' := by
  obtain ⟨A0, n0, c0, xs0, rfl, _, _, hr0, _⟩ := h0
  obtain ⟨a1, rfl, _⟩ := h1
  have HR0 := Lib.hid hr0; clear hr0
  by_cases hn0 : n0 ≤ 1048576
  rotate_left
  · go_enter Try.func4, Try.ntmps4
    go_wp2
    go_ret
    exact ⟨rfl, Below.refl _ _⟩
  go_enter Try.func4, Try.ntmps4
  have BB0 : Hid (Below w.heap.size w w) := Lib.hid (Below.refl _ _)
  go_wp2_with fail
  refine (toIntS_any A0 n0 c0 xs0 w (by omega) (HR0.out.below BB0.out)).mono ?_
  rintro e w1 ⟨As0, cs0, rfl, hown, hb⟩
  have Os0_1 := Lib.hid hown; clear hown
  have Ls0 := Lib.hid (own_lt Os0_1.out)
  have B0 := Lib.hid hb; clear hb
  have Z0 := Lib.hid (B0.out.size)
  have BB1 := Lib.hid (below_then BB0.out B0.out)
  go_wp2_with fail
  refine (specHoursToClear_any As0 n0 cs0 xs0 a1 w1 (by omega) (Reads.of_own Os0_1.out)).mono ?_
  rintro e w2 ⟨rfl, hb⟩
  have B1 := Lib.hid hb; clear hb
  have Z1 := Lib.hid (B1.out.size)
  have BB2 := Lib.hid (BB1.out.trans (B1.out.mono BB1.out.size))
  have Os0_2 := Lib.hid (own_below Os0_1.out B1.out)
  go_wp2_with fail
  refine (toIntS_any A0 n0 c0 xs0 w2 (by omega) (HR0.out.below BB2.out)).mono ?_
  rintro e w3 ⟨Ax0, cx0, rfl, hown, hb⟩
  have Ox0_3 := Lib.hid hown; clear hown
  have Lx0 := Lib.hid (own_lt Ox0_3.out)
  have B2 := Lib.hid hb; clear hb
  have Z2 := Lib.hid (B2.out.size)
  have BB3 := Lib.hid (BB2.out.trans (B2.out.mono BB2.out.size))
  go_wp2_with fail
  refine (implHoursToClear_any Ax0 n0 cx0 xs0 a1 w3 (by omega) (Reads.of_own Ox0_3.out)).mono ?_
  rintro e w4 ⟨rfl, hb⟩
  have B3 := Lib.hid hb; clear hb
  have Z3 := Lib.hid (B3.out.size)
  have BB4 := Lib.hid (BB3.out.trans (B3.out.mono BB3.out.size))
  have Ox0_4 := Lib.hid (own_below Ox0_3.out B3.out)
  go_wp2_with fail
  refine (toIntS_any A0 n0 c0 xs0 w4 (by omega) (HR0.out.below BB4.out)).mono ?_
  rintro e w5 ⟨At0, ct0, rfl, hown, hb⟩
  have Ot0_5 := Lib.hid hown; clear hown
  have Lt0 := Lib.hid (own_lt Ot0_5.out)
  have B4 := Lib.hid hb; clear hb
  have Z4 := Lib.hid (B4.out.size)
  have BB5 := Lib.hid (BB4.out.trans (B4.out.mono BB4.out.size))
  have Ox0_5 := Lib.hid (own_below Ox0_4.out B4.out)
  go_wp2_with fail
  refine (eqIntS_any Ax0 At0 n0 cx0 ct0 xs0 w5 (by omega) (Reads.of_own Ox0_5.out) (Reads.of_own Ot0_5.out)).mono ?_
  rintro e w6 ⟨rfl, hb⟩
  replace hb := below_of_quiet (B := w5.heap.size) hb
  have B5 := Lib.hid hb; clear hb
  have Z5 := Lib.hid (B5.out.size)
  have BB6 := Lib.hid (BB5.out.trans (B5.out.mono BB5.out.size))
  have Ox0_6 := Lib.hid (own_below Ox0_5.out B5.out)
  have Ot0_6 := Lib.hid (own_below Ot0_5.out B5.out)
  go_wp2_with fail
  go_ret
  exact ⟨rfl, BB6.out⟩

end Go.Proofs.Ytgdlaeibdpbgdaa
