/- Contracts of MeanDelay of both packages, and the law over them. No conditions. -/
import Derived.Test.YtgdlaeibdpbgdaaTr4
namespace Go.Proofs.Ytgdlaeibdpbgdaa
set_option linter.unusedSimpArgs false
set_option linter.unusedVariables false
open Go.RowKit


set_option maxHeartbeats 1000000 in
theorem specMeanDelay_any (A : Option Addr) (n c : Nat) (xs : List Int) (cap : Int) (w : World) (hn : n ≤ 1000000000) (h : Reads w 1 A n (ints xs)) :
    Calls Try.prog 35 #[.slice A n c, .int .i64 cap] w fun e w' => e = .returned (.tuple #[.int .i64 (meanR xs cap).1, .int .i64 (meanR xs cap).2.1, .bool (meanR xs cap).2.2]) ∧ Below w.heap.size w w' := by
  have c1 := trGood_any A n c xs cap w hn h
  cases hg : trafB xs cap with
  | false =>
    rw [hg] at c1
    have hr : meanR xs cap = (0, 0, false) := by simp [meanR, hg]
    rw [hr]
    have C1 := Lib.hid c1
    clear c1 hr h hg
    go_enter Try.func35, Try.ntmps35
    go_wp2_with (go_at_call 52; refine (C1.out).mono ?_; rintro e w' ⟨rfl, rfl⟩)
    go_ret3
    exact ⟨rfl, Below.refl _ _⟩
  | true =>
    rw [hg] at c1
    have C1 := Lib.hid c1
    clear c1
    obtain ⟨⟨hn60, hx⟩, hc1, hc2⟩ := trafB_true.1 hg
    have hlx : xs.length = n := by simpa using h.1
    have hC2 := trDelays_any A n c xs cap w (by omega) h hx hc1 (by omega)
    have C2 := Lib.hid hC2; clear hC2
    have hdl := length_delays cap xs (fun x hx' => (hx x hx').1)
    have hsb := sumL_bd xs 0 200 hx
    have hbd := delays_bd cap hc1 xs hx hn60
    have hsd := sumL_bd (delays cap xs) 0 12060 hbd
    have HBD := Lib.hid (fun x (hx' : x ∈ delays cap xs) => show -1000000 ≤ x ∧ x ≤ 1000000 by have := hbd x hx'; omega)
    have hS1 : 0 ≤ sumL xs ∧ sumL xs ≤ 12000 := by omega
    have hDl : (delays cap xs).length ≤ 12000 := by omega
    have hT1 : 0 ≤ sumL (delays cap xs) ∧ sumL (delays cap xs) ≤ 12060 * 12000 := by omega
    have C3 := Lib.hid (fun (W : World) (h' : Reads W 1 A n (ints xs)) => trSum_any A n c xs W (by omega) h' (fun x hx' => by have := hx x hx'; omega))
    have H := Lib.hid h
    by_cases h0 : sumL xs = 0
    · have hr : meanR xs cap = (0, 0, false) := by simp [meanR, h0]
      rw [hr]
      have C3' := Lib.hid (C3.out w h)
      rw [h0] at C3'
      clear hr h hg hx hlx hn60 hdl hsb hbd hsd hS1 hDl hT1 C2 h0 C3
      go_enter Try.func35, Try.ntmps35
      go_wp2_with (first | (go_at_call 52; refine (C1.out).mono ?_; rintro e w' ⟨rfl, rfl⟩) | (go_at_call 49; refine (C3'.out).mono ?_; rintro e w' ⟨rfl, rfl⟩))
      go_ret3
      exact ⟨rfl, Below.refl _ _⟩
    · have hr : meanR xs cap = (sumL (delays cap xs) / (Nat.gcd (sumL (delays cap xs)).toNat (sumL xs).toNat : Int), sumL xs / (Nat.gcd (sumL (delays cap xs)).toNat (sumL xs).toNat : Int), true) := by simp [meanR, hg, h0]
      rw [hr]
      obtain ⟨s, hs⟩ : ∃ s : Nat, sumL (delays cap xs) = (s : Int) := ⟨_, (Int.toNat_of_nonneg hT1.1).symm⟩
      obtain ⟨t, ht⟩ : ∃ t : Nat, sumL xs = (t : Int) := ⟨_, (Int.toNat_of_nonneg hS1.1).symm⟩
      have C4 := Lib.hid (fun (W : World) A1 c1 (h' : Reads W 1 A1 (delays cap xs).length (ints (delays cap xs))) => trSum_any A1 _ c1 (delays cap xs) W (by omega) h' HBD.out)
      have hs1 : (s : Int) ≤ 144720000 := by omega
      have ht1 : 1 ≤ (t : Int) ∧ (t : Int) ≤ 12000 := by omega
      rw [hs, ht]
      rw [ht] at C3
      rw [hs] at C4
      have C5 := Lib.hid (fun W => siPart_any s t W (by omega) (by omega) (by omega))
      have hne : ((t : Int) == 0) = false := by simp; omega
      generalize delays cap xs = D at *
      rw [Int.toNat_natCast, Int.toNat_natCast]
      have HS := Lib.hid hs
      have HT := Lib.hid ht
      clear hr h hg hx hlx hn60 hdl hsb hbd hsd hS1 hDl hT1 h0 hs ht
      go_enter Try.func35, Try.ntmps35
      go_wp2_with fail
      refine (C1.out).mono ?_
      rintro e w' ⟨rfl, rfl⟩
      go_wp2_with fail
      refine (C3.out _ H.out).mono ?_
      rintro e w' ⟨rfl, rfl⟩
      go_wp2_with fail
      refine (C2.out).mono ?_
      rintro e w1 ⟨A1, c1, rfl, hown, hb⟩
      have HO := Lib.hid hown; clear hown
      have HB := Lib.hid hb; clear hb
      go_wp2_with fail
      refine (C4.out _ A1 c1 (Reads.of_own HO.out)).mono ?_
      rintro e w' ⟨rfl, rfl⟩
      go_wp2_with fail
      refine (C3.out _ (H.out.below HB.out)).mono ?_
      rintro e w' ⟨rfl, rfl⟩
      go_wp2_with fail
      refine (C5.out _).mono ?_
      rintro e w2 ⟨rfl, hq⟩
      have HQ := Lib.hid hq; clear hq
      go_wp2_with fail
      go_ret3
      exact ⟨rfl, HB.out.trans (below_of_quiet HQ.out)⟩
set_option maxHeartbeats 1000000 in
theorem implMeanDelay_any (A : Option Addr) (n c : Nat) (xs : List Int) (cap : Int) (w : World) (hn : n ≤ 1000000000) (h : Reads w 1 A n (ints xs)) :
    Calls Try.prog 36 #[.slice A n c, .int .i64 cap] w fun e w' => e = .returned (.tuple #[.int .i64 (meanR xs cap).1, .int .i64 (meanR xs cap).2.1, .bool (meanR xs cap).2.2]) ∧ Below w.heap.size w w' := by
  have c1 := trafficAsked_any A n c xs cap w hn h
  cases hg : trafB xs cap with
  | false =>
    rw [hg] at c1
    have hr : meanR xs cap = (0, 0, false) := by simp [meanR, hg]
    rw [hr]
    have C1 := Lib.hid c1
    clear c1 hr h hg
    go_enter Try.func36, Try.ntmps36
    go_wp2_with (go_at_call 50; refine (C1.out).mono ?_; rintro e w' ⟨rfl, rfl⟩)
    go_ret3
    exact ⟨rfl, Below.refl _ _⟩
  | true =>
    rw [hg] at c1
    have C1 := Lib.hid c1
    clear c1
    obtain ⟨⟨hn60, hx⟩, hc1, hc2⟩ := trafB_true.1 hg
    have hlx : xs.length = n := by simpa using h.1
    have hC2 := delaysOf_any A n c xs cap w (by omega) h hx hc1 (by omega)
    have C2 := Lib.hid hC2; clear hC2
    have hdl := length_delays cap xs (fun x hx' => (hx x hx').1)
    have hsb := sumL_bd xs 0 200 hx
    have hbd := delays_bd cap hc1 xs hx hn60
    have hsd := sumL_bd (delays cap xs) 0 12060 hbd
    have HBD := Lib.hid (fun x (hx' : x ∈ delays cap xs) => show -1000000 ≤ x ∧ x ≤ 1000000 by have := hbd x hx'; omega)
    have hS1 : 0 ≤ sumL xs ∧ sumL xs ≤ 12000 := by omega
    have hDl : (delays cap xs).length ≤ 12000 := by omega
    have hT1 : 0 ≤ sumL (delays cap xs) ∧ sumL (delays cap xs) ≤ 12060 * 12000 := by omega
    have hdl0 : Hid (((delays cap xs).length : Int) = sumL xs) := Lib.hid hdl
    by_cases h0 : sumL xs = 0
    · have hr : meanR xs cap = (0, 0, false) := by simp [meanR, h0]
      rw [hr]
      have hd0 : (delays cap xs).length = 0 := by omega
      rw [hd0] at C2
      clear hr h hg hx hlx hn60 hdl hsb hbd hsd hS1 hDl hT1 h0 HBD hd0 hdl0
      go_enter Try.func36, Try.ntmps36
      go_wp2_with (first | (go_at_call 50; refine (C1.out).mono ?_; rintro e w' ⟨rfl, rfl⟩) | (go_at_call 61; refine (C2.out).mono ?_; rintro e w1 ⟨A1, c1, rfl, hown, hb⟩; have HB := Lib.hid hb; clear hown hb))
      go_ret3
      exact ⟨rfl, HB.out⟩
    · have hr : meanR xs cap = (sumL (delays cap xs) / (Nat.gcd (sumL (delays cap xs)).toNat (sumL xs).toNat : Int), sumL xs / (Nat.gcd (sumL (delays cap xs)).toNat (sumL xs).toNat : Int), true) := by simp [meanR, hg, h0]
      rw [hr]
      obtain ⟨s, hs⟩ : ∃ s : Nat, sumL (delays cap xs) = (s : Int) := ⟨_, (Int.toNat_of_nonneg hT1.1).symm⟩
      have hsumd : sumL xs = ((delays cap xs).length : Int) := by omega
      have HDB : Hid (∀ x ∈ delays cap xs, 0 ≤ x ∧ x ≤ 12060) := Lib.hid hbd
      rw [hs, hsumd]
      generalize hD : delays cap xs = D at *
      have C5 := Lib.hid (fun W => gcdOf_any s D.length W (by omega) (by omega))
      have hgp : 0 < Nat.gcd s D.length := Nat.gcd_pos_of_pos_right _ (by omega)
      rw [Int.toNat_natCast, Int.toNat_natCast]
      have HS := Lib.hid hs
      have hsl : (s : Int) ≤ 12060 * 12000 := by omega
      have hne : ((D.length : Int) == 0) = false := by rw [beq_eq_false_iff_ne]; omega
      generalize hg2 : Nat.gcd s D.length = g at *
      have hg1 : 1 ≤ (g : Int) := by omega
      clear hr h hg hx hlx hn60 hdl hsb hbd hsd hS1 hT1 h0 hs hsumd hD hg2 hgp hdl0
      go_enter Try.func36, Try.ntmps36
      go_wp2_with (first | (go_at_call 50; refine (C1.out).mono ?_; rintro e w' ⟨rfl, rfl⟩) | (go_at_call 61; refine (C2.out).mono ?_; rintro e w1 ⟨A1, c1, rfl, hown, hb⟩; have HO := Lib.hid hown; clear hown; have HB := Lib.hid hb; clear hb))
      generalize hd : D.length = d at *
      have HD := Lib.hid hd; clear hd
      go_loop [8, 24] (fun s0 i => ∃ k : Nat, ∃ q : Int, k ≤ d ∧ i = .int .i64 k ∧ s0 = .int .i64 q ∧ 0 ≤ q ∧ q ≤ 12060 * (k : Int) ∧ q + sumL (D.drop k) = sumL D) (fun _ i => d - (intOf i).toNat)
      case atStart => exact ⟨0, 0, Nat.zero_le _, rfl, rfl, by omega, by omega, by simp⟩
      case round =>
        obtain ⟨k, q, hk, rfl, rfl, hq1, hq2, hrel⟩ := hrel
        have HR := Lib.hid hrel; clear hrel
        by_cases hlt : k < d
        · obtain ⟨ad, rfl, hc⟩ := (Reads.of_own HO.out).2 (by omega)
          have hxk : k < D.length := by rw [HD.out]; exact hlt
          have hcell : w1.cell? (ad.add k) = some (.int .i64 D[k]) := hc k _ (by simp [ints, hxk])
          have hb := HDB.out D[k] (List.getElem_mem hxk)
          have HDR := Lib.hid (drop_cons hxk)
          clear hc
          generalize D[k] = x at hcell hb HDR
          go_wp2
          go_round
          case rel => exact ⟨k + 1, _, by omega, by go_num, rfl, by omega, by omega, by rw [← HR.out, HDR.out]; simp only [sumL]; omega⟩
          case measure => simp [intOf]; omega
        · obtain rfl : k = d := by omega
          have HE := Lib.hid (drop_end (xs := D) (k := k) (by rw [HD.out]; omega))
          have hqs : q = (s : Int) := by have := HR.out; rw [HE.out, HS.out] at this; simp [sumL] at this; exact this
          subst hqs
          go_wp2_with (go_at_call 66; refine (C5.out _).mono ?_; rintro e w2 ⟨rfl, hq⟩; have HQ := Lib.hid hq; clear hq)
          go_quiet (fail)
          go_wp2
          go_ret3
          refine ⟨ret_int2b (quo_in s g (by omega)) ?_, below_toN (HB.out.trans (below_of_quiet HQ.out)) _⟩
          rw [HD.out]
          exact quo_in k g (by omega)
set_option maxHeartbeats 2000000 in
set_option maxRecDepth 100000 in
theorem law_FnExactMeanDelay (w : World) {v0 v1 : Value} (h0 : IsInts w v0) (h1 : IsInt v1) :
    Calls Try.prog 11 #[v0, v1] w fun e w' => e = .returned (.bool true) ∧ Below w.heap.size w w' := by
  obtain ⟨A0, n0, c0, xs0, rfl, _, _, hr0, _⟩ := h0
  obtain ⟨a1, rfl, _⟩ := h1
  have HR0 := Lib.hid hr0; clear hr0
  by_cases hn0 : n0 ≤ 1048576
  rotate_left
  · go_enter Try.func11, Try.ntmps11
    go_wp2
    go_ret
    exact ⟨rfl, Below.refl _ _⟩
  go_enter Try.func11, Try.ntmps11
  have BB0 : Hid (Below w.heap.size w w) := Lib.hid (Below.refl _ _)
  go_wp2_with fail
  refine (toIntS_any A0 n0 c0 xs0 w (by omega) (HR0.out.below BB0.out)).mono ?_
  rintro e w1 ⟨As0, cs0, rfl, hown, hb⟩
  have Os0_1 := Lib.hid hown; clear hown
  have Ls0 := Lib.hid (own_lt Os0_1.out)
  have B0 := Lib.hid hb; clear hb
  have Z0 := Lib.hid (B0.out.size)
  have BB1 := Lib.hid (below_then BB0.out B0.out)
  go_wp2_with fail
  refine (specMeanDelay_any As0 n0 cs0 xs0 a1 w1 (by omega) (Reads.of_own Os0_1.out)).mono ?_
  rintro e w2 ⟨rfl, hb⟩
  have B1 := Lib.hid hb; clear hb
  have Z1 := Lib.hid (B1.out.size)
  have BB2 := Lib.hid (BB1.out.trans (B1.out.mono BB1.out.size))
  have Os0_2 := Lib.hid (own_below Os0_1.out B1.out)
  go_wp2_with fail
  refine (toIntS_any A0 n0 c0 xs0 w2 (by omega) (HR0.out.below BB2.out)).mono ?_
  rintro e w3 ⟨Ax0, cx0, rfl, hown, hb⟩
  have Ox0_3 := Lib.hid hown; clear hown
  have Lx0 := Lib.hid (own_lt Ox0_3.out)
  have B2 := Lib.hid hb; clear hb
  have Z2 := Lib.hid (B2.out.size)
  have BB3 := Lib.hid (BB2.out.trans (B2.out.mono BB2.out.size))
  go_wp2_with fail
  refine (implMeanDelay_any Ax0 n0 cx0 xs0 a1 w3 (by omega) (Reads.of_own Ox0_3.out)).mono ?_
  rintro e w4 ⟨rfl, hb⟩
  have B3 := Lib.hid hb; clear hb
  have Z3 := Lib.hid (B3.out.size)
  have BB4 := Lib.hid (BB3.out.trans (B3.out.mono BB3.out.size))
  have Ox0_4 := Lib.hid (own_below Ox0_3.out B3.out)
  go_wp2_with fail
  refine (toIntS_any A0 n0 c0 xs0 w4 (by omega) (HR0.out.below BB4.out)).mono ?_
  rintro e w5 ⟨At0, ct0, rfl, hown, hb⟩
  have Ot0_5 := Lib.hid hown; clear hown
  have Lt0 := Lib.hid (own_lt Ot0_5.out)
  have B4 := Lib.hid hb; clear hb
  have Z4 := Lib.hid (B4.out.size)
  have BB5 := Lib.hid (BB4.out.trans (B4.out.mono BB4.out.size))
  have Ox0_5 := Lib.hid (own_below Ox0_4.out B4.out)
  go_wp2_with fail
  refine (eqIntS_any Ax0 At0 n0 cx0 ct0 xs0 w5 (by omega) (Reads.of_own Ox0_5.out) (Reads.of_own Ot0_5.out)).mono ?_
  rintro e w6 ⟨rfl, hb⟩
  replace hb := below_of_quiet (B := w5.heap.size) hb
  have B5 := Lib.hid hb; clear hb
  have Z5 := Lib.hid (B5.out.size)
  have BB6 := Lib.hid (BB5.out.trans (B5.out.mono BB5.out.size))
  have Ox0_6 := Lib.hid (own_below Ox0_5.out B5.out)
  have Ot0_6 := Lib.hid (own_below Ot0_5.out B5.out)
  go_wp2_with fail
  go_ret
  exact ⟨rfl, BB6.out⟩

end Go.Proofs.Ytgdlaeibdpbgdaa
