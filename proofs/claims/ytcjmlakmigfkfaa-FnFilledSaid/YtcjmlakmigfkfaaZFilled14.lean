/- Lemmas and contracts of this claim, several texts in one: FitsBetween of the spec. ChangedEntries and FindEntry of the implementation, on logs. The drawing cursor of the spec: contracts of next, pick, one, among. Small lists that are drawn: lemmas. Speaks of no function. The spec's drawings of entries: content, contents. No conditions. -/
import Derived.Laws.Bits64b
import Derived.Test.YtcjmlakmigfkfaaZFilled13
import Derived.Test.YtcjmlakmigfkfaaZFilled11
import Derived.Test.YtcjmlakmigfkfaaZFilled1
namespace Go.Proofs.Ytcjmlakmigfkfaa
set_option linter.unusedSimpArgs false
set_option linter.unusedVariables false
open Go.RowKit


set_option maxHeartbeats 8000000 in
set_option maxRecDepth 1000000 in
theorem specFitsBetween_any (A0 : Option Addr) (n0 c0 : Nat) (T : List EntryT) (A : Option Addr) (n c : Nat) (L : List EntryT) (B : Option Addr) (m d : Nat) (M : List EntryT) (a b : Int) (w : World) (hn0 : n0 ≤ 1000000000) (hl0 : ∀ x ∈ T, lenE 1000000000 x) (h0 : Reads2 w 5 A0 n0 (rowsE T)) (hn : n ≤ 1000000000) (hl : ∀ x ∈ L, lenE 1000000000 x) (h : Reads2 w 5 A n (rowsE L)) (hm : m ≤ 1000000000) (hl' : ∀ x ∈ M, lenE 1000000000 x) (h' : Reads2 w 5 B m (rowsE M)) (hgT : goodE T = true) (hgA : askE L M a b = true) :
    Calls Try.prog 41 #[.slice A0 n0 c0, .slice A n c, .slice B m d, .int .i64 a, .int .i64 b] w fun e w' => e = .returned (.tuple #[.bool (fitA T a b (togE M L) && decide ((togE M L).length = T.length)), .bool true]) ∧ Below w.heap.size w w' := by
  have c1 := fun W (hW : Below w.heap.size w W) => lgGood_any A0 n0 c0 T W hn0 hl0 (h0.below hW)
  have c2 := fun W (hW : Below w.heap.size w W) => rbGood_any A n c L B m d M a b W hn hl (h.below hW) hm hl' (h'.below hW)
  simp only [hgT] at c1
  simp only [hgA] at c2
  have C1 := Lib.hid c1
  have C2 := Lib.hid c2
  obtain ⟨hgL, hgM, hab, hbb⟩ := askE_true hgA
  have gL := goodE_all hgL
  have gM := goodE_all hgM
  have gT := goodE_all hgT
  have HX := Lib.hid (show L.length = n by have := h.len; rw [length_rowsE] at this; omega)
  have HY := Lib.hid (show M.length = m by have := h'.len; rw [length_rowsE] at this; omega)
  have HZ := Lib.hid (show T.length = n0 by have := h0.len; rw [length_rowsE] at this; omega)
  have hn30 : n ≤ 30 := by rw [← HX.out]; exact gL.2
  have hm30 : m ≤ 30 := by rw [← HY.out]; exact gM.2
  have ht30 : n0 ≤ 30 := by rw [← HZ.out]; exact gT.2
  have HLT := Lib.hid (fun x (hx : x ∈ T) => entB_len (gT.1 x hx))
  have HLL := Lib.hid (fun x (hx : x ∈ L) => entB_len (gL.1 x hx))
  have HLM := Lib.hid (fun x (hx : x ∈ M) => entB_len (gM.1 x hx))
  have H := Lib.hid h
  have H' := Lib.hid h'
  have H0 := Lib.hid h0
  have C3 := Lib.hid (fun W (hW : Below w.heap.size w W) => rbGaps_any A n c L B m d M a b W (by omega) (by omega) gL.1 gM.1 hab hbb (h.below hW) (h'.below hW))
  have hN : cntE M L ≤ 30 := by have := togE_len M L; have := gL.2; unfold cntE; omega
  have HPL : Hid ((togE M L).length = cntE M L) := Lib.hid rfl
  clear c1 c2 h h' h0 hl hl' hl0 hgT hgA hgL hgM gL gM gT
  go_enter Try.func41, Try.ntmps41
  go_wp2_with fail
  refine (C1.out _ (Below.refl _ _)).mono ?_
  rintro e w1 ⟨rfl, hb⟩
  have HB1 := Lib.hid hb
  clear hb
  go_wp2_with fail
  refine (C2.out _ HB1.out).mono ?_
  rintro e w2 ⟨rfl, hb⟩
  have HB2 := Lib.hid (HB1.out.trans (hb.mono HB1.out.size))
  clear hb C1 C2 HB1
  go_wp2_with fail
  refine (C3.out _ HB2.out).mono ?_
  rintro e w3 ⟨P1, p1', P2, p2', hs0, rfl, hr3, hb3⟩
  have HR3 := Lib.hid (Reads.of_own hr3.one)
  have HR4 := Lib.hid (Reads2.of_own hr3.two)
  have HW3 := Lib.hid (HB2.out.trans (hb3.mono HB2.out.size))
  clear hr3 hb3 C3
  by_cases hlen : cntE M L = n0
  rotate_left
  · have hne : ((cntE M L : Int) != (n0 : Int)) = true := by rw [bne_iff_ne]; omega
    have HFA : Hid ((fitA T a b (togE M L) && decide ((togE M L).length = T.length)) = false) := Lib.hid (by rw [HPL.out, HZ.out]; simp [hlen])
    go_wp2
    go_ret2
    exact ⟨by first | (rw [HFA.out]; done) | (rw [HFA.out]; rfl) | (simp [HFA.out]; done), HW3.out⟩
  have hne : ((cntE M L : Int) != (n0 : Int)) = false := by rw [bne_eq_false_iff_eq]; omega
  have HLEN := Lib.hid hlen
  clear hlen
  go_wp2
  clear hne
  go_loopw [43] (fun kv wr => ∃ k : Nat, k ≤ cntE M L ∧ kv = .int .i64 k ∧ (fitA T a b ((togE M L).drop k) && decide ((togE M L).length = T.length)) = (fitA T a b (togE M L) && decide ((togE M L).length = T.length)) ∧ Below w3.heap.size w3 wr) (fun kv _ => cntE M L - (intOf kv).toNat)
  case atStart => exact ⟨0, Nat.zero_le _, rfl, rfl, Below.refl _ _⟩
  case round =>
    obtain ⟨k, hk, rfl, hrc, hb⟩ := hrel
    have HRC := Lib.hid hrc; have HB := Lib.hid hb
    clear hrc hb
    have HWB : Hid (Below w.heap.size w wr) := Lib.hid (HW3.out.trans (HB.out.mono HW3.out.size))
    by_cases hlt : k < cntE M L
    · have hx : k < (togE M L).length := by rw [HPL.out]; exact hlt
      have HD := Lib.hid (drop_cons hx)
      obtain ⟨i, j, hi, hj, hix, hxy⟩ := ix_at hx
      obtain ⟨ga, rfl, k0, k1, k2, k3⟩ := rows4_at (HR3.out.below HB.out) hlt (gapsE_len M a b L)
      obtain ⟨pa, qa, cq, rfl, j0, j1, j2⟩ := ixL_at (HR4.out.below HB.out) hix
      obtain ⟨ad, A3, c3, A4, c4, rfl, _, _, _, _, k4, _, hra⟩ := rowsE_at (H.out.below HWB.out) hi
      obtain ⟨bd, B3, d3, B4, d4, rfl, _, _, _, k5, _, hrb, _⟩ := rowsE_at (H'.out.below HWB.out) hj
      have HLK : Hid (fitA T a b ((togE M L).drop k) = (fit1 T a b (L[i], M[j]) && fitA T a b ((togE M L).drop (k + 1)))) := Lib.hid (by rw [HD.out, hxy]; rfl)
      have hge : (gapsE M a b L)[k]'(by rw [gapsE_len]; exact hlt) = (L[i].2.1, L[i].2.2.1, L[i].1 + a, M[j].1 - b) := by simp only [gapsE, List.getElem_map, hxy, gapOf]
      simp only [hge] at k0 k1 k2 k3
      have hll := HLL.out _ (List.getElem_mem hi)
      have hlm := HLM.out _ (List.getElem_mem hj)
      have him : (i : Int) < (n : Int) := by rw [HX.out] at hi; omega
      have hjm : (j : Int) < (m : Int) := by rw [HY.out] at hj; omega
      have hi0 : (0 : Int) ≤ (i : Int) := by omega
      have hj0 : (0 : Int) ≤ (j : Int) := by omega
      have hkN : (k : Int) < (cntE M L : Int) := by omega
      have hk0 : (0 : Int) ≤ (k : Int) := by omega
      have hfc := findE_cases T L[i]
      clear hix hxy hge
      generalize L[i] = x at *
      generalize M[j] = y at *
      obtain ⟨xt, xm, xp, xl, l'⟩ := x
      obtain ⟨yt, ym, yp, yl, yl'⟩ := y
      simp only at k0 k1 k2 k3 k4 k5 hra hrb hll hlm
      obtain ⟨lw, hlw⟩ : ∃ lw, lw = xt + a := ⟨_, rfl⟩
      obtain ⟨hw, hhw⟩ : ∃ hw, hw = yt - b := ⟨_, rfl⟩
      have HFI : Hid (fit1 T a b ((xt, xm, xp, xl, l'), (yt, ym, yp, yl, yl')) = if findE T (xt, xm, xp, xl, l') < 0 then false else inB (T.getD (findE T (xt, xm, xp, xl, l')).toNat zE).1 lw hw && (sameB (T.getD (findE T (xt, xm, xp, xl, l')).toNat zE).2.2.2.1 l' && sameB (T.getD (findE T (xt, xm, xp, xl, l')).toNat zE).2.2.2.2 yl)) := Lib.hid (by rw [hlw, hhw]; rfl)
      rw [← hlw] at k2
      rw [← hhw] at k3
      clear hlw hhw
      have HWA : Hid (Below wr.heap.size wr (wr.alloc (.cells #[.int .i64 xm, .int .i64 xp, .int .i64 lw, .int .i64 hw] 62))) := Lib.hid ((Below.refl _ _).alloc (Nat.le_refl _) _)
      have CF := lgFind_any A0 n0 c0 T xm xp (wr.alloc (.cells #[.int .i64 xm, .int .i64 xp, .int .i64 lw, .int .i64 hw] 62)) hn0 (H0.out.below (HWB.out.trans (HWA.out.mono HWB.out.size)))
      have hfe : idxP (isE xm xp) T 0 = findE T (xt, xm, xp, xl, l') := rfl
      rw [hfe] at CF
      have HCF := Lib.hid CF
      clear CF hfe
      generalize findE T (xt, xm, xp, xl, l') = ix at *
      go_wp2_with fail
      refine (HCF.out).mono ?_
      rintro e ws ⟨rfl, hb5⟩
      have HBX := Lib.hid (box_after hb5 (by simp) (heap_alloc_new wr (.cells #[.int .i64 xm, .int .i64 xp, .int .i64 lw, .int .i64 hw] 62)))
      have HWS := Lib.hid (HWA.out.trans (hb5.mono (by simp)))
      clear k0 k1 k2 k3 hb5 HCF
      rcases hfc with hix | ⟨q, hix, hq⟩
      · subst hix
        have HFA : Hid ((fitA T a b (togE M L) && decide ((togE M L).length = T.length)) = false) := Lib.hid (by rw [← HRC.out, HLK.out, HFI.out]; simp)
        have g0 : decide ((-1 : Int) < 0) = true := rfl
        go_wp2
        try simp only [List.append]
        refine wp_region_below ws (by kernel_rfl) (by kernel_rfl) (by first | assumption | exact Below.refl _ _) ?_
        repeat (go_big_quiet_step (first | (go_at_call 84; exact bel_same (HBX.out _)) | (go_at_call_of 62 (Value.slice E3 el.length e3); exact bel_quiet (HBX.out _)) | (go_at_call_of 62 (Value.slice E4 el'.length e4); exact bel_quiet (HBX.out _))))
        refine wpQuiet_nil ?_
        intro wb hw'
        obtain ⟨⟨wb', hB⟩, hwb⟩ := hw'
        simp only at hwb
        subst hwb
        try simp only at hB ⊢
        all_goals
          have HBF := Lib.hid (HW3.out.trans ((HB.out.trans ((HWS.out.trans (hB.mono HWS.out.size)).mono HB.out.size)).mono HW3.out.size))
          clear hB
          go_wp2
          go_ret2
          exact ⟨by first | (rw [HFA.out]; done) | (rw [HFA.out]; rfl) | (simp [HFA.out]; done), HBF.out⟩
      · subst hix
        have HBW := Lib.hid (HWB.out.trans (HWS.out.mono HWB.out.size))
        obtain ⟨td, E3, e3, E4, e4, rfl, s0, _, _, s3, s4, tr3, tr4⟩ := rowsE_at (H0.out.below HBW.out) hq
        have htl := HLT.out T[q] (List.getElem_mem hq)
        have hqn : (q : Int) < (n0 : Int) := by have := HZ.out; omega
        have hgd : T.getD ((q : Int)).toNat zE = T[q] := by rw [Int.toNat_natCast, List.getD_eq_getElem?_getD, List.getElem?_eq_getElem hq]; rfl
        rw [hgd, if_neg (by omega)] at HFI
        clear hgd
        generalize T[q] = y at *
        obtain ⟨et, em, ep, el, el'⟩ := y
        simp only at s0 s3 s4 tr3 tr4 htl HFI
        have CW := fun V : InB ws => l1In_any et lw hw V.1
        have C3 := fun V : InB ws => l1Same_any E3 el.length e3 el A4 l'.length c4 l' V.1 (by omega) (by omega) (tr3.below V.2) ((hra.below HWS.out).below V.2)
        have C4 := fun V : InB ws => l1Same_any E4 el'.length e4 el' B3 yl.length d3 yl V.1 (by omega) (by omega) (tr4.below V.2) ((hrb.below HWS.out).below V.2)
        obtain ⟨b1, hb1⟩ : ∃ b1, b1 = inB et lw hw := ⟨_, rfl⟩
        obtain ⟨b2, hb2⟩ : ∃ b2, b2 = sameB el l' := ⟨_, rfl⟩
        obtain ⟨b3, hb3⟩ : ∃ b3, b3 = sameB el' yl := ⟨_, rfl⟩
        rw [← hb1] at CW
        simp only [← hb2] at C3
        simp only [← hb3] at C4
        rw [← hb1, ← hb2, ← hb3] at HFI
        have HCW := Lib.hid CW; have HC3 := Lib.hid C3; have HC4 := Lib.hid C4
        clear CW C3 C4 hb1 hb2 hb3 tr3 tr4 hra hrb htl hll hlm
        have x2 := (box_at HBX.out (j := 2) rfl).1
        have x3 := (box_at HBX.out (j := 3) rfl).1
        have y0 := (HWS.out.cell (World.block_lt_of_cell? wr _ j0)).trans j0
        have y1 := (HWS.out.cell (World.block_lt_of_cell? wr _ j1)).trans j1
        have y2 := (HWS.out.cell (World.block_lt_of_cell? wr _ j2)).trans j2
        have y4 := (HWS.out.cell (World.block_lt_of_cell? wr _ k4)).trans k4
        have y5 := (HWS.out.cell (World.block_lt_of_cell? wr _ k5)).trans k5
        have v0 := fun V : InB ws => V.cell s0
        have v3 := fun V : InB ws => V.cell s3
        have v4 := fun V : InB ws => V.cell s4
        have u2 := fun V : InB ws => V.cell x2
        have u3 := fun V : InB ws => V.cell x3
        have p0 := fun V : InB ws => V.cell y0
        have p1 := fun V : InB ws => V.cell y1
        have p2 := fun V : InB ws => V.cell y2
        have r4 := fun V : InB ws => V.cell y4
        have r3 := fun V : InB ws => V.cell y5
        clear s0 s3 s4 x2 x3 y0 y1 y2 y4 y5 j0 j1 j2 k4 k5
        have g0 : decide ((q : Int) < 0) = false := decide_eq_false (by omega)
        have hq0 : (0 : Int) ≤ (q : Int) := by omega
        cases b1 with
        | false =>
          go_wp2
          try simp only [List.append]
          refine wp_region_below ws (by kernel_rfl) (by kernel_rfl) (by first | assumption | exact Below.refl _ _) ?_
          repeat (go_big_quiet_step (first | (go_at_call 84; exact bel_same (HCW.out _)) | (go_at_call_of 62 (Value.slice E3 el.length e3); exact bel_quiet (HC3.out _)) | (go_at_call_of 62 (Value.slice E4 el'.length e4); exact bel_quiet (HC4.out _))))
          refine wpQuiet_nil ?_
          intro wb hw'
          obtain ⟨⟨wb', hB⟩, hwb⟩ := hw'
          simp only at hwb
          subst hwb
          try simp only at hB ⊢
          all_goals
            clear v0 v3 v4 u2 u3 p0 p1 p2 r4 r3
            have HFA : Hid ((fitA T a b (togE M L) && decide ((togE M L).length = T.length)) = false) := Lib.hid (by rw [← HRC.out, HLK.out, HFI.out]; simp)
            have HBF := Lib.hid (HW3.out.trans ((HB.out.trans ((HWS.out.trans (hB.mono HWS.out.size)).mono HB.out.size)).mono HW3.out.size))
            clear hB
            go_wp2
            go_ret2
            exact ⟨by first | (rw [HFA.out]; done) | (rw [HFA.out]; rfl) | (simp [HFA.out]; done), HBF.out⟩
        | true =>
          cases b2 with
          | false =>
            go_wp2
            try simp only [List.append]
            refine wp_region_below ws (by kernel_rfl) (by kernel_rfl) (by first | assumption | exact Below.refl _ _) ?_
            repeat (go_big_quiet_step (first | (go_at_call 84; exact bel_same (HCW.out _)) | (go_at_call_of 62 (Value.slice E3 el.length e3); exact bel_quiet (HC3.out _)) | (go_at_call_of 62 (Value.slice E4 el'.length e4); exact bel_quiet (HC4.out _))))
            refine wpQuiet_nil ?_
            intro wb hw'
            obtain ⟨⟨wb', hB⟩, hwb⟩ := hw'
            simp only at hwb
            subst hwb
            try simp only at hB ⊢
            all_goals
              clear v0 v3 v4 u2 u3 p0 p1 p2 r4 r3
              have HFA : Hid ((fitA T a b (togE M L) && decide ((togE M L).length = T.length)) = false) := Lib.hid (by rw [← HRC.out, HLK.out, HFI.out]; simp)
              have HBF := Lib.hid (HW3.out.trans ((HB.out.trans ((HWS.out.trans (hB.mono HWS.out.size)).mono HB.out.size)).mono HW3.out.size))
              clear hB
              go_wp2
              go_ret2
              exact ⟨by first | (rw [HFA.out]; done) | (rw [HFA.out]; rfl) | (simp [HFA.out]; done), HBF.out⟩
          | true =>
            cases b3 with
            | false =>
              go_wp2
              try simp only [List.append]
              refine wp_region_below ws (by kernel_rfl) (by kernel_rfl) (by first | assumption | exact Below.refl _ _) ?_
              repeat (go_big_quiet_step (first | (go_at_call 84; exact bel_same (HCW.out _)) | (go_at_call_of 62 (Value.slice E3 el.length e3); exact bel_quiet (HC3.out _)) | (go_at_call_of 62 (Value.slice E4 el'.length e4); exact bel_quiet (HC4.out _))))
              refine wpQuiet_nil ?_
              intro wb hw'
              obtain ⟨⟨wb', hB⟩, hwb⟩ := hw'
              simp only at hwb
              subst hwb
              try simp only at hB ⊢
              all_goals
                clear v0 v3 v4 u2 u3 p0 p1 p2 r4 r3
                have HFA : Hid ((fitA T a b (togE M L) && decide ((togE M L).length = T.length)) = false) := Lib.hid (by rw [← HRC.out, HLK.out, HFI.out]; simp)
                have HBF := Lib.hid (HW3.out.trans ((HB.out.trans ((HWS.out.trans (hB.mono HWS.out.size)).mono HB.out.size)).mono HW3.out.size))
                clear hB
                go_wp2
                go_ret2
                exact ⟨by first | (rw [HFA.out]; done) | (rw [HFA.out]; rfl) | (simp [HFA.out]; done), HBF.out⟩
            | true =>
              go_wp2
              try simp only [List.append]
              refine wp_region_below ws (by kernel_rfl) (by kernel_rfl) (by first | assumption | exact Below.refl _ _) ?_
              repeat (go_big_quiet_step (first | (go_at_call 84; exact bel_same (HCW.out _)) | (go_at_call_of 62 (Value.slice E3 el.length e3); exact bel_quiet (HC3.out _)) | (go_at_call_of 62 (Value.slice E4 el'.length e4); exact bel_quiet (HC4.out _))))
              refine wpQuiet_nil ?_
              intro wb hw'
              obtain ⟨⟨wb', hB⟩, hwb⟩ := hw'
              simp only at hwb
              subst hwb
              try simp only at hB ⊢
              all_goals
                clear v0 v3 v4 u2 u3 p0 p1 p2 r4 r3
                have HB5 := Lib.hid (HB.out.trans ((HWS.out.trans (hB.mono HWS.out.size)).mono HB.out.size))
                clear hB
                go_wp2
                go_roundw
                case rel => exact ⟨k + 1, by omega, by go_num, by rw [← HRC.out, HLK.out, HFI.out]; simp, HB5.out⟩
                case measure => simp [intOf]; omega
    · have HE := Lib.hid (drop_end (xs := togE M L) (k := k) (by rw [HPL.out]; omega))
      have hfa := HRC.out
      rw [HE.out] at hfa
      have HF2 : Hid ((fitA T a b (togE M L) && decide ((togE M L).length = T.length)) = true) := Lib.hid (by
        rw [← hfa, HPL.out, HZ.out, HLEN.out]
        simp [fitA])
      have HBF := Lib.hid (HW3.out.trans (HB.out.mono HW3.out.size))
      clear hfa
      go_wp2
      go_ret2
      exact ⟨by first | (rw [HF2.out]; done) | (rw [HF2.out]; rfl) | (simp [HF2.out]; done), HBF.out⟩
theorem specFits_any (A0 : Option Addr) (n0 c0 : Nat) (T : List EntryT) (A : Option Addr) (n c : Nat) (L : List EntryT) (B : Option Addr) (m d : Nat) (M : List EntryT) (a b : Int) (w : World) (hn0 : n0 ≤ 1000000000) (hl0 : ∀ x ∈ T, lenE 1000000000 x) (h0 : Reads2 w 5 A0 n0 (rowsE T)) (hc0 : n0 ≤ c0) (hn : n ≤ 1000000000) (hl : ∀ x ∈ L, lenE 1000000000 x) (h : Reads2 w 5 A n (rowsE L)) (hc : n ≤ c) (hm : m ≤ 1000000000) (hl' : ∀ x ∈ M, lenE 1000000000 x) (h' : Reads2 w 5 B m (rowsE M)) (hd : m ≤ d) :
    Calls Try.prog 41 #[.slice A0 n0 c0, .slice A n c, .slice B m d, .int .i64 a, .int .i64 b] w fun e w' => e = .returned (.tuple #[.bool (fitsR T L M a b).1, .bool (fitsR T L M a b).2]) ∧ Below w.heap.size w w' := by
  have c1 := fun W (hW : Below w.heap.size w W) => lgGood_any A0 n0 c0 T W hn0 hl0 (h0.below hW)
  have c2 := fun W (hW : Below w.heap.size w W) => rbGood_any A n c L B m d M a b W hn hl (h.below hW) hm hl' (h'.below hW)
  cases hgT : goodE T with
  | false =>
    have hr : fitsR T L M a b = (false, false) := by simp [fitsR, hgT]
    rw [hr]
    simp only [hgT] at c1
    have C1 := Lib.hid c1
    clear c1 c2 hr h h' h0 hl hl' hl0 hgT
    go_enter Try.func41, Try.ntmps41
    go_wp2_with fail
    refine (C1.out _ (Below.refl _ _)).mono ?_
    rintro e w1 ⟨rfl, hb⟩
    have HB1 := Lib.hid hb
    clear hb
    go_wp2
    go_ret2
    exact ⟨rfl, HB1.out⟩
  | true =>
    cases hgA : askE L M a b with
    | false =>
      have hr : fitsR T L M a b = (false, false) := by simp [fitsR, hgA]
      rw [hr]
      simp only [hgT] at c1
      simp only [hgA] at c2
      have C1 := Lib.hid c1
      have C2 := Lib.hid c2
      clear c1 c2 hr h h' h0 hl hl' hl0 hgT hgA
      go_enter Try.func41, Try.ntmps41
      go_wp2_with fail
      refine (C1.out _ (Below.refl _ _)).mono ?_
      rintro e w1 ⟨rfl, hb⟩
      have HB1 := Lib.hid hb
      clear hb
      go_wp2_with fail
      refine (C2.out _ HB1.out).mono ?_
      rintro e w2 ⟨rfl, hb⟩
      have HB2 := Lib.hid (HB1.out.trans (hb.mono HB1.out.size))
      clear hb
      go_wp2
      go_ret2
      exact ⟨rfl, HB2.out⟩
    | true =>
      have hr : fitsR T L M a b = ((fitA T a b (togE M L) && decide ((togE M L).length = T.length)), true) := by simp [fitsR, hgA, hgT]
      rw [hr]
      exact specFitsBetween_any A0 n0 c0 T A n c L B m d M a b w hn0 hl0 h0 hn hl h hm hl' h' hgT hgA

end Go.Proofs.Ytcjmlakmigfkfaa

namespace Go.Proofs.Ytcjmlakmigfkfaa
set_option linter.unusedSimpArgs false
set_option linter.unusedVariables false
open Go.RowKit

def chI : List EntryT → Nat → List Int
  | [], _ => []
  | x :: r, i => if sameB x.2.2.2.1 x.2.2.2.2 = true then chI r (i + 1) else (i : Int) :: chI r (i + 1)
theorem chI_len (L : List EntryT) : ∀ i, (chI L i).length ≤ L.length := by
  induction L with
  | nil => intro i; simp [chI]
  | cons x r ih =>
    intro i
    have := ih (i + 1)
    simp only [chI]
    split <;> simp <;> omega

set_option maxHeartbeats 4000000 in
set_option maxRecDepth 100000 in
theorem changedEntries_good (A : Option Addr) (n c : Nat) (L : List EntryT) (w : World) (hg : goodE L = true) (hc : n ≤ c) (h : Reads2 w 5 A n (rowsE L)) :
    Calls Try.prog 43 #[.slice A n c] w (Made2 w 3 1 (chI L 0).length (ints (chI L 0)) true) := by
  have HX := Lib.hid (show L.length = n by have := h.len; rw [length_rowsE] at this; omega)
  have gL := goodE_all hg
  have hn30 : n ≤ 30 := by have := gL.2; rw [HX.out] at this; exact this
  have HLE := Lib.hid (fun x (hx : x ∈ L) => entB_len (gL.1 x hx))
  have c1 := isLog_any A n c L w (by omega) hc (fun x hx => by have := entB_len (gL.1 x hx); unfold lenE; omega) h
  rw [hg] at c1
  have C1 := Lib.hid c1
  have H := Lib.hid h
  clear c1 h hg gL
  go_enter Try.func43, Try.ntmps43
  go_wp2_with fail
  refine (C1.out).mono ?_
  rintro e w1 ⟨rfl, hb⟩
  have HB1 := Lib.hid hb
  clear hb C1
  go_wp2
  go_loopw [4, 12] (fun ov kv wr => ∃ k g : Nat, ∃ O o1 C, k ≤ n ∧ kv = .int .i64 k ∧ ov = .slice O g o1 ∧ g ≤ k ∧ List.length C = g ∧ C ++ chI (L.drop k) k = chI L 0 ∧ wr.ownsRow w.heap.size 3 1 (.slice O g o1) g (ints C) ∧ Below w.heap.size w wr) (fun _ kv _ => n - (intOf kv).toNat)
  case atStart => exact ⟨0, 0, none, 0, [], Nat.zero_le _, rfl, rfl, Nat.le_refl _, rfl, rfl, own_start, HB1.out⟩
  case round =>
    obtain ⟨k, g, O, o1, C, hk, rfl, rfl, hgk, hlc, hrc, hown, hb⟩ := hrel
    have HLC := Lib.hid hlc; have HRC := Lib.hid hrc; have HO := Lib.hid hown; have HB := Lib.hid hb
    clear hlc hrc hown hb
    by_cases hlt : k < n
    · have hx : k < L.length := by rw [HX.out]; exact hlt
      have HD := Lib.hid (drop_cons hx)
      obtain ⟨ad, A3, c3, A4, c4, rfl, k0, k1, k2, k3, k4, r3, r4⟩ := rowsE_at (H.out.below HB.out) hx
      have HXL := Lib.hid (HLE.out L[k] (List.getElem_mem hx))
      have HCG : Hid (chI (L.drop k) k = if sameB L[k].2.2.2.1 L[k].2.2.2.2 = true then chI (L.drop (k + 1)) (k + 1) else (k : Int) :: chI (L.drop (k + 1)) (k + 1)) := Lib.hid (by rw [HD.out]; rfl)
      generalize L[k] = x at *
      obtain ⟨t, mm, p, l, l'⟩ := x
      simp only at k0 k1 k2 k3 k4 r3 r4 HCG
      have CS := slicesEqual_any A3 l.length c3 l A4 l'.length c4 l' (wr.alloc (.cells #[.int .i64 t, .int .i64 mm, .int .i64 p, .slice A3 l.length c3, .slice A4 l'.length c4] 51)) (by have := HXL.out.1; simp only at this; omega) (by have := HXL.out.2; simp only at this; omega) (r3.alloc _) (r4.alloc _)
      clear r3 r4
      obtain ⟨bb, hbb⟩ : ∃ bb, bb = sameB l l' := ⟨_, rfl⟩
      rw [← hbb] at CS HCG
      have HCS := Lib.hid CS
      clear CS hbb
      go_wp2_with fail
      refine (HCS.out).mono ?_
      rintro e wb ⟨rfl, hq⟩
      have hB := below_of_quiet (B := (wr.alloc (.cells #[.int .i64 t, .int .i64 mm, .int .i64 p, .slice A3 l.length c3, .slice A4 l'.length c4] 51)).heap.size) hq
      have HBB := Lib.hid (((Below.refl _ _).alloc (Nat.le_refl _) (.cells #[.int .i64 t, .int .i64 mm, .int .i64 p, .slice A3 l.length c3, .slice A4 l'.length c4] 51)).trans (hB.mono (by simp)))
      clear hq hB k0 k1 k2 k3 k4
      have HOB := Lib.hid (own_below HO.out HBB.out)
      have HBW := Lib.hid (HB.out.trans (HBB.out.mono HB.out.size))
      have HLB : Hid (w.heap.size ≤ wb.heap.size) := Lib.hid HBW.out.size
      cases bb with
      | true =>
        have HSK : Hid (chI (L.drop k) k = chI (L.drop (k + 1)) (k + 1)) := Lib.hid (by rw [HCG.out]; simp)
        go_wp2
        go_roundw
        case rel => exact ⟨k + 1, g, O, o1, C, by omega, by go_num, rfl, by omega, HLC.out, by rw [← HSK.out]; exact HRC.out, HOB.out, HBW.out⟩
        case measure => simp [intOf]; omega
      | false =>
        have HSK : Hid (chI (L.drop k) k = (k : Int) :: chI (L.drop (k + 1)) (k + 1)) := Lib.hid (by rw [HCG.out]; simp)
        go_wp2_with (at_builtin; refine wpList_push _ rfl (.tmp 23) (.tmp 25) 49 rfl w.heap.size 3 (.int .i64 0) 1 8 infoInt rfl (by omega) Try.underlying49 O g o1 (ints C) rfl (HOB.out.alloc _) (some ⟨wb.heap.size, 0, none⟩) 1 1 [.int .i64 k] rfl (reads_new _ _ _) (by simp [Value.oneCell']) (by omega) (by omega) (by have := HLB.out; simp; omega) ?_; intro O2 o2 w7 hown7 hg7 hb7)
        have HO7 : Hid (w7.ownsRow w.heap.size 3 1 (.slice O2 (g + 1) o2) (g + 1) (ints (C ++ [(k : Int)]))) := Lib.hid (by simpa [ints] using hown7)
        have HB7 : Hid (Below w.heap.size w w7) := Lib.hid ((HBW.out.alloc HLB.out _).trans hb7)
        clear hown7 hg7 hb7
        go_roundw
        case rel => exact ⟨k + 1, g + 1, O2, o2, C ++ [(k : Int)], by omega, by go_num, rfl, by omega, by simp [HLC.out], by rw [← HRC.out, HSK.out]; simp, HO7.out, HB7.out⟩
        case measure => simp [intOf]; omega
    · obtain rfl : k = n := by omega
      have HE := Lib.hid (drop_end (xs := L) (k := k) (by rw [HX.out]; omega))
      have hC : C = chI L 0 := by have := HRC.out; rw [HE.out] at this; simpa [chI] using this
      subst hC
      have hg : g = (chI L 0).length := HLC.out.symm
      subst hg
      go_wp2
      go_ret2
      exact ⟨O, o1, rfl, HO.out, HB.out⟩

theorem findEntry_good (A : Option Addr) (n c : Nat) (L : List EntryT) (m p : Int) (w : World) (hg : goodE L = true) (hc : n ≤ c) (h : Reads2 w 5 A n (rowsE L)) (hf : 0 ≤ idxP (isE m p) L 0) :
    Calls Try.prog 34 #[.slice A n c, .int .i64 m, .int .i64 p] w fun e w' => e = .returned (.tuple #[.int .i64 (idxP (isE m p) L 0), .bool true]) ∧ Below w.heap.size w w' := by
  have HX := Lib.hid (show L.length = n by have := h.len; rw [length_rowsE] at this; omega)
  have gL := goodE_all hg
  have hn30 : n ≤ 30 := by have := gL.2; rw [HX.out] at this; exact this
  have c1 := isLog_any A n c L w (by omega) hc (fun x hx => by have := entB_len (gL.1 x hx); unfold lenE; omega) h
  rw [hg] at c1
  have C1 := Lib.hid c1
  have C2 := Lib.hid (fun W (hW : Below w.heap.size w W) => entryIndex_any A n c L m p W (by omega) (h.below hW))
  generalize idxP (isE m p) L 0 = ix at *
  clear c1 h hg gL
  go_enter Try.func34, Try.ntmps34
  go_wp2_with fail
  refine (C1.out).mono ?_
  rintro e w1 ⟨rfl, hb⟩
  have HB1 := Lib.hid hb
  clear hb C1
  go_wp2_with fail
  refine (C2.out _ HB1.out).mono ?_
  rintro e w2 ⟨rfl, hb⟩
  have HB2 := Lib.hid (HB1.out.trans (hb.mono HB1.out.size))
  clear hb C2
  go_wp2
  go_ret2
  exact ⟨rfl, HB2.out⟩
end Go.Proofs.Ytcjmlakmigfkfaa

namespace Go.Proofs.Ytcjmlakmigfkfaa
set_option linter.unusedSimpArgs false
set_option linter.unusedVariables false
open Go.RowKit

def bytesV (l : List Int) : List Value := l.map (.int .u8)
/-- The cursor in the block g: at most k bytes are drawn; its bytes lie in older blocks. -/
def Cur (w : World) (g k : Nat) : Prop := ∃ A n c l, ∃ p : Nat, ∃ s : Int, Box3 w g 96 (.slice A n c) (.int .i64 p) (.int .u64 s) ∧ Reads w 1 A n (bytesV l) ∧ (0 < n → ∀ ad, A = some ad → ad.block < g) ∧ n ≤ 9223372036854775807 ∧ (∀ x ∈ l, 0 ≤ x ∧ x ≤ 255) ∧ p ≤ k
section
variable {w w' : World} {g k k' : Nat}
theorem Cur.mono (h : Cur w g k) (hk : k ≤ k') : Cur w g k' := by
  obtain ⟨A, n, c, l, p, s, h1, h2, h3, h4, h5, h6⟩ := h
  exact ⟨A, n, c, l, p, s, h1, h2, h3, h4, h5, by omega⟩
theorem Cur.lt (h : Cur w g k) : g < w.heap.size := by
  obtain ⟨A, n, c, l, p, s, h1, _⟩ := h
  exact h1.lt
theorem Cur.same (h : Cur w g k) (hb : ∀ q, q ≤ g → w'.heap[q]? = w.heap[q]?) : Cur w' g k := by
  obtain ⟨A, n, c, l, p, s, h1, h2, h3, h4, h5, h6⟩ := h
  refine ⟨A, n, c, l, p, s, (hb g (Nat.le_refl _)).trans h1, ⟨h2.1, fun hn => ?_⟩, h3, h4, h5, h6⟩
  obtain ⟨ad, e, hc⟩ := h2.2 hn
  refine ⟨ad, e, fun j u hu => ?_⟩
  have hb' := h3 hn ad e
  rw [← hc j u hu]
  exact World.cell?_of_block (hb _ (by rw [block_of_add]; omega))
theorem Cur.below (h : Cur w g k) (hb : Below w.heap.size w w') : Cur w' g k := h.same fun q hq => hb.block q (by have := h.lt; omega)
theorem Cur.turned {lo hi : Nat} (h : Cur w g k) (ht : Turned lo hi w w') (hl : g < lo) : Cur w' g k := h.same fun q hq => ht.block q (by have := h.lt; omega) (by omega)
end
theorem Cur.below' {w w' : World} {g k B : Nat} (h : Cur w g k) (hb : Below B w w') (hg : g < B) : Cur w' g k := h.same fun q hq => hb.block q (by omega)
/-- A cursor that has just been made. -/
theorem Cur.new {w : World} {A : Option Addr} {n c : Nat} {l : List Int} (h : Reads w 1 A n (bytesV l)) (hn : n ≤ 9223372036854775807) (hl : ∀ x ∈ l, 0 ≤ x ∧ x ≤ 255) : Cur (w.alloc (.cells #[.slice A n c, .int .i64 0, .int .u64 0] 96)) w.heap.size 0 := by
  refine ⟨A, n, c, l, 0, 0, Box3.new w _ _ _ _, h.alloc _, fun h0 ad e => ?_, hn, hl, Nat.le_refl _⟩
  obtain ⟨ad', e', hc⟩ := h.2 h0
  rw [e] at e'
  injection e' with e'
  subst e'
  have hl0 : 0 < (bytesV l).length := by rw [h.1]; omega
  have := World.block_lt_of_cell? w _ (hc 0 _ (List.getElem?_eq_getElem hl0))
  rw [block_of_add] at this
  exact this
/-- What a drawing call does to the world: the cursor's block and new ones alone. -/
abbrev Drew (g : Nat) (w w' : World) : Prop := Turned g (g + 1) w w'
theorem Drew.of_below {g : Nat} {w w' : World} (h : Below w.heap.size w w') : Drew g w w' := Turned.of_below h
theorem Drew.own {g base k n : Nat} {w w' : World} {e : TypeId} {v : Value} {xs : List Value} (h : Drew g w w') (ho : w.ownsRow base e k v n xs) (hb : g < base) : w'.ownsRow base e k v n xs := row_turned_before ho h (by omega)
theorem Drew.below {g B : Nat} {w0 w w' : World} (h : Drew g w w') (hb : Below B w0 w) (hB : B ≤ g) (hB' : B ≤ w.heap.size) : Below B w0 w' := below_turned hb h hB hB'
theorem Drew.cellOf {g k p : Nat} {w w' : World} {u : Value} (h : Drew g w w') (hc : w.cell? ⟨p, k, none⟩ = some u) (hp : p ≠ g) : w'.cell? ⟨p, k, none⟩ = some u := by
  rw [← hc]
  exact World.cell?_of_block (h.block _ (World.block_lt_of_cell? w _ hc) (by simp; omega))
theorem Cur.drewN {w : World} {g k : Nat} (h : Cur w g k) (m : Nat) : Cur (w.drewN m) g k := h
theorem Turned.drewN {lo hi : Nat} {w w' : World} (h : Turned lo hi w w') (m : Nat) : Turned lo hi w (w'.drewN m) := ⟨h.os, h.tape, h.output, h.size, h.block⟩
theorem Turned.setCell {lo hi g i : Nat} {w w' : World} {u : Value} (h : Turned lo hi w w') (hg : lo ≤ g ∧ g < hi) : Turned lo hi w (w'.setCell ⟨g, i, none⟩ u) :=
  ⟨h.os, h.tape, h.output, by simpa [World.setCell] using h.size, fun q hq hne => (Below.heap_setCell w' ⟨g, i, none⟩ u q (by rintro rfl; exact hne hg)).trans (h.block q hq hne)⟩
theorem Cur.step {w : World} {g k n c p : Nat} {A : Option Addr} {l : List Int} {s s' x : Int} (hb : Box3 w g 96 (.slice A n c) (.int .i64 p) (.int .u64 s)) (hr : Reads w 1 A n (bytesV l)) (hA : 0 < n → ∀ ad, A = some ad → ad.block < g) (hn : n ≤ 9223372036854775807) (hl : ∀ x ∈ l, 0 ≤ x ∧ x ≤ 255) (hp : p ≤ k) (hx : x = (p : Int) + 1) :
    Cur ((w.setCell ⟨g, 1, none⟩ (.int .i64 x)).setCell ⟨g, 2, none⟩ (.int .u64 s')) g (k + 1) := by
  subst hx
  refine ⟨A, n, c, l, p + 1, s', ?_, ⟨hr.1, fun h0 => ?_⟩, hA, hn, hl, by omega⟩
  · unfold Box3 at hb ⊢
    simp [World.setCell, Array.getElem?_modify, hb]
  · obtain ⟨ad, e, hc⟩ := hr.2 h0
    refine ⟨ad, e, fun j u hu => ?_⟩
    have h1 := hA h0 ad e
    rw [← hc j u hu]
    have hne : (ad.add j).block ≠ g := by rw [block_of_add]; omega
    exact (World.cell?_of_block (Below.heap_setCell _ ⟨g, 2, none⟩ _ _ hne)).trans (World.cell?_of_block (Below.heap_setCell _ ⟨g, 1, none⟩ _ _ hne))
theorem and255 (E : Int) (h0 : 0 ≤ E) (h1 : E ≤ 18446744073709551615) : ∃ x : Nat, bits BinOp.and IntKind.u64 E 255 = (x : Int) ∧ x ≤ 255 := by
  have h := bits_and_u64_nat E.toNat 255 (by omega) (by omega)
  rw [Int.toNat_of_nonneg h0] at h
  exact ⟨_, h, Nat.and_le_right⟩
theorem seed255 (y : Int) : ∃ x : Nat, wrap64 (bits BinOp.and IntKind.u64 (IntKind.u64.wrap y / 1099511627776) 255) = (x : Int) ∧ x ≤ 255 := by
  obtain ⟨x, hx, hx'⟩ := and255 (IntKind.u64.wrap y / 1099511627776) (by rw [IntKind.wrap_u64]; omega) (by rw [IntKind.wrap_u64]; omega)
  exact ⟨x, by rw [hx]; exact IntWalk.wrap64_in _ ⟨by omega, by omega⟩, hx'⟩
set_option maxHeartbeats 1000000 in
set_option maxRecDepth 100000 in
theorem next_any (g k : Nat) (w : World) (hk : k ≤ 1000000000000) (h : Cur w g k) :
    Calls Try.prog 116 #[.pointer (some ⟨g, 0, none⟩)] w fun e w' => ∃ x : Nat, e = .returned (.int .i64 (x : Int)) ∧ x ≤ 255 ∧ Cur w' g (k + 1) ∧ Drew g w w' := by
  obtain ⟨A, n, c, l, p, s, hb, hr, hA, hn, hl, hp⟩ := h
  obtain ⟨k0, k1, k2⟩ := hb.cells
  obtain ⟨f0, f1, f2⟩ := hb.frozen
  have HB := Lib.hid hb
  have HR := Lib.hid hr
  have HA := Lib.hid hA
  have HL := Lib.hid hl
  clear hb hr hA hl
  by_cases hlt : p < n
  · obtain ⟨ad, u, rfl, hu, hc⟩ := HR.out.at_ hlt
    have hlp : p < l.length := by have := HR.out.1; simp [bytesV] at this; omega
    have hb := HL.out l[p] (List.getElem_mem hlp)
    have e : u = .int .u8 l[p] := by simp [bytesV, hlp] at hu; exact hu.symm
    subst e
    clear hu
    generalize l[p] = b at *
    obtain ⟨b, rfl⟩ : ∃ b' : Nat, b = (b' : Int) := ⟨b.toNat, by omega⟩
    have h1 : (0 : Int) ≤ (p : Int) := by omega
    have h2 : (p : Int) < (n : Int) := by omega
    go_enter Try.func116, Try.ntmps116
    go_wp2
    go_quiet (fail)
    go_wp2
    go_quiet (fail)
    go_wp2
    go_quiet (fail)
    go_wp2
    go_ret
    exact ⟨b, rfl, by omega, Cur.drewN (Cur.step (w := w.drewN _) HB.out HR.out HA.out hn HL.out hp rfl) _, Turned.drewN (((Turned.refl.drewN _).setCell ⟨Nat.le_refl _, by omega⟩).setCell ⟨Nat.le_refl _, by omega⟩) _⟩
  · obtain ⟨x, hx, hx'⟩ := seed255 (IntKind.u64.wrap (IntKind.u64.wrap (s * 6364136223846793005)) + 1442695040888963407)
    have HX := Lib.hid hx
    clear hx
    go_enter Try.func116, Try.ntmps116
    go_wp2
    go_quiet (fail)
    go_wp2
    go_quiet (fail)
    go_wp2
    go_ret
    exact ⟨x, ret_int HX.out, hx', Cur.drewN (Cur.step (w := w.drewN _) HB.out HR.out HA.out hn HL.out hp rfl) _, Turned.drewN (((Turned.refl.drewN _).setCell ⟨Nat.le_refl _, by omega⟩).setCell ⟨Nat.le_refl _, by omega⟩) _⟩
theorem reads_drew {g n : Nat} {B : Option Addr} {xs : List Value} {w w' : World} (h : Reads w 1 B n xs) (hB : ∀ ad, B = some ad → ad.block ≠ g) (hd : Drew g w w') : Reads w' 1 B n xs :=
  ⟨h.1, fun h0 => by
    obtain ⟨ad, e, hc⟩ := h.2 h0
    refine ⟨ad, e, fun j u hu => ?_⟩
    have h1 := hB ad e
    have h2 := World.block_lt_of_cell? w _ (hc j u hu)
    rw [← hc j u hu]
    exact World.cell?_of_block (hd.block _ h2 (by rw [block_of_add]; omega))⟩
set_option maxHeartbeats 1000000 in
theorem pick_any (g k : Nat) (n : Int) (w : World) (hk : k ≤ 100000000000) (hn : n ≤ 1000000000) (h : Cur w g k) :
    Calls Try.prog 106 #[.pointer (some ⟨g, 0, none⟩), .int .i64 n] w fun e w' => ∃ x : Nat, e = .returned (.int .i64 (x : Int)) ∧ (x = 0 ∨ (x : Int) < n) ∧ x ≤ 65535 ∧ Cur w' g (k + 2) ∧ Drew g w w' := by
  have H := Lib.hid h
  clear h
  by_cases h1 : n ≤ 1
  · go_enter Try.func106, Try.ntmps106
    go_wp2
    go_ret
    exact ⟨0, rfl, .inl rfl, by omega, H.out.mono (by omega), Turned.refl⟩
  · obtain ⟨m, rfl⟩ : ∃ m : Nat, n = (m : Int) := ⟨n.toNat, by omega⟩
    by_cases h2 : (m : Int) ≤ 200
    · go_enter Try.func106, Try.ntmps106
      go_wp2_with fail
      refine (next_any g k w (by omega) H.out).mono ?_
      rintro e w1 ⟨x, rfl, hx, hc, hd⟩
      have HC := Lib.hid hc; have HD := Lib.hid hd
      clear hc hd
      go_wp2
      go_ret
      have hm : x % m < m := Nat.mod_lt _ (by omega)
      have hx2 := Nat.mod_le x m
      exact ⟨x % m, by simp, .inr (by omega), by omega, HC.out.mono (by omega), HD.out⟩
    · go_enter Try.func106, Try.ntmps106
      go_wp2_with fail
      refine (next_any g k w (by omega) H.out).mono ?_
      rintro e w1 ⟨x, rfl, hx, hc, hd⟩
      have HC := Lib.hid hc; have HD := Lib.hid hd
      clear hc hd
      go_wp2_with fail
      refine (next_any g (k + 1) w1 (by omega) HC.out).mono ?_
      rintro e w2 ⟨y, rfl, hy, hc, hd⟩
      have HC := Lib.hid hc; have HD := Lib.hid (HD.out.trans hd)
      clear hc hd
      go_wp2
      go_ret
      have hm : (x * 256 + y) % m < m := Nat.mod_lt _ (by omega)
      have hx2 := Nat.mod_le (x * 256 + y) m
      exact ⟨(x * 256 + y) % m, by simp, .inr (by omega), by omega, HC.out, HD.out⟩
theorem one_any (g k : Nat) (n : Int) (w : World) (hk : k ≤ 100000000000) (hn : n ≤ 1000000000) (h : Cur w g k) :
    Calls Try.prog 80 #[.pointer (some ⟨g, 0, none⟩), .int .i64 n] w fun e w' => ∃ b : Bool, e = .returned (.bool b) ∧ Cur w' g (k + 2) ∧ Drew g w w' := by
  go_enter Try.func80, Try.ntmps80
  go_wp2_with fail
  refine (pick_any g k n w hk hn h).mono ?_
  rintro e w1 ⟨x, rfl, _, _, hc, hd⟩
  have HC := Lib.hid hc; have HD := Lib.hid hd
  clear hc hd
  go_wp2
  go_ret
  exact ⟨_, rfl, HC.out, HD.out⟩
set_option maxHeartbeats 1000000 in
theorem among_any (g k : Nat) (B : Option Addr) (m d : Nat) (L : List Int) (w : World) (hk : k ≤ 100000000000) (hm : m ≤ 1000) (h0 : 0 < m) (h : Cur w g k) (hr : Reads w 1 B m (ints L)) (hB : ∀ ad, B = some ad → ad.block ≠ g) :
    Calls Try.prog 107 #[.pointer (some ⟨g, 0, none⟩), .slice B m d] w fun e w' => ∃ x ∈ L, e = .returned (.int .i64 x) ∧ Cur w' g (k + 2) ∧ Drew g w w' := by
  go_enter Try.func107, Try.ntmps107
  go_wp2_with fail
  refine (pick_any g k m w hk (by omega) h).mono ?_
  rintro e w1 ⟨x, rfl, hx, _, hc, hd⟩
  have hxm : x < m := by omega
  obtain ⟨ad, u, rfl, hu, hcell⟩ := (reads_drew hr hB hd).at_ hxm
  have hxl : x < L.length := by have := hr.1; simp at this; omega
  have e : u = .int .i64 L[x] := by simp [ints, hxl] at hu; exact hu.symm
  subst e
  have HM := Lib.hid (List.getElem_mem hxl)
  generalize L[x] = v at *
  have HC := Lib.hid hc; have HD := Lib.hid hd
  clear hc hd hr hB h hu hx
  go_wp2
  go_ret
  exact ⟨v, HM.out, rfl, HC.out, HD.out⟩
/-- .. a list that has just been built. -/
theorem amongLit_any (g k : Nat) (L : List Int) (e : TypeId) (w : World) (b m : Nat) (hb : b = w.heap.size) (hm' : m = L.length) (hk : k ≤ 100000000000) (hm : m ≤ 1000) (h0 : 0 < m) (h : Cur w g k) :
    Calls Try.prog 107 #[.pointer (some ⟨g, 0, none⟩), .slice (some ⟨b, 0, none⟩) m m] (w.alloc (.cells (ints L).toArray e)) fun en w' => ∃ x ∈ L, en = .returned (.int .i64 x) ∧ Cur w' g (k + 2) ∧ Drew g w w' := by
  subst hb hm'
  have hB : Below w.heap.size w (w.alloc (.cells (ints L).toArray e)) := (Below.refl _ _).alloc (Nat.le_refl _) _
  refine (among_any g k (some ⟨w.heap.size, 0, none⟩) L.length L.length L _ hk hm h0 (h.below hB) (by have := reads_lit w (ints L) e; simpa using this) (fun ad e' => by injection e' with e'; subst e'; have := h.lt; simp; omega)).mono ?_
  rintro en w' ⟨x, hx, he, hc, hd⟩
  exact ⟨x, hx, he, hc, (Drew.of_below hB).trans hd⟩
theorem Drew.then_below {g : Nat} {w wr w' : World} (h : Drew g w wr) (hb : Below w.heap.size wr w') : Drew g w w' :=
  ⟨hb.os.trans h.os, hb.tape.trans h.tape, hb.output.trans h.output, Nat.le_trans h.size hb.size, fun q hq hne => (hb.block q hq).trans (h.block q hq hne)⟩
theorem Drew.all {g : Nat} {w w' : World} (h : Drew g w w') (hg : w.heap.size ≤ g) : Below w.heap.size w w' := ⟨h.os, h.tape, h.output, h.size, fun q hq => h.block q hq (by omega)⟩
theorem Drew.allB {g B : Nat} {w w' : World} (h : Drew g w w') (hg : B ≤ g) (hB : B ≤ w.heap.size) : Below B w w' := ⟨h.os, h.tape, h.output, h.size, fun q hq => h.block q (by omega) (by omega)⟩
end Go.Proofs.Ytcjmlakmigfkfaa

namespace Go.Proofs.Ytcjmlakmigfkfaa
set_option linter.unusedSimpArgs false
set_option linter.unusedVariables false
open Go.RowKit

def lenV : Value → Nat
  | .slice _ n _ => n
  | _ => 0
theorem ints_put (l : List Int) (i : Nat) (x : Int) : (ints l).set i (.int .i64 x) = ints (l.set i x) := by simp [ints, List.map_set]
theorem ints_snoc (l : List Int) (x : Int) : ints l ++ [.int .i64 x] = ints (l ++ [x]) := by simp [ints]
def smallL (lo hi : Int) (l : List Int) : Prop := ∀ x ∈ l, lo ≤ x ∧ x ≤ hi
theorem smallL.snoc {lo hi : Int} {l : List Int} {x : Int} (h : smallL lo hi l) (hx : lo ≤ x ∧ x ≤ hi) : smallL lo hi (l ++ [x]) := fun y hy => by
  rcases List.mem_append.1 hy with hy | hy
  · exact h y hy
  · simp at hy; subst hy; exact hx
theorem smallL.set {lo hi : Int} {l : List Int} {x : Int} (h : smallL lo hi l) (hx : lo ≤ x ∧ x ≤ hi) (i : Nat) : smallL lo hi (l.set i x) := fun y hy => by
  rcases List.mem_or_eq_of_mem_set hy with hy | hy
  · exact h y hy
  · subst hy; exact hx
/-- A row of the call's own, and its first cell's place. -/
theorem own_at0 {w : World} {base n c : Nat} {e : TypeId} {A : Option Addr} {xs : List Value} (h : w.ownsRow base e 1 (.slice A n c) n xs) (hn : 0 < n) : ∃ ga, A = some ⟨ga, 0, none⟩ ∧ base ≤ ga := by
  rcases h.2 with ⟨_, h0⟩ | ⟨g, cap, cur, hv, hb, _⟩
  · omega
  · injection hv with e _ _
    exact ⟨g, e, hb⟩
end Go.Proofs.Ytcjmlakmigfkfaa

namespace Go.Proofs.Ytcjmlakmigfkfaa
set_option linter.unusedSimpArgs false
set_option linter.unusedVariables false
open Go.RowKit

theorem content_any (g k : Nat) (w : World) (hk : k ≤ 50000000000) (h : Cur w g k) :
    Calls Try.prog 122 #[.pointer (some ⟨g, 0, none⟩)] w fun e w' => ∃ x : Nat, e = .returned (.int .i64 (x : Int)) ∧ x ≤ 65536 ∧ Cur w' g (k + 2) ∧ Drew g w w' := by
  have HC := Lib.hid h
  clear h
  go_enter Try.func122, Try.ntmps122
  go_wp2_with fail
  refine (pick_any g k 60 _ (by omega) (by omega) HC.out).mono ?_
  rintro e w1 ⟨x, rfl, hx, hx', hc, hd⟩
  have HC1 := Lib.hid hc; have HD1 := Lib.hid hd
  clear hc hd
  obtain ⟨y, hy⟩ : ∃ y : Nat, y = 1 + x := ⟨_, rfl⟩
  have e1 : (1 : Int) + (x : Int) = (y : Int) := by omega
  have hy2 : y ≤ 65536 := by omega
  clear hx hx' hy
  go_wp2
  go_ret
  exact ⟨y, rfl, hy2, HC1.out, HD1.out⟩

set_option maxHeartbeats 2000000 in
set_option maxRecDepth 100000 in
theorem contents_any (g k N : Nat) (w : World) (hk : k ≤ 10000000000) (hN : N ≤ 10) (h : Cur w g k) :
    Calls Try.prog 117 #[.pointer (some ⟨g, 0, none⟩), .int .i64 N] w fun e w' => ∃ A c l, e = .returned (.slice A (List.length l) c) ∧ List.length l = N ∧ w'.ownsRow w.heap.size 3 1 (.slice A l.length c) l.length (ints l) ∧ Cur w' g (k + 60) ∧ Drew g w w' := by
  have HC := Lib.hid h
  have HD : Hid (Drew g w w) := Lib.hid Turned.refl
  have HGW : Hid (g < w.heap.size) := Lib.hid h.lt
  clear h
  go_enter Try.func117, Try.ntmps117
  go_wp2
  go_loopw [1, 5] (fun nv o wr => ∃ A q c l, ∃ r : Nat, nv = .int .i64 r ∧ r + q = N ∧ o = .slice A q c ∧ List.length l = q ∧ wr.ownsRow w.heap.size 3 1 (.slice A q c) q (ints l) ∧ Cur wr g (k + 6 * q) ∧ Drew g w wr) (fun nv _ _ => (intOf nv).toNat)
  case atStart => exact ⟨none, 0, 0, [], N, rfl, rfl, rfl, rfl, own_start, HC.out, HD.out⟩
  case round =>
    obtain ⟨A, q, c, l, r, rfl, hrq, rfl, hlq, hown, hc, hd⟩ := hrel
    clear HC HD
    have HRQ := Lib.hid hrq; have HLQ := Lib.hid hlq; have HO := Lib.hid hown; have HC := Lib.hid hc; have HD := Lib.hid hd
    have hq10 : q + r ≤ N := by omega
    have hq11 : N ≤ q + r := by omega
    clear hrq hlq hown hc hd
    by_cases hlt : 0 < r
    · have hrz : (0 : Int) < (r : Int) := by omega
      go_wp2_with fail
      refine (content_any g _ _ (by omega) HC.out).mono ?_
      rintro e w1 ⟨x, rfl, hx, hc, hd⟩
      have HC := Lib.hid hc; have HO := Lib.hid (Drew.own hd HO.out HGW.out); have HD := Lib.hid (HD.out.trans hd)
      clear hc hd hx
      go_wp2_with fail
      refine (content_any g _ _ (by omega) HC.out).mono ?_
      rintro e w2 ⟨y, rfl, hy, hc, hd⟩
      have HC := Lib.hid hc; have HO := Lib.hid (Drew.own hd HO.out HGW.out); have HD := Lib.hid (HD.out.trans hd)
      clear hc hd hy
      go_wp2_with fail
      refine (amongLit_any g _ [1, 5, 12, 60, (x : Int), (y : Int)] 3 _ _ _ rfl rfl (by omega) (by simp) (by simp) HC.out).mono ?_
      rintro e w3 ⟨z, hz, rfl, hc, hd⟩
      have HC := Lib.hid hc; have HO := Lib.hid (Drew.own hd HO.out HGW.out); have HD := Lib.hid (HD.out.trans hd)
      clear hc hd hz
      have HZ : Hid (w.heap.size ≤ w3.heap.size) := Lib.hid HD.out.size
      go_wp2_with (at_builtin; refine wpList_push _ rfl (.tmp 10) (.tmp 18) 49 rfl w.heap.size 3 (.int .i64 0) 1 8 infoInt rfl (by omega) Try.underlying49 A q c (ints l) rfl (HO.out.alloc _) (some ⟨w3.heap.size, 0, none⟩) 1 1 [.int .i64 z] rfl (reads_new _ _ _) (by simp [Value.oneCell']) (by omega) (by omega) (by have := HZ.out; simp; omega) ?_; intro A' c' w6 hown6 hg6 hb6)
      have hb7 : Below w.heap.size w3 w6 := ((Below.refl _ _).alloc HZ.out _).trans hb6
      have HO6 := Lib.hid hown6; have HC6 := Lib.hid (HC.out.below' hb7 HGW.out); have HD6 := Lib.hid (Drew.then_below HD.out hb7)
      clear hown6 hg6 hb6 hb7
      obtain ⟨s, hs⟩ : ∃ s : Nat, s = r - 1 := ⟨_, rfl⟩
      have es : (r : Int) - 1 = (s : Int) := by omega
      have hs1 : s + 1 ≤ r := by omega
      have hs2 : r ≤ s + 1 := by omega
      clear hs
      go_wp2
      go_roundw
      case rel => exact ⟨A', q + 1, c', l ++ [z], s, congrArg (Value.int .i64) es, by omega, rfl, by simp [HLQ.out], by rw [← ints_snoc]; exact HO6.out, HC6.out.mono (by omega), HD6.out⟩
      case measure => simp [intOf]; omega
    · have hrz : ¬ (0 : Int) < (r : Int) := by omega
      have hlN : l.length = N := by have := HLQ.out; omega
      have HLN := Lib.hid hlN
      obtain rfl : q = l.length := HLQ.out.symm
      clear hlN
      have HC := Lib.hid (HC.out.mono (k' := k + 60) (by omega))
      go_wp2
      go_ret
      exact ⟨A, c, l, rfl, HLN.out, HO.out, HC.out, HD.out⟩

end Go.Proofs.Ytcjmlakmigfkfaa
