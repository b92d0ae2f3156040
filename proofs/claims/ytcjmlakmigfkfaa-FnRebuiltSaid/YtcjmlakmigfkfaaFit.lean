/- FitsBetween of the implementation. No conditions. -/
import Derived.Test.YtcjmlakmigfkfaaLost
import Derived.Test.YtcjmlakmigfkfaaSamL
namespace Go.Proofs.Ytcjmlakmigfkfaa
set_option linter.unusedSimpArgs false
set_option linter.unusedVariables false
open Go.RowKit

def fit1 (T : List EntryT) (a b : Int) (p : EntryT × EntryT) : Bool :=
  if findE T p.1 < 0 then false else inB (T.getD (findE T p.1).toNat zE).1 (p.1.1 + a) (p.2.1 - b) && (sameB (T.getD (findE T p.1).toNat zE).2.2.2.1 p.1.2.2.2.2 && sameB (T.getD (findE T p.1).toNat zE).2.2.2.2 p.2.2.2.2.1)
def fitA (T : List EntryT) (a b : Int) : List (EntryT × EntryT) → Bool
  | [] => true
  | p :: r => fit1 T a b p && fitA T a b r
def fitsR (T L M : List EntryT) (a b : Int) : Bool × Bool := if (goodE T && askE L M a b) = true then ((fitA T a b (togE M L) && decide ((togE M L).length = T.length)), true) else (false, false)

set_option maxHeartbeats 8000000 in
set_option maxRecDepth 1000000 in
theorem implFitsBetween_any (A0 : Option Addr) (n0 c0 : Nat) (T : List EntryT) (A : Option Addr) (n c : Nat) (L : List EntryT) (B : Option Addr) (m d : Nat) (M : List EntryT) (a b : Int) (w : World) (hn0 : n0 ≤ 1000000000) (hl0 : ∀ x ∈ T, lenE 1000000000 x) (h0 : Reads2 w 5 A0 n0 (rowsE T)) (hc0 : n0 ≤ c0) (hn : n ≤ 1000000000) (hl : ∀ x ∈ L, lenE 1000000000 x) (h : Reads2 w 5 A n (rowsE L)) (hc : n ≤ c) (hm : m ≤ 1000000000) (hl' : ∀ x ∈ M, lenE 1000000000 x) (h' : Reads2 w 5 B m (rowsE M)) (hd : m ≤ d) (hgT : goodE T = true) (hgA : askE L M a b = true) :
    Calls Try.prog 40 #[.slice A0 n0 c0, .slice A n c, .slice B m d, .int .i64 a, .int .i64 b] w fun e w' => e = .returned (.tuple #[.bool (fitA T a b (togE M L) && decide ((togE M L).length = T.length)), .bool true]) ∧ Below w.heap.size w w' := by
  have c1 := fun W (hW : Below w.heap.size w W) => isLog_any A0 n0 c0 T W hn0 hc0 hl0 (h0.below hW)
  have c2 := fun W (hW : Below w.heap.size w W) => gapAsked_any A n c L B m d M a b W hn hl (h.below hW) hc hd hm hl' (h'.below hW)
  simp only [hgT] at c1
  simp only [hgA] at c2
  have C1 := Lib.hid c1
  have C2 := Lib.hid c2
  obtain ⟨hgL, hgM, hab, hbb⟩ := askE_true hgA
  have gL := goodE_all hgL
  have gM := goodE_all hgM
  have gT := goodE_all hgT
  have HX : L.length = n := by have := h.len; rw [length_rowsE] at this; omega
  have HY : M.length = m := by have := h'.len; rw [length_rowsE] at this; omega
  have HZ := Lib.hid (show T.length = n0 by have := h0.len; rw [length_rowsE] at this; omega)
  have hn30 : n ≤ 30 := by rw [← HX]; exact gL.2
  have hm30 : m ≤ 30 := by rw [← HY]; exact gM.2
  have ht30 : n0 ≤ 30 := by rw [← HZ.out]; exact gT.2
  have HLT := Lib.hid (fun x (hx : x ∈ T) => entB_len (gT.1 x hx))
  have HTT : Hid (∀ p ∈ togE M L, ((0 ≤ p.1.1 ∧ p.1.1 ≤ 10000) ∧ 0 ≤ p.2.1 ∧ p.2.1 ≤ 10000) ∧ p.1.2.2.2.2.length ≤ 8 ∧ p.2.2.2.2.1.length ≤ 8) := Lib.hid (fun p hp => by
    have hm := togE_mem p hp
    have e1 := entB_len (gL.1 _ hm.1)
    have e2 := entB_len (gM.1 _ hm.2)
    exact ⟨⟨entB_time (gL.1 _ hm.1), entB_time (gM.1 _ hm.2)⟩, by omega, by omega⟩)
  have H := Lib.hid h
  have H' := Lib.hid h'
  have H0 := Lib.hid h0
  have CT := Lib.hid (fun W (hW : Below w.heap.size w W) => together_any A n c L B m d M W (by omega) (by omega) (H.out.below hW) (H'.out.below hW))
  have hN : cntE M L ≤ 30 := by have := togE_len M L; have := gL.2; unfold cntE; omega
  have HPL : Hid ((togE M L).length = cntE M L) := Lib.hid rfl
  clear c1 c2 h h' h0 hl hl' hl0 hgT hgA hgL hgM gL gM gT HX HY
  go_enter Try.func40, Try.ntmps40
  go_wp2_with fail
  refine (C1.out _ (Below.refl _ _)).mono ?_
  rintro e w1 ⟨rfl, hb⟩
  have HB1 := Lib.hid hb
  clear hb
  go_wp2_with fail
  refine (C2.out _ HB1.out).mono ?_
  rintro e w2 ⟨rfl, hb⟩
  have HB2 := Lib.hid (HB1.out.trans (hb.mono HB1.out.size))
  clear hb C1 C2 HB1
  go_wp2_with fail
  refine (CT.out _ HB2.out).mono ?_
  rintro e w4 ⟨P1, p1, rfl, hr3, hb⟩
  have HR3 := Lib.hid hr3
  have HB4 := Lib.hid (HB2.out.trans (hb.mono HB2.out.size))
  clear hr3 hb CT
  go_wp2
  go_loopw [12, 33] (fun nv kv wr => ∃ k : Nat, k ≤ cntE M L ∧ kv = .int .i64 k ∧ nv = .int .i64 k ∧ (fitA T a b ((togE M L).drop k) && decide ((togE M L).length = T.length)) = (fitA T a b (togE M L) && decide ((togE M L).length = T.length)) ∧ Below w4.heap.size w4 wr) (fun _ kv _ => cntE M L - (intOf kv).toNat)
  case atStart => exact ⟨0, Nat.zero_le _, rfl, rfl, rfl, Below.refl _ _⟩
  case round =>
    obtain ⟨k, hk, rfl, rfl, hrc, hb⟩ := hrel
    have HRC := Lib.hid hrc; have HB := Lib.hid hb
    clear hrc hb
    by_cases hlt : k < cntE M L
    · have hx : k < (togE M L).length := by rw [HPL.out]; exact hlt
      have HD := Lib.hid (drop_cons hx)
      obtain ⟨ad, A3, c3, A4, c4, B3, d3, B4, d4, rfl, ⟨k0, k1, k2, k3, k4, k5, k6, k7, k8, k9⟩, _, hra, hrb, _⟩ := rowsP_at (HR3.out.below HB.out) hx
      have htt := HTT.out (togE M L)[k] (List.getElem_mem hx)
      have HLK : Hid (fitA T a b ((togE M L).drop k) = (fit1 T a b (togE M L)[k] && fitA T a b ((togE M L).drop (k + 1)))) := Lib.hid (by rw [HD.out]; rfl)
      have hfc := findE_cases T (togE M L)[k].1
      generalize (togE M L)[k] = x at *
      obtain ⟨⟨t, mm, p, l, l'⟩, ⟨yt, ym, yp, yl, yl'⟩⟩ := x
      simp only at k0 k1 k2 k3 k4 k5 k6 k7 k8 k9 hra hrb htt
      have HWA : Hid (Below wr.heap.size wr (wr.alloc (.cells #[.int .i64 t, .int .i64 mm, .int .i64 p, .slice A3 l.length c3, .slice A4 l'.length c4, .int .i64 yt, .int .i64 ym, .int .i64 yp, .slice B3 yl.length d3, .slice B4 yl'.length d4] 85))) := Lib.hid ((Below.refl _ _).alloc (Nat.le_refl _) _)
      have CF := entryIndex_any A0 n0 c0 T mm p (wr.alloc (.cells #[.int .i64 t, .int .i64 mm, .int .i64 p, .slice A3 l.length c3, .slice A4 l'.length c4, .int .i64 yt, .int .i64 ym, .int .i64 yp, .slice B3 yl.length d3, .slice B4 yl'.length d4] 85)) hn0 (H0.out.below (HB4.out.trans ((HB.out.trans (HWA.out.mono HB.out.size)).mono HB4.out.size)))
      have hfe : idxP (isE mm p) T 0 = findE T (t, mm, p, l, l') := rfl
      rw [hfe] at CF
      have HFI : Hid (fit1 T a b ((t, mm, p, l, l'), (yt, ym, yp, yl, yl')) = if findE T (t, mm, p, l, l') < 0 then false else inB (T.getD (findE T (t, mm, p, l, l')).toNat zE).1 (t + a) (yt - b) && (sameB (T.getD (findE T (t, mm, p, l, l')).toNat zE).2.2.2.1 l' && sameB (T.getD (findE T (t, mm, p, l, l')).toNat zE).2.2.2.2 yl)) := Lib.hid rfl
      have HCF := Lib.hid CF
      clear CF hfe
      generalize findE T (t, mm, p, l, l') = ix at *
      go_wp2_with fail
      refine (HCF.out).mono ?_
      rintro e ws ⟨rfl, hb5⟩
      have HBX := Lib.hid (box_after hb5 (by simp) (heap_alloc_new wr (.cells #[.int .i64 t, .int .i64 mm, .int .i64 p, .slice A3 l.length c3, .slice A4 l'.length c4, .int .i64 yt, .int .i64 ym, .int .i64 yp, .slice B3 yl.length d3, .slice B4 yl'.length d4] 85)))
      have HWS := Lib.hid (HWA.out.trans (hb5.mono (by simp)))
      clear k0 k1 k2 k3 k4 k5 k6 k7 k8 k9 hb5 HCF
      rcases hfc with hix | ⟨j, hix, hj⟩
      · subst hix
        have HFA : Hid ((fitA T a b (togE M L) && decide ((togE M L).length = T.length)) = false) := Lib.hid (by rw [← HRC.out, HLK.out, HFI.out]; simp)
        have g0 : decide ((-1 : Int) < 0) = true := rfl
        go_wp2
        try simp only [List.append]
        refine wp_region_below ws (by kernel_rfl) (by kernel_rfl) (by first | assumption | exact Below.refl _ _) ?_
        repeat (go_big_quiet_step (first | (go_at_call 83; exact bel_same (HBX.out _)) | (go_at_call_of 65 (Value.slice E3 el.length e3); exact bel_quiet (HBX.out _)) | (go_at_call_of 65 (Value.slice E4 el'.length e4); exact bel_quiet (HBX.out _))))
        refine wpQuiet_nil ?_
        intro wb hw'
        obtain ⟨⟨wb', hB⟩, hwb⟩ := hw'
        simp only at hwb
        subst hwb
        try simp only at hB ⊢
        all_goals
          have HBF := Lib.hid (HB4.out.trans ((HB.out.trans ((HWS.out.trans (hB.mono HWS.out.size)).mono HB.out.size)).mono HB4.out.size))
          clear hB
          go_wp2
          go_ret2
          exact ⟨by first | (rw [HFA.out]; done) | (rw [HFA.out]; rfl) | (simp [HFA.out]; done), HBF.out⟩
      · subst hix
        have HBW := Lib.hid (HB4.out.trans ((HB.out.trans (HWS.out.mono HB.out.size)).mono HB4.out.size))
        obtain ⟨td, E3, e3, E4, e4, rfl, s0, _, _, s3, s4, tr3, tr4⟩ := rowsE_at (H0.out.below HBW.out) hj
        have htl := HLT.out T[j] (List.getElem_mem hj)
        have hjn : (j : Int) < (n0 : Int) := by have := HZ.out; omega
        have hgd : T.getD ((j : Int)).toNat zE = T[j] := by rw [Int.toNat_natCast, List.getD_eq_getElem?_getD, List.getElem?_eq_getElem hj]; rfl
        rw [hgd, if_neg (by omega)] at HFI
        clear hgd
        generalize T[j] = y at *
        obtain ⟨et, em, ep, el, el'⟩ := y
        simp only at s0 s3 s4 tr3 tr4 htl HFI
        have CW := fun V : InB ws => within_any et (t + a) (yt - b) V.1
        have C3 := fun V : InB ws => slicesEqual_any E3 el.length e3 el A4 l'.length c4 l' V.1 (by omega) (by omega) (tr3.below V.2) ((hra.below HWS.out).below V.2)
        have C4 := fun V : InB ws => slicesEqual_any E4 el'.length e4 el' B3 yl.length d3 yl V.1 (by omega) (by omega) (tr4.below V.2) ((hrb.below HWS.out).below V.2)
        obtain ⟨b1, hb1⟩ : ∃ b1, b1 = inB et (t + a) (yt - b) := ⟨_, rfl⟩
        obtain ⟨b2, hb2⟩ : ∃ b2, b2 = sameB el l' := ⟨_, rfl⟩
        obtain ⟨b3, hb3⟩ : ∃ b3, b3 = sameB el' yl := ⟨_, rfl⟩
        rw [← hb1] at CW
        simp only [← hb2] at C3
        simp only [← hb3] at C4
        rw [← hb1, ← hb2, ← hb3] at HFI
        have HCW := Lib.hid CW; have HC3 := Lib.hid C3; have HC4 := Lib.hid C4
        clear CW C3 C4 hb1 hb2 hb3 tr3 tr4 hra hrb htl
        have x0 := (box_at HBX.out (j := 0) rfl).1
        have x4 := (box_at HBX.out (j := 4) rfl).1
        have x5 := (box_at HBX.out (j := 5) rfl).1
        have x8 := (box_at HBX.out (j := 8) rfl).1
        have v0 := fun V : InB ws => V.cell s0
        have v3 := fun V : InB ws => V.cell s3
        have v4 := fun V : InB ws => V.cell s4
        have u0 := fun V : InB ws => V.cell x0
        have u4 := fun V : InB ws => V.cell x4
        have u5 := fun V : InB ws => V.cell x5
        have u8 := fun V : InB ws => V.cell x8
        clear s0 s3 s4 x0 x4 x5 x8
        have g0 : decide ((j : Int) < 0) = false := decide_eq_false (by omega)
        have g1 : IntKind.i64.wrap (t + a) = t + a := IntWalk.i64_in _ (by omega)
        have g2 : IntKind.i64.wrap (yt - b) = yt - b := IntWalk.i64_in _ (by omega)
        have hj0 : (0 : Int) ≤ (j : Int) := by omega
        cases b1 with
        | false =>
          go_wp2
          try simp only [List.append]
          refine wp_region_below ws (by kernel_rfl) (by kernel_rfl) (by first | assumption | exact Below.refl _ _) ?_
          repeat (go_big_quiet_step (first | (go_at_call 83; exact bel_same (HCW.out _)) | (go_at_call_of 65 (Value.slice E3 el.length e3); exact bel_quiet (HC3.out _)) | (go_at_call_of 65 (Value.slice E4 el'.length e4); exact bel_quiet (HC4.out _))))
          refine wpQuiet_nil ?_
          intro wb hw'
          obtain ⟨⟨wb', hB⟩, hwb⟩ := hw'
          simp only at hwb
          subst hwb
          try simp only at hB ⊢
          all_goals
            clear v0 v3 v4 u0 u4 u5 u8 g0 g1 g2
            have HFA : Hid ((fitA T a b (togE M L) && decide ((togE M L).length = T.length)) = false) := Lib.hid (by rw [← HRC.out, HLK.out, HFI.out]; simp)
            have HBF := Lib.hid (HB4.out.trans ((HB.out.trans ((HWS.out.trans (hB.mono HWS.out.size)).mono HB.out.size)).mono HB4.out.size))
            clear hB
            go_wp2
            go_ret2
            exact ⟨by first | (rw [HFA.out]; done) | (rw [HFA.out]; rfl) | (simp [HFA.out]; done), HBF.out⟩
        | true =>
          cases b2 with
          | false =>
            go_wp2
            try simp only [List.append]
            refine wp_region_below ws (by kernel_rfl) (by kernel_rfl) (by first | assumption | exact Below.refl _ _) ?_
            repeat (go_big_quiet_step (first | (go_at_call 83; exact bel_same (HCW.out _)) | (go_at_call_of 65 (Value.slice E3 el.length e3); exact bel_quiet (HC3.out _)) | (go_at_call_of 65 (Value.slice E4 el'.length e4); exact bel_quiet (HC4.out _))))
            refine wpQuiet_nil ?_
            intro wb hw'
            obtain ⟨⟨wb', hB⟩, hwb⟩ := hw'
            simp only at hwb
            subst hwb
            try simp only at hB ⊢
            all_goals
              clear v0 v3 v4 u0 u4 u5 u8 g0 g1 g2
              have HFA : Hid ((fitA T a b (togE M L) && decide ((togE M L).length = T.length)) = false) := Lib.hid (by rw [← HRC.out, HLK.out, HFI.out]; simp)
              have HBF := Lib.hid (HB4.out.trans ((HB.out.trans ((HWS.out.trans (hB.mono HWS.out.size)).mono HB.out.size)).mono HB4.out.size))
              clear hB
              go_wp2
              go_ret2
              exact ⟨by first | (rw [HFA.out]; done) | (rw [HFA.out]; rfl) | (simp [HFA.out]; done), HBF.out⟩
          | true =>
            cases b3 with
            | false =>
              go_wp2
              try simp only [List.append]
              refine wp_region_below ws (by kernel_rfl) (by kernel_rfl) (by first | assumption | exact Below.refl _ _) ?_
              repeat (go_big_quiet_step (first | (go_at_call 83; exact bel_same (HCW.out _)) | (go_at_call_of 65 (Value.slice E3 el.length e3); exact bel_quiet (HC3.out _)) | (go_at_call_of 65 (Value.slice E4 el'.length e4); exact bel_quiet (HC4.out _))))
              refine wpQuiet_nil ?_
              intro wb hw'
              obtain ⟨⟨wb', hB⟩, hwb⟩ := hw'
              simp only at hwb
              subst hwb
              try simp only at hB ⊢
              all_goals
                clear v0 v3 v4 u0 u4 u5 u8 g0 g1 g2
                have HFA : Hid ((fitA T a b (togE M L) && decide ((togE M L).length = T.length)) = false) := Lib.hid (by rw [← HRC.out, HLK.out, HFI.out]; simp)
                have HBF := Lib.hid (HB4.out.trans ((HB.out.trans ((HWS.out.trans (hB.mono HWS.out.size)).mono HB.out.size)).mono HB4.out.size))
                clear hB
                go_wp2
                go_ret2
                exact ⟨by first | (rw [HFA.out]; done) | (rw [HFA.out]; rfl) | (simp [HFA.out]; done), HBF.out⟩
            | true =>
              go_wp2
              try simp only [List.append]
              refine wp_region_below ws (by kernel_rfl) (by kernel_rfl) (by first | assumption | exact Below.refl _ _) ?_
              repeat (go_big_quiet_step (first | (go_at_call 83; exact bel_same (HCW.out _)) | (go_at_call_of 65 (Value.slice E3 el.length e3); exact bel_quiet (HC3.out _)) | (go_at_call_of 65 (Value.slice E4 el'.length e4); exact bel_quiet (HC4.out _))))
              refine wpQuiet_nil ?_
              intro wb hw'
              obtain ⟨⟨wb', hB⟩, hwb⟩ := hw'
              simp only at hwb
              subst hwb
              try simp only at hB ⊢
              all_goals
                clear v0 v3 v4 u0 u4 u5 u8 g0 g1 g2
                have HB5 := Lib.hid (HB.out.trans ((HWS.out.trans (hB.mono HWS.out.size)).mono HB.out.size))
                clear hB
                go_wp2
                go_roundw
                case rel => exact ⟨k + 1, by omega, by go_num, by go_num, by rw [← HRC.out, HLK.out, HFI.out]; simp, HB5.out⟩
                case measure => simp [intOf]; omega
    · have HE := Lib.hid (drop_end (xs := togE M L) (k := k) (by rw [HPL.out]; omega))
      have hkN : k = cntE M L := by omega
      have hfa := HRC.out
      rw [HE.out] at hfa
      have HFA : Hid ((fitA T a b (togE M L) && decide ((togE M L).length = T.length)) = decide (k = n0)) := Lib.hid (by
        rw [← hfa, HPL.out, HZ.out, hkN]
        rfl)
      have HBF := Lib.hid (HB4.out.trans (HB.out.mono HB4.out.size))
      clear hfa hkN
      by_cases hkn : k = n0
      · have hke : ((k : Int) == (n0 : Int)) = true := by rw [beq_iff_eq]; omega
        have HF2 : Hid ((fitA T a b (togE M L) && decide ((togE M L).length = T.length)) = true) := Lib.hid (by rw [HFA.out]; simp [hkn])
        clear hkn
        go_wp2
        go_ret2
        exact ⟨by first | (rw [HF2.out]; done) | (rw [HF2.out]; rfl) | (simp [HF2.out]; done), HBF.out⟩
      · have hke : ((k : Int) == (n0 : Int)) = false := by rw [beq_eq_false_iff_ne]; omega
        have HF2 : Hid ((fitA T a b (togE M L) && decide ((togE M L).length = T.length)) = false) := Lib.hid (by rw [HFA.out]; simp [hkn])
        clear hkn
        go_wp2
        go_ret2
        exact ⟨by first | (rw [HF2.out]; done) | (rw [HF2.out]; rfl) | (simp [HF2.out]; done), HBF.out⟩

end Go.Proofs.Ytcjmlakmigfkfaa
