/- The law of traffic: the walk. No conditions. -/
import Derived.Test.YtgdlaeibdpbgdaaTraH
import Derived.Test.YtgdlaeibdpbgdaaTrU
import Derived.Test.YtgdlaeibdpbgdaaDrJ
namespace Go.Proofs.Ytgdlaeibdpbgdaa
set_option linter.unusedSimpArgs false
set_option linter.unusedVariables false
open Go.RowKit


set_option maxHeartbeats 40000000 in
set_option maxRecDepth 100000 in
theorem law_FnTraffic (w : World) {v0 v1 : Value} (h0 : IsBytes w v0) (h1 : IsBytes w v1) :
    Calls Try.prog 14 #[v0, v1] w fun e w' => e = .returned (.bool true) ∧ Below w.heap.size w w' := by
  obtain ⟨A0, n0, c0, l0, rfl, hnc0, hcm0, hr0, hb0⟩ := h0
  obtain ⟨A1, n1, c1, l1, rfl, hnc1, hcm1, hr1, hb1⟩ := h1
  have HR0 := Lib.hid hr0; have HR1 := Lib.hid hr1; have HL0 := Lib.hid hb0; have HL1 := Lib.hid hb1
  clear hr0 hr1 hb0 hb1
  have HB : Hid (Below w.heap.size w w) := Lib.hid (Below.refl _ _)
  by_cases hbig : 1048576 < wrap64 ((n0 : Int) + (n1 : Int))
  · go_enter Try.func14, Try.ntmps14
    go_wp2
    go_ret
    exact ⟨rfl, Below.refl _ _⟩
  go_enter Try.func14, Try.ntmps14
  go_wp2_with fail
  refine (drawSentInHours_any A0 n0 c0 l0 _ (by omega) HL0.out HR0.out).mono ?_
  rintro e wz ⟨B, d, xs, cap, rfl, hxl, hcap, ho, hb⟩
  replace HB := Lib.hid (HB.out.trans (hb.mono HB.out.size))
  have HX := Lib.hid ho
  clear ho
  clear hb
  go_wp2_with fail
  refine (implSentInHours_any B xs.length d xs cap _ (by omega) (Reads.of_own HX.out)).mono ?_
  rintro e wz ⟨A2, c2, rfl, ho, hb⟩
  replace HB := Lib.hid (HB.out.trans (hb.mono HB.out.size))
  replace HX := Lib.hid (own_below HX.out hb)
  have HS1 := Lib.hid ho
  clear ho
  clear hb
  go_wp2_with fail
  refine (specSentInHours_any B xs.length d xs cap _ (by omega) (Reads.of_own HX.out)).mono ?_
  rintro e wz ⟨A3, c3, rfl, ho, hb⟩
  replace HB := Lib.hid (HB.out.trans (hb.mono HB.out.size))
  replace HX := Lib.hid (own_below HX.out hb)
  replace HS1 := Lib.hid (own_below HS1.out hb)
  have HS2 := Lib.hid ho
  clear ho
  clear hb
  go_wp2_with fail
  refine (implWaitingAfter_any B xs.length d xs cap _ (by omega) (Reads.of_own HX.out)).mono ?_
  rintro e wz ⟨A4, c4, rfl, ho, hb⟩
  replace HB := Lib.hid (HB.out.trans (hb.mono HB.out.size))
  replace HX := Lib.hid (own_below HX.out hb)
  replace HS1 := Lib.hid (own_below HS1.out hb)
  replace HS2 := Lib.hid (own_below HS2.out hb)
  have HW1 := Lib.hid ho
  clear ho
  clear hb
  go_wp2_with fail
  refine (specWaitingAfter_any B xs.length d xs cap _ (by omega) (Reads.of_own HX.out)).mono ?_
  rintro e wz ⟨A5, c5, rfl, ho, hb⟩
  replace HB := Lib.hid (HB.out.trans (hb.mono HB.out.size))
  replace HX := Lib.hid (own_below HX.out hb)
  replace HS1 := Lib.hid (own_below HS1.out hb)
  replace HS2 := Lib.hid (own_below HS2.out hb)
  replace HW1 := Lib.hid (own_below HW1.out hb)
  have HW2 := Lib.hid ho
  clear ho
  clear hb
  go_wp2_with fail
  refine (implHoursToClear_any B xs.length d xs cap _ (by omega) (Reads.of_own HX.out)).mono ?_
  rintro e wz ⟨rfl, hb⟩
  replace HB := Lib.hid (HB.out.trans (hb.mono HB.out.size))
  replace HX := Lib.hid (own_below HX.out hb)
  replace HS1 := Lib.hid (own_below HS1.out hb)
  replace HS2 := Lib.hid (own_below HS2.out hb)
  replace HW1 := Lib.hid (own_below HW1.out hb)
  replace HW2 := Lib.hid (own_below HW2.out hb)
  clear hb
  go_wp2_with fail
  refine (specHoursToClear_any B xs.length d xs cap _ (by omega) (Reads.of_own HX.out)).mono ?_
  rintro e wz ⟨rfl, hb⟩
  replace HB := Lib.hid (HB.out.trans (hb.mono HB.out.size))
  replace HX := Lib.hid (own_below HX.out hb)
  replace HS1 := Lib.hid (own_below HS1.out hb)
  replace HS2 := Lib.hid (own_below HS2.out hb)
  replace HW1 := Lib.hid (own_below HW1.out hb)
  replace HW2 := Lib.hid (own_below HW2.out hb)
  clear hb
  go_wp2_with fail
  refine (implMostWaiting_any B xs.length d xs cap _ (by omega) (Reads.of_own HX.out)).mono ?_
  rintro e wz ⟨rfl, hb⟩
  replace HB := Lib.hid (HB.out.trans (hb.mono HB.out.size))
  replace HX := Lib.hid (own_below HX.out hb)
  replace HS1 := Lib.hid (own_below HS1.out hb)
  replace HS2 := Lib.hid (own_below HS2.out hb)
  replace HW1 := Lib.hid (own_below HW1.out hb)
  replace HW2 := Lib.hid (own_below HW2.out hb)
  clear hb
  go_wp2_with fail
  refine (specMostWaiting_any B xs.length d xs cap _ (by omega) (Reads.of_own HX.out)).mono ?_
  rintro e wz ⟨rfl, hb⟩
  replace HB := Lib.hid (HB.out.trans (hb.mono HB.out.size))
  replace HX := Lib.hid (own_below HX.out hb)
  replace HS1 := Lib.hid (own_below HS1.out hb)
  replace HS2 := Lib.hid (own_below HS2.out hb)
  replace HW1 := Lib.hid (own_below HW1.out hb)
  replace HW2 := Lib.hid (own_below HW2.out hb)
  clear hb
  go_wp2_with fail
  refine (drawLeastCapacity_any A1 n1 c1 l1 _ (by omega) HL1.out (HR1.out.below HB.out)).mono ?_
  rintro e wz ⟨Ba, da, ys, lim, rfl, hyl, hlim, ho, hb⟩
  replace HB := Lib.hid (HB.out.trans (hb.mono HB.out.size))
  replace HX := Lib.hid (own_below HX.out hb)
  replace HS1 := Lib.hid (own_below HS1.out hb)
  replace HS2 := Lib.hid (own_below HS2.out hb)
  replace HW1 := Lib.hid (own_below HW1.out hb)
  replace HW2 := Lib.hid (own_below HW2.out hb)
  have HA := Lib.hid ho
  clear ho
  clear hb
  go_wp2_with fail
  refine (implLeastCapacity_any Ba ys.length da ys lim _ (by omega) (Reads.of_own HA.out)).mono ?_
  rintro e wz ⟨rfl, hb⟩
  replace HB := Lib.hid (HB.out.trans (hb.mono HB.out.size))
  replace HX := Lib.hid (own_below HX.out hb)
  replace HS1 := Lib.hid (own_below HS1.out hb)
  replace HS2 := Lib.hid (own_below HS2.out hb)
  replace HW1 := Lib.hid (own_below HW1.out hb)
  replace HW2 := Lib.hid (own_below HW2.out hb)
  replace HA := Lib.hid (own_below HA.out hb)
  clear hb
  go_wp2_with fail
  refine (specLeastCapacity_any Ba ys.length da ys lim _ (by omega) (Reads.of_own HA.out)).mono ?_
  rintro e wz ⟨rfl, hb⟩
  replace HB := Lib.hid (HB.out.trans (hb.mono HB.out.size))
  replace HX := Lib.hid (own_below HX.out hb)
  replace HS1 := Lib.hid (own_below HS1.out hb)
  replace HS2 := Lib.hid (own_below HS2.out hb)
  replace HW1 := Lib.hid (own_below HW1.out hb)
  replace HW2 := Lib.hid (own_below HW2.out hb)
  replace HA := Lib.hid (own_below HA.out hb)
  clear hb
  go_wp2_with fail
  refine (drawBusyWindow_any A1 n1 c1 l1 _ (by omega) HL1.out (HR1.out.below HB.out)).mono ?_
  rintro e wz ⟨Bb, db, zs, kk, rfl, hzl, hkk, ho, hb⟩
  replace HB := Lib.hid (HB.out.trans (hb.mono HB.out.size))
  replace HX := Lib.hid (own_below HX.out hb)
  replace HS1 := Lib.hid (own_below HS1.out hb)
  replace HS2 := Lib.hid (own_below HS2.out hb)
  replace HW1 := Lib.hid (own_below HW1.out hb)
  replace HW2 := Lib.hid (own_below HW2.out hb)
  replace HA := Lib.hid (own_below HA.out hb)
  have HZ := Lib.hid ho
  clear ho
  clear hb
  go_wp2_with fail
  refine (implBusyWindow_any Bb zs.length db zs kk _ (by omega) (Reads.of_own HZ.out) (own_cap HZ.out)).mono ?_
  rintro e wz ⟨rfl, hb⟩
  replace HB := Lib.hid (HB.out.trans (hb.mono HB.out.size))
  replace HX := Lib.hid (own_below HX.out hb)
  replace HS1 := Lib.hid (own_below HS1.out hb)
  replace HS2 := Lib.hid (own_below HS2.out hb)
  replace HW1 := Lib.hid (own_below HW1.out hb)
  replace HW2 := Lib.hid (own_below HW2.out hb)
  replace HA := Lib.hid (own_below HA.out hb)
  replace HZ := Lib.hid (own_below HZ.out hb)
  clear hb
  go_wp2_with fail
  refine (specBusyWindow_any Bb zs.length db zs kk _ (by omega) (Reads.of_own HZ.out) (own_cap HZ.out)).mono ?_
  rintro e wz ⟨rfl, hb⟩
  replace HB := Lib.hid (HB.out.trans (hb.mono HB.out.size))
  replace HX := Lib.hid (own_below HX.out hb)
  replace HS1 := Lib.hid (own_below HS1.out hb)
  replace HS2 := Lib.hid (own_below HS2.out hb)
  replace HW1 := Lib.hid (own_below HW1.out hb)
  replace HW2 := Lib.hid (own_below HW2.out hb)
  replace HA := Lib.hid (own_below HA.out hb)
  replace HZ := Lib.hid (own_below HZ.out hb)
  clear hb
  go_wp2_with fail
  refine (drawSharesOf_any A1 n1 c1 l1 _ (by omega) HL1.out (HR1.out.below HB.out)).mono ?_
  rintro e wz ⟨Bc, dc, cs, pp, rfl, hcl, hpp, ho, hb⟩
  replace HB := Lib.hid (HB.out.trans (hb.mono HB.out.size))
  replace HX := Lib.hid (own_below HX.out hb)
  replace HS1 := Lib.hid (own_below HS1.out hb)
  replace HS2 := Lib.hid (own_below HS2.out hb)
  replace HW1 := Lib.hid (own_below HW1.out hb)
  replace HW2 := Lib.hid (own_below HW2.out hb)
  replace HA := Lib.hid (own_below HA.out hb)
  replace HZ := Lib.hid (own_below HZ.out hb)
  have HC := Lib.hid ho
  clear ho
  clear hb
  go_wp2_with fail
  refine (implSharesOf_any Bc cs.length dc cs pp _ (by omega) (Reads.of_own HC.out)).mono ?_
  rintro e wz ⟨A6, c6, rfl, ho, hb⟩
  replace HB := Lib.hid (HB.out.trans (hb.mono HB.out.size))
  replace HX := Lib.hid (own_below HX.out hb)
  replace HS1 := Lib.hid (own_below HS1.out hb)
  replace HS2 := Lib.hid (own_below HS2.out hb)
  replace HW1 := Lib.hid (own_below HW1.out hb)
  replace HW2 := Lib.hid (own_below HW2.out hb)
  replace HA := Lib.hid (own_below HA.out hb)
  replace HZ := Lib.hid (own_below HZ.out hb)
  replace HC := Lib.hid (own_below HC.out hb)
  have HD1 := Lib.hid ho
  clear ho
  clear hb
  go_wp2_with fail
  refine (specSharesOf_any Bc cs.length dc cs pp _ (by omega) (Reads.of_own HC.out)).mono ?_
  rintro e wz ⟨A7, c7, rfl, ho, hb⟩
  replace HB := Lib.hid (HB.out.trans (hb.mono HB.out.size))
  replace HX := Lib.hid (own_below HX.out hb)
  replace HS1 := Lib.hid (own_below HS1.out hb)
  replace HS2 := Lib.hid (own_below HS2.out hb)
  replace HW1 := Lib.hid (own_below HW1.out hb)
  replace HW2 := Lib.hid (own_below HW2.out hb)
  replace HA := Lib.hid (own_below HA.out hb)
  replace HZ := Lib.hid (own_below HZ.out hb)
  replace HC := Lib.hid (own_below HC.out hb)
  replace HD1 := Lib.hid (own_below HD1.out hb)
  have HD2 := Lib.hid ho
  clear ho
  clear hb
  clear hbig
  have HF := Lib.hid (flags xs cap)
  have HSR : Hid (sentR xs cap = ((sentR xs cap).1, (sentR xs cap).2)) := Lib.hid rfl
  have HWR : Hid (waitR xs cap = ((waitR xs cap).1, (waitR xs cap).2)) := Lib.hid rfl
  have HCR : Hid (clearR xs cap = ((clearR xs cap).1, (clearR xs cap).2)) := Lib.hid rfl
  have HMR : Hid (mostR xs cap = ((mostR xs cap).1, (mostR xs cap).2.1, (mostR xs cap).2.2)) := Lib.hid rfl
  have hsl := sentR_bd xs cap
  have hwl := waitR_bd xs cap
  have hdl := sharesR_len cs pp
  have HLF := Lib.hid (leastR_facts (xs := ys) (most := lim))
  have HBF := Lib.hid (busyR_facts (xs := zs) (k0 := kk))
  have HDF := Lib.hid (sharesR_facts (xs := cs) (p := pp))
  generalize (sentR xs cap).1 = S at *
  generalize (sentR xs cap).2 = so at *
  generalize (waitR xs cap).1 = W at *
  generalize (waitR xs cap).2 = wo at *
  generalize (clearR xs cap).1 = hv at *
  generalize (clearR xs cap).2 = ho at *
  generalize (mostR xs cap).1 = ma at *
  generalize (mostR xs cap).2.1 = mm at *
  generalize (mostR xs cap).2.2 = mo at *
  generalize (leastR ys lim).1 = lv at *
  generalize (leastR ys lim).2 = lo at *
  generalize (busyR zs kk).1 = bv at *
  generalize (busyR zs kk).2.1 = cv at *
  generalize (busyR zs kk).2.2 = bo at *
  generalize (sharesR cs pp).1 = D at *
  generalize (sharesR cs pp).2 = eo at *
  have HTB : Hid (trafB xs cap = trafB xs cap) := Lib.hid rfl
  obtain ⟨e1, e2, e3, e4⟩ := HF.out
  clear HF
  obtain ⟨tb, htb⟩ : ∃ tb, trafB xs cap = tb := ⟨_, rfl⟩
  rw [htb] at e1 e2 e3 e4
  have HTB := Lib.hid htb
  have HE4 := Lib.hid e4
  clear htb e4
  subst so; subst wo; subst ho
  obtain ⟨wA, rfl⟩ : ∃ wA, wA = wz := ⟨_, rfl⟩
  go_upto_region 21 with fail
  go_cut [21, 24, 276] from 109 to 122 (fun m1 m2 b wx => m1 = .bool mo ∧ m2 = .bool mo ∧ b = .bool false ∧ Below wA.heap.size wA wx)
  case first =>
    as_aux_lemma =>
    have HQ : Hid (Below wA.heap.size wA wA) := Lib.hid (Below.refl _ _)
    have h4 := HE4.out
    cases tb with
    | false =>
      as_aux_lemma =>
      simp only [Bool.false_and] at h4
      subst mo
      go_wp2_with fail
      refine (qSame_any A2 S.length c2 A3 c3 S _ (by omega) (Reads.of_own (own_below HS1.out HQ.out)) (Reads.of_own (own_below HS2.out HQ.out))).mono ?_
      rintro e wz ⟨rfl, hb⟩
      replace HQ := Lib.hid (HQ.out.trans (hb.mono HQ.out.size))
      clear hb
      go_wp2_with fail
      refine (qSame_any A4 W.length c4 A5 c5 W _ (by omega) (Reads.of_own (own_below HW1.out HQ.out)) (Reads.of_own (own_below HW2.out HQ.out))).mono ?_
      rintro e wz ⟨rfl, hb⟩
      replace HQ := Lib.hid (HQ.out.trans (hb.mono HQ.out.size))
      clear hb
      go_wp2_with fail
      refine (qSame_any A6 D.length c6 A7 c7 D _ (by omega) (Reads.of_own (own_below HD1.out HQ.out)) (Reads.of_own (own_below HD2.out HQ.out))).mono ?_
      rintro e wz ⟨rfl, hb⟩
      replace HQ := Lib.hid (HQ.out.trans (hb.mono HQ.out.size))
      clear hb
      go_wp2_with fail
      go_meet
      case rel => exact ⟨by first | rfl | (simp; done), by first | rfl | (simp; done), by first | rfl | (simp; done) | (simp; omega), HQ.out⟩
    | true =>
      as_aux_lemma =>
      simp only [Bool.true_and] at h4
      subst mo
      go_wp2_with fail
      refine (qSame_any A2 S.length c2 A3 c3 S _ (by omega) (Reads.of_own (own_below HS1.out HQ.out)) (Reads.of_own (own_below HS2.out HQ.out))).mono ?_
      rintro e wz ⟨rfl, hb⟩
      replace HQ := Lib.hid (HQ.out.trans (hb.mono HQ.out.size))
      clear hb
      go_wp2_with fail
      refine (qSame_any A4 W.length c4 A5 c5 W _ (by omega) (Reads.of_own (own_below HW1.out HQ.out)) (Reads.of_own (own_below HW2.out HQ.out))).mono ?_
      rintro e wz ⟨rfl, hb⟩
      replace HQ := Lib.hid (HQ.out.trans (hb.mono HQ.out.size))
      clear hb
      go_wp2_with fail
      refine (qSame_any A6 D.length c6 A7 c7 D _ (by omega) (Reads.of_own (own_below HD1.out HQ.out)) (Reads.of_own (own_below HD2.out HQ.out))).mono ?_
      rintro e wz ⟨rfl, hb⟩
      replace HQ := Lib.hid (HQ.out.trans (hb.mono HQ.out.size))
      clear hb
      go_wp2_with fail
      go_meet
      case rel => exact ⟨by first | rfl | (simp; done), by first | rfl | (simp; done), by first | rfl | (simp; done) | (simp; omega), HQ.out⟩
  case rest =>
  as_aux_lemma =>
  obtain ⟨rfl, rfl, rfl, hb⟩ := hcut
  replace HB := Lib.hid (HB.out.trans (hb.mono HB.out.size))
  replace HX := Lib.hid (own_below HX.out hb)
  replace HS2 := Lib.hid (own_below HS2.out hb)
  replace HW2 := Lib.hid (own_below HW2.out hb)
  replace HA := Lib.hid (own_below HA.out hb)
  replace HZ := Lib.hid (own_below HZ.out hb)
  replace HD2 := Lib.hid (own_below HD2.out hb)
  clear hb
  obtain ⟨wB, rfl⟩ : ∃ wB, wB = wc := ⟨_, rfl⟩
  go_upto_if 277 with fail
  go_cut [] from 500 to 500 (fun wx => Below wB.heap.size wB wx)
  case first =>
    as_aux_lemma =>
    have HQ : Hid (Below wB.heap.size wB wB) := Lib.hid (Below.refl _ _)
    cases lo with
    | false =>
      go_wp2
      go_meet
      case rel => exact HQ.out
    | true =>
      obtain ⟨ht, hv1, hv2, hall, hless⟩ := HLF.out rfl
      have HT := Lib.hid ht; have HALL := Lib.hid hall; have HLESS := Lib.hid hless
      have hwy : (waits lv 0 ys).length ≤ 60 := by have h := (trafB_true.1 ht).1.1; simpa using h
      obtain ⟨K, hK⟩ : ∃ K, waits lv 0 ys = K := ⟨_, rfl⟩
      rw [hK] at HALL hwy
      have HK := Lib.hid hK
      clear ht hall hless hK
      go_wp2_with fail
      refine (implWaitYes_any Ba ys.length da ys lv _ (by omega) (Reads.of_own (own_below HA.out HQ.out)) HT.out HK.out).mono ?_
      rintro e wz ⟨Ax, cx, rfl, ho, hb⟩
      replace HQ := Lib.hid (HQ.out.trans (hb.mono HQ.out.size))
      have HK1 := Lib.hid ho
      clear ho
      clear hb
      go_wp2_with fail
      refine (specWaitYes_any Ba ys.length da ys lv _ (by omega) (Reads.of_own (own_below HA.out HQ.out)) HT.out HK.out).mono ?_
      rintro e wz ⟨Ay, cy, rfl, ho, hb⟩
      replace HQ := Lib.hid (HQ.out.trans (hb.mono HQ.out.size))
      replace HK1 := Lib.hid (own_below HK1.out hb)
      have HK2 := Lib.hid ho
      clear ho
      clear hb
      go_wp2_with fail
      refine (qSame_any Ax K.length cx Ay cy K _ (by omega) (Reads.of_own HK1.out) (Reads.of_own HK2.out)).mono ?_
      rintro e wz ⟨rfl, hb⟩
      have HQ := Lib.hid (HQ.out.trans (hb.mono HQ.out.size))
      have HK2 := Lib.hid (own_below HK2.out hb)
      clear hb HK1
      obtain ⟨wL, rfl⟩ : ∃ wL, wL = wz := ⟨_, rfl⟩
      go_wp2
      go_loopw [304] (fun i wr => ∃ k : Nat, k ≤ K.length ∧ i = .int .i64 k ∧ Below wL.heap.size wL wr) (fun i _ => K.length - (intOf i).toNat)
      case atStart => exact ⟨0, Nat.zero_le _, rfl, Below.refl _ _⟩
      case round =>
        obtain ⟨k, hk, rfl, hb⟩ := hrel
        have HBR := Lib.hid hb
        clear hb
        by_cases hlt : k < K.length
        · obtain ⟨ad, u, rfl, hu, k0⟩ := (Reads.of_own (own_below HK2.out HBR.out)).at_ hlt
          have e0 : u = .int .i64 K[k] := by simp [ints, hlt] at hu; exact hu.symm
          subst e0
          have hkb := HALL.out _ (List.getElem_mem hlt)
          clear hu
          generalize K[k] = x at *
          go_wp2
          go_roundw
          case rel => exact ⟨k + 1, by omega, by go_num, HBR.out⟩
          case measure => simp [intOf]; omega
        · have HQ := Lib.hid (HQ.out.trans (HBR.out.mono HQ.out.size))
          by_cases hl1 : 1 < lv
          · obtain ⟨a', m', hm, hml⟩ := HLESS.out hl1
            have HM := Lib.hid hm
            clear hm
            have hw1 : wrap64 (lv - 1) = lv - 1 := IntWalk.wrap64_in _ ⟨by omega, by omega⟩
            go_wp2_with fail
            refine (implMostYes_any Ba ys.length da ys (lv - 1) a' m' _ (by omega) (Reads.of_own (own_below HA.out HQ.out)) HM.out).mono ?_
            rintro e wz ⟨rfl, hb⟩
            have HQ := Lib.hid (HQ.out.trans (hb.mono HQ.out.size))
            clear hb
            go_wp2_with fail
            refine (specMostYes_any Ba ys.length da ys (lv - 1) a' m' _ (by omega) (Reads.of_own (own_below HA.out HQ.out)) HM.out).mono ?_
            rintro e wz ⟨rfl, hb⟩
            have HQ := Lib.hid (HQ.out.trans (hb.mono HQ.out.size))
            clear hb
            go_wp2
            go_meet
            case rel => exact HQ.out
          · go_wp2
            go_meet
            case rel => exact HQ.out
  case rest =>
  as_aux_lemma =>
  have hb := hcut
  replace HB := Lib.hid (HB.out.trans (hb.mono HB.out.size))
  replace HX := Lib.hid (own_below HX.out hb)
  replace HS2 := Lib.hid (own_below HS2.out hb)
  replace HW2 := Lib.hid (own_below HW2.out hb)
  replace HZ := Lib.hid (own_below HZ.out hb)
  replace HD2 := Lib.hid (own_below HD2.out hb)
  clear hb hcut
  obtain ⟨wC, rfl⟩ : ∃ wC, wC = wc := ⟨_, rfl⟩
  go_upto_if 346 with fail
  go_cut [] from 500 to 500 (fun wx => Below wC.heap.size wC wx)
  case first =>
    as_aux_lemma =>
    have HQ : Hid (Below wC.heap.size wC wC) := Lib.hid (Below.refl _ _)
    cases bo with
    | false =>
      go_wp2
      go_meet
      case rel => exact HQ.out
    | true =>
      obtain ⟨k, b, rfl, hk1, hbk, hz60, hzb, rfl, hcv, hall⟩ := HBF.out rfl
      rw [← hcv] at hall
      have HZB := Lib.hid hzb; have HALL := Lib.hid hall
      have hcz := own_cap HZ.out
      clear hzb hall
      obtain ⟨ad, e, hc⟩ := (Reads.of_own HZ.out).2 (by omega)
      subst e
      have HRD := Lib.hid (reads_mid (t := b) (k := k) hc rfl (by omega))
      have HYB : Hid (∀ x ∈ (zs.drop b).take k, -1000000 ≤ x ∧ x ≤ 1000000) := Lib.hid (fun x hx' => by have := HZB.out x (List.mem_of_mem_drop (List.mem_of_mem_take hx')); omega)
      have hsb := sumL_bd ((zs.drop b).take k) 0 200 (fun x hx' => HZB.out x (List.mem_of_mem_drop (List.mem_of_mem_take hx')))
      have hlb : ((zs.drop b).take k).length = k := by simp; omega
      rw [hlb, ← hcv] at hsb
      clear hc hlb
      have hbc : b < db := by omega
      have hbkc : b + k ≤ db := by omega
      generalize (zs.drop b).take k = T at *
      have HCV := Lib.hid hcv
      clear hcv
      go_wp2_with fail
      refine (qSum_any (some (ad.add b)) k (db - b) T _ (by omega) HRD.out HYB.out).mono ?_
      rintro e wz ⟨rfl, rfl⟩
      rw [← HCV.out]
      go_wp2
      go_loopw [57] (fun i wr => ∃ t : Nat, t + k ≤ zs.length + 1 ∧ i = .int .i64 t ∧ Below wC.heap.size wC wr) (fun i _ => 100 - (intOf i).toNat)
      case atStart => exact ⟨0, by omega, rfl, Below.refl _ _⟩
      case round =>
        obtain ⟨t, ht, rfl, hb⟩ := hrel
        have HBR := Lib.hid hb
        clear hb HRD HYB
        by_cases hlt : t + k ≤ zs.length
        · obtain ⟨_, e, hc⟩ := (Reads.of_own (own_below HZ.out HBR.out)).2 (by omega)
          injection e with e
          subst e
          have htc : t < db := by omega
          have htkc : t + k ≤ db := by omega
          have HRD := Lib.hid (reads_mid (t := t) (k := k) hc rfl (by omega))
          have HYB : Hid (∀ x ∈ (zs.drop t).take k, -1000000 ≤ x ∧ x ≤ 1000000) := Lib.hid (fun x hx' => by have := HZB.out x (List.mem_of_mem_drop (List.mem_of_mem_take hx')); omega)
          obtain ⟨h1, h2⟩ := HALL.out t hlt
          have hsb2 := sumL_bd ((zs.drop t).take k) 0 200 (fun x hx' => HZB.out x (List.mem_of_mem_drop (List.mem_of_mem_take hx')))
          have hlb : ((zs.drop t).take k).length = k := by simp; omega
          rw [hlb] at hsb2
          clear hc hlb
          generalize (zs.drop t).take k = T2 at *
          obtain ⟨wq, rfl⟩ : ∃ wq, wq = wr := ⟨_, rfl⟩
          by_cases hq : sumL T2 = cv
          · have h3 := h2 hq
            have HC2 := Lib.hid (qSum_any (some (ad.add t)) k (db - t) T2 wq (by omega) HRD.out HYB.out)
            rw [hq] at HC2
            clear h1 h2 hq hsb2
            go_wp2_with (go_at_call 46; refine (HC2.out).mono ?_; rintro e wz ⟨rfl, rfl⟩)
            go_roundw
            case rel => exact ⟨t + 1, by omega, by go_num, HBR.out⟩
            case measure => simp [intOf]; omega
          · clear h2
            go_wp2_with fail
            refine (qSum_any (some (ad.add t)) k (db - t) T2 _ (by omega) HRD.out HYB.out).mono ?_
            rintro e wz ⟨rfl, rfl⟩
            generalize sumL T2 = c2' at *
            go_wp2
            go_roundw
            case rel => exact ⟨t + 1, by omega, by go_num, HBR.out⟩
            case measure => simp [intOf]; omega
        · go_wp2
          go_meet
          case rel => exact HBR.out
  case rest =>
  as_aux_lemma =>
  have hb := hcut
  replace HB := Lib.hid (HB.out.trans (hb.mono HB.out.size))
  replace HX := Lib.hid (own_below HX.out hb)
  replace HS2 := Lib.hid (own_below HS2.out hb)
  replace HW2 := Lib.hid (own_below HW2.out hb)
  replace HD2 := Lib.hid (own_below HD2.out hb)
  clear hb hcut
  obtain ⟨wD, rfl⟩ : ∃ wD, wD = wc := ⟨_, rfl⟩
  go_upto_region 48 with fail
  go_cut [390] from 500 to 500 (fun b wx => b = .bool false ∧ Below wD.heap.size wD wx)
  case first =>
    as_aux_lemma =>
    cases eo with
    | false =>
      go_wp2
      go_meet
      case rel => exact ⟨by first | rfl | simp, Below.refl _ _⟩
    | true =>
      obtain ⟨hsum, hdb⟩ := HDF.out rfl
      have HDB := Lib.hid hdb
      have HC2 := Lib.hid (qSum_any A7 D.length c7 D wD (by omega) (Reads.of_own HD2.out) HDB.out)
      rw [hsum] at HC2
      clear hsum hdb
      go_wp2_with (go_at_call 46; refine (HC2.out).mono ?_; rintro e wz ⟨rfl, rfl⟩)
      go_meet
      case rel => exact ⟨by first | rfl | simp, Below.refl _ _⟩
  case rest =>
  as_aux_lemma =>
  obtain ⟨rfl, hb⟩ := hcut
  replace HB := Lib.hid (HB.out.trans (hb.mono HB.out.size))
  replace HX := Lib.hid (own_below HX.out hb)
  replace HS2 := Lib.hid (own_below HS2.out hb)
  replace HW2 := Lib.hid (own_below HW2.out hb)
  clear hb
  obtain ⟨wE, rfl⟩ : ∃ wE, wE = wc := ⟨_, rfl⟩
  cases tb with
  | false =>
    go_wp2
    go_ret
    exact ⟨rfl, HB.out⟩
  | true =>
    have ht := HTB.out
    obtain ⟨⟨hn60, hx⟩, hc1, hc2⟩ := trafB_true.1 ht
    obtain ⟨hsum, hlen, hsb⟩ := sentR_facts ht
    have eS := HSR.out.symm.trans (sentR_yes ht)
    have eW := HWR.out.symm.trans (waitR_yes ht)
    have eC := HCR.out.symm.trans (clearR_yes ht)
    injection eS with eS _
    injection eW with eW _
    injection eC with eC _
    rw [← eC, ← eS] at hlen
    rw [← eS] at hsum hsb
    have HXB := Lib.hid hx; have HSB := Lib.hid hsb; have HSUM := Lib.hid hsum; have HTT := Lib.hid ht
    have HES := Lib.hid eS; have HEW := Lib.hid eW
    have hwl1 : W.length ≤ xs.length := by rw [eW]; simp
    have hwl2 : xs.length ≤ W.length := by rw [eW]; simp
    have hlen1 : (S.length : Int) ≤ (xs.length : Int) + hv := by omega
    have hlen2 : (xs.length : Int) + hv ≤ (S.length : Int) := by omega
    have hhv : 0 ≤ hv := by
      rw [eC]
      have hlo := lastOf_bd hc1 hx hn60
      exact Int.ediv_nonneg (by omega) (by omega)
    have HST := Lib.hid (Flow.start (cap := cap) hx hn60)
    clear ht hx hsum hsb eS eW eC hlen HTB HSR HWR HCR
    go_wp2_with fail
    refine (qSum_any A3 S.length c3 S _ (by omega) (Reads.of_own HS2.out) (fun x hx' => by have := HSB.out x hx'; omega)).mono ?_
    rintro e wz ⟨rfl, rfl⟩
    go_wp2_with fail
    refine (qSum_any B xs.length d xs _ (by omega) (Reads.of_own HX.out) (fun x hx' => by have := HXB.out x hx'; omega)).mono ?_
    rintro e wz ⟨rfl, rfl⟩
    rw [HSUM.out]
    generalize sumL xs = sx at *
    have hbe : ((S.length : Int) != (xs.length : Int) + hv) = false := by rw [bne_eq_false_iff_eq]; omega
    have hbw : ((W.length : Int) != (xs.length : Int)) = false := by rw [bne_eq_false_iff_eq]; omega
    go_wp2
    clear hbe hbw
    go_loopw [59, 416] (fun s i wr => ∃ k : Nat, ∃ q : Int, k ≤ S.length ∧ i = .int .i64 k ∧ s = .int .i64 q ∧ (Flow cap xs k q ∧ q ≤ 12000 + 200 * (k : Int)) ∧ Below wE.heap.size wE wr) (fun _ i _ => S.length - (intOf i).toNat)
    case atStart => exact ⟨0, 0, Nat.zero_le _, rfl, rfl, ⟨HST.out, by omega⟩, Below.refl _ _⟩
    case round =>
      obtain ⟨k, q, hk, rfl, rfl, ⟨hfl, hqb⟩, hb⟩ := hrel
      have HBR := Lib.hid hb; have HFL := Lib.hid hfl
      have hq0 := hfl.bd
      clear hb hfl HST
      by_cases hlt : k < S.length
      · obtain ⟨ad, u, rfl, hu, k0⟩ := (Reads.of_own (own_below HS2.out HBR.out)).at_ hlt
        have e0 : u = .int .i64 S[k] := by simp [ints, hlt] at hu; exact hu.symm
        subst e0
        clear hu
        have HES2 : Hid (S[k] = (sents cap 12000 0 xs)[k]'(by rw [← HES.out]; exact hlt)) := Lib.hid (by have h := HES.out; subst h; rfl)
        generalize S[k] = s at *
        by_cases hi : k < xs.length
        · obtain ⟨bd, u2, rfl, hu2, k1⟩ := (Reads.of_own (own_below HX.out HBR.out)).at_ hi
          have e1 : u2 = .int .i64 xs[k] := by simp [ints, hi] at hu2; exact hu2.symm
          subst e1
          obtain ⟨cd, u3, rfl, hu3, k2⟩ := (Reads.of_own (own_below HW2.out HBR.out)).at_ (show k < W.length by omega)
          have e2 : u3 = .int .i64 W[k] := by simp [ints, show k < W.length by omega] at hu3; exact hu3.symm
          subst e2
          have hxb := HXB.out _ (List.getElem_mem hi)
          obtain ⟨hs', hw', h1, h2, _, h4⟩ := HFL.out.come HXB.out hc1 hi
          rw [← HES2.out] at h1
          have h3 : W[k] = (waits cap 0 xs)[k] := by have h := HEW.out; subst h; rfl
          rw [← h3] at h2
          have HFN := Lib.hid h4
          clear hu2 hu3 h3 h4 HES2
          generalize xs[k] = x at *
          generalize W[k] = y at *
          rw [← h1] at h2 HFN
          have hs1 : s ≤ cap := by omega
          have hs2 : 0 ≤ s := by omega
          have hs3 : s ≤ q + x := by omega
          have hs4 : s < cap → q + x = s := by omega
          have HFN : Hid (Flow cap xs (k + 1) (q + x - s) ∧ q + x - s ≤ 12000 + 200 * ((k + 1 : Nat) : Int)) := Lib.hid ⟨HFN.out, by push_cast; omega⟩
          subst h2
          clear h1
          by_cases hp : s < q + x
          · have hs5 : ¬ s < cap := fun h => by have := hs4 h; omega
            clear hs4
            go_wp2
            go_roundw
            case rel => exact ⟨k + 1, q + x - s, by omega, by go_num, rfl, HFN.out, HBR.out⟩
            case measure => simp [intOf]; omega
          · clear hs4
            go_wp2
            go_roundw
            case rel => exact ⟨k + 1, q + x - s, by omega, by go_num, rfl, HFN.out, HBR.out⟩
            case measure => simp [intOf]; omega
        · obtain ⟨h1, h2, h3⟩ := HFL.out.clear hc1 (by omega) (by rw [← HES.out]; exact hlt)
          rw [← HES2.out] at h2
          rw [← h2] at h3
          have hs1 : s ≤ cap := by omega
          have hs2 : 0 ≤ s := by omega
          have hs3 : s ≤ q := by omega
          have hs4 : s < cap → q = s := by omega
          have HFN : Hid (Flow cap xs (k + 1) (q - s) ∧ q - s ≤ 12000 + 200 * ((k + 1 : Nat) : Int)) := Lib.hid ⟨h3, by push_cast; omega⟩
          clear h2 h3 HES2
          by_cases hp : s < q
          · have hs5 : ¬ s < cap := fun h => by have := hs4 h; omega
            clear hs4
            go_wp2
            go_roundw
            case rel => exact ⟨k + 1, q - s, by omega, by go_num, rfl, HFN.out, HBR.out⟩
            case measure => simp [intOf]; omega
          · clear hs4
            go_wp2
            go_roundw
            case rel => exact ⟨k + 1, q - s, by omega, by go_num, rfl, HFN.out, HBR.out⟩
            case measure => simp [intOf]; omega
      · have hq := HFL.out.end_ (by rw [← HES.out]; omega) (by omega)
        subst hq
        clear HFL hqb hq0
        have h4 := HE4.out
        by_cases h0 : (0 : Int) < (xs.length : Int)
        · simp only [decide_eq_true h0, Bool.true_and] at h4
          subst h4
          obtain ⟨b, hb, hm⟩ := mostR_yes HTT.out (by intro h'; rw [h'] at h0; simp at h0)
          have hm' := HMR.out.symm.trans hm
          injection hm' with hm1 hm2
          injection hm2 with hm2 _
          have hbW : b < W.length := by rw [HEW.out]; exact hb
          have h3 : W[b] = (waits cap 0 xs)[b] := by have h := HEW.out; subst h; rfl
          rw [← h3] at hm2
          obtain ⟨cd, u3, rfl, hu3, k2⟩ := (Reads.of_own (own_below HW2.out HBR.out)).at_ hbW
          have e2 : u3 = .int .i64 W[b] := by simp [ints, hbW] at hu3; exact hu3.symm
          subst e2
          clear hu3 h3 hm HMR
          generalize W[b] = y at *
          subst hm1 hm2
          go_wp2
          go_ret
          exact ⟨ret_bool (by first | rfl | simp), HB.out.trans (HBR.out.mono HB.out.size)⟩
        · simp only [decide_eq_false h0, Bool.true_and] at h4
          subst h4
          go_wp2
          go_ret
          exact ⟨ret_bool (by first | rfl | simp), HB.out.trans (HBR.out.mono HB.out.size)⟩

end Go.Proofs.Ytgdlaeibdpbgdaa
