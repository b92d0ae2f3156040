/- The law of payments: the walk. No conditions. -/
import Derived.Test.YtiofgoppgdgbaaaPaP
import Derived.Test.YtiofgoppgdgbaaaPaH
import Derived.Test.YtiofgoppgdgbaaaSame
import Derived.Test.YtiofgoppgdgbaaaBig
import Derived.Test.YtiofgoppgdgbaaaDrX
import Derived.Test.YtiofgoppgdgbaaaSh18
import Derived.Test.YtiofgoppgdgbaaaSh15
namespace Go.Proofs.Ytiofgoppgdgbaaa
set_option linter.unusedSimpArgs false
set_option linter.unusedVariables false
open Go.RowKit

theorem same_refl (l : List Int) : sameB l l = true := by simp [sameB]
theorem shareR_len30 (l : List S3) (c : Int) : (shareR l c).1.length ≤ 30 := shareR_len l c
theorem duty_nonneg {l : List S3} (hg : goodShifts l = true) (op : Int) : 0 ≤ (duty op l).1 ∧ (duty op l).1 ≤ 10080 := by
  have h1 := duty_bd (op := op) (good_week hg)
  have h2 := good_len hg
  omega
theorem sgnI_cases (a b : Int) : (sgnI a b = -1 ∧ a < b) ∨ (sgnI a b = 0 ∧ a = b) ∨ (sgnI a b = 1 ∧ b < a) := by
  unfold sgnI
  split
  · exact .inl ⟨rfl, by assumption⟩
  · split
    · exact .inr (.inr ⟨rfl, by assumption⟩)
    · exact .inr (.inl ⟨rfl, by omega⟩)
theorem cheapR_bd {a b c d a' b' c' d' : Int} {l : List S3} {ms : List Int} : -1 ≤ (cheapR a b c d a' b' c' d' l ms).1 ∧ (cheapR a b c d a' b' c' d' l ms).1 ≤ 1 := by
  unfold cheapR
  split
  · rcases sgnI_cases (billV a b c d l ms) (billV a' b' c' d' l ms) with h | h | h <;> simp only [h.1] <;> omega
  · simp

set_option maxHeartbeats 8000000 in
set_option maxRecDepth 100000 in
theorem law_FnPayments (w : World) {v0 v1 : Value} (h0 : IsBytes w v0) (h1 : IsBytes w v1) :
    Calls Try.prog 12 #[v0, v1] w fun e w' => e = .returned (.bool true) ∧ Below w.heap.size w w' := by
  obtain ⟨A0, n0, c0, l0, rfl, hnc0, hcm0, hr0, hb0⟩ := h0
  obtain ⟨AM, n1, cM, lM, rfl, hnc1, hcm1, hr1, hb1⟩ := h1
  have HR0 := Lib.hid hr0; have HR1 := Lib.hid hr1; have HL0 := Lib.hid hb0; have HL1 := Lib.hid hb1
  clear hr0 hr1 hb0 hb1
  have HB : Hid (Below w.heap.size w w) := Lib.hid (Below.refl _ _)
  cases hbg : bigB n0 n1 with
  | true =>
    have CB := big_any A0 n0 c0 AM n1 cM w (by omega) (by omega)
    rw [hbg] at CB
    go_enter Try.func12, Try.ntmps12
    go_wp2_with fail
    refine CB.mono ?_
    rintro e w' ⟨rfl, rfl⟩
    go_wp2
    go_ret
    exact ⟨rfl, Below.refl _ _⟩
  | false =>
    have CB := big_any A0 n0 c0 AM n1 cM w (by omega) (by omega)
    rw [hbg] at CB
    have HCB := Lib.hid CB
    obtain ⟨hs0, hs1⟩ := bigB_no hbg
    clear CB hbg
    go_enter Try.func12, Try.ntmps12
    go_wp2_with fail
    refine HCB.out.mono ?_
    rintro e w' ⟨rfl, rfl⟩
    go_wp2_with fail
    refine (drawShareByHours_any A0 n0 c0 l0 _ (by omega) HL0.out HR0.out).mono ?_
    rintro e wz ⟨B, m, out, ce, rfl, hlo, ho, hb⟩
    have HB := Lib.hid (HB.out.trans (hb.mono HB.out.size))
    have HO := Lib.hid ho
    clear ho hb
    have HSF := Lib.hid (shareR_facts (l := out) (cents := ce))
    have HSB := Lib.hid (shareR_bd (l := out) (cents := ce))
    have hsl := shareR_len30 out ce
    have CI := fun W (hW : Reads W 3 B out.length (rows3 out)) => implShareByHours_any B out.length m out ce W (by omega) hW (own_cap HO.out)
    have CS := fun W (hW : Reads W 3 B out.length (rows3 out)) => specShareByHours_any B out.length m out ce W (by omega) hW (own_cap HO.out)
    have HCI := Lib.hid CI; have HCS := Lib.hid CS
    clear CI CS
    generalize (shareR out ce).1 = S at *
    generalize (shareR out ce).2 = so at *
    go_wp2_with fail
    refine (HCI.out _ (Reads.of_own HO.out)).mono ?_
    rintro e wz ⟨A2, c2, rfl, ho, hb⟩
    have HB := Lib.hid (HB.out.trans (hb.mono HB.out.size))
    have HO := Lib.hid (own_below HO.out hb)
    have HS1 := Lib.hid ho
    clear ho hb
    go_wp2_with fail
    refine (HCS.out _ (Reads.of_own HO.out)).mono ?_
    rintro e wz ⟨A3, c3, rfl, ho, hb⟩
    have HB := Lib.hid (HB.out.trans (hb.mono HB.out.size))
    have HO := Lib.hid (own_below HO.out hb)
    have HS1 := Lib.hid (own_below HS1.out hb)
    have HS2 := Lib.hid ho
    clear ho hb
    have CE := sameInts_any A2 S.length c2 S A3 S.length c3 S _ (by omega) (by omega) (Reads.of_own HS1.out) (Reads.of_own HS2.out)
    rw [same_refl] at CE
    have HCE := Lib.hid CE
    clear CE
    go_wp2_with fail
    refine (HCE.out).mono ?_
    rintro e wz ⟨rfl, hq⟩
    have hb := below_of_quiet (B := w.heap.size) hq
    have HB := Lib.hid (HB.out.trans hb); have HO := Lib.hid (own_below HO.out (below_of_quiet hq)); have HS2 := Lib.hid (own_below HS2.out (below_of_quiet hq))
    clear hb hq HCE HS1 HCI HCS
    go_upto_if 82 with fail
    obtain ⟨w1, rfl⟩ : ∃ w1, w1 = wz := ⟨_, rfl⟩
    go_cut [] from 500 to 500 (fun wx => Below w1.heap.size w1 wx)
    case first =>
      as_aux_lemma =>
      cases so with
      | false =>
        go_wp2
        go_meet
        case rel => exact Below.refl _ _
      | true =>
        obtain ⟨hg, hc0, hc1, hl30, hsum, hnone⟩ := HSF.out rfl
        have HNONE := Lib.hid hnone
        have HL30 := Lib.hid hl30
        have CP := pSum_any A3 S.length c3 S _ (by omega) (Reads.of_own HS2.out) HSB.out
        rw [hsum] at CP
        have HCP := Lib.hid CP
        have HG := Lib.hid hg
        clear CP hsum hnone hg
        have hlne : ((S.length : Int) != 30) = false := by rw [hl30]; rfl
        clear hl30
        go_wp2_with fail
        refine (HCP.out).mono ?_
        rintro e w' ⟨rfl, rfl⟩
        go_wp2
        clear hlne
        go_loopw [94] (fun i wr => ∃ k : Nat, k ≤ S.length ∧ i = .int .i64 k ∧ Below w1.heap.size w1 wr) (fun i _ => S.length - (intOf i).toNat)
        case atStart => exact ⟨0, Nat.zero_le _, rfl, Below.refl _ _⟩
        case round =>
          obtain ⟨k, hk, rfl, hb⟩ := hrel
          have HBR := Lib.hid hb
          clear hb
          by_cases hlt : k < S.length
          · have hkS : k < S.length := hlt
            have hk30 : k < 30 := by have := HL30.out; omega
            obtain ⟨ad, u, rfl, hu, k0⟩ := (Reads.of_own (own_below HS2.out HBR.out)).at_ hlt
            have e0 : u = .int .i64 S[k] := by simp [ints, hkS] at hu; exact hu.symm
            subst e0
            have HN : Hid ((duty ((k : Int) + 1) out).1 = 0 → S[k] = 0) := Lib.hid (fun h0 => by
              have h1 := HNONE.out k hk30 h0
              rw [List.getElem?_eq_getElem hkS] at h1
              injection h1)
            have hdr : dutyR out ((k : Int) + 1) = ((duty ((k : Int) + 1) out).1, (duty ((k : Int) + 1) out).2, true) := by
              unfold dutyR
              rw [if_pos ⟨HG.out, by rw [inB_true]; omega⟩]
            have CI := fun W (hW : Reads W 3 B out.length (rows3 out)) => dutyHours_any B out.length m out ((k : Int) + 1) W (by omega) (own_cap HO.out) hW
            have CS := fun W (hW : Reads W 3 B out.length (rows3 out)) => specDutyHours_any B out.length m out ((k : Int) + 1) W (by omega) (own_cap HO.out) hW
            rw [hdr] at CI CS
            have HCI := Lib.hid CI; have HCS := Lib.hid CS
            clear CI CS hdr hu
            have hdn := duty_nonneg HG.out ((k : Int) + 1)
            generalize (duty ((k : Int) + 1) out).1 = H at *
            generalize (duty ((k : Int) + 1) out).2 = D at *
            generalize S[k] = nv at *
            have k0' := Lib.hid k0
            go_wp2_with fail
            refine (HCI.out _ ((Reads.of_own HO.out).below HBR.out)).mono ?_
            rintro e wi ⟨rfl, hb⟩
            have HBR := Lib.hid (HBR.out.trans (hb.mono HBR.out.size))
            clear hb k0
            go_wp2_with fail
            refine (HCS.out _ ((Reads.of_own HO.out).below HBR.out)).mono ?_
            rintro e wj ⟨rfl, hb⟩
            have HBR := Lib.hid (HBR.out.trans (hb.mono HBR.out.size))
            clear hb
            by_cases hH : H = 0
            · have hn0 := HN.out hH
              subst hH
              subst hn0
              go_wp2
              go_roundw
              case rel => exact ⟨k + 1, by omega, by go_num, HBR.out⟩
              case measure => simp [intOf]; omega
            · have hH' : (H == 0) = false := by rw [beq_eq_false_iff_ne]; exact hH
              go_wp2
              go_roundw
              case rel => exact ⟨k + 1, by omega, by go_num, HBR.out⟩
              case measure => simp [intOf]; omega
          · go_wp2
            go_meet
            case rel => exact HBR.out
    case rest =>
      as_aux_lemma =>
      have hb := hcut
      have HB := Lib.hid (HB.out.trans (hb.mono HB.out.size))
      clear hcut hb HO HS2 HSF HSB
      go_wp2_with fail
      refine (drawHourFor_any AM n1 cM lM _ (by omega) HL1.out (HR1.out.below HB.out)).mono ?_
      rintro e wz ⟨pa, pb, pc, pd, B2, m2, out2, op, ms, wa, rfl, hlo, ho, hb⟩
      have HB := Lib.hid (HB.out.trans (hb.mono HB.out.size))
      have HO := Lib.hid ho
      clear ho hb
      obtain ⟨wP, rfl⟩ : ∃ wP, wP = wz := ⟨_, rfl⟩
      have HOL := Lib.hid (own_lt HO.out)
      have HWA : Hid (Below wP.heap.size wP (wP.alloc (.cells #[.int .i64 pa, .int .i64 pb, .int .i64 pc, .int .i64 pd] 25))) := Lib.hid ((Below.refl _ _).alloc (Nat.le_refl _) _)
      have HBX := Lib.hid (Box4.new wP 25 (.int .i64 pa) (.int .i64 pb) (.int .i64 pc) (.int .i64 pd))
      have HBQ := HB
      have HB := Lib.hid (HB.out.trans (HWA.out.mono HB.out.size))
      have HBP := HWA
      have HO := Lib.hid (own_below HO.out HWA.out)
      have HHF := Lib.hid (hourR_facts (a := pa) (b := pb) (c := pc) (d := pd) (l := out2) (op := op) (m := ms) (wanted := wa))
      have CI := fun W (hW : Reads W 3 B2 out2.length (rows3 out2)) => implHourFor_any pa pb pc pd B2 out2.length m2 out2 op ms wa W (by omega) hW (own_cap HO.out)
      have CS := fun W (hW : Reads W 3 B2 out2.length (rows3 out2)) => specHourFor_any pa pb pc pd B2 out2.length m2 out2 op ms wa W (by omega) hW (own_cap HO.out)
      have HCI := Lib.hid CI; have HCS := Lib.hid CS
      clear CI CS
      generalize (hourR pa pb pc pd out2 op ms wa).1 = hv at *
      generalize (hourR pa pb pc pd out2 op ms wa).2 = ho at *
      obtain ⟨k0, k1, k2, k3⟩ := HBX.out.cells
      go_wp2_with fail
      clear k0 k1 k2 k3
      refine (HCI.out _ (Reads.of_own HO.out)).mono ?_
      rintro e wz ⟨rfl, hb⟩
      have HB := Lib.hid (HB.out.trans (hb.mono HB.out.size))
      have HBP := Lib.hid (HBP.out.trans (hb.mono HBP.out.size))
      have HO := Lib.hid (own_below HO.out hb)
      have HBX := Lib.hid (box4_bel HBX.out hb)
      clear hb
      obtain ⟨k0, k1, k2, k3⟩ := HBX.out.cells
      go_wp2_with fail
      clear k0 k1 k2 k3
      refine (HCS.out _ (Reads.of_own HO.out)).mono ?_
      rintro e wz ⟨rfl, hb⟩
      have HB := Lib.hid (HB.out.trans (hb.mono HB.out.size))
      have HBP := Lib.hid (HBP.out.trans (hb.mono HBP.out.size))
      have HO := Lib.hid (own_below HO.out hb)
      have HBX := Lib.hid (box4_bel HBX.out hb)
      clear hb
      clear HCI HCS
      go_upto_if 169 with fail
      go_cut [] from 500 to 500 (fun wx => Below wP.heap.size wP wx)
      case first =>
        as_aux_lemma =>
        cases ho with
        | false =>
          go_wp2
          go_meet
          case rel => exact HBP.out
        | true =>
          obtain ⟨hask, hh0, hh1, hwg, hless⟩ := HHF.out rfl
          have CW := fun W (hW : Reads W 3 B2 out2.length (rows3 out2)) => implWageOf_any hv pb pc pd B2 out2.length m2 out2 op ms W (by omega) hW (own_cap HO.out)
          rw [wageR_hour hask hh0 hh1] at CW
          have HCW := Lib.hid CW
          have HLESS := Lib.hid hless
          have HASK := Lib.hid hask
          clear CW hless hask
          generalize wage hv pb pc pd out2 op ms = wg at *
          obtain ⟨wy, hwy⟩ : ∃ wy, wy = wz := ⟨_, rfl⟩
          obtain ⟨k0, k1, k2, k3⟩ := HBX.out.cells
          obtain ⟨f0, f1, f2, f3⟩ := HBX.out.frozen
          have HBX := Lib.hid (box4_put0 (u := .int .i64 (hv)) HBX.out)
          have hbs : Below wP.heap.size wz (wz.setCell ⟨wP.heap.size, 0, none⟩ (.int .i64 (hv))) := (Below.refl _ _).setCell (p := ⟨wP.heap.size, 0, none⟩) (Nat.le_refl _) _
          have HBP := Lib.hid (HBP.out.trans hbs)
          have HO := Lib.hid (row_same (w' := wz.setCell ⟨wP.heap.size, 0, none⟩ (.int .i64 (hv))) HO.out fun q hq => hbs.block q (HOL.out q hq))
          obtain ⟨j0, j1, j2, j3⟩ := HBX.out.cells
          go_wp2_with fail
          clear k0 k1 k2 k3 f0 f1 f2 f3 j0 j1 j2 j3
          refine (HCW.out _ (Reads.of_own HO.out)).mono ?_
          rintro e wz ⟨rfl, hb⟩
          have HBP := Lib.hid (HBP.out.trans (hb.mono HBP.out.size)); have HO := Lib.hid (own_below HO.out hb); have HBX := Lib.hid (box4_bel HBX.out hb)
          clear hb hwy
          by_cases hpos : 0 < hv
          · have hless := HLESS.out hpos
            have CW := fun W (hW : Reads W 3 B2 out2.length (rows3 out2)) => implWageOf_any (hv - 1) pb pc pd B2 out2.length m2 out2 op ms W (by omega) hW (own_cap HO.out)
            rw [wageR_hour HASK.out (show 0 ≤ hv - 1 by omega) (by omega)] at CW
            have HCW := Lib.hid CW
            clear CW
            generalize wage (hv - 1) pb pc pd out2 op ms = wl at *
            obtain ⟨k0, k1, k2, k3⟩ := HBX.out.cells
            obtain ⟨f0, f1, f2, f3⟩ := HBX.out.frozen
            have HBX := Lib.hid (box4_put0 (u := .int .i64 (hv - 1)) HBX.out)
            have hbs : Below wP.heap.size wz (wz.setCell ⟨wP.heap.size, 0, none⟩ (.int .i64 (hv - 1))) := (Below.refl _ _).setCell (p := ⟨wP.heap.size, 0, none⟩) (Nat.le_refl _) _
            have HBP := Lib.hid (HBP.out.trans hbs)
            have HO := Lib.hid (row_same (w' := wz.setCell ⟨wP.heap.size, 0, none⟩ (.int .i64 (hv - 1))) HO.out fun q hq => hbs.block q (HOL.out q hq))
            obtain ⟨j0, j1, j2, j3⟩ := HBX.out.cells
            go_wp2_with fail
            clear k0 k1 k2 k3 f0 f1 f2 f3 j0 j1 j2 j3
            refine (HCW.out _ (Reads.of_own HO.out)).mono ?_
            rintro e wz ⟨rfl, hb⟩
            have HBP := Lib.hid (HBP.out.trans (hb.mono HBP.out.size))
            clear hb
            go_wp2
            go_meet
            case rel => exact HBP.out
          · go_wp2
            go_meet
            case rel => exact HBP.out
      case rest =>
        as_aux_lemma =>
        have hb := hcut
        have HB := Lib.hid (HBQ.out.trans (hb.mono HBQ.out.size))
        clear hcut hb HO HBX HBP HHF HBQ HOL
        go_wp2_with fail
        refine (drawCheaperPay_any AM n1 cM lM _ (by omega) HL1.out (HR1.out.below HB.out)).mono ?_
        rintro e wz ⟨pa, pb, pc, pd, qa, qb, qc, qd, B3, m3, out3, E3, e3, ms3, rfl, hlo3, hlm3, ho, hom, hb⟩
        have HB := Lib.hid (HB.out.trans (hb.mono HB.out.size))
        have HO := Lib.hid ho; have HM := Lib.hid hom
        clear ho hom hb
        obtain ⟨wR, rfl⟩ : ∃ wR, wR = wz := ⟨_, rfl⟩
        have HW1 : Hid (Below wR.heap.size wR (wR.alloc (.cells #[.int .i64 pa, .int .i64 pb, .int .i64 pc, .int .i64 pd] 25))) := Lib.hid ((Below.refl _ _).alloc (Nat.le_refl _) _)
        have HW2 : Hid (Below (wR.alloc (.cells #[.int .i64 pa, .int .i64 pb, .int .i64 pc, .int .i64 pd] 25)).heap.size (wR.alloc (.cells #[.int .i64 pa, .int .i64 pb, .int .i64 pc, .int .i64 pd] 25)) ((wR.alloc (.cells #[.int .i64 pa, .int .i64 pb, .int .i64 pc, .int .i64 pd] 25)).alloc (.cells #[.int .i64 qa, .int .i64 qb, .int .i64 qc, .int .i64 qd] 25))) := Lib.hid ((Below.refl _ _).alloc (Nat.le_refl _) _)
        have HE1 : Hid ((wR.alloc (.cells #[.int .i64 pa, .int .i64 pb, .int .i64 pc, .int .i64 pd] 25)).heap.size = wR.heap.size + 1) := Lib.hid (by simp)
        have HBX := Lib.hid (box4_bel (Box4.new wR 25 (.int .i64 pa) (.int .i64 pb) (.int .i64 pc) (.int .i64 pd)) HW2.out)
        have hby := Box4.new (wR.alloc (.cells #[.int .i64 pa, .int .i64 pb, .int .i64 pc, .int .i64 pd] 25)) 25 (.int .i64 qa) (.int .i64 qb) (.int .i64 qc) (.int .i64 qd)
        rw [HE1.out] at hby
        have HBY := Lib.hid hby
        have HB := Lib.hid ((HB.out.trans (HW1.out.mono HB.out.size)).trans (HW2.out.mono (by have := HB.out.size; have := HE1.out; omega)))
        have HO := Lib.hid (own_below (own_below HO.out HW1.out) HW2.out)
        have HM := Lib.hid (own_below (own_below HM.out HW1.out) HW2.out)
        have hsb := cheapR_bd (a := pa) (b := pb) (c := pc) (d := pd) (a' := qa) (b' := qb) (c' := qc) (d' := qd) (l := out3) (ms := ms3)
        have HCB := Lib.hid (cheapR_bills (a := pa) (b := pb) (c := pc) (d := pd) (a' := qa) (b' := qb) (c' := qc) (d' := qd) (l := out3) (ms := ms3))
        have CI := fun W (hW : Reads W 3 B3 out3.length (rows3 out3)) (hM : Reads W 1 E3 ms3.length (ints ms3)) => implCheaper_any pa pb pc pd qa qb qc qd B3 out3.length m3 out3 E3 ms3.length e3 ms3 W (by omega) hW (own_cap HO.out) (by omega) hM (own_cap HM.out)
        have CS := fun W (hW : Reads W 3 B3 out3.length (rows3 out3)) (hM : Reads W 1 E3 ms3.length (ints ms3)) => specCheaper_any pa pb pc pd qa qb qc qd B3 out3.length m3 out3 E3 ms3.length e3 ms3 W (by omega) hW (own_cap HO.out) (by omega) hM (own_cap HM.out)
        have CT := fun W (hW : Reads W 3 B3 out3.length (rows3 out3)) (hM : Reads W 1 E3 ms3.length (ints ms3)) => implCheaper_any qa qb qc qd pa pb pc pd B3 out3.length m3 out3 E3 ms3.length e3 ms3 W (by omega) hW (own_cap HO.out) (by omega) hM (own_cap HM.out)
        have hsw := cheapR_swap (a := pa) (b := pb) (c := pc) (d := pd) (a' := qa) (b' := qb) (c' := qc) (d' := qd) (l := out3) (ms := ms3)
        rw [hsw.1, hsw.2] at CT
        have HCI := Lib.hid CI; have HCS := Lib.hid CS; have HCT := Lib.hid CT
        clear CI CS CT hsw hby
        generalize (cheapR pa pb pc pd qa qb qc qd out3 ms3).1 = sg at *
        generalize (cheapR pa pb pc pd qa qb qc qd out3 ms3).2 = co at *
        skip
        go_wp2_with fail
        skip
        refine (HCI.out _ (Reads.of_own HO.out) (Reads.of_own HM.out)).mono ?_
        rintro e wz ⟨rfl, hb⟩
        have HB := Lib.hid (HB.out.trans (hb.mono HB.out.size))
        have HO := Lib.hid (own_below HO.out hb)
        have HM := Lib.hid (own_below HM.out hb)
        have HBX := Lib.hid (box4_bel HBX.out hb)
        have HBY := Lib.hid (box4_bel HBY.out hb)
        clear hb
        obtain ⟨k0, k1, k2, k3⟩ := HBX.out.cells
        obtain ⟨j0, j1, j2, j3⟩ := HBY.out.cells
        go_wp2_with fail
        clear k0 k1 k2 k3 j0 j1 j2 j3
        refine (HCS.out _ (Reads.of_own HO.out) (Reads.of_own HM.out)).mono ?_
        rintro e wz ⟨rfl, hb⟩
        have HB := Lib.hid (HB.out.trans (hb.mono HB.out.size))
        have HO := Lib.hid (own_below HO.out hb)
        have HM := Lib.hid (own_below HM.out hb)
        have HBX := Lib.hid (box4_bel HBX.out hb)
        have HBY := Lib.hid (box4_bel HBY.out hb)
        clear hb
        obtain ⟨k0, k1, k2, k3⟩ := HBX.out.cells
        obtain ⟨j0, j1, j2, j3⟩ := HBY.out.cells
        go_wp2_with fail
        clear k0 k1 k2 k3 j0 j1 j2 j3
        refine (HCT.out _ (Reads.of_own HO.out) (Reads.of_own HM.out)).mono ?_
        rintro e wz ⟨rfl, hb⟩
        have HB := Lib.hid (HB.out.trans (hb.mono HB.out.size))
        have HO := Lib.hid (own_below HO.out hb)
        have HM := Lib.hid (own_below HM.out hb)
        have HBX := Lib.hid (box4_bel HBX.out hb)
        have HBY := Lib.hid (box4_bel HBY.out hb)
        clear hb
        clear HCI HCS HCT
        obtain ⟨k0, k1, k2, k3⟩ := HBX.out.cells
        obtain ⟨j0, j1, j2, j3⟩ := HBY.out.cells
        go_wp2_with fail
        clear k0 k1 k2 k3 j0 j1 j2 j3
        refine (drawNightExtra_any AM n1 cM lM _ (by omega) HL1.out (HR1.out.below HB.out)).mono ?_
        rintro e wz ⟨na, nb, nc, nd, B4, m4, out4, op4, rfl, _, _, hlo4, ho, hb⟩
        have HB := Lib.hid (HB.out.trans (hb.mono HB.out.size)); have HO := Lib.hid (own_below HO.out hb); have HM := Lib.hid (own_below HM.out hb); have HBX := Lib.hid (box4_bel HBX.out hb); have HBY := Lib.hid (box4_bel HBY.out hb)
        have HN := Lib.hid ho
        clear ho hb
        obtain ⟨wS, rfl⟩ : ∃ wS, wS = wz := ⟨_, rfl⟩
        have HW3 : Hid (Below wS.heap.size wS (wS.alloc (.cells #[.int .i64 na, .int .i64 nb, .int .i64 nc, .int .i64 nd] 25))) := Lib.hid ((Below.refl _ _).alloc (Nat.le_refl _) _)
        have HBN := Lib.hid (Box4.new wS 25 (.int .i64 na) (.int .i64 nb) (.int .i64 nc) (.int .i64 nd))
        have HB := Lib.hid (HB.out.trans (HW3.out.mono HB.out.size)); have HO := Lib.hid (own_below HO.out HW3.out); have HM := Lib.hid (own_below HM.out HW3.out); have HBX := Lib.hid (box4_bel HBX.out HW3.out); have HBY := Lib.hid (box4_bel HBY.out HW3.out); have HN := Lib.hid (own_below HN.out HW3.out)
        have CI := fun W (hW : Reads W 3 B4 out4.length (rows3 out4)) => implNightExtra_any na nb nc nd B4 out4.length m4 out4 op4 W (by omega) hW (own_cap HN.out)
        have CS := fun W (hW : Reads W 3 B4 out4.length (rows3 out4)) => specNightExtra_any na nb nc nd B4 out4.length m4 out4 op4 W (by omega) hW (own_cap HN.out)
        have HCI := Lib.hid CI; have HCS := Lib.hid CS
        clear CI CS
        generalize (nightR na nb nc nd out4 op4).1 = nv at *
        generalize (nightR na nb nc nd out4 op4).2 = no at *
        skip
        go_wp2_with fail
        skip
        refine (HCI.out _ (Reads.of_own HN.out)).mono ?_
        rintro e wz ⟨rfl, hb⟩
        have HB := Lib.hid (HB.out.trans (hb.mono HB.out.size))
        have HO := Lib.hid (own_below HO.out hb)
        have HM := Lib.hid (own_below HM.out hb)
        have HN := Lib.hid (own_below HN.out hb)
        have HBX := Lib.hid (box4_bel HBX.out hb)
        have HBY := Lib.hid (box4_bel HBY.out hb)
        have HBN := Lib.hid (box4_bel HBN.out hb)
        clear hb
        obtain ⟨k0, k1, k2, k3⟩ := HBN.out.cells
        go_wp2_with fail
        clear k0 k1 k2 k3
        refine (HCS.out _ (Reads.of_own HN.out)).mono ?_
        rintro e wz ⟨rfl, hb⟩
        have HB := Lib.hid (HB.out.trans (hb.mono HB.out.size))
        have HO := Lib.hid (own_below HO.out hb)
        have HM := Lib.hid (own_below HM.out hb)
        have HBX := Lib.hid (box4_bel HBX.out hb)
        have HBY := Lib.hid (box4_bel HBY.out hb)
        clear hb
        clear HCI HCS HN HBN
        cases co with
        | false =>
          go_wp2
          go_ret
          exact ⟨rfl, HB.out⟩
        | true =>
          obtain ⟨e1, e2, e3'⟩ := HCB.out rfl
          have C1 := fun W (hW : Reads W 3 B3 out3.length (rows3 out3)) (hM : Reads W 1 E3 ms3.length (ints ms3)) => implWageBill_any pa pb pc pd B3 out3.length m3 out3 E3 ms3.length e3 ms3 W (by omega) hW (own_cap HO.out) (by omega) hM (own_cap HM.out)
          have C2 := fun W (hW : Reads W 3 B3 out3.length (rows3 out3)) (hM : Reads W 1 E3 ms3.length (ints ms3)) => implWageBill_any qa qb qc qd B3 out3.length m3 out3 E3 ms3.length e3 ms3 W (by omega) hW (own_cap HO.out) (by omega) hM (own_cap HM.out)
          rw [e1] at C1
          rw [e2] at C2
          have HC1 := Lib.hid C1; have HC2 := Lib.hid C2; have HE3 := Lib.hid e3'
          clear C1 C2 e1 e2 e3' HCB
          generalize billV pa pb pc pd out3 ms3 = X at *
          generalize billV qa qb qc qd out3 ms3 = Y at *
          obtain ⟨k0, k1, k2, k3⟩ := HBX.out.cells
          obtain ⟨j0, j1, j2, j3⟩ := HBY.out.cells
          go_wp2_with fail
          clear k0 k1 k2 k3 j0 j1 j2 j3
          refine (HC1.out _ (Reads.of_own HO.out) (Reads.of_own HM.out)).mono ?_
          rintro e wz ⟨rfl, hb⟩
          have HB := Lib.hid (HB.out.trans (hb.mono HB.out.size))
          have HO := Lib.hid (own_below HO.out hb)
          have HM := Lib.hid (own_below HM.out hb)
          have HBX := Lib.hid (box4_bel HBX.out hb)
          have HBY := Lib.hid (box4_bel HBY.out hb)
          clear hb
          obtain ⟨k0, k1, k2, k3⟩ := HBX.out.cells
          obtain ⟨j0, j1, j2, j3⟩ := HBY.out.cells
          go_wp2_with fail
          clear k0 k1 k2 k3 j0 j1 j2 j3
          refine (HC2.out _ (Reads.of_own HO.out) (Reads.of_own HM.out)).mono ?_
          rintro e wz ⟨rfl, hb⟩
          have HB := Lib.hid (HB.out.trans (hb.mono HB.out.size))
          have HO := Lib.hid (own_below HO.out hb)
          have HM := Lib.hid (own_below HM.out hb)
          have HBX := Lib.hid (box4_bel HBX.out hb)
          have HBY := Lib.hid (box4_bel HBY.out hb)
          clear hb
          have h3 := HE3.out
          rcases sgnI_cases X Y with ⟨h1, h2⟩ | ⟨h1, h2⟩ | ⟨h1, h2⟩
          · rw [h1] at h3
            subst h3
            have h4 : ¬ Y < X := by omega
            clear h1
            go_wp2
            go_ret
            exact ⟨ret_bool (by simp [h2, h4]), HB.out⟩
          · rw [h1] at h3
            subst h3
            subst h2
            clear h1
            go_wp2
            go_ret
            exact ⟨ret_bool (by simp), HB.out⟩
          · rw [h1] at h3
            subst h3
            have h4 : ¬ X < Y := by omega
            clear h1
            go_wp2
            go_ret
            exact ⟨ret_bool (by simp [h2, h4]), HB.out⟩

end Go.Proofs.Ytiofgoppgdgbaaa
