/- The law of wages: the walk. No conditions but on the library's table. -/
import Derived.Test.YtiofgoppgdgbaaaDoorWgP
import Derived.Test.YtiofgoppgdgbaaaDoorPaH
import Derived.Test.YtiofgoppgdgbaaaDoorBig
import Derived.Test.YtiofgoppgdgbaaaDoorDrV
import Derived.Test.YtiofgoppgdgbaaaDoorBel
namespace Go.Proofs.YtiofgoppgdgbaaaDoor
set_option linter.unusedSimpArgs false
set_option linter.unusedVariables false
open Go.RowKit


set_option maxHeartbeats 8000000 in
set_option maxRecDepth 100000 in
theorem law_FnWages (w : World) {v0 v1 : Value} (h0 : IsBytes w v0) (h1 : IsBytes w v1) (hT : TabP w) :
    Calls Tryd.prog 4 #[v0, v1] w fun e w' => e = .returned (.bool true) ∧ Below w.heap.size w w' := by
  have HTB : Hid (∀ W, Below w.heap.size w W → TabP W) := Lib.hid (fun W hW => hT.below hW (Nat.le_refl _))
  obtain ⟨A0, n0, c0, l0, rfl, hnc0, hcm0, hr0, hb0⟩ := h0
  obtain ⟨AM, n1, cM, lM, rfl, hnc1, hcm1, hr1, hb1⟩ := h1
  have HR0 := Lib.hid hr0; have HR1 := Lib.hid hr1; have HL0 := Lib.hid hb0; have HL1 := Lib.hid hb1
  clear hr0 hr1 hb0 hb1 hT
  have HB : Hid (Below w.heap.size w w) := Lib.hid (Below.refl _ _)
  cases hbg : bigB n0 n1 with
  | true =>
    have CB := big_any A0 n0 c0 AM n1 cM w (by omega) (by omega)
    rw [hbg] at CB
    go_enter Tryd.func4, Tryd.ntmps4
    go_wp2_with fail
    refine CB.mono ?_
    rintro e w' ⟨rfl, rfl⟩
    go_wp2
    go_ret
    exact ⟨rfl, Below.refl _ _⟩
  | false =>
    have CB := big_any A0 n0 c0 AM n1 cM w (by omega) (by omega)
    rw [hbg] at CB
    have HCB := Lib.hid CB
    obtain ⟨hs0, hs1⟩ := bigB_no hbg
    clear CB hbg
    go_enter Tryd.func4, Tryd.ntmps4
    go_wp2_with fail
    refine HCB.out.mono ?_
    rintro e w' ⟨rfl, rfl⟩
    go_wp2_with fail
    refine (drawWageOf_any A0 n0 c0 l0 _ (by omega) HL0.out HR0.out).mono ?_
    rintro e wz ⟨pa, pb, pc, pd, B, m, out, op, ms, rfl, _, hop, hms, hlo, ho, hb⟩
    have HB := Lib.hid (HB.out.trans (hb.mono HB.out.size))
    have HO := Lib.hid ho
    clear ho hb
    obtain ⟨wP, rfl⟩ : ∃ wP, wP = wz := ⟨_, rfl⟩
    have HWA : Hid (Below wP.heap.size wP (wP.alloc (.cells #[.int .i64 pa, .int .i64 pb, .int .i64 pc, .int .i64 pd] 29))) := Lib.hid ((Below.refl _ _).alloc (Nat.le_refl _) _)
    have HBX := Lib.hid (Box4.new wP 29 (.int .i64 pa) (.int .i64 pb) (.int .i64 pc) (.int .i64 pd))
    have HB := Lib.hid (HB.out.trans (HWA.out.mono HB.out.size))
    have HO := Lib.hid (own_below HO.out HWA.out)
    have HWY := Lib.hid (wageR_ok (a := pa) (b := pb) (c := pc) (d := pd) (l := out) (op := op) (m := ms))
    have HWN := Lib.hid (wageR_no (a := pa) (b := pb) (c := pc) (d := pd) (l := out) (op := op) (m := ms))
    have HPY := Lib.hid (perHour_yes (a := pa) (b := pb) (c := pc) (d := pd) (l := out) (op := op) (m := ms))
    have HPN := Lib.hid (perHour_no (a := pa) (b := pb) (c := pc) (d := pd) (l := out) (op := op) (m := ms))
    have HPF := Lib.hid (perHour_false (a := pa) (b := pb) (c := pc) (d := pd) (l := out) (op := op) (m := ms))
    have I1 := fun W (hW : Reads W 3 B out.length (rows3 out)) => implWageOf_any pa pb pc pd B out.length m out op ms W (by omega) hW (own_cap HO.out)
    have I2 := fun W (hW : Reads W 3 B out.length (rows3 out)) => specWageOf_any pa pb pc pd B out.length m out op ms W (by omega) hW (own_cap HO.out)
    have I3 := fun W (hW : Reads W 3 B out.length (rows3 out)) => implWagePerHour_any pa pb pc pd B out.length m out op ms W (by omega) hW (own_cap HO.out)
    have I4 := fun W (hW : Reads W 3 B out.length (rows3 out)) => specWagePerHour_any pa pb pc pd B out.length m out op ms W (by omega) hW (own_cap HO.out)
    have HI1 := Lib.hid I1; have HI2 := Lib.hid I2; have HI3 := Lib.hid I3; have HI4 := Lib.hid I4
    clear I1 I2 I3 I4
    generalize (wageR pa pb pc pd out op ms).1 = wv at *
    generalize (wageR pa pb pc pd out op ms).2 = wo at *
    generalize (perHourR pa pb pc pd out op ms).1 = hv at *
    generalize (perHourR pa pb pc pd out op ms).2.1 = hb' at *
    generalize (perHourR pa pb pc pd out op ms).2.2 = po at *
    skip
    go_wp2_with fail
    skip
    refine (HI1.out _ (Reads.of_own HO.out)).mono ?_
    rintro e wz ⟨rfl, hb⟩
    have HB := Lib.hid (HB.out.trans (hb.mono HB.out.size))
    have HO := Lib.hid (own_below HO.out hb)
    have HBX := Lib.hid (box4_bel HBX.out hb)
    clear hb
    obtain ⟨k0, k1, k2, k3⟩ := HBX.out.cells
    go_wp2_with fail
    clear k0 k1 k2 k3
    refine (HI2.out _ (Reads.of_own HO.out)).mono ?_
    rintro e wz ⟨rfl, hb⟩
    have HB := Lib.hid (HB.out.trans (hb.mono HB.out.size))
    have HO := Lib.hid (own_below HO.out hb)
    have HBX := Lib.hid (box4_bel HBX.out hb)
    clear hb
    obtain ⟨k0, k1, k2, k3⟩ := HBX.out.cells
    go_wp2_with fail
    clear k0 k1 k2 k3
    refine (HI3.out _ (Reads.of_own HO.out)).mono ?_
    rintro e wz ⟨rfl, hb⟩
    have HB := Lib.hid (HB.out.trans (hb.mono HB.out.size))
    have HO := Lib.hid (own_below HO.out hb)
    have HBX := Lib.hid (box4_bel HBX.out hb)
    clear hb
    obtain ⟨k0, k1, k2, k3⟩ := HBX.out.cells
    go_wp2_with fail
    clear k0 k1 k2 k3
    refine (HI4.out _ (Reads.of_own HO.out)).mono ?_
    rintro e wz ⟨rfl, hb⟩
    have HB := Lib.hid (HB.out.trans (hb.mono HB.out.size))
    have HO := Lib.hid (own_below HO.out hb)
    have HBX := Lib.hid (box4_bel HBX.out hb)
    clear hb
    clear HI1 HI2 HI3 HI4
    cases wo with
    | false =>
      obtain rfl := HPF.out (HWN.out rfl)
      obtain ⟨k0, k1, k2, k3⟩ := HBX.out.cells
      have X0 : ∀ V : InB wz, V.1.cell? ⟨wP.heap.size, 0, none⟩ = some (.int .i64 pa) := fun V => V.cell k0
      have X1 : ∀ V : InB wz, V.1.cell? ⟨wP.heap.size, 1, none⟩ = some (.int .i64 pb) := fun V => V.cell k1
      have X2 : ∀ V : InB wz, V.1.cell? ⟨wP.heap.size, 2, none⟩ = some (.int .i64 pc) := fun V => V.cell k2
      have X3 : ∀ V : InB wz, V.1.cell? ⟨wP.heap.size, 3, none⟩ = some (.int .i64 pd) := fun V => V.cell k3
      clear k0 k1 k2 k3
      obtain ⟨pay, hpay⟩ : ∃ pay, pay = payB pa pb pc pd := ⟨_, rfl⟩
      have HI := Lib.hid (fun W => isPay_any pa pb pc pd W); have HS := Lib.hid (fun W => specIsPay_any pa pb pc pd W)
      rw [← hpay] at HI HS
      clear hpay
      go_wp2
      refine wp_region_below wz (by kernel_rfl) (by kernel_rfl) (by first | assumption | exact Below.refl _ _) ?_
      repeat (go_big_quiet_step ((first | (go_at_call 19; exact bel_of (HI.out _)) | (go_at_call 20; exact bel_of (HS.out _)))))
      refine wpQuiet_nil ?_
      intro wb hw'
      obtain ⟨⟨wb', hB⟩, hwb⟩ := hw'
      simp only at hwb
      subst hwb
      try simp only at hB ⊢
      clear X0 X1 X2 X3 HI HS
      have HB := Lib.hid (HB.out.trans (hB.mono HB.out.size)); have HO := Lib.hid (own_below HO.out hB); have HBX := Lib.hid (box4_bel HBX.out hB)
      clear hB
      obtain ⟨wz, rfl⟩ : ∃ wz, wz = wb := ⟨_, rfl⟩
      as_aux_lemma =>
        go_wp2_with fail
        refine (drawWageBill_any AM n1 cM lM _ (by omega) HL1.out (HR1.out.below HB.out)).mono ?_
        rintro e wz ⟨qa, qb, qc, qd, B2, m2, out2, E2, e2, ms2, rfl, _, hlo2, hlm2, ho, hom, hb⟩
        have HB := Lib.hid (HB.out.trans (hb.mono HB.out.size))
        have HO := Lib.hid ho; have HM := Lib.hid hom
        clear ho hom hb HBX
        obtain ⟨wQ, rfl⟩ : ∃ wQ, wQ = wz := ⟨_, rfl⟩
        have HWQ : Hid (Below wQ.heap.size wQ (wQ.alloc (.cells #[.int .i64 qa, .int .i64 qb, .int .i64 qc, .int .i64 qd] 29))) := Lib.hid ((Below.refl _ _).alloc (Nat.le_refl _) _)
        have HBX := Lib.hid (Box4.new wQ 29 (.int .i64 qa) (.int .i64 qb) (.int .i64 qc) (.int .i64 qd))
        have HB := Lib.hid (HB.out.trans (HWQ.out.mono HB.out.size))
        have HO := Lib.hid (own_below HO.out HWQ.out); have HM := Lib.hid (own_below HM.out HWQ.out)
        have hfl := all_flags qa qb qc qd out2 ms2
        have HYE := Lib.hid (bill_yes (a := qa) (b := qb) (c := qc) (d := qd) (l := out2) (ms := ms2))
        have I1 := fun W (hW : Reads W 3 B2 out2.length (rows3 out2)) (hM : Reads W 1 E2 ms2.length (ints ms2)) => implWageBill_any qa qb qc qd B2 out2.length m2 out2 E2 ms2.length e2 ms2 W (by omega) hW (own_cap HO.out) (by omega) hM (own_cap HM.out)
        have I2 := fun W (hW : Reads W 3 B2 out2.length (rows3 out2)) (hM : Reads W 1 E2 ms2.length (ints ms2)) => specWageBill_any qa qb qc qd B2 out2.length m2 out2 E2 ms2.length e2 ms2 W (by omega) hW (own_cap HO.out) (by omega) hM (own_cap HM.out)
        have I3 := fun W (hW : Reads W 3 B2 out2.length (rows3 out2)) (hM : Reads W 1 E2 ms2.length (ints ms2)) => implBestPaid_any qa qb qc qd B2 out2.length m2 out2 E2 ms2.length e2 ms2 W (by omega) hW (own_cap HO.out) (by omega) hM (own_cap HM.out)
        have I4 := fun W (hW : Reads W 3 B2 out2.length (rows3 out2)) (hM : Reads W 1 E2 ms2.length (ints ms2)) => specBestPaid_any qa qb qc qd B2 out2.length m2 out2 E2 ms2.length e2 ms2 W (by omega) hW (own_cap HO.out) (by omega) hM (own_cap HM.out)
        have I5 := fun W (hW : Reads W 3 B2 out2.length (rows3 out2)) (hM : Reads W 1 E2 ms2.length (ints ms2)) (hT : TabP W) => implWageTable_any qa qb qc qd B2 out2.length m2 out2 E2 ms2.length e2 ms2 W (by omega) hW (own_cap HO.out) (by omega) hM (own_cap HM.out) hT
        have I6 := fun W (hW : Reads W 3 B2 out2.length (rows3 out2)) (hM : Reads W 1 E2 ms2.length (ints ms2)) => specWageTable_any qa qb qc qd B2 out2.length m2 out2 E2 ms2.length e2 ms2 W (by omega) hW (own_cap HO.out) (by omega) hM (own_cap HM.out)
        rw [hfl.1] at I1 I2
        rw [hfl.2.1] at I3 I4
        rw [hfl.2.2] at I5 I6
        have HI1 := Lib.hid I1; have HI2 := Lib.hid I2; have HI3 := Lib.hid I3; have HI4 := Lib.hid I4; have HI5 := Lib.hid I5; have HI6 := Lib.hid I6
        clear I1 I2 I3 I4 I5 I6 hfl
        obtain ⟨af, haf⟩ : ∃ af, allAsk qa qb qc qd out2 ms2 = af := ⟨_, rfl⟩
        rw [haf] at HI1 HI2 HI3 HI4 HI5 HI6 HYE
        have HAF := Lib.hid haf
        clear haf
        generalize (billR qa qb qc qd out2 ms2).1 = bv at *
        generalize (bestR qa qb qc qd out2 ms2).1 = b1 at *
        generalize (bestR qa qb qc qd out2 ms2).2.1 = b2 at *
        generalize (tableR qa qb qc qd out2 ms2).1 = tb at *
        skip
        go_wp2_with fail
        skip
        refine (HI1.out _ (Reads.of_own HO.out) (Reads.of_own HM.out)).mono ?_
        rintro e wz ⟨rfl, hb⟩
        have HB := Lib.hid (HB.out.trans (hb.mono HB.out.size))
        have HO := Lib.hid (own_below HO.out hb)
        have HM := Lib.hid (own_below HM.out hb)
        have HBX := Lib.hid (box4_bel HBX.out hb)
        clear hb
        obtain ⟨k0, k1, k2, k3⟩ := HBX.out.cells
        go_wp2_with fail
        clear k0 k1 k2 k3
        refine (HI2.out _ (Reads.of_own HO.out) (Reads.of_own HM.out)).mono ?_
        rintro e wz ⟨rfl, hb⟩
        have HB := Lib.hid (HB.out.trans (hb.mono HB.out.size))
        have HO := Lib.hid (own_below HO.out hb)
        have HM := Lib.hid (own_below HM.out hb)
        have HBX := Lib.hid (box4_bel HBX.out hb)
        clear hb
        obtain ⟨k0, k1, k2, k3⟩ := HBX.out.cells
        go_wp2_with fail
        clear k0 k1 k2 k3
        refine (HI3.out _ (Reads.of_own HO.out) (Reads.of_own HM.out)).mono ?_
        rintro e wz ⟨rfl, hb⟩
        have HB := Lib.hid (HB.out.trans (hb.mono HB.out.size))
        have HO := Lib.hid (own_below HO.out hb)
        have HM := Lib.hid (own_below HM.out hb)
        have HBX := Lib.hid (box4_bel HBX.out hb)
        clear hb
        obtain ⟨k0, k1, k2, k3⟩ := HBX.out.cells
        go_wp2_with fail
        clear k0 k1 k2 k3
        refine (HI4.out _ (Reads.of_own HO.out) (Reads.of_own HM.out)).mono ?_
        rintro e wz ⟨rfl, hb⟩
        have HB := Lib.hid (HB.out.trans (hb.mono HB.out.size))
        have HO := Lib.hid (own_below HO.out hb)
        have HM := Lib.hid (own_below HM.out hb)
        have HBX := Lib.hid (box4_bel HBX.out hb)
        clear hb
        obtain ⟨k0, k1, k2, k3⟩ := HBX.out.cells
        go_wp2_with fail
        clear k0 k1 k2 k3
        refine (HI5.out _ (Reads.of_own HO.out) (Reads.of_own HM.out) (HTB.out _ HB.out)).mono ?_
        rintro e wz ⟨rfl, hb⟩
        have HB := Lib.hid (HB.out.trans (hb.mono HB.out.size))
        have HO := Lib.hid (own_below HO.out hb)
        have HM := Lib.hid (own_below HM.out hb)
        have HBX := Lib.hid (box4_bel HBX.out hb)
        clear hb
        obtain ⟨k0, k1, k2, k3⟩ := HBX.out.cells
        go_wp2_with fail
        clear k0 k1 k2 k3
        refine (HI6.out _ (Reads.of_own HO.out) (Reads.of_own HM.out)).mono ?_
        rintro e wz ⟨rfl, hb⟩
        have HB := Lib.hid (HB.out.trans (hb.mono HB.out.size))
        have HO := Lib.hid (own_below HO.out hb)
        have HM := Lib.hid (own_below HM.out hb)
        have HBX := Lib.hid (box4_bel HBX.out hb)
        clear hb
        clear HI1 HI2 HI3 HI4 HI5 HI6
        cases af with
        | false =>
          go_wp2
          go_ret
          exact ⟨rfl, HB.out⟩
        | true =>
          obtain ⟨e1, e2, e3'⟩ := HYE.out rfl
          obtain ⟨hp2, hg2, h30, hms2⟩ := allAsk_of (HAF.out.trans rfl)
          have HASK2 := Lib.hid HAF.out
          have hbd2 := Lib.hid (wagesF_bd hp2 hg2 (allB_true.1 hms2) 0)
          have hws : (wagesF qa qb qc qd out2 ms2 0).length = ms2.length := by simp
          have HWS := Lib.hid hws
          have HAT := Lib.hid (fun (k : Nat) (hk : k < ms2.length) => wages_at (a := qa) (b := qb) (c := qc) (d := qd) (l := out2) hk)
          have HWR := Lib.hid (fun (k : Nat) (hk : k < ms2.length) => wageR_at (a := qa) (b := qb) (c := qc) (d := qd) (l := out2) HASK2.out hk)
          have hpos2 : 0 < (wagesF qa qb qc qd out2 ms2 0).length := by rw [hws]; omega
          have HBF := Lib.hid (bestW_facts hpos2)
          have HM30 := Lib.hid h30
          clear hp2 hg2 h30 hms2 hws hpos2 HYE HAF
          have HE1 := Lib.hid e1; have HE2 := Lib.hid e2; have HE3 := Lib.hid e3'
          clear e1 e2 e3'
          generalize wagesF qa qb qc qd out2 ms2 0 = ws at *
          have hl31 : ms2.length ≤ 31 := hlm2
          obtain ⟨k0, k1, k2, k3⟩ := HBX.out.cells
          go_wp2
          clear k0 k1 k2 k3
          obtain ⟨wL, rfl⟩ : ∃ wL, wL = wz := ⟨_, rfl⟩
          go_loopw [47, 329] (fun s i wr => ∃ k : Nat, k ≤ ms2.length ∧ i = .int .i64 k ∧ s = .int .i64 (sumL (ws.take k)) ∧ Below wL.heap.size wL wr) (fun _ i _ => ms2.length - (intOf i).toNat)
          case atStart => exact ⟨0, Nat.zero_le _, rfl, rfl, Below.refl _ _⟩
          case round =>
            obtain ⟨k, hk, rfl, rfl, hb⟩ := hrel
            have HBR := Lib.hid hb
            clear hb
            have hsb := sumL_bd (ws.take k) 0 1000000000 (fun x hx => hbd2.out x (List.mem_of_mem_take hx))
            have htl : (ws.take k).length ≤ 31 := by simp; omega
            have hs0 : 0 ≤ sumL (ws.take k) := by omega
            have hs1 : sumL (ws.take k) ≤ 31000000000 := by omega
            clear hsb htl
            by_cases hlt : k < ms2.length
            · obtain ⟨ad, u, rfl, hu, c0⟩ := (Reads.of_own (own_below HM.out HBR.out)).at_ hlt
              have e0 : u = .int .i64 ms2[k] := by simp [ints, hlt] at hu; exact hu.symm
              subst e0
              have hat := HAT.out k hlt
              have hwr := HWR.out k hlt
              have hkw : k < ws.length := by rw [HWS.out]; exact hlt
              have HTK := Lib.hid (sumL_take hkw)
              have hgk := hat
              rw [List.getElem?_eq_getElem hkw] at hgk
              injection hgk with hgk
              rw [hgk] at HTK
              obtain ⟨hle, hbest⟩ := HBF.out k _ hat
              have hvb := hbd2.out _ (List.mem_of_getElem? hat)
              have CW := fun W (hW : Reads W 3 B2 out2.length (rows3 out2)) => implWageOf_any qa qb qc qd B2 out2.length m2 out2 ((k : Int) + 1) ms2[k] W (by omega) hW (own_cap HO.out)
              rw [hwr] at CW
              have HCW := Lib.hid CW
              clear CW hwr hat hgk hu
              generalize wage qa qb qc qd out2 ((k : Int) + 1) ms2[k] = v at *
              generalize ms2[k] = x at *
              generalize sumL (ws.take k) = S at *
              have h2 := HE2.out
              have h3 := HE3.out
              rw [← h3] at hle hbest
              have HBB := Lib.hid (fun (e : v = b2) => (show b1 ≤ (k : Int) + 1 by have := hbest e; omega))
              clear h2 h3 hbest
              obtain ⟨k0, k1, k2, k3⟩ := (box4_bel HBX.out HBR.out).cells
              go_wp2_with fail
              clear k0 k1 k2 k3 c0
              refine (HCW.out _ ((Reads.of_own HO.out).below HBR.out)).mono ?_
              rintro e wi ⟨rfl, hb⟩
              have HBR := Lib.hid (HBR.out.trans (hb.mono HBR.out.size))
              clear hb
              have hle2 : ¬ b2 < v := by omega
              by_cases heq : v = b2
              · have hb1 := HBB.out heq
                have hb1' : ¬ (k : Int) + 1 < b1 := by omega
                subst heq
                go_wp2
                go_roundw
                case rel => exact ⟨k + 1, by omega, by go_num, by rw [HTK.out], HBR.out⟩
                case measure => simp [intOf]; omega
              · have heq' : (v == b2) = false := by rw [beq_eq_false_iff_ne]; exact heq
                go_wp2
                go_roundw
                case rel => exact ⟨k + 1, by omega, by go_num, by rw [HTK.out], HBR.out⟩
                case measure => simp [intOf]; omega
            · have e : ws.take k = ws := List.take_of_length_le (by rw [HWS.out]; omega)
              rw [e]
              have h1 := HE1.out
              go_wp2
              go_ret
              exact ⟨ret_bool (by first | rfl | (rw [HE1.out]; first | rfl | (simp; done))), HB.out.trans (HBR.out.mono HB.out.size)⟩
    | true =>
      obtain ⟨hask, hwv⟩ := HWY.out rfl
      have HASK := Lib.hid hask
      rw [← hwv] at HPY
      have HWV := Lib.hid hwv
      clear hask HWY HWN HPF hwv
      cases po with
      | false =>
        obtain ⟨k0, k1, k2, k3⟩ := HBX.out.cells
        have X0 : ∀ V : InB wz, V.1.cell? ⟨wP.heap.size, 0, none⟩ = some (.int .i64 pa) := fun V => V.cell k0
        have X1 : ∀ V : InB wz, V.1.cell? ⟨wP.heap.size, 1, none⟩ = some (.int .i64 pb) := fun V => V.cell k1
        have X2 : ∀ V : InB wz, V.1.cell? ⟨wP.heap.size, 2, none⟩ = some (.int .i64 pc) := fun V => V.cell k2
        have X3 : ∀ V : InB wz, V.1.cell? ⟨wP.heap.size, 3, none⟩ = some (.int .i64 pd) := fun V => V.cell k3
        clear k0 k1 k2 k3
        obtain ⟨pay, hpay⟩ : ∃ pay, pay = payB pa pb pc pd := ⟨_, rfl⟩
        have HI := Lib.hid (fun W => isPay_any pa pb pc pd W); have HS := Lib.hid (fun W => specIsPay_any pa pb pc pd W)
        rw [← hpay] at HI HS
        clear hpay
        go_wp2
        refine wp_region_below wz (by kernel_rfl) (by kernel_rfl) (by first | assumption | exact Below.refl _ _) ?_
        repeat (go_big_quiet_step ((first | (go_at_call 19; exact bel_of (HI.out _)) | (go_at_call 20; exact bel_of (HS.out _)))))
        refine wpQuiet_nil ?_
        intro wb hw'
        obtain ⟨⟨wb', hB⟩, hwb⟩ := hw'
        simp only at hwb
        subst hwb
        try simp only at hB ⊢
        clear X0 X1 X2 X3 HI HS
        have HB := Lib.hid (HB.out.trans (hB.mono HB.out.size)); have HO := Lib.hid (own_below HO.out hB); have HBX := Lib.hid (box4_bel HBX.out hB)
        clear hB
        obtain ⟨wz, rfl⟩ : ∃ wz, wz = wb := ⟨_, rfl⟩
        as_aux_lemma =>
          have hdr := dutyR_ok HASK.out
          have hnr := nightR_ok HASK.out
          obtain ⟨hwi, hwa, hwn, hwc, hwd⟩ := wage_is HASK.out
          rw [← HWV.out] at hwi
          have D1 := fun W (hW : Reads W 3 B out.length (rows3 out)) => dutyHours_any B out.length m out op W (by omega) (own_cap HO.out) hW
          have D2 := fun W (hW : Reads W 3 B out.length (rows3 out)) => specDutyHours_any B out.length m out op W (by omega) (own_cap HO.out) hW
          have N1 := fun W (hW : Reads W 3 B out.length (rows3 out)) => implNightExtra_any pa pb pc pd B out.length m out op W (by omega) hW (own_cap HO.out)
          have N2 := fun W (hW : Reads W 3 B out.length (rows3 out)) => specNightExtra_any pa pb pc pd B out.length m out op W (by omega) hW (own_cap HO.out)
          rw [hdr] at D1 D2
          rw [hnr] at N1 N2
          have HD1 := Lib.hid D1; have HD2 := Lib.hid D2; have HN1 := Lib.hid N1; have HN2 := Lib.hid N2
          have hdp := duty_pos HASK.out
          clear D1 D2 N1 N2 hdr hnr
          have hH0 := HPN.out HASK.out (by simp)
          clear HPY HPN
          generalize (duty op out).1 = H at *
          generalize (duty op out).2 = D at *
          generalize hng : pa * pb * D / 100 = NG at *
          clear hng
          have HWI := Lib.hid hwi
          clear hwi
          obtain ⟨k0, k1, k2, k3⟩ := HBX.out.cells
          go_wp2_with fail
          clear k0 k1 k2 k3
          refine (HD1.out _ (Reads.of_own HO.out)).mono ?_
          rintro e wz ⟨rfl, hb⟩
          have HB := Lib.hid (HB.out.trans (hb.mono HB.out.size))
          have HO := Lib.hid (own_below HO.out hb)
          have HBX := Lib.hid (box4_bel HBX.out hb)
          clear hb
          obtain ⟨k0, k1, k2, k3⟩ := HBX.out.cells
          go_wp2_with fail
          clear k0 k1 k2 k3
          refine (HD2.out _ (Reads.of_own HO.out)).mono ?_
          rintro e wz ⟨rfl, hb⟩
          have HB := Lib.hid (HB.out.trans (hb.mono HB.out.size))
          have HO := Lib.hid (own_below HO.out hb)
          have HBX := Lib.hid (box4_bel HBX.out hb)
          clear hb
          obtain ⟨k0, k1, k2, k3⟩ := HBX.out.cells
          go_wp2_with fail
          clear k0 k1 k2 k3
          refine (HN1.out _ (Reads.of_own HO.out)).mono ?_
          rintro e wz ⟨rfl, hb⟩
          have HB := Lib.hid (HB.out.trans (hb.mono HB.out.size))
          have HO := Lib.hid (own_below HO.out hb)
          have HBX := Lib.hid (box4_bel HBX.out hb)
          clear hb
          obtain ⟨k0, k1, k2, k3⟩ := HBX.out.cells
          go_wp2_with fail
          clear k0 k1 k2 k3
          refine (HN2.out _ (Reads.of_own HO.out)).mono ?_
          rintro e wz ⟨rfl, hb⟩
          have HB := Lib.hid (HB.out.trans (hb.mono HB.out.size))
          have HO := Lib.hid (own_below HO.out hb)
          have HBX := Lib.hid (box4_bel HBX.out hb)
          clear hb
          clear HD1 HD2 HN1 HN2
          subst hH0
          have hwe := HWI.out
          rw [if_neg (by omega)] at hwe
          generalize hgA : pa * 0 = A1 at *
          generalize hgC : pc * ms = C1 at *
          obtain ⟨k0, k1, k2, k3⟩ := HBX.out.cells
          as_aux_lemma =>
            go_wp2_with fail
            refine (drawWageBill_any AM n1 cM lM _ (by omega) HL1.out (HR1.out.below HB.out)).mono ?_
            rintro e wz ⟨qa, qb, qc, qd, B2, m2, out2, E2, e2, ms2, rfl, _, hlo2, hlm2, ho, hom, hb⟩
            have HB := Lib.hid (HB.out.trans (hb.mono HB.out.size))
            have HO := Lib.hid ho; have HM := Lib.hid hom
            clear ho hom hb HBX
            obtain ⟨wQ, rfl⟩ : ∃ wQ, wQ = wz := ⟨_, rfl⟩
            have HWQ : Hid (Below wQ.heap.size wQ (wQ.alloc (.cells #[.int .i64 qa, .int .i64 qb, .int .i64 qc, .int .i64 qd] 29))) := Lib.hid ((Below.refl _ _).alloc (Nat.le_refl _) _)
            have HBX := Lib.hid (Box4.new wQ 29 (.int .i64 qa) (.int .i64 qb) (.int .i64 qc) (.int .i64 qd))
            have HB := Lib.hid (HB.out.trans (HWQ.out.mono HB.out.size))
            have HO := Lib.hid (own_below HO.out HWQ.out); have HM := Lib.hid (own_below HM.out HWQ.out)
            have hfl := all_flags qa qb qc qd out2 ms2
            have HYE := Lib.hid (bill_yes (a := qa) (b := qb) (c := qc) (d := qd) (l := out2) (ms := ms2))
            have I1 := fun W (hW : Reads W 3 B2 out2.length (rows3 out2)) (hM : Reads W 1 E2 ms2.length (ints ms2)) => implWageBill_any qa qb qc qd B2 out2.length m2 out2 E2 ms2.length e2 ms2 W (by omega) hW (own_cap HO.out) (by omega) hM (own_cap HM.out)
            have I2 := fun W (hW : Reads W 3 B2 out2.length (rows3 out2)) (hM : Reads W 1 E2 ms2.length (ints ms2)) => specWageBill_any qa qb qc qd B2 out2.length m2 out2 E2 ms2.length e2 ms2 W (by omega) hW (own_cap HO.out) (by omega) hM (own_cap HM.out)
            have I3 := fun W (hW : Reads W 3 B2 out2.length (rows3 out2)) (hM : Reads W 1 E2 ms2.length (ints ms2)) => implBestPaid_any qa qb qc qd B2 out2.length m2 out2 E2 ms2.length e2 ms2 W (by omega) hW (own_cap HO.out) (by omega) hM (own_cap HM.out)
            have I4 := fun W (hW : Reads W 3 B2 out2.length (rows3 out2)) (hM : Reads W 1 E2 ms2.length (ints ms2)) => specBestPaid_any qa qb qc qd B2 out2.length m2 out2 E2 ms2.length e2 ms2 W (by omega) hW (own_cap HO.out) (by omega) hM (own_cap HM.out)
            have I5 := fun W (hW : Reads W 3 B2 out2.length (rows3 out2)) (hM : Reads W 1 E2 ms2.length (ints ms2)) (hT : TabP W) => implWageTable_any qa qb qc qd B2 out2.length m2 out2 E2 ms2.length e2 ms2 W (by omega) hW (own_cap HO.out) (by omega) hM (own_cap HM.out) hT
            have I6 := fun W (hW : Reads W 3 B2 out2.length (rows3 out2)) (hM : Reads W 1 E2 ms2.length (ints ms2)) => specWageTable_any qa qb qc qd B2 out2.length m2 out2 E2 ms2.length e2 ms2 W (by omega) hW (own_cap HO.out) (by omega) hM (own_cap HM.out)
            rw [hfl.1] at I1 I2
            rw [hfl.2.1] at I3 I4
            rw [hfl.2.2] at I5 I6
            have HI1 := Lib.hid I1; have HI2 := Lib.hid I2; have HI3 := Lib.hid I3; have HI4 := Lib.hid I4; have HI5 := Lib.hid I5; have HI6 := Lib.hid I6
            clear I1 I2 I3 I4 I5 I6 hfl
            obtain ⟨af, haf⟩ : ∃ af, allAsk qa qb qc qd out2 ms2 = af := ⟨_, rfl⟩
            rw [haf] at HI1 HI2 HI3 HI4 HI5 HI6 HYE
            have HAF := Lib.hid haf
            clear haf
            generalize (billR qa qb qc qd out2 ms2).1 = bv at *
            generalize (bestR qa qb qc qd out2 ms2).1 = b1 at *
            generalize (bestR qa qb qc qd out2 ms2).2.1 = b2 at *
            generalize (tableR qa qb qc qd out2 ms2).1 = tb at *
            skip
            go_wp2_with fail
            skip
            refine (HI1.out _ (Reads.of_own HO.out) (Reads.of_own HM.out)).mono ?_
            rintro e wz ⟨rfl, hb⟩
            have HB := Lib.hid (HB.out.trans (hb.mono HB.out.size))
            have HO := Lib.hid (own_below HO.out hb)
            have HM := Lib.hid (own_below HM.out hb)
            have HBX := Lib.hid (box4_bel HBX.out hb)
            clear hb
            obtain ⟨k0, k1, k2, k3⟩ := HBX.out.cells
            go_wp2_with fail
            clear k0 k1 k2 k3
            refine (HI2.out _ (Reads.of_own HO.out) (Reads.of_own HM.out)).mono ?_
            rintro e wz ⟨rfl, hb⟩
            have HB := Lib.hid (HB.out.trans (hb.mono HB.out.size))
            have HO := Lib.hid (own_below HO.out hb)
            have HM := Lib.hid (own_below HM.out hb)
            have HBX := Lib.hid (box4_bel HBX.out hb)
            clear hb
            obtain ⟨k0, k1, k2, k3⟩ := HBX.out.cells
            go_wp2_with fail
            clear k0 k1 k2 k3
            refine (HI3.out _ (Reads.of_own HO.out) (Reads.of_own HM.out)).mono ?_
            rintro e wz ⟨rfl, hb⟩
            have HB := Lib.hid (HB.out.trans (hb.mono HB.out.size))
            have HO := Lib.hid (own_below HO.out hb)
            have HM := Lib.hid (own_below HM.out hb)
            have HBX := Lib.hid (box4_bel HBX.out hb)
            clear hb
            obtain ⟨k0, k1, k2, k3⟩ := HBX.out.cells
            go_wp2_with fail
            clear k0 k1 k2 k3
            refine (HI4.out _ (Reads.of_own HO.out) (Reads.of_own HM.out)).mono ?_
            rintro e wz ⟨rfl, hb⟩
            have HB := Lib.hid (HB.out.trans (hb.mono HB.out.size))
            have HO := Lib.hid (own_below HO.out hb)
            have HM := Lib.hid (own_below HM.out hb)
            have HBX := Lib.hid (box4_bel HBX.out hb)
            clear hb
            obtain ⟨k0, k1, k2, k3⟩ := HBX.out.cells
            go_wp2_with fail
            clear k0 k1 k2 k3
            refine (HI5.out _ (Reads.of_own HO.out) (Reads.of_own HM.out) (HTB.out _ HB.out)).mono ?_
            rintro e wz ⟨rfl, hb⟩
            have HB := Lib.hid (HB.out.trans (hb.mono HB.out.size))
            have HO := Lib.hid (own_below HO.out hb)
            have HM := Lib.hid (own_below HM.out hb)
            have HBX := Lib.hid (box4_bel HBX.out hb)
            clear hb
            obtain ⟨k0, k1, k2, k3⟩ := HBX.out.cells
            go_wp2_with fail
            clear k0 k1 k2 k3
            refine (HI6.out _ (Reads.of_own HO.out) (Reads.of_own HM.out)).mono ?_
            rintro e wz ⟨rfl, hb⟩
            have HB := Lib.hid (HB.out.trans (hb.mono HB.out.size))
            have HO := Lib.hid (own_below HO.out hb)
            have HM := Lib.hid (own_below HM.out hb)
            have HBX := Lib.hid (box4_bel HBX.out hb)
            clear hb
            clear HI1 HI2 HI3 HI4 HI5 HI6
            cases af with
            | false =>
              go_wp2
              go_ret
              exact ⟨rfl, HB.out⟩
            | true =>
              obtain ⟨e1, e2, e3'⟩ := HYE.out rfl
              obtain ⟨hp2, hg2, h30, hms2⟩ := allAsk_of (HAF.out.trans rfl)
              have HASK2 := Lib.hid HAF.out
              have hbd2 := Lib.hid (wagesF_bd hp2 hg2 (allB_true.1 hms2) 0)
              have hws : (wagesF qa qb qc qd out2 ms2 0).length = ms2.length := by simp
              have HWS := Lib.hid hws
              have HAT := Lib.hid (fun (k : Nat) (hk : k < ms2.length) => wages_at (a := qa) (b := qb) (c := qc) (d := qd) (l := out2) hk)
              have HWR := Lib.hid (fun (k : Nat) (hk : k < ms2.length) => wageR_at (a := qa) (b := qb) (c := qc) (d := qd) (l := out2) HASK2.out hk)
              have hpos2 : 0 < (wagesF qa qb qc qd out2 ms2 0).length := by rw [hws]; omega
              have HBF := Lib.hid (bestW_facts hpos2)
              have HM30 := Lib.hid h30
              clear hp2 hg2 h30 hms2 hws hpos2 HYE HAF
              have HE1 := Lib.hid e1; have HE2 := Lib.hid e2; have HE3 := Lib.hid e3'
              clear e1 e2 e3'
              generalize wagesF qa qb qc qd out2 ms2 0 = ws at *
              have hl31 : ms2.length ≤ 31 := hlm2
              obtain ⟨k0, k1, k2, k3⟩ := HBX.out.cells
              go_wp2
              clear k0 k1 k2 k3
              obtain ⟨wL, rfl⟩ : ∃ wL, wL = wz := ⟨_, rfl⟩
              go_loopw [47, 329] (fun s i wr => ∃ k : Nat, k ≤ ms2.length ∧ i = .int .i64 k ∧ s = .int .i64 (sumL (ws.take k)) ∧ Below wL.heap.size wL wr) (fun _ i _ => ms2.length - (intOf i).toNat)
              case atStart => exact ⟨0, Nat.zero_le _, rfl, rfl, Below.refl _ _⟩
              case round =>
                obtain ⟨k, hk, rfl, rfl, hb⟩ := hrel
                have HBR := Lib.hid hb
                clear hb
                have hsb := sumL_bd (ws.take k) 0 1000000000 (fun x hx => hbd2.out x (List.mem_of_mem_take hx))
                have htl : (ws.take k).length ≤ 31 := by simp; omega
                have hs0 : 0 ≤ sumL (ws.take k) := by omega
                have hs1 : sumL (ws.take k) ≤ 31000000000 := by omega
                clear hsb htl
                by_cases hlt : k < ms2.length
                · obtain ⟨ad, u, rfl, hu, c0⟩ := (Reads.of_own (own_below HM.out HBR.out)).at_ hlt
                  have e0 : u = .int .i64 ms2[k] := by simp [ints, hlt] at hu; exact hu.symm
                  subst e0
                  have hat := HAT.out k hlt
                  have hwr := HWR.out k hlt
                  have hkw : k < ws.length := by rw [HWS.out]; exact hlt
                  have HTK := Lib.hid (sumL_take hkw)
                  have hgk := hat
                  rw [List.getElem?_eq_getElem hkw] at hgk
                  injection hgk with hgk
                  rw [hgk] at HTK
                  obtain ⟨hle, hbest⟩ := HBF.out k _ hat
                  have hvb := hbd2.out _ (List.mem_of_getElem? hat)
                  have CW := fun W (hW : Reads W 3 B2 out2.length (rows3 out2)) => implWageOf_any qa qb qc qd B2 out2.length m2 out2 ((k : Int) + 1) ms2[k] W (by omega) hW (own_cap HO.out)
                  rw [hwr] at CW
                  have HCW := Lib.hid CW
                  clear CW hwr hat hgk hu
                  generalize wage qa qb qc qd out2 ((k : Int) + 1) ms2[k] = v at *
                  generalize ms2[k] = x at *
                  generalize sumL (ws.take k) = S at *
                  have h2 := HE2.out
                  have h3 := HE3.out
                  rw [← h3] at hle hbest
                  have HBB := Lib.hid (fun (e : v = b2) => (show b1 ≤ (k : Int) + 1 by have := hbest e; omega))
                  clear h2 h3 hbest
                  obtain ⟨k0, k1, k2, k3⟩ := (box4_bel HBX.out HBR.out).cells
                  go_wp2_with fail
                  clear k0 k1 k2 k3 c0
                  refine (HCW.out _ ((Reads.of_own HO.out).below HBR.out)).mono ?_
                  rintro e wi ⟨rfl, hb⟩
                  have HBR := Lib.hid (HBR.out.trans (hb.mono HBR.out.size))
                  clear hb
                  have hle2 : ¬ b2 < v := by omega
                  by_cases heq : v = b2
                  · have hb1 := HBB.out heq
                    have hb1' : ¬ (k : Int) + 1 < b1 := by omega
                    subst heq
                    go_wp2
                    go_roundw
                    case rel => exact ⟨k + 1, by omega, by go_num, by rw [HTK.out], HBR.out⟩
                    case measure => simp [intOf]; omega
                  · have heq' : (v == b2) = false := by rw [beq_eq_false_iff_ne]; exact heq
                    go_wp2
                    go_roundw
                    case rel => exact ⟨k + 1, by omega, by go_num, by rw [HTK.out], HBR.out⟩
                    case measure => simp [intOf]; omega
                · have e : ws.take k = ws := List.take_of_length_le (by rw [HWS.out]; omega)
                  rw [e]
                  have h1 := HE1.out
                  go_wp2
                  go_ret
                  exact ⟨ret_bool (by first | rfl | (rw [HE1.out]; first | rfl | (simp; done))), HB.out.trans (HBR.out.mono HB.out.size)⟩
      | true =>
        obtain ⟨k0, k1, k2, k3⟩ := HBX.out.cells
        have X0 : ∀ V : InB wz, V.1.cell? ⟨wP.heap.size, 0, none⟩ = some (.int .i64 pa) := fun V => V.cell k0
        have X1 : ∀ V : InB wz, V.1.cell? ⟨wP.heap.size, 1, none⟩ = some (.int .i64 pb) := fun V => V.cell k1
        have X2 : ∀ V : InB wz, V.1.cell? ⟨wP.heap.size, 2, none⟩ = some (.int .i64 pc) := fun V => V.cell k2
        have X3 : ∀ V : InB wz, V.1.cell? ⟨wP.heap.size, 3, none⟩ = some (.int .i64 pd) := fun V => V.cell k3
        clear k0 k1 k2 k3
        obtain ⟨pay, hpay⟩ : ∃ pay, pay = payB pa pb pc pd := ⟨_, rfl⟩
        have HI := Lib.hid (fun W => isPay_any pa pb pc pd W); have HS := Lib.hid (fun W => specIsPay_any pa pb pc pd W)
        rw [← hpay] at HI HS
        clear hpay
        go_wp2
        refine wp_region_below wz (by kernel_rfl) (by kernel_rfl) (by first | assumption | exact Below.refl _ _) ?_
        repeat (go_big_quiet_step ((first | (go_at_call 19; exact bel_of (HI.out _)) | (go_at_call 20; exact bel_of (HS.out _)))))
        refine wpQuiet_nil ?_
        intro wb hw'
        obtain ⟨⟨wb', hB⟩, hwb⟩ := hw'
        simp only at hwb
        subst hwb
        try simp only at hB ⊢
        clear X0 X1 X2 X3 HI HS
        have HB := Lib.hid (HB.out.trans (hB.mono HB.out.size)); have HO := Lib.hid (own_below HO.out hB); have HBX := Lib.hid (box4_bel HBX.out hB)
        clear hB
        obtain ⟨wz, rfl⟩ : ∃ wz, wz = wb := ⟨_, rfl⟩
        as_aux_lemma =>
          have hdr := dutyR_ok HASK.out
          have hnr := nightR_ok HASK.out
          obtain ⟨hwi, hwa, hwn, hwc, hwd⟩ := wage_is HASK.out
          rw [← HWV.out] at hwi
          have D1 := fun W (hW : Reads W 3 B out.length (rows3 out)) => dutyHours_any B out.length m out op W (by omega) (own_cap HO.out) hW
          have D2 := fun W (hW : Reads W 3 B out.length (rows3 out)) => specDutyHours_any B out.length m out op W (by omega) (own_cap HO.out) hW
          have N1 := fun W (hW : Reads W 3 B out.length (rows3 out)) => implNightExtra_any pa pb pc pd B out.length m out op W (by omega) hW (own_cap HO.out)
          have N2 := fun W (hW : Reads W 3 B out.length (rows3 out)) => specNightExtra_any pa pb pc pd B out.length m out op W (by omega) hW (own_cap HO.out)
          rw [hdr] at D1 D2
          rw [hnr] at N1 N2
          have HD1 := Lib.hid D1; have HD2 := Lib.hid D2; have HN1 := Lib.hid N1; have HN2 := Lib.hid N2
          have hdp := duty_pos HASK.out
          clear D1 D2 N1 N2 hdr hnr
          obtain ⟨_, hH0, hfr, hv0, hv1⟩ := HPY.out (by simp)
          clear HPY HPN
          generalize (duty op out).1 = H at *
          generalize (duty op out).2 = D at *
          generalize hng : pa * pb * D / 100 = NG at *
          clear hng
          have HWI := Lib.hid hwi
          clear hwi
          obtain ⟨k0, k1, k2, k3⟩ := HBX.out.cells
          go_wp2_with fail
          clear k0 k1 k2 k3
          refine (HD1.out _ (Reads.of_own HO.out)).mono ?_
          rintro e wz ⟨rfl, hb⟩
          have HB := Lib.hid (HB.out.trans (hb.mono HB.out.size))
          have HO := Lib.hid (own_below HO.out hb)
          have HBX := Lib.hid (box4_bel HBX.out hb)
          clear hb
          obtain ⟨k0, k1, k2, k3⟩ := HBX.out.cells
          go_wp2_with fail
          clear k0 k1 k2 k3
          refine (HD2.out _ (Reads.of_own HO.out)).mono ?_
          rintro e wz ⟨rfl, hb⟩
          have HB := Lib.hid (HB.out.trans (hb.mono HB.out.size))
          have HO := Lib.hid (own_below HO.out hb)
          have HBX := Lib.hid (box4_bel HBX.out hb)
          clear hb
          obtain ⟨k0, k1, k2, k3⟩ := HBX.out.cells
          go_wp2_with fail
          clear k0 k1 k2 k3
          refine (HN1.out _ (Reads.of_own HO.out)).mono ?_
          rintro e wz ⟨rfl, hb⟩
          have HB := Lib.hid (HB.out.trans (hb.mono HB.out.size))
          have HO := Lib.hid (own_below HO.out hb)
          have HBX := Lib.hid (box4_bel HBX.out hb)
          clear hb
          obtain ⟨k0, k1, k2, k3⟩ := HBX.out.cells
          go_wp2_with fail
          clear k0 k1 k2 k3
          refine (HN2.out _ (Reads.of_own HO.out)).mono ?_
          rintro e wz ⟨rfl, hb⟩
          have HB := Lib.hid (HB.out.trans (hb.mono HB.out.size))
          have HO := Lib.hid (own_below HO.out hb)
          have HBX := Lib.hid (box4_bel HBX.out hb)
          clear hb
          clear HD1 HD2 HN1 HN2
          have hp1 : 0 ≤ hv * H ∧ hv * H ≤ 1000000000 * 10080 := prod_bd hv0.1 hv0.2 hdp.1 hdp.2
          have hww : wv * hb' = hv * H := hfr.symm
          clear hfr
          have hHn : decide (0 < H) = true := by simpa using hH0
          have hwe := HWI.out
          rw [if_pos hH0] at hwe
          have hpm := hwa
          generalize hgA : pa * H = A1 at *
          generalize hgC : pc * ms = C1 at *
          generalize hgV : hv * H = V1 at *
          obtain ⟨k0, k1, k2, k3⟩ := HBX.out.cells
          by_cases hlt : A1 + NG + C1 < pd
          · have hwf : wv = pd := by omega
            clear hwe
            have HBF := HB
            subst hwf
            have HB := HBF
            as_aux_lemma =>
              go_wp2_with fail
              refine (drawWageBill_any AM n1 cM lM _ (by omega) HL1.out (HR1.out.below HB.out)).mono ?_
              rintro e wz ⟨qa, qb, qc, qd, B2, m2, out2, E2, e2, ms2, rfl, _, hlo2, hlm2, ho, hom, hb⟩
              have HB := Lib.hid (HB.out.trans (hb.mono HB.out.size))
              have HO := Lib.hid ho; have HM := Lib.hid hom
              clear ho hom hb HBX
              obtain ⟨wQ, rfl⟩ : ∃ wQ, wQ = wz := ⟨_, rfl⟩
              have HWQ : Hid (Below wQ.heap.size wQ (wQ.alloc (.cells #[.int .i64 qa, .int .i64 qb, .int .i64 qc, .int .i64 qd] 29))) := Lib.hid ((Below.refl _ _).alloc (Nat.le_refl _) _)
              have HBX := Lib.hid (Box4.new wQ 29 (.int .i64 qa) (.int .i64 qb) (.int .i64 qc) (.int .i64 qd))
              have HB := Lib.hid (HB.out.trans (HWQ.out.mono HB.out.size))
              have HO := Lib.hid (own_below HO.out HWQ.out); have HM := Lib.hid (own_below HM.out HWQ.out)
              have hfl := all_flags qa qb qc qd out2 ms2
              have HYE := Lib.hid (bill_yes (a := qa) (b := qb) (c := qc) (d := qd) (l := out2) (ms := ms2))
              have I1 := fun W (hW : Reads W 3 B2 out2.length (rows3 out2)) (hM : Reads W 1 E2 ms2.length (ints ms2)) => implWageBill_any qa qb qc qd B2 out2.length m2 out2 E2 ms2.length e2 ms2 W (by omega) hW (own_cap HO.out) (by omega) hM (own_cap HM.out)
              have I2 := fun W (hW : Reads W 3 B2 out2.length (rows3 out2)) (hM : Reads W 1 E2 ms2.length (ints ms2)) => specWageBill_any qa qb qc qd B2 out2.length m2 out2 E2 ms2.length e2 ms2 W (by omega) hW (own_cap HO.out) (by omega) hM (own_cap HM.out)
              have I3 := fun W (hW : Reads W 3 B2 out2.length (rows3 out2)) (hM : Reads W 1 E2 ms2.length (ints ms2)) => implBestPaid_any qa qb qc qd B2 out2.length m2 out2 E2 ms2.length e2 ms2 W (by omega) hW (own_cap HO.out) (by omega) hM (own_cap HM.out)
              have I4 := fun W (hW : Reads W 3 B2 out2.length (rows3 out2)) (hM : Reads W 1 E2 ms2.length (ints ms2)) => specBestPaid_any qa qb qc qd B2 out2.length m2 out2 E2 ms2.length e2 ms2 W (by omega) hW (own_cap HO.out) (by omega) hM (own_cap HM.out)
              have I5 := fun W (hW : Reads W 3 B2 out2.length (rows3 out2)) (hM : Reads W 1 E2 ms2.length (ints ms2)) (hT : TabP W) => implWageTable_any qa qb qc qd B2 out2.length m2 out2 E2 ms2.length e2 ms2 W (by omega) hW (own_cap HO.out) (by omega) hM (own_cap HM.out) hT
              have I6 := fun W (hW : Reads W 3 B2 out2.length (rows3 out2)) (hM : Reads W 1 E2 ms2.length (ints ms2)) => specWageTable_any qa qb qc qd B2 out2.length m2 out2 E2 ms2.length e2 ms2 W (by omega) hW (own_cap HO.out) (by omega) hM (own_cap HM.out)
              rw [hfl.1] at I1 I2
              rw [hfl.2.1] at I3 I4
              rw [hfl.2.2] at I5 I6
              have HI1 := Lib.hid I1; have HI2 := Lib.hid I2; have HI3 := Lib.hid I3; have HI4 := Lib.hid I4; have HI5 := Lib.hid I5; have HI6 := Lib.hid I6
              clear I1 I2 I3 I4 I5 I6 hfl
              obtain ⟨af, haf⟩ : ∃ af, allAsk qa qb qc qd out2 ms2 = af := ⟨_, rfl⟩
              rw [haf] at HI1 HI2 HI3 HI4 HI5 HI6 HYE
              have HAF := Lib.hid haf
              clear haf
              generalize (billR qa qb qc qd out2 ms2).1 = bv at *
              generalize (bestR qa qb qc qd out2 ms2).1 = b1 at *
              generalize (bestR qa qb qc qd out2 ms2).2.1 = b2 at *
              generalize (tableR qa qb qc qd out2 ms2).1 = tb at *
              skip
              go_wp2_with fail
              skip
              refine (HI1.out _ (Reads.of_own HO.out) (Reads.of_own HM.out)).mono ?_
              rintro e wz ⟨rfl, hb⟩
              have HB := Lib.hid (HB.out.trans (hb.mono HB.out.size))
              have HO := Lib.hid (own_below HO.out hb)
              have HM := Lib.hid (own_below HM.out hb)
              have HBX := Lib.hid (box4_bel HBX.out hb)
              clear hb
              obtain ⟨k0, k1, k2, k3⟩ := HBX.out.cells
              go_wp2_with fail
              clear k0 k1 k2 k3
              refine (HI2.out _ (Reads.of_own HO.out) (Reads.of_own HM.out)).mono ?_
              rintro e wz ⟨rfl, hb⟩
              have HB := Lib.hid (HB.out.trans (hb.mono HB.out.size))
              have HO := Lib.hid (own_below HO.out hb)
              have HM := Lib.hid (own_below HM.out hb)
              have HBX := Lib.hid (box4_bel HBX.out hb)
              clear hb
              obtain ⟨k0, k1, k2, k3⟩ := HBX.out.cells
              go_wp2_with fail
              clear k0 k1 k2 k3
              refine (HI3.out _ (Reads.of_own HO.out) (Reads.of_own HM.out)).mono ?_
              rintro e wz ⟨rfl, hb⟩
              have HB := Lib.hid (HB.out.trans (hb.mono HB.out.size))
              have HO := Lib.hid (own_below HO.out hb)
              have HM := Lib.hid (own_below HM.out hb)
              have HBX := Lib.hid (box4_bel HBX.out hb)
              clear hb
              obtain ⟨k0, k1, k2, k3⟩ := HBX.out.cells
              go_wp2_with fail
              clear k0 k1 k2 k3
              refine (HI4.out _ (Reads.of_own HO.out) (Reads.of_own HM.out)).mono ?_
              rintro e wz ⟨rfl, hb⟩
              have HB := Lib.hid (HB.out.trans (hb.mono HB.out.size))
              have HO := Lib.hid (own_below HO.out hb)
              have HM := Lib.hid (own_below HM.out hb)
              have HBX := Lib.hid (box4_bel HBX.out hb)
              clear hb
              obtain ⟨k0, k1, k2, k3⟩ := HBX.out.cells
              go_wp2_with fail
              clear k0 k1 k2 k3
              refine (HI5.out _ (Reads.of_own HO.out) (Reads.of_own HM.out) (HTB.out _ HB.out)).mono ?_
              rintro e wz ⟨rfl, hb⟩
              have HB := Lib.hid (HB.out.trans (hb.mono HB.out.size))
              have HO := Lib.hid (own_below HO.out hb)
              have HM := Lib.hid (own_below HM.out hb)
              have HBX := Lib.hid (box4_bel HBX.out hb)
              clear hb
              obtain ⟨k0, k1, k2, k3⟩ := HBX.out.cells
              go_wp2_with fail
              clear k0 k1 k2 k3
              refine (HI6.out _ (Reads.of_own HO.out) (Reads.of_own HM.out)).mono ?_
              rintro e wz ⟨rfl, hb⟩
              have HB := Lib.hid (HB.out.trans (hb.mono HB.out.size))
              have HO := Lib.hid (own_below HO.out hb)
              have HM := Lib.hid (own_below HM.out hb)
              have HBX := Lib.hid (box4_bel HBX.out hb)
              clear hb
              clear HI1 HI2 HI3 HI4 HI5 HI6
              cases af with
              | false =>
                go_wp2
                go_ret
                exact ⟨rfl, HB.out⟩
              | true =>
                obtain ⟨e1, e2, e3'⟩ := HYE.out rfl
                obtain ⟨hp2, hg2, h30, hms2⟩ := allAsk_of (HAF.out.trans rfl)
                have HASK2 := Lib.hid HAF.out
                have hbd2 := Lib.hid (wagesF_bd hp2 hg2 (allB_true.1 hms2) 0)
                have hws : (wagesF qa qb qc qd out2 ms2 0).length = ms2.length := by simp
                have HWS := Lib.hid hws
                have HAT := Lib.hid (fun (k : Nat) (hk : k < ms2.length) => wages_at (a := qa) (b := qb) (c := qc) (d := qd) (l := out2) hk)
                have HWR := Lib.hid (fun (k : Nat) (hk : k < ms2.length) => wageR_at (a := qa) (b := qb) (c := qc) (d := qd) (l := out2) HASK2.out hk)
                have hpos2 : 0 < (wagesF qa qb qc qd out2 ms2 0).length := by rw [hws]; omega
                have HBF := Lib.hid (bestW_facts hpos2)
                have HM30 := Lib.hid h30
                clear hp2 hg2 h30 hms2 hws hpos2 HYE HAF
                have HE1 := Lib.hid e1; have HE2 := Lib.hid e2; have HE3 := Lib.hid e3'
                clear e1 e2 e3'
                generalize wagesF qa qb qc qd out2 ms2 0 = ws at *
                have hl31 : ms2.length ≤ 31 := hlm2
                obtain ⟨k0, k1, k2, k3⟩ := HBX.out.cells
                go_wp2
                clear k0 k1 k2 k3
                obtain ⟨wL, rfl⟩ : ∃ wL, wL = wz := ⟨_, rfl⟩
                go_loopw [47, 329] (fun s i wr => ∃ k : Nat, k ≤ ms2.length ∧ i = .int .i64 k ∧ s = .int .i64 (sumL (ws.take k)) ∧ Below wL.heap.size wL wr) (fun _ i _ => ms2.length - (intOf i).toNat)
                case atStart => exact ⟨0, Nat.zero_le _, rfl, rfl, Below.refl _ _⟩
                case round =>
                  obtain ⟨k, hk, rfl, rfl, hb⟩ := hrel
                  have HBR := Lib.hid hb
                  clear hb
                  have hsb := sumL_bd (ws.take k) 0 1000000000 (fun x hx => hbd2.out x (List.mem_of_mem_take hx))
                  have htl : (ws.take k).length ≤ 31 := by simp; omega
                  have hs0 : 0 ≤ sumL (ws.take k) := by omega
                  have hs1 : sumL (ws.take k) ≤ 31000000000 := by omega
                  clear hsb htl
                  by_cases hlt : k < ms2.length
                  · obtain ⟨ad, u, rfl, hu, c0⟩ := (Reads.of_own (own_below HM.out HBR.out)).at_ hlt
                    have e0 : u = .int .i64 ms2[k] := by simp [ints, hlt] at hu; exact hu.symm
                    subst e0
                    have hat := HAT.out k hlt
                    have hwr := HWR.out k hlt
                    have hkw : k < ws.length := by rw [HWS.out]; exact hlt
                    have HTK := Lib.hid (sumL_take hkw)
                    have hgk := hat
                    rw [List.getElem?_eq_getElem hkw] at hgk
                    injection hgk with hgk
                    rw [hgk] at HTK
                    obtain ⟨hle, hbest⟩ := HBF.out k _ hat
                    have hvb := hbd2.out _ (List.mem_of_getElem? hat)
                    have CW := fun W (hW : Reads W 3 B2 out2.length (rows3 out2)) => implWageOf_any qa qb qc qd B2 out2.length m2 out2 ((k : Int) + 1) ms2[k] W (by omega) hW (own_cap HO.out)
                    rw [hwr] at CW
                    have HCW := Lib.hid CW
                    clear CW hwr hat hgk hu
                    generalize wage qa qb qc qd out2 ((k : Int) + 1) ms2[k] = v at *
                    generalize ms2[k] = x at *
                    generalize sumL (ws.take k) = S at *
                    have h2 := HE2.out
                    have h3 := HE3.out
                    rw [← h3] at hle hbest
                    have HBB := Lib.hid (fun (e : v = b2) => (show b1 ≤ (k : Int) + 1 by have := hbest e; omega))
                    clear h2 h3 hbest
                    obtain ⟨k0, k1, k2, k3⟩ := (box4_bel HBX.out HBR.out).cells
                    go_wp2_with fail
                    clear k0 k1 k2 k3 c0
                    refine (HCW.out _ ((Reads.of_own HO.out).below HBR.out)).mono ?_
                    rintro e wi ⟨rfl, hb⟩
                    have HBR := Lib.hid (HBR.out.trans (hb.mono HBR.out.size))
                    clear hb
                    have hle2 : ¬ b2 < v := by omega
                    by_cases heq : v = b2
                    · have hb1 := HBB.out heq
                      have hb1' : ¬ (k : Int) + 1 < b1 := by omega
                      subst heq
                      go_wp2
                      go_roundw
                      case rel => exact ⟨k + 1, by omega, by go_num, by rw [HTK.out], HBR.out⟩
                      case measure => simp [intOf]; omega
                    · have heq' : (v == b2) = false := by rw [beq_eq_false_iff_ne]; exact heq
                      go_wp2
                      go_roundw
                      case rel => exact ⟨k + 1, by omega, by go_num, by rw [HTK.out], HBR.out⟩
                      case measure => simp [intOf]; omega
                  · have e : ws.take k = ws := List.take_of_length_le (by rw [HWS.out]; omega)
                    rw [e]
                    have h1 := HE1.out
                    go_wp2
                    go_ret
                    exact ⟨ret_bool (by first | rfl | (rw [HE1.out]; first | rfl | (simp; done))), HB.out.trans (HBR.out.mono HB.out.size)⟩
          · have hwf : wv = A1 + NG + C1 := by omega
            rw [hwf] at hww
            clear hwe
            as_aux_lemma =>
              go_wp2_with fail
              refine (drawWageBill_any AM n1 cM lM _ (by omega) HL1.out (HR1.out.below HB.out)).mono ?_
              rintro e wz ⟨qa, qb, qc, qd, B2, m2, out2, E2, e2, ms2, rfl, _, hlo2, hlm2, ho, hom, hb⟩
              have HB := Lib.hid (HB.out.trans (hb.mono HB.out.size))
              have HO := Lib.hid ho; have HM := Lib.hid hom
              clear ho hom hb HBX
              obtain ⟨wQ, rfl⟩ : ∃ wQ, wQ = wz := ⟨_, rfl⟩
              have HWQ : Hid (Below wQ.heap.size wQ (wQ.alloc (.cells #[.int .i64 qa, .int .i64 qb, .int .i64 qc, .int .i64 qd] 29))) := Lib.hid ((Below.refl _ _).alloc (Nat.le_refl _) _)
              have HBX := Lib.hid (Box4.new wQ 29 (.int .i64 qa) (.int .i64 qb) (.int .i64 qc) (.int .i64 qd))
              have HB := Lib.hid (HB.out.trans (HWQ.out.mono HB.out.size))
              have HO := Lib.hid (own_below HO.out HWQ.out); have HM := Lib.hid (own_below HM.out HWQ.out)
              have hfl := all_flags qa qb qc qd out2 ms2
              have HYE := Lib.hid (bill_yes (a := qa) (b := qb) (c := qc) (d := qd) (l := out2) (ms := ms2))
              have I1 := fun W (hW : Reads W 3 B2 out2.length (rows3 out2)) (hM : Reads W 1 E2 ms2.length (ints ms2)) => implWageBill_any qa qb qc qd B2 out2.length m2 out2 E2 ms2.length e2 ms2 W (by omega) hW (own_cap HO.out) (by omega) hM (own_cap HM.out)
              have I2 := fun W (hW : Reads W 3 B2 out2.length (rows3 out2)) (hM : Reads W 1 E2 ms2.length (ints ms2)) => specWageBill_any qa qb qc qd B2 out2.length m2 out2 E2 ms2.length e2 ms2 W (by omega) hW (own_cap HO.out) (by omega) hM (own_cap HM.out)
              have I3 := fun W (hW : Reads W 3 B2 out2.length (rows3 out2)) (hM : Reads W 1 E2 ms2.length (ints ms2)) => implBestPaid_any qa qb qc qd B2 out2.length m2 out2 E2 ms2.length e2 ms2 W (by omega) hW (own_cap HO.out) (by omega) hM (own_cap HM.out)
              have I4 := fun W (hW : Reads W 3 B2 out2.length (rows3 out2)) (hM : Reads W 1 E2 ms2.length (ints ms2)) => specBestPaid_any qa qb qc qd B2 out2.length m2 out2 E2 ms2.length e2 ms2 W (by omega) hW (own_cap HO.out) (by omega) hM (own_cap HM.out)
              have I5 := fun W (hW : Reads W 3 B2 out2.length (rows3 out2)) (hM : Reads W 1 E2 ms2.length (ints ms2)) (hT : TabP W) => implWageTable_any qa qb qc qd B2 out2.length m2 out2 E2 ms2.length e2 ms2 W (by omega) hW (own_cap HO.out) (by omega) hM (own_cap HM.out) hT
              have I6 := fun W (hW : Reads W 3 B2 out2.length (rows3 out2)) (hM : Reads W 1 E2 ms2.length (ints ms2)) => specWageTable_any qa qb qc qd B2 out2.length m2 out2 E2 ms2.length e2 ms2 W (by omega) hW (own_cap HO.out) (by omega) hM (own_cap HM.out)
              rw [hfl.1] at I1 I2
              rw [hfl.2.1] at I3 I4
              rw [hfl.2.2] at I5 I6
              have HI1 := Lib.hid I1; have HI2 := Lib.hid I2; have HI3 := Lib.hid I3; have HI4 := Lib.hid I4; have HI5 := Lib.hid I5; have HI6 := Lib.hid I6
              clear I1 I2 I3 I4 I5 I6 hfl
              obtain ⟨af, haf⟩ : ∃ af, allAsk qa qb qc qd out2 ms2 = af := ⟨_, rfl⟩
              rw [haf] at HI1 HI2 HI3 HI4 HI5 HI6 HYE
              have HAF := Lib.hid haf
              clear haf
              generalize (billR qa qb qc qd out2 ms2).1 = bv at *
              generalize (bestR qa qb qc qd out2 ms2).1 = b1 at *
              generalize (bestR qa qb qc qd out2 ms2).2.1 = b2 at *
              generalize (tableR qa qb qc qd out2 ms2).1 = tb at *
              skip
              go_wp2_with fail
              skip
              refine (HI1.out _ (Reads.of_own HO.out) (Reads.of_own HM.out)).mono ?_
              rintro e wz ⟨rfl, hb⟩
              have HB := Lib.hid (HB.out.trans (hb.mono HB.out.size))
              have HO := Lib.hid (own_below HO.out hb)
              have HM := Lib.hid (own_below HM.out hb)
              have HBX := Lib.hid (box4_bel HBX.out hb)
              clear hb
              obtain ⟨k0, k1, k2, k3⟩ := HBX.out.cells
              go_wp2_with fail
              clear k0 k1 k2 k3
              refine (HI2.out _ (Reads.of_own HO.out) (Reads.of_own HM.out)).mono ?_
              rintro e wz ⟨rfl, hb⟩
              have HB := Lib.hid (HB.out.trans (hb.mono HB.out.size))
              have HO := Lib.hid (own_below HO.out hb)
              have HM := Lib.hid (own_below HM.out hb)
              have HBX := Lib.hid (box4_bel HBX.out hb)
              clear hb
              obtain ⟨k0, k1, k2, k3⟩ := HBX.out.cells
              go_wp2_with fail
              clear k0 k1 k2 k3
              refine (HI3.out _ (Reads.of_own HO.out) (Reads.of_own HM.out)).mono ?_
              rintro e wz ⟨rfl, hb⟩
              have HB := Lib.hid (HB.out.trans (hb.mono HB.out.size))
              have HO := Lib.hid (own_below HO.out hb)
              have HM := Lib.hid (own_below HM.out hb)
              have HBX := Lib.hid (box4_bel HBX.out hb)
              clear hb
              obtain ⟨k0, k1, k2, k3⟩ := HBX.out.cells
              go_wp2_with fail
              clear k0 k1 k2 k3
              refine (HI4.out _ (Reads.of_own HO.out) (Reads.of_own HM.out)).mono ?_
              rintro e wz ⟨rfl, hb⟩
              have HB := Lib.hid (HB.out.trans (hb.mono HB.out.size))
              have HO := Lib.hid (own_below HO.out hb)
              have HM := Lib.hid (own_below HM.out hb)
              have HBX := Lib.hid (box4_bel HBX.out hb)
              clear hb
              obtain ⟨k0, k1, k2, k3⟩ := HBX.out.cells
              go_wp2_with fail
              clear k0 k1 k2 k3
              refine (HI5.out _ (Reads.of_own HO.out) (Reads.of_own HM.out) (HTB.out _ HB.out)).mono ?_
              rintro e wz ⟨rfl, hb⟩
              have HB := Lib.hid (HB.out.trans (hb.mono HB.out.size))
              have HO := Lib.hid (own_below HO.out hb)
              have HM := Lib.hid (own_below HM.out hb)
              have HBX := Lib.hid (box4_bel HBX.out hb)
              clear hb
              obtain ⟨k0, k1, k2, k3⟩ := HBX.out.cells
              go_wp2_with fail
              clear k0 k1 k2 k3
              refine (HI6.out _ (Reads.of_own HO.out) (Reads.of_own HM.out)).mono ?_
              rintro e wz ⟨rfl, hb⟩
              have HB := Lib.hid (HB.out.trans (hb.mono HB.out.size))
              have HO := Lib.hid (own_below HO.out hb)
              have HM := Lib.hid (own_below HM.out hb)
              have HBX := Lib.hid (box4_bel HBX.out hb)
              clear hb
              clear HI1 HI2 HI3 HI4 HI5 HI6
              cases af with
              | false =>
                go_wp2
                go_ret
                exact ⟨rfl, HB.out⟩
              | true =>
                obtain ⟨e1, e2, e3'⟩ := HYE.out rfl
                obtain ⟨hp2, hg2, h30, hms2⟩ := allAsk_of (HAF.out.trans rfl)
                have HASK2 := Lib.hid HAF.out
                have hbd2 := Lib.hid (wagesF_bd hp2 hg2 (allB_true.1 hms2) 0)
                have hws : (wagesF qa qb qc qd out2 ms2 0).length = ms2.length := by simp
                have HWS := Lib.hid hws
                have HAT := Lib.hid (fun (k : Nat) (hk : k < ms2.length) => wages_at (a := qa) (b := qb) (c := qc) (d := qd) (l := out2) hk)
                have HWR := Lib.hid (fun (k : Nat) (hk : k < ms2.length) => wageR_at (a := qa) (b := qb) (c := qc) (d := qd) (l := out2) HASK2.out hk)
                have hpos2 : 0 < (wagesF qa qb qc qd out2 ms2 0).length := by rw [hws]; omega
                have HBF := Lib.hid (bestW_facts hpos2)
                have HM30 := Lib.hid h30
                clear hp2 hg2 h30 hms2 hws hpos2 HYE HAF
                have HE1 := Lib.hid e1; have HE2 := Lib.hid e2; have HE3 := Lib.hid e3'
                clear e1 e2 e3'
                generalize wagesF qa qb qc qd out2 ms2 0 = ws at *
                have hl31 : ms2.length ≤ 31 := hlm2
                obtain ⟨k0, k1, k2, k3⟩ := HBX.out.cells
                go_wp2
                clear k0 k1 k2 k3
                obtain ⟨wL, rfl⟩ : ∃ wL, wL = wz := ⟨_, rfl⟩
                go_loopw [47, 329] (fun s i wr => ∃ k : Nat, k ≤ ms2.length ∧ i = .int .i64 k ∧ s = .int .i64 (sumL (ws.take k)) ∧ Below wL.heap.size wL wr) (fun _ i _ => ms2.length - (intOf i).toNat)
                case atStart => exact ⟨0, Nat.zero_le _, rfl, rfl, Below.refl _ _⟩
                case round =>
                  obtain ⟨k, hk, rfl, rfl, hb⟩ := hrel
                  have HBR := Lib.hid hb
                  clear hb
                  have hsb := sumL_bd (ws.take k) 0 1000000000 (fun x hx => hbd2.out x (List.mem_of_mem_take hx))
                  have htl : (ws.take k).length ≤ 31 := by simp; omega
                  have hs0 : 0 ≤ sumL (ws.take k) := by omega
                  have hs1 : sumL (ws.take k) ≤ 31000000000 := by omega
                  clear hsb htl
                  by_cases hlt : k < ms2.length
                  · obtain ⟨ad, u, rfl, hu, c0⟩ := (Reads.of_own (own_below HM.out HBR.out)).at_ hlt
                    have e0 : u = .int .i64 ms2[k] := by simp [ints, hlt] at hu; exact hu.symm
                    subst e0
                    have hat := HAT.out k hlt
                    have hwr := HWR.out k hlt
                    have hkw : k < ws.length := by rw [HWS.out]; exact hlt
                    have HTK := Lib.hid (sumL_take hkw)
                    have hgk := hat
                    rw [List.getElem?_eq_getElem hkw] at hgk
                    injection hgk with hgk
                    rw [hgk] at HTK
                    obtain ⟨hle, hbest⟩ := HBF.out k _ hat
                    have hvb := hbd2.out _ (List.mem_of_getElem? hat)
                    have CW := fun W (hW : Reads W 3 B2 out2.length (rows3 out2)) => implWageOf_any qa qb qc qd B2 out2.length m2 out2 ((k : Int) + 1) ms2[k] W (by omega) hW (own_cap HO.out)
                    rw [hwr] at CW
                    have HCW := Lib.hid CW
                    clear CW hwr hat hgk hu
                    generalize wage qa qb qc qd out2 ((k : Int) + 1) ms2[k] = v at *
                    generalize ms2[k] = x at *
                    generalize sumL (ws.take k) = S at *
                    have h2 := HE2.out
                    have h3 := HE3.out
                    rw [← h3] at hle hbest
                    have HBB := Lib.hid (fun (e : v = b2) => (show b1 ≤ (k : Int) + 1 by have := hbest e; omega))
                    clear h2 h3 hbest
                    obtain ⟨k0, k1, k2, k3⟩ := (box4_bel HBX.out HBR.out).cells
                    go_wp2_with fail
                    clear k0 k1 k2 k3 c0
                    refine (HCW.out _ ((Reads.of_own HO.out).below HBR.out)).mono ?_
                    rintro e wi ⟨rfl, hb⟩
                    have HBR := Lib.hid (HBR.out.trans (hb.mono HBR.out.size))
                    clear hb
                    have hle2 : ¬ b2 < v := by omega
                    by_cases heq : v = b2
                    · have hb1 := HBB.out heq
                      have hb1' : ¬ (k : Int) + 1 < b1 := by omega
                      subst heq
                      go_wp2
                      go_roundw
                      case rel => exact ⟨k + 1, by omega, by go_num, by rw [HTK.out], HBR.out⟩
                      case measure => simp [intOf]; omega
                    · have heq' : (v == b2) = false := by rw [beq_eq_false_iff_ne]; exact heq
                      go_wp2
                      go_roundw
                      case rel => exact ⟨k + 1, by omega, by go_num, by rw [HTK.out], HBR.out⟩
                      case measure => simp [intOf]; omega
                  · have e : ws.take k = ws := List.take_of_length_le (by rw [HWS.out]; omega)
                    rw [e]
                    have h1 := HE1.out
                    go_wp2
                    go_ret
                    exact ⟨ret_bool (by first | rfl | (rw [HE1.out]; first | rfl | (simp; done))), HB.out.trans (HBR.out.mono HB.out.size)⟩

end Go.Proofs.YtiofgoppgdgbaaaDoor
