/- The law of rebuilt logs: the walk. No conditions. -/
import Derived.Test.YtcjmlakmigfkfaaRbP
import Derived.Test.YtcjmlakmigfkfaaOnly
import Derived.Test.YtcjmlakmigfkfaaSamL
import Derived.Test.YtcjmlakmigfkfaaLog14
import Derived.Test.YtcjmlakmigfkfaaLog15
import Derived.Test.YtcjmlakmigfkfaaLg5
import Derived.Test.YtcjmlakmigfkfaaBig
namespace Go.Proofs.Ytcjmlakmigfkfaa
set_option linter.unusedSimpArgs false
set_option linter.unusedVariables false
open Go.RowKit

theorem reb_facts (L M : List EntryT) (a b : Int) : (timeR L M a b).2 = (rebR L M a b).2 ∧ ((rebR L M a b).2 = true → askE L M a b = true ∧ (rebR L M a b).1 = rebE a b (togE M L) ∧ (timeR L M a b).1 = (togE M L).map (gapOf a b)) := by
  unfold timeR rebR
  cases h : askE L M a b with
  | false => simp
  | true => simp [gapsE]
theorem beh_only (L M : List EntryT) : behR M L = onlyR L M := by
  unfold behR onlyR
  rw [Bool.and_comm]
theorem onlyR_bd (L M : List EntryT) : (onlyR L M).1.length ≤ L.length ∧ ∀ l ∈ (onlyR L M).1, l.length = 2 := by
  unfold onlyR
  split
  · exact ⟨onlyE_len M L, onlyE_two M L⟩
  · exact ⟨Nat.zero_le _, fun l hl => by simp at hl⟩
theorem behR_bd (L M : List EntryT) : (behR L M).1.length ≤ M.length ∧ ∀ l ∈ (behR L M).1, l.length = 2 := by
  rw [beh_only]; exact onlyR_bd M L
theorem ask_good {L M : List EntryT} {a b : Int} (h : askE L M a b = true) : (goodE L && goodE M) = true := by
  obtain ⟨h1, h2, _⟩ := askE_true h
  rw [h1, h2]; rfl

set_option maxHeartbeats 40000000 in
set_option maxRecDepth 100000 in
theorem law_FnRebuilt (w : World) {v0 v1 : Value} (h0 : IsBytes w v0) (h1 : IsBytes w v1) :
    Calls Try.prog 8 #[v0, v1] w fun e w' => e = .returned (.bool true) ∧ Below w.heap.size w w' := by
  obtain ⟨A0, n0, c0, l0, rfl, hnc0, hcm0, hr0, hb0⟩ := h0
  obtain ⟨A9, n9, c9, l9, rfl, hnc9, hcm9, hr9, hb9⟩ := h1
  have HR0 := Lib.hid hr0; have HR9 := Lib.hid hr9; have HL0 := Lib.hid hb0; have HL9 := Lib.hid hb9
  clear hr0 hr9 hb0 hb9
  have HB : Hid (Below w.heap.size w w) := Lib.hid (Below.refl _ _)
  have CB := big_any A0 n0 c0 A9 n9 c9 w (by omega) (by omega)
  cases hbig : bigB n0 n9 with
  | true =>
    rw [hbig] at CB
    have HCB := Lib.hid CB
    clear CB
    go_enter Try.func8, Try.ntmps8
    go_wp2_with fail
    refine (HCB.out).mono ?_
    rintro e w1 ⟨rfl, rfl⟩
    go_wp2
    go_ret
    exact ⟨rfl, Below.refl _ _⟩
  | false =>
  rw [hbig] at CB
  have HCB := Lib.hid CB
  clear CB
  go_enter Try.func8, Try.ntmps8
  go_wp2_with fail
  refine (HCB.out).mono ?_
  rintro e w1 ⟨rfl, rfl⟩
  clear HCB
  go_wp2_with fail
  refine (drawRebuildLog_any A0 n0 c0 l0 _ (by omega) HL0.out HR0.out).mono ?_
  rintro e w1 ⟨A1, n1, c1, L1, A2, n2, c2, L2, ar, le, rfl, h1, h2, hb⟩
  replace HB := Lib.hid (HB.out.trans hb)
  have H1 := Lib.hid h1; have H2 := Lib.hid h2
  clear h1 h2 hb
  have HBG := Lib.hid hbig
  clear hbig

  go_wp2_with fail
  refine (implRebuildLog_any A1 n1 c1 L1 A2 n2 c2 L2 ar le _ (by have := H1.out.few; omega) (fun x hx => shE_len (H1.out.sh x hx)) H1.out.rd H1.out.cap (by have := H2.out.few; omega) (fun x hx => shE_len (H2.out.sh x hx)) H2.out.rd H2.out.cap).mono ?_
  rintro e wz ⟨Q1, q1, hs1, rfl, ho, hb⟩
  replace HB := Lib.hid (HB.out.trans (hb.mono HB.out.size))
  replace H1 := Lib.hid (H1.out.below hb)
  replace H2 := Lib.hid (H2.out.below hb)
  have HQ1 := Lib.hid (Reads2.of_own ho)
  have HCAP1 := Lib.hid (own_cap ho.row)
  clear hb ho
  obtain ⟨wy, rfl⟩ : ∃ wy, wy = wz := ⟨_, rfl⟩
  go_wp2_with fail
  refine (specRebuildLog_any A1 n1 c1 L1 A2 n2 c2 L2 ar le _ (by have := H1.out.few; omega) (fun x hx => shE_len (H1.out.sh x hx)) H1.out.rd H1.out.cap (by have := H2.out.few; omega) (fun x hx => shE_len (H2.out.sh x hx)) H2.out.rd H2.out.cap).mono ?_
  rintro e wz ⟨Q2, q2, hs2, rfl, ho, hb⟩
  replace HB := Lib.hid (HB.out.trans (hb.mono HB.out.size))
  replace H1 := Lib.hid (H1.out.below hb)
  replace H2 := Lib.hid (H2.out.below hb)
  replace HQ1 := Lib.hid (HQ1.out.below hb)
  have HQ2 := Lib.hid (Reads2.of_own ho)
  clear hb ho
  obtain ⟨wy, rfl⟩ : ∃ wy, wy = wz := ⟨_, rfl⟩
  go_wp2_with fail
  refine (implTimeGaps_any A1 n1 c1 L1 A2 n2 c2 L2 ar le _ (by have := H1.out.few; omega) (fun x hx => shE_len (H1.out.sh x hx)) H1.out.rd H1.out.cap (by have := H2.out.few; omega) (fun x hx => shE_len (H2.out.sh x hx)) H2.out.rd H2.out.cap).mono ?_
  rintro e wz ⟨Q3, q3, rfl, ho, hb⟩
  replace HB := Lib.hid (HB.out.trans (hb.mono HB.out.size))
  replace H1 := Lib.hid (H1.out.below hb)
  replace H2 := Lib.hid (H2.out.below hb)
  replace HQ1 := Lib.hid (HQ1.out.below hb)
  replace HQ2 := Lib.hid (HQ2.out.below hb)
  have HQ3 := Lib.hid (Reads.of_own ho)
  clear hb ho
  obtain ⟨wy, rfl⟩ : ∃ wy, wy = wz := ⟨_, rfl⟩
  go_wp2_with fail
  refine (specTimeGaps_any A1 n1 c1 L1 A2 n2 c2 L2 ar le _ (by have := H1.out.few; omega) (fun x hx => shE_len (H1.out.sh x hx)) H1.out.rd H1.out.cap (by have := H2.out.few; omega) (fun x hx => shE_len (H2.out.sh x hx)) H2.out.rd H2.out.cap).mono ?_
  rintro e wz ⟨Q4, q4, rfl, ho, hb⟩
  replace HB := Lib.hid (HB.out.trans (hb.mono HB.out.size))
  replace H1 := Lib.hid (H1.out.below hb)
  replace H2 := Lib.hid (H2.out.below hb)
  replace HQ1 := Lib.hid (HQ1.out.below hb)
  replace HQ2 := Lib.hid (HQ2.out.below hb)
  replace HQ3 := Lib.hid (HQ3.out.below hb)
  have HQ4 := Lib.hid (Reads.of_own ho)
  clear hb ho
  obtain ⟨wy, rfl⟩ : ∃ wy, wy = wz := ⟨_, rfl⟩
  obtain ⟨hF1, hF2⟩ := reb_facts L1 L2 ar le
  rw [hF1]
  have HF := Lib.hid hF2
  have HRN := Lib.hid (rebR_len L1 L2 ar le); have HRL : Hid (∀ x ∈ (rebR L1 L2 ar le).1, lenE 1000000000 x) := Lib.hid (fun x hx => by have := rebR_all L1 L2 ar le x hx; unfold lenE; omega)
  have HTN := Lib.hid (timeR_len L1 L2 ar le)
  clear hF1 hF2
  generalize (rebR L1 L2 ar le).1 = RL at *
  generalize (rebR L1 L2 ar le).2 = ok at *
  generalize (timeR L1 L2 ar le).1 = G at *
  have hrn := HRN.out
  have htn := HTN.out
  go_wp2_with fail
  refine (pSameLog_same Q1 Q2 RL.length q1 q2 RL _ (by omega) HRL.out HQ1.out HQ2.out).mono ?_
  rintro e wz ⟨rfl, hb⟩
  replace HB := Lib.hid (HB.out.trans (hb.mono HB.out.size))
  replace H1 := Lib.hid (H1.out.below hb)
  replace H2 := Lib.hid (H2.out.below hb)
  replace HQ1 := Lib.hid (HQ1.out.below hb)
  replace HQ2 := Lib.hid (HQ2.out.below hb)
  replace HQ3 := Lib.hid (HQ3.out.below hb)
  replace HQ4 := Lib.hid (HQ4.out.below hb)
  clear hb
  obtain ⟨wy, rfl⟩ : ∃ wy, wy = wz := ⟨_, rfl⟩
  go_wp2_with fail
  refine (pSameGaps_same Q3 Q4 G.length q3 q4 G _ (by omega) HQ3.out HQ4.out).mono ?_
  rintro e wz ⟨rfl, hb⟩
  replace HB := Lib.hid (HB.out.trans (hb.mono HB.out.size))
  replace H1 := Lib.hid (H1.out.below hb)
  replace H2 := Lib.hid (H2.out.below hb)
  replace HQ1 := Lib.hid (HQ1.out.below hb)
  replace HQ2 := Lib.hid (HQ2.out.below hb)
  replace HQ3 := Lib.hid (HQ3.out.below hb)
  replace HQ4 := Lib.hid (HQ4.out.below hb)
  clear hb
  obtain ⟨wy, rfl⟩ : ∃ wy, wy = wz := ⟨_, rfl⟩
  go_upto_if 117 with fail
  obtain ⟨wA, rfl⟩ : ∃ wA, wA = wy := ⟨_, rfl⟩
  go_cut [] from 500 to 500 (fun wx => Below wA.heap.size wA wx)
  case first =>
    as_aux_lemma =>
    have HQ : Hid (Below wA.heap.size wA wA) := Lib.hid (Below.refl _ _)
    cases ok with
    | false =>
      go_wp2_with fail
      go_meet
      case rel => exact HQ.out
    | true =>
      obtain ⟨hask, hre, hge⟩ := HF.out rfl
      have HASK := Lib.hid hask
      have HGL : Hid (goodE RL = true) := Lib.hid (by rw [hre]; exact rebE_good hask)
      have HON : Hid (openN G = RL.length) := Lib.hid (by rw [hge, hre]; exact openN_rebE ar le _)
      have HGN : Hid (G.length = (togE L2 L1).length) := Lib.hid (by rw [hge, List.length_map])
      have HFT : Hid (fitsR RL L1 L2 ar le = (decide (RL.length = G.length), true)) := Lib.hid (by
        unfold fitsR
        rw [if_pos (by rw [HGL.out, hask]; rfl), hre, law_fits hask, HGN.out])
      have HCH : Hid (chgR L1 L2 = (chgE (togE L2 L1), true)) := Lib.hid (by unfold chgR; rw [if_pos (ask_good hask)])
      have HCL : Hid ((chI RL 0).length ≤ (chgE (togE L2 L1)).length) := Lib.hid (by rw [hre]; exact chI_chg ar le _ 0)
      have HCB := Lib.hid (chgR_bd L1 L2)
      clear hask hre hge HF HGN
      go_wp2_with fail
      go_loopw [17, 120] (fun o i wr => ∃ k q : Nat, k ≤ G.length ∧ i = .int .i64 k ∧ o = .int .i64 q ∧ q ≤ k ∧ q + openN (G.drop k) = openN G ∧ Below wA.heap.size wA wr) (fun _ i _ => G.length - (intOf i).toNat)
      case atStart => exact ⟨0, 0, Nat.zero_le _, rfl, rfl, Nat.le_refl _, by simp, HQ.out⟩
      case round =>
        obtain ⟨k, q, hk, rfl, rfl, hqk, hrel, hb⟩ := hrel
        have HREL := Lib.hid hrel; have HBR := Lib.hid hb
        clear hrel hb HQ
        by_cases hlt : k < G.length
        · obtain ⟨ga, rfl, k0, k1, k2, k3⟩ := rows4_at (HQ4.out.below HBR.out) hlt rfl
          have HD := Lib.hid (drop_cons hlt)
          generalize G[k] = x at *
          obtain ⟨xa, xb, xc, xd⟩ := x
          simp only at k0 k1 k2 k3
          have hkG : (k : Int) < (G.length : Int) := by omega
          by_cases hle : xc ≤ xd
          · have HN : Hid ((q + 1) + openN (G.drop (k + 1)) = openN G) := Lib.hid (by rw [← HREL.out, HD.out]; simp only [openN, if_pos hle]; omega)
            go_wp2_with fail
            go_roundw
            case rel => exact ⟨k + 1, q + 1, by omega, by go_num, by go_num, by omega, HN.out, HBR.out.alloc HBR.out.size _⟩
            case measure => first | (simp [intOf]; done) | (simp [intOf]; omega)
          · have HN : Hid (q + openN (G.drop (k + 1)) = openN G) := Lib.hid (by rw [← HREL.out, HD.out]; simp only [openN, if_neg hle]; omega)
            go_wp2_with fail
            go_roundw
            case rel => exact ⟨k + 1, q, by omega, by go_num, rfl, by omega, HN.out, HBR.out.alloc HBR.out.size _⟩
            case measure => first | (simp [intOf]; done) | (simp [intOf]; omega)
        · have hqo : q = RL.length := by
            have h := HREL.out
            rw [drop_end (by omega)] at h
            simpa [openN, HON.out] using h
          subst hqo
          clear HREL HON hqk
          replace HB := HBR
          obtain ⟨wy, rfl⟩ : ∃ wy, wy = wr := ⟨_, rfl⟩
          replace H1 := Lib.hid (H1.out.below HB.out); replace H2 := Lib.hid (H2.out.below HB.out); replace HQ1 := Lib.hid (HQ1.out.below HB.out); replace HQ2 := Lib.hid (HQ2.out.below HB.out)
          go_wp2_with fail
          refine (implFits_any Q1 RL.length q1 RL A1 n1 c1 L1 A2 n2 c2 L2 ar le _ (by omega) HRL.out HQ1.out HCAP1.out (by have := H1.out.few; omega) (fun x hx => shE_len (H1.out.sh x hx)) H1.out.rd H1.out.cap (by have := H2.out.few; omega) (fun x hx => shE_len (H2.out.sh x hx)) H2.out.rd H2.out.cap).mono ?_
          rintro e wz ⟨rfl, hb⟩
          replace HB := Lib.hid (HB.out.trans (hb.mono HB.out.size))
          replace H1 := Lib.hid (H1.out.below hb)
          replace H2 := Lib.hid (H2.out.below hb)
          replace HQ1 := Lib.hid (HQ1.out.below hb)
          replace HQ2 := Lib.hid (HQ2.out.below hb)
          clear hb
          obtain ⟨wy, rfl⟩ : ∃ wy, wy = wz := ⟨_, rfl⟩
          rw [HFT.out]
          go_wp2_with fail
          refine (changedEntries_good Q1 RL.length q1 RL _ HGL.out HCAP1.out HQ1.out).mono ?_
          rintro e wz ⟨R5, q5, rfl, ho, hb⟩
          replace HB := Lib.hid (HB.out.trans (hb.mono HB.out.size))
          replace H1 := Lib.hid (H1.out.below hb)
          replace H2 := Lib.hid (H2.out.below hb)
          replace HQ1 := Lib.hid (HQ1.out.below hb)
          replace HQ2 := Lib.hid (HQ2.out.below hb)
          have HQ5 := Lib.hid (Reads.of_own ho)
          clear hb ho
          obtain ⟨wy, rfl⟩ : ∃ wy, wy = wz := ⟨_, rfl⟩
          go_wp2_with fail
          refine (implChangedBetween_any A1 n1 c1 L1 A2 n2 c2 L2 _ (by have := H1.out.few; omega) (fun x hx => shE_len (H1.out.sh x hx)) H1.out.rd H1.out.cap (by have := H2.out.few; omega) (fun x hx => shE_len (H2.out.sh x hx)) H2.out.rd H2.out.cap).mono ?_
          rintro e wz ⟨Q6, q6, hs6, rfl, ho, hb⟩
          replace HB := Lib.hid (HB.out.trans (hb.mono HB.out.size))
          replace H1 := Lib.hid (H1.out.below hb)
          replace H2 := Lib.hid (H2.out.below hb)
          replace HQ1 := Lib.hid (HQ1.out.below hb)
          replace HQ2 := Lib.hid (HQ2.out.below hb)
          replace HQ5 := Lib.hid (HQ5.out.below hb)
          have HQ6 := Lib.hid (Reads2.of_own ho)
          clear hb ho
          obtain ⟨wy, rfl⟩ : ∃ wy, wy = wz := ⟨_, rfl⟩
          go_wp2_with fail
          refine (specChangedBetween_any A1 n1 c1 L1 A2 n2 c2 L2 _ (by have := H1.out.few; omega) (fun x hx => shE_len (H1.out.sh x hx)) H1.out.rd H1.out.cap (by have := H2.out.few; omega) (fun x hx => shE_len (H2.out.sh x hx)) H2.out.rd H2.out.cap).mono ?_
          rintro e wz ⟨Q7, q7, hs7, rfl, ho, hb⟩
          replace HB := Lib.hid (HB.out.trans (hb.mono HB.out.size))
          replace H1 := Lib.hid (H1.out.below hb)
          replace H2 := Lib.hid (H2.out.below hb)
          replace HQ1 := Lib.hid (HQ1.out.below hb)
          replace HQ2 := Lib.hid (HQ2.out.below hb)
          replace HQ5 := Lib.hid (HQ5.out.below hb)
          replace HQ6 := Lib.hid (HQ6.out.below hb)
          have HQ7 := Lib.hid (Reads2.of_own ho)
          clear hb ho
          obtain ⟨wy, rfl⟩ : ∃ wy, wy = wz := ⟨_, rfl⟩
          rw [HCH.out] at HCB HQ6 HQ7
          rw [HCH.out]
          simp only at HCB HQ6 HQ7
          generalize chgE (togE L2 L1) = CG at *
          generalize hci : (chI RL 0).length = ci at *
          obtain ⟨hcb1, hcb2⟩ := HCB.out
          have HC2 := Lib.hid hcb2
          clear hcb2
          have hcl := HCL.out
          obtain ⟨fb, hfb⟩ : ∃ fb, decide (RL.length = G.length) = fb := ⟨_, rfl⟩
          rw [hfb]
          have hfb2 : ((RL.length : Int) == (G.length : Int)) = fb := by rw [← hfb]; by_cases h : RL.length = G.length <;> first | (simp [h]; done) | (simp [h]; omega)
          clear hfb
          go_wp2_with fail
          refine (isLog_any Q1 RL.length q1 RL _ (by omega) HCAP1.out HRL.out HQ1.out).mono ?_
          rintro e wz ⟨rfl, hb⟩
          replace HB := Lib.hid (HB.out.trans (hb.mono HB.out.size))
          replace H1 := Lib.hid (H1.out.below hb)
          replace H2 := Lib.hid (H2.out.below hb)
          replace HQ1 := Lib.hid (HQ1.out.below hb)
          replace HQ2 := Lib.hid (HQ2.out.below hb)
          replace HQ5 := Lib.hid (HQ5.out.below hb)
          replace HQ6 := Lib.hid (HQ6.out.below hb)
          replace HQ7 := Lib.hid (HQ7.out.below hb)
          clear hb
          obtain ⟨wy, rfl⟩ : ∃ wy, wy = wz := ⟨_, rfl⟩
          rw [HGL.out]
          go_wp2_with fail
          refine (sameLists_same Q6 Q7 CG.length q6 q7 CG _ (by omega) (fun l hl => by have := HC2.out l hl; omega) HQ6.out HQ7.out).mono ?_
          rintro e wz ⟨rfl, hb⟩
          replace HB := Lib.hid (HB.out.trans (hb.mono HB.out.size))
          replace H1 := Lib.hid (H1.out.below hb)
          replace H2 := Lib.hid (H2.out.below hb)
          replace HQ1 := Lib.hid (HQ1.out.below hb)
          replace HQ2 := Lib.hid (HQ2.out.below hb)
          replace HQ5 := Lib.hid (HQ5.out.below hb)
          replace HQ6 := Lib.hid (HQ6.out.below hb)
          replace HQ7 := Lib.hid (HQ7.out.below hb)
          clear hb
          obtain ⟨wy, rfl⟩ : ∃ wy, wy = wz := ⟨_, rfl⟩
          have hlf : decide ((CG.length : Int) < (ci : Int)) = false := by rw [decide_eq_false_iff_not]; omega
          go_wp2_with fail
          go_meet
          case rel => exact HB.out
  case rest =>
  as_aux_lemma =>
  have hb := hcut
  replace HB := Lib.hid (HB.out.trans (hb.mono HB.out.size))
  clear hb hcut HQ1 HQ2 HQ3 HQ4 H1 H2 HF HRN HRL HTN hrn htn HCAP1
  go_wp2_with fail
  refine (drawOnlyBefore_any A9 n9 c9 l9 _ (by omega) HL9.out (HR9.out.below HB.out)).mono ?_
  rintro e wz ⟨A1, n1, c1, L1, A2, n2, c2, L2, rfl, h1, h2, hb⟩
  replace HB := Lib.hid (HB.out.trans (hb.mono HB.out.size))
  have H1 := Lib.hid h1; have H2 := Lib.hid h2
  clear h1 h2 hb
  obtain ⟨wy, rfl⟩ : ∃ wy, wy = wz := ⟨_, rfl⟩
  go_wp2_with fail
  refine (implOnlyBefore_any A1 n1 c1 L1 A2 n2 c2 L2 _ (by have := H1.out.few; omega) (fun x hx => shE_len (H1.out.sh x hx)) H1.out.rd H1.out.cap (by have := H2.out.few; omega) (fun x hx => shE_len (H2.out.sh x hx)) H2.out.rd H2.out.cap).mono ?_
  rintro e wz ⟨Q1, q1, hs1, rfl, ho, hb⟩
  replace HB := Lib.hid (HB.out.trans (hb.mono HB.out.size))
  replace H1 := Lib.hid (H1.out.below hb)
  replace H2 := Lib.hid (H2.out.below hb)
  have HQ1 := Lib.hid (Reads2.of_own ho)
  clear hb ho
  obtain ⟨wy, rfl⟩ : ∃ wy, wy = wz := ⟨_, rfl⟩
  go_wp2_with fail
  refine (specOnlyBefore_any A1 n1 c1 L1 A2 n2 c2 L2 _ (by have := H1.out.few; omega) (fun x hx => shE_len (H1.out.sh x hx)) H1.out.rd H1.out.cap (by have := H2.out.few; omega) (fun x hx => shE_len (H2.out.sh x hx)) H2.out.rd H2.out.cap).mono ?_
  rintro e wz ⟨Q2, q2, hs2, rfl, ho, hb⟩
  replace HB := Lib.hid (HB.out.trans (hb.mono HB.out.size))
  replace H1 := Lib.hid (H1.out.below hb)
  replace H2 := Lib.hid (H2.out.below hb)
  replace HQ1 := Lib.hid (HQ1.out.below hb)
  have HQ2 := Lib.hid (Reads2.of_own ho)
  clear hb ho
  obtain ⟨wy, rfl⟩ : ∃ wy, wy = wz := ⟨_, rfl⟩
  go_wp2_with fail
  refine (implOnlyBehind_any A2 n2 c2 L2 A1 n1 c1 L1 _ (by have := H2.out.few; omega) (fun x hx => shE_len (H2.out.sh x hx)) H2.out.rd H2.out.cap (by have := H1.out.few; omega) (fun x hx => shE_len (H1.out.sh x hx)) H1.out.rd H1.out.cap).mono ?_
  rintro e wz ⟨Q3, q3, hs3, rfl, ho, hb⟩
  replace HB := Lib.hid (HB.out.trans (hb.mono HB.out.size))
  replace H1 := Lib.hid (H1.out.below hb)
  replace H2 := Lib.hid (H2.out.below hb)
  replace HQ1 := Lib.hid (HQ1.out.below hb)
  replace HQ2 := Lib.hid (HQ2.out.below hb)
  have HQ3 := Lib.hid (Reads2.of_own ho)
  clear hb ho
  obtain ⟨wy, rfl⟩ : ∃ wy, wy = wz := ⟨_, rfl⟩
  go_wp2_with fail
  refine (specOnlyBehind_any A2 n2 c2 L2 A1 n1 c1 L1 _ (by have := H2.out.few; omega) (fun x hx => shE_len (H2.out.sh x hx)) H2.out.rd H2.out.cap (by have := H1.out.few; omega) (fun x hx => shE_len (H1.out.sh x hx)) H1.out.rd H1.out.cap).mono ?_
  rintro e wz ⟨Q4, q4, hs4, rfl, ho, hb⟩
  replace HB := Lib.hid (HB.out.trans (hb.mono HB.out.size))
  replace H1 := Lib.hid (H1.out.below hb)
  replace H2 := Lib.hid (H2.out.below hb)
  replace HQ1 := Lib.hid (HQ1.out.below hb)
  replace HQ2 := Lib.hid (HQ2.out.below hb)
  replace HQ3 := Lib.hid (HQ3.out.below hb)
  have HQ4 := Lib.hid (Reads2.of_own ho)
  clear hb ho
  obtain ⟨wy, rfl⟩ : ∃ wy, wy = wz := ⟨_, rfl⟩
  have hbo := beh_only L1 L2
  rw [hbo] at HQ3 HQ4
  rw [hbo]
  clear hbo
  obtain ⟨hob1, hob2⟩ := onlyR_bd L1 L2
  have HOB := Lib.hid hob2
  have hl1 : L1.length ≤ 31 := by have := H1.out.len; have := H1.out.few; omega
  clear hob2
  generalize (onlyR L1 L2).1 = X at *
  generalize (onlyR L1 L2).2 = xo at *
  go_wp2_with fail
  refine (sameLists_same Q1 Q2 X.length q1 q2 X _ (by omega) (fun l hl => by have := HOB.out l hl; omega) HQ1.out HQ2.out).mono ?_
  rintro e wz ⟨rfl, hb⟩
  replace HB := Lib.hid (HB.out.trans (hb.mono HB.out.size))
  replace H1 := Lib.hid (H1.out.below hb)
  replace H2 := Lib.hid (H2.out.below hb)
  replace HQ1 := Lib.hid (HQ1.out.below hb)
  replace HQ2 := Lib.hid (HQ2.out.below hb)
  replace HQ3 := Lib.hid (HQ3.out.below hb)
  replace HQ4 := Lib.hid (HQ4.out.below hb)
  clear hb
  obtain ⟨wy, rfl⟩ : ∃ wy, wy = wz := ⟨_, rfl⟩
  go_wp2_with fail
  refine (sameLists_same Q3 Q4 X.length q3 q4 X _ (by omega) (fun l hl => by have := HOB.out l hl; omega) HQ3.out HQ4.out).mono ?_
  rintro e wz ⟨rfl, hb⟩
  replace HB := Lib.hid (HB.out.trans (hb.mono HB.out.size))
  replace H1 := Lib.hid (H1.out.below hb)
  replace H2 := Lib.hid (H2.out.below hb)
  replace HQ1 := Lib.hid (HQ1.out.below hb)
  replace HQ2 := Lib.hid (HQ2.out.below hb)
  replace HQ3 := Lib.hid (HQ3.out.below hb)
  replace HQ4 := Lib.hid (HQ4.out.below hb)
  clear hb
  obtain ⟨wy, rfl⟩ : ∃ wy, wy = wz := ⟨_, rfl⟩
  go_wp2_with fail
  refine (sameLists_same Q2 Q4 X.length q2 q4 X _ (by omega) (fun l hl => by have := HOB.out l hl; omega) HQ2.out HQ4.out).mono ?_
  rintro e wz ⟨rfl, hb⟩
  replace HB := Lib.hid (HB.out.trans (hb.mono HB.out.size))
  replace H1 := Lib.hid (H1.out.below hb)
  replace H2 := Lib.hid (H2.out.below hb)
  replace HQ1 := Lib.hid (HQ1.out.below hb)
  replace HQ2 := Lib.hid (HQ2.out.below hb)
  replace HQ3 := Lib.hid (HQ3.out.below hb)
  replace HQ4 := Lib.hid (HQ4.out.below hb)
  clear hb
  obtain ⟨wy, rfl⟩ : ∃ wy, wy = wz := ⟨_, rfl⟩
  clear HQ1 HQ2 HQ3 HQ4 H1 H2 HOB hl1 hob1
  go_wp2_with fail
  refine (drawChangedBetween_any A9 n9 c9 l9 _ (by omega) HL9.out (HR9.out.below HB.out)).mono ?_
  rintro e wz ⟨A1, n1, c1, L1, A2, n2, c2, L2, rfl, h1, h2, hb⟩
  replace HB := Lib.hid (HB.out.trans (hb.mono HB.out.size))
  have H1 := Lib.hid h1; have H2 := Lib.hid h2
  clear h1 h2 hb
  obtain ⟨wy, rfl⟩ : ∃ wy, wy = wz := ⟨_, rfl⟩
  go_wp2_with fail
  refine (implChangedBetween_any A1 n1 c1 L1 A2 n2 c2 L2 _ (by have := H1.out.few; omega) (fun x hx => shE_len (H1.out.sh x hx)) H1.out.rd H1.out.cap (by have := H2.out.few; omega) (fun x hx => shE_len (H2.out.sh x hx)) H2.out.rd H2.out.cap).mono ?_
  rintro e wz ⟨Q1, q1, hs1, rfl, ho, hb⟩
  replace HB := Lib.hid (HB.out.trans (hb.mono HB.out.size))
  replace H1 := Lib.hid (H1.out.below hb)
  replace H2 := Lib.hid (H2.out.below hb)
  have HQ1 := Lib.hid (Reads2.of_own ho)
  clear hb ho
  obtain ⟨wy, rfl⟩ : ∃ wy, wy = wz := ⟨_, rfl⟩
  go_wp2_with fail
  refine (specChangedBetween_any A1 n1 c1 L1 A2 n2 c2 L2 _ (by have := H1.out.few; omega) (fun x hx => shE_len (H1.out.sh x hx)) H1.out.rd H1.out.cap (by have := H2.out.few; omega) (fun x hx => shE_len (H2.out.sh x hx)) H2.out.rd H2.out.cap).mono ?_
  rintro e wz ⟨Q2, q2, hs2, rfl, ho, hb⟩
  replace HB := Lib.hid (HB.out.trans (hb.mono HB.out.size))
  replace H1 := Lib.hid (H1.out.below hb)
  replace H2 := Lib.hid (H2.out.below hb)
  replace HQ1 := Lib.hid (HQ1.out.below hb)
  have HQ2 := Lib.hid (Reads2.of_own ho)
  clear hb ho
  obtain ⟨wy, rfl⟩ : ∃ wy, wy = wz := ⟨_, rfl⟩
  clear H1 H2
  go_wp2_with fail
  refine (drawOnlyBehind_any A9 n9 c9 l9 _ (by omega) HL9.out (HR9.out.below HB.out)).mono ?_
  rintro e wz ⟨A3, n3, c3, L3, A4, n4, c4, L4, rfl, h1, h2, hb⟩
  replace HB := Lib.hid (HB.out.trans (hb.mono HB.out.size))
  replace HQ1 := Lib.hid (HQ1.out.below hb)
  replace HQ2 := Lib.hid (HQ2.out.below hb)
  have H3 := Lib.hid h1; have H4 := Lib.hid h2
  clear h1 h2 hb
  obtain ⟨wy, rfl⟩ : ∃ wy, wy = wz := ⟨_, rfl⟩
  go_wp2_with fail
  refine (implOnlyBehind_any A3 n3 c3 L3 A4 n4 c4 L4 _ (by have := H3.out.few; omega) (fun x hx => shE_len (H3.out.sh x hx)) H3.out.rd H3.out.cap (by have := H4.out.few; omega) (fun x hx => shE_len (H4.out.sh x hx)) H4.out.rd H4.out.cap).mono ?_
  rintro e wz ⟨Q3, q3, hs3, rfl, ho, hb⟩
  replace HB := Lib.hid (HB.out.trans (hb.mono HB.out.size))
  replace HQ1 := Lib.hid (HQ1.out.below hb)
  replace HQ2 := Lib.hid (HQ2.out.below hb)
  replace H3 := Lib.hid (H3.out.below hb)
  replace H4 := Lib.hid (H4.out.below hb)
  have HQ3 := Lib.hid (Reads2.of_own ho)
  clear hb ho
  obtain ⟨wy, rfl⟩ : ∃ wy, wy = wz := ⟨_, rfl⟩
  go_wp2_with fail
  refine (specOnlyBehind_any A3 n3 c3 L3 A4 n4 c4 L4 _ (by have := H3.out.few; omega) (fun x hx => shE_len (H3.out.sh x hx)) H3.out.rd H3.out.cap (by have := H4.out.few; omega) (fun x hx => shE_len (H4.out.sh x hx)) H4.out.rd H4.out.cap).mono ?_
  rintro e wz ⟨Q4, q4, hs4, rfl, ho, hb⟩
  replace HB := Lib.hid (HB.out.trans (hb.mono HB.out.size))
  replace HQ1 := Lib.hid (HQ1.out.below hb)
  replace HQ2 := Lib.hid (HQ2.out.below hb)
  replace H3 := Lib.hid (H3.out.below hb)
  replace H4 := Lib.hid (H4.out.below hb)
  replace HQ3 := Lib.hid (HQ3.out.below hb)
  have HQ4 := Lib.hid (Reads2.of_own ho)
  clear hb ho
  obtain ⟨wy, rfl⟩ : ∃ wy, wy = wz := ⟨_, rfl⟩
  obtain ⟨hc1, hc2⟩ := chgR_bd L1 L2
  obtain ⟨hd1, hd2⟩ := behR_bd L3 L4
  have HC2 := Lib.hid hc2; have HD2 := Lib.hid hd2
  have hl4 : L4.length ≤ 31 := by have := H4.out.len; have := H4.out.few; omega
  clear hc2 hd2
  generalize (chgR L1 L2).1 = X at *
  generalize (chgR L1 L2).2 = xo at *
  generalize (behR L3 L4).1 = Y at *
  generalize (behR L3 L4).2 = yo at *
  go_wp2_with fail
  refine (sameLists_same Q1 Q2 X.length q1 q2 X _ (by omega) (fun l hl => by have := HC2.out l hl; omega) HQ1.out HQ2.out).mono ?_
  rintro e wz ⟨rfl, hb⟩
  replace HB := Lib.hid (HB.out.trans (hb.mono HB.out.size))
  replace HQ1 := Lib.hid (HQ1.out.below hb)
  replace HQ2 := Lib.hid (HQ2.out.below hb)
  replace H3 := Lib.hid (H3.out.below hb)
  replace H4 := Lib.hid (H4.out.below hb)
  replace HQ3 := Lib.hid (HQ3.out.below hb)
  replace HQ4 := Lib.hid (HQ4.out.below hb)
  clear hb
  obtain ⟨wy, rfl⟩ : ∃ wy, wy = wz := ⟨_, rfl⟩
  go_wp2_with fail
  refine (sameLists_same Q3 Q4 Y.length q3 q4 Y _ (by omega) (fun l hl => by have := HD2.out l hl; omega) HQ3.out HQ4.out).mono ?_
  rintro e wz ⟨rfl, hb⟩
  replace HB := Lib.hid (HB.out.trans (hb.mono HB.out.size))
  replace HQ1 := Lib.hid (HQ1.out.below hb)
  replace HQ2 := Lib.hid (HQ2.out.below hb)
  replace H3 := Lib.hid (H3.out.below hb)
  replace H4 := Lib.hid (H4.out.below hb)
  replace HQ3 := Lib.hid (HQ3.out.below hb)
  replace HQ4 := Lib.hid (HQ4.out.below hb)
  clear hb
  obtain ⟨wy, rfl⟩ : ∃ wy, wy = wz := ⟨_, rfl⟩
  go_wp2
  go_ret
  exact ⟨ret_bool (by first | rfl | simp), HB.out⟩

end Go.Proofs.Ytcjmlakmigfkfaa
