/- The law of weather: the walk. No conditions. -/
import Derived.Test.YthpfgmnhpnfopaaWthP
import Derived.Test.YthpfgmnhpnfopaaWthH
import Derived.Test.YthpfgmnhpnfopaaDrZ
import Derived.Test.YthpfgmnhpnfopaaDrK
import Derived.Test.YthpfgmnhpnfopaaDrN
import Derived.Test.YthpfgmnhpnfopaaSmF
import Derived.Test.YthpfgmnhpnfopaaFoH
namespace Go.Proofs.Ythpfgmnhpnfopaa
set_option linter.unusedSimpArgs false
set_option linter.unusedVariables false
open Go.RowKit


set_option maxHeartbeats 8000000 in
set_option maxRecDepth 100000 in
theorem law_FnWeather (w : World) {v0 v1 : Value} (h0 : IsBytes w v0) (h1 : IsBytes w v1) :
    Calls Try.prog 14 #[v0, v1] w fun e w' => e = .returned (.bool true) ∧ Below w.heap.size w w' := by
  obtain ⟨A0, n0, c0, l0, rfl, hnc0, hcm0, hr0, hb0⟩ := h0
  obtain ⟨AM, n1, cM, lM, rfl, hnc1, hcm1, hr1, hb1⟩ := h1
  have HR0 := Lib.hid hr0; have HR1 := Lib.hid hr1; have HL0 := Lib.hid hb0; have HL1 := Lib.hid hb1
  clear hr0 hr1 hb0 hb1
  cases hbg : bigB n0 n1 with
  | true =>
    have CB := big_any A0 n0 c0 AM n1 cM w (by omega) (by omega)
    rw [hbg] at CB
    go_enter Try.func14, Try.ntmps14
    go_wp2_with fail
    refine CB.mono ?_
    rintro e w' ⟨rfl, rfl⟩
    go_wp2
    go_ret
    exact ⟨rfl, Below.refl _ _⟩
  | false =>
    have CB := big_any A0 n0 c0 AM n1 cM w (by omega) (by omega)
    rw [hbg] at CB
    have HCB := Lib.hid CB
    obtain ⟨hs0, hs1⟩ := bigB_no hbg
    clear CB hbg
    go_enter Try.func14, Try.ntmps14
    go_wp2_with fail
    refine HCB.out.mono ?_
    rintro e w' ⟨rfl, rfl⟩
    clear HCB
    go_wp2_with fail
    refine (drawFogsBySlots_any A0 n0 c0 l0 _ (by omega) HL0.out HR0.out).mono ?_
    rintro e wd ⟨At, ct, T, Ak, ck, K, B, b, d, L, rfl, hT, hK, hbl, hL, hoT, hoK, hrl, hb⟩
    have HT := Lib.hid ((Reads.of_own hoT).alloc (.cells #[.slice At (List.length T) ct, .slice Ak (List.length K) ck] 68)); have HK := Lib.hid ((Reads.of_own hoK).alloc (.cells #[.slice At (List.length T) ct, .slice Ak (List.length K) ck] 68))
    have HKB : Hid (∀ W, Below (wd.alloc (.cells #[.slice At (List.length T) ct, .slice Ak (List.length K) ck] 68)).heap.size (wd.alloc (.cells #[.slice At (List.length T) ct, .slice Ak (List.length K) ck] 68)) W → W.cell? ⟨wd.heap.size, 0, none⟩ = some (.slice At T.length ct) ∧ W.cell? ⟨wd.heap.size, 1, none⟩ = some (.slice Ak K.length ck)) := Lib.hid (fun W hW => ⟨(hW.cell (by simp)).trans (by simp), (hW.cell (by simp)).trans (by simp)⟩)
    have HB := Lib.hid (hb.alloc hb.size (.cells #[.slice At (List.length T) ct, .slice Ak (List.length K) ck] 68))
    have HRL := Lib.hid (hrl.alloc (.cells #[.slice At (List.length T) ct, .slice Ak (List.length K) ck] 68))
    have HLL := Lib.hid hL
    have HLB : Hid (L.length = b) := Lib.hid (by have := hrl.len; simpa using this)
    clear hoT hoK hrl hb hL
    go_wp2_with fail
    generalize wd.alloc (.cells #[.slice At (List.length T) ct, .slice Ak (List.length K) ck] 68) = wb at *
    have HW : Hid (Below wb.heap.size wb wb) := Lib.hid (Below.refl _ _)
    refine (implFogsBySlots_any At Ak B T.length ct K.length ck b d T K L wb (by omega) (by omega) (by omega) (fun l hl => by have := HLL.out l hl; omega) HT.out HK.out HRL.out).mono ?_
    rintro e wz ⟨A1, c1, rfl, ho, hb⟩
    have HW := Lib.hid (HW.out.trans (hb.mono HW.out.size)); have HO1 := Lib.hid ho
    clear ho hb
    obtain ⟨x0, x1⟩ := HKB.out _ HW.out
    go_wp2_with fail
    clear x0 x1
    refine (specFogsBySlots_any At Ak B T.length ct K.length ck b d T K L _ (by omega) (by omega) (by omega) (fun l hl => by have := HLL.out l hl; omega) (HT.out.below HW.out) (HK.out.below HW.out) (HRL.out.below HW.out)).mono ?_
    rintro e wz ⟨A2, c2, rfl, ho, hb⟩
    have HW := Lib.hid (HW.out.trans (hb.mono HW.out.size))
    have HO1 := Lib.hid (own_below HO1.out hb)
    have HO2 := Lib.hid ho
    clear hb ho
    have HF := Lib.hid (fogsR_facts (T := T) (K := K) (B := L))
    have hfl := fogsR_len T K L
    generalize (fogsR T K L).1 = F at *
    generalize (fogsR T K L).2 = ok at *
    go_wp2_with fail
    refine (pSameFogs_same A1 F.length c1 A2 c2 F _ (by omega) (Reads.of_own HO1.out) (Reads.of_own HO2.out)).mono ?_
    rintro e wz ⟨rfl, hb⟩
    have HW := Lib.hid (HW.out.trans (hb.mono HW.out.size))
    have HO1 := Lib.hid (own_below HO1.out hb)
    clear hb
    clear HO2
    obtain ⟨wA, rfl⟩ : ∃ wA, wA = wz := ⟨_, rfl⟩
    go_upto_if 87 with fail
    go_cut [] from 500 to 500 (fun wx => Below wA.heap.size wA wx)
    case first =>
      as_aux_lemma =>
      have HQ : Hid (Below wA.heap.size wA wA) := Lib.hid (Below.refl _ _)
      cases ok with
      | false =>
        go_wp2
        go_meet
        case rel => exact HQ.out
      | true =>
        obtain ⟨hnb, hlk, hk40, hl20, hfe, hfo⟩ := HF.out rfl
        have hsl := fun l k => sec_slot hl20 l k
        rw [← hfe] at hfo hsl
        have HSL := Lib.hid hsl; have HFO := Lib.hid hfo; have HNB := Lib.hid hnb; have H20 := Lib.hid hl20
        have HBK : Hid (b = K.length) := Lib.hid (by rw [← HLB.out]; exact hlk)
        clear hnb hlk hl20 hfe hfo hsl HF
        obtain ⟨x0, x1⟩ := HKB.out _ HW.out
        go_wp2_with fail
        clear x0 x1
        refine (AreFogs_yes At Ak T.length ct K.length ck T K _ (by omega) (by omega) (HT.out.below HW.out) (HK.out.below HW.out) HNB.out A1 F.length c1 F (Reads.of_own HO1.out) HFO.out).mono ?_
        rintro e wz ⟨rfl, hb⟩
        have HQ := Lib.hid (HQ.out.trans (hb.mono HQ.out.size)); have HW := Lib.hid (HW.out.trans (hb.mono HW.out.size))
        have HO1 := Lib.hid (own_below HO1.out hb)
        clear hb
        obtain ⟨wp, rfl⟩ : ∃ wp, wp = wz := ⟨_, rfl⟩
        go_wp2
        go_loopw [102] (fun i wr => ∃ k : Nat, k ≤ b ∧ i = .int .i64 k ∧ Below wp.heap.size wp wr) (fun i _ => b - (intOf i).toNat)
        case atStart => exact ⟨0, Nat.zero_le _, rfl, Below.refl _ _⟩
        case round =>
          obtain ⟨k, hk, rfl, hbr⟩ := hrel
          obtain ⟨wo, rfl⟩ : ∃ wo, wo = wr := ⟨_, rfl⟩
          have HBR := Lib.hid hbr
          clear hbr
          by_cases hlt : k < b
          · have hx : k < L.length := by rw [HLB.out]; exact hlt
            have hkK : (k : Int) < (K.length : Int) := by have := HBK.out; omega
            have HWO := Lib.hid (HW.out.trans (HBR.out.mono HW.out.size))
            obtain ⟨ad, Ai, ci, rfl, kc, _, _, hr⟩ := (HRL.out.below HWO.out).row (rowsBoolss_get hx)
            have HRR := Lib.hid hr
            clear hr
            have hl1 := H20.out L[k] (List.getElem_mem hx)
            have HGE : Hid (L[k]? = some L[k]) := Lib.hid (List.getElem?_eq_getElem hx)
            generalize L[k] = l at *
            simp only [length_bools] at kc HRR
            go_wp2
            clear kc
            go_loopw [109] (fun i wr => ∃ j : Nat, j ≤ l.length ∧ i = .int .i64 j ∧ Below wo.heap.size wo wr) (fun i _ => l.length - (intOf i).toNat)
            case atStart => exact ⟨0, Nat.zero_le _, rfl, Below.refl _ _⟩
            case round =>
              obtain ⟨j, hj, rfl, hbi⟩ := hrel
              obtain ⟨wi, rfl⟩ : ∃ wi, wi = wr := ⟨_, rfl⟩
              have HBI := Lib.hid hbi
              clear hbi
              by_cases hlt2 : j < l.length
              · obtain ⟨bd, u, rfl, hu, k0⟩ := (HRR.out.below HBI.out).at_ hlt2
                have e0 : u = .bool l[j] := by simp [bools, hlt2] at hu; exact hu.symm
                subst e0
                clear hu
                have HSC : Hid (secF (k : Int) ((j : Int) * 500) (((j : Int) + 1) * 500) F = if l[j] = true then 500 else 0) := Lib.hid (by rw [HSL.out, slotAt_get HGE.out hlt2])
                generalize l[j] = x at *
                have HWI := Lib.hid (HWO.out.trans (HBI.out.mono HWO.out.size))
                have CS := FogSeconds_yes At Ak T.length ct K.length ck T K wi (by omega) (by omega) (HT.out.below HWI.out) (HK.out.below HWI.out) HNB.out A1 F.length c1 F (k : Int) ((j : Int) * 500) (((j : Int) + 1) * 500) ⟨by omega, by omega⟩ (by omega) (by omega) (by omega) (Reads.of_own (own_below HO1.out (HBR.out.trans (HBI.out.mono HBR.out.size)))) HFO.out
                rw [HSC.out] at CS
                obtain ⟨x0, x1⟩ := HKB.out _ HWI.out
                cases x with
                | true =>
                  rw [if_pos rfl] at CS
                  have HCS := Lib.hid CS
                  clear CS
                  go_wp2_with fail
                  clear x0 x1 k0
                  refine (HCS.out).mono ?_
                  rintro e w3 ⟨rfl, hb⟩
                  have HBI := Lib.hid (HBI.out.trans (hb.mono HBI.out.size))
                  clear hb HCS
                  go_wp2
                  go_roundw
                  case rel => exact ⟨j + 1, by omega, by go_num, HBI.out⟩
                  case measure => first | (simp [intOf]; done) | (simp [intOf]; omega)
                | false =>
                  rw [if_neg (by simp)] at CS
                  have HCS := Lib.hid CS
                  clear CS
                  go_wp2_with fail
                  clear x0 x1 k0
                  refine (HCS.out).mono ?_
                  rintro e w3 ⟨rfl, hb⟩
                  have HBI := Lib.hid (HBI.out.trans (hb.mono HBI.out.size))
                  clear hb HCS
                  go_wp2
                  go_roundw
                  case rel => exact ⟨j + 1, by omega, by go_num, HBI.out⟩
                  case measure => first | (simp [intOf]; done) | (simp [intOf]; omega)
              · have HBR2 := Lib.hid (HBR.out.trans (HBI.out.mono HBR.out.size))
                go_wp2
                go_roundw
                case rel => exact ⟨k + 1, by omega, by go_num, HBR2.out⟩
                case measure => first | (simp [intOf]; done) | (simp [intOf]; omega)
          · go_wp2
            go_meet
            case rel => exact HQ.out.trans (HBR.out.mono HQ.out.size)
    case rest =>
    as_aux_lemma =>
    have HB := Lib.hid ((HB.out.trans (HW.out.mono HB.out.size)).trans (hcut.mono (Nat.le_trans HB.out.size HW.out.size)))
    clear hcut HW HO1 HF HT HK HKB HRL HLL HLB hfl hT hK hbl
    obtain ⟨wB, rfl⟩ : ∃ wB, wB = wc := ⟨_, rfl⟩
    go_wp2_with fail
    refine (drawFogsByKey_any AM n1 cM lM _ (by omega) HL1.out (HR1.out.below HB.out)).mono ?_
    rintro e wd ⟨At, ct, T, Ak, ck, K, key, slots, rfl, hT, hK, hoT, hoK, hb⟩
    have hbd := HB.out.trans (hb.mono HB.out.size)
    have HT := Lib.hid ((Reads.of_own hoT).alloc (.cells #[.slice At (List.length T) ct, .slice Ak (List.length K) ck] 68)); have HK := Lib.hid ((Reads.of_own hoK).alloc (.cells #[.slice At (List.length T) ct, .slice Ak (List.length K) ck] 68))
    have HKB : Hid (∀ W, Below (wd.alloc (.cells #[.slice At (List.length T) ct, .slice Ak (List.length K) ck] 68)).heap.size (wd.alloc (.cells #[.slice At (List.length T) ct, .slice Ak (List.length K) ck] 68)) W → W.cell? ⟨wd.heap.size, 0, none⟩ = some (.slice At T.length ct) ∧ W.cell? ⟨wd.heap.size, 1, none⟩ = some (.slice Ak K.length ck)) := Lib.hid (fun W hW => ⟨(hW.cell (by simp)).trans (by simp), (hW.cell (by simp)).trans (by simp)⟩)
    have HB := Lib.hid (hbd.alloc hbd.size (.cells #[.slice At (List.length T) ct, .slice Ak (List.length K) ck] 68))
    clear hoT hoK hb hbd
    go_wp2_with fail
    generalize wd.alloc (.cells #[.slice At (List.length T) ct, .slice Ak (List.length K) ck] 68) = wb at *
    have HW : Hid (Below wb.heap.size wb wb) := Lib.hid (Below.refl _ _)
    refine (implFogsByKey_any At Ak T.length ct K.length ck T K key slots wb (by omega) (by omega) HT.out HK.out).mono ?_
    rintro e wz ⟨A1, c1, rfl, ho, hb⟩
    have HW := Lib.hid (HW.out.trans (hb.mono HW.out.size)); have HO1 := Lib.hid ho
    clear ho hb
    obtain ⟨x0, x1⟩ := HKB.out _ HW.out
    go_wp2_with fail
    clear x0 x1
    refine (specFogsByKey_any At Ak T.length ct K.length ck T K key slots _ (by omega) (by omega) (HT.out.below HW.out) (HK.out.below HW.out)).mono ?_
    rintro e wz ⟨A2, c2, rfl, ho, hb⟩
    have HW := Lib.hid (HW.out.trans (hb.mono HW.out.size))
    have HO1 := Lib.hid (own_below HO1.out hb)
    have HO2 := Lib.hid ho
    clear hb ho
    have HF := Lib.hid (fogsK_facts (T := T) (K := K) (key := key) (slots := slots))
    have hfl := fogsK_len T K key slots
    generalize (fogsK T K key slots).1 = F at *
    generalize (fogsK T K key slots).2 = ok at *
    go_wp2_with fail
    refine (pSameFogs_same A1 F.length c1 A2 c2 F _ (by omega) (Reads.of_own HO1.out) (Reads.of_own HO2.out)).mono ?_
    rintro e wz ⟨rfl, hb⟩
    have HW := Lib.hid (HW.out.trans (hb.mono HW.out.size))
    have HO2 := Lib.hid (own_below HO2.out hb)
    clear hb
    clear HO1
    obtain ⟨wA, rfl⟩ : ∃ wA, wA = wz := ⟨_, rfl⟩
    go_upto_if 174 with fail
    go_cut [] from 500 to 500 (fun wx => Below wA.heap.size wA wx)
    case first =>
      as_aux_lemma =>
      have HQ : Hid (Below wA.heap.size wA wA) := Lib.hid (Below.refl _ _)
      cases ok with
      | false =>
        go_wp2
        go_meet
        case rel => exact HQ.out
      | true =>
        obtain ⟨hnb, hk40, hkey, hslt, hfe, hfo, hall⟩ := HF.out rfl
        obtain ⟨s, hs⟩ : ∃ s : Nat, slots = (s : Int) := ⟨slots.toNat, by omega⟩
        subst hs
        simp only [Int.toNat_natCast] at hfe hfo hall
        have HFE := Lib.hid hfe; have HFO := Lib.hid hfo; have HALL := Lib.hid hall
        clear hnb hfe hfo hall HF
        have hs20 : s ≤ 20 := by omega
        obtain ⟨lo, hlo⟩ : ∃ lo, lo = wA.heap.size := ⟨_, rfl⟩
        have HLOE := Lib.hid hlo
        clear hlo
        obtain ⟨x0, x1⟩ := HKB.out _ HW.out
        go_wp2
        clear x0 x1
        go_loopw [26, 178] (fun v i wr => ∃ k : Nat, ∃ A c hs, k ≤ K.length ∧ i = .int .i64 k ∧ v = .slice A k c ∧ Own2 wr lo wr.heap.size 28 4 1 A k c (rowsBoolss (rowsK key k s)) hs ∧ Below lo wA wr) (fun _ i _ => K.length - (intOf i).toNat)
        case atStart => exact ⟨0, none, 0, [], Nat.zero_le _, rfl, rfl, own2_nil _ _, Below.refl _ _⟩
        case round =>
          obtain ⟨k, A, c, hs, hk, rfl, rfl, hown, hb⟩ := hrel
          have HO := Lib.hid hown; have HBR := Lib.hid hb
          clear hown hb
          obtain ⟨wo, rfl⟩ : ∃ wo, wo = wr := ⟨_, rfl⟩
          have HLO : Hid (lo ≤ wo.heap.size) := Lib.hid (by have := HBR.out.size; have := HLOE.out; omega)
          by_cases hlt : k < K.length
          · have CI := fun W => implSlotsOf_any key (k : Int) (s : Int) W
            have CS := fun W => specSlotsOf_any key (k : Int) (s : Int) W
            rw [HALL.out k hlt] at CI CS
            simp only [length_slotsL] at CI CS
            have HCI := Lib.hid CI; have HCS := Lib.hid CS
            have HLS : Hid ((bools (slotsL key (k : Int) s)).length = s) := Lib.hid (by simp)
            have HSK := Lib.hid (rowsK_succ key k s)
            clear CI CS
            generalize slotsL key (k : Int) s = Z at *
            go_wp2_with fail
            refine (HCI.out _).mono ?_
            rintro e w2 ⟨A3, c3, rfl, ho3, hb3⟩
            have HBO2 := Lib.hid hb3; have HO3 := Lib.hid ho3
            clear ho3 hb3
            go_wp2_with fail
            refine (HCS.out _).mono ?_
            rintro e w3 ⟨A4, c4, rfl, ho4, hb4⟩
            have HO3 := Lib.hid (own_below HO3.out hb4); have HO4 := Lib.hid ho4; have HB23 := Lib.hid hb4
            have HBO3 := Lib.hid (HBO2.out.trans (hb4.mono HBO2.out.size))
            clear ho4 hb4
            go_wp2_with fail
            refine (pSameBools_same A3 s c3 A4 c4 Z _ (by omega) (Reads.of_own HO3.out) (Reads.of_own HO4.out)).mono ?_
            rintro e w4 ⟨rfl, hb⟩
            have HO4 := Lib.hid (own_below HO4.out hb); have HB34 := Lib.hid hb
            have HB24 := Lib.hid (HB23.out.trans (hb.mono HB23.out.size))
            have HBO4 := Lib.hid (HBO3.out.trans (hb.mono HBO3.out.size))
            have HBA := Lib.hid (HBO4.out.alloc HBO4.out.size (.cells #[.slice A4 s c4] 28))
            clear hb HO3 HCI HCS
            go_wp2_with (at_builtin; refine wpList_pushL _ rfl (.tmp 207) (.tmp 209) 75 rfl lo 28 (.slice none 0 0) 1 24 infoBools rfl (by omega) Try.underlying75 A k c hs rfl (own_below HO.out.row HBA.out) (some ⟨w4.heap.size, 0, none⟩) 1 1 [.slice A4 s c4] rfl (reads_litk w4 [.slice A4 s c4] _ rfl) (by simp [Value.oneCell']) (by omega) (by omega) (by have := HLO.out; have := HB34.out.size; have := HBO3.out.size; simp; omega) ?_; intro A5 c5 w5 hown5 hg5 hb5 hl5)
            have hn := ((HO.out.below HBO2.out (Nat.le_refl _)).mono_hi HBO2.out.size).push_made HLS.out.symm (by have := HLO.out; have := HBO2.out.size; omega) HB24.out HO4.out hg5 hown5 hl5
            have HN := Lib.hid hn
            have HB5 : Hid (Below lo wA w5) := Lib.hid (HBR.out.trans ((HBA.out.mono HLO.out).trans hb5))
            clear hn hown5 hg5 hb5 hl5
            go_roundw
            case rel => exact ⟨k + 1, A5, c5, _, by omega, by go_num, rfl, by rw [HSK.out, rowsBoolss_append]; exact HN.out, HB5.out⟩
            case measure => simp [intOf]; omega
          · obtain rfl : k = K.length := by omega
            have HQ := Lib.hid (show Below wA.heap.size wA wo from by have h5 := HBR.out; rw [HLOE.out] at h5; exact h5)
            have HW := Lib.hid (HW.out.trans (HQ.out.mono HW.out.size))
            have HO2 := Lib.hid (own_below HO2.out HQ.out)
            have HRD := Lib.hid (Reads2.of_own HO.out)
            have CF := implFogsBySlots_any At Ak A T.length ct K.length ck K.length c T K (rowsK key K.length s) wo (by omega) (by omega) (by omega) (fun l hl => by have := rowsK_len key K.length s l hl; omega) (HT.out.below HW.out) (HK.out.below HW.out) HRD.out
            rw [HFO.out, ← HFE.out] at CF
            have HCF := Lib.hid CF
            clear CF hk hlt
            obtain ⟨x0, x1⟩ := HKB.out _ HW.out
            go_wp2_with fail
            clear x0 x1
            refine (HCF.out).mono ?_
            rintro e wz ⟨A6, c6, rfl, ho, hb⟩
            have HQ := Lib.hid (HQ.out.trans (hb.mono HQ.out.size)); have HO6 := Lib.hid ho; have HO2 := Lib.hid (own_below HO2.out hb)
            clear ho hb HCF
            go_wp2_with fail
            refine (pSameFogs_same A6 F.length c6 A2 c2 F _ (by omega) (Reads.of_own HO6.out) (Reads.of_own HO2.out)).mono ?_
            rintro e wz ⟨rfl, hb⟩
            have HQ := Lib.hid (HQ.out.trans (hb.mono HQ.out.size))
            clear hb
            go_wp2
            go_meet
            case rel => exact HQ.out
    case rest =>
    as_aux_lemma =>
    have HB := Lib.hid ((HB.out.trans (HW.out.mono HB.out.size)).trans (hcut.mono (Nat.le_trans HB.out.size HW.out.size)))
    clear hcut HW HO2 HF HT HK HKB hfl hT hK
    obtain ⟨wC, rfl⟩ : ∃ wC, wC = wc := ⟨_, rfl⟩
    go_wp2_with fail
    refine (drawFogDrawn_any AM n1 cM lM _ (by omega) HL1.out (HR1.out.below HB.out)).mono ?_
    rintro e wz ⟨a1, a2, a3, rfl, hb⟩
    have HB := Lib.hid (HB.out.trans (hb.mono HB.out.size))
    clear hb
    go_wp2_with fail
    refine (implFogDrawn_any a1 a2 a3 _).mono ?_
    rintro e wz ⟨rfl, hb⟩
    have HB := Lib.hid (HB.out.trans (hb.mono HB.out.size))
    clear hb
    go_wp2_with fail
    refine (specFogDrawn_any a1 a2 a3 _).mono ?_
    rintro e wz ⟨rfl, hb⟩
    have HB := Lib.hid (HB.out.trans (hb.mono HB.out.size))
    clear hb
    generalize (fogDrawnR a1 a2 a3).1 = fv at *
    generalize (fogDrawnR a1 a2 a3).2 = fo at *
    go_wp2_with fail
    refine (drawFogChance_any AM n1 cM lM _ (by omega) HL1.out (HR1.out.below HB.out)).mono ?_
    rintro e wz ⟨a4, rfl, hb⟩
    have HB := Lib.hid (HB.out.trans (hb.mono HB.out.size))
    clear hb
    go_wp2_with fail
    refine (implFogChance_any a4 _).mono ?_
    rintro e wz ⟨rfl, hb⟩
    have HB := Lib.hid (HB.out.trans (hb.mono HB.out.size))
    clear hb
    go_wp2_with fail
    refine (specFogChance_any a4 _).mono ?_
    rintro e wz ⟨rfl, hb⟩
    have HB := Lib.hid (HB.out.trans (hb.mono HB.out.size))
    clear hb
    generalize (fogChanceR a4).1 = pv at *
    generalize (fogChanceR a4).2 = po at *
    go_wp2_with fail
    refine (drawFogMix_any AM n1 cM lM _ (by omega) HL1.out (HR1.out.below HB.out)).mono ?_
    rintro e wz ⟨B5, m5, d5, ms, rfl, hm5, hr5, hb⟩
    have HB := Lib.hid (HB.out.trans (hb.mono HB.out.size))
    have HR5 := Lib.hid hr5
    clear hb hr5
    go_wp2_with fail
    refine (implFogMix_any B5 m5 d5 ms _ (by omega) HR5.out).mono ?_
    rintro e wz ⟨rfl, hb⟩
    have HR5 := Lib.hid (HR5.out.below hb); have HB := Lib.hid (HB.out.trans (hb.mono HB.out.size))
    clear hb
    go_wp2_with fail
    refine (specFogMix_any B5 m5 d5 ms _ (by omega) HR5.out).mono ?_
    rintro e wz ⟨rfl, hb⟩
    have HB := Lib.hid (HB.out.trans (hb.mono HB.out.size))
    clear hb
    have HM := Lib.hid (fogMixR_facts (xs := ms))
    generalize (fogMixR ms).1 = mv at *
    generalize (fogMixR ms).2 = mo at *
    go_wp2_with fail
    refine (drawSlotsOf_any AM n1 cM lM _ (by omega) HL1.out (HR1.out.below HB.out)).mono ?_
    rintro e wz ⟨a5, a6, a7, rfl, hb⟩
    have HB := Lib.hid (HB.out.trans (hb.mono HB.out.size))
    clear hb
    have hsl := slotsR_bd a5 a6 a7
    go_wp2_with fail
    refine (implSlotsOf_any a5 a6 a7 _).mono ?_
    rintro e wz ⟨A8, c8, rfl, ho, hb⟩
    have HB := Lib.hid (HB.out.trans (hb.mono HB.out.size))
    have HO8 := Lib.hid ho
    clear hb ho
    go_wp2_with fail
    refine (specSlotsOf_any a5 a6 a7 _).mono ?_
    rintro e wz ⟨A9, c9, rfl, ho, hb⟩
    have HB := Lib.hid (HB.out.trans (hb.mono HB.out.size))
    have HO8 := Lib.hid (own_below HO8.out hb)
    have HO9 := Lib.hid ho
    clear hb ho
    generalize (slotsR a5 a6 a7).1 = Z at *
    generalize (slotsR a5 a6 a7).2 = so at *
    have HCZ := Lib.hid (pSameBools_same A8 Z.length c8 A9 c9 Z _ (by omega) (Reads.of_own HO8.out) (Reads.of_own HO9.out))
    cases mo with
    | false =>
      go_wp2_with fail
      refine (HCZ.out).mono ?_
      rintro e wy ⟨rfl, hb⟩
      have HB := Lib.hid (HB.out.trans (hb.mono HB.out.size))
      clear hb HCZ
      go_wp2
      go_ret
      exact ⟨ret_bool (by first | rfl | simp), HB.out⟩
    | true =>
      obtain ⟨hm0, hm1⟩ := HM.out rfl
      go_wp2_with fail
      refine (HCZ.out).mono ?_
      rintro e wy ⟨rfl, hb⟩
      have HB := Lib.hid (HB.out.trans (hb.mono HB.out.size))
      clear hb HCZ
      go_wp2
      go_ret
      exact ⟨ret_bool (by first | rfl | simp), HB.out⟩

end Go.Proofs.Ythpfgmnhpnfopaa
