/- The law of forecasts: the walk. No conditions. -/
import Derived.Test.YthpfgmnhpnfopaaFoH
import Derived.Test.YthpfgmnhpnfopaaDrF
import Derived.Test.YthpfgmnhpnfopaaPushL
import Derived.Test.YthpfgmnhpnfopaaTail
namespace Go.Proofs.Ythpfgmnhpnfopaa
set_option linter.unusedSimpArgs false
set_option linter.unusedVariables false
open Go.RowKit

theorem apart_push {w : World} {base k n : Nat} {e : TypeId} {v1 v1' v2 : Value} {xs : List Value} (hap : apart v1 v2) (ho : w.ownsRow base e k v2 n xs) (hloc : v1'.ownBlock = v1.ownBlock ∨ v1'.ownBlock = some w.heap.size) : apart v1' v2 := by
  rcases hloc with h | h
  · rcases hap with h1 | h1
    · exact .inl (by rw [h]; exact h1)
    · exact .inr (by rw [h]; exact h1)
  · refine .inr (fun e' => ?_)
    rw [h] at e'
    have := (ho.lt _ e'.symm).2
    omega
theorem add_succ_ (ad : Addr) (j : Nat) : ad.add (j + 1) = ⟨ad.block, ad.off + (j + 1), none⟩ := by
  unfold Addr.add
  rw [if_neg (by omega)]
theorem same_refl (l : List Int) : sameB l l = true := by simp [sameB]

set_option maxHeartbeats 8000000 in
set_option maxRecDepth 100000 in
theorem law_FnForecasts (w : World) {v0 v1 : Value} (h0 : IsBytes w v0) (h1 : IsBytes w v1) :
    Calls Try.prog 11 #[v0, v1] w fun e w' => e = .returned (.bool true) ∧ Below w.heap.size w w' := by
  obtain ⟨A0, n0, c0, l0, rfl, hnc0, hcm0, hr0, hb0⟩ := h0
  obtain ⟨AM, n1, cM, lM, rfl, hnc1, hcm1, hr1, hb1⟩ := h1
  have HR0 := Lib.hid hr0; have HR1 := Lib.hid hr1; have HL0 := Lib.hid hb0; have HL1 := Lib.hid hb1
  clear hr0 hr1 hb0 hb1
  have HB : Hid (Below w.heap.size w w) := Lib.hid (Below.refl _ _)
  cases hbg : bigB n0 n1 with
  | true =>
    have CB := big_any A0 n0 c0 AM n1 cM w (by omega) (by omega)
    rw [hbg] at CB
    go_enter Try.func11, Try.ntmps11
    go_wp2_with fail
    refine CB.mono ?_
    rintro e w' ⟨rfl, rfl⟩
    go_wp2
    go_ret
    exact ⟨rfl, Below.refl _ _⟩
  | false =>
    have CB := big_any A0 n0 c0 AM n1 cM w (by omega) (by omega)
    rw [hbg] at CB
    have HCB := Lib.hid CB
    obtain ⟨hs0, hs1⟩ := bigB_no hbg
    clear CB hbg
    go_enter Try.func11, Try.ntmps11
    go_wp2_with fail
    refine HCB.out.mono ?_
    rintro e w' ⟨rfl, rfl⟩
    go_wp2_with fail
    refine (drawForecastLoss_any A0 n0 c0 l0 _ (by omega) HL0.out HR0.out).mono ?_
    rintro e wz ⟨B, m, d, xs, D, p, fs, rfl, hfl, hml, hr, ho, hb⟩
    have HR := Lib.hid hr; have HO := Lib.hid ho; have HB := Lib.hid hb
    clear hr ho hb
    have hr := forecastLossR_ok (xs := xs) (fs := fs)
    obtain ⟨lv, hlv⟩ : ∃ lv, lv = (forecastLossR xs fs).1 := ⟨_, rfl⟩
    obtain ⟨lo, hlo⟩ : ∃ lo, lo = (forecastLossR xs fs).2 := ⟨_, rfl⟩
    rw [← hlv, ← hlo] at hr
    have CI := implForecastLoss_any B m d xs D fs.length p fs _ (by omega) HR.out (by omega) (Reads.of_own HO.out)
    rw [← hlv, ← hlo] at CI
    have HCI := Lib.hid CI
    have CS := fun W hW => specForecastLoss_any B m d xs D fs.length p fs W (by omega) (HR.out.below hW) (by omega) (Reads.of_own (own_below HO.out hW))
    rw [← hlv, ← hlo] at CS
    have HCS := Lib.hid CS
    have HLR := Lib.hid hr
    clear CI CS hr hlv hlo
    go_wp2_with fail
    refine (HCI.out).mono ?_
    rintro e wz ⟨rfl, hb⟩
    have HB := Lib.hid (HB.out.trans (hb.mono HB.out.size)); have HO := Lib.hid (own_below HO.out hb)
    have HBX := Lib.hid hb
    clear hb
    go_wp2_with fail
    refine (HCS.out _ HBX.out).mono ?_
    rintro e wz ⟨rfl, hb⟩
    have HB := Lib.hid (HB.out.trans (hb.mono HB.out.size)); have HO := Lib.hid (own_below HO.out hb)
    clear hb HBX HCI HCS
    cases lo with
    | false =>
      go_wp2_with fail
      skip
      refine (drawHitCounts_any AM n1 cM lM _ (by omega) HL1.out (HR1.out.below HB.out)).mono ?_
      rintro e wz ⟨B2, m2, d2, us, E, p2, vs, q2, rfl, hvl, hul, hr, ho, hb⟩
      have HB := Lib.hid (HB.out.trans (hb.mono HB.out.size)); have HOV := Lib.hid ho; have HRU := Lib.hid hr
      clear hr ho hb
      have CI := implHitCounts_any B2 m2 d2 us E vs.length p2 vs q2 _ (by omega) HRU.out (by omega) (Reads.of_own HOV.out)
      have CS := fun W hW => specHitCounts_any B2 m2 d2 us E vs.length p2 vs q2 W (by omega) (HRU.out.below hW) (by omega) (Reads.of_own (own_below HOV.out hW))
      have hhf := hitCountsR_facts (xs := us) (fs := vs) (least := q2)
      have hhb := hitCountsR_bd us vs q2
      generalize (hitCountsR us vs q2).1 = HL at *
      generalize (hitCountsR us vs q2).2 = hok at *
      cases hok with
      | false =>
        have HCI := Lib.hid CI; have HCS := Lib.hid CS
        clear CI CS hhf
        go_wp2_with fail
        refine (HCI.out).mono ?_
        rintro e wz ⟨A3, c3, rfl, ho3, hb⟩
        have HB := Lib.hid (HB.out.trans (hb.mono HB.out.size)); have HOV := Lib.hid (own_below HOV.out hb); have HBX := Lib.hid hb; have HO3 := Lib.hid ho3
        clear hb ho3
        go_wp2_with fail
        refine (HCS.out _ HBX.out).mono ?_
        rintro e wz ⟨A4, c4, rfl, ho4, hb⟩
        have HB := Lib.hid (HB.out.trans (hb.mono HB.out.size)); have HOV := Lib.hid (own_below HOV.out hb); have HO3 := Lib.hid (own_below HO3.out hb); have HO4 := Lib.hid ho4
        clear hb ho4 HBX HCI HCS
        have CE := sameInts_any A3 HL.length c3 HL A4 HL.length c4 HL _ (by omega) (by omega) (Reads.of_own HO3.out) (Reads.of_own HO4.out)
        rw [same_refl] at CE
        have HCE := Lib.hid CE
        clear CE
        go_wp2_with fail
        refine (HCE.out).mono ?_
        rintro e wz ⟨rfl, hq⟩
        have hb := below_of_quiet (B := w.heap.size) hq
        have HB := Lib.hid (HB.out.trans hb); have HOV := Lib.hid (own_below HOV.out (below_of_quiet hq)); have HO4 := Lib.hid (own_below HO4.out (below_of_quiet hq))
        clear hb hq HCE
        go_wp2_with fail
        refine (drawStayLoss_any AM n1 cM lM _ (by omega) HL1.out (HR1.out.below HB.out)).mono ?_
        rintro e wz ⟨F, p3, ws, rfl, hwl, ho, hb⟩
        have HB := Lib.hid (HB.out.trans (hb.mono HB.out.size)); have HOW := Lib.hid ho
        clear ho hb
        have hsf := stayR_facts (fs := ws)
        go_wp2_with fail
        refine (implStayLoss_any F ws.length p3 ws _ (by omega) (Reads.of_own HOW.out) (own_cap HOW.out)).mono ?_
        rintro e wz ⟨rfl, hb⟩
        have HB := Lib.hid (HB.out.trans (hb.mono HB.out.size))
        have HOW := Lib.hid (own_below HOW.out hb)
        clear hb
        go_wp2_with fail
        refine (specStayLoss_any F ws.length p3 ws _ (by omega) (Reads.of_own HOW.out) (own_cap HOW.out)).mono ?_
        rintro e wz ⟨rfl, hb⟩
        have HB := Lib.hid (HB.out.trans (hb.mono HB.out.size))
        have HOW := Lib.hid (own_below HOW.out hb)
        clear hb
        generalize (stayR ws).1 = sv at *
        generalize (stayR ws).2 = so at *
        cases so with
        | false =>
          go_wp2
          go_ret
          exact ⟨rfl, HB.out⟩
        | true =>
          obtain ⟨hw20, hw0, hsv⟩ := hsf rfl
          have HSV := Lib.hid hsv
          have hTT := turnsB_le ws[0] (ws.drop 1)
          have HTL : Hid (turnsB ws[0] (ws.drop 1) ≤ 21) := Lib.hid (by have hl : (ws.drop 1).length ≤ 20 := (by rw [List.length_drop]; omega); omega)
          have HT1 : Hid (turnsB (ws.getD 0 false) (ws.drop 1) = turnsB ws[0] (ws.drop 1)) := Lib.hid (by simp [List.getD, hw0])
          clear hsv hTT
          generalize turnsB ws[0] (ws.drop 1) = TT at *
          go_wp2
          go_loopw [40, 41] (fun t i wr => ∃ k T : Nat, 1 ≤ k ∧ k ≤ ws.length ∧ i = .int .i64 k ∧ t = .int .i64 T ∧ T + turnsB (ws.getD (k - 1) false) (ws.drop k) = TT ∧ Below wz.heap.size wz wr) (fun _ i _ => ws.length - (intOf i).toNat)
          case atStart => exact ⟨1, 0, Nat.le_refl _, by omega, rfl, rfl, by simpa using HT1.out, Below.refl _ _⟩
          case round =>
            obtain ⟨k, T, hk1, hk, rfl, rfl, hrel, hb⟩ := hrel
            have HRL := Lib.hid hrel; have HBR := Lib.hid hb
            clear hrel hb
            have hTb : T ≤ 21 := by have h1 := HRL.out; have h2 := HTL.out; omega
            by_cases hlt : k < ws.length
            · obtain ⟨j, rfl⟩ : ∃ j, k = j + 1 := ⟨k - 1, by omega⟩
              obtain ⟨ad, u, rfl, hu, k0⟩ := (Reads.of_own (own_below HOW.out HBR.out)).at_ hlt
              obtain ⟨ad', u', e', hu', k1⟩ := (Reads.of_own (own_below HOW.out HBR.out)).at_ (i := j) (by omega)
              injection e' with e'
              subst e'
              have hj : j < ws.length := by omega
              have e0 : u = .bool ws[j + 1] := by simp [bools, hlt] at hu; exact hu.symm
              have e1 : u' = .bool ws[j] := by simp [bools, hj] at hu'; exact hu'.symm
              subst e0; subst e1
              clear hu hu'
              have HSTP : Hid (turnsB (ws.getD (j + 1 - 1) false) (ws.drop (j + 1)) = (if ws[j + 1] = ws[j] then 0 else 1) + turnsB (ws.getD (j + 1 + 1 - 1) false) (ws.drop (j + 1 + 1))) := Lib.hid (by
                rw [List.drop_eq_getElem_cons hlt]
                simp [turnsB, List.getD, hlt, hj])
              generalize ws[j + 1] = b1 at *
              generalize ws[j] = b0 at *
              have i0 : (0 : Int) ≤ (j : Int) := by omega
              have i1 : (j : Int) + 1 < (ws.length : Int) := by omega
              have i2 : (j : Int) < (ws.length : Int) := by omega
              have i3 : (0 : Int) ≤ (j : Int) + 1 := by omega
              rw [add_succ_] at k0
              have it : ((j : Int) + 1).toNat = j + 1 := by omega
              have iw : IntKind.i64.wrap (j : Int) = (j : Int) := IntWalk.i64_in _ (by omega)
              have HNX : Hid (T + (if b1 = b0 then 0 else 1) + turnsB (ws.getD (j + 1 + 1 - 1) false) (ws.drop (j + 1 + 1)) = TT) := Lib.hid (by have h1 := HRL.out; rw [HSTP.out] at h1; omega)
              cases b1 with
              | true =>
                cases b0 with
                | true =>
                  go_wp2
                  go_quiet (fail)
                  go_wp2
                  clear i0 i1 i2 i3 iw it
                  go_roundw
                  case rel => exact ⟨j + 1 + 1, T, by omega, by omega, by go_num, rfl, by have h := HNX.out; simpa using h, below_toN HBR.out _⟩
                  case measure => simp [intOf]; omega
                | false =>
                  go_wp2
                  go_quiet (fail)
                  go_wp2
                  clear i0 i1 i2 i3 iw it
                  go_roundw
                  case rel => exact ⟨j + 1 + 1, T + 1, by omega, by omega, by go_num, by go_num, by have h := HNX.out; simpa using h, below_toN HBR.out _⟩
                  case measure => simp [intOf]; omega
              | false =>
                cases b0 with
                | true =>
                  go_wp2
                  go_quiet (fail)
                  go_wp2
                  clear i0 i1 i2 i3 iw it
                  go_roundw
                  case rel => exact ⟨j + 1 + 1, T + 1, by omega, by omega, by go_num, by go_num, by have h := HNX.out; simpa using h, below_toN HBR.out _⟩
                  case measure => simp [intOf]; omega
                | false =>
                  go_wp2
                  go_quiet (fail)
                  go_wp2
                  clear i0 i1 i2 i3 iw it
                  go_roundw
                  case rel => exact ⟨j + 1 + 1, T, by omega, by omega, by go_num, rfl, by have h := HNX.out; simpa using h, below_toN HBR.out _⟩
                  case measure => simp [intOf]; omega
            · have HE : Hid ((T : Int) = (TT : Int)) := Lib.hid (by have h1 := HRL.out; rw [List.drop_eq_nil_of_le (by omega)] at h1; simp [turnsB] at h1; omega)
              go_wp2
              go_ret
              exact ⟨ret_bool (by rw [HSV.out, HE.out]; first | (simp; done) | rfl), HB.out.trans (HBR.out.mono HB.out.size)⟩
      | true =>
        obtain ⟨hv20, ha, hb', hc, hd, rfl, ha0, hb0, hc0, hd0, hsum, hac⟩ := hhf rfl
        simp only [List.length_cons, List.length_nil] at CI CS
        have HCI := Lib.hid CI; have HCS := Lib.hid CS
        clear CI CS hhb
        have HSUM : Hid (sumZ [ha, hb', hc, hd] = (vs.length : Int)) := Lib.hid (by simp [sumZ]; omega)
        have HAC := Lib.hid hac
        have hcb := cntB_le vs
        have hub : ha ≤ 20 ∧ hb' ≤ 20 ∧ hc ≤ 20 ∧ hd ≤ 20 := by omega
        obtain ⟨ub1, ub2, ub3, ub4⟩ := hub
        clear hsum hac
        go_wp2_with fail
        refine (HCI.out).mono ?_
        rintro e wz ⟨A3, c3, rfl, ho3, hb⟩
        have HB := Lib.hid (HB.out.trans (hb.mono HB.out.size)); have HOV := Lib.hid (own_below HOV.out hb); have HBX := Lib.hid hb; have HO3 := Lib.hid ho3
        clear hb ho3
        go_wp2_with fail
        refine (HCS.out _ HBX.out).mono ?_
        rintro e wz ⟨A4, c4, rfl, ho4, hb⟩
        have HB := Lib.hid (HB.out.trans (hb.mono HB.out.size)); have HOV := Lib.hid (own_below HOV.out hb); have HO3 := Lib.hid (own_below HO3.out hb); have HO4 := Lib.hid ho4
        clear hb ho4 HBX HCI HCS
        have CE := sameInts_any A3 4 c3 [ha, hb', hc, hd] A4 4 c4 [ha, hb', hc, hd] _ (by omega) (by omega) (Reads.of_own HO3.out) (Reads.of_own HO4.out)
        rw [same_refl] at CE
        have HCE := Lib.hid CE
        clear CE
        go_wp2_with fail
        refine (HCE.out).mono ?_
        rintro e wz ⟨rfl, hq⟩
        have hb := below_of_quiet (B := w.heap.size) hq
        have HB := Lib.hid (HB.out.trans hb); have HOV := Lib.hid (own_below HOV.out (below_of_quiet hq)); have HO4 := Lib.hid (own_below HO4.out (below_of_quiet hq))
        clear hb hq HCE
        go_wp2
        go_loopw [32, 206] (fun t i wr => ∃ k : Nat, k ≤ vs.length ∧ i = .int .i64 k ∧ t = .int .i64 ((cntB (vs.take k) : Nat) : Int) ∧ Below wz.heap.size wz wr) (fun _ i _ => vs.length - (intOf i).toNat)
        case atStart => exact ⟨0, Nat.zero_le _, rfl, rfl, Below.refl _ _⟩
        case round =>
          obtain ⟨k, hk, rfl, rfl, hb⟩ := hrel
          have HBR := Lib.hid hb
          clear hb
          by_cases hlt : k < vs.length
          · obtain ⟨ad, u, rfl, hu, k0⟩ := (Reads.of_own (own_below HOV.out HBR.out)).at_ hlt
            have e0 : u = .bool vs[k] := by simp [bools, hlt] at hu; exact hu.symm
            subst e0
            have HTK : Hid (vs.take (k + 1) = vs.take k ++ [vs[k]]) := Lib.hid (List.take_succ_eq_append_getElem hlt)
            have hct := cntB_le (vs.take k)
            have hct2 : cntB (vs.take k) ≤ 21 := by simp at hct; omega
            clear hu hct
            generalize vs[k] = f at *
            have HCN : Hid (cntB (vs.take (k + 1)) = cntB (vs.take k) + (if f = true then 1 else 0)) := Lib.hid (by rw [HTK.out, cntB_snoc])
            generalize cntB (vs.take k) = N at *
            cases f with
            | true =>
              go_wp2
              go_roundw
              case rel => exact ⟨k + 1, by omega, by go_num, by rw [HCN.out]; go_num, HBR.out⟩
              case measure => simp [intOf]; omega
            | false =>
              go_wp2
              go_roundw
              case rel => exact ⟨k + 1, by omega, by go_num, by rw [HCN.out]; go_num, HBR.out⟩
              case measure => simp [intOf]; omega
          · have e : vs.take k = vs := List.take_of_length_le (by omega)
            rw [e]
            have HB := Lib.hid (HB.out.trans (HBR.out.mono HB.out.size))
            have HO4 := Lib.hid (own_below HO4.out HBR.out)
            obtain ⟨g4, rfl, _⟩ := own_at0 HO4.out (by omega)
            have s0 : wr.cell? ⟨g4, 0, none⟩ = some (.int .i64 ha) := by rw [HO4.out.cellAt 0 (by omega)]; rfl
            have s2 : wr.cell? ⟨g4, 2, none⟩ = some (.int .i64 hc) := by rw [HO4.out.cellAt 2 (by omega)]; rfl
            have CP := fun mm => pSum_any (some ⟨g4, 0, none⟩) 4 c4 [ha, hb', hc, hd] (wr.drewN mm) (by omega) ((Reads.of_own HO4.out).drewN mm) (by intro x hx; simp at hx; omega)
            rw [HSUM.out] at CP
            have HCP := Lib.hid CP
            have hwa : IntKind.i64.wrap (ha + hc) = ha + hc := IntWalk.i64_in _ (by omega)
            have hac := HAC.out
            clear CP
            go_wp2
            go_quiet ((go_at_call 43; exact Calls.quiet_of_same (still_of (HCP.out _))))
            clear s0 s2 hwa hac
            have HB := Lib.hid (below_toN HB.out nq)
            go_wp2_with fail
            refine (drawStayLoss_any AM n1 cM lM _ (by omega) HL1.out (HR1.out.below HB.out)).mono ?_
            rintro e wz ⟨F, p3, ws, rfl, hwl, ho, hb⟩
            have HB := Lib.hid (HB.out.trans (hb.mono HB.out.size)); have HOW := Lib.hid ho
            clear ho hb
            have hsf := stayR_facts (fs := ws)
            go_wp2_with fail
            refine (implStayLoss_any F ws.length p3 ws _ (by omega) (Reads.of_own HOW.out) (own_cap HOW.out)).mono ?_
            rintro e wz ⟨rfl, hb⟩
            have HB := Lib.hid (HB.out.trans (hb.mono HB.out.size))
            have HOW := Lib.hid (own_below HOW.out hb)
            clear hb
            go_wp2_with fail
            refine (specStayLoss_any F ws.length p3 ws _ (by omega) (Reads.of_own HOW.out) (own_cap HOW.out)).mono ?_
            rintro e wz ⟨rfl, hb⟩
            have HB := Lib.hid (HB.out.trans (hb.mono HB.out.size))
            have HOW := Lib.hid (own_below HOW.out hb)
            clear hb
            generalize (stayR ws).1 = sv at *
            generalize (stayR ws).2 = so at *
            cases so with
            | false =>
              go_wp2
              go_ret
              exact ⟨rfl, HB.out⟩
            | true =>
              obtain ⟨hw20, hw0, hsv⟩ := hsf rfl
              have HSV := Lib.hid hsv
              have hTT := turnsB_le ws[0] (ws.drop 1)
              have HTL : Hid (turnsB ws[0] (ws.drop 1) ≤ 21) := Lib.hid (by have hl : (ws.drop 1).length ≤ 20 := (by rw [List.length_drop]; omega); omega)
              have HT1 : Hid (turnsB (ws.getD 0 false) (ws.drop 1) = turnsB ws[0] (ws.drop 1)) := Lib.hid (by simp [List.getD, hw0])
              clear hsv hTT
              generalize turnsB ws[0] (ws.drop 1) = TT at *
              go_wp2
              go_loopw [40, 41] (fun t i wr => ∃ k T : Nat, 1 ≤ k ∧ k ≤ ws.length ∧ i = .int .i64 k ∧ t = .int .i64 T ∧ T + turnsB (ws.getD (k - 1) false) (ws.drop k) = TT ∧ Below wz.heap.size wz wr) (fun _ i _ => ws.length - (intOf i).toNat)
              case atStart => exact ⟨1, 0, Nat.le_refl _, by omega, rfl, rfl, by simpa using HT1.out, Below.refl _ _⟩
              case round =>
                obtain ⟨k, T, hk1, hk, rfl, rfl, hrel, hb⟩ := hrel
                have HRL := Lib.hid hrel; have HBR := Lib.hid hb
                clear hrel hb
                have hTb : T ≤ 21 := by have h1 := HRL.out; have h2 := HTL.out; omega
                by_cases hlt : k < ws.length
                · obtain ⟨j, rfl⟩ : ∃ j, k = j + 1 := ⟨k - 1, by omega⟩
                  obtain ⟨ad, u, rfl, hu, k0⟩ := (Reads.of_own (own_below HOW.out HBR.out)).at_ hlt
                  obtain ⟨ad', u', e', hu', k1⟩ := (Reads.of_own (own_below HOW.out HBR.out)).at_ (i := j) (by omega)
                  injection e' with e'
                  subst e'
                  have hj : j < ws.length := by omega
                  have e0 : u = .bool ws[j + 1] := by simp [bools, hlt] at hu; exact hu.symm
                  have e1 : u' = .bool ws[j] := by simp [bools, hj] at hu'; exact hu'.symm
                  subst e0; subst e1
                  clear hu hu'
                  have HSTP : Hid (turnsB (ws.getD (j + 1 - 1) false) (ws.drop (j + 1)) = (if ws[j + 1] = ws[j] then 0 else 1) + turnsB (ws.getD (j + 1 + 1 - 1) false) (ws.drop (j + 1 + 1))) := Lib.hid (by
                    rw [List.drop_eq_getElem_cons hlt]
                    simp [turnsB, List.getD, hlt, hj])
                  generalize ws[j + 1] = b1 at *
                  generalize ws[j] = b0 at *
                  have i0 : (0 : Int) ≤ (j : Int) := by omega
                  have i1 : (j : Int) + 1 < (ws.length : Int) := by omega
                  have i2 : (j : Int) < (ws.length : Int) := by omega
                  have i3 : (0 : Int) ≤ (j : Int) + 1 := by omega
                  rw [add_succ_] at k0
                  have it : ((j : Int) + 1).toNat = j + 1 := by omega
                  have iw : IntKind.i64.wrap (j : Int) = (j : Int) := IntWalk.i64_in _ (by omega)
                  have HNX : Hid (T + (if b1 = b0 then 0 else 1) + turnsB (ws.getD (j + 1 + 1 - 1) false) (ws.drop (j + 1 + 1)) = TT) := Lib.hid (by have h1 := HRL.out; rw [HSTP.out] at h1; omega)
                  cases b1 with
                  | true =>
                    cases b0 with
                    | true =>
                      go_wp2
                      go_quiet (fail)
                      go_wp2
                      clear i0 i1 i2 i3 iw it
                      go_roundw
                      case rel => exact ⟨j + 1 + 1, T, by omega, by omega, by go_num, rfl, by have h := HNX.out; simpa using h, below_toN HBR.out _⟩
                      case measure => simp [intOf]; omega
                    | false =>
                      go_wp2
                      go_quiet (fail)
                      go_wp2
                      clear i0 i1 i2 i3 iw it
                      go_roundw
                      case rel => exact ⟨j + 1 + 1, T + 1, by omega, by omega, by go_num, by go_num, by have h := HNX.out; simpa using h, below_toN HBR.out _⟩
                      case measure => simp [intOf]; omega
                  | false =>
                    cases b0 with
                    | true =>
                      go_wp2
                      go_quiet (fail)
                      go_wp2
                      clear i0 i1 i2 i3 iw it
                      go_roundw
                      case rel => exact ⟨j + 1 + 1, T + 1, by omega, by omega, by go_num, by go_num, by have h := HNX.out; simpa using h, below_toN HBR.out _⟩
                      case measure => simp [intOf]; omega
                    | false =>
                      go_wp2
                      go_quiet (fail)
                      go_wp2
                      clear i0 i1 i2 i3 iw it
                      go_roundw
                      case rel => exact ⟨j + 1 + 1, T, by omega, by omega, by go_num, rfl, by have h := HNX.out; simpa using h, below_toN HBR.out _⟩
                      case measure => simp [intOf]; omega
                · have HE : Hid ((T : Int) = (TT : Int)) := Lib.hid (by have h1 := HRL.out; rw [List.drop_eq_nil_of_le (by omega)] at h1; simp [turnsB] at h1; omega)
                  go_wp2
                  go_ret
                  exact ⟨ret_bool (by rw [HSV.out, HE.out]; first | (simp; done) | rfl), HB.out.trans (HBR.out.mono HB.out.size)⟩
    | true =>
      obtain ⟨h20, hl0, hl1⟩ := HLR.out rfl
      obtain ⟨q, hq⟩ : ∃ q : Nat, q = n1 % 101 := ⟨_, rfl⟩
      have hq100 : q ≤ 100 := by omega
      have HQ : Hid (((n1 : Int) % 101) = (q : Int)) := Lib.hid (by omega)
      clear hq
      have hqi := HQ.out
      go_wp2
      have HQI := Lib.hid hqi
      clear hqi
      obtain ⟨wo, hwo⟩ : ∃ wo, wo = wz := ⟨_, rfl⟩
      have HWO := Lib.hid hwo
      clear hwo
      generalize hg0 : wz.heap.size = g0 at *
      go_loopw [11, 12, 87] (fun r s i wr => ∃ k : Nat, ∃ A1 c1 A2 c2, k ≤ fs.length ∧ i = .int .i64 k ∧ r = .slice A1 k c1 ∧ s = .slice A2 k c2 ∧ wr.ownsRow g0 3 1 (.slice A1 k c1) k (ints ((fs.take k).map saysOf)) ∧ wr.ownsRow g0 3 1 (.slice A2 k c2) k (ints (List.replicate k (q : Int))) ∧ apart (.slice A1 k c1) (.slice A2 k c2) ∧ Below g0 wz wr) (fun _ _ i _ => fs.length - (intOf i).toNat)
      case atStart => exact ⟨0, none, 0, none, 0, Nat.zero_le _, rfl, rfl, rfl, own_start, own_start, .inl rfl, Below.refl _ _⟩
      case round =>
        obtain ⟨k, A1, c1, A2, c2, hk, rfl, rfl, rfl, ho1, ho2, hap, hb⟩ := hrel
        have HO1 := Lib.hid ho1; have HO2 := Lib.hid ho2; have HAP := Lib.hid hap; have HBR := Lib.hid hb
        clear ho1 ho2 hap hb
        have HZR : Hid (g0 ≤ wr.heap.size) := Lib.hid (by rw [← hg0]; exact HBR.out.size)
        by_cases hlt : k < fs.length
        · obtain ⟨ad, u, rfl, hu, k0⟩ := (Reads.of_own (own_below HO.out (by rw [hg0]; exact HBR.out))).at_ hlt
          have e0 : u = .bool fs[k] := by simp [bools, hlt] at hu; exact hu.symm
          subst e0
          have HTK : Hid (fs.take (k + 1) = fs.take k ++ [fs[k]]) := Lib.hid (List.take_succ_eq_append_getElem hlt)
          clear hu
          generalize fs[k] = f at *
          have hqi := HQI.out
          cases f with
          | true =>
            have HO2' := HO2
            go_wp2_with (first | (at_builtin; refine wpList_pushL _ rfl (.tmp 92) (.tmp 93) 33 rfl g0 3 (.int .i64 0) 1 8 infoInt rfl (by omega) Try.underlying33 A1 k c1 (ints ((fs.take k).map saysOf)) rfl (HO1.out.alloc _) (some ⟨_, 0, none⟩) 1 1 [.int .i64 100] rfl (reads_new _ _ _) (by simp [Value.oneCell']) (by omega) (by omega) (by have := HZR.out; simp; omega) ?_; intro A1' c1' w5 hown5 hg5 hb5 hloc5; have HO2 := Lib.hid ((HO2.out.alloc _).kept hg5 (apart_symm HAP.out)); have HO1 := Lib.hid hown5; have HAP := Lib.hid (apart_push HAP.out (HO2'.out.alloc _) hloc5); have HB5 := Lib.hid (((Below.refl _ _).alloc HZR.out _).trans hb5); have HZ5 := Lib.hid (Nat.le_trans HZR.out HB5.out.size); clear hown5 hg5 hb5 hloc5; have HO1' := HO1) | (at_builtin; refine wpList_pushL _ rfl (.tmp 98) (.tmp 102) 33 rfl g0 3 (.int .i64 0) 1 8 infoInt rfl (by omega) Try.underlying33 A2 k c2 (ints (List.replicate k (q : Int))) rfl (HO2.out.alloc _) (some ⟨_, 0, none⟩) 1 1 [.int .i64 (q : Int)] rfl (reads_new _ _ _) (by simp [Value.oneCell']) (by omega) (by omega) (by have := HZ5.out; simp; omega) ?_; intro A2' c2' w6 hown6 hg6 hb6 hloc6; have HO1 := Lib.hid ((HO1.out.alloc _).kept hg6 HAP.out); have HAP := Lib.hid (apart_symm (apart_push (apart_symm HAP.out) (HO1'.out.alloc _) hloc6)); have HO2 := Lib.hid hown6; have HB6 := Lib.hid (((Below.refl _ _).alloc HZ5.out _).trans hb6); clear hown6 hg6 hb6 hloc6))
            go_roundw
            case rel =>
              refine ⟨k + 1, A1', c1', A2', c2', by omega, by go_num, rfl, rfl, ?_, ?_, HAP.out, (HBR.out.trans HB5.out).trans HB6.out⟩
              · rw [HTK.out, List.map_append]
                simpa [ints, saysOf] using HO1.out
              · rw [List.replicate_succ']
                simpa [ints] using HO2.out
            case measure => simp [intOf]; omega
          | false =>
            have HO2' := HO2
            go_wp2_with (first | (at_builtin; refine wpList_pushL _ rfl (.tmp 95) (.tmp 96) 33 rfl g0 3 (.int .i64 0) 1 8 infoInt rfl (by omega) Try.underlying33 A1 k c1 (ints ((fs.take k).map saysOf)) rfl (HO1.out.alloc _) (some ⟨_, 0, none⟩) 1 1 [.int .i64 0] rfl (reads_new _ _ _) (by simp [Value.oneCell']) (by omega) (by omega) (by have := HZR.out; simp; omega) ?_; intro A1' c1' w5 hown5 hg5 hb5 hloc5; have HO2 := Lib.hid ((HO2.out.alloc _).kept hg5 (apart_symm HAP.out)); have HO1 := Lib.hid hown5; have HAP := Lib.hid (apart_push HAP.out (HO2'.out.alloc _) hloc5); have HB5 := Lib.hid (((Below.refl _ _).alloc HZR.out _).trans hb5); have HZ5 := Lib.hid (Nat.le_trans HZR.out HB5.out.size); clear hown5 hg5 hb5 hloc5; have HO1' := HO1) | (at_builtin; refine wpList_pushL _ rfl (.tmp 98) (.tmp 102) 33 rfl g0 3 (.int .i64 0) 1 8 infoInt rfl (by omega) Try.underlying33 A2 k c2 (ints (List.replicate k (q : Int))) rfl (HO2.out.alloc _) (some ⟨_, 0, none⟩) 1 1 [.int .i64 (q : Int)] rfl (reads_new _ _ _) (by simp [Value.oneCell']) (by omega) (by omega) (by have := HZ5.out; simp; omega) ?_; intro A2' c2' w6 hown6 hg6 hb6 hloc6; have HO1 := Lib.hid ((HO1.out.alloc _).kept hg6 HAP.out); have HAP := Lib.hid (apart_symm (apart_push (apart_symm HAP.out) (HO1'.out.alloc _) hloc6)); have HO2 := Lib.hid hown6; have HB6 := Lib.hid (((Below.refl _ _).alloc HZ5.out _).trans hb6); clear hown6 hg6 hb6 hloc6))
            go_roundw
            case rel =>
              refine ⟨k + 1, A1', c1', A2', c2', by omega, by go_num, rfl, rfl, ?_, ?_, HAP.out, (HBR.out.trans HB5.out).trans HB6.out⟩
              · rw [HTK.out, List.map_append]
                simpa [ints, saysOf] using HO1.out
              · rw [List.replicate_succ']
                simpa [ints] using HO2.out
            case measure => simp [intOf]; omega
        · have hke : k = fs.length := by omega
          have e : fs.take k = fs := List.take_of_length_le (by omega)
          rw [e] at HO1
          rw [hke] at HO1 HO2 ⊢
          clear hke e hk
          have HB := Lib.hid (HB.out.trans (HBR.out.mono (by rw [← hg0]; exact HB.out.size)))
          have HO := Lib.hid (own_below HO.out (by rw [hg0]; exact HBR.out))
          have CR := implForecastLoss_any A1 fs.length c1 (fs.map saysOf) D fs.length p fs wr (by omega) (Reads.of_own HO1.out) (by omega) (Reads.of_own HO.out)
          rw [good_true h20] at CR
          simp only at CR
          have HCR := Lib.hid CR
          clear CR
          go_wp2_with fail
          refine (HCR.out ).mono ?_
          rintro e wz ⟨rfl, hb⟩
          have HB := Lib.hid (HB.out.trans (hb.mono HB.out.size))
          have HO := Lib.hid (own_below HO.out hb)
          have HO2 := Lib.hid (own_below HO2.out hb)
          clear hb
          have hbf := bestR_facts h20 hq100
          go_wp2_with fail
          refine (implBest_any D fs.length p fs _ (by omega) (Reads.of_own HO.out)).mono ?_
          rintro e wz ⟨rfl, hb⟩
          have HB := Lib.hid (HB.out.trans (hb.mono HB.out.size))
          have HO := Lib.hid (own_below HO.out hb)
          have HO2 := Lib.hid (own_below HO2.out hb)
          clear hb
          go_wp2_with fail
          refine (specBest_any D fs.length p fs _ (by omega) (Reads.of_own HO.out)).mono ?_
          rintro e wz ⟨rfl, hb⟩
          have HB := Lib.hid (HB.out.trans (hb.mono HB.out.size))
          have HO := Lib.hid (own_below HO.out hb)
          have HO2 := Lib.hid (own_below HO2.out hb)
          clear hb
          generalize (bestR fs).1 = bp at *
          generalize (bestR fs).2.1 = bl at *
          generalize (bestR fs).2.2 = bo at *
          obtain ⟨hbo, hbl, hbe⟩ := hbf
          subst hbo
          have CT := implForecastLoss_any A2 fs.length c2 (List.replicate fs.length (q : Int)) D fs.length p fs _ (by omega) (Reads.of_own HO2.out) (by omega) (Reads.of_own HO.out)
          rw [good_rep h20 hq100] at CT
          simp only at CT
          generalize loss (List.replicate fs.length (q : Int)) fs = ov at *
          have HCT := Lib.hid CT
          have HBE := Lib.hid hbe
          clear CT hbe
          go_wp2_with fail
          refine (HCT.out ).mono ?_
          rintro e wz ⟨rfl, hb⟩
          have HB := Lib.hid (HB.out.trans (hb.mono HB.out.size))
          
          clear hb
          have hqi := HQI.out
          by_cases hob : bl = ov
          · have hpq := HBE.out hob
            subst hob
            go_wp2_with fail
            clear hqi hpq
            refine (drawHitCounts_any AM n1 cM lM _ (by omega) HL1.out (HR1.out.below HB.out)).mono ?_
            rintro e wz ⟨B2, m2, d2, us, E, p2, vs, q2, rfl, hvl, hul, hr, ho, hb⟩
            have HB := Lib.hid (HB.out.trans (hb.mono HB.out.size)); have HOV := Lib.hid ho; have HRU := Lib.hid hr
            clear hr ho hb
            have CI := implHitCounts_any B2 m2 d2 us E vs.length p2 vs q2 _ (by omega) HRU.out (by omega) (Reads.of_own HOV.out)
            have CS := fun W hW => specHitCounts_any B2 m2 d2 us E vs.length p2 vs q2 W (by omega) (HRU.out.below hW) (by omega) (Reads.of_own (own_below HOV.out hW))
            have hhf := hitCountsR_facts (xs := us) (fs := vs) (least := q2)
            have hhb := hitCountsR_bd us vs q2
            generalize (hitCountsR us vs q2).1 = HL at *
            generalize (hitCountsR us vs q2).2 = hok at *
            cases hok with
            | false =>
              have HCI := Lib.hid CI; have HCS := Lib.hid CS
              clear CI CS hhf
              go_wp2_with fail
              refine (HCI.out).mono ?_
              rintro e wz ⟨A3, c3, rfl, ho3, hb⟩
              have HB := Lib.hid (HB.out.trans (hb.mono HB.out.size)); have HOV := Lib.hid (own_below HOV.out hb); have HBX := Lib.hid hb; have HO3 := Lib.hid ho3
              clear hb ho3
              go_wp2_with fail
              refine (HCS.out _ HBX.out).mono ?_
              rintro e wz ⟨A4, c4, rfl, ho4, hb⟩
              have HB := Lib.hid (HB.out.trans (hb.mono HB.out.size)); have HOV := Lib.hid (own_below HOV.out hb); have HO3 := Lib.hid (own_below HO3.out hb); have HO4 := Lib.hid ho4
              clear hb ho4 HBX HCI HCS
              have CE := sameInts_any A3 HL.length c3 HL A4 HL.length c4 HL _ (by omega) (by omega) (Reads.of_own HO3.out) (Reads.of_own HO4.out)
              rw [same_refl] at CE
              have HCE := Lib.hid CE
              clear CE
              go_wp2_with fail
              refine (HCE.out).mono ?_
              rintro e wz ⟨rfl, hq⟩
              have hb := below_of_quiet (B := w.heap.size) hq
              have HB := Lib.hid (HB.out.trans hb); have HOV := Lib.hid (own_below HOV.out (below_of_quiet hq)); have HO4 := Lib.hid (own_below HO4.out (below_of_quiet hq))
              clear hb hq HCE
              go_wp2_with fail
              refine (drawStayLoss_any AM n1 cM lM _ (by omega) HL1.out (HR1.out.below HB.out)).mono ?_
              rintro e wz ⟨F, p3, ws, rfl, hwl, ho, hb⟩
              have HB := Lib.hid (HB.out.trans (hb.mono HB.out.size)); have HOW := Lib.hid ho
              clear ho hb
              have hsf := stayR_facts (fs := ws)
              go_wp2_with fail
              refine (implStayLoss_any F ws.length p3 ws _ (by omega) (Reads.of_own HOW.out) (own_cap HOW.out)).mono ?_
              rintro e wz ⟨rfl, hb⟩
              have HB := Lib.hid (HB.out.trans (hb.mono HB.out.size))
              have HOW := Lib.hid (own_below HOW.out hb)
              clear hb
              go_wp2_with fail
              refine (specStayLoss_any F ws.length p3 ws _ (by omega) (Reads.of_own HOW.out) (own_cap HOW.out)).mono ?_
              rintro e wz ⟨rfl, hb⟩
              have HB := Lib.hid (HB.out.trans (hb.mono HB.out.size))
              have HOW := Lib.hid (own_below HOW.out hb)
              clear hb
              generalize (stayR ws).1 = sv at *
              generalize (stayR ws).2 = so at *
              cases so with
              | false =>
                go_wp2
                go_ret
                exact ⟨rfl, HB.out⟩
              | true =>
                obtain ⟨hw20, hw0, hsv⟩ := hsf rfl
                have HSV := Lib.hid hsv
                have hTT := turnsB_le ws[0] (ws.drop 1)
                have HTL : Hid (turnsB ws[0] (ws.drop 1) ≤ 21) := Lib.hid (by have hl : (ws.drop 1).length ≤ 20 := (by rw [List.length_drop]; omega); omega)
                have HT1 : Hid (turnsB (ws.getD 0 false) (ws.drop 1) = turnsB ws[0] (ws.drop 1)) := Lib.hid (by simp [List.getD, hw0])
                clear hsv hTT
                generalize turnsB ws[0] (ws.drop 1) = TT at *
                go_wp2
                go_loopw [40, 41] (fun t i wr => ∃ k T : Nat, 1 ≤ k ∧ k ≤ ws.length ∧ i = .int .i64 k ∧ t = .int .i64 T ∧ T + turnsB (ws.getD (k - 1) false) (ws.drop k) = TT ∧ Below wz.heap.size wz wr) (fun _ i _ => ws.length - (intOf i).toNat)
                case atStart => exact ⟨1, 0, Nat.le_refl _, by omega, rfl, rfl, by simpa using HT1.out, Below.refl _ _⟩
                case round =>
                  obtain ⟨k, T, hk1, hk, rfl, rfl, hrel, hb⟩ := hrel
                  have HRL := Lib.hid hrel; have HBR := Lib.hid hb
                  clear hrel hb
                  have hTb : T ≤ 21 := by have h1 := HRL.out; have h2 := HTL.out; omega
                  by_cases hlt : k < ws.length
                  · obtain ⟨j, rfl⟩ : ∃ j, k = j + 1 := ⟨k - 1, by omega⟩
                    obtain ⟨ad, u, rfl, hu, k0⟩ := (Reads.of_own (own_below HOW.out HBR.out)).at_ hlt
                    obtain ⟨ad', u', e', hu', k1⟩ := (Reads.of_own (own_below HOW.out HBR.out)).at_ (i := j) (by omega)
                    injection e' with e'
                    subst e'
                    have hj : j < ws.length := by omega
                    have e0 : u = .bool ws[j + 1] := by simp [bools, hlt] at hu; exact hu.symm
                    have e1 : u' = .bool ws[j] := by simp [bools, hj] at hu'; exact hu'.symm
                    subst e0; subst e1
                    clear hu hu'
                    have HSTP : Hid (turnsB (ws.getD (j + 1 - 1) false) (ws.drop (j + 1)) = (if ws[j + 1] = ws[j] then 0 else 1) + turnsB (ws.getD (j + 1 + 1 - 1) false) (ws.drop (j + 1 + 1))) := Lib.hid (by
                      rw [List.drop_eq_getElem_cons hlt]
                      simp [turnsB, List.getD, hlt, hj])
                    generalize ws[j + 1] = b1 at *
                    generalize ws[j] = b0 at *
                    have i0 : (0 : Int) ≤ (j : Int) := by omega
                    have i1 : (j : Int) + 1 < (ws.length : Int) := by omega
                    have i2 : (j : Int) < (ws.length : Int) := by omega
                    have i3 : (0 : Int) ≤ (j : Int) + 1 := by omega
                    rw [add_succ_] at k0
                    have it : ((j : Int) + 1).toNat = j + 1 := by omega
                    have iw : IntKind.i64.wrap (j : Int) = (j : Int) := IntWalk.i64_in _ (by omega)
                    have HNX : Hid (T + (if b1 = b0 then 0 else 1) + turnsB (ws.getD (j + 1 + 1 - 1) false) (ws.drop (j + 1 + 1)) = TT) := Lib.hid (by have h1 := HRL.out; rw [HSTP.out] at h1; omega)
                    cases b1 with
                    | true =>
                      cases b0 with
                      | true =>
                        go_wp2
                        go_quiet (fail)
                        go_wp2
                        clear i0 i1 i2 i3 iw it
                        go_roundw
                        case rel => exact ⟨j + 1 + 1, T, by omega, by omega, by go_num, rfl, by have h := HNX.out; simpa using h, below_toN HBR.out _⟩
                        case measure => simp [intOf]; omega
                      | false =>
                        go_wp2
                        go_quiet (fail)
                        go_wp2
                        clear i0 i1 i2 i3 iw it
                        go_roundw
                        case rel => exact ⟨j + 1 + 1, T + 1, by omega, by omega, by go_num, by go_num, by have h := HNX.out; simpa using h, below_toN HBR.out _⟩
                        case measure => simp [intOf]; omega
                    | false =>
                      cases b0 with
                      | true =>
                        go_wp2
                        go_quiet (fail)
                        go_wp2
                        clear i0 i1 i2 i3 iw it
                        go_roundw
                        case rel => exact ⟨j + 1 + 1, T + 1, by omega, by omega, by go_num, by go_num, by have h := HNX.out; simpa using h, below_toN HBR.out _⟩
                        case measure => simp [intOf]; omega
                      | false =>
                        go_wp2
                        go_quiet (fail)
                        go_wp2
                        clear i0 i1 i2 i3 iw it
                        go_roundw
                        case rel => exact ⟨j + 1 + 1, T, by omega, by omega, by go_num, rfl, by have h := HNX.out; simpa using h, below_toN HBR.out _⟩
                        case measure => simp [intOf]; omega
                  · have HE : Hid ((T : Int) = (TT : Int)) := Lib.hid (by have h1 := HRL.out; rw [List.drop_eq_nil_of_le (by omega)] at h1; simp [turnsB] at h1; omega)
                    go_wp2
                    go_ret
                    exact ⟨ret_bool (by rw [HSV.out, HE.out]; first | (simp; done) | rfl), HB.out.trans (HBR.out.mono HB.out.size)⟩
            | true =>
              obtain ⟨hv20, ha, hb', hc, hd, rfl, ha0, hb0, hc0, hd0, hsum, hac⟩ := hhf rfl
              simp only [List.length_cons, List.length_nil] at CI CS
              have HCI := Lib.hid CI; have HCS := Lib.hid CS
              clear CI CS hhb
              have HSUM : Hid (sumZ [ha, hb', hc, hd] = (vs.length : Int)) := Lib.hid (by simp [sumZ]; omega)
              have HAC := Lib.hid hac
              have hcb := cntB_le vs
              have hub : ha ≤ 20 ∧ hb' ≤ 20 ∧ hc ≤ 20 ∧ hd ≤ 20 := by omega
              obtain ⟨ub1, ub2, ub3, ub4⟩ := hub
              clear hsum hac
              go_wp2_with fail
              refine (HCI.out).mono ?_
              rintro e wz ⟨A3, c3, rfl, ho3, hb⟩
              have HB := Lib.hid (HB.out.trans (hb.mono HB.out.size)); have HOV := Lib.hid (own_below HOV.out hb); have HBX := Lib.hid hb; have HO3 := Lib.hid ho3
              clear hb ho3
              go_wp2_with fail
              refine (HCS.out _ HBX.out).mono ?_
              rintro e wz ⟨A4, c4, rfl, ho4, hb⟩
              have HB := Lib.hid (HB.out.trans (hb.mono HB.out.size)); have HOV := Lib.hid (own_below HOV.out hb); have HO3 := Lib.hid (own_below HO3.out hb); have HO4 := Lib.hid ho4
              clear hb ho4 HBX HCI HCS
              have CE := sameInts_any A3 4 c3 [ha, hb', hc, hd] A4 4 c4 [ha, hb', hc, hd] _ (by omega) (by omega) (Reads.of_own HO3.out) (Reads.of_own HO4.out)
              rw [same_refl] at CE
              have HCE := Lib.hid CE
              clear CE
              go_wp2_with fail
              refine (HCE.out).mono ?_
              rintro e wz ⟨rfl, hq⟩
              have hb := below_of_quiet (B := w.heap.size) hq
              have HB := Lib.hid (HB.out.trans hb); have HOV := Lib.hid (own_below HOV.out (below_of_quiet hq)); have HO4 := Lib.hid (own_below HO4.out (below_of_quiet hq))
              clear hb hq HCE
              go_wp2
              go_loopw [32, 206] (fun t i wr => ∃ k : Nat, k ≤ vs.length ∧ i = .int .i64 k ∧ t = .int .i64 ((cntB (vs.take k) : Nat) : Int) ∧ Below wz.heap.size wz wr) (fun _ i _ => vs.length - (intOf i).toNat)
              case atStart => exact ⟨0, Nat.zero_le _, rfl, rfl, Below.refl _ _⟩
              case round =>
                obtain ⟨k, hk, rfl, rfl, hb⟩ := hrel
                have HBR := Lib.hid hb
                clear hb
                by_cases hlt : k < vs.length
                · obtain ⟨ad, u, rfl, hu, k0⟩ := (Reads.of_own (own_below HOV.out HBR.out)).at_ hlt
                  have e0 : u = .bool vs[k] := by simp [bools, hlt] at hu; exact hu.symm
                  subst e0
                  have HTK : Hid (vs.take (k + 1) = vs.take k ++ [vs[k]]) := Lib.hid (List.take_succ_eq_append_getElem hlt)
                  have hct := cntB_le (vs.take k)
                  have hct2 : cntB (vs.take k) ≤ 21 := by simp at hct; omega
                  clear hu hct
                  generalize vs[k] = f at *
                  have HCN : Hid (cntB (vs.take (k + 1)) = cntB (vs.take k) + (if f = true then 1 else 0)) := Lib.hid (by rw [HTK.out, cntB_snoc])
                  generalize cntB (vs.take k) = N at *
                  cases f with
                  | true =>
                    go_wp2
                    go_roundw
                    case rel => exact ⟨k + 1, by omega, by go_num, by rw [HCN.out]; go_num, HBR.out⟩
                    case measure => simp [intOf]; omega
                  | false =>
                    go_wp2
                    go_roundw
                    case rel => exact ⟨k + 1, by omega, by go_num, by rw [HCN.out]; go_num, HBR.out⟩
                    case measure => simp [intOf]; omega
                · have e : vs.take k = vs := List.take_of_length_le (by omega)
                  rw [e]
                  have HB := Lib.hid (HB.out.trans (HBR.out.mono HB.out.size))
                  have HO4 := Lib.hid (own_below HO4.out HBR.out)
                  obtain ⟨g4, rfl, _⟩ := own_at0 HO4.out (by omega)
                  have s0 : wr.cell? ⟨g4, 0, none⟩ = some (.int .i64 ha) := by rw [HO4.out.cellAt 0 (by omega)]; rfl
                  have s2 : wr.cell? ⟨g4, 2, none⟩ = some (.int .i64 hc) := by rw [HO4.out.cellAt 2 (by omega)]; rfl
                  have CP := fun mm => pSum_any (some ⟨g4, 0, none⟩) 4 c4 [ha, hb', hc, hd] (wr.drewN mm) (by omega) ((Reads.of_own HO4.out).drewN mm) (by intro x hx; simp at hx; omega)
                  rw [HSUM.out] at CP
                  have HCP := Lib.hid CP
                  have hwa : IntKind.i64.wrap (ha + hc) = ha + hc := IntWalk.i64_in _ (by omega)
                  have hac := HAC.out
                  clear CP
                  go_wp2
                  go_quiet ((go_at_call 43; exact Calls.quiet_of_same (still_of (HCP.out _))))
                  clear s0 s2 hwa hac
                  have HB := Lib.hid (below_toN HB.out nq)
                  go_wp2_with fail
                  refine (drawStayLoss_any AM n1 cM lM _ (by omega) HL1.out (HR1.out.below HB.out)).mono ?_
                  rintro e wz ⟨F, p3, ws, rfl, hwl, ho, hb⟩
                  have HB := Lib.hid (HB.out.trans (hb.mono HB.out.size)); have HOW := Lib.hid ho
                  clear ho hb
                  have hsf := stayR_facts (fs := ws)
                  go_wp2_with fail
                  refine (implStayLoss_any F ws.length p3 ws _ (by omega) (Reads.of_own HOW.out) (own_cap HOW.out)).mono ?_
                  rintro e wz ⟨rfl, hb⟩
                  have HB := Lib.hid (HB.out.trans (hb.mono HB.out.size))
                  have HOW := Lib.hid (own_below HOW.out hb)
                  clear hb
                  go_wp2_with fail
                  refine (specStayLoss_any F ws.length p3 ws _ (by omega) (Reads.of_own HOW.out) (own_cap HOW.out)).mono ?_
                  rintro e wz ⟨rfl, hb⟩
                  have HB := Lib.hid (HB.out.trans (hb.mono HB.out.size))
                  have HOW := Lib.hid (own_below HOW.out hb)
                  clear hb
                  generalize (stayR ws).1 = sv at *
                  generalize (stayR ws).2 = so at *
                  cases so with
                  | false =>
                    go_wp2
                    go_ret
                    exact ⟨rfl, HB.out⟩
                  | true =>
                    obtain ⟨hw20, hw0, hsv⟩ := hsf rfl
                    have HSV := Lib.hid hsv
                    have hTT := turnsB_le ws[0] (ws.drop 1)
                    have HTL : Hid (turnsB ws[0] (ws.drop 1) ≤ 21) := Lib.hid (by have hl : (ws.drop 1).length ≤ 20 := (by rw [List.length_drop]; omega); omega)
                    have HT1 : Hid (turnsB (ws.getD 0 false) (ws.drop 1) = turnsB ws[0] (ws.drop 1)) := Lib.hid (by simp [List.getD, hw0])
                    clear hsv hTT
                    generalize turnsB ws[0] (ws.drop 1) = TT at *
                    go_wp2
                    go_loopw [40, 41] (fun t i wr => ∃ k T : Nat, 1 ≤ k ∧ k ≤ ws.length ∧ i = .int .i64 k ∧ t = .int .i64 T ∧ T + turnsB (ws.getD (k - 1) false) (ws.drop k) = TT ∧ Below wz.heap.size wz wr) (fun _ i _ => ws.length - (intOf i).toNat)
                    case atStart => exact ⟨1, 0, Nat.le_refl _, by omega, rfl, rfl, by simpa using HT1.out, Below.refl _ _⟩
                    case round =>
                      obtain ⟨k, T, hk1, hk, rfl, rfl, hrel, hb⟩ := hrel
                      have HRL := Lib.hid hrel; have HBR := Lib.hid hb
                      clear hrel hb
                      have hTb : T ≤ 21 := by have h1 := HRL.out; have h2 := HTL.out; omega
                      by_cases hlt : k < ws.length
                      · obtain ⟨j, rfl⟩ : ∃ j, k = j + 1 := ⟨k - 1, by omega⟩
                        obtain ⟨ad, u, rfl, hu, k0⟩ := (Reads.of_own (own_below HOW.out HBR.out)).at_ hlt
                        obtain ⟨ad', u', e', hu', k1⟩ := (Reads.of_own (own_below HOW.out HBR.out)).at_ (i := j) (by omega)
                        injection e' with e'
                        subst e'
                        have hj : j < ws.length := by omega
                        have e0 : u = .bool ws[j + 1] := by simp [bools, hlt] at hu; exact hu.symm
                        have e1 : u' = .bool ws[j] := by simp [bools, hj] at hu'; exact hu'.symm
                        subst e0; subst e1
                        clear hu hu'
                        have HSTP : Hid (turnsB (ws.getD (j + 1 - 1) false) (ws.drop (j + 1)) = (if ws[j + 1] = ws[j] then 0 else 1) + turnsB (ws.getD (j + 1 + 1 - 1) false) (ws.drop (j + 1 + 1))) := Lib.hid (by
                          rw [List.drop_eq_getElem_cons hlt]
                          simp [turnsB, List.getD, hlt, hj])
                        generalize ws[j + 1] = b1 at *
                        generalize ws[j] = b0 at *
                        have i0 : (0 : Int) ≤ (j : Int) := by omega
                        have i1 : (j : Int) + 1 < (ws.length : Int) := by omega
                        have i2 : (j : Int) < (ws.length : Int) := by omega
                        have i3 : (0 : Int) ≤ (j : Int) + 1 := by omega
                        rw [add_succ_] at k0
                        have it : ((j : Int) + 1).toNat = j + 1 := by omega
                        have iw : IntKind.i64.wrap (j : Int) = (j : Int) := IntWalk.i64_in _ (by omega)
                        have HNX : Hid (T + (if b1 = b0 then 0 else 1) + turnsB (ws.getD (j + 1 + 1 - 1) false) (ws.drop (j + 1 + 1)) = TT) := Lib.hid (by have h1 := HRL.out; rw [HSTP.out] at h1; omega)
                        cases b1 with
                        | true =>
                          cases b0 with
                          | true =>
                            go_wp2
                            go_quiet (fail)
                            go_wp2
                            clear i0 i1 i2 i3 iw it
                            go_roundw
                            case rel => exact ⟨j + 1 + 1, T, by omega, by omega, by go_num, rfl, by have h := HNX.out; simpa using h, below_toN HBR.out _⟩
                            case measure => simp [intOf]; omega
                          | false =>
                            go_wp2
                            go_quiet (fail)
                            go_wp2
                            clear i0 i1 i2 i3 iw it
                            go_roundw
                            case rel => exact ⟨j + 1 + 1, T + 1, by omega, by omega, by go_num, by go_num, by have h := HNX.out; simpa using h, below_toN HBR.out _⟩
                            case measure => simp [intOf]; omega
                        | false =>
                          cases b0 with
                          | true =>
                            go_wp2
                            go_quiet (fail)
                            go_wp2
                            clear i0 i1 i2 i3 iw it
                            go_roundw
                            case rel => exact ⟨j + 1 + 1, T + 1, by omega, by omega, by go_num, by go_num, by have h := HNX.out; simpa using h, below_toN HBR.out _⟩
                            case measure => simp [intOf]; omega
                          | false =>
                            go_wp2
                            go_quiet (fail)
                            go_wp2
                            clear i0 i1 i2 i3 iw it
                            go_roundw
                            case rel => exact ⟨j + 1 + 1, T, by omega, by omega, by go_num, rfl, by have h := HNX.out; simpa using h, below_toN HBR.out _⟩
                            case measure => simp [intOf]; omega
                      · have HE : Hid ((T : Int) = (TT : Int)) := Lib.hid (by have h1 := HRL.out; rw [List.drop_eq_nil_of_le (by omega)] at h1; simp [turnsB] at h1; omega)
                        go_wp2
                        go_ret
                        exact ⟨ret_bool (by rw [HSV.out, HE.out]; first | (simp; done) | rfl), HB.out.trans (HBR.out.mono HB.out.size)⟩
          · have hob' : ¬ ov = bl := fun h => hob h.symm
            go_wp2_with fail
            clear hqi hob hob'
            refine (drawHitCounts_any AM n1 cM lM _ (by omega) HL1.out (HR1.out.below HB.out)).mono ?_
            rintro e wz ⟨B2, m2, d2, us, E, p2, vs, q2, rfl, hvl, hul, hr, ho, hb⟩
            have HB := Lib.hid (HB.out.trans (hb.mono HB.out.size)); have HOV := Lib.hid ho; have HRU := Lib.hid hr
            clear hr ho hb
            have CI := implHitCounts_any B2 m2 d2 us E vs.length p2 vs q2 _ (by omega) HRU.out (by omega) (Reads.of_own HOV.out)
            have CS := fun W hW => specHitCounts_any B2 m2 d2 us E vs.length p2 vs q2 W (by omega) (HRU.out.below hW) (by omega) (Reads.of_own (own_below HOV.out hW))
            have hhf := hitCountsR_facts (xs := us) (fs := vs) (least := q2)
            have hhb := hitCountsR_bd us vs q2
            generalize (hitCountsR us vs q2).1 = HL at *
            generalize (hitCountsR us vs q2).2 = hok at *
            cases hok with
            | false =>
              have HCI := Lib.hid CI; have HCS := Lib.hid CS
              clear CI CS hhf
              go_wp2_with fail
              refine (HCI.out).mono ?_
              rintro e wz ⟨A3, c3, rfl, ho3, hb⟩
              have HB := Lib.hid (HB.out.trans (hb.mono HB.out.size)); have HOV := Lib.hid (own_below HOV.out hb); have HBX := Lib.hid hb; have HO3 := Lib.hid ho3
              clear hb ho3
              go_wp2_with fail
              refine (HCS.out _ HBX.out).mono ?_
              rintro e wz ⟨A4, c4, rfl, ho4, hb⟩
              have HB := Lib.hid (HB.out.trans (hb.mono HB.out.size)); have HOV := Lib.hid (own_below HOV.out hb); have HO3 := Lib.hid (own_below HO3.out hb); have HO4 := Lib.hid ho4
              clear hb ho4 HBX HCI HCS
              have CE := sameInts_any A3 HL.length c3 HL A4 HL.length c4 HL _ (by omega) (by omega) (Reads.of_own HO3.out) (Reads.of_own HO4.out)
              rw [same_refl] at CE
              have HCE := Lib.hid CE
              clear CE
              go_wp2_with fail
              refine (HCE.out).mono ?_
              rintro e wz ⟨rfl, hq⟩
              have hb := below_of_quiet (B := w.heap.size) hq
              have HB := Lib.hid (HB.out.trans hb); have HOV := Lib.hid (own_below HOV.out (below_of_quiet hq)); have HO4 := Lib.hid (own_below HO4.out (below_of_quiet hq))
              clear hb hq HCE
              go_wp2_with fail
              refine (drawStayLoss_any AM n1 cM lM _ (by omega) HL1.out (HR1.out.below HB.out)).mono ?_
              rintro e wz ⟨F, p3, ws, rfl, hwl, ho, hb⟩
              have HB := Lib.hid (HB.out.trans (hb.mono HB.out.size)); have HOW := Lib.hid ho
              clear ho hb
              have hsf := stayR_facts (fs := ws)
              go_wp2_with fail
              refine (implStayLoss_any F ws.length p3 ws _ (by omega) (Reads.of_own HOW.out) (own_cap HOW.out)).mono ?_
              rintro e wz ⟨rfl, hb⟩
              have HB := Lib.hid (HB.out.trans (hb.mono HB.out.size))
              have HOW := Lib.hid (own_below HOW.out hb)
              clear hb
              go_wp2_with fail
              refine (specStayLoss_any F ws.length p3 ws _ (by omega) (Reads.of_own HOW.out) (own_cap HOW.out)).mono ?_
              rintro e wz ⟨rfl, hb⟩
              have HB := Lib.hid (HB.out.trans (hb.mono HB.out.size))
              have HOW := Lib.hid (own_below HOW.out hb)
              clear hb
              generalize (stayR ws).1 = sv at *
              generalize (stayR ws).2 = so at *
              cases so with
              | false =>
                go_wp2
                go_ret
                exact ⟨rfl, HB.out⟩
              | true =>
                obtain ⟨hw20, hw0, hsv⟩ := hsf rfl
                have HSV := Lib.hid hsv
                have hTT := turnsB_le ws[0] (ws.drop 1)
                have HTL : Hid (turnsB ws[0] (ws.drop 1) ≤ 21) := Lib.hid (by have hl : (ws.drop 1).length ≤ 20 := (by rw [List.length_drop]; omega); omega)
                have HT1 : Hid (turnsB (ws.getD 0 false) (ws.drop 1) = turnsB ws[0] (ws.drop 1)) := Lib.hid (by simp [List.getD, hw0])
                clear hsv hTT
                generalize turnsB ws[0] (ws.drop 1) = TT at *
                go_wp2
                go_loopw [40, 41] (fun t i wr => ∃ k T : Nat, 1 ≤ k ∧ k ≤ ws.length ∧ i = .int .i64 k ∧ t = .int .i64 T ∧ T + turnsB (ws.getD (k - 1) false) (ws.drop k) = TT ∧ Below wz.heap.size wz wr) (fun _ i _ => ws.length - (intOf i).toNat)
                case atStart => exact ⟨1, 0, Nat.le_refl _, by omega, rfl, rfl, by simpa using HT1.out, Below.refl _ _⟩
                case round =>
                  obtain ⟨k, T, hk1, hk, rfl, rfl, hrel, hb⟩ := hrel
                  have HRL := Lib.hid hrel; have HBR := Lib.hid hb
                  clear hrel hb
                  have hTb : T ≤ 21 := by have h1 := HRL.out; have h2 := HTL.out; omega
                  by_cases hlt : k < ws.length
                  · obtain ⟨j, rfl⟩ : ∃ j, k = j + 1 := ⟨k - 1, by omega⟩
                    obtain ⟨ad, u, rfl, hu, k0⟩ := (Reads.of_own (own_below HOW.out HBR.out)).at_ hlt
                    obtain ⟨ad', u', e', hu', k1⟩ := (Reads.of_own (own_below HOW.out HBR.out)).at_ (i := j) (by omega)
                    injection e' with e'
                    subst e'
                    have hj : j < ws.length := by omega
                    have e0 : u = .bool ws[j + 1] := by simp [bools, hlt] at hu; exact hu.symm
                    have e1 : u' = .bool ws[j] := by simp [bools, hj] at hu'; exact hu'.symm
                    subst e0; subst e1
                    clear hu hu'
                    have HSTP : Hid (turnsB (ws.getD (j + 1 - 1) false) (ws.drop (j + 1)) = (if ws[j + 1] = ws[j] then 0 else 1) + turnsB (ws.getD (j + 1 + 1 - 1) false) (ws.drop (j + 1 + 1))) := Lib.hid (by
                      rw [List.drop_eq_getElem_cons hlt]
                      simp [turnsB, List.getD, hlt, hj])
                    generalize ws[j + 1] = b1 at *
                    generalize ws[j] = b0 at *
                    have i0 : (0 : Int) ≤ (j : Int) := by omega
                    have i1 : (j : Int) + 1 < (ws.length : Int) := by omega
                    have i2 : (j : Int) < (ws.length : Int) := by omega
                    have i3 : (0 : Int) ≤ (j : Int) + 1 := by omega
                    rw [add_succ_] at k0
                    have it : ((j : Int) + 1).toNat = j + 1 := by omega
                    have iw : IntKind.i64.wrap (j : Int) = (j : Int) := IntWalk.i64_in _ (by omega)
                    have HNX : Hid (T + (if b1 = b0 then 0 else 1) + turnsB (ws.getD (j + 1 + 1 - 1) false) (ws.drop (j + 1 + 1)) = TT) := Lib.hid (by have h1 := HRL.out; rw [HSTP.out] at h1; omega)
                    cases b1 with
                    | true =>
                      cases b0 with
                      | true =>
                        go_wp2
                        go_quiet (fail)
                        go_wp2
                        clear i0 i1 i2 i3 iw it
                        go_roundw
                        case rel => exact ⟨j + 1 + 1, T, by omega, by omega, by go_num, rfl, by have h := HNX.out; simpa using h, below_toN HBR.out _⟩
                        case measure => simp [intOf]; omega
                      | false =>
                        go_wp2
                        go_quiet (fail)
                        go_wp2
                        clear i0 i1 i2 i3 iw it
                        go_roundw
                        case rel => exact ⟨j + 1 + 1, T + 1, by omega, by omega, by go_num, by go_num, by have h := HNX.out; simpa using h, below_toN HBR.out _⟩
                        case measure => simp [intOf]; omega
                    | false =>
                      cases b0 with
                      | true =>
                        go_wp2
                        go_quiet (fail)
                        go_wp2
                        clear i0 i1 i2 i3 iw it
                        go_roundw
                        case rel => exact ⟨j + 1 + 1, T + 1, by omega, by omega, by go_num, by go_num, by have h := HNX.out; simpa using h, below_toN HBR.out _⟩
                        case measure => simp [intOf]; omega
                      | false =>
                        go_wp2
                        go_quiet (fail)
                        go_wp2
                        clear i0 i1 i2 i3 iw it
                        go_roundw
                        case rel => exact ⟨j + 1 + 1, T, by omega, by omega, by go_num, rfl, by have h := HNX.out; simpa using h, below_toN HBR.out _⟩
                        case measure => simp [intOf]; omega
                  · have HE : Hid ((T : Int) = (TT : Int)) := Lib.hid (by have h1 := HRL.out; rw [List.drop_eq_nil_of_le (by omega)] at h1; simp [turnsB] at h1; omega)
                    go_wp2
                    go_ret
                    exact ⟨ret_bool (by rw [HSV.out, HE.out]; first | (simp; done) | rfl), HB.out.trans (HBR.out.mono HB.out.size)⟩
            | true =>
              obtain ⟨hv20, ha, hb', hc, hd, rfl, ha0, hb0, hc0, hd0, hsum, hac⟩ := hhf rfl
              simp only [List.length_cons, List.length_nil] at CI CS
              have HCI := Lib.hid CI; have HCS := Lib.hid CS
              clear CI CS hhb
              have HSUM : Hid (sumZ [ha, hb', hc, hd] = (vs.length : Int)) := Lib.hid (by simp [sumZ]; omega)
              have HAC := Lib.hid hac
              have hcb := cntB_le vs
              have hub : ha ≤ 20 ∧ hb' ≤ 20 ∧ hc ≤ 20 ∧ hd ≤ 20 := by omega
              obtain ⟨ub1, ub2, ub3, ub4⟩ := hub
              clear hsum hac
              go_wp2_with fail
              refine (HCI.out).mono ?_
              rintro e wz ⟨A3, c3, rfl, ho3, hb⟩
              have HB := Lib.hid (HB.out.trans (hb.mono HB.out.size)); have HOV := Lib.hid (own_below HOV.out hb); have HBX := Lib.hid hb; have HO3 := Lib.hid ho3
              clear hb ho3
              go_wp2_with fail
              refine (HCS.out _ HBX.out).mono ?_
              rintro e wz ⟨A4, c4, rfl, ho4, hb⟩
              have HB := Lib.hid (HB.out.trans (hb.mono HB.out.size)); have HOV := Lib.hid (own_below HOV.out hb); have HO3 := Lib.hid (own_below HO3.out hb); have HO4 := Lib.hid ho4
              clear hb ho4 HBX HCI HCS
              have CE := sameInts_any A3 4 c3 [ha, hb', hc, hd] A4 4 c4 [ha, hb', hc, hd] _ (by omega) (by omega) (Reads.of_own HO3.out) (Reads.of_own HO4.out)
              rw [same_refl] at CE
              have HCE := Lib.hid CE
              clear CE
              go_wp2_with fail
              refine (HCE.out).mono ?_
              rintro e wz ⟨rfl, hq⟩
              have hb := below_of_quiet (B := w.heap.size) hq
              have HB := Lib.hid (HB.out.trans hb); have HOV := Lib.hid (own_below HOV.out (below_of_quiet hq)); have HO4 := Lib.hid (own_below HO4.out (below_of_quiet hq))
              clear hb hq HCE
              go_wp2
              go_loopw [32, 206] (fun t i wr => ∃ k : Nat, k ≤ vs.length ∧ i = .int .i64 k ∧ t = .int .i64 ((cntB (vs.take k) : Nat) : Int) ∧ Below wz.heap.size wz wr) (fun _ i _ => vs.length - (intOf i).toNat)
              case atStart => exact ⟨0, Nat.zero_le _, rfl, rfl, Below.refl _ _⟩
              case round =>
                obtain ⟨k, hk, rfl, rfl, hb⟩ := hrel
                have HBR := Lib.hid hb
                clear hb
                by_cases hlt : k < vs.length
                · obtain ⟨ad, u, rfl, hu, k0⟩ := (Reads.of_own (own_below HOV.out HBR.out)).at_ hlt
                  have e0 : u = .bool vs[k] := by simp [bools, hlt] at hu; exact hu.symm
                  subst e0
                  have HTK : Hid (vs.take (k + 1) = vs.take k ++ [vs[k]]) := Lib.hid (List.take_succ_eq_append_getElem hlt)
                  have hct := cntB_le (vs.take k)
                  have hct2 : cntB (vs.take k) ≤ 21 := by simp at hct; omega
                  clear hu hct
                  generalize vs[k] = f at *
                  have HCN : Hid (cntB (vs.take (k + 1)) = cntB (vs.take k) + (if f = true then 1 else 0)) := Lib.hid (by rw [HTK.out, cntB_snoc])
                  generalize cntB (vs.take k) = N at *
                  cases f with
                  | true =>
                    go_wp2
                    go_roundw
                    case rel => exact ⟨k + 1, by omega, by go_num, by rw [HCN.out]; go_num, HBR.out⟩
                    case measure => simp [intOf]; omega
                  | false =>
                    go_wp2
                    go_roundw
                    case rel => exact ⟨k + 1, by omega, by go_num, by rw [HCN.out]; go_num, HBR.out⟩
                    case measure => simp [intOf]; omega
                · have e : vs.take k = vs := List.take_of_length_le (by omega)
                  rw [e]
                  have HB := Lib.hid (HB.out.trans (HBR.out.mono HB.out.size))
                  have HO4 := Lib.hid (own_below HO4.out HBR.out)
                  obtain ⟨g4, rfl, _⟩ := own_at0 HO4.out (by omega)
                  have s0 : wr.cell? ⟨g4, 0, none⟩ = some (.int .i64 ha) := by rw [HO4.out.cellAt 0 (by omega)]; rfl
                  have s2 : wr.cell? ⟨g4, 2, none⟩ = some (.int .i64 hc) := by rw [HO4.out.cellAt 2 (by omega)]; rfl
                  have CP := fun mm => pSum_any (some ⟨g4, 0, none⟩) 4 c4 [ha, hb', hc, hd] (wr.drewN mm) (by omega) ((Reads.of_own HO4.out).drewN mm) (by intro x hx; simp at hx; omega)
                  rw [HSUM.out] at CP
                  have HCP := Lib.hid CP
                  have hwa : IntKind.i64.wrap (ha + hc) = ha + hc := IntWalk.i64_in _ (by omega)
                  have hac := HAC.out
                  clear CP
                  go_wp2
                  go_quiet ((go_at_call 43; exact Calls.quiet_of_same (still_of (HCP.out _))))
                  clear s0 s2 hwa hac
                  have HB := Lib.hid (below_toN HB.out nq)
                  go_wp2_with fail
                  refine (drawStayLoss_any AM n1 cM lM _ (by omega) HL1.out (HR1.out.below HB.out)).mono ?_
                  rintro e wz ⟨F, p3, ws, rfl, hwl, ho, hb⟩
                  have HB := Lib.hid (HB.out.trans (hb.mono HB.out.size)); have HOW := Lib.hid ho
                  clear ho hb
                  have hsf := stayR_facts (fs := ws)
                  go_wp2_with fail
                  refine (implStayLoss_any F ws.length p3 ws _ (by omega) (Reads.of_own HOW.out) (own_cap HOW.out)).mono ?_
                  rintro e wz ⟨rfl, hb⟩
                  have HB := Lib.hid (HB.out.trans (hb.mono HB.out.size))
                  have HOW := Lib.hid (own_below HOW.out hb)
                  clear hb
                  go_wp2_with fail
                  refine (specStayLoss_any F ws.length p3 ws _ (by omega) (Reads.of_own HOW.out) (own_cap HOW.out)).mono ?_
                  rintro e wz ⟨rfl, hb⟩
                  have HB := Lib.hid (HB.out.trans (hb.mono HB.out.size))
                  have HOW := Lib.hid (own_below HOW.out hb)
                  clear hb
                  generalize (stayR ws).1 = sv at *
                  generalize (stayR ws).2 = so at *
                  cases so with
                  | false =>
                    go_wp2
                    go_ret
                    exact ⟨rfl, HB.out⟩
                  | true =>
                    obtain ⟨hw20, hw0, hsv⟩ := hsf rfl
                    have HSV := Lib.hid hsv
                    have hTT := turnsB_le ws[0] (ws.drop 1)
                    have HTL : Hid (turnsB ws[0] (ws.drop 1) ≤ 21) := Lib.hid (by have hl : (ws.drop 1).length ≤ 20 := (by rw [List.length_drop]; omega); omega)
                    have HT1 : Hid (turnsB (ws.getD 0 false) (ws.drop 1) = turnsB ws[0] (ws.drop 1)) := Lib.hid (by simp [List.getD, hw0])
                    clear hsv hTT
                    generalize turnsB ws[0] (ws.drop 1) = TT at *
                    go_wp2
                    go_loopw [40, 41] (fun t i wr => ∃ k T : Nat, 1 ≤ k ∧ k ≤ ws.length ∧ i = .int .i64 k ∧ t = .int .i64 T ∧ T + turnsB (ws.getD (k - 1) false) (ws.drop k) = TT ∧ Below wz.heap.size wz wr) (fun _ i _ => ws.length - (intOf i).toNat)
                    case atStart => exact ⟨1, 0, Nat.le_refl _, by omega, rfl, rfl, by simpa using HT1.out, Below.refl _ _⟩
                    case round =>
                      obtain ⟨k, T, hk1, hk, rfl, rfl, hrel, hb⟩ := hrel
                      have HRL := Lib.hid hrel; have HBR := Lib.hid hb
                      clear hrel hb
                      have hTb : T ≤ 21 := by have h1 := HRL.out; have h2 := HTL.out; omega
                      by_cases hlt : k < ws.length
                      · obtain ⟨j, rfl⟩ : ∃ j, k = j + 1 := ⟨k - 1, by omega⟩
                        obtain ⟨ad, u, rfl, hu, k0⟩ := (Reads.of_own (own_below HOW.out HBR.out)).at_ hlt
                        obtain ⟨ad', u', e', hu', k1⟩ := (Reads.of_own (own_below HOW.out HBR.out)).at_ (i := j) (by omega)
                        injection e' with e'
                        subst e'
                        have hj : j < ws.length := by omega
                        have e0 : u = .bool ws[j + 1] := by simp [bools, hlt] at hu; exact hu.symm
                        have e1 : u' = .bool ws[j] := by simp [bools, hj] at hu'; exact hu'.symm
                        subst e0; subst e1
                        clear hu hu'
                        have HSTP : Hid (turnsB (ws.getD (j + 1 - 1) false) (ws.drop (j + 1)) = (if ws[j + 1] = ws[j] then 0 else 1) + turnsB (ws.getD (j + 1 + 1 - 1) false) (ws.drop (j + 1 + 1))) := Lib.hid (by
                          rw [List.drop_eq_getElem_cons hlt]
                          simp [turnsB, List.getD, hlt, hj])
                        generalize ws[j + 1] = b1 at *
                        generalize ws[j] = b0 at *
                        have i0 : (0 : Int) ≤ (j : Int) := by omega
                        have i1 : (j : Int) + 1 < (ws.length : Int) := by omega
                        have i2 : (j : Int) < (ws.length : Int) := by omega
                        have i3 : (0 : Int) ≤ (j : Int) + 1 := by omega
                        rw [add_succ_] at k0
                        have it : ((j : Int) + 1).toNat = j + 1 := by omega
                        have iw : IntKind.i64.wrap (j : Int) = (j : Int) := IntWalk.i64_in _ (by omega)
                        have HNX : Hid (T + (if b1 = b0 then 0 else 1) + turnsB (ws.getD (j + 1 + 1 - 1) false) (ws.drop (j + 1 + 1)) = TT) := Lib.hid (by have h1 := HRL.out; rw [HSTP.out] at h1; omega)
                        cases b1 with
                        | true =>
                          cases b0 with
                          | true =>
                            go_wp2
                            go_quiet (fail)
                            go_wp2
                            clear i0 i1 i2 i3 iw it
                            go_roundw
                            case rel => exact ⟨j + 1 + 1, T, by omega, by omega, by go_num, rfl, by have h := HNX.out; simpa using h, below_toN HBR.out _⟩
                            case measure => simp [intOf]; omega
                          | false =>
                            go_wp2
                            go_quiet (fail)
                            go_wp2
                            clear i0 i1 i2 i3 iw it
                            go_roundw
                            case rel => exact ⟨j + 1 + 1, T + 1, by omega, by omega, by go_num, by go_num, by have h := HNX.out; simpa using h, below_toN HBR.out _⟩
                            case measure => simp [intOf]; omega
                        | false =>
                          cases b0 with
                          | true =>
                            go_wp2
                            go_quiet (fail)
                            go_wp2
                            clear i0 i1 i2 i3 iw it
                            go_roundw
                            case rel => exact ⟨j + 1 + 1, T + 1, by omega, by omega, by go_num, by go_num, by have h := HNX.out; simpa using h, below_toN HBR.out _⟩
                            case measure => simp [intOf]; omega
                          | false =>
                            go_wp2
                            go_quiet (fail)
                            go_wp2
                            clear i0 i1 i2 i3 iw it
                            go_roundw
                            case rel => exact ⟨j + 1 + 1, T, by omega, by omega, by go_num, rfl, by have h := HNX.out; simpa using h, below_toN HBR.out _⟩
                            case measure => simp [intOf]; omega
                      · have HE : Hid ((T : Int) = (TT : Int)) := Lib.hid (by have h1 := HRL.out; rw [List.drop_eq_nil_of_le (by omega)] at h1; simp [turnsB] at h1; omega)
                        go_wp2
                        go_ret
                        exact ⟨ret_bool (by rw [HSV.out, HE.out]; first | (simp; done) | rfl), HB.out.trans (HBR.out.mono HB.out.size)⟩

end Go.Proofs.Ythpfgmnhpnfopaa
