/- The law of repair plans: the walk. No conditions. -/
import Derived.Test.YtjibdabedagghaaRplQ
import Derived.Test.YtjibdabedagghaaRplH
import Derived.Test.YtjibdabedagghaaDrM
import Derived.Test.YtjibdabedagghaaLpL
import Derived.Test.YtjibdabedagghaaHold2
import Derived.Test.YtjibdabedagghaaJoiU
namespace Go.Proofs.Ytjibdabedagghaa
set_option linter.unusedSimpArgs false
set_option linter.unusedVariables false
open Go.RowKit


set_option maxHeartbeats 8000000 in
set_option maxRecDepth 100000 in
theorem law_FnRepairPlans (w : World) {v0 v1 : Value} (h0 : IsBytes w v0) (h1 : IsBytes w v1) :
    Calls Try.prog 13 #[v0, v1] w fun e w' => e = .returned (.bool true) ∧ Below w.heap.size w w' := by
  obtain ⟨A0, n0, c0, l0, rfl, hnc0, hcm0, hr0, hb0⟩ := h0
  obtain ⟨A1, n1, c1, l1, rfl, hnc1, hcm1, hr1, hb1⟩ := h1
  have HR0 := Lib.hid hr0; have HR1 := Lib.hid hr1; have HL0 := Lib.hid hb0; have HL1 := Lib.hid hb1
  clear hr0 hr1 hb0 hb1
  have HB : Hid (Below w.heap.size w w) := Lib.hid (Below.refl _ _)
  by_cases hbig : 1048576 < wrap64 ((n0 : Int) + (n1 : Int))
  · go_enter Try.func13, Try.ntmps13
    go_wp2
    go_ret
    exact ⟨rfl, Below.refl _ _⟩
  go_enter Try.func13, Try.ntmps13
  go_wp2_with fail
  refine (drawLeast_any A0 n0 c0 l0 _ (by omega) HL0.out HR0.out).mono ?_
  rintro e wa1 ⟨B, m, d, gs, y, t, rfl, hgl, hm9, hg, hb⟩
  replace HB := Lib.hid (HB.out.trans (hb.mono HB.out.size))
  replace HR0 := Lib.hid (HR0.out.below hb)
  replace HR1 := Lib.hid (HR1.out.below hb)
  have RG := Lib.hid (hg)
  have HGL := Lib.hid (hgl)
  clear hb
  clear hg hgl
  go_wp2_with fail
  refine (implLeast_law B m d gs y t _ (by omega) RG.out).mono ?_
  rintro e wa2 ⟨rfl, hb⟩
  replace HB := Lib.hid (HB.out.trans (hb.mono HB.out.size))
  replace HR0 := Lib.hid (HR0.out.below hb)
  replace HR1 := Lib.hid (HR1.out.below hb)
  replace RG := Lib.hid (RG.out.below hb)
  clear hb
  go_wp2_with fail
  refine (specLeast_law B m d gs y t _ (by omega) RG.out).mono ?_
  rintro e wa3 ⟨rfl, hb⟩
  replace HB := Lib.hid (HB.out.trans (hb.mono HB.out.size))
  replace HR0 := Lib.hid (HR0.out.below hb)
  replace HR1 := Lib.hid (HR1.out.below hb)
  replace RG := Lib.hid (RG.out.below hb)
  clear hb
  go_wp2_with fail
  refine (implLatePlan_any B m d gs y _ (by omega) RG.out).mono ?_
  rintro e wa4 ⟨LB, Ld, Lh, rfl, hp, hb⟩
  replace HB := Lib.hid (HB.out.trans (hb.mono HB.out.size))
  replace HR0 := Lib.hid (HR0.out.below hb)
  replace HR1 := Lib.hid (HR1.out.below hb)
  replace RG := Lib.hid (RG.out.below hb)
  have RL := Lib.hid (Reads2.of_own hp)
  clear hb
  clear hp
  go_wp2_with fail
  refine (specLatePlan_any B m d gs y _ (by omega) RG.out).mono ?_
  rintro e wa5 ⟨LB2, Ld2, Lh2, rfl, hp, hb⟩
  replace HB := Lib.hid (HB.out.trans (hb.mono HB.out.size))
  replace HR0 := Lib.hid (HR0.out.below hb)
  replace HR1 := Lib.hid (HR1.out.below hb)
  replace RG := Lib.hid (RG.out.below hb)
  replace RL := Lib.hid (RL.out.below hb)
  have RL2 := Lib.hid (Reads2.of_own hp)
  clear hb
  clear hp
  go_wp2_with fail
  refine (drawIs_any A1 n1 c1 l1 _ (by omega) HL1.out HR1.out).mono ?_
  rintro e wa6 ⟨B2, m2, d2, a, ny, PB, Pd, P, rfl, hal, hm2, ha, hp, hpl, hpb, hb⟩
  replace HB := Lib.hid (HB.out.trans (hb.mono HB.out.size))
  replace HR0 := Lib.hid (HR0.out.below hb)
  replace HR1 := Lib.hid (HR1.out.below hb)
  replace RG := Lib.hid (RG.out.below hb)
  replace RL := Lib.hid (RL.out.below hb)
  replace RL2 := Lib.hid (RL2.out.below hb)
  have RA := Lib.hid (ha)
  have RP := Lib.hid (hp)
  have HAL := Lib.hid (hal)
  have HPB := Lib.hid (hpb)
  clear hb
  clear ha hp hal hpb
  go_wp2_with fail
  refine (implIsRepairPlan_any B2 m2 d2 a ny PB P.length Pd P _ (by omega) RA.out (by omega) (fun x hx => by have := HPB.out x hx; omega) RP.out).mono ?_
  rintro e wa7 ⟨rfl, hb⟩
  replace HB := Lib.hid (HB.out.trans (hb.mono HB.out.size))
  replace HR0 := Lib.hid (HR0.out.below hb)
  replace HR1 := Lib.hid (HR1.out.below hb)
  replace RG := Lib.hid (RG.out.below hb)
  replace RL := Lib.hid (RL.out.below hb)
  replace RL2 := Lib.hid (RL2.out.below hb)
  replace RA := Lib.hid (RA.out.below hb)
  replace RP := Lib.hid (RP.out.below hb)
  clear hb
  go_wp2_with fail
  refine (specIsRepairPlan_any B2 m2 d2 a ny PB P.length Pd P _ (by omega) RA.out (by omega) (fun x hx => by have := HPB.out x hx; omega) RP.out).mono ?_
  rintro e wa8 ⟨rfl, hb⟩
  replace HB := Lib.hid (HB.out.trans (hb.mono HB.out.size))
  replace HR0 := Lib.hid (HR0.out.below hb)
  replace HR1 := Lib.hid (HR1.out.below hb)
  replace RG := Lib.hid (RG.out.below hb)
  replace RL := Lib.hid (RL.out.below hb)
  replace RL2 := Lib.hid (RL2.out.below hb)
  replace RA := Lib.hid (RA.out.below hb)
  replace RP := Lib.hid (RP.out.below hb)
  clear hb
  go_wp2_with fail
  refine (drawPlanCost_any A1 n1 c1 l1 _ (by omega) HL1.out HR1.out).mono ?_
  rintro e wa9 ⟨B3, m3, d3, q, QB, Qd, Q, qt, rfl, hql, hm3, hq, hp, hQl, hqb, hb⟩
  replace HB := Lib.hid (HB.out.trans (hb.mono HB.out.size))
  replace HR0 := Lib.hid (HR0.out.below hb)
  replace HR1 := Lib.hid (HR1.out.below hb)
  replace RG := Lib.hid (RG.out.below hb)
  replace RL := Lib.hid (RL.out.below hb)
  replace RL2 := Lib.hid (RL2.out.below hb)
  replace RA := Lib.hid (RA.out.below hb)
  replace RP := Lib.hid (RP.out.below hb)
  have RQ := Lib.hid (hq)
  have RQP := Lib.hid (hp)
  have HQB := Lib.hid (hqb)
  clear hb
  clear hq hp hqb hql
  go_wp2_with fail
  refine (implPlanCost_any B3 m3 d3 q QB Q.length Qd Q qt _ (by omega) RQ.out (by omega) (fun x hx => by have := HQB.out x hx; omega) RQP.out).mono ?_
  rintro e wa10 ⟨rfl, hb⟩
  replace HB := Lib.hid (HB.out.trans (hb.mono HB.out.size))
  replace HR0 := Lib.hid (HR0.out.below hb)
  replace HR1 := Lib.hid (HR1.out.below hb)
  replace RG := Lib.hid (RG.out.below hb)
  replace RL := Lib.hid (RL.out.below hb)
  replace RL2 := Lib.hid (RL2.out.below hb)
  replace RA := Lib.hid (RA.out.below hb)
  replace RP := Lib.hid (RP.out.below hb)
  replace RQ := Lib.hid (RQ.out.below hb)
  replace RQP := Lib.hid (RQP.out.below hb)
  clear hb
  go_wp2_with fail
  refine (specPlanCost_any B3 m3 d3 q QB Q.length Qd Q qt _ (by omega) RQ.out (by omega) (fun x hx => by have := HQB.out x hx; omega) RQP.out).mono ?_
  rintro e wa11 ⟨rfl, hb⟩
  replace HB := Lib.hid (HB.out.trans (hb.mono HB.out.size))
  replace HR0 := Lib.hid (HR0.out.below hb)
  replace HR1 := Lib.hid (HR1.out.below hb)
  replace RG := Lib.hid (RG.out.below hb)
  replace RL := Lib.hid (RL.out.below hb)
  replace RL2 := Lib.hid (RL2.out.below hb)
  replace RA := Lib.hid (RA.out.below hb)
  replace RP := Lib.hid (RP.out.below hb)
  replace RQ := Lib.hid (RQ.out.below hb)
  replace RQP := Lib.hid (RQP.out.below hb)
  clear hb
  clear RQ RQP HQB
  go_wp2_with fail
  refine (drawJoin_any A1 n1 c1 l1 _ (by omega) HL1.out HR1.out).mono ?_
  rintro e wa12 ⟨UB, Ud, U, f, jt, rfl, hu, hul, hub, hb⟩
  replace HB := Lib.hid (HB.out.trans (hb.mono HB.out.size))
  replace HR0 := Lib.hid (HR0.out.below hb)
  replace HR1 := Lib.hid (HR1.out.below hb)
  replace RG := Lib.hid (RG.out.below hb)
  replace RL := Lib.hid (RL.out.below hb)
  replace RL2 := Lib.hid (RL2.out.below hb)
  replace RA := Lib.hid (RA.out.below hb)
  replace RP := Lib.hid (RP.out.below hb)
  have RU := Lib.hid (hu)
  have HUB := Lib.hid (hub)
  clear hb
  clear hu hub
  go_wp2_with fail
  refine (implJoinDays_any UB U.length Ud U f jt _ (by omega) (fun x hx => by have := HUB.out x hx; omega) RU.out).mono ?_
  rintro e wa13 ⟨JB, Jd, Jh, rfl, hp, hb⟩
  replace HB := Lib.hid (HB.out.trans (hb.mono HB.out.size))
  replace HR0 := Lib.hid (HR0.out.below hb)
  replace HR1 := Lib.hid (HR1.out.below hb)
  replace RG := Lib.hid (RG.out.below hb)
  replace RL := Lib.hid (RL.out.below hb)
  replace RL2 := Lib.hid (RL2.out.below hb)
  replace RA := Lib.hid (RA.out.below hb)
  replace RP := Lib.hid (RP.out.below hb)
  replace RU := Lib.hid (RU.out.below hb)
  have RJ := Lib.hid (Reads2.of_own hp)
  clear hb
  clear hp
  go_wp2_with fail
  refine (specJoinDays_any UB U.length Ud U f jt _ (by omega) (fun x hx => by have := HUB.out x hx; omega) RU.out).mono ?_
  rintro e wa14 ⟨JB2, Jd2, Jh2, rfl, hp, hb⟩
  replace HB := Lib.hid (HB.out.trans (hb.mono HB.out.size))
  replace HR0 := Lib.hid (HR0.out.below hb)
  replace HR1 := Lib.hid (HR1.out.below hb)
  replace RG := Lib.hid (RG.out.below hb)
  replace RL := Lib.hid (RL.out.below hb)
  replace RL2 := Lib.hid (RL2.out.below hb)
  replace RA := Lib.hid (RA.out.below hb)
  replace RP := Lib.hid (RP.out.below hb)
  replace RU := Lib.hid (RU.out.below hb)
  replace RJ := Lib.hid (RJ.out.below hb)
  have RJ2 := Lib.hid (Reads2.of_own hp)
  clear hb
  clear hp
  go_wp2_with fail
  refine (drawRepairs_any A1 n1 c1 l1 _ (by omega) HL1.out HR1.out).mono ?_
  rintro e wa15 ⟨VB, Vd, V, gr, rfl, hv, hvl, hvb, hb⟩
  replace HB := Lib.hid (HB.out.trans (hb.mono HB.out.size))
  replace HR0 := Lib.hid (HR0.out.below hb)
  replace HR1 := Lib.hid (HR1.out.below hb)
  replace RG := Lib.hid (RG.out.below hb)
  replace RL := Lib.hid (RL.out.below hb)
  replace RL2 := Lib.hid (RL2.out.below hb)
  replace RA := Lib.hid (RA.out.below hb)
  replace RP := Lib.hid (RP.out.below hb)
  replace RU := Lib.hid (RU.out.below hb)
  replace RJ := Lib.hid (RJ.out.below hb)
  replace RJ2 := Lib.hid (RJ2.out.below hb)
  have RV := Lib.hid (hv)
  have HVB := Lib.hid (hvb)
  clear hb
  clear hv hvb
  clear HR0 HR1 HL0 HL1
  go_wp2_with fail
  refine (implRepairsOf_any VB V.length Vd V gr _ (by omega) (fun x hx => by have := HVB.out x hx; omega) RV.out).mono ?_
  rintro e wa16 ⟨MB, Md, rfl, hp, hb⟩
  replace HB := Lib.hid (HB.out.trans (hb.mono HB.out.size))
  replace RG := Lib.hid (RG.out.below hb)
  replace RL := Lib.hid (RL.out.below hb)
  replace RL2 := Lib.hid (RL2.out.below hb)
  replace RA := Lib.hid (RA.out.below hb)
  replace RP := Lib.hid (RP.out.below hb)
  replace RU := Lib.hid (RU.out.below hb)
  replace RJ := Lib.hid (RJ.out.below hb)
  replace RJ2 := Lib.hid (RJ2.out.below hb)
  replace RV := Lib.hid (RV.out.below hb)
  have RM := Lib.hid (Reads.of_own hp)
  clear hb
  clear hp
  go_wp2_with fail
  refine (specRepairsOf_any VB V.length Vd V gr _ (by omega) (fun x hx => by have := HVB.out x hx; omega) RV.out).mono ?_
  rintro e wa17 ⟨MB2, Md2, rfl, hp, hb⟩
  replace HB := Lib.hid (HB.out.trans (hb.mono HB.out.size))
  replace RG := Lib.hid (RG.out.below hb)
  replace RL := Lib.hid (RL.out.below hb)
  replace RL2 := Lib.hid (RL2.out.below hb)
  replace RA := Lib.hid (RA.out.below hb)
  replace RP := Lib.hid (RP.out.below hb)
  replace RU := Lib.hid (RU.out.below hb)
  replace RJ := Lib.hid (RJ.out.below hb)
  replace RJ2 := Lib.hid (RJ2.out.below hb)
  replace RV := Lib.hid (RV.out.below hb)
  replace RM := Lib.hid (RM.out.below hb)
  have RM2 := Lib.hid (Reads.of_own hp)
  clear hb
  clear hp
  have FLATE := Lib.hid (law_late (l := gs) (days := y))
  have FCOST := Lib.hid (law_cost (l := gs) (days := y) (trip := t))
  have FFEW := Lib.hid (law_few (l := a) (days := ny) (P := P))
  have FLEAST := Lib.hid (law_least (l := a) (days := ny) (P := P))
  have FLATE2 : Hid (planR a ny P = ((planR a ny P).1, (planR a ny P).2)) := Lib.hid rfl
  have FJOIN := Lib.hid (law_join (L := U) (f := f) (t := jt))
  have hlb := lateR_bd gs y
  have hjb := joinR_bd U f jt
  have hrl := repR_len V gr
  have hl1 := hlb.1
  have HLB := Lib.hid hlb.2
  have hj1 := hjb.1
  have HJB := Lib.hid hjb.2
  clear hlb hjb
  generalize (leastR gs y t).1 = lc at *
  generalize (leastR gs y t).2 = lo at *
  generalize (lateR gs y).1 = LP at *
  generalize (lateR gs y).2 = ltt at *
  generalize (planR a ny P).1 = pv at *
  generalize (planR a ny P).2 = pk at *
  generalize (costR q Q qt).1 = cv at *
  generalize (costR q Q qt).2 = co at *
  generalize (joinR U f jt).1 = JP at *
  generalize (joinR U f jt).2 = jo at *
  generalize (repR V gr).1 = RV1 at *
  generalize (repR V gr).2 = ro at *
  obtain ⟨wA, rfl⟩ : ∃ wA, wA = wa17 := ⟨_, rfl⟩
  go_upto_region 20 with fail
  go_cut [254] from 249 to 253 (fun b wx => b = .bool false ∧ Below wA.heap.size wA wx)
  case first =>
    as_aux_lemma =>
    have HQ : Hid (Below wA.heap.size wA wA) := Lib.hid (Below.refl _ _)
    have hlo := FCOST.out
    cases lo with
    | false =>
      as_aux_lemma =>
      clear hlo
      go_wp2_with fail
      refine (qLists_same LB LB2 LP.length Ld Ld2 LP _ (by omega) (fun x hx => by have := HLB.out x hx; omega) (RL.out.below HQ.out) (RL2.out.below HQ.out)).mono ?_
      rintro e wz ⟨rfl, hb⟩
      replace HQ := Lib.hid (HQ.out.trans (hb.mono HQ.out.size))
      clear hb
      go_wp2_with fail
      refine (qLists_same JB JB2 JP.length Jd Jd2 JP _ (by omega) (fun x hx => by have := HJB.out x hx; omega) (RJ.out.below HQ.out) (RJ2.out.below HQ.out)).mono ?_
      rintro e wz ⟨rfl, hb⟩
      replace HQ := Lib.hid (HQ.out.trans (hb.mono HQ.out.size))
      clear hb
      go_wp2_with fail
      refine (qInts_same MB MB2 RV1.length Md Md2 RV1 _ (by omega) (RM.out.below HQ.out) (RM2.out.below HQ.out)).mono ?_
      rintro e wz ⟨rfl, hq⟩
      replace HQ := Lib.hid (HQ.out.trans (below_of_quiet hq))
      clear hq
      go_wp2_with fail
      go_meet
      case rel => exact ⟨by first | rfl | (simp; done), HQ.out⟩
    | true =>
      as_aux_lemma =>
      obtain ⟨hlt, _⟩ := hlo rfl
      subst hlt
      go_wp2_with fail
      refine (qLists_same LB LB2 LP.length Ld Ld2 LP _ (by omega) (fun x hx => by have := HLB.out x hx; omega) (RL.out.below HQ.out) (RL2.out.below HQ.out)).mono ?_
      rintro e wz ⟨rfl, hb⟩
      replace HQ := Lib.hid (HQ.out.trans (hb.mono HQ.out.size))
      clear hb
      go_wp2_with fail
      refine (qLists_same JB JB2 JP.length Jd Jd2 JP _ (by omega) (fun x hx => by have := HJB.out x hx; omega) (RJ.out.below HQ.out) (RJ2.out.below HQ.out)).mono ?_
      rintro e wz ⟨rfl, hb⟩
      replace HQ := Lib.hid (HQ.out.trans (hb.mono HQ.out.size))
      clear hb
      go_wp2_with fail
      refine (qInts_same MB MB2 RV1.length Md Md2 RV1 _ (by omega) (RM.out.below HQ.out) (RM2.out.below HQ.out)).mono ?_
      rintro e wz ⟨rfl, hq⟩
      replace HQ := Lib.hid (HQ.out.trans (below_of_quiet hq))
      clear hq
      go_wp2_with fail
      go_meet
      case rel => exact ⟨by first | rfl | (simp; done), HQ.out⟩
  case rest =>
    as_aux_lemma =>
    obtain ⟨rfl, hb⟩ := hcut
    replace HB := Lib.hid (HB.out.trans (hb.mono HB.out.size))
    replace RG := Lib.hid (RG.out.below hb)
    replace RA := Lib.hid (RA.out.below hb)
    replace RP := Lib.hid (RP.out.below hb)
    replace RU := Lib.hid (RU.out.below hb)
    replace RL := Lib.hid (RL.out.below hb)
    replace RJ2 := Lib.hid (RJ2.out.below hb)
    clear hb RV RL2 RJ RM RM2
    obtain ⟨wB, rfl⟩ : ∃ wB, wB = wc := ⟨_, rfl⟩
    obtain ⟨pp, hpp⟩ : ∃ pp, pp = (pk && pv) := ⟨_, rfl⟩
    have HPP := Lib.hid hpp
    clear hpp
    go_upto_region 22 with fail
    go_cut [258] from 257 to 257 (fun b wx => b = .bool pp ∧ wx = wB)
    case first =>
      as_aux_lemma =>
      have hpp := HPP.out
      clear HPP FLATE2 FFEW FLEAST
      cases pk
      · have hp2 : pp = false := hpp
        clear hpp
        subst hp2
        go_wp2
        go_meet
        case rel => exact ⟨by first | rfl | (simp; done), rfl⟩
      · have hp2 : pp = pv := hpp
        clear hpp
        subst hp2
        go_wp2
        go_meet
        case rel => exact ⟨by first | rfl | (simp; done), rfl⟩
    case rest =>
      as_aux_lemma =>
      obtain ⟨rfl, rfl⟩ := hcut
      obtain ⟨wB, rfl⟩ : ∃ wB, wB = wc := ⟨_, rfl⟩
      go_upto_if 258 with fail
      go_cut [] from 500 to 500 (fun wx => Below wB.heap.size wB wx)
      case first =>
        as_aux_lemma =>
        have HQ : Hid (Below wB.heap.size wB wB) := Lib.hid (Below.refl _ _)
        cases pp with
        | false =>
          go_wp2
          go_meet
          case rel => exact HQ.out
        | true =>
          have hpp := HPP.out
          rw [eq_comm, Bool.and_eq_true] at hpp
          obtain ⟨rfl, rfl⟩ := hpp
          clear HPP
          have hp1 := FLATE2.out
          obtain ⟨hlate, hfew⟩ := FFEW.out hp1
          have C1 := fun W hW => implLatePlan_any B2 m2 d2 a ny W (by omega) hW
          have C2 := fun W hW => specLatePlan_any B2 m2 d2 a ny W (by omega) hW
          have hbd := lateR_bd a ny
          simp only [hlate] at C1 C2 hbd
          have FK := Lib.hid hfew
          have HC1 := Lib.hid C1
          have HC2 := Lib.hid C2
          have hl2 := hbd.1
          have HEB := Lib.hid hbd.2
          clear hp1 hlate hfew C1 C2 hbd
          generalize lateL a ny.toNat = E at *
          go_wp2_with fail
          refine (HC1.out _ RA.out).mono ?_
          rintro e wz ⟨EB, Ed, Eh, rfl, hp, hb⟩
          replace HQ := Lib.hid (HQ.out.trans (hb.mono HQ.out.size))
          have RE := Lib.hid (Reads2.of_own hp)
          clear hb hp
          go_wp2_with fail
          refine (HC2.out _ (RA.out.below HQ.out)).mono ?_
          rintro e wz1 ⟨EB2, Ed2, Eh2, rfl, hp, hb⟩
          replace HQ := Lib.hid (HQ.out.trans (hb.mono HQ.out.size))
          replace RE := Lib.hid (RE.out.below hb)
          have RE2 := Lib.hid (Reads2.of_own hp)
          clear hb hp HC1 HC2
          go_wp2_with fail
          refine (qLists_same EB EB2 E.length Ed Ed2 E _ (by omega) (fun x hx => by have := HEB.out x hx; omega) RE.out RE2.out).mono ?_
          rintro e wz2 ⟨rfl, hb⟩
          replace HQ := Lib.hid (HQ.out.trans (hb.mono HQ.out.size))
          replace RE := Lib.hid (RE.out.below hb)
          replace RE2 := Lib.hid (RE2.out.below hb)
          clear hb
          replace RP := Lib.hid (RP.out.below HQ.out)
          replace RA := Lib.hid (RA.out.below HQ.out)
          obtain ⟨wE, rfl⟩ : ∃ wE, wE = wz2 := ⟨_, rfl⟩
          go_wp2
          go_loopw [285] (fun i wr => ∃ k : Nat, k ≤ m2 ∧ i = .int .i64 k ∧ Below wE.heap.size wE wr) (fun i _ => m2 - (intOf i).toNat)
          case atStart => exact ⟨0, Nat.zero_le _, rfl, Below.refl _ _⟩
          case round =>
            obtain ⟨k, hk, rfl, hb⟩ := hrel
            have HR := Lib.hid hb
            clear hb
            by_cases hlt : k < m2
            · have hka : k < a.length := by have := HAL.out; omega
              obtain ⟨h1, h2, h3⟩ := FK.out k hka
              have C1 := fun W hW => implRepairsOf_any PB P.length Pd P k W (by omega) (fun x hx => by have := HPB.out x hx; omega) hW
              have C2 := fun W hW => specRepairsOf_any PB P.length Pd P k W (by omega) (fun x hx => by have := HPB.out x hx; omega) hW
              have C3 := fun W hW => implRepairsOf_any EB E.length Ed E k W (by omega) (fun x hx => by have := HEB.out x hx; omega) hW
              have C4 := fun W hW => specRepairsOf_any EB2 E.length Ed2 E k W (by omega) (fun x hx => by have := HEB.out x hx; omega) hW
              simp only [h1] at C1 C2
              simp only [h2] at C3 C4
              have l1 : (repF k P 0).length ≤ 31 := Nat.le_trans (repF_len _ _ _) hpl
              have l2 : (repF k E 0).length ≤ 31 := Nat.le_trans (repF_len _ _ _) (by omega)
              have HC1 := Lib.hid C1
              have HC2 := Lib.hid C2
              have HC3 := Lib.hid C3
              have HC4 := Lib.hid C4
              clear h1 h2 C1 C2 C3 C4
              generalize repF (k : Int) P 0 = O at *
              generalize repF (k : Int) E 0 = N at *
              go_wp2_with fail
              refine (HC1.out _ (RP.out.below HR.out)).mono ?_
              rintro e wx ⟨OA, Oc, rfl, hp, hb⟩
              replace HR := Lib.hid (HR.out.trans (hb.mono HR.out.size))
              have RO := Lib.hid (Reads.of_own hp)
              clear hb hp
              go_wp2_with fail
              refine (HC2.out _ (RP.out.below HR.out)).mono ?_
              rintro e wy ⟨OB, Od, rfl, hp, hb⟩
              replace HR := Lib.hid (HR.out.trans (hb.mono HR.out.size))
              replace RO := Lib.hid (RO.out.below hb)
              have RO2 := Lib.hid (Reads.of_own hp)
              clear hb hp
              go_wp2_with fail
              refine (HC3.out _ (RE.out.below HR.out)).mono ?_
              rintro e wz1 ⟨NA, Nc, rfl, hp, hb⟩
              replace HR := Lib.hid (HR.out.trans (hb.mono HR.out.size))
              replace RO := Lib.hid (RO.out.below hb)
              replace RO2 := Lib.hid (RO2.out.below hb)
              have RN := Lib.hid (Reads.of_own hp)
              clear hb hp
              go_wp2_with fail
              refine (HC4.out _ (RE2.out.below HR.out)).mono ?_
              rintro e wz2 ⟨NB, Nd, rfl, hp, hb⟩
              replace HR := Lib.hid (HR.out.trans (hb.mono HR.out.size))
              replace RO := Lib.hid (RO.out.below hb)
              replace RO2 := Lib.hid (RO2.out.below hb)
              replace RN := Lib.hid (RN.out.below hb)
              have RN2 := Lib.hid (Reads.of_own hp)
              clear hb hp HC1 HC2 HC3 HC4
              go_wp2_with fail
              refine (qInts_same OA OB O.length Oc Od O _ (by omega) RO.out RO2.out).mono ?_
              rintro e wz3 ⟨rfl, hq⟩
              replace HR := Lib.hid (HR.out.trans (below_of_quiet hq))
              replace RN := Lib.hid (RN.out.below (below_of_quiet hq))
              replace RN2 := Lib.hid (RN2.out.below (below_of_quiet hq))
              clear hq
              go_wp2_with fail
              refine (qInts_same NA NB N.length Nc Nd N _ (by omega) RN.out RN2.out).mono ?_
              rintro e wz4 ⟨rfl, hq⟩
              replace HR := Lib.hid (HR.out.trans (below_of_quiet hq))
              clear hq
              have hlx : ¬ (O.length : Int) < (N.length : Int) := by omega
              go_wp2_with fail
              go_roundw
              case rel => exact ⟨k + 1, by omega, by go_num, HR.out⟩
              case measure => simp [intOf]; omega
            · replace HQ := Lib.hid (HQ.out.trans (HR.out.mono HQ.out.size))
              replace RP := Lib.hid (RP.out.below HR.out)
              replace RA := Lib.hid (RA.out.below HR.out)
              clear HR RE RE2 HEB FK
              by_cases h3 : m2 ≤ 3
              · by_cases h10 : ny ≤ 10
                · obtain ⟨e1, e2, e3⟩ := FLEAST.out FLATE2.out (by have := HAL.out; omega) h10
                  have C1 := fun W hW => implLeast_law B2 m2 d2 a ny 100 W (by omega) hW
                  have C2 := fun W hW => specLeast_law B2 m2 d2 a ny 100 W (by omega) hW
                  have C3 := fun W hW hW2 => implPlanCost_any B2 m2 d2 a PB P.length Pd P 100 W (by omega) hW (by omega) (fun x hx => by have := HPB.out x hx; omega) hW2
                  simp only [e1] at C1 C2
                  simp only [e2] at C3
                  have HC1 := Lib.hid C1
                  have HC2 := Lib.hid C2
                  have HC3 := Lib.hid C3
                  clear e1 e2 C1 C2 C3
                  generalize leastW a 100 ny.toNat (a.map (·.1)) = lv at *
                  generalize planC a 100 P = pc at *
                  go_wp2_with fail
                  refine (HC1.out _ RA.out).mono ?_
                  rintro e wx ⟨rfl, hb⟩
                  replace HQ := Lib.hid (HQ.out.trans (hb.mono HQ.out.size))
                  replace RP := Lib.hid (RP.out.below hb)
                  replace RA := Lib.hid (RA.out.below hb)
                  clear hb
                  go_wp2_with fail
                  refine (HC2.out _ RA.out).mono ?_
                  rintro e wy ⟨rfl, hb⟩
                  replace HQ := Lib.hid (HQ.out.trans (hb.mono HQ.out.size))
                  replace RP := Lib.hid (RP.out.below hb)
                  replace RA := Lib.hid (RA.out.below hb)
                  clear hb
                  go_wp2_with fail
                  refine (HC3.out _ RA.out RP.out).mono ?_
                  rintro e wz ⟨rfl, hb⟩
                  replace HQ := Lib.hid (HQ.out.trans (hb.mono HQ.out.size))
                  clear hb HC1 HC2 HC3
                  have hlx : ¬ pc < lv := by omega
                  go_wp2
                  go_meet
                  case rel => exact HQ.out
                · go_wp2
                  go_meet
                  case rel => exact HQ.out
              · go_wp2
                go_meet
                case rel => exact HQ.out
      case rest =>
        as_aux_lemma =>
        have hb := hcut
        replace HB := Lib.hid (HB.out.trans (hb.mono HB.out.size))
        replace RG := Lib.hid (RG.out.below hb)
        replace RU := Lib.hid (RU.out.below hb)
        replace RL := Lib.hid (RL.out.below hb)
        replace RJ2 := Lib.hid (RJ2.out.below hb)
        clear hb hcut
        obtain ⟨wC, rfl⟩ : ∃ wC, wC = wc := ⟨_, rfl⟩
        clear RA RP FLATE2 FFEW FLEAST HAL HPB HPP
        go_upto_if 391 with fail
        go_cut [] from 500 to 500 (fun wx => Below wC.heap.size wC wx)
        case first =>
          as_aux_lemma =>
          have HQ : Hid (Below wC.heap.size wC wC) := Lib.hid (Below.refl _ _)
          cases jo with
          | false =>
            go_wp2
            go_meet
            case rel => exact HQ.out
          | true =>
            have FJ := Lib.hid (FJOIN.out rfl)
            clear FJOIN
            go_wp2
            go_loopw [62] (fun i wr => ∃ k : Nat, k ≤ 8 ∧ i = .int .i64 k ∧ Below wC.heap.size wC wr) (fun i _ => 8 - (intOf i).toNat)
            case atStart => exact ⟨0, Nat.zero_le _, rfl, Below.refl _ _⟩
            case round =>
              obtain ⟨k, hk, rfl, hb⟩ := hrel
              have HR := Lib.hid hb
              clear hb HQ
              by_cases hlt : k < 8
              · have hki : (k : Int) < 8 := by omega
                obtain ⟨h1, h2, h3, h4⟩ := FJ.out k (by omega) (by omega)
                have CO := fun W hW => specRepairsOf_any UB U.length Ud U k W (by omega) (fun x hx => by have := HUB.out x hx; omega) hW
                have CN := fun W hW => specRepairsOf_any JB2 JP.length Jd2 JP k W (by omega) (fun x hx => by have := HJB.out x hx; omega) hW
                simp only [h1] at CO
                simp only [h2] at CN
                have lO : (repF k U 0).length ≤ 31 := Nat.le_trans (repF_len _ _ _) hul
                have lN : (repF k JP 0).length ≤ 31 := Nat.le_trans (repF_len _ _ _) (by omega)
                have H3 := Lib.hid h3
                have H4 := Lib.hid h4
                have HCO := Lib.hid CO
                have HCN := Lib.hid CN
                clear h1 h2 h3 h4 CO CN
                generalize repF (k : Int) U 0 = O at *
                generalize repF (k : Int) JP 0 = N at *
                go_wp2_with fail
                refine (HCO.out _ (RU.out.below HR.out)).mono ?_
                rintro e wx ⟨OA, Oc, rfl, hp, hb⟩
                replace HR := Lib.hid (HR.out.trans (hb.mono HR.out.size))
                have RO := Lib.hid (Reads.of_own hp)
                clear hb hp
                go_wp2_with fail
                refine (HCN.out _ (RJ2.out.below HR.out)).mono ?_
                rintro e wy ⟨NA, Nc, rfl, hp, hb⟩
                replace HR := Lib.hid (HR.out.trans (hb.mono HR.out.size))
                replace RO := Lib.hid (RO.out.below hb)
                have RN := Lib.hid (Reads.of_own hp)
                clear hb hp HCO HCN
                have HOF := Lib.hid (qHas_any OA O.length Oc O f wy (by omega) RO.out)
                have HOT := Lib.hid (qHas_any OA O.length Oc O jt wy (by omega) RO.out)
                have HNT := Lib.hid (qHas_any NA N.length Nc N jt wy (by omega) RN.out)
                have HNF := Lib.hid (qHas_any NA N.length Nc N f wy (by omega) RN.out)
                rw [H3.out] at HNT
                clear RO RN
                go_wp2_with fail
                refine (HOF.out).mono ?_
                rintro e w' ⟨rfl, rfl⟩
                generalize hasB N f = bn at *
                generalize hasB O f = b1 at *
                generalize hasB O jt = b2 at *
                go_upto_region 50 with fail
                go_cut [438] from 421 to 437 (fun b wx => b = .bool false ∧ wx = wy)
                case first =>
                  have h4 := H4.out
                  clear H3 H4 HR
                  by_cases hft : f = jt
                  · have hbe : (f != jt) = false := by rw [bne_eq_false_iff_eq]; exact hft
                    clear hft h4
                    cases b2
                    · cases b1
                      · have e : (false || false) = false := rfl
                        rw [e] at HNT
                        clear e
                        go_wp2_with fail
                        refine (HNT.out).mono ?_
                        rintro e w' ⟨rfl, rfl⟩
                        go_wp2_with fail
                        refine (HOT.out).mono ?_
                        rintro e w' ⟨rfl, rfl⟩
                        go_wp2_with fail
                        go_meet
                        case rel => exact ⟨by first | rfl | (simp; done), rfl⟩
                      · have e : (false || true) = true := rfl
                        rw [e] at HNT
                        clear e
                        go_wp2_with fail
                        refine (HNT.out).mono ?_
                        rintro e w' ⟨rfl, rfl⟩
                        go_wp2_with fail
                        refine (HOT.out).mono ?_
                        rintro e w' ⟨rfl, rfl⟩
                        go_wp2_with fail
                        go_meet
                        case rel => exact ⟨by first | rfl | (simp; done), rfl⟩
                    · cases b1
                      · have e : (true || false) = true := rfl
                        rw [e] at HNT
                        clear e
                        go_wp2_with fail
                        refine (HNT.out).mono ?_
                        rintro e w' ⟨rfl, rfl⟩
                        go_wp2_with fail
                        refine (HOT.out).mono ?_
                        rintro e w' ⟨rfl, rfl⟩
                        go_wp2_with fail
                        go_meet
                        case rel => exact ⟨by first | rfl | (simp; done), rfl⟩
                      · have e : (true || true) = true := rfl
                        rw [e] at HNT
                        clear e
                        go_wp2_with fail
                        refine (HNT.out).mono ?_
                        rintro e w' ⟨rfl, rfl⟩
                        go_wp2_with fail
                        refine (HOT.out).mono ?_
                        rintro e w' ⟨rfl, rfl⟩
                        go_wp2_with fail
                        go_meet
                        case rel => exact ⟨by first | rfl | (simp; done), rfl⟩
                  · have hbe : (f != jt) = true := by rw [bne_iff_ne]; exact hft
                    have hbn := h4 hft
                    subst hbn
                    clear hft h4
                    cases b2
                    · cases b1
                      · have e : (false || false) = false := rfl
                        rw [e] at HNT
                        clear e
                        go_wp2_with fail
                        refine (HNT.out).mono ?_
                        rintro e w' ⟨rfl, rfl⟩
                        go_wp2_with fail
                        refine (HOT.out).mono ?_
                        rintro e w' ⟨rfl, rfl⟩
                        go_wp2_with fail
                        refine (HNF.out).mono ?_
                        rintro e w' ⟨rfl, rfl⟩
                        go_wp2_with fail
                        go_meet
                        case rel => exact ⟨by first | rfl | (simp; done), rfl⟩
                      · have e : (false || true) = true := rfl
                        rw [e] at HNT
                        clear e
                        go_wp2_with fail
                        refine (HNT.out).mono ?_
                        rintro e w' ⟨rfl, rfl⟩
                        go_wp2_with fail
                        refine (HOT.out).mono ?_
                        rintro e w' ⟨rfl, rfl⟩
                        go_wp2_with fail
                        refine (HNF.out).mono ?_
                        rintro e w' ⟨rfl, rfl⟩
                        go_wp2_with fail
                        go_meet
                        case rel => exact ⟨by first | rfl | (simp; done), rfl⟩
                    · cases b1
                      · have e : (true || false) = true := rfl
                        rw [e] at HNT
                        clear e
                        go_wp2_with fail
                        refine (HNT.out).mono ?_
                        rintro e w' ⟨rfl, rfl⟩
                        go_wp2_with fail
                        refine (HOT.out).mono ?_
                        rintro e w' ⟨rfl, rfl⟩
                        go_wp2_with fail
                        refine (HNF.out).mono ?_
                        rintro e w' ⟨rfl, rfl⟩
                        go_wp2_with fail
                        go_meet
                        case rel => exact ⟨by first | rfl | (simp; done), rfl⟩
                      · have e : (true || true) = true := rfl
                        rw [e] at HNT
                        clear e
                        go_wp2_with fail
                        refine (HNT.out).mono ?_
                        rintro e w' ⟨rfl, rfl⟩
                        go_wp2_with fail
                        refine (HOT.out).mono ?_
                        rintro e w' ⟨rfl, rfl⟩
                        go_wp2_with fail
                        refine (HNF.out).mono ?_
                        rintro e w' ⟨rfl, rfl⟩
                        go_wp2_with fail
                        go_meet
                        case rel => exact ⟨by first | rfl | (simp; done), rfl⟩
                case rest =>
                  obtain ⟨rfl, hwc⟩ := hcut
                  subst hwc
                  go_wp2_with fail
                  go_roundw
                  case rel => exact ⟨k + 1, by omega, by go_num, HR.out⟩
                  case measure => simp [intOf]; omega
              · have hki : ¬ (k : Int) < 8 := by omega
                go_wp2
                go_meet
                case rel => exact HR.out
        case rest =>
          as_aux_lemma =>
          have hb := hcut
          replace HB := Lib.hid (HB.out.trans (hb.mono HB.out.size))
          replace RG := Lib.hid (RG.out.below hb)
          replace RL := Lib.hid (RL.out.below hb)
          clear hb hcut
          obtain ⟨wD, rfl⟩ : ∃ wD, wD = wc := ⟨_, rfl⟩
          clear RU RJ2 FJOIN
          go_upto_if 439 with fail
          go_cut [] from 500 to 500 (fun wx => Below wD.heap.size wD wx)
          case first =>
            as_aux_lemma =>
            have HQ : Hid (Below wD.heap.size wD wD) := Lib.hid (Below.refl _ _)
            cases ltt with
            | false =>
              go_wp2
              go_meet
              case rel => exact HQ.out
            | true =>
              have C := fun W hW hW2 => implIsRepairPlan_any B m d gs y LB LP.length Ld LP W (by omega) hW (by omega) (fun x hx => by have := HLB.out x hx; omega) hW2
              simp only [FLATE.out rfl] at C
              have HC := Lib.hid C
              clear C
              go_wp2_with fail
              refine (HC.out _ RG.out RL.out).mono ?_
              rintro e wz ⟨rfl, hb⟩
              replace HQ := Lib.hid (HQ.out.trans (hb.mono HQ.out.size))
              clear hb
              go_wp2
              go_meet
              case rel => exact HQ.out
          case rest =>
            as_aux_lemma =>
            have hb := hcut
            replace HB := Lib.hid (HB.out.trans (hb.mono HB.out.size))
            replace RG := Lib.hid (RG.out.below hb)
            replace RL := Lib.hid (RL.out.below hb)
            clear hb hcut
            obtain ⟨wE, rfl⟩ : ∃ wE, wE = wc := ⟨_, rfl⟩
            cases lo with
            | false =>
              go_wp2
              go_ret
              exact ⟨rfl, HB.out⟩
            | true =>
              obtain ⟨_, hco, hle, h0⟩ := FCOST.out rfl
              have C := fun W hW hW2 => implPlanCost_any B m d gs LB LP.length Ld LP t W (by omega) hW (by omega) (fun x hx => by have := HLB.out x hx; omega) hW2
              have he : costR gs LP t = ((costR gs LP t).1, true) := Prod.ext rfl hco
              generalize (costR gs LP t).1 = ow at *
              simp only [he] at C
              have HC := Lib.hid C
              clear C he hco
              go_wp2_with fail
              refine (HC.out _ RG.out RL.out).mono ?_
              rintro e wz ⟨rfl, hb⟩
              replace HB := Lib.hid (HB.out.trans (hb.mono HB.out.size))
              clear hb
              go_wp2
              go_ret
              exact ⟨ret_bool (by simp [hle, h0]), HB.out⟩

end Go.Proofs.Ytjibdabedagghaa
