/- The law of delays: the walk. No conditions. -/
import Derived.Test.YtgdlaeibdpbgdaaDelP
import Derived.Test.YtgdlaeibdpbgdaaDrC
import Derived.Test.YtgdlaeibdpbgdaaTr5
namespace Go.Proofs.Ytgdlaeibdpbgdaa
set_option linter.unusedSimpArgs false
set_option linter.unusedVariables false
open Go.RowKit


set_option maxHeartbeats 4000000 in
set_option maxRecDepth 100000 in
theorem law_FnDelays (w : World) {v0 v1 : Value} (h0 : IsBytes w v0) (h1 : IsBytes w v1) :
    Calls Try.prog 13 #[v0, v1] w fun e w' => e = .returned (.bool true) ∧ Below w.heap.size w w' := by
  obtain ⟨A0, n0, c0, l0, rfl, hnc0, hcm0, hr0, hb0⟩ := h0
  obtain ⟨A1, n1, c1, l1, rfl, hnc1, hcm1, hr1, hb1⟩ := h1
  have HR0 := Lib.hid hr0; have HR1 := Lib.hid hr1; have HL0 := Lib.hid hb0; have HL1 := Lib.hid hb1
  clear hr0 hr1 hb0 hb1
  have HB : Hid (Below w.heap.size w w) := Lib.hid (Below.refl _ _)
  have HBIG : ∀ z : Int, z = wrap64 ((n0 : Int) + (n1 : Int)) → 1048576 < z ∨ z ≤ 1048576 := fun z _ => by omega
  by_cases hbig : 1048576 < wrap64 ((n0 : Int) + (n1 : Int))
  · go_enter Try.func13, Try.ntmps13
    go_wp2
    go_ret
    exact ⟨rfl, Below.refl _ _⟩
  clear HBIG
  go_enter Try.func13, Try.ntmps13
  go_wp2_with fail
  refine (drawMeanDelay_any A0 n0 c0 l0 _ (by omega) HL0.out HR0.out).mono ?_
  rintro e w1 ⟨B, d, xs, cap, rfl, hxl, hcap, ho, hb⟩
  have HB := Lib.hid (HB.out.trans hb); have HO := Lib.hid ho
  clear hb ho hbig
  
  go_wp2_with fail
  refine (implMeanDelay_any B xs.length d xs cap _ (by omega) (Reads.of_own HO.out)).mono ?_
  rintro e w1 ⟨rfl, hb⟩
  have HB := Lib.hid (HB.out.trans (hb.mono HB.out.size))
  have HO := Lib.hid (own_below HO.out hb)
  clear hb
  go_wp2_with fail
  refine (specMeanDelay_any B xs.length d xs cap _ (by omega) (Reads.of_own HO.out)).mono ?_
  rintro e w2 ⟨rfl, hb⟩
  have HB := Lib.hid (HB.out.trans (hb.mono HB.out.size))
  have HO := Lib.hid (own_below HO.out hb)
  clear hb
  go_wp2_with fail
  refine (implWorstDelay_any B xs.length d xs cap _ (by omega) (Reads.of_own HO.out)).mono ?_
  rintro e w3 ⟨rfl, hb⟩
  have HB := Lib.hid (HB.out.trans (hb.mono HB.out.size))
  have HO := Lib.hid (own_below HO.out hb)
  clear hb
  go_wp2_with fail
  refine (specWorstDelay_any B xs.length d xs cap _ (by omega) (Reads.of_own HO.out)).mono ?_
  rintro e w4 ⟨rfl, hb⟩
  have HB := Lib.hid (HB.out.trans (hb.mono HB.out.size))
  have HO := Lib.hid (own_below HO.out hb)
  clear hb
  go_wp2_with fail
  refine (drawDelayOf_any A1 n1 c1 l1 _ (by omega) HL1.out (HR1.out.below HB.out)).mono ?_
  rintro e w7 ⟨B', d', ys, cap', m, rfl, hyl, hcap', ho, hb⟩
  have HB := Lib.hid (HB.out.trans (hb.mono HB.out.size)); have HO := Lib.hid (own_below HO.out hb); have HP := Lib.hid ho
  clear hb ho
  go_wp2_with fail
  refine (implDelayOf_any B' ys.length d' ys cap' m _ (by omega) (Reads.of_own HP.out)).mono ?_
  rintro e w8 ⟨rfl, hb⟩
  have HB := Lib.hid (HB.out.trans (hb.mono HB.out.size))
  have HO := Lib.hid (own_below HO.out hb)
  have HP := Lib.hid (own_below HP.out hb)
  clear hb
  go_wp2_with fail
  refine (specDelayOf_any B' ys.length d' ys cap' m _ (by omega) (Reads.of_own HP.out)).mono ?_
  rintro e w9 ⟨rfl, hb⟩
  have HB := Lib.hid (HB.out.trans (hb.mono HB.out.size))
  have HO := Lib.hid (own_below HO.out hb)
  have HP := Lib.hid (own_below HP.out hb)
  clear hb
  have HF1 := Lib.hid (delayR_facts (xs := ys) (cap := cap') (n := m))
  have HF2 : Hid ((meanR xs cap).2.2 = true → (worstR xs cap).2 = true) := Lib.hid (fun h => by have h1 := (meanR_ok h).1; unfold worstR; rw [if_pos h1])
  have HWV : Hid (trafB xs cap = true → (worstR xs cap).1 = worst (delays cap xs)) := Lib.hid (fun h => by unfold worstR; rw [if_pos h])
  have HOK := Lib.hid (meanR_ok (xs := xs) (cap := cap))
  have HMF := Lib.hid (meanR_facts (xs := xs) (cap := cap))
  generalize (meanR xs cap).1 = ma at *
  generalize (meanR xs cap).2.1 = mb at *
  generalize (meanR xs cap).2.2 = mo at *
  generalize (worstR xs cap).1 = wv at *
  generalize (worstR xs cap).2 = wo at *
  have HDR : Hid (∀ v o, delayR ys cap' m = (v, o) → True) := Lib.hid (fun _ _ _ => trivial)
  obtain ⟨dv, hdv⟩ : ∃ dv, dv = (delayR ys cap' m).1 := ⟨_, rfl⟩
  obtain ⟨dok, hdo⟩ : ∃ dok, dok = (delayR ys cap' m).2 := ⟨_, rfl⟩
  rw [← hdv, ← hdo] at HF1
  rw [← hdv, ← hdo]
  clear hdv hdo HDR
  
  cases mo with
  | false =>
    cases dok with
    | false =>
      go_wp2
      go_ret
      exact ⟨rfl, HB.out⟩
    | true =>
      obtain ⟨hw, hd0, hd1⟩ := HF1.out rfl
      have HWR := Lib.hid hw
      clear hw
      go_wp2_with fail
      refine (implWorstDelay_any B' ys.length d' ys cap' _ (by omega) (Reads.of_own HP.out)).mono ?_
      rintro e wa ⟨rfl, hb⟩
      have HB := Lib.hid (HB.out.trans (hb.mono HB.out.size)); have HO := Lib.hid (own_below HO.out hb); have HP := Lib.hid (own_below HP.out hb)
      clear hb
      go_wp2_with fail
      refine (specWorstDelay_any B' ys.length d' ys cap' _ (by omega) (Reads.of_own HP.out)).mono ?_
      rintro e wb ⟨rfl, hb⟩
      have HB := Lib.hid (HB.out.trans (hb.mono HB.out.size)); have HO := Lib.hid (own_below HO.out hb)
      clear hb
      rw [HWR.out]
      simp only
      generalize worst (delays cap' ys) = wy at *
      go_wp2
      go_ret
      exact ⟨rfl, HB.out⟩
  | true =>
    have hwo := HF2.out rfl
    subst hwo
    have hok := HOK.out rfl
    cases dok with
    | false =>
      have HOX := HO
      have HBX := HB
      obtain ⟨⟨hn60, hx⟩, hc1, hc2⟩ := trafB_true.1 hok.1
      have HLEN := Lib.hid (length_delays cap xs (fun x hx' => (hx x hx').1))
      have hsb := sumL_bd xs 0 200 hx
      have HDB := Lib.hid (delays_bd cap hc1 xs hx hn60)
      have HLB : Hid ((delays cap xs).length ≤ 12000) := Lib.hid (by have := HLEN.out; omega)
      have HXB := Lib.hid hx
      have HDA0 := Lib.hid (fun many hm => delayR_at (cap := cap) (many := many) hok.1 hm)
      have HWV' := Lib.hid (HWV.out hok.1)
      have HMF' := Lib.hid (HMF.out hok.1 hok.2)
      have HSH : Hid (∀ many, 0 ≤ sumL (headD cap xs many) ∧ sumL (headD cap xs many) ≤ 2412000) := Lib.hid (fun many => by
        have h1 := sumL_bd (headD cap xs many) 0 12060 (fun y hy => HDB.out y (List.mem_of_mem_take hy))
        have h2 : (headD cap xs many).length ≤ 200 := by unfold headD; simp; omega
        omega)
      clear hok hx hsb HF1 HOK HF2 HMF HWV
      go_wp2
      go_loopw [28, 29, 30, 31, 172] (fun s mn mo la i wr => ∃ t many : Nat, ∃ last : Int, t ≤ xs.length ∧ i = .int .i64 t ∧ s = .int .i64 (sumL (headD cap xs many)) ∧ mn = .int .i64 many ∧ mo = .int .i64 (worst (headD cap xs many)) ∧ la = .int .i64 last ∧ Outer cap xs t many last ∧ Below w9.heap.size w9 wr) (fun _ _ _ _ i _ => xs.length - (intOf i).toNat)
      case atStart => exact ⟨0, 0, 0, Nat.zero_le _, rfl, rfl, rfl, rfl, rfl, Outer.start cap xs, Below.refl _ _⟩
      case round =>
        obtain ⟨t, many, last, ht, rfl, rfl, rfl, rfl, rfl, hou, hb⟩ := hrel
        have HOU := Lib.hid hou; have HBO := Lib.hid hb
        clear hou hb
        by_cases hlt : t < xs.length
        · obtain ⟨ad, u, rfl, hu, k0⟩ := (Reads.of_own (own_below HOX.out HBO.out)).at_ hlt
          have e0 : u = .int .i64 xs[t] := by simp [ints, hlt] at hu; exact hu.symm
          subst e0
          have hxb := HXB.out _ (List.getElem_mem hlt)
          have HIN := Lib.hid (HOU.out.inner hlt)
          clear hu
          generalize xs[t] = x at *
          obtain ⟨M, rfl⟩ : ∃ M : Nat, x = (M : Int) := ⟨x.toNat, by omega⟩
          have HIN0 : Hid (Inner cap xs t M many last) := Lib.hid (by have := HIN.out; simpa using this)
          clear HIN
          obtain ⟨wq, rfl⟩ : ∃ wq, wq = wr := ⟨_, rfl⟩
          go_wp2
          clear k0
          go_loopw [28, 29, 30, 31, 33] (fun s mn mo la i wr => ∃ m many : Nat, ∃ last : Int, m ≤ 200 ∧ i = .int .i64 m ∧ s = .int .i64 (sumL (headD cap xs many)) ∧ mn = .int .i64 many ∧ mo = .int .i64 (worst (headD cap xs many)) ∧ la = .int .i64 last ∧ Inner cap xs t m many last ∧ Below w9.heap.size w9 wr) (fun _ _ _ _ i _ => (intOf i).toNat)
          case atStart => exact ⟨M, many, last, by omega, rfl, rfl, rfl, rfl, rfl, HIN0.out, HBO.out⟩
          case round =>
            obtain ⟨m, many, last, hm200, rfl, rfl, rfl, rfl, rfl, hin, hb⟩ := hrel
            have HBI := Lib.hid hb
            clear hb HIN0 HOU
            by_cases hm0 : m = 0
            · subst hm0
              have HOU2 := Lib.hid hin.outer
              clear hin
              go_wp2
              go_roundw
              case rel => exact ⟨t + 1, many, last, by omega, by go_num, rfl, rfl, rfl, rfl, HOU2.out, HBI.out⟩
              case measure => first | (simp [intOf]; done) | (simp [intOf]; omega)
            · obtain ⟨m, rfl⟩ : ∃ m', m = m' + 1 := ⟨m - 1, by omega⟩
              obtain ⟨hml, hle, hi1, hi2⟩ := hin.step
              have hmb : many < 12000 := by have := HLB.out; omega
              have HI2 := Lib.hid hi2
              clear hin
              by_cases h200 : many < 200
              · have hyb := HDB.out _ (List.getElem_mem hml)
                have HDA := Lib.hid (HDA0.out many hml)
                have HST := Lib.hid (headD_step hml h200)
                have hsh := HSH.out many
                have HI := Lib.hid hi1
                clear hi1 hi2
                generalize (delays cap xs)[many] = y at *
                have HSS : Hid (Value.int .i64 (sumL (headD cap xs many) + y) = .int .i64 (sumL (headD cap xs (many + 1)))) := Lib.hid (by rw [HST.out, sumL_snoc])
                by_cases hmo : worst (headD cap xs many) < y
                · have HMM : Hid (Value.int .i64 y = .int .i64 (worst (headD cap xs (many + 1)))) := Lib.hid (by rw [HST.out, worst_snoc]; congr 1; omega)
                  clear HST
                  generalize sumL (headD cap xs many) = S at *
                  generalize worst (headD cap xs many) = Wm at *
                  go_wp2_with fail
                  refine (implDelayOf_any (some ad) xs.length d xs cap (many : Int) _ (by omega) (Reads.of_own (own_below HOX.out HBI.out))).mono ?_
                  rintro e wu' ⟨rfl, hb⟩
                  have HBI := Lib.hid (HBI.out.trans (hb.mono HBI.out.size))
                  clear hb
                  go_wp2_with fail
                  refine (specDelayOf_any (some ad) xs.length d xs cap (many : Int) _ (by omega) (Reads.of_own (own_below HOX.out HBI.out))).mono ?_
                  rintro e wv' ⟨rfl, hb⟩
                  have HBI := Lib.hid (HBI.out.trans (hb.mono HBI.out.size))
                  clear hb
                  rw [HDA.out]
                  simp only
                  go_wp2
                  go_roundw
                  case rel =>
                    refine ⟨m, many + 1, (t : Int) + y, by omega, by go_num, by first | exact HSS.out | rfl, by go_num, by first | exact HMM.out | rfl, rfl, HI.out, HBI.out⟩
                  case measure => first | (simp [intOf]; done) | (simp [intOf]; omega)
                · have HMM : Hid (Value.int .i64 (worst (headD cap xs many)) = .int .i64 (worst (headD cap xs (many + 1)))) := Lib.hid (by rw [HST.out, worst_snoc]; congr 1; omega)
                  clear HST
                  generalize sumL (headD cap xs many) = S at *
                  generalize worst (headD cap xs many) = Wm at *
                  go_wp2_with fail
                  refine (implDelayOf_any (some ad) xs.length d xs cap (many : Int) _ (by omega) (Reads.of_own (own_below HOX.out HBI.out))).mono ?_
                  rintro e wu' ⟨rfl, hb⟩
                  have HBI := Lib.hid (HBI.out.trans (hb.mono HBI.out.size))
                  clear hb
                  go_wp2_with fail
                  refine (specDelayOf_any (some ad) xs.length d xs cap (many : Int) _ (by omega) (Reads.of_own (own_below HOX.out HBI.out))).mono ?_
                  rintro e wv' ⟨rfl, hb⟩
                  have HBI := Lib.hid (HBI.out.trans (hb.mono HBI.out.size))
                  clear hb
                  rw [HDA.out]
                  simp only
                  go_wp2
                  go_roundw
                  case rel =>
                    refine ⟨m, many + 1, (t : Int) + y, by omega, by go_num, by first | exact HSS.out | rfl, by go_num, by first | exact HMM.out | rfl, rfl, HI.out, HBI.out⟩
                  case measure => first | (simp [intOf]; done) | (simp [intOf]; omega)
              · have HHL := Lib.hid (headD_late (cap := cap) (xs := xs) (many := many) (by omega))
                clear hi1 hi2 hle
                go_wp2
                go_roundw
                case rel => exact ⟨m, many + 1, last, by omega, by go_num, by rw [HHL.out], by go_num, by rw [HHL.out], rfl, HI2.out, HBI.out⟩
                case measure => first | (simp [intOf]; done) | (simp [intOf]; omega)
        · have hall := HOU.out.all (by omega)
          have HEL := Lib.hid HLEN.out
          obtain ⟨hma0, hma1, hmb0, hmb1, heq⟩ := HMF'.out
          by_cases h200 : 200 < many
          · have HWL := headD_worst cap xs many
            rw [← HWV'.out] at HWL
            generalize worst (headD cap xs many) = Wm at *
            go_wp2
            go_ret
            exact ⟨ret_bool (by first | (simp; done) | (simp; omega)), HBX.out.trans (HBO.out.mono HBX.out.size)⟩
          · have hhd : headD cap xs many = delays cap xs := by rw [hall]; exact headD_all (by omega)
            rw [hhd]
            have hS := HSH.out many
            rw [hhd] at hS
            have hmS : (many : Int) = sumL xs := by rw [hall]; exact HEL.out
            rw [← hmS] at heq
            have HW2 : Hid (worst (delays cap xs) = wv) := Lib.hid HWV'.out.symm
            have hp1 : 0 ≤ ma * (many : Int) ∧ ma * (many : Int) ≤ 200000000 * 200 := ⟨Int.mul_nonneg hma0 (by omega), Int.le_trans (Int.mul_le_mul_of_nonneg_right hma1 (by omega)) (by omega)⟩
            have hp2 : 0 ≤ sumL (delays cap xs) * mb ∧ sumL (delays cap xs) * mb ≤ 200000000 * 200 := by rw [← heq]; exact hp1
            have HEQ := Lib.hid heq
            clear heq hmS hall hhd
            generalize sumL (delays cap xs) = S at *
            generalize worst (delays cap xs) = Wm at *
            go_wp2
            go_ret
            exact ⟨ret_bool (by simp [HW2.out, HEQ.out]), HBX.out.trans (HBO.out.mono HBX.out.size)⟩
    | true =>
      obtain ⟨hw, hd0, hd1⟩ := HF1.out rfl
      have HWR := Lib.hid hw
      clear hw
      go_wp2_with fail
      refine (implWorstDelay_any B' ys.length d' ys cap' _ (by omega) (Reads.of_own HP.out)).mono ?_
      rintro e wa ⟨rfl, hb⟩
      have HB := Lib.hid (HB.out.trans (hb.mono HB.out.size)); have HO := Lib.hid (own_below HO.out hb); have HP := Lib.hid (own_below HP.out hb)
      clear hb
      go_wp2_with fail
      refine (specWorstDelay_any B' ys.length d' ys cap' _ (by omega) (Reads.of_own HP.out)).mono ?_
      rintro e wb ⟨rfl, hb⟩
      have HB := Lib.hid (HB.out.trans (hb.mono HB.out.size)); have HO := Lib.hid (own_below HO.out hb)
      clear hb
      rw [HWR.out]
      simp only
      generalize worst (delays cap' ys) = wy at *
      have HOX := HO
      have HBX := HB
      obtain ⟨⟨hn60, hx⟩, hc1, hc2⟩ := trafB_true.1 hok.1
      have HLEN := Lib.hid (length_delays cap xs (fun x hx' => (hx x hx').1))
      have hsb := sumL_bd xs 0 200 hx
      have HDB := Lib.hid (delays_bd cap hc1 xs hx hn60)
      have HLB : Hid ((delays cap xs).length ≤ 12000) := Lib.hid (by have := HLEN.out; omega)
      have HXB := Lib.hid hx
      have HDA0 := Lib.hid (fun many hm => delayR_at (cap := cap) (many := many) hok.1 hm)
      have HWV' := Lib.hid (HWV.out hok.1)
      have HMF' := Lib.hid (HMF.out hok.1 hok.2)
      have HSH : Hid (∀ many, 0 ≤ sumL (headD cap xs many) ∧ sumL (headD cap xs many) ≤ 2412000) := Lib.hid (fun many => by
        have h1 := sumL_bd (headD cap xs many) 0 12060 (fun y hy => HDB.out y (List.mem_of_mem_take hy))
        have h2 : (headD cap xs many).length ≤ 200 := by unfold headD; simp; omega
        omega)
      clear hok hx hsb HF1 HOK HF2 HMF HWV
      go_wp2
      go_loopw [28, 29, 30, 31, 172] (fun s mn mo la i wr => ∃ t many : Nat, ∃ last : Int, t ≤ xs.length ∧ i = .int .i64 t ∧ s = .int .i64 (sumL (headD cap xs many)) ∧ mn = .int .i64 many ∧ mo = .int .i64 (worst (headD cap xs many)) ∧ la = .int .i64 last ∧ Outer cap xs t many last ∧ Below wb.heap.size wb wr) (fun _ _ _ _ i _ => xs.length - (intOf i).toNat)
      case atStart => exact ⟨0, 0, 0, Nat.zero_le _, rfl, rfl, rfl, rfl, rfl, Outer.start cap xs, Below.refl _ _⟩
      case round =>
        obtain ⟨t, many, last, ht, rfl, rfl, rfl, rfl, rfl, hou, hb⟩ := hrel
        have HOU := Lib.hid hou; have HBO := Lib.hid hb
        clear hou hb
        by_cases hlt : t < xs.length
        · obtain ⟨ad, u, rfl, hu, k0⟩ := (Reads.of_own (own_below HOX.out HBO.out)).at_ hlt
          have e0 : u = .int .i64 xs[t] := by simp [ints, hlt] at hu; exact hu.symm
          subst e0
          have hxb := HXB.out _ (List.getElem_mem hlt)
          have HIN := Lib.hid (HOU.out.inner hlt)
          clear hu
          generalize xs[t] = x at *
          obtain ⟨M, rfl⟩ : ∃ M : Nat, x = (M : Int) := ⟨x.toNat, by omega⟩
          have HIN0 : Hid (Inner cap xs t M many last) := Lib.hid (by have := HIN.out; simpa using this)
          clear HIN
          obtain ⟨wq, rfl⟩ : ∃ wq, wq = wr := ⟨_, rfl⟩
          go_wp2
          clear k0
          go_loopw [28, 29, 30, 31, 33] (fun s mn mo la i wr => ∃ m many : Nat, ∃ last : Int, m ≤ 200 ∧ i = .int .i64 m ∧ s = .int .i64 (sumL (headD cap xs many)) ∧ mn = .int .i64 many ∧ mo = .int .i64 (worst (headD cap xs many)) ∧ la = .int .i64 last ∧ Inner cap xs t m many last ∧ Below wb.heap.size wb wr) (fun _ _ _ _ i _ => (intOf i).toNat)
          case atStart => exact ⟨M, many, last, by omega, rfl, rfl, rfl, rfl, rfl, HIN0.out, HBO.out⟩
          case round =>
            obtain ⟨m, many, last, hm200, rfl, rfl, rfl, rfl, rfl, hin, hb⟩ := hrel
            have HBI := Lib.hid hb
            clear hb HIN0 HOU
            by_cases hm0 : m = 0
            · subst hm0
              have HOU2 := Lib.hid hin.outer
              clear hin
              go_wp2
              go_roundw
              case rel => exact ⟨t + 1, many, last, by omega, by go_num, rfl, rfl, rfl, rfl, HOU2.out, HBI.out⟩
              case measure => first | (simp [intOf]; done) | (simp [intOf]; omega)
            · obtain ⟨m, rfl⟩ : ∃ m', m = m' + 1 := ⟨m - 1, by omega⟩
              obtain ⟨hml, hle, hi1, hi2⟩ := hin.step
              have hmb : many < 12000 := by have := HLB.out; omega
              have HI2 := Lib.hid hi2
              clear hin
              by_cases h200 : many < 200
              · have hyb := HDB.out _ (List.getElem_mem hml)
                have HDA := Lib.hid (HDA0.out many hml)
                have HST := Lib.hid (headD_step hml h200)
                have hsh := HSH.out many
                have HI := Lib.hid hi1
                clear hi1 hi2
                generalize (delays cap xs)[many] = y at *
                have HSS : Hid (Value.int .i64 (sumL (headD cap xs many) + y) = .int .i64 (sumL (headD cap xs (many + 1)))) := Lib.hid (by rw [HST.out, sumL_snoc])
                by_cases hmo : worst (headD cap xs many) < y
                · have HMM : Hid (Value.int .i64 y = .int .i64 (worst (headD cap xs (many + 1)))) := Lib.hid (by rw [HST.out, worst_snoc]; congr 1; omega)
                  clear HST
                  generalize sumL (headD cap xs many) = S at *
                  generalize worst (headD cap xs many) = Wm at *
                  go_wp2_with fail
                  refine (implDelayOf_any (some ad) xs.length d xs cap (many : Int) _ (by omega) (Reads.of_own (own_below HOX.out HBI.out))).mono ?_
                  rintro e wu' ⟨rfl, hb⟩
                  have HBI := Lib.hid (HBI.out.trans (hb.mono HBI.out.size))
                  clear hb
                  go_wp2_with fail
                  refine (specDelayOf_any (some ad) xs.length d xs cap (many : Int) _ (by omega) (Reads.of_own (own_below HOX.out HBI.out))).mono ?_
                  rintro e wv' ⟨rfl, hb⟩
                  have HBI := Lib.hid (HBI.out.trans (hb.mono HBI.out.size))
                  clear hb
                  rw [HDA.out]
                  simp only
                  go_wp2
                  go_roundw
                  case rel =>
                    refine ⟨m, many + 1, (t : Int) + y, by omega, by go_num, by first | exact HSS.out | rfl, by go_num, by first | exact HMM.out | rfl, rfl, HI.out, HBI.out⟩
                  case measure => first | (simp [intOf]; done) | (simp [intOf]; omega)
                · have HMM : Hid (Value.int .i64 (worst (headD cap xs many)) = .int .i64 (worst (headD cap xs (many + 1)))) := Lib.hid (by rw [HST.out, worst_snoc]; congr 1; omega)
                  clear HST
                  generalize sumL (headD cap xs many) = S at *
                  generalize worst (headD cap xs many) = Wm at *
                  go_wp2_with fail
                  refine (implDelayOf_any (some ad) xs.length d xs cap (many : Int) _ (by omega) (Reads.of_own (own_below HOX.out HBI.out))).mono ?_
                  rintro e wu' ⟨rfl, hb⟩
                  have HBI := Lib.hid (HBI.out.trans (hb.mono HBI.out.size))
                  clear hb
                  go_wp2_with fail
                  refine (specDelayOf_any (some ad) xs.length d xs cap (many : Int) _ (by omega) (Reads.of_own (own_below HOX.out HBI.out))).mono ?_
                  rintro e wv' ⟨rfl, hb⟩
                  have HBI := Lib.hid (HBI.out.trans (hb.mono HBI.out.size))
                  clear hb
                  rw [HDA.out]
                  simp only
                  go_wp2
                  go_roundw
                  case rel =>
                    refine ⟨m, many + 1, (t : Int) + y, by omega, by go_num, by first | exact HSS.out | rfl, by go_num, by first | exact HMM.out | rfl, rfl, HI.out, HBI.out⟩
                  case measure => first | (simp [intOf]; done) | (simp [intOf]; omega)
              · have HHL := Lib.hid (headD_late (cap := cap) (xs := xs) (many := many) (by omega))
                clear hi1 hi2 hle
                go_wp2
                go_roundw
                case rel => exact ⟨m, many + 1, last, by omega, by go_num, by rw [HHL.out], by go_num, by rw [HHL.out], rfl, HI2.out, HBI.out⟩
                case measure => first | (simp [intOf]; done) | (simp [intOf]; omega)
        · have hall := HOU.out.all (by omega)
          have HEL := Lib.hid HLEN.out
          obtain ⟨hma0, hma1, hmb0, hmb1, heq⟩ := HMF'.out
          by_cases h200 : 200 < many
          · have HWL := headD_worst cap xs many
            rw [← HWV'.out] at HWL
            generalize worst (headD cap xs many) = Wm at *
            go_wp2
            go_ret
            exact ⟨ret_bool (by first | (simp; done) | (simp; omega)), HBX.out.trans (HBO.out.mono HBX.out.size)⟩
          · have hhd : headD cap xs many = delays cap xs := by rw [hall]; exact headD_all (by omega)
            rw [hhd]
            have hS := HSH.out many
            rw [hhd] at hS
            have hmS : (many : Int) = sumL xs := by rw [hall]; exact HEL.out
            rw [← hmS] at heq
            have HW2 : Hid (worst (delays cap xs) = wv) := Lib.hid HWV'.out.symm
            have hp1 : 0 ≤ ma * (many : Int) ∧ ma * (many : Int) ≤ 200000000 * 200 := ⟨Int.mul_nonneg hma0 (by omega), Int.le_trans (Int.mul_le_mul_of_nonneg_right hma1 (by omega)) (by omega)⟩
            have hp2 : 0 ≤ sumL (delays cap xs) * mb ∧ sumL (delays cap xs) * mb ≤ 200000000 * 200 := by rw [← heq]; exact hp1
            have HEQ := Lib.hid heq
            clear heq hmS hall hhd
            generalize sumL (delays cap xs) = S at *
            generalize worst (delays cap xs) = Wm at *
            go_wp2
            go_ret
            exact ⟨ret_bool (by simp [HW2.out, HEQ.out]), HBX.out.trans (HBO.out.mono HBX.out.size)⟩

end Go.Proofs.Ytgdlaeibdpbgdaa
