/- The law of wear: the walk. No conditions. -/
import Derived.Test.YtjibdabedagghaaWeaP
import Derived.Test.YtjibdabedagghaaDrI
namespace Go.Proofs.Ytjibdabedagghaa
set_option linter.unusedSimpArgs false
set_option linter.unusedVariables false
open Go.RowKit


set_option maxHeartbeats 8000000 in
set_option maxRecDepth 100000 in
theorem law_FnWear (w : World) {v0 v1 : Value} (h0 : IsBytes w v0) (h1 : IsBytes w v1) :
    Calls Try.prog 14 #[v0, v1] w fun e w' => e = .returned (.bool true) ∧ Below w.heap.size w w' := by
  obtain ⟨A0, n0, c0, l0, rfl, hnc0, hcm0, hr0, hb0⟩ := h0
  obtain ⟨A1, n1, c1, l1, rfl, hnc1, hcm1, hr1, hb1⟩ := h1
  have HR0 := Lib.hid hr0; have HR1 := Lib.hid hr1; have HL0 := Lib.hid hb0; have HL1 := Lib.hid hb1
  clear hr0 hr1 hb0 hb1
  have HB : Hid (Below w.heap.size w w) := Lib.hid (Below.refl _ _)
  by_cases hbig : 1048576 < wrap64 ((n0 : Int) + (n1 : Int))
  · go_enter Try.func14, Try.ntmps14
    go_wp2
    go_ret
    exact ⟨rfl, Below.refl _ _⟩
  go_enter Try.func14, Try.ntmps14
  go_wp2_with fail
  refine (drawWearOn_any A0 n0 c0 l0 _ (by omega) HL0.out HR0.out).mono ?_
  rintro e wz ⟨ga, gb, gc, gd, B, p, ds, day, rfl, hdl, hsm, hday, ho, hb⟩
  have HB := Lib.hid (HB.out.trans (hb.mono HB.out.size))
  have HO := Lib.hid ho; have HSM := Lib.hid hsm; clear ho hsm
  clear hb
  have HX := Lib.hid (Box4.new wz 26 (.int .i64 ga) (.int .i64 gb) (.int .i64 gc) (.int .i64 gd))
  have hal : Below wz.heap.size wz (wz.alloc (.cells #[.int .i64 ga, .int .i64 gb, .int .i64 gc, .int .i64 gd] 26)) := (Below.refl _ _).alloc (Nat.le_refl _) _
  have HB := Lib.hid (HB.out.trans (hal.mono HB.out.size)); have HO := Lib.hid (own_below HO.out hal)
  obtain ⟨wq, hwq⟩ : ∃ wq, wq = wz.alloc (.cells #[.int .i64 ga, .int .i64 gb, .int .i64 gc, .int .i64 gd] 26) := ⟨_, rfl⟩
  rw [← hwq] at HX HB HO
  have HWQ := Lib.hid hwq
  have hg5 : ∃ g5, g5 = wz.heap.size := ⟨_, rfl⟩
  clear hal hwq
  have C1 := Lib.hid (implWearOn_any ga gb gc gd B ds.length p ds day wq (by omega) (Reads.of_own HO.out))
  rw [HWQ.out] at C1
  go_wp2_with fail
  refine (C1.out).mono ?_
  rintro e wz ⟨rfl, hb⟩
  rw [← HWQ.out] at hb
  have HB := Lib.hid (HB.out.trans (hb.mono HB.out.size)); have HO := Lib.hid (own_below HO.out hb); have HX := Lib.hid (box4_bel HX.out hb)
  clear hb
  obtain ⟨c0, c1, c2, c3⟩ := HX.out.cells
  go_wp2_with fail
  clear c0 c1 c2 c3
  refine (specWearOn_any ga gb gc gd B ds.length p ds day _ (by omega) (Reads.of_own HO.out)).mono ?_
  rintro e wz ⟨rfl, hb⟩
  have HB := Lib.hid (HB.out.trans (hb.mono HB.out.size))
  have HO := Lib.hid (own_below HO.out hb)
  have HX := Lib.hid (box4_bel HX.out hb)
  clear hb
  have hwf := wearR_facts (a := ga) (b := gb) (c := gc) (d := gd) (day := day) (ds := ds)
  generalize (wearR ga gb gc gd ds day).1 = wv at *
  generalize (wearR ga gb gc gd ds day).2 = wo at *
  have HWF := Lib.hid hwf
  clear hwf
  go_wp2_with fail
  refine (drawFirstToFail_any A1 n1 c1 l1 _ (by omega) HL1.out (HR1.out.below HB.out)).mono ?_
  rintro e wz ⟨D, q, gs, rfl, hgl, ho, hb⟩
  have HB := Lib.hid (HB.out.trans (hb.mono HB.out.size))
  have HO := Lib.hid (own_below HO.out hb)
  have HX := Lib.hid (box4_bel HX.out hb)
  have HG := Lib.hid ho; clear ho
  clear hb
  go_wp2_with fail
  refine (implFirst_any D gs.length q gs _ (by omega) (Reads.of_own HG.out)).mono ?_
  rintro e wz ⟨rfl, hb⟩
  have HB := Lib.hid (HB.out.trans (hb.mono HB.out.size))
  have HO := Lib.hid (own_below HO.out hb)
  have HG := Lib.hid (own_below HG.out hb)
  have HX := Lib.hid (box4_bel HX.out hb)
  clear hb
  go_wp2_with fail
  refine (specFirst_any D gs.length q gs _ (by omega) (Reads.of_own HG.out)).mono ?_
  rintro e wz ⟨rfl, hb⟩
  have HB := Lib.hid (HB.out.trans (hb.mono HB.out.size))
  have HO := Lib.hid (own_below HO.out hb)
  have HG := Lib.hid (own_below HG.out hb)
  have HX := Lib.hid (box4_bel HX.out hb)
  clear hb
  have hff := firstR_facts (L := gs)
  generalize (firstR gs).1 = fi at *
  generalize (firstR gs).2.1 = fw at *
  generalize (firstR gs).2.2 = fo at *
  have HFF := Lib.hid hff
  clear hff
  go_wp2_with fail
  refine (drawDaysLeft_any A1 n1 c1 l1 _ (by omega) HL1.out (HR1.out.below HB.out)).mono ?_
  rintro e wz ⟨xa, xb, xc, xd, rfl, hb⟩
  have HB := Lib.hid (HB.out.trans (hb.mono HB.out.size))
  have HO := Lib.hid (own_below HO.out hb)
  have HG := Lib.hid (own_below HG.out hb)
  have HX := Lib.hid (box4_bel HX.out hb)
  clear hb
  have HY := Lib.hid (Box4.new wz 26 (.int .i64 xa) (.int .i64 xb) (.int .i64 xc) (.int .i64 xd))
  have hal : Below wz.heap.size wz (wz.alloc (.cells #[.int .i64 xa, .int .i64 xb, .int .i64 xc, .int .i64 xd] 26)) := (Below.refl _ _).alloc (Nat.le_refl _) _
  have HB := Lib.hid (HB.out.trans (hal.mono HB.out.size)); have HO := Lib.hid (own_below HO.out hal); have HG := Lib.hid (own_below HG.out hal); have HX := Lib.hid (box4_bel HX.out hal)
  obtain ⟨wq2, hwq2⟩ : ∃ wq2, wq2 = wz.alloc (.cells #[.int .i64 xa, .int .i64 xb, .int .i64 xc, .int .i64 xd] 26) := ⟨_, rfl⟩
  rw [← hwq2] at HX HY HB HO HG
  have HWQ2 := Lib.hid hwq2
  clear hal hwq2
  have C2 := Lib.hid (implDaysLeft_any xa xb xc xd wq2)
  rw [HWQ2.out] at C2
  go_wp2_with fail
  refine (C2.out).mono ?_
  rintro e wz ⟨rfl, hb⟩
  rw [← HWQ2.out] at hb
  have HB := Lib.hid (HB.out.trans (hb.mono HB.out.size)); have HO := Lib.hid (own_below HO.out hb); have HG := Lib.hid (own_below HG.out hb); have HX := Lib.hid (box4_bel HX.out hb); have HY := Lib.hid (box4_bel HY.out hb)
  clear hb
  obtain ⟨c0, c1, c2, c3⟩ := HY.out.cells
  go_wp2_with fail
  clear c0 c1 c2 c3
  refine (specDaysLeft_any xa xb xc xd _).mono ?_
  rintro e wz ⟨rfl, hb⟩
  have HB := Lib.hid (HB.out.trans (hb.mono HB.out.size))
  have HO := Lib.hid (own_below HO.out hb)
  have HG := Lib.hid (own_below HG.out hb)
  have HX := Lib.hid (box4_bel HX.out hb)
  have HY := Lib.hid (box4_bel HY.out hb)
  clear hb
  have hdf := daysR_facts (a := xa) (b := xb) (c := xc) (d := xd)
  generalize (daysR xa xb xc xd).1 = lv at *
  generalize (daysR xa xb xc xd).2 = lk at *
  have HDF := Lib.hid hdf
  clear hdf
  go_wp2_with fail
  refine (areGears_any D gs.length q gs _ (by omega) (Reads.of_own HG.out)).mono ?_
  rintro e wz ⟨rfl, hb⟩
  have HB := Lib.hid (HB.out.trans (hb.mono HB.out.size))
  have HO := Lib.hid (own_below HO.out hb)
  have HG := Lib.hid (own_below HG.out hb)
  have HX := Lib.hid (box4_bel HX.out hb)
  have HY := Lib.hid (box4_bel HY.out hb)
  clear hb
  go_wp2_with fail
  refine (specAreGears_any D gs.length q gs _ (by omega) (Reads.of_own HG.out)).mono ?_
  rintro e wz ⟨rfl, hb⟩
  have HB := Lib.hid (HB.out.trans (hb.mono HB.out.size))
  have HO := Lib.hid (own_below HO.out hb)
  have HG := Lib.hid (own_below HG.out hb)
  have HX := Lib.hid (box4_bel HX.out hb)
  have HY := Lib.hid (box4_bel HY.out hb)
  clear hb
  generalize goodGears gs = gg at *
  obtain ⟨c0, c1, c2, c3⟩ := HY.out.cells
  cases lk with
  | false =>
    cases fo with
    | false =>
      obtain ⟨c0, c1, c2, c3⟩ := HX.out.cells
      cases wo with
      | false =>
        go_wp2
        go_ret
        exact ⟨rfl, HB.out⟩
      | true =>
        obtain ⟨hgb, hd0, hd1, hl0, hl1, he1, he2⟩ := HWF.out rfl
        obtain ⟨⟨hb1, hb2⟩, ⟨hc1, hc2⟩, ⟨ha1, ha2⟩, _⟩ := gearB_true.1 hgb
        clear c0 c1 c2 c3
        have HE1 := Lib.hid he1; have HE2 := Lib.hid he2
        clear he1 he2 hgb
        go_wp2
        go_loopw [30, 210] (fun la i wr => ∃ k : Nat, k ≤ ds.length ∧ i = .int .i64 k ∧ la = .int .i64 (lastR day (ds.take k)) ∧ Below wz.heap.size wz wr) (fun _ i _ => ds.length - (intOf i).toNat)
        case atStart => exact ⟨0, Nat.zero_le _, rfl, rfl, Below.refl _ _⟩
        case round =>
          obtain ⟨k, hk, rfl, rfl, hb⟩ := hrel
          have HBR := Lib.hid hb
          clear hb
          by_cases hlt : k < ds.length
          · obtain ⟨ad, u, rfl, hu, k0⟩ := (Reads.of_own (own_below HO.out HBR.out)).at_ hlt
            have e0 : u = .int .i64 ds[k] := by simp [ints, hlt] at hu; exact hu.symm
            subst e0
            have HTK : Hid (lastR day (ds.take (k + 1)) = if ds[k] ≤ day then ds[k] else lastR day (ds.take k)) := Lib.hid (by rw [List.take_succ_eq_append_getElem hlt, lastR_snoc])
            clear hu
            generalize ds[k] = t at *
            generalize lastR day (ds.take k) = Lk at *
            by_cases htd : t ≤ day
            · have HN : Hid (lastR day (ds.take (k + 1)) = t) := Lib.hid (by rw [HTK.out, if_pos htd])
              go_wp2
              go_roundw
              case rel => exact ⟨k + 1, by omega, by go_num, by rw [HN.out], HBR.out⟩
              case measure => simp [intOf]; omega
            · have HN : Hid (lastR day (ds.take (k + 1)) = Lk) := Lib.hid (by rw [HTK.out, if_neg htd])
              go_wp2
              go_roundw
              case rel => exact ⟨k + 1, by omega, by go_num, by rw [HN.out], HBR.out⟩
              case measure => simp [intOf]; omega
          · have e : ds.take k = ds := List.take_of_length_le (by omega)
            rw [e]
            have HX' := Lib.hid (box4_bel HX.out HBR.out)
            obtain ⟨c0, c1, c2, c3⟩ := HX'.out.cells
            generalize lastR day ds = LL at *
            by_cases hneg : LL < 0
            · have hE := HE1.out (by omega)
              have q1 : 0 ≤ (day + 1) * gb := Int.mul_nonneg (by omega) (by omega)
              have q2 : (day + 1) * gb ≤ 31 * 100 := Int.mul_le_mul (by omega) (by omega) (by omega) (by omega)
              have HE := Lib.hid hE
              clear hE
              go_wp2
              go_ret
              exact ⟨ret_bool (by rw [HE.out]; first | (simp; done) | rfl), HB.out.trans (HBR.out.mono HB.out.size)⟩
            · have hE := HE2.out (by omega)
              have q1 : 0 ≤ (day - LL + 1) * gb := Int.mul_nonneg (by omega) (by omega)
              have q2 : (day - LL + 1) * gb ≤ 31 * 100 := Int.mul_le_mul (by omega) (by omega) (by omega) (by omega)
              have HE := Lib.hid hE
              clear hE
              go_wp2
              go_ret
              exact ⟨ret_bool (by rw [HE.out]; first | (simp; done) | rfl), HB.out.trans (HBR.out.mono HB.out.size)⟩
    | true =>
      obtain ⟨hg8, F, W, rfl, rfl, hkk⟩ := HFF.out rfl
      have HK := Lib.hid hkk
      clear hkk
      go_wp2
      skip
      clear c0 c1 c2 c3
      go_loopw [154] (fun i wr => ∃ k : Nat, k ≤ gs.length ∧ i = .int .i64 k ∧ Below wz.heap.size wz wr) (fun i _ => gs.length - (intOf i).toNat)
      case atStart => exact ⟨0, Nat.zero_le _, rfl, Below.refl _ _⟩
      case round =>
        obtain ⟨k, hk, rfl, hb⟩ := hrel
        have HBR := Lib.hid hb
        clear hb
        by_cases hlt : k < gs.length
        · obtain ⟨ad, rfl, k0, k1, k2, k3⟩ := rows4_at (Reads.of_own (own_below HG.out HBR.out)) hlt rfl
          obtain ⟨hdr, hge, hne, heq⟩ := HK.out k hlt
          generalize gs[k] = y at *
          obtain ⟨ya, yb, yc, yd⟩ := y
          simp only at k0 k1 k2 k3 hdr
          generalize leftG (ya, yb, yc, yd) = v at *
          have HDR := Lib.hid hdr
          clear hdr
          have HBY := Lib.hid (Box4.new wr 26 (.int .i64 ya) (.int .i64 yb) (.int .i64 yc) (.int .i64 yd))
          have HAL : Hid (Below wr.heap.size wr (wr.alloc (.cells #[.int .i64 ya, .int .i64 yb, .int .i64 yc, .int .i64 yd] 26))) := Lib.hid ((Below.refl _ _).alloc (Nat.le_refl _) _)
          go_wp2_with fail
          refine (implDaysLeft_any ya yb yc yd _).mono ?_
          rintro e w5 ⟨rfl, hb⟩
          have HBY5 := Lib.hid (box4_bel HBY.out hb)
          have HBR := Lib.hid (HBR.out.trans ((HAL.out.trans (hb.mono HAL.out.size)).mono HBR.out.size))
          rw [HDR.out]
          simp only
          clear hb k0 k1 k2 k3
          obtain ⟨c0, c1, c2, c3⟩ := HBY5.out.cells
          go_wp2_with fail
          clear c0 c1 c2 c3
          refine (specDaysLeft_any ya yb yc yd _).mono ?_
          rintro e w6 ⟨rfl, hb⟩
          have HBR := Lib.hid (HBR.out.trans (hb.mono HBR.out.size))
          rw [HDR.out]
          simp only
          clear hb
          by_cases hkF : k < F
          · have hbq : (v == fw) = false := by rw [beq_eq_false_iff_ne]; exact hne hkF
            have hbk : ((k : Int) == (F : Int)) = false := by rw [beq_eq_false_iff_ne]; omega
            clear hne heq
            go_wp2
            go_roundw
            case rel => exact ⟨k + 1, by omega, by go_num, HBR.out⟩
            case measure => simp [intOf]; omega
          · by_cases hkE : k = F
            · have hvW := heq hkE
              subst hkE hvW
              clear hne heq hge
              go_wp2
              go_roundw
              case rel => exact ⟨k + 1, by omega, by go_num, HBR.out⟩
              case measure => simp [intOf]; omega
            · have hbk : ((k : Int) == (F : Int)) = false := by rw [beq_eq_false_iff_ne]; omega
              clear hne heq
              go_wp2
              go_roundw
              case rel => exact ⟨k + 1, by omega, by go_num, HBR.out⟩
              case measure => simp [intOf]; omega
        · have HBZ := Lib.hid (HB.out.trans (HBR.out.mono HB.out.size))
          have HO := Lib.hid (own_below HO.out HBR.out)
          have HX := Lib.hid (box4_bel HX.out HBR.out)
          have HB := HBZ
          clear HBZ
          obtain ⟨wq3, hwq3⟩ : ∃ wq3, wq3 = wr := ⟨_, rfl⟩
          subst hwq3
          obtain ⟨c0, c1, c2, c3⟩ := HX.out.cells
          cases wo with
          | false =>
            go_wp2
            go_ret
            exact ⟨rfl, HB.out⟩
          | true =>
            obtain ⟨hgb, hd0, hd1, hl0, hl1, he1, he2⟩ := HWF.out rfl
            obtain ⟨⟨hb1, hb2⟩, ⟨hc1, hc2⟩, ⟨ha1, ha2⟩, _⟩ := gearB_true.1 hgb
            clear c0 c1 c2 c3
            have HE1 := Lib.hid he1; have HE2 := Lib.hid he2
            clear he1 he2 hgb
            go_wp2
            go_loopw [30, 210] (fun la i wr => ∃ k : Nat, k ≤ ds.length ∧ i = .int .i64 k ∧ la = .int .i64 (lastR day (ds.take k)) ∧ Below wq3.heap.size wq3 wr) (fun _ i _ => ds.length - (intOf i).toNat)
            case atStart => exact ⟨0, Nat.zero_le _, rfl, rfl, Below.refl _ _⟩
            case round =>
              obtain ⟨k, hk, rfl, rfl, hb⟩ := hrel
              have HBR := Lib.hid hb
              clear hb
              by_cases hlt : k < ds.length
              · obtain ⟨ad, u, rfl, hu, k0⟩ := (Reads.of_own (own_below HO.out HBR.out)).at_ hlt
                have e0 : u = .int .i64 ds[k] := by simp [ints, hlt] at hu; exact hu.symm
                subst e0
                have HTK : Hid (lastR day (ds.take (k + 1)) = if ds[k] ≤ day then ds[k] else lastR day (ds.take k)) := Lib.hid (by rw [List.take_succ_eq_append_getElem hlt, lastR_snoc])
                clear hu
                generalize ds[k] = t at *
                generalize lastR day (ds.take k) = Lk at *
                by_cases htd : t ≤ day
                · have HN : Hid (lastR day (ds.take (k + 1)) = t) := Lib.hid (by rw [HTK.out, if_pos htd])
                  go_wp2
                  go_roundw
                  case rel => exact ⟨k + 1, by omega, by go_num, by rw [HN.out], HBR.out⟩
                  case measure => simp [intOf]; omega
                · have HN : Hid (lastR day (ds.take (k + 1)) = Lk) := Lib.hid (by rw [HTK.out, if_neg htd])
                  go_wp2
                  go_roundw
                  case rel => exact ⟨k + 1, by omega, by go_num, by rw [HN.out], HBR.out⟩
                  case measure => simp [intOf]; omega
              · have e : ds.take k = ds := List.take_of_length_le (by omega)
                rw [e]
                have HX' := Lib.hid (box4_bel HX.out HBR.out)
                obtain ⟨c0, c1, c2, c3⟩ := HX'.out.cells
                generalize lastR day ds = LL at *
                by_cases hneg : LL < 0
                · have hE := HE1.out (by omega)
                  have q1 : 0 ≤ (day + 1) * gb := Int.mul_nonneg (by omega) (by omega)
                  have q2 : (day + 1) * gb ≤ 31 * 100 := Int.mul_le_mul (by omega) (by omega) (by omega) (by omega)
                  have HE := Lib.hid hE
                  clear hE
                  go_wp2
                  go_ret
                  exact ⟨ret_bool (by rw [HE.out]; first | (simp; done) | rfl), HB.out.trans (HBR.out.mono HB.out.size)⟩
                · have hE := HE2.out (by omega)
                  have q1 : 0 ≤ (day - LL + 1) * gb := Int.mul_nonneg (by omega) (by omega)
                  have q2 : (day - LL + 1) * gb ≤ 31 * 100 := Int.mul_le_mul (by omega) (by omega) (by omega) (by omega)
                  have HE := Lib.hid hE
                  clear hE
                  go_wp2
                  go_ret
                  exact ⟨ret_bool (by rw [HE.out]; first | (simp; done) | rfl), HB.out.trans (HBR.out.mono HB.out.size)⟩
  | true =>
    obtain ⟨hgb, hlv, d0, d1, ⟨d2, d3⟩, d4, d5⟩ := HDF.out rfl
    obtain ⟨⟨hb1, hb2⟩, ⟨hc1, hc2⟩, ⟨ha1, ha2⟩, _⟩ := gearB_true.1 hgb
    rw [← hlv] at d0 d1 d2 d3 d4 d5
    have p2 : 0 ≤ (lv + 1) * xb ∧ (lv + 1) * xb ≤ 2000 := by rw [Int.add_mul, Int.one_mul]; omega
    clear hgb hlv
    cases fo with
    | false =>
      obtain ⟨c0, c1, c2, c3⟩ := HX.out.cells
      cases wo with
      | false =>
        go_wp2
        go_ret
        exact ⟨rfl, HB.out⟩
      | true =>
        obtain ⟨hgb, hd0, hd1, hl0, hl1, he1, he2⟩ := HWF.out rfl
        obtain ⟨⟨hb1, hb2⟩, ⟨hc1, hc2⟩, ⟨ha1, ha2⟩, _⟩ := gearB_true.1 hgb
        clear c0 c1 c2 c3
        have HE1 := Lib.hid he1; have HE2 := Lib.hid he2
        clear he1 he2 hgb
        go_wp2
        go_loopw [30, 210] (fun la i wr => ∃ k : Nat, k ≤ ds.length ∧ i = .int .i64 k ∧ la = .int .i64 (lastR day (ds.take k)) ∧ Below wz.heap.size wz wr) (fun _ i _ => ds.length - (intOf i).toNat)
        case atStart => exact ⟨0, Nat.zero_le _, rfl, rfl, Below.refl _ _⟩
        case round =>
          obtain ⟨k, hk, rfl, rfl, hb⟩ := hrel
          have HBR := Lib.hid hb
          clear hb
          by_cases hlt : k < ds.length
          · obtain ⟨ad, u, rfl, hu, k0⟩ := (Reads.of_own (own_below HO.out HBR.out)).at_ hlt
            have e0 : u = .int .i64 ds[k] := by simp [ints, hlt] at hu; exact hu.symm
            subst e0
            have HTK : Hid (lastR day (ds.take (k + 1)) = if ds[k] ≤ day then ds[k] else lastR day (ds.take k)) := Lib.hid (by rw [List.take_succ_eq_append_getElem hlt, lastR_snoc])
            clear hu
            generalize ds[k] = t at *
            generalize lastR day (ds.take k) = Lk at *
            by_cases htd : t ≤ day
            · have HN : Hid (lastR day (ds.take (k + 1)) = t) := Lib.hid (by rw [HTK.out, if_pos htd])
              go_wp2
              go_roundw
              case rel => exact ⟨k + 1, by omega, by go_num, by rw [HN.out], HBR.out⟩
              case measure => simp [intOf]; omega
            · have HN : Hid (lastR day (ds.take (k + 1)) = Lk) := Lib.hid (by rw [HTK.out, if_neg htd])
              go_wp2
              go_roundw
              case rel => exact ⟨k + 1, by omega, by go_num, by rw [HN.out], HBR.out⟩
              case measure => simp [intOf]; omega
          · have e : ds.take k = ds := List.take_of_length_le (by omega)
            rw [e]
            have HX' := Lib.hid (box4_bel HX.out HBR.out)
            obtain ⟨c0, c1, c2, c3⟩ := HX'.out.cells
            generalize lastR day ds = LL at *
            by_cases hneg : LL < 0
            · have hE := HE1.out (by omega)
              have q1 : 0 ≤ (day + 1) * gb := Int.mul_nonneg (by omega) (by omega)
              have q2 : (day + 1) * gb ≤ 31 * 100 := Int.mul_le_mul (by omega) (by omega) (by omega) (by omega)
              have HE := Lib.hid hE
              clear hE
              go_wp2
              go_ret
              exact ⟨ret_bool (by rw [HE.out]; first | (simp; done) | rfl), HB.out.trans (HBR.out.mono HB.out.size)⟩
            · have hE := HE2.out (by omega)
              have q1 : 0 ≤ (day - LL + 1) * gb := Int.mul_nonneg (by omega) (by omega)
              have q2 : (day - LL + 1) * gb ≤ 31 * 100 := Int.mul_le_mul (by omega) (by omega) (by omega) (by omega)
              have HE := Lib.hid hE
              clear hE
              go_wp2
              go_ret
              exact ⟨ret_bool (by rw [HE.out]; first | (simp; done) | rfl), HB.out.trans (HBR.out.mono HB.out.size)⟩
    | true =>
      obtain ⟨hg8, F, W, rfl, rfl, hkk⟩ := HFF.out rfl
      have HK := Lib.hid hkk
      clear hkk
      go_wp2
      clear d0 d1 d2 d3 d4 d5 hb1 hb2 hc1 hc2 ha1 ha2 p2
      clear c0 c1 c2 c3
      go_loopw [154] (fun i wr => ∃ k : Nat, k ≤ gs.length ∧ i = .int .i64 k ∧ Below wz.heap.size wz wr) (fun i _ => gs.length - (intOf i).toNat)
      case atStart => exact ⟨0, Nat.zero_le _, rfl, Below.refl _ _⟩
      case round =>
        obtain ⟨k, hk, rfl, hb⟩ := hrel
        have HBR := Lib.hid hb
        clear hb
        by_cases hlt : k < gs.length
        · obtain ⟨ad, rfl, k0, k1, k2, k3⟩ := rows4_at (Reads.of_own (own_below HG.out HBR.out)) hlt rfl
          obtain ⟨hdr, hge, hne, heq⟩ := HK.out k hlt
          generalize gs[k] = y at *
          obtain ⟨ya, yb, yc, yd⟩ := y
          simp only at k0 k1 k2 k3 hdr
          generalize leftG (ya, yb, yc, yd) = v at *
          have HDR := Lib.hid hdr
          clear hdr
          have HBY := Lib.hid (Box4.new wr 26 (.int .i64 ya) (.int .i64 yb) (.int .i64 yc) (.int .i64 yd))
          have HAL : Hid (Below wr.heap.size wr (wr.alloc (.cells #[.int .i64 ya, .int .i64 yb, .int .i64 yc, .int .i64 yd] 26))) := Lib.hid ((Below.refl _ _).alloc (Nat.le_refl _) _)
          go_wp2_with fail
          refine (implDaysLeft_any ya yb yc yd _).mono ?_
          rintro e w5 ⟨rfl, hb⟩
          have HBY5 := Lib.hid (box4_bel HBY.out hb)
          have HBR := Lib.hid (HBR.out.trans ((HAL.out.trans (hb.mono HAL.out.size)).mono HBR.out.size))
          rw [HDR.out]
          simp only
          clear hb k0 k1 k2 k3
          obtain ⟨c0, c1, c2, c3⟩ := HBY5.out.cells
          go_wp2_with fail
          clear c0 c1 c2 c3
          refine (specDaysLeft_any ya yb yc yd _).mono ?_
          rintro e w6 ⟨rfl, hb⟩
          have HBR := Lib.hid (HBR.out.trans (hb.mono HBR.out.size))
          rw [HDR.out]
          simp only
          clear hb
          by_cases hkF : k < F
          · have hbq : (v == fw) = false := by rw [beq_eq_false_iff_ne]; exact hne hkF
            have hbk : ((k : Int) == (F : Int)) = false := by rw [beq_eq_false_iff_ne]; omega
            clear hne heq
            go_wp2
            go_roundw
            case rel => exact ⟨k + 1, by omega, by go_num, HBR.out⟩
            case measure => simp [intOf]; omega
          · by_cases hkE : k = F
            · have hvW := heq hkE
              subst hkE hvW
              clear hne heq hge
              go_wp2
              go_roundw
              case rel => exact ⟨k + 1, by omega, by go_num, HBR.out⟩
              case measure => simp [intOf]; omega
            · have hbk : ((k : Int) == (F : Int)) = false := by rw [beq_eq_false_iff_ne]; omega
              clear hne heq
              go_wp2
              go_roundw
              case rel => exact ⟨k + 1, by omega, by go_num, HBR.out⟩
              case measure => simp [intOf]; omega
        · have HBZ := Lib.hid (HB.out.trans (HBR.out.mono HB.out.size))
          have HO := Lib.hid (own_below HO.out HBR.out)
          have HX := Lib.hid (box4_bel HX.out HBR.out)
          have HB := HBZ
          clear HBZ
          obtain ⟨wq3, hwq3⟩ : ∃ wq3, wq3 = wr := ⟨_, rfl⟩
          subst hwq3
          obtain ⟨c0, c1, c2, c3⟩ := HX.out.cells
          cases wo with
          | false =>
            go_wp2
            go_ret
            exact ⟨rfl, HB.out⟩
          | true =>
            obtain ⟨hgb, hd0, hd1, hl0, hl1, he1, he2⟩ := HWF.out rfl
            obtain ⟨⟨hb1, hb2⟩, ⟨hc1, hc2⟩, ⟨ha1, ha2⟩, _⟩ := gearB_true.1 hgb
            clear c0 c1 c2 c3
            have HE1 := Lib.hid he1; have HE2 := Lib.hid he2
            clear he1 he2 hgb
            go_wp2
            go_loopw [30, 210] (fun la i wr => ∃ k : Nat, k ≤ ds.length ∧ i = .int .i64 k ∧ la = .int .i64 (lastR day (ds.take k)) ∧ Below wq3.heap.size wq3 wr) (fun _ i _ => ds.length - (intOf i).toNat)
            case atStart => exact ⟨0, Nat.zero_le _, rfl, rfl, Below.refl _ _⟩
            case round =>
              obtain ⟨k, hk, rfl, rfl, hb⟩ := hrel
              have HBR := Lib.hid hb
              clear hb
              by_cases hlt : k < ds.length
              · obtain ⟨ad, u, rfl, hu, k0⟩ := (Reads.of_own (own_below HO.out HBR.out)).at_ hlt
                have e0 : u = .int .i64 ds[k] := by simp [ints, hlt] at hu; exact hu.symm
                subst e0
                have HTK : Hid (lastR day (ds.take (k + 1)) = if ds[k] ≤ day then ds[k] else lastR day (ds.take k)) := Lib.hid (by rw [List.take_succ_eq_append_getElem hlt, lastR_snoc])
                clear hu
                generalize ds[k] = t at *
                generalize lastR day (ds.take k) = Lk at *
                by_cases htd : t ≤ day
                · have HN : Hid (lastR day (ds.take (k + 1)) = t) := Lib.hid (by rw [HTK.out, if_pos htd])
                  go_wp2
                  go_roundw
                  case rel => exact ⟨k + 1, by omega, by go_num, by rw [HN.out], HBR.out⟩
                  case measure => simp [intOf]; omega
                · have HN : Hid (lastR day (ds.take (k + 1)) = Lk) := Lib.hid (by rw [HTK.out, if_neg htd])
                  go_wp2
                  go_roundw
                  case rel => exact ⟨k + 1, by omega, by go_num, by rw [HN.out], HBR.out⟩
                  case measure => simp [intOf]; omega
              · have e : ds.take k = ds := List.take_of_length_le (by omega)
                rw [e]
                have HX' := Lib.hid (box4_bel HX.out HBR.out)
                obtain ⟨c0, c1, c2, c3⟩ := HX'.out.cells
                generalize lastR day ds = LL at *
                by_cases hneg : LL < 0
                · have hE := HE1.out (by omega)
                  have q1 : 0 ≤ (day + 1) * gb := Int.mul_nonneg (by omega) (by omega)
                  have q2 : (day + 1) * gb ≤ 31 * 100 := Int.mul_le_mul (by omega) (by omega) (by omega) (by omega)
                  have HE := Lib.hid hE
                  clear hE
                  go_wp2
                  go_ret
                  exact ⟨ret_bool (by rw [HE.out]; first | (simp; done) | rfl), HB.out.trans (HBR.out.mono HB.out.size)⟩
                · have hE := HE2.out (by omega)
                  have q1 : 0 ≤ (day - LL + 1) * gb := Int.mul_nonneg (by omega) (by omega)
                  have q2 : (day - LL + 1) * gb ≤ 31 * 100 := Int.mul_le_mul (by omega) (by omega) (by omega) (by omega)
                  have HE := Lib.hid hE
                  clear hE
                  go_wp2
                  go_ret
                  exact ⟨ret_bool (by rw [HE.out]; first | (simp; done) | rfl), HB.out.trans (HBR.out.mono HB.out.size)⟩

end Go.Proofs.Ytjibdabedagghaa
