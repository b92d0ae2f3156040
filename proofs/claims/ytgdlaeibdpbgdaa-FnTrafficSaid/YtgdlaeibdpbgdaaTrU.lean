/- Contract of SharesOf of the implementation, and the law over both. No conditions. -/
import Derived.Test.YtgdlaeibdpbgdaaTrT
import Derived.BigRegion
namespace Go.Proofs.Ytgdlaeibdpbgdaa
set_option linter.unusedSimpArgs false
set_option linter.unusedVariables false
open Go.RowKit


set_option maxHeartbeats 4000000 in
set_option maxRecDepth 100000 in
theorem implSharesOf_any (A : Option Addr) (n cc : Nat) (xs : List Int) (p : Int) (w : World) (hn : n ≤ 1000000000) (h : Reads w 1 A n (ints xs)) :
    Calls Try.prog 38 #[.slice A n cc, .int .i64 p] w (Made2 w 3 1 (sharesR xs p).1.length (ints (sharesR xs p).1) (sharesR xs p).2) := by
  have hlx : xs.length = n := by simpa using h.1
  have CA := Lib.hid (allWithin_any A n cc xs 0 12000 w (by omega) h)
  cases h1 : inB (n : Int) 1 20 with
  | false =>
    have hr : sharesR xs p = ([], false) := by simp [sharesR, hlx, h1]
    rw [hr]
    
    clear hr h
    go_enter Try.func38, Try.ntmps38
    go_wp2_with (first | (go_at_call 51; refine (within_any _ _ _ _).mono ?_; rintro e w' ⟨rfl, rfl⟩) | (go_at_call 68; refine (CA.out).mono ?_; rintro e w' ⟨rfl, rfl⟩))
    go_ret2
    exact ⟨none, 0, rfl, own_start, Below.refl _ _⟩
  | true =>
    have hnb := inB_true.1 h1
    cases h2 : allB 0 12000 xs with
    | false =>
      rw [h2] at CA
      have hr : sharesR xs p = ([], false) := by simp [sharesR, h2]
      rw [hr]
      
      clear hr h
      go_enter Try.func38, Try.ntmps38
      go_wp2_with (first | (go_at_call 51; refine (within_any _ _ _ _).mono ?_; rintro e w' ⟨rfl, rfl⟩) | (go_at_call 68; refine (CA.out).mono ?_; rintro e w' ⟨rfl, rfl⟩))
      go_ret2
      exact ⟨none, 0, rfl, own_start, Below.refl _ _⟩
    | true =>
      rw [h2] at CA
      have hxb := allB_true.1 h2
      have hsb := sumI_bd (l := xs) (b := 12000) hxb
      rw [hlx] at hsb
      cases h3 : inB p 1 1000 with
      | false =>
        have hr : sharesR xs p = ([], false) := by simp [sharesR, h3]
        rw [hr]
        
        clear hr h
        go_enter Try.func38, Try.ntmps38
        go_wp2_with (first | (go_at_call 51; refine (within_any _ _ _ _).mono ?_; rintro e w' ⟨rfl, rfl⟩) | (go_at_call 68; refine (CA.out).mono ?_; rintro e w' ⟨rfl, rfl⟩))
        go_ret2
        exact ⟨none, 0, rfl, own_start, Below.refl _ _⟩
      | true =>
        have hpb := inB_true.1 h3
        by_cases h4 : sumI xs = 0
        · have hr : sharesR xs p = ([], false) := by simp [sharesR, h4]
          rw [hr]
          have HHB : Hid (∀ x ∈ xs, 0 ≤ x ∧ x ≤ 12000) := Lib.hid hxb
          have HHL : Hid (xs.length = n) := Lib.hid hlx
          have HRD := Lib.hid h
          have HSS : Hid (sumI xs = 0) := Lib.hid h4
          clear hr h hxb hlx h2 h4 hsb
          go_enter Try.func38, Try.ntmps38
          go_wp2_with (first | (go_at_call 51; refine (within_any _ _ _ _).mono ?_; rintro e w' ⟨rfl, rfl⟩) | (go_at_call 68; refine (CA.out).mono ?_; rintro e w' ⟨rfl, rfl⟩))
          go_loop [6, 31] (fun sm i => ∃ k : Nat, k ≤ n ∧ i = .int .i64 k ∧ sm = .int .i64 (sumI (xs.take k))) (fun _ i => n - (intOf i).toNat)
          case atStart => exact ⟨0, by omega, rfl, rfl⟩
          case round =>
            obtain ⟨k, hk, rfl, rfl⟩ := hrel
            have hsb := sumI_bd (l := xs.take k) (b := 12000) (fun x hx => HHB.out x (List.mem_of_mem_take hx))
            have hsl : (xs.take k).length = k := by simp [HHL.out]; omega
            rw [hsl] at hsb
            clear hsl
            by_cases hlt : k < n
            · have hx : k < xs.length := by rw [HHL.out]; exact hlt
              obtain ⟨ad, rfl, hc⟩ := HRD.out.2 (by omega)
              have hcell : w.cell? (ad.add k) = some (.int .i64 xs[k]) := hc k _ (by simp [ints, hx])
              have HTK := Lib.hid (sumI_take hx)
              have hxb := HHB.out xs[k] (List.getElem_mem hx)
              clear hc
              generalize xs[k] = x at *
              go_wp2
              go_round
              case rel => exact ⟨k + 1, by omega, by go_num, by rw [HTK.out]⟩
              case measure => simp [intOf]; omega
            · obtain ⟨hkn⟩ : ∃ _ : k = n, True := ⟨by omega, trivial⟩
              rw [take_full (by rw [HHL.out, hkn])] at *
              rw [HSS.out] at *
              go_wp2
              go_ret2
              exact ⟨none, 0, rfl, own_start, Below.refl _ _⟩
        · have h4' : (sumI xs == 0) = false := by simp [h4]
          have hr : sharesR xs p = (sharesOf p xs, true) := by simp [sharesR, hlx, h1, h2, h3, h4]
          rw [hr]
          obtain ⟨hc0, hc1⟩ := hpb
          obtain ⟨hn1, hn20⟩ := hnb
          have hsp : 0 < sumI xs := by omega
          have hs10 : sumI xs ≤ 240000 := by omega
          have HHB : Hid (∀ x ∈ xs, 0 ≤ x ∧ x ≤ 12000) := Lib.hid hxb
          have HST := Lib.hid (ShInv.start (p := p) (ns := xs) hsp (by omega) (by omega) (fun x hx => (hxb x hx).1) (by omega))
          have HFIN : Hid (sharesOf p xs = (shareN (p - sumI (quos p (sumI xs) xs)).toNat (quos p (sumI xs) xs, rests p (sumI xs) xs)).1) := Lib.hid rfl
          have HLB : Hid (0 ≤ p - sumI (quos p (sumI xs) xs)) := Lib.hid (left_bd hsp (by rintro rfl; simp at hlx; omega)).1
          have HHL : Hid (xs.length = n) := Lib.hid hlx
          have HRD := Lib.hid h
          have HQL : Hid ((quos p (sumI xs) xs).length = n) := Lib.hid (by simp [hlx])
          have HR0 : Hid ((rests p (sumI xs) xs).length = n) := Lib.hid (by simp [hlx])
          have HRN : Hid (∀ x ∈ rests p (sumI xs) xs, 0 ≤ x) := Lib.hid (rests_nonneg hsp xs)
          clear hr hsb h hxb hlx h2
          generalize sharesOf p xs = FINAL at *
          obtain ⟨s, hsx⟩ : ∃ s, s = sumI xs := ⟨_, rfl⟩
          rw [← hsx] at hsp hs10 HST HLB HQL HR0 HRN HFIN h4 h4'
          have HSS := Lib.hid hsx.symm
          clear hsx
          have HQG : Hid (∀ (k : Nat) (x : Int), xs[k]? = some x → (quos p s xs)[k]? = some (p * x / s)) := Lib.hid (fun k x hx => by simp [quos, hx])
          have HQB : Hid (∀ x ∈ quos p s xs, 0 ≤ x ∧ x ≤ 3000000) := Lib.hid (fun x hx => by have := HST.out.bd x hx; omega)
          have HRG : Hid (∀ (k : Nat) (x : Int), xs[k]? = some x → (rests p s xs)[k]? = some (p * x % s)) := Lib.hid (fun k x hx => by simp [rests, hx])
          generalize quos p s xs = Q at *
          generalize rests p s xs = R0 at *
          obtain ⟨t0, ht0⟩ : ∃ t0 : Nat, p - sumI Q = (t0 : Int) := ⟨(p - sumI Q).toNat, by have := HLB.out; omega⟩
          rw [ht0] at HST HFIN
          rw [Int.toNat_natCast] at HST HFIN
          have HT0 := Lib.hid ht0
          clear ht0 HLB
          go_enter Try.func38, Try.ntmps38
          go_wp2_with (first | (go_at_call 51; refine (within_any _ _ _ _).mono ?_; rintro e w' ⟨rfl, rfl⟩) | (go_at_call 68; refine (CA.out).mono ?_; rintro e w' ⟨rfl, rfl⟩))
          go_loop [6, 31] (fun sm i => ∃ k : Nat, k ≤ n ∧ i = .int .i64 k ∧ sm = .int .i64 (sumI (xs.take k))) (fun _ i => n - (intOf i).toNat)
          case atStart => exact ⟨0, by omega, rfl, rfl⟩
          case round =>
            obtain ⟨k, hk, rfl, rfl⟩ := hrel
            have hsb := sumI_bd (l := xs.take k) (b := 12000) (fun x hx => HHB.out x (List.mem_of_mem_take hx))
            have hsl : (xs.take k).length = k := by simp [HHL.out]; omega
            rw [hsl] at hsb
            clear hsl
            by_cases hlt : k < n
            · have hx : k < xs.length := by rw [HHL.out]; exact hlt
              obtain ⟨ad, rfl, hc⟩ := HRD.out.2 (by omega)
              have hcell : w.cell? (ad.add k) = some (.int .i64 xs[k]) := hc k _ (by simp [ints, hx])
              have HTK := Lib.hid (sumI_take hx)
              have hxb := HHB.out xs[k] (List.getElem_mem hx)
              clear hc
              generalize xs[k] = x at *
              go_wp2
              go_round
              case rel => exact ⟨k + 1, by omega, by go_num, by rw [HTK.out]⟩
              case measure => simp [intOf]; omega
            · obtain ⟨hkn⟩ : ∃ _ : k = n, True := ⟨by omega, trivial⟩
              rw [take_full (by rw [HHL.out, hkn])] at *
              rw [HSS.out] at *
              go_wp2_with (first | ((fail_if_success (have hq := hown3)); (at_make; refine wpList_mk _ rfl (.tmp 42) (.tmp 42) 22 rfl w.heap.size 3 (.int .i64 0) _ infoInt rfl Try.underlying22 _ _ _ _ n rfl rfl rfl rfl (by omega) (by omega) (by first | exact Nat.le_refl _ | omega | (simp; omega)) ?_; intro w3 hown3 hb3 hz3)) | (at_make; refine wpList_mk _ rfl (.tmp 45) (.tmp 45) 22 rfl w3.heap.size 3 (.int .i64 0) _ infoInt rfl Try.underlying22 _ _ _ _ n rfl rfl rfl rfl (by omega) (by omega) (by first | exact Nat.le_refl _ | omega | (simp; omega)) ?_; intro w4 hown4 hb4 hz4))
              clear hk hlt hkn hsb
              have hg34 : w.heap.size < w3.heap.size := (hown3.lt _ rfl).2
              have ho3 := own_below hown3 hb4
              rw [← mid_start (l := ints Q)] at ho3
              rw [← mid_start (l := ints R0)] at hown4
              have HS5 := Lib.hid (And.intro ho3 (And.intro hown4 (hb3.trans (hb4.mono (by omega)))))
              clear hown3 ho3 hown4 hb3 hb4 hz3 hz4
              generalize hg3 : w.heap.size = g3 at *
              generalize hg4 : w3.heap.size = g4 at *
              go_loopw [11, 50] (fun lf i wr => ∃ k : Nat, k ≤ n ∧ i = .int .i64 k ∧ lf = .int .i64 (p - sumI (Q.take k)) ∧ wr.ownsRow g3 3 1 (.slice (some ⟨g3, 0, none⟩) n n) n ((ints Q).take k ++ List.replicate (n - k) (.int .i64 0)) ∧ wr.ownsRow g4 3 1 (.slice (some ⟨g4, 0, none⟩) n n) n ((ints R0).take k ++ List.replicate (n - k) (.int .i64 0)) ∧ Below g3 w wr) (fun _ i _ => n - (intOf i).toNat)
              case atStart => exact ⟨0, by omega, rfl, by simp [sumI], HS5.out.1, HS5.out.2.1, HS5.out.2.2⟩
              case round =>
                clear HS5
                obtain ⟨k, hk, rfl, rfl, hown, hown', hb⟩ := hrel
                have HBQ := Lib.hid hb; clear hb
                have HO := Lib.hid hown; clear hown
                have HO' := Lib.hid hown'; clear hown'
                have hsb := sumI_bd (l := Q.take k) (b := 3000000) (fun x hx => HQB.out x (List.mem_of_mem_take hx))
                have hsl : (Q.take k).length = k := by simp [HQL.out]; omega
                rw [hsl] at hsb
                clear hsl
                by_cases hlt : k < n
                · have hx : k < xs.length := by rw [HHL.out]; exact hlt
                  obtain ⟨ad, rfl, hc⟩ := (HRD.out.below (by rw [hg3]; exact HBQ.out)).2 (by omega)
                  have hcell : wr.cell? (ad.add k) = some (.int .i64 xs[k]) := hc k _ (by simp [ints, hx])
                  clear hc
                  have hq := HQG.out k xs[k] (List.getElem?_eq_getElem hx)
                  have hr := HRG.out k xs[k] (List.getElem?_eq_getElem hx)
                  have hxb := HHB.out xs[k] (List.getElem_mem hx)
                  have hxq : k < Q.length := by rw [HQL.out]; exact hlt
                  have HTK : Hid (sumI (Q.take (k + 1)) = sumI (Q.take k) + p * xs[k] / s) := Lib.hid (by
                    rw [sumI_take hxq]
                    rw [List.getElem?_eq_getElem hxq] at hq
                    injection hq with hq
                    rw [hq])
                  have hqb := HQB.out _ (List.mem_of_getElem? hq)
                  generalize xs[k] = x at *
                  have hp0 : 0 ≤ p * x := Int.mul_nonneg (by omega) hxb.1
                  have hp1 : p * x ≤ 1000 * 12000 := Int.mul_le_mul hc1 hxb.2 hxb.1 (by omega)
                  have hrb : 0 ≤ p * x % s ∧ p * x % s < s := ⟨Int.emod_nonneg _ (by omega), Int.emod_lt_of_pos _ hsp⟩
                  have hold : wr.cell? ⟨g3, k, none⟩ = some (.int .i64 0) := by
                    rw [HO.out.cellAt k (by omega)]
                    exact mid_get (by simp [HQL.out]) hlt
                  have hold' : wr.cell? ⟨g4, k, none⟩ = some (.int .i64 0) := by
                    rw [HO'.out.cellAt k (by omega)]
                    exact mid_get (by simp [HR0.out]) hlt
                  have hfz : wr.frozen? ⟨g3, k, none⟩ = false := HO.out.frozenAt k
                  have hfz' : wr.frozen? ⟨g4, k, none⟩ = false := HO'.out.frozenAt k
                  have hv1 : IntKind.i64.wrap (p * x) = p * x := IntWalk.i64_in _ (by omega)
                  have hv2 : (p * x).tdiv s = p * x / s := Int.tdiv_eq_ediv_of_nonneg hp0
                  have hv3 : (p * x).tmod s = p * x % s := Int.tmod_eq_emod_of_nonneg hp0
                  have hw1 : IntKind.i64.wrap (p * x / s) = p * x / s := IntWalk.i64_in _ (by omega)
                  have hw2 : IntKind.i64.wrap (p * x % s) = p * x % s := IntWalk.i64_in _ (by omega)
                  generalize p * x / s = qx at *
                  generalize p * x % s = rx at *
                  have hs0 : (s == 0) = false := by simp; omega
                  have hs0' : s ≠ 0 := by omega
                  have hk31 : (k : Int) < n := by omega
                  have hk00 : (0 : Int) ≤ (k : Int) := by omega
                  have hn34 : g3 ≠ g4 := by omega
                  have hn43 : g4 ≠ g3 := by omega
                  have o1 := (HO.out.stored k (.int .i64 qx)).1
                  rw [mid_set (by simp [HQL.out]) hlt (by rw [ints, List.getElem?_map, hq]; rfl)] at o1
                  have o1' := row_setOther (i := k) (u := .int .i64 rx) o1 hn34
                  have o2 := row_setOther (i := k) (u := .int .i64 qx) HO'.out hn43
                  have o2' := (o2.stored k (.int .i64 rx)).1
                  rw [mid_set (by simp [HR0.out]) hlt (by rw [ints, List.getElem?_map, hr]; rfl)] at o2'
                  have hcb : ((wr.setCell ⟨g3, k, none⟩ (.int .i64 qx)).setCell ⟨g4, k, none⟩ (.int .i64 rx)).cell? ⟨g3, k, none⟩ = some (.int .i64 qx) := by
                    rw [o1'.cellAt k (by omega)]
                    rw [List.getElem?_append_left (by simp [HQL.out]; omega), List.getElem?_take_of_lt (by omega), ints, List.getElem?_map, hq]
                    rfl
                  have hold2 : (wr.setCell ⟨g3, k, none⟩ (.int .i64 qx)).cell? ⟨g4, k, none⟩ = some (.int .i64 0) := by
                    rw [World.cell?_setCell_other]
                    · exact hold'
                    · simp <;> omega
                  have hfz2 : (wr.setCell ⟨g3, k, none⟩ (.int .i64 qx)).frozen? ⟨g4, k, none⟩ = false := o2.frozenAt k
                  have HO1 := Lib.hid o1'
                  have HO2 := Lib.hid o2'
                  have HB2 := Lib.hid ((HBQ.out.setCell (p := ⟨g3, k, none⟩) (Nat.le_refl _) (.int .i64 qx)).setCell (p := ⟨g4, k, none⟩) (by show g3 ≤ g4; omega) (.int .i64 rx))
                  clear o1 o1' o2 o2' hq hr
                  go_wp2
                  go_region
                  generalize (wr.setCell ⟨g3, k, none⟩ (.int .i64 qx)).setCell ⟨g4, k, none⟩ (.int .i64 rx) = wb at *
                  go_wp2
                  go_roundw
                  case rel => exact ⟨k + 1, by omega, by go_num, by have := HTK.out; congr 1; omega, HO1.out, HO2.out, below_drew HB2.out⟩
                  case measure => simp [intOf]; omega
                · obtain rfl : k = n := by omega
                  have ho := HO.out
                  have ho' := HO'.out
                  rw [mid_end (by simp [HQL.out])] at ho
                  rw [mid_end (by simp [HR0.out])] at ho'
                  rw [take_full HQL.out] at *
                  rw [HT0.out] at *
                  have HSTART := Lib.hid (And.intro ho (And.intro ho' HBQ.out))
                  have ht30 : t0 ≤ 20 := by have h1 := HST.out.left; have h2 := List.length_filter_le (fun x : Int => decide (0 ≤ x)) R0; rw [HR0.out] at h2; unfold open_ at h1; omega
                  clear ho ho' HO HO' hsb hk hlt HBQ HT0
                  go_wp2_with fail
                  go_loopw [11] (fun lf wr => ∃ t S R, lf = .int .i64 ((t : Nat) : Int) ∧ ShInv p s xs t S R ∧ shareN t (S, R) = shareN t0 (Q, R0) ∧ wr.ownsRow g3 3 1 (.slice (some ⟨g3, 0, none⟩) k k) k (ints S) ∧ wr.ownsRow g4 3 1 (.slice (some ⟨g4, 0, none⟩) k k) k (ints R) ∧ Below g3 w wr) (fun lf _ => (intOf lf).toNat)
                  case atStart => exact ⟨t0, Q, R0, rfl, HST.out, rfl, HSTART.out.1, HSTART.out.2.1, HSTART.out.2.2⟩
                  case round =>
                    clear HSTART
                    obtain ⟨t, S, R, rfl, hinv, hsh, hos, hor, hb⟩ := hrel
                    have HINV := Lib.hid hinv
                    have HSH := Lib.hid hsh; clear hsh
                    have HOS := Lib.hid hos; clear hos
                    have HOR := Lib.hid hor; clear hor
                    have HBB := Lib.hid hb; clear hb
                    have HRL : Hid (R.length = k) := Lib.hid (by rw [hinv.lenR]; exact HHL.out)
                    have HSL : Hid (S.length = k) := Lib.hid (by rw [hinv.lenS]; exact HHL.out)
                    have htl : t ≤ 20 := by have h1 := hinv.left; have h2 := List.length_filter_le (fun x : Int => decide (0 ≤ x)) R; rw [HRL.out] at h2; unfold open_ at h1; omega
                    clear hinv
                    by_cases ht : t = 0
                    · subst ht
                      have HE : Hid (FINAL = S) := Lib.hid (by rw [HFIN.out, ← HSH.out]; rfl)
                      go_wp2
                      go_ret2
                      rw [HE.out]
                      subst hg3
                      refine ⟨some ⟨w.heap.size, 0, none⟩, k, ?_, ?_, HBB.out⟩
                      · show _ = Ending.returned (.tuple #[.slice _ S.length k, .bool true])
                        rw [HSL.out]
                        rfl
                      · have := HOS.out
                        simpa only [HSL.out] using this
                    · obtain ⟨t, rfl⟩ : ∃ t', t = t' + 1 := ⟨t - 1, by omega⟩
                      obtain ⟨hb1, hix, _, hSb, hinv2⟩ := HINV.out.step
                      rw [HHL.out] at hb1
                      have hvb := HINV.out.bd _ (List.mem_of_getElem? hSb)
                      have HI2 : Hid (ShInv p s xs t (S.set (best R) (S.getD (best R) 0 + 1)) (R.set (best R) (-1))) := Lib.hid hinv2
                      have HSH2 : Hid (shareN t (S.set (best R) (S.getD (best R) 0 + 1), R.set (best R) (-1)) = shareN t0 (Q, R0)) := Lib.hid (by rw [← HSH.out]; rfl)
                      have CM := Lib.hid (slicesMax_any (some ⟨g4, 0, none⟩) k k R wr (by omega) (by omega) (Reads.of_own HOR.out))
                      have CI := Lib.hid (slicesIndex_any (some ⟨g4, 0, none⟩) k k R (maxL R) wr (by omega) (Reads.of_own HOR.out))
                      rw [hix] at CI
                      clear hinv2 hix HSH
                      have hSb2 : S[best R]? = some (S.getD (best R) 0) := hSb
                      clear hSb
                      generalize S.getD (best R) 0 = v at *
                      generalize best R = b at *
                      generalize maxL R = mx at *
                      have hbR : b < R.length := by rw [HRL.out]; exact hb1
                      have hb31 : (b : Int) < (k : Int) := by omega
                      have hb00 : (0 : Int) ≤ (b : Int) := by omega
                      have hold3 : wr.cell? ⟨g3, b, none⟩ = some (.int .i64 v) := by
                        rw [HOS.out.cellAt b (by omega)]
                        simp [ints, hSb2]
                      have hfz3 : wr.frozen? ⟨g3, b, none⟩ = false := HOS.out.frozenAt b
                      have HOR3 := Lib.hid (row_setOther (i := b) (u := .int .i64 (v + 1)) HOR.out (show g4 ≠ g3 by omega))
                      have hold4 : (wr.setCell ⟨g3, b, none⟩ (.int .i64 (v + 1))).cell? ⟨g4, b, none⟩ = some (.int .i64 R[b]) := by
                        rw [HOR3.out.cellAt b (by omega)]
                        simp [ints, hbR]
                      have hfz4 : (wr.setCell ⟨g3, b, none⟩ (.int .i64 (v + 1))).frozen? ⟨g4, b, none⟩ = false := HOR3.out.frozenAt b
                      have hs4 := (HOR3.out.stored b (.int .i64 (-1))).1
                      rw [ints_set] at hs4
                      have hs3 := row_setOther (i := b) (u := .int .i64 (-1)) (HOS.out.stored b (.int .i64 (v + 1))).1 (show g3 ≠ g4 by omega)
                      rw [ints_set] at hs3
                      have HS3 := Lib.hid hs3
                      have HS4 := Lib.hid hs4
                      have HB4 := Lib.hid ((HBB.out.setCell (p := ⟨g3, b, none⟩) (Nat.le_refl _) (.int .i64 (v + 1))).setCell (p := ⟨g4, b, none⟩) (by show g3 ≤ g4; omega) (.int .i64 (-1)))
                      clear hs3 hs4 hSb2
                      generalize R[b] = rb at *
                      go_wp2_with (first | (go_at_call 63; refine (CM.out).mono ?_; rintro e w' ⟨rfl, rfl⟩) | (go_at_call 64; refine (CI.out).mono ?_; rintro e w' ⟨rfl, rfl⟩))
                      go_roundw
                      case rel => exact ⟨t, _, _, by go_num, HI2.out, HSH2.out, HS3.out, HS4.out, HB4.out⟩
                      case measure => simp [intOf] <;> omega
set_option maxHeartbeats 4000000 in
set_option maxRecDepth 100000 in
theorem law_FnExactSharesOf (w : World) {v0 v1 : Value} (h0 : IsInts w v0) (h1 : IsInt v1) :
    Calls Try.prog 12 #[v0, v1] w fun e w' => e = .returned (.bool true) ∧ Below w.heap.size w w' := by
  obtain ⟨A0, n0, c0, xs0, rfl, _, _, hr0, _⟩ := h0
  obtain ⟨a1, rfl, _⟩ := h1
  have HR0 := Lib.hid (hr0); clear hr0
  by_cases hn0 : n0 ≤ 1048576
  rotate_left
  · go_enter Try.func12, Try.ntmps12
    go_wp2
    go_ret
    exact ⟨rfl, (Below.refl _ _)⟩
  obtain ⟨S0, hS0⟩ : ∃ S0, S0 = w := ⟨_, rfl⟩
  have HS0 := Lib.hid hS0
  have BW0 : Hid (Below w.heap.size w S0 ∧ w.heap.size ≤ S0.heap.size) := Lib.hid (by subst hS0; exact ⟨(Below.refl _ _), by simp; try omega⟩)
  rw [← hS0] at HR0
  clear hS0
  go_enter Try.func12, Try.ntmps12
  have BB0 : Hid (Below S0.heap.size S0 S0) := Lib.hid (Below.refl _ _)
  try rw [← HS0.out]
  go_wp2_with fail
  try rw [← HS0.out]
  refine (toIntS_any A0 n0 c0 xs0 S0 (by omega) (HR0.out.below BB0.out)).mono ?_
  rintro e w1 ⟨As0, cs0, rfl, hown, hb⟩
  have Os0_1 := Lib.hid hown; clear hown
  have Ls0 := Lib.hid (own_lt Os0_1.out)
  have B0 := Lib.hid hb; clear hb
  have Z0 := Lib.hid (B0.out.size)
  have BB1 := Lib.hid (BB0.out.trans (B0.out.mono BB0.out.size))
  go_wp2_with fail
  refine (specSharesOf_any As0 n0 cs0 xs0 a1 w1 (by omega) (Reads.of_own Os0_1.out)).mono ?_
  rintro e w2 ⟨Aw, cw, rfl, hown, hb⟩
  have Ow_2 := Lib.hid hown; clear hown
  have Lw := Lib.hid (own_lt Ow_2.out)
  have B1 := Lib.hid hb; clear hb
  have Z1 := Lib.hid (B1.out.size)
  have BB2 := Lib.hid (BB1.out.trans (B1.out.mono BB1.out.size))
  have Os0_2 := Lib.hid (own_below Os0_1.out B1.out)
  go_wp2_with fail
  refine (toIntS_any A0 n0 c0 xs0 w2 (by omega) (HR0.out.below BB2.out)).mono ?_
  rintro e w3 ⟨Ax0, cx0, rfl, hown, hb⟩
  have Ox0_3 := Lib.hid hown; clear hown
  have Lx0 := Lib.hid (own_lt Ox0_3.out)
  have B2 := Lib.hid hb; clear hb
  have Z2 := Lib.hid (B2.out.size)
  have BB3 := Lib.hid (BB2.out.trans (B2.out.mono BB2.out.size))
  have Ow_3 := Lib.hid (own_below Ow_2.out B2.out)
  go_wp2_with fail
  refine (implSharesOf_any Ax0 n0 cx0 xs0 a1 w3 (by omega) (Reads.of_own Ox0_3.out)).mono ?_
  rintro e w4 ⟨Ag, cg, rfl, hown, hb⟩
  have Og_4 := Lib.hid hown; clear hown
  have Lg := Lib.hid (own_lt Og_4.out)
  have B3 := Lib.hid hb; clear hb
  have Z3 := Lib.hid (B3.out.size)
  have BB4 := Lib.hid (BB3.out.trans (B3.out.mono BB3.out.size))
  have Ow_4 := Lib.hid (own_below Ow_3.out B3.out)
  have Ox0_4 := Lib.hid (own_below Ox0_3.out B3.out)
  go_wp2_with fail
  refine (eqIntS_any Ag Aw ((sharesR xs0 a1).1).length cg cw (sharesR xs0 a1).1 w4 (by (have := sharesR_len xs0 a1; omega))  (Reads.of_own Og_4.out) (Reads.of_own Ow_4.out)).mono ?_
  rintro e w5 ⟨rfl, hb⟩
  replace hb := below_of_quiet (B := w4.heap.size) hb
  have B4 := Lib.hid hb; clear hb
  have Z4 := Lib.hid (B4.out.size)
  have BB5 := Lib.hid (BB4.out.trans (B4.out.mono BB4.out.size))
  have Ow_5 := Lib.hid (own_below Ow_4.out B4.out)
  have Ox0_5 := Lib.hid (own_below Ox0_4.out B4.out)
  have Og_5 := Lib.hid (own_below Og_4.out B4.out)
  go_wp2_with fail
  refine (toIntS_any A0 n0 c0 xs0 w5 (by omega) (HR0.out.below BB5.out)).mono ?_
  rintro e w6 ⟨At0, ct0, rfl, hown, hb⟩
  have Ot0_6 := Lib.hid hown; clear hown
  have Lt0 := Lib.hid (own_lt Ot0_6.out)
  have B5 := Lib.hid hb; clear hb
  have Z5 := Lib.hid (B5.out.size)
  have BB6 := Lib.hid (BB5.out.trans (B5.out.mono BB5.out.size))
  have Ow_6 := Lib.hid (own_below Ow_5.out B5.out)
  have Ox0_6 := Lib.hid (own_below Ox0_5.out B5.out)
  have Og_6 := Lib.hid (own_below Og_5.out B5.out)
  go_wp2_with fail
  refine (eqIntS_any Ax0 At0 n0 cx0 ct0 xs0 w6 (by omega)  (Reads.of_own Ox0_6.out) (Reads.of_own Ot0_6.out)).mono ?_
  rintro e w7 ⟨rfl, hb⟩
  replace hb := below_of_quiet (B := w6.heap.size) hb
  have B6 := Lib.hid hb; clear hb
  have Z6 := Lib.hid (B6.out.size)
  have BB7 := Lib.hid (BB6.out.trans (B6.out.mono BB6.out.size))
  have Ow_7 := Lib.hid (own_below Ow_6.out B6.out)
  have Ox0_7 := Lib.hid (own_below Ox0_6.out B6.out)
  have Og_7 := Lib.hid (own_below Og_6.out B6.out)
  have Ot0_7 := Lib.hid (own_below Ot0_6.out B6.out)
  go_wp2_with fail
  refine (markIntS_any Ax0 n0 cx0 (1) _ _ w7 (by omega) Ox0_7.out).mono ?_
  rintro e w8 ⟨rfl, hown, hg⟩
  have hT := Turned.of_mark hg Ox0_7.out Lx0.out; clear hg
  have T7 := Lib.hid hT; clear hT
  have Ox0_8 := Lib.hid hown; clear hown
  have Z7 := Lib.hid T7.out.size
  have BB8 := Lib.hid (below_turned BB7.out T7.out (by have := Z0.out; have := Z1.out; omega) BB7.out.size)
  have Ow_8 := Lib.hid (row_turned_after Ow_7.out T7.out Lw.out (Nat.le_refl _))
  have Og_8 := Lib.hid (row_turned_before Og_7.out T7.out (Nat.le_refl _))
  go_wp2_with fail
  refine (eqIntS_any Ag Aw ((sharesR xs0 a1).1).length cg cw (sharesR xs0 a1).1 w8 (by (have := sharesR_len xs0 a1; omega))  (Reads.of_own Og_8.out) (Reads.of_own Ow_8.out)).mono ?_
  rintro e w9 ⟨rfl, hb⟩
  replace hb := below_of_quiet (B := w8.heap.size) hb
  have B8 := Lib.hid hb; clear hb
  have Z8 := Lib.hid (B8.out.size)
  have BB9 := Lib.hid (BB8.out.trans (B8.out.mono BB8.out.size))
  have Ow_9 := Lib.hid (own_below Ow_8.out B8.out)
  have Ox0_9 := Lib.hid (own_below Ox0_8.out B8.out)
  have Og_9 := Lib.hid (own_below Og_8.out B8.out)
  go_wp2_with fail
  refine (markIntS_any Ag ((sharesR xs0 a1).1).length cg (1) _ _ w9 (by (have := sharesR_len xs0 a1; omega)) Og_9.out).mono ?_
  rintro e w10 ⟨rfl, hown, hg⟩
  have hT := Turned.of_mark hg Og_9.out Lg.out; clear hg
  have T9 := Lib.hid hT; clear hT
  have Og_10 := Lib.hid hown; clear hown
  have Z9 := Lib.hid T9.out.size
  have BB10 := Lib.hid (below_turned BB9.out T9.out (by have := Z0.out; have := Z1.out; have := Z2.out; omega) BB9.out.size)
  have Ow_10 := Lib.hid (row_turned_after Ow_9.out T9.out Lw.out (by have := Z2.out; omega))
  go_wp2_with fail
  refine (heldIntS_any Ag ((sharesR xs0 a1).1).length cg (1) w10 (by (have := sharesR_len xs0 a1; omega)) (Reads.of_own Og_10.out)).mono ?_
  rintro e w11 ⟨rfl, hb⟩
  subst hb
  go_wp2_with fail
  refine (toIntS_any A0 n0 c0 xs0 w10 (by omega) (HR0.out.below BB10.out)).mono ?_
  rintro e w11 ⟨Ay0, cy0, rfl, hown, hb⟩
  have Oy0_11 := Lib.hid hown; clear hown
  have Ly0 := Lib.hid (own_lt Oy0_11.out)
  have B10 := Lib.hid hb; clear hb
  have Z10 := Lib.hid (B10.out.size)
  have BB11 := Lib.hid (BB10.out.trans (B10.out.mono BB10.out.size))
  have Ow_11 := Lib.hid (own_below Ow_10.out B10.out)
  have Og_11 := Lib.hid (own_below Og_10.out B10.out)
  go_wp2_with fail
  refine (implSharesOf_any Ay0 n0 cy0 xs0 a1 w11 (by omega) (Reads.of_own Oy0_11.out)).mono ?_
  rintro e w12 ⟨Ah, ch, rfl, hown, hb⟩
  have Oh_12 := Lib.hid hown; clear hown
  have Lh := Lib.hid (own_lt Oh_12.out)
  have B11 := Lib.hid hb; clear hb
  have Z11 := Lib.hid (B11.out.size)
  have BB12 := Lib.hid (BB11.out.trans (B11.out.mono BB11.out.size))
  have Ow_12 := Lib.hid (own_below Ow_11.out B11.out)
  have Og_12 := Lib.hid (own_below Og_11.out B11.out)
  have Oy0_12 := Lib.hid (own_below Oy0_11.out B11.out)
  go_wp2_with fail
  refine (eqIntS_any Ah Aw ((sharesR xs0 a1).1).length ch cw (sharesR xs0 a1).1 w12 (by (have := sharesR_len xs0 a1; omega))  (Reads.of_own Oh_12.out) (Reads.of_own Ow_12.out)).mono ?_
  rintro e w13 ⟨rfl, hb⟩
  replace hb := below_of_quiet (B := w12.heap.size) hb
  have B12 := Lib.hid hb; clear hb
  have Z12 := Lib.hid (B12.out.size)
  have BB13 := Lib.hid (BB12.out.trans (B12.out.mono BB12.out.size))
  have Ow_13 := Lib.hid (own_below Ow_12.out B12.out)
  have Og_13 := Lib.hid (own_below Og_12.out B12.out)
  have Oh_13 := Lib.hid (own_below Oh_12.out B12.out)
  go_wp2_with fail
  refine (heldIntS_any Ag ((sharesR xs0 a1).1).length cg (1) w13 (by (have := sharesR_len xs0 a1; omega)) (Reads.of_own Og_13.out)).mono ?_
  rintro e w14 ⟨rfl, hb⟩
  subst hb
  go_wp2_with fail
  go_ret
  first | exact ⟨rfl, BW0.out.1.trans (BB13.out.mono BW0.out.2)⟩ | exact ⟨rfl, BB13.out⟩

end Go.Proofs.Ytgdlaeibdpbgdaa
