/- Contract of SharesOf of the spec: the walk. No conditions. -/
import Derived.Test.YtgdlaeibdpbgdaaTrS
import Derived.Test.YtgdlaeibdpbgdaaTail
namespace Go.Proofs.Ytgdlaeibdpbgdaa
set_option linter.unusedSimpArgs false
set_option linter.unusedVariables false
open Go.RowKit


set_option maxHeartbeats 4000000 in
set_option maxRecDepth 100000 in
theorem specSharesOf_any (A : Option Addr) (n cc : Nat) (xs : List Int) (p : Int) (w : World) (hn : n ≤ 1000000000) (h : Reads w 1 A n (ints xs)) :
    Calls Try.prog 37 #[.slice A n cc, .int .i64 p] w (Made2 w 3 1 (sharesR xs p).1.length (ints (sharesR xs p).1) (sharesR xs p).2) := by
  have hlx : xs.length = n := by simpa using h.1
  have CA := Lib.hid (l1All_any A n cc xs 0 12000 w (by omega) h)
  cases h1 : inB (n : Int) 1 20 with
  | false =>
    have hr : sharesR xs p = ([], false) := by simp [sharesR, hlx, h1]
    rw [hr]
    
    clear hr h
    go_enter Try.func37, Try.ntmps37
    go_wp2_with (first | (go_at_call 48; refine (l1In_any _ _ _ _).mono ?_; rintro e w' ⟨rfl, rfl⟩) | (go_at_call 55; refine (CA.out).mono ?_; rintro e w' ⟨rfl, rfl⟩) | (go_at_call 49; refine (CS.out).mono ?_; rintro e w' ⟨rfl, rfl⟩))
    go_ret2
    exact ⟨none, 0, rfl, own_start, Below.refl _ _⟩
  | true =>
    have hnb := inB_true.1 h1
    cases h2 : allB 0 12000 xs with
    | false =>
      rw [h2] at CA
      have hr : sharesR xs p = ([], false) := by simp [sharesR, h2]
      rw [hr]
      
      clear hr h
      go_enter Try.func37, Try.ntmps37
      go_wp2_with (first | (go_at_call 48; refine (l1In_any _ _ _ _).mono ?_; rintro e w' ⟨rfl, rfl⟩) | (go_at_call 55; refine (CA.out).mono ?_; rintro e w' ⟨rfl, rfl⟩) | (go_at_call 49; refine (CS.out).mono ?_; rintro e w' ⟨rfl, rfl⟩))
      go_ret2
      exact ⟨none, 0, rfl, own_start, Below.refl _ _⟩
    | true =>
      rw [h2] at CA
      have hxb := allB_true.1 h2
      have CS := Lib.hid (trSum_any A n cc xs w (by omega) h (fun x hx => by have := hxb x hx; omega))
      rw [sumL_sumI] at CS
      have hsb := sumI_bd (l := xs) (b := 12000) hxb
      rw [hlx] at hsb
      cases h3 : inB p 1 1000 with
      | false =>
        have hr : sharesR xs p = ([], false) := by simp [sharesR, h3]
        rw [hr]
        
        clear hr h
        go_enter Try.func37, Try.ntmps37
        go_wp2_with (first | (go_at_call 48; refine (l1In_any _ _ _ _).mono ?_; rintro e w' ⟨rfl, rfl⟩) | (go_at_call 55; refine (CA.out).mono ?_; rintro e w' ⟨rfl, rfl⟩) | (go_at_call 49; refine (CS.out).mono ?_; rintro e w' ⟨rfl, rfl⟩))
        go_ret2
        exact ⟨none, 0, rfl, own_start, Below.refl _ _⟩
      | true =>
        have hpb := inB_true.1 h3
        by_cases h4 : sumI xs = 0
        · have h4' : (sumI xs == 0) = true := by simp [h4]
          have hr : sharesR xs p = ([], false) := by simp [sharesR, h4]
          rw [hr]
          clear hr h
          generalize sumI xs = s at *
          go_enter Try.func37, Try.ntmps37
          go_wp2_with (first | (go_at_call 48; refine (l1In_any _ _ _ _).mono ?_; rintro e w' ⟨rfl, rfl⟩) | (go_at_call 55; refine (CA.out).mono ?_; rintro e w' ⟨rfl, rfl⟩) | (go_at_call 49; refine (CS.out).mono ?_; rintro e w' ⟨rfl, rfl⟩))
          go_ret2
          exact ⟨none, 0, rfl, own_start, Below.refl _ _⟩
        · have h4' : (sumI xs == 0) = false := by simp [h4]
          have hr : sharesR xs p = (sharesOf p xs, true) := by simp [sharesR, hlx, h1, h2, h3, h4]
          rw [hr]
          obtain ⟨hc0, hc1⟩ := hpb
          obtain ⟨hn1, hn20⟩ := hnb
          have hsp : 0 < sumI xs := by omega
          have hs10 : sumI xs ≤ 240000 := by omega
          have HHB : Hid (∀ x ∈ xs, 0 ≤ x ∧ x ≤ 12000) := Lib.hid hxb
          have HST := Lib.hid (ShInv.start (p := p) (ns := xs) hsp (by omega) (by omega) (fun x hx => (hxb x hx).1) (by omega))
          have HFIN : Hid (sharesOf p xs = (shareN (p - sumI (quos p (sumI xs) xs)).toNat (quos p (sumI xs) xs, rests p (sumI xs) xs)).1) := Lib.hid rfl
          have HLB : Hid (0 ≤ p - sumI (quos p (sumI xs) xs)) := Lib.hid (left_bd hsp (by rintro rfl; simp at hlx; omega)).1
          have HHL : Hid (xs.length = n) := Lib.hid hlx
          have HRD := Lib.hid h
          have HQL : Hid ((quos p (sumI xs) xs).length = n) := Lib.hid (by simp [hlx])
          have HR0 : Hid ((rests p (sumI xs) xs).length = n) := Lib.hid (by simp [hlx])
          have HRN : Hid (∀ x ∈ rests p (sumI xs) xs, 0 ≤ x) := Lib.hid (rests_nonneg hsp xs)
          clear hr hsb h hxb hlx h2
          generalize sharesOf p xs = FINAL at *
          generalize sumI xs = s at *
          have HQG : Hid (∀ (k : Nat) (x : Int), xs[k]? = some x → (quos p s xs)[k]? = some (p * x / s)) := Lib.hid (fun k x hx => by simp [quos, hx])
          have HQB : Hid (∀ x ∈ quos p s xs, 0 ≤ x ∧ x ≤ 3000000) := Lib.hid (fun x hx => by have := HST.out.bd x hx; omega)
          generalize quos p s xs = Q at *
          generalize rests p s xs = R0 at *
          obtain ⟨t0, ht0⟩ : ∃ t0 : Nat, p - sumI Q = (t0 : Int) := ⟨(p - sumI Q).toNat, by have := HLB.out; omega⟩
          rw [ht0] at HST HFIN
          rw [Int.toNat_natCast] at HST HFIN
          have HT0 := Lib.hid ht0
          clear ht0 HLB
          go_enter Try.func37, Try.ntmps37
          go_wp2_with (first | (first | (go_at_call 48; refine (l1In_any _ _ _ _).mono ?_; rintro e w' ⟨rfl, rfl⟩) | (go_at_call 55; refine (CA.out).mono ?_; rintro e w' ⟨rfl, rfl⟩) | (go_at_call 49; refine (CS.out).mono ?_; rintro e w' ⟨rfl, rfl⟩)) | (at_make; refine wpList_mk _ rfl (.tmp 37) (.tmp 37) 22 rfl w.heap.size 3 (.int .i64 0) _ infoInt rfl Try.underlying22 _ _ _ _ n rfl rfl rfl rfl (by omega) (by omega) (by first | exact Nat.le_refl _ | omega | (simp; omega)) ?_; intro w3 hown3 hb3 hz3))
          rw [← mid_start (l := ints Q)] at hown3
          have hg23' : w.heap.size < w3.heap.size := (hown3.lt _ rfl).2
          have HS3 := Lib.hid (And.intro hown3 hb3)
          clear hown3 hb3 hz3 CS CA
          generalize hg2 : w.heap.size = g2 at *
          go_loopw [8, 42] (fun lf i wr => ∃ k : Nat, k ≤ n ∧ i = .int .i64 k ∧ lf = .int .i64 (p - sumI (Q.take k)) ∧ wr.ownsRow g2 3 1 (.slice (some ⟨g2, 0, none⟩) n n) n ((ints Q).take k ++ List.replicate (n - k) (.int .i64 0)) ∧ Below g2 w wr ∧ g2 < wr.heap.size) (fun _ i _ => n - (intOf i).toNat)
          case atStart => exact ⟨0, by omega, rfl, by simp [sumI], HS3.out.1, HS3.out.2, hg23'⟩
          case round =>
            clear HS3
            obtain ⟨k, hk, rfl, rfl, hown, hb, hsz⟩ := hrel
            have HBQ := Lib.hid hb; clear hb
            have HO := Lib.hid hown; clear hown
            have hsb := sumI_bd (l := Q.take k) (b := 3000000) (fun x hx => HQB.out x (List.mem_of_mem_take hx))
            have hsl : (Q.take k).length = k := by simp [HQL.out]; omega
            rw [hsl] at hsb
            clear hsl
            have HRW := Lib.hid (HRD.out.below (by rw [hg2]; exact HBQ.out))
            by_cases hlt : k < n
            · have hx : k < xs.length := by rw [HHL.out]; exact hlt
              obtain ⟨ad, rfl, hc⟩ := HRW.out.2 (by omega)
              have hcell : wr.cell? (ad.add k) = some (.int .i64 xs[k]) := hc k _ (by simp [ints, hx])
              have hq := HQG.out k xs[k] (List.getElem?_eq_getElem hx)
              have hxb := HHB.out xs[k] (List.getElem_mem hx)
              have hxq : k < Q.length := by rw [HQL.out]; exact hlt
              have HTK : Hid (sumI (Q.take (k + 1)) = sumI (Q.take k) + p * xs[k] / s) := Lib.hid (by
                rw [sumI_take hxq]
                rw [List.getElem?_eq_getElem hxq] at hq
                injection hq with hq
                rw [hq])
              have hqb := HQB.out _ (List.mem_of_getElem? hq)
              clear hc
              generalize xs[k] = x at *
              have hp0 : 0 ≤ p * x := Int.mul_nonneg (by omega) hxb.1
              have hp1 : p * x ≤ 1000 * 12000 := Int.mul_le_mul hc1 hxb.2 hxb.1 (by omega)
              have hold : wr.cell? ⟨g2, k, none⟩ = some (.int .i64 0) := by
                rw [HO.out.cellAt k (by omega)]
                exact mid_get (by simp [HQL.out]) hlt
              have hfz : wr.frozen? ⟨g2, k, none⟩ = false := HO.out.frozenAt k
              have hs := (HO.out.stored k (.int .i64 (p * x / s))).1
              rw [mid_set (by simp [HQL.out]) hlt (by rw [ints, List.getElem?_map, hq]; rfl)] at hs
              have HS := Lib.hid hs
              have HB2 := Lib.hid (HBQ.out.setCell (p := ⟨g2, k, none⟩) (Nat.le_refl _) (.int .i64 (p * x / s)))
              clear hs hq
              go_wp2
              go_roundw
              case rel => exact ⟨k + 1, by omega, by go_num, by have := HTK.out; congr 1; omega, HS.out, HB2.out, by have := (HS.out.lt g2 rfl).2; exact this⟩
              case measure => simp [intOf]; omega
            · obtain rfl : k = n := by omega
              have ho := HO.out
              rw [mid_end (by simp [HQL.out])] at ho
              rw [take_full HQL.out] at *
              rw [HT0.out] at *
              obtain ⟨w4, rfl⟩ : ∃ w4, w4 = wr := ⟨_, rfl⟩
              have ht30 : t0 ≤ k := by have h1 := HST.out.left; have h2 := List.length_filter_le (fun x : Int => decide (0 ≤ x)) R0; rw [HR0.out] at h2; unfold open_ at h1; omega
              have HSV : Hid (Served k [] R0) := Lib.hid (Served.start HRN.out)
              have HOQ := Lib.hid (And.intro ho HBQ.out)
              clear ho HO HBQ HT0 hsb hlt HQG HQB HRN
              generalize hg3 : w4.heap.size = g3 at *
              go_wp2_with fail
              go_loopw [8, 11] (fun lf dn wr => ∃ t S R A1 k1 c1 D, lf = .int .i64 ((t : Nat) : Int) ∧ dn = .slice A1 k1 c1 ∧ ShInv p s xs t S R ∧ shareN t (S, R) = shareN t0 (Q, R0) ∧ Served k D R ∧ k1 + t = t0 ∧ wr.ownsRow g2 3 1 (.slice (some ⟨g2, 0, none⟩) k k) k (ints S) ∧ wr.ownsRow g3 3 1 (.slice A1 k1 c1) k1 (ints D) ∧ Below g2 w wr ∧ g3 ≤ wr.heap.size) (fun lf _ _ => (intOf lf).toNat)
              case atStart => exact ⟨t0, Q, R0, none, 0, 0, [], rfl, rfl, HST.out, rfl, HSV.out, by omega, HOQ.out.1, own_start, HOQ.out.2, by omega⟩
              case round =>
                clear HOQ HRW
                obtain ⟨t, S, R, A1, k1, c1, D, rfl, rfl, hinv, hsh, hsv, hk1, hos, hod, hb, hz3⟩ := hrel
                have HINV := Lib.hid hinv
                have HSH := Lib.hid hsh; clear hsh
                have HSV2 := Lib.hid hsv; clear hsv
                have HOS := Lib.hid hos; clear hos
                have HOD := Lib.hid hod; clear hod
                have HBB := Lib.hid hb; clear hb
                have HRL : Hid (R.length = k) := Lib.hid (by rw [hinv.lenR]; exact HHL.out)
                have HSL : Hid (S.length = k) := Lib.hid (by rw [hinv.lenS]; exact HHL.out)
                have htl : t ≤ 20 := by omega
                clear hinv
                have HHR := Lib.hid (HRD.out.below (by rw [hg2]; exact HBB.out))
                obtain ⟨ad, hA1, hHC⟩ := HHR.out.2 (by omega)
                subst hA1
                have HHC := Lib.hid hHC; clear hHC
                by_cases ht : t = 0
                · subst ht
                  have HE : Hid (FINAL = S) := Lib.hid (by rw [HFIN.out, ← HSH.out]; rfl)
                  go_wp2
                  go_ret2
                  rw [HE.out]
                  subst hg2
                  refine ⟨some ⟨w.heap.size, 0, none⟩, k, ?_, ?_, HBB.out⟩
                  · show _ = Ending.returned (.tuple #[.slice _ S.length k, .bool true])
                    rw [HSL.out]
                    rfl
                  · have := HOS.out
                    simpa only [HSL.out] using this
                · obtain ⟨t, rfl⟩ : ∃ t', t = t' + 1 := ⟨t - 1, by omega⟩
                  have HSTEP := Lib.hid HINV.out.step
                  go_wp2
                  obtain ⟨wq, rfl⟩ : ∃ wq, wq = wr := ⟨_, rfl⟩
                  go_loopw [12, 68] (fun b i wr => ∃ q m : Nat, ∃ z : Int, q ≤ k ∧ i = .int .i64 q ∧ b = .int .i64 z ∧ BestN R z q ∧ wr = wq.drewN m) (fun _ i _ => k - (intOf i).toNat)
                  case atStart => exact ⟨0, 0, -1, by omega, rfl, rfl, BestN.start, rfl⟩
                  case round =>
                    obtain ⟨q, dm, z, hq, rfl, rfl, hbest, hwr⟩ := hrel
                    have HWR := Lib.hid hwr; clear hwr
                    have HBE := Lib.hid hbest; clear hbest
                    by_cases hlt : q < k
                    · have hx : q < xs.length := by rw [HHL.out]; exact hlt
                      have hxr : q < R.length := by rw [HRL.out]; exact hlt
                      have eR : R[q]? = some R[q] := List.getElem?_eq_getElem hxr
                      have hcH : wr.cell? (ad.add q) = some (.int .i64 xs[q]) := by rw [HWR.out]; exact HHC.out q _ (by simp [ints, hx])
                      have CH : ∀ m', Calls Try.prog 67 #[.slice A1 k1 c1, .int .i64 q] (wr.drewN m') fun e w' => e = .returned (.bool (hasB D (q : Int))) ∧ wr.drewN m' = w' := fun m' => l1Has_any A1 k1 c1 D q _ (by omega) (by rw [HWR.out]; exact ((Reads.of_own HOD.out).drewN dm).drewN m')
                      rw [HSV2.out q R[q] hlt eR] at CH
                      have hrest := HINV.out.rest q R[q] eR
                      have hxb := HHB.out xs[q] (List.getElem_mem hx)
                      have HER := Lib.hid eR
                      have hn' : ∀ n, xs[q]? = some n → n = xs[q] := fun n h => by rw [List.getElem?_eq_getElem hx] at h; injection h with h; exact h.symm
                      have hrest2 : R[q] = -1 ∨ (0 ≤ R[q] ∧ R[q] = p * xs[q] % s) := by
                        rcases hrest with h | ⟨h0, n, h1, h2⟩
                        · exact .inl h
                        · exact .inr ⟨h0, by rw [h2, hn' n h1]⟩
                      clear hrest hn' eR
                      generalize R[q] = x at *
                      generalize xs[q] = nk at *
                      have hp0 : 0 ≤ p * nk := Int.mul_nonneg (by omega) hxb.1
                      have hp1 : p * nk ≤ 1000 * 12000 := Int.mul_le_mul hc1 hxb.2 hxb.1 (by omega)
                      by_cases hneg : x < 0
                      · have hd : decide (x < 0) = true := by simp [hneg]
                        rw [hd] at CH
                        have CHH := Lib.hid CH
                        clear CH hd hrest2
                        go_wp2
                        go_quiet ((go_at_call 67; exact Calls.quiet_of_same (still_of (CHH.out _))))
                        go_wp2
                        go_roundw
                        case rel => exact ⟨q + 1, _, z, by omega, by go_num, rfl, HBE.out.keep HER.out (.inl hneg), by rw [HWR.out]; first | rfl | exact World.drewN_drewN _ _ _⟩
                        case measure => simp [intOf]; omega
                      · have hd : decide (x < 0) = false := by simp [hneg]
                        rw [hd] at CH
                        have CHH := Lib.hid CH
                        have hxe : x = p * nk % s := by
                          rcases hrest2 with h | h
                          · omega
                          · exact h.2
                        clear CH hd hrest2
                        have hx0 : 0 ≤ x := by omega
                        rcases (show z < 0 ∧ (z = -1) ∨ ∃ m : Nat, z = (m : Int) ∧ m < k ∧ ∃ y, R[m]? = some y ∧ 0 ≤ y from by
                          rcases HBE.out with ⟨h, _⟩ | ⟨m, h, hm, y, hy, h0, _⟩
                          · exact .inl ⟨by omega, h⟩
                          · exact .inr ⟨m, h, by omega, y, hy, h0⟩) with ⟨hz, hze⟩ | ⟨m, rfl, hm, y, hy, hy0⟩
                        · have HXE := Lib.hid hxe
                          have HZE := Lib.hid hze
                          clear hxe hze
                          have hz1 : decide (z < 0) = true := by simp [hz]
                          go_wp2
                          go_quiet ((go_at_call 67; exact Calls.quiet_of_same (still_of (CHH.out _))))
                          go_wp2
                          first | (refine ⟨⟨_, _, _, _, _, _, _, _, _, _, _, _, _, _, _, _, _, _, _, _, _, _, _, _, _, _, _, _, _, _, _, _, _, _, ?rel, rfl⟩, ?measure⟩)
                          case rel => exact ⟨q + 1, _, (q : Int), by omega, by go_num, rfl, HBE.out.take HER.out hx0 (.inl HZE.out), by rw [HWR.out]; first | rfl | exact World.drewN_drewN _ _ _⟩
                          case measure => simp [intOf]; omega
                        · have hmx : m < xs.length := by rw [HHL.out]; exact hm
                          have hcM : wr.cell? (ad.add m) = some (.int .i64 xs[m]) := by rw [HWR.out]; exact HHC.out m _ (by simp [ints, hmx])
                          have hmb := HHB.out xs[m] (List.getElem_mem hmx)
                          have hye : y = p * xs[m] % s := by
                            rcases HINV.out.rest m y hy with h | ⟨_, n, h1, h2⟩
                            · omega
                            · rw [List.getElem?_eq_getElem hmx] at h1
                              injection h1 with h1
                              rw [h2, h1]
                          generalize xs[m] = nm at *
                          have hq0 : 0 ≤ p * nm := Int.mul_nonneg (by omega) hmb.1
                          have hq1 : p * nm ≤ 1000 * 12000 := Int.mul_le_mul hc1 hmb.2 hmb.1 (by omega)
                          have HY := Lib.hid hy
                          have HXE := Lib.hid hxe
                          have HYE := Lib.hid hye
                          clear hy hxe hye
                          have hz1 : decide ((m : Int) < 0) = false := by simp
                          have hm0 : (0 : Int) ≤ (m : Int) := by omega
                          have hm30 : (m : Int) < (k : Int) := by omega
                          have ht1 : (p * nk).tmod s = x := by rw [Int.tmod_eq_emod_of_nonneg hp0, HXE.out]
                          have ht2 : (p * nm).tmod s = y := by rw [Int.tmod_eq_emod_of_nonneg hq0, HYE.out]
                          by_cases hlt2 : y < x
                          · have hdl : decide (y < x) = true := by simp [hlt2]
                            go_wp2
                            go_quiet ((go_at_call 67; exact Calls.quiet_of_same (still_of (CHH.out _))))
                            go_wp2
                            first | (refine ⟨⟨_, _, _, _, _, _, _, _, _, _, _, _, _, _, _, _, _, _, _, _, _, _, _, _, _, _, _, _, _, _, _, _, _, _, ?rel, rfl⟩, ?measure⟩)
                            case rel => exact ⟨q + 1, _, (q : Int), by omega, by go_num, rfl, HBE.out.take HER.out hx0 (.inr ⟨m, rfl, y, HY.out, hlt2⟩), by rw [HWR.out]; first | rfl | exact World.drewN_drewN _ _ _⟩
                            case measure => simp [intOf]; omega
                          · have hdl : decide (y < x) = false := by simp [hlt2]
                            go_wp2
                            go_quiet ((go_at_call 67; exact Calls.quiet_of_same (still_of (CHH.out _))))
                            go_wp2
                            first | (refine ⟨⟨_, _, _, _, _, _, _, _, _, _, _, _, _, _, _, _, _, _, _, _, _, _, _, _, _, _, _, _, _, _, _, _, _, _, ?rel, rfl⟩, ?measure⟩)
                            case rel => exact ⟨q + 1, _, (m : Int), by omega, by go_num, rfl, HBE.out.keep HER.out (.inr ⟨m, rfl, y, HY.out, by omega⟩), by rw [HWR.out]; first | rfl | exact World.drewN_drewN _ _ _⟩
                            case measure => simp [intOf]; omega
                    · obtain rfl : q = k := by omega
                      have hbe : z = (best R : Int) := by
                        have h1 := HBE.out
                        rw [← HRL.out] at h1
                        exact h1.end_ (by have := HINV.out.left; omega)
                      subst hbe
                      obtain ⟨hb1, _, _, hSb, hinv2⟩ := HSTEP.out
                      rw [HHL.out] at hb1
                      have hvb := HINV.out.bd _ (List.mem_of_getElem? hSb)
                      have HI2 : Hid (ShInv p s xs t (S.set (best R) (S.getD (best R) 0 + 1)) (R.set (best R) (-1))) := Lib.hid hinv2
                      have HSH2 : Hid (shareN t (S.set (best R) (S.getD (best R) 0 + 1), R.set (best R) (-1)) = shareN t0 (Q, R0)) := Lib.hid (by rw [← HSH.out]; rfl)
                      have HSV3 : Hid (Served q (D ++ [((best R : Nat) : Int)]) (R.set (best R) (-1))) := Lib.hid (HSV2.out.step (by rw [HRL.out]; exact hb1))
                      obtain ⟨wz, rfl⟩ : ∃ wz, wz = wr := ⟨_, rfl⟩
                      have hwz := HWR.out
                      have HOSz : Hid (wz.ownsRow g2 3 1 (.slice (some ⟨g2, 0, none⟩) q q) q (ints S)) := Lib.hid (by rw [hwz]; exact HOS.out)
                      have hodz : wz.ownsRow g3 3 1 (.slice A1 k1 c1) k1 (ints D) := by rw [hwz]; exact HOD.out
                      have HBBz : Hid (Below g2 w wz) := Lib.hid (by rw [hwz]; exact below_toN HBB.out dm)
                      have hgz : g3 ≤ wz.heap.size := by rw [hwz]; simpa using hz3
                      clear hinv2 hwz HSTEP HBE HSH
                      have hSb2 : S[best R]? = some (S.getD (best R) 0) := hSb
                      clear hSb
                      generalize S.getD (best R) 0 = v at *
                      generalize best R = b at *
                      have hb31 : (b : Int) < (q : Int) := by omega
                      go_wp2_with (at_builtin; refine wpList_push _ rfl (.tmp 99) (.tmp 101) 22 rfl g3 3 (.int .i64 0) 1 8 infoInt rfl (by omega) Try.underlying22 A1 k1 c1 (ints D) rfl (hodz.alloc _) (some ⟨wz.heap.size, 0, none⟩) 1 1 [.int .i64 b] rfl (reads_new _ _ _) (by simp [Value.oneCell']) (by omega) (by omega) (by simp; omega) ?_; intro A' c' w1 hown1 hg1 hb1'; have hbz : Below g3 wz w1 := ((Below.refl _ _).alloc hgz _).trans hb1'; have hos := own_belowAt HOSz.out hsz hbz; have hold2 : w1.cell? ⟨g2, b, none⟩ = some (.int .i64 v) := (by rw [hos.cellAt b (by omega)]; simp [ints, hSb2]); have hfz2 : w1.frozen? ⟨g2, b, none⟩ = false := hos.frozenAt b; have HOS1 := Lib.hid hos; have HBZ := Lib.hid hbz; have HOD1 := Lib.hid hown1; clear hos hbz hown1 hb1')
                      go_roundw
                      case rel =>
                        refine ⟨t, _, _, A', k1 + 1, c', D ++ [(b : Int)], by go_num, rfl, HI2.out, HSH2.out, HSV3.out, by omega, ?_, ?_, ?_, ?_⟩
                        · have h := (HOS1.out.stored b (.int .i64 (v + 1))).1
                          rw [ints_set] at h
                          exact h
                        · have h := own_setCell (b := g2) (i := b) (u := .int .i64 (v + 1)) HOD1.out hsz
                          simpa [ints] using h
                        · exact (HBBz.out.trans (HBZ.out.mono (by omega))).setCell (p := ⟨g2, b, none⟩) (Nat.le_refl _) _
                        · have := HBZ.out.size
                          simp
                          omega
                      case measure => simp [intOf] <;> omega

end Go.Proofs.Ytgdlaeibdpbgdaa
