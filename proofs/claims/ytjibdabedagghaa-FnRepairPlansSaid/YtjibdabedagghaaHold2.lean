/- Contracts of IsRepairPlan of both packages, and the law over them. No conditions. -/
import Derived.Test.YtjibdabedagghaaHold
namespace Go.Proofs.Ytjibdabedagghaa
set_option linter.unusedSimpArgs false
set_option linter.unusedVariables false
open Go.RowKit


set_option maxHeartbeats 2000000 in
theorem specIsRepairPlan_any (A : Option Addr) (n c : Nat) (l : List G4) (days : Int) (B : Option Addr) (m cb : Nat) (P : PL) (w : World) (hn : n ≤ 1000000000) (h : Reads w 4 A n (rows4 l)) (hm : m ≤ 1000000000) (hl : ∀ d ∈ P, d.length ≤ 1000000000) (h' : Reads2 w 1 B m (rowsIntss P)) :
    Calls Try.prog 45 #[.slice A n c, .int .i64 days, .slice B m cb] w fun e w' => e = .returned (.tuple #[.bool (planR l days P).1, .bool (planR l days P).2]) ∧ Below w.heap.size w w' := by
  have HX := Lib.hid (show l.length = n by have := h.1; rw [length_rows4] at this; omega)
  have HY := Lib.hid (show P.length = m by have := h'.len; simpa using this)
  have CG := Lib.hid (fun W (hW : Below w.heap.size w W) => rrGood_any A n c l W hn (h.below hW))
  have cp := fun W (hW : Below w.heap.size w W) => rrPlan_any B m cb P 8 W hm hl ⟨by omega, by omega⟩ (h'.below hW)
  have h87 : (8 : Int) - 1 = 7 := rfl
  simp only [h87] at cp
  have CP := Lib.hid cp
  clear cp h87
  have CQ := Lib.hid (fun W (hW : Below w.heap.size w W) => rrPlan_any B m cb P n W hm hl ⟨by omega, by omega⟩ (h'.below hW))
  cases h1 : goodGears l with
  | false =>
    have hr : planR l days P = (false, false) := by simp [planR, h1]
    rw [hr]
    simp only [h1] at CG
    clear hr h h' hl
    go_enter Try.func45, Try.ntmps45
    go_wp2_with (first | (go_at_call 63; refine (CG.out _ (Below.refl _ _)).mono ?_; rintro e w1 ⟨rfl, hb⟩; have HB := Lib.hid hb; clear hb) | (go_at_call 78; refine (rrDays_any _ _).mono ?_; rintro e w' ⟨rfl, rfl⟩) | (go_at_call 76; (first | (with_reducible refine (CP.out _ HB.out).mono ?_) | (with_reducible refine (CQ.out _ HB.out).mono ?_)); rintro e w2 ⟨rfl, rfl⟩) | (go_at_call 82; refine (CH.out _ HB.out).mono ?_; rintro e w3 ⟨rfl, hb⟩; have HB := Lib.hid (below_then HB.out hb); clear hb))
    go_ret2
    exact ⟨rfl, HB.out⟩
  | true =>
    cases h2 : inB days 0 30 with
    | false =>
      have hr : planR l days P = (false, false) := by simp [planR, h2]
      rw [hr]
      simp only [h1] at CG
      clear hr h h' hl
      go_enter Try.func45, Try.ntmps45
      go_wp2_with (first | (go_at_call 63; refine (CG.out _ (Below.refl _ _)).mono ?_; rintro e w1 ⟨rfl, hb⟩; have HB := Lib.hid hb; clear hb) | (go_at_call 78; refine (rrDays_any _ _).mono ?_; rintro e w' ⟨rfl, rfl⟩) | (go_at_call 76; (first | (with_reducible refine (CP.out _ HB.out).mono ?_) | (with_reducible refine (CQ.out _ HB.out).mono ?_)); rintro e w2 ⟨rfl, rfl⟩) | (go_at_call 82; refine (CH.out _ HB.out).mono ?_; rintro e w3 ⟨rfl, hb⟩; have HB := Lib.hid (below_then HB.out hb); clear hb))
      go_ret2
      exact ⟨rfl, HB.out⟩
    | true =>
      cases h3 : planB 7 P with
      | false =>
        have hr : planR l days P = (false, false) := by simp [planR, h3]
        rw [hr]
        simp only [h1] at CG
        simp only [h3] at CP
        clear hr h h' hl
        go_enter Try.func45, Try.ntmps45
        go_wp2_with (first | (go_at_call 63; refine (CG.out _ (Below.refl _ _)).mono ?_; rintro e w1 ⟨rfl, hb⟩; have HB := Lib.hid hb; clear hb) | (go_at_call 78; refine (rrDays_any _ _).mono ?_; rintro e w' ⟨rfl, rfl⟩) | (go_at_call 76; (first | (with_reducible refine (CP.out _ HB.out).mono ?_) | (with_reducible refine (CQ.out _ HB.out).mono ?_)); rintro e w2 ⟨rfl, rfl⟩) | (go_at_call 82; refine (CH.out _ HB.out).mono ?_; rintro e w3 ⟨rfl, hb⟩; have HB := Lib.hid (below_then HB.out hb); clear hb))
        go_ret2
        exact ⟨rfl, HB.out⟩
      | true =>
        have h8 := goodGears_true.1 h1
        rw [HX.out] at h8
        have hsp := planB_split (hi := (n : Int) - 1) (by omega) P
        rw [h3, Bool.true_and] at hsp
        have CH := Lib.hid (fun W (hW : Below w.heap.size w W) => rrHolds_any A n c l B m cb P W hn (h.below hW) hm hl (h'.below hW) h8.1)
        simp only [hsp] at CQ
        by_cases h4 : (m : Int) = days
        · have h4' : ((m : Int) == days) = true := by simpa using h4
          cases h5 : allP ((n : Int) - 1) P with
          | false =>
            simp only [h5] at CQ
            have hr : planR l days P = (false, true) := by simp [planR, h1, h2, h3, HX.out, h5]
            rw [hr]
            simp only [h1] at CG
            simp only [h3] at CP
            clear h8 hsp h4
            clear hr h h' hl
            go_enter Try.func45, Try.ntmps45
            go_wp2_with (first | (go_at_call 63; refine (CG.out _ (Below.refl _ _)).mono ?_; rintro e w1 ⟨rfl, hb⟩; have HB := Lib.hid hb; clear hb) | (go_at_call 78; refine (rrDays_any _ _).mono ?_; rintro e w' ⟨rfl, rfl⟩) | (go_at_call 76; (first | (with_reducible refine (CP.out _ HB.out).mono ?_) | (with_reducible refine (CQ.out _ HB.out).mono ?_)); rintro e w2 ⟨rfl, rfl⟩) | (go_at_call 82; refine (CH.out _ HB.out).mono ?_; rintro e w3 ⟨rfl, hb⟩; have HB := Lib.hid (below_then HB.out hb); clear hb))
            go_ret2
            exact ⟨rfl, HB.out⟩
          | true =>
            simp only [h5] at CQ
            generalize hgb : holdsL P l 0 = b at *
            have hr : planR l days P = (b, true) := by simp [planR, h1, h2, h3, HX.out, HY.out, h5, h4, hgb]
            rw [hr]
            simp only [h1] at CG
            simp only [h3] at CP
            clear h8 hsp h4 hgb
            clear hr h h' hl
            go_enter Try.func45, Try.ntmps45
            go_wp2_with (first | (go_at_call 63; refine (CG.out _ (Below.refl _ _)).mono ?_; rintro e w1 ⟨rfl, hb⟩; have HB := Lib.hid hb; clear hb) | (go_at_call 78; refine (rrDays_any _ _).mono ?_; rintro e w' ⟨rfl, rfl⟩) | (go_at_call 76; (first | (with_reducible refine (CP.out _ HB.out).mono ?_) | (with_reducible refine (CQ.out _ HB.out).mono ?_)); rintro e w2 ⟨rfl, rfl⟩) | (go_at_call 82; refine (CH.out _ HB.out).mono ?_; rintro e w3 ⟨rfl, hb⟩; have HB := Lib.hid (below_then HB.out hb); clear hb))
            go_ret2
            exact ⟨rfl, HB.out⟩
        · have h4' : ((m : Int) == days) = false := by simpa using h4
          have hr : planR l days P = (false, true) := by simp [planR, h1, h2, h3, HY.out, h4]
          rw [hr]
          simp only [h1] at CG
          simp only [h3] at CP
          clear h8 hsp h4
          clear hr h h' hl
          go_enter Try.func45, Try.ntmps45
          go_wp2_with (first | (go_at_call 63; refine (CG.out _ (Below.refl _ _)).mono ?_; rintro e w1 ⟨rfl, hb⟩; have HB := Lib.hid hb; clear hb) | (go_at_call 78; refine (rrDays_any _ _).mono ?_; rintro e w' ⟨rfl, rfl⟩) | (go_at_call 76; (first | (with_reducible refine (CP.out _ HB.out).mono ?_) | (with_reducible refine (CQ.out _ HB.out).mono ?_)); rintro e w2 ⟨rfl, rfl⟩) | (go_at_call 82; refine (CH.out _ HB.out).mono ?_; rintro e w3 ⟨rfl, hb⟩; have HB := Lib.hid (below_then HB.out hb); clear hb))
          go_ret2
          exact ⟨rfl, HB.out⟩

set_option maxHeartbeats 4000000 in
theorem implIsRepairPlan_any (A : Option Addr) (n c : Nat) (l : List G4) (days : Int) (B : Option Addr) (m cb : Nat) (P : PL) (w : World) (hn : n ≤ 1000000000) (h : Reads w 4 A n (rows4 l)) (hm : m ≤ 1000000000) (hl : ∀ d ∈ P, d.length ≤ 1000000000) (h' : Reads2 w 1 B m (rowsIntss P)) :
    Calls Try.prog 46 #[.slice A n c, .int .i64 days, .slice B m cb] w fun e w' => e = .returned (.tuple #[.bool (planR l days P).1, .bool (planR l days P).2]) ∧ Below w.heap.size w w' := by
  have HX := Lib.hid (show l.length = n by have := h.1; rw [length_rows4] at this; omega)
  have HY := Lib.hid (show P.length = m by have := h'.len; simpa using this)
  have CG := Lib.hid (fun W (hW : Below w.heap.size w W) => areGears_any A n c l W hn (h.below hW))
  have CP := Lib.hid (fun W (hW : Below w.heap.size w W) => isPlan_any B m cb P W hm hl (h'.below hW))
  have CA := Lib.hid (fun W (hW : Below w.heap.size w W) => gearsPlanned_any A n c B m cb P W hn hm hl (h'.below hW))
  cases h1 : goodGears l with
  | false =>
    have hr : planR l days P = (false, false) := by simp [planR, h1]
    rw [hr]
    clear hr
    simp only [h1] at CG
    clear h h' hl
    go_enter Try.func46, Try.ntmps46
    go_wp2_with (first | (go_at_call 21; refine (CG.out _ (Below.refl _ _)).mono ?_; rintro e w1 ⟨rfl, hb⟩; have HB := Lib.hid hb; clear hb) | (go_at_call 77; refine (CP.out _ HB.out).mono ?_; rintro e w2 ⟨rfl, hb⟩; have HB := Lib.hid (below_then HB.out hb); clear hb) | (go_at_call 73; refine (within_any _ _ _ _).mono ?_; rintro e w' ⟨rfl, rfl⟩) | (go_at_call 81; refine (CA.out _ HB.out).mono ?_; rintro e w3 ⟨rfl, hb⟩; have HB := Lib.hid (below_then HB.out hb); clear hb))
    go_ret2
    exact ⟨rfl, HB.out⟩
  | true =>
    cases h2 : inB days 0 30 with
    | false =>
      have hr : planR l days P = (false, false) := by simp [planR, h2]
      rw [hr]
      clear hr
      simp only [h1] at CG
      clear h h' hl
      go_enter Try.func46, Try.ntmps46
      go_wp2_with (first | (go_at_call 21; refine (CG.out _ (Below.refl _ _)).mono ?_; rintro e w1 ⟨rfl, hb⟩; have HB := Lib.hid hb; clear hb) | (go_at_call 77; refine (CP.out _ HB.out).mono ?_; rintro e w2 ⟨rfl, hb⟩; have HB := Lib.hid (below_then HB.out hb); clear hb) | (go_at_call 73; refine (within_any _ _ _ _).mono ?_; rintro e w' ⟨rfl, rfl⟩) | (go_at_call 81; refine (CA.out _ HB.out).mono ?_; rintro e w3 ⟨rfl, hb⟩; have HB := Lib.hid (below_then HB.out hb); clear hb))
      go_ret2
      exact ⟨rfl, HB.out⟩
    | true =>
      cases h3 : planB 7 P with
      | false =>
        have hr : planR l days P = (false, false) := by simp [planR, h3]
        rw [hr]
        clear hr
        simp only [h1] at CG
        simp only [h3] at CP
        clear h h' hl
        go_enter Try.func46, Try.ntmps46
        go_wp2_with (first | (go_at_call 21; refine (CG.out _ (Below.refl _ _)).mono ?_; rintro e w1 ⟨rfl, hb⟩; have HB := Lib.hid hb; clear hb) | (go_at_call 77; refine (CP.out _ HB.out).mono ?_; rintro e w2 ⟨rfl, hb⟩; have HB := Lib.hid (below_then HB.out hb); clear hb) | (go_at_call 73; refine (within_any _ _ _ _).mono ?_; rintro e w' ⟨rfl, rfl⟩) | (go_at_call 81; refine (CA.out _ HB.out).mono ?_; rintro e w3 ⟨rfl, hb⟩; have HB := Lib.hid (below_then HB.out hb); clear hb))
        go_ret2
        exact ⟨rfl, HB.out⟩
      | true =>
        have h8 := goodGears_true.1 h1
        rw [HX.out] at h8
        have HGG := Lib.hid h8.1
        have hn8 := h8.2
        by_cases h4 : (m : Int) = days
        · have h4' : ((m : Int) != days) = false := by simpa using h4
          cases h5 : allP ((n : Int) - 1) P with
          | false =>
            simp only [h5] at CA
            have hr : planR l days P = (false, true) := by simp [planR, h1, h2, h3, HX.out, h5]
            rw [hr]
            clear hr
            simp only [h1] at CG
            simp only [h3] at CP
            clear h8 h4
            clear h h' hl
            go_enter Try.func46, Try.ntmps46
            go_wp2_with (first | (go_at_call 21; refine (CG.out _ (Below.refl _ _)).mono ?_; rintro e w1 ⟨rfl, hb⟩; have HB := Lib.hid hb; clear hb) | (go_at_call 77; refine (CP.out _ HB.out).mono ?_; rintro e w2 ⟨rfl, hb⟩; have HB := Lib.hid (below_then HB.out hb); clear hb) | (go_at_call 73; refine (within_any _ _ _ _).mono ?_; rintro e w' ⟨rfl, rfl⟩) | (go_at_call 81; refine (CA.out _ HB.out).mono ?_; rintro e w3 ⟨rfl, hb⟩; have HB := Lib.hid (below_then HB.out hb); clear hb))
            go_ret2
            exact ⟨rfl, HB.out⟩
          | true =>
            simp only [h5] at CA
            have H0 := Lib.hid h
            have H0' := Lib.hid h'
            have HL := Lib.hid hl
            have hr : planR l days P = (holdsL P l 0, true) := by simp [planR, h1, h2, h3, HX.out, HY.out, h5, h4]
            rw [hr]
            clear hr
            simp only [h1] at CG
            simp only [h3] at CP
            clear h8 h4
            clear h h' hl
            go_enter Try.func46, Try.ntmps46
            go_wp2_with (first | (go_at_call 21; refine (CG.out _ (Below.refl _ _)).mono ?_; rintro e w1 ⟨rfl, hb⟩; have HB := Lib.hid hb; clear hb) | (go_at_call 77; refine (CP.out _ HB.out).mono ?_; rintro e w2 ⟨rfl, hb⟩; have HB := Lib.hid (below_then HB.out hb); clear hb) | (go_at_call 73; refine (within_any _ _ _ _).mono ?_; rintro e w' ⟨rfl, rfl⟩) | (go_at_call 81; refine (CA.out _ HB.out).mono ?_; rintro e w3 ⟨rfl, hb⟩; have HB := Lib.hid (below_then HB.out hb); clear hb))
            go_loopw [38] (fun i wr => ∃ k : Nat, k ≤ n ∧ i = .int .i64 k ∧ holdsL P (l.drop k) (k : Int) = holdsL P l 0 ∧ Below w.heap.size w wr) (fun i _ => n - (intOf i).toNat)
            case atStart => exact ⟨0, Nat.zero_le _, rfl, rfl, HB.out⟩
            case round =>
              obtain ⟨k, hk, rfl, hrel, hb⟩ := hrel
              have HR := Lib.hid hrel; clear hrel
              have HBO := Lib.hid hb; clear hb
              obtain ⟨wo, rfl⟩ : ∃ wo, wo = wr := ⟨_, rfl⟩
              by_cases hlt : k < n
              · obtain ⟨ag, rfl, k0, k1, k2, k3⟩ := rows4_at (H0.out.below HBO.out) hlt HX.out
                have hx : k < l.length := by rw [HX.out]; exact hlt
                have HD := Lib.hid (drop_cons hx)
                have hgk := HGG.out l[k] (List.getElem_mem hx)
                generalize l[k] = gx at *
                obtain ⟨a, b, c4, d4⟩ := gx
                obtain ⟨⟨hb1, hb2⟩, ⟨hc1, hc2⟩, ⟨ha1, ha2⟩, _⟩ := gearB_true.1 hgk
                simp only at hb1 hb2 hc1 hc2 ha1 ha2 k0 k1 k2 k3
                have HNX : Hid (holdsL P l 0 = if holdsG (k : Int) b c4 a P then holdsL P (l.drop (k + 1)) ((k + 1 : Nat) : Int) else false) := Lib.hid (by rw [← HR.out, HD.out]; simp [holdsL])
                have HBS : Hid (Below w.heap.size w (wo.alloc (.cells #[.int .i64 a, .int .i64 b, .int .i64 c4, .int .i64 d4] 26))) := Lib.hid (HBO.out.trans (((Below.refl _ _).alloc (Nat.le_refl _) _).mono HBO.out.size))
                have HB4 := Lib.hid (Box4.new wo 26 (.int .i64 a) (.int .i64 b) (.int .i64 c4) (.int .i64 d4))
                clear HD hgk
                go_wp2
                clear k0 k1 k2 k3
                generalize (wo.alloc (.cells #[.int .i64 a, .int .i64 b, .int .i64 c4, .int .i64 d4] 26)) = ws at *
                obtain ⟨x0, x1, x2, x3⟩ := HB4.out.cells
                have HPW := Lib.hid (H0'.out.below HBS.out)
                go_loop [10, 47] (fun s i => ∃ j : Nat, ∃ q : Int, j ≤ m ∧ i = .int .i64 j ∧ s = .int .i64 q ∧ 0 ≤ q ∧ q ≤ c4 ∧ holdsG (k : Int) b c4 q (P.drop j) = holdsG (k : Int) b c4 a P) (fun _ i => m - (intOf i).toNat)
                case atStart => exact ⟨0, a, Nat.zero_le _, rfl, rfl, by omega, by omega, rfl⟩
                case round =>
                  obtain ⟨j, q, hj, rfl, rfl, hq1, hq2, hrel⟩ := hrel
                  have HRI := Lib.hid hrel; clear hrel
                  by_cases hjt : j < m
                  · have hxj : j < P.length := by rw [HY.out]; exact hjt
                    obtain ⟨ad, Ai, ci, rfl, kc, _, _, hr⟩ := HPW.out.row (rowsIntss_get hxj)
                    have HRR := Lib.hid hr; clear hr
                    have HXL := Lib.hid (HL.out P[j] (List.getElem_mem hxj))
                    have HDJ := Lib.hid (drop_cons hxj)
                    generalize P[j] = dd at *
                    simp only [length_ints] at kc HRR
                    have CHs := Lib.hid (slContains_any Ai dd.length ci dd (k : Int) ws HXL.out HRR.out)
                    have HSTEP : Hid (holdsG (k : Int) b c4 a P = if c4 < (if hasB dd (k : Int) = true then 0 else q) + b then false else holdsG (k : Int) b c4 ((if hasB dd (k : Int) = true then 0 else q) + b) (P.drop (j + 1))) := Lib.hid (by rw [← HRI.out, HDJ.out]; rfl)
                    clear HDJ
                    cases hh : hasB dd (k : Int) with
                    | true =>
                      rw [hh] at HSTEP CHs
                      have HST2 : Hid (holdsG (k : Int) b c4 a P = holdsG (k : Int) b c4 b (P.drop (j + 1))) := Lib.hid (by rw [HSTEP.out]; simp; omega)
                      clear HSTEP
                      have hbc : ¬ c4 < b := by omega
                      go_wp2_with (go_at_call 74; refine (CHs.out).mono ?_; rintro e w' ⟨rfl, rfl⟩)
                      go_round
                      case rel => exact ⟨j + 1, b, by omega, by go_num, by first | rfl | go_num | simp, by omega, by omega, by rw [HST2.out]⟩
                      case measure => simp [intOf]; omega
                    | false =>
                      rw [hh] at HSTEP CHs
                      by_cases hbc : c4 < q + b
                      · have HST2 : Hid (holdsG (k : Int) b c4 a P = false) := Lib.hid (by rw [HSTEP.out]; simp; omega)
                        have HFA : Hid (holdsL P l 0 = false) := Lib.hid (by rw [HNX.out, HST2.out]; simp)
                        clear HSTEP
                        go_wp2_with (go_at_call 74; refine (CHs.out).mono ?_; rintro e w' ⟨rfl, rfl⟩)
                        go_ret2
                        exact ⟨by rw [HFA.out]; rfl, HBS.out⟩
                      · have HST2 : Hid (holdsG (k : Int) b c4 a P = holdsG (k : Int) b c4 (q + b) (P.drop (j + 1))) := Lib.hid (by rw [HSTEP.out]; simp; omega)
                        clear HSTEP
                        go_wp2_with (go_at_call 74; refine (CHs.out).mono ?_; rintro e w' ⟨rfl, rfl⟩)
                        go_round
                        case rel => exact ⟨j + 1, q + b, by omega, by go_num, rfl, by omega, by omega, by rw [HST2.out]⟩
                        case measure => simp [intOf]; omega
                  · have HE := Lib.hid (drop_end (xs := P) (k := j) (by rw [HY.out]; omega))
                    have HOK : Hid (holdsG (k : Int) b c4 a P = true) := Lib.hid (by rw [← HRI.out, HE.out]; rfl)
                    go_wp2
                    go_roundw
                    case rel => exact ⟨k + 1, by omega, by go_num, by rw [HNX.out, HOK.out]; simp, HBS.out⟩
                    case measure => simp [intOf]; omega
              · have HE := Lib.hid (drop_end (xs := l) (k := k) (by rw [HX.out]; omega))
                have HT : Hid (holdsL P l 0 = true) := Lib.hid (by rw [← HR.out, HE.out]; rfl)
                go_wp2
                go_ret2
                exact ⟨by rw [HT.out]; rfl, HBO.out⟩
        · have h4' : ((m : Int) != days) = true := by simpa using h4
          have hr : planR l days P = (false, true) := by simp [planR, h1, h2, h3, HY.out, h4]
          rw [hr]
          clear hr
          simp only [h1] at CG
          simp only [h3] at CP
          clear h8 h4
          clear h h' hl
          go_enter Try.func46, Try.ntmps46
          go_wp2_with (first | (go_at_call 21; refine (CG.out _ (Below.refl _ _)).mono ?_; rintro e w1 ⟨rfl, hb⟩; have HB := Lib.hid hb; clear hb) | (go_at_call 77; refine (CP.out _ HB.out).mono ?_; rintro e w2 ⟨rfl, hb⟩; have HB := Lib.hid (below_then HB.out hb); clear hb) | (go_at_call 73; refine (within_any _ _ _ _).mono ?_; rintro e w' ⟨rfl, rfl⟩) | (go_at_call 81; refine (CA.out _ HB.out).mono ?_; rintro e w3 ⟨rfl, hb⟩; have HB := Lib.hid (below_then HB.out hb); clear hb))
          go_ret2
          exact ⟨rfl, HB.out⟩
set_option maxHeartbeats 4000000 in
set_option maxRecDepth 100000 in
theorem law_FnExactIsRepairPlan (w : World) {v0 v1 v2 : Value} (h0 : IsRows4 w v0) (h1 : IsInt v1) (h2 : IsIntss w v2) :
    Calls Try.prog 11 #[v0, v1, v2] w fun e w' => e = .returned (.bool true) ∧ Below w.heap.size w w' := by
  obtain ⟨A0, n0, c0, xs0, rfl, hnc0, hcm0, _, hr0, _⟩ := h0
  obtain ⟨a1, rfl, _⟩ := h1
  obtain ⟨A2, n2, c2, xs2, rfl, hnc2, hcm2, _, hr2, hin2⟩ := h2
  have HR0 := Lib.hid (hr0); clear hr0
  have HR2 := Lib.hid (hr2); clear hr2
  have HIN2 := Lib.hid hin2; clear hin2
  obtain ⟨s2, hs2⟩ : ∃ s, s = n2 + tot (xs2.map ints) := ⟨_, rfl⟩
  have HS_2 := Lib.hid hs2
  have hs2' : n2 ≤ s2 := by omega
  clear hs2
  by_cases hz0 : n0 ≤ 1048576
  rotate_left
  · go_enter Try.func11, Try.ntmps11
    go_wp2_with fail
    refine (szGearS_bigI A0 n0 c0 _ _ (by omega) (by omega) (by omega) (by omega)).mono ?_
    rintro e w' ⟨rfl, rfl⟩
    go_wp2_with fail
    go_ret
    exact ⟨rfl, (Below.refl _ _)⟩
  by_cases hz2 : n0 + s2 ≤ 1048576
  rotate_left
  · go_enter Try.func11, Try.ntmps11
    go_wp2_with fail
    refine (szGearS_okI A0 n0 c0 _ _ (by omega) (by omega) (by omega) (by omega)).mono ?_
    rintro e w' ⟨rfl, rfl⟩
    go_wp2_with fail
    refine (szIntSS_bigI A2 n2 c2 xs2 _ s2 _ (by omega) (by omega) (by omega) (by omega) HS_2.out (fun x hx => (HIN2.out x hx).1) HR2.out).mono ?_
    rintro e w' ⟨rfl, rfl⟩
    go_wp2_with fail
    go_ret
    exact ⟨rfl, (Below.refl _ _)⟩
  have HLX2 := Lib.hid (bdIntSS (xs := xs2) (n := n2) (s := s2) HS_2.out (by omega))
  obtain ⟨S0, hS0⟩ : ∃ S0, S0 = w := ⟨_, rfl⟩
  have HS0 := Lib.hid hS0
  have BW0 : Hid (Below w.heap.size w S0 ∧ w.heap.size ≤ S0.heap.size) := Lib.hid (by subst hS0; exact ⟨(Below.refl _ _), by simp; try omega⟩)
  rw [← hS0] at HR0
  rw [← hS0] at HR2
  clear hS0
  go_enter Try.func11, Try.ntmps11
  try rw [← HS0.out]
  go_wp2_with fail
  try rw [← HS0.out]
  refine (szGearS_okI A0 n0 c0 _ _ (by omega) (by omega) (by omega) (by omega)).mono ?_
  rintro e w' ⟨rfl, rfl⟩
  try rw [← HS0.out]
  go_wp2_with fail
  try rw [← HS0.out]
  refine (szIntSS_okI A2 n2 c2 xs2 _ s2 _ (by omega) (by omega) (by omega) (by omega) HS_2.out (fun x hx => (HIN2.out x hx).1) HR2.out).mono ?_
  rintro e w' ⟨rfl, rfl⟩
  have BB0 : Hid (Below S0.heap.size S0 S0) := Lib.hid (Below.refl _ _)
  try rw [← HS0.out]
  go_wp2_with fail
  try rw [← HS0.out]
  refine (toGearS_any A0 n0 c0 xs0 S0 (by omega) (HR0.out.below BB0.out)).mono ?_
  rintro e w1 ⟨As0, cs0, rfl, hown, hb⟩
  have Os0_1 := Lib.hid hown; clear hown
  have Ls0 := Lib.hid (own_lt Os0_1.out)
  have B0 := Lib.hid hb; clear hb
  have Z0 := Lib.hid (B0.out.size)
  have BB1 := Lib.hid (BB0.out.trans (B0.out.mono BB0.out.size))
  go_wp2_with fail
  refine (toIntSS_any A2 n2 c2 xs2 w1 (by omega) HLX2.out (HR2.out.below BB1.out)).mono ?_
  rintro e w2 ⟨As2, cs2, hss2, rfl, hown, hb⟩
  have Os2_2 := Lib.hid hown; clear hown
  have B1 := Lib.hid hb; clear hb
  have Z1 := Lib.hid (B1.out.size)
  have BB2 := Lib.hid (BB1.out.trans (B1.out.mono BB1.out.size))
  have Os0_2 := Lib.hid (own_below Os0_1.out B1.out)
  go_wp2_with fail
  refine (specIsRepairPlan_any As0 n0 cs0 xs0 a1 As2 n2 cs2 xs2 w2 (by omega) (Reads.of_own Os0_2.out) (by omega) HLX2.out (Reads2.of_own Os2_2.out)).mono ?_
  rintro e w3 ⟨rfl, hb⟩
  have B2 := Lib.hid hb; clear hb
  have Z2 := Lib.hid (B2.out.size)
  have BB3 := Lib.hid (BB2.out.trans (B2.out.mono BB2.out.size))
  have Os0_3 := Lib.hid (own_below Os0_2.out B2.out)
  have Os2_3 := Lib.hid (Os2_2.out.below B2.out (Nat.le_refl _))
  go_wp2_with fail
  refine (toGearS_any A0 n0 c0 xs0 w3 (by omega) (HR0.out.below BB3.out)).mono ?_
  rintro e w4 ⟨Ax0, cx0, rfl, hown, hb⟩
  have Ox0_4 := Lib.hid hown; clear hown
  have Lx0 := Lib.hid (own_lt Ox0_4.out)
  have B3 := Lib.hid hb; clear hb
  have Z3 := Lib.hid (B3.out.size)
  have BB4 := Lib.hid (BB3.out.trans (B3.out.mono BB3.out.size))
  go_wp2_with fail
  refine (toIntSS_any A2 n2 c2 xs2 w4 (by omega) HLX2.out (HR2.out.below BB4.out)).mono ?_
  rintro e w5 ⟨Ax2, cx2, hsx2, rfl, hown, hb⟩
  have Ox2_5 := Lib.hid hown; clear hown
  have B4 := Lib.hid hb; clear hb
  have Z4 := Lib.hid (B4.out.size)
  have BB5 := Lib.hid (BB4.out.trans (B4.out.mono BB4.out.size))
  have Ox0_5 := Lib.hid (own_below Ox0_4.out B4.out)
  go_wp2_with fail
  refine (implIsRepairPlan_any Ax0 n0 cx0 xs0 a1 Ax2 n2 cx2 xs2 w5 (by omega) (Reads.of_own Ox0_5.out) (by omega) HLX2.out (Reads2.of_own Ox2_5.out)).mono ?_
  rintro e w6 ⟨rfl, hb⟩
  have B5 := Lib.hid hb; clear hb
  have Z5 := Lib.hid (B5.out.size)
  have BB6 := Lib.hid (BB5.out.trans (B5.out.mono BB5.out.size))
  have Ox0_6 := Lib.hid (own_below Ox0_5.out B5.out)
  have Ox2_6 := Lib.hid (Ox2_5.out.below B5.out (Nat.le_refl _))
  go_wp2_with fail
  refine (toGearS_any A0 n0 c0 xs0 w6 (by omega) (HR0.out.below BB6.out)).mono ?_
  rintro e w7 ⟨At0, ct0, rfl, hown, hb⟩
  have Ot0_7 := Lib.hid hown; clear hown
  have Lt0 := Lib.hid (own_lt Ot0_7.out)
  have B6 := Lib.hid hb; clear hb
  have Z6 := Lib.hid (B6.out.size)
  have BB7 := Lib.hid (BB6.out.trans (B6.out.mono BB6.out.size))
  have Ox0_7 := Lib.hid (own_below Ox0_6.out B6.out)
  have Ox2_7 := Lib.hid (Ox2_6.out.below B6.out (by have := Z5.out; omega))
  go_wp2_with fail
  refine (eqGearS_any Ax0 At0 n0 cx0 ct0 xs0 w7 (by omega)  (Reads.of_own Ox0_7.out) (Reads.of_own Ot0_7.out)).mono ?_
  rintro e w8 ⟨rfl, hb⟩
  have B7 := Lib.hid hb; clear hb
  have Z7 := Lib.hid (B7.out.size)
  have BB8 := Lib.hid (BB7.out.trans (B7.out.mono BB7.out.size))
  have Ox0_8 := Lib.hid (own_below Ox0_7.out B7.out)
  have Ox2_8 := Lib.hid (Ox2_7.out.below B7.out (by have := Z5.out; have := Z6.out; omega))
  have Ot0_8 := Lib.hid (own_below Ot0_7.out B7.out)
  go_wp2_with fail
  refine (toIntSS_any A2 n2 c2 xs2 w8 (by omega) HLX2.out (HR2.out.below BB8.out)).mono ?_
  rintro e w9 ⟨At2, ct2, hst2, rfl, hown, hb⟩
  have Ot2_9 := Lib.hid hown; clear hown
  have B8 := Lib.hid hb; clear hb
  have Z8 := Lib.hid (B8.out.size)
  have BB9 := Lib.hid (BB8.out.trans (B8.out.mono BB8.out.size))
  have Ox0_9 := Lib.hid (own_below Ox0_8.out B8.out)
  have Ox2_9 := Lib.hid (Ox2_8.out.below B8.out (by have := Z5.out; have := Z6.out; have := Z7.out; omega))
  go_wp2_with fail
  refine (eqIntSS_any Ax2 At2 n2 cx2 ct2 xs2 w9 (by omega) HLX2.out (Reads2.of_own Ox2_9.out) (Reads2.of_own Ot2_9.out)).mono ?_
  rintro e w10 ⟨rfl, hb⟩
  have B9 := Lib.hid hb; clear hb
  have Z9 := Lib.hid (B9.out.size)
  have BB10 := Lib.hid (BB9.out.trans (B9.out.mono BB9.out.size))
  have Ox0_10 := Lib.hid (own_below Ox0_9.out B9.out)
  have Ox2_10 := Lib.hid (Ox2_9.out.below B9.out (by have := Z5.out; have := Z6.out; have := Z7.out; have := Z8.out; omega))
  have Ot2_10 := Lib.hid (Ot2_9.out.below B9.out (Nat.le_refl _))
  go_wp2_with fail
  go_ret
  first | exact ⟨rfl, BW0.out.1.trans (BB10.out.mono BW0.out.2)⟩ | exact ⟨rfl, BB10.out⟩

end Go.Proofs.Ytjibdabedagghaa
