/- Contract of AreShifts. No conditions. -/
import Derived.Test.YtiofgoppgdgbaaaDoorSh4
namespace Go.Proofs.YtiofgoppgdgbaaaDoor
set_option linter.unusedSimpArgs false
set_option linter.unusedVariables false
open Go.RowKit

theorem okS_of {a b c : Int} (h1 : inB a 1 30 = true) (h2 : 0 ≤ b) (h3 : b < c) (h4 : c ≤ 168) : okS (a, b, c) = true := by
  simp [okS, h1, inB_true]; omega
theorem okS_not1 {a b c : Int} (h : inB a 1 30 = false) : okS (a, b, c) = false := by simp [okS, h]
theorem okS_not {a b c : Int} (h : ¬ (0 ≤ b ∧ b < c ∧ c ≤ 168)) : okS (a, b, c) = false := by
  rw [Bool.eq_false_iff]
  intro ht
  simp [okS, inB_true] at ht
  omega

set_option maxHeartbeats 2000000 in
set_option maxRecDepth 100000 in
theorem areShifts_any (A : Option Addr) (n c : Nat) (l : List S3) (w : World) (hn : n ≤ 1000000000) (hnc : n ≤ c) (h : Reads w 3 A n (rows3 l)) :
    Calls Tryd.prog 34 #[.slice A n c] w fun e w' => e = .returned (.bool (goodShifts l)) ∧ Below w.heap.size w w' := by
  have HX := Lib.hid (show l.length = n by have := h.1; rw [length_rows3] at this; omega)
  have H := Lib.hid h; clear h
  by_cases h60 : n ≤ 60
  rotate_left
  · have HF := Lib.hid (show goodShifts l = false by simp [goodShifts, HX.out, h60])
    go_enter Tryd.func34, Tryd.ntmps34
    go_wp2
    go_ret
    exact ⟨ret_bool HF.out.symm, Below.refl _ _⟩
  go_enter Tryd.func34, Tryd.ntmps34
  go_wp2
  go_loopw [10] (fun i wr => ∃ k : Nat, k ≤ n ∧ i = .int .i64 k ∧ allAt l k = true ∧ Below w.heap.size w wr) (fun i _ => n - (intOf i).toNat)
  case atStart => exact ⟨0, Nat.zero_le _, rfl, rfl, Below.refl _ _⟩
  case round =>
    obtain ⟨wo, rfl⟩ : ∃ wo, wo = wr := ⟨_, rfl⟩
    obtain ⟨k, hk, rfl, hrel, hb⟩ := hrel
    have HR := Lib.hid hrel; clear hrel
    have HB := Lib.hid hb; clear hb
    by_cases hlt : k < n
    · have hx : k < l.length := by rw [HX.out]; exact hlt
      rcases k with _ | j
      · obtain ⟨ad, rfl, k0, k1, k2⟩ := rows3_at (H.out.below HB.out) hlt HX.out
        rw [show ad.add (0 * 3) = ad from by simp [Addr.add]] at k0 k1 k2
        have HOK := Lib.hid (okAt_zero hx)
        generalize hxk : l[0] = x at *
        clear hxk
        obtain ⟨xa, xb, xc⟩ := x
        cases h1 : inB xa 1 30 with
        | false =>
          have HF := Lib.hid (allAt_not (l := l) (k := 0) (by rw [HOK.out, okS_not1 h1] <;> simp) hx)
          go_wp2
          go_quiet (first | (go_at_call 46; exact Calls.quiet_of_same (still_of (within_any _ _ _ _))))
          go_wp2
          go_ret
          exact ⟨ret_bool HF.out.symm, HB.out.trans ((((Below.refl _ _).alloc HB.out.size _).trans (below_toN (Below.refl _ _) _)))⟩
        | true =>
          by_cases h2 : 0 ≤ xb
          rotate_left
          · have h2' : xb < 0 := by omega
            have HF := Lib.hid (allAt_not (l := l) (k := 0) (by rw [HOK.out, okS_not (by omega)] <;> simp) hx)
            go_wp2
            go_quiet (first | (go_at_call 46; exact Calls.quiet_of_same (still_of (within_any _ _ _ _))))
            go_wp2
            go_ret
            exact ⟨ret_bool HF.out.symm, HB.out.trans ((((Below.refl _ _).alloc HB.out.size _).trans (below_toN (Below.refl _ _) _)))⟩
          have d2 : decide (xb < 0) = false := by simpa using h2
          by_cases h3 : xb < xc
          rotate_left
          · have h3' : xc ≤ xb := by omega
            have HF := Lib.hid (allAt_not (l := l) (k := 0) (by rw [HOK.out, okS_not (by omega)] <;> simp) hx)
            go_wp2
            go_quiet (first | (go_at_call 46; exact Calls.quiet_of_same (still_of (within_any _ _ _ _))))
            go_wp2
            go_ret
            exact ⟨ret_bool HF.out.symm, HB.out.trans ((((Below.refl _ _).alloc HB.out.size _).trans (below_toN (Below.refl _ _) _)))⟩
          have d3 : decide (xc ≤ xb) = false := by simpa using h3
          by_cases h4 : xc ≤ 168
          rotate_left
          · have h4' : 168 < xc := by omega
            have HF := Lib.hid (allAt_not (l := l) (k := 0) (by rw [HOK.out, okS_not (by omega)] <;> simp) hx)
            go_wp2
            go_quiet (first | (go_at_call 46; exact Calls.quiet_of_same (still_of (within_any _ _ _ _))))
            go_wp2
            go_ret
            exact ⟨ret_bool HF.out.symm, HB.out.trans ((((Below.refl _ _).alloc HB.out.size _).trans (below_toN (Below.refl _ _) _)))⟩
          have d4 : decide (168 < xc) = false := by simpa using h4
          have HFC : Hid ((l.take 0).any (clash (xa, xb, xc)) = true → goodShifts l = false) := Lib.hid (fun hc => by simp at hc)
          have HTC : Hid ((l.take 0).any (clash (xa, xb, xc)) = false → allAt l (1) = true) := Lib.hid (fun hc => by rw [allAt_succ, HOK.out, HR.out, okS_of h1 h2 h3 h4]; simp)
          go_wp2
          go_quiet (first | (go_at_call 46; exact Calls.quiet_of_same (still_of (within_any _ _ _ _))))
          have HBS : Hid (Below wo.heap.size wo ((wo.alloc (.cells #[.int .i64 xa, .int .i64 xb, .int .i64 xc] 56)).drewN nq)) := Lib.hid (below_toN ((Below.refl _ _).alloc (Nat.le_refl _) _) _)
          have HKS := Lib.hid (box3 (below_toN (Below.refl _ (wo.alloc (.cells #[.int .i64 xa, .int .i64 xb, .int .i64 xc] 56))) nq))
          have CS := Lib.hid (clash_search ad n c 0 l xa xb xc wo.heap.size ((wo.alloc (.cells #[.int .i64 xa, .int .i64 xb, .int .i64 xc] 56)).drewN nq) (by omega) hn ((H.out.below HB.out).below HBS.out) HKS.out.1 HKS.out.2.1)
          cases hcl : (l.take 0).any (clash (xa, xb, xc)) with
          | true =>
            have HF := Lib.hid (HFC.out hcl)
            rw [hcl] at CS
            go_wp2_with fail
            refine (CS.out).mono ?_
            rintro e w2 ⟨rfl, hb2⟩
            go_wp2
            go_ret
            exact ⟨ret_bool HF.out.symm, HB.out.trans ((HBS.out.trans (hb2.mono HBS.out.size)).mono HB.out.size)⟩
          | false =>
            have HT := Lib.hid (HTC.out hcl)
            rw [hcl] at CS
            go_wp2_with fail
            refine (CS.out).mono ?_
            rintro e w2 ⟨rfl, hb2⟩
            have HB2 := Lib.hid hb2; clear hb2
            go_wp2
            go_roundw
            case rel => exact ⟨1, by omega, by go_num, HT.out, HB.out.trans ((HBS.out.trans (HB2.out.mono HBS.out.size)).mono HB.out.size)⟩
            case measure => simp [intOf]; omega
      · obtain ⟨ad, rfl, k0, k1, k2⟩ := rows3_at (H.out.below HB.out) hlt HX.out
        obtain ⟨_, e, j0, j1, j2⟩ := rows3_at (H.out.below HB.out) (show j < n by omega) HX.out
        injection e with e
        subst e
        have HOK := Lib.hid (okAt_succ hx)
        have hj : j < l.length := by omega
        generalize hxk : l[j + 1] = x at *
        generalize hyk : l[j] = y at *
        clear hxk hyk
        obtain ⟨xa, xb, xc⟩ := x
        obtain ⟨ya, yb, yc⟩ := y
        cases h1 : inB xa 1 30 with
        | false =>
          have HF := Lib.hid (allAt_not (l := l) (k := j + 1) (by rw [HOK.out, okS_not1 h1] <;> simp) hx)
          go_wp2
          go_quiet (first | (go_at_call 46; exact Calls.quiet_of_same (still_of (within_any _ _ _ _))))
          go_wp2
          go_ret
          exact ⟨ret_bool HF.out.symm, HB.out.trans ((((Below.refl _ _).alloc HB.out.size _).trans (below_toN (Below.refl _ _) _)))⟩
        | true =>
          by_cases h2 : 0 ≤ xb
          rotate_left
          · have h2' : xb < 0 := by omega
            have HF := Lib.hid (allAt_not (l := l) (k := j + 1) (by rw [HOK.out, okS_not (by omega)] <;> simp) hx)
            go_wp2
            go_quiet (first | (go_at_call 46; exact Calls.quiet_of_same (still_of (within_any _ _ _ _))))
            go_wp2
            go_ret
            exact ⟨ret_bool HF.out.symm, HB.out.trans ((((Below.refl _ _).alloc HB.out.size _).trans (below_toN (Below.refl _ _) _)))⟩
          have d2 : decide (xb < 0) = false := by simpa using h2
          by_cases h3 : xb < xc
          rotate_left
          · have h3' : xc ≤ xb := by omega
            have HF := Lib.hid (allAt_not (l := l) (k := j + 1) (by rw [HOK.out, okS_not (by omega)] <;> simp) hx)
            go_wp2
            go_quiet (first | (go_at_call 46; exact Calls.quiet_of_same (still_of (within_any _ _ _ _))))
            go_wp2
            go_ret
            exact ⟨ret_bool HF.out.symm, HB.out.trans ((((Below.refl _ _).alloc HB.out.size _).trans (below_toN (Below.refl _ _) _)))⟩
          have d3 : decide (xc ≤ xb) = false := by simpa using h3
          by_cases h4 : xc ≤ 168
          rotate_left
          · have h4' : 168 < xc := by omega
            have HF := Lib.hid (allAt_not (l := l) (k := j + 1) (by rw [HOK.out, okS_not (by omega)] <;> simp) hx)
            go_wp2
            go_quiet (first | (go_at_call 46; exact Calls.quiet_of_same (still_of (within_any _ _ _ _))))
            go_wp2
            go_ret
            exact ⟨ret_bool HF.out.symm, HB.out.trans ((((Below.refl _ _).alloc HB.out.size _).trans (below_toN (Below.refl _ _) _)))⟩
          have d4 : decide (168 < xc) = false := by simpa using h4
          have hw2 : IntKind.i64.wrap (j : Int) = (j : Int) := IntWalk.i64_in _ (by omega)
          have hjn : (j : Int) < (n : Int) := by omega
          have CB := Lib.hid (fun W' => compareShifts_any ya yb yc xa xb xc W')
          have hs := cmpS_neg (ya, yb, yc) (xa, xb, xc)
          generalize cmpS (ya, yb, yc) (xa, xb, xc) = s at *
          cases h4b : befS (ya, yb, yc) (xa, xb, xc) with
          | false =>
            have HF := Lib.hid (allAt_not (l := l) (k := j + 1) (by rw [HOK.out]; simp [h4b]) hx)
            have hs0 : 0 ≤ s := by rw [h4b] at hs; simpa using hs
            clear hs
            go_wp2
            have s0 := (World.cell?_alloc_lt wo (.cells #[.int .i64 xa, .int .i64 xb, .int .i64 xc] 56) _ (World.block_lt_of_cell? wo _ j0)).trans j0
            have s1 := (World.cell?_alloc_lt wo (.cells #[.int .i64 xa, .int .i64 xb, .int .i64 xc] 56) _ (World.block_lt_of_cell? wo _ j1)).trans j1
            have s2 := (World.cell?_alloc_lt wo (.cells #[.int .i64 xa, .int .i64 xb, .int .i64 xc] 56) _ (World.block_lt_of_cell? wo _ j2)).trans j2
            clear j0 j1 j2
            refine region_tail 31 (by kernel_rfl) (by kernel_rfl) ?_
            simp only [List.take_succ_cons, List.take_zero, List.drop_succ_cons, List.drop_zero]
            repeat (refine wpStill_step (fun K hK => ?_)
                    go_simp
                    first
                      | (refine hK _ ?_; clear hK K)
                      | (apply Exists.intro
                         refine ⟨?_, hK _ ?_⟩
                         (first | (go_at_call 46; exact still_of (within_any _ _ _ _)))
                         clear hK K))
            refine wpStill_nil ?_
            clear hw2
            go_wp2_with (go_at_call 60; refine (CB.out _).mono ?_; rintro e w1 ⟨rfl, hb1⟩)
            go_ret
            exact ⟨ret_bool HF.out.symm, HB.out.trans (((Below.refl _ _).alloc HB.out.size _).trans ((Below.refl _ _).drew.trans (hb1.mono (by have := HB.out.size; simp; omega))))⟩
          | true =>
            have hs0 : ¬ 0 ≤ s := by rw [h4b] at hs; simpa using hs
            clear hs
            have HFC : Hid ((l.take (j + 1)).any (clash (xa, xb, xc)) = true → goodShifts l = false) := Lib.hid (fun hc => allAt_not (l := l) (k := (j + 1)) (by rw [HOK.out, hc] <;> simp) hx)
            have HTC : Hid ((l.take (j + 1)).any (clash (xa, xb, xc)) = false → allAt l (j + 1 + 1) = true) := Lib.hid (fun hc => by rw [allAt_succ, HOK.out, HR.out, hc, okS_of h1 h2 h3 h4]; simp [h4b])
            go_wp2
            have s0 := (World.cell?_alloc_lt wo (.cells #[.int .i64 xa, .int .i64 xb, .int .i64 xc] 56) _ (World.block_lt_of_cell? wo _ j0)).trans j0
            have s1 := (World.cell?_alloc_lt wo (.cells #[.int .i64 xa, .int .i64 xb, .int .i64 xc] 56) _ (World.block_lt_of_cell? wo _ j1)).trans j1
            have s2 := (World.cell?_alloc_lt wo (.cells #[.int .i64 xa, .int .i64 xb, .int .i64 xc] 56) _ (World.block_lt_of_cell? wo _ j2)).trans j2
            clear j0 j1 j2
            refine region_tail 31 (by kernel_rfl) (by kernel_rfl) ?_
            simp only [List.take_succ_cons, List.take_zero, List.drop_succ_cons, List.drop_zero]
            repeat (refine wpStill_step (fun K hK => ?_)
                    go_simp
                    first
                      | (refine hK _ ?_; clear hK K)
                      | (apply Exists.intro
                         refine ⟨?_, hK _ ?_⟩
                         (first | (go_at_call 46; exact still_of (within_any _ _ _ _)))
                         clear hK K))
            refine wpStill_nil ?_
            clear hw2
            go_wp2_with (go_at_call 60; refine (CB.out _).mono ?_; rintro e w1 ⟨rfl, hb1⟩; have HB1 := Lib.hid hb1; clear hb1; have HBS : Hid (Below wo.heap.size wo w1) := Lib.hid (((Below.refl _ _).alloc (Nat.le_refl _) _).drew.trans (HB1.out.mono (by simp))); have HKS := Lib.hid (box3 (((Below.refl _ (wo.alloc (.cells #[.int .i64 xa, .int .i64 xb, .int .i64 xc] 56))).drew).trans HB1.out)); have CS := Lib.hid (clash_search ad n c (j + 1) l xa xb xc wo.heap.size w1 (by omega) hn ((H.out.below HB.out).below HBS.out) HKS.out.1 HKS.out.2.1); clear s0 s1 s2)
            cases hcl : (l.take (j + 1)).any (clash (xa, xb, xc)) with
            | true =>
              have HF := Lib.hid (HFC.out hcl)
              rw [hcl] at CS
              skip
              refine (CS.out).mono ?_
              rintro e w2 ⟨rfl, hb2⟩
              go_wp2
              go_ret
              exact ⟨ret_bool HF.out.symm, HB.out.trans ((HBS.out.trans (hb2.mono HBS.out.size)).mono HB.out.size)⟩
            | false =>
              have HT := Lib.hid (HTC.out hcl)
              rw [hcl] at CS
              skip
              refine (CS.out).mono ?_
              rintro e w2 ⟨rfl, hb2⟩
              have HB2 := Lib.hid hb2; clear hb2
              go_wp2
              go_roundw
              case rel => exact ⟨j + 1 + 1, by omega, by go_num, HT.out, HB.out.trans ((HBS.out.trans (HB2.out.mono HBS.out.size)).mono HB.out.size)⟩
              case measure => simp [intOf]; omega
    · have HKN := Lib.hid (show k = n by omega)
      go_wp2
      go_ret
      refine ⟨ret_bool ?_, HB.out⟩
      unfold goodShifts
      have := HR.out
      rw [HKN.out] at this
      rw [HX.out, this]
      simp
      omega

end Go.Proofs.YtiofgoppgdgbaaaDoor
