/- Contract of shGood. No conditions. -/
import Derived.Test.YtiofgoppgdgbaaaDoorSh2
namespace Go.Proofs.YtiofgoppgdgbaaaDoor
set_option linter.unusedSimpArgs false
set_option linter.unusedVariables false
open Go.RowKit

def okAt (l : List S3) (k : Nat) : Bool :=
  match l[k]? with
  | none => true
  | some x => okS x && ((k == 0 || (match l[k - 1]? with | none => true | some y => befS y x)) && !(l.take k).any (clash x))
def allAt (l : List S3) (k : Nat) : Bool := (List.range k).all (okAt l)
def goodShifts (l : List S3) : Bool := allAt l l.length && decide (l.length ≤ 60)
theorem allAt_succ (l : List S3) (k : Nat) : allAt l (k + 1) = (allAt l k && okAt l k) := by simp [allAt, List.range_succ, List.all_append]
theorem allAt_not {l : List S3} {k : Nat} (h : okAt l k = false) (hk : k < l.length) : goodShifts l = false := by
  have : allAt l l.length = false := by
    rw [allAt, List.all_eq_false]
    exact ⟨k, by simpa using hk, by simp [h]⟩
  simp [goodShifts, this]
theorem okAt_zero {l : List S3} (h : 0 < l.length) : okAt l 0 = okS l[0] := by simp [okAt, h]
theorem okAt_succ {l : List S3} {j : Nat} (h : j + 1 < l.length) : okAt l (j + 1) = (okS l[j + 1] && (befS l[j] l[j + 1] && !(l.take (j + 1)).any (clash l[j + 1]))) := by
  have h2 : j < l.length := by omega
  simp [okAt, h, h2]
theorem take_any_succ {l : List S3} {m : Nat} {p : S3 → Bool} (h : m < l.length) : (l.take (m + 1)).any p = ((l.take m).any p || p l[m]) := by
  rw [List.take_succ_eq_append_getElem h, List.any_append]; simp only [List.any_cons, List.any_nil, Bool.or_false]
theorem take_any_hit {l : List S3} {m k : Nat} {p : S3 → Bool} (h : m < l.length) (hm : m < k) (hp : p l[m] = true) : (l.take k).any p = true := by
  rw [List.any_eq_true]
  refine ⟨l[m], ?_, hp⟩
  rw [List.mem_take_iff_getElem]
  exact ⟨m, by omega, rfl⟩

set_option maxHeartbeats 4000000 in
set_option maxRecDepth 100000 in
theorem shGood_any (A : Option Addr) (n c : Nat) (l : List S3) (w : World) (hn : n ≤ 1000000000) (hnc : n ≤ c) (h : Reads w 3 A n (rows3 l)) :
    Calls Tryd.prog 53 #[.slice A n c] w fun e w' => e = .returned (.bool (goodShifts l)) ∧ Below w.heap.size w w' := by
  have HX := Lib.hid (show l.length = n by have := h.1; rw [length_rows3] at this; omega)
  have H := Lib.hid h; clear h
  go_enter Tryd.func53, Tryd.ntmps53
  go_wp2
  go_loopw [9] (fun i wr => ∃ k : Nat, k ≤ n ∧ i = .int .i64 k ∧ allAt l k = true ∧ Below w.heap.size w wr) (fun i _ => n - (intOf i).toNat)
  case atStart => exact ⟨0, Nat.zero_le _, rfl, rfl, Below.refl _ _⟩
  case round =>
    obtain ⟨wo, rfl⟩ : ∃ wo, wo = wr := ⟨_, rfl⟩
    obtain ⟨k, hk, rfl, hrel, hb⟩ := hrel
    have HR := Lib.hid hrel; clear hrel
    have HB := Lib.hid hb; clear hb
    by_cases hlt : k < n
    · have hx : k < l.length := by rw [HX.out]; exact hlt
      rcases k with _ | j
      · obtain ⟨ad, rfl, k0, k1, k2⟩ := rows3_at (H.out.below HB.out) hlt HX.out
        rw [show ad.add (0 * 3) = ad from by simp [Addr.add]] at k0 k1 k2
        have HOK := Lib.hid (okAt_zero hx)
        generalize hxk : l[0] = x at *
        clear hxk
        obtain ⟨xa, xb, xc⟩ := x
        cases h1 : inB xa 1 30 with
        | false =>
          have HF := Lib.hid (allAt_not (l := l) (k := 0) (by rw [HOK.out]; simp [okS, h1]) hx)
          
          go_wp2
          go_quiet (first | (go_at_call 54; exact Calls.quiet_of_same (still_of (shOperator_any _ _))) | (go_at_call 73; exact Calls.quiet_of_same (still_of (shHour_any _ _))) | (go_at_call 70; exact Calls.quiet_of_same (still_of (l1In_any _ _ _ _))))
          
          go_wp2
          go_ret
          exact ⟨ret_bool HF.out.symm, HB.out.trans ((((Below.refl _ _).alloc HB.out.size _).trans (below_toN (Below.refl _ _) _)))⟩
        | true =>
          cases h2 : inB xb 0 167 with
          | false =>
            have HF := Lib.hid (allAt_not (l := l) (k := 0) (by rw [HOK.out]; simp [okS, h1, h2]) hx)
            
            go_wp2
            go_quiet (first | (go_at_call 54; exact Calls.quiet_of_same (still_of (shOperator_any _ _))) | (go_at_call 73; exact Calls.quiet_of_same (still_of (shHour_any _ _))) | (go_at_call 70; exact Calls.quiet_of_same (still_of (l1In_any _ _ _ _))))
            
            go_wp2
            go_ret
            exact ⟨ret_bool HF.out.symm, HB.out.trans ((((Below.refl _ _).alloc HB.out.size _).trans (below_toN (Below.refl _ _) _)))⟩
          | true =>
            cases h3 : inB xc (xb + 1) 168 with
            | false =>
              have HF := Lib.hid (allAt_not (l := l) (k := 0) (by rw [HOK.out]; simp [okS, h1, h2, h3]) hx)
              have hw1 : IntKind.i64.wrap (xb + 1) = xb + 1 := IntWalk.i64_in _ (by have := inB_true.1 h2; omega)
              go_wp2
              go_quiet (first | (go_at_call 54; exact Calls.quiet_of_same (still_of (shOperator_any _ _))) | (go_at_call 73; exact Calls.quiet_of_same (still_of (shHour_any _ _))) | (go_at_call 70; exact Calls.quiet_of_same (still_of (l1In_any _ _ _ _))))
              clear hw1
              go_wp2
              go_ret
              exact ⟨ret_bool HF.out.symm, HB.out.trans ((((Below.refl _ _).alloc HB.out.size _).trans (below_toN (Below.refl _ _) _)))⟩
            | true =>
              have HFC : Hid ((l.take 0).any (clash (xa, xb, xc)) = true → goodShifts l = false) := Lib.hid (by simp)
              have HTC : Hid ((l.take 0).any (clash (xa, xb, xc)) = false → allAt l 1 = true) := Lib.hid (fun _ => by rw [allAt_succ, HOK.out]; simp [allAt, okS, h1, h2, h3])
              have hw1 : IntKind.i64.wrap (xb + 1) = xb + 1 := IntWalk.i64_in _ (by have := inB_true.1 h2; omega)
              go_wp2
              go_quiet (first | (go_at_call 54; exact Calls.quiet_of_same (still_of (shOperator_any _ _))) | (go_at_call 73; exact Calls.quiet_of_same (still_of (shHour_any _ _))) | (go_at_call 70; exact Calls.quiet_of_same (still_of (l1In_any _ _ _ _))))
              clear hw1
              go_wp2
              have HBS : Hid (Below wo.heap.size wo ((wo.alloc (.cells #[.int .i64 xa, .int .i64 xb, .int .i64 xc] 56)).drewN nq)) := Lib.hid (below_toN ((Below.refl _ _).alloc (Nat.le_refl _) _) _)
              have HKS := Lib.hid (box3 (below_toN (Below.refl _ (wo.alloc (.cells #[.int .i64 xa, .int .i64 xb, .int .i64 xc] 56))) nq))
              have HSZ : Hid (wo.heap.size < ((wo.alloc (.cells #[.int .i64 xa, .int .i64 xb, .int .i64 xc] 56)).drewN nq).heap.size) := Lib.hid (by simp)
              go_loopw [51] (fun i wi => ∃ m : Nat, m ≤ 0 ∧ i = .int .i64 m ∧ (l.take m).any (clash (xa, xb, xc)) = false ∧ Below wo.heap.size wo wi ∧ (wi.cell? ⟨wo.heap.size, 0, none⟩ = some (.int .i64 xa) ∧ wi.cell? ⟨wo.heap.size, 1, none⟩ = some (.int .i64 xb) ∧ wi.cell? ⟨wo.heap.size, 2, none⟩ = some (.int .i64 xc)) ∧ wo.heap.size < wi.heap.size) (fun i _ => 0 - (intOf i).toNat)
              case atStart => exact ⟨0, by omega, rfl, by simp, HBS.out, HKS.out, HSZ.out⟩
              case round =>
                obtain ⟨m, hm, rfl, hrel, hbi, ⟨k0, k1, k2⟩, hsz⟩ := hrel
                have HRI := Lib.hid hrel; clear hrel
                have HBI := Lib.hid hbi; clear hbi
                have HSI := Lib.hid hsz; clear hsz
                by_cases hmk : m < 0
                · omega
                · have HT := Lib.hid (HTC.out (by have := HRI.out; rw [show m = 0 by omega] at this; exact this))
                  go_wp2
                  go_roundw
                  case rel => exact ⟨1, by omega, by go_num, HT.out, HB.out.trans (HBI.out.mono HB.out.size)⟩
                  case measure => simp [intOf]; omega
      · obtain ⟨ad, rfl, k0, k1, k2⟩ := rows3_at (H.out.below HB.out) hlt HX.out
        obtain ⟨_, e, j0, j1, j2⟩ := rows3_at (H.out.below HB.out) (show j < n by omega) HX.out
        injection e with e
        subst e
        have HOK := Lib.hid (okAt_succ hx)
        have hj : j < l.length := by omega
        generalize hxk : l[j + 1] = x at *
        generalize hyk : l[j] = y at *
        clear hxk hyk
        obtain ⟨xa, xb, xc⟩ := x
        obtain ⟨ya, yb, yc⟩ := y
        cases h1 : inB xa 1 30 with
        | false =>
          have HF := Lib.hid (allAt_not (l := l) (k := j + 1) (by rw [HOK.out]; simp [okS, h1]) hx)
          
          go_wp2
          go_quiet (first | (go_at_call 54; exact Calls.quiet_of_same (still_of (shOperator_any _ _))) | (go_at_call 73; exact Calls.quiet_of_same (still_of (shHour_any _ _))) | (go_at_call 70; exact Calls.quiet_of_same (still_of (l1In_any _ _ _ _))))
          
          go_wp2
          go_ret
          exact ⟨ret_bool HF.out.symm, HB.out.trans ((((Below.refl _ _).alloc HB.out.size _).trans (below_toN (Below.refl _ _) _)))⟩
        | true =>
          cases h2 : inB xb 0 167 with
          | false =>
            have HF := Lib.hid (allAt_not (l := l) (k := j + 1) (by rw [HOK.out]; simp [okS, h1, h2]) hx)
            
            go_wp2
            go_quiet (first | (go_at_call 54; exact Calls.quiet_of_same (still_of (shOperator_any _ _))) | (go_at_call 73; exact Calls.quiet_of_same (still_of (shHour_any _ _))) | (go_at_call 70; exact Calls.quiet_of_same (still_of (l1In_any _ _ _ _))))
            
            go_wp2
            go_ret
            exact ⟨ret_bool HF.out.symm, HB.out.trans ((((Below.refl _ _).alloc HB.out.size _).trans (below_toN (Below.refl _ _) _)))⟩
          | true =>
            cases h3 : inB xc (xb + 1) 168 with
            | false =>
              have HF := Lib.hid (allAt_not (l := l) (k := j + 1) (by rw [HOK.out]; simp [okS, h1, h2, h3]) hx)
              have hw1 : IntKind.i64.wrap (xb + 1) = xb + 1 := IntWalk.i64_in _ (by have := inB_true.1 h2; omega)
              go_wp2
              go_quiet (first | (go_at_call 54; exact Calls.quiet_of_same (still_of (shOperator_any _ _))) | (go_at_call 73; exact Calls.quiet_of_same (still_of (shHour_any _ _))) | (go_at_call 70; exact Calls.quiet_of_same (still_of (l1In_any _ _ _ _))))
              clear hw1
              go_wp2
              go_ret
              exact ⟨ret_bool HF.out.symm, HB.out.trans ((((Below.refl _ _).alloc HB.out.size _).trans (below_toN (Below.refl _ _) _)))⟩
            | true =>
              cases h4 : befS (ya, yb, yc) (xa, xb, xc) with
              | false =>
                have HF := Lib.hid (allAt_not (l := l) (k := j + 1) (by rw [HOK.out]; simp [h4]) hx)
                have CB := Lib.hid (fun W' => shBefore_any ya yb yc xa xb xc W')
                rw [h4] at CB
                have hw1 : IntKind.i64.wrap (xb + 1) = xb + 1 := IntWalk.i64_in _ (by have := inB_true.1 h2; omega)
                have hw2 : IntKind.i64.wrap (j : Int) = (j : Int) := IntWalk.i64_in _ (by omega)
                have hjn : (j : Int) < (n : Int) := by omega
                go_wp2
                have s0 := (World.cell?_alloc_lt wo (.cells #[.int .i64 xa, .int .i64 xb, .int .i64 xc] 56) _ (World.block_lt_of_cell? wo _ j0)).trans j0
                have s1 := (World.cell?_alloc_lt wo (.cells #[.int .i64 xa, .int .i64 xb, .int .i64 xc] 56) _ (World.block_lt_of_cell? wo _ j1)).trans j1
                have s2 := (World.cell?_alloc_lt wo (.cells #[.int .i64 xa, .int .i64 xb, .int .i64 xc] 56) _ (World.block_lt_of_cell? wo _ j2)).trans j2
                clear j0 j1 j2
                refine region_tail 29 (by kernel_rfl) (by kernel_rfl) ?_
                simp only [List.take_succ_cons, List.take_zero, List.drop_succ_cons, List.drop_zero]
                repeat (refine wpStill_step (fun K hK => ?_)
                        go_simp
                        first
                          | (refine hK _ ?_; clear hK K)
                          | (apply Exists.intro
                             refine ⟨?_, hK _ ?_⟩
                             (first | (go_at_call 54; exact still_of (shOperator_any _ _)) | (go_at_call 73; exact still_of (shHour_any _ _)) | (go_at_call 70; exact still_of (l1In_any _ _ _ _)))
                             clear hK K))
                refine wpStill_nil ?_
                clear hw1 hw2
                go_wp2_with (go_at_call 74; refine (CB.out _).mono ?_; rintro e w1 ⟨rfl, hb1⟩)
                go_ret
                exact ⟨ret_bool HF.out.symm, HB.out.trans (((Below.refl _ _).alloc HB.out.size _).trans ((Below.refl _ _).drew.trans (hb1.mono (by have := HB.out.size; simp; omega))))⟩
              | true =>
                have CB := Lib.hid (fun W' => shBefore_any ya yb yc xa xb xc W')
                rw [h4] at CB
                have HFC : Hid ((l.take (j + 1)).any (clash (xa, xb, xc)) = true → goodShifts l = false) := Lib.hid (fun hc => allAt_not (l := l) (k := j + 1) (by rw [HOK.out, hc]; simp) hx)
                have HTC : Hid ((l.take (j + 1)).any (clash (xa, xb, xc)) = false → allAt l (j + 1 + 1) = true) := Lib.hid (fun hc => by rw [allAt_succ, HOK.out, HR.out, hc]; simp [okS, h1, h2, h3, h4])
                have hw1 : IntKind.i64.wrap (xb + 1) = xb + 1 := IntWalk.i64_in _ (by have := inB_true.1 h2; omega)
                have hw2 : IntKind.i64.wrap (j : Int) = (j : Int) := IntWalk.i64_in _ (by omega)
                have hjn : (j : Int) < (n : Int) := by omega
                go_wp2
                have s0 := (World.cell?_alloc_lt wo (.cells #[.int .i64 xa, .int .i64 xb, .int .i64 xc] 56) _ (World.block_lt_of_cell? wo _ j0)).trans j0
                have s1 := (World.cell?_alloc_lt wo (.cells #[.int .i64 xa, .int .i64 xb, .int .i64 xc] 56) _ (World.block_lt_of_cell? wo _ j1)).trans j1
                have s2 := (World.cell?_alloc_lt wo (.cells #[.int .i64 xa, .int .i64 xb, .int .i64 xc] 56) _ (World.block_lt_of_cell? wo _ j2)).trans j2
                clear j0 j1 j2
                refine region_tail 29 (by kernel_rfl) (by kernel_rfl) ?_
                simp only [List.take_succ_cons, List.take_zero, List.drop_succ_cons, List.drop_zero]
                repeat (refine wpStill_step (fun K hK => ?_)
                        go_simp
                        first
                          | (refine hK _ ?_; clear hK K)
                          | (apply Exists.intro
                             refine ⟨?_, hK _ ?_⟩
                             (first | (go_at_call 54; exact still_of (shOperator_any _ _)) | (go_at_call 73; exact still_of (shHour_any _ _)) | (go_at_call 70; exact still_of (l1In_any _ _ _ _)))
                             clear hK K))
                refine wpStill_nil ?_
                clear hw1 hw2
                go_wp2_with (go_at_call 74; refine (CB.out _).mono ?_; rintro e w1 ⟨rfl, hb1⟩)
                have HBS : Hid (Below wo.heap.size wo w1) := Lib.hid (((Below.refl _ _).alloc (Nat.le_refl _) _).drew.trans (hb1.mono (by simp)))
                have HKS := Lib.hid (box3 (((Below.refl _ (wo.alloc (.cells #[.int .i64 xa, .int .i64 xb, .int .i64 xc] 56))).drew).trans hb1))
                have HSZ : Hid (wo.heap.size < w1.heap.size) := Lib.hid (by have := hb1.size; simp at this; omega)
                go_loopw [51] (fun i wi => ∃ m : Nat, m ≤ (j + 1) ∧ i = .int .i64 m ∧ (l.take m).any (clash (xa, xb, xc)) = false ∧ Below wo.heap.size wo wi ∧ (wi.cell? ⟨wo.heap.size, 0, none⟩ = some (.int .i64 xa) ∧ wi.cell? ⟨wo.heap.size, 1, none⟩ = some (.int .i64 xb) ∧ wi.cell? ⟨wo.heap.size, 2, none⟩ = some (.int .i64 xc)) ∧ wo.heap.size < wi.heap.size) (fun i _ => (j + 1) - (intOf i).toNat)
                case atStart => exact ⟨0, by omega, rfl, by simp, HBS.out, HKS.out, HSZ.out⟩
                case round =>
                  obtain ⟨m, hm, rfl, hrel, hbi, ⟨k0, k1, k2⟩, hsz⟩ := hrel
                  have HRI := Lib.hid hrel; clear hrel
                  have HBI := Lib.hid hbi; clear hbi
                  have HSI := Lib.hid hsz; clear hsz
                  by_cases hmk : m < (j + 1)
                  · have hxm : m < l.length := by rw [HX.out]; omega
                    obtain ⟨_, e, j0, j1, j2⟩ := rows3_at ((H.out.below HB.out).below (HBI.out.mono (Nat.le_refl _))) (show m < n by omega) HX.out
                    injection e with e
                    subst e
                    have HTS := Lib.hid (take_any_succ (p := clash (xa, xb, xc)) hxm)
                    have HTH := Lib.hid (fun hp => take_any_hit (k := (j + 1)) (p := clash (xa, xb, xc)) hxm hmk hp)
                    generalize hym : l[m] = y at *
                    clear hym
                    obtain ⟨ya, yb, yc⟩ := y
                    have s0 := (World.cell?_alloc_lt wr (.cells #[.int .i64 ya, .int .i64 yb, .int .i64 yc] 56) _ (World.block_lt_of_cell? wr _ k0)).trans k0
                    have s1 := (World.cell?_alloc_lt wr (.cells #[.int .i64 ya, .int .i64 yb, .int .i64 yc] 56) _ (World.block_lt_of_cell? wr _ k1)).trans k1
                    have s2 := (World.cell?_alloc_lt wr (.cells #[.int .i64 ya, .int .i64 yb, .int .i64 yc] 56) _ (World.block_lt_of_cell? wr _ k2)).trans k2
                    clear k0 k1 k2
                    by_cases hop : ya = xa
                    · subst hop
                      by_cases hto : xb < yc
                      · have HF := Lib.hid (HFC.out (HTH.out (by simp [clash, hto])))
                        go_wp2
                        go_ret
                        exact ⟨ret_bool HF.out.symm, HB.out.trans ((HBI.out.alloc HBI.out.size _).mono HB.out.size)⟩
                      · go_wp2
                        go_roundw
                        case rel => exact ⟨m + 1, by omega, by go_num, by rw [HTS.out, HRI.out]; simp [clash, hto], HBI.out.alloc HBI.out.size _, ⟨by assumption, by assumption, by assumption⟩, by simp; have := HSI.out; omega⟩
                        case measure => simp [intOf]; omega
                    · have hop' : (ya == xa) = false := by rw [beq_eq_false_iff_ne]; exact hop
                      go_wp2
                      go_roundw
                      case rel => exact ⟨m + 1, by omega, by go_num, by rw [HTS.out, HRI.out]; simp [clash, hop], HBI.out.alloc HBI.out.size _, ⟨by assumption, by assumption, by assumption⟩, by simp; have := HSI.out; omega⟩
                      case measure => simp [intOf]; omega
                  · have HT := Lib.hid (HTC.out (by have := HRI.out; rw [show m = (j + 1) by omega] at this; exact this))
                    go_wp2
                    go_roundw
                    case rel => exact ⟨j + 1 + 1, by omega, by go_num, HT.out, HB.out.trans (HBI.out.mono HB.out.size)⟩
                    case measure => simp [intOf]; omega
    · have HKN := Lib.hid (show k = n by omega)
      go_wp2
      go_ret
      refine ⟨ret_bool ?_, HB.out⟩
      unfold goodShifts
      have := HR.out
      rw [HKN.out] at this
      rw [HX.out, this]
      simp
      omega

end Go.Proofs.YtiofgoppgdgbaaaDoor
