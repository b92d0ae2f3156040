/- AreFogs and FogSeconds of the program, on fogs in order. No conditions. -/
import Derived.Test.YthpfgmnhpnfopaaNetI
import Derived.Test.YthpfgmnhpnfopaaFgs
namespace Go.Proofs.Ythpfgmnhpnfopaa
set_option linter.unusedSimpArgs false
set_option linter.unusedVariables false
open Go.RowKit

def okFog (nK : Nat) (x : S3) : Prop := (0 ≤ x.1 ∧ x.1 < (nK : Int)) ∧ 0 ≤ x.2.1 ∧ x.2.1 < x.2.2 ∧ x.2.2 ≤ 10000
def nxtFog (a b : S3) : Prop := a.1 < b.1 ∨ (a.1 = b.1 ∧ a.2.2 < b.2.1)
structure FogsOk (nK : Nat) (F : List S3) : Prop where
  ok : ∀ x ∈ F, okFog nK x
  nx : ∀ (j : Nat) (h : j + 1 < F.length), nxtFog (F[j]'(by omega)) F[j + 1]
  few : F.length ≤ 60
def sec1 (x : S3) (l a b : Int) : Int := if x.1 = l then max 0 (min x.2.2 b - max x.2.1 a) else 0
def secF (l a b : Int) : List S3 → Int
  | [] => 0
  | x :: r => sec1 x l a b + secF l a b r
theorem cmpK_lt {a b : S3} (h : nxtFog a b) (ha : a.2.1 < a.2.2) : cmpK a b = -1 := by
  unfold cmpK
  rcases h with h | ⟨h1, h2⟩
  · have : sgnI a.1 b.1 = -1 := by simp [sgnI, h]
    simp [this]
  · have e1 : sgnI a.1 b.1 = 0 := by simp [sgnI, h1]
    have e2 : sgnI a.2.1 b.2.1 = -1 := by unfold sgnI; rw [if_pos (by omega)]
    simp [e1, e2]
theorem isFog_yes (At Ak : Option Addr) (nT cT nK cK : Nat) (a b c : Int) (w : World) (hK : nK ≤ 1000000000) (h : okFog nK (a, b, c)) :
    Calls Try.prog 122 #[.agg #[.slice At nT cT, .slice Ak nK cK], .agg #[.int .i64 a, .int .i64 b, .int .i64 c]] w fun e w' => e = .returned (.bool true) ∧ Below w.heap.size w w' := by
  obtain ⟨⟨h1, h2⟩, h3, h4, h5⟩ := h
  simp only at h1 h2 h3 h4 h5
  have CW := fun W => within_any a 0 ((nK : Int) - 1) W
  have hin : inB a 0 ((nK : Int) - 1) = true := inB_true.2 ⟨h1, by omega⟩
  rw [hin] at CW
  have HCW := Lib.hid CW
  have HB : Hid (Below w.heap.size w ((w.alloc (.cells #[.slice At nT cT, .slice Ak nK cK] 68)).alloc (.cells #[.int .i64 a, .int .i64 b, .int .i64 c] 110))) := Lib.hid (((Below.refl _ _).alloc (Nat.le_refl _) _).alloc (by simp) _)
  clear CW hin
  go_enter Try.func122, Try.ntmps122
  go_wp2_with (go_at_call 72; refine (HCW.out _).mono ?_; rintro e w' ⟨rfl, rfl⟩)
  go_ret
  exact ⟨ret_bool (by first | rfl | simp), HB.out⟩
set_option maxRecDepth 100000 in
theorem compareFogs_any (a b c x y z : Int) (w : World) :
    Calls Try.prog 123 #[.agg #[.int .i64 a, .int .i64 b, .int .i64 c], .agg #[.int .i64 x, .int .i64 y, .int .i64 z]] w fun e w' => e = .returned (.int .i64 (cmpK (a, b, c) (x, y, z))) ∧ Below w.heap.size w w' := by
  have hcmp : cmpK (a, b, c) (x, y, z) = orI [sgnI a x, sgnI b y] := by simp only [cmpK, orI]; split <;> rename_i h1 <;> simp at h1 <;> simp [h1]
  have hor : ∀ W : World, Calls Try.prog 125 #[.slice (some ⟨W.heap.size, 0, none⟩) 2 2] (W.alloc (.cells #[.int .i64 (sgnI a x), .int .i64 (sgnI b y)] 3)) fun e w' => e = .returned (.int .i64 (cmpK (a, b, c) (x, y, z))) ∧ (W.alloc (.cells #[.int .i64 (sgnI a x), .int .i64 (sgnI b y)] 3)) = w' := by
    intro W
    rw [hcmp]
    exact cmpOr_any _ 2 2 [sgnI a x, sgnI b y] _ (by omega) (reads_lit W (ints [sgnI a x, sgnI b y]) _)
  have HOR := Lib.hid hor
  clear hor hcmp
  go_enter Try.func123, Try.ntmps123
  go_wp2
  refine region_tail 10 (by kernel_rfl) (by kernel_rfl) ?_
  simp only [List.take_succ_cons, List.take_zero, List.drop_succ_cons, List.drop_zero]
  repeat (refine wpStill_step (fun K hK => ?_)
          go_simp
          first
            | (refine hK _ ?_; clear hK K)
            | (apply Exists.intro
               refine ⟨?_, hK _ ?_⟩
               (exact still_of (cmpCompare_any _ _ _))
               clear hK K))
  refine wpStill_nil ?_
  have hB : Below w.heap.size w (((w.alloc (.cells #[.int .i64 a, .int .i64 b, .int .i64 c] 110)).alloc (.cells #[.int .i64 x, .int .i64 y, .int .i64 z] 110)).drew) := (((Below.refl _ _).alloc (Nat.le_refl _) _).alloc (by simp) _).drew
  generalize ((w.alloc (.cells #[.int .i64 a, .int .i64 b, .int .i64 c] 110)).alloc (.cells #[.int .i64 x, .int .i64 y, .int .i64 z] 110)).drew = W0 at hB ⊢
  go_wp2_with (go_at_call 125; refine (HOR.out W0).mono ?_; rintro e w' ⟨rfl, rfl⟩)
  go_ret
  exact ⟨rfl, hB.alloc hB.size _⟩

set_option maxHeartbeats 8000000 in
set_option maxRecDepth 100000 in
theorem areFogs_yes (At Ak : Option Addr) (nT cT nK cK : Nat) (A : Option Addr) (n c : Nat) (F : List S3) (w : World) (hK : nK ≤ 1000000000) (h : Reads w 3 A n (rows3 F)) (hf : FogsOk nK F) :
    Calls Try.prog 108 #[.agg #[.slice At nT cT, .slice Ak nK cK], .slice A n c] w fun e w' => e = .returned (.bool true) ∧ Below w.heap.size w w' := by
  have HX := Lib.hid (show F.length = n by have := h.1; rw [length_rows3] at this; omega)
  have H := Lib.hid (h.alloc (.cells #[.slice At nT cT, .slice Ak nK cK] 68))
  have HF := Lib.hid hf
  have hn60 : n ≤ 60 := by rw [← HX.out]; exact hf.few
  have HB0 : Hid (Below w.heap.size w (w.alloc (.cells #[.slice At nT cT, .slice Ak nK cK] 68))) := Lib.hid ((Below.refl _ _).alloc (Nat.le_refl _) _)
  have HBB : Hid ((w.alloc (.cells #[.slice At nT cT, .slice Ak nK cK] 68)).cell? ⟨w.heap.size, 0, none⟩ = some (.slice At nT cT) ∧ (w.alloc (.cells #[.slice At nT cT, .slice Ak nK cK] 68)).cell? ⟨w.heap.size, 1, none⟩ = some (.slice Ak nK cK)) := Lib.hid ⟨by simp, by simp⟩
  clear h hf
  go_enter Try.func108, Try.ntmps108
  go_wp2
  go_loopw [12] (fun i wr => ∃ k : Nat, k ≤ n ∧ i = .int .i64 k ∧ Below (w.alloc (.cells #[.slice At nT cT, .slice Ak nK cK] 68)).heap.size (w.alloc (.cells #[.slice At nT cT, .slice Ak nK cK] 68)) wr) (fun i _ => n - (intOf i).toNat)
  case atStart => exact ⟨0, Nat.zero_le _, rfl, Below.refl _ _⟩
  case round =>
    obtain ⟨k, hk, rfl, hb⟩ := hrel
    have HB := Lib.hid hb; clear hb
    obtain ⟨wo, rfl⟩ : ∃ wo, wo = wr := ⟨_, rfl⟩
    by_cases hlt : k < n
    · have hx : k < F.length := by rw [HX.out]; exact hlt
      have b0 : wo.cell? ⟨w.heap.size, 0, none⟩ = some (.slice At nT cT) := (HB.out.cell (by simp)).trans HBB.out.1
      have b1 : wo.cell? ⟨w.heap.size, 1, none⟩ = some (.slice Ak nK cK) := (HB.out.cell (by simp)).trans HBB.out.2
      by_cases hk0 : k = 0
      · subst hk0
        obtain ⟨ad, rfl, k0, k1, k2⟩ := rows3_at (H.out.below HB.out) hlt HX.out
        rw [show ad.add (0 * 3) = ad from by simp [Addr.add]] at k0 k1 k2
        have hok := HF.out.ok F[0] (List.getElem_mem hx)
        generalize F[0] = x at *
        obtain ⟨xa, xb, xc⟩ := x
        simp only at k0 k1 k2
        have HW : Hid (Below wo.heap.size wo (wo.alloc (.cells #[.int .i64 xa, .int .i64 xb, .int .i64 xc] 110))) := Lib.hid ((Below.refl _ _).alloc (Nat.le_refl _) _)
        have s0 := fun V : InB (wo.alloc (.cells #[.int .i64 xa, .int .i64 xb, .int .i64 xc] 110)) => V.cell (p := ⟨wo.heap.size, 0, none⟩) (u := .int .i64 xa) (by simp)
        have s1 := fun V : InB (wo.alloc (.cells #[.int .i64 xa, .int .i64 xb, .int .i64 xc] 110)) => V.cell (p := ⟨wo.heap.size, 1, none⟩) (u := .int .i64 xb) (by simp)
        have s2 := fun V : InB (wo.alloc (.cells #[.int .i64 xa, .int .i64 xb, .int .i64 xc] 110)) => V.cell (p := ⟨wo.heap.size, 2, none⟩) (u := .int .i64 xc) (by simp)
        have s3 := fun V : InB (wo.alloc (.cells #[.int .i64 xa, .int .i64 xb, .int .i64 xc] 110)) => V.cell (p := ⟨w.heap.size, 0, none⟩) (u := .slice At nT cT) ((World.cell?_alloc_lt wo _ _ (World.block_lt_of_cell? wo _ b0)).trans b0)
        have s4 := fun V : InB (wo.alloc (.cells #[.int .i64 xa, .int .i64 xb, .int .i64 xc] 110)) => V.cell (p := ⟨w.heap.size, 1, none⟩) (u := .slice Ak nK cK) ((World.cell?_alloc_lt wo _ _ (World.block_lt_of_cell? wo _ b1)).trans b1)
        have CF := Lib.hid (fun V : InB (wo.alloc (.cells #[.int .i64 xa, .int .i64 xb, .int .i64 xc] 110)) => isFog_yes At Ak nT cT nK cK xa xb xc V.1 hK hok)
        have HZZ : Hid (Below (w.alloc (.cells #[.slice At nT cT, .slice Ak nK cK] 68)).heap.size (w.alloc (.cells #[.slice At nT cT, .slice Ak nK cK] 68)) (wo.alloc (.cells #[.int .i64 xa, .int .i64 xb, .int .i64 xc] 110))) := Lib.hid (HB.out.trans (HW.out.mono HB.out.size))
        have hlt' : (0 : Int) < (n : Int) := by omega
        have hw2 : decide ((0 : Int) < 0) = false := by decide
        have CB : Hid True := Lib.hid trivial
        go_wp2
        clear k0 k1 k2 b0 b1
        generalize (wo.alloc (.cells #[.int .i64 xa, .int .i64 xb, .int .i64 xc] 110)) = ws at *
        refine wp_region_below ws (by kernel_rfl) (by kernel_rfl) (by first | assumption | exact Below.refl _ _) ?_
        repeat (go_big_quiet_step ((first | (go_at_call 122; exact bel_of (CF.out _)) | (go_at_call 123; exact bel_of (CB.out _)))))
        refine wpQuiet_nil ?_
        intro wb hw'
        obtain ⟨⟨wb', hB⟩, hwb⟩ := hw'
        simp only at hwb
        subst hwb
        try simp only at hB ⊢
        all_goals
          have HB5 := Lib.hid (HZZ.out.trans (hB.mono HZZ.out.size))
          clear hB s0 s1 s2 s3 s4
          go_wp2
          go_roundw
          case rel => exact ⟨0 + 1, by omega, by go_num, HB5.out⟩
          case measure => first | (simp [intOf]; done) | (simp [intOf]; omega)
      · obtain ⟨j, rfl⟩ : ∃ j, k = j + 1 := ⟨k - 1, by omega⟩
        have hxj : j < F.length := by omega
        obtain ⟨ad, rfl, k0, k1, k2⟩ := rows3_at (H.out.below HB.out) hlt HX.out
        obtain ⟨_, e, j0, j1, j2⟩ := rows3_at (H.out.below HB.out) (show j < n by omega) HX.out
        injection e with e
        subst e
        have hok := HF.out.ok F[j + 1] (List.getElem_mem hx)
        have hoj := HF.out.ok F[j] (List.getElem_mem hxj)
        have hnx := HF.out.nx j hx
        have hcm := cmpK_lt hnx hoj.2.2.1
        generalize F[j + 1] = x at *
        generalize F[j] = y at *
        obtain ⟨xa, xb, xc⟩ := x
        obtain ⟨ya, yb, yc⟩ := y
        simp only at k0 k1 k2 j0 j1 j2
        have HW : Hid (Below wo.heap.size wo (wo.alloc (.cells #[.int .i64 xa, .int .i64 xb, .int .i64 xc] 110))) := Lib.hid ((Below.refl _ _).alloc (Nat.le_refl _) _)
        have s0 := fun V : InB (wo.alloc (.cells #[.int .i64 xa, .int .i64 xb, .int .i64 xc] 110)) => V.cell (p := ⟨wo.heap.size, 0, none⟩) (u := .int .i64 xa) (by simp)
        have s1 := fun V : InB (wo.alloc (.cells #[.int .i64 xa, .int .i64 xb, .int .i64 xc] 110)) => V.cell (p := ⟨wo.heap.size, 1, none⟩) (u := .int .i64 xb) (by simp)
        have s2 := fun V : InB (wo.alloc (.cells #[.int .i64 xa, .int .i64 xb, .int .i64 xc] 110)) => V.cell (p := ⟨wo.heap.size, 2, none⟩) (u := .int .i64 xc) (by simp)
        have s3 := fun V : InB (wo.alloc (.cells #[.int .i64 xa, .int .i64 xb, .int .i64 xc] 110)) => V.cell (p := ⟨w.heap.size, 0, none⟩) (u := .slice At nT cT) ((World.cell?_alloc_lt wo _ _ (World.block_lt_of_cell? wo _ b0)).trans b0)
        have s4 := fun V : InB (wo.alloc (.cells #[.int .i64 xa, .int .i64 xb, .int .i64 xc] 110)) => V.cell (p := ⟨w.heap.size, 1, none⟩) (u := .slice Ak nK cK) ((World.cell?_alloc_lt wo _ _ (World.block_lt_of_cell? wo _ b1)).trans b1)
        have CF := Lib.hid (fun V : InB (wo.alloc (.cells #[.int .i64 xa, .int .i64 xb, .int .i64 xc] 110)) => isFog_yes At Ak nT cT nK cK xa xb xc V.1 hK hok)
        have HZZ : Hid (Below (w.alloc (.cells #[.slice At nT cT, .slice Ak nK cK] 68)).heap.size (w.alloc (.cells #[.slice At nT cT, .slice Ak nK cK] 68)) (wo.alloc (.cells #[.int .i64 xa, .int .i64 xb, .int .i64 xc] 110))) := Lib.hid (HB.out.trans (HW.out.mono HB.out.size))
        have s5 : ∀ V : InB (wo.alloc (.cells #[.int .i64 xa, .int .i64 xb, .int .i64 xc] 110)), V.1.cell? (ad.add (j * 3)) = some (.int .i64 ya) := fun V => ((HW.out.trans (V.2.mono (by simp))).cell (World.block_lt_of_cell? wo _ j0)).trans j0
        have s6 : ∀ V : InB (wo.alloc (.cells #[.int .i64 xa, .int .i64 xb, .int .i64 xc] 110)), V.1.cell? ⟨(ad.add (j * 3)).block, (ad.add (j * 3)).off + 1, none⟩ = some (.int .i64 yb) := fun V => ((HW.out.trans (V.2.mono (by simp))).cell (World.block_lt_of_cell? wo _ j1)).trans j1
        have s7 : ∀ V : InB (wo.alloc (.cells #[.int .i64 xa, .int .i64 xb, .int .i64 xc] 110)), V.1.cell? ⟨(ad.add (j * 3)).block, (ad.add (j * 3)).off + 2, none⟩ = some (.int .i64 yc) := fun V => ((HW.out.trans (V.2.mono (by simp))).cell (World.block_lt_of_cell? wo _ j2)).trans j2
        have hw1 : IntKind.i64.wrap (j : Int) = (j : Int) := IntWalk.i64_in _ (by omega)
        have hw2 : decide ((0 : Int) < (j : Int) + 1) = true := by simp <;> omega
        have hjn : (j : Int) < (n : Int) := by omega
        have hj0 : (0 : Int) ≤ (j : Int) := by omega
        have cb := fun V : InB (wo.alloc (.cells #[.int .i64 xa, .int .i64 xb, .int .i64 xc] 110)) => compareFogs_any ya yb yc xa xb xc V.1
        rw [hcm] at cb
        have CB := Lib.hid cb
        clear cb hcm j0 j1 j2
        rcases hnx with hnx | ⟨hnx, hny⟩
        · have hq1 : (ya == xa) = false := by rw [beq_eq_false_iff_ne]; simp only at hnx; omega
          clear hnx
          go_wp2
          clear k0 k1 k2 b0 b1
          generalize (wo.alloc (.cells #[.int .i64 xa, .int .i64 xb, .int .i64 xc] 110)) = ws at *
          refine wp_region_below ws (by kernel_rfl) (by kernel_rfl) (by first | assumption | exact Below.refl _ _) ?_
          repeat (go_big_quiet_step ((first | (go_at_call 122; exact bel_of (CF.out _)) | (go_at_call 123; exact bel_of (CB.out _)))))
          refine wpQuiet_nil ?_
          intro wb hw'
          obtain ⟨⟨wb', hB⟩, hwb⟩ := hw'
          simp only at hwb
          subst hwb
          try simp only at hB ⊢
          all_goals
            have HB5 := Lib.hid (HZZ.out.trans (hB.mono HZZ.out.size))
            clear hB s5 s6 s7 s0 s1 s2 s3 s4
            go_wp2
            go_roundw
            case rel => exact ⟨(j + 1) + 1, by omega, by go_num, HB5.out⟩
            case measure => first | (simp [intOf]; done) | (simp [intOf]; omega)
        · simp only at hnx hny
          have hq1 : (ya == xa) = true := by rw [beq_iff_eq]; exact hnx
          have hq2 : decide (xb ≤ yc) = false := by rw [decide_eq_false_iff_not]; omega
          clear hnx hny
          go_wp2
          clear k0 k1 k2 b0 b1
          generalize (wo.alloc (.cells #[.int .i64 xa, .int .i64 xb, .int .i64 xc] 110)) = ws at *
          refine wp_region_below ws (by kernel_rfl) (by kernel_rfl) (by first | assumption | exact Below.refl _ _) ?_
          repeat (go_big_quiet_step ((first | (go_at_call 122; exact bel_of (CF.out _)) | (go_at_call 123; exact bel_of (CB.out _)))))
          refine wpQuiet_nil ?_
          intro wb hw'
          obtain ⟨⟨wb', hB⟩, hwb⟩ := hw'
          simp only at hwb
          subst hwb
          try simp only at hB ⊢
          all_goals
            have HB5 := Lib.hid (HZZ.out.trans (hB.mono HZZ.out.size))
            clear hB s5 s6 s7 s0 s1 s2 s3 s4
            go_wp2
            go_roundw
            case rel => exact ⟨(j + 1) + 1, by omega, by go_num, HB5.out⟩
            case measure => first | (simp [intOf]; done) | (simp [intOf]; omega)
    · go_wp2
      go_ret
      exact ⟨rfl, HB0.out.trans (HB.out.mono HB0.out.size)⟩

end Go.Proofs.Ythpfgmnhpnfopaa
