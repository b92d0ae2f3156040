/- Contracts of HourFor of both packages, and the law over them. No conditions. -/
import Derived.Test.YtiofgoppgdgbaaaSh9
namespace Go.Proofs.Ytiofgoppgdgbaaa
set_option linter.unusedSimpArgs false
set_option linter.unusedVariables false
open Go.RowKit

def hourF (b c d : Int) (l : List S3) (op m wanted : Int) : Nat → Int → Int × Bool
  | 0, _ => (0, false)
  | f + 1, h => if wanted ≤ wage h b c d l op m then (h, true) else hourF b c d l op m wanted f (h + 1)
def hourR (a b c d : Int) (l : List S3) (op m wanted : Int) : Int × Bool := if askB a b c d l op m = true ∧ inB wanted 0 1000000 = true then hourF b c d l op m wanted 1001 0 else (0, false)
theorem payB_hour {a b c d : Int} (h : payB a b c d = true) (k : Nat) (hk : k ≤ 1000) : payB k b c d = true := by
  obtain ⟨_, hb, hc, hd⟩ := payB_of h
  rw [payB_true]; omega
theorem Box4.set_0 {w : World} {g : Nat} {t : TypeId} {v0 v1 v2 v3 : Value} (h : Box4 w g t v0 v1 v2 v3) (u : Value) : Box4 (w.setCell ⟨g, 0, none⟩ u) g t u v1 v2 v3 := by
  unfold Box4 at h ⊢
  simp [World.setCell, Array.getElem?_modify, h]
theorem ret_ib {a b : Int} {x y : Bool} (h : (a, x) = (b, y)) : Ending.returned (.tuple #[.int .i64 a, .bool x]) = .returned (.tuple #[.int .i64 b, .bool y]) := by injection h with h1 h2; rw [h1, h2]

set_option maxHeartbeats 1000000 in
theorem specHourFor_any (a b c d : Int) (A : Option Addr) (n cc : Nat) (l : List S3) (op m wanted : Int) (w : World) (hn : n ≤ 1000000000) (h : Reads w 3 A n (rows3 l)) (hnc : n ≤ cc) :
    Calls Try.prog 23 #[.agg #[.int .i64 a, .int .i64 b, .int .i64 c, .int .i64 d], .slice A n cc, .int .i64 op, .int .i64 m, .int .i64 wanted] w fun e w' => e = .returned (.tuple #[.int .i64 (hourR a b c d l op m wanted).1, .bool (hourR a b c d l op m wanted).2]) ∧ Below w.heap.size w w' := by
  have ca := fun W (hW : Below w.heap.size w W) => wgAsked_any a b c d A n cc l op m W hn hnc (h.below hW)
  cases hask : askB a b c d l op m with
  | false =>
    simp only [hask] at ca
    have hr : hourR a b c d l op m wanted = (0, false) := by simp [hourR, hask]
    rw [hr]
    have CA := Lib.hid ca
    clear ca hr h hask
    go_enter Try.func23, Try.ntmps23
    go_wp2_with (go_at_call 51; refine (CA.out _ ((Below.refl _ _).alloc (Nat.le_refl _) _)).mono ?_; rintro e w1 ⟨rfl, hb1⟩; have HBX := Lib.hid ((Box4.new w 25 (.int .i64 a) (.int .i64 b) (.int .i64 c) (.int .i64 d)).below hb1 (by simp)); have HB1 := Lib.hid (((Below.refl _ _).alloc (Nat.le_refl _) _).trans (hb1.mono (by simp))); clear hb1)
    go_ret2
    exact ⟨rfl, HB1.out⟩
  | true =>
    simp only [hask] at ca
    have CA := Lib.hid ca
    obtain ⟨hp, hg, hop, hm⟩ := askB_of hask
    cases hin : inB wanted 0 1000000 with
    | false =>
      have hr : hourR a b c d l op m wanted = (0, false) := by simp [hourR, hin]
      rw [hr]
      clear ca hr h hask
      go_enter Try.func23, Try.ntmps23
      go_wp2_with (first | (go_at_call 51; refine (CA.out _ ((Below.refl _ _).alloc (Nat.le_refl _) _)).mono ?_; rintro e w1 ⟨rfl, hb1⟩; have HBX := Lib.hid ((Box4.new w 25 (.int .i64 a) (.int .i64 b) (.int .i64 c) (.int .i64 d)).below hb1 (by simp)); have HB1 := Lib.hid (((Below.refl _ _).alloc (Nat.le_refl _) _).trans (hb1.mono (by simp))); clear hb1) | (go_at_call 59; refine (l1In_any _ _ _ _).mono ?_; rintro e w' ⟨rfl, rfl⟩))
      go_ret2
      exact ⟨rfl, HB1.out⟩
    | true =>
      have hr : hourR a b c d l op m wanted = hourF b c d l op m wanted 1001 0 := by simp [hourR, hin, hask]
      rw [hr]
      have CW := Lib.hid (fun (k : Nat) (hk : k ≤ 1000) W (hW : Below w.heap.size w W) => wgWage_any k b c d A n cc l op m W (payB_hour hp k hk) hg hop (inB_true.1 hm) hnc (h.below hW))
      clear ca hr h hask hp hg hop hm
      go_enter Try.func23, Try.ntmps23
      go_wp2_with (first | (go_at_call 51; refine (CA.out _ ((Below.refl _ _).alloc (Nat.le_refl _) _)).mono ?_; rintro e w1 ⟨rfl, hb1⟩; have HBX := Lib.hid ((Box4.new w 25 (.int .i64 a) (.int .i64 b) (.int .i64 c) (.int .i64 d)).below hb1 (by simp)); have HB1 := Lib.hid (((Below.refl _ _).alloc (Nat.le_refl _) _).trans (hb1.mono (by simp))); clear hb1) | (go_at_call 59; refine (l1In_any _ _ _ _).mono ?_; rintro e w' ⟨rfl, rfl⟩))
      go_loopw [12] (fun i wr => ∃ k : Nat, ∃ u : Int, k ≤ 1001 ∧ i = .int .i64 k ∧ hourF b c d l op m wanted (1001 - k) k = hourF b c d l op m wanted 1001 0 ∧ Box4 wr w.heap.size 25 (.int .i64 u) (.int .i64 b) (.int .i64 c) (.int .i64 d) ∧ Below w.heap.size w wr) (fun i _ => 1001 - (intOf i).toNat)
      case atStart => exact ⟨0, a, by omega, rfl, rfl, HBX.out, HB1.out⟩
      case round =>
        obtain ⟨k, u, hk, rfl, hrel, hbx, hb⟩ := hrel
        have HR := Lib.hid hrel; clear hrel
        have HBX := Lib.hid hbx; clear hbx
        have HB := Lib.hid hb; clear hb
        by_cases hlt : k ≤ 1000
        · have HBX2 := Lib.hid (HBX.out.set_0 (.int .i64 k))
          obtain ⟨k0, k1, k2, k3⟩ := HBX.out.cells
          obtain ⟨f0, _⟩ := HBX.out.frozen
          obtain ⟨s0, s1, s2, s3⟩ := HBX2.out.cells
          have HBE := Lib.hid (HB.out.setCell (p := ⟨w.heap.size, 0, none⟩) (Nat.le_refl _) (.int .i64 k))
          have CWK := Lib.hid (CW.out k hlt _ HBE.out)
          have HST : Hid (hourF b c d l op m wanted (1001 - k) k = if wanted ≤ wage k b c d l op m then ((k : Int), true) else hourF b c d l op m wanted (1001 - (k + 1)) ((k + 1 : Nat) : Int)) := Lib.hid (by rw [show 1001 - k = (1001 - (k + 1)) + 1 from by omega]; simp [hourF])
          generalize wage k b c d l op m = v at *
          by_cases hv : wanted ≤ v
          · have HE := Lib.hid (show hourF b c d l op m wanted 1001 0 = ((k : Int), true) by rw [← HR.out, HST.out, if_pos hv])
            go_wp2_with (go_at_call 57; refine (CWK.out).mono ?_; rintro e w2 ⟨rfl, hb2⟩; have HB2 := Lib.hid (HBE.out.trans (hb2.mono HBE.out.size)); clear hb2)
            go_ret2
            exact ⟨ret_ib (by rw [HE.out]), HB2.out⟩
          · have HE := Lib.hid (show hourF b c d l op m wanted (1001 - (k + 1)) ((k + 1 : Nat) : Int) = hourF b c d l op m wanted 1001 0 by rw [← HR.out, HST.out, if_neg hv])
            go_wp2_with (go_at_call 57; refine (CWK.out).mono ?_; rintro e w2 ⟨rfl, hb2⟩; have HBX3 := Lib.hid (HBX2.out.below hb2 HBX2.out.lt); have HB2 := Lib.hid (HBE.out.trans (hb2.mono HBE.out.size)); clear hb2)
            go_roundw
            case rel => exact ⟨k + 1, k, by omega, by go_num, HE.out, HBX3.out, HB2.out⟩
            case measure => simp [intOf]; omega
        · have HE := Lib.hid (show hourF b c d l op m wanted 1001 0 = (0, false) by rw [← HR.out, show 1001 - k = 0 from by omega]; rfl)
          go_wp2
          go_ret2
          exact ⟨ret_ib (by rw [HE.out]), HB.out⟩
set_option maxHeartbeats 1000000 in
theorem implHourFor_any (a b c d : Int) (A : Option Addr) (n cc : Nat) (l : List S3) (op m wanted : Int) (w : World) (hn : n ≤ 1000000000) (h : Reads w 3 A n (rows3 l)) (hnc : n ≤ cc) :
    Calls Try.prog 24 #[.agg #[.int .i64 a, .int .i64 b, .int .i64 c, .int .i64 d], .slice A n cc, .int .i64 op, .int .i64 m, .int .i64 wanted] w fun e w' => e = .returned (.tuple #[.int .i64 (hourR a b c d l op m wanted).1, .bool (hourR a b c d l op m wanted).2]) ∧ Below w.heap.size w w' := by
  have ca := fun W (hW : Below w.heap.size w W) => implWageOf_any a b c d A n cc l op m W hn (h.below hW) hnc
  cases hin : inB wanted 0 1000000 with
  | false =>
    have hr : hourR a b c d l op m wanted = (0, false) := by simp [hourR, hin]
    rw [hr]
    clear ca hr h
    go_enter Try.func24, Try.ntmps24
    go_wp2_with (go_at_call 50; refine (within_any _ _ _ _).mono ?_; rintro e w' ⟨rfl, rfl⟩)
    go_ret2
    exact ⟨rfl, ((Below.refl _ _).alloc (Nat.le_refl _) _)⟩
  | true =>
    cases hask : askB a b c d l op m with
    | false =>
      have hr0 : wageR a b c d l op m = (0, false) := by simp [wageR, hask]
      simp only [hr0] at ca
      have hr : hourR a b c d l op m wanted = (0, false) := by simp [hourR, hask]
      rw [hr]
      have CA := Lib.hid ca
      clear ca hr h hask hr0
      go_enter Try.func24, Try.ntmps24
      go_wp2_with (first | (go_at_call 22; refine (CA.out _ ((Below.refl _ _).alloc (Nat.le_refl _) _)).mono ?_; rintro e w1 ⟨rfl, hb1⟩; have HBX := Lib.hid ((Box4.new w 25 (.int .i64 a) (.int .i64 b) (.int .i64 c) (.int .i64 d)).below hb1 (by simp)); have HB1 := Lib.hid (((Below.refl _ _).alloc (Nat.le_refl _) _).trans (hb1.mono (by simp))); clear hb1) | (go_at_call 50; refine (within_any _ _ _ _).mono ?_; rintro e w' ⟨rfl, rfl⟩))
      go_ret2
      exact ⟨rfl, HB1.out⟩
    | true =>
      have hr0 : wageR a b c d l op m = (wage a b c d l op m, true) := by simp [wageR, hask]
      simp only [hr0] at ca
      have CA := Lib.hid ca
      obtain ⟨hp, hg, hop, hm⟩ := askB_of hask
      have hr : hourR a b c d l op m wanted = hourF b c d l op m wanted 1001 0 := by simp [hourR, hin, hask]
      rw [hr]
      have CW := Lib.hid (fun (k : Nat) (hk : k ≤ 1000) W (hW : Below w.heap.size w W) => wageOfI_any k b c d A n cc l op m W (payB_hour hp k hk) hg hop (inB_true.1 hm) hnc (h.below hW))
      clear ca hr h hask hp hg hop hm hr0
      go_enter Try.func24, Try.ntmps24
      go_wp2_with (first | (go_at_call 22; refine (CA.out _ ((Below.refl _ _).alloc (Nat.le_refl _) _)).mono ?_; rintro e w1 ⟨rfl, hb1⟩; have HBX := Lib.hid ((Box4.new w 25 (.int .i64 a) (.int .i64 b) (.int .i64 c) (.int .i64 d)).below hb1 (by simp)); have HB1 := Lib.hid (((Below.refl _ _).alloc (Nat.le_refl _) _).trans (hb1.mono (by simp))); clear hb1) | (go_at_call 50; refine (within_any _ _ _ _).mono ?_; rintro e w' ⟨rfl, rfl⟩))
      go_loopw [14] (fun i wr => ∃ k : Nat, ∃ u : Int, k ≤ 1001 ∧ i = .int .i64 k ∧ hourF b c d l op m wanted (1001 - k) k = hourF b c d l op m wanted 1001 0 ∧ Box4 wr w.heap.size 25 (.int .i64 u) (.int .i64 b) (.int .i64 c) (.int .i64 d) ∧ Below w.heap.size w wr) (fun i _ => 1001 - (intOf i).toNat)
      case atStart => exact ⟨0, a, by omega, rfl, rfl, HBX.out, HB1.out⟩
      case round =>
        obtain ⟨k, u, hk, rfl, hrel, hbx, hb⟩ := hrel
        have HR := Lib.hid hrel; clear hrel
        have HBX := Lib.hid hbx; clear hbx
        have HB := Lib.hid hb; clear hb
        by_cases hlt : k ≤ 1000
        · have HBX2 := Lib.hid (HBX.out.set_0 (.int .i64 k))
          obtain ⟨k0, k1, k2, k3⟩ := HBX.out.cells
          obtain ⟨f0, _⟩ := HBX.out.frozen
          obtain ⟨s0, s1, s2, s3⟩ := HBX2.out.cells
          have HBE := Lib.hid (HB.out.setCell (p := ⟨w.heap.size, 0, none⟩) (Nat.le_refl _) (.int .i64 k))
          have CWK := Lib.hid (CW.out k hlt _ HBE.out)
          have HST : Hid (hourF b c d l op m wanted (1001 - k) k = if wanted ≤ wage k b c d l op m then ((k : Int), true) else hourF b c d l op m wanted (1001 - (k + 1)) ((k + 1 : Nat) : Int)) := Lib.hid (by rw [show 1001 - k = (1001 - (k + 1)) + 1 from by omega]; simp [hourF])
          generalize wage k b c d l op m = v at *
          by_cases hv : wanted ≤ v
          · have HE := Lib.hid (show hourF b c d l op m wanted 1001 0 = ((k : Int), true) by rw [← HR.out, HST.out, if_pos hv])
            go_wp2_with (go_at_call 58; refine (CWK.out).mono ?_; rintro e w2 ⟨rfl, hb2⟩; have HB2 := Lib.hid (HBE.out.trans (hb2.mono HBE.out.size)); clear hb2)
            go_ret2
            exact ⟨ret_ib (by rw [HE.out]), HB2.out⟩
          · have HE := Lib.hid (show hourF b c d l op m wanted (1001 - (k + 1)) ((k + 1 : Nat) : Int) = hourF b c d l op m wanted 1001 0 by rw [← HR.out, HST.out, if_neg hv])
            go_wp2_with (go_at_call 58; refine (CWK.out).mono ?_; rintro e w2 ⟨rfl, hb2⟩; have HBX3 := Lib.hid (HBX2.out.below hb2 HBX2.out.lt); have HB2 := Lib.hid (HBE.out.trans (hb2.mono HBE.out.size)); clear hb2)
            go_roundw
            case rel => exact ⟨k + 1, k, by omega, by go_num, HE.out, HBX3.out, HB2.out⟩
            case measure => simp [intOf]; omega
        · have HE := Lib.hid (show hourF b c d l op m wanted 1001 0 = (0, false) by rw [← HR.out, show 1001 - k = 0 from by omega]; rfl)
          go_wp2
          go_ret2
          exact ⟨ret_ib (by rw [HE.out]), HB.out⟩
set_option maxHeartbeats 4000000 in
set_option maxRecDepth 100000 in
theorem law_FnExactHourFor (w : World) {v0 v1 v2 v3 v4 : Value} (h0 : IsAgg4 v0) (h1 : IsRows3 w v1) (h2 : IsInt v2) (h3 : IsInt v3) (h4 : IsInt v4) :
    Calls Try.prog 6 #[v0, v1, v2, v3, v4] w fun e w' => e = .returned (.bool true) ∧ Below w.heap.size w w' := by
  obtain ⟨a0, b0, c0, d0, rfl, _⟩ := h0
  obtain ⟨A1, n1, c1, xs1, rfl, hnc1, hcm1, _, hr1, _⟩ := h1
  obtain ⟨a2, rfl, _⟩ := h2
  obtain ⟨a3, rfl, _⟩ := h3
  obtain ⟨a4, rfl, _⟩ := h4
  have HR1 := Lib.hid ((hr1.alloc (.cells #[.int .i64 a0, .int .i64 b0, .int .i64 c0, .int .i64 d0] 23))); clear hr1
  by_cases hn1 : n1 ≤ 1048576
  rotate_left
  · go_enter Try.func6, Try.ntmps6
    go_wp2_with fail
    refine (szShiftS_big A1 n1 c1 1048576 _ (by omega) (by omega) (by omega)).mono ?_
    rintro e w' ⟨rfl, rfl⟩
    go_wp2_with fail
    go_ret
    exact ⟨rfl, ((Below.refl _ _).alloc (by first | exact Nat.le_refl _ | (simp; done) | (simp; omega)) _)⟩
  obtain ⟨S0, hS0⟩ : ∃ S0, S0 = (w.alloc (.cells #[.int .i64 a0, .int .i64 b0, .int .i64 c0, .int .i64 d0] 23)) := ⟨_, rfl⟩
  have KB0 : Hid (∀ W, Below S0.heap.size S0 W → W.cell? ⟨w.heap.size, 0, none⟩ = some (.int .i64 a0) ∧ W.cell? ⟨w.heap.size, 1, none⟩ = some (.int .i64 b0) ∧ W.cell? ⟨w.heap.size, 2, none⟩ = some (.int .i64 c0) ∧ W.cell? ⟨w.heap.size, 3, none⟩ = some (.int .i64 d0)) := Lib.hid (by
    intro W hW; subst hS0; exact box4 hW)
  have HS0 := Lib.hid hS0
  have BW0 : Hid (Below w.heap.size w S0 ∧ w.heap.size ≤ S0.heap.size) := Lib.hid (by subst hS0; exact ⟨((Below.refl _ _).alloc (by first | exact Nat.le_refl _ | (simp; done) | (simp; omega)) _), by simp; try omega⟩)
  rw [← hS0] at HR1
  clear hS0
  go_enter Try.func6, Try.ntmps6
  go_wp2_with fail
  refine (szShiftS_ok A1 n1 c1 1048576 _ (by omega) (by omega)).mono ?_
  rintro e w' ⟨rfl, rfl⟩
  have BB0 : Hid (Below S0.heap.size S0 S0) := Lib.hid (Below.refl _ _)
  try rw [← HS0.out]
  obtain ⟨ka0, kb0, kc0, kd0⟩ := KB0.out S0 BB0.out
  go_wp2_with fail
  try rw [← HS0.out]
  clear ka0 kb0 kc0 kd0
  refine (toPay_any a0 b0 c0 d0 S0).mono ?_
  rintro e w1 ⟨rfl, hb⟩
  have B0 := Lib.hid hb; clear hb
  have Z0 := Lib.hid (B0.out.size)
  have BB1 := Lib.hid (BB0.out.trans (B0.out.mono BB0.out.size))
  obtain ⟨ka0, kb0, kc0, kd0⟩ := KB0.out w1 BB1.out
  go_wp2_with fail
  clear ka0 kb0 kc0 kd0
  refine (toShiftS_any A1 n1 c1 xs1 w1 (by omega) (HR1.out.below BB1.out)).mono ?_
  rintro e w2 ⟨As1, cs1, rfl, hown, hb⟩
  have Os1_2 := Lib.hid hown; clear hown
  have Ls1 := Lib.hid (own_lt Os1_2.out)
  have B1 := Lib.hid hb; clear hb
  have Z1 := Lib.hid (B1.out.size)
  have BB2 := Lib.hid (BB1.out.trans (B1.out.mono BB1.out.size))
  obtain ⟨ka0, kb0, kc0, kd0⟩ := KB0.out w2 BB2.out
  go_wp2_with fail
  clear ka0 kb0 kc0 kd0
  refine (specHourFor_any a0 b0 c0 d0 As1 n1 cs1 xs1 a2 a3 a4 w2 (by omega) (Reads.of_own Os1_2.out) (own_cap Os1_2.out)).mono ?_
  rintro e w3 ⟨rfl, hb⟩
  have B2 := Lib.hid hb; clear hb
  have Z2 := Lib.hid (B2.out.size)
  have BB3 := Lib.hid (BB2.out.trans (B2.out.mono BB2.out.size))
  have Os1_3 := Lib.hid (own_below Os1_2.out B2.out)
  obtain ⟨ka0, kb0, kc0, kd0⟩ := KB0.out w3 BB3.out
  go_wp2_with fail
  clear ka0 kb0 kc0 kd0
  refine (toShiftS_any A1 n1 c1 xs1 w3 (by omega) (HR1.out.below BB3.out)).mono ?_
  rintro e w4 ⟨Ax1, cx1, rfl, hown, hb⟩
  have Ox1_4 := Lib.hid hown; clear hown
  have Lx1 := Lib.hid (own_lt Ox1_4.out)
  have B3 := Lib.hid hb; clear hb
  have Z3 := Lib.hid (B3.out.size)
  have BB4 := Lib.hid (BB3.out.trans (B3.out.mono BB3.out.size))
  obtain ⟨ka0, kb0, kc0, kd0⟩ := KB0.out w4 BB4.out
  go_wp2_with fail
  clear ka0 kb0 kc0 kd0
  refine (toPay_any a0 b0 c0 d0 w4).mono ?_
  rintro e w5 ⟨rfl, hb⟩
  have B4 := Lib.hid hb; clear hb
  have Z4 := Lib.hid (B4.out.size)
  have BB5 := Lib.hid (BB4.out.trans (B4.out.mono BB4.out.size))
  have Ox1_5 := Lib.hid (own_below Ox1_4.out B4.out)
  obtain ⟨ka0, kb0, kc0, kd0⟩ := KB0.out w5 BB5.out
  go_wp2_with fail
  clear ka0 kb0 kc0 kd0
  refine (implHourFor_any a0 b0 c0 d0 Ax1 n1 cx1 xs1 a2 a3 a4 w5 (by omega) (Reads.of_own Ox1_5.out) (own_cap Ox1_5.out)).mono ?_
  rintro e w6 ⟨rfl, hb⟩
  have B5 := Lib.hid hb; clear hb
  have Z5 := Lib.hid (B5.out.size)
  have BB6 := Lib.hid (BB5.out.trans (B5.out.mono BB5.out.size))
  have Ox1_6 := Lib.hid (own_below Ox1_5.out B5.out)
  obtain ⟨ka0, kb0, kc0, kd0⟩ := KB0.out w6 BB6.out
  go_wp2_with fail
  clear ka0 kb0 kc0 kd0
  refine (toShiftS_any A1 n1 c1 xs1 w6 (by omega) (HR1.out.below BB6.out)).mono ?_
  rintro e w7 ⟨At1, ct1, rfl, hown, hb⟩
  have Ot1_7 := Lib.hid hown; clear hown
  have Lt1 := Lib.hid (own_lt Ot1_7.out)
  have B6 := Lib.hid hb; clear hb
  have Z6 := Lib.hid (B6.out.size)
  have BB7 := Lib.hid (BB6.out.trans (B6.out.mono BB6.out.size))
  have Ox1_7 := Lib.hid (own_below Ox1_6.out B6.out)
  obtain ⟨ka0, kb0, kc0, kd0⟩ := KB0.out w7 BB7.out
  go_wp2_with fail
  clear ka0 kb0 kc0 kd0
  refine (eqShiftS_any Ax1 At1 n1 cx1 ct1 xs1 w7 (by omega) (Reads.of_own Ox1_7.out) (Reads.of_own Ot1_7.out)).mono ?_
  rintro e w8 ⟨rfl, hb⟩
  have B7 := Lib.hid hb; clear hb
  have Z7 := Lib.hid (B7.out.size)
  have BB8 := Lib.hid (BB7.out.trans (B7.out.mono BB7.out.size))
  have Ox1_8 := Lib.hid (own_below Ox1_7.out B7.out)
  have Ot1_8 := Lib.hid (own_below Ot1_7.out B7.out)
  go_wp2_with fail
  go_ret
  exact ⟨rfl, BW0.out.1.trans (BB8.out.mono BW0.out.2)⟩

end Go.Proofs.Ytiofgoppgdgbaaa
