/- Contracts of WageBill of both packages, and the law over them. No conditions. -/
import Derived.Test.YtiofgoppgdgbaaaDoorSh11
namespace Go.Proofs.YtiofgoppgdgbaaaDoor
set_option linter.unusedSimpArgs false
set_option linter.unusedVariables false
open Go.RowKit


set_option maxHeartbeats 1000000 in
theorem specWageBill_any (a b c d : Int) (A : Option Addr) (n cc : Nat) (l : List S3) (B : Option Addr) (m mc : Nat) (ms : List Int) (w : World) (hn : n ≤ 1000000000) (h : Reads w 3 A n (rows3 l)) (hnc : n ≤ cc) (hm : m ≤ 1000000000) (hr : Reads w 1 B m (ints ms)) (hmc : m ≤ mc) :
    Calls Tryd.prog 27 #[.agg #[.int .i64 a, .int .i64 b, .int .i64 c, .int .i64 d], .slice A n cc, .slice B m mc] w fun e w' => e = .returned (.tuple #[.int .i64 (billR a b c d l ms).1, .bool (billR a b c d l ms).2]) ∧ Below w.heap.size w w' := by
  have hmx : ms.length = m := by simpa using hr.1
  have ca := fun W (hW : Below w.heap.size w W) => wgAll_any a b c d A n cc l B m mc ms W hn (h.below hW) hnc hm (hr.below hW)
  cases hask : allAsk a b c d l ms with
  | false =>
    simp only [hask] at ca
    have hres : billR a b c d l ms = (0, false) := by simp [billR, hask]
    rw [hres]
    have CA := Lib.hid ca
    clear ca hres h hask hr hmx
    go_enter Tryd.func27, Tryd.ntmps27
    go_wp2_with (go_at_call 30; refine (CA.out _ ((Below.refl _ _).alloc (Nat.le_refl _) _)).mono ?_; rintro e w1 ⟨rfl, hb1⟩; obtain ⟨k0, k1, k2, k3⟩ := box4 hb1; have HB1 := Lib.hid (((Below.refl _ _).alloc (Nat.le_refl _) _).trans (hb1.mono (by simp))); clear hb1)
    go_ret2
    exact ⟨rfl, HB1.out⟩
  | true =>
    simp only [hask] at ca
    have CA := Lib.hid ca
    obtain ⟨hp, hg, h30, hms⟩ := allAsk_of hask
    have hres : billR a b c d l ms = (sumL (wagesF a b c d l ms 0), true) := by simp [billR, hask]
    rw [hres]
    have hlw : (wagesF a b c d l ms 0).length = m := by simp [hmx]
    have hbd := wagesF_bd hp hg (allB_true.1 hms) 0
    have CW := Lib.hid (fun W (hW : Below w.heap.size w W) => wgWages_any a b c d A n cc l B m mc ms W (h.below hW) hnc (hr.below hW) hask)
    generalize wagesF a b c d l ms 0 = ws at *
    rw [hmx] at h30
    have CS := Lib.hid (fun W A2 c2 (hW : Reads W 1 A2 m (ints ws)) => wgSum_any A2 m c2 ws W (by omega) hW hbd)
    clear ca hres h hask hr hmx hp hg h30 hms hlw hbd
    go_enter Tryd.func27, Tryd.ntmps27
    go_wp2_with (first | (go_at_call 30; refine (CA.out _ ((Below.refl _ _).alloc (Nat.le_refl _) _)).mono ?_; rintro e w1 ⟨rfl, hb1⟩; obtain ⟨k0, k1, k2, k3⟩ := box4 hb1; have HB1 := Lib.hid (((Below.refl _ _).alloc (Nat.le_refl _) _).trans (hb1.mono (by simp))); clear hb1) | (go_at_call 31; refine (CW.out _ HB1.out).mono ?_; rintro e w2 ⟨A2, c2, rfl, hown, hb2⟩; have HR2 := Lib.hid (Reads.of_own hown); have HB2 := Lib.hid (below_then HB1.out hb2); clear hown hb2) | (go_at_call 58; refine (CS.out _ _ _ HR2.out).mono ?_; rintro e w' ⟨rfl, rfl⟩))
    go_ret2
    exact ⟨rfl, HB2.out⟩

set_option maxHeartbeats 1000000 in
theorem implWageBill_any (a b c d : Int) (A : Option Addr) (n cc : Nat) (l : List S3) (B : Option Addr) (m mc : Nat) (ms : List Int) (w : World) (hn : n ≤ 1000000000) (h : Reads w 3 A n (rows3 l)) (hnc : n ≤ cc) (hm : m ≤ 1000000000) (hr : Reads w 1 B m (ints ms)) (hmc : m ≤ mc) :
    Calls Tryd.prog 26 #[.agg #[.int .i64 a, .int .i64 b, .int .i64 c, .int .i64 d], .slice A n cc, .slice B m mc] w fun e w' => e = .returned (.tuple #[.int .i64 (billR a b c d l ms).1, .bool (billR a b c d l ms).2]) ∧ Below w.heap.size w w' := by
  have SG := Lib.hid (fun W (hW : Below w.heap.size w W) => areShifts_any A n cc l W hn hnc (h.below hW))
  have am := fun W (hW : Below w.heap.size w W) => areAllMessages_any B m mc ms W hm (hr.below hW)
  cases h3 : (decide (ms.length = 30) && allB 0 1000 ms) with
  | false =>
    rw [h3] at am
    have AM := Lib.hid am
    have H3 := Lib.hid h3
    clear am h3
    cases h1 : payB a b c d with
    | false =>
      have hres : billR a b c d l ms = (0, false) := by simp [billR, allAsk, h1]
      rw [hres]
      clear hres h hr
      go_enter Tryd.func26, Tryd.ntmps26
      go_wp2_with (first | (go_at_call 19; refine (isPay_any a b c d _).mono ?_; rintro e w1 ⟨rfl, hb1⟩; obtain ⟨k0, k1, k2, k3⟩ := box4 hb1; have HB1 := Lib.hid (((Below.refl _ _).alloc (Nat.le_refl _) _).trans (hb1.mono (by simp))); clear hb1) | (go_at_call 34; refine (SG.out _ HB1.out).mono ?_; rintro e w2 ⟨rfl, hb2⟩; replace k0 := (hb2.cell (World.block_lt_of_cell? _ _ k0)).trans k0; replace k1 := (hb2.cell (World.block_lt_of_cell? _ _ k1)).trans k1; replace k2 := (hb2.cell (World.block_lt_of_cell? _ _ k2)).trans k2; replace k3 := (hb2.cell (World.block_lt_of_cell? _ _ k3)).trans k3; have HB2 := Lib.hid (below_then HB1.out hb2); clear hb2) | (go_at_call 35; refine (AM.out _ HB2.out).mono ?_; rintro e w' ⟨rfl, rfl⟩) | (go_at_call 57; refine (CW.out _ HB2.out).mono ?_; rintro e w3 ⟨rfl, hb3⟩; have HB3 := Lib.hid (below_then HB2.out hb3); clear hb3))
      go_ret2
      exact ⟨rfl, HB1.out⟩
    | true =>
      cases h2 : goodShifts l with
      | false =>
        have hres : billR a b c d l ms = (0, false) := by simp [billR, allAsk, h1, h2]
        rw [hres]
        clear hres h hr
        go_enter Tryd.func26, Tryd.ntmps26
        go_wp2_with (first | (go_at_call 19; refine (isPay_any a b c d _).mono ?_; rintro e w1 ⟨rfl, hb1⟩; obtain ⟨k0, k1, k2, k3⟩ := box4 hb1; have HB1 := Lib.hid (((Below.refl _ _).alloc (Nat.le_refl _) _).trans (hb1.mono (by simp))); clear hb1) | (go_at_call 34; refine (SG.out _ HB1.out).mono ?_; rintro e w2 ⟨rfl, hb2⟩; replace k0 := (hb2.cell (World.block_lt_of_cell? _ _ k0)).trans k0; replace k1 := (hb2.cell (World.block_lt_of_cell? _ _ k1)).trans k1; replace k2 := (hb2.cell (World.block_lt_of_cell? _ _ k2)).trans k2; replace k3 := (hb2.cell (World.block_lt_of_cell? _ _ k3)).trans k3; have HB2 := Lib.hid (below_then HB1.out hb2); clear hb2) | (go_at_call 35; refine (AM.out _ HB2.out).mono ?_; rintro e w' ⟨rfl, rfl⟩) | (go_at_call 57; refine (CW.out _ HB2.out).mono ?_; rintro e w3 ⟨rfl, hb3⟩; have HB3 := Lib.hid (below_then HB2.out hb3); clear hb3))
        go_ret2
        exact ⟨rfl, HB2.out⟩
      | true =>
        have hres : billR a b c d l ms = (0, false) := by unfold billR allAsk; rw [H3.out]; simp
        rw [hres]
        clear hres h hr
        go_enter Tryd.func26, Tryd.ntmps26
        go_wp2_with (first | (go_at_call 19; refine (isPay_any a b c d _).mono ?_; rintro e w1 ⟨rfl, hb1⟩; obtain ⟨k0, k1, k2, k3⟩ := box4 hb1; have HB1 := Lib.hid (((Below.refl _ _).alloc (Nat.le_refl _) _).trans (hb1.mono (by simp))); clear hb1) | (go_at_call 34; refine (SG.out _ HB1.out).mono ?_; rintro e w2 ⟨rfl, hb2⟩; replace k0 := (hb2.cell (World.block_lt_of_cell? _ _ k0)).trans k0; replace k1 := (hb2.cell (World.block_lt_of_cell? _ _ k1)).trans k1; replace k2 := (hb2.cell (World.block_lt_of_cell? _ _ k2)).trans k2; replace k3 := (hb2.cell (World.block_lt_of_cell? _ _ k3)).trans k3; have HB2 := Lib.hid (below_then HB1.out hb2); clear hb2) | (go_at_call 35; refine (AM.out _ HB2.out).mono ?_; rintro e w' ⟨rfl, rfl⟩) | (go_at_call 57; refine (CW.out _ HB2.out).mono ?_; rintro e w3 ⟨rfl, hb3⟩; have HB3 := Lib.hid (below_then HB2.out hb3); clear hb3))
        go_ret2
        exact ⟨rfl, HB2.out⟩
  | true =>
    rw [h3] at am
    have AM := Lib.hid am
    have H3 := Lib.hid h3
    clear am h3
    cases h1 : payB a b c d with
    | false =>
      have hres : billR a b c d l ms = (0, false) := by simp [billR, allAsk, h1]
      rw [hres]
      clear hres h hr
      go_enter Tryd.func26, Tryd.ntmps26
      go_wp2_with (first | (go_at_call 19; refine (isPay_any a b c d _).mono ?_; rintro e w1 ⟨rfl, hb1⟩; obtain ⟨k0, k1, k2, k3⟩ := box4 hb1; have HB1 := Lib.hid (((Below.refl _ _).alloc (Nat.le_refl _) _).trans (hb1.mono (by simp))); clear hb1) | (go_at_call 34; refine (SG.out _ HB1.out).mono ?_; rintro e w2 ⟨rfl, hb2⟩; replace k0 := (hb2.cell (World.block_lt_of_cell? _ _ k0)).trans k0; replace k1 := (hb2.cell (World.block_lt_of_cell? _ _ k1)).trans k1; replace k2 := (hb2.cell (World.block_lt_of_cell? _ _ k2)).trans k2; replace k3 := (hb2.cell (World.block_lt_of_cell? _ _ k3)).trans k3; have HB2 := Lib.hid (below_then HB1.out hb2); clear hb2) | (go_at_call 35; refine (AM.out _ HB2.out).mono ?_; rintro e w' ⟨rfl, rfl⟩) | (go_at_call 57; refine (CW.out _ HB2.out).mono ?_; rintro e w3 ⟨rfl, hb3⟩; have HB3 := Lib.hid (below_then HB2.out hb3); clear hb3))
      go_ret2
      exact ⟨rfl, HB1.out⟩
    | true =>
      cases h2 : goodShifts l with
      | false =>
        have hres : billR a b c d l ms = (0, false) := by simp [billR, allAsk, h1, h2]
        rw [hres]
        clear hres h hr
        go_enter Tryd.func26, Tryd.ntmps26
        go_wp2_with (first | (go_at_call 19; refine (isPay_any a b c d _).mono ?_; rintro e w1 ⟨rfl, hb1⟩; obtain ⟨k0, k1, k2, k3⟩ := box4 hb1; have HB1 := Lib.hid (((Below.refl _ _).alloc (Nat.le_refl _) _).trans (hb1.mono (by simp))); clear hb1) | (go_at_call 34; refine (SG.out _ HB1.out).mono ?_; rintro e w2 ⟨rfl, hb2⟩; replace k0 := (hb2.cell (World.block_lt_of_cell? _ _ k0)).trans k0; replace k1 := (hb2.cell (World.block_lt_of_cell? _ _ k1)).trans k1; replace k2 := (hb2.cell (World.block_lt_of_cell? _ _ k2)).trans k2; replace k3 := (hb2.cell (World.block_lt_of_cell? _ _ k3)).trans k3; have HB2 := Lib.hid (below_then HB1.out hb2); clear hb2) | (go_at_call 35; refine (AM.out _ HB2.out).mono ?_; rintro e w' ⟨rfl, rfl⟩) | (go_at_call 57; refine (CW.out _ HB2.out).mono ?_; rintro e w3 ⟨rfl, hb3⟩; have HB3 := Lib.hid (below_then HB2.out hb3); clear hb3))
        go_ret2
        exact ⟨rfl, HB2.out⟩
      | true =>
        have hask : allAsk a b c d l ms = true := by unfold allAsk; rw [H3.out, h1, h2]; rfl
        have CW := Lib.hid (fun W (hW : Below w.heap.size w W) => wageBillI_any a b c d A n cc l B m mc ms W (h.below hW) hnc (hr.below hW) hask)
        have hres : billR a b c d l ms = (sumL (wagesF a b c d l ms 0), true) := by simp [billR, hask]
        rw [hres]
        clear hres h hr hask
        go_enter Tryd.func26, Tryd.ntmps26
        go_wp2_with (first | (go_at_call 19; refine (isPay_any a b c d _).mono ?_; rintro e w1 ⟨rfl, hb1⟩; obtain ⟨k0, k1, k2, k3⟩ := box4 hb1; have HB1 := Lib.hid (((Below.refl _ _).alloc (Nat.le_refl _) _).trans (hb1.mono (by simp))); clear hb1) | (go_at_call 34; refine (SG.out _ HB1.out).mono ?_; rintro e w2 ⟨rfl, hb2⟩; replace k0 := (hb2.cell (World.block_lt_of_cell? _ _ k0)).trans k0; replace k1 := (hb2.cell (World.block_lt_of_cell? _ _ k1)).trans k1; replace k2 := (hb2.cell (World.block_lt_of_cell? _ _ k2)).trans k2; replace k3 := (hb2.cell (World.block_lt_of_cell? _ _ k3)).trans k3; have HB2 := Lib.hid (below_then HB1.out hb2); clear hb2) | (go_at_call 35; refine (AM.out _ HB2.out).mono ?_; rintro e w' ⟨rfl, rfl⟩) | (go_at_call 57; refine (CW.out _ HB2.out).mono ?_; rintro e w3 ⟨rfl, hb3⟩; have HB3 := Lib.hid (below_then HB2.out hb3); clear hb3))
        go_ret2
        exact ⟨rfl, HB3.out⟩
end Go.Proofs.YtiofgoppgdgbaaaDoor
