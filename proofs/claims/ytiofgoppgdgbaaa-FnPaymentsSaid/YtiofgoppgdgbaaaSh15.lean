/- Contract of CheaperPay of the impl. No conditions. -/
import Derived.Test.YtiofgoppgdgbaaaSh14
namespace Go.Proofs.Ytiofgoppgdgbaaa
set_option linter.unusedSimpArgs false
set_option linter.unusedVariables false
open Go.RowKit


set_option maxRecDepth 100000 in
set_option maxHeartbeats 1000000 in
theorem implCheaper_any (a b c d a' b' c' d' : Int) (A : Option Addr) (n cc : Nat) (l : List S3) (B : Option Addr) (m mc : Nat) (ms : List Int) (w : World) (hn : n ≤ 1000000000) (h : Reads w 3 A n (rows3 l)) (hnc : n ≤ cc) (hm : m ≤ 1000000000) (hr : Reads w 1 B m (ints ms)) (hmc : m ≤ mc) :
    Calls Try.prog 39 #[.agg #[.int .i64 a, .int .i64 b, .int .i64 c, .int .i64 d], .agg #[.int .i64 a', .int .i64 b', .int .i64 c', .int .i64 d'], .slice A n cc, .slice B m mc] w fun e w' => e = .returned (.tuple #[.int .i64 (cheapR a b c d a' b' c' d' l ms).1, .bool (cheapR a b c d a' b' c' d' l ms).2]) ∧ Below w.heap.size w w' := by
  have HZ : Hid (∀ W, Below ((w.alloc (.cells #[.int .i64 a, .int .i64 b, .int .i64 c, .int .i64 d] 25)).alloc (.cells #[.int .i64 a', .int .i64 b', .int .i64 c', .int .i64 d'] 25)).heap.size ((w.alloc (.cells #[.int .i64 a, .int .i64 b, .int .i64 c, .int .i64 d] 25)).alloc (.cells #[.int .i64 a', .int .i64 b', .int .i64 c', .int .i64 d'] 25)) W → Below w.heap.size w W) := Lib.hid (fun W hW => (((Below.refl _ _).alloc (Nat.le_refl _) _).alloc (by simp) _).trans (hW.mono (by simp; omega)))
  have KK := Lib.hid (fun W hW => two_boxes (w := w) (t := 25) (v0 := .int .i64 a) (v1 := .int .i64 b) (v2 := .int .i64 c) (v3 := .int .i64 d) (u0 := .int .i64 a') (u1 := .int .i64 b') (u2 := .int .i64 c') (u3 := .int .i64 d') W hW)
  have SG := Lib.hid (fun W (hW : Below w.heap.size w W) => areShifts_any A n cc l W hn hnc (h.below hW))
  have AM := Lib.hid (fun W (hW : Below w.heap.size w W) => areAllMessages_any B m mc ms W hm (hr.below hW))
  cases h1 : payB a b c d with
  | false =>
    have hres : cheapR a b c d a' b' c' d' l ms = (0, false) := by simp [cheapR, cheapB, allAsk, h1]
    rw [hres]
    clear hres h hr
    go_enter Try.func39, Try.ntmps39
    go_wp2_with (first | (go_at_call_of 15 (Value.int IntKind.i64 a); refine (isPay_any a b c d _).mono ?_; rintro e w1 ⟨rfl, hS⟩; obtain ⟨⟨k0, k1, k2, k3⟩, k4, k5, k6, k7⟩ := KK.out _ hS; have HS := Lib.hid hS; clear hS) | (go_at_call_of 15 (Value.int IntKind.i64 a'); refine (isPay_any a' b' c' d' _).mono ?_; rintro e w2 ⟨rfl, hS⟩; have HS := Lib.hid (below_then HS.out hS); clear hS k0 k1 k2 k3 k4 k5 k6 k7) | (go_at_call 54; refine (SG.out _ (HZ.out _ HS.out)).mono ?_; rintro e w3 ⟨rfl, hS⟩; have HS := Lib.hid (below_then HS.out hS); clear hS) | (go_at_call 68; refine (AM.out _ (HZ.out _ HS.out)).mono ?_; rintro e w' ⟨rfl, rfl⟩))
    go_ret2
    exact ⟨rfl, HZ.out _ HS.out⟩
  | true =>
    cases h2 : payB a' b' c' d' with
    | false =>
      have hres : cheapR a b c d a' b' c' d' l ms = (0, false) := by simp [cheapR, cheapB, allAsk, h2]
      rw [hres]
      clear hres h hr
      go_enter Try.func39, Try.ntmps39
      go_wp2_with (first | (go_at_call_of 15 (Value.int IntKind.i64 a); refine (isPay_any a b c d _).mono ?_; rintro e w1 ⟨rfl, hS⟩; obtain ⟨⟨k0, k1, k2, k3⟩, k4, k5, k6, k7⟩ := KK.out _ hS; have HS := Lib.hid hS; clear hS) | (go_at_call_of 15 (Value.int IntKind.i64 a'); refine (isPay_any a' b' c' d' _).mono ?_; rintro e w2 ⟨rfl, hS⟩; have HS := Lib.hid (below_then HS.out hS); clear hS k0 k1 k2 k3 k4 k5 k6 k7) | (go_at_call 54; refine (SG.out _ (HZ.out _ HS.out)).mono ?_; rintro e w3 ⟨rfl, hS⟩; have HS := Lib.hid (below_then HS.out hS); clear hS) | (go_at_call 68; refine (AM.out _ (HZ.out _ HS.out)).mono ?_; rintro e w' ⟨rfl, rfl⟩))
      go_ret2
      exact ⟨rfl, HZ.out _ HS.out⟩
    | true =>
      cases h3 : goodShifts l with
      | false =>
        have hres : cheapR a b c d a' b' c' d' l ms = (0, false) := by simp [cheapR, cheapB, allAsk, h3]
        rw [hres]
        clear hres h hr
        go_enter Try.func39, Try.ntmps39
        go_wp2_with (first | (go_at_call_of 15 (Value.int IntKind.i64 a); refine (isPay_any a b c d _).mono ?_; rintro e w1 ⟨rfl, hS⟩; obtain ⟨⟨k0, k1, k2, k3⟩, k4, k5, k6, k7⟩ := KK.out _ hS; have HS := Lib.hid hS; clear hS) | (go_at_call_of 15 (Value.int IntKind.i64 a'); refine (isPay_any a' b' c' d' _).mono ?_; rintro e w2 ⟨rfl, hS⟩; have HS := Lib.hid (below_then HS.out hS); clear hS k0 k1 k2 k3 k4 k5 k6 k7) | (go_at_call 54; refine (SG.out _ (HZ.out _ HS.out)).mono ?_; rintro e w3 ⟨rfl, hS⟩; have HS := Lib.hid (below_then HS.out hS); clear hS) | (go_at_call 68; refine (AM.out _ (HZ.out _ HS.out)).mono ?_; rintro e w' ⟨rfl, rfl⟩))
        go_ret2
        exact ⟨rfl, HZ.out _ HS.out⟩
      | true =>
        cases h4 : (decide (ms.length = 30) && allB 0 1000 ms) with
        | false =>
          rw [h4] at AM
          have H4 := Lib.hid h4; clear h4
          have hres : cheapR a b c d a' b' c' d' l ms = (0, false) := by unfold cheapR cheapB allAsk; rw [H4.out]; simp
          rw [hres]
          clear hres h hr
          go_enter Try.func39, Try.ntmps39
          go_wp2_with (first | (go_at_call_of 15 (Value.int IntKind.i64 a); refine (isPay_any a b c d _).mono ?_; rintro e w1 ⟨rfl, hS⟩; obtain ⟨⟨k0, k1, k2, k3⟩, k4, k5, k6, k7⟩ := KK.out _ hS; have HS := Lib.hid hS; clear hS) | (go_at_call_of 15 (Value.int IntKind.i64 a'); refine (isPay_any a' b' c' d' _).mono ?_; rintro e w2 ⟨rfl, hS⟩; have HS := Lib.hid (below_then HS.out hS); clear hS k0 k1 k2 k3 k4 k5 k6 k7) | (go_at_call 54; refine (SG.out _ (HZ.out _ HS.out)).mono ?_; rintro e w3 ⟨rfl, hS⟩; have HS := Lib.hid (below_then HS.out hS); clear hS) | (go_at_call 68; refine (AM.out _ (HZ.out _ HS.out)).mono ?_; rintro e w' ⟨rfl, rfl⟩))
          go_ret2
          exact ⟨rfl, HZ.out _ HS.out⟩
        | true =>
          rw [h4] at AM
          have hask : allAsk a b c d l ms = true := by unfold allAsk; rw [h4, h1, h3]; rfl
          have hask' := allAsk_other hask h2
          have H4 := Lib.hid h4; clear h4
          have hres : cheapR a b c d a' b' c' d' l ms = (sgnI (billV a b c d l ms) (billV a' b' c' d' l ms), true) := by simp [cheapR, cheapB, hask, h2]
          rw [hres]
          have CWA := Lib.hid (fun W (hW : Below ((w.alloc (.cells #[.int .i64 a, .int .i64 b, .int .i64 c, .int .i64 d] 25)).alloc (.cells #[.int .i64 a', .int .i64 b', .int .i64 c', .int .i64 d'] 25)).heap.size ((w.alloc (.cells #[.int .i64 a, .int .i64 b, .int .i64 c, .int .i64 d] 25)).alloc (.cells #[.int .i64 a', .int .i64 b', .int .i64 c', .int .i64 d'] 25)) W) => (wageBillI_any a b c d A n cc l B m mc ms W (h.below (HZ.out _ hW)) hnc (hr.below (HZ.out _ hW)) hask).mono (R' := fun e w' => e = .returned (.int .i64 (billV a b c d l ms)) ∧ Below ((w.alloc (.cells #[.int .i64 a, .int .i64 b, .int .i64 c, .int .i64 d] 25)).alloc (.cells #[.int .i64 a', .int .i64 b', .int .i64 c', .int .i64 d'] 25)).heap.size ((w.alloc (.cells #[.int .i64 a, .int .i64 b, .int .i64 c, .int .i64 d] 25)).alloc (.cells #[.int .i64 a', .int .i64 b', .int .i64 c', .int .i64 d'] 25)) w') (fun e w' ⟨h1, h3⟩ => ⟨h1, below_then hW h3⟩))
          have CWB := Lib.hid (fun W (hW : Below ((w.alloc (.cells #[.int .i64 a, .int .i64 b, .int .i64 c, .int .i64 d] 25)).alloc (.cells #[.int .i64 a', .int .i64 b', .int .i64 c', .int .i64 d'] 25)).heap.size ((w.alloc (.cells #[.int .i64 a, .int .i64 b, .int .i64 c, .int .i64 d] 25)).alloc (.cells #[.int .i64 a', .int .i64 b', .int .i64 c', .int .i64 d'] 25)) W) => (wageBillI_any a' b' c' d' A n cc l B m mc ms W (h.below (HZ.out _ hW)) hnc (hr.below (HZ.out _ hW)) hask').mono (R' := fun e w' => e = .returned (.int .i64 (billV a' b' c' d' l ms)) ∧ Below ((w.alloc (.cells #[.int .i64 a, .int .i64 b, .int .i64 c, .int .i64 d] 25)).alloc (.cells #[.int .i64 a', .int .i64 b', .int .i64 c', .int .i64 d'] 25)).heap.size ((w.alloc (.cells #[.int .i64 a, .int .i64 b, .int .i64 c, .int .i64 d] 25)).alloc (.cells #[.int .i64 a', .int .i64 b', .int .i64 c', .int .i64 d'] 25)) w') (fun e w' ⟨h1, h3⟩ => ⟨h1, below_then hW h3⟩))
          generalize billV a b c d l ms = x at *
          generalize billV a' b' c' d' l ms = y at *
          clear hres h hr hask hask'
          go_enter Try.func39, Try.ntmps39
          go_wp2_with (first | (go_at_call_of 15 (Value.int IntKind.i64 a); refine (isPay_any a b c d _).mono ?_; rintro e w1 ⟨rfl, hS⟩; obtain ⟨⟨k0, k1, k2, k3⟩, k4, k5, k6, k7⟩ := KK.out _ hS; have HS := Lib.hid hS; clear hS) | (go_at_call_of 15 (Value.int IntKind.i64 a'); refine (isPay_any a' b' c' d' _).mono ?_; rintro e w2 ⟨rfl, hS⟩; have HS := Lib.hid (below_then HS.out hS); clear hS k0 k1 k2 k3 k4 k5 k6 k7) | (go_at_call 54; refine (SG.out _ (HZ.out _ HS.out)).mono ?_; rintro e w3 ⟨rfl, hS⟩; have HS := Lib.hid (below_then HS.out hS); clear hS) | (go_at_call 68; refine (AM.out _ (HZ.out _ HS.out)).mono ?_; rintro e w' ⟨rfl, rfl⟩))
          have hS := HS.out.drew
          obtain ⟨⟨k0, k1, k2, k3⟩, k4, k5, k6, k7⟩ := KK.out _ hS
          go_region_with (first | (go_at_call_of 69 (Value.int IntKind.i64 a); refine (CWA.out _ (by assumption)).mono ?_; rintro e W1 ⟨rfl, hS⟩; obtain ⟨⟨k0, k1, k2, k3⟩, k4, k5, k6, k7⟩ := KK.out _ hS) | (go_at_call_of 69 (Value.int IntKind.i64 a'); refine (CWB.out _ (by assumption)).mono ?_; rintro e W1 ⟨rfl, hS⟩; obtain ⟨⟨k0, k1, k2, k3⟩, k4, k5, k6, k7⟩ := KK.out _ hS) | (go_at_call 71; refine (cmpCompare_any _ _ _).mono ?_; rintro e w' ⟨rfl, rfl⟩))
          all_goals
            go_wp2
            go_ret2
            exact ⟨rfl, HZ.out _ (by assumption)⟩

end Go.Proofs.Ytiofgoppgdgbaaa
