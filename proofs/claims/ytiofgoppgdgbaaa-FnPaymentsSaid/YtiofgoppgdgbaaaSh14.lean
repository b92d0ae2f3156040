/- Contracts of CheaperPay of both packages. No conditions. -/
import Derived.Test.YtiofgoppgdgbaaaSh13
namespace Go.Proofs.Ytiofgoppgdgbaaa
set_option linter.unusedSimpArgs false
set_option linter.unusedVariables false
open Go.RowKit

def billV (a b c d : Int) (l : List S3) (ms : List Int) : Int := sumL (wagesF a b c d l ms 0)
def cheapB (a b c d a' b' c' d' : Int) (l : List S3) (ms : List Int) : Bool := allAsk a b c d l ms && payB a' b' c' d'
def cheapR (a b c d a' b' c' d' : Int) (l : List S3) (ms : List Int) : Int × Bool := if cheapB a b c d a' b' c' d' l ms = true then (sgnI (billV a b c d l ms) (billV a' b' c' d' l ms), true) else (0, false)
theorem allAsk_other {a b c d a' b' c' d' : Int} {l : List S3} {ms : List Int} (h : allAsk a b c d l ms = true) (h' : payB a' b' c' d' = true) : allAsk a' b' c' d' l ms = true := by
  simp only [allAsk, Bool.and_eq_true] at h ⊢
  exact ⟨h', h.2⟩
theorem billV_bd {a b c d : Int} {l : List S3} {ms : List Int} (h : allAsk a b c d l ms = true) : 0 ≤ billV a b c d l ms ∧ billV a b c d l ms ≤ 30000000000 := by
  obtain ⟨hp, hg, h30, hms⟩ := allAsk_of h
  have := sumL_bd _ 0 1000000000 (wagesF_bd hp hg (allB_true.1 hms) 0)
  rw [length_wagesF, h30] at this
  unfold billV
  omega
theorem l1Sign_any (x y : Int) (w : World) :
    Calls Try.prog 70 #[.int .i64 (x - y)] w fun e w' => e = .returned (.int .i64 (sgnI x y)) ∧ w = w' := by
  generalize hz : x - y = z
  by_cases h1 : 0 < z
  · have : sgnI x y = 1 := by unfold sgnI; rw [if_neg (by omega), if_pos (by omega)]
    rw [this]
    clear hz
    go_enter Try.func70, Try.ntmps70
    go_wp2
    go_ret
    exact ⟨rfl, rfl⟩
  · by_cases h2 : z < 0
    · have : sgnI x y = -1 := by unfold sgnI; rw [if_pos (by omega)]
      rw [this]
      clear hz
      go_enter Try.func70, Try.ntmps70
      go_wp2
      go_ret
      exact ⟨rfl, rfl⟩
    · have : sgnI x y = 0 := by unfold sgnI; rw [if_neg (by omega), if_neg (by omega)]
      rw [this]
      clear hz
      go_enter Try.func70, Try.ntmps70
      go_wp2
      go_ret
      exact ⟨rfl, rfl⟩
/-- A box of four cells in every world that leaves what was there alone. -/
theorem two_boxes {w : World} {t : TypeId} {v0 v1 v2 v3 u0 u1 u2 u3 : Value} (W : World) (hW : Below ((w.alloc (.cells #[v0, v1, v2, v3] t)).alloc (.cells #[u0, u1, u2, u3] t)).heap.size ((w.alloc (.cells #[v0, v1, v2, v3] t)).alloc (.cells #[u0, u1, u2, u3] t)) W) :
    (W.cell? ⟨w.heap.size, 0, none⟩ = some v0 ∧ W.cell? ⟨w.heap.size, 1, none⟩ = some v1 ∧ W.cell? ⟨w.heap.size, 2, none⟩ = some v2 ∧ W.cell? ⟨w.heap.size, 3, none⟩ = some v3) ∧
    W.cell? ⟨w.heap.size + 1, 0, none⟩ = some u0 ∧ W.cell? ⟨w.heap.size + 1, 1, none⟩ = some u1 ∧ W.cell? ⟨w.heap.size + 1, 2, none⟩ = some u2 ∧ W.cell? ⟨w.heap.size + 1, 3, none⟩ = some u3 := by
  have b1 : Box4 ((w.alloc (.cells #[v0, v1, v2, v3] t)).alloc (.cells #[u0, u1, u2, u3] t)) w.heap.size t v0 v1 v2 v3 := (Box4.new w t v0 v1 v2 v3).below ((Below.refl _ _).alloc (Nat.le_refl _) _) (by simp)
  have b2 := Box4.new (w.alloc (.cells #[v0, v1, v2, v3] t)) t u0 u1 u2 u3
  have e : (w.alloc (.cells #[v0, v1, v2, v3] t)).heap.size = w.heap.size + 1 := by simp
  rw [e] at b2
  exact ⟨(b1.below hW (by simp; omega)).cells, (b2.below hW (by simp)).cells⟩

set_option maxRecDepth 100000 in
set_option maxHeartbeats 1000000 in
theorem specCheaper_any (a b c d a' b' c' d' : Int) (A : Option Addr) (n cc : Nat) (l : List S3) (B : Option Addr) (m mc : Nat) (ms : List Int) (w : World) (hn : n ≤ 1000000000) (h : Reads w 3 A n (rows3 l)) (hnc : n ≤ cc) (hm : m ≤ 1000000000) (hr : Reads w 1 B m (ints ms)) (hmc : m ≤ mc) :
    Calls Try.prog 38 #[.agg #[.int .i64 a, .int .i64 b, .int .i64 c, .int .i64 d], .agg #[.int .i64 a', .int .i64 b', .int .i64 c', .int .i64 d'], .slice A n cc, .slice B m mc] w fun e w' => e = .returned (.tuple #[.int .i64 (cheapR a b c d a' b' c' d' l ms).1, .bool (cheapR a b c d a' b' c' d' l ms).2]) ∧ Below w.heap.size w w' := by
  have hmx : ms.length = m := by simpa using hr.1
  have HZ : Hid (∀ W, Below ((w.alloc (.cells #[.int .i64 a, .int .i64 b, .int .i64 c, .int .i64 d] 25)).alloc (.cells #[.int .i64 a', .int .i64 b', .int .i64 c', .int .i64 d'] 25)).heap.size ((w.alloc (.cells #[.int .i64 a, .int .i64 b, .int .i64 c, .int .i64 d] 25)).alloc (.cells #[.int .i64 a', .int .i64 b', .int .i64 c', .int .i64 d'] 25)) W → Below w.heap.size w W) := Lib.hid (fun W hW => (((Below.refl _ _).alloc (Nat.le_refl _) _).alloc (by simp) _).trans (hW.mono (by simp; omega)))
  have KK := Lib.hid (fun W hW => two_boxes (w := w) (t := 25) (v0 := .int .i64 a) (v1 := .int .i64 b) (v2 := .int .i64 c) (v3 := .int .i64 d) (u0 := .int .i64 a') (u1 := .int .i64 b') (u2 := .int .i64 c') (u3 := .int .i64 d') W hW)
  have ca := fun W (hW : Below w.heap.size w W) => wgAll_any a b c d A n cc l B m mc ms W hn (h.below hW) hnc hm (hr.below hW)
  cases hask : allAsk a b c d l ms with
  | false =>
    simp only [hask] at ca
    have hres : cheapR a b c d a' b' c' d' l ms = (0, false) := by simp [cheapR, cheapB, hask]
    rw [hres]
    have CA := Lib.hid ca
    clear ca hres h hask hr hmx
    go_enter Try.func38, Try.ntmps38
    go_wp2_with (go_at_call 66; refine (CA.out _ (HZ.out _ (Below.refl _ _))).mono ?_; rintro e w1 ⟨rfl, hS⟩; have HS := Lib.hid hS; clear hS)
    go_ret2
    exact ⟨rfl, HZ.out _ HS.out⟩
  | true =>
    simp only [hask] at ca
    have CA := Lib.hid ca
    cases hpb : payB a' b' c' d' with
    | false =>
      have hres : cheapR a b c d a' b' c' d' l ms = (0, false) := by simp [cheapR, cheapB, hpb]
      rw [hres]
      clear ca hres h hask hr hmx
      go_enter Try.func38, Try.ntmps38
      go_wp2_with (first | (go_at_call 66; refine (CA.out _ (HZ.out _ (Below.refl _ _))).mono ?_; rintro e w1 ⟨rfl, hS⟩; obtain ⟨⟨k0, k1, k2, k3⟩, k4, k5, k6, k7⟩ := KK.out _ hS; have HS := Lib.hid hS; clear hS) | (go_at_call 49; refine (wgPay_any a' b' c' d' _).mono ?_; rintro e w2 ⟨rfl, hS⟩; have HS2 := Lib.hid (below_then HS.out hS); clear hS))
      go_ret2
      exact ⟨rfl, HZ.out _ HS2.out⟩
    | true =>
      have hask' := allAsk_other hask hpb
      have hba := billV_bd hask
      have hbb := billV_bd hask'
      obtain ⟨hp, hg, h30, hms⟩ := allAsk_of hask
      rw [hmx] at h30
      have hda := wagesF_bd hp hg (allB_true.1 hms) 0
      have hdb := wagesF_bd hpb hg (allB_true.1 hms) 0
      have hres : cheapR a b c d a' b' c' d' l ms = (sgnI (billV a b c d l ms) (billV a' b' c' d' l ms), true) := by simp [cheapR, cheapB, hask, hpb]
      rw [hres]
      have CWA := Lib.hid (fun W (hW : Below ((w.alloc (.cells #[.int .i64 a, .int .i64 b, .int .i64 c, .int .i64 d] 25)).alloc (.cells #[.int .i64 a', .int .i64 b', .int .i64 c', .int .i64 d'] 25)).heap.size ((w.alloc (.cells #[.int .i64 a, .int .i64 b, .int .i64 c, .int .i64 d] 25)).alloc (.cells #[.int .i64 a', .int .i64 b', .int .i64 c', .int .i64 d'] 25)) W) => (wgWages_any a b c d A n cc l B m mc ms W (h.below (HZ.out _ hW)) hnc (hr.below (HZ.out _ hW)) hask).mono (R' := fun e w' => ∃ A2 c2, e = .returned (.slice A2 m c2) ∧ Reads w' 1 A2 m (ints (wagesF a b c d l ms 0)) ∧ Below ((w.alloc (.cells #[.int .i64 a, .int .i64 b, .int .i64 c, .int .i64 d] 25)).alloc (.cells #[.int .i64 a', .int .i64 b', .int .i64 c', .int .i64 d'] 25)).heap.size ((w.alloc (.cells #[.int .i64 a, .int .i64 b, .int .i64 c, .int .i64 d] 25)).alloc (.cells #[.int .i64 a', .int .i64 b', .int .i64 c', .int .i64 d'] 25)) w') (fun e w' ⟨A2, c2, h1, h2, h3⟩ => ⟨A2, c2, h1, Reads.of_own h2, below_then hW h3⟩))
      have CWB := Lib.hid (fun W (hW : Below ((w.alloc (.cells #[.int .i64 a, .int .i64 b, .int .i64 c, .int .i64 d] 25)).alloc (.cells #[.int .i64 a', .int .i64 b', .int .i64 c', .int .i64 d'] 25)).heap.size ((w.alloc (.cells #[.int .i64 a, .int .i64 b, .int .i64 c, .int .i64 d] 25)).alloc (.cells #[.int .i64 a', .int .i64 b', .int .i64 c', .int .i64 d'] 25)) W) => (wgWages_any a' b' c' d' A n cc l B m mc ms W (h.below (HZ.out _ hW)) hnc (hr.below (HZ.out _ hW)) hask').mono (R' := fun e w' => ∃ A2 c2, e = .returned (.slice A2 m c2) ∧ Reads w' 1 A2 m (ints (wagesF a' b' c' d' l ms 0)) ∧ Below ((w.alloc (.cells #[.int .i64 a, .int .i64 b, .int .i64 c, .int .i64 d] 25)).alloc (.cells #[.int .i64 a', .int .i64 b', .int .i64 c', .int .i64 d'] 25)).heap.size ((w.alloc (.cells #[.int .i64 a, .int .i64 b, .int .i64 c, .int .i64 d] 25)).alloc (.cells #[.int .i64 a', .int .i64 b', .int .i64 c', .int .i64 d'] 25)) w') (fun e w' ⟨A2, c2, h1, h2, h3⟩ => ⟨A2, c2, h1, Reads.of_own h2, below_then hW h3⟩))
      have CSA := Lib.hid (fun W A2 c2 (hW : Reads W 1 A2 m (ints (wagesF a b c d l ms 0))) => (show Calls Try.prog 63 #[.slice A2 m c2] W fun e w' => e = .returned (.int .i64 (billV a b c d l ms)) ∧ W = w' from wgSum_any A2 m c2 _ W (by omega) hW hda))
      have CSB := Lib.hid (fun W A2 c2 (hW : Reads W 1 A2 m (ints (wagesF a' b' c' d' l ms 0))) => (show Calls Try.prog 63 #[.slice A2 m c2] W fun e w' => e = .returned (.int .i64 (billV a' b' c' d' l ms)) ∧ W = w' from wgSum_any A2 m c2 _ W (by omega) hW hdb))
      have H1 := Lib.hid hask
      have H2 := Lib.hid hpb
      generalize billV a b c d l ms = x at *
      generalize billV a' b' c' d' l ms = y at *
      have hw1 : IntKind.i64.wrap (x - y) = x - y := IntWalk.i64_in _ (by omega)
      clear ca hres h hr hmx hp hg h30 hms hda hdb hask' hba hbb
      go_enter Try.func38, Try.ntmps38
      go_wp2_with (first | (go_at_call 66; refine (CA.out _ (HZ.out _ (Below.refl _ _))).mono ?_; rintro e w1 ⟨rfl, hS⟩; obtain ⟨⟨k0, k1, k2, k3⟩, k4, k5, k6, k7⟩ := KK.out _ hS; have HS := Lib.hid hS; clear hS) | (go_at_call 49; refine (wgPay_any a' b' c' d' _).mono ?_; rintro e w2 ⟨rfl, hS⟩; have HS2 := Lib.hid (below_then HS.out hS); clear hS k0 k1 k2 k3 k4 k5 k6 k7))
      have hS := HS2.out.drew
      obtain ⟨⟨k0, k1, k2, k3⟩, k4, k5, k6, k7⟩ := KK.out _ hS
      go_region_with (first | (go_at_call_of 67 (Value.int IntKind.i64 a); refine (CWA.out _ (by assumption)).mono ?_; rintro e W1 ⟨A2, c2, rfl, hR, hS⟩; obtain ⟨⟨k0, k1, k2, k3⟩, k4, k5, k6, k7⟩ := KK.out _ hS) | (go_at_call_of 67 (Value.int IntKind.i64 a'); refine (CWB.out _ (by assumption)).mono ?_; rintro e W1 ⟨A2, c2, rfl, hR, hS⟩; obtain ⟨⟨k0, k1, k2, k3⟩, k4, k5, k6, k7⟩ := KK.out _ hS) | (go_at_call 63; (first | refine (CSA.out _ _ _ (by assumption)).mono ?_ | refine (CSB.out _ _ _ (by assumption)).mono ?_); rintro e w' ⟨rfl, rfl⟩) | (go_at_call 70; refine (l1Sign_any _ _ _).mono ?_; rintro e w' ⟨rfl, rfl⟩))
      all_goals
        go_wp2
        go_ret2
        exact ⟨rfl, HZ.out _ (by assumption)⟩

end Go.Proofs.Ytiofgoppgdgbaaa
