/- Contracts of the losses of forecasts, of both packages. No conditions. -/
import Derived.Test.YthpfgmnhpnfopaaWe
namespace Go.Proofs.Ythpfgmnhpnfopaa
set_option linter.unusedSimpArgs false
set_option linter.unusedVariables false
open Go.RowKit

def lossTerm (p : Int) (f : Bool) : Int := if f = true then (p - 100) * (p - 100) else p * p
def loss : List Int → List Bool → Int
  | p :: ps, f :: fs => lossTerm p f + loss ps fs
  | _, _ => 0
theorem lossTerm_bd (p : Int) (f : Bool) (h : 0 ≤ p ∧ p ≤ 100) : 0 ≤ lossTerm p f ∧ lossTerm p f ≤ 10000 := by
  unfold lossTerm
  split
  · have h1 : 0 ≤ (100 - p) * (100 - p) := Int.mul_nonneg (by omega) (by omega)
    have h2 : (100 - p) * (100 - p) ≤ 100 * 100 := Int.mul_le_mul (by omega) (by omega) (by omega) (by omega)
    have e : (p - 100) * (p - 100) = (100 - p) * (100 - p) := by
      rw [show p - 100 = -(100 - p) from by omega, Int.neg_mul_neg]
    omega
  · have h1 : 0 ≤ p * p := Int.mul_nonneg (by omega) (by omega)
    have h2 : p * p ≤ 100 * 100 := Int.mul_le_mul (by omega) (by omega) (by omega) (by omega)
    omega
theorem loss_bd (ps : List Int) (fs : List Bool) (h : ∀ p ∈ ps, 0 ≤ p ∧ p ≤ 100) : 0 ≤ loss ps fs ∧ loss ps fs ≤ 10000 * (ps.length : Int) := by
  induction ps generalizing fs with
  | nil => simp [loss]
  | cons p ps ih =>
    cases fs with
    | nil => simp [loss]; omega
    | cons f fs =>
      have h1 := lossTerm_bd p f (h p (by simp))
      have h2 := ih fs (fun q hq => h q (by simp [hq]))
      simp only [loss, List.length_cons]
      omega
def goodF (xs : List Int) (fs : List Bool) : Bool := decide (xs.length = fs.length) && (decide (fs.length ≤ 20) && allB 0 100 xs)
theorem goodF_true {xs : List Int} {fs : List Bool} : goodF xs fs = true ↔ xs.length = fs.length ∧ fs.length ≤ 20 ∧ ∀ x ∈ xs, 0 ≤ x ∧ x ≤ 100 := by
  simp [goodF, allB_true]
def forecastLossR (xs : List Int) (fs : List Bool) : Int × Bool := if goodF xs fs = true then (loss xs fs, true) else (0, false)

set_option maxHeartbeats 1000000 in
theorem weLoss_any (A B : Option Addr) (n c c' : Nat) (xs : List Int) (fs : List Bool) (w : World) (hn : n ≤ 1000) (h : Reads w 1 A n (ints xs)) (h' : Reads w 1 B n (bools fs)) (hx : ∀ x ∈ xs, 0 ≤ x ∧ x ≤ 100) :
    Calls Try.prog 78 #[.slice A n c, .slice B n c'] w fun e w' => e = .returned (.int .i64 (loss xs fs)) ∧ w = w' := by
  have hlx : xs.length = n := by simpa using h.1
  have hlf : fs.length = n := by simpa using h'.1
  have HX := Lib.hid hlx
  have HF := Lib.hid hlf
  have HB := Lib.hid hx
  clear hlx hlf hx
  go_enter Try.func78, Try.ntmps78
  go_wp2
  go_loop [5, 11] (fun s i => ∃ k : Nat, ∃ q : Int, k ≤ n ∧ i = .int .i64 k ∧ s = .int .i64 q ∧ 0 ≤ q ∧ q ≤ 10000 * (k : Int) ∧ q + loss (xs.drop k) (fs.drop k) = loss xs fs) (fun _ i => n - (intOf i).toNat)
  case atStart => exact ⟨0, 0, Nat.zero_le _, rfl, rfl, by omega, by omega, by simp⟩
  case round =>
    obtain ⟨k, q, hk, rfl, rfl, hq1, hq2, hrel⟩ := hrel
    have HR := Lib.hid hrel; clear hrel
    by_cases hlt : k < n
    · obtain ⟨ad, rfl, hc⟩ := h.2 (by omega)
      obtain ⟨ad', rfl, hc'⟩ := h'.2 (by omega)
      have hxk : k < xs.length := by rw [HX.out]; exact hlt
      have hfk : k < fs.length := by rw [HF.out]; exact hlt
      have hcell : w.cell? (ad.add k) = some (.int .i64 xs[k]) := hc k _ (by simp [ints, hxk])
      have hcell' : w.cell? (ad'.add k) = some (.bool fs[k]) := hc' k _ (by simp [bools, hfk])
      have hb := HB.out xs[k] (List.getElem_mem hxk)
      have HD := Lib.hid (drop_cons hxk)
      have HD' := Lib.hid (drop_cons hfk)
      clear hc hc' h h'
      generalize xs[k] = x at hcell hb HD
      generalize fs[k] = f at hcell' HD'
      have ht := lossTerm_bd x f hb
      have HT : Hid (loss (xs.drop k) (fs.drop k) = lossTerm x f + loss (xs.drop (k + 1)) (fs.drop (k + 1))) := by rw [HD.out, HD'.out]; exact Lib.hid rfl
      clear HD HD'
      cases f with
      | true =>
        have e : lossTerm x true = (x - 100) * (x - 100) := by simp [lossTerm]
        rw [e] at ht HT
        clear e
        go_wp2
        go_round
        case rel => exact ⟨k + 1, _, by omega, by go_num, rfl, by omega, by omega, by rw [← HR.out, HT.out]; omega⟩
        case measure => simp [intOf]; omega
      | false =>
        have e : lossTerm x false = x * x := by simp [lossTerm]
        rw [e] at ht HT
        clear e
        go_wp2
        go_round
        case rel => exact ⟨k + 1, _, by omega, by go_num, rfl, by omega, by omega, by rw [← HR.out, HT.out]; omega⟩
        case measure => simp [intOf]; omega
    · have HE := Lib.hid (drop_end (xs := xs) (k := k) (by rw [HX.out]; omega))
      clear h h'
      go_wp2
      go_ret
      refine ⟨ret_int ?_, rfl⟩
      rw [← HR.out, HE.out]
      simp [loss]

set_option maxHeartbeats 1000000 in
theorem forecastLoss_any (A B : Option Addr) (n c c' : Nat) (xs : List Int) (fs : List Bool) (w : World) (hn : n ≤ 1000) (h : Reads w 1 A n (ints xs)) (h' : Reads w 1 B n (bools fs)) (hx : ∀ x ∈ xs, 0 ≤ x ∧ x ≤ 100) :
    Calls Try.prog 79 #[.slice A n c, .slice B n c'] w fun e w' => e = .returned (.int .i64 (loss xs fs)) ∧ w = w' := by
  have hlx : xs.length = n := by simpa using h.1
  have hlf : fs.length = n := by simpa using h'.1
  have HX := Lib.hid hlx
  have HF := Lib.hid hlf
  have HB := Lib.hid hx
  clear hlx hlf hx
  go_enter Try.func79, Try.ntmps79
  go_wp2
  go_loop [5, 10] (fun s i => ∃ k : Nat, ∃ q : Int, k ≤ n ∧ i = .int .i64 k ∧ s = .int .i64 q ∧ 0 ≤ q ∧ q ≤ 10000 * (k : Int) ∧ q + loss (xs.drop k) (fs.drop k) = loss xs fs) (fun _ i => n - (intOf i).toNat)
  case atStart => exact ⟨0, 0, Nat.zero_le _, rfl, rfl, by omega, by omega, by simp⟩
  case round =>
    obtain ⟨k, q, hk, rfl, rfl, hq1, hq2, hrel⟩ := hrel
    have HR := Lib.hid hrel; clear hrel
    by_cases hlt : k < n
    · obtain ⟨ad, rfl, hc⟩ := h.2 (by omega)
      obtain ⟨ad', rfl, hc'⟩ := h'.2 (by omega)
      have hxk : k < xs.length := by rw [HX.out]; exact hlt
      have hfk : k < fs.length := by rw [HF.out]; exact hlt
      have hcell : w.cell? (ad.add k) = some (.int .i64 xs[k]) := hc k _ (by simp [ints, hxk])
      have hcell' : w.cell? (ad'.add k) = some (.bool fs[k]) := hc' k _ (by simp [bools, hfk])
      have hb := HB.out xs[k] (List.getElem_mem hxk)
      have HD := Lib.hid (drop_cons hxk)
      have HD' := Lib.hid (drop_cons hfk)
      clear hc hc' h h'
      generalize xs[k] = x at hcell hb HD
      generalize fs[k] = f at hcell' HD'
      have ht := lossTerm_bd x f hb
      have HT : Hid (loss (xs.drop k) (fs.drop k) = lossTerm x f + loss (xs.drop (k + 1)) (fs.drop (k + 1))) := by rw [HD.out, HD'.out]; exact Lib.hid rfl
      clear HD HD'
      cases f with
      | true =>
        have e : lossTerm x true = (x - 100) * (x - 100) := by simp [lossTerm]
        rw [e] at ht HT
        clear e
        go_wp2
        go_round
        case rel => exact ⟨k + 1, _, by omega, by go_num, rfl, by omega, by omega, by rw [← HR.out, HT.out]; omega⟩
        case measure => simp [intOf]; omega
      | false =>
        have e : lossTerm x false = x * x := by simp [lossTerm]
        rw [e] at ht HT
        clear e
        go_wp2
        go_round
        case rel => exact ⟨k + 1, _, by omega, by go_num, rfl, by omega, by omega, by rw [← HR.out, HT.out]; omega⟩
        case measure => simp [intOf]; omega
    · have HE := Lib.hid (drop_end (xs := xs) (k := k) (by rw [HX.out]; omega))
      clear h h'
      go_wp2
      go_ret
      refine ⟨ret_int ?_, rfl⟩
      rw [← HR.out, HE.out]
      simp [loss]

set_option maxHeartbeats 1000000 in
theorem weGood_any (A B : Option Addr) (n m c c' : Nat) (xs : List Int) (fs : List Bool) (w : World) (hn : n ≤ 1000000000) (hm : m ≤ 1000000000) (h : Reads w 1 A n (ints xs)) (h' : Reads w 1 B m (bools fs)) :
    Calls Try.prog 85 #[.slice A n c, .slice B m c'] w fun e w' => e = .returned (.bool (goodF xs fs)) ∧ w = w' := by
  have hlx : xs.length = n := by simpa using h.1
  have hlf : fs.length = m := by simpa using h'.1
  have hg : goodF xs fs = (decide (n = m) && (decide (m ≤ 20) && allB 0 100 xs)) := by unfold goodF; rw [hlx, hlf]
  have HX := Lib.hid hlx
  have HF := Lib.hid hlf
  rw [hg]
  have C1 := Lib.hid (l1All_any A n c xs 0 100 w (by omega) h)
  clear hlx hlf h h' hg
  by_cases h1 : n = m
  · subst h1
    by_cases h2 : n ≤ 20
    · cases h3 : allB 0 100 xs <;> rw [h3] at C1
      all_goals
        go_enter Try.func85, Try.ntmps85
        go_wp2_with (go_at_call 80; refine (C1.out).mono ?_; rintro e w' ⟨rfl, rfl⟩)
        go_ret
        exact ⟨by simp [h2], rfl⟩
    · go_enter Try.func85, Try.ntmps85
      go_wp2
      go_ret
      exact ⟨by simp [h2], rfl⟩
  · have h1' : ((n : Int) == (m : Int)) = false := by simp; omega
    by_cases h2 : n ≤ 20
    · go_enter Try.func85, Try.ntmps85
      go_wp2
      go_ret
      exact ⟨by simp [h1], rfl⟩
    · go_enter Try.func85, Try.ntmps85
      go_wp2
      go_ret
      exact ⟨by simp [h1], rfl⟩

set_option maxHeartbeats 1000000 in
theorem isForecast_any (A B : Option Addr) (n m c c' : Nat) (xs : List Int) (fs : List Bool) (w : World) (hn : n ≤ 1000000000) (hm : m ≤ 1000000000) (h : Reads w 1 A n (ints xs)) (h' : Reads w 1 B m (bools fs)) :
    Calls Try.prog 86 #[.slice A n c, .slice B m c'] w fun e w' => e = .returned (.bool (goodF xs fs)) ∧ w = w' := by
  have hlx : xs.length = n := by simpa using h.1
  have hlf : fs.length = m := by simpa using h'.1
  have hg : goodF xs fs = (decide (n = m) && (decide (m ≤ 20) && allB 0 100 xs)) := by unfold goodF; rw [hlx, hlf]
  have HX := Lib.hid hlx
  have HF := Lib.hid hlf
  rw [hg]
  have C1 := Lib.hid (allWithin_any A n c xs 0 100 w (by omega) h)
  clear hlx hlf h h' hg
  by_cases h1 : n = m
  · subst h1
    by_cases h2 : n ≤ 20
    · cases h3 : allB 0 100 xs <;> rw [h3] at C1
      all_goals
        go_enter Try.func86, Try.ntmps86
        go_wp2_with (go_at_call 82; refine (C1.out).mono ?_; rintro e w' ⟨rfl, rfl⟩)
        go_ret
        exact ⟨by simp [h2], rfl⟩
    · go_enter Try.func86, Try.ntmps86
      go_wp2
      go_ret
      exact ⟨by simp [h2], rfl⟩
  · have h1' : ((n : Int) == (m : Int)) = false := by simp; omega
    by_cases h2 : n ≤ 20
    · go_enter Try.func86, Try.ntmps86
      go_wp2
      go_ret
      exact ⟨by simp [h1], rfl⟩
    · go_enter Try.func86, Try.ntmps86
      go_wp2
      go_ret
      exact ⟨by simp [h1], rfl⟩

theorem specForecastLoss_any (A : Option Addr) (n c : Nat) (xs : List Int) (B : Option Addr) (m c' : Nat) (fs : List Bool) (w : World) (hn : n ≤ 1000000000) (h : Reads w 1 A n (ints xs)) (hm : m ≤ 1000000000) (h' : Reads w 1 B m (bools fs)) :
    Calls Try.prog 29 #[.slice A n c, .slice B m c'] w fun e w' => e = .returned (.tuple #[.int .i64 (forecastLossR xs fs).1, .bool (forecastLossR xs fs).2]) ∧ Below w.heap.size w w' := by
  have c1 := weGood_any A B n m c c' xs fs w hn hm h h'
  cases hg : goodF xs fs <;> rw [hg] at c1
  · have hr : forecastLossR xs fs = (0, false) := by unfold forecastLossR; rw [if_neg (by rw [hg]; simp)]
    rw [hr]
    have C1 := Lib.hid c1
    clear c1 hr h h' hg
    go_enter Try.func29, Try.ntmps29
    go_wp2_with (go_at_call 85; refine (C1.out).mono ?_; rintro e w' ⟨rfl, rfl⟩)
    go_ret2
    exact ⟨rfl, Below.refl _ _⟩
  · have hr : forecastLossR xs fs = (loss xs fs, true) := by unfold forecastLossR; rw [if_pos hg]
    obtain ⟨h1, h2, h3⟩ := goodF_true.1 hg
    have hlx : xs.length = n := by simpa using h.1
    have hlf : fs.length = m := by simpa using h'.1
    obtain rfl : m = n := by omega
    have C2 := Lib.hid (weLoss_any A B m c c' xs fs w (by omega) h h' h3)
    rw [hr]
    have C1 := Lib.hid c1
    clear c1 hr h h' hg h1 h2 h3 hlx hlf
    go_enter Try.func29, Try.ntmps29
    go_wp2_with (first | (go_at_call 85; refine (C1.out).mono ?_; rintro e w' ⟨rfl, rfl⟩) | (go_at_call 78; refine (C2.out).mono ?_; rintro e w' ⟨rfl, rfl⟩))
    go_ret2
    exact ⟨rfl, Below.refl _ _⟩

theorem implForecastLoss_any (A : Option Addr) (n c : Nat) (xs : List Int) (B : Option Addr) (m c' : Nat) (fs : List Bool) (w : World) (hn : n ≤ 1000000000) (h : Reads w 1 A n (ints xs)) (hm : m ≤ 1000000000) (h' : Reads w 1 B m (bools fs)) :
    Calls Try.prog 30 #[.slice A n c, .slice B m c'] w fun e w' => e = .returned (.tuple #[.int .i64 (forecastLossR xs fs).1, .bool (forecastLossR xs fs).2]) ∧ Below w.heap.size w w' := by
  have c1 := isForecast_any A B n m c c' xs fs w hn hm h h'
  cases hg : goodF xs fs <;> rw [hg] at c1
  · have hr : forecastLossR xs fs = (0, false) := by unfold forecastLossR; rw [if_neg (by rw [hg]; simp)]
    rw [hr]
    have C1 := Lib.hid c1
    clear c1 hr h h' hg
    go_enter Try.func30, Try.ntmps30
    go_wp2_with (go_at_call 86; refine (C1.out).mono ?_; rintro e w' ⟨rfl, rfl⟩)
    go_ret2
    exact ⟨rfl, Below.refl _ _⟩
  · have hr : forecastLossR xs fs = (loss xs fs, true) := by unfold forecastLossR; rw [if_pos hg]
    obtain ⟨h1, h2, h3⟩ := goodF_true.1 hg
    have hlx : xs.length = n := by simpa using h.1
    have hlf : fs.length = m := by simpa using h'.1
    obtain rfl : m = n := by omega
    have C2 := Lib.hid (forecastLoss_any A B m c c' xs fs w (by omega) h h' h3)
    rw [hr]
    have C1 := Lib.hid c1
    clear c1 hr h h' hg h1 h2 h3 hlx hlf
    go_enter Try.func30, Try.ntmps30
    go_wp2_with (first | (go_at_call 86; refine (C1.out).mono ?_; rintro e w' ⟨rfl, rfl⟩) | (go_at_call 79; refine (C2.out).mono ?_; rintro e w' ⟨rfl, rfl⟩))
    go_ret2
    exact ⟨rfl, Below.refl _ _⟩
set_option maxHeartbeats 2000000 in
set_option maxRecDepth 100000 in
theorem law_FnExactForecastLoss (w : World) {v0 v1 : Value} (h0 : IsInts w v0) (h1 : IsBools w v1) :
    Calls Try.prog 8 #[v0, v1] w fun e w' => e = .returned (.bool true) ∧ Below w.heap.size w w' := by
  obtain ⟨A0, n0, c0, xs0, rfl, _, _, hr0, _⟩ := h0
  obtain ⟨A1, n1, c1, xs1, rfl, _, _, hr1⟩ := h1
  have HR0 := Lib.hid hr0; clear hr0
  have HR1 := Lib.hid hr1; clear hr1
  by_cases hn0 : n0 ≤ 1048576
  rotate_left
  · go_enter Try.func8, Try.ntmps8
    go_wp2
    go_ret
    exact ⟨rfl, Below.refl _ _⟩
  by_cases hn1 : n1 ≤ 1048576
  rotate_left
  · go_enter Try.func8, Try.ntmps8
    go_wp2
    go_ret
    exact ⟨rfl, Below.refl _ _⟩
  go_enter Try.func8, Try.ntmps8
  have BB0 : Hid (Below w.heap.size w w) := Lib.hid (Below.refl _ _)
  go_wp2_with fail
  refine (toIntS_any A0 n0 c0 xs0 w (by omega) (HR0.out.below BB0.out)).mono ?_
  rintro e w1 ⟨As0, cs0, rfl, hown, hb⟩
  have Os0_1 := Lib.hid hown; clear hown
  have Ls0 := Lib.hid (own_lt Os0_1.out)
  have B0 := Lib.hid hb; clear hb
  have Z0 := Lib.hid (B0.out.size)
  have BB1 := Lib.hid (below_then BB0.out B0.out)
  go_wp2_with fail
  refine (toBoolS_any A1 n1 c1 xs1 w1 (by omega) (HR1.out.below BB1.out)).mono ?_
  rintro e w2 ⟨As1, cs1, rfl, hown, hb⟩
  have Os1_2 := Lib.hid hown; clear hown
  have Ls1 := Lib.hid (own_lt Os1_2.out)
  have B1 := Lib.hid hb; clear hb
  have Z1 := Lib.hid (B1.out.size)
  have BB2 := Lib.hid (BB1.out.trans (B1.out.mono BB1.out.size))
  have Os0_2 := Lib.hid (own_below Os0_1.out B1.out)
  go_wp2_with fail
  refine (specForecastLoss_any As0 n0 cs0 xs0 As1 n1 cs1 xs1 w2 (by omega) (Reads.of_own Os0_2.out) (by omega) (Reads.of_own Os1_2.out)).mono ?_
  rintro e w3 ⟨rfl, hb⟩
  have B2 := Lib.hid hb; clear hb
  have Z2 := Lib.hid (B2.out.size)
  have BB3 := Lib.hid (BB2.out.trans (B2.out.mono BB2.out.size))
  have Os0_3 := Lib.hid (own_below Os0_2.out B2.out)
  have Os1_3 := Lib.hid (own_below Os1_2.out B2.out)
  go_wp2_with fail
  refine (toIntS_any A0 n0 c0 xs0 w3 (by omega) (HR0.out.below BB3.out)).mono ?_
  rintro e w4 ⟨Ax0, cx0, rfl, hown, hb⟩
  have Ox0_4 := Lib.hid hown; clear hown
  have Lx0 := Lib.hid (own_lt Ox0_4.out)
  have B3 := Lib.hid hb; clear hb
  have Z3 := Lib.hid (B3.out.size)
  have BB4 := Lib.hid (BB3.out.trans (B3.out.mono BB3.out.size))
  go_wp2_with fail
  refine (toBoolS_any A1 n1 c1 xs1 w4 (by omega) (HR1.out.below BB4.out)).mono ?_
  rintro e w5 ⟨Ax1, cx1, rfl, hown, hb⟩
  have Ox1_5 := Lib.hid hown; clear hown
  have Lx1 := Lib.hid (own_lt Ox1_5.out)
  have B4 := Lib.hid hb; clear hb
  have Z4 := Lib.hid (B4.out.size)
  have BB5 := Lib.hid (BB4.out.trans (B4.out.mono BB4.out.size))
  have Ox0_5 := Lib.hid (own_below Ox0_4.out B4.out)
  go_wp2_with fail
  refine (implForecastLoss_any Ax0 n0 cx0 xs0 Ax1 n1 cx1 xs1 w5 (by omega) (Reads.of_own Ox0_5.out) (by omega) (Reads.of_own Ox1_5.out)).mono ?_
  rintro e w6 ⟨rfl, hb⟩
  have B5 := Lib.hid hb; clear hb
  have Z5 := Lib.hid (B5.out.size)
  have BB6 := Lib.hid (BB5.out.trans (B5.out.mono BB5.out.size))
  have Ox0_6 := Lib.hid (own_below Ox0_5.out B5.out)
  have Ox1_6 := Lib.hid (own_below Ox1_5.out B5.out)
  go_wp2_with fail
  refine (toIntS_any A0 n0 c0 xs0 w6 (by omega) (HR0.out.below BB6.out)).mono ?_
  rintro e w7 ⟨At0, ct0, rfl, hown, hb⟩
  have Ot0_7 := Lib.hid hown; clear hown
  have Lt0 := Lib.hid (own_lt Ot0_7.out)
  have B6 := Lib.hid hb; clear hb
  have Z6 := Lib.hid (B6.out.size)
  have BB7 := Lib.hid (BB6.out.trans (B6.out.mono BB6.out.size))
  have Ox0_7 := Lib.hid (own_below Ox0_6.out B6.out)
  have Ox1_7 := Lib.hid (own_below Ox1_6.out B6.out)
  go_wp2_with fail
  refine (eqIntS_any Ax0 At0 n0 cx0 ct0 xs0 w7 (by omega) (Reads.of_own Ox0_7.out) (Reads.of_own Ot0_7.out)).mono ?_
  rintro e w8 ⟨rfl, hb⟩
  replace hb := below_of_quiet (B := w7.heap.size) hb
  have B7 := Lib.hid hb; clear hb
  have Z7 := Lib.hid (B7.out.size)
  have BB8 := Lib.hid (BB7.out.trans (B7.out.mono BB7.out.size))
  have Ox0_8 := Lib.hid (own_below Ox0_7.out B7.out)
  have Ox1_8 := Lib.hid (own_below Ox1_7.out B7.out)
  have Ot0_8 := Lib.hid (own_below Ot0_7.out B7.out)
  go_wp2_with fail
  refine (toBoolS_any A1 n1 c1 xs1 w8 (by omega) (HR1.out.below BB8.out)).mono ?_
  rintro e w9 ⟨At1, ct1, rfl, hown, hb⟩
  have Ot1_9 := Lib.hid hown; clear hown
  have Lt1 := Lib.hid (own_lt Ot1_9.out)
  have B8 := Lib.hid hb; clear hb
  have Z8 := Lib.hid (B8.out.size)
  have BB9 := Lib.hid (BB8.out.trans (B8.out.mono BB8.out.size))
  have Ox0_9 := Lib.hid (own_below Ox0_8.out B8.out)
  have Ox1_9 := Lib.hid (own_below Ox1_8.out B8.out)
  go_wp2_with fail
  refine (eqBoolS_any Ax1 At1 n1 cx1 ct1 xs1 w9 (by omega) (Reads.of_own Ox1_9.out) (Reads.of_own Ot1_9.out)).mono ?_
  rintro e w10 ⟨rfl, hb⟩
  replace hb := below_of_quiet (B := w9.heap.size) hb
  have B9 := Lib.hid hb; clear hb
  have Z9 := Lib.hid (B9.out.size)
  have BB10 := Lib.hid (BB9.out.trans (B9.out.mono BB9.out.size))
  have Ox0_10 := Lib.hid (own_below Ox0_9.out B9.out)
  have Ox1_10 := Lib.hid (own_below Ox1_9.out B9.out)
  have Ot1_10 := Lib.hid (own_below Ot1_9.out B9.out)
  go_wp2_with fail
  go_ret
  exact ⟨rfl, BB10.out⟩

end Go.Proofs.Ythpfgmnhpnfopaa
