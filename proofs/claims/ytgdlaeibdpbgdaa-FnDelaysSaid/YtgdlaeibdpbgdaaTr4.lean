/- Contracts of DelayOf, WorstDelay and MeanDelay of both packages, and the laws over them. No conditions. -/
import Derived.Test.YtgdlaeibdpbgdaaTr3
namespace Go.Proofs.Ytgdlaeibdpbgdaa
set_option linter.unusedSimpArgs false
set_option linter.unusedVariables false
open Go.RowKit

def meanR (xs : List Int) (cap : Int) : Int × Int × Bool :=
  if trafB xs cap = true ∧ sumL xs ≠ 0 then (sumL (delays cap xs) / (Nat.gcd (sumL (delays cap xs)).toNat (sumL xs).toNat : Int), sumL xs / (Nat.gcd (sumL (delays cap xs)).toNat (sumL xs).toNat : Int), true) else (0, 0, false)
theorem gcdOf_any (a b : Nat) (w : World) (ha : a ≤ 1000000000000) (hb : b ≤ 1000000000000) :
    Calls Try.prog 66 #[.int .i64 a, .int .i64 b] w fun e w' => e = .returned (.int .i64 (Nat.gcd a b : Int)) ∧ Quiet w w' := by
  go_enter Try.func66, Try.ntmps66
  go_wp2
  go_loopw [0, 1] (fun s t wr => ∃ x y m : Nat, s = .int .i64 x ∧ t = .int .i64 y ∧ x ≤ 1000000000000 ∧ y ≤ 1000000000000 ∧ Nat.gcd x y = Nat.gcd a b ∧ wr = w.drewN m) (fun _ t _ => (intOf t).toNat)
  case atStart => exact ⟨a, b, 0, rfl, rfl, ha, hb, rfl, rfl⟩
  case round =>
    obtain ⟨x, y, m, rfl, rfl, hx, hy, hrel, rfl⟩ := hrel
    have HR := Lib.hid hrel; clear hrel
    by_cases h0 : 0 < y
    · have hm := Nat.mod_lt x h0
      have HG : Hid (Nat.gcd y (x % y) = Nat.gcd x y) := Lib.hid (by rw [Nat.gcd_comm x y, Nat.gcd_rec y x, Nat.gcd_comm])
      have ec : (x : Int) % (y : Int) = ((x % y : Nat) : Int) := by simp
      have EC := Lib.hid ec; clear ec
      have hy1 : 1 ≤ (y : Int) := by omega
      go_wp2
      go_quiet (fail)
      go_wp2
      go_roundw
      case rel => exact ⟨y, x % y, _, rfl, by rw [← EC.out], hy, by omega, by rw [HG.out, HR.out], World.drewN_drewN _ _ _⟩
      case measure => simp [intOf]; omega
    · obtain rfl : y = 0 := by omega
      go_wp2
      go_ret
      refine ⟨ret_int ?_, m, rfl⟩
      rw [← HR.out, Nat.gcd_zero_right]
theorem siPart_any (a b : Nat) (w : World) (ha : a ≤ 1000000000000) (hb : b ≤ 1000000000000) (hb0 : 0 < b) :
    Calls Try.prog 65 #[.int .i64 a, .int .i64 b] w fun e w' => e = .returned (.tuple #[.int .i64 ((a : Int) / (Nat.gcd a b : Int)), .int .i64 ((b : Int) / (Nat.gcd a b : Int))]) ∧ Quiet w w' := by
  have hab : ∀ W : World, Calls Try.prog 76 #[.int .i64 a] W fun e w' => e = .returned (.int .i64 a) ∧ W = w' := by
    intro W
    go_enter Try.func76, Try.ntmps76
    go_wp2_with (go_at_call 62; refine (l1Most_any _ _ _).mono ?_; rintro e w' ⟨rfl, rfl⟩)
    go_ret
    exact ⟨ret_int (by omega), rfl⟩
  have HAB := Lib.hid hab; clear hab
  have hg0 : 0 < Nat.gcd a b := Nat.gcd_pos_of_pos_right _ hb0
  have HG0 := Lib.hid hg0; clear hg0
  generalize hgg : Nat.gcd a b = g at *
  have HGG := Lib.hid hgg; clear hgg
  go_enter Try.func65, Try.ntmps65
  go_wp2_with (go_at_call 76; refine (HAB.out _).mono ?_; rintro e w' ⟨rfl, rfl⟩)
  go_loop [6, 7] (fun s t => ∃ x y : Nat, s = .int .i64 x ∧ t = .int .i64 y ∧ x ≤ 1000000000000 ∧ y ≤ 1000000000000 ∧ Nat.gcd x y = g) (fun _ t => (intOf t).toNat)
  case atStart => exact ⟨a, b, rfl, rfl, ha, hb, HGG.out⟩
  case round =>
    obtain ⟨x, y, rfl, rfl, hx, hy, hrel⟩ := hrel
    have HR := Lib.hid hrel; clear hrel
    by_cases h0 : 0 < y
    · have hm := Nat.mod_lt x h0
      have HG : Hid (Nat.gcd y (x % y) = Nat.gcd x y) := Lib.hid (by rw [Nat.gcd_comm x y, Nat.gcd_rec y x, Nat.gcd_comm])
      have ec : (x : Int) % (y : Int) = ((x % y : Nat) : Int) := by simp
      have EC := Lib.hid ec; clear ec
      go_wp2
      go_round
      case rel => exact ⟨y, x % y, rfl, by rw [← EC.out], hy, by omega, by rw [HG.out, HR.out]⟩
      case measure => simp [intOf]; omega
    · obtain rfl : y = 0 := by omega
      have hxg : x = g := by have := HR.out; rwa [Nat.gcd_zero_right] at this
      subst hxg
      have hx0 := HG0.out
      have hx1 : 1 ≤ (x : Int) := by omega
      go_wp2
      go_quiet (fail)
      go_wp2
      go_ret2
      exact ⟨ret_int2 (quo_in a x ha) (quo_in b x hb), _, rfl⟩

set_option maxHeartbeats 1000000 in
theorem specDelayOf_any (A : Option Addr) (n c : Nat) (xs : List Int) (cap m : Int) (w : World) (hn : n ≤ 1000000000) (h : Reads w 1 A n (ints xs)) :
    Calls Try.prog 29 #[.slice A n c, .int .i64 cap, .int .i64 m] w fun e w' => e = .returned (.tuple #[.int .i64 (delayR xs cap m).1, .bool (delayR xs cap m).2]) ∧ Below w.heap.size w w' := by
  have c1 := trGood_any A n c xs cap w hn h
  cases hg : trafB xs cap with
  | false =>
    rw [hg] at c1
    have hr : delayR xs cap m = (0, false) := by simp [delayR, hg]
    rw [hr]
    have C1 := Lib.hid c1
    clear c1 hr h hg
    go_enter Try.func29, Try.ntmps29
    go_wp2_with (go_at_call 52; refine (C1.out).mono ?_; rintro e w' ⟨rfl, rfl⟩)
    go_ret2
    exact ⟨rfl, Below.refl _ _⟩
  | true =>
    rw [hg] at c1
    have C1 := Lib.hid c1
    clear c1
    obtain ⟨⟨hn60, hx⟩, hc1, hc2⟩ := trafB_true.1 hg
    have hlx : xs.length = n := by simpa using h.1
    have C2 := Lib.hid (trDelays_any A n c xs cap w (by omega) h hx hc1 (by omega))
    have C3 := Lib.hid (trSum_any A n c xs w (by omega) h (fun x hx' => by have := hx x hx'; omega))
    have hdl := length_delays cap xs (fun x hx' => (hx x hx').1)
    have hsb := sumL_bd xs 0 200 hx
    cases hin : inB m 0 (sumL xs - 1) with
    | false =>
      have hr : delayR xs cap m = (0, false) := by simp [delayR, hin]
      rw [hr]
      have hS1 : 0 ≤ sumL xs ∧ sumL xs ≤ 12000 := by omega
      generalize hS : sumL xs = S at *
      have hDl : (delays cap xs).length ≤ 12000 := by omega
      generalize delays cap xs = D at *
      have HIN := Lib.hid hin
      clear hr h hg hx hlx hn60 hin hS
      have hin2 : inB m 0 ((D.length : Int) - 1) = false := by rw [hdl]; exact HIN.out
      have hin3 := HIN.out
      have HDL := Lib.hid hdl; clear hdl
      go_enter Try.func29, Try.ntmps29
      go_wp2_with (first | (go_at_call 52; refine (C1.out).mono ?_; rintro e w' ⟨rfl, rfl⟩) | (go_at_call 48; refine (l1In_any _ _ _ _).mono ?_; rintro e w' ⟨rfl, rfl⟩) | (go_at_call 49; refine (C3.out).mono ?_; rintro e w' ⟨rfl, rfl⟩) | (go_at_call 60; refine (C2.out).mono ?_; rintro e w1 ⟨A1, c1, rfl, hown, hb⟩; have HO := Lib.hid hown; clear hown; have HB := Lib.hid hb; clear hb))
      go_ret2
      exact ⟨rfl, Below.refl _ _⟩
    | true =>
      have hr : delayR xs cap m = ((delays cap xs).getD m.toNat 0, true) := by simp [delayR, hg, hin]
      rw [hr]
      obtain ⟨hm1, hm2⟩ := inB_true.1 hin
      obtain ⟨k, rfl⟩ : ∃ k : Nat, m = (k : Int) := ⟨m.toNat, by omega⟩
      have hS1 : 0 ≤ sumL xs ∧ sumL xs ≤ 12000 := by omega
      generalize hS : sumL xs = S at *
      have hDl : (delays cap xs).length ≤ 12000 := by omega
      generalize delays cap xs = D at *
      have hkD : k < D.length := by omega
      have e : D.getD (k : Int).toNat 0 = D[k] := by simp [hkD]
      rw [e]
      have hrd : ∀ (W : World) A1 c1, W.ownsRow w.heap.size 3 1 (.slice A1 D.length c1) D.length (ints D) → ∃ ad, A1 = some ad ∧ W.cell? (ad.add k) = some (.int .i64 D[k]) := by
        intro W A1 c1 hW
        obtain ⟨ad, e, hc⟩ := (Reads.of_own hW).2 (by omega)
        exact ⟨ad, e, hc k _ (by simp [ints, hkD])⟩
      have HRD := Lib.hid hrd
      have hin2 : inB (k : Int) 0 ((D.length : Int) - 1) = true := by rw [hdl]; exact hin
      clear hr h hg hx hlx hn60 hS e hrd
      generalize D[k] = y at *
      have HDL := Lib.hid hdl; clear hdl
      go_enter Try.func29, Try.ntmps29
      go_wp2_with (first | (go_at_call 52; refine (C1.out).mono ?_; rintro e w' ⟨rfl, rfl⟩) | (go_at_call 48; refine (l1In_any _ _ _ _).mono ?_; rintro e w' ⟨rfl, rfl⟩) | (go_at_call 49; refine (C3.out).mono ?_; rintro e w' ⟨rfl, rfl⟩) | (go_at_call 60; refine (C2.out).mono ?_; rintro e w1 ⟨A1, c1, rfl, hown, hb⟩; obtain ⟨ad, rfl, hcell⟩ := HRD.out w1 A1 c1 hown; clear hown; have HB := Lib.hid hb; clear hb))
      go_ret2
      exact ⟨rfl, HB.out⟩
set_option maxHeartbeats 1000000 in
theorem specWorstDelay_any (A : Option Addr) (n c : Nat) (xs : List Int) (cap : Int) (w : World) (hn : n ≤ 1000000000) (h : Reads w 1 A n (ints xs)) :
    Calls Try.prog 31 #[.slice A n c, .int .i64 cap] w fun e w' => e = .returned (.tuple #[.int .i64 (worstR xs cap).1, .bool (worstR xs cap).2]) ∧ Below w.heap.size w w' := by
  have c1 := trGood_any A n c xs cap w hn h
  cases hg : trafB xs cap with
  | false =>
    rw [hg] at c1
    have hr : worstR xs cap = (0, false) := by simp [worstR, hg]
    rw [hr]
    have C1 := Lib.hid c1
    clear c1 hr h hg
    go_enter Try.func31, Try.ntmps31
    go_wp2_with (go_at_call 52; refine (C1.out).mono ?_; rintro e w' ⟨rfl, rfl⟩)
    go_ret2
    exact ⟨rfl, Below.refl _ _⟩
  | true =>
    rw [hg] at c1
    have C1 := Lib.hid c1
    clear c1
    obtain ⟨⟨hn60, hx⟩, hc1, hc2⟩ := trafB_true.1 hg
    have hlx : xs.length = n := by simpa using h.1
    have C2 := Lib.hid (trDelays_any A n c xs cap w (by omega) h hx hc1 (by omega))
    have hr : worstR xs cap = (worst (delays cap xs), true) := by simp [worstR, hg]
    rw [hr]
    have hbd := delays_bd cap hc1 xs hx hn60
    have hdl := length_delays cap xs (fun x hx' => (hx x hx').1)
    have hsb := sumL_bd xs 0 200 hx
    have hDl : (delays cap xs).length ≤ 12000 := by omega
    generalize delays cap xs = D at *
    have HBD := Lib.hid hbd
    clear hr h hg hx hlx hbd hdl hsb
    go_enter Try.func31, Try.ntmps31
    go_wp2_with (first | (go_at_call 52; refine (C1.out).mono ?_; rintro e w' ⟨rfl, rfl⟩) | (go_at_call 60; refine (C2.out).mono ?_; rintro e w1 ⟨A1, c1, rfl, hown, hb⟩; have HO := Lib.hid hown; clear hown; have HB := Lib.hid hb; clear hb))
    generalize hd : D.length = d at *
    have HD := Lib.hid hd; clear hd
    go_loop [6, 17] (fun s i => ∃ k : Nat, ∃ q : Int, k ≤ d ∧ i = .int .i64 k ∧ s = .int .i64 q ∧ 0 ≤ q ∧ q ≤ 12060 ∧ (D.drop k).foldl max q = worst D) (fun _ i => d - (intOf i).toNat)
    case atStart => exact ⟨0, 0, Nat.zero_le _, rfl, rfl, by omega, by omega, rfl⟩
    case round =>
      obtain ⟨k, q, hk, rfl, rfl, hq1, hq2, hrel⟩ := hrel
      have HR := Lib.hid hrel; clear hrel
      by_cases hlt : k < d
      · obtain ⟨ad, rfl, hc⟩ := (Reads.of_own HO.out).2 (by omega)
        have hxk : k < D.length := by rw [HD.out]; exact hlt
        have hcell : w1.cell? (ad.add k) = some (.int .i64 D[k]) := hc k _ (by simp [ints, hxk])
        have hb := HBD.out D[k] (List.getElem_mem hxk)
        have HDR : Hid ((D.drop k).foldl max q = (D.drop (k + 1)).foldl max (max q D[k])) := by rw [drop_cons hxk]; exact Lib.hid rfl
        clear hc
        generalize D[k] = x at hcell hb HDR
        rcases (show (q < x ∧ max q x = x) ∨ (¬ q < x ∧ max q x = q) by omega) with ⟨hmx, e⟩ | ⟨hmx, e⟩
        all_goals
          rw [e] at HDR
          have E := Lib.hid e; clear e
          go_wp2_with (go_at_call 62; refine (l1Most_any q x _).mono ?_; rintro e w' ⟨rfl, rfl⟩; rw [E.out])
          go_round
          case rel => exact ⟨k + 1, _, by omega, by go_num, rfl, by omega, by omega, by rw [← HR.out, HDR.out]⟩
          case measure => simp [intOf]; omega
      · have HE := Lib.hid (drop_end (xs := D) (k := k) (by rw [HD.out]; omega))
        have hqw : q = worst D := by rw [← HR.out, HE.out]; rfl
        have HQ := Lib.hid hqw; clear hqw
        go_wp2
        go_ret2
        exact ⟨by rw [← HQ.out]; rfl, HB.out⟩

set_option maxHeartbeats 1000000 in
theorem implDelayOf_any (A : Option Addr) (n c : Nat) (xs : List Int) (cap m : Int) (w : World) (hn : n ≤ 1000000000) (h : Reads w 1 A n (ints xs)) :
    Calls Try.prog 30 #[.slice A n c, .int .i64 cap, .int .i64 m] w fun e w' => e = .returned (.tuple #[.int .i64 (delayR xs cap m).1, .bool (delayR xs cap m).2]) ∧ Below w.heap.size w w' := by
  have c1 := trafficAsked_any A n c xs cap w hn h
  cases hg : trafB xs cap with
  | false =>
    rw [hg] at c1
    have hr : delayR xs cap m = (0, false) := by simp [delayR, hg]
    rw [hr]
    have C1 := Lib.hid c1
    clear c1 hr h hg
    go_enter Try.func30, Try.ntmps30
    go_wp2_with (go_at_call 50; refine (C1.out).mono ?_; rintro e w' ⟨rfl, rfl⟩)
    go_ret2
    exact ⟨rfl, Below.refl _ _⟩
  | true =>
    rw [hg] at c1
    have C1 := Lib.hid c1
    clear c1
    obtain ⟨⟨hn60, hx⟩, hc1, hc2⟩ := trafB_true.1 hg
    have hlx : xs.length = n := by simpa using h.1
    have C2 := Lib.hid (delaysOf_any A n c xs cap w (by omega) h hx hc1 (by omega))
    
    have hdl := length_delays cap xs (fun x hx' => (hx x hx').1)
    have hsb := sumL_bd xs 0 200 hx
    cases hin : inB m 0 (sumL xs - 1) with
    | false =>
      have hr : delayR xs cap m = (0, false) := by simp [delayR, hin]
      rw [hr]
      have hS1 : 0 ≤ sumL xs ∧ sumL xs ≤ 12000 := by omega
      generalize hS : sumL xs = S at *
      have hDl : (delays cap xs).length ≤ 12000 := by omega
      generalize delays cap xs = D at *
      have HIN := Lib.hid hin
      clear hr h hg hx hlx hn60 hin hS
      have hin2 : inB m 0 ((D.length : Int) - 1) = false := by rw [hdl]; exact HIN.out
      
      have HDL := Lib.hid hdl; clear hdl
      go_enter Try.func30, Try.ntmps30
      go_wp2_with (first | (go_at_call 50; refine (C1.out).mono ?_; rintro e w' ⟨rfl, rfl⟩) | (go_at_call 51; refine (within_any _ _ _ _).mono ?_; rintro e w' ⟨rfl, rfl⟩) | fail | (go_at_call 61; refine (C2.out).mono ?_; rintro e w1 ⟨A1, c1, rfl, hown, hb⟩; have HO := Lib.hid hown; clear hown; have HB := Lib.hid hb; clear hb))
      go_ret2
      exact ⟨rfl, HB.out⟩
    | true =>
      have hr : delayR xs cap m = ((delays cap xs).getD m.toNat 0, true) := by simp [delayR, hg, hin]
      rw [hr]
      obtain ⟨hm1, hm2⟩ := inB_true.1 hin
      obtain ⟨k, rfl⟩ : ∃ k : Nat, m = (k : Int) := ⟨m.toNat, by omega⟩
      have hS1 : 0 ≤ sumL xs ∧ sumL xs ≤ 12000 := by omega
      generalize hS : sumL xs = S at *
      have hDl : (delays cap xs).length ≤ 12000 := by omega
      generalize delays cap xs = D at *
      have hkD : k < D.length := by omega
      have e : D.getD (k : Int).toNat 0 = D[k] := by simp [hkD]
      rw [e]
      have hrd : ∀ (W : World) A1 c1, W.ownsRow w.heap.size 3 1 (.slice A1 D.length c1) D.length (ints D) → ∃ ad, A1 = some ad ∧ W.cell? (ad.add k) = some (.int .i64 D[k]) := by
        intro W A1 c1 hW
        obtain ⟨ad, e, hc⟩ := (Reads.of_own hW).2 (by omega)
        exact ⟨ad, e, hc k _ (by simp [ints, hkD])⟩
      have HRD := Lib.hid hrd
      have hin2 : inB (k : Int) 0 ((D.length : Int) - 1) = true := by rw [hdl]; exact hin
      clear hr h hg hx hlx hn60 hS e hrd
      generalize D[k] = y at *
      have HDL := Lib.hid hdl; clear hdl
      go_enter Try.func30, Try.ntmps30
      go_wp2_with (first | (go_at_call 50; refine (C1.out).mono ?_; rintro e w' ⟨rfl, rfl⟩) | (go_at_call 51; refine (within_any _ _ _ _).mono ?_; rintro e w' ⟨rfl, rfl⟩) | fail | (go_at_call 61; refine (C2.out).mono ?_; rintro e w1 ⟨A1, c1, rfl, hown, hb⟩; obtain ⟨ad, rfl, hcell⟩ := HRD.out w1 A1 c1 hown; clear hown; have HB := Lib.hid hb; clear hb))
      go_ret2
      exact ⟨rfl, HB.out⟩
set_option maxHeartbeats 1000000 in
theorem implWorstDelay_any (A : Option Addr) (n c : Nat) (xs : List Int) (cap : Int) (w : World) (hn : n ≤ 1000000000) (h : Reads w 1 A n (ints xs)) :
    Calls Try.prog 32 #[.slice A n c, .int .i64 cap] w fun e w' => e = .returned (.tuple #[.int .i64 (worstR xs cap).1, .bool (worstR xs cap).2]) ∧ Below w.heap.size w w' := by
  have c1 := trafficAsked_any A n c xs cap w hn h
  cases hg : trafB xs cap with
  | false =>
    rw [hg] at c1
    have hr : worstR xs cap = (0, false) := by simp [worstR, hg]
    rw [hr]
    have C1 := Lib.hid c1
    clear c1 hr h hg
    go_enter Try.func32, Try.ntmps32
    go_wp2_with (go_at_call 50; refine (C1.out).mono ?_; rintro e w' ⟨rfl, rfl⟩)
    go_ret2
    exact ⟨rfl, Below.refl _ _⟩
  | true =>
    rw [hg] at c1
    have C1 := Lib.hid c1
    clear c1
    obtain ⟨⟨hn60, hx⟩, hc1, hc2⟩ := trafB_true.1 hg
    have hlx : xs.length = n := by simpa using h.1
    have C2 := Lib.hid (delaysOf_any A n c xs cap w (by omega) h hx hc1 (by omega))
    have hr : worstR xs cap = (worst (delays cap xs), true) := by simp [worstR, hg]
    rw [hr]
    have hbd := delays_bd cap hc1 xs hx hn60
    have hdl := length_delays cap xs (fun x hx' => (hx x hx').1)
    have hsb := sumL_bd xs 0 200 hx
    have hDl : (delays cap xs).length ≤ 12000 := by omega
    generalize delays cap xs = D at *
    have HBD := Lib.hid hbd
    clear hr h hg hx hlx hbd hdl hsb
    go_enter Try.func32, Try.ntmps32
    go_wp2_with (first | (go_at_call 50; refine (C1.out).mono ?_; rintro e w' ⟨rfl, rfl⟩) | (go_at_call 61; refine (C2.out).mono ?_; rintro e w1 ⟨A1, c1, rfl, hown, hb⟩; have HO := Lib.hid hown; clear hown; have HB := Lib.hid hb; clear hb))
    generalize hd : D.length = d at *
    have HD := Lib.hid hd; clear hd
    go_loop [6, 17] (fun s i => ∃ k : Nat, ∃ q : Int, k ≤ d ∧ i = .int .i64 k ∧ s = .int .i64 q ∧ 0 ≤ q ∧ q ≤ 12060 ∧ (D.drop k).foldl max q = worst D) (fun _ i => d - (intOf i).toNat)
    case atStart => exact ⟨0, 0, Nat.zero_le _, rfl, rfl, by omega, by omega, rfl⟩
    case round =>
      obtain ⟨k, q, hk, rfl, rfl, hq1, hq2, hrel⟩ := hrel
      have HR := Lib.hid hrel; clear hrel
      by_cases hlt : k < d
      · obtain ⟨ad, rfl, hc⟩ := (Reads.of_own HO.out).2 (by omega)
        have hxk : k < D.length := by rw [HD.out]; exact hlt
        have hcell : w1.cell? (ad.add k) = some (.int .i64 D[k]) := hc k _ (by simp [ints, hxk])
        have hb := HBD.out D[k] (List.getElem_mem hxk)
        have HDR : Hid ((D.drop k).foldl max q = (D.drop (k + 1)).foldl max (max q D[k])) := by rw [drop_cons hxk]; exact Lib.hid rfl
        clear hc
        generalize D[k] = x at hcell hb HDR
        rcases (show (q < x ∧ max q x = x) ∨ (¬ q < x ∧ max q x = q) by omega) with ⟨hmx, e⟩ | ⟨hmx, e⟩
        all_goals
          rw [e] at HDR
          have E := Lib.hid e; clear e
          go_wp2
          go_round
          case rel => exact ⟨k + 1, _, by omega, by go_num, rfl, by omega, by omega, by rw [← HR.out, HDR.out]⟩
          case measure => simp [intOf]; omega
      · have HE := Lib.hid (drop_end (xs := D) (k := k) (by rw [HD.out]; omega))
        have hqw : q = worst D := by rw [← HR.out, HE.out]; rfl
        have HQ := Lib.hid hqw; clear hqw
        go_wp2
        go_ret2
        exact ⟨by rw [← HQ.out]; rfl, HB.out⟩
set_option maxHeartbeats 2000000 in
set_option maxRecDepth 100000 in
theorem law_FnExactDelayOf (w : World) {v0 v1 v2 : Value} (h0 : IsInts w v0) (h1 : IsInt v1) (h2 : IsInt v2) :
    Calls Try.prog 8 #[v0, v1, v2] w fun e w' => e = .returned (.bool true) ∧ Below w.heap.size w w' := by
  obtain ⟨A0, n0, c0, xs0, rfl, _, _, hr0, _⟩ := h0
  obtain ⟨a1, rfl, _⟩ := h1
  obtain ⟨a2, rfl, _⟩ := h2
  have HR0 := Lib.hid hr0; clear hr0
  by_cases hn0 : n0 ≤ 1048576
  rotate_left
  · go_enter Try.func8, Try.ntmps8
    go_wp2
    go_ret
    exact ⟨rfl, Below.refl _ _⟩
  go_enter Try.func8, Try.ntmps8
  have BB0 : Hid (Below w.heap.size w w) := Lib.hid (Below.refl _ _)
  go_wp2_with fail
  refine (toIntS_any A0 n0 c0 xs0 w (by omega) (HR0.out.below BB0.out)).mono ?_
  rintro e w1 ⟨As0, cs0, rfl, hown, hb⟩
  have Os0_1 := Lib.hid hown; clear hown
  have Ls0 := Lib.hid (own_lt Os0_1.out)
  have B0 := Lib.hid hb; clear hb
  have Z0 := Lib.hid (B0.out.size)
  have BB1 := Lib.hid (below_then BB0.out B0.out)
  go_wp2_with fail
  refine (specDelayOf_any As0 n0 cs0 xs0 a1 a2 w1 (by omega) (Reads.of_own Os0_1.out)).mono ?_
  rintro e w2 ⟨rfl, hb⟩
  have B1 := Lib.hid hb; clear hb
  have Z1 := Lib.hid (B1.out.size)
  have BB2 := Lib.hid (BB1.out.trans (B1.out.mono BB1.out.size))
  have Os0_2 := Lib.hid (own_below Os0_1.out B1.out)
  go_wp2_with fail
  refine (toIntS_any A0 n0 c0 xs0 w2 (by omega) (HR0.out.below BB2.out)).mono ?_
  rintro e w3 ⟨Ax0, cx0, rfl, hown, hb⟩
  have Ox0_3 := Lib.hid hown; clear hown
  have Lx0 := Lib.hid (own_lt Ox0_3.out)
  have B2 := Lib.hid hb; clear hb
  have Z2 := Lib.hid (B2.out.size)
  have BB3 := Lib.hid (BB2.out.trans (B2.out.mono BB2.out.size))
  go_wp2_with fail
  refine (implDelayOf_any Ax0 n0 cx0 xs0 a1 a2 w3 (by omega) (Reads.of_own Ox0_3.out)).mono ?_
  rintro e w4 ⟨rfl, hb⟩
  have B3 := Lib.hid hb; clear hb
  have Z3 := Lib.hid (B3.out.size)
  have BB4 := Lib.hid (BB3.out.trans (B3.out.mono BB3.out.size))
  have Ox0_4 := Lib.hid (own_below Ox0_3.out B3.out)
  go_wp2_with fail
  refine (toIntS_any A0 n0 c0 xs0 w4 (by omega) (HR0.out.below BB4.out)).mono ?_
  rintro e w5 ⟨At0, ct0, rfl, hown, hb⟩
  have Ot0_5 := Lib.hid hown; clear hown
  have Lt0 := Lib.hid (own_lt Ot0_5.out)
  have B4 := Lib.hid hb; clear hb
  have Z4 := Lib.hid (B4.out.size)
  have BB5 := Lib.hid (BB4.out.trans (B4.out.mono BB4.out.size))
  have Ox0_5 := Lib.hid (own_below Ox0_4.out B4.out)
  go_wp2_with fail
  refine (eqIntS_any Ax0 At0 n0 cx0 ct0 xs0 w5 (by omega) (Reads.of_own Ox0_5.out) (Reads.of_own Ot0_5.out)).mono ?_
  rintro e w6 ⟨rfl, hb⟩
  replace hb := below_of_quiet (B := w5.heap.size) hb
  have B5 := Lib.hid hb; clear hb
  have Z5 := Lib.hid (B5.out.size)
  have BB6 := Lib.hid (BB5.out.trans (B5.out.mono BB5.out.size))
  have Ox0_6 := Lib.hid (own_below Ox0_5.out B5.out)
  have Ot0_6 := Lib.hid (own_below Ot0_5.out B5.out)
  go_wp2_with fail
  go_ret
  exact ⟨rfl, BB6.out⟩
set_option maxHeartbeats 2000000 in
set_option maxRecDepth 100000 in
theorem law_FnExactWorstDelay (w : World) {v0 v1 : Value} (h0 : IsInts w v0) (h1 : IsInt v1) :
    Calls Try.prog 9 #[v0, v1] w fun e w' => e = .returned (.bool true) ∧ Below w.heap.size w w' := by
  obtain ⟨A0, n0, c0, xs0, rfl, _, _, hr0, _⟩ := h0
  obtain ⟨a1, rfl, _⟩ := h1
  have HR0 := Lib.hid hr0; clear hr0
  by_cases hn0 : n0 ≤ 1048576
  rotate_left
  · go_enter Try.func9, Try.ntmps9
    go_wp2
    go_ret
    exact ⟨rfl, Below.refl _ _⟩
  go_enter Try.func9, Try.ntmps9
  have BB0 : Hid (Below w.heap.size w w) := Lib.hid (Below.refl _ _)
  go_wp2_with fail
  refine (toIntS_any A0 n0 c0 xs0 w (by omega) (HR0.out.below BB0.out)).mono ?_
  rintro e w1 ⟨As0, cs0, rfl, hown, hb⟩
  have Os0_1 := Lib.hid hown; clear hown
  have Ls0 := Lib.hid (own_lt Os0_1.out)
  have B0 := Lib.hid hb; clear hb
  have Z0 := Lib.hid (B0.out.size)
  have BB1 := Lib.hid (below_then BB0.out B0.out)
  go_wp2_with fail
  refine (specWorstDelay_any As0 n0 cs0 xs0 a1 w1 (by omega) (Reads.of_own Os0_1.out)).mono ?_
  rintro e w2 ⟨rfl, hb⟩
  have B1 := Lib.hid hb; clear hb
  have Z1 := Lib.hid (B1.out.size)
  have BB2 := Lib.hid (BB1.out.trans (B1.out.mono BB1.out.size))
  have Os0_2 := Lib.hid (own_below Os0_1.out B1.out)
  go_wp2_with fail
  refine (toIntS_any A0 n0 c0 xs0 w2 (by omega) (HR0.out.below BB2.out)).mono ?_
  rintro e w3 ⟨Ax0, cx0, rfl, hown, hb⟩
  have Ox0_3 := Lib.hid hown; clear hown
  have Lx0 := Lib.hid (own_lt Ox0_3.out)
  have B2 := Lib.hid hb; clear hb
  have Z2 := Lib.hid (B2.out.size)
  have BB3 := Lib.hid (BB2.out.trans (B2.out.mono BB2.out.size))
  go_wp2_with fail
  refine (implWorstDelay_any Ax0 n0 cx0 xs0 a1 w3 (by omega) (Reads.of_own Ox0_3.out)).mono ?_
  rintro e w4 ⟨rfl, hb⟩
  have B3 := Lib.hid hb; clear hb
  have Z3 := Lib.hid (B3.out.size)
  have BB4 := Lib.hid (BB3.out.trans (B3.out.mono BB3.out.size))
  have Ox0_4 := Lib.hid (own_below Ox0_3.out B3.out)
  go_wp2_with fail
  refine (toIntS_any A0 n0 c0 xs0 w4 (by omega) (HR0.out.below BB4.out)).mono ?_
  rintro e w5 ⟨At0, ct0, rfl, hown, hb⟩
  have Ot0_5 := Lib.hid hown; clear hown
  have Lt0 := Lib.hid (own_lt Ot0_5.out)
  have B4 := Lib.hid hb; clear hb
  have Z4 := Lib.hid (B4.out.size)
  have BB5 := Lib.hid (BB4.out.trans (B4.out.mono BB4.out.size))
  have Ox0_5 := Lib.hid (own_below Ox0_4.out B4.out)
  go_wp2_with fail
  refine (eqIntS_any Ax0 At0 n0 cx0 ct0 xs0 w5 (by omega) (Reads.of_own Ox0_5.out) (Reads.of_own Ot0_5.out)).mono ?_
  rintro e w6 ⟨rfl, hb⟩
  replace hb := below_of_quiet (B := w5.heap.size) hb
  have B5 := Lib.hid hb; clear hb
  have Z5 := Lib.hid (B5.out.size)
  have BB6 := Lib.hid (BB5.out.trans (B5.out.mono BB5.out.size))
  have Ox0_6 := Lib.hid (own_below Ox0_5.out B5.out)
  have Ot0_6 := Lib.hid (own_below Ot0_5.out B5.out)
  go_wp2_with fail
  go_ret
  exact ⟨rfl, BB6.out⟩

end Go.Proofs.Ytgdlaeibdpbgdaa
