/- Contracts of BusyWindow of both packages, and the law over them. No conditions. -/
import Derived.Test.YtgdlaeibdpbgdaaTr3
namespace Go.Proofs.Ytgdlaeibdpbgdaa
set_option linter.unusedSimpArgs false
set_option linter.unusedVariables false
open Go.RowKit

def busyStep (xs : List Int) (k : Nat) (s : Int × Int) (t : Nat) : Int × Int := if s.2 < sumL ((xs.drop t).take k) then ((t : Int), sumL ((xs.drop t).take k)) else s
def busy (xs : List Int) (k m : Nat) : Int × Int := (List.range m).foldl (busyStep xs k) (0, -1)
theorem busy_succ (xs : List Int) (k m : Nat) : busy xs k (m + 1) = busyStep xs k (busy xs k m) m := by simp [busy, List.range_succ]
def busyR (xs : List Int) (k : Int) : Int × Int × Bool := if arrB xs = true ∧ inB k 1 (xs.length : Int) = true then ((busy xs k.toNat (xs.length + 1 - k.toNat)).1, (busy xs k.toNat (xs.length + 1 - k.toNat)).2, true) else (0, 0, false)
theorem reads_mid {w : World} {ad : Addr} {n : Nat} {xs : List Int} (hc : ∀ j u, (ints xs)[j]? = some u → w.cell? (ad.add j) = some u) (hl : xs.length = n) {t k : Nat} (hk : t + k ≤ n) :
    Reads w 1 (some (ad.add t)) k (ints ((xs.drop t).take k)) := by
  refine ⟨by simp; omega, fun _ => ⟨_, rfl, fun j u hu => ?_⟩⟩
  rw [add_of_add]
  apply hc
  simp only [ints, List.getElem?_map, List.getElem?_take, List.getElem?_drop] at hu ⊢
  split at hu
  · exact hu
  · simp at hu

set_option maxHeartbeats 4000000 in
theorem specBusyWindow_any (A : Option Addr) (n c : Nat) (xs : List Int) (k0 : Int) (w : World) (hn : n ≤ 1000000000) (h : Reads w 1 A n (ints xs)) (hnc : n ≤ c) :
    Calls Try.prog 15 #[.slice A n c, .int .i64 k0] w fun e w' => e = .returned (.tuple #[.int .i64 (busyR xs k0).1, .int .i64 (busyR xs k0).2.1, .bool (busyR xs k0).2.2]) ∧ Below w.heap.size w w' := by
  have c1 := trArrivals_any A n c xs w hn h
  have hlx : xs.length = n := by simpa using h.1
  
  
  
  cases hg : arrB xs with
  | false =>
    have hr : busyR xs k0 = (0, 0, false) := by simp [busyR, hg]
    rw [hr]
    rw [hg] at c1
    have C1 := Lib.hid c1
    clear c1 hr hg h hlx
    go_enter Try.func15, Try.ntmps15
    go_wp2_with (go_at_call 47; refine (C1.out).mono ?_; rintro e w' ⟨rfl, rfl⟩)
    go_ret3
    exact ⟨rfl, Below.refl _ _⟩
  | true =>
    rw [hg] at c1
    have C1 := Lib.hid c1
    clear c1
    cases hin : inB k0 1 (n : Int) with
    | false =>
      have hr : busyR xs k0 = (0, 0, false) := by simp [busyR, hlx, hin]
      rw [hr]
      clear hr hg h hlx
      go_enter Try.func15, Try.ntmps15
      go_wp2_with (first | (go_at_call 47; refine (C1.out).mono ?_; rintro e w' ⟨rfl, rfl⟩) | (go_at_call 48; refine (l1In_any _ _ _ _).mono ?_; rintro e w' ⟨rfl, rfl⟩))
      go_ret3
      exact ⟨rfl, Below.refl _ _⟩
    | true =>
      obtain ⟨hk1, hk2⟩ := inB_true.1 hin
      obtain ⟨k, rfl⟩ : ∃ k : Nat, k0 = (k : Int) := ⟨k0.toNat, by omega⟩
      have hr : busyR xs (k : Int) = ((busy xs k (n + 1 - k)).1, (busy xs k (n + 1 - k)).2, true) := by simp [busyR, hg, hlx, hin]
      rw [hr]
      obtain ⟨hn60, hx⟩ := arrB_true.1 hg
      have hn60' : n ≤ 60 := by omega
      have HX := Lib.hid hx
      have HL := Lib.hid hlx
      obtain ⟨ad, rfl, hc⟩ := h.2 (by omega)
      have HC := Lib.hid hc
      clear hr hg h hlx hx hn60 hc
      go_enter Try.func15, Try.ntmps15
      go_wp2_with (first | (go_at_call 47; refine (C1.out).mono ?_; rintro e w' ⟨rfl, rfl⟩) | (go_at_call 48; refine (l1In_any _ _ _ _).mono ?_; rintro e w' ⟨rfl, rfl⟩))
      go_loop [7, 8, 9] (fun s0 b0 i => ∃ t : Nat, t + k ≤ n + 1 ∧ i = .int .i64 t ∧ s0 = .int .i64 (busy xs k t).1 ∧ b0 = .int .i64 (busy xs k t).2) (fun _ _ i => 100 - (intOf i).toNat)
      case atStart => exact ⟨0, by omega, rfl, rfl, rfl⟩
      case round =>
        obtain ⟨t, htk, rfl, rfl, rfl⟩ := hrel
        have HBS := Lib.hid (busy_succ xs k t)
        by_cases hlt : t + k ≤ n
        · generalize busy xs k t = sb at *
          obtain ⟨s, b⟩ := sb
          have htc : t < c := by omega
          have htkc : t + k ≤ c := by omega
          have HRD := Lib.hid (reads_mid HC.out HL.out hlt)
          have hyb : ∀ x ∈ (xs.drop t).take k, 0 ≤ x ∧ x ≤ 200 := fun x hx' => HX.out x (List.mem_of_mem_drop (List.mem_of_mem_take hx'))
          have HYB := Lib.hid hyb
          have hyl : ((xs.drop t).take k).length = k := by simp; rw [HL.out]; omega
          have HYL := Lib.hid hyl
          obtain ⟨S, hS⟩ : ∃ S, sumL ((xs.drop t).take k) = S := ⟨_, rfl⟩
          have hSb := sumL_bd _ 0 200 hyb
          rw [hS, hyl] at hSb
          have HSY2 := Lib.hid hS
          obtain ⟨ys, hys⟩ : ∃ ys, (xs.drop t).take k = ys := ⟨_, rfl⟩
          rw [hys] at hS HRD HYB HYL
          have HSY := Lib.hid hS
          clear hyb hyl hS hys

          have C3 := Lib.hid (trSum_any (some (ad.add t)) k (c - t) ys w (by omega) HRD.out (fun x hx' => by have := HYB.out x hx'; omega))
          rw [HSY.out] at C3
          by_cases hmost : b < S
          all_goals
            go_wp2_with (go_at_call 49; refine (C3.out).mono ?_; rintro e w' ⟨rfl, rfl⟩)
            go_round
            case rel => exact ⟨t + 1, by omega, by go_num, by rw [HBS.out]; simp only [busyStep, HSY2.out]; first | rw [if_pos (by omega)] | rw [if_neg (by omega)], by rw [HBS.out]; simp only [busyStep, HSY2.out]; first | rw [if_pos (by omega)] | rw [if_neg (by omega)]⟩
            case measure => simp [intOf]; omega

        · obtain rfl : t = n + 1 - k := by omega
          have e : (n + 1 - k : Nat) + k = n + 1 := by omega
          have hgt : ¬ (((n + 1 - k : Nat) : Int) + (k : Int) ≤ (n : Int)) := by omega
          clear e HBS
          go_wp2
          go_ret3
          exact ⟨rfl, Below.refl _ _⟩

set_option maxHeartbeats 4000000 in
theorem implBusyWindow_any (A : Option Addr) (n c : Nat) (xs : List Int) (k0 : Int) (w : World) (hn : n ≤ 1000000000) (h : Reads w 1 A n (ints xs)) (hnc : n ≤ c) :
    Calls Try.prog 17 #[.slice A n c, .int .i64 k0] w fun e w' => e = .returned (.tuple #[.int .i64 (busyR xs k0).1, .int .i64 (busyR xs k0).2.1, .bool (busyR xs k0).2.2]) ∧ Below w.heap.size w w' := by
  have c1 := trafficAsked_any A n c xs 1 w hn h
  have hlx : xs.length = n := by simpa using h.1
  have ht : trafB xs 1 = arrB xs := by simp [trafB, inB]
  rw [ht] at c1
  clear ht
  cases hg : arrB xs with
  | false =>
    have hr : busyR xs k0 = (0, 0, false) := by simp [busyR, hg]
    rw [hr]
    rw [hg] at c1
    have C1 := Lib.hid c1
    clear c1 hr hg h hlx
    go_enter Try.func17, Try.ntmps17
    go_wp2_with (go_at_call 50; refine (C1.out).mono ?_; rintro e w' ⟨rfl, rfl⟩)
    go_ret3
    exact ⟨rfl, Below.refl _ _⟩
  | true =>
    rw [hg] at c1
    have C1 := Lib.hid c1
    clear c1
    cases hin : inB k0 1 (n : Int) with
    | false =>
      have hr : busyR xs k0 = (0, 0, false) := by simp [busyR, hlx, hin]
      rw [hr]
      clear hr hg h hlx
      go_enter Try.func17, Try.ntmps17
      go_wp2_with (first | (go_at_call 50; refine (C1.out).mono ?_; rintro e w' ⟨rfl, rfl⟩) | (go_at_call 51; refine (within_any _ _ _ _).mono ?_; rintro e w' ⟨rfl, rfl⟩))
      go_ret3
      exact ⟨rfl, Below.refl _ _⟩
    | true =>
      obtain ⟨hk1, hk2⟩ := inB_true.1 hin
      obtain ⟨k, rfl⟩ : ∃ k : Nat, k0 = (k : Int) := ⟨k0.toNat, by omega⟩
      have hr : busyR xs (k : Int) = ((busy xs k (n + 1 - k)).1, (busy xs k (n + 1 - k)).2, true) := by simp [busyR, hg, hlx, hin]
      rw [hr]
      obtain ⟨hn60, hx⟩ := arrB_true.1 hg
      have hn60' : n ≤ 60 := by omega
      have HX := Lib.hid hx
      have HL := Lib.hid hlx
      obtain ⟨ad, rfl, hc⟩ := h.2 (by omega)
      have HC := Lib.hid hc
      clear hr hg h hlx hx hn60 hc
      go_enter Try.func17, Try.ntmps17
      go_wp2_with (first | (go_at_call 50; refine (C1.out).mono ?_; rintro e w' ⟨rfl, rfl⟩) | (go_at_call 51; refine (within_any _ _ _ _).mono ?_; rintro e w' ⟨rfl, rfl⟩))
      go_loop [7, 8, 9] (fun s0 b0 i => ∃ t : Nat, t + k ≤ n + 1 ∧ i = .int .i64 t ∧ s0 = .int .i64 (busy xs k t).1 ∧ b0 = .int .i64 (busy xs k t).2) (fun _ _ i => 100 - (intOf i).toNat)
      case atStart => exact ⟨0, by omega, rfl, rfl, rfl⟩
      case round =>
        obtain ⟨t, htk, rfl, rfl, rfl⟩ := hrel
        have HBS := Lib.hid (busy_succ xs k t)
        by_cases hlt : t + k ≤ n
        · generalize busy xs k t = sb at *
          obtain ⟨s, b⟩ := sb
          have htc : t < c := by omega
          have htkc : t + k ≤ c := by omega
          have HRD := Lib.hid (reads_mid HC.out HL.out hlt)
          have hyb : ∀ x ∈ (xs.drop t).take k, 0 ≤ x ∧ x ≤ 200 := fun x hx' => HX.out x (List.mem_of_mem_drop (List.mem_of_mem_take hx'))
          have HYB := Lib.hid hyb
          have hyl : ((xs.drop t).take k).length = k := by simp; rw [HL.out]; omega
          have HYL := Lib.hid hyl
          obtain ⟨S, hS⟩ : ∃ S, sumL ((xs.drop t).take k) = S := ⟨_, rfl⟩
          have hSb := sumL_bd _ 0 200 hyb
          rw [hS, hyl] at hSb
          have HSY2 := Lib.hid hS
          obtain ⟨ys, hys⟩ : ∃ ys, (xs.drop t).take k = ys := ⟨_, rfl⟩
          rw [hys] at hS HRD HYB HYL
          have HSY := Lib.hid hS
          clear hyb hyl hS hys

          go_wp2
          go_loop [10, 38] (fun s i => ∃ j : Nat, ∃ q : Int, j ≤ k ∧ i = .int .i64 j ∧ s = .int .i64 q ∧ 0 ≤ q ∧ q ≤ 200 * (j : Int) ∧ q + sumL (ys.drop j) = S) (fun _ i => k - (intOf i).toNat)
          case atStart => exact ⟨0, 0, Nat.zero_le _, rfl, rfl, by omega, by omega, by simpa using HSY.out⟩
          case round =>
            obtain ⟨j, q, hj, rfl, rfl, hq1, hq2, hrel⟩ := hrel
            have HRJ := Lib.hid hrel; clear hrel
            by_cases hlt2 : j < k
            · have hyj : j < ys.length := by rw [HYL.out]; exact hlt2
              obtain ⟨_, e, hcy⟩ := HRD.out.2 (by omega)
              injection e with e
              subst e
              have hcell : w.cell? ((ad.add t).add j) = some (.int .i64 ys[j]) := hcy j _ (by simp [ints, hyj])
              have hby := HYB.out ys[j] (List.getElem_mem hyj)
              have HDJ := Lib.hid (drop_cons hyj)
              clear hcy
              generalize ys[j] = y at hcell hby HDJ
              go_wp2
              go_round
              case rel => exact ⟨j + 1, _, by omega, by go_num, rfl, by omega, by omega, by rw [← HRJ.out, HDJ.out]; simp only [sumL]; omega⟩
              case measure => simp [intOf]; omega
            · obtain rfl : j = k := by omega
              have HEJ := Lib.hid (drop_end (xs := ys) (k := j) (by rw [HYL.out]; omega))
              have hqS : q = S := by have := HRJ.out; rw [HEJ.out] at this; simpa [sumL] using this
              subst hqS
              clear HRJ HEJ
              by_cases hmost : b < q
              all_goals
                go_wp2
                go_round
                case rel => exact ⟨t + 1, by omega, by go_num, by rw [HBS.out]; simp only [busyStep, HSY2.out]; first | rw [if_pos (by omega)] | rw [if_neg (by omega)], by rw [HBS.out]; simp only [busyStep, HSY2.out]; first | rw [if_pos (by omega)] | rw [if_neg (by omega)]⟩
                case measure => simp [intOf]; omega

        · obtain rfl : t = n + 1 - k := by omega
          have e : (n + 1 - k : Nat) + k = n + 1 := by omega
          have hgt : ¬ (((n + 1 - k : Nat) : Int) + (k : Int) ≤ (n : Int)) := by omega
          clear e HBS
          go_wp2
          go_ret3
          exact ⟨rfl, Below.refl _ _⟩
set_option maxHeartbeats 2000000 in
set_option maxRecDepth 100000 in
theorem law_FnExactBusyWindow (w : World) {v0 v1 : Value} (h0 : IsInts w v0) (h1 : IsInt v1) :
    Calls Try.prog 3 #[v0, v1] w fun e w' => e = .returned (.bool true) ∧ Below w.heap.size w w' := by
  obtain ⟨A0, n0, c0, xs0, rfl, _, _, hr0, _⟩ := h0
  obtain ⟨a1, rfl, _⟩ := h1
  have HR0 := Lib.hid hr0; clear hr0
  by_cases hn0 : n0 ≤ 1048576
  rotate_left
  · go_enter Try.func3, Try.ntmps3
    go_wp2
    go_ret
    exact ⟨rfl, Below.refl _ _⟩
  go_enter Try.func3, Try.ntmps3
  have BB0 : Hid (Below w.heap.size w w) := Lib.hid (Below.refl _ _)
  go_wp2_with fail
  refine (toIntS_any A0 n0 c0 xs0 w (by omega) (HR0.out.below BB0.out)).mono ?_
  rintro e w1 ⟨As0, cs0, rfl, hown, hb⟩
  have Os0_1 := Lib.hid hown; clear hown
  have Ls0 := Lib.hid (own_lt Os0_1.out)
  have B0 := Lib.hid hb; clear hb
  have Z0 := Lib.hid (B0.out.size)
  have BB1 := Lib.hid (below_then BB0.out B0.out)
  go_wp2_with fail
  refine (specBusyWindow_any As0 n0 cs0 xs0 a1 w1 (by omega) (Reads.of_own Os0_1.out) (own_cap Os0_1.out)).mono ?_
  rintro e w2 ⟨rfl, hb⟩
  have B1 := Lib.hid hb; clear hb
  have Z1 := Lib.hid (B1.out.size)
  have BB2 := Lib.hid (BB1.out.trans (B1.out.mono BB1.out.size))
  have Os0_2 := Lib.hid (own_below Os0_1.out B1.out)
  go_wp2_with fail
  refine (toIntS_any A0 n0 c0 xs0 w2 (by omega) (HR0.out.below BB2.out)).mono ?_
  rintro e w3 ⟨Ax0, cx0, rfl, hown, hb⟩
  have Ox0_3 := Lib.hid hown; clear hown
  have Lx0 := Lib.hid (own_lt Ox0_3.out)
  have B2 := Lib.hid hb; clear hb
  have Z2 := Lib.hid (B2.out.size)
  have BB3 := Lib.hid (BB2.out.trans (B2.out.mono BB2.out.size))
  go_wp2_with fail
  refine (implBusyWindow_any Ax0 n0 cx0 xs0 a1 w3 (by omega) (Reads.of_own Ox0_3.out) (own_cap Ox0_3.out)).mono ?_
  rintro e w4 ⟨rfl, hb⟩
  have B3 := Lib.hid hb; clear hb
  have Z3 := Lib.hid (B3.out.size)
  have BB4 := Lib.hid (BB3.out.trans (B3.out.mono BB3.out.size))
  have Ox0_4 := Lib.hid (own_below Ox0_3.out B3.out)
  go_wp2_with fail
  refine (toIntS_any A0 n0 c0 xs0 w4 (by omega) (HR0.out.below BB4.out)).mono ?_
  rintro e w5 ⟨At0, ct0, rfl, hown, hb⟩
  have Ot0_5 := Lib.hid hown; clear hown
  have Lt0 := Lib.hid (own_lt Ot0_5.out)
  have B4 := Lib.hid hb; clear hb
  have Z4 := Lib.hid (B4.out.size)
  have BB5 := Lib.hid (BB4.out.trans (B4.out.mono BB4.out.size))
  have Ox0_5 := Lib.hid (own_below Ox0_4.out B4.out)
  go_wp2_with fail
  refine (eqIntS_any Ax0 At0 n0 cx0 ct0 xs0 w5 (by omega) (Reads.of_own Ox0_5.out) (Reads.of_own Ot0_5.out)).mono ?_
  rintro e w6 ⟨rfl, hb⟩
  replace hb := below_of_quiet (B := w5.heap.size) hb
  have B5 := Lib.hid hb; clear hb
  have Z5 := Lib.hid (B5.out.size)
  have BB6 := Lib.hid (BB5.out.trans (B5.out.mono BB5.out.size))
  have Ox0_6 := Lib.hid (own_below Ox0_5.out B5.out)
  have Ot0_6 := Lib.hid (own_below Ot0_5.out B5.out)
  go_wp2_with fail
  go_ret
  exact ⟨rfl, BB6.out⟩

end Go.Proofs.Ytgdlaeibdpbgdaa
