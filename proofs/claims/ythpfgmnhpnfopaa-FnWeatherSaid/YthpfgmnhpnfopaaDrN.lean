/- The spec's drawings of keys, links, slots and mixes: numbers. No conditions. -/
import Derived.Test.YthpfgmnhpnfopaaDrL
namespace Go.Proofs.Ythpfgmnhpnfopaa
set_option linter.unusedSimpArgs false
set_option linter.unusedVariables false
open Go.RowKit


set_option maxHeartbeats 1000000 in
theorem fogKey_any (g k : Nat) (w : World) (hk : k ≤ 10000000000) (h : Cur w g k) :
    Calls Try.prog 111 #[.pointer (some ⟨g, 0, none⟩)] w fun e w' => ∃ x : Int, e = .returned (.int .i64 x) ∧ Cur w' g (k + 20) ∧ Drew g w w' := by
  have HC := Lib.hid h
  have HD : Hid (Drew g w w) := Lib.hid Turned.refl
  clear h
  go_enter Try.func111, Try.ntmps111
  go_wp2_with fail
  refine (pick_any g _ (60000) _ (by omega) (by omega) HC.out).mono ?_
  rintro e w1 ⟨x, rfl, hx, hx', hc, hd⟩
  have HC := Lib.hid hc; have HD := Lib.hid (HD.out.trans hd)
  clear hc hd
  go_wp2_with fail
  refine (pick_any g _ (60000) _ (by omega) (by omega) HC.out).mono ?_
  rintro e w2 ⟨y, rfl, hy, hy', hc, hd⟩
  have HC := Lib.hid hc; have HD := Lib.hid (HD.out.trans hd)
  clear hc hd
  go_wp2_with fail
  refine (pick_any g _ (60000) _ (by omega) (by omega) HC.out).mono ?_
  rintro e w3 ⟨z, rfl, hz, hz', hc, hd⟩
  have HC := Lib.hid hc; have HD := Lib.hid (HD.out.trans hd)
  clear hc hd
  go_wp2_with fail
  refine (amongLit_any g _ [1000000000, 1000000001, -1] 3 _ _ _ rfl rfl (by omega) (by simp) (by simp) HC.out).mono ?_
  rintro e w4 ⟨u, hu, rfl, hc, hd⟩
  have HC := Lib.hid hc; have HD := Lib.hid (HD.out.trans hd)
  clear hc hd hu
  go_wp2_with fail
  refine (amongLit_any g _ [0, 7, (x : Int), (y : Int), (z : Int), u] 3 _ _ _ rfl rfl (by omega) (by simp) (by simp) HC.out).mono ?_
  rintro e w5 ⟨v, hv, rfl, hc, hd⟩
  have HC := Lib.hid hc; have HD := Lib.hid (HD.out.trans hd)
  clear hc hd hv
  go_wp2
  go_ret
  exact ⟨v, rfl, HC.out.mono (by omega), HD.out⟩

set_option maxHeartbeats 1000000 in
theorem drawFogDrawn_any (A : Option Addr) (n c : Nat) (l : List Int) (w : World) (hn : n ≤ 9223372036854775807) (hl : ∀ x ∈ l, 0 ≤ x ∧ x ≤ 255) (h : Reads w 1 A n (bytesV l)) :
    Calls Try.prog 66 #[.slice A n c] w fun e w' => ∃ x y z : Int, e = .returned (.tuple #[.int .i64 x, .int .i64 y, .int .i64 z]) ∧ Below w.heap.size w w' := by
  have HB0 : Hid (Below w.heap.size w (w.alloc (.cells #[.slice A n c, .int .i64 0, .int .u64 0] 100))) := Lib.hid ((Below.refl _ _).alloc (Nat.le_refl _) _)
  have HZ0 : Hid ((w.alloc (.cells #[.slice A n c, .int .i64 0, .int .u64 0] 100)).heap.size = w.heap.size + 1) := Lib.hid (by simp)
  have HC := Lib.hid (Cur.new (c := c) h hn hl)
  have HD : Hid (Drew w.heap.size (w.alloc (.cells #[.slice A n c, .int .i64 0, .int .u64 0] 100)) (w.alloc (.cells #[.slice A n c, .int .i64 0, .int .u64 0] 100))) := Lib.hid Turned.refl
  clear h hl
  go_enter Try.func66, Try.ntmps66
  go_wp2_with fail
  refine (fogKey_any w.heap.size _ _ (by omega) HC.out).mono ?_
  rintro e w1 ⟨x, rfl, hc, hd⟩
  have HC := Lib.hid hc; have HD := Lib.hid (HD.out.trans hd)
  clear hc hd
  go_wp2_with fail
  refine (pick_any w.heap.size _ (40) _ (by omega) (by omega) HC.out).mono ?_
  rintro e w2 ⟨y, rfl, hy, hy', hc, hd⟩
  have HC := Lib.hid hc; have HD := Lib.hid (HD.out.trans hd)
  clear hc hd
  go_wp2_with fail
  refine (amongLit_any w.heap.size _ [40, -1] 3 _ _ _ rfl rfl (by omega) (by simp) (by simp) HC.out).mono ?_
  rintro e w3 ⟨z, hz, rfl, hc, hd⟩
  have HC := Lib.hid hc; have HD := Lib.hid (HD.out.trans hd)
  clear hc hd hz
  go_wp2_with fail
  refine (amongLit_any w.heap.size _ [0, 1, (y : Int), 39, z] 3 _ _ _ rfl rfl (by omega) (by simp) (by simp) HC.out).mono ?_
  rintro e w4 ⟨u, hu, rfl, hc, hd⟩
  have HC := Lib.hid hc; have HD := Lib.hid (HD.out.trans hd)
  clear hc hd hu
  go_wp2_with fail
  refine (pick_any w.heap.size _ (21) _ (by omega) (by omega) HC.out).mono ?_
  rintro e w5 ⟨p, rfl, hp, hp', hc, hd⟩
  have HC := Lib.hid hc; have HD := Lib.hid (HD.out.trans hd)
  clear hc hd
  go_wp2_with fail
  refine (pick_any w.heap.size _ (24) _ (by omega) (by omega) HC.out).mono ?_
  rintro e w6 ⟨q, rfl, hq, hq', hc, hd⟩
  have HC := Lib.hid hc; have HD := Lib.hid (HD.out.trans hd)
  clear hc hd
  go_wp2
  go_ret3
  exact ⟨_, _, _, rfl, HB0.out.trans (Drew.allB HD.out (Nat.le_refl w.heap.size) (by have := HZ0.out; omega))⟩
set_option maxHeartbeats 1000000 in
theorem drawFogChance_any (A : Option Addr) (n c : Nat) (l : List Int) (w : World) (hn : n ≤ 9223372036854775807) (hl : ∀ x ∈ l, 0 ≤ x ∧ x ≤ 255) (h : Reads w 1 A n (bytesV l)) :
    Calls Try.prog 67 #[.slice A n c] w fun e w' => ∃ x : Int, e = .returned (.int .i64 x) ∧ Below w.heap.size w w' := by
  have HB0 : Hid (Below w.heap.size w (w.alloc (.cells #[.slice A n c, .int .i64 0, .int .u64 0] 100))) := Lib.hid ((Below.refl _ _).alloc (Nat.le_refl _) _)
  have HZ0 : Hid ((w.alloc (.cells #[.slice A n c, .int .i64 0, .int .u64 0] 100)).heap.size = w.heap.size + 1) := Lib.hid (by simp)
  have HC := Lib.hid (Cur.new (c := c) h hn hl)
  have HD : Hid (Drew w.heap.size (w.alloc (.cells #[.slice A n c, .int .i64 0, .int .u64 0] 100)) (w.alloc (.cells #[.slice A n c, .int .i64 0, .int .u64 0] 100))) := Lib.hid Turned.refl
  clear h hl
  go_enter Try.func67, Try.ntmps67
  go_wp2_with fail
  refine (pick_any w.heap.size _ (21) _ (by omega) (by omega) HC.out).mono ?_
  rintro e w5 ⟨p, rfl, hp, hp', hc, hd⟩
  have HC := Lib.hid hc; have HD := Lib.hid (HD.out.trans hd)
  clear hc hd
  go_wp2_with fail
  refine (pick_any w.heap.size _ (24) _ (by omega) (by omega) HC.out).mono ?_
  rintro e w6 ⟨q, rfl, hq, hq', hc, hd⟩
  have HC := Lib.hid hc; have HD := Lib.hid (HD.out.trans hd)
  clear hc hd
  go_wp2
  go_ret
  exact ⟨_, rfl, HB0.out.trans (Drew.allB HD.out (Nat.le_refl w.heap.size) (by have := HZ0.out; omega))⟩
set_option maxHeartbeats 1000000 in
theorem drawSlotsOf_any (A : Option Addr) (n c : Nat) (l : List Int) (w : World) (hn : n ≤ 9223372036854775807) (hl : ∀ x ∈ l, 0 ≤ x ∧ x ≤ 255) (h : Reads w 1 A n (bytesV l)) :
    Calls Try.prog 69 #[.slice A n c] w fun e w' => ∃ x y z : Int, e = .returned (.tuple #[.int .i64 x, .int .i64 y, .int .i64 z]) ∧ Below w.heap.size w w' := by
  have HB0 : Hid (Below w.heap.size w (w.alloc (.cells #[.slice A n c, .int .i64 0, .int .u64 0] 100))) := Lib.hid ((Below.refl _ _).alloc (Nat.le_refl _) _)
  have HZ0 : Hid ((w.alloc (.cells #[.slice A n c, .int .i64 0, .int .u64 0] 100)).heap.size = w.heap.size + 1) := Lib.hid (by simp)
  have HC := Lib.hid (Cur.new (c := c) h hn hl)
  have HD : Hid (Drew w.heap.size (w.alloc (.cells #[.slice A n c, .int .i64 0, .int .u64 0] 100)) (w.alloc (.cells #[.slice A n c, .int .i64 0, .int .u64 0] 100))) := Lib.hid Turned.refl
  clear h hl
  go_enter Try.func69, Try.ntmps69
  go_wp2_with fail
  refine (fogKey_any w.heap.size _ _ (by omega) HC.out).mono ?_
  rintro e w1 ⟨x, rfl, hc, hd⟩
  have HC := Lib.hid hc; have HD := Lib.hid (HD.out.trans hd)
  clear hc hd
  go_wp2_with fail
  refine (pick_any w.heap.size _ (40) _ (by omega) (by omega) HC.out).mono ?_
  rintro e w2 ⟨y, rfl, hy, hy', hc, hd⟩
  have HC := Lib.hid hc; have HD := Lib.hid (HD.out.trans hd)
  clear hc hd
  go_wp2_with fail
  refine (amongLit_any w.heap.size _ [40, -1] 3 _ _ _ rfl rfl (by omega) (by simp) (by simp) HC.out).mono ?_
  rintro e w3 ⟨z, hz, rfl, hc, hd⟩
  have HC := Lib.hid hc; have HD := Lib.hid (HD.out.trans hd)
  clear hc hd hz
  go_wp2_with fail
  refine (amongLit_any w.heap.size _ [0, 1, (y : Int), 39, z] 3 _ _ _ rfl rfl (by omega) (by simp) (by simp) HC.out).mono ?_
  rintro e w4 ⟨u, hu, rfl, hc, hd⟩
  have HC := Lib.hid hc; have HD := Lib.hid (HD.out.trans hd)
  clear hc hd hu
  go_wp2_with fail
  refine (amongLit_any w.heap.size _ [21, -1] 3 _ _ _ rfl rfl (by omega) (by simp) (by simp) HC.out).mono ?_
  rintro e w5 ⟨s, hs, rfl, hc, hd⟩
  have HC := Lib.hid hc; have HD := Lib.hid (HD.out.trans hd)
  clear hc hd hs
  go_wp2_with fail
  refine (amongLit_any w.heap.size _ [0, 1, 5, 10, 20, s] 3 _ _ _ rfl rfl (by omega) (by simp) (by simp) HC.out).mono ?_
  rintro e w6 ⟨t, ht, rfl, hc, hd⟩
  have HC := Lib.hid hc; have HD := Lib.hid (HD.out.trans hd)
  clear hc hd ht
  go_wp2
  go_ret3
  exact ⟨_, _, _, rfl, HB0.out.trans (Drew.allB HD.out (Nat.le_refl w.heap.size) (by have := HZ0.out; omega))⟩

set_option maxHeartbeats 2000000 in
set_option maxRecDepth 100000 in
theorem drawFogMix_any (A : Option Addr) (n c : Nat) (l : List Int) (w : World) (hn : n ≤ 9223372036854775807) (hl : ∀ x ∈ l, 0 ≤ x ∧ x ≤ 255) (h : Reads w 1 A n (bytesV l)) :
    Calls Try.prog 68 #[.slice A n c] w fun e w' => ∃ B m d xs, e = .returned (.slice B m d) ∧ m ≤ 7 ∧ Reads w' 1 B m (ints xs) ∧ Below w.heap.size w w' := by
  have HB0 : Hid (Below w.heap.size w (w.alloc (.cells #[.slice A n c, .int .i64 0, .int .u64 0] 100))) := Lib.hid ((Below.refl _ _).alloc (Nat.le_refl _) _)
  have HZ0 : Hid ((w.alloc (.cells #[.slice A n c, .int .i64 0, .int .u64 0] 100)).heap.size = w.heap.size + 1) := Lib.hid (by simp)
  have HC := Lib.hid (Cur.new (c := c) h hn hl)
  have HD : Hid (Drew w.heap.size (w.alloc (.cells #[.slice A n c, .int .i64 0, .int .u64 0] 100)) (w.alloc (.cells #[.slice A n c, .int .i64 0, .int .u64 0] 100))) := Lib.hid Turned.refl
  clear h hl
  have HGW : Hid (w.heap.size < w.heap.size + 1) := Lib.hid (by omega)
  go_enter Try.func68, Try.ntmps68
  go_wp2_with fail
  refine (pick_any w.heap.size _ (7) _ (by omega) (by omega) HC.out).mono ?_
  rintro e w1 ⟨N, rfl, hN, hN', hc, hd⟩
  have HC := Lib.hid hc; have HD := Lib.hid (HD.out.trans hd)
  clear hc hd
  have HST : Hid (Drew w.heap.size _ w1 ∧ Cur w1 w.heap.size 10) := Lib.hid ⟨HD.out, HC.out.mono (by omega)⟩
  have HLO : Hid (w.heap.size + 1 ≤ w1.heap.size) := Lib.hid (by have := HD.out.size; have := HZ0.out; omega)
  clear HD HC
  go_wp2
  go_loopw [4] (fun o wr => ∃ B q d xs, o = .slice B q d ∧ List.length xs = q ∧ q ≤ N ∧ wr.ownsRow (w.heap.size + 1) 3 1 (.slice B q d) q (ints xs) ∧ Cur wr w.heap.size (10 + 4 * q) ∧ Drew w.heap.size (w.alloc (.cells #[.slice A n c, .int .i64 0, .int .u64 0] 100)) wr) (fun o _ => N - lenV o)
  case atStart => exact ⟨none, 0, 0, [], rfl, rfl, Nat.zero_le _, own_start, HST.out.2, HST.out.1⟩
  case round =>
    obtain ⟨B, q, d, xs, rfl, hlq, hq, hown, hc, hd⟩ := hrel
    clear HST
    have HLQ := Lib.hid hlq; have HO := Lib.hid hown; have HC := Lib.hid hc; have HD := Lib.hid hd
    clear hlq hown hc hd
    by_cases hlt : q < N
    · go_wp2_with fail
      refine (pick_any w.heap.size _ (60000) _ (by omega) (by omega) HC.out).mono ?_
      rintro e w3 ⟨x, rfl, hx, hx', hc, hd⟩
      have HC := Lib.hid hc; have HD := Lib.hid (HD.out.trans hd)
      have HO := Lib.hid (Drew.own hd HO.out HGW.out)
      clear hc hd
      go_wp2_with fail
      refine (amongLit_any w.heap.size _ [0, 5, (x : Int), 1000000000] 3 _ _ _ rfl rfl (by omega) (by simp) (by simp) HC.out).mono ?_
      rintro e w4 ⟨y, hy, rfl, hc, hd⟩
      have HC := Lib.hid hc; have HD := Lib.hid (HD.out.trans hd)
      have HO := Lib.hid (Drew.own hd HO.out HGW.out)
      clear hc hd hy
      have HZ : Hid (w.heap.size + 1 ≤ w4.heap.size) := Lib.hid (by have := HD.out.size; have := HZ0.out; omega)
      go_wp2_with (at_builtin; refine wpList_push _ rfl (.tmp 15) (.tmp 21) 33 rfl (w.heap.size + 1) 3 (.int .i64 0) 1 8 infoInt rfl (by omega) Try.underlying33 B q d (ints xs) rfl (HO.out.alloc _) (some ⟨w4.heap.size, 0, none⟩) 1 1 [.int .i64 y] rfl (reads_new _ _ _) (by simp [Value.oneCell']) (by omega) (by omega) (by have := HZ.out; simp; omega) ?_; intro A' c' w5 hown5 hg5 hb5)
      have hb6 : Below (w.heap.size + 1) w4 w5 := ((Below.refl _ _).alloc HZ.out _).trans hb5
      have HO5 := Lib.hid hown5; have HC5 := Lib.hid (HC.out.below' hb6 HGW.out); have HD5 := Lib.hid (Drew.then_below HD.out (hb6.mono (by have := HZ0.out; omega)))
      clear hown5 hg5 hb5 hb6
      go_roundw
      case rel => exact ⟨A', q + 1, c', xs ++ [y], rfl, by simp [HLQ.out], by omega, by rw [← ints_snoc]; exact HO5.out, HC5.out.mono (by omega), HD5.out⟩
      case measure => simp [lenV]; omega
    · obtain rfl : q = N := by omega
      have HB : ∀ W, Drew w.heap.size (w.alloc (.cells #[.slice A n c, .int .i64 0, .int .u64 0] 100)) W → Below w.heap.size w W := fun W hW => HB0.out.trans (Drew.allB hW (Nat.le_refl w.heap.size) (by have := HZ0.out; omega))
      have HBB := Lib.hid HB
      clear HB
      have hq7 : q ≤ 6 := by omega
      clear hlt hq
      by_cases h0 : q = 0
      · have hq0 : ¬ (0 : Int) < (q : Int) := by omega
        clear h0
        go_wp2
        go_ret
        first
          | exact ⟨B, q, d, xs, rfl, by omega, .of_own HO.out, HBB.out _ HD.out⟩
          | exact ⟨B, q, ⟨d, rfl⟩, by omega, ⟨xs, .of_own HO.out⟩, HBB.out _ HD.out⟩
      · have hq0 : (0 : Int) < (q : Int) := by omega
        go_wp2_with fail
        refine (one_any w.heap.size _ 16 _ (by omega) (by omega) HC.out).mono ?_
        rintro e w3 ⟨b, rfl, hc, hd⟩
        have HC := Lib.hid hc; have HD := Lib.hid (HD.out.trans hd); have HO := Lib.hid (Drew.own hd HO.out HGW.out)
        clear hc hd
        cases b with
        | false =>
          go_wp2
          go_ret
          exact ⟨B, q, d, xs, rfl, by omega, .of_own HO.out, HBB.out _ HD.out⟩
        | true =>
          go_wp2_with fail
          refine (amongLit_any w.heap.size _ [-1, 1000000001] 3 _ _ _ rfl rfl (by omega) (by simp) (by simp) HC.out).mono ?_
          rintro e w4 ⟨y, hy, rfl, hc, hd⟩
          have HC := Lib.hid hc; have HD := Lib.hid (HD.out.trans hd)
          have HO := Lib.hid (Drew.own hd HO.out HGW.out)
          clear hc hd hy
          obtain ⟨ga, rfl, hga⟩ := own_at0 HO.out (by omega)
          have hql : 0 < xs.length := by have := HLQ.out; omega
          have k0 : w4.cell? ⟨ga, 0, none⟩ = some (.int .i64 xs[0]) := by
            rw [HO.out.cellAt 0 (by omega)]
            simp [ints, hql]
          have f0 : w4.frozen? ⟨ga, 0, none⟩ = false := HO.out.frozenAt 0
          have HS := (HO.out.stored 0 (.int .i64 y)).1
          rw [ints_put] at HS
          have hbs : Below w.heap.size w4 (w4.setCell ⟨ga, 0, none⟩ (.int .i64 y)) := (Below.refl _ _).setCell (p := ⟨ga, 0, none⟩) (by simp only; omega) _
          have HSS := Lib.hid HS; have HB6 := Lib.hid ((HBB.out _ HD.out).trans hbs)
          clear HS hbs hga
          go_wp2
          go_ret
          exact ⟨some ⟨ga, 0, none⟩, q, d, xs.set 0 y, rfl, by omega, .of_own HSS.out, HB6.out⟩

end Go.Proofs.Ythpfgmnhpnfopaa
