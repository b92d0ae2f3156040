/- The spec's drawings for the laws of traffic: least capacities, windows, shares. No conditions. -/
import Derived.Test.YtgdlaeibdpbgdaaDrC
import Derived.Deep.DeepCutAuto
namespace Go.Proofs.Ytgdlaeibdpbgdaa
set_option linter.unusedSimpArgs false
set_option linter.unusedVariables false
open Go.RowKit


set_option maxHeartbeats 1000000 in
theorem drawLeastCapacity_any (A : Option Addr) (n c : Nat) (l : List Int) (w : World) (hn : n ≤ 9223372036854775807) (hl : ∀ x ∈ l, 0 ≤ x ∧ x ≤ 255) (h : Reads w 1 A n (bytesV l)) :
    Calls Try.prog 42 #[.slice A n c] w fun e w' => ∃ B d xs lim, e = .returned (.tuple #[.slice B (List.length xs) d, .int .i64 lim]) ∧ xs.length ≤ 61 ∧ (-1 ≤ lim ∧ lim ≤ 12001) ∧ w'.ownsRow w.heap.size 3 1 (.slice B xs.length d) xs.length (ints xs) ∧ Below w.heap.size w w' := by
  have HB0 : Hid (Below w.heap.size w (w.alloc (.cells #[.slice A n c, .int .i64 0, .int .u64 0] 53))) := Lib.hid ((Below.refl _ _).alloc (Nat.le_refl _) _)
  have HZ0 : Hid ((w.alloc (.cells #[.slice A n c, .int .i64 0, .int .u64 0] 53)).heap.size = w.heap.size + 1) := Lib.hid (by simp)
  have HC := Lib.hid (Cur.new (c := c) h hn hl)
  clear h hl
  go_enter Try.func42, Try.ntmps42
  go_wp2_with fail
  refine (arrivals_any w.heap.size 0 _ (by omega) HC.out).mono ?_
  rintro e w1 ⟨B, d, xs, rfl, hx, hs, ho, hc, hd⟩
  have HC := Lib.hid hc; have HO := Lib.hid ho; have HD := Lib.hid hd
  clear hc ho hd
  go_wp2_with fail
  refine (amongLit_any w.heap.size _ [12001, -1] 3 _ _ _ rfl rfl (by omega) (by simp) (by simp) HC.out).mono ?_
  rintro e w2 ⟨x, hx, rfl, hc, hd⟩
  have hxb : -1 ≤ x ∧ x ≤ 12001 := by simp at hx; omega
  have HO := Lib.hid (Drew.own hd HO.out (by have := HZ0.out; omega))
  have HC := Lib.hid hc; have HD := Lib.hid (HD.out.trans hd)
  clear hc hd hx
  go_wp2_with fail
  refine (amongLit_any w.heap.size _ [0, 1, 5, 20, 12000, x] 3 _ _ _ rfl rfl (by omega) (by simp) (by simp) HC.out).mono ?_
  rintro e w3 ⟨y, hy, rfl, hc, hd⟩
  have hyb : -1 ≤ y ∧ y ≤ 12001 := by simp at hy; omega
  have HO := Lib.hid (Drew.own hd HO.out (by have := HZ0.out; omega))
  have HC := Lib.hid hc; have HD := Lib.hid (HD.out.trans hd)
  clear hc hd hy
  go_wp2
  go_ret2
  exact ⟨B, d, xs, y, rfl, hx, hyb, own_mono HO.out (base' := w.heap.size) (by have := HZ0.out; omega), HB0.out.trans (Drew.allB HD.out (Nat.le_refl w.heap.size) (by have := HZ0.out; omega))⟩
set_option maxHeartbeats 1000000 in
theorem drawBusyWindow_any (A : Option Addr) (n c : Nat) (l : List Int) (w : World) (hn : n ≤ 9223372036854775807) (hl : ∀ x ∈ l, 0 ≤ x ∧ x ≤ 255) (h : Reads w 1 A n (bytesV l)) :
    Calls Try.prog 43 #[.slice A n c] w fun e w' => ∃ B d xs k, e = .returned (.tuple #[.slice B (List.length xs) d, .int .i64 k]) ∧ xs.length ≤ 61 ∧ (0 ≤ k ∧ k ≤ 62) ∧ w'.ownsRow w.heap.size 3 1 (.slice B xs.length d) xs.length (ints xs) ∧ Below w.heap.size w w' := by
  have HB0 : Hid (Below w.heap.size w (w.alloc (.cells #[.slice A n c, .int .i64 0, .int .u64 0] 53))) := Lib.hid ((Below.refl _ _).alloc (Nat.le_refl _) _)
  have HZ0 : Hid ((w.alloc (.cells #[.slice A n c, .int .i64 0, .int .u64 0] 53)).heap.size = w.heap.size + 1) := Lib.hid (by simp)
  have HC := Lib.hid (Cur.new (c := c) h hn hl)
  clear h hl
  go_enter Try.func43, Try.ntmps43
  go_wp2_with fail
  refine (arrivals_any w.heap.size 0 _ (by omega) HC.out).mono ?_
  rintro e w1 ⟨B, d, xs, rfl, hx, hs, ho, hc, hd⟩
  have HC := Lib.hid hc; have HO := Lib.hid ho; have HD := Lib.hid hd
  clear hc ho hd
  go_wp2_with fail
  refine (amongLit_any w.heap.size _ [1, 2, 3, (xs.length : Int), (xs.length : Int) + 1, 0] 3 _ _ _ rfl rfl (by omega) (by simp) (by simp) HC.out).mono ?_
  rintro e w3 ⟨y, hy, rfl, hc, hd⟩
  have hyb : 0 ≤ y ∧ y ≤ 62 := by simp at hy; omega
  have HO := Lib.hid (Drew.own hd HO.out (by have := HZ0.out; omega))
  have HC := Lib.hid hc; have HD := Lib.hid (HD.out.trans hd)
  clear hc hd hy
  go_wp2
  go_ret2
  exact ⟨B, d, xs, y, rfl, hx, hyb, own_mono HO.out (base' := w.heap.size) (by have := HZ0.out; omega), HB0.out.trans (Drew.allB HD.out (Nat.le_refl w.heap.size) (by have := HZ0.out; omega))⟩

set_option maxHeartbeats 2000000 in
set_option maxRecDepth 100000 in
theorem drawSharesOf_any (A : Option Addr) (n c : Nat) (l : List Int) (w : World) (hn : n ≤ 9223372036854775807) (hl : ∀ x ∈ l, 0 ≤ x ∧ x ≤ 255) (h : Reads w 1 A n (bytesV l)) :
    Calls Try.prog 44 #[.slice A n c] w fun e w' => ∃ B d xs p, e = .returned (.tuple #[.slice B (List.length xs) d, .int .i64 p]) ∧ xs.length ≤ 21 ∧ (0 ≤ p ∧ p ≤ 1001) ∧ w'.ownsRow w.heap.size 3 1 (.slice B xs.length d) xs.length (ints xs) ∧ Below w.heap.size w w' := by
  have HB0 : Hid (Below w.heap.size w (w.alloc (.cells #[.slice A n c, .int .i64 0, .int .u64 0] 53))) := Lib.hid ((Below.refl _ _).alloc (Nat.le_refl _) _)
  have HZ0 : Hid ((w.alloc (.cells #[.slice A n c, .int .i64 0, .int .u64 0] 53)).heap.size = w.heap.size + 1) := Lib.hid (by simp)
  have HC := Lib.hid (Cur.new (c := c) h hn hl)
  clear h hl
  have HD : Hid (Drew w.heap.size (w.alloc (.cells #[.slice A n c, .int .i64 0, .int .u64 0] 53)) (w.alloc (.cells #[.slice A n c, .int .i64 0, .int .u64 0] 53))) := Lib.hid Turned.refl
  go_enter Try.func44, Try.ntmps44
  go_wp2_with fail
  generalize hw0 : w.alloc (.cells #[.slice A n c, .int .i64 0, .int .u64 0] 53) = w0 at *
  clear hw0
  refine (pick_any w.heap.size _ (6) _ (by omega) (by omega) HC.out).mono ?_
  rintro e w1 ⟨N, rfl, hN, hN', hc, hd⟩
  have HC := Lib.hid hc; have HD := Lib.hid (HD.out.trans hd)
  clear hc hd
  go_wp2_with fail
  refine (one_any w.heap.size _ (16) _ (by omega) (by omega) HC.out).mono ?_
  rintro e w2 ⟨b, rfl, hc, hd⟩
  have HC := Lib.hid hc; have HD := Lib.hid (HD.out.trans hd)
  clear hc hd
  go_upto_if 14 with fail
  go_cut [6] (fun o wx => ∃ M : Nat, o = .int .i64 M ∧ M ≤ 21 ∧ Cur wx w.heap.size 10 ∧ Drew w.heap.size w0 wx)
  case first =>
    cases b with
    | false =>
      go_wp2
      go_meet
      case rel => exact ⟨N + 1, by go_num, by omega, HC.out.mono (by omega), HD.out⟩
    | true =>
      go_wp2_with fail
      refine (amongLit_any w.heap.size _ [0, 20, 21] 3 _ _ _ rfl rfl (by omega) (by simp) (by simp) HC.out).mono ?_
      rintro e w3 ⟨y, hy, rfl, hc, hd⟩
      have hyb : 0 ≤ y ∧ y ≤ 21 := by simp at hy; omega
      have HC := Lib.hid hc; have HD := Lib.hid (HD.out.trans hd)
      clear hc hd hy
      obtain ⟨M, rfl⟩ : ∃ M : Nat, y = (M : Int) := ⟨y.toNat, by omega⟩
      go_wp2
      go_meet
      case rel => exact ⟨M, rfl, by omega, HC.out.mono (by omega), HD.out⟩
  case rest =>
  obtain ⟨M, rfl, hM, hc, hd⟩ := hcut
  clear HC HD
  have HST : Hid (Drew w.heap.size w0 wc ∧ Cur wc w.heap.size 10) := Lib.hid ⟨hd, hc⟩
  clear hc hd
  go_wp2
  go_loopw [5] (fun o wr => ∃ B' q d' ys, o = .slice B' q d' ∧ List.length ys = q ∧ q ≤ M ∧ wr.ownsRow (w.heap.size + 1) 3 1 (.slice B' q d') q (ints ys) ∧ Cur wr w.heap.size (10 + 4 * q) ∧ Drew w.heap.size w0 wr) (fun o _ => M - lenV o)
  case atStart => exact ⟨none, 0, 0, [], rfl, rfl, Nat.zero_le _, own_start, HST.out.2, HST.out.1⟩
  case round =>
    obtain ⟨B', q, d', ys, rfl, hlq, hq, hown, hc, hd⟩ := hrel
    clear HST
    have HLQ := Lib.hid hlq; have HO := Lib.hid hown; have HC := Lib.hid hc; have HD := Lib.hid hd
    clear hlq hown hc hd
    by_cases hlt : q < M
    · go_wp2_with fail
      refine (pick_any w.heap.size _ (900) _ (by omega) (by omega) HC.out).mono ?_
      rintro e w3 ⟨x, rfl, hx, hx', hc, hd⟩
      have HO := Lib.hid (Drew.own hd HO.out (by have := HZ0.out; omega))
      have HC := Lib.hid hc; have HD := Lib.hid (HD.out.trans hd)
      clear hc hd
      go_wp2_with fail
      refine (amongLit_any w.heap.size _ [0, 1, 1, 2, 7, (x : Int)] 3 _ _ _ rfl rfl (by omega) (by simp) (by simp) HC.out).mono ?_
      rintro e w4 ⟨y, hy, rfl, hc, hd⟩
      have hyb : 0 ≤ y ∧ y ≤ 65535 := by simp at hy; omega
      have HO := Lib.hid (Drew.own hd HO.out (by have := HZ0.out; omega))
      have HC := Lib.hid hc; have HD := Lib.hid (HD.out.trans hd)
      clear hc hd hy
      have HZ : Hid (w.heap.size + 1 ≤ w4.heap.size) := Lib.hid (by have := HD.out.size; have := HZ0.out; omega)
      go_wp2_with (at_builtin; refine wpList_push _ rfl (.tmp 22) (.tmp 28) 22 rfl (w.heap.size + 1) 3 (.int .i64 0) 1 8 infoInt rfl (by omega) Try.underlying22 B' q d' (ints ys) rfl (HO.out.alloc _) (some ⟨w4.heap.size, 0, none⟩) 1 1 [.int .i64 y] rfl (reads_new _ _ _) (by simp [Value.oneCell']) (by omega) (by omega) (by have := HZ.out; simp; omega) ?_; intro A' c' w5 hown5 hg5 hb5)
      have hb6 : Below (w.heap.size + 1) w4 w5 := ((Below.refl _ _).alloc HZ.out _).trans hb5
      have HO5 := Lib.hid hown5; have HC5 := Lib.hid (HC.out.below' hb6 (by omega)); have HD5 := Lib.hid (Drew.then_below HD.out (by rw [HZ0.out]; exact hb6))
      clear hown5 hg5 hb5 hb6
      go_roundw
      case rel => exact ⟨A', q + 1, c', ys ++ [y], rfl, by simp [HLQ.out], by omega, by rw [← ints_snoc]; exact HO5.out, HC5.out.mono (by omega), HD5.out⟩
      case measure => simp [lenV]; omega
    · obtain rfl : q = M := by omega
      have HC := Lib.hid (HC.out.mono (k' := 10 + 4 * 21) (by omega))
      by_cases h0 : q = 0
      · subst h0
        go_wp2_with fail
        refine (amongLit_any w.heap.size _ [0, 1001] 3 _ _ _ rfl rfl (by omega) (by simp) (by simp) HC.out).mono ?_
        rintro e w7 ⟨x, hx, rfl, hc, hd⟩
        have hxb : 0 ≤ x ∧ x ≤ 1001 := by simp at hx; omega
        have HO := Lib.hid (Drew.own hd HO.out (by have := HZ0.out; omega))
        have HC := Lib.hid hc; have HD := Lib.hid (HD.out.trans hd)
        clear hc hd hx
        go_wp2_with fail
        refine (amongLit_any w.heap.size _ [1, 3, 10, 100, 1000, x] 3 _ _ _ rfl rfl (by omega) (by simp) (by simp) HC.out).mono ?_
        rintro e w8 ⟨y, hy, rfl, hc, hd⟩
        have hyb : 0 ≤ y ∧ y ≤ 1001 := by simp at hy; omega
        have HO := Lib.hid (Drew.own hd HO.out (by have := HZ0.out; omega))
        have HC := Lib.hid hc; have HD := Lib.hid (HD.out.trans hd)
        clear hc hd hy
        go_wp2
        go_ret2
        have HOF := HO; have HDF := HD; have HLF := HLQ
        have e1 := HLF.out
        first | subst e1 | (obtain rfl : ys = [] := List.eq_nil_of_length_eq_zero e1)
        first
        | exact ⟨B', d', ys, y, rfl, by omega, hyb, own_mono HOF.out (base' := w.heap.size) (by have := HZ0.out; omega), HB0.out.trans (Drew.allB HDF.out (Nat.le_refl w.heap.size) (by have := HZ0.out; omega))⟩
        | exact ⟨B', d', [], y, rfl, by simp, hyb, own_mono HOF.out (base' := w.heap.size) (by have := HZ0.out; omega), HB0.out.trans (Drew.allB HDF.out (Nat.le_refl w.heap.size) (by have := HZ0.out; omega))⟩
      · go_wp2_with fail
        refine (one_any w.heap.size _ (20) _ (by omega) (by omega) HC.out).mono ?_
        rintro e w3 ⟨b2, rfl, hc, hd⟩
        have HO := Lib.hid (Drew.own hd HO.out (by have := HZ0.out; omega))
        have HC := Lib.hid hc; have HD := Lib.hid (HD.out.trans hd)
        clear hc hd
        cases b2 with
        | false =>
          go_wp2_with fail
          refine (amongLit_any w.heap.size _ [0, 1001] 3 _ _ _ rfl rfl (by omega) (by simp) (by simp) HC.out).mono ?_
          rintro e w7 ⟨x, hx, rfl, hc, hd⟩
          have hxb : 0 ≤ x ∧ x ≤ 1001 := by simp at hx; omega
          have HO := Lib.hid (Drew.own hd HO.out (by have := HZ0.out; omega))
          have HC := Lib.hid hc; have HD := Lib.hid (HD.out.trans hd)
          clear hc hd hx
          go_wp2_with fail
          refine (amongLit_any w.heap.size _ [1, 3, 10, 100, 1000, x] 3 _ _ _ rfl rfl (by omega) (by simp) (by simp) HC.out).mono ?_
          rintro e w8 ⟨y, hy, rfl, hc, hd⟩
          have hyb : 0 ≤ y ∧ y ≤ 1001 := by simp at hy; omega
          have HO := Lib.hid (Drew.own hd HO.out (by have := HZ0.out; omega))
          have HC := Lib.hid hc; have HD := Lib.hid (HD.out.trans hd)
          clear hc hd hy
          go_wp2
          go_ret2
          have HOF := HO; have HDF := HD; have HLF := HLQ
          have e1 := HLF.out
          first | subst e1 | (obtain rfl : ys = [] := List.eq_nil_of_length_eq_zero e1)
          first
          | exact ⟨B', d', ys, y, rfl, by omega, hyb, own_mono HOF.out (base' := w.heap.size) (by have := HZ0.out; omega), HB0.out.trans (Drew.allB HDF.out (Nat.le_refl w.heap.size) (by have := HZ0.out; omega))⟩
          | exact ⟨B', d', [], y, rfl, by simp, hyb, own_mono HOF.out (base' := w.heap.size) (by have := HZ0.out; omega), HB0.out.trans (Drew.allB HDF.out (Nat.le_refl w.heap.size) (by have := HZ0.out; omega))⟩
        | true =>
          go_wp2_with fail
          refine (amongLit_any w.heap.size _ [-1, 12000, 12001] 3 _ _ _ rfl rfl (by omega) (by simp) (by simp) HC.out).mono ?_
          rintro e w5 ⟨v, hv, rfl, hc, hd⟩
          have hvb : -1 ≤ v ∧ v ≤ 12001 := by simp at hv; omega
          have HO := Lib.hid (Drew.own hd HO.out (by have := HZ0.out; omega))
          have HC := Lib.hid hc; have HD := Lib.hid (HD.out.trans hd)
          clear hc hd hv
          obtain ⟨ga, rfl, hga⟩ := own_at0 HO.out (by omega)
          have hql : 0 < ys.length := by have := HLQ.out; omega
          have k0 : w5.cell? ⟨ga, 0, none⟩ = some (.int .i64 ys[0]) := by
            rw [HO.out.cellAt 0 (by omega)]
            simp [ints, hql]
          have f0 : w5.frozen? ⟨ga, 0, none⟩ = false := HO.out.frozenAt 0
          have hx1 : (0 : Int) < (q : Int) := by omega
          have HS := (HO.out.stored 0 (.int .i64 v)).1
          rw [ints_setB] at HS
          have hbs : Below (w.heap.size + 1) w5 (w5.setCell ⟨ga, 0, none⟩ (.int .i64 v)) := (Below.refl _ _).setCell (p := ⟨ga, 0, none⟩) hga _
          have HO := Lib.hid HS; have HC := Lib.hid (HC.out.below' hbs (by omega)); have HD := Lib.hid (Drew.then_below HD.out (by rw [HZ0.out]; exact hbs))
          have HLQ : Hid ((ys.set 0 v).length = q) := Lib.hid (by rw [List.length_set]; exact HLQ.out)
          clear HS hbs
          go_wp2_with fail
          clear k0 f0
          have hsz : w5.heap.size = (w5.setCell ⟨ga, 0, none⟩ (.int .i64 v)).heap.size := by simp [World.setCell]
          generalize ys.set 0 v = zs at *
          generalize w5.setCell ⟨ga, 0, none⟩ (.int .i64 v) = w6 at *
          refine (amongLit_any w.heap.size _ [0, 1001] 3 w6 w5.heap.size _ hsz rfl (by omega) (by simp) (by simp) HC.out).mono ?_
          rintro e w7 ⟨x, hx, rfl, hc, hd⟩
          have hxb : 0 ≤ x ∧ x ≤ 1001 := by simp at hx; omega
          have HO := Lib.hid (Drew.own hd HO.out (by have := HZ0.out; omega))
          have HC := Lib.hid hc; have HD := Lib.hid (HD.out.trans hd)
          clear hc hd hx
          go_wp2_with fail
          refine (amongLit_any w.heap.size _ [1, 3, 10, 100, 1000, x] 3 _ _ _ rfl rfl (by omega) (by simp) (by simp) HC.out).mono ?_
          rintro e w8 ⟨y, hy, rfl, hc, hd⟩
          have hyb : 0 ≤ y ∧ y ≤ 1001 := by simp at hy; omega
          have HO := Lib.hid (Drew.own hd HO.out (by have := HZ0.out; omega))
          have HC := Lib.hid hc; have HD := Lib.hid (HD.out.trans hd)
          clear hc hd hy
          go_wp2
          go_ret2
          have HOF := HO; have HDF := HD; have HLF := HLQ
          have e1 := HLF.out
          first | subst e1 | (obtain rfl : zs = [] := List.eq_nil_of_length_eq_zero e1)
          first
          | exact ⟨some ⟨ga, 0, none⟩, d', zs, y, rfl, by omega, hyb, own_mono HOF.out (base' := w.heap.size) (by have := HZ0.out; omega), HB0.out.trans (Drew.allB HDF.out (Nat.le_refl w.heap.size) (by have := HZ0.out; omega))⟩
          | exact ⟨some ⟨ga, 0, none⟩, d', [], y, rfl, by simp, hyb, own_mono HOF.out (base' := w.heap.size) (by have := HZ0.out; omega), HB0.out.trans (Drew.allB HDF.out (Nat.le_refl w.heap.size) (by have := HZ0.out; omega))⟩

end Go.Proofs.Ytgdlaeibdpbgdaa
