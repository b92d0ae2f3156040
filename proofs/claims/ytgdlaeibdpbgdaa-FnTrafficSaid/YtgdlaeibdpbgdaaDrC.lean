/- The spec's drawings for the laws of delays. No conditions. -/
import Derived.Test.YtgdlaeibdpbgdaaDrB
namespace Go.Proofs.Ytgdlaeibdpbgdaa
set_option linter.unusedSimpArgs false
set_option linter.unusedVariables false
open Go.RowKit


set_option maxHeartbeats 1000000 in
theorem drawWaitingAfter_any (A : Option Addr) (n c : Nat) (l : List Int) (w : World) (hn : n ≤ 9223372036854775807) (hl : ∀ x ∈ l, 0 ≤ x ∧ x ≤ 255) (h : Reads w 1 A n (bytesV l)) :
    Calls Try.prog 69 #[.slice A n c] w fun e w' => ∃ B d xs cap, e = .returned (.tuple #[.slice B (List.length xs) d, .int .i64 cap]) ∧ xs.length ≤ 61 ∧ (0 ≤ cap ∧ cap ≤ 201) ∧ w'.ownsRow w.heap.size 3 1 (.slice B xs.length d) xs.length (ints xs) ∧ Below w.heap.size w w' := by
  have HB0 : Hid (Below w.heap.size w (w.alloc (.cells #[.slice A n c, .int .i64 0, .int .u64 0] 53))) := Lib.hid ((Below.refl _ _).alloc (Nat.le_refl _) _)
  have HZ0 : Hid ((w.alloc (.cells #[.slice A n c, .int .i64 0, .int .u64 0] 53)).heap.size = w.heap.size + 1) := Lib.hid (by simp)
  have HC := Lib.hid (Cur.new (c := c) h hn hl)
  clear h hl
  go_enter Try.func69, Try.ntmps69
  go_wp2_with fail
  refine (arrivals_any w.heap.size 0 _ (by omega) HC.out).mono ?_
  rintro e w1 ⟨B, d, xs, rfl, hx, hs, ho, hc, hd⟩
  have HC := Lib.hid hc; have HO := Lib.hid ho; have HD := Lib.hid (hd.allB (Nat.le_refl w.heap.size) (by have := HZ0.out; omega))
  clear hc ho hd
  go_wp2_with fail
  refine (capacity_any w.heap.size _ _ (by omega) HC.out).mono ?_
  rintro e w2 ⟨y, rfl, hy, hc, hd⟩
  have HO := Lib.hid (own_mono (Drew.own hd HO.out (by have := HZ0.out; omega)) (base' := w.heap.size) (by have := HZ0.out; omega))
  have HD := Lib.hid ((HB0.out.trans HD.out).trans (hd.allB (Nat.le_refl w.heap.size) (by have h1 := HD.out.size; have h2 := HZ0.out; omega)))
  clear hc hd
  go_wp2
  go_ret2
  exact ⟨B, d, xs, y, rfl, hx, hy, HO.out, HD.out⟩

theorem drawMeanDelay_any (A : Option Addr) (n c : Nat) (l : List Int) (w : World) (hn : n ≤ 9223372036854775807) (hl : ∀ x ∈ l, 0 ≤ x ∧ x ≤ 255) (h : Reads w 1 A n (bytesV l)) :
    Calls Try.prog 39 #[.slice A n c] w fun e w' => ∃ B d xs cap, e = .returned (.tuple #[.slice B (List.length xs) d, .int .i64 cap]) ∧ xs.length ≤ 61 ∧ (0 ≤ cap ∧ cap ≤ 201) ∧ w'.ownsRow w.heap.size 3 1 (.slice B xs.length d) xs.length (ints xs) ∧ Below w.heap.size w w' := by
  go_enter Try.func39, Try.ntmps39
  go_wp2_with fail
  refine (drawWaitingAfter_any A n c l w hn hl h).mono ?_
  rintro e w1 ⟨B, d, xs, cap, rfl, hx, hy, ho, hb⟩
  have HO := Lib.hid ho; have HB := Lib.hid hb
  clear ho hb
  go_wp2
  go_ret2
  exact ⟨B, d, xs, cap, rfl, hx, hy, HO.out, HB.out⟩

theorem drawSentInHours_any (A : Option Addr) (n c : Nat) (l : List Int) (w : World) (hn : n ≤ 9223372036854775807) (hl : ∀ x ∈ l, 0 ≤ x ∧ x ≤ 255) (h : Reads w 1 A n (bytesV l)) :
    Calls Try.prog 41 #[.slice A n c] w fun e w' => ∃ B d xs cap, e = .returned (.tuple #[.slice B (List.length xs) d, .int .i64 cap]) ∧ xs.length ≤ 61 ∧ (0 ≤ cap ∧ cap ≤ 201) ∧ w'.ownsRow w.heap.size 3 1 (.slice B xs.length d) xs.length (ints xs) ∧ Below w.heap.size w w' := by
  go_enter Try.func41, Try.ntmps41
  go_wp2_with fail
  refine (drawWaitingAfter_any A n c l w hn hl h).mono ?_
  rintro e w1 ⟨B, d, xs, cap, rfl, hx, hy, ho, hb⟩
  have HO := Lib.hid ho; have HB := Lib.hid hb
  clear ho hb
  go_wp2
  go_ret2
  exact ⟨B, d, xs, cap, rfl, hx, hy, HO.out, HB.out⟩

set_option maxHeartbeats 2000000 in
set_option maxRecDepth 100000 in
theorem drawDelayOf_any (A : Option Addr) (n c : Nat) (l : List Int) (w : World) (hn : n ≤ 9223372036854775807) (hl : ∀ x ∈ l, 0 ≤ x ∧ x ≤ 255) (h : Reads w 1 A n (bytesV l)) :
    Calls Try.prog 40 #[.slice A n c] w fun e w' => ∃ B d xs cap m, e = .returned (.tuple #[.slice B (List.length xs) d, .int .i64 cap, .int .i64 m]) ∧ xs.length ≤ 61 ∧ (0 ≤ cap ∧ cap ≤ 201) ∧ w'.ownsRow w.heap.size 3 1 (.slice B xs.length d) xs.length (ints xs) ∧ Below w.heap.size w w' := by
  have HB0 : Hid (Below w.heap.size w (w.alloc (.cells #[.slice A n c, .int .i64 0, .int .u64 0] 53))) := Lib.hid ((Below.refl _ _).alloc (Nat.le_refl _) _)
  have HZ0 : Hid ((w.alloc (.cells #[.slice A n c, .int .i64 0, .int .u64 0] 53)).heap.size = w.heap.size + 1) := Lib.hid (by simp)
  have HC := Lib.hid (Cur.new (c := c) h hn hl)
  clear h hl
  go_enter Try.func40, Try.ntmps40
  go_wp2_with fail
  refine (arrivals_any w.heap.size 0 _ (by omega) HC.out).mono ?_
  rintro e w1 ⟨B, d, xs, rfl, hx, hs, ho, hc, hd⟩
  have HC := Lib.hid hc; have HO := Lib.hid ho; have HD := Lib.hid hd
  have CA := trArrivals_any B xs.length d xs w1 (by omega) (.of_own ho)
  have CS := Lib.hid (trSum_any B xs.length d xs w1 (by omega) (.of_own ho) (fun x hx' => by have := hs x hx'; omega))
  clear hc ho hd
  cases ha : arrB xs with
  | false =>
    rw [ha] at CA
    have HCA := Lib.hid CA
    clear CA ha
    go_wp2_with (go_at_call 47; refine (HCA.out).mono ?_; rintro e w' ⟨rfl, rfl⟩)
    go_wp2_with fail
    refine (capacity_any w.heap.size _ _ (by omega) HC.out).mono ?_
    rintro e w2 ⟨y, rfl, hy, hc, hd⟩
    have HO := Lib.hid (Drew.own hd HO.out (by have := HZ0.out; omega))
    have HD := Lib.hid (HD.out.trans hd)
    have HC := Lib.hid hc
    clear hc hd
    go_wp2_with fail
    refine (pick_any w.heap.size _ (1) _ (by omega) (by omega) HC.out).mono ?_
    rintro e w3 ⟨p, rfl, hp, hp', hc, hd⟩
    have HO := Lib.hid (Drew.own hd HO.out (by have := HZ0.out; omega))
    have HD := Lib.hid (HD.out.trans hd)
    have HC := Lib.hid hc
    clear hc hd
    go_wp2_with fail
    refine (pick_any w.heap.size _ (1) _ (by omega) (by omega) HC.out).mono ?_
    rintro e w4 ⟨q, rfl, hq, hq', hc, hd⟩
    have HO := Lib.hid (Drew.own hd HO.out (by have := HZ0.out; omega))
    have HD := Lib.hid (HD.out.trans hd)
    have HC := Lib.hid hc
    clear hc hd
    go_wp2_with fail
    refine (amongLit_any w.heap.size _ [0, (p : Int), (q : Int), -1, 0, -1] 3 _ _ _ rfl rfl (by omega) (by simp) (by simp) HC.out).mono ?_
    rintro e w5 ⟨v, hv, rfl, hc, hd⟩
    have HO := Lib.hid (own_mono (Drew.own hd HO.out (by have := HZ0.out; omega)) (base' := w.heap.size) (by have := HZ0.out; omega))
    have HD := Lib.hid (HD.out.trans hd)
    clear hc hd hv
    go_wp2
    go_ret3
    exact ⟨B, d, xs, y, v, rfl, hx, hy, HO.out, HB0.out.trans (Drew.allB HD.out (Nat.le_refl w.heap.size) (by have := HZ0.out; omega))⟩
  | true =>
    rw [ha] at CA
    have HCA := Lib.hid CA
    have hab := arrB_true.1 ha
    have hsb := sumL_bd xs 0 200 hab.2
    obtain ⟨N, hN⟩ : ∃ N : Nat, sumL xs = (N : Int) := ⟨(sumL xs).toNat, by omega⟩
    rw [hN] at CS
    have hNb : N ≤ 12000 := by have := hab.1; omega
    clear CA ha hab hsb hN
    go_wp2_with (first | (go_at_call 47; refine (HCA.out).mono ?_; rintro e w' ⟨rfl, rfl⟩) | (go_at_call 49; refine (CS.out).mono ?_; rintro e w' ⟨rfl, rfl⟩))
    go_wp2_with fail
    refine (capacity_any w.heap.size _ _ (by omega) HC.out).mono ?_
    rintro e w2 ⟨y, rfl, hy, hc, hd⟩
    have HO := Lib.hid (Drew.own hd HO.out (by have := HZ0.out; omega))
    have HD := Lib.hid (HD.out.trans hd)
    have HC := Lib.hid hc
    clear hc hd
    go_wp2_with fail
    refine (pick_any w.heap.size _ ((N : Int) + 1) _ (by omega) (by omega) HC.out).mono ?_
    rintro e w3 ⟨p, rfl, hp, hp', hc, hd⟩
    have HO := Lib.hid (Drew.own hd HO.out (by have := HZ0.out; omega))
    have HD := Lib.hid (HD.out.trans hd)
    have HC := Lib.hid hc
    clear hc hd
    go_wp2_with fail
    refine (pick_any w.heap.size _ ((N : Int) + 1) _ (by omega) (by omega) HC.out).mono ?_
    rintro e w4 ⟨q, rfl, hq, hq', hc, hd⟩
    have HO := Lib.hid (Drew.own hd HO.out (by have := HZ0.out; omega))
    have HD := Lib.hid (HD.out.trans hd)
    have HC := Lib.hid hc
    clear hc hd
    go_wp2_with fail
    refine (amongLit_any w.heap.size _ [0, (p : Int), (q : Int), (N : Int) - 1, (N : Int), -1] 3 _ _ _ rfl rfl (by omega) (by simp) (by simp) HC.out).mono ?_
    rintro e w5 ⟨v, hv, rfl, hc, hd⟩
    have HO := Lib.hid (own_mono (Drew.own hd HO.out (by have := HZ0.out; omega)) (base' := w.heap.size) (by have := HZ0.out; omega))
    have HD := Lib.hid (HD.out.trans hd)
    clear hc hd hv
    go_wp2
    go_ret3
    exact ⟨B, d, xs, y, v, rfl, hx, hy, HO.out, HB0.out.trans (Drew.allB HD.out (Nat.le_refl w.heap.size) (by have := HZ0.out; omega))⟩

end Go.Proofs.Ytgdlaeibdpbgdaa
