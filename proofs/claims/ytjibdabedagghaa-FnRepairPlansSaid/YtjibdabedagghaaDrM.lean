/- The spec's drawings for the law of repair plans. No conditions. -/
import Derived.Test.YtjibdabedagghaaDrK
namespace Go.Proofs.Ytjibdabedagghaa
set_option linter.unusedSimpArgs false
set_option linter.unusedVariables false
open Go.RowKit

theorem rows4_take (l : List G4) (m : Nat) : (rows4 l).take (m * 4) = rows4 (l.take m) := by
  induction l generalizing m with
  | nil => simp [rows4]
  | cons g r ih =>
    cases m with
    | zero => simp [rows4]
    | succ m =>
      have := ih m
      simp only [rows4, List.flatMap_cons, List.take_succ_cons] at this ⊢
      rw [show (m + 1) * 4 = m * 4 + 4 by omega, ← this]
      simp [cells4]
theorem Reads.prefix4 {w : World} {A : Option Addr} {n m : Nat} {l : List G4} (h : Reads w 4 A n (rows4 l)) (hm : m ≤ n) : Reads w 4 A m (rows4 (l.take m)) := by
  have hl : l.length = n := by have := h.1; rw [length_rows4] at this; omega
  refine ⟨by rw [length_rows4]; simp; omega, fun h0 => ?_⟩
  obtain ⟨ad, e, hc⟩ := h.2 (by omega)
  refine ⟨ad, e, fun j u hu => hc j u ?_⟩
  rw [← rows4_take] at hu
  rw [List.getElem?_take] at hu
  split at hu
  · exact hu
  · cases hu

set_option maxHeartbeats 2000000 in
theorem drawLeast_any (A : Option Addr) (n c : Nat) (l : List Int) (w : World) (hn : n ≤ 9223372036854775807) (hl : ∀ x ∈ l, 0 ≤ x ∧ x ≤ 255) (h : Reads w 1 A n (bytesV l)) :
    Calls Try.prog 49 #[.slice A n c] w fun e w' => ∃ B m d gs, ∃ y t : Int, e = .returned (.tuple #[.slice B m d, .int .i64 y, .int .i64 t]) ∧ List.length gs = m ∧ m ≤ 9 ∧ Reads w' 4 B m (rows4 gs) ∧ Below w.heap.size w w' := by
  have HB0 : Hid (Below w.heap.size w (w.alloc (.cells #[.slice A n c, .int .i64 0, .int .u64 0] 104))) := Lib.hid ((Below.refl _ _).alloc (Nat.le_refl _) _)
  have HZ0 : Hid ((w.alloc (.cells #[.slice A n c, .int .i64 0, .int .u64 0] 104)).heap.size = w.heap.size + 1) := Lib.hid (by simp)
  have HC := Lib.hid (Cur.new (c := c) h hn hl)
  clear h hl
  go_enter Try.func49, Try.ntmps49
  go_wp2_with fail
  refine (gears_any w.heap.size 0 _ (by omega) HC.out).mono ?_
  rintro e w1 ⟨B, d, gs, rfl, hf, ho, hc, hd⟩
  have HO := Lib.hid (own_mono ho (base' := w.heap.size + 1) (by rw [HZ0.out]; exact Nat.le_refl _)); have HC := Lib.hid hc; have HD := Lib.hid hd
  clear ho hc hd
  by_cases h3 : 3 < gs.length
  · have hcap := own_cap HO.out
    go_wp2_with fail
    refine (one_any w.heap.size _ 4 _ (by omega) (by omega) HC.out).mono ?_
    rintro e w2 ⟨b, rfl, hc, hd⟩
    have HO := Lib.hid (Drew.own hd HO.out (by omega)); have HC := Lib.hid hc; have HD := Lib.hid (HD.out.trans hd)
    clear hc hd
    cases b with
    | true =>
      go_wp2_with fail
      refine (planDays_any w.heap.size _ _ (by omega) HC.out).mono ?_
      rintro e w3 ⟨y, rfl, hy, hc, hd⟩
      have HO := Lib.hid (Drew.own hd HO.out (by omega)); have HC := Lib.hid hc; have HD := Lib.hid (HD.out.trans hd)
      clear hc hd
      go_wp2_with fail
      refine (amongLit_any w.heap.size _ [1001, -1] 3 _ _ _ rfl rfl (by omega) (by simp) (by simp) HC.out).mono ?_
      rintro e w4 ⟨x, _, rfl, hc, hd⟩
      have HO := Lib.hid (Drew.own hd HO.out (by omega)); have HC := Lib.hid hc; have HD := Lib.hid (HD.out.trans hd)
      clear hc hd
      go_wp2_with fail
      refine (amongLit_any w.heap.size _ [0, 5, 100, 1000, x] 3 _ _ _ rfl rfl (by omega) (by simp) (by simp) HC.out).mono ?_
      rintro e w5 ⟨t, _, rfl, hc, hd⟩
      have HO := Lib.hid (Drew.own hd HO.out (by omega)); have HC := Lib.hid hc; have HD := Lib.hid (HD.out.trans hd)
      clear hc hd
      have HBF : Hid (Below w.heap.size w w5) := Lib.hid (HB0.out.trans (Drew.allB (B := w.heap.size) HD.out (Nat.le_refl _) (by rw [HZ0.out]; omega)))
      have HRD := Lib.hid (Reads.of_own HO.out)
      try simp only [Exit.inBlock, Exit.then]
      go_wp2
      go_ret3
      exact ⟨B, gs.length, d, gs, y, t, rfl, rfl, hf, HRD.out, HBF.out⟩
    | false =>
      go_wp2_with fail
      refine (planDays_any w.heap.size _ _ (by omega) HC.out).mono ?_
      rintro e w3 ⟨y, rfl, hy, hc, hd⟩
      have HO := Lib.hid (Drew.own hd HO.out (by omega)); have HC := Lib.hid hc; have HD := Lib.hid (HD.out.trans hd)
      clear hc hd
      go_wp2_with fail
      refine (amongLit_any w.heap.size _ [1001, -1] 3 _ _ _ rfl rfl (by omega) (by simp) (by simp) HC.out).mono ?_
      rintro e w4 ⟨x, _, rfl, hc, hd⟩
      have HO := Lib.hid (Drew.own hd HO.out (by omega)); have HC := Lib.hid hc; have HD := Lib.hid (HD.out.trans hd)
      clear hc hd
      go_wp2_with fail
      refine (amongLit_any w.heap.size _ [0, 5, 100, 1000, x] 3 _ _ _ rfl rfl (by omega) (by simp) (by simp) HC.out).mono ?_
      rintro e w5 ⟨t, _, rfl, hc, hd⟩
      have HO := Lib.hid (Drew.own hd HO.out (by omega)); have HC := Lib.hid hc; have HD := Lib.hid (HD.out.trans hd)
      clear hc hd
      have HBF : Hid (Below w.heap.size w w5) := Lib.hid (HB0.out.trans (Drew.allB (B := w.heap.size) HD.out (Nat.le_refl _) (by rw [HZ0.out]; omega)))
      have HRD := Lib.hid (Reads.of_own HO.out)
      try simp only [Exit.inBlock, Exit.then]
      go_wp2
      go_ret3
      exact ⟨B, 3, d, gs.take 3, y, t, rfl, by simp; omega, by omega, HRD.out.prefix4 (by omega), HBF.out⟩
  · go_wp2_with fail
    refine (planDays_any w.heap.size _ _ (by omega) HC.out).mono ?_
    rintro e w3 ⟨y, rfl, hy, hc, hd⟩
    have HO := Lib.hid (Drew.own hd HO.out (by omega)); have HC := Lib.hid hc; have HD := Lib.hid (HD.out.trans hd)
    clear hc hd
    go_wp2_with fail
    refine (amongLit_any w.heap.size _ [1001, -1] 3 _ _ _ rfl rfl (by omega) (by simp) (by simp) HC.out).mono ?_
    rintro e w4 ⟨x, _, rfl, hc, hd⟩
    have HO := Lib.hid (Drew.own hd HO.out (by omega)); have HC := Lib.hid hc; have HD := Lib.hid (HD.out.trans hd)
    clear hc hd
    go_wp2_with fail
    refine (amongLit_any w.heap.size _ [0, 5, 100, 1000, x] 3 _ _ _ rfl rfl (by omega) (by simp) (by simp) HC.out).mono ?_
    rintro e w5 ⟨t, _, rfl, hc, hd⟩
    have HO := Lib.hid (Drew.own hd HO.out (by omega)); have HC := Lib.hid hc; have HD := Lib.hid (HD.out.trans hd)
    clear hc hd
    have HBF : Hid (Below w.heap.size w w5) := Lib.hid (HB0.out.trans (Drew.allB (B := w.heap.size) HD.out (Nat.le_refl _) (by rw [HZ0.out]; omega)))
    have HRD := Lib.hid (Reads.of_own HO.out)
    try simp only [Exit.inBlock, Exit.then]
    go_wp2
    go_ret3
    exact ⟨B, gs.length, d, gs, y, t, rfl, rfl, hf, HRD.out, HBF.out⟩

set_option maxHeartbeats 2000000 in
theorem drawIs_any (A : Option Addr) (n c : Nat) (l : List Int) (w : World) (hn : n ≤ 9223372036854775807) (hl : ∀ x ∈ l, 0 ≤ x ∧ x ≤ 255) (h : Reads w 1 A n (bytesV l)) :
    Calls Try.prog 50 #[.slice A n c] w fun e w' => ∃ B m d gs, ∃ y : Int, ∃ PB Pd P, e = .returned (.tuple #[.slice B m d, .int .i64 y, .slice PB (List.length P) Pd]) ∧ List.length gs = m ∧ m ≤ 9 ∧ Reads w' 4 B m (rows4 gs) ∧ Reads2 w' 1 PB (List.length P) (rowsIntss P) ∧ P.length ≤ 31 ∧ (∀ x ∈ P, x.length ≤ 10) ∧ Below w.heap.size w w' := by
  have HB0 : Hid (Below w.heap.size w (w.alloc (.cells #[.slice A n c, .int .i64 0, .int .u64 0] 104))) := Lib.hid ((Below.refl _ _).alloc (Nat.le_refl _) _)
  have HZ0 : Hid ((w.alloc (.cells #[.slice A n c, .int .i64 0, .int .u64 0] 104)).heap.size = w.heap.size + 1) := Lib.hid (by simp)
  have HC := Lib.hid (Cur.new (c := c) h hn hl)
  clear h hl
  go_enter Try.func50, Try.ntmps50
  go_wp2_with fail
  refine (gears_any w.heap.size 0 _ (by omega) HC.out).mono ?_
  rintro e w1 ⟨B, d, gs, rfl, hf, ho, hc, hd⟩
  have HO := Lib.hid (own_mono ho (base' := w.heap.size + 1) (by rw [HZ0.out]; exact Nat.le_refl _)); have HC := Lib.hid hc; have HD := Lib.hid hd
  clear ho hc hd
  go_wp2_with fail
  refine (planDays_any w.heap.size _ _ (by omega) HC.out).mono ?_
  rintro e w2 ⟨y, rfl, hy, hc, hd⟩
  have HO := Lib.hid (Drew.own hd HO.out (by omega)); have HC := Lib.hid hc; have HD := Lib.hid (HD.out.trans hd)
  clear hc hd
  have HPS : Hid (w.heap.size < w2.heap.size) := Lib.hid HC.out.lt
  go_wp2_with fail
  refine (plan_any w.heap.size _ (w.heap.size + 1) B gs.length d gs y _ (by omega) hf rfl hy (by omega) HC.out HO.out).mono ?_
  rintro e w3 ⟨PB, Pd, P, Ph, rfl, hpl, hpb, hp, hc, hd⟩
  have HO := Lib.hid (Drew.own hd HO.out (by omega)); have HC := Lib.hid hc; have HD := Lib.hid (HD.out.trans hd); have HP := Lib.hid hp; have HGP := HPS
  clear hc hd hp
  go_wp2_with fail
  refine (one_any w.heap.size _ 12 _ (by omega) (by omega) HC.out).mono ?_
  rintro e w4 ⟨b, rfl, hc, hd⟩
  have HO := Lib.hid (Drew.own hd HO.out (by omega)); have HC := Lib.hid hc; have HD := Lib.hid (HD.out.trans hd); have HP := Lib.hid ((HP.out.drewG hd (Nat.le_refl _) HGP.out).mono_hi hd.size)
  clear hc hd
  cases b with
  | false =>
    have HBF : Hid (Below w.heap.size w w4) := Lib.hid (HB0.out.trans (Drew.allB (B := w.heap.size) HD.out (Nat.le_refl _) (by rw [HZ0.out]; omega)))
    have HRD := Lib.hid (Reads.of_own HO.out)
    have HRP := Lib.hid (Reads2.of_own HP.out)
    have HPB := Lib.hid hpb
    clear hpb
    go_wp2
    go_ret3
    exact ⟨B, gs.length, d, gs, y, PB, Pd, P, rfl, rfl, hf, HRD.out, HRP.out, hpl, HPB.out, HBF.out⟩
  | true =>
    have HBF : Hid (Below w.heap.size w w4) := Lib.hid (HB0.out.trans (Drew.allB (B := w.heap.size) HD.out (Nat.le_refl _) (by rw [HZ0.out]; omega)))
    have HRD := Lib.hid (Reads.of_own HO.out)
    have HRP := Lib.hid (Reads2.of_own HP.out)
    have HPB := Lib.hid hpb
    clear hpb
    go_wp2
    go_ret3
    exact ⟨B, gs.length, d, gs, y + 1, PB, Pd, P, rfl, rfl, hf, HRD.out, HRP.out, hpl, HPB.out, HBF.out⟩
set_option maxHeartbeats 2000000 in
theorem drawPlanCost_any (A : Option Addr) (n c : Nat) (l : List Int) (w : World) (hn : n ≤ 9223372036854775807) (hl : ∀ x ∈ l, 0 ≤ x ∧ x ≤ 255) (h : Reads w 1 A n (bytesV l)) :
    Calls Try.prog 51 #[.slice A n c] w fun e w' => ∃ B m d gs PB Pd P, ∃ t : Int, e = .returned (.tuple #[.slice B m d, .slice PB (List.length P) Pd, .int .i64 t]) ∧ List.length gs = m ∧ m ≤ 9 ∧ Reads w' 4 B m (rows4 gs) ∧ Reads2 w' 1 PB (List.length P) (rowsIntss P) ∧ P.length ≤ 31 ∧ (∀ x ∈ P, x.length ≤ 10) ∧ Below w.heap.size w w' := by
  have HB0 : Hid (Below w.heap.size w (w.alloc (.cells #[.slice A n c, .int .i64 0, .int .u64 0] 104))) := Lib.hid ((Below.refl _ _).alloc (Nat.le_refl _) _)
  have HZ0 : Hid ((w.alloc (.cells #[.slice A n c, .int .i64 0, .int .u64 0] 104)).heap.size = w.heap.size + 1) := Lib.hid (by simp)
  have HC := Lib.hid (Cur.new (c := c) h hn hl)
  clear h hl
  go_enter Try.func51, Try.ntmps51
  go_wp2_with fail
  refine (gears_any w.heap.size 0 _ (by omega) HC.out).mono ?_
  rintro e w1 ⟨B, d, gs, rfl, hf, ho, hc, hd⟩
  have HO := Lib.hid (own_mono ho (base' := w.heap.size + 1) (by rw [HZ0.out]; exact Nat.le_refl _)); have HC := Lib.hid hc; have HD := Lib.hid hd
  clear ho hc hd
  go_wp2_with fail
  refine (planDays_any w.heap.size _ _ (by omega) HC.out).mono ?_
  rintro e w2 ⟨y, rfl, hy, hc, hd⟩
  have HO := Lib.hid (Drew.own hd HO.out (by omega)); have HC := Lib.hid hc; have HD := Lib.hid (HD.out.trans hd)
  clear hc hd
  have HPS : Hid (w.heap.size < w2.heap.size) := Lib.hid HC.out.lt
  go_wp2_with fail
  refine (plan_any w.heap.size _ (w.heap.size + 1) B gs.length d gs y _ (by omega) hf rfl hy (by omega) HC.out HO.out).mono ?_
  rintro e w3 ⟨PB, Pd, P, Ph, rfl, hpl, hpb, hp, hc, hd⟩
  have HO := Lib.hid (Drew.own hd HO.out (by omega)); have HC := Lib.hid hc; have HD := Lib.hid (HD.out.trans hd); have HP := Lib.hid hp; have HGP := HPS
  clear hc hd hp
  go_wp2_with fail
  refine (amongLit_any w.heap.size _ [1001, -1] 3 _ _ _ rfl rfl (by omega) (by simp) (by simp) HC.out).mono ?_
  rintro e w4 ⟨x, _, rfl, hc, hd⟩
  have HO := Lib.hid (Drew.own hd HO.out (by omega)); have HC := Lib.hid hc; have HD := Lib.hid (HD.out.trans hd); have HP := Lib.hid ((HP.out.drewG hd (Nat.le_refl _) HGP.out).mono_hi hd.size)
  clear hc hd
  go_wp2_with fail
  refine (amongLit_any w.heap.size _ [0, 5, 100, 1000, x] 3 _ _ _ rfl rfl (by omega) (by simp) (by simp) HC.out).mono ?_
  rintro e w5 ⟨t, _, rfl, hc, hd⟩
  have HO := Lib.hid (Drew.own hd HO.out (by omega)); have HC := Lib.hid hc; have HD := Lib.hid (HD.out.trans hd); have HP := Lib.hid ((HP.out.drewG hd (Nat.le_refl _) HGP.out).mono_hi hd.size)
  clear hc hd
  have HBF : Hid (Below w.heap.size w w5) := Lib.hid (HB0.out.trans (Drew.allB (B := w.heap.size) HD.out (Nat.le_refl _) (by rw [HZ0.out]; omega)))
  have HRD := Lib.hid (Reads.of_own HO.out)
  have HRP := Lib.hid (Reads2.of_own HP.out)
  have HPB := Lib.hid hpb
  clear hpb
  go_wp2
  go_ret3
  exact ⟨B, gs.length, d, gs, PB, Pd, P, t, rfl, rfl, hf, HRD.out, HRP.out, hpl, HPB.out, HBF.out⟩
set_option maxHeartbeats 2000000 in
theorem drawRepairs_any (A : Option Addr) (n c : Nat) (l : List Int) (w : World) (hn : n ≤ 9223372036854775807) (hl : ∀ x ∈ l, 0 ≤ x ∧ x ≤ 255) (h : Reads w 1 A n (bytesV l)) :
    Calls Try.prog 53 #[.slice A n c] w fun e w' => ∃ PB Pd P, ∃ t : Int, e = .returned (.tuple #[.slice PB (List.length P) Pd, .int .i64 t]) ∧ Reads2 w' 1 PB (List.length P) (rowsIntss P) ∧ P.length ≤ 31 ∧ (∀ x ∈ P, x.length ≤ 10) ∧ Below w.heap.size w w' := by
  have HB0 : Hid (Below w.heap.size w (w.alloc (.cells #[.slice A n c, .int .i64 0, .int .u64 0] 104))) := Lib.hid ((Below.refl _ _).alloc (Nat.le_refl _) _)
  have HZ0 : Hid ((w.alloc (.cells #[.slice A n c, .int .i64 0, .int .u64 0] 104)).heap.size = w.heap.size + 1) := Lib.hid (by simp)
  have HC := Lib.hid (Cur.new (c := c) h hn hl)
  clear h hl
  go_enter Try.func53, Try.ntmps53
  go_wp2_with fail
  refine (gears_any w.heap.size 0 _ (by omega) HC.out).mono ?_
  rintro e w1 ⟨B, d, gs, rfl, hf, ho, hc, hd⟩
  have HO := Lib.hid (own_mono ho (base' := w.heap.size + 1) (by rw [HZ0.out]; exact Nat.le_refl _)); have HC := Lib.hid hc; have HD := Lib.hid hd
  clear ho hc hd
  go_wp2_with fail
  refine (planDays_any w.heap.size _ _ (by omega) HC.out).mono ?_
  rintro e w2 ⟨y, rfl, hy, hc, hd⟩
  have HO := Lib.hid (Drew.own hd HO.out (by omega)); have HC := Lib.hid hc; have HD := Lib.hid (HD.out.trans hd)
  clear hc hd
  have HPS : Hid (w.heap.size < w2.heap.size) := Lib.hid HC.out.lt
  go_wp2_with fail
  refine (plan_any w.heap.size _ (w.heap.size + 1) B gs.length d gs y _ (by omega) hf rfl hy (by omega) HC.out HO.out).mono ?_
  rintro e w3 ⟨PB, Pd, P, Ph, rfl, hpl, hpb, hp, hc, hd⟩
  have HO := Lib.hid (Drew.own hd HO.out (by omega)); have HC := Lib.hid hc; have HD := Lib.hid (HD.out.trans hd); have HP := Lib.hid hp; have HGP := HPS
  clear hc hd hp
  go_wp2_with fail
  refine (amongLit_any w.heap.size _ [8, -1] 3 _ _ _ rfl rfl (by omega) (by simp) (by simp) HC.out).mono ?_
  rintro e w4 ⟨x, _, rfl, hc, hd⟩
  have HO := Lib.hid (Drew.own hd HO.out (by omega)); have HC := Lib.hid hc; have HD := Lib.hid (HD.out.trans hd); have HP := Lib.hid ((HP.out.drewG hd (Nat.le_refl _) HGP.out).mono_hi hd.size)
  clear hc hd
  go_wp2_with fail
  refine (amongLit_any w.heap.size _ [0, 1, 2, 7, x] 3 _ _ _ rfl rfl (by omega) (by simp) (by simp) HC.out).mono ?_
  rintro e w5 ⟨t, _, rfl, hc, hd⟩
  have HO := Lib.hid (Drew.own hd HO.out (by omega)); have HC := Lib.hid hc; have HD := Lib.hid (HD.out.trans hd); have HP := Lib.hid ((HP.out.drewG hd (Nat.le_refl _) HGP.out).mono_hi hd.size)
  clear hc hd
  have HBF : Hid (Below w.heap.size w w5) := Lib.hid (HB0.out.trans (Drew.allB (B := w.heap.size) HD.out (Nat.le_refl _) (by rw [HZ0.out]; omega)))
  have HRD := Lib.hid (Reads.of_own HO.out)
  have HRP := Lib.hid (Reads2.of_own HP.out)
  have HPB := Lib.hid hpb
  clear hpb
  go_wp2
  go_ret2
  exact ⟨PB, Pd, P, t, rfl, HRP.out, hpl, HPB.out, HBF.out⟩

set_option maxHeartbeats 4000000 in
theorem drawJoin_any (A : Option Addr) (n c : Nat) (l : List Int) (w : World) (hn : n ≤ 9223372036854775807) (hl : ∀ x ∈ l, 0 ≤ x ∧ x ≤ 255) (h : Reads w 1 A n (bytesV l)) :
    Calls Try.prog 52 #[.slice A n c] w fun e w' => ∃ PB Pd P, ∃ f t : Int, e = .returned (.tuple #[.slice PB (List.length P) Pd, .int .i64 f, .int .i64 t]) ∧ Reads2 w' 1 PB (List.length P) (rowsIntss P) ∧ P.length ≤ 31 ∧ (∀ x ∈ P, x.length ≤ 10) ∧ Below w.heap.size w w' := by
  have HB0 : Hid (Below w.heap.size w (w.alloc (.cells #[.slice A n c, .int .i64 0, .int .u64 0] 104))) := Lib.hid ((Below.refl _ _).alloc (Nat.le_refl _) _)
  have HZ0 : Hid ((w.alloc (.cells #[.slice A n c, .int .i64 0, .int .u64 0] 104)).heap.size = w.heap.size + 1) := Lib.hid (by simp)
  have HC := Lib.hid (Cur.new (c := c) h hn hl)
  clear h hl
  go_enter Try.func52, Try.ntmps52
  go_wp2_with fail
  refine (gears_any w.heap.size 0 _ (by omega) HC.out).mono ?_
  rintro e w1 ⟨B, d, gs, rfl, hf, ho, hc, hd⟩
  have HO := Lib.hid (own_mono ho (base' := w.heap.size + 1) (by rw [HZ0.out]; exact Nat.le_refl _)); have HC := Lib.hid hc; have HD := Lib.hid hd
  clear ho hc hd
  go_wp2_with fail
  refine (planDays_any w.heap.size _ _ (by omega) HC.out).mono ?_
  rintro e w2 ⟨y, rfl, hy, hc, hd⟩
  have HO := Lib.hid (Drew.own hd HO.out (by omega)); have HC := Lib.hid hc; have HD := Lib.hid (HD.out.trans hd)
  clear hc hd
  have HPS : Hid (w.heap.size < w2.heap.size) := Lib.hid HC.out.lt
  go_wp2_with fail
  refine (plan_any w.heap.size _ (w.heap.size + 1) B gs.length d gs y _ (by omega) hf rfl hy (by omega) HC.out HO.out).mono ?_
  rintro e w3 ⟨PB, Pd, P, Ph, rfl, hpl, hpb, hp, hc, hd⟩
  have HO := Lib.hid (Drew.own hd HO.out (by omega)); have HC := Lib.hid hc; have HD := Lib.hid (HD.out.trans hd); have HP := Lib.hid hp; have HGP := HPS
  clear hc hd hp
  go_wp2_with fail
  refine (pick_any w.heap.size _ 16 _ (by omega) (by omega) HC.out).mono ?_
  rintro e w4 ⟨p, rfl, hp, hp', hc, hd⟩
  have HO := Lib.hid (Drew.own hd HO.out (by omega)); have HC := Lib.hid hc; have HD := Lib.hid (HD.out.trans hd); have HP := Lib.hid ((HP.out.drewG hd (Nat.le_refl _) HGP.out).mono_hi hd.size)
  clear hc hd
  go_wp2_with fail
  refine (pick_any w.heap.size _ ((P.length : Int) + (p : Int) / 15) _ (by omega) (by omega) HC.out).mono ?_
  rintro e w5 ⟨fa, rfl, hfa, hfa', hc, hd⟩
  have HO := Lib.hid (Drew.own hd HO.out (by omega)); have HC := Lib.hid hc; have HD := Lib.hid (HD.out.trans hd); have HP := Lib.hid ((HP.out.drewG hd (Nat.le_refl _) HGP.out).mono_hi hd.size)
  clear hc hd
  go_wp2_with fail
  refine (pick_any w.heap.size _ 20 _ (by omega) (by omega) HC.out).mono ?_
  rintro e w6 ⟨r, rfl, hr, hr', hc, hd⟩
  have HO := Lib.hid (Drew.own hd HO.out (by omega)); have HC := Lib.hid hc; have HD := Lib.hid (HD.out.trans hd); have HP := Lib.hid ((HP.out.drewG hd (Nat.le_refl _) HGP.out).mono_hi hd.size)
  clear hc hd
  go_wp2_with fail
  refine (pick_any w.heap.size _ 16 _ (by omega) (by omega) HC.out).mono ?_
  rintro e w7 ⟨p2, rfl, hp2, hp2', hc, hd⟩
  have HO := Lib.hid (Drew.own hd HO.out (by omega)); have HC := Lib.hid hc; have HD := Lib.hid (HD.out.trans hd); have HP := Lib.hid ((HP.out.drewG hd (Nat.le_refl _) HGP.out).mono_hi hd.size)
  clear hc hd
  go_wp2_with fail
  refine (pick_any w.heap.size _ ((P.length : Int) + (p2 : Int) / 15) _ (by omega) (by omega) HC.out).mono ?_
  rintro e w8 ⟨fb, rfl, hfb, hfb', hc, hd⟩
  have HO := Lib.hid (Drew.own hd HO.out (by omega)); have HC := Lib.hid hc; have HD := Lib.hid (HD.out.trans hd); have HP := Lib.hid ((HP.out.drewG hd (Nat.le_refl _) HGP.out).mono_hi hd.size)
  clear hc hd
  go_wp2_with fail
  refine (pick_any w.heap.size _ 20 _ (by omega) (by omega) HC.out).mono ?_
  rintro e w9 ⟨r2, rfl, hr2, hr2', hc, hd⟩
  have HO := Lib.hid (Drew.own hd HO.out (by omega)); have HC := Lib.hid hc; have HD := Lib.hid (HD.out.trans hd); have HP := Lib.hid ((HP.out.drewG hd (Nat.le_refl _) HGP.out).mono_hi hd.size)
  clear hc hd
  have HBF : Hid (Below w.heap.size w w9) := Lib.hid (HB0.out.trans (Drew.allB (B := w.heap.size) HD.out (Nat.le_refl _) (by rw [HZ0.out]; omega)))
  have HRD := Lib.hid (Reads.of_own HO.out)
  have HRP := Lib.hid (Reads2.of_own HP.out)
  have HPB := Lib.hid hpb
  clear hpb
  go_wp2
  go_ret3
  exact ⟨PB, Pd, P, _, _, rfl, HRP.out, hpl, HPB.out, HBF.out⟩

end Go.Proofs.Ytjibdabedagghaa
