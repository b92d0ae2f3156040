/- What the law on payments draws besides: shares, hourly pays, pays to compare. No conditions. -/
import Derived.Test.YtiofgoppgdgbaaaDrV
import Derived.Test.YtiofgoppgdgbaaaSh9
namespace Go.Proofs.Ytiofgoppgdgbaaa
set_option linter.unusedSimpArgs false
set_option linter.unusedVariables false
open Go.RowKit


set_option maxHeartbeats 2000000 in
set_option maxRecDepth 100000 in
theorem drawShareByHours_any (A : Option Addr) (n c : Nat) (l : List Int) (w : World) (hn : n ≤ 9223372036854775807) (hl : ∀ x ∈ l, 0 ≤ x ∧ x ≤ 255) (h : Reads w 1 A n (bytesV l)) :
    Calls Try.prog 41 #[.slice A n c] w fun e w' => ∃ B m out ce, e = .returned (.tuple #[.slice B (List.length out) m, .int .i64 ce]) ∧ out.length ≤ 61 ∧ w'.ownsRow w.heap.size 72 3 (.slice B out.length m) out.length (rows3 out) ∧ Below w.heap.size w w' := by
  have HB0 : Hid (Below w.heap.size w (w.alloc (.cells #[.slice A n c, .int .i64 0, .int .u64 0] 90))) := Lib.hid ((Below.refl _ _).alloc (Nat.le_refl _) _)
  have HZ0 : Hid ((w.alloc (.cells #[.slice A n c, .int .i64 0, .int .u64 0] 90)).heap.size = w.heap.size + 1) := Lib.hid (by simp)
  have HC := Lib.hid (Cur.new (c := c) h hn hl)
  have HS1 : Hid (w.heap.size < (w.alloc (.cells #[.slice A n c, .int .i64 0, .int .u64 0] 90)).heap.size) := Lib.hid (by have := HZ0.out; omega)
  clear h hl
  go_enter Try.func41, Try.ntmps41
  go_wp2_with fail
  refine (anyShifts_any w.heap.size 0 _ (by omega) HC.out).mono ?_
  rintro e w1 ⟨B, m, out, rfl, hlo, hown, hc, hd⟩
  have HO := Lib.hid hown
  have HC := Lib.hid hc; have HD := Lib.hid hd
  clear hown hc hd
  go_wp2_with fail
  refine (pick_any w.heap.size _ 9000 _ (by omega) (by omega) HC.out).mono ?_
  rintro e w2 ⟨x, rfl, hx, hx', hc, hd⟩
  have HO := Lib.hid (Drew.own hd HO.out HS1.out)
  
  have HC := Lib.hid hc; have HD := Lib.hid (HD.out.trans hd)
  clear hc hd
  go_wp2_with fail
  refine (amongLit_any w.heap.size _ [1000001, -1] 3 _ _ _ rfl rfl (by omega) (by simp) (by simp) HC.out).mono ?_
  rintro e w3 ⟨y, hy, rfl, hc, hd⟩
  have HO := Lib.hid (Drew.own hd HO.out HS1.out)
  
  have HC := Lib.hid hc; have HD := Lib.hid (HD.out.trans hd)
  clear hc hd
  go_wp2_with fail
  refine (amongLit_any w.heap.size _ [0, 1, 100, (x : Int), 1000000, y] 3 _ _ _ rfl rfl (by omega) (by simp) (by simp) HC.out).mono ?_
  rintro e w4 ⟨ce, hce, rfl, hc, hd⟩
  have HO := Lib.hid (Drew.own hd HO.out HS1.out)
  
  have HC := Lib.hid hc; have HD := Lib.hid (HD.out.trans hd)
  clear hc hd
  go_wp2
  go_ret2
  exact ⟨B, m, out, ce, rfl, hlo, own_mono HO.out (by have := HZ0.out; omega), HB0.out.trans (Drew.allB HD.out (Nat.le_refl w.heap.size) (by have := HZ0.out; omega))⟩

set_option maxHeartbeats 4000000 in
set_option maxRecDepth 100000 in
theorem drawHourFor_any (A : Option Addr) (n c : Nat) (l : List Int) (w : World) (hn : n ≤ 9223372036854775807) (hl : ∀ x ∈ l, 0 ≤ x ∧ x ≤ 255) (h : Reads w 1 A n (bytesV l)) :
    Calls Try.prog 46 #[.slice A n c] w fun e w' => ∃ pa pb pc pd B m out op ms wa, e = .returned (.tuple #[.agg #[.int .i64 pa, .int .i64 pb, .int .i64 pc, .int .i64 pd], .slice B (List.length out) m, .int .i64 op, .int .i64 ms, .int .i64 wa]) ∧ out.length ≤ 61 ∧ w'.ownsRow w.heap.size 72 3 (.slice B out.length m) out.length (rows3 out) ∧ Below w.heap.size w w' := by
  have HB0 : Hid (Below w.heap.size w ((w.alloc (.cells #[.int .i64 0, .int .i64 0, .int .i64 0, .int .i64 0] 25)).alloc (.cells #[.slice A n c, .int .i64 0, .int .u64 0] 90))) := Lib.hid (((Below.refl _ _).alloc (Nat.le_refl _) _).alloc (by simp) _)
  have HE0 : Hid ((w.alloc (.cells #[.int .i64 0, .int .i64 0, .int .i64 0, .int .i64 0] 25)).heap.size = w.heap.size + 1) := Lib.hid (by simp)
  have HE1 : Hid (((w.alloc (.cells #[.int .i64 0, .int .i64 0, .int .i64 0, .int .i64 0] 25)).alloc (.cells #[.slice A n c, .int .i64 0, .int .u64 0] 90)).heap.size = w.heap.size + 1 + 1) := Lib.hid (by simp)
  have hcn := Cur.new (c := c) (h.alloc (.cells #[.int .i64 0, .int .i64 0, .int .i64 0, .int .i64 0] 25)) hn hl
  rw [HE0.out] at hcn
  have HC := Lib.hid hcn
  have HB2 := Lib.hid (box4_bel (Box4.new w 25 (.int .i64 0) (.int .i64 0) (.int .i64 0) (.int .i64 0)) ((Below.refl _ _).alloc (Nat.le_refl _) (.cells #[.slice A n c, .int .i64 0, .int .u64 0] 90)))
  have HRA := Lib.hid ((h.alloc (.cells #[.int .i64 0, .int .i64 0, .int .i64 0, .int .i64 0] 25)).alloc (.cells #[.slice A n c, .int .i64 0, .int .u64 0] 90))
  clear h hcn
  go_enter Try.func46, Try.ntmps46
  go_wp2_with fail
  refine (drawWageOf_any A n c l _ hn hl HRA.out).mono ?_
  rintro e w1 ⟨pa, pb, pc, pd, B, m, out, op, ms, rfl, hpa, hop, hms, hlo, hown, hb⟩
  have HW2 : Hid (Below w1.heap.size w1 (w1.alloc (.cells #[.int .i64 pa, .int .i64 pb, .int .i64 pc, .int .i64 pd] 25))) := Lib.hid ((Below.refl _ _).alloc (Nat.le_refl _) _)
  have HW2' : Hid (w1.heap.size < (w1.alloc (.cells #[.int .i64 pa, .int .i64 pb, .int .i64 pc, .int .i64 pd] 25)).heap.size) := Lib.hid (by simp)
  have HB3 := Lib.hid (Box4.new w1 25 (.int .i64 pa) (.int .i64 pb) (.int .i64 pc) (.int .i64 pd))
  have HB2 := Lib.hid (box4_bel (box4_bel HB2.out hb) HW2.out)
  have HO := Lib.hid (own_below hown HW2.out)
  have HSZ : Hid (w.heap.size + 1 + 1 ≤ w1.heap.size) := Lib.hid (by have := hb.size; have := HE1.out; omega)
  have HC := Lib.hid ((HC.out.below hb).below HW2.out)
  have HBW : Hid (Below w.heap.size w (w1.alloc (.cells #[.int .i64 pa, .int .i64 pb, .int .i64 pc, .int .i64 pd] 25))) := Lib.hid (((HB0.out.trans (hb.mono HB0.out.size))).trans (HW2.out.mono (by have := HSZ.out; omega)))
  have HS1 : Hid (w.heap.size + 1 < ((w.alloc (.cells #[.int .i64 0, .int .i64 0, .int .i64 0, .int .i64 0] 25)).alloc (.cells #[.slice A n c, .int .i64 0, .int .u64 0] 90)).heap.size) := Lib.hid (by have := HE1.out; omega)
  have HNE : Hid (w.heap.size ≠ w.heap.size + 1 ∧ w1.heap.size ≠ w.heap.size + 1) := Lib.hid ⟨by omega, by have := HSZ.out; omega⟩
  have hE1 := HE1.out
  have HD : Hid (Drew (w.heap.size + 1) (w1.alloc (.cells #[.int .i64 pa, .int .i64 pb, .int .i64 pc, .int .i64 pd] 25)) (w1.alloc (.cells #[.int .i64 pa, .int .i64 pb, .int .i64 pc, .int .i64 pd] 25))) := Lib.hid Turned.refl
  have hn1 : w.heap.size ≠ w1.heap.size := by have := HSZ.out; omega
  have hn2 : w1.heap.size ≠ w.heap.size := Ne.symm hn1
  clear hown hb hl HRA
  obtain ⟨g1, hg1⟩ : ∃ g1, g1 = w1.heap.size := ⟨_, rfl⟩
  go_wp2_with fail
  refine (pick_any (w.heap.size + 1) _ 60000 _ (by omega) (by omega) HC.out).mono ?_
  rintro e w2 ⟨x, rfl, hx, hx', hc, hd⟩
  have HO := Lib.hid (Drew.own hd HO.out HS1.out)
  have HB2 := Lib.hid (box4_drew HB2.out hd HNE.out.1); have HB3 := Lib.hid (box4_drew HB3.out hd HNE.out.2)
  have HC := Lib.hid hc; have HD := Lib.hid (HD.out.trans hd)
  clear hc hd
  go_wp2_with fail
  refine (amongLit_any (w.heap.size + 1) _ [1000001, -1] 3 _ _ _ rfl rfl (by omega) (by simp) (by simp) HC.out).mono ?_
  rintro e w3 ⟨y, hy, rfl, hc, hd⟩
  have HO := Lib.hid (Drew.own hd HO.out HS1.out)
  have HB2 := Lib.hid (box4_drew HB2.out hd HNE.out.1); have HB3 := Lib.hid (box4_drew HB3.out hd HNE.out.2)
  have HC := Lib.hid hc; have HD := Lib.hid (HD.out.trans hd)
  clear hc hd
  go_wp2_with fail
  refine (amongLit_any (w.heap.size + 1) _ [0, 500, 5000, (x : Int), 1000000, y] 3 _ _ _ rfl rfl (by omega) (by simp) (by simp) HC.out).mono ?_
  rintro e w4 ⟨wa, hwa, rfl, hc, hd⟩
  have HO := Lib.hid (Drew.own hd HO.out HS1.out)
  have HB2 := Lib.hid (box4_drew HB2.out hd HNE.out.1); have HB3 := Lib.hid (box4_drew HB3.out hd HNE.out.2)
  have HC := Lib.hid hc; have HD := Lib.hid (HD.out.trans hd)
  clear hc hd
  obtain ⟨k0, k1, k2, k3⟩ := HB3.out.cells
  have CA := wgAsked_any pa pb pc pd B out.length m out op ms w4 (by omega) (own_cap HO.out) (Reads.of_own HO.out)
  cases hask : askB pa pb pc pd out op ms with
  | false =>
    rw [hask] at CA
    have HCA := Lib.hid CA
    clear CA hask
    go_wp2_with fail
    refine (HCA.out).mono ?_
    rintro e w5 ⟨rfl, hb⟩
    have HB2 := Lib.hid (box4_bel HB2.out hb); have HB3 := Lib.hid (box4_bel HB3.out hb)
    have HO := Lib.hid (own_below HO.out hb); have HD := Lib.hid (HD.out.trans (Drew.of_below hb))
    clear hb k0 k1 k2 k3
    obtain ⟨z0, z1, z2, z3⟩ := HB2.out.cells
    obtain ⟨y0, y1, y2, y3⟩ := HB2.out.frozen
    obtain ⟨k0, k1, k2, k3⟩ := HB3.out.cells
    go_wp2
    obtain ⟨r0, r1, r2, r3⟩ := (box4_put4 (u0 := .int .i64 pa) (u1 := .int .i64 pb) (u2 := .int .i64 pc) (u3 := .int .i64 pd) HB2.out).cells
    try simp only [Exit.inBlock, Exit.then]
    refine bodyPost_ret (v := .tuple #[.agg #[.int .i64 pa, .int .i64 pb, .int .i64 pc, .int .i64 pd], .slice B out.length m, .int .i64 op, .int .i64 ms, .int .i64 wa]) (by simp [results, Try.results46, go_sem, r0, r1, r2, r3]) rfl ?_
    exact ⟨pa, pb, pc, pd, B, m, out, op, ms, wa, rfl, hlo, own_mono (own_put4 HO.out (by omega)) (by omega), below_put4 (HBW.out.trans (Drew.allB (B := w.heap.size) HD.out (by omega) (by have := HSZ.out; have := HW2'.out; omega))) (Nat.le_refl _)⟩
  | true =>
    rw [hask] at CA
    have HCA := Lib.hid CA
    obtain ⟨hp, hg, hopb, hmb⟩ := askB_of hask
    have hmb2 := inB_true.1 hmb
    have hwb := wage_bd (op := op) hp hg hmb2
    clear CA
    go_wp2_with fail
    refine (HCA.out).mono ?_
    rintro e w5 ⟨rfl, hb⟩
    have HB2 := Lib.hid (box4_bel HB2.out hb); have HB3 := Lib.hid (box4_bel HB3.out hb)
    have HO := Lib.hid (own_below HO.out hb); have HC := Lib.hid (HC.out.below hb); have HD := Lib.hid (HD.out.trans (Drew.of_below hb))
    clear hb k0 k1 k2 k3
    go_wp2_with fail
    refine (one_any (w.heap.size + 1) _ 2 _ (by omega) (by omega) HC.out).mono ?_
    rintro e w6 ⟨b6, rfl, hc, hd⟩
    have HO := Lib.hid (Drew.own hd HO.out HS1.out)
    have HB2 := Lib.hid (box4_drew HB2.out hd HNE.out.1); have HB3 := Lib.hid (box4_drew HB3.out hd HNE.out.2)
    have HC := Lib.hid hc; have HD := Lib.hid (HD.out.trans hd)
    clear hc hd
    cases b6 with
    | false =>
      obtain ⟨z0, z1, z2, z3⟩ := HB2.out.cells
      obtain ⟨y0, y1, y2, y3⟩ := HB2.out.frozen
      obtain ⟨k0, k1, k2, k3⟩ := HB3.out.cells
      go_wp2
      obtain ⟨r0, r1, r2, r3⟩ := (box4_put4 (u0 := .int .i64 pa) (u1 := .int .i64 pb) (u2 := .int .i64 pc) (u3 := .int .i64 pd) HB2.out).cells
      try simp only [Exit.inBlock, Exit.then]
      refine bodyPost_ret (v := .tuple #[.agg #[.int .i64 pa, .int .i64 pb, .int .i64 pc, .int .i64 pd], .slice B out.length m, .int .i64 op, .int .i64 ms, .int .i64 wa]) (by simp [results, Try.results46, go_sem, r0, r1, r2, r3]) rfl ?_
      exact ⟨pa, pb, pc, pd, B, m, out, op, ms, wa, rfl, hlo, own_mono (own_put4 HO.out (by omega)) (by omega), below_put4 (HBW.out.trans (Drew.allB (B := w.heap.size) HD.out (by omega) (by have := HSZ.out; have := HW2'.out; omega))) (Nat.le_refl _)⟩
    | true =>
      have HCW := Lib.hid (wgWage_any pa pb pc pd B out.length m out op ms w6 hp hg hopb hmb2 (own_cap HO.out) (Reads.of_own HO.out))
      generalize wage pa pb pc pd out op ms = wg at *
      obtain ⟨k0, k1, k2, k3⟩ := HB3.out.cells
      go_wp2_with fail
      refine (HCW.out).mono ?_
      rintro e w7 ⟨rfl, hb⟩
      have HB2 := Lib.hid (box4_bel HB2.out hb); have HB3 := Lib.hid (box4_bel HB3.out hb)
      have HO := Lib.hid (own_below HO.out hb); have HC := Lib.hid (HC.out.below hb); have HD := Lib.hid (HD.out.trans (Drew.of_below hb))
      clear hb k0 k1 k2 k3
      go_wp2_with fail
      refine (pick_any (w.heap.size + 1) _ 3 _ (by omega) (by omega) HC.out).mono ?_
      rintro e w8 ⟨x3, rfl, hx3, hx3', hc, hd⟩
      have HO := Lib.hid (Drew.own hd HO.out HS1.out)
      have HB2 := Lib.hid (box4_drew HB2.out hd HNE.out.1); have HB3 := Lib.hid (box4_drew HB3.out hd HNE.out.2)
      have HC := Lib.hid hc; have HD := Lib.hid (HD.out.trans hd)
      clear hc hd
      have hx3b : (x3 : Int) ≤ 2 := by omega
      obtain ⟨z0, z1, z2, z3⟩ := HB2.out.cells
      obtain ⟨y0, y1, y2, y3⟩ := HB2.out.frozen
      obtain ⟨k0, k1, k2, k3⟩ := HB3.out.cells
      go_wp2_with (first | (go_at_call 79; refine (l1Most_any _ _ _).mono ?_; rintro e w' ⟨rfl, rfl⟩))
      obtain ⟨wa2, hwa2⟩ : ∃ v, v = max 0 (wg + (x3 : Int) - 1) := ⟨_, rfl⟩
      try rw [← hwa2]
      obtain ⟨r0, r1, r2, r3⟩ := (box4_put4 (u0 := .int .i64 pa) (u1 := .int .i64 pb) (u2 := .int .i64 pc) (u3 := .int .i64 pd) HB2.out).cells
      try simp only [Exit.inBlock, Exit.then]
      refine bodyPost_ret (v := .tuple #[.agg #[.int .i64 pa, .int .i64 pb, .int .i64 pc, .int .i64 pd], .slice B out.length m, .int .i64 op, .int .i64 ms, .int .i64 wa2]) (by simp [results, Try.results46, go_sem, r0, r1, r2, r3]) rfl ?_
      exact ⟨pa, pb, pc, pd, B, m, out, op, ms, wa2, rfl, hlo, own_mono (own_put4 HO.out (by omega)) (by omega), below_put4 (HBW.out.trans (Drew.allB (B := w.heap.size) HD.out (by omega) (by have := HSZ.out; have := HW2'.out; omega))) (Nat.le_refl _)⟩

end Go.Proofs.Ytiofgoppgdgbaaa
