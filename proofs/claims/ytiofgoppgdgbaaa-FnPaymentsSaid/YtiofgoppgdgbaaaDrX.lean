/- What the law on payments draws besides: pays to compare. No conditions. -/
import Derived.Test.YtiofgoppgdgbaaaDrW
namespace Go.Proofs.Ytiofgoppgdgbaaa
set_option linter.unusedSimpArgs false
set_option linter.unusedVariables false
open Go.RowKit

theorem mk8 {W : World} {g g' : Nat} {t t' : TypeId} {v0 v1 v2 v3 u0 u1 u2 u3 : Value} (h : Box4 W g t v0 v1 v2 v3) (h' : Box4 W g' t' u0 u1 u2 u3) :
    W.cell? ⟨g, 0, none⟩ = some v0 ∧ W.cell? ⟨g, 1, none⟩ = some v1 ∧ W.cell? ⟨g, 2, none⟩ = some v2 ∧ W.cell? ⟨g, 3, none⟩ = some v3 ∧ W.cell? ⟨g', 0, none⟩ = some u0 ∧ W.cell? ⟨g', 1, none⟩ = some u1 ∧ W.cell? ⟨g', 2, none⟩ = some u2 ∧ W.cell? ⟨g', 3, none⟩ = some u3 :=
  ⟨h.cells.1, h.cells.2.1, h.cells.2.2.1, h.cells.2.2.2, h'.cells.1, h'.cells.2.1, h'.cells.2.2.1, h'.cells.2.2.2⟩

set_option maxHeartbeats 8000000 in
set_option maxRecDepth 100000 in
theorem drawCheaperPay_any (A : Option Addr) (n c : Nat) (l : List Int) (w : World) (hn : n ≤ 9223372036854775807) (hl : ∀ x ∈ l, 0 ≤ x ∧ x ≤ 255) (h : Reads w 1 A n (bytesV l)) :
    Calls Try.prog 47 #[.slice A n c] w fun e w' => ∃ pa pb pc pd qa qb qc qd B m out E q ms, e = .returned (.tuple #[.agg #[.int .i64 pa, .int .i64 pb, .int .i64 pc, .int .i64 pd], .agg #[.int .i64 qa, .int .i64 qb, .int .i64 qc, .int .i64 qd], .slice B (List.length out) m, .slice E (List.length ms) q]) ∧ out.length ≤ 61 ∧ ms.length ≤ 31 ∧ w'.ownsRow w.heap.size 72 3 (.slice B out.length m) out.length (rows3 out) ∧ w'.ownsRow w.heap.size 3 1 (.slice E ms.length q) ms.length (ints ms) ∧ Below w.heap.size w w' := by
  have HB0 : Hid (Below w.heap.size w (((w.alloc (.cells #[.int .i64 0, .int .i64 0, .int .i64 0, .int .i64 0] 25)).alloc (.cells #[.int .i64 0, .int .i64 0, .int .i64 0, .int .i64 0] 25)).alloc (.cells #[.slice A n c, .int .i64 0, .int .u64 0] 90))) := Lib.hid ((((Below.refl _ _).alloc (Nat.le_refl _) _).alloc (by simp) _).alloc (by simp; omega) _)
  have HE0 : Hid (((w.alloc (.cells #[.int .i64 0, .int .i64 0, .int .i64 0, .int .i64 0] 25)).alloc (.cells #[.int .i64 0, .int .i64 0, .int .i64 0, .int .i64 0] 25)).heap.size = w.heap.size + 1 + 1) := Lib.hid (by simp)
  have HE1 : Hid ((((w.alloc (.cells #[.int .i64 0, .int .i64 0, .int .i64 0, .int .i64 0] 25)).alloc (.cells #[.int .i64 0, .int .i64 0, .int .i64 0, .int .i64 0] 25)).alloc (.cells #[.slice A n c, .int .i64 0, .int .u64 0] 90)).heap.size = w.heap.size + 3) := Lib.hid (by simp)
  have hcn := Cur.new (c := c) ((h.alloc (.cells #[.int .i64 0, .int .i64 0, .int .i64 0, .int .i64 0] 25)).alloc (.cells #[.int .i64 0, .int .i64 0, .int .i64 0, .int .i64 0] 25)) hn hl
  rw [HE0.out] at hcn
  have HC := Lib.hid hcn
  have HA1 : Hid ((w.alloc (.cells #[.int .i64 0, .int .i64 0, .int .i64 0, .int .i64 0] 25)).heap.size = w.heap.size + 1) := Lib.hid (by simp)
  have HB2 := Lib.hid (box4_bel (box4_bel (Box4.new w 25 (.int .i64 0) (.int .i64 0) (.int .i64 0) (.int .i64 0)) ((Below.refl _ _).alloc (Nat.le_refl _) (.cells #[.int .i64 0, .int .i64 0, .int .i64 0, .int .i64 0] 25))) ((Below.refl _ _).alloc (Nat.le_refl _) (.cells #[.slice A n c, .int .i64 0, .int .u64 0] 90)))
  have hb3 := box4_bel (Box4.new (w.alloc (.cells #[.int .i64 0, .int .i64 0, .int .i64 0, .int .i64 0] 25)) 25 (.int .i64 0) (.int .i64 0) (.int .i64 0) (.int .i64 0)) ((Below.refl _ _).alloc (Nat.le_refl _) (.cells #[.slice A n c, .int .i64 0, .int .u64 0] 90))
  rw [HA1.out] at hb3
  have HB3 := Lib.hid hb3
  have HNF : Hid (w.heap.size ≠ (w.heap.size + 1 + 1) ∧ w.heap.size + 1 ≠ (w.heap.size + 1 + 1)) := Lib.hid ⟨by omega, by omega⟩
  clear h hl hcn hb3 HA1
  go_enter Try.func47, Try.ntmps47
  go_wp2_with fail
  refine (pay_any (w.heap.size + 1 + 1) _ _ (by omega) HC.out).mono ?_
  rintro e w1 ⟨pa, pb, pc, pd, rfl, _, _, _, _, hc, hd⟩
  have HB2 := Lib.hid (box4_drew HB2.out hd HNF.out.1); have HB3 := Lib.hid (box4_drew HB3.out hd HNF.out.2)
  have HSZ : Hid (w.heap.size + 3 ≤ w1.heap.size) := Lib.hid (by have := hd.size; have := HE1.out; omega)
  have HW7 : Hid (Below w1.heap.size w1 (w1.alloc (.cells #[.int .i64 pa, .int .i64 pb, .int .i64 pc, .int .i64 pd] 25))) := Lib.hid ((Below.refl _ _).alloc (Nat.le_refl _) _)
  have HW8 : Hid (Below (w1.alloc (.cells #[.int .i64 pa, .int .i64 pb, .int .i64 pc, .int .i64 pd] 25)).heap.size (w1.alloc (.cells #[.int .i64 pa, .int .i64 pb, .int .i64 pc, .int .i64 pd] 25)) ((w1.alloc (.cells #[.int .i64 pa, .int .i64 pb, .int .i64 pc, .int .i64 pd] 25)).alloc (.cells #[.int .i64 pa, .int .i64 pb, .int .i64 pc, .int .i64 pd] 25))) := Lib.hid ((Below.refl _ _).alloc (Nat.le_refl _) _)
  have HE7 : Hid ((w1.alloc (.cells #[.int .i64 pa, .int .i64 pb, .int .i64 pc, .int .i64 pd] 25)).heap.size = w1.heap.size + 1) := Lib.hid (by simp)
  have HB7 := Lib.hid (box4_bel (Box4.new w1 25 (.int .i64 pa) (.int .i64 pb) (.int .i64 pc) (.int .i64 pd)) HW8.out)
  have hb8 := Box4.new (w1.alloc (.cells #[.int .i64 pa, .int .i64 pb, .int .i64 pc, .int .i64 pd] 25)) 25 (.int .i64 pa) (.int .i64 pb) (.int .i64 pc) (.int .i64 pd)
  rw [HE7.out] at hb8
  have HB8 := Lib.hid hb8
  have HB2 := Lib.hid (box4_bel (box4_bel HB2.out HW7.out) HW8.out); have HB3 := Lib.hid (box4_bel (box4_bel HB3.out HW7.out) HW8.out)
  have HC := Lib.hid ((hc.below HW7.out).below HW8.out)
  have HD := Lib.hid ((hd.trans (Drew.of_below HW7.out)).trans (Drew.of_below HW8.out))
  clear hc hd hb8
  have HNE : Hid ((w1.heap.size ≠ (w.heap.size + 1 + 1) ∧ w1.heap.size ≠ w.heap.size ∧ w1.heap.size ≠ w.heap.size + 1) ∧ (w1.heap.size + 1 ≠ (w.heap.size + 1 + 1) ∧ w1.heap.size + 1 ≠ w.heap.size ∧ w1.heap.size + 1 ≠ w.heap.size + 1)) := Lib.hid (by have := HSZ.out; omega)
  have HNE := Lib.hid (And.intro HNE.out.1.1 (And.intro HNE.out.1.2.1 (And.intro HNE.out.1.2.2 HNE.out.2)))
  obtain ⟨k0, k1, k2, k3⟩ := (Box4.new w1 25 (.int .i64 pa) (.int .i64 pb) (.int .i64 pc) (.int .i64 pd)).cells
  go_wp2_with fail
  refine (one_any (w.heap.size + 1 + 1) _ 2 _ (by omega) (by omega) HC.out).mono ?_
  rintro e w2 ⟨b2, rfl, hc, hd⟩
  clear k0 k1 k2 k3
  have HB2 := Lib.hid (box4_drew HB2.out hd HNF.out.1); have HB3 := Lib.hid (box4_drew HB3.out hd HNF.out.2)
  have HB7 := Lib.hid (box4_drew HB7.out hd HNE.out.1); have HB8 := Lib.hid (box4_drew HB8.out hd HNE.out.2.2.2.1)
  have HC := Lib.hid hc; have HD := Lib.hid (HD.out.trans hd)
  clear hc hd HW7 HW8 HE7
  have hn71 := HNE.out.2.1
  have hn72 := HNE.out.2.2.1
  have hn81 := HNE.out.2.2.2.2.1
  have hn82 := HNE.out.2.2.2.2.2
  have hn71' := Ne.symm hn71; have hn72' := Ne.symm hn72; have hn81' := Ne.symm hn81; have hn82' := Ne.symm hn82
  cases b2 with
  | false =>
    obtain ⟨x0, x1, x2, x3⟩ := HB7.out.cells
    obtain ⟨y0, y1, y2, y3⟩ := HB8.out.cells
    go_wp2
    obtain ⟨wb, hwb⟩ : ∃ wb, wb = w2 := ⟨_, rfl⟩
    try rw [← hwb]
    rw [← hwb] at HB2 HB3 HB7 HB8 HC HD x0 x1 x2 x3 y0 y1 y2 y3
    clear hwb
    generalize hg7 : w1.heap.size = g7 at *
    generalize hg8 : g7 + 1 = g8 at *
    have HWB : Hid (w.heap.size + 1 + 1 + 1 ≤ wb.heap.size) := Lib.hid (by have := HD.out.size; have := HE1.out; omega)
    have HCD : Hid (Cur wb.drew (w.heap.size + 1 + 1) _) := Lib.hid HC.out
    have HB2D : Hid (Box4 wb.drew _ 25 _ _ _ _) := Lib.hid HB2.out
    have HB3D : Hid (Box4 wb.drew _ 25 _ _ _ _) := Lib.hid HB3.out
    have HB7D : Hid (Box4 wb.drew _ 25 _ _ _ _) := Lib.hid HB7.out
    have HB8D : Hid (Box4 wb.drew _ 25 _ _ _ _) := Lib.hid HB8.out
    go_region_held3 (fun W => W.cell? ⟨g7, 0, none⟩ = some (.int .i64 pa) ∧ W.cell? ⟨g7, 1, none⟩ = some (.int .i64 pb) ∧ W.cell? ⟨g7, 2, none⟩ = some (.int .i64 pc) ∧ W.cell? ⟨g7, 3, none⟩ = some (.int .i64 pd) ∧ W.cell? ⟨g8, 0, none⟩ = some (.int .i64 pa) ∧ W.cell? ⟨g8, 1, none⟩ = some (.int .i64 pb) ∧ W.cell? ⟨g8, 2, none⟩ = some (.int .i64 pc) ∧ W.cell? ⟨g8, 3, none⟩ = some (.int .i64 pd)) (first | assumption | with_reducible exact mk8 HB7.out HB8.out | with_reducible exact mk8 HB7D.out HB8D.out | with_reducible exact mk8 HB7X.out HB8X.out | with_reducible exact mk8 HB7Y.out HB8Y.out | with_reducible exact mk8 HB7Z.out HB8Z.out | with_reducible exact mk8 HB7W.out HB8W.out | fail) (first | (go_at_call 72; refine (anyShifts_any (w.heap.size + 1 + 1) _ _ (by omega) HCD.out).mono ?_; rintro e wx ⟨B, m, out, rfl, hlo, hown, hc1, hd1⟩; have HC1 := Lib.hid hc1; have HD1 := Lib.hid hd1; have HOW := Lib.hid hown; have HB7X := Lib.hid (box4_drew HB7D.out hd1 HNE.out.1); have HB8X := Lib.hid (box4_drew HB8D.out hd1 HNE.out.2.2.2.1); have HB2X := Lib.hid (box4_drew HB2D.out hd1 HNF.out.1); have HB3X := Lib.hid (box4_drew HB3D.out hd1 HNF.out.2); clear hc1 hd1 hown) | (go_at_call 81; refine (messagesAll_any (w.heap.size + 1 + 1) _ _ (by omega) HC1.out).mono ?_; rintro e wy ⟨E, q, ms, rfl, hlm, hms, hownm, hc2, hd2⟩; have HD2 := Lib.hid hd2; have HOM := Lib.hid hownm; have HB7Y := Lib.hid (box4_drew HB7X.out hd2 HNE.out.1); have HB8Y := Lib.hid (box4_drew HB8X.out hd2 HNE.out.2.2.2.1); have HB2Y := Lib.hid (box4_drew HB2X.out hd2 HNF.out.1); have HB3Y := Lib.hid (box4_drew HB3X.out hd2 HNF.out.2); clear hc2 hd2 hownm hms; obtain ⟨c0, c1, c2, c3⟩ := HB2Y.out.cells; obtain ⟨f0, f1, f2, f3⟩ := HB2Y.out.frozen; obtain ⟨wz, hwz⟩ : ∃ wz, ((((wy.setCell ⟨w.heap.size, 0, none⟩ (.int .i64 pa)).setCell ⟨w.heap.size, 1, none⟩ (.int .i64 pb)).setCell ⟨w.heap.size, 2, none⟩ (.int .i64 pc)).setCell ⟨w.heap.size, 3, none⟩ (.int .i64 pd)) = wz := ⟨_, rfl⟩; have HB2Z : Hid (Box4 wz _ 25 _ _ _ _) := Lib.hid (by rw [← hwz]; exact box4_put4 (u0 := .int .i64 pa) (u1 := .int .i64 pb) (u2 := .int .i64 pc) (u3 := .int .i64 pd) HB2Y.out); have HB3Z : Hid (Box4 wz _ 25 _ _ _ _) := Lib.hid (by rw [← hwz]; exact box4_far4 (u0 := .int .i64 pa) (u1 := .int .i64 pb) (u2 := .int .i64 pc) (u3 := .int .i64 pd) HB3Y.out (Nat.succ_ne_self _)); have HB7Z : Hid (Box4 wz _ 25 _ _ _ _) := Lib.hid (by rw [← hwz]; exact box4_far4 (u0 := .int .i64 pa) (u1 := .int .i64 pb) (u2 := .int .i64 pc) (u3 := .int .i64 pd) HB7Y.out HNE.out.2.1); have HB8Z : Hid (Box4 wz _ 25 _ _ _ _) := Lib.hid (by rw [← hwz]; exact box4_far4 (u0 := .int .i64 pa) (u1 := .int .i64 pb) (u2 := .int .i64 pc) (u3 := .int .i64 pd) HB8Y.out HNE.out.2.2.2.2.1); have HOWZ : Hid (wz.ownsRow _ 72 3 _ _ _) := Lib.hid (by rw [← hwz]; exact own_put4 (b := w.heap.size) (u0 := .int .i64 pa) (u1 := .int .i64 pb) (u2 := .int .i64 pc) (u3 := .int .i64 pd) (Drew.own HD2.out HOW.out (by have := HWB.out; have : wb.drew.heap.size = wb.heap.size := rfl; omega)) (by have := HWB.out; have : wb.drew.heap.size = wb.heap.size := rfl; omega)); have HOMZ : Hid (wz.ownsRow _ 3 1 _ _ _) := Lib.hid (by rw [← hwz]; exact own_put4 (b := w.heap.size) (u0 := .int .i64 pa) (u1 := .int .i64 pb) (u2 := .int .i64 pc) (u3 := .int .i64 pd) HOM.out (by have := HD1.out.size; have := HWB.out; have : wb.drew.heap.size = wb.heap.size := rfl; omega)); have HBLZ : Hid (Below w.heap.size wy wz) := Lib.hid (by rw [← hwz]; exact below_put4 (Below.refl _ _) (Nat.le_refl _)); obtain ⟨e0, e1, e2, e3⟩ := HB3Z.out.cells; obtain ⟨j0, j1, j2, j3⟩ := HB3Z.out.frozen; obtain ⟨ww, hww⟩ : ∃ ww, ((((wz.setCell ⟨w.heap.size + 1, 0, none⟩ (.int .i64 pa)).setCell ⟨w.heap.size + 1, 1, none⟩ (.int .i64 pb)).setCell ⟨w.heap.size + 1, 2, none⟩ (.int .i64 pc)).setCell ⟨w.heap.size + 1, 3, none⟩ (.int .i64 pd)) = ww := ⟨_, rfl⟩; have HB2W : Hid (Box4 ww _ 25 _ _ _ _) := Lib.hid (by rw [← hww]; exact box4_far4 (u0 := .int .i64 pa) (u1 := .int .i64 pb) (u2 := .int .i64 pc) (u3 := .int .i64 pd) HB2Z.out (Nat.ne_of_lt (Nat.lt_succ_self _))); have HB3W : Hid (Box4 ww _ 25 _ _ _ _) := Lib.hid (by rw [← hww]; exact box4_put4 (u0 := .int .i64 pa) (u1 := .int .i64 pb) (u2 := .int .i64 pc) (u3 := .int .i64 pd) HB3Z.out); have HB7W : Hid (Box4 ww _ 25 _ _ _ _) := Lib.hid (by rw [← hww]; exact box4_far4 (u0 := .int .i64 pa) (u1 := .int .i64 pb) (u2 := .int .i64 pc) (u3 := .int .i64 pd) HB7Z.out HNE.out.2.2.1); have HB8W : Hid (Box4 ww _ 25 _ _ _ _) := Lib.hid (by rw [← hww]; exact box4_far4 (u0 := .int .i64 pa) (u1 := .int .i64 pb) (u2 := .int .i64 pc) (u3 := .int .i64 pd) HB8Z.out HNE.out.2.2.2.2.2); have HOWW : Hid (ww.ownsRow _ 72 3 _ _ _) := Lib.hid (by rw [← hww]; exact own_put4 (b := w.heap.size + 1) (u0 := .int .i64 pa) (u1 := .int .i64 pb) (u2 := .int .i64 pc) (u3 := .int .i64 pd) HOWZ.out (by have := HWB.out; have : wb.drew.heap.size = wb.heap.size := rfl; omega)); have HOMW : Hid (ww.ownsRow _ 3 1 _ _ _) := Lib.hid (by rw [← hww]; exact own_put4 (b := w.heap.size + 1) (u0 := .int .i64 pa) (u1 := .int .i64 pb) (u2 := .int .i64 pc) (u3 := .int .i64 pd) HOMZ.out (by have := HD1.out.size; have := HWB.out; have : wb.drew.heap.size = wb.heap.size := rfl; omega)); have HBLW : Hid (Below w.heap.size wy ww) := Lib.hid (by rw [← hww]; exact below_put4 HBLZ.out (Nat.le_succ _))) | fail)
    have HDZ := Lib.hid (Drew.allB (B := w.heap.size) ((HD.out.drewN 1).trans (HD1.out.trans HD2.out)) (by omega) (by have := HE1.out; omega))
    have hzx := HD1.out.size
    have hzb : wb.drew.heap.size = wb.heap.size := rfl
    have hzw := HWB.out
    obtain ⟨r0, r1, r2, r3⟩ := HB2W.out.cells
    obtain ⟨s0, s1, s2, s3⟩ := HB3W.out.cells
    clear c0 c1 c2 c3 f0 f1 f2 f3 e0 e1 e2 e3 j0 j1 j2 j3 x0 x1 x2 x3 y0 y1 y2 y3 hwz hww
    go_wp2
    try simp only [Exit.inBlock, Exit.then]
    refine bodyPost_ret (v := .tuple #[.agg #[.int .i64 pa, .int .i64 pb, .int .i64 pc, .int .i64 pd], .agg #[.int .i64 pa, .int .i64 pb, .int .i64 pc, .int .i64 pd], .slice B out.length m, .slice E ms.length q]) (by simp [results, Try.results47, go_sem, r0, r1, r2, r3, s0, s1, s2, s3]) rfl ?_
    exact ⟨pa, pb, pc, pd, pa, pb, pc, pd, B, m, out, E, q, ms, rfl, hlo, hlm, own_mono HOWW.out (by omega), own_mono HOMW.out (by omega), (HB0.out.trans HDZ.out).trans HBLW.out⟩
  | true =>
    go_wp2_with fail
    refine (pay_any (w.heap.size + 1 + 1) _ _ (by omega) HC.out).mono ?_
    rintro e w3 ⟨qa, qb, qc, qd, rfl, _, _, _, _, hc, hd⟩
    have HB2 := Lib.hid (box4_far4 (b' := w1.heap.size + 1) (u0 := .int .i64 qa) (u1 := .int .i64 qb) (u2 := .int .i64 qc) (u3 := .int .i64 qd) (box4_drew HB2.out hd HNF.out.1) hn81')
    have HB3 := Lib.hid (box4_far4 (b' := w1.heap.size + 1) (u0 := .int .i64 qa) (u1 := .int .i64 qb) (u2 := .int .i64 qc) (u3 := .int .i64 qd) (box4_drew HB3.out hd HNF.out.2) hn82')
    have HB7 := Lib.hid (box4_far4 (b' := w1.heap.size + 1) (u0 := .int .i64 qa) (u1 := .int .i64 qb) (u2 := .int .i64 qc) (u3 := .int .i64 qd) (box4_drew HB7.out hd HNE.out.1) (by omega))
    obtain ⟨v0, v1, v2, v3⟩ := (box4_drew HB8.out hd HNE.out.2.2.2.1).cells
    obtain ⟨t0, t1, t2, t3⟩ := (box4_drew HB8.out hd HNE.out.2.2.2.1).frozen
    have HB8 := Lib.hid (box4_put4 (u0 := .int .i64 qa) (u1 := .int .i64 qb) (u2 := .int .i64 qc) (u3 := .int .i64 qd) (box4_drew HB8.out hd HNE.out.2.2.2.1))
    have HBP := Lib.hid (below_put4 (b := w1.heap.size + 1) (u0 := .int .i64 qa) (u1 := .int .i64 qb) (u2 := .int .i64 qc) (u3 := .int .i64 qd) (Below.refl (w1.heap.size + 1) w3) (Nat.le_refl _))
    have HC := Lib.hid (hc.below' HBP.out (by have := HSZ.out; omega))
    have HD := Lib.hid (Drew.then_below (HD.out.trans hd) (below_put4 (b := w1.heap.size + 1) (u0 := .int .i64 qa) (u1 := .int .i64 qb) (u2 := .int .i64 qc) (u3 := .int .i64 qd) (Below.refl _ w3) (by have := HSZ.out; have := HE1.out; omega)))
    clear hc hd
    go_wp2
    clear v0 v1 v2 v3 t0 t1 t2 t3
    obtain ⟨x0, x1, x2, x3⟩ := HB7.out.cells
    obtain ⟨y0, y1, y2, y3⟩ := HB8.out.cells
    obtain ⟨wb, hwb⟩ : ∃ wb, wb = ((((w3.setCell ⟨w1.heap.size + 1, 0, none⟩ (.int .i64 qa)).setCell ⟨w1.heap.size + 1, 1, none⟩ (.int .i64 qb)).setCell ⟨w1.heap.size + 1, 2, none⟩ (.int .i64 qc)).setCell ⟨w1.heap.size + 1, 3, none⟩ (.int .i64 qd)) := ⟨_, rfl⟩
    try rw [← hwb]
    rw [← hwb] at HB2 HB3 HB7 HB8 HC HD x0 x1 x2 x3 y0 y1 y2 y3
    clear hwb
    generalize hg7 : w1.heap.size = g7 at *
    generalize hg8 : g7 + 1 = g8 at *
    have HWB : Hid (w.heap.size + 1 + 1 + 1 ≤ wb.heap.size) := Lib.hid (by have := HD.out.size; have := HE1.out; omega)
    have HCD : Hid (Cur wb.drew (w.heap.size + 1 + 1) _) := Lib.hid HC.out
    have HB2D : Hid (Box4 wb.drew _ 25 _ _ _ _) := Lib.hid HB2.out
    have HB3D : Hid (Box4 wb.drew _ 25 _ _ _ _) := Lib.hid HB3.out
    have HB7D : Hid (Box4 wb.drew _ 25 _ _ _ _) := Lib.hid HB7.out
    have HB8D : Hid (Box4 wb.drew _ 25 _ _ _ _) := Lib.hid HB8.out
    go_region_held3 (fun W => W.cell? ⟨g7, 0, none⟩ = some (.int .i64 pa) ∧ W.cell? ⟨g7, 1, none⟩ = some (.int .i64 pb) ∧ W.cell? ⟨g7, 2, none⟩ = some (.int .i64 pc) ∧ W.cell? ⟨g7, 3, none⟩ = some (.int .i64 pd) ∧ W.cell? ⟨g8, 0, none⟩ = some (.int .i64 qa) ∧ W.cell? ⟨g8, 1, none⟩ = some (.int .i64 qb) ∧ W.cell? ⟨g8, 2, none⟩ = some (.int .i64 qc) ∧ W.cell? ⟨g8, 3, none⟩ = some (.int .i64 qd)) (first | assumption | with_reducible exact mk8 HB7.out HB8.out | with_reducible exact mk8 HB7D.out HB8D.out | with_reducible exact mk8 HB7X.out HB8X.out | with_reducible exact mk8 HB7Y.out HB8Y.out | with_reducible exact mk8 HB7Z.out HB8Z.out | with_reducible exact mk8 HB7W.out HB8W.out | fail) (first | (go_at_call 72; refine (anyShifts_any (w.heap.size + 1 + 1) _ _ (by omega) HCD.out).mono ?_; rintro e wx ⟨B, m, out, rfl, hlo, hown, hc1, hd1⟩; have HC1 := Lib.hid hc1; have HD1 := Lib.hid hd1; have HOW := Lib.hid hown; have HB7X := Lib.hid (box4_drew HB7D.out hd1 HNE.out.1); have HB8X := Lib.hid (box4_drew HB8D.out hd1 HNE.out.2.2.2.1); have HB2X := Lib.hid (box4_drew HB2D.out hd1 HNF.out.1); have HB3X := Lib.hid (box4_drew HB3D.out hd1 HNF.out.2); clear hc1 hd1 hown) | (go_at_call 81; refine (messagesAll_any (w.heap.size + 1 + 1) _ _ (by omega) HC1.out).mono ?_; rintro e wy ⟨E, q, ms, rfl, hlm, hms, hownm, hc2, hd2⟩; have HD2 := Lib.hid hd2; have HOM := Lib.hid hownm; have HB7Y := Lib.hid (box4_drew HB7X.out hd2 HNE.out.1); have HB8Y := Lib.hid (box4_drew HB8X.out hd2 HNE.out.2.2.2.1); have HB2Y := Lib.hid (box4_drew HB2X.out hd2 HNF.out.1); have HB3Y := Lib.hid (box4_drew HB3X.out hd2 HNF.out.2); clear hc2 hd2 hownm hms; obtain ⟨c0, c1, c2, c3⟩ := HB2Y.out.cells; obtain ⟨f0, f1, f2, f3⟩ := HB2Y.out.frozen; obtain ⟨wz, hwz⟩ : ∃ wz, ((((wy.setCell ⟨w.heap.size, 0, none⟩ (.int .i64 pa)).setCell ⟨w.heap.size, 1, none⟩ (.int .i64 pb)).setCell ⟨w.heap.size, 2, none⟩ (.int .i64 pc)).setCell ⟨w.heap.size, 3, none⟩ (.int .i64 pd)) = wz := ⟨_, rfl⟩; have HB2Z : Hid (Box4 wz _ 25 _ _ _ _) := Lib.hid (by rw [← hwz]; exact box4_put4 (u0 := .int .i64 pa) (u1 := .int .i64 pb) (u2 := .int .i64 pc) (u3 := .int .i64 pd) HB2Y.out); have HB3Z : Hid (Box4 wz _ 25 _ _ _ _) := Lib.hid (by rw [← hwz]; exact box4_far4 (u0 := .int .i64 pa) (u1 := .int .i64 pb) (u2 := .int .i64 pc) (u3 := .int .i64 pd) HB3Y.out (Nat.succ_ne_self _)); have HB7Z : Hid (Box4 wz _ 25 _ _ _ _) := Lib.hid (by rw [← hwz]; exact box4_far4 (u0 := .int .i64 pa) (u1 := .int .i64 pb) (u2 := .int .i64 pc) (u3 := .int .i64 pd) HB7Y.out HNE.out.2.1); have HB8Z : Hid (Box4 wz _ 25 _ _ _ _) := Lib.hid (by rw [← hwz]; exact box4_far4 (u0 := .int .i64 pa) (u1 := .int .i64 pb) (u2 := .int .i64 pc) (u3 := .int .i64 pd) HB8Y.out HNE.out.2.2.2.2.1); have HOWZ : Hid (wz.ownsRow _ 72 3 _ _ _) := Lib.hid (by rw [← hwz]; exact own_put4 (b := w.heap.size) (u0 := .int .i64 pa) (u1 := .int .i64 pb) (u2 := .int .i64 pc) (u3 := .int .i64 pd) (Drew.own HD2.out HOW.out (by have := HWB.out; have : wb.drew.heap.size = wb.heap.size := rfl; omega)) (by have := HWB.out; have : wb.drew.heap.size = wb.heap.size := rfl; omega)); have HOMZ : Hid (wz.ownsRow _ 3 1 _ _ _) := Lib.hid (by rw [← hwz]; exact own_put4 (b := w.heap.size) (u0 := .int .i64 pa) (u1 := .int .i64 pb) (u2 := .int .i64 pc) (u3 := .int .i64 pd) HOM.out (by have := HD1.out.size; have := HWB.out; have : wb.drew.heap.size = wb.heap.size := rfl; omega)); have HBLZ : Hid (Below w.heap.size wy wz) := Lib.hid (by rw [← hwz]; exact below_put4 (Below.refl _ _) (Nat.le_refl _)); obtain ⟨e0, e1, e2, e3⟩ := HB3Z.out.cells; obtain ⟨j0, j1, j2, j3⟩ := HB3Z.out.frozen; obtain ⟨ww, hww⟩ : ∃ ww, ((((wz.setCell ⟨w.heap.size + 1, 0, none⟩ (.int .i64 qa)).setCell ⟨w.heap.size + 1, 1, none⟩ (.int .i64 qb)).setCell ⟨w.heap.size + 1, 2, none⟩ (.int .i64 qc)).setCell ⟨w.heap.size + 1, 3, none⟩ (.int .i64 qd)) = ww := ⟨_, rfl⟩; have HB2W : Hid (Box4 ww _ 25 _ _ _ _) := Lib.hid (by rw [← hww]; exact box4_far4 (u0 := .int .i64 qa) (u1 := .int .i64 qb) (u2 := .int .i64 qc) (u3 := .int .i64 qd) HB2Z.out (Nat.ne_of_lt (Nat.lt_succ_self _))); have HB3W : Hid (Box4 ww _ 25 _ _ _ _) := Lib.hid (by rw [← hww]; exact box4_put4 (u0 := .int .i64 qa) (u1 := .int .i64 qb) (u2 := .int .i64 qc) (u3 := .int .i64 qd) HB3Z.out); have HB7W : Hid (Box4 ww _ 25 _ _ _ _) := Lib.hid (by rw [← hww]; exact box4_far4 (u0 := .int .i64 qa) (u1 := .int .i64 qb) (u2 := .int .i64 qc) (u3 := .int .i64 qd) HB7Z.out HNE.out.2.2.1); have HB8W : Hid (Box4 ww _ 25 _ _ _ _) := Lib.hid (by rw [← hww]; exact box4_far4 (u0 := .int .i64 qa) (u1 := .int .i64 qb) (u2 := .int .i64 qc) (u3 := .int .i64 qd) HB8Z.out HNE.out.2.2.2.2.2); have HOWW : Hid (ww.ownsRow _ 72 3 _ _ _) := Lib.hid (by rw [← hww]; exact own_put4 (b := w.heap.size + 1) (u0 := .int .i64 qa) (u1 := .int .i64 qb) (u2 := .int .i64 qc) (u3 := .int .i64 qd) HOWZ.out (by have := HWB.out; have : wb.drew.heap.size = wb.heap.size := rfl; omega)); have HOMW : Hid (ww.ownsRow _ 3 1 _ _ _) := Lib.hid (by rw [← hww]; exact own_put4 (b := w.heap.size + 1) (u0 := .int .i64 qa) (u1 := .int .i64 qb) (u2 := .int .i64 qc) (u3 := .int .i64 qd) HOMZ.out (by have := HD1.out.size; have := HWB.out; have : wb.drew.heap.size = wb.heap.size := rfl; omega)); have HBLW : Hid (Below w.heap.size wy ww) := Lib.hid (by rw [← hww]; exact below_put4 HBLZ.out (Nat.le_succ _))) | fail)
    have HDZ := Lib.hid (Drew.allB (B := w.heap.size) ((HD.out.drewN 1).trans (HD1.out.trans HD2.out)) (by omega) (by have := HE1.out; omega))
    have hzx := HD1.out.size
    have hzb : wb.drew.heap.size = wb.heap.size := rfl
    have hzw := HWB.out
    obtain ⟨r0, r1, r2, r3⟩ := HB2W.out.cells
    obtain ⟨s0, s1, s2, s3⟩ := HB3W.out.cells
    clear c0 c1 c2 c3 f0 f1 f2 f3 e0 e1 e2 e3 j0 j1 j2 j3 x0 x1 x2 x3 y0 y1 y2 y3 hwz hww
    go_wp2
    try simp only [Exit.inBlock, Exit.then]
    refine bodyPost_ret (v := .tuple #[.agg #[.int .i64 pa, .int .i64 pb, .int .i64 pc, .int .i64 pd], .agg #[.int .i64 qa, .int .i64 qb, .int .i64 qc, .int .i64 qd], .slice B out.length m, .slice E ms.length q]) (by simp [results, Try.results47, go_sem, r0, r1, r2, r3, s0, s1, s2, s3]) rfl ?_
    exact ⟨pa, pb, pc, pd, qa, qb, qc, qd, B, m, out, E, q, ms, rfl, hlo, hlm, own_mono HOWW.out (by omega), own_mono HOMW.out (by omega), (HB0.out.trans HDZ.out).trans HBLW.out⟩

end Go.Proofs.Ytiofgoppgdgbaaa
