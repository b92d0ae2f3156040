/- The spec's drawings of pays, of operators and of messages. No conditions. -/
import Derived.Test.YtiofgoppgdgbaaaDoorDrL
import Derived.Test.YtiofgoppgdgbaaaDoorOwnP
namespace Go.Proofs.YtiofgoppgdgbaaaDoor
set_option linter.unusedSimpArgs false
set_option linter.unusedVariables false
open Go.RowKit

section
variable {w w' : World} {b g : Nat} {t : TypeId} {v0 v1 v2 v3 u : Value}
theorem box4_drew (h : Box4 w b t v0 v1 v2 v3) (hd : Drew g w w') (hne : b ≠ g) : Box4 w' b t v0 v1 v2 v3 := (hd.block b h.lt (by omega)).trans h
theorem box4_bel (h : Box4 w b t v0 v1 v2 v3) (hb : Below w.heap.size w w') : Box4 w' b t v0 v1 v2 v3 := h.below hb h.lt
theorem box4_put0 (h : Box4 w b t v0 v1 v2 v3) : Box4 (w.setCell ⟨b, 0, none⟩ u) b t u v1 v2 v3 := by unfold Box4 at h ⊢; simp [World.setCell, Array.getElem?_modify, h]
theorem box4_put1 (h : Box4 w b t v0 v1 v2 v3) : Box4 (w.setCell ⟨b, 1, none⟩ u) b t v0 u v2 v3 := by unfold Box4 at h ⊢; simp [World.setCell, Array.getElem?_modify, h]
theorem box4_put2 (h : Box4 w b t v0 v1 v2 v3) : Box4 (w.setCell ⟨b, 2, none⟩ u) b t v0 v1 u v3 := by unfold Box4 at h ⊢; simp [World.setCell, Array.getElem?_modify, h]
theorem box4_put3 (h : Box4 w b t v0 v1 v2 v3) : Box4 (w.setCell ⟨b, 3, none⟩ u) b t v0 v1 v2 u := by unfold Box4 at h ⊢; simp [World.setCell, Array.getElem?_modify, h]
theorem box4_far {b' i : Nat} (h : Box4 w b t v0 v1 v2 v3) (hne : b ≠ b') : Box4 (w.setCell ⟨b', i, none⟩ u) b t v0 v1 v2 v3 := (Below.heap_setCell w ⟨b', i, none⟩ u b hne).trans h
end

theorem operator_any (g k : Nat) (w : World) (hk : k ≤ 10000000000) (h : Cur w g k) :
    Calls Tryd.prog 43 #[.pointer (some ⟨g, 0, none⟩)] w fun e w' => ∃ x : Int, e = .returned (.int .i64 x) ∧ (-1 ≤ x ∧ x ≤ 100001) ∧ Cur w' g (k + 10) ∧ Drew g w w' := by
  have HC := Lib.hid h
  have HD : Hid (Drew g w w) := Lib.hid Turned.refl
  have HGW : Hid (g < w.heap.size) := Lib.hid h.lt
  clear h
  go_enter Tryd.func43, Tryd.ntmps43
  go_wp2_with fail
  refine (amongLit_any g _ [0, 31] 3 _ _ _ rfl rfl (by omega) (by simp) (by simp) HC.out).mono ?_
  rintro e w1 ⟨x, hx, rfl, hc, hd⟩
  have hxb : 0 ≤ x ∧ x ≤ 31 := by simp at hx; omega
  have HC := Lib.hid hc; have HD1 := Lib.hid hd; have HD := Lib.hid (HD.out.trans hd)
  clear hc hd hx
  go_wp2_with fail
  refine (amongLit_any g _ [1, 2, 3, 4, 5, 30, x] 3 _ _ _ rfl rfl (by omega) (by simp) (by simp) HC.out).mono ?_
  rintro e w2 ⟨y, hy, rfl, hc, hd⟩
  have hyb : 0 ≤ y ∧ y ≤ 31 := by simp at hy; omega
  have HC := Lib.hid hc; have HD1 := Lib.hid hd; have HD := Lib.hid (HD.out.trans hd)
  clear hc hd hy
  go_wp2
  go_ret
  exact ⟨y, rfl, by omega, HC.out.mono (by omega), HD.out⟩
theorem messagesOf_any (g k : Nat) (w : World) (hk : k ≤ 10000000000) (h : Cur w g k) :
    Calls Tryd.prog 44 #[.pointer (some ⟨g, 0, none⟩)] w fun e w' => ∃ x : Int, e = .returned (.int .i64 x) ∧ (-1 ≤ x ∧ x ≤ 100001) ∧ Cur w' g (k + 10) ∧ Drew g w w' := by
  have HC := Lib.hid h
  have HD : Hid (Drew g w w) := Lib.hid Turned.refl
  have HGW : Hid (g < w.heap.size) := Lib.hid h.lt
  clear h
  go_enter Tryd.func44, Tryd.ntmps44
  go_wp2_with fail
  refine (pick_any g _ (200) _ (by omega) (by omega) HC.out).mono ?_
  rintro e w0 ⟨z, rfl, hz, hz', hc, hd⟩
  have HC := Lib.hid hc; have HD1 := Lib.hid hd; have HD := Lib.hid (HD.out.trans hd)
  clear hc hd
  go_wp2_with fail
  refine (amongLit_any g _ [1000, 1001, -1] 3 _ _ _ rfl rfl (by omega) (by simp) (by simp) HC.out).mono ?_
  rintro e w1 ⟨x, hx, rfl, hc, hd⟩
  have hxb : -1 ≤ x ∧ x ≤ 1001 := by simp at hx; omega
  have HC := Lib.hid hc; have HD1 := Lib.hid hd; have HD := Lib.hid (HD.out.trans hd)
  clear hc hd hx
  go_wp2_with fail
  refine (amongLit_any g _ [0, 10, 55, (z : Int), x] 3 _ _ _ rfl rfl (by omega) (by simp) (by simp) HC.out).mono ?_
  rintro e w2 ⟨y, hy, rfl, hc, hd⟩
  have hyb : -1 ≤ y ∧ y ≤ 1001 := by simp at hy; omega
  have HC := Lib.hid hc; have HD1 := Lib.hid hd; have HD := Lib.hid (HD.out.trans hd)
  clear hc hd hy
  go_wp2
  go_ret
  exact ⟨y, rfl, by omega, HC.out.mono (by omega), HD.out⟩

set_option maxHeartbeats 4000000 in
set_option maxRecDepth 100000 in
theorem pay_any (g k : Nat) (w : World) (hk : k ≤ 10000000000) (h : Cur w g k) :
    Calls Tryd.prog 41 #[.pointer (some ⟨g, 0, none⟩)] w fun e w' => ∃ a b c d : Int, e = .returned (.agg #[.int .i64 a, .int .i64 b, .int .i64 c, .int .i64 d]) ∧ (-1 ≤ a ∧ a ≤ 100001) ∧ (-1 ≤ b ∧ b ≤ 100001) ∧ (-1 ≤ c ∧ c ≤ 100001) ∧ (-1 ≤ d ∧ d ≤ 100001) ∧ Cur w' g (k + 20) ∧ Drew g w w' := by
  have HGW : Hid (g < w.heap.size) := Lib.hid h.lt
  have HZ : Hid (Below w.heap.size w (w.alloc (.cells #[.int .i64 0, .int .i64 0, .int .i64 0, .int .i64 0] 29))) := Lib.hid ((Below.refl _ _).alloc (Nat.le_refl _) _)
  have HC := Lib.hid (h.below HZ.out)
  have HD : Hid (Drew g w (w.alloc (.cells #[.int .i64 0, .int .i64 0, .int .i64 0, .int .i64 0] 29))) := Lib.hid (Drew.of_below HZ.out)
  have HB2 := Lib.hid (Box4.new w 29 (.int .i64 0) (.int .i64 0) (.int .i64 0) (.int .i64 0))
  clear h
  go_enter Tryd.func41, Tryd.ntmps41
  go_wp2_with fail
  refine (pick_any g _ (300) _ (by omega) (by omega) HC.out).mono ?_
  rintro e w1 ⟨y, rfl, hy, hy', hc, hd⟩
  have HC := Lib.hid hc; have HD1 := Lib.hid hd; have HD := Lib.hid (HD.out.trans hd)
  clear hc hd
  have HB2 := Lib.hid (box4_drew HB2.out HD1.out (by have := HGW.out; omega))
  go_wp2_with fail
  refine (amongLit_any g _ [0, 100, 150, 1000, (y : Int)] 3 _ _ _ rfl rfl (by omega) (by simp) (by simp) HC.out).mono ?_
  rintro e w2 ⟨pa, hpa, rfl, hc, hd⟩
  have hpab : 0 ≤ pa ∧ pa ≤ 65535 := by simp at hpa; omega
  have HC := Lib.hid hc; have HD1 := Lib.hid hd; have HD := Lib.hid (HD.out.trans hd)
  clear hc hd hpa
  have HB2 := Lib.hid (box4_drew HB2.out HD1.out (by have := HGW.out; omega))
  go_wp2_with fail
  refine (amongLit_any g _ [0, 25, 50, 100] 3 _ _ _ rfl rfl (by omega) (by simp) (by simp) HC.out).mono ?_
  rintro e w3 ⟨pb, hpb, rfl, hc, hd⟩
  have hpbb : 0 ≤ pb ∧ pb ≤ 100 := by simp at hpb; omega
  have HC := Lib.hid hc; have HD1 := Lib.hid hd; have HD := Lib.hid (HD.out.trans hd)
  clear hc hd hpb
  have HB2 := Lib.hid (box4_drew HB2.out HD1.out (by have := HGW.out; omega))
  go_wp2_with fail
  refine (amongLit_any g _ [0, 2, 100] 3 _ _ _ rfl rfl (by omega) (by simp) (by simp) HC.out).mono ?_
  rintro e w4 ⟨pc, hpc, rfl, hc, hd⟩
  have hpcb : 0 ≤ pc ∧ pc ≤ 100 := by simp at hpc; omega
  have HC := Lib.hid hc; have HD1 := Lib.hid hd; have HD := Lib.hid (HD.out.trans hd)
  clear hc hd hpc
  have HB2 := Lib.hid (box4_drew HB2.out HD1.out (by have := HGW.out; omega))
  go_wp2_with fail
  refine (amongLit_any g _ [0, 0, 500, 100000] 3 _ _ _ rfl rfl (by omega) (by simp) (by simp) HC.out).mono ?_
  rintro e w5 ⟨pd, hpd, rfl, hc, hd⟩
  have hpdb : 0 ≤ pd ∧ pd ≤ 100000 := by simp at hpd; omega
  have HC := Lib.hid hc; have HD1 := Lib.hid hd; have HD := Lib.hid (HD.out.trans hd)
  clear hc hd hpd
  have HB2 := Lib.hid (box4_drew HB2.out HD1.out (by have := HGW.out; omega))
  have hsz5 : w.heap.size < w5.heap.size := HB2.out.lt
  have HW3 : Hid (Below w5.heap.size w5 (w5.alloc (.cells #[.int .i64 pa, .int .i64 pb, .int .i64 pc, .int .i64 pd] 29))) := Lib.hid ((Below.refl _ _).alloc (Nat.le_refl _) _)
  have HB3 := Lib.hid (Box4.new w5 29 (.int .i64 pa) (.int .i64 pb) (.int .i64 pc) (.int .i64 pd))
  have HG2 : Hid (g < w5.heap.size) := Lib.hid HC.out.lt
  have HB2 := Lib.hid (box4_bel HB2.out HW3.out)
  have HC := Lib.hid (HC.out.below HW3.out)
  have HD := Lib.hid (HD.out.trans (Drew.of_below HW3.out))
  have HNB : Hid (w.heap.size ≠ w5.heap.size ∧ w.heap.size ≠ g ∧ w5.heap.size ≠ g ∧ w.heap.size ≤ w5.heap.size ∧ g < w5.heap.size) := Lib.hid (by have h2 := HGW.out; have h3 := HG2.out; omega)
  have hn1 : w.heap.size ≠ w5.heap.size := by omega
  have hn2 : w5.heap.size ≠ w.heap.size := Ne.symm hn1
  obtain ⟨c0, c1, c2, c3⟩ := HB3.out.cells
  obtain ⟨f0, f1, f2, f3⟩ := HB3.out.frozen
  obtain ⟨z0, z1, z2, z3⟩ := HB2.out.cells
  obtain ⟨y0, y1, y2, y3⟩ := HB2.out.frozen
  go_wp2_with fail
  refine (pick_any g _ 30 _ (by omega) (by omega) HC.out).mono ?_
  rintro e w7 ⟨s, rfl, _, _, hc, hd⟩
  clear c0 c1 c2 c3 f0 f1 f2 f3 z0 z1 z2 z3 y0 y1 y2 y3
  have HB2 := Lib.hid (box4_drew HB2.out hd HNB.out.2.1); have HB3 := Lib.hid (box4_drew HB3.out hd HNB.out.2.2.1); have HC := Lib.hid hc; have HD := Lib.hid (HD.out.trans hd)
  clear hc hd
  obtain ⟨c0, c1, c2, c3⟩ := HB3.out.cells
  obtain ⟨f0, f1, f2, f3⟩ := HB3.out.frozen
  obtain ⟨z0, z1, z2, z3⟩ := HB2.out.cells
  obtain ⟨y0, y1, y2, y3⟩ := HB2.out.frozen
  by_cases h0 : s = 0
  · subst h0
    go_wp2_with fail
    refine (amongLit_any g _ [-1, 1001] 3 _ _ _ rfl rfl (by omega) (by simp) (by simp) HC.out).mono ?_
    rintro e w8 ⟨z, hz, rfl, hc, hd⟩
    have hzb : -1 ≤ z ∧ z ≤ 100001 := by simp at hz; omega
    clear c0 c1 c2 c3 f0 f1 f2 f3 z0 z1 z2 z3 y0 y1 y2 y3
    have HB2 := Lib.hid (box4_drew HB2.out hd HNB.out.2.1); have HB3 := Lib.hid (box4_drew HB3.out hd HNB.out.2.2.1); have HC := Lib.hid hc; have HD := Lib.hid (HD.out.trans hd)
    clear hc hd
    obtain ⟨c0, c1, c2, c3⟩ := HB3.out.cells
    obtain ⟨f0, f1, f2, f3⟩ := HB3.out.frozen
    obtain ⟨z0, z1, z2, z3⟩ := HB2.out.cells
    obtain ⟨y0, y1, y2, y3⟩ := HB2.out.frozen
    have HB2 := Lib.hid (box4_far (b' := w5.heap.size) (i := 0) (u := .int .i64 z) HB2.out HNB.out.1)
    have HB3 := Lib.hid (box4_put0 (u := .int .i64 z) HB3.out)
    have HC := Lib.hid (HC.out.below' ((Below.refl w5.heap.size w8).setCell (p := ⟨w5.heap.size, 0, none⟩) (Nat.le_refl _) (.int .i64 z)) HNB.out.2.2.2.2)
    have HD := Lib.hid (Drew.then_below HD.out ((Below.refl w.heap.size w8).setCell (p := ⟨w5.heap.size, 0, none⟩) HNB.out.2.2.2.1 (.int .i64 z)))
    go_wp2
    obtain ⟨r0, r1, r2, r3⟩ := (box4_put3 (u := .int .i64 pd) (box4_put2 (u := .int .i64 pc) (box4_put1 (u := .int .i64 pb) (box4_put0 (u := .int .i64 z) HB2.out)))).cells
    try simp only [Exit.inBlock, Exit.then]
    refine bodyPost_ret (v := .agg #[.int .i64 z, .int .i64 pb, .int .i64 pc, .int .i64 pd]) (by simp [results, Tryd.results41, go_sem, r0, r1, r2, r3]) rfl ?_
    exact ⟨z, pb, pc, pd, rfl, by omega, by omega, by omega, by omega, (HC.out.below' (((((Below.refl w.heap.size _).setCell (p := ⟨w.heap.size, 0, none⟩) (Nat.le_refl _) _).setCell (p := ⟨w.heap.size, 1, none⟩) (Nat.le_refl _) _).setCell (p := ⟨w.heap.size, 2, none⟩) (Nat.le_refl _) _).setCell (p := ⟨w.heap.size, 3, none⟩) (Nat.le_refl _) _) HGW.out).mono (by omega), Drew.then_below HD.out (((((Below.refl w.heap.size _).setCell (p := ⟨w.heap.size, 0, none⟩) (Nat.le_refl _) _).setCell (p := ⟨w.heap.size, 1, none⟩) (Nat.le_refl _) _).setCell (p := ⟨w.heap.size, 2, none⟩) (Nat.le_refl _) _).setCell (p := ⟨w.heap.size, 3, none⟩) (Nat.le_refl _) _)⟩
  by_cases h1 : s = 1
  · subst h1
    go_wp2_with fail
    refine (amongLit_any g _ [-1, 101] 3 _ _ _ rfl rfl (by omega) (by simp) (by simp) HC.out).mono ?_
    rintro e w8 ⟨z, hz, rfl, hc, hd⟩
    have hzb : -1 ≤ z ∧ z ≤ 100001 := by simp at hz; omega
    clear c0 c1 c2 c3 f0 f1 f2 f3 z0 z1 z2 z3 y0 y1 y2 y3
    have HB2 := Lib.hid (box4_drew HB2.out hd HNB.out.2.1); have HB3 := Lib.hid (box4_drew HB3.out hd HNB.out.2.2.1); have HC := Lib.hid hc; have HD := Lib.hid (HD.out.trans hd)
    clear hc hd
    obtain ⟨c0, c1, c2, c3⟩ := HB3.out.cells
    obtain ⟨f0, f1, f2, f3⟩ := HB3.out.frozen
    obtain ⟨z0, z1, z2, z3⟩ := HB2.out.cells
    obtain ⟨y0, y1, y2, y3⟩ := HB2.out.frozen
    have HB2 := Lib.hid (box4_far (b' := w5.heap.size) (i := 1) (u := .int .i64 z) HB2.out HNB.out.1)
    have HB3 := Lib.hid (box4_put1 (u := .int .i64 z) HB3.out)
    have HC := Lib.hid (HC.out.below' ((Below.refl w5.heap.size w8).setCell (p := ⟨w5.heap.size, 1, none⟩) (Nat.le_refl _) (.int .i64 z)) HNB.out.2.2.2.2)
    have HD := Lib.hid (Drew.then_below HD.out ((Below.refl w.heap.size w8).setCell (p := ⟨w5.heap.size, 1, none⟩) HNB.out.2.2.2.1 (.int .i64 z)))
    go_wp2
    obtain ⟨r0, r1, r2, r3⟩ := (box4_put3 (u := .int .i64 pd) (box4_put2 (u := .int .i64 pc) (box4_put1 (u := .int .i64 z) (box4_put0 (u := .int .i64 pa) HB2.out)))).cells
    try simp only [Exit.inBlock, Exit.then]
    refine bodyPost_ret (v := .agg #[.int .i64 pa, .int .i64 z, .int .i64 pc, .int .i64 pd]) (by simp [results, Tryd.results41, go_sem, r0, r1, r2, r3]) rfl ?_
    exact ⟨pa, z, pc, pd, rfl, by omega, by omega, by omega, by omega, (HC.out.below' (((((Below.refl w.heap.size _).setCell (p := ⟨w.heap.size, 0, none⟩) (Nat.le_refl _) _).setCell (p := ⟨w.heap.size, 1, none⟩) (Nat.le_refl _) _).setCell (p := ⟨w.heap.size, 2, none⟩) (Nat.le_refl _) _).setCell (p := ⟨w.heap.size, 3, none⟩) (Nat.le_refl _) _) HGW.out).mono (by omega), Drew.then_below HD.out (((((Below.refl w.heap.size _).setCell (p := ⟨w.heap.size, 0, none⟩) (Nat.le_refl _) _).setCell (p := ⟨w.heap.size, 1, none⟩) (Nat.le_refl _) _).setCell (p := ⟨w.heap.size, 2, none⟩) (Nat.le_refl _) _).setCell (p := ⟨w.heap.size, 3, none⟩) (Nat.le_refl _) _)⟩
  by_cases h2 : s = 2
  · subst h2
    go_wp2_with fail
    refine (amongLit_any g _ [-1, 101] 3 _ _ _ rfl rfl (by omega) (by simp) (by simp) HC.out).mono ?_
    rintro e w8 ⟨z, hz, rfl, hc, hd⟩
    have hzb : -1 ≤ z ∧ z ≤ 100001 := by simp at hz; omega
    clear c0 c1 c2 c3 f0 f1 f2 f3 z0 z1 z2 z3 y0 y1 y2 y3
    have HB2 := Lib.hid (box4_drew HB2.out hd HNB.out.2.1); have HB3 := Lib.hid (box4_drew HB3.out hd HNB.out.2.2.1); have HC := Lib.hid hc; have HD := Lib.hid (HD.out.trans hd)
    clear hc hd
    obtain ⟨c0, c1, c2, c3⟩ := HB3.out.cells
    obtain ⟨f0, f1, f2, f3⟩ := HB3.out.frozen
    obtain ⟨z0, z1, z2, z3⟩ := HB2.out.cells
    obtain ⟨y0, y1, y2, y3⟩ := HB2.out.frozen
    have HB2 := Lib.hid (box4_far (b' := w5.heap.size) (i := 2) (u := .int .i64 z) HB2.out HNB.out.1)
    have HB3 := Lib.hid (box4_put2 (u := .int .i64 z) HB3.out)
    have HC := Lib.hid (HC.out.below' ((Below.refl w5.heap.size w8).setCell (p := ⟨w5.heap.size, 2, none⟩) (Nat.le_refl _) (.int .i64 z)) HNB.out.2.2.2.2)
    have HD := Lib.hid (Drew.then_below HD.out ((Below.refl w.heap.size w8).setCell (p := ⟨w5.heap.size, 2, none⟩) HNB.out.2.2.2.1 (.int .i64 z)))
    go_wp2
    obtain ⟨r0, r1, r2, r3⟩ := (box4_put3 (u := .int .i64 pd) (box4_put2 (u := .int .i64 z) (box4_put1 (u := .int .i64 pb) (box4_put0 (u := .int .i64 pa) HB2.out)))).cells
    try simp only [Exit.inBlock, Exit.then]
    refine bodyPost_ret (v := .agg #[.int .i64 pa, .int .i64 pb, .int .i64 z, .int .i64 pd]) (by simp [results, Tryd.results41, go_sem, r0, r1, r2, r3]) rfl ?_
    exact ⟨pa, pb, z, pd, rfl, by omega, by omega, by omega, by omega, (HC.out.below' (((((Below.refl w.heap.size _).setCell (p := ⟨w.heap.size, 0, none⟩) (Nat.le_refl _) _).setCell (p := ⟨w.heap.size, 1, none⟩) (Nat.le_refl _) _).setCell (p := ⟨w.heap.size, 2, none⟩) (Nat.le_refl _) _).setCell (p := ⟨w.heap.size, 3, none⟩) (Nat.le_refl _) _) HGW.out).mono (by omega), Drew.then_below HD.out (((((Below.refl w.heap.size _).setCell (p := ⟨w.heap.size, 0, none⟩) (Nat.le_refl _) _).setCell (p := ⟨w.heap.size, 1, none⟩) (Nat.le_refl _) _).setCell (p := ⟨w.heap.size, 2, none⟩) (Nat.le_refl _) _).setCell (p := ⟨w.heap.size, 3, none⟩) (Nat.le_refl _) _)⟩
  by_cases h3 : s = 3
  · subst h3
    go_wp2_with fail
    refine (amongLit_any g _ [-1, 100001] 3 _ _ _ rfl rfl (by omega) (by simp) (by simp) HC.out).mono ?_
    rintro e w8 ⟨z, hz, rfl, hc, hd⟩
    have hzb : -1 ≤ z ∧ z ≤ 100001 := by simp at hz; omega
    clear c0 c1 c2 c3 f0 f1 f2 f3 z0 z1 z2 z3 y0 y1 y2 y3
    have HB2 := Lib.hid (box4_drew HB2.out hd HNB.out.2.1); have HB3 := Lib.hid (box4_drew HB3.out hd HNB.out.2.2.1); have HC := Lib.hid hc; have HD := Lib.hid (HD.out.trans hd)
    clear hc hd
    obtain ⟨c0, c1, c2, c3⟩ := HB3.out.cells
    obtain ⟨f0, f1, f2, f3⟩ := HB3.out.frozen
    obtain ⟨z0, z1, z2, z3⟩ := HB2.out.cells
    obtain ⟨y0, y1, y2, y3⟩ := HB2.out.frozen
    have HB2 := Lib.hid (box4_far (b' := w5.heap.size) (i := 3) (u := .int .i64 z) HB2.out HNB.out.1)
    have HB3 := Lib.hid (box4_put3 (u := .int .i64 z) HB3.out)
    have HC := Lib.hid (HC.out.below' ((Below.refl w5.heap.size w8).setCell (p := ⟨w5.heap.size, 3, none⟩) (Nat.le_refl _) (.int .i64 z)) HNB.out.2.2.2.2)
    have HD := Lib.hid (Drew.then_below HD.out ((Below.refl w.heap.size w8).setCell (p := ⟨w5.heap.size, 3, none⟩) HNB.out.2.2.2.1 (.int .i64 z)))
    go_wp2
    obtain ⟨r0, r1, r2, r3⟩ := (box4_put3 (u := .int .i64 z) (box4_put2 (u := .int .i64 pc) (box4_put1 (u := .int .i64 pb) (box4_put0 (u := .int .i64 pa) HB2.out)))).cells
    try simp only [Exit.inBlock, Exit.then]
    refine bodyPost_ret (v := .agg #[.int .i64 pa, .int .i64 pb, .int .i64 pc, .int .i64 z]) (by simp [results, Tryd.results41, go_sem, r0, r1, r2, r3]) rfl ?_
    exact ⟨pa, pb, pc, z, rfl, by omega, by omega, by omega, by omega, (HC.out.below' (((((Below.refl w.heap.size _).setCell (p := ⟨w.heap.size, 0, none⟩) (Nat.le_refl _) _).setCell (p := ⟨w.heap.size, 1, none⟩) (Nat.le_refl _) _).setCell (p := ⟨w.heap.size, 2, none⟩) (Nat.le_refl _) _).setCell (p := ⟨w.heap.size, 3, none⟩) (Nat.le_refl _) _) HGW.out).mono (by omega), Drew.then_below HD.out (((((Below.refl w.heap.size _).setCell (p := ⟨w.heap.size, 0, none⟩) (Nat.le_refl _) _).setCell (p := ⟨w.heap.size, 1, none⟩) (Nat.le_refl _) _).setCell (p := ⟨w.heap.size, 2, none⟩) (Nat.le_refl _) _).setCell (p := ⟨w.heap.size, 3, none⟩) (Nat.le_refl _) _)⟩
  have e0 : ((s : Int) == 0) = false := by rw [beq_eq_false_iff_ne]; omega
  have e1 : ((s : Int) == 1) = false := by rw [beq_eq_false_iff_ne]; omega
  have e2 : ((s : Int) == 2) = false := by rw [beq_eq_false_iff_ne]; omega
  have e3 : ((s : Int) == 3) = false := by rw [beq_eq_false_iff_ne]; omega
  go_wp2
  obtain ⟨r0, r1, r2, r3⟩ := (box4_put3 (u := .int .i64 pd) (box4_put2 (u := .int .i64 pc) (box4_put1 (u := .int .i64 pb) (box4_put0 (u := .int .i64 pa) HB2.out)))).cells
  try simp only [Exit.inBlock, Exit.then]
  refine bodyPost_ret (v := .agg #[.int .i64 pa, .int .i64 pb, .int .i64 pc, .int .i64 pd]) (by simp [results, Tryd.results41, go_sem, r0, r1, r2, r3]) rfl ?_
  exact ⟨pa, pb, pc, pd, rfl, by omega, by omega, by omega, by omega, (HC.out.below' (((((Below.refl w.heap.size w7).setCell (p := ⟨w.heap.size, 0, none⟩) (Nat.le_refl _) _).setCell (p := ⟨w.heap.size, 1, none⟩) (Nat.le_refl _) _).setCell (p := ⟨w.heap.size, 2, none⟩) (Nat.le_refl _) _).setCell (p := ⟨w.heap.size, 3, none⟩) (Nat.le_refl _) _) HGW.out).mono (by omega), Drew.then_below HD.out (((((Below.refl w.heap.size w7).setCell (p := ⟨w.heap.size, 0, none⟩) (Nat.le_refl _) _).setCell (p := ⟨w.heap.size, 1, none⟩) (Nat.le_refl _) _).setCell (p := ⟨w.heap.size, 2, none⟩) (Nat.le_refl _) _).setCell (p := ⟨w.heap.size, 3, none⟩) (Nat.le_refl _) _)⟩

set_option maxHeartbeats 2000000 in
set_option maxRecDepth 100000 in
theorem messagesAll_any (g k : Nat) (w : World) (hk : k ≤ 10000000000) (h : Cur w g k) :
    Calls Tryd.prog 56 #[.pointer (some ⟨g, 0, none⟩)] w fun e w' => ∃ A c l, e = .returned (.slice A (List.length l) c) ∧ l.length ≤ 31 ∧ smallL (-1) 1001 l ∧ w'.ownsRow w.heap.size 3 1 (.slice A l.length c) l.length (ints l) ∧ Cur w' g (k + 200) ∧ Drew g w w' := by
  have HC := Lib.hid h
  have HD : Hid (Drew g w w) := Lib.hid Turned.refl
  have HGW : Hid (g < w.heap.size) := Lib.hid h.lt
  clear h
  go_enter Tryd.func56, Tryd.ntmps56
  go_wp2_with fail
  refine (pick_any g _ (30) _ (by omega) (by omega) HC.out).mono ?_
  rintro e w1 ⟨y1, rfl, hy1, hy1', hc, hd⟩
  have HC := Lib.hid hc; have HD1 := Lib.hid hd; have HD := Lib.hid (HD.out.trans hd)
  clear hc hd
  go_wp2_with fail
  refine (pick_any g _ (30) _ (by omega) (by omega) HC.out).mono ?_
  rintro e w2 ⟨y2, rfl, hy2, hy2', hc, hd⟩
  have HC := Lib.hid hc; have HD1 := Lib.hid hd; have HD := Lib.hid (HD.out.trans hd)
  clear hc hd
  obtain ⟨N, hN, hN1, hN2⟩ : ∃ N : Nat, 30 + (y1 : Int) / 29 - (y2 : Int) / 29 = (N : Int) ∧ N ≤ 31 ∧ 29 ≤ N := ⟨(30 + (y1 : Int) / 29 - (y2 : Int) / 29).toNat, by omega, by omega, by omega⟩
  go_wp2
  clear hN
  have HC := Lib.hid (HC.out.mono (k' := k + 6) (by omega))
  have HST : Hid (Drew g w _ ∧ Cur _ g (k + 6)) := Lib.hid ⟨HD.out, HC.out⟩
  clear HD1 HD HC
  go_loopw [3] (fun o wr => ∃ A q c l, o = .slice A q c ∧ List.length l = q ∧ q ≤ N ∧ smallL (-1) 1001 l ∧ wr.ownsRow w.heap.size 3 1 (.slice A q c) q (ints l) ∧ Cur wr g (k + 6 + 4 * q) ∧ Drew g w wr) (fun o _ => N - lenV o)
  case atStart => exact ⟨none, 0, 0, [], rfl, rfl, Nat.zero_le _, fun y hy => (by cases hy), own_start, HST.out.2, HST.out.1⟩
  case round =>
    obtain ⟨A, q, c, l, rfl, hlq, hq, hsm, hown, hc, hd⟩ := hrel
    clear HST
    have HLQ := Lib.hid hlq; have HSM := Lib.hid hsm; have HO := Lib.hid hown; have HC := Lib.hid hc; have HD := Lib.hid hd
    clear hlq hsm hown hc hd
    by_cases hlt : q < N
    · go_wp2_with fail
      refine (pick_any g _ (60) _ (by omega) (by omega) HC.out).mono ?_
      rintro e w3 ⟨x, rfl, hx, hx', hc, hd⟩
      have HC := Lib.hid hc; have HD1 := Lib.hid hd; have HD := Lib.hid (HD.out.trans hd)
      clear hc hd
      have HO := Lib.hid (Drew.own HD1.out HO.out HGW.out)
      go_wp2_with fail
      refine (amongLit_any g _ [0, 0, 10, (x : Int)] 3 _ _ _ rfl rfl (by omega) (by simp) (by simp) HC.out).mono ?_
      rintro e w4 ⟨y, hy, rfl, hc, hd⟩
      have hyb : -1 ≤ y ∧ y ≤ 1001 := by simp at hy; omega
      have HC := Lib.hid hc; have HD1 := Lib.hid hd; have HD := Lib.hid (HD.out.trans hd)
      clear hc hd hy
      have HO := Lib.hid (Drew.own HD1.out HO.out HGW.out)
      have HZ : Hid (w.heap.size ≤ w4.heap.size) := Lib.hid HD.out.size
      go_wp2_with (at_builtin; refine wpList_push _ rfl (.tmp 17) (.tmp 23) 25 rfl w.heap.size 3 (.int .i64 0) 1 8 infoInt rfl (by omega) Tryd.underlying25 A q c (ints l) rfl (HO.out.alloc _) (some ⟨w4.heap.size, 0, none⟩) 1 1 [.int .i64 y] rfl (reads_new _ _ _) (by simp [Value.oneCell']) (by omega) (by omega) (by have := HZ.out; simp; omega) ?_; intro A' c' w5 hown5 hg5 hb5)
      have hb6 : Below w.heap.size w4 w5 := ((Below.refl _ _).alloc HZ.out _).trans hb5
      have HO5 := Lib.hid hown5; have HC5 := Lib.hid (HC.out.below' hb6 HGW.out); have HD5 := Lib.hid (Drew.then_below HD.out hb6)
      clear hown5 hg5 hb5 hb6
      go_roundw
      case rel => exact ⟨A', q + 1, c', l ++ [y], rfl, by simp [HLQ.out], by omega, HSM.out.snoc hyb, by rw [← ints_snoc]; exact HO5.out, HC5.out.mono (by omega), HD5.out⟩
      case measure => simp [lenV]; omega
    · obtain rfl : q = N := by omega
      have HC := Lib.hid (HC.out.mono (k' := k + 6 + 4 * 31) (by omega))
      go_wp2_with fail
      refine (one_any g _ (24) _ (by omega) (by omega) HC.out).mono ?_
      rintro e w3 ⟨b2, rfl, hc, hd⟩
      have HC := Lib.hid hc; have HD1 := Lib.hid hd; have HD := Lib.hid (HD.out.trans hd)
      clear hc hd
      have HO := Lib.hid (Drew.own HD1.out HO.out HGW.out)
      cases b2 with
      | false =>
        go_wp2
        go_ret
        have HCF := HC; have HOF := HO; have HDF := HD
        have e1 := HLQ.out
        subst e1
        exact ⟨A, c, l, rfl, by omega, HSM.out, HOF.out, HCF.out.mono (by omega), HDF.out⟩
      | true =>
        go_wp2_with fail
        refine (amongLit_any g _ [-1, 1000, 1001] 3 _ _ _ rfl rfl (by omega) (by simp) (by simp) HC.out).mono ?_
        rintro e w5 ⟨v, hv, rfl, hc, hd⟩
        have hvb : -1 ≤ v ∧ v ≤ 1001 := by simp at hv; omega
        have HC := Lib.hid hc; have HD1 := Lib.hid hd; have HD := Lib.hid (HD.out.trans hd)
        clear hc hd hv
        have HO := Lib.hid (Drew.own HD1.out HO.out HGW.out)
        obtain ⟨ga, rfl, hga⟩ := own_at0 HO.out (by omega)
        have hql : 0 < l.length := by have := HLQ.out; omega
        have k0 : w5.cell? ⟨ga, 0, none⟩ = some (.int .i64 l[0]) := by
          rw [HO.out.cellAt 0 (by omega)]
          simp [ints, hql]
        have f0 : w5.frozen? ⟨ga, 0, none⟩ = false := HO.out.frozenAt 0
        have HS := (HO.out.stored 0 (.int .i64 v)).1
        rw [ints_put] at HS
        have hbs : Below w.heap.size w5 (w5.setCell ⟨ga, 0, none⟩ (.int .i64 v)) := (Below.refl _ _).setCell (p := ⟨ga, 0, none⟩) hga _
        have HSS := Lib.hid HS; have HC6 := Lib.hid (HC.out.below' hbs HGW.out); have HD6 := Lib.hid (Drew.then_below HD.out hbs)
        clear HS hbs
        go_wp2
        go_ret
        have e1 := HLQ.out
        subst e1
        exact ⟨some ⟨ga, 0, none⟩, c, l.set 0 v, by simp, by simp; omega, HSM.out.set hvb 0, by simpa using HSS.out, HC6.out.mono (by omega), HD6.out⟩

end Go.Proofs.YtiofgoppgdgbaaaDoor
