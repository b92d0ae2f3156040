/- The spec's drawing of a gear. No conditions. -/
import Derived.Test.YtjibdabedagghaaDrL
import Derived.Test.YtjibdabedagghaaOwnP
namespace Go.Proofs.Ytjibdabedagghaa
set_option linter.unusedSimpArgs false
set_option linter.unusedVariables false
open Go.RowKit

section
variable {w w' : World} {b g : Nat} {t : TypeId} {v0 v1 v2 v3 u : Value}
theorem box4_drew (h : Box4 w b t v0 v1 v2 v3) (hd : Drew g w w') (hne : b ≠ g) : Box4 w' b t v0 v1 v2 v3 := (hd.block b h.lt (by omega)).trans h
theorem box4_bel (h : Box4 w b t v0 v1 v2 v3) (hb : Below w.heap.size w w') : Box4 w' b t v0 v1 v2 v3 := h.below hb h.lt
theorem box4_put0 (h : Box4 w b t v0 v1 v2 v3) : Box4 (w.setCell ⟨b, 0, none⟩ u) b t u v1 v2 v3 := by unfold Box4 at h ⊢; simp [World.setCell, Array.getElem?_modify, h]
theorem box4_put1 (h : Box4 w b t v0 v1 v2 v3) : Box4 (w.setCell ⟨b, 1, none⟩ u) b t v0 u v2 v3 := by unfold Box4 at h ⊢; simp [World.setCell, Array.getElem?_modify, h]
theorem box4_put2 (h : Box4 w b t v0 v1 v2 v3) : Box4 (w.setCell ⟨b, 2, none⟩ u) b t v0 v1 u v3 := by unfold Box4 at h ⊢; simp [World.setCell, Array.getElem?_modify, h]
theorem box4_put3 (h : Box4 w b t v0 v1 v2 v3) : Box4 (w.setCell ⟨b, 3, none⟩ u) b t v0 v1 v2 u := by unfold Box4 at h ⊢; simp [World.setCell, Array.getElem?_modify, h]
theorem box4_far {b' i : Nat} (h : Box4 w b t v0 v1 v2 v3) (hne : b ≠ b') : Box4 (w.setCell ⟨b', i, none⟩ u) b t v0 v1 v2 v3 := (Below.heap_setCell w ⟨b', i, none⟩ u b hne).trans h
end
theorem l1LeastG_any (a b : Int) (w : World) : Calls Try.prog 105 #[.int .i64 a, .int .i64 b] w fun e w' => e = .returned (.int .i64 (min a b)) ∧ w = w' := by
  by_cases h : a < b
  · go_enter Try.func105, Try.ntmps105
    go_wp2
    go_ret
    exact ⟨ret_int (by omega), rfl⟩
  · go_enter Try.func105, Try.ntmps105
    go_wp2
    go_ret
    exact ⟨ret_int (by omega), rfl⟩

set_option maxHeartbeats 4000000 in
set_option maxRecDepth 100000 in
theorem gear_any (g k : Nat) (w : World) (hk : k ≤ 10000000000) (h : Cur w g k) :
    Calls Try.prog 94 #[.pointer (some ⟨g, 0, none⟩)] w fun e w' => ∃ a b c d : Int, e = .returned (.agg #[.int .i64 a, .int .i64 b, .int .i64 c, .int .i64 d]) ∧ Cur w' g (k + 40) ∧ Drew g w w' := by
  have HGW : Hid (g < w.heap.size) := Lib.hid h.lt
  have HZ : Hid (Below w.heap.size w (w.alloc (.cells #[.int .i64 0, .int .i64 0, .int .i64 0, .int .i64 0] 26))) := Lib.hid ((Below.refl _ _).alloc (Nat.le_refl _) _)
  have HC := Lib.hid (h.below HZ.out)
  have HB2 := Lib.hid (Box4.new w 26 (.int .i64 0) (.int .i64 0) (.int .i64 0) (.int .i64 0))
  clear h
  go_enter Try.func94, Try.ntmps94
  go_wp2_with fail
  refine (amongLit_any g _ [1, 2, 5, 10, 10, 100] 3 _ _ _ (by simp) rfl (by omega) (by simp) (by simp) HC.out).mono ?_
  rintro e w1 ⟨r, hr, rfl, hc, hd⟩
  have hrb : 1 ≤ r ∧ r ≤ 100 := by simp at hr; omega
  have HB2 := Lib.hid (box4_drew HB2.out hd (by have := HGW.out; omega))
  have HC := Lib.hid hc; have HD := Lib.hid ((Drew.of_below HZ.out : Drew g w _).trans hd)
  clear hr hc hd
  go_wp2_with fail
  refine (amongLit_any g _ [0, 1, 10, 50, 1000] 3 _ _ _ rfl rfl (by omega) (by simp) (by simp) HC.out).mono ?_
  rintro e w2 ⟨cost, _, rfl, hc, hd⟩
  have HB2 := Lib.hid (box4_drew HB2.out hd (by have := HGW.out; omega))
  have HC := Lib.hid hc; have HD := Lib.hid (HD.out.trans hd)
  clear hc hd
  have HG2 : Hid (g < w2.heap.size) := Lib.hid HC.out.lt
  have HW3 : Hid (Below w2.heap.size w2 (w2.alloc (.cells #[.int .i64 0, .int .i64 r, .int .i64 0, .int .i64 cost] 26))) := Lib.hid ((Below.refl _ _).alloc (Nat.le_refl _) _)
  have HB3 := Lib.hid (Box4.new w2 26 (.int .i64 0) (.int .i64 r) (.int .i64 0) (.int .i64 cost))
  have HC3 : Hid (Cur (w2.alloc (.cells #[.int .i64 0, .int .i64 r, .int .i64 0, .int .i64 cost] 26)).drew g (k + 2 + 2)) := Lib.hid (HC.out.below HW3.out.drew)
  have HB3D : Hid (Box4 (w2.alloc (.cells #[.int .i64 0, .int .i64 r, .int .i64 0, .int .i64 cost] 26)).drew w2.heap.size 26 (.int .i64 0) (.int .i64 r) (.int .i64 0) (.int .i64 cost)) := Lib.hid HB3.out
  have hne : w2.heap.size ≠ g := by have := HG2.out; omega
  have HE3 : Hid (w2.heap.size + 1 = (w2.alloc (.cells #[.int .i64 0, .int .i64 r, .int .i64 0, .int .i64 cost] 26)).drew.heap.size) := Lib.hid (World.size_alloc _ _).symm
  have HAM := Lib.hid (amongLit_any g (k + 2 + 2) [1, 2, 3, 5, 9] 3 (w2.alloc (.cells #[.int .i64 0, .int .i64 r, .int .i64 0, .int .i64 cost] 26)).drew (w2.heap.size + 1) 5 HE3.out rfl (by omega) (by simp) (by simp) HC3.out)
  have x1 : (w2.alloc (.cells #[.int .i64 0, .int .i64 r, .int .i64 0, .int .i64 cost] 26)).cell? ⟨w2.heap.size, 1, none⟩ = some (.int .i64 r) := by simp
  go_wp2
  go_region_held3 (fun w' => w'.cell? ⟨w2.heap.size, 1, none⟩ = some (.int .i64 r))
    (first | assumption | (simp; done) | (refine alloc_cell _ ?_; assumption) | (refine Drew.cellOf hdy ?_ ?_ <;> assumption) | (refine Drew.cellOf hdx ?_ ?_ <;> assumption) | exact (box4_put2 HBX.out).cells.2.1 | fail)
    (first | (go_at_call 91; refine (HAM.out).mono ?_; rintro e w4 ⟨x, hx, rfl, hcx, hdx⟩) | (go_at_call 93; refine (pick_any g _ 3 _ (by omega) (by omega) hcx).mono ?_; rintro e w5 ⟨y, rfl, hy, hy', hcy, hdy⟩; have hbx := box4_drew (box4_drew HB3D.out hdx hne) hdy hne; obtain ⟨c0, c1, c2, c3⟩ := hbx.cells; obtain ⟨f0, f1, f2, f3⟩ := hbx.frozen; have HBX := Lib.hid hbx; clear hbx) | (go_at_call 105; refine (l1LeastG_any _ _ _).mono ?_; rintro e w' ⟨rfl, rfl⟩))
  clear c0 c1 c2 c3 f0 f1 f2 f3 x1
  have hxb : 1 ≤ x ∧ x ≤ 9 := by simp at hx; omega
  have hm1 : 0 ≤ r * x := Int.mul_nonneg (by omega) (by omega)
  have hm2 : r * x ≤ 100 * 9 := Int.mul_le_mul (by omega) (by omega) (by omega) (by omega)
  have hv : 0 ≤ min 1000 (IntKind.i64.wrap (IntKind.i64.wrap (r * x) + (y : Int))) ∧ min 1000 (IntKind.i64.wrap (IntKind.i64.wrap (r * x) + (y : Int))) ≤ 1000 := by
    rw [IntWalk.i64_in (r * x) (by omega), IntWalk.i64_in (r * x + (y : Int)) (by omega)]
    omega
  generalize min 1000 (IntKind.i64.wrap (IntKind.i64.wrap (r * x) + (y : Int))) = V at *
  have HNB : Hid (w.heap.size ≠ w2.heap.size ∧ w.heap.size ≠ g ∧ w2.heap.size ≠ g ∧ w.heap.size ≤ w2.heap.size) := Lib.hid (by have h1 := HB2.out.lt; have h2 := HGW.out; have h3 := HG2.out; omega)
  have HB2 := Lib.hid (box4_far (b' := w2.heap.size) (i := 2) (u := .int .i64 V) (box4_drew (box4_drew (w := (w2.alloc (.cells #[.int .i64 0, .int .i64 r, .int .i64 0, .int .i64 cost] 26)).drew) (box4_bel HB2.out HW3.out.drew) hdx HNB.out.2.1) hdy HNB.out.2.1) HNB.out.1)
  have HB3 := Lib.hid (box4_put2 (u := .int .i64 V) HBX.out)
  have HC := Lib.hid (hcy.below' ((Below.refl w2.heap.size w5).setCell (p := ⟨w2.heap.size, 2, none⟩) (Nat.le_refl _) (.int .i64 V)) HG2.out)
  have HD := Lib.hid (Drew.then_below (((HD.out.trans (Drew.of_below HW3.out.drew)).trans hdx).trans hdy) ((Below.refl w.heap.size w5).setCell (p := ⟨w2.heap.size, 2, none⟩) HNB.out.2.2.2 (.int .i64 V)))
  have hn1 : w.heap.size ≠ w2.heap.size := HNB.out.1
  have hn2 : w2.heap.size ≠ w.heap.size := Ne.symm HNB.out.1
  obtain ⟨ws, hws⟩ : ∃ ws, ws = w5.setCell ⟨w2.heap.size, 2, none⟩ (.int .i64 V) := ⟨_, rfl⟩
  rw [← hws] at HB2 HB3 HC HD ⊢
  clear hws hcx hdx hcy hdy HBX HAM HC3 HE3 HB3D hx hy hy' hm1 hm2 hne
  obtain ⟨c0, c1, c2, c3⟩ := HB3.out.cells
  obtain ⟨f0, f1, f2, f3⟩ := HB3.out.frozen
  obtain ⟨z0, z1, z2, z3⟩ := HB2.out.cells
  obtain ⟨y0, y1, y2, y3⟩ := HB2.out.frozen
  go_wp2_with fail
  refine (pick_any g _ (V + 1) _ (by omega) (by omega) HC.out).mono ?_
  rintro e w6 ⟨a, rfl, _, _, hc, hd⟩
  clear c0 c1 c2 c3 f0 f1 f2 f3 z0 z1 z2 z3 y0 y1 y2 y3
  have HB2 := Lib.hid (box4_drew HB2.out hd HNB.out.2.1); have HB3 := Lib.hid (box4_drew HB3.out hd HNB.out.2.2.1); have HC := Lib.hid hc; have HD := Lib.hid (HD.out.trans hd)
  clear hc hd
  obtain ⟨c0, c1, c2, c3⟩ := HB3.out.cells
  obtain ⟨f0, f1, f2, f3⟩ := HB3.out.frozen
  obtain ⟨z0, z1, z2, z3⟩ := HB2.out.cells
  obtain ⟨y0, y1, y2, y3⟩ := HB2.out.frozen
  have HB2 := Lib.hid (box4_far (b' := w2.heap.size) (i := 0) (u := .int .i64 (a : Int)) HB2.out HNB.out.1)
  have HB3 := Lib.hid (box4_put0 (u := .int .i64 (a : Int)) HB3.out)
  have HC := Lib.hid (HC.out.below' ((Below.refl w2.heap.size w6).setCell (p := ⟨w2.heap.size, 0, none⟩) (Nat.le_refl _) (.int .i64 (a : Int))) HG2.out)
  have HD := Lib.hid (Drew.then_below HD.out ((Below.refl w.heap.size w6).setCell (p := ⟨w2.heap.size, 0, none⟩) HNB.out.2.2.2 (.int .i64 (a : Int))))
  go_wp2_with fail
  refine (pick_any g _ 40 _ (by omega) (by omega) HC.out).mono ?_
  rintro e w7 ⟨s, rfl, _, _, hc, hd⟩
  clear c0 c1 c2 c3 f0 f1 f2 f3 z0 z1 z2 z3 y0 y1 y2 y3
  have HB2 := Lib.hid (box4_drew HB2.out hd HNB.out.2.1); have HB3 := Lib.hid (box4_drew HB3.out hd HNB.out.2.2.1); have HC := Lib.hid hc; have HD := Lib.hid (HD.out.trans hd)
  clear hc hd
  obtain ⟨c0, c1, c2, c3⟩ := HB3.out.cells
  obtain ⟨f0, f1, f2, f3⟩ := HB3.out.frozen
  obtain ⟨z0, z1, z2, z3⟩ := HB2.out.cells
  obtain ⟨y0, y1, y2, y3⟩ := HB2.out.frozen
  by_cases h0 : s = 0
  · subst h0
    go_wp2_with fail
    refine (amongLit_any g _ [-1, V, V + 1] 3 _ _ _ rfl rfl (by omega) (by simp) (by simp) HC.out).mono ?_
    rintro e w8 ⟨z, _, rfl, hc, hd⟩
    clear c0 c1 c2 c3 f0 f1 f2 f3 z0 z1 z2 z3 y0 y1 y2 y3
    have HB2 := Lib.hid (box4_drew HB2.out hd HNB.out.2.1); have HB3 := Lib.hid (box4_drew HB3.out hd HNB.out.2.2.1); have HC := Lib.hid hc; have HD := Lib.hid (HD.out.trans hd)
    clear hc hd
    obtain ⟨c0, c1, c2, c3⟩ := HB3.out.cells
    obtain ⟨f0, f1, f2, f3⟩ := HB3.out.frozen
    obtain ⟨z0, z1, z2, z3⟩ := HB2.out.cells
    obtain ⟨y0, y1, y2, y3⟩ := HB2.out.frozen
    have HB2 := Lib.hid (box4_far (b' := w2.heap.size) (i := 0) (u := .int .i64 z) HB2.out HNB.out.1)
    have HB3 := Lib.hid (box4_put0 (u := .int .i64 z) HB3.out)
    have HC := Lib.hid (HC.out.below' ((Below.refl w2.heap.size w8).setCell (p := ⟨w2.heap.size, 0, none⟩) (Nat.le_refl _) (.int .i64 z)) HG2.out)
    have HD := Lib.hid (Drew.then_below HD.out ((Below.refl w.heap.size w8).setCell (p := ⟨w2.heap.size, 0, none⟩) HNB.out.2.2.2 (.int .i64 z)))
    go_wp2
    obtain ⟨r0, r1, r2, r3⟩ := (box4_put3 (u := .int .i64 cost) (box4_put2 (u := .int .i64 V) (box4_put1 (u := .int .i64 r) (box4_put0 (u := .int .i64 z) HB2.out)))).cells
    try simp only [Exit.inBlock, Exit.then]
    refine bodyPost_ret (v := .agg #[.int .i64 z, .int .i64 r, .int .i64 V, .int .i64 cost]) (by simp [results, Try.results94, go_sem, r0, r1, r2, r3]) rfl ?_
    exact ⟨z, r, V, cost, rfl, (HC.out.below' (((((Below.refl w.heap.size _).setCell (p := ⟨w.heap.size, 0, none⟩) (Nat.le_refl _) _).setCell (p := ⟨w.heap.size, 1, none⟩) (Nat.le_refl _) _).setCell (p := ⟨w.heap.size, 2, none⟩) (Nat.le_refl _) _).setCell (p := ⟨w.heap.size, 3, none⟩) (Nat.le_refl _) _) HGW.out).mono (by omega), Drew.then_below HD.out (((((Below.refl w.heap.size _).setCell (p := ⟨w.heap.size, 0, none⟩) (Nat.le_refl _) _).setCell (p := ⟨w.heap.size, 1, none⟩) (Nat.le_refl _) _).setCell (p := ⟨w.heap.size, 2, none⟩) (Nat.le_refl _) _).setCell (p := ⟨w.heap.size, 3, none⟩) (Nat.le_refl _) _)⟩
  by_cases h1 : s = 1
  · subst h1
    go_wp2_with fail
    refine (amongLit_any g _ [0, 101, V + 1] 3 _ _ _ rfl rfl (by omega) (by simp) (by simp) HC.out).mono ?_
    rintro e w8 ⟨z, _, rfl, hc, hd⟩
    clear c0 c1 c2 c3 f0 f1 f2 f3 z0 z1 z2 z3 y0 y1 y2 y3
    have HB2 := Lib.hid (box4_drew HB2.out hd HNB.out.2.1); have HB3 := Lib.hid (box4_drew HB3.out hd HNB.out.2.2.1); have HC := Lib.hid hc; have HD := Lib.hid (HD.out.trans hd)
    clear hc hd
    obtain ⟨c0, c1, c2, c3⟩ := HB3.out.cells
    obtain ⟨f0, f1, f2, f3⟩ := HB3.out.frozen
    obtain ⟨z0, z1, z2, z3⟩ := HB2.out.cells
    obtain ⟨y0, y1, y2, y3⟩ := HB2.out.frozen
    have HB2 := Lib.hid (box4_far (b' := w2.heap.size) (i := 1) (u := .int .i64 z) HB2.out HNB.out.1)
    have HB3 := Lib.hid (box4_put1 (u := .int .i64 z) HB3.out)
    have HC := Lib.hid (HC.out.below' ((Below.refl w2.heap.size w8).setCell (p := ⟨w2.heap.size, 1, none⟩) (Nat.le_refl _) (.int .i64 z)) HG2.out)
    have HD := Lib.hid (Drew.then_below HD.out ((Below.refl w.heap.size w8).setCell (p := ⟨w2.heap.size, 1, none⟩) HNB.out.2.2.2 (.int .i64 z)))
    go_wp2
    obtain ⟨r0, r1, r2, r3⟩ := (box4_put3 (u := .int .i64 cost) (box4_put2 (u := .int .i64 V) (box4_put1 (u := .int .i64 z) (box4_put0 (u := .int .i64 (a : Int)) HB2.out)))).cells
    try simp only [Exit.inBlock, Exit.then]
    refine bodyPost_ret (v := .agg #[.int .i64 (a : Int), .int .i64 z, .int .i64 V, .int .i64 cost]) (by simp [results, Try.results94, go_sem, r0, r1, r2, r3]) rfl ?_
    exact ⟨(a : Int), z, V, cost, rfl, (HC.out.below' (((((Below.refl w.heap.size _).setCell (p := ⟨w.heap.size, 0, none⟩) (Nat.le_refl _) _).setCell (p := ⟨w.heap.size, 1, none⟩) (Nat.le_refl _) _).setCell (p := ⟨w.heap.size, 2, none⟩) (Nat.le_refl _) _).setCell (p := ⟨w.heap.size, 3, none⟩) (Nat.le_refl _) _) HGW.out).mono (by omega), Drew.then_below HD.out (((((Below.refl w.heap.size _).setCell (p := ⟨w.heap.size, 0, none⟩) (Nat.le_refl _) _).setCell (p := ⟨w.heap.size, 1, none⟩) (Nat.le_refl _) _).setCell (p := ⟨w.heap.size, 2, none⟩) (Nat.le_refl _) _).setCell (p := ⟨w.heap.size, 3, none⟩) (Nat.le_refl _) _)⟩
  by_cases h2 : s = 2
  · subst h2
    go_wp2_with fail
    refine (amongLit_any g _ [r - 1, 1000, 1001] 3 _ _ _ rfl rfl (by omega) (by simp) (by simp) HC.out).mono ?_
    rintro e w8 ⟨z, _, rfl, hc, hd⟩
    clear c0 c1 c2 c3 f0 f1 f2 f3 z0 z1 z2 z3 y0 y1 y2 y3
    have HB2 := Lib.hid (box4_drew HB2.out hd HNB.out.2.1); have HB3 := Lib.hid (box4_drew HB3.out hd HNB.out.2.2.1); have HC := Lib.hid hc; have HD := Lib.hid (HD.out.trans hd)
    clear hc hd
    obtain ⟨c0, c1, c2, c3⟩ := HB3.out.cells
    obtain ⟨f0, f1, f2, f3⟩ := HB3.out.frozen
    obtain ⟨z0, z1, z2, z3⟩ := HB2.out.cells
    obtain ⟨y0, y1, y2, y3⟩ := HB2.out.frozen
    have HB2 := Lib.hid (box4_far (b' := w2.heap.size) (i := 2) (u := .int .i64 z) HB2.out HNB.out.1)
    have HB3 := Lib.hid (box4_put2 (u := .int .i64 z) HB3.out)
    have HC := Lib.hid (HC.out.below' ((Below.refl w2.heap.size w8).setCell (p := ⟨w2.heap.size, 2, none⟩) (Nat.le_refl _) (.int .i64 z)) HG2.out)
    have HD := Lib.hid (Drew.then_below HD.out ((Below.refl w.heap.size w8).setCell (p := ⟨w2.heap.size, 2, none⟩) HNB.out.2.2.2 (.int .i64 z)))
    go_wp2
    obtain ⟨r0, r1, r2, r3⟩ := (box4_put3 (u := .int .i64 cost) (box4_put2 (u := .int .i64 z) (box4_put1 (u := .int .i64 r) (box4_put0 (u := .int .i64 (a : Int)) HB2.out)))).cells
    try simp only [Exit.inBlock, Exit.then]
    refine bodyPost_ret (v := .agg #[.int .i64 (a : Int), .int .i64 r, .int .i64 z, .int .i64 cost]) (by simp [results, Try.results94, go_sem, r0, r1, r2, r3]) rfl ?_
    exact ⟨(a : Int), r, z, cost, rfl, (HC.out.below' (((((Below.refl w.heap.size _).setCell (p := ⟨w.heap.size, 0, none⟩) (Nat.le_refl _) _).setCell (p := ⟨w.heap.size, 1, none⟩) (Nat.le_refl _) _).setCell (p := ⟨w.heap.size, 2, none⟩) (Nat.le_refl _) _).setCell (p := ⟨w.heap.size, 3, none⟩) (Nat.le_refl _) _) HGW.out).mono (by omega), Drew.then_below HD.out (((((Below.refl w.heap.size _).setCell (p := ⟨w.heap.size, 0, none⟩) (Nat.le_refl _) _).setCell (p := ⟨w.heap.size, 1, none⟩) (Nat.le_refl _) _).setCell (p := ⟨w.heap.size, 2, none⟩) (Nat.le_refl _) _).setCell (p := ⟨w.heap.size, 3, none⟩) (Nat.le_refl _) _)⟩
  by_cases h3 : s = 3
  · subst h3
    go_wp2_with fail
    refine (amongLit_any g _ [-1, 1001] 3 _ _ _ rfl rfl (by omega) (by simp) (by simp) HC.out).mono ?_
    rintro e w8 ⟨z, _, rfl, hc, hd⟩
    clear c0 c1 c2 c3 f0 f1 f2 f3 z0 z1 z2 z3 y0 y1 y2 y3
    have HB2 := Lib.hid (box4_drew HB2.out hd HNB.out.2.1); have HB3 := Lib.hid (box4_drew HB3.out hd HNB.out.2.2.1); have HC := Lib.hid hc; have HD := Lib.hid (HD.out.trans hd)
    clear hc hd
    obtain ⟨c0, c1, c2, c3⟩ := HB3.out.cells
    obtain ⟨f0, f1, f2, f3⟩ := HB3.out.frozen
    obtain ⟨z0, z1, z2, z3⟩ := HB2.out.cells
    obtain ⟨y0, y1, y2, y3⟩ := HB2.out.frozen
    have HB2 := Lib.hid (box4_far (b' := w2.heap.size) (i := 3) (u := .int .i64 z) HB2.out HNB.out.1)
    have HB3 := Lib.hid (box4_put3 (u := .int .i64 z) HB3.out)
    have HC := Lib.hid (HC.out.below' ((Below.refl w2.heap.size w8).setCell (p := ⟨w2.heap.size, 3, none⟩) (Nat.le_refl _) (.int .i64 z)) HG2.out)
    have HD := Lib.hid (Drew.then_below HD.out ((Below.refl w.heap.size w8).setCell (p := ⟨w2.heap.size, 3, none⟩) HNB.out.2.2.2 (.int .i64 z)))
    go_wp2
    obtain ⟨r0, r1, r2, r3⟩ := (box4_put3 (u := .int .i64 z) (box4_put2 (u := .int .i64 V) (box4_put1 (u := .int .i64 r) (box4_put0 (u := .int .i64 (a : Int)) HB2.out)))).cells
    try simp only [Exit.inBlock, Exit.then]
    refine bodyPost_ret (v := .agg #[.int .i64 (a : Int), .int .i64 r, .int .i64 V, .int .i64 z]) (by simp [results, Try.results94, go_sem, r0, r1, r2, r3]) rfl ?_
    exact ⟨(a : Int), r, V, z, rfl, (HC.out.below' (((((Below.refl w.heap.size _).setCell (p := ⟨w.heap.size, 0, none⟩) (Nat.le_refl _) _).setCell (p := ⟨w.heap.size, 1, none⟩) (Nat.le_refl _) _).setCell (p := ⟨w.heap.size, 2, none⟩) (Nat.le_refl _) _).setCell (p := ⟨w.heap.size, 3, none⟩) (Nat.le_refl _) _) HGW.out).mono (by omega), Drew.then_below HD.out (((((Below.refl w.heap.size _).setCell (p := ⟨w.heap.size, 0, none⟩) (Nat.le_refl _) _).setCell (p := ⟨w.heap.size, 1, none⟩) (Nat.le_refl _) _).setCell (p := ⟨w.heap.size, 2, none⟩) (Nat.le_refl _) _).setCell (p := ⟨w.heap.size, 3, none⟩) (Nat.le_refl _) _)⟩
  have e0 : ((s : Int) == 0) = false := by rw [beq_eq_false_iff_ne]; omega
  have e1 : ((s : Int) == 1) = false := by rw [beq_eq_false_iff_ne]; omega
  have e2 : ((s : Int) == 2) = false := by rw [beq_eq_false_iff_ne]; omega
  have e3 : ((s : Int) == 3) = false := by rw [beq_eq_false_iff_ne]; omega
  go_wp2
  obtain ⟨r0, r1, r2, r3⟩ := (box4_put3 (u := .int .i64 cost) (box4_put2 (u := .int .i64 V) (box4_put1 (u := .int .i64 r) (box4_put0 (u := .int .i64 (a : Int)) HB2.out)))).cells
  try simp only [Exit.inBlock, Exit.then]
  refine bodyPost_ret (v := .agg #[.int .i64 (a : Int), .int .i64 r, .int .i64 V, .int .i64 cost]) (by simp [results, Try.results94, go_sem, r0, r1, r2, r3]) rfl ?_
  exact ⟨a, r, V, cost, rfl, (HC.out.below' (((((Below.refl w.heap.size w7).setCell (p := ⟨w.heap.size, 0, none⟩) (Nat.le_refl _) _).setCell (p := ⟨w.heap.size, 1, none⟩) (Nat.le_refl _) _).setCell (p := ⟨w.heap.size, 2, none⟩) (Nat.le_refl _) _).setCell (p := ⟨w.heap.size, 3, none⟩) (Nat.le_refl _) _) HGW.out).mono (by omega), Drew.then_below HD.out (((((Below.refl w.heap.size w7).setCell (p := ⟨w.heap.size, 0, none⟩) (Nat.le_refl _) _).setCell (p := ⟨w.heap.size, 1, none⟩) (Nat.le_refl _) _).setCell (p := ⟨w.heap.size, 2, none⟩) (Nat.le_refl _) _).setCell (p := ⟨w.heap.size, 3, none⟩) (Nat.le_refl _) _)⟩

end Go.Proofs.Ytjibdabedagghaa
