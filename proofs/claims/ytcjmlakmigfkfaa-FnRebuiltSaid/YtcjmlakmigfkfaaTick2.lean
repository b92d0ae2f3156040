/- Contracts of the laws' helpers on tickets and entries. No conditions. -/
import Derived.Test.YtcjmlakmigfkfaaTick
namespace Go.Proofs.Ytcjmlakmigfkfaa
set_option linter.unusedSimpArgs false
set_option linter.unusedVariables false
open Go.RowKit

theorem box_after {W w1 : World} {g B : Nat} {cs : Array Value} {t : TypeId} (hb : Below B W w1) (hg : g < B) (h : W.heap[g]? = some (.cells cs t (0, 0))) : w1.heap[g]? = some (.cells cs t (0, 0)) := (hb.block g hg).trans h
theorem box_at {W : World} {g : Nat} {cs : Array Value} {t : TypeId} (h : W.heap[g]? = some (.cells cs t (0, 0))) {j : Nat} {u : Value} (hu : cs[j]? = some u) : W.cell? ⟨g, j, none⟩ = some u ∧ W.frozen? ⟨g, j, none⟩ = false := by
  refine ⟨?_, by simp [World.frozen?, h]⟩
  rw [cell_of_row W g j cs t (0, 0) h, hu]
theorem heap3 (w : World) (o1 o2 o3 : Obj) : (((w.alloc o1).alloc o2).alloc o3).heap[w.heap.size]? = some o1 ∧ (((w.alloc o1).alloc o2).alloc o3).heap[w.heap.size + 1]? = some o2 ∧ (((w.alloc o1).alloc o2).alloc o3).heap[w.heap.size + 1 + 1]? = some o3 := by
  have e1 : (w.alloc o1).heap.size = w.heap.size + 1 := by simp
  have e2 : ((w.alloc o1).alloc o2).heap.size = w.heap.size + 1 + 1 := by simp
  refine ⟨?_, ?_, ?_⟩
  · rw [heap_alloc_old _ _ (by rw [e2]; omega), heap_alloc_old _ _ (by rw [e1]; omega), heap_alloc_new]
  · have h := heap_alloc_new (w.alloc o1) o2
    rw [e1] at h
    rw [heap_alloc_old _ _ (by rw [e2]; omega)]
    exact h
  · have h := heap_alloc_new ((w.alloc o1).alloc o2) o3
    rw [e2] at h
    exact h
theorem own_setCell {w : World} {base b i k n : Nat} {e : TypeId} {v u : Value} {xs : List Value} (h : w.ownsRow base e k v n xs) (hb : b < base) : (w.setCell ⟨b, i, none⟩ u).ownsRow base e k v n xs :=
  row_same h fun q hq => Below.heap_setCell _ _ _ _ (by have := (h.lt q hq).1; simp; omega)
theorem box_set {w : World} {g j : Nat} {cs : Array Value} {t : TypeId} {u : Value} (h : w.heap[g]? = some (.cells cs t (0, 0))) : (w.setCell ⟨g, j, none⟩ u).heap[g]? = some (.cells (cs.setIfInBounds j u) t (0, 0)) := by
  simp [World.setCell, Array.getElem?_modify, h]
theorem own_below' {w w' : World} {base k n B : Nat} {e : TypeId} {v : Value} {xs : List Value} (h : w.ownsRow base e k v n xs) (hb : Below B w w') (hB : w.heap.size ≤ B) : w'.ownsRow base e k v n xs :=
  row_same h fun q hq => hb.block q (by have := (h.lt q hq).2; omega)

set_option maxHeartbeats 1000000 in
theorem toTicket_any (a0 a1 a3 : Int) (A2 : Option Addr) (c2 : Nat) (l2 : List Int) (w : World) (n2 : l2.length ≤ 1000000000) (h2 : Reads w 1 A2 l2.length (ints l2)) :
    Calls Try.prog 90 #[.agg #[.int .i64 a0, .int .i64 a1, .slice A2 l2.length c2, .int .i64 a3]] w fun e w' => ∃ B2 d2, e = .returned (.agg #[.int .i64 a0, .int .i64 a1, .slice B2 l2.length d2, .int .i64 a3]) ∧ w'.ownsRow w.heap.size 3 1 (.slice B2 l2.length d2) l2.length (ints l2) ∧ Below w.heap.size w w' := by
  have H2 := Lib.hid h2; clear h2
  go_enter Try.func90, Try.ntmps90
  go_wp2_with fail
  refine (toIntS_any A2 l2.length c2 l2 _ n2 (H2.out.below (by go_grown))).mono ?_
  rintro e u0 ⟨B2, d2, rfl, hown, hb⟩
  have hbx := box_after hb (g := w.heap.size + 1 + 1) (cs := #[.int .i64 a0, .int .i64 a1, .slice none 0 0, .int .i64 0]) (t := 106) (by simp <;> omega) (heap3 _ _ _ _).2.2
  have HX0 := Lib.hid hbx
  have HO2 := Lib.hid hown
  have HB0 : Hid (Below w.heap.size w u0) := Lib.hid (Below.trans (by go_grown) (hb.mono (by simp; omega)))
  have hz0 := hb.size
  simp only [World.size_alloc] at hz0
  obtain ⟨x0, f0⟩ := box_at hbx (j := 0) (u := .int .i64 a0) rfl
  obtain ⟨x1, f1⟩ := box_at hbx (j := 1) (u := .int .i64 a1) rfl
  obtain ⟨x2, f2⟩ := box_at hbx (j := 2) (u := .slice none 0 0) rfl
  obtain ⟨x3, f3⟩ := box_at hbx (j := 3) (u := .int .i64 0) rfl
  obtain ⟨y0, g0⟩ := box_at (box_after hb (g := w.heap.size + 1) (cs := #[.int .i64 0, .int .i64 0, .slice none 0 0, .int .i64 0]) (t := 106) (by simp <;> omega) (heap3 _ _ _ _).2.1) (j := 0) (u := .int .i64 0) rfl
  obtain ⟨y1, g1⟩ := box_at (box_after hb (g := w.heap.size + 1) (cs := #[.int .i64 0, .int .i64 0, .slice none 0 0, .int .i64 0]) (t := 106) (by simp <;> omega) (heap3 _ _ _ _).2.1) (j := 1) (u := .int .i64 0) rfl
  obtain ⟨y2, g2⟩ := box_at (box_after hb (g := w.heap.size + 1) (cs := #[.int .i64 0, .int .i64 0, .slice none 0 0, .int .i64 0]) (t := 106) (by simp <;> omega) (heap3 _ _ _ _).2.1) (j := 2) (u := .slice none 0 0) rfl
  obtain ⟨y3, g3⟩ := box_at (box_after hb (g := w.heap.size + 1) (cs := #[.int .i64 0, .int .i64 0, .slice none 0 0, .int .i64 0]) (t := 106) (by simp <;> omega) (heap3 _ _ _ _).2.1) (j := 3) (u := .int .i64 0) rfl
  obtain ⟨q3, _⟩ := box_at (box_after hb (g := w.heap.size) (cs := #[.int .i64 a0, .int .i64 a1, .slice A2 l2.length c2, .int .i64 a3]) (t := 105) (by simp <;> omega) (heap3 _ _ _ _).1) (j := 3) (u := .int .i64 a3) rfl
  have HYY := Lib.hid (box_after hb (g := w.heap.size + 1) (cs := #[.int .i64 0, .int .i64 0, .slice none 0 0, .int .i64 0]) (t := 106) (by simp <;> omega) (heap3 _ _ _ _).2.1)
  clear hbx hb hown
  have hw := HO2.out
  simp only [World.size_alloc] at hw
  have HO := Lib.hid hw
  clear hw HO2
  go_wp2
  refine bodyPost_ret (v := .agg #[.int .i64 a0, .int .i64 a1, .slice B2 l2.length d2, .int .i64 a3]) (by simp [results, Try.results90, go_sem, y0, y1, y2, y3]) rfl ⟨B2, d2, rfl, ?_, ?_⟩
  · exact own_mono (own_setCell (own_setCell (own_setCell (own_setCell (own_setCell (own_setCell HO.out (by omega)) (by omega)) (by omega)) (by omega)) (by omega)) (by omega)) (by omega)
  · exact ((((((HB0.out.setCell (p := ⟨w.heap.size + 1 + 1, 2, none⟩) (by simp; try omega) _).setCell (p := ⟨w.heap.size + 1 + 1, 3, none⟩) (by simp; try omega) _).setCell (p := ⟨w.heap.size + 1, 0, none⟩) (by simp; try omega) _).setCell (p := ⟨w.heap.size + 1, 1, none⟩) (by simp; try omega) _).setCell (p := ⟨w.heap.size + 1, 2, none⟩) (by simp; try omega) _).setCell (p := ⟨w.heap.size + 1, 3, none⟩) (by simp; try omega) _)

set_option maxHeartbeats 1000000 in
theorem toEntry_any (a0 a1 a2 : Int) (A3 : Option Addr) (c3 : Nat) (l3 : List Int) (A4 : Option Addr) (c4 : Nat) (l4 : List Int) (w : World) (n3 : l3.length ≤ 1000000000) (h3 : Reads w 1 A3 l3.length (ints l3)) (n4 : l4.length ≤ 1000000000) (h4 : Reads w 1 A4 l4.length (ints l4)) :
    Calls Try.prog 63 #[.agg #[.int .i64 a0, .int .i64 a1, .int .i64 a2, .slice A3 l3.length c3, .slice A4 l4.length c4]] w fun e w' => ∃ B3 d3 B4 d4, e = .returned (.agg #[.int .i64 a0, .int .i64 a1, .int .i64 a2, .slice B3 l3.length d3, .slice B4 l4.length d4]) ∧ w'.ownsRow w.heap.size 3 1 (.slice B3 l3.length d3) l3.length (ints l3) ∧ w'.ownsRow w.heap.size 3 1 (.slice B4 l4.length d4) l4.length (ints l4) ∧ apart (.slice B3 l3.length d3) (.slice B4 l4.length d4) ∧ Below w.heap.size w w' := by
  have H3 := Lib.hid h3; clear h3
  have H4 := Lib.hid h4; clear h4
  go_enter Try.func63, Try.ntmps63
  go_wp2_with fail
  refine (toIntS_any A3 l3.length c3 l3 _ n3 (H3.out.below (by go_grown))).mono ?_
  rintro e u0 ⟨B3, d3, rfl, hown, hb⟩
  have hbx := box_after hb (g := w.heap.size + 1 + 1) (cs := #[.int .i64 a0, .int .i64 a1, .int .i64 a2, .slice none 0 0, .slice none 0 0]) (t := 51) (by simp <;> omega) (heap3 _ _ _ _).2.2
  have HX0 := Lib.hid hbx
  have HO3 := Lib.hid hown
  have HB0 : Hid (Below w.heap.size w u0) := Lib.hid (Below.trans (by go_grown) (hb.mono (by simp; omega)))
  have hz0 := hb.size
  simp only [World.size_alloc] at hz0
  obtain ⟨x0, f0⟩ := box_at hbx (j := 0) (u := .int .i64 a0) rfl
  obtain ⟨x1, f1⟩ := box_at hbx (j := 1) (u := .int .i64 a1) rfl
  obtain ⟨x2, f2⟩ := box_at hbx (j := 2) (u := .int .i64 a2) rfl
  obtain ⟨x3, f3⟩ := box_at hbx (j := 3) (u := .slice none 0 0) rfl
  obtain ⟨x4, f4⟩ := box_at hbx (j := 4) (u := .slice none 0 0) rfl
  obtain ⟨y0, g0⟩ := box_at (box_after hb (g := w.heap.size + 1) (cs := #[.int .i64 0, .int .i64 0, .int .i64 0, .slice none 0 0, .slice none 0 0]) (t := 51) (by simp <;> omega) (heap3 _ _ _ _).2.1) (j := 0) (u := .int .i64 0) rfl
  obtain ⟨y1, g1⟩ := box_at (box_after hb (g := w.heap.size + 1) (cs := #[.int .i64 0, .int .i64 0, .int .i64 0, .slice none 0 0, .slice none 0 0]) (t := 51) (by simp <;> omega) (heap3 _ _ _ _).2.1) (j := 1) (u := .int .i64 0) rfl
  obtain ⟨y2, g2⟩ := box_at (box_after hb (g := w.heap.size + 1) (cs := #[.int .i64 0, .int .i64 0, .int .i64 0, .slice none 0 0, .slice none 0 0]) (t := 51) (by simp <;> omega) (heap3 _ _ _ _).2.1) (j := 2) (u := .int .i64 0) rfl
  obtain ⟨y3, g3⟩ := box_at (box_after hb (g := w.heap.size + 1) (cs := #[.int .i64 0, .int .i64 0, .int .i64 0, .slice none 0 0, .slice none 0 0]) (t := 51) (by simp <;> omega) (heap3 _ _ _ _).2.1) (j := 3) (u := .slice none 0 0) rfl
  obtain ⟨y4, g4⟩ := box_at (box_after hb (g := w.heap.size + 1) (cs := #[.int .i64 0, .int .i64 0, .int .i64 0, .slice none 0 0, .slice none 0 0]) (t := 51) (by simp <;> omega) (heap3 _ _ _ _).2.1) (j := 4) (u := .slice none 0 0) rfl
  obtain ⟨q4, _⟩ := box_at (box_after hb (g := w.heap.size) (cs := #[.int .i64 a0, .int .i64 a1, .int .i64 a2, .slice A3 l3.length c3, .slice A4 l4.length c4]) (t := 77) (by simp <;> omega) (heap3 _ _ _ _).1) (j := 4) (u := .slice A4 l4.length c4) rfl
  have HYY := Lib.hid (box_after hb (g := w.heap.size + 1) (cs := #[.int .i64 0, .int .i64 0, .int .i64 0, .slice none 0 0, .slice none 0 0]) (t := 51) (by simp <;> omega) (heap3 _ _ _ _).2.1)
  clear hbx hb hown
  have hw := HO3.out
  simp only [World.size_alloc] at hw
  have HO := Lib.hid hw
  have HLT := Lib.hid (own_lt hw)
  clear hw HO3
  have HY0 : Hid (u0.heap[w.heap.size + 1]? = some (.cells #[.int .i64 0, .int .i64 0, .int .i64 0, .slice none 0 0, .slice none 0 0] 51 (0, 0))) := Lib.hid HYY.out
  go_wp2_with fail
  clear x0 f0 y0 g0 x1 f1 y1 g1 x2 f2 y2 g2 x3 f3 y3 g3 x4 f4 y4 g4 q4
  refine (toIntS_any A4 l4.length c4 l4 _ n4 (H4.out.below (by exact HB0.out.setCell (p := ⟨w.heap.size + 1 + 1, 3, none⟩) (by simp <;> omega) _))).mono ?_
  rintro e u1 ⟨B4, d4, rfl, hown, hb⟩
  have hsz : (u0.setCell ⟨w.heap.size + 1 + 1, 3, none⟩ (.slice B3 l3.length d3)).heap.size = u0.heap.size := by simp
  rw [hsz] at hown hb
  have hx1 := box_after hb (g := w.heap.size + 1 + 1) (cs := #[.int .i64 a0, .int .i64 a1, .int .i64 a2, .slice B3 l3.length d3, .slice none 0 0]) (t := 51) (by omega) (box_set HX0.out)
  have hy1 := box_after hb (g := w.heap.size + 1) (cs := #[.int .i64 0, .int .i64 0, .int .i64 0, .slice none 0 0, .slice none 0 0]) (t := 51) (by omega) ((Below.heap_setCell _ _ _ _ (by simp <;> omega)).trans HY0.out)
  have HO1 := Lib.hid (own_below' (own_setCell (b := w.heap.size + 1 + 1) (i := 3) (u := .slice B3 l3.length d3) HO.out (by omega)) hb (by rw [hsz] <;> exact Nat.le_refl _))
  have HO2 := Lib.hid hown
  have HB1 : Hid (Below w.heap.size w u1) := Lib.hid ((HB0.out.setCell (p := ⟨w.heap.size + 1 + 1, 3, none⟩) (by simp <;> omega) _).trans (hb.mono (by omega)))
  have HAP : Hid (apart (.slice B3 l3.length d3) (.slice B4 l4.length d4)) := Lib.hid (by
    cases hq : (Value.slice B3 l3.length d3).ownBlock with
    | none => exact .inl hq
    | some q => exact .inr (by
        rw [hq]
        intro e'
        have h1 := HLT.out q hq
        have h2 := (HO2.out.lt q e'.symm).1
        omega))
  obtain ⟨x0, f0⟩ := box_at hx1 (j := 0) (u := .int .i64 a0) rfl
  obtain ⟨x1, f1⟩ := box_at hx1 (j := 1) (u := .int .i64 a1) rfl
  obtain ⟨x2, f2⟩ := box_at hx1 (j := 2) (u := .int .i64 a2) rfl
  obtain ⟨x3, f3⟩ := box_at hx1 (j := 3) (u := .slice B3 l3.length d3) rfl
  obtain ⟨x4, f4⟩ := box_at hx1 (j := 4) (u := .slice none 0 0) rfl
  obtain ⟨y0, g0⟩ := box_at hy1 (j := 0) (u := .int .i64 0) rfl
  obtain ⟨y1, g1⟩ := box_at hy1 (j := 1) (u := .int .i64 0) rfl
  obtain ⟨y2, g2⟩ := box_at hy1 (j := 2) (u := .int .i64 0) rfl
  obtain ⟨y3, g3⟩ := box_at hy1 (j := 3) (u := .slice none 0 0) rfl
  obtain ⟨y4, g4⟩ := box_at hy1 (j := 4) (u := .slice none 0 0) rfl
  clear hx1 hy1 hb hown hsz HLT
  have hzz := HB1.out.size
  go_wp2
  refine bodyPost_ret (v := .agg #[.int .i64 a0, .int .i64 a1, .int .i64 a2, .slice B3 l3.length d3, .slice B4 l4.length d4]) (by simp [results, Try.results63, go_sem, y0, y1, y2, y3, y4]) rfl ⟨B3, d3, B4, d4, rfl, ?_, ?_, HAP.out, ?_⟩
  · exact own_mono (own_setCell (own_setCell (own_setCell (own_setCell (own_setCell (own_setCell HO1.out (by omega)) (by omega)) (by omega)) (by omega)) (by omega)) (by omega)) (by omega)
  · exact own_mono (own_setCell (own_setCell (own_setCell (own_setCell (own_setCell (own_setCell HO2.out (by omega)) (by omega)) (by omega)) (by omega)) (by omega)) (by omega)) (by omega)
  · exact ((((((HB1.out.setCell (p := ⟨w.heap.size + 1 + 1, 4, none⟩) (by simp; try omega) _).setCell (p := ⟨w.heap.size + 1, 0, none⟩) (by simp; try omega) _).setCell (p := ⟨w.heap.size + 1, 1, none⟩) (by simp; try omega) _).setCell (p := ⟨w.heap.size + 1, 2, none⟩) (by simp; try omega) _).setCell (p := ⟨w.heap.size + 1, 3, none⟩) (by simp; try omega) _).setCell (p := ⟨w.heap.size + 1, 4, none⟩) (by simp; try omega) _)

end Go.Proofs.Ytcjmlakmigfkfaa
