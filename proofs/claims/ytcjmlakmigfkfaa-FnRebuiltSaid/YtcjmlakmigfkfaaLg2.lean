/- The spec's drawings of entries: entry. No conditions. -/
import Derived.Test.YtcjmlakmigfkfaaLg1
import Derived.Test.YtcjmlakmigfkfaaTick3
import Derived.Test.YtcjmlakmigfkfaaClone
import Derived.Deep.RegionHeld3
import Derived.Deep.RegionLaw
import Derived.Deep.CutBlock
namespace Go.Proofs.Ytcjmlakmigfkfaa
set_option linter.unusedSimpArgs false
set_option linter.unusedVariables false
open Go.RowKit

/-- The box of an entry that is being drawn: two rows of the call's own, apart from it, from one another and from the result's cell. -/
structure EBox (w0 w : World) (g b k : Nat) (t m p : Int) (A3 : Option Addr) (c3 : Nat) (l3 : List Int) (A4 : Option Addr) (c4 : Nat) (l4 : List Int) : Prop where
  box : w.heap[b]? = some (.cells #[.int .i64 t, .int .i64 m, .int .i64 p, .slice A3 l3.length c3, .slice A4 l4.length c4] 51 (0, 0))
  res : w.heap[w0.heap.size]? = some (.cells #[.int .i64 0, .int .i64 0, .int .i64 0, .slice none 0 0, .slice none 0 0] 51 (0, 0))
  len3 : l3.length ≤ 10
  len4 : l4.length ≤ 10
  tb : -100000 ≤ t ∧ t ≤ 100000
  own3 : w.ownsRow (w0.heap.size + 1) 3 1 (.slice A3 l3.length c3) l3.length (ints l3)
  own4 : w.ownsRow (w0.heap.size + 1) 3 1 (.slice A4 l4.length c4) l4.length (ints l4)
  nb3 : (Value.slice A3 l3.length c3).ownBlock ≠ some b
  nb4 : (Value.slice A4 l4.length c4).ownBlock ≠ some b
  ap : apart (.slice A4 l4.length c4) (.slice A3 l3.length c3)
  cur : Cur w g k
  gl : g < w0.heap.size
  bl : w0.heap.size < b
  dr : Drew g w0 w
section
variable {w0 w w' : World} {g b k k' : Nat} {t m p : Int} {A3 A4 : Option Addr} {c3 c4 : Nat} {l3 l4 : List Int}
theorem EBox.lt (h : EBox w0 w g b k t m p A3 c3 l3 A4 c4 l4) : b < w.heap.size := (Array.getElem?_eq_some_iff.1 h.box).1
theorem EBox.drew (h : EBox w0 w g b k t m p A3 c3 l3 A4 c4 l4) (hd : Drew g w w') (hc : Cur w' g k') : EBox w0 w' g b k' t m p A3 c3 l3 A4 c4 l4 := by
  have hlt := h.lt
  have := h.gl
  have := h.bl
  exact ⟨(hd.block b hlt (by omega)).trans h.box, (hd.block _ (by omega) (by omega)).trans h.res, h.len3, h.len4, h.tb, hd.own h.own3 (by omega), hd.own h.own4 (by omega), h.nb3, h.nb4, h.ap, hc, h.gl, h.bl, h.dr.trans hd⟩
theorem EBox.below (h : EBox w0 w g b k t m p A3 c3 l3 A4 c4 l4) (hd : Below w.heap.size w w') : EBox w0 w' g b k t m p A3 c3 l3 A4 c4 l4 :=
  h.drew (Drew.of_below hd) (h.cur.below hd)
theorem EBox.more (h : EBox w0 w g b k t m p A3 c3 l3 A4 c4 l4) (hk : k ≤ k') : EBox w0 w g b k' t m p A3 c3 l3 A4 c4 l4 :=
  ⟨h.box, h.res, h.len3, h.len4, h.tb, h.own3, h.own4, h.nb3, h.nb4, h.ap, h.cur.mono hk, h.gl, h.bl, h.dr⟩
theorem EBox.tick (h : EBox w0 w g b k t m p A3 c3 l3 A4 c4 l4) (q : Nat) : EBox w0 (w.drewN q) g b k t m p A3 c3 l3 A4 c4 l4 :=
  ⟨h.box, h.res, h.len3, h.len4, h.tb, h.own3, h.own4, h.nb3, h.nb4, h.ap, h.cur, h.gl, h.bl, h.dr.drewN q⟩
theorem own_set {base q i n k : Nat} {e : TypeId} {v u : Value} {xs : List Value} (h : w.ownsRow base e k v n xs) (hb : v.ownBlock ≠ some q) : (w.setCell ⟨q, i, none⟩ u).ownsRow base e k v n xs :=
  row_same h fun q' hq => Below.heap_setCell w ⟨q, i, none⟩ u q' (by rintro rfl; exact hb hq)
theorem EBox.dset (h : EBox w0 w g b k t m p A3 c3 l3 A4 c4 l4) {q i : Nat} {u : Value} (hq : w0.heap.size ≤ q) : Drew g w0 (w.setCell ⟨q, i, none⟩ u) := Drew.then_below h.dr ((Below.refl _ _).setCell (p := ⟨q, i, none⟩) hq _)
theorem EBox.cset (h : EBox w0 w g b k t m p A3 c3 l3 A4 c4 l4) {q i : Nat} {u : Value} (hq : w0.heap.size ≤ q) : Cur (w.setCell ⟨q, i, none⟩ u) g k := h.cur.below' ((Below.refl q w).setCell (p := ⟨q, i, none⟩) (Nat.le_refl _) u) (by have := h.gl; omega)
theorem EBox.rset (h : EBox w0 w g b k t m p A3 c3 l3 A4 c4 l4) {q i : Nat} {u : Value} (hq : w0.heap.size < q) : (w.setCell ⟨q, i, none⟩ u).heap[w0.heap.size]? = some (.cells #[.int .i64 0, .int .i64 0, .int .i64 0, .slice none 0 0, .slice none 0 0] 51 (0, 0)) :=
  (Below.heap_setCell w ⟨q, i, none⟩ u _ (by simp only; omega)).trans h.res

theorem EBox.set0 (h : EBox w0 w g b k t m p A3 c3 l3 A4 c4 l4) (x : Int) (hx : -100000 ≤ x ∧ x ≤ 100000) : EBox w0 (w.setCell ⟨b, 0, none⟩ (.int .i64 x)) g b k x m p A3 c3 l3 A4 c4 l4 := by
  have hbl := h.bl
  refine ⟨?_, h.rset hbl, h.len3, h.len4, hx, own_set h.own3 h.nb3, own_set h.own4 h.nb4, h.nb3, h.nb4, h.ap, h.cset (by omega), h.gl, h.bl, h.dset (by omega)⟩
  have hb := h.box
  simp [World.setCell, Array.getElem?_modify, hb]

theorem EBox.set1 (h : EBox w0 w g b k t m p A3 c3 l3 A4 c4 l4) (x : Int) : EBox w0 (w.setCell ⟨b, 1, none⟩ (.int .i64 x)) g b k t x p A3 c3 l3 A4 c4 l4 := by
  have hbl := h.bl
  refine ⟨?_, h.rset hbl, h.len3, h.len4, h.tb, own_set h.own3 h.nb3, own_set h.own4 h.nb4, h.nb3, h.nb4, h.ap, h.cset (by omega), h.gl, h.bl, h.dset (by omega)⟩
  have hb := h.box
  simp [World.setCell, Array.getElem?_modify, hb]

theorem EBox.set2 (h : EBox w0 w g b k t m p A3 c3 l3 A4 c4 l4) (x : Int) : EBox w0 (w.setCell ⟨b, 2, none⟩ (.int .i64 x)) g b k t m x A3 c3 l3 A4 c4 l4 := by
  have hbl := h.bl
  refine ⟨?_, h.rset hbl, h.len3, h.len4, h.tb, own_set h.own3 h.nb3, own_set h.own4 h.nb4, h.nb3, h.nb4, h.ap, h.cset (by omega), h.gl, h.bl, h.dset (by omega)⟩
  have hb := h.box
  simp [World.setCell, Array.getElem?_modify, hb]

theorem EBox.set3 (h : EBox w0 w g b k t m p A3 c3 l3 A4 c4 l4) {A : Option Addr} {c : Nat} {l : List Int} (hl : l.length ≤ 10) (ho : w.ownsRow (w0.heap.size + 1) 3 1 (.slice A l.length c) l.length (ints l)) (nb : (Value.slice A l.length c).ownBlock ≠ some b) (ap : apart (.slice A4 l4.length c4) (.slice A l.length c)) : EBox w0 (w.setCell ⟨b, 3, none⟩ (.slice A l.length c)) g b k t m p A c l A4 c4 l4 := by
  have hbl := h.bl
  refine ⟨?_, h.rset hbl, hl, h.len4, h.tb, own_set ho nb, own_set h.own4 h.nb4, nb, h.nb4, ap, h.cset (by omega), h.gl, h.bl, h.dset (by omega)⟩
  have hb := h.box
  simp [World.setCell, Array.getElem?_modify, hb]
theorem EBox.set4 (h : EBox w0 w g b k t m p A3 c3 l3 A4 c4 l4) {A : Option Addr} {c : Nat} {l : List Int} (hl : l.length ≤ 10) (ho : w.ownsRow (w0.heap.size + 1) 3 1 (.slice A l.length c) l.length (ints l)) (nb : (Value.slice A l.length c).ownBlock ≠ some b) (ap : apart (.slice A l.length c) (.slice A3 l3.length c3)) : EBox w0 (w.setCell ⟨b, 4, none⟩ (.slice A l.length c)) g b k t m p A3 c3 l3 A c l := by
  have hbl := h.bl
  refine ⟨?_, h.rset hbl, h.len3, hl, h.tb, own_set h.own3 h.nb3, own_set ho nb, h.nb3, nb, ap, h.cset (by omega), h.gl, h.bl, h.dset (by omega)⟩
  have hb := h.box
  simp [World.setCell, Array.getElem?_modify, hb]

/-- A number of the shown signals is stored. -/
theorem EBox.setEl {q : Nat} (h : EBox w0 w g b k t m p A3 c3 l3 (some ⟨q, 0, none⟩) c4 l4) (i : Nat) (x : Int) : EBox w0 (w.setCell ⟨q, i, none⟩ (.int .i64 x)) g b k t m p A3 c3 l3 (some ⟨q, 0, none⟩) c4 (l4.set i x) := by
  have hbl := h.bl
  have hq := (h.own4.lt q rfl).1
  have hqb : b ≠ q := fun e => h.nb4 (by rw [e]; rfl)
  have hn3 : (Value.slice A3 l3.length c3).ownBlock ≠ some q := fun e => by
    rcases h.ap with h1 | h1
    · cases h1
    · exact h1 (by rw [e]; rfl)
  have hl : (l4.set i x).length = l4.length := by simp
  refine ⟨?_, h.rset (by omega), h.len3, by rw [hl]; exact h.len4, h.tb, own_set h.own3 hn3, ?_, h.nb3, by rw [hl]; exact h.nb4, by rw [hl]; exact h.ap, h.cset (by omega), h.gl, h.bl, h.dset (by omega)⟩
  · rw [hl]; exact (Below.heap_setCell w ⟨q, i, none⟩ _ _ hqb).trans h.box
  · rw [hl]
    have := (h.own4.stored i (.int .i64 x)).1
    have e : (ints l4).set i (.int .i64 x) = ints (l4.set i x) := by simp [ints, List.map_set]
    rw [← e]; exact this
theorem EBox.at4 (h : EBox w0 w g b k t m p A3 c3 l3 A4 c4 l4) (hp : 0 < l4.length) : ∃ q, A4 = some ⟨q, 0, none⟩ ∧ ∀ i, i < l4.length → (∃ u, w.cell? ⟨q, i, none⟩ = some u) ∧ w.frozen? ⟨q, i, none⟩ = false := by
  rcases h.own4.2 with ⟨_, h0⟩ | ⟨q, cap, cur, hv, _⟩
  · omega
  · injection hv with e1 e2 e3
    subst e1
    exact ⟨q, rfl, fun i hi => ⟨⟨_, (h.own4.cellAt i (by omega)).trans (List.getElem?_eq_getElem (by simpa using hi))⟩, h.own4.frozenAt i⟩⟩
theorem own_nb {base q n kk : Nat} {e : TypeId} {v : Value} {xs : List Value} (h : w.ownsRow base e kk v n xs) (hb : q < base) : v.ownBlock ≠ some q := fun e' => by have := (h.lt q e').1; omega
theorem own_apart {base base' n n' kk kk' : Nat} {e e' : TypeId} {u v : Value} {xs ys : List Value} (h : w.ownsRow base e kk v n xs) (h' : w'.ownsRow base' e' kk' u n' ys) (hb : w.heap.size ≤ base') : apart u v := by
  cases hq : u.ownBlock with
  | none => exact .inl hq
  | some q => exact .inr (fun e1 => by
      rw [hq] at e1
      have h1 := (h'.lt q hq).1
      have h2 := (h.lt q e1.symm).2
      omega)
/-- The result's cell takes the box's values. -/
theorem EBox.fin {v0 v1 v2 v3 v4 : Value} (h : EBox w0 w g b k t m p A3 c3 l3 A4 c4 l4) (hw : w' = (((((w.setCell ⟨w0.heap.size, 0, none⟩ v0).setCell ⟨w0.heap.size, 1, none⟩ v1).setCell ⟨w0.heap.size, 2, none⟩ v2).setCell ⟨w0.heap.size, 3, none⟩ v3).setCell ⟨w0.heap.size, 4, none⟩ v4)) :
    w'.heap[w0.heap.size]? = some (.cells #[v0, v1, v2, v3, v4] 51 (0, 0)) ∧ w'.ownsRow (w0.heap.size + 1) 3 1 (.slice A3 l3.length c3) l3.length (ints l3) ∧ w'.ownsRow (w0.heap.size + 1) 3 1 (.slice A4 l4.length c4) l4.length (ints l4) ∧ Cur w' g k ∧ Drew g w0 w' := by
  have hr := h.res
  have hn : ∀ (i : Nat) (u : Value) (W : World) (v : Value) (n : Nat) (xs : List Value), W.ownsRow (w0.heap.size + 1) 3 1 v n xs → (W.setCell ⟨w0.heap.size, i, none⟩ u).ownsRow (w0.heap.size + 1) 3 1 v n xs := fun i u W v n xs ho => own_set ho (own_nb ho (Nat.lt_succ_self _))
  have hB : Below w0.heap.size w w' := by
    rw [hw]
    exact (((((Below.refl _ _).setCell (p := ⟨w0.heap.size, 0, none⟩) (Nat.le_refl _) _).setCell (p := ⟨w0.heap.size, 1, none⟩) (Nat.le_refl _) _).setCell (p := ⟨w0.heap.size, 2, none⟩) (Nat.le_refl _) _).setCell (p := ⟨w0.heap.size, 3, none⟩) (Nat.le_refl _) _).setCell (p := ⟨w0.heap.size, 4, none⟩) (Nat.le_refl _) _
  refine ⟨?_, ?_, ?_, h.cur.below' hB h.gl, Drew.then_below h.dr hB⟩
  · rw [hw]; simp [World.setCell, Array.getElem?_modify, hr]
  · rw [hw]; exact hn _ _ _ _ _ _ (hn _ _ _ _ _ _ (hn _ _ _ _ _ _ (hn _ _ _ _ _ _ (hn _ _ _ _ _ _ h.own3))))
  · rw [hw]; exact hn _ _ _ _ _ _ (hn _ _ _ _ _ _ (hn _ _ _ _ _ _ (hn _ _ _ _ _ _ (hn _ _ _ _ _ _ h.own4))))
end

set_option maxHeartbeats 4000000 in
set_option maxRecDepth 100000 in
theorem entry_any (g k : Nat) (time : Int) (w : World) (hk : k ≤ 1000000) (htime : -100000 ≤ time ∧ time ≤ 100000) (h : Cur w g k) :
    Calls Try.prog 110 #[.pointer (some ⟨g, 0, none⟩), .int .i64 time] w fun e w' => ∃ t m p A3 c3 l3 A4 c4 l4, e = .returned (.agg #[.int .i64 t, .int .i64 m, .int .i64 p, .slice A3 (List.length l3) c3, .slice A4 (List.length l4) c4]) ∧ (-100000 ≤ t ∧ t ≤ 100000) ∧ l3.length ≤ 10 ∧ l4.length ≤ 10 ∧ w'.ownsRow (w.heap.size + 1) 3 1 (.slice A3 l3.length c3) l3.length (ints l3) ∧ w'.ownsRow (w.heap.size + 1) 3 1 (.slice A4 l4.length c4) l4.length (ints l4) ∧ Cur w' g (k + 1000) ∧ Drew g w w' := by
  have HGW : Hid (g < w.heap.size) := Lib.hid h.lt
  have HTM := Lib.hid htime
  obtain ⟨w0, hw0⟩ : ∃ w0, w0 = w.alloc (.cells #[.int .i64 0, .int .i64 0, .int .i64 0, .slice none 0 0, .slice none 0 0] 51) := ⟨_, rfl⟩
  have hB0 : Below w.heap.size w w0 := by rw [hw0]; exact (Below.refl _ _).alloc (Nat.le_refl _) _
  have HZ0 : Hid (w0.heap.size = w.heap.size + 1) := Lib.hid (by rw [hw0]; simp)
  have HR0 : Hid (w0.heap[w.heap.size]? = some (.cells #[.int .i64 0, .int .i64 0, .int .i64 0, .slice none 0 0, .slice none 0 0] 51 (0, 0))) := Lib.hid (by rw [hw0]; exact heap_alloc_new w _)
  have HC := Lib.hid (h.below hB0)
  have HD : Hid (Drew g w0 w0) := Lib.hid Turned.refl
  have HD0 := Lib.hid (Drew.of_below (g := g) hB0)
  have HW0 := Lib.hid hw0
  clear h hB0 hw0 htime
  go_enter Try.func110, Try.ntmps110
  go_wp2_with fail
  rw [← HW0.out]
  refine (amongLit_any g _ [1, 7, 12, 999] 3 w0 _ _ HZ0.out.symm rfl (by omega) (by simp) (by simp) HC.out).mono ?_
  rintro e w1 ⟨m, hm, rfl, hc, hd⟩
  have HC := Lib.hid hc; have HD := Lib.hid (HD.out.trans hd)
  clear hc hd hm
  go_wp2_with fail
  refine (pick_any g _ (4) _ (by omega) (by omega) HC.out).mono ?_
  rintro e w2 ⟨p, rfl, hp, hp', hc, hd⟩
  have HC := Lib.hid hc; have HD := Lib.hid (HD.out.trans hd)
  clear hc hd
  clear hp hp'
  go_wp2_with fail
  refine (pick_any g _ (3) _ (by omega) (by omega) HC.out).mono ?_
  rintro e w3 ⟨s, rfl, hs, hs', hc, hd⟩
  have HC := Lib.hid hc; have HD := Lib.hid (HD.out.trans hd)
  clear hc hd
  obtain ⟨S, hS⟩ : ∃ S : Nat, S = 1 + s := ⟨_, rfl⟩
  have eS : (1 : Int) + (s : Int) = (S : Int) := by omega
  have hS10 : S ≤ 10 := by omega
  have HSP : Hid (0 < S) := Lib.hid (by omega)
  clear hs hs' hS
  go_wp2_with fail
  refine (contents_any g _ S _ (by omega) hS10 HC.out).mono ?_
  rintro e w4 ⟨A3, c3, l3, rfl, hl3, ho3, hc, hd⟩
  have HP3 : Hid (0 < l3.length) := Lib.hid (by have := HSP.out; omega)
  have HZ3 : Hid (w.heap.size + 1 ≤ w3.heap.size) := Lib.hid (by have := HD.out.size; have := HZ0.out; omega)
  have HZ4 : Hid (w.heap.size + 1 ≤ w4.heap.size) := Lib.hid (by have := hd.size; have := HZ3.out; omega)
  have HE := Lib.hid (show EBox w (w4.alloc (.cells #[.int .i64 time, .int .i64 m, .int .i64 p, .slice A3 l3.length c3, .slice none 0 0] 51)) g w4.heap.size _ time m p A3 c3 l3 none 0 [] from
    ⟨heap_alloc_new w4 _, (heap_alloc_old w4 _ (by have := HZ4.out; omega)).trans (((HD.out.trans hd).block _ (by have := HZ0.out; omega) (by have := HGW.out; omega)).trans HR0.out), by omega, by simp, HTM.out, (own_mono ho3 HZ3.out).alloc _, own_start, (fun e => by have := (ho3.lt _ e).2; omega), (fun e => by cases e), .inl rfl, hc.below ((Below.refl _ _).alloc (Nat.le_refl _) _), HGW.out, by have := HZ4.out; omega, (HD0.out.trans (HD.out.trans hd)).trans (Drew.of_below ((Below.refl _ _).alloc (Nat.le_refl _) _))⟩)
  clear hc hd ho3 hl3 eS hS10 HC HD HD0 HR0 HZ0 HW0
  generalize hbb : w4.heap.size = b at *
  go_wp2_with fail
  refine (one_any g _ (24) _ (by omega) (by omega) HE.out.cur).mono ?_
  rintro e w5 ⟨b5, rfl, hc, hd⟩
  replace HE := Lib.hid (HE.out.drew hd hc)
  clear hc hd
  go_upto_if 19 with fail
  go_cut [] from 20 to 25 (fun wx => ∃ A3 c3 l3, EBox w wx g b (k + 200) time m p A3 c3 l3 none 0 [] ∧ 0 < l3.length)
  case first =>
    cases b5 with
    | false =>
      go_wp2_with fail
      go_meet
      case rel => exact ⟨A3, c3, l3, HE.out.more (by omega), HP3.out⟩
    | true =>
      go_wp2_with fail
      refine (pick_any g _ (2) _ (by omega) (by omega) HE.out.cur).mono ?_
      rintro e w6 ⟨s, rfl, hs, hs', hc, hd⟩
      replace HE := Lib.hid (HE.out.drew hd hc)
      clear hc hd
      obtain ⟨S2, hS⟩ : ∃ S2 : Nat, S2 = 8 + s := ⟨_, rfl⟩
      have eS : (8 : Int) + (s : Int) = (S2 : Int) := by omega
      have hS10 : S2 ≤ 10 := by omega
      have HSP2 : Hid (0 < S2) := Lib.hid (by omega)
      clear hs hs' hS
      go_wp2_with fail
      refine (contents_any g _ S2 _ (by omega) hS10 HE.out.cur).mono ?_
      rintro e w7 ⟨A5, c5, l5, rfl, hl5, ho5, hc, hd⟩
      have HL5 : Hid (0 < l5.length ∧ l5.length ≤ 10) := Lib.hid (by have := HSP2.out; omega)
      have HO5 := Lib.hid ho5
      have HBL : Hid (b < w6.heap.size ∧ w.heap.size < b) := Lib.hid ⟨HE.out.lt, HE.out.bl⟩
      replace HE := Lib.hid (HE.out.drew hd hc)
      clear hc hd ho5 hl5 eS hS10
      obtain ⟨k3, f3⟩ := box_at HE.out.box (j := 3) rfl
      go_wp2_with fail
      go_meet
      case rel => exact ⟨A5, c5, l5, (HE.out.set3 HL5.out.2 (own_mono HO5.out (by have := HBL.out; omega)) (own_nb HO5.out HBL.out.1) (.inl rfl)).more (by omega), HL5.out.1⟩
  case rest =>
  clear HE HP3
  obtain ⟨A3, c3, l3, he, hp3⟩ := hcut
  have HE := Lib.hid he; have HP3 := Lib.hid hp3
  clear he hp3
  have k3 := (box_at HE.out.box (j := 3) rfl).1
  have hl3 := HE.out.len3
  go_wp2_with fail
  refine (l1Own_any A3 l3.length c3 l3 wc (by omega) (Reads.of_own HE.out.own3)).mono ?_
  rintro e w8 ⟨A4, c4, rfl, ho4, hb4⟩
  have HO4 := Lib.hid ho4
  have HAP : Hid (apart (.slice A4 l3.length c4) (.slice A3 l3.length c3)) := Lib.hid (own_apart HE.out.own3 ho4 (Nat.le_refl _))
  have HBL : Hid (b < wc.heap.size ∧ w.heap.size < b) := Lib.hid ⟨HE.out.lt, HE.out.bl⟩
  replace HE := Lib.hid (HE.out.below hb4)
  clear ho4 hb4 k3
  obtain ⟨k4, f4⟩ := box_at HE.out.box (j := 4) rfl
  have HE4 := Lib.hid (HE.out.set4 (A := A4) (c := c4) hl3 (own_mono HO4.out (by have := HBL.out; omega)) (own_nb HO4.out HBL.out.1) HAP.out)
  clear HE
  have HE := HE4
  clear HE4 hl3
  go_wp2_with fail
  refine (one_any g _ (5) _ (by omega) (by omega) HE.out.cur).mono ?_
  rintro e w9 ⟨b9, rfl, hc, hd⟩
  replace HE := Lib.hid (HE.out.drew hd hc)
  clear hc hd k4 f4
  go_upto_if 31 with fail
  go_cut [] from 32 to 41 (fun wx => ∃ A4 c4 l4, EBox w wx g b (k + 300) time m p A3 c3 l3 A4 c4 l4 ∧ 0 < l4.length)
  case first =>
    cases b9 with
    | false =>
      go_wp2_with fail
      go_meet
      case rel => exact ⟨A4, c4, l3, HE.out.more (by omega), HP3.out⟩
    | true =>
      obtain ⟨q, rfl, hat⟩ := HE.out.at4 HP3.out
      clear hat
      have HED := Lib.hid (HE.out.tick 1)
      have k4 := (box_at HED.out.box (j := 4) rfl).1
      have hl3 := HED.out.len3
      go_wp2
      go_region_held3 (fun W => W.cell? ⟨b, 4, none⟩ = some (.slice (some ⟨q, 0, none⟩) l3.length c4)) (first | assumption | fail) (first | (go_at_call_of 106 (Value.int IntKind.i64 (l3.length : Int)); refine (pick_any g _ (l3.length : Int) _ (by omega) (by omega) HED.out.cur).mono ?_; rintro e wa ⟨x, rfl, hx, hx', hc, hd⟩; have HEA := Lib.hid (HED.out.drew hd hc); have hxl : x < l3.length := (by have := HP3.out; omega); clear hc hd hx hx'; have k4A := (box_at HEA.out.box (j := 4) rfl).1) | (go_at_call_of 106 (Value.int IntKind.i64 64); refine (pick_any g _ 64 _ (by omega) (by omega) HEA.out.cur).mono ?_; rintro e wb ⟨y, rfl, hy, hy', hc, hd⟩; have HEB := Lib.hid (HEA.out.drew hd hc); clear hc hd hy hy'; have k4B := (box_at HEB.out.box (j := 4) rfl).1; obtain ⟨q', e', hat'⟩ := HEB.out.at4 HP3.out; obtain ⟨⟨uq, kq⟩, fq⟩ := hat' x hxl; injection e' with e'; injection e' with e'; subst e'; clear hat'; have hxi : (x : Int) < (l3.length : Int) := (by omega); have hxi0 : (0 : Int) ≤ (x : Int) := (by omega); have HEC := Lib.hid (HEB.out.setEl x (y : Int)); have k4C := (box_at HEC.out.box (j := 4) rfl).1; rw [List.length_set] at k4C) | fail)
      go_wp2_with fail
      go_meet
      case rel => exact ⟨_, _, _, HEC.out.more (by omega), by rw [List.length_set]; exact HP3.out⟩
  case rest =>
  clear HE HP3
  obtain ⟨A4, c4, l4, he, hp4⟩ := hcut
  have HE := Lib.hid he; have HP4 := Lib.hid hp4
  clear he hp4
  go_wp2_with fail
  refine (pick_any g _ (40) _ (by omega) (by omega) HE.out.cur).mono ?_
  rintro e w10 ⟨x, rfl, hx, hx', hc, hd⟩
  replace HE := Lib.hid (HE.out.drew hd hc)
  clear hc hd
  clear hx hx'
  go_upto_block 0 with fail
  go_cut [] from 44 to 72 (fun wx => ∃ t m p A3 c3 l3 A4 c4 l4, EBox w wx g b (k + 900) t m p A3 c3 l3 A4 c4 l4)
  case first =>
    by_cases h0 : x = 0
    · subst h0
      go_wp2_with fail
      refine (amongLit_any g _ [-1, 10000, 10001] 3 _ _ _ rfl rfl (by omega) (by simp) (by simp) HE.out.cur).mono ?_
      rintro e w9 ⟨z, hz, rfl, hc, hd⟩
      replace HE := Lib.hid (HE.out.drew hd hc)
      clear hc hd
      obtain ⟨k0, f0⟩ := box_at HE.out.box (j := 0) rfl
      go_wp2_with fail
      go_meet
      case rel => exact ⟨_, _, _, _, _, _, _, _, _, (HE.out.set0 z (by simp at hz; omega)).more (by omega)⟩
    by_cases h1 : x = 1
    · subst h1
      go_wp2_with fail
      refine (amongLit_any g _ [0, 1000] 3 _ _ _ rfl rfl (by omega) (by simp) (by simp) HE.out.cur).mono ?_
      rintro e w9 ⟨z, hz, rfl, hc, hd⟩
      replace HE := Lib.hid (HE.out.drew hd hc)
      clear hc hd
      obtain ⟨k1, f1⟩ := box_at HE.out.box (j := 1) rfl
      go_wp2_with fail
      go_meet
      case rel => exact ⟨_, _, _, _, _, _, _, _, _, (HE.out.set1 z).more (by omega)⟩
    by_cases h2 : x = 2
    · subst h2
      go_wp2_with fail
      refine (amongLit_any g _ [-1, 8, 9] 3 _ _ _ rfl rfl (by omega) (by simp) (by simp) HE.out.cur).mono ?_
      rintro e w9 ⟨z, hz, rfl, hc, hd⟩
      replace HE := Lib.hid (HE.out.drew hd hc)
      clear hc hd
      obtain ⟨k2, f2⟩ := box_at HE.out.box (j := 2) rfl
      go_wp2_with fail
      go_meet
      case rel => exact ⟨_, _, _, _, _, _, _, _, _, (HE.out.set2 z).more (by omega)⟩
    by_cases h3 : x = 3
    · subst h3
      obtain ⟨k3, f3⟩ := box_at HE.out.box (j := 3) rfl
      go_wp2_with fail
      go_meet
      case rel => exact ⟨_, _, _, _, _, _, _, _, _, (HE.out.set3 (A := none) (c := 0) (l := []) (by simp) own_start (fun e => by cases e) (apart_symm (.inl rfl))).more (by omega)⟩
    by_cases h4 : x = 4
    · subst h4
      obtain ⟨q, rfl, hat⟩ := HE.out.at4 HP4.out
      clear hat
      have HED := Lib.hid (HE.out.tick 1)
      have k4 := (box_at HED.out.box (j := 4) rfl).1
      have hp4 := HP4.out
      have k4D : ∀ o, (w10.alloc o).drew.cell? ⟨b, 4, none⟩ = some (.slice (some ⟨q, 0, none⟩) l4.length c4) := fun o => (World.cell?_alloc_lt w10 o _ (World.block_lt_of_cell? w10 _ (box_at HE.out.box (j := 4) rfl).1)).trans (box_at HE.out.box (j := 4) rfl).1
      go_wp2
      go_region_held3 (fun W => W.cell? ⟨b, 4, none⟩ = some (.slice (some ⟨q, 0, none⟩) l4.length c4)) (first | assumption | (exact k4D _) | fail) (first | (go_at_call 107; refine (amongLit_any g _ [-1, 0, 63, 64] 3 (w10.drewN 1) _ _ rfl rfl (by omega) (by simp) (by simp) HED.out.cur).mono ?_; rintro e wb ⟨y, hy, rfl, hc, hd⟩; have HEB := Lib.hid (HED.out.drew hd hc); clear hc hd hy; have k4B := (box_at HEB.out.box (j := 4) rfl).1; obtain ⟨q', e', hat'⟩ := HEB.out.at4 HP4.out; obtain ⟨⟨uq, kq⟩, fq⟩ := hat' 0 HP4.out; injection e' with e'; injection e' with e'; subst e'; clear hat'; have HEC := Lib.hid (HEB.out.setEl 0 y); have k4C := (box_at HEC.out.box (j := 4) rfl).1; rw [List.length_set] at k4C) | fail)
      go_wp2_with fail
      go_meet
      case rel => exact ⟨_, _, _, _, _, _, _, _, _, HEC.out.more (by omega)⟩
    · have g0 : ((x : Int) == 0) = false := by rw [beq_eq_false_iff_ne]; omega
      have g1 : ((x : Int) == 1) = false := by rw [beq_eq_false_iff_ne]; omega
      have g2 : ((x : Int) == 2) = false := by rw [beq_eq_false_iff_ne]; omega
      have g3 : ((x : Int) == 3) = false := by rw [beq_eq_false_iff_ne]; omega
      have g4 : ((x : Int) == 4) = false := by rw [beq_eq_false_iff_ne]; omega
      clear h0 h1 h2 h3 h4
      go_wp2_with fail
      go_meet
      case rel => exact ⟨_, _, _, _, _, _, _, _, _, HE.out.more (by omega)⟩
  case rest =>
  clear HE HP4
  obtain ⟨t, m, p, A3, c3, l3, A4, c4, l4, he⟩ := hcut
  have HE := Lib.hid he
  clear he
  obtain ⟨k0, f0⟩ := box_at HE.out.box (j := 0) rfl
  obtain ⟨k1, f1⟩ := box_at HE.out.box (j := 1) rfl
  obtain ⟨k2, f2⟩ := box_at HE.out.box (j := 2) rfl
  obtain ⟨k3, f3⟩ := box_at HE.out.box (j := 3) rfl
  obtain ⟨k4, f4⟩ := box_at HE.out.box (j := 4) rfl
  obtain ⟨r0, y0⟩ := box_at HE.out.res (j := 0) rfl
  obtain ⟨r1, y1⟩ := box_at HE.out.res (j := 1) rfl
  obtain ⟨r2, y2⟩ := box_at HE.out.res (j := 2) rfl
  obtain ⟨r3, y3⟩ := box_at HE.out.res (j := 3) rfl
  obtain ⟨r4, y4⟩ := box_at HE.out.res (j := 4) rfl
  go_wp2_with fail
  obtain ⟨hres, ho3, ho4, hcc, hdd⟩ := HE.out.fin (v0 := .int .i64 t) (v1 := .int .i64 m) (v2 := .int .i64 p) (v3 := .slice A3 l3.length c3) (v4 := .slice A4 l4.length c4) rfl
  obtain ⟨z0, _⟩ := box_at hres (j := 0) rfl
  obtain ⟨z1, _⟩ := box_at hres (j := 1) rfl
  obtain ⟨z2, _⟩ := box_at hres (j := 2) rfl
  obtain ⟨z3, _⟩ := box_at hres (j := 3) rfl
  obtain ⟨z4, _⟩ := box_at hres (j := 4) rfl
  try simp only [Exit.inBlock, Exit.then]
  refine bodyPost_ret (v := .agg #[.int .i64 t, .int .i64 m, .int .i64 p, .slice A3 l3.length c3, .slice A4 l4.length c4]) (by simp [results, Try.results110, go_sem, z0, z1, z2, z3, z4]) rfl ?_
  exact ⟨t, m, p, A3, c3, l3, A4, c4, l4, rfl, HE.out.tb, HE.out.len3, HE.out.len4, ho3, ho4, hcc.mono (by omega), hdd⟩

end Go.Proofs.Ytcjmlakmigfkfaa
