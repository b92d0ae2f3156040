/- Lemmas and contracts of this claim, several texts in one: The spec's drawings of entries: entry. An append to a row of the call's own: the old slice is still the call's own behind it. Speaks of no function. Logs that are being built: what is kept of them while other memory turns. Speaks of no function. The spec's drawings of logs: log. No conditions. -/
import Derived.Deep.RegionHeld3
import Derived.Deep.RegionLaw
import Derived.Deep.CutBlock
import Derived.Test.YtcjmlakmigfkfaaZFilled14
import Derived.Test.YtcjmlakmigfkfaaZFilled3
import Derived.Test.YtcjmlakmigfkfaaZFilled6
import Derived.Test.YtcjmlakmigfkfaaZFilled5
import Derived.Test.YtcjmlakmigfkfaaZFilled4
namespace Go.Proofs.Ytcjmlakmigfkfaa
set_option linter.unusedSimpArgs false
set_option linter.unusedVariables false
open Go.RowKit

/-- The box of an entry that is being drawn: two rows of the call's own, apart from it, from one another and from the result's cell. -/
structure EBox (w0 w : World) (g b k : Nat) (t m p : Int) (A3 : Option Addr) (c3 : Nat) (l3 : List Int) (A4 : Option Addr) (c4 : Nat) (l4 : List Int) : Prop where
  box : w.heap[b]? = some (.cells #[.int .i64 t, .int .i64 m, .int .i64 p, .slice A3 l3.length c3, .slice A4 l4.length c4] 51 (0, 0))
  res : w.heap[w0.heap.size]? = some (.cells #[.int .i64 0, .int .i64 0, .int .i64 0, .slice none 0 0, .slice none 0 0] 51 (0, 0))
  len3 : l3.length ≤ 10
  len4 : l4.length ≤ 10
  tb : -100000 ≤ t ∧ t ≤ 100000
  own3 : w.ownsRow (w0.heap.size + 1) 3 1 (.slice A3 l3.length c3) l3.length (ints l3)
  own4 : w.ownsRow (w0.heap.size + 1) 3 1 (.slice A4 l4.length c4) l4.length (ints l4)
  nb3 : (Value.slice A3 l3.length c3).ownBlock ≠ some b
  nb4 : (Value.slice A4 l4.length c4).ownBlock ≠ some b
  ap : apart (.slice A4 l4.length c4) (.slice A3 l3.length c3)
  cur : Cur w g k
  gl : g < w0.heap.size
  bl : w0.heap.size < b
  dr : Drew g w0 w
section
variable {w0 w w' : World} {g b k k' : Nat} {t m p : Int} {A3 A4 : Option Addr} {c3 c4 : Nat} {l3 l4 : List Int}
theorem EBox.lt (h : EBox w0 w g b k t m p A3 c3 l3 A4 c4 l4) : b < w.heap.size := (Array.getElem?_eq_some_iff.1 h.box).1
theorem EBox.drew (h : EBox w0 w g b k t m p A3 c3 l3 A4 c4 l4) (hd : Drew g w w') (hc : Cur w' g k') : EBox w0 w' g b k' t m p A3 c3 l3 A4 c4 l4 := by
  have hlt := h.lt
  have := h.gl
  have := h.bl
  exact ⟨(hd.block b hlt (by omega)).trans h.box, (hd.block _ (by omega) (by omega)).trans h.res, h.len3, h.len4, h.tb, hd.own h.own3 (by omega), hd.own h.own4 (by omega), h.nb3, h.nb4, h.ap, hc, h.gl, h.bl, h.dr.trans hd⟩
theorem EBox.below (h : EBox w0 w g b k t m p A3 c3 l3 A4 c4 l4) (hd : Below w.heap.size w w') : EBox w0 w' g b k t m p A3 c3 l3 A4 c4 l4 :=
  h.drew (Drew.of_below hd) (h.cur.below hd)
theorem EBox.more (h : EBox w0 w g b k t m p A3 c3 l3 A4 c4 l4) (hk : k ≤ k') : EBox w0 w g b k' t m p A3 c3 l3 A4 c4 l4 :=
  ⟨h.box, h.res, h.len3, h.len4, h.tb, h.own3, h.own4, h.nb3, h.nb4, h.ap, h.cur.mono hk, h.gl, h.bl, h.dr⟩
theorem EBox.tick (h : EBox w0 w g b k t m p A3 c3 l3 A4 c4 l4) (q : Nat) : EBox w0 (w.drewN q) g b k t m p A3 c3 l3 A4 c4 l4 :=
  ⟨h.box, h.res, h.len3, h.len4, h.tb, h.own3, h.own4, h.nb3, h.nb4, h.ap, h.cur, h.gl, h.bl, h.dr.drewN q⟩
theorem own_set {base q i n k : Nat} {e : TypeId} {v u : Value} {xs : List Value} (h : w.ownsRow base e k v n xs) (hb : v.ownBlock ≠ some q) : (w.setCell ⟨q, i, none⟩ u).ownsRow base e k v n xs :=
  row_same h fun q' hq => Below.heap_setCell w ⟨q, i, none⟩ u q' (by rintro rfl; exact hb hq)
theorem EBox.dset (h : EBox w0 w g b k t m p A3 c3 l3 A4 c4 l4) {q i : Nat} {u : Value} (hq : w0.heap.size ≤ q) : Drew g w0 (w.setCell ⟨q, i, none⟩ u) := Drew.then_below h.dr ((Below.refl _ _).setCell (p := ⟨q, i, none⟩) hq _)
theorem EBox.cset (h : EBox w0 w g b k t m p A3 c3 l3 A4 c4 l4) {q i : Nat} {u : Value} (hq : w0.heap.size ≤ q) : Cur (w.setCell ⟨q, i, none⟩ u) g k := h.cur.below' ((Below.refl q w).setCell (p := ⟨q, i, none⟩) (Nat.le_refl _) u) (by have := h.gl; omega)
theorem EBox.rset (h : EBox w0 w g b k t m p A3 c3 l3 A4 c4 l4) {q i : Nat} {u : Value} (hq : w0.heap.size < q) : (w.setCell ⟨q, i, none⟩ u).heap[w0.heap.size]? = some (.cells #[.int .i64 0, .int .i64 0, .int .i64 0, .slice none 0 0, .slice none 0 0] 51 (0, 0)) :=
  (Below.heap_setCell w ⟨q, i, none⟩ u _ (by simp only; omega)).trans h.res

theorem EBox.set0 (h : EBox w0 w g b k t m p A3 c3 l3 A4 c4 l4) (x : Int) (hx : -100000 ≤ x ∧ x ≤ 100000) : EBox w0 (w.setCell ⟨b, 0, none⟩ (.int .i64 x)) g b k x m p A3 c3 l3 A4 c4 l4 := by
  have hbl := h.bl
  refine ⟨?_, h.rset hbl, h.len3, h.len4, hx, own_set h.own3 h.nb3, own_set h.own4 h.nb4, h.nb3, h.nb4, h.ap, h.cset (by omega), h.gl, h.bl, h.dset (by omega)⟩
  have hb := h.box
  simp [World.setCell, Array.getElem?_modify, hb]

theorem EBox.set1 (h : EBox w0 w g b k t m p A3 c3 l3 A4 c4 l4) (x : Int) : EBox w0 (w.setCell ⟨b, 1, none⟩ (.int .i64 x)) g b k t x p A3 c3 l3 A4 c4 l4 := by
  have hbl := h.bl
  refine ⟨?_, h.rset hbl, h.len3, h.len4, h.tb, own_set h.own3 h.nb3, own_set h.own4 h.nb4, h.nb3, h.nb4, h.ap, h.cset (by omega), h.gl, h.bl, h.dset (by omega)⟩
  have hb := h.box
  simp [World.setCell, Array.getElem?_modify, hb]

theorem EBox.set2 (h : EBox w0 w g b k t m p A3 c3 l3 A4 c4 l4) (x : Int) : EBox w0 (w.setCell ⟨b, 2, none⟩ (.int .i64 x)) g b k t m x A3 c3 l3 A4 c4 l4 := by
  have hbl := h.bl
  refine ⟨?_, h.rset hbl, h.len3, h.len4, h.tb, own_set h.own3 h.nb3, own_set h.own4 h.nb4, h.nb3, h.nb4, h.ap, h.cset (by omega), h.gl, h.bl, h.dset (by omega)⟩
  have hb := h.box
  simp [World.setCell, Array.getElem?_modify, hb]

theorem EBox.set3 (h : EBox w0 w g b k t m p A3 c3 l3 A4 c4 l4) {A : Option Addr} {c : Nat} {l : List Int} (hl : l.length ≤ 10) (ho : w.ownsRow (w0.heap.size + 1) 3 1 (.slice A l.length c) l.length (ints l)) (nb : (Value.slice A l.length c).ownBlock ≠ some b) (ap : apart (.slice A4 l4.length c4) (.slice A l.length c)) : EBox w0 (w.setCell ⟨b, 3, none⟩ (.slice A l.length c)) g b k t m p A c l A4 c4 l4 := by
  have hbl := h.bl
  refine ⟨?_, h.rset hbl, hl, h.len4, h.tb, own_set ho nb, own_set h.own4 h.nb4, nb, h.nb4, ap, h.cset (by omega), h.gl, h.bl, h.dset (by omega)⟩
  have hb := h.box
  simp [World.setCell, Array.getElem?_modify, hb]
theorem EBox.set4 (h : EBox w0 w g b k t m p A3 c3 l3 A4 c4 l4) {A : Option Addr} {c : Nat} {l : List Int} (hl : l.length ≤ 10) (ho : w.ownsRow (w0.heap.size + 1) 3 1 (.slice A l.length c) l.length (ints l)) (nb : (Value.slice A l.length c).ownBlock ≠ some b) (ap : apart (.slice A l.length c) (.slice A3 l3.length c3)) : EBox w0 (w.setCell ⟨b, 4, none⟩ (.slice A l.length c)) g b k t m p A3 c3 l3 A c l := by
  have hbl := h.bl
  refine ⟨?_, h.rset hbl, h.len3, hl, h.tb, own_set h.own3 h.nb3, own_set ho nb, h.nb3, nb, ap, h.cset (by omega), h.gl, h.bl, h.dset (by omega)⟩
  have hb := h.box
  simp [World.setCell, Array.getElem?_modify, hb]

/-- A number of the shown signals is stored. -/
theorem EBox.setEl {q : Nat} (h : EBox w0 w g b k t m p A3 c3 l3 (some ⟨q, 0, none⟩) c4 l4) (i : Nat) (x : Int) : EBox w0 (w.setCell ⟨q, i, none⟩ (.int .i64 x)) g b k t m p A3 c3 l3 (some ⟨q, 0, none⟩) c4 (l4.set i x) := by
  have hbl := h.bl
  have hq := (h.own4.lt q rfl).1
  have hqb : b ≠ q := fun e => h.nb4 (by rw [e]; rfl)
  have hn3 : (Value.slice A3 l3.length c3).ownBlock ≠ some q := fun e => by
    rcases h.ap with h1 | h1
    · cases h1
    · exact h1 (by rw [e]; rfl)
  have hl : (l4.set i x).length = l4.length := by simp
  refine ⟨?_, h.rset (by omega), h.len3, by rw [hl]; exact h.len4, h.tb, own_set h.own3 hn3, ?_, h.nb3, by rw [hl]; exact h.nb4, by rw [hl]; exact h.ap, h.cset (by omega), h.gl, h.bl, h.dset (by omega)⟩
  · rw [hl]; exact (Below.heap_setCell w ⟨q, i, none⟩ _ _ hqb).trans h.box
  · rw [hl]
    have := (h.own4.stored i (.int .i64 x)).1
    have e : (ints l4).set i (.int .i64 x) = ints (l4.set i x) := by simp [ints, List.map_set]
    rw [← e]; exact this
theorem EBox.at4 (h : EBox w0 w g b k t m p A3 c3 l3 A4 c4 l4) (hp : 0 < l4.length) : ∃ q, A4 = some ⟨q, 0, none⟩ ∧ ∀ i, i < l4.length → (∃ u, w.cell? ⟨q, i, none⟩ = some u) ∧ w.frozen? ⟨q, i, none⟩ = false := by
  rcases h.own4.2 with ⟨_, h0⟩ | ⟨q, cap, cur, hv, _⟩
  · omega
  · injection hv with e1 e2 e3
    subst e1
    exact ⟨q, rfl, fun i hi => ⟨⟨_, (h.own4.cellAt i (by omega)).trans (List.getElem?_eq_getElem (by simpa using hi))⟩, h.own4.frozenAt i⟩⟩
theorem own_nb {base q n kk : Nat} {e : TypeId} {v : Value} {xs : List Value} (h : w.ownsRow base e kk v n xs) (hb : q < base) : v.ownBlock ≠ some q := fun e' => by have := (h.lt q e').1; omega
theorem own_apart {base base' n n' kk kk' : Nat} {e e' : TypeId} {u v : Value} {xs ys : List Value} (h : w.ownsRow base e kk v n xs) (h' : w'.ownsRow base' e' kk' u n' ys) (hb : w.heap.size ≤ base') : apart u v := by
  cases hq : u.ownBlock with
  | none => exact .inl hq
  | some q => exact .inr (fun e1 => by
      rw [hq] at e1
      have h1 := (h'.lt q hq).1
      have h2 := (h.lt q e1.symm).2
      omega)
/-- The result's cell takes the box's values. -/
theorem EBox.fin {v0 v1 v2 v3 v4 : Value} (h : EBox w0 w g b k t m p A3 c3 l3 A4 c4 l4) (hw : w' = (((((w.setCell ⟨w0.heap.size, 0, none⟩ v0).setCell ⟨w0.heap.size, 1, none⟩ v1).setCell ⟨w0.heap.size, 2, none⟩ v2).setCell ⟨w0.heap.size, 3, none⟩ v3).setCell ⟨w0.heap.size, 4, none⟩ v4)) :
    w'.heap[w0.heap.size]? = some (.cells #[v0, v1, v2, v3, v4] 51 (0, 0)) ∧ w'.ownsRow (w0.heap.size + 1) 3 1 (.slice A3 l3.length c3) l3.length (ints l3) ∧ w'.ownsRow (w0.heap.size + 1) 3 1 (.slice A4 l4.length c4) l4.length (ints l4) ∧ Cur w' g k ∧ Drew g w0 w' := by
  have hr := h.res
  have hn : ∀ (i : Nat) (u : Value) (W : World) (v : Value) (n : Nat) (xs : List Value), W.ownsRow (w0.heap.size + 1) 3 1 v n xs → (W.setCell ⟨w0.heap.size, i, none⟩ u).ownsRow (w0.heap.size + 1) 3 1 v n xs := fun i u W v n xs ho => own_set ho (own_nb ho (Nat.lt_succ_self _))
  have hB : Below w0.heap.size w w' := by
    rw [hw]
    exact (((((Below.refl _ _).setCell (p := ⟨w0.heap.size, 0, none⟩) (Nat.le_refl _) _).setCell (p := ⟨w0.heap.size, 1, none⟩) (Nat.le_refl _) _).setCell (p := ⟨w0.heap.size, 2, none⟩) (Nat.le_refl _) _).setCell (p := ⟨w0.heap.size, 3, none⟩) (Nat.le_refl _) _).setCell (p := ⟨w0.heap.size, 4, none⟩) (Nat.le_refl _) _
  refine ⟨?_, ?_, ?_, h.cur.below' hB h.gl, Drew.then_below h.dr hB⟩
  · rw [hw]; simp [World.setCell, Array.getElem?_modify, hr]
  · rw [hw]; exact hn _ _ _ _ _ _ (hn _ _ _ _ _ _ (hn _ _ _ _ _ _ (hn _ _ _ _ _ _ (hn _ _ _ _ _ _ h.own3))))
  · rw [hw]; exact hn _ _ _ _ _ _ (hn _ _ _ _ _ _ (hn _ _ _ _ _ _ (hn _ _ _ _ _ _ (hn _ _ _ _ _ _ h.own4))))
end

set_option maxHeartbeats 4000000 in
set_option maxRecDepth 100000 in
theorem entry_any (g k : Nat) (time : Int) (w : World) (hk : k ≤ 1000000) (htime : -100000 ≤ time ∧ time ≤ 100000) (h : Cur w g k) :
    Calls Try.prog 110 #[.pointer (some ⟨g, 0, none⟩), .int .i64 time] w fun e w' => ∃ t m p A3 c3 l3 A4 c4 l4, e = .returned (.agg #[.int .i64 t, .int .i64 m, .int .i64 p, .slice A3 (List.length l3) c3, .slice A4 (List.length l4) c4]) ∧ (-100000 ≤ t ∧ t ≤ 100000) ∧ l3.length ≤ 10 ∧ l4.length ≤ 10 ∧ w'.ownsRow (w.heap.size + 1) 3 1 (.slice A3 l3.length c3) l3.length (ints l3) ∧ w'.ownsRow (w.heap.size + 1) 3 1 (.slice A4 l4.length c4) l4.length (ints l4) ∧ Cur w' g (k + 1000) ∧ Drew g w w' := by
  have HGW : Hid (g < w.heap.size) := Lib.hid h.lt
  have HTM := Lib.hid htime
  obtain ⟨w0, hw0⟩ : ∃ w0, w0 = w.alloc (.cells #[.int .i64 0, .int .i64 0, .int .i64 0, .slice none 0 0, .slice none 0 0] 51) := ⟨_, rfl⟩
  have hB0 : Below w.heap.size w w0 := by rw [hw0]; exact (Below.refl _ _).alloc (Nat.le_refl _) _
  have HZ0 : Hid (w0.heap.size = w.heap.size + 1) := Lib.hid (by rw [hw0]; simp)
  have HR0 : Hid (w0.heap[w.heap.size]? = some (.cells #[.int .i64 0, .int .i64 0, .int .i64 0, .slice none 0 0, .slice none 0 0] 51 (0, 0))) := Lib.hid (by rw [hw0]; exact heap_alloc_new w _)
  have HC := Lib.hid (h.below hB0)
  have HD : Hid (Drew g w0 w0) := Lib.hid Turned.refl
  have HD0 := Lib.hid (Drew.of_below (g := g) hB0)
  have HW0 := Lib.hid hw0
  clear h hB0 hw0 htime
  go_enter Try.func110, Try.ntmps110
  go_wp2_with fail
  rw [← HW0.out]
  refine (amongLit_any g _ [1, 7, 12, 999] 3 w0 _ _ HZ0.out.symm rfl (by omega) (by simp) (by simp) HC.out).mono ?_
  rintro e w1 ⟨m, hm, rfl, hc, hd⟩
  have HC := Lib.hid hc; have HD := Lib.hid (HD.out.trans hd)
  clear hc hd hm
  go_wp2_with fail
  refine (pick_any g _ (4) _ (by omega) (by omega) HC.out).mono ?_
  rintro e w2 ⟨p, rfl, hp, hp', hc, hd⟩
  have HC := Lib.hid hc; have HD := Lib.hid (HD.out.trans hd)
  clear hc hd
  clear hp hp'
  go_wp2_with fail
  refine (pick_any g _ (3) _ (by omega) (by omega) HC.out).mono ?_
  rintro e w3 ⟨s, rfl, hs, hs', hc, hd⟩
  have HC := Lib.hid hc; have HD := Lib.hid (HD.out.trans hd)
  clear hc hd
  obtain ⟨S, hS⟩ : ∃ S : Nat, S = 1 + s := ⟨_, rfl⟩
  have eS : (1 : Int) + (s : Int) = (S : Int) := by omega
  have hS10 : S ≤ 10 := by omega
  have HSP : Hid (0 < S) := Lib.hid (by omega)
  clear hs hs' hS
  go_wp2_with fail
  refine (contents_any g _ S _ (by omega) hS10 HC.out).mono ?_
  rintro e w4 ⟨A3, c3, l3, rfl, hl3, ho3, hc, hd⟩
  have HP3 : Hid (0 < l3.length) := Lib.hid (by have := HSP.out; omega)
  have HZ3 : Hid (w.heap.size + 1 ≤ w3.heap.size) := Lib.hid (by have := HD.out.size; have := HZ0.out; omega)
  have HZ4 : Hid (w.heap.size + 1 ≤ w4.heap.size) := Lib.hid (by have := hd.size; have := HZ3.out; omega)
  have HE := Lib.hid (show EBox w (w4.alloc (.cells #[.int .i64 time, .int .i64 m, .int .i64 p, .slice A3 l3.length c3, .slice none 0 0] 51)) g w4.heap.size _ time m p A3 c3 l3 none 0 [] from
    ⟨heap_alloc_new w4 _, (heap_alloc_old w4 _ (by have := HZ4.out; omega)).trans (((HD.out.trans hd).block _ (by have := HZ0.out; omega) (by have := HGW.out; omega)).trans HR0.out), by omega, by simp, HTM.out, (own_mono ho3 HZ3.out).alloc _, own_start, (fun e => by have := (ho3.lt _ e).2; omega), (fun e => by cases e), .inl rfl, hc.below ((Below.refl _ _).alloc (Nat.le_refl _) _), HGW.out, by have := HZ4.out; omega, (HD0.out.trans (HD.out.trans hd)).trans (Drew.of_below ((Below.refl _ _).alloc (Nat.le_refl _) _))⟩)
  clear hc hd ho3 hl3 eS hS10 HC HD HD0 HR0 HZ0 HW0
  generalize hbb : w4.heap.size = b at *
  go_wp2_with fail
  refine (one_any g _ (24) _ (by omega) (by omega) HE.out.cur).mono ?_
  rintro e w5 ⟨b5, rfl, hc, hd⟩
  replace HE := Lib.hid (HE.out.drew hd hc)
  clear hc hd
  go_upto_if 19 with fail
  go_cut [] from 20 to 25 (fun wx => ∃ A3 c3 l3, EBox w wx g b (k + 200) time m p A3 c3 l3 none 0 [] ∧ 0 < l3.length)
  case first =>
    cases b5 with
    | false =>
      go_wp2_with fail
      go_meet
      case rel => exact ⟨A3, c3, l3, HE.out.more (by omega), HP3.out⟩
    | true =>
      go_wp2_with fail
      refine (pick_any g _ (2) _ (by omega) (by omega) HE.out.cur).mono ?_
      rintro e w6 ⟨s, rfl, hs, hs', hc, hd⟩
      replace HE := Lib.hid (HE.out.drew hd hc)
      clear hc hd
      obtain ⟨S2, hS⟩ : ∃ S2 : Nat, S2 = 8 + s := ⟨_, rfl⟩
      have eS : (8 : Int) + (s : Int) = (S2 : Int) := by omega
      have hS10 : S2 ≤ 10 := by omega
      have HSP2 : Hid (0 < S2) := Lib.hid (by omega)
      clear hs hs' hS
      go_wp2_with fail
      refine (contents_any g _ S2 _ (by omega) hS10 HE.out.cur).mono ?_
      rintro e w7 ⟨A5, c5, l5, rfl, hl5, ho5, hc, hd⟩
      have HL5 : Hid (0 < l5.length ∧ l5.length ≤ 10) := Lib.hid (by have := HSP2.out; omega)
      have HO5 := Lib.hid ho5
      have HBL : Hid (b < w6.heap.size ∧ w.heap.size < b) := Lib.hid ⟨HE.out.lt, HE.out.bl⟩
      replace HE := Lib.hid (HE.out.drew hd hc)
      clear hc hd ho5 hl5 eS hS10
      obtain ⟨k3, f3⟩ := box_at HE.out.box (j := 3) rfl
      go_wp2_with fail
      go_meet
      case rel => exact ⟨A5, c5, l5, (HE.out.set3 HL5.out.2 (own_mono HO5.out (by have := HBL.out; omega)) (own_nb HO5.out HBL.out.1) (.inl rfl)).more (by omega), HL5.out.1⟩
  case rest =>
  clear HE HP3
  obtain ⟨A3, c3, l3, he, hp3⟩ := hcut
  have HE := Lib.hid he; have HP3 := Lib.hid hp3
  clear he hp3
  have k3 := (box_at HE.out.box (j := 3) rfl).1
  have hl3 := HE.out.len3
  go_wp2_with fail
  refine (l1Own_any A3 l3.length c3 l3 wc (by omega) (Reads.of_own HE.out.own3)).mono ?_
  rintro e w8 ⟨A4, c4, rfl, ho4, hb4⟩
  have HO4 := Lib.hid ho4
  have HAP : Hid (apart (.slice A4 l3.length c4) (.slice A3 l3.length c3)) := Lib.hid (own_apart HE.out.own3 ho4 (Nat.le_refl _))
  have HBL : Hid (b < wc.heap.size ∧ w.heap.size < b) := Lib.hid ⟨HE.out.lt, HE.out.bl⟩
  replace HE := Lib.hid (HE.out.below hb4)
  clear ho4 hb4 k3
  obtain ⟨k4, f4⟩ := box_at HE.out.box (j := 4) rfl
  have HE4 := Lib.hid (HE.out.set4 (A := A4) (c := c4) hl3 (own_mono HO4.out (by have := HBL.out; omega)) (own_nb HO4.out HBL.out.1) HAP.out)
  clear HE
  have HE := HE4
  clear HE4 hl3
  go_wp2_with fail
  refine (one_any g _ (5) _ (by omega) (by omega) HE.out.cur).mono ?_
  rintro e w9 ⟨b9, rfl, hc, hd⟩
  replace HE := Lib.hid (HE.out.drew hd hc)
  clear hc hd k4 f4
  go_upto_if 31 with fail
  go_cut [] from 32 to 41 (fun wx => ∃ A4 c4 l4, EBox w wx g b (k + 300) time m p A3 c3 l3 A4 c4 l4 ∧ 0 < l4.length)
  case first =>
    cases b9 with
    | false =>
      go_wp2_with fail
      go_meet
      case rel => exact ⟨A4, c4, l3, HE.out.more (by omega), HP3.out⟩
    | true =>
      obtain ⟨q, rfl, hat⟩ := HE.out.at4 HP3.out
      clear hat
      have HED := Lib.hid (HE.out.tick 1)
      have k4 := (box_at HED.out.box (j := 4) rfl).1
      have hl3 := HED.out.len3
      go_wp2
      go_region_held3 (fun W => W.cell? ⟨b, 4, none⟩ = some (.slice (some ⟨q, 0, none⟩) l3.length c4)) (first | assumption | fail) (first | (go_at_call_of 106 (Value.int IntKind.i64 (l3.length : Int)); refine (pick_any g _ (l3.length : Int) _ (by omega) (by omega) HED.out.cur).mono ?_; rintro e wa ⟨x, rfl, hx, hx', hc, hd⟩; have HEA := Lib.hid (HED.out.drew hd hc); have hxl : x < l3.length := (by have := HP3.out; omega); clear hc hd hx hx'; have k4A := (box_at HEA.out.box (j := 4) rfl).1) | (go_at_call_of 106 (Value.int IntKind.i64 64); refine (pick_any g _ 64 _ (by omega) (by omega) HEA.out.cur).mono ?_; rintro e wb ⟨y, rfl, hy, hy', hc, hd⟩; have HEB := Lib.hid (HEA.out.drew hd hc); clear hc hd hy hy'; have k4B := (box_at HEB.out.box (j := 4) rfl).1; obtain ⟨q', e', hat'⟩ := HEB.out.at4 HP3.out; obtain ⟨⟨uq, kq⟩, fq⟩ := hat' x hxl; injection e' with e'; injection e' with e'; subst e'; clear hat'; have hxi : (x : Int) < (l3.length : Int) := (by omega); have hxi0 : (0 : Int) ≤ (x : Int) := (by omega); have HEC := Lib.hid (HEB.out.setEl x (y : Int)); have k4C := (box_at HEC.out.box (j := 4) rfl).1; rw [List.length_set] at k4C) | fail)
      go_wp2_with fail
      go_meet
      case rel => exact ⟨_, _, _, HEC.out.more (by omega), by rw [List.length_set]; exact HP3.out⟩
  case rest =>
  clear HE HP3
  obtain ⟨A4, c4, l4, he, hp4⟩ := hcut
  have HE := Lib.hid he; have HP4 := Lib.hid hp4
  clear he hp4
  go_wp2_with fail
  refine (pick_any g _ (40) _ (by omega) (by omega) HE.out.cur).mono ?_
  rintro e w10 ⟨x, rfl, hx, hx', hc, hd⟩
  replace HE := Lib.hid (HE.out.drew hd hc)
  clear hc hd
  clear hx hx'
  go_upto_block 0 with fail
  go_cut [] from 44 to 72 (fun wx => ∃ t m p A3 c3 l3 A4 c4 l4, EBox w wx g b (k + 900) t m p A3 c3 l3 A4 c4 l4)
  case first =>
    by_cases h0 : x = 0
    · subst h0
      go_wp2_with fail
      refine (amongLit_any g _ [-1, 10000, 10001] 3 _ _ _ rfl rfl (by omega) (by simp) (by simp) HE.out.cur).mono ?_
      rintro e w9 ⟨z, hz, rfl, hc, hd⟩
      replace HE := Lib.hid (HE.out.drew hd hc)
      clear hc hd
      obtain ⟨k0, f0⟩ := box_at HE.out.box (j := 0) rfl
      go_wp2_with fail
      go_meet
      case rel => exact ⟨_, _, _, _, _, _, _, _, _, (HE.out.set0 z (by simp at hz; omega)).more (by omega)⟩
    by_cases h1 : x = 1
    · subst h1
      go_wp2_with fail
      refine (amongLit_any g _ [0, 1000] 3 _ _ _ rfl rfl (by omega) (by simp) (by simp) HE.out.cur).mono ?_
      rintro e w9 ⟨z, hz, rfl, hc, hd⟩
      replace HE := Lib.hid (HE.out.drew hd hc)
      clear hc hd
      obtain ⟨k1, f1⟩ := box_at HE.out.box (j := 1) rfl
      go_wp2_with fail
      go_meet
      case rel => exact ⟨_, _, _, _, _, _, _, _, _, (HE.out.set1 z).more (by omega)⟩
    by_cases h2 : x = 2
    · subst h2
      go_wp2_with fail
      refine (amongLit_any g _ [-1, 8, 9] 3 _ _ _ rfl rfl (by omega) (by simp) (by simp) HE.out.cur).mono ?_
      rintro e w9 ⟨z, hz, rfl, hc, hd⟩
      replace HE := Lib.hid (HE.out.drew hd hc)
      clear hc hd
      obtain ⟨k2, f2⟩ := box_at HE.out.box (j := 2) rfl
      go_wp2_with fail
      go_meet
      case rel => exact ⟨_, _, _, _, _, _, _, _, _, (HE.out.set2 z).more (by omega)⟩
    by_cases h3 : x = 3
    · subst h3
      obtain ⟨k3, f3⟩ := box_at HE.out.box (j := 3) rfl
      go_wp2_with fail
      go_meet
      case rel => exact ⟨_, _, _, _, _, _, _, _, _, (HE.out.set3 (A := none) (c := 0) (l := []) (by simp) own_start (fun e => by cases e) (apart_symm (.inl rfl))).more (by omega)⟩
    by_cases h4 : x = 4
    · subst h4
      obtain ⟨q, rfl, hat⟩ := HE.out.at4 HP4.out
      clear hat
      have HED := Lib.hid (HE.out.tick 1)
      have k4 := (box_at HED.out.box (j := 4) rfl).1
      have hp4 := HP4.out
      have k4D : ∀ o, (w10.alloc o).drew.cell? ⟨b, 4, none⟩ = some (.slice (some ⟨q, 0, none⟩) l4.length c4) := fun o => (World.cell?_alloc_lt w10 o _ (World.block_lt_of_cell? w10 _ (box_at HE.out.box (j := 4) rfl).1)).trans (box_at HE.out.box (j := 4) rfl).1
      go_wp2
      go_region_held3 (fun W => W.cell? ⟨b, 4, none⟩ = some (.slice (some ⟨q, 0, none⟩) l4.length c4)) (first | assumption | (exact k4D _) | fail) (first | (go_at_call 107; refine (amongLit_any g _ [-1, 0, 63, 64] 3 (w10.drewN 1) _ _ rfl rfl (by omega) (by simp) (by simp) HED.out.cur).mono ?_; rintro e wb ⟨y, hy, rfl, hc, hd⟩; have HEB := Lib.hid (HED.out.drew hd hc); clear hc hd hy; have k4B := (box_at HEB.out.box (j := 4) rfl).1; obtain ⟨q', e', hat'⟩ := HEB.out.at4 HP4.out; obtain ⟨⟨uq, kq⟩, fq⟩ := hat' 0 HP4.out; injection e' with e'; injection e' with e'; subst e'; clear hat'; have HEC := Lib.hid (HEB.out.setEl 0 y); have k4C := (box_at HEC.out.box (j := 4) rfl).1; rw [List.length_set] at k4C) | fail)
      go_wp2_with fail
      go_meet
      case rel => exact ⟨_, _, _, _, _, _, _, _, _, HEC.out.more (by omega)⟩
    · have g0 : ((x : Int) == 0) = false := by rw [beq_eq_false_iff_ne]; omega
      have g1 : ((x : Int) == 1) = false := by rw [beq_eq_false_iff_ne]; omega
      have g2 : ((x : Int) == 2) = false := by rw [beq_eq_false_iff_ne]; omega
      have g3 : ((x : Int) == 3) = false := by rw [beq_eq_false_iff_ne]; omega
      have g4 : ((x : Int) == 4) = false := by rw [beq_eq_false_iff_ne]; omega
      clear h0 h1 h2 h3 h4
      go_wp2_with fail
      go_meet
      case rel => exact ⟨_, _, _, _, _, _, _, _, _, HE.out.more (by omega)⟩
  case rest =>
  clear HE HP4
  obtain ⟨t, m, p, A3, c3, l3, A4, c4, l4, he⟩ := hcut
  have HE := Lib.hid he
  clear he
  obtain ⟨k0, f0⟩ := box_at HE.out.box (j := 0) rfl
  obtain ⟨k1, f1⟩ := box_at HE.out.box (j := 1) rfl
  obtain ⟨k2, f2⟩ := box_at HE.out.box (j := 2) rfl
  obtain ⟨k3, f3⟩ := box_at HE.out.box (j := 3) rfl
  obtain ⟨k4, f4⟩ := box_at HE.out.box (j := 4) rfl
  obtain ⟨r0, y0⟩ := box_at HE.out.res (j := 0) rfl
  obtain ⟨r1, y1⟩ := box_at HE.out.res (j := 1) rfl
  obtain ⟨r2, y2⟩ := box_at HE.out.res (j := 2) rfl
  obtain ⟨r3, y3⟩ := box_at HE.out.res (j := 3) rfl
  obtain ⟨r4, y4⟩ := box_at HE.out.res (j := 4) rfl
  go_wp2_with fail
  obtain ⟨hres, ho3, ho4, hcc, hdd⟩ := HE.out.fin (v0 := .int .i64 t) (v1 := .int .i64 m) (v2 := .int .i64 p) (v3 := .slice A3 l3.length c3) (v4 := .slice A4 l4.length c4) rfl
  obtain ⟨z0, _⟩ := box_at hres (j := 0) rfl
  obtain ⟨z1, _⟩ := box_at hres (j := 1) rfl
  obtain ⟨z2, _⟩ := box_at hres (j := 2) rfl
  obtain ⟨z3, _⟩ := box_at hres (j := 3) rfl
  obtain ⟨z4, _⟩ := box_at hres (j := 4) rfl
  try simp only [Exit.inBlock, Exit.then]
  refine bodyPost_ret (v := .agg #[.int .i64 t, .int .i64 m, .int .i64 p, .slice A3 l3.length c3, .slice A4 l4.length c4]) (by simp [results, Try.results110, go_sem, z0, z1, z2, z3, z4]) rfl ?_
  exact ⟨t, m, p, A3, c3, l3, A4, c4, l4, rfl, HE.out.tb, HE.out.len3, HE.out.len4, ho3, ho4, hcc.mono (by omega), hdd⟩

end Go.Proofs.Ytcjmlakmigfkfaa

namespace Go.Proofs.Ytcjmlakmigfkfaa
set_option linter.unusedSimpArgs false
set_option linter.unusedVariables false
open Go.RowKit Go.ChangeShapes Go.WideShapes Go.Deep

section
variable {P : Program} {ops : Array Oper} {rest : List Oper} {o : Oper} {a : Act} {Q : Exit → Act → World → Prop}
/-- As run_pushB: something is appended; the old slice owns what it owned. -/
theorem run_pushK (w : World) (base : Nat) (t ty e : TypeId) (z : Value) (k bytes : Nat) (hinfo : (P.info? e).map (fun i => (i.zero, i.size, i.bytes)) = some (some z, k, bytes)) (hzs : z.cells.size = k) (hk : 0 < k) (ht : P.underlying t = some (.slice e))
    (A : Option Addr) (n c : Nat) (xs : List Value) (hown : w.ownsRow base e k (.slice A n c) n xs)
    (A2 : Option Addr) (m c2 : Nat) (news : List Value) (hr : Reads w k A2 m news) (h1 : ∀ u ∈ news, u.oneCell' = true) (hm : 0 < m)
    (h63 : n + m ≤ 1000000000000) (hb : (n + m) * bytes ≤ 140737488355328) (hbase : base ≤ w.heap.size) :
    ∃ A' c' w', (Builtin.append_ #[t, t] ty #[.slice A n c, .slice A2 m c2]).run P w = .ok (.slice A' (n + m) c') w' ∧ w'.ownsRow base e k (.slice A' (n + m) c') (n + m) (xs ++ news) ∧ w.grownBy w' (Value.slice A n c).ownBlock ∧ Below base w w' ∧
      ((Value.slice A' (n + m) c').ownBlock = (Value.slice A n c).ownBlock ∨ (Value.slice A' (n + m) c').ownBlock = some w.heap.size) ∧ w'.ownsRow base e k (.slice A n c) n xs := by
  obtain ⟨A', c', w', hrun, q1, q2, q3, q4⟩ := run_pushB (P := P) w base t ty e z k bytes hinfo hzs hk ht A n c xs hown A2 m c2 news hr h1 h63 hb hbase
  refine ⟨A', c', w', hrun, q1, q2, q3, q4, ?_⟩
  obtain ⟨ad, rfl, hcell⟩ := hr.2 hm
  obtain ⟨i, hi, hz, hsz, hbs⟩ := info_parts hinfo
  subst hsz
  subst hbs
  rcases hown.2 with ⟨hv, h0⟩ | ⟨g, cap, cur, hv, hbg, hg, hnc, hcm, hcs, htake⟩
  · exact ⟨hown.1, .inl ⟨hv, h0⟩⟩
  · injection hv with e1 e2 e3
    subst e1
    subst e3
    by_cases hroom : n + m ≤ c
    · have hfit : n * i.size + news.length ≤ cur.size := by rw [hr.1, hcs, ← Nat.add_mul]; exact Nat.mul_le_mul_right _ hroom
      have hr' := run_append_room (P := P) w t ty e i ht hi g n c cur hg ad m c2 news hr.1 hcell h1 hroom hfit
      rw [hr'] at hrun
      injection hrun with _ hw
      subst hw
      refine ⟨hown.1, .inr ⟨g, c, _, rfl, hbg, setRow_heap w g cur _ e _ hg, hnc, hcm, ?_, ?_⟩⟩
      · simp only [List.size_toArray, List.length_append, List.length_take, List.length_drop, Array.length_toList]
        omega
      · rw [htake, List.append_assoc, ← hown.1]
        exact List.take_left
    · have holds : ∀ j u, xs[j]? = some u → w.cell? ((⟨g, 0, none⟩ : Addr).add j) = some u := hown.cells (g := g) rfl
      have hr' := run_append_grow (P := P) w t ty e i z ht hi hz ⟨g, 0, none⟩ n c xs hown.1 holds ad m c2 news hr.1 hcell (by omega) (by omega) (growslice_fits (by omega) hb)
      rw [hr'] at hrun
      injection hrun with _ hw
      subst hw
      exact own_below hown ((Below.refl _ _).drew.alloc (Nat.le_refl _) _)
theorem wpList_pushK (w : World) (hgd : o.guard = none) (s x : Operand) (t : TypeId)
    (ho : o.op = .call { callee := .builtin .append, args := #[s, x], argTypes := #[t, t] })
    (base : Nat) (e : TypeId) (z : Value) (k bytes : Nat) (hinfo : (P.info? e).map (fun i => (i.zero, i.size, i.bytes)) = some (some z, k, bytes)) (hzs : z.cells.size = k) (hk : 0 < k) (ht : P.underlying t = some (.slice e))
    (A : Option Addr) (n c : Nat) (xs : List Value) (hs : a.eval s = .slice A n c) (hown : w.ownsRow base e k (.slice A n c) n xs)
    (A2 : Option Addr) (m c2 : Nat) (news : List Value) (hx : a.eval x = .slice A2 m c2) (hr : Reads w k A2 m news) (h1 : ∀ u ∈ news, u.oneCell' = true) (hm : 0 < m)
    (h63 : n + m ≤ 1000000000000) (hb : (n + m) * bytes ≤ 140737488355328) (hbase : base ≤ w.heap.size)
    (h : ∀ A' c' w', w'.ownsRow base e k (.slice A' (n + m) c') (n + m) (xs ++ news) → w.grownBy w' (Value.slice A n c).ownBlock → Below base w w' → ((Value.slice A' (n + m) c').ownBlock = (Value.slice A n c).ownBlock ∨ (Value.slice A' (n + m) c').ownBlock = some w.heap.size) → w'.ownsRow base e k (.slice A n c) n xs → wpList P ops Q rest (a.put o.dst (.slice A' (n + m) c')) w') :
    wpList P ops Q (o :: rest) a w := by
  refine wpList_plain hgd fun K hK => ?_
  obtain ⟨A', c', w', hrun, r1, r2, r3, r4, r5⟩ := run_pushK (P := P) w base t o.type e z k bytes hinfo hzs hk ht A n c xs hown A2 m c2 news hr h1 hm h63 hb hbase
  unfold Oper.wp execOp
  simp only [ho, resolve, invoke, builtin, Sem.run_bind, Sem.run_pure, Result.andThen_ok, List.map_toArray, List.map_cons, List.map_nil, hs, hx, hrun]
  exact hK _ _ (h A' c' w' r1 r2 r3 r4 r5)
end
end Go.Proofs.Ytcjmlakmigfkfaa

namespace Go.Proofs.Ytcjmlakmigfkfaa
set_option linter.unusedSimpArgs false
set_option linter.unusedVariables false
open Go.RowKit

/-- Blocks from lo on are as they were. -/
structure Keeps (lo : Nat) (w w' : World) : Prop where
  size : w.heap.size ≤ w'.heap.size
  block : ∀ q, lo ≤ q → q < w.heap.size → w'.heap[q]? = w.heap[q]?
theorem Keeps.refl (lo : Nat) (w : World) : Keeps lo w w := ⟨Nat.le_refl _, fun _ _ _ => rfl⟩
theorem Keeps.trans {lo : Nat} {w w' w'' : World} (h : Keeps lo w w') (h' : Keeps lo w' w'') : Keeps lo w w'' :=
  ⟨Nat.le_trans h.size h'.size, fun q h1 h2 => (h'.block q h1 (Nat.lt_of_lt_of_le h2 h.size)).trans (h.block q h1 h2)⟩
theorem Keeps.of_drew {g lo : Nat} {w w' : World} (h : Drew g w w') (hg : g < lo) : Keeps lo w w' := ⟨h.size, fun q h1 h2 => h.block q h2 (by omega)⟩
theorem Keeps.of_below {lo : Nat} {w w' : World} (h : Below w.heap.size w w') : Keeps lo w w' := ⟨h.size, fun q _ h2 => h.block q h2⟩
theorem Keeps.alloc (lo : Nat) (w : World) (o : Obj) : Keeps lo w (w.alloc o) := .of_below ((Below.refl _ _).alloc (Nat.le_refl _) o)
/-- A cell that reads so in every world that keeps the blocks from lo on, but for one. -/
def stC (w : World) (lo : Nat) (no : Option Nat) (u : Value) (x : Cel) : Prop :=
  ∀ w' : World, (∀ q, lo ≤ q → q < w.heap.size → no ≠ some q → w'.heap[q]? = w.heap[q]?) → readsC w' u x
section
variable {w w' : World} {lo lo' : Nat} {no no' : Option Nat} {u : Value} {x : Cel}
theorem stC.now (h : stC w lo no u x) : readsC w u x := h w (fun _ _ _ _ => rfl)
theorem stC.keep (h : stC w lo no u x) (hk : Keeps lo w w') : stC w' lo no u x := fun w2 h2 => h w2 fun q h3 h4 h5 => (h2 q h3 (Nat.lt_of_lt_of_le h4 hk.size) h5).trans (hk.block q h3 h4)
theorem stC.none (h : stC w lo no u x) : stC w lo .none u x := fun w2 h2 => h w2 fun q h3 h4 _ => h2 q h3 h4 (by simp)
theorem stC.fresh (h : stC w lo .none u x) (hk : Keeps lo w w') (hn : ∀ q, no = some q → w.heap.size ≤ q) : stC w' lo no u x := fun w2 h2 => h w2 fun q h3 h4 _ =>
  (h2 q h3 (Nat.lt_of_lt_of_le h4 hk.size) (fun e => by have := hn q e; omega)).trans (hk.block q h3 h4)
theorem stC.grown {v : Value} (h : stC w lo v.ownBlock u x) (hg : w.grownBy w' v.ownBlock) (hl : no = v.ownBlock ∨ no = some w.heap.size) : stC w' lo no u x := fun w2 h2 => h w2 fun q h3 h4 h5 => by
  refine (h2 q h3 (Nat.lt_of_lt_of_le h4 hg.size) (fun e => ?_)).trans (hg.block q h4 (fun e => h5 e.symm))
  rcases hl with h6 | h6
  · exact h5 (by rw [← h6]; exact e)
  · rw [h6] at e; injection e with e; omega
theorem stC.mono (h : stC w lo no u x) (hl : lo' ≤ lo) : stC w lo' no u x := fun w2 h2 => h w2 fun q h3 h4 h5 => h2 q (Nat.le_trans hl h3) h4 h5
theorem stC.plain (v : Value) : stC w lo no v (.inl v) := fun _ _ => rfl
theorem stC.own {base : Nat} {e : TypeId} {A : Option Addr} {c : Nat} {l : List Value} {m : Nat} (hm : m = l.length) (h : w.ownsRow base e 1 (.slice A m c) m l) (hb : lo ≤ base) (hn : (Value.slice A m c).ownBlock = .none ∨ (Value.slice A m c).ownBlock ≠ no) : stC w lo no (.slice A m c) (.inr l) := fun w2 h2 => by
  subst hm
  refine readsC_of_own (base := base) (ei := e) ⟨A, c, rfl, row_same h fun q hq => h2 q ?_ (h.lt q hq).2 (fun e' => ?_)⟩
  · have := (h.lt q hq).1; omega
  · rcases hn with h3 | h3
    · rw [h3] at hq; cases hq
    · exact h3 (by rw [hq, e'])
end
/-- The cells of an entry. -/
def stE (w : World) (lo : Nat) (no : Option Nat) (us : List Value) (x : EntryT) : Prop := us.length = 5 ∧ ∀ (j : Nat) (u : Value) (y : Cel), us[j]? = some u → (celEntry x)[j]? = some y → stC w lo no u y
/-- A log of the call's own: its row may be written, its entries' slices lie elsewhere. -/
structure LogO (w : World) (lo : Nat) (A : Option Addr) (n c : Nat) (L : List EntryT) (hs : List Value) : Prop where
  row : w.ownsRow lo 51 5 (.slice A n c) n hs
  len : L.length = n
  cell : ∀ (j : Nat) (u : Value) (x : Cel), hs[j]? = some u → (rowsE L)[j]? = some x → stC w lo (Value.slice A n c).ownBlock u x
/-- A log that is read. -/
structure LogR (w : World) (lo : Nat) (A : Option Addr) (n : Nat) (L : List EntryT) (hs : List Value) : Prop where
  row : Reads w 5 A n hs
  far : 0 < n → ∀ ad, A = some ad → lo ≤ ad.block
  len : L.length = n
  cell : ∀ (j : Nat) (u : Value) (x : Cel), hs[j]? = some u → (rowsE L)[j]? = some x → stC w lo .none u x
section
variable {w w' : World} {lo n c n' c' : Nat} {A A' : Option Addr} {L : List EntryT} {hs us : List Value}
theorem LogO.nil (w : World) (lo : Nat) : LogO w lo none 0 0 [] [] := ⟨World.ownsRow_nil _ _ _ _, rfl, fun j u x hu => by simp at hu⟩
theorem LogR.nil (w : World) (lo c : Nat) : LogR w lo none 0 [] [] := ⟨.nil, fun h => by omega, rfl, fun j u x hu => by simp at hu⟩
theorem LogO.keep (h : LogO w lo A n c L hs) (hk : Keeps lo w w') : LogO w' lo A n c L hs :=
  ⟨row_same h.row fun q hq => hk.block q (h.row.lt q hq).1 (h.row.lt q hq).2, h.len, fun j u x hu hx => (h.cell j u x hu hx).keep hk⟩
theorem LogR.keep (h : LogR w lo A n L hs) (hk : Keeps lo w w') : LogR w' lo A n L hs :=
  ⟨⟨h.row.1, fun h0 => by
    obtain ⟨ad, e, hc⟩ := h.row.2 h0
    refine ⟨ad, e, fun j u hu => ?_⟩
    have h1 := h.far h0 ad e
    rw [← hc j u hu]
    exact World.cell?_of_block (hk.block _ (by rw [block_of_add]; exact h1) (World.block_lt_of_cell? w _ (hc j u hu)))⟩, h.far, h.len, fun j u x hu hx => (h.cell j u x hu hx).keep hk⟩
theorem LogO.toR (h : LogO w lo A n c L hs) : LogR w lo A n L hs :=
  ⟨.of_own h.row, fun h0 ad e => by
    rcases h.row.2 with ⟨_, h1⟩ | ⟨g, cap, cur, hv, hb, _⟩
    · omega
    · injection hv with e1 _ _
      rw [e] at e1
      injection e1 with e1
      subst e1
      exact hb, h.len, fun j u x hu hx => (h.cell j u x hu hx).none⟩
theorem LogR.reads (h : LogR w lo A n L hs) : Reads2 w 5 A n (rowsE L) :=
  ⟨hs, h.row, by rw [length_rowsE, h.len, h.row.1], fun j u x hu hx => (h.cell j u x hu hx).now⟩
theorem LogO.reads (h : LogO w lo A n c L hs) : Reads2 w 5 A n (rowsE L) := h.toR.reads
theorem LogR.mono {lo' : Nat} (h : LogR w lo A n L hs) (hl : lo' ≤ lo) : LogR w lo' A n L hs :=
  ⟨h.row, fun h0 ad e => Nat.le_trans hl (h.far h0 ad e), h.len, fun j u x hu hx => (h.cell j u x hu hx).mono hl⟩
theorem LogR.of_own2 {lo' hi : Nat} (h : Own2 w lo hi 51 3 5 A n c (rowsE L) hs) (hl : lo' ≤ lo) : LogR w lo' A n L hs :=
  ⟨.of_own h.row, fun h0 ad e => by
    rcases h.row.2 with ⟨_, h1⟩ | ⟨g, cap, cur, hv, hb, _⟩
    · omega
    · injection hv with e1 _ _
      rw [e] at e1
      injection e1 with e1
      subst e1
      simp only; omega, by have h1 := h.len; have h2 := h.row.1; rw [length_rowsE] at h1; omega, fun j u x hu hx => by
    have hc := h.cell j u x hu hx
    cases x with
    | inl v => cases hc; exact .plain _
    | inr l =>
      obtain ⟨A1, c1, rfl, ho⟩ := hc
      refine .own rfl ho hl ?_
      cases hq : (Value.slice A1 l.length c1).ownBlock with
      | none => exact .inl rfl
      | some q => exact .inr (by simp)⟩
theorem LogO.push {e : EntryT} (h : LogO w lo A n c L hs) (hg : w.grownBy w' (Value.slice A n c).ownBlock) (hr : w'.ownsRow lo 51 5 (.slice A' n' c') n' (hs ++ us)) (hn : n' = n + 1)
    (hloc : (Value.slice A' n' c').ownBlock = (Value.slice A n c).ownBlock ∨ (Value.slice A' n' c').ownBlock = some w.heap.size) (hx : stE w lo (Value.slice A n c).ownBlock us e) : LogO w' lo A' n' c' (L ++ [e]) (hs ++ us) := by
  have e1 : rowsE (L ++ [e]) = rowsE L ++ celEntry e := by simp [rowsE]
  have hl : (rowsE L).length = hs.length := by rw [length_rowsE, h.len, h.row.1]
  refine ⟨hr, by simp [h.len, hn], fun j u x hu hxx => ?_⟩
  rw [e1] at hxx
  rcases append_cases hu with ⟨hj, hu⟩ | ⟨hj, hu⟩ <;> rcases append_cases hxx with ⟨hj', hxx⟩ | ⟨hj', hxx⟩
  · exact (h.cell j u x hu hxx).grown hg hloc
  · omega
  · omega
  · rw [hl] at hxx
    exact (hx.2 _ u x hu hxx).grown hg hloc
/-- .. of which the old slice is kept. -/
theorem LogO.kept (h : LogO w lo A n c L hs) (hg : w.grownBy w' (Value.slice A n c).ownBlock) (hr : w'.ownsRow lo 51 5 (.slice A n c) n hs) : LogO w' lo A n c L hs :=
  ⟨hr, h.len, fun j u x hu hx => (h.cell j u x hu hx).grown hg (.inl rfl)⟩
/-- An entry of a log that is read. -/
theorem LogR.entry {i : Nat} (h : LogR w lo A n L hs) (hi : i < L.length) : stE w lo .none ((hs.drop (i * 5)).take 5) L[i] := by
  have hl : hs.length = n * 5 := h.row.1
  have hln := h.len
  refine ⟨by simp; omega, fun j u y hu hy => ?_⟩
  have hj : j < 5 := by
    have := (List.getElem?_eq_some_iff.1 hy).1
    simpa [celEntry] using this
  rw [List.getElem?_take_of_lt hj, List.getElem?_drop] at hu
  exact h.cell (i * 5 + j) u y hu (by rw [rowsE_get hi hj]; exact hy)
theorem stE.fresh {no : Option Nat} {us : List Value} {e : EntryT} (h : stE w lo .none us e) (hk : Keeps lo w w') (hn : ∀ q, no = some q → w.heap.size ≤ q) : stE w' lo no us e := ⟨h.1, fun j u y hu hy => (h.2 j u y hu hy).fresh hk hn⟩
theorem stE.keep {no : Option Nat} {us : List Value} {e : EntryT} (h : stE w lo no us e) (hk : Keeps lo w w') : stE w' lo no us e := ⟨h.1, fun j u y hu hy => (h.2 j u y hu hy).keep hk⟩
/-- An entry with two rows of the call's own. -/
theorem stE.own {no : Option Nat} {b3 b4 : Nat} {t m p : Int} {A3 A4 : Option Addr} {c3 c4 : Nat} {l3 l4 : List Int} (h3 : w.ownsRow b3 3 1 (.slice A3 l3.length c3) l3.length (ints l3)) (h4 : w.ownsRow b4 3 1 (.slice A4 l4.length c4) l4.length (ints l4)) (hb3 : lo ≤ b3) (hb4 : lo ≤ b4)
    (hn3 : ∀ q, no = some q → q < b3) (hn4 : ∀ q, no = some q → q < b4) : stE w lo no [.int .i64 t, .int .i64 m, .int .i64 p, .slice A3 l3.length c3, .slice A4 l4.length c4] (t, m, p, l3, l4) := by
  have far : ∀ (b : Nat) (A : Option Addr) (l : List Int) (c : Nat), w.ownsRow b 3 1 (.slice A l.length c) l.length (ints l) → (∀ q, no = some q → q < b) → (Value.slice A l.length c).ownBlock = none ∨ (Value.slice A l.length c).ownBlock ≠ no := by
    intro b A l c ho hn
    cases hq : (Value.slice A l.length c).ownBlock with
    | none => exact .inl rfl
    | some q => exact .inr (fun e => by have h1 := hn q e.symm; have h2 := (ho.lt q hq).1; omega)
  refine ⟨rfl, fun j u y hu hy => ?_⟩
  match j with
  | 0 => simp [celEntry] at hu hy; subst hu; subst hy; exact .plain _
  | 1 => simp [celEntry] at hu hy; subst hu; subst hy; exact .plain _
  | 2 => simp [celEntry] at hu hy; subst hu; subst hy; exact .plain _
  | 3 => simp [celEntry] at hu hy; subst hu; subst hy; exact .own (by simp) h3 hb3 (far _ _ _ _ h3 hn3)
  | 4 => simp [celEntry] at hu hy; subst hu; subst hy; exact .own (by simp) h4 hb4 (far _ _ _ _ h4 hn4)
  | j + 5 => simp at hu
end
end Go.Proofs.Ytcjmlakmigfkfaa

namespace Go.Proofs.Ytcjmlakmigfkfaa
set_option linter.unusedSimpArgs false
set_option linter.unusedVariables false
open Go.RowKit

/-- An entry that may be drawn. -/
def dwE (x : EntryT) : Prop := (-100000 ≤ x.1 ∧ x.1 ≤ 100000) ∧ x.2.2.2.1.length ≤ 10 ∧ x.2.2.2.2.length ≤ 10
theorem dwE_len {x : EntryT} (h : dwE x) : lenE 1000000000 x := by
  obtain ⟨_, h1, h2⟩ := h
  unfold lenE
  omega
theorem dwE_snoc {L : List EntryT} {x : EntryT} (h : ∀ y ∈ L, dwE y) (hx : dwE x) : ∀ y ∈ L ++ [x], dwE y := fun y hy => by
  rcases List.mem_append.1 hy with hy | hy
  · exact h y hy
  · simp at hy; subst hy; exact hx

set_option maxHeartbeats 4000000 in
set_option maxRecDepth 100000 in
theorem log_any (g k : Nat) (w : World) (hk : k ≤ 500000) (h : Cur w g k) :
    Calls Try.prog 85 #[.pointer (some ⟨g, 0, none⟩)] w fun e w' => ∃ A n c L hs, e = .returned (.slice A n c) ∧ n ≤ c ∧ n ≤ 31 ∧ LogO w' w.heap.size A n c L hs ∧ (∀ x ∈ L, dwE x) ∧ Cur w' g (k + 12000) ∧ Drew g w w' := by
  have HGW : Hid (g < w.heap.size) := Lib.hid h.lt
  have HC := Lib.hid h
  clear h
  generalize hlo : w.heap.size = lo at *
  go_enter Try.func85, Try.ntmps85
  go_wp2_with fail
  refine (pick_any g _ 50 _ (by omega) (by omega) HC.out).mono ?_
  rintro e w1 ⟨x, rfl, hx, hx', hc, hd⟩
  have hx50 : x ≤ 50 := by omega
  have HC := Lib.hid hc; have HD := Lib.hid hd
  clear hc hd hx hx'
  go_wp2_with fail
  refine (pick_any g _ 9 _ (by omega) (by omega) HC.out).mono ?_
  rintro e w2 ⟨r0, rfl, hr, hr', hc, hd⟩
  have hr8 : r0 ≤ 8 := by omega
  have HC := Lib.hid hc; have HD := Lib.hid (HD.out.trans hd)
  clear hc hd hr hr'
  go_wp2
  go_loopw [3, 4, 5] (fun lv tv nv wr => ∃ A q c L hs, ∃ r : Nat, ∃ T : Int, lv = .slice A q c ∧ tv = .int .i64 T ∧ nv = .int .i64 r ∧ r ≤ 8 ∧ q + r ≤ 8 ∧ (0 ≤ T ∧ T ≤ 50 + 40 * (8 - (r : Int))) ∧ LogO wr lo A q c L hs ∧ (∀ x ∈ L, dwE x) ∧ Cur wr g (k + 4 + 1100 * (8 - r)) ∧ Drew g w wr) (fun _ _ nv _ => (intOf nv).toNat)
  case atStart => exact ⟨none, 0, 0, [], [], r0, x, rfl, rfl, rfl, hr8, by omega, by omega, LogO.nil _ _, fun x hx => by simp at hx, HC.out.mono (by omega), HD.out⟩
  case round =>
    obtain ⟨A, q, c, L, hs, r, T, rfl, rfl, rfl, hr, hqr, hT, hl, hok, hc, hd⟩ := hrel
    clear HC HD
    have HL := Lib.hid hl; have HOK := Lib.hid hok; have HC := Lib.hid hc; have HD := Lib.hid hd
    clear hl hok hc hd hr8 hx50
    have HLO : Hid (lo ≤ wr.heap.size) := Lib.hid (by have := HD.out.size; omega)
    by_cases hlt : 0 < r
    · have hrz : (0 : Int) < (r : Int) := by omega
      go_wp2_with fail
      refine (entry_any g _ T _ (by omega) (by omega) HC.out).mono ?_
      rintro e w1 ⟨t, m, p, A3, c3, l3, A4, c4, l4, rfl, ht, hl3, hl4, ho3, ho4, hc, hd⟩
      have HOE : Hid (dwE (t, m, p, l3, l4)) := Lib.hid ⟨ht, hl3, hl4⟩
      have HB : Hid (Below w1.heap.size w1 ((w1.alloc (.cells #[.int .i64 t, .int .i64 m, .int .i64 p, .slice A3 l3.length c3, .slice A4 l4.length c4] 51)).alloc (.cells #[.int .i64 t, .int .i64 m, .int .i64 p, .slice A3 l3.length c3, .slice A4 l4.length c4] 51))) := Lib.hid (((Below.refl _ _).alloc (Nat.le_refl _) _).alloc (by simp) _)
      have HL2 := Lib.hid ((HL.out.keep (Keeps.of_drew hd HGW.out)).keep (Keeps.of_below HB.out))
      have HLO3 : Hid (lo ≤ ((w1.alloc (.cells #[.int .i64 t, .int .i64 m, .int .i64 p, .slice A3 l3.length c3, .slice A4 l4.length c4] 51)).alloc (.cells #[.int .i64 t, .int .i64 m, .int .i64 p, .slice A3 l3.length c3, .slice A4 l4.length c4] 51)).heap.size) := Lib.hid (by have := HLO.out; have := hd.size; have := HB.out.size; omega)
      have HX : Hid (stE ((w1.alloc (.cells #[.int .i64 t, .int .i64 m, .int .i64 p, .slice A3 l3.length c3, .slice A4 l4.length c4] 51)).alloc (.cells #[.int .i64 t, .int .i64 m, .int .i64 p, .slice A3 l3.length c3, .slice A4 l4.length c4] 51)) lo (Value.slice A q c).ownBlock [.int .i64 t, .int .i64 m, .int .i64 p, .slice A3 l3.length c3, .slice A4 l4.length c4] (t, m, p, l3, l4)) := Lib.hid (stE.own (own_below ho3 HB.out) (own_below ho4 HB.out) (by have := HLO.out; omega) (by have := HLO.out; omega) (fun q' hq' => by have := (HL.out.row.lt q' hq').2; omega) (fun q' hq' => by have := (HL.out.row.lt q' hq').2; omega))
      have HC2 := Lib.hid (hc.below HB.out); have HD2 := Lib.hid ((HD.out.trans hd).trans (Drew.of_below HB.out))
      clear ht hl3 hl4 ho3 ho4 hc hd HC HD HB HL
      go_wp2_with (at_builtin; refine wpList_pushK _ rfl (.tmp 20) (.tmp 22) 27 rfl lo 51 _ 5 72 infoEntry rfl (by omega) Try.underlying27 A q c hs rfl HL2.out.row (some ⟨w1.heap.size + 1, 0, none⟩) 1 1 [.int .i64 t, .int .i64 m, .int .i64 p, .slice A3 l3.length c3, .slice A4 l4.length c4] rfl (by have h := reads_litk (w1.alloc (.cells #[.int .i64 t, .int .i64 m, .int .i64 p, .slice A3 l3.length c3, .slice A4 l4.length c4] 51)) [.int .i64 t, .int .i64 m, .int .i64 p, .slice A3 l3.length c3, .slice A4 l4.length c4] 51 (n := 1) (k := 5) rfl; have e : (w1.alloc (.cells #[.int .i64 t, .int .i64 m, .int .i64 p, .slice A3 l3.length c3, .slice A4 l4.length c4] 51)).heap.size = w1.heap.size + 1 := World.size_alloc _ _; rw [e] at h; exact h) (by simp [Value.oneCell']) (by omega) (by omega) (by omega) HLO3.out ?_; intro A2 c2 w4 hown4 hg4 hb4 hloc4 hold4)
      have HLN := Lib.hid (HL2.out.push hg4 hown4 rfl hloc4 HX.out)
      have HLK := Lib.hid (HL2.out.kept hg4 hold4)
      have HC := Lib.hid (HC2.out.below' hb4 HGW.out)
      have HD := Lib.hid (Drew.then_below HD2.out (by rw [hlo]; exact hb4))
      clear hown4 hg4 hb4 hloc4 hold4 HX HL2 HC2 HD2 HLO3
      go_wp2_with fail
      refine (lgGood_any A2 (q + 1) c2 (L ++ [(t, m, p, l3, l4)]) w4 (by omega) (fun x hx => dwE_len (dwE_snoc HOK.out HOE.out x hx)) HLN.out.reads).mono ?_
      rintro e w5 ⟨rfl, hb5⟩
      replace HLN := Lib.hid (HLN.out.keep (Keeps.of_below hb5)); replace HLK := Lib.hid (HLK.out.keep (Keeps.of_below hb5))
      replace HC := Lib.hid (HC.out.below hb5); replace HD := Lib.hid (HD.out.trans (Drew.of_below hb5))
      clear hb5
      generalize goodE (L ++ [(t, m, p, l3, l4)]) = gd
      cases gd with
      | true =>
        go_wp2_with fail
        refine (amongLit_any g _ [0, 1, 10, 40] 3 w5 _ _ rfl rfl (by omega) (by simp) (by simp) HC.out).mono ?_
        rintro e w7 ⟨z, hz, rfl, hc, hd⟩
        have hz2 : 0 ≤ z ∧ z ≤ 40 := by simp at hz; omega
        have HC7 := Lib.hid hc; have HD7 := Lib.hid (HD.out.trans hd); have HL7 := Lib.hid (HLN.out.keep (Keeps.of_drew hd HGW.out))
        clear hc hd hz
        obtain ⟨s, hs0⟩ : ∃ s : Nat, s = r - 1 := ⟨_, rfl⟩
        have es : (r : Int) - 1 = (s : Int) := by omega
        have hs1 : s + 1 ≤ r := by omega
        have hs2 : r ≤ s + 1 := by omega
        clear hs0
        obtain ⟨T2, hT⟩ : ∃ T2 : Int, T2 = T + z := ⟨_, rfl⟩
        have hT2 : 0 ≤ T2 ∧ T2 ≤ 50 + 40 * (8 - (s : Int)) := by omega
        have eT : T + z = T2 := hT.symm
        clear hT hz2
        go_wp2
        go_roundw
        case rel => exact ⟨A2, q + 1, c2, L ++ [(t, m, p, l3, l4)], hs ++ [.int .i64 t, .int .i64 m, .int .i64 p, .slice A3 l3.length c3, .slice A4 l4.length c4], s, T2, by first | rfl | exact congrArg (Value.int .i64) eT, by first | rfl | exact congrArg (Value.int .i64) eT, by first | rfl | exact congrArg (Value.int .i64) es, by omega, by omega, hT2, HL7.out, dwE_snoc HOK.out HOE.out, HC7.out.mono (by omega), HD7.out⟩
        case measure => first | (simp [intOf]; done) | (simp [intOf]; omega)
      | false =>
        go_wp2_with fail
        refine (one_any g _ 30 _ (by omega) (by omega) HC.out).mono ?_
        rintro e w6 ⟨b6, rfl, hc, hd⟩
        replace HLN := Lib.hid (HLN.out.keep (Keeps.of_drew hd HGW.out)); replace HLK := Lib.hid (HLK.out.keep (Keeps.of_drew hd HGW.out))
        replace HC := Lib.hid hc; replace HD := Lib.hid (HD.out.trans hd)
        clear hc hd
        cases b6 with
        | true =>
          go_wp2_with fail
          refine (amongLit_any g _ [0, 1, 10, 40] 3 w6 _ _ rfl rfl (by omega) (by simp) (by simp) HC.out).mono ?_
          rintro e w7 ⟨z, hz, rfl, hc, hd⟩
          have hz2 : 0 ≤ z ∧ z ≤ 40 := by simp at hz; omega
          have HC7 := Lib.hid hc; have HD7 := Lib.hid (HD.out.trans hd); have HL7 := Lib.hid (HLN.out.keep (Keeps.of_drew hd HGW.out))
          clear hc hd hz
          obtain ⟨s, hs0⟩ : ∃ s : Nat, s = r - 1 := ⟨_, rfl⟩
          have es : (r : Int) - 1 = (s : Int) := by omega
          have hs1 : s + 1 ≤ r := by omega
          have hs2 : r ≤ s + 1 := by omega
          clear hs0
          obtain ⟨T2, hT⟩ : ∃ T2 : Int, T2 = T + z := ⟨_, rfl⟩
          have hT2 : 0 ≤ T2 ∧ T2 ≤ 50 + 40 * (8 - (s : Int)) := by omega
          have eT : T + z = T2 := hT.symm
          clear hT hz2
          go_wp2
          go_roundw
          case rel => exact ⟨A2, q + 1, c2, L ++ [(t, m, p, l3, l4)], hs ++ [.int .i64 t, .int .i64 m, .int .i64 p, .slice A3 l3.length c3, .slice A4 l4.length c4], s, T2, by first | rfl | exact congrArg (Value.int .i64) eT, by first | rfl | exact congrArg (Value.int .i64) eT, by first | rfl | exact congrArg (Value.int .i64) es, by omega, by omega, hT2, HL7.out, dwE_snoc HOK.out HOE.out, HC7.out.mono (by omega), HD7.out⟩
          case measure => first | (simp [intOf]; done) | (simp [intOf]; omega)
        | false =>
          go_wp2_with fail
          refine (amongLit_any g _ [0, 1, 10, 40] 3 w6 _ _ rfl rfl (by omega) (by simp) (by simp) HC.out).mono ?_
          rintro e w7 ⟨z, hz, rfl, hc, hd⟩
          have hz2 : 0 ≤ z ∧ z ≤ 40 := by simp at hz; omega
          have HC7 := Lib.hid hc; have HD7 := Lib.hid (HD.out.trans hd); have HL7 := Lib.hid (HLK.out.keep (Keeps.of_drew hd HGW.out))
          clear hc hd hz
          obtain ⟨s, hs0⟩ : ∃ s : Nat, s = r - 1 := ⟨_, rfl⟩
          have es : (r : Int) - 1 = (s : Int) := by omega
          have hs1 : s + 1 ≤ r := by omega
          have hs2 : r ≤ s + 1 := by omega
          clear hs0
          obtain ⟨T2, hT⟩ : ∃ T2 : Int, T2 = T + z := ⟨_, rfl⟩
          have hT2 : 0 ≤ T2 ∧ T2 ≤ 50 + 40 * (8 - (s : Int)) := by omega
          have eT : T + z = T2 := hT.symm
          clear hT hz2
          go_wp2
          go_roundw
          case rel => exact ⟨A, q, c, L, hs, s, T2, by first | rfl | exact congrArg (Value.int .i64) eT, by first | rfl | exact congrArg (Value.int .i64) eT, by first | rfl | exact congrArg (Value.int .i64) es, by omega, by omega, hT2, HL7.out, HOK.out, HC7.out.mono (by omega), HD7.out⟩
          case measure => first | (simp [intOf]; done) | (simp [intOf]; omega)
    · have hrz : ¬ (0 : Int) < (r : Int) := by omega
      go_wp2_with fail
      refine (one_any g _ 24 _ (by omega) (by omega) HC.out).mono ?_
      rintro e w6 ⟨b6, rfl, hc, hd⟩
      replace HL := Lib.hid (HL.out.keep (Keeps.of_drew hd HGW.out))
      replace HC := Lib.hid (hc.mono (k' := k + 9000) (by omega)); replace HD := Lib.hid (HD.out.trans hd)
      clear hc hd
      cases b6 with
      | false =>
        go_wp2
        go_ret
        exact ⟨A, q, c, L, hs, rfl, own_cap HL.out.row, by omega, HL.out, HOK.out, HC.out.mono (by omega), HD.out⟩
      | true =>
        clear HL HOK HLO
        go_wp2_with fail
        refine (pick_any g _ 2 _ (by omega) (by omega) HC.out).mono ?_
        rintro e w7 ⟨x, rfl, hx, hx', hc, hd⟩
        obtain ⟨N, hN⟩ : ∃ N : Nat, N = 30 + x := ⟨_, rfl⟩
        have eN : (30 : Int) + (x : Int) = (N : Int) := by omega
        have hN31 : N ≤ 31 := by omega
        have HN31 := Lib.hid hN31
        have HC := Lib.hid hc; have HD := Lib.hid (HD.out.trans hd)
        clear hc hd hx hx' hN
        go_wp2
        go_loopw [3] (fun lv wr => ∃ A c L hs, ∃ q : Nat, q ≤ N ∧ lv = .slice A q c ∧ LogO wr lo A q c L hs ∧ (∀ x ∈ L, dwE x) ∧ Cur wr g (k + 9002) ∧ Drew g w wr) (fun lv _ => N - lenV lv)
        case atStart => exact ⟨none, 0, [], [], 0, Nat.zero_le _, rfl, LogO.nil _ _, fun x hx => by simp at hx, HC.out.mono (by omega), HD.out⟩
        case round =>
          obtain ⟨A, c, L, hs, q, hq, rfl, hl, hok, hc, hd⟩ := hrel
          clear HC HD
          have HL := Lib.hid hl; have HOK := Lib.hid hok; have HC := Lib.hid hc; have HD := Lib.hid hd
          clear hl hok hc hd
          have HLO : Hid (lo ≤ wr.heap.size) := Lib.hid (by have := HD.out.size; omega)
          have HN := HN31.out
          by_cases hlt : q < N
          · have hqN : (q : Int) < (N : Int) := by omega
            obtain ⟨q1, hq1⟩ : ∃ q1 : Nat, q1 = q + 1 := ⟨_, rfl⟩
            have e1 : (1 : Int) + (q : Int) = (q1 : Int) := by omega
            have HQ1 := Lib.hid hq1
            have HOE : Hid (dwE ((q : Int), (q1 : Int), 0, [5], [5])) := Lib.hid ⟨by simp only; omega, by simp, by simp⟩
            clear hq1
            have HB : Hid (Below wr.heap.size wr (((wr.alloc (.cells #[.int .i64 5] 3)).alloc (.cells #[.int .i64 5] 3)).alloc (.cells #[.int .i64 (q : Int), .int .i64 (q1 : Int), .int .i64 0, .slice (some ⟨wr.heap.size, 0, none⟩) 1 1, .slice (some ⟨wr.heap.size + 1, 0, none⟩) 1 1] 51))) := Lib.hid ((((Below.refl _ _).alloc (Nat.le_refl _) _).alloc (by simp) _).alloc (by simp; omega) _)
            have HL2 := Lib.hid (HL.out.keep (Keeps.of_below HB.out))
            have HLO3 : Hid (lo ≤ (((wr.alloc (.cells #[.int .i64 5] 3)).alloc (.cells #[.int .i64 5] 3)).alloc (.cells #[.int .i64 (q : Int), .int .i64 (q1 : Int), .int .i64 0, .slice (some ⟨wr.heap.size, 0, none⟩) 1 1, .slice (some ⟨wr.heap.size + 1, 0, none⟩) 1 1] 51)).heap.size) := Lib.hid (by have := HLO.out; have := HB.out.size; omega)
            have HO3 : Hid ((((wr.alloc (.cells #[.int .i64 5] 3)).alloc (.cells #[.int .i64 5] 3)).alloc (.cells #[.int .i64 (q : Int), .int .i64 (q1 : Int), .int .i64 0, .slice (some ⟨wr.heap.size, 0, none⟩) 1 1, .slice (some ⟨wr.heap.size + 1, 0, none⟩) 1 1] 51)).ownsRow wr.heap.size 3 1 (.slice (some ⟨wr.heap.size, 0, none⟩) 1 1) 1 (ints [5])) := Lib.hid (own_below (own_built wr (ints [5]) 3 (by simp) (Nat.le_refl _)) (((Below.refl _ _).alloc (Nat.le_refl _) _).alloc (by simp) _))
            have HO4 : Hid ((((wr.alloc (.cells #[.int .i64 5] 3)).alloc (.cells #[.int .i64 5] 3)).alloc (.cells #[.int .i64 (q : Int), .int .i64 (q1 : Int), .int .i64 0, .slice (some ⟨wr.heap.size, 0, none⟩) 1 1, .slice (some ⟨wr.heap.size + 1, 0, none⟩) 1 1] 51)).ownsRow (wr.heap.size + 1) 3 1 (.slice (some ⟨wr.heap.size + 1, 0, none⟩) 1 1) 1 (ints [5])) := Lib.hid (by
              have h := own_built (wr.alloc (.cells #[.int .i64 5] 3)) (ints [5]) 3 (by simp) (Nat.le_refl _)
              have e : (wr.alloc (.cells #[.int .i64 5] 3)).heap.size = wr.heap.size + 1 := World.size_alloc _ _
              rw [e] at h
              exact own_below h ((Below.refl _ _).alloc (Nat.le_refl _) _))
            have HX : Hid (stE (((wr.alloc (.cells #[.int .i64 5] 3)).alloc (.cells #[.int .i64 5] 3)).alloc (.cells #[.int .i64 (q : Int), .int .i64 (q1 : Int), .int .i64 0, .slice (some ⟨wr.heap.size, 0, none⟩) 1 1, .slice (some ⟨wr.heap.size + 1, 0, none⟩) 1 1] 51)) lo (Value.slice A q c).ownBlock [.int .i64 (q : Int), .int .i64 (q1 : Int), .int .i64 0, .slice (some ⟨wr.heap.size, 0, none⟩) 1 1, .slice (some ⟨wr.heap.size + 1, 0, none⟩) 1 1] ((q : Int), (q1 : Int), 0, [5], [5])) := Lib.hid (stE.own (l3 := [5]) (l4 := [5]) HO3.out HO4.out (by have := HLO.out; omega) (by have := HLO.out; omega) (fun q' hq' => (HL.out.row.lt q' hq').2) (fun q' hq' => by have := (HL.out.row.lt q' hq').2; omega))
            have HC2 := Lib.hid (HC.out.below HB.out); have HD2 := Lib.hid (HD.out.trans (Drew.of_below HB.out))
            clear HC HD HL HB HO3 HO4
            go_wp2_with (at_builtin; refine wpList_pushK _ rfl (.tmp 45) (.tmp 54) 27 rfl lo 51 _ 5 72 infoEntry rfl (by omega) Try.underlying27 A q c hs rfl HL2.out.row (some ⟨wr.heap.size + 1 + 1, 0, none⟩) 1 1 [.int .i64 (q : Int), .int .i64 (q1 : Int), .int .i64 0, .slice (some ⟨wr.heap.size, 0, none⟩) 1 1, .slice (some ⟨wr.heap.size + 1, 0, none⟩) 1 1] rfl (by have h := reads_litk ((wr.alloc (.cells #[.int .i64 5] 3)).alloc (.cells #[.int .i64 5] 3)) [.int .i64 (q : Int), .int .i64 (q1 : Int), .int .i64 0, .slice (some ⟨wr.heap.size, 0, none⟩) 1 1, .slice (some ⟨wr.heap.size + 1, 0, none⟩) 1 1] 51 (n := 1) (k := 5) rfl; have e : ((wr.alloc (.cells #[.int .i64 5] 3)).alloc (.cells #[.int .i64 5] 3)).heap.size = wr.heap.size + 1 + 1 := (World.size_alloc _ _).trans (congrArg (· + 1) (World.size_alloc _ _)); rw [e] at h; exact h) (by simp [Value.oneCell']) (by omega) (by omega) (by omega) HLO3.out ?_; intro A2 c2 w4 hown4 hg4 hb4 hloc4 hold4)
            have HLN := Lib.hid (HL2.out.push hg4 hown4 rfl hloc4 HX.out)
            have HC := Lib.hid (HC2.out.below' hb4 HGW.out)
            have HD := Lib.hid (Drew.then_below HD2.out (by rw [hlo]; exact hb4))
            clear hown4 hg4 hb4 hloc4 hold4 HX HL2 HC2 HD2 HLO3
            go_wp2
            go_roundw
            case rel => exact ⟨A2, c2, L ++ [((q : Int), (q1 : Int), 0, [5], [5])], hs ++ [.int .i64 (q : Int), .int .i64 (q1 : Int), .int .i64 0, .slice (some ⟨wr.heap.size, 0, none⟩) 1 1, .slice (some ⟨wr.heap.size + 1, 0, none⟩) 1 1], q + 1, by omega, rfl, HLN.out, dwE_snoc HOK.out HOE.out, HC.out, HD.out⟩
            case measure => simp [lenV]; omega
          · have hqN : ¬ (q : Int) < (N : Int) := by omega
            go_wp2
            go_ret
            exact ⟨A, q, c, rfl, own_cap HL.out.row, by omega, L, ⟨hs, HL.out⟩, fun _ _ _ _ _ h => HOK.out _ h, HC.out.mono (by omega), HD.out⟩

end Go.Proofs.Ytcjmlakmigfkfaa
