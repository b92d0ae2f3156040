/- The box of a net that is being drawn. No conditions. -/
import Derived.Test.YthpfgmnhpnfopaaNet
import Derived.Test.YthpfgmnhpnfopaaDraw
import Derived.Test.YthpfgmnhpnfopaaOwnP
namespace Go.Proofs.Ythpfgmnhpnfopaa
set_option linter.unusedSimpArgs false
set_option linter.unusedVariables false
open Go.RowKit

theorem box_at {W : World} {g : Nat} {cs : Array Value} {t : TypeId} (h : W.heap[g]? = some (.cells cs t (0, 0))) {j : Nat} {u : Value} (hu : cs[j]? = some u) : W.cell? ⟨g, j, none⟩ = some u ∧ W.frozen? ⟨g, j, none⟩ = false := by
  constructor
  · rw [cell_of_row _ _ j cs t (0, 0) h]; exact hu
  · simp [World.frozen?, h]
theorem own_set {w : World} {base q i n k : Nat} {e : TypeId} {v u : Value} {xs : List Value} (h : w.ownsRow base e k v n xs) (hb : v.ownBlock ≠ some q) : (w.setCell ⟨q, i, none⟩ u).ownsRow base e k v n xs :=
  row_same h fun q' hq => Below.heap_setCell w ⟨q, i, none⟩ u q' (by rintro rfl; exact hb hq)
/-- Two rows of the call's own, apart from the box, from one another and from the result's cell. -/
structure NBox (w0 w : World) (g b k : Nat) (At : Option Addr) (ct : Nat) (T : List S3) (Ak : Option Addr) (ck : Nat) (K : List S3) : Prop where
  box : w.heap[b]? = some (.cells #[.slice At T.length ct, .slice Ak K.length ck] 68 (0, 0))
  res : w.heap[w0.heap.size]? = some (.cells #[.slice none 0 0, .slice none 0 0] 68 (0, 0))
  ownT : w.ownsRow (w0.heap.size + 1) 121 3 (.slice At T.length ct) T.length (rows3 T)
  ownK : w.ownsRow (w0.heap.size + 1) 123 3 (.slice Ak K.length ck) K.length (rows3 K)
  nbT : (Value.slice At T.length ct).ownBlock ≠ some b
  nbK : (Value.slice Ak K.length ck).ownBlock ≠ some b
  ap : apart (.slice At T.length ct) (.slice Ak K.length ck)
  cur : Cur w g k
  gl : g < w0.heap.size
  bl : w0.heap.size < b
  dr : Drew g w0 w
section
variable {w0 w w' : World} {g b k k' : Nat} {At Ak A' : Option Addr} {ct ck c' : Nat} {T K : List S3}
theorem NBox.lt (h : NBox w0 w g b k At ct T Ak ck K) : b < w.heap.size := (Array.getElem?_eq_some_iff.1 h.box).1
theorem NBox.drew (h : NBox w0 w g b k At ct T Ak ck K) (hd : Drew g w w') (hc : Cur w' g k') : NBox w0 w' g b k' At ct T Ak ck K := by
  have hlt := h.lt
  have := h.gl
  have := h.bl
  exact ⟨(hd.block b hlt (by omega)).trans h.box, (hd.block _ (by omega) (by omega)).trans h.res, hd.own h.ownT (by omega), hd.own h.ownK (by omega), h.nbT, h.nbK, h.ap, hc, h.gl, h.bl, h.dr.trans hd⟩
theorem NBox.below (h : NBox w0 w g b k At ct T Ak ck K) (hd : Below w.heap.size w w') : NBox w0 w' g b k At ct T Ak ck K := h.drew (Drew.of_below hd) (h.cur.below hd)
theorem NBox.more (h : NBox w0 w g b k At ct T Ak ck K) (hk : k ≤ k') : NBox w0 w g b k' At ct T Ak ck K := ⟨h.box, h.res, h.ownT, h.ownK, h.nbT, h.nbK, h.ap, h.cur.mono hk, h.gl, h.bl, h.dr⟩
theorem NBox.tick (h : NBox w0 w g b k At ct T Ak ck K) (q : Nat) : NBox w0 (w.drewN q) g b k At ct T Ak ck K := ⟨h.box, h.res, h.ownT, h.ownK, h.nbT, h.nbK, h.ap, h.cur, h.gl, h.bl, h.dr.drewN q⟩
theorem NBox.cells (h : NBox w0 w g b k At ct T Ak ck K) : (w.cell? ⟨b, 0, none⟩ = some (.slice At T.length ct) ∧ w.cell? ⟨b, 1, none⟩ = some (.slice Ak K.length ck)) ∧ w.frozen? ⟨b, 0, none⟩ = false ∧ w.frozen? ⟨b, 1, none⟩ = false :=
  ⟨⟨(box_at h.box (j := 0) rfl).1, (box_at h.box (j := 1) rfl).1⟩, (box_at h.box (j := 0) rfl).2, (box_at h.box (j := 1) rfl).2⟩
/-- The result's cell takes the box's values. -/
theorem NBox.fin {v0 v1 : Value} (h : NBox w0 w g b k At ct T Ak ck K) (hw : w' = (w.setCell ⟨w0.heap.size, 0, none⟩ v0).setCell ⟨w0.heap.size, 1, none⟩ v1) :
    w'.heap[w0.heap.size]? = some (.cells #[v0, v1] 68 (0, 0)) ∧ w'.ownsRow (w0.heap.size + 1) 121 3 (.slice At T.length ct) T.length (rows3 T) ∧ w'.ownsRow (w0.heap.size + 1) 123 3 (.slice Ak K.length ck) K.length (rows3 K) ∧ Cur w' g k ∧ Drew g w0 w' := by
  have hr := h.res
  have hn : ∀ (i : Nat) (u : Value) (W : World) (e : TypeId) (v : Value) (n : Nat) (xs : List Value), W.ownsRow (w0.heap.size + 1) e 3 v n xs → (W.setCell ⟨w0.heap.size, i, none⟩ u).ownsRow (w0.heap.size + 1) e 3 v n xs := fun i u W e v n xs ho => own_set ho (fun e' => by have := (ho.lt _ e').1; omega)
  have hB : Below w0.heap.size w w' := by
    rw [hw]
    exact ((Below.refl _ _).setCell (p := ⟨w0.heap.size, 0, none⟩) (Nat.le_refl _) _).setCell (p := ⟨w0.heap.size, 1, none⟩) (Nat.le_refl _) _
  refine ⟨?_, ?_, ?_, h.cur.below' hB h.gl, Drew.then_below h.dr hB⟩
  · rw [hw]; simp [World.setCell, Array.getElem?_modify, hr]
  · rw [hw]; exact hn _ _ _ _ _ _ _ (hn _ _ _ _ _ _ _ h.ownT)
  · rw [hw]; exact hn _ _ _ _ _ _ _ (hn _ _ _ _ _ _ _ h.ownK)
/-- A row grows, and its header is stored. -/
theorem NBox.pushT (h : NBox w0 w g b k At ct T Ak ck K) {x : S3} {n' : Nat} (hn : n' = T.length + 1) (hg : w.grownBy w' (Value.slice At T.length ct).ownBlock) (hr : w'.ownsRow (w0.heap.size + 1) 121 3 (.slice A' n' c') n' (rows3 T ++ cells3 x))
    (hloc : (Value.slice A' n' c').ownBlock = (Value.slice At T.length ct).ownBlock ∨ (Value.slice A' n' c').ownBlock = some w.heap.size) : NBox w0 (w'.setCell ⟨b, 0, none⟩ (.slice A' n' c')) g b k A' c' (T ++ [x]) Ak ck K := by
  have hlt := h.lt
  have hbl := h.bl
  have hgl := h.gl
  have hT : ∀ q, (Value.slice At T.length ct).ownBlock = some q → w0.heap.size + 1 ≤ q ∧ q < w.heap.size := fun q hq => h.ownT.lt q hq
  have e : (T ++ [x]).length = n' := by simp [hn]
  have er : rows3 (T ++ [x]) = rows3 T ++ cells3 x := by simp [rows3]
  have hB : Below (w0.heap.size + 1) w w' := ⟨hg.os, hg.tape, hg.output, hg.size, fun q hq => hg.block q (by omega) (fun e' => by have := (hT q e'.symm).1; omega)⟩
  have hB2 : Below (w0.heap.size + 1) w (w'.setCell ⟨b, 0, none⟩ (.slice A' n' c')) := hB.setCell (p := ⟨b, 0, none⟩) (by simp only; omega) _
  have hnb : (Value.slice A' n' c').ownBlock ≠ some b := by
    rcases hloc with h1 | h1
    · rw [h1]; exact h.nbT
    · rw [h1]; intro e'; injection e' with e'; omega
  have hbb : w'.heap[b]? = w.heap[b]? := hg.block b hlt (fun e' => h.nbT e'.symm)
  have hK : w'.ownsRow (w0.heap.size + 1) 123 3 (.slice Ak K.length ck) K.length (rows3 K) := row_same h.ownK fun q hq => hg.block q (h.ownK.lt q hq).2 (fun e' => by
    rcases h.ap with h1 | h1
    · rw [h1] at e'; cases e'
    · exact h1 (by rw [← e', hq]))
  refine ⟨?_, ?_, ?_, own_set hK h.nbK, ?_, h.nbK, ?_, h.cur.below' hB2 (by omega), h.gl, h.bl, Drew.then_below h.dr (hB2.mono (by omega))⟩
  · rw [e]
    have hb := hbb.trans h.box
    simp [World.setCell, Array.getElem?_modify, hb]
  · exact (hB2.block _ (by omega)).trans h.res
  · rw [e, er]; exact own_set hr hnb
  · rw [e]; exact hnb
  · rw [e]
    rcases hloc with h1 | h1
    · rcases h.ap with h2 | h2
      · exact .inl (h1.trans h2)
      · exact .inr (by rw [h1]; exact h2)
    · exact .inr (by
        rw [h1]
        intro e'
        have := (h.ownK.lt _ e'.symm).2
        omega)
theorem NBox.pushK (h : NBox w0 w g b k At ct T Ak ck K) {x : S3} {n' : Nat} (hn : n' = K.length + 1) (hg : w.grownBy w' (Value.slice Ak K.length ck).ownBlock) (hr : w'.ownsRow (w0.heap.size + 1) 123 3 (.slice A' n' c') n' (rows3 K ++ cells3 x))
    (hloc : (Value.slice A' n' c').ownBlock = (Value.slice Ak K.length ck).ownBlock ∨ (Value.slice A' n' c').ownBlock = some w.heap.size) : NBox w0 (w'.setCell ⟨b, 1, none⟩ (.slice A' n' c')) g b k At ct T A' c' (K ++ [x]) := by
  have hlt := h.lt
  have hbl := h.bl
  have hgl := h.gl
  have hT : ∀ q, (Value.slice Ak K.length ck).ownBlock = some q → w0.heap.size + 1 ≤ q ∧ q < w.heap.size := fun q hq => h.ownK.lt q hq
  have e : (K ++ [x]).length = n' := by simp [hn]
  have er : rows3 (K ++ [x]) = rows3 K ++ cells3 x := by simp [rows3]
  have hB : Below (w0.heap.size + 1) w w' := ⟨hg.os, hg.tape, hg.output, hg.size, fun q hq => hg.block q (by omega) (fun e' => by have := (hT q e'.symm).1; omega)⟩
  have hB2 : Below (w0.heap.size + 1) w (w'.setCell ⟨b, 1, none⟩ (.slice A' n' c')) := hB.setCell (p := ⟨b, 1, none⟩) (by simp only; omega) _
  have hnb : (Value.slice A' n' c').ownBlock ≠ some b := by
    rcases hloc with h1 | h1
    · rw [h1]; exact h.nbK
    · rw [h1]; intro e'; injection e' with e'; omega
  have hbb : w'.heap[b]? = w.heap[b]? := hg.block b hlt (fun e' => h.nbK e'.symm)
  have ap' := apart_symm h.ap
  have hK : w'.ownsRow (w0.heap.size + 1) 121 3 (.slice At T.length ct) T.length (rows3 T) := row_same h.ownT fun q hq => hg.block q (h.ownT.lt q hq).2 (fun e' => by
    rcases h.ap with h1 | h1
    · rw [h1] at hq; cases hq
    · exact h1 (by rw [← e', hq]))
  refine ⟨?_, ?_, own_set hK h.nbT, ?_, h.nbT, ?_, ?_, h.cur.below' hB2 (by omega), h.gl, h.bl, Drew.then_below h.dr (hB2.mono (by omega))⟩
  · rw [e]
    have hb := hbb.trans h.box
    simp [World.setCell, Array.getElem?_modify, hb]
  · exact (hB2.block _ (by omega)).trans h.res
  · rw [e, er]; exact own_set hr hnb
  · rw [e]; exact hnb
  · rw [e]
    rcases hloc with h1 | h1
    · rcases h.ap with h2 | h2
      · exact .inl h2
      · exact .inr (by rw [h1]; exact h2)
    · refine apart_symm (.inr ?_)
      rw [h1]
      intro e'
      have := (h.ownT.lt _ e'.symm).2
      omega
end
end Go.Proofs.Ythpfgmnhpnfopaa
