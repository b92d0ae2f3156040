/- The reference's table of least costs: what it knows, and cost. No conditions. -/
import Derived.Test.YtjibdabedagghaaLp2
namespace Go.Proofs.Ytjibdabedagghaa
set_option linter.unusedSimpArgs false
set_option linter.unusedVariables false
open Go.RowKit

/-- All that was there is as it was, but the rows of the table. -/
structure Upd (bs : List Nat) (w w' : World) : Prop where
  os : w'.os = w.os
  tape : w'.tape = w.tape
  output : w'.output = w.output
  size : w.heap.size ≤ w'.heap.size
  block : ∀ k, k < w.heap.size → k ∉ bs → w'.heap[k]? = w.heap[k]?
section
variable {bs : List Nat} {w w' w2 : World}
theorem Upd.refl (bs : List Nat) (w : World) : Upd bs w w := ⟨rfl, rfl, rfl, Nat.le_refl _, fun _ _ _ => rfl⟩
theorem Upd.trans (h : Upd bs w w') (k : Upd bs w' w2) : Upd bs w w2 :=
  ⟨k.os.trans h.os, k.tape.trans h.tape, k.output.trans h.output, Nat.le_trans h.size k.size, fun i hi hn => (k.block i (Nat.lt_of_lt_of_le hi h.size) hn).trans (h.block i hi hn)⟩
theorem Upd.of_below (h : Below w.heap.size w w') : Upd bs w w' := ⟨h.os, h.tape, h.output, h.size, fun k hk _ => h.block k hk⟩
theorem Upd.set (b i : Nat) (u : Value) (hb : b ∈ bs) : Upd bs w (w.setCell ⟨b, i, none⟩ u) :=
  ⟨rfl, rfl, rfl, by simp [World.setCell], fun k _ hn => Below.heap_setCell _ _ _ _ (fun e => hn (by rw [e]; exact hb))⟩
theorem Upd.cell (h : Upd bs w w') {p : Addr} (hp : p.block < w.heap.size) (hn : p.block ∉ bs) : w'.cell? p = w.cell? p := World.cell?_of_block (w := w) (h.block p.block hp hn)
theorem add_block (ad : Addr) (j : Nat) : (ad.add j).block = ad.block := by unfold Addr.add; split <;> rfl
theorem Upd.reads {k n : Nat} {A : Option Addr} {xs : List Value} (h : Upd bs w w') (hr : Reads w k A n xs) (hA : 0 < n → ∀ ad, A = some ad → ad.block ∉ bs) : Reads w' k A n xs :=
  ⟨hr.1, fun hn => by
    obtain ⟨ad, e, hc⟩ := hr.2 hn
    exact ⟨ad, e, fun j u hu => (h.cell (World.block_lt_of_cell? w _ (hc j u hu)) (by rw [add_block]; exact hA hn ad e)).trans (hc j u hu)⟩⟩
theorem Upd.box4 {g : Nat} {t : TypeId} {v0 v1 v2 v3 : Value} (h : Upd bs w w') (hb : Box4 w g t v0 v1 v2 v3) (hg : g ∉ bs) : Box4 w' g t v0 v1 v2 v3 := (h.block g hb.lt hg).trans hb
theorem Upd.below (h : Upd bs w w') {B : Nat} (hb : ∀ b ∈ bs, B ≤ b) (hB : B ≤ w.heap.size) : Below B w w' :=
  ⟨h.os, h.tape, h.output, h.size, fun k hk => h.block k (by omega) (fun hm => by have := hb k hm; omega)⟩
end
/-- A row of the table. -/
def RowAt (w : World) (b : Nat) (es : List Int) : Prop := w.heap[b]? = some (.cells (ints es).toArray 3 (0, 0))
section
variable {w w' : World} {b : Nat} {es : List Int}
theorem RowAt.cell (h : RowAt w b es) (j : Nat) (x : Int) (hj : es[j]? = some x) : w.cell? ⟨b, j, none⟩ = some (.int .i64 x) := by
  rw [cell_of_row w b j _ _ _ h]
  simp [ints, hj]
theorem RowAt.frozen (h : RowAt w b es) (j : Nat) : w.frozen? ⟨b, j, none⟩ = false := by
  unfold RowAt at h
  simp [World.frozen?, h]
theorem RowAt.lt (h : RowAt w b es) : b < w.heap.size := (Array.getElem?_eq_some_iff.1 h).1
theorem RowAt.set (h : RowAt w b es) (j : Nat) (x : Int) : RowAt (w.setCell ⟨b, j, none⟩ (.int .i64 x)) b (es.set j x) := by
  unfold RowAt at h ⊢
  rw [heap_setCell_same w b j _ _ _ h]
  simp [ints, List.map_set]
theorem RowAt.below (h : RowAt w b es) (hb : Below w.heap.size w w') : RowAt w' b es := (hb.block b h.lt).trans h
theorem RowAt.far {j b' : Nat} {u : Value} (h : RowAt w b es) (hn : b ≠ b') : RowAt (w.setCell ⟨b', j, none⟩ u) b es := (Below.heap_setCell w ⟨b', j, none⟩ u b hn).trans h
end
/-- What a row says is so. -/
def TrueRow (l : List G4) (trip : Int) (D n d : Nat) (es : List Int) : Prop := es.length = 1728 ∧ ∀ ns : List Int, ns.length = n → (∀ x ∈ ns, -1 ≤ x ∧ x ≤ 10) → ∀ k : Nat, keyF ns 0 = (k : Int) → es[k]? = some 0 ∨ es[k]? = some (leastW l trip (D - d) (wearsOf l ns d) + 2)
def InjL (bs : List Nat) : Prop := ∀ i j (hi : i < bs.length) (hj : j < bs.length), bs[i] = bs[j] → i = j
def Knows (l : List G4) (trip : Int) (D n : Nat) (bs : List Nat) (w : World) : Prop := ∀ d (h : d < bs.length), ∃ es, RowAt w bs[d] es ∧ TrueRow l trip D n d es
theorem TrueRow.zero (l : List G4) (trip : Int) (D n d : Nat) (hn : n ≤ 3) : TrueRow l trip D n d (List.replicate 1728 0) := by
  refine ⟨List.length_replicate, fun ns hl hb k hk => .inl ?_⟩
  have h1 := (keyF_bd ns 0 (by omega) hb).2
  rw [hl, hk] at h1
  have h2 : (12 : Int) ^ n ≤ 12 ^ 3 := by
    have : n = 0 ∨ n = 1 ∨ n = 2 ∨ n = 3 := by omega
    rcases this with rfl | rfl | rfl | rfl <;> decide
  rw [List.getElem?_replicate, if_pos (by omega)]
theorem key_lt {ns : List Int} {n : Nat} (hn : n ≤ 3) (hl : ns.length = n) (hb : ∀ x ∈ ns, -1 ≤ x ∧ x ≤ 10) : ∃ k : Nat, keyF ns 0 = (k : Int) ∧ k < 1728 := by
  have h1 := keyF_bd ns 0 (by omega) hb
  rw [hl] at h1
  have h2 : (12 : Int) ^ n ≤ 12 ^ 3 := by
    have : n = 0 ∨ n = 1 ∨ n = 2 ∨ n = 3 := by omega
    rcases this with rfl | rfl | rfl | rfl <;> decide
  exact ⟨(keyF ns 0).toNat, by omega, by omega⟩
theorem TrueRow.set {l : List G4} {trip : Int} {D n d k : Nat} {es ns : List Int} (h : TrueRow l trip D n d es) (hl : ns.length = n) (hb : ∀ x ∈ ns, -1 ≤ x ∧ x ≤ 10) (hk : keyF ns 0 = (k : Int)) (hk2 : k < 1728) : TrueRow l trip D n d (es.set k (leastW l trip (D - d) (wearsOf l ns d) + 2)) := by
  refine ⟨by rw [List.length_set]; exact h.1, fun ms hm hmb j hj => ?_⟩
  by_cases e : k = j
  · subst e
    obtain ⟨_, e2⟩ := keyF_inj ms ns 0 0 (by omega) hmb hb (by omega)
    subst e2
    right
    rw [List.getElem?_set, if_pos rfl, if_pos (by rw [h.1]; exact hk2)]
  · rw [List.getElem?_set_ne e]
    exact h.2 ms hm hmb j hj
section
variable {l : List G4} {trip : Int} {D n : Nat} {bs : List Nat} {w w' : World}
theorem Knows.below (h : Knows l trip D n bs w) (hb : Below w.heap.size w w') : Knows l trip D n bs w' := fun d hd => by
  obtain ⟨es, h1, h2⟩ := h d hd
  exact ⟨es, h1.below hb, h2⟩
theorem Knows.lt (h : Knows l trip D n bs w) : ∀ b ∈ bs, b < w.heap.size := fun b hb => by
  obtain ⟨d, hd, rfl⟩ := List.mem_iff_getElem.1 hb
  obtain ⟨es, h1, _⟩ := h d hd
  exact h1.lt
theorem Knows.set {d k : Nat} {ns : List Int} (h : Knows l trip D n bs w) (hnd : InjL bs) (hd : d < bs.length) (hl : ns.length = n) (hb : ∀ x ∈ ns, -1 ≤ x ∧ x ≤ 10) (hk : keyF ns 0 = (k : Int)) (hk2 : k < 1728) :
    Knows l trip D n bs (w.setCell ⟨bs[d], k, none⟩ (.int .i64 (leastW l trip (D - d) (wearsOf l ns d) + 2))) := fun e he => by
  obtain ⟨es, h1, h2⟩ := h e he
  by_cases hed : e = d
  · subst hed
    exact ⟨_, h1.set k _, h2.set hl hb hk hk2⟩
  · exact ⟨es, h1.far (fun hh => hed (hnd _ _ he hd hh)), h2⟩
end
end Go.Proofs.Ytjibdabedagghaa
