/- Logs that are being built: what is kept of them while other memory turns. Speaks of no function. No conditions. -/
import Derived.Test.YtcjmlakmigfkfaaKeep
import Derived.Test.YtcjmlakmigfkfaaTick3
import Derived.Test.YtcjmlakmigfkfaaDraw
namespace Go.Proofs.Ytcjmlakmigfkfaa
set_option linter.unusedSimpArgs false
set_option linter.unusedVariables false
open Go.RowKit

/-- Blocks from lo on are as they were. -/
structure Keeps (lo : Nat) (w w' : World) : Prop where
  size : w.heap.size ≤ w'.heap.size
  block : ∀ q, lo ≤ q → q < w.heap.size → w'.heap[q]? = w.heap[q]?
theorem Keeps.refl (lo : Nat) (w : World) : Keeps lo w w := ⟨Nat.le_refl _, fun _ _ _ => rfl⟩
theorem Keeps.trans {lo : Nat} {w w' w'' : World} (h : Keeps lo w w') (h' : Keeps lo w' w'') : Keeps lo w w'' :=
  ⟨Nat.le_trans h.size h'.size, fun q h1 h2 => (h'.block q h1 (Nat.lt_of_lt_of_le h2 h.size)).trans (h.block q h1 h2)⟩
theorem Keeps.of_drew {g lo : Nat} {w w' : World} (h : Drew g w w') (hg : g < lo) : Keeps lo w w' := ⟨h.size, fun q h1 h2 => h.block q h2 (by omega)⟩
theorem Keeps.of_below {lo : Nat} {w w' : World} (h : Below w.heap.size w w') : Keeps lo w w' := ⟨h.size, fun q _ h2 => h.block q h2⟩
theorem Keeps.alloc (lo : Nat) (w : World) (o : Obj) : Keeps lo w (w.alloc o) := .of_below ((Below.refl _ _).alloc (Nat.le_refl _) o)
/-- A cell that reads so in every world that keeps the blocks from lo on, but for one. -/
def stC (w : World) (lo : Nat) (no : Option Nat) (u : Value) (x : Cel) : Prop :=
  ∀ w' : World, (∀ q, lo ≤ q → q < w.heap.size → no ≠ some q → w'.heap[q]? = w.heap[q]?) → readsC w' u x
section
variable {w w' : World} {lo lo' : Nat} {no no' : Option Nat} {u : Value} {x : Cel}
theorem stC.now (h : stC w lo no u x) : readsC w u x := h w (fun _ _ _ _ => rfl)
theorem stC.keep (h : stC w lo no u x) (hk : Keeps lo w w') : stC w' lo no u x := fun w2 h2 => h w2 fun q h3 h4 h5 => (h2 q h3 (Nat.lt_of_lt_of_le h4 hk.size) h5).trans (hk.block q h3 h4)
theorem stC.none (h : stC w lo no u x) : stC w lo .none u x := fun w2 h2 => h w2 fun q h3 h4 _ => h2 q h3 h4 (by simp)
theorem stC.fresh (h : stC w lo .none u x) (hk : Keeps lo w w') (hn : ∀ q, no = some q → w.heap.size ≤ q) : stC w' lo no u x := fun w2 h2 => h w2 fun q h3 h4 _ =>
  (h2 q h3 (Nat.lt_of_lt_of_le h4 hk.size) (fun e => by have := hn q e; omega)).trans (hk.block q h3 h4)
theorem stC.grown {v : Value} (h : stC w lo v.ownBlock u x) (hg : w.grownBy w' v.ownBlock) (hl : no = v.ownBlock ∨ no = some w.heap.size) : stC w' lo no u x := fun w2 h2 => h w2 fun q h3 h4 h5 => by
  refine (h2 q h3 (Nat.lt_of_lt_of_le h4 hg.size) (fun e => ?_)).trans (hg.block q h4 (fun e => h5 e.symm))
  rcases hl with h6 | h6
  · exact h5 (by rw [← h6]; exact e)
  · rw [h6] at e; injection e with e; omega
theorem stC.mono (h : stC w lo no u x) (hl : lo' ≤ lo) : stC w lo' no u x := fun w2 h2 => h w2 fun q h3 h4 h5 => h2 q (Nat.le_trans hl h3) h4 h5
theorem stC.plain (v : Value) : stC w lo no v (.inl v) := fun _ _ => rfl
theorem stC.own {base : Nat} {e : TypeId} {A : Option Addr} {c : Nat} {l : List Value} {m : Nat} (hm : m = l.length) (h : w.ownsRow base e 1 (.slice A m c) m l) (hb : lo ≤ base) (hn : (Value.slice A m c).ownBlock = .none ∨ (Value.slice A m c).ownBlock ≠ no) : stC w lo no (.slice A m c) (.inr l) := fun w2 h2 => by
  subst hm
  refine readsC_of_own (base := base) (ei := e) ⟨A, c, rfl, row_same h fun q hq => h2 q ?_ (h.lt q hq).2 (fun e' => ?_)⟩
  · have := (h.lt q hq).1; omega
  · rcases hn with h3 | h3
    · rw [h3] at hq; cases hq
    · exact h3 (by rw [hq, e'])
end
/-- The cells of an entry. -/
def stE (w : World) (lo : Nat) (no : Option Nat) (us : List Value) (x : EntryT) : Prop := us.length = 5 ∧ ∀ (j : Nat) (u : Value) (y : Cel), us[j]? = some u → (celEntry x)[j]? = some y → stC w lo no u y
/-- A log of the call's own: its row may be written, its entries' slices lie elsewhere. -/
structure LogO (w : World) (lo : Nat) (A : Option Addr) (n c : Nat) (L : List EntryT) (hs : List Value) : Prop where
  row : w.ownsRow lo 51 5 (.slice A n c) n hs
  len : L.length = n
  cell : ∀ (j : Nat) (u : Value) (x : Cel), hs[j]? = some u → (rowsE L)[j]? = some x → stC w lo (Value.slice A n c).ownBlock u x
/-- A log that is read. -/
structure LogR (w : World) (lo : Nat) (A : Option Addr) (n : Nat) (L : List EntryT) (hs : List Value) : Prop where
  row : Reads w 5 A n hs
  far : 0 < n → ∀ ad, A = some ad → lo ≤ ad.block
  len : L.length = n
  cell : ∀ (j : Nat) (u : Value) (x : Cel), hs[j]? = some u → (rowsE L)[j]? = some x → stC w lo .none u x
section
variable {w w' : World} {lo n c n' c' : Nat} {A A' : Option Addr} {L : List EntryT} {hs us : List Value}
theorem LogO.nil (w : World) (lo : Nat) : LogO w lo none 0 0 [] [] := ⟨World.ownsRow_nil _ _ _ _, rfl, fun j u x hu => by simp at hu⟩
theorem LogR.nil (w : World) (lo c : Nat) : LogR w lo none 0 [] [] := ⟨.nil, fun h => by omega, rfl, fun j u x hu => by simp at hu⟩
theorem LogO.keep (h : LogO w lo A n c L hs) (hk : Keeps lo w w') : LogO w' lo A n c L hs :=
  ⟨row_same h.row fun q hq => hk.block q (h.row.lt q hq).1 (h.row.lt q hq).2, h.len, fun j u x hu hx => (h.cell j u x hu hx).keep hk⟩
theorem LogR.keep (h : LogR w lo A n L hs) (hk : Keeps lo w w') : LogR w' lo A n L hs :=
  ⟨⟨h.row.1, fun h0 => by
    obtain ⟨ad, e, hc⟩ := h.row.2 h0
    refine ⟨ad, e, fun j u hu => ?_⟩
    have h1 := h.far h0 ad e
    rw [← hc j u hu]
    exact World.cell?_of_block (hk.block _ (by rw [block_of_add]; exact h1) (World.block_lt_of_cell? w _ (hc j u hu)))⟩, h.far, h.len, fun j u x hu hx => (h.cell j u x hu hx).keep hk⟩
theorem LogO.toR (h : LogO w lo A n c L hs) : LogR w lo A n L hs :=
  ⟨.of_own h.row, fun h0 ad e => by
    rcases h.row.2 with ⟨_, h1⟩ | ⟨g, cap, cur, hv, hb, _⟩
    · omega
    · injection hv with e1 _ _
      rw [e] at e1
      injection e1 with e1
      subst e1
      exact hb, h.len, fun j u x hu hx => (h.cell j u x hu hx).none⟩
theorem LogR.reads (h : LogR w lo A n L hs) : Reads2 w 5 A n (rowsE L) :=
  ⟨hs, h.row, by rw [length_rowsE, h.len, h.row.1], fun j u x hu hx => (h.cell j u x hu hx).now⟩
theorem LogO.reads (h : LogO w lo A n c L hs) : Reads2 w 5 A n (rowsE L) := h.toR.reads
theorem LogR.mono {lo' : Nat} (h : LogR w lo A n L hs) (hl : lo' ≤ lo) : LogR w lo' A n L hs :=
  ⟨h.row, fun h0 ad e => Nat.le_trans hl (h.far h0 ad e), h.len, fun j u x hu hx => (h.cell j u x hu hx).mono hl⟩
theorem LogR.of_own2 {lo' hi : Nat} (h : Own2 w lo hi 51 3 5 A n c (rowsE L) hs) (hl : lo' ≤ lo) : LogR w lo' A n L hs :=
  ⟨.of_own h.row, fun h0 ad e => by
    rcases h.row.2 with ⟨_, h1⟩ | ⟨g, cap, cur, hv, hb, _⟩
    · omega
    · injection hv with e1 _ _
      rw [e] at e1
      injection e1 with e1
      subst e1
      simp only; omega, by have h1 := h.len; have h2 := h.row.1; rw [length_rowsE] at h1; omega, fun j u x hu hx => by
    have hc := h.cell j u x hu hx
    cases x with
    | inl v => cases hc; exact .plain _
    | inr l =>
      obtain ⟨A1, c1, rfl, ho⟩ := hc
      refine .own rfl ho hl ?_
      cases hq : (Value.slice A1 l.length c1).ownBlock with
      | none => exact .inl rfl
      | some q => exact .inr (by simp)⟩
theorem LogO.push {e : EntryT} (h : LogO w lo A n c L hs) (hg : w.grownBy w' (Value.slice A n c).ownBlock) (hr : w'.ownsRow lo 51 5 (.slice A' n' c') n' (hs ++ us)) (hn : n' = n + 1)
    (hloc : (Value.slice A' n' c').ownBlock = (Value.slice A n c).ownBlock ∨ (Value.slice A' n' c').ownBlock = some w.heap.size) (hx : stE w lo (Value.slice A n c).ownBlock us e) : LogO w' lo A' n' c' (L ++ [e]) (hs ++ us) := by
  have e1 : rowsE (L ++ [e]) = rowsE L ++ celEntry e := by simp [rowsE]
  have hl : (rowsE L).length = hs.length := by rw [length_rowsE, h.len, h.row.1]
  refine ⟨hr, by simp [h.len, hn], fun j u x hu hxx => ?_⟩
  rw [e1] at hxx
  rcases append_cases hu with ⟨hj, hu⟩ | ⟨hj, hu⟩ <;> rcases append_cases hxx with ⟨hj', hxx⟩ | ⟨hj', hxx⟩
  · exact (h.cell j u x hu hxx).grown hg hloc
  · omega
  · omega
  · rw [hl] at hxx
    exact (hx.2 _ u x hu hxx).grown hg hloc
/-- .. of which the old slice is kept. -/
theorem LogO.kept (h : LogO w lo A n c L hs) (hg : w.grownBy w' (Value.slice A n c).ownBlock) (hr : w'.ownsRow lo 51 5 (.slice A n c) n hs) : LogO w' lo A n c L hs :=
  ⟨hr, h.len, fun j u x hu hx => (h.cell j u x hu hx).grown hg (.inl rfl)⟩
/-- An entry of a log that is read. -/
theorem LogR.entry {i : Nat} (h : LogR w lo A n L hs) (hi : i < L.length) : stE w lo .none ((hs.drop (i * 5)).take 5) L[i] := by
  have hl : hs.length = n * 5 := h.row.1
  have hln := h.len
  refine ⟨by simp; omega, fun j u y hu hy => ?_⟩
  have hj : j < 5 := by
    have := (List.getElem?_eq_some_iff.1 hy).1
    simpa [celEntry] using this
  rw [List.getElem?_take_of_lt hj, List.getElem?_drop] at hu
  exact h.cell (i * 5 + j) u y hu (by rw [rowsE_get hi hj]; exact hy)
theorem stE.fresh {no : Option Nat} {us : List Value} {e : EntryT} (h : stE w lo .none us e) (hk : Keeps lo w w') (hn : ∀ q, no = some q → w.heap.size ≤ q) : stE w' lo no us e := ⟨h.1, fun j u y hu hy => (h.2 j u y hu hy).fresh hk hn⟩
theorem stE.keep {no : Option Nat} {us : List Value} {e : EntryT} (h : stE w lo no us e) (hk : Keeps lo w w') : stE w' lo no us e := ⟨h.1, fun j u y hu hy => (h.2 j u y hu hy).keep hk⟩
/-- An entry with two rows of the call's own. -/
theorem stE.own {no : Option Nat} {b3 b4 : Nat} {t m p : Int} {A3 A4 : Option Addr} {c3 c4 : Nat} {l3 l4 : List Int} (h3 : w.ownsRow b3 3 1 (.slice A3 l3.length c3) l3.length (ints l3)) (h4 : w.ownsRow b4 3 1 (.slice A4 l4.length c4) l4.length (ints l4)) (hb3 : lo ≤ b3) (hb4 : lo ≤ b4)
    (hn3 : ∀ q, no = some q → q < b3) (hn4 : ∀ q, no = some q → q < b4) : stE w lo no [.int .i64 t, .int .i64 m, .int .i64 p, .slice A3 l3.length c3, .slice A4 l4.length c4] (t, m, p, l3, l4) := by
  have far : ∀ (b : Nat) (A : Option Addr) (l : List Int) (c : Nat), w.ownsRow b 3 1 (.slice A l.length c) l.length (ints l) → (∀ q, no = some q → q < b) → (Value.slice A l.length c).ownBlock = none ∨ (Value.slice A l.length c).ownBlock ≠ no := by
    intro b A l c ho hn
    cases hq : (Value.slice A l.length c).ownBlock with
    | none => exact .inl rfl
    | some q => exact .inr (fun e => by have h1 := hn q e.symm; have h2 := (ho.lt q hq).1; omega)
  refine ⟨rfl, fun j u y hu hy => ?_⟩
  match j with
  | 0 => simp [celEntry] at hu hy; subst hu; subst hy; exact .plain _
  | 1 => simp [celEntry] at hu hy; subst hu; subst hy; exact .plain _
  | 2 => simp [celEntry] at hu hy; subst hu; subst hy; exact .plain _
  | 3 => simp [celEntry] at hu hy; subst hu; subst hy; exact .own (by simp) h3 hb3 (far _ _ _ _ h3 hn3)
  | 4 => simp [celEntry] at hu hy; subst hu; subst hy; exact .own (by simp) h4 hb4 (far _ _ _ _ h4 hn4)
  | j + 5 => simp at hu
end
end Go.Proofs.Ytcjmlakmigfkfaa
