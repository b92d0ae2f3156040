/- Slices whose cells may be slices in turn: read, owned, kept, written. Speaks of no function. No conditions. -/
import Derived.Test.YthpfgmnhpnfopaaLib
import Derived.Maps.AppendAt
namespace Go.Proofs.Ythpfgmnhpnfopaa
set_option linter.unusedSimpArgs false
set_option linter.unusedVariables false
open Go.RowKit Go.ChangeShapes Go.WideShapes Go.Deep

/-- A cell: a plain value, or a slice with these contents. -/
abbrev Cel := Value ⊕ List Value
def readsC (w : World) (u : Value) : Cel → Prop
  | .inl v => u = v
  | .inr l => ∃ A c, u = .slice A l.length c ∧ l.length ≤ c ∧ c ≤ 9223372036854775807 ∧ Reads w 1 A l.length l
def Reads2 (w : World) (k : Nat) (A : Option Addr) (n : Nat) (cs : List Cel) : Prop :=
  ∃ hs, Reads w k A n hs ∧ cs.length = hs.length ∧ ∀ (j : Nat) (u : Value) (c : Cel), hs[j]? = some u → cs[j]? = some c → readsC w u c
def ownC (w : World) (base : Nat) (e : TypeId) (u : Value) : Cel → Prop
  | .inl v => u = v
  | .inr l => ∃ A c, u = .slice A l.length c ∧ w.ownsRow base e 1 u l.length l
def apart (u v : Value) : Prop := u.ownBlock = none ∨ u.ownBlock ≠ v.ownBlock
/-- Blocks in [lo, hi) alone may have turned. -/
structure Turned (lo hi : Nat) (w w' : World) : Prop where
  os : w'.os = w.os
  tape : w'.tape = w.tape
  output : w'.output = w.output
  size : w.heap.size ≤ w'.heap.size
  block : ∀ q, q < w.heap.size → ¬ (lo ≤ q ∧ q < hi) → w'.heap[q]? = w.heap[q]?
/-- A slice of the call's own, its cells' slices of the call's own too, no two in one block. -/
structure Own2 (w : World) (lo hi : Nat) (e ei : TypeId) (k : Nat) (A : Option Addr) (n c : Nat) (cs : List Cel) (hs : List Value) : Prop where
  row : w.ownsRow lo e k (.slice A n c) n hs
  len : cs.length = hs.length
  cell : ∀ (j : Nat) (u : Value) (x : Cel), hs[j]? = some u → cs[j]? = some x → ownC w lo ei u x
  apart : ∀ (i j : Nat) (u v : Value), i ≠ j → hs[i]? = some u → hs[j]? = some v → apart u v
  out : ∀ (j : Nat) (u : Value), hs[j]? = some u → Go.Proofs.Ythpfgmnhpnfopaa.apart u (.slice A n c)
  bound : blockLt (.slice A n c) hi
  bounds : ∀ (j : Nat) (u : Value), hs[j]? = some u → ∀ q, u.ownBlock = some q → lo ≤ q ∧ q < hi

section
variable {w w' : World} {lo hi lo' hi' k n c : Nat} {e ei : TypeId} {A : Option Addr} {cs : List Cel} {hs : List Value} {xs : List Value} {v : Value}
theorem apart_int (kd : IntKind) (a : Int) (v : Value) : apart (.int kd a) v := .inl rfl
theorem apart_nil (n c : Nat) (v : Value) : apart (.slice none n c) v := .inl rfl
theorem apart_symm {u v : Value} (h : apart u v) : apart v u := by
  rcases h with h | h
  · cases hv : v.ownBlock with
    | none => exact .inl hv
    | some q => exact .inr (by rw [h, hv]; simp)
  · by_cases hv : v.ownBlock = none
    · exact .inl hv
    · exact .inr (fun e => h e.symm)
theorem Turned.refl : Turned lo hi w w := ⟨rfl, rfl, rfl, Nat.le_refl _, fun _ _ _ => rfl⟩
theorem Turned.trans {w'' : World} (h : Turned lo hi w w') (h' : Turned lo hi w' w'') : Turned lo hi w w'' :=
  ⟨h'.os.trans h.os, h'.tape.trans h.tape, h'.output.trans h.output, Nat.le_trans h.size h'.size, fun q hq hn => (h'.block q (Nat.lt_of_lt_of_le hq h.size) hn).trans (h.block q hq hn)⟩
theorem Turned.mono (h : Turned lo hi w w') (h1 : lo' ≤ lo) (h2 : hi ≤ hi') : Turned lo' hi' w w' :=
  ⟨h.os, h.tape, h.output, h.size, fun q hq hn => h.block q hq (fun hh => hn ⟨by omega, by omega⟩)⟩
theorem Turned.of_below (h : Below w.heap.size w w') : Turned lo hi w w' := ⟨h.os, h.tape, h.output, h.size, fun q hq _ => h.block q hq⟩
theorem Turned.of_grown (hg : w.grownBy w' v.ownBlock) (hb : ∀ q, v.ownBlock = some q → lo ≤ q ∧ q < hi) : Turned lo hi w w' :=
  ⟨hg.os, hg.tape, hg.output, hg.size, fun q hq hn => hg.block q hq (fun e => hn (hb q e.symm))⟩
theorem Turned.of_mark {base : Nat} (hg : w.grownBy w' v.ownBlock) (h : w.ownsRow base e k v n xs) (hb : blockLt v hi) : Turned base hi w w' :=
  .of_grown hg (fun q hq => ⟨(h.lt q hq).1, hb q hq⟩)
theorem below_turned {w0 : World} {B : Nat} (hb : Below B w0 w) (h : Turned lo hi w w') (hB : B ≤ lo) (hB' : B ≤ w.heap.size) : Below B w0 w' :=
  hb.trans ⟨h.os, h.tape, h.output, h.size, fun q hq => h.block q (by omega) (fun hh => by omega)⟩
/-- A row is kept where its block is. -/
theorem row_same {base : Nat} (h : w.ownsRow base e k v n xs) (hk : ∀ q, v.ownBlock = some q → w'.heap[q]? = w.heap[q]?) : w'.ownsRow base e k v n xs := by
  refine ⟨h.1, ?_⟩
  rcases h.2 with hn | ⟨g, cap, cur, rfl, hb, hgg, rest⟩
  · exact .inl hn
  · exact .inr ⟨g, cap, cur, rfl, hb, by rw [hk g rfl]; exact hgg, rest⟩
theorem row_turned_after {base b : Nat} (h : w.ownsRow base e k v n xs) (ht : Turned lo hi w w') (hb : blockLt v b) (hd : b ≤ lo) : w'.ownsRow base e k v n xs :=
  row_same h fun q hq => ht.block q (h.lt q hq).2 (fun hh => by have := hb q hq; omega)
theorem row_turned_before {base : Nat} (h : w.ownsRow base e k v n xs) (ht : Turned lo hi w w') (hd : hi ≤ base) : w'.ownsRow base e k v n xs :=
  row_same h fun q hq => ht.block q (h.lt q hq).2 (fun hh => by have := (h.lt q hq).1; omega)
theorem ownC_same {base : Nat} {u : Value} {x : Cel} (h : ownC w base ei u x) (hk : ∀ q, u.ownBlock = some q → w'.heap[q]? = w.heap[q]?) : ownC w' base ei u x := by
  cases x with
  | inl _ => exact h
  | inr l => obtain ⟨A, c, rfl, ho⟩ := h; exact ⟨A, c, rfl, row_same ho hk⟩
theorem Own2.same (h : Own2 w lo hi e ei k A n c cs hs) (hk : ∀ q, lo ≤ q → q < hi → w'.heap[q]? = w.heap[q]?) : Own2 w' lo hi e ei k A n c cs hs :=
  ⟨row_same h.row fun q hq => hk q (h.row.lt q hq).1 (h.bound q hq), h.len, fun j u x hu hx => ownC_same (h.cell j u x hu hx) fun q hq => hk q (h.bounds j u hu q hq).1 (h.bounds j u hu q hq).2, h.apart, h.out, h.bound, h.bounds⟩
theorem Own2.below (h : Own2 w lo hi e ei k A n c cs hs) (hb : Below w.heap.size w w') (hh : hi ≤ w.heap.size) : Own2 w' lo hi e ei k A n c cs hs :=
  h.same fun q _ hq => hb.block q (by omega)
theorem Own2.turned_after (h : Own2 w lo hi e ei k A n c cs hs) (ht : Turned lo' hi' w w') (hh : hi ≤ w.heap.size) (hd : hi ≤ lo') : Own2 w' lo hi e ei k A n c cs hs :=
  h.same fun q _ hq => ht.block q (by omega) (fun hx => by omega)
theorem Own2.turned_before (h : Own2 w lo hi e ei k A n c cs hs) (ht : Turned lo' hi' w w') (hh : hi ≤ w.heap.size) (hd : hi' ≤ lo) : Own2 w' lo hi e ei k A n c cs hs :=
  h.same fun q _ hq => ht.block q (by omega) (fun hx => by omega)
theorem Own2.mono_hi (h : Own2 w lo hi e ei k A n c cs hs) (hh : hi ≤ hi') : Own2 w lo hi' e ei k A n c cs hs :=
  ⟨h.row, h.len, h.cell, h.apart, h.out, fun q hq => Nat.lt_of_lt_of_le (h.bound q hq) hh, fun j u hu q hq => ⟨(h.bounds j u hu q hq).1, Nat.lt_of_lt_of_le (h.bounds j u hu q hq).2 hh⟩⟩
theorem ownC_mono {base base' : Nat} {u : Value} {x : Cel} (h : ownC w base ei u x) (hb : base' ≤ base) : ownC w base' ei u x := by
  cases x with
  | inl _ => exact h
  | inr l => obtain ⟨A, c, rfl, ho⟩ := h; exact ⟨A, c, rfl, own_mono ho hb⟩
theorem Own2.mono_lo (h : Own2 w lo hi e ei k A n c cs hs) (hh : lo' ≤ lo) : Own2 w lo' hi e ei k A n c cs hs :=
  ⟨own_mono h.row hh, h.len, fun j u x hu hx => ownC_mono (h.cell j u x hu hx) hh, h.apart, h.out, h.bound, fun j u hu q hq => ⟨Nat.le_trans hh (h.bounds j u hu q hq).1, (h.bounds j u hu q hq).2⟩⟩
theorem readsC_of_own {base : Nat} {u : Value} {x : Cel} (h : ownC w base ei u x) : readsC w u x := by
  cases x with
  | inl _ => exact h
  | inr l =>
    obtain ⟨A, c, rfl, ho⟩ := h
    refine ⟨A, c, rfl, own_cap ho, ?_, .of_own ho⟩
    rcases ho.2 with ⟨hv, h0⟩ | ⟨g, cap, cur, hv, _, _, hnc, hm, _⟩
    · injection hv with _ _ h3; omega
    · injection hv with _ _ h3; unfold maxLen at hm; omega
theorem Reads2.of_own (h : Own2 w lo hi e ei k A n c cs hs) : Reads2 w k A n cs :=
  ⟨hs, .of_own h.row, h.len, fun j u x hu hx => readsC_of_own (h.cell j u x hu hx)⟩
theorem readsC_keep {u : Value} {x : Cel} (h : readsC w u x) (hk : ∀ p : Addr, p.block < w.heap.size → w'.cell? p = w.cell? p) : readsC w' u x := by
  cases x with
  | inl _ => exact h
  | inr l => obtain ⟨A, c, hu, h1, h2, h3⟩ := h; exact ⟨A, c, hu, h1, h2, h3.keep hk⟩
theorem Reads2.keep (h : Reads2 w k A n cs) (hk : ∀ p : Addr, p.block < w.heap.size → w'.cell? p = w.cell? p) : Reads2 w' k A n cs := by
  obtain ⟨hs, h1, h2, h3⟩ := h
  exact ⟨hs, h1.keep hk, h2, fun j u x hu hx => readsC_keep (h3 j u x hu hx) hk⟩
theorem Reads2.below (h : Reads2 w k A n cs) (hb : Below w.heap.size w w') : Reads2 w' k A n cs := h.keep fun _ hp => hb.cell hp
theorem Reads2.alloc (h : Reads2 w k A n cs) (o : Obj) : Reads2 (w.alloc o) k A n cs := h.keep fun p hp => World.cell?_alloc_lt w o p (by omega)
theorem Reads2.len (h : Reads2 w k A n cs) : cs.length = n * k := by
  obtain ⟨hs, h1, h2, _⟩ := h
  rw [h2, h1.1]
/-- A cell that is a slice, read. -/
theorem Reads2.row {j : Nat} {l : List Value} (h : Reads2 w k A n cs) (hx : cs[j]? = some (.inr l)) : ∃ ad Ai ci, A = some ad ∧ w.cell? (ad.add j) = some (.slice Ai l.length ci) ∧ l.length ≤ ci ∧ ci ≤ 9223372036854775807 ∧ Reads w 1 Ai l.length l := by
  obtain ⟨hs, h1, h2, h3⟩ := h
  have hj : j < hs.length := by rw [← h2]; exact (List.getElem?_eq_some_iff.1 hx).1
  have hn : 0 < n := by
    rcases Nat.eq_zero_or_pos n with h0 | h0
    · subst h0; have := h1.1; simp at this; subst this; simp at hj
    · exact h0
  obtain ⟨ad, e, hc⟩ := h1.2 hn
  obtain ⟨Ai, ci, hu, r1, r2, r3⟩ := h3 j hs[j] (.inr l) (List.getElem?_eq_getElem hj) hx
  exact ⟨ad, Ai, ci, e, by rw [hc j _ (List.getElem?_eq_getElem hj), hu], r1, r2, r3⟩
/-- A plain cell, read. -/
theorem Reads2.plain {j : Nat} {u : Value} (h : Reads2 w k A n cs) (hx : cs[j]? = some (.inl u)) : ∃ ad, A = some ad ∧ w.cell? (ad.add j) = some u := by
  obtain ⟨hs, h1, h2, h3⟩ := h
  have hj : j < hs.length := by rw [← h2]; exact (List.getElem?_eq_some_iff.1 hx).1
  have hn : 0 < n := by
    rcases Nat.eq_zero_or_pos n with h0 | h0
    · subst h0; have := h1.1; simp at this; subst this; simp at hj
    · exact h0
  obtain ⟨ad, e, hc⟩ := h1.2 hn
  exact ⟨ad, e, by rw [hc j _ (List.getElem?_eq_getElem hj)]; exact congrArg some (h3 j hs[j] (.inl u) (List.getElem?_eq_getElem hj) hx)⟩
theorem Reads2.nil : Reads2 w k A 0 [] := ⟨[], .nil, rfl, fun j u c h => by simp at h⟩
/-- A cell of an owned one that is a slice. -/
theorem Own2.at_ {j : Nat} {l : List Value} (h : Own2 w lo hi e ei k A n c cs hs) (hx : cs[j]? = some (.inr l)) : ∃ g Ai ci, A = some ⟨g, 0, none⟩ ∧ hs[j]? = some (.slice Ai l.length ci) ∧ w.cell? ⟨g, j, none⟩ = some (.slice Ai l.length ci) ∧ w.frozen? ⟨g, j, none⟩ = false ∧ w.ownsRow lo ei 1 (.slice Ai l.length ci) l.length l := by
  have hj : j < hs.length := by rw [← h.len]; exact (List.getElem?_eq_some_iff.1 hx).1
  obtain ⟨Ai, ci, hu, ho⟩ := h.cell j hs[j] (.inr l) (List.getElem?_eq_getElem hj) hx
  rcases h.row.2 with ⟨hv, h0⟩ | ⟨g, cap, cur, hv, _⟩
  · subst h0
    have := h.row.1
    simp at this
    subst this
    simp at hj
  · have hA : A = some ⟨g, 0, none⟩ := by injection hv
    subst hA
    rw [hu] at ho
    refine ⟨g, Ai, ci, rfl, by rw [List.getElem?_eq_getElem hj, hu], ?_, h.row.frozenAt j, ho⟩
    rw [h.row.cellAt j (by rw [← h.row.1]; exact hj), List.getElem?_eq_getElem hj, hu]
theorem set_cases {α : Type} {l : List α} {i j : Nat} {x v : α} (h : (l.set j x)[i]? = some v) : (i = j ∧ v = x) ∨ (i ≠ j ∧ l[i]? = some v) := by
  by_cases hij : i = j
  · subst hij
    have hl : i < (l.set i x).length := (List.getElem?_eq_some_iff.1 h).1
    rw [List.getElem?_set_self (by simpa using hl)] at h
    injection h with h
    exact .inl ⟨rfl, h.symm⟩
  · rw [List.getElem?_set_ne (Ne.symm hij)] at h
    exact .inr ⟨hij, h⟩
/-- The contents of one of the slices are written, in place. -/
theorem Own2.wrote {j : Nat} {u : Value} {l l' : List Value} (h : Own2 w lo hi e ei k A n c cs hs) (hx : cs[j]? = some (.inr l)) (hu : hs[j]? = some u) (hg : w.grownBy w' u.ownBlock) (hh : hi ≤ w.heap.size) (hl : l'.length = l.length) (ho : w'.ownsRow lo ei 1 u l'.length l') :
    Own2 w' lo hi e ei k A n c (cs.set j (.inr l')) hs := by
  have key : ∀ q, lo ≤ q → q < hi → some q ≠ u.ownBlock → w'.heap[q]? = w.heap[q]? := fun q _ hq hne => hg.block q (by omega) hne
  have hjc : j < cs.length := (List.getElem?_eq_some_iff.1 hx).1
  refine ⟨row_same h.row fun q hq => key q (h.row.lt q hq).1 (h.bound q hq) (fun e' => ?_), by simp [h.len], fun i v x hv hxi => ?_, h.apart, h.out, h.bound, h.bounds⟩
  · rcases h.out j u hu with h1 | h1
    · rw [h1] at e'; cases e'
    · exact h1 (by rw [← e', hq])
  · rcases set_cases hxi with ⟨rfl, rfl⟩ | ⟨hij, hxi⟩
    · rw [hu] at hv
      injection hv with hv
      subst hv
      obtain ⟨Ai, ci, hu', _⟩ := h.cell i u (.inr l) hu hx
      exact ⟨Ai, ci, by rw [hu', hl], ho⟩
    · refine ownC_same (h.cell i v x hv hxi) fun q hq => ?_
      have hb := h.bounds i v hv q hq
      refine key q hb.1 hb.2 (fun e' => ?_)
      rcases h.apart i j v u hij hv hu with h1 | h1
      · rw [h1] at hq; cases hq
      · exact h1 (by rw [hq, e'])
theorem getElem?_set_ne' {α : Type} {l : List α} {i j : Nat} {x : α} (h : i ≠ j) : (l.set i x)[j]? = l[j]? := by rw [List.getElem?_set, if_neg h]
/-- A cell is stored: its value is plain, or a slice of the call's own in a block of its own. -/
theorem Own2.put {g j : Nat} {u : Value} {x : Cel} {hi2 : Nat} (h : Own2 w lo hi e ei k (some ⟨g, 0, none⟩) n c cs hs) (hj : j < hs.length) (hx : ownC w lo ei u x) (hh : hi ≤ hi2)
    (hf : ∀ q, u.ownBlock = some q → lo ≤ q ∧ q < hi2 ∧ q ≠ g ∧ ∀ i v, i ≠ j → hs[i]? = some v → v.ownBlock ≠ some q) :
    Own2 (w.setCell ⟨g, j, none⟩ u) lo hi2 e ei k (some ⟨g, 0, none⟩) n c (cs.set j x) (hs.set j u) := by
  have hrow := (h.row.stored j u).1
  have key : ∀ q, q ≠ g → (w.setCell ⟨g, j, none⟩ u).heap[q]? = w.heap[q]? := fun q hq => Below.heap_setCell w ⟨g, j, none⟩ u q hq
  have hset : ∀ i v, (hs.set j u)[i]? = some v → (i = j ∧ v = u) ∨ (i ≠ j ∧ hs[i]? = some v) := fun i v hv => set_cases hv
  have hug : ∀ q, u.ownBlock = some q → q ≠ g := fun q hq => (hf q hq).2.2.1
  refine ⟨hrow, by simp [h.len], fun i v y hv hy => ?_, fun i i' v v' hne hv hv' => ?_, fun i v hv => ?_, fun q hq => Nat.lt_of_lt_of_le (h.bound q hq) hh, fun i v hv q hq => ?_⟩
  · rcases hset i v hv with ⟨rfl, rfl⟩ | ⟨hne, hv'⟩
    · rw [List.getElem?_set, if_pos rfl, if_pos (by rw [h.len]; exact hj)] at hy
      injection hy with hy
      subst hy
      exact ownC_same hx fun q hq => key q (hug q hq)
    · rw [getElem?_set_ne' (Ne.symm hne)] at hy
      refine ownC_same (h.cell i v y hv' hy) fun q hq => key q ?_
      rcases h.out i v hv' with h1 | h1
      · rw [h1] at hq; cases hq
      · intro e; subst e; exact h1 (by rw [hq]; rfl)
  · rcases hset i v hv with ⟨rfl, rfl⟩ | ⟨h1, hv1⟩ <;> rcases hset i' v' hv' with ⟨rfl, rfl⟩ | ⟨h2, hv2⟩
    · exact absurd rfl hne
    · cases hq : v.ownBlock with
      | none => exact .inl hq
      | some q => exact .inr (by rw [hq]; exact fun e => (hf q hq).2.2.2 i' v' h2 hv2 e.symm)
    · refine apart_symm ?_
      cases hq : v'.ownBlock with
      | none => exact .inl hq
      | some q => exact .inr (by rw [hq]; exact fun e => (hf q hq).2.2.2 i v h1 hv1 e.symm)
    · exact h.apart i i' v v' hne hv1 hv2
  · rcases hset i v hv with ⟨rfl, rfl⟩ | ⟨h1, hv1⟩
    · cases hq : v.ownBlock with
      | none => exact .inl hq
      | some q => exact .inr (by rw [hq]; intro e; injection e with e; exact hug q hq e)
    · exact h.out i v hv1
  · rcases hset i v hv with ⟨rfl, rfl⟩ | ⟨h1, hv1⟩
    · exact ⟨(hf q hq).1, (hf q hq).2.1⟩
    · exact ⟨(h.bounds i v hv1 q hq).1, Nat.lt_of_lt_of_le (h.bounds i v hv1 q hq).2 hh⟩
/-- .. a plain value. -/
theorem Own2.put_plain {g j : Nat} {u : Value} (h : Own2 w lo hi e ei k (some ⟨g, 0, none⟩) n c cs hs) (hj : j < hs.length) (hu : u.ownBlock = none) :
    Own2 (w.setCell ⟨g, j, none⟩ u) lo hi e ei k (some ⟨g, 0, none⟩) n c (cs.set j (.inl u)) (hs.set j u) :=
  h.put hj rfl (Nat.le_refl _) (fun q hq => by rw [hu] at hq; cases hq)
/-- .. a slice in new memory. -/
theorem Own2.put_new {g j : Nat} {Ai : Option Addr} {ci : Nat} {l : List Value} {base hi2 : Nat} (h : Own2 w lo hi e ei k (some ⟨g, 0, none⟩) n c cs hs) (hj : j < hs.length) (ho : w.ownsRow base ei 1 (.slice Ai l.length ci) l.length l) (hb : hi ≤ base) (hlo : lo ≤ base) (hh : hi ≤ hi2) (h2 : blockLt (.slice Ai l.length ci) hi2) :
    Own2 (w.setCell ⟨g, j, none⟩ (.slice Ai l.length ci)) lo hi2 e ei k (some ⟨g, 0, none⟩) n c (cs.set j (.inr l)) (hs.set j (.slice Ai l.length ci)) := by
  refine h.put hj ⟨Ai, ci, rfl, own_mono ho hlo⟩ hh (fun q hq => ?_)
  have h1 := (ho.lt q hq).1
  have hg := h.bound g rfl
  refine ⟨by omega, h2 q hq, by omega, fun i v _ hv e => ?_⟩
  have := (h.bounds i v hv q e).2
  omega
/-- The contents of one of the slices are written, and its header is stored anew (an append): in its own block, or in a new one. -/
theorem Own2.regrown {g j : Nat} {u v' : Value} {Ai : Option Addr} {ci hi2 : Nat} {l l' : List Value} (h : Own2 w lo hi e ei k (some ⟨g, 0, none⟩) n c cs hs) (hx : cs[j]? = some (.inr l)) (hu : hs[j]? = some u) (hg : w.grownBy w' u.ownBlock) (hh : hi ≤ w.heap.size) (hv' : v' = .slice Ai l'.length ci)
    (ho : w'.ownsRow lo ei 1 v' l'.length l') (hloc : v'.ownBlock = u.ownBlock ∨ ∃ q, v'.ownBlock = some q ∧ hi ≤ q) (h2 : hi ≤ hi2) (hb2 : blockLt v' hi2) :
    Own2 (w'.setCell ⟨g, j, none⟩ v') lo hi2 e ei k (some ⟨g, 0, none⟩) n c (cs.set j (.inr l')) (hs.set j v') := by
  have key : ∀ q, lo ≤ q → q < hi → some q ≠ u.ownBlock → w'.heap[q]? = w.heap[q]? := fun q _ hq hne => hg.block q (by omega) hne
  have hjh : j < hs.length := (List.getElem?_eq_some_iff.1 hu).1
  have hjc : j < cs.length := by rw [h.len]; exact hjh
  have hug : some g ≠ u.ownBlock := by
    intro e'
    rcases h.out j u hu with h1 | h1
    · rw [h1] at e'; cases e'
    · exact h1 (by rw [← e']; rfl)
  -- first: everything but the cell j
  have h0 : Own2 w' lo hi e ei k (some ⟨g, 0, none⟩) n c (cs.set j (.inl u)) hs := by
    refine ⟨row_same h.row fun q hq => ?_, by simp [h.len], fun i v x hv hxi => ?_, h.apart, h.out, h.bound, h.bounds⟩
    · have : q = g := by simpa [Value.ownBlock] using hq.symm
      subst this
      exact key q (h.row.lt q rfl).1 (h.bound q rfl) hug
    · rcases set_cases hxi with ⟨rfl, rfl⟩ | ⟨hij, hxi⟩
      · rw [hu] at hv
        injection hv with hv
        exact hv.symm
      · refine ownC_same (h.cell i v x hv hxi) fun q hq => ?_
        have hb := h.bounds i v hv q hq
        refine key q hb.1 hb.2 (fun e' => ?_)
        rcases h.apart i j v u hij hv hu with h1 | h1
        · rw [h1] at hq; cases hq
        · exact h1 (by rw [hq, e'])
  have h3 := h0.put (hi2 := hi2) (x := .inr l') (u := v') hjh ⟨Ai, ci, hv', ho⟩ h2 (fun q hq => by
    refine ⟨(ho.lt q hq).1, hb2 q hq, ?_, fun i v hne hv e' => ?_⟩
    · intro e'
      subst e'
      rcases hloc with h1 | ⟨q', h1, h4⟩
      · exact hug (by rw [← h1, hq])
      · rw [hq] at h1; injection h1 with h1; have := h.bound q rfl; omega
    · rcases hloc with h1 | ⟨q', h1, h4⟩
      · rcases h.apart i j v u hne hv hu with h5 | h5
        · rw [h5] at e'; cases e'
        · exact h5 (by rw [e', ← h1, hq])
      · rw [hq] at h1; injection h1 with h1; have := (h.bounds i v hv q e').2; omega)
  simpa using h3
end

/-! Opened arguments. -/
section
variable {H : Type} {enc : TypeId × Value → H} {P : Program} {w : World} {base b0 : Nat} {spare : Nat → Bool} {held : Bool} {r : Reach} {t e e2 : TypeId} {v : Value} {d : DataW H} {p : List MemPlace}
/-- As rows_of, of a slice that lies in a cell. -/
theorem rows_open {C : Type} (cellsf : C → List Value) (Pel : C → Prop) (k : Nat) {fuel : Nat} {cs0 : List Value} {x0 : DataW H × List MemPlace} (ht : P.underlying t = some (.slice e)) (hC : P.cellsOf e = k)
    (hel : ∀ m cs x, cs.length = k → DataW.trod enc P w base spare held m e cs = some x → ∃ c, cs = cellsf c ∧ Pel c)
    (hf : DataW.trod enc P w base spare held fuel t cs0 = some x0) :
    ∃ A n c l, cs0 = [.slice A n c] ∧ n ≤ c ∧ c ≤ 9223372036854775807 ∧ List.length l = n ∧ Reads w k A n (l.flatMap cellsf) ∧ ∀ x ∈ l, Pel x := by
  rcases open_slice ht hf with ⟨hcs, _⟩ | ⟨ad, len, cap, m, n, D, Pl, hcs, hb, hl, hm, hmm, hx, hi⟩
  · exact ⟨none, 0, 0, [], hcs, Nat.le_refl _, by omega, rfl, Reads.nil, by simp⟩
  · have hlm : len ≤ m := by rw [hmm]; split <;> omega
    have hall : ∀ i, i < len → ∃ c : C, Pel c ∧ (cellsf c).length = k ∧ ∀ j u, (cellsf c)[j]? = some u → w.cell? (ad.add (i * k + j)) = some u := by
      intro i hil
      obtain ⟨cs', hc, htr⟩ := hi i (by omega)
      rw [hC] at hc
      obtain ⟨_, hlen, hcell⟩ := World.cells?_some hc
      obtain ⟨c, rfl, hp⟩ := hel _ _ _ hlen htr
      refine ⟨c, hp, hlen, fun j u hu => ?_⟩
      have hj : j < k := by rw [← hlen]; exact (List.getElem?_eq_some_iff.1 hu).1
      rw [← hu, ← hcell j hj, ← Go.Deep.add_add]
    have hex : ∀ q, q ≤ len → ∃ l : List C, l.length = q ∧ (l.flatMap cellsf).length = q * k ∧ (∀ x ∈ l, Pel x) ∧ ∀ j u, (l.flatMap cellsf)[j]? = some u → w.cell? (ad.add j) = some u := by
      intro q
      induction q with
      | zero => intro _; exact ⟨[], rfl, by simp, by simp, by simp⟩
      | succ q ih =>
        intro hq
        obtain ⟨l, hl1, hl2, hl3, hl4⟩ := ih (by omega)
        obtain ⟨c, hp, hlen, hcell⟩ := hall q (by omega)
        refine ⟨l ++ [c], by simp [hl1], by simp [hl2, hlen, Nat.add_mul], ?_, ?_⟩
        · intro x hx'
          rcases List.mem_append.1 hx' with hx' | hx'
          · exact hl3 x hx'
          · simp at hx'; subst hx'; exact hp
        · intro j u hu
          simp only [List.flatMap_append, List.flatMap_cons, List.flatMap_nil, List.append_nil] at hu
          rw [List.getElem?_append] at hu
          split at hu
          · exact hl4 j u hu
          · rename_i hge
            have := hcell _ u hu
            rw [hl2] at this hge
            rw [show j = q * k + (j - q * k) from by omega]
            exact this
    obtain ⟨l, hl1, hl2, hl3, hl4⟩ := hex len (Nat.le_refl _)
    exact ⟨some ad, len, cap, l, hcs, hl, by simpa [maxLen] using hm, hl1, ⟨hl2, fun _ => ⟨ad, rfl, hl4⟩⟩, hl3⟩
/-- A slice of integers that lies in a cell. -/
theorem ints_open {fuel : Nat} {cs0 : List Value} {x0 : DataW H × List MemPlace} (ht : P.underlying t = some (.slice e)) (he : P.underlying e = some (.int .i64)) (hC : P.cellsOf e = 1)
    (hf : DataW.trod enc P w base spare held fuel t cs0 = some x0) : ∃ A c, ∃ l : List Int, cs0 = [.slice A l.length c] ∧ readsC w (.slice A l.length c) (.inr (ints l)) ∧ ∀ x ∈ l, inI64 x := by
  obtain ⟨A, n, c, l, hv, h1, h2, h3, h4, h5⟩ := rows_open (fun x : Int => [.int .i64 x]) inI64 1 ht hC (fun m cs x _ htr => by
    obtain ⟨a, rfl, _, wf⟩ := DataW.trod_int he htr
    exact ⟨a, rfl, inI64_of wf⟩) hf
  rw [flatMap_one] at h4
  subst h3
  exact ⟨A, c, l, hv, ⟨A, c, by simp, by simpa using h1, h2, by simpa [ints] using h4⟩, h5⟩
theorem bools_open {fuel : Nat} {cs0 : List Value} {x0 : DataW H × List MemPlace} (ht : P.underlying t = some (.slice e)) (he : P.underlying e = some .bool) (hC : P.cellsOf e = 1)
    (hf : DataW.trod enc P w base spare held fuel t cs0 = some x0) : ∃ A c, ∃ l : List Bool, cs0 = [.slice A l.length c] ∧ readsC w (.slice A l.length c) (.inr (bools l)) := by
  obtain ⟨A, n, c, l, hv, h1, h2, h3, h4, h5⟩ := rows_open (fun x : Bool => [.bool x]) (fun _ => True) 1 ht hC (fun m cs x _ htr => by
    obtain ⟨a, rfl, _⟩ := DataW.trod_bool he htr
    exact ⟨a, rfl, trivial⟩) hf
  rw [flatMap_one] at h4
  subst h3
  exact ⟨A, c, l, hv, ⟨A, c, by simp, by simpa using h1, h2, by simpa [bools] using h4⟩⟩
/-- Headers and contents, one by one, make a slice of slices. -/
theorem reads2_of {C : Type} {k : Nat} {A : Option Addr} {n : Nat} {l : List C} (cellsf : C → List Value) (cel : C → List Cel) (hlen : ∀ c ∈ l, (cel c).length = k ∧ (cellsf c).length = k)
    (hr : Reads w k A n (l.flatMap cellsf)) (h : ∀ c ∈ l, ∀ (j : Nat) (u : Value) (x : Cel), (cellsf c)[j]? = some u → (cel c)[j]? = some x → readsC w u x) : Reads2 w k A n (l.flatMap cel) := by
  refine ⟨_, hr, ?_, ?_⟩
  · clear hr h
    induction l with
    | nil => rfl
    | cons c r ih =>
      have h1 := hlen c (by simp)
      have h2 := ih (fun c' hc' => hlen c' (by simp [hc']))
      simp only [List.flatMap_cons, List.length_append]
      omega
  · clear hr
    induction l with
    | nil => intro j u x hu; simp at hu
    | cons c r ih =>
      intro j u x hu hx
      have h1 := hlen c (by simp)
      simp only [List.flatMap_cons] at hu hx
      rw [List.getElem?_append] at hu hx
      rw [h1.2] at hu
      rw [h1.1] at hx
      split at hu
      · rename_i hj
        rw [if_pos hj] at hx
        exact h c (by simp) j u x hu hx
      · rename_i hj
        rw [if_neg hj] at hx
        exact ih (fun c' hc' => hlen c' (by simp [hc'])) (fun c' hc' => h c' (by simp [hc'])) _ u x hu hx
end

def rowsIntss (L : List (List Int)) : List Cel := (L.map ints).map .inr
@[simp] theorem length_rowsIntss (L : List (List Int)) : (rowsIntss L).length = L.length := by simp [rowsIntss]
theorem rowsIntss_get {L : List (List Int)} {k : Nat} (hk : k < L.length) : (rowsIntss L)[k]? = some (.inr (ints L[k])) := by simp [rowsIntss, hk]
theorem rowsIntss_append (L M : List (List Int)) : rowsIntss (L ++ M) = rowsIntss L ++ rowsIntss M := by simp [rowsIntss]
theorem rowsIntss_flat (L : List (List Int)) : rowsIntss L = L.flatMap (fun l => [.inr (ints l)]) := by simp [rowsIntss, flatMap_one]
def IsIntss (w : World) (v : Value) : Prop := ∃ A n c, ∃ L : List (List Int), v = .slice A n c ∧ n ≤ c ∧ c ≤ 9223372036854775807 ∧ L.length = n ∧ Reads2 w 1 A n (rowsIntss L) ∧ ∀ l ∈ L, l.length ≤ 9223372036854775807 ∧ ∀ x ∈ l, inI64 x
theorem isIntss_of {H : Type} {enc : TypeId × Value → H} {P : Program} {w : World} {base b0 : Nat} {spare : Nat → Bool} {held : Bool} {r : Reach} {t e e2 : TypeId} {v : Value} {d : DataW H} {p : List MemPlace}
    (ht : P.underlying t = some (.slice e)) (he : P.underlying e = some (.slice e2)) (he2 : P.underlying e2 = some (.int .i64)) (hC : P.cellsOf e = 1) (hC2 : P.cellsOf e2 = 1)
    (hval : Value.okWide P w r b0 t v) (h : DataW.Trod enc P w base spare held t v d p) : IsIntss w v := by
  obtain ⟨A, n, c, l, hv, h1, h2, h3, h4, h5⟩ := rows_of (fun x : Value × List Int => [x.1]) (fun x => readsC w x.1 (.inr (ints x.2)) ∧ ∀ y ∈ x.2, inI64 y) 1 ht hC (fun m cs x _ htr => by
    obtain ⟨A, c, l, rfl, q1, q2⟩ := ints_open he he2 hC2 htr
    exact ⟨(_, l), rfl, ⟨q1, q2⟩⟩) hval h
  have hr := reads2_of (fun x : Value × List Int => [x.1]) (fun x => [.inr (ints x.2)]) (fun _ _ => ⟨rfl, rfl⟩) h4 (fun y hy j u x hu hx => by
    cases j with
    | succ j => simp at hu
    | zero =>
      simp at hu hx
      subst hu; subst hx
      exact (h5 y hy).1)
  refine ⟨A, n, c, l.map (·.2), hv, h1, h2, by simpa using h3, by simpa [rowsIntss_flat, List.flatMap_map] using hr, fun x hx => ?_⟩
  obtain ⟨y, hy, rfl⟩ := List.mem_map.1 hx
  obtain ⟨B, cb, _, hc1, hc2, _⟩ := (h5 y hy).1
  exact ⟨by simp at hc1; omega, (h5 y hy).2⟩

def rowsBoolss (L : List (List Bool)) : List Cel := (L.map bools).map .inr
@[simp] theorem length_rowsBoolss (L : List (List Bool)) : (rowsBoolss L).length = L.length := by simp [rowsBoolss]
theorem rowsBoolss_get {L : List (List Bool)} {k : Nat} (hk : k < L.length) : (rowsBoolss L)[k]? = some (.inr (bools L[k])) := by simp [rowsBoolss, hk]
theorem rowsBoolss_append (L M : List (List Bool)) : rowsBoolss (L ++ M) = rowsBoolss L ++ rowsBoolss M := by simp [rowsBoolss]
theorem rowsBoolss_flat (L : List (List Bool)) : rowsBoolss L = L.flatMap (fun l => [.inr (bools l)]) := by simp [rowsBoolss, flatMap_one]
def IsBoolss (w : World) (v : Value) : Prop := ∃ A n c, ∃ L : List (List Bool), v = .slice A n c ∧ n ≤ c ∧ c ≤ 9223372036854775807 ∧ L.length = n ∧ Reads2 w 1 A n (rowsBoolss L) ∧ ∀ l ∈ L, l.length ≤ 9223372036854775807
theorem isBoolss_of {H : Type} {enc : TypeId × Value → H} {P : Program} {w : World} {base b0 : Nat} {spare : Nat → Bool} {held : Bool} {r : Reach} {t e e2 : TypeId} {v : Value} {d : DataW H} {p : List MemPlace}
    (ht : P.underlying t = some (.slice e)) (he : P.underlying e = some (.slice e2)) (he2 : P.underlying e2 = some .bool) (hC : P.cellsOf e = 1) (hC2 : P.cellsOf e2 = 1)
    (hval : Value.okWide P w r b0 t v) (h : DataW.Trod enc P w base spare held t v d p) : IsBoolss w v := by
  obtain ⟨A, n, c, l, hv, h1, h2, h3, h4, h5⟩ := rows_of (fun x : Value × List Bool => [x.1]) (fun x => readsC w x.1 (.inr (bools x.2))) 1 ht hC (fun m cs x _ htr => by
    obtain ⟨A, c, l, rfl, q1⟩ := bools_open he he2 hC2 htr
    exact ⟨(_, l), rfl, q1⟩) hval h
  have hr := reads2_of (fun x : Value × List Bool => [x.1]) (fun x => [.inr (bools x.2)]) (fun _ _ => ⟨rfl, rfl⟩) h4 (fun y hy j u x hu hx => by
    cases j with
    | succ j => simp at hu
    | zero =>
      simp at hu hx
      subst hu; subst hx
      exact h5 y hy)
  refine ⟨A, n, c, l.map (·.2), hv, h1, h2, by simpa using h3, by simpa [rowsBoolss_flat, List.flatMap_map] using hr, fun x hx => ?_⟩
  obtain ⟨y, hy, rfl⟩ := List.mem_map.1 hx
  obtain ⟨B, cb, _, hc1, hc2, _⟩ := h5 y hy
  exact by simp at hc1; omega

end Go.Proofs.Ythpfgmnhpnfopaa
