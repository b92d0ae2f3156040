/- Lemmas and contracts of this claim, several texts in one: Appends to a slice of slices of the call's own; a plain row beside it. Speaks of no function. A region that draws its order: quiet operations ahead of a tail in one order; the world as 'drew'. Speaks of no function. Contracts of the laws' helpers on structs of integers and on slices of them. Contracts of the laws' helpers that write marks into slices of structs of integers and that look for them. Contract of rbGaps of the spec. Contract of together of the implementation: pairs that share the arguments' memory. No conditions. -/
import Derived.Deep.RegionHeld3
import Derived.Deep.AppendLies
import Derived.StillTailTactics
import Derived.Test.YtcjmlakmigfkfaaZFilled2
import Derived.Test.YtcjmlakmigfkfaaLib
import Derived.Test.YtcjmlakmigfkfaaZFilled1
import Derived.Test.YtcjmlakmigfkfaaZFilled4
namespace Go.Proofs.Ytcjmlakmigfkfaa
set_option linter.unusedSimpArgs false
set_option linter.unusedVariables false
open Go.RowKit Go.ChangeShapes Go.WideShapes Go.Deep

theorem reads_litk (w : World) (cs : List Value) (e : TypeId) {n k : Nat} (h : cs.length = n * k) : Reads (w.alloc (.cells cs.toArray e)) k (some ⟨w.heap.size, 0, none⟩) n cs := by
  refine ⟨h, fun _ => ⟨_, rfl, fun j u hu => ?_⟩⟩
  have hadd : (⟨w.heap.size, 0, none⟩ : Addr).add j = ⟨w.heap.size, j, none⟩ := by unfold Addr.add; split <;> simp_all
  rw [hadd, cell_of_row _ _ j cs.toArray e (0, 0) (heap_alloc_new w _)]
  simpa using hu
theorem grown_cell {w w' : World} {row : Option Nat} {p : Addr} {u : Value} (hg : w.grownBy w' row) (hne : row ≠ some p.block) (h : w.cell? p = some u) : w'.cell? p = some u := by
  rw [← h]
  exact World.cell?_of_block (hg.block _ (World.block_lt_of_cell? w _ h) (fun e => hne e.symm))
theorem alloc_cell {w : World} {p : Addr} {u : Value} (o : Obj) (h : w.cell? p = some u) : (w.alloc o).cell? p = some u := (World.cell?_alloc_lt w o _ (World.block_lt_of_cell? w _ h)).trans h
theorem own_ne_of_lt {w : World} {base k n q : Nat} {e : TypeId} {v : Value} {xs : List Value} (h : w.ownsRow base e k v n xs) (hq : q < base ∨ w.heap.size ≤ q) : v.ownBlock ≠ some q := fun e' => by
  have := h.lt q e'
  omega
theorem append_cases {α : Type} {l m : List α} {j : Nat} {x : α} (h : (l ++ m)[j]? = some x) : (j < l.length ∧ l[j]? = some x) ∨ (l.length ≤ j ∧ m[j - l.length]? = some x) := by
  rw [List.getElem?_append] at h
  split at h
  · exact .inl ⟨by assumption, h⟩
  · exact .inr ⟨by omega, h⟩
section
variable {P : Program} {ops : Array Oper} {o : Oper} {a : Act} {Q : Exit → Act → World → Prop}
/-- As run_pushL, elements of any size. -/
theorem run_pushB (w : World) (base : Nat) (t ty e : TypeId) (z : Value) (k bytes : Nat) (hinfo : (P.info? e).map (fun i => (i.zero, i.size, i.bytes)) = some (some z, k, bytes)) (hzs : z.cells.size = k) (hk : 0 < k) (ht : P.underlying t = some (.slice e))
    (A : Option Addr) (n c : Nat) (xs : List Value) (hown : w.ownsRow base e k (.slice A n c) n xs)
    (A2 : Option Addr) (m c2 : Nat) (news : List Value) (hr : Reads w k A2 m news) (h1 : ∀ u ∈ news, u.oneCell' = true)
    (h63 : n + m ≤ 1000000000000) (hb : (n + m) * bytes ≤ 140737488355328) (hbase : base ≤ w.heap.size) :
    ∃ A' c' w', (Builtin.append_ #[t, t] ty #[.slice A n c, .slice A2 m c2]).run P w = .ok (.slice A' (n + m) c') w' ∧ w'.ownsRow base e k (.slice A' (n + m) c') (n + m) (xs ++ news) ∧ w.grownBy w' (Value.slice A n c).ownBlock ∧ Below base w w' ∧
      ((Value.slice A' (n + m) c').ownBlock = (Value.slice A n c).ownBlock ∨ (Value.slice A' (n + m) c').ownBlock = some w.heap.size) := by
  obtain ⟨i, hi, hz, hsz, hbs⟩ := info_parts hinfo
  rcases A2 with _ | ad
  · have hm : m = 0 := by
      rcases Nat.eq_zero_or_pos m with h0 | h0
      · exact h0
      · obtain ⟨_, h, _⟩ := hr.2 h0
        cases h
    subst hm
    have hn : news = [] := List.eq_nil_of_length_eq_zero (by simpa using hr.1)
    subst hn
    exact ⟨A, c, w, run_append_nil_src w base t ty e i k ht hi _ n xs hown c2, by simpa using hown, World.grownBy.refl _ _, Below.refl _ _, .inl rfl⟩
  · have hcell : ∀ j u, news[j]? = some u → w.cell? (ad.add j) = some u := by
      intro j u hu
      rcases Nat.eq_zero_or_pos m with h0 | h0
      · subst h0
        have hn : news = [] := List.eq_nil_of_length_eq_zero (by simpa using hr.1)
        subst hn
        simp at hu
      · obtain ⟨ad', h, hc⟩ := hr.2 h0
        injection h with h
        subst h
        exact hc j u hu
    obtain ⟨v', w', hrun, hown', hg, _, hloc⟩ := run_append_own_at (P := P) w base t ty e i z k bytes ht hi hz hsz hbs hzs hk _ n xs hown ad m c2 news hr.1 hcell h1 (by unfold maxLen; omega) hb hbase
    have hgb : Below base w w' := ⟨hg.os, hg.tape, hg.output, hg.size, fun q hq => hg.block q (by omega) (fun hk' => by have := hown.lt q hk'.symm; omega)⟩
    rcases hown'.2 with ⟨hv, h0⟩ | ⟨g, cap, cur, hv, rest⟩
    · subst hv
      have h00 : n + m = 0 := h0
      rw [h00] at hown' ⊢
      exact ⟨none, 0, w', hrun, hown', hg, hgb, hloc⟩
    · subst hv
      exact ⟨_, _, _, hrun, hown', hg, hgb, hloc⟩
/-- As wpList_pushL, at a step of a region that draws its order. -/
theorem step_pushL (w : World) {K : Act → World → Prop} {E : Prop} (hgd : o.guard = none) (s x : Operand) (t : TypeId)
    (ho : o.op = .call { callee := .builtin .append, args := #[s, x], argTypes := #[t, t] })
    (base : Nat) (e : TypeId) (z : Value) (k bytes : Nat) (hinfo : (P.info? e).map (fun i => (i.zero, i.size, i.bytes)) = some (some z, k, bytes)) (hzs : z.cells.size = k) (hk : 0 < k) (ht : P.underlying t = some (.slice e))
    (A : Option Addr) (n c : Nat) (xs : List Value) (hs : a.eval s = .slice A n c) (hown : w.ownsRow base e k (.slice A n c) n xs)
    (A2 : Option Addr) (m c2 : Nat) (news : List Value) (hx : a.eval x = .slice A2 m c2) (hr : Reads w k A2 m news) (h1 : ∀ u ∈ news, u.oneCell' = true)
    (h63 : n + m ≤ 1000000000000) (hb : (n + m) * bytes ≤ 140737488355328) (hbase : base ≤ w.heap.size)
    (h : ∀ A' c' w', w'.ownsRow base e k (.slice A' (n + m) c') (n + m) (xs ++ news) → w.grownBy w' (Value.slice A n c).ownBlock → Below base w w' → ((Value.slice A' (n + m) c').ownBlock = (Value.slice A n c).ownBlock ∨ (Value.slice A' (n + m) c').ownBlock = some w.heap.size) → K (a.put o.dst (.slice A' (n + m) c')) w') :
    if Region.wanted o (yielded ops a.tmps) = true then Oper.wp P o a w K Q else E := by
  rw [if_pos (by simp [Region.wanted, hgd])]
  obtain ⟨A', c', w', hrun, r1, r2, r3, r4⟩ := run_pushB (P := P) w base t o.type e z k bytes hinfo hzs hk ht A n c xs hown A2 m c2 news hr h1 h63 hb hbase
  unfold Oper.wp execOp
  simp only [ho, resolve, invoke, builtin, Sem.run_bind, Sem.run_pure, Result.andThen_ok, List.map_toArray, List.map_cons, List.map_nil, hs, hx, hrun]
  exact h A' c' w' r1 r2 r3 r4
end
section
variable {w w' : World} {lo hi k n n' c c' : Nat} {e ei : TypeId} {A A' : Option Addr} {cs xs : List Cel} {hs us : List Value}
/-- Elements are appended whose slices lie in blocks that are new to the slice of slices. -/
theorem Own2.push (h : Own2 w lo hi e ei k A n c cs hs) (hg : w.grownBy w' (Value.slice A n c).ownBlock) (hr : w'.ownsRow lo e k (.slice A' n' c') n' (hs ++ us))
    (hloc : (Value.slice A' n' c').ownBlock = (Value.slice A n c).ownBlock ∨ (Value.slice A' n' c').ownBlock = some w.heap.size) (hh : hi ≤ w.heap.size) (hx : xs.length = us.length)
    (hxs : ∀ (j : Nat) (u : Value) (x : Cel), us[j]? = some u → xs[j]? = some x → ownC w lo ei u x) (hin : ∀ (j : Nat) (u : Value), us[j]? = some u → ∀ q, u.ownBlock = some q → lo ≤ q ∧ hi ≤ q ∧ q < w.heap.size)
    (hap : ∀ (i j : Nat) (u v : Value), i ≠ j → us[i]? = some u → us[j]? = some v → Go.Proofs.Ytcjmlakmigfkfaa.apart u v) : Own2 w' lo w'.heap.size e ei k A' n' c' (cs ++ xs) (hs ++ us) := by
  have hsz := hg.size
  have hA : ∀ q, (Value.slice A n c).ownBlock = some q → q < hi := h.bound
  have hold : ∀ (j : Nat) (u : Value), hs[j]? = some u → ∀ q, u.ownBlock = some q → w'.heap[q]? = w.heap[q]? := by
    intro j u hu q hq
    have hb := h.bounds j u hu q hq
    refine hg.block q (by omega) (fun e' => ?_)
    rcases h.out j u hu with h1 | h1
    · rw [h1] at hq; cases hq
    · exact h1 (by rw [hq, e'])
  have hnew : ∀ (j : Nat) (u : Value), us[j]? = some u → ∀ q, u.ownBlock = some q → w'.heap[q]? = w.heap[q]? := by
    intro j u hu q hq
    have hb := hin j u hu q hq
    exact hg.block q hb.2.2 (fun e' => by have := hA q e'.symm; omega)
  refine ⟨hr, by simp [h.len, hx], fun j u x hu hxx => ?_, fun i j u v hij hu hv => ?_, fun j u hu => ?_, own_lt hr, fun j u hu q hq => ?_⟩
  · rcases append_cases hu with ⟨hj, hu⟩ | ⟨hj, hu⟩ <;> rcases append_cases hxx with ⟨hj', hxx⟩ | ⟨hj', hxx⟩
    · exact ownC_same (h.cell j u x hu hxx) (hold j u hu)
    · rw [h.len] at hj'; omega
    · rw [h.len] at hj'; omega
    · rw [h.len] at hxx
      exact ownC_same (hxs _ u x hu hxx) (hnew _ u hu)
  · rcases append_cases hu with ⟨hi', hu⟩ | ⟨hi', hu⟩ <;> rcases append_cases hv with ⟨hj', hv⟩ | ⟨hj', hv⟩
    · exact h.apart i j u v hij hu hv
    · cases hq : u.ownBlock with
      | none => exact .inl hq
      | some q =>
        refine .inr (fun e' => ?_)
        rw [hq] at e'
        have h1 := (h.bounds i u hu q hq).2
        have h2 := (hin _ v hv q e'.symm).2.1
        omega
    · cases hq : u.ownBlock with
      | none => exact .inl hq
      | some q =>
        refine .inr (fun e' => ?_)
        rw [hq] at e'
        have h1 := (hin _ u hu q hq).2.1
        have h2 := (h.bounds j v hv q e'.symm).2
        omega
    · exact hap (i - hs.length) (j - hs.length) u v (by omega) hu hv
  · cases hq : u.ownBlock with
    | none => exact .inl hq
    | some q =>
      refine .inr (fun e' => ?_)
      rw [hq] at e'
      rcases append_cases hu with ⟨hj, hu⟩ | ⟨hj, hu⟩
      · rcases hloc with h1 | h1
        · rcases h.out j u hu with h2 | h2
          · rw [h2] at hq; cases hq
          · exact h2 (by rw [hq, e', h1])
        · rw [h1] at e'
          injection e' with e'
          have := (h.bounds j u hu q hq).2
          omega
      · have h2 := hin _ u hu q hq
        rcases hloc with h1 | h1
        · rw [h1] at e'
          have := hA q e'.symm
          omega
        · rw [h1] at e'
          injection e' with e'
          omega
  · rcases append_cases hu with ⟨hj, hu⟩ | ⟨hj, hu⟩
    · have := h.bounds j u hu q hq; omega
    · have := hin _ u hu q hq; omega
theorem Own2.push_owns {q : Nat} (h : owns2 A' n' c' (hs ++ us) q) (hloc : (Value.slice A' n' c').ownBlock = (Value.slice A n c).ownBlock ∨ (Value.slice A' n' c').ownBlock = some w.heap.size) : owns2 A n c hs q ∨ q = w.heap.size ∨ ∃ (j : Nat) (u : Value), us[j]? = some u ∧ u.ownBlock = some q := by
  rcases h with h | ⟨j, u, hu, hq⟩
  · rcases hloc with h1 | h1
    · exact .inl (.inl (by rw [← h1]; exact h))
    · rw [h1] at h; injection h with h; exact .inr (.inl h.symm)
  · rcases append_cases hu with ⟨hj, hu⟩ | ⟨hj, hu⟩
    · exact .inl (.inr ⟨j, u, hu, hq⟩)
    · exact .inr (.inr ⟨_, u, hu, hq⟩)
end
/-- A row that has just been built, and its header beside it, appended. -/
theorem Own2.push_row {w w' : World} {lo n c c' : Nat} {e ei : TypeId} {A A' : Option Addr} {cs : List Cel} {hs : List Value} {l : List Value} {m : Nat} (h : Own2 w lo w.heap.size e ei 1 A n c cs hs) (hm : m = l.length) (hlo : lo ≤ w.heap.size) (hlen : l.length ≤ 1000000)
    (hg : ((w.alloc (.cells l.toArray ei)).alloc (.cells #[.slice (some ⟨w.heap.size, 0, none⟩) m m] e)).grownBy w' (Value.slice A n c).ownBlock) (hr : w'.ownsRow lo e 1 (.slice A' (n + 1) c') (n + 1) (hs ++ [.slice (some ⟨w.heap.size, 0, none⟩) m m]))
    (hloc : (Value.slice A' (n + 1) c').ownBlock = (Value.slice A n c).ownBlock ∨ (Value.slice A' (n + 1) c').ownBlock = some ((w.alloc (.cells l.toArray ei)).alloc (.cells #[.slice (some ⟨w.heap.size, 0, none⟩) m m] e)).heap.size) :
    Own2 w' lo w'.heap.size e ei 1 A' (n + 1) c' (cs ++ [.inr l]) (hs ++ [.slice (some ⟨w.heap.size, 0, none⟩) m m]) := by
  subst hm
  have hb : Below w.heap.size w ((w.alloc (.cells l.toArray ei)).alloc (.cells #[.slice (some ⟨w.heap.size, 0, none⟩) l.length l.length] e)) := ((Below.refl _ _).alloc (Nat.le_refl _) _).alloc (by simp) _
  have hoc := own_below (own_built w l ei hlen hlo) ((Below.refl _ _).alloc (Nat.le_refl _) (.cells #[.slice (some ⟨w.heap.size, 0, none⟩) l.length l.length] e))
  refine (h.below hb (Nat.le_refl _)).push hg hr hloc (by simp; omega) rfl (fun q u x hu hx => ?_) (fun q u hu b hb' => ?_) (fun q q' u v hne hu hv => ?_)
  · cases q with
    | succ q => simp at hu
    | zero =>
      simp at hu hx
      subst hu; subst hx
      exact ⟨_, _, rfl, hoc⟩
  · cases q with
    | succ q => simp at hu
    | zero =>
      simp at hu
      subst hu
      simp [Value.ownBlock] at hb'
      subst hb'
      exact ⟨hlo, Nat.le_refl _, by simp; omega⟩
  · cases q with
    | succ q => simp at hu
    | zero =>
      cases q' with
      | zero => exact absurd rfl hne
      | succ q' => simp at hv
/-- A plain row and a slice of slices, both of the call's own, with no block in common. -/
structure Two (w : World) (lo : Nat) (e1 : TypeId) (k1 : Nat) (A1 : Option Addr) (n1 c1 : Nat) (xs : List Value) (e ei : TypeId) (k : Nat) (A : Option Addr) (n c : Nat) (cs : List Cel) (hs : List Value) : Prop where
  one : w.ownsRow lo e1 k1 (.slice A1 n1 c1) n1 xs
  two : Own2 w lo w.heap.size e ei k A n c cs hs
  far : ∀ q, (Value.slice A1 n1 c1).ownBlock = some q → ¬ owns2 A n c hs q
section
variable {w w' : World} {lo k k1 n n' n1 n1' c c' c1 c1' : Nat} {e ei e1 : TypeId} {A A' A1 A1' : Option Addr} {cs xc : List Cel} {hs us xs ys : List Value}
theorem Two.start (w : World) (lo : Nat) (e1 : TypeId) (k1 : Nat) (e ei : TypeId) (k : Nat) : Two w lo e1 k1 none 0 0 [] e ei k none 0 0 [] [] :=
  ⟨World.ownsRow_nil _ _ _ _, own2_nil _ _, fun q hq => by simp [Value.ownBlock] at hq⟩
theorem Two.below (h : Two w lo e1 k1 A1 n1 c1 xs e ei k A n c cs hs) (hb : Below w.heap.size w w') : Two w' lo e1 k1 A1 n1 c1 xs e ei k A n c cs hs :=
  ⟨own_below h.one hb, (h.two.below hb (Nat.le_refl _)).mono_hi hb.size, h.far⟩
theorem Two.push1 (h : Two w lo e1 k1 A1 n1 c1 xs e ei k A n c cs hs) (hg : w.grownBy w' (Value.slice A1 n1 c1).ownBlock) (hr : w'.ownsRow lo e1 k1 (.slice A1' n1' c1') n1' ys)
    (hloc : (Value.slice A1' n1' c1').ownBlock = (Value.slice A1 n1 c1).ownBlock ∨ (Value.slice A1' n1' c1').ownBlock = some w.heap.size) : Two w' lo e1 k1 A1' n1' c1' ys e ei k A n c cs hs :=
  ⟨hr, (h.two.same' fun q hq => hg.block q (h.two.lt hq).2 (fun e' => h.far q e'.symm hq)).mono_hi hg.size, fun q hq ho => by
    rcases hloc with h1 | h1
    · exact h.far q (by rw [← h1]; exact hq) ho
    · rw [h1] at hq
      injection hq with hq
      have := (h.two.lt ho).2
      omega⟩
/-- .. the new elements' slices lie in blocks from b on, where nothing of the two lay. -/
theorem Two.push2 {b : Nat} (h : Two w lo e1 k1 A1 n1 c1 xs e ei k A n c cs hs) (hb : ∀ q, (Value.slice A1 n1 c1).ownBlock = some q → q < b) (hb2 : ∀ q, owns2 A n c hs q → q < b) (hbl : lo ≤ b) (hbw : b ≤ w.heap.size) (hg : w.grownBy w' (Value.slice A n c).ownBlock) (hr : w'.ownsRow lo e k (.slice A' n' c') n' (hs ++ us))
    (hloc : (Value.slice A' n' c').ownBlock = (Value.slice A n c).ownBlock ∨ (Value.slice A' n' c').ownBlock = some w.heap.size) (hx : xc.length = us.length)
    (hxs : ∀ (j : Nat) (u : Value) (x : Cel), us[j]? = some u → xc[j]? = some x → ownC w lo ei u x) (hin : ∀ (j : Nat) (u : Value), us[j]? = some u → ∀ q, u.ownBlock = some q → b ≤ q ∧ q < w.heap.size)
    (hap : ∀ (i j : Nat) (u v : Value), i ≠ j → us[i]? = some u → us[j]? = some v → Go.Proofs.Ytcjmlakmigfkfaa.apart u v) : Two w' lo e1 k1 A1 n1 c1 xs e ei k A' n' c' (cs ++ xc) (hs ++ us) := by
  have ho : Own2 w lo b e ei k A n c cs hs := ⟨h.two.row, h.two.len, h.two.cell, h.two.apart, h.two.out, fun q hq => hb2 q (.inl hq), fun j u hu q hq => ⟨(h.two.bounds j u hu q hq).1, hb2 q (.inr ⟨j, u, hu, hq⟩)⟩⟩
  refine ⟨row_same h.one fun q hq => hg.block q (h.one.lt q hq).2 (fun e' => h.far q hq (.inl e'.symm)), ho.push hg hr hloc hbw hx hxs (fun j u hu q hq => by have := hin j u hu q hq; omega) hap, fun q hq hown => ?_⟩
  rcases Own2.push_owns hown hloc with h1 | h1 | ⟨j, u, hu, h1⟩
  · exact h.far q hq h1
  · have := hb q hq; omega
  · have := hb q hq; have := (hin j u hu q h1).1; omega
end
end Go.Proofs.Ytcjmlakmigfkfaa

namespace Go.Proofs.Ytcjmlakmigfkfaa
set_option linter.unusedSimpArgs false
set_option linter.unusedVariables false
open Go.RowKit

theorem region_tail {P : Program} {id : Nat} {Q : Exit → Act → World → Prop} {a : Act} {w : World} {l : List Oper} (n : Nat) (hm : P.follows .mixedOrders = true) (hB : Region.lexTailB .any l.toArray n = true)
    (h : wpStill P l.toArray w.drew (fun a' => wpList P l.toArray Q (l.drop n) a' w.drew) (l.take n) a) : (Code.region id l.toArray true).wp P Q a w := wp_region_still_tail n hm hB h
theorem still_of {P : Program} {f : FuncId} {args : Array Value} {w : World} {v : Value} (h : Calls P f args w fun e w' => e = .returned v ∧ w = w') : Calls P f args w fun e w'' => e = .returned v ∧ w'' = w := h.mono fun _ _ h => ⟨h.1, h.2.symm⟩
end Go.Proofs.Ytcjmlakmigfkfaa

namespace Go.Proofs.Ytcjmlakmigfkfaa
set_option linter.unusedSimpArgs false
set_option linter.unusedVariables false
open Go.RowKit



theorem infoGap : (Try.prog.info? 62).map (fun i => (i.zero, i.size, i.bytes)) = some (some (.agg #[.int .i64 0, .int .i64 0, .int .i64 0, .int .i64 0]), 4, 32) := by kernel_rfl
theorem eqGap_any (a0 a1 a2 a3 : Int) (w : World) :
    Calls Try.prog 72 #[.agg #[.int .i64 a0, .int .i64 a1, .int .i64 a2, .int .i64 a3], .agg #[.int .i64 a0, .int .i64 a1, .int .i64 a2, .int .i64 a3]] w fun e w' => e = .returned (.bool true) ∧ Below w.heap.size w w' := by
  go_enter Try.func72, Try.ntmps72
  go_wp2
  go_ret
  exact ⟨rfl, by go_grown⟩
set_option maxHeartbeats 2000000 in
theorem eqGapS_any (A B : Option Addr) (n c c' : Nat) (l : List (Int × Int × Int × Int)) (w : World) (hn : n ≤ 1000000000000) (h : Reads w 4 A n (rows4 l)) (h' : Reads w 4 B n (rows4 l)) :
    Calls Try.prog 22 #[.slice A n c, .slice B n c'] w fun e w' => e = .returned (.bool true) ∧ Below w.heap.size w w' := by
  have HX := Lib.hid (show l.length = n by have := h.1; rw [length_rows4] at this; omega)
  have H := Lib.hid h
  have H' := Lib.hid h'
  clear h h'
  go_enter Try.func22, Try.ntmps22
  go_wp2
  go_loopw [5] (fun i wr => ∃ k : Nat, k ≤ n ∧ i = .int .i64 k ∧ Below w.heap.size w wr) (fun i _ => n - (intOf i).toNat)
  case atStart => exact ⟨0, Nat.zero_le _, rfl, Below.refl _ _⟩
  case round =>
    obtain ⟨k, hk, rfl, hb⟩ := hrel
    have HB := Lib.hid hb; clear hb
    by_cases hlt : k < n
    · obtain ⟨ad, rfl, k0, k1, k2, k3⟩ := rows4_at (H.out.below HB.out) hlt HX.out
      obtain ⟨ad', rfl, j0, j1, j2, j3⟩ := rows4_at (H'.out.below HB.out) hlt HX.out
      have hx : k < l.length := by rw [HX.out]; exact hlt
      generalize l[k] = x at *
      obtain ⟨x0, x1, x2, x3⟩ := x
      go_wp2
      go_region_with (go_at_call 72; refine (eqGap_any x0 x1 x2 x3 _).mono ?_; rintro e w1 ⟨rfl, hb1⟩)
      all_goals
        have HB1 := Lib.hid hb1; clear hb1
        go_wp2
        go_roundw
        case rel => exact ⟨k + 1, by omega, by go_num, HB.out.drew.trans (HB1.out.mono HB.out.size)⟩
        case measure => simp [intOf]; omega
    · go_wp2
      go_ret
      exact ⟨rfl, HB.out⟩





end Go.Proofs.Ytcjmlakmigfkfaa

namespace Go.Proofs.Ytcjmlakmigfkfaa
set_option linter.unusedSimpArgs false
set_option linter.unusedVariables false
open Go.RowKit

theorem marksInt_get {K n j : Nat} (h : j < n) : (marksInt K n)[j]? = some (.int .i64 ((K + j : Nat) : Int)) := by simp [marksInt, h]
theorem length_marksInt (K n : Nat) : (marksInt K n).length = n := by simp [marksInt]


set_option maxHeartbeats 2000000 in
theorem markGapS_any (A : Option Addr) (n c K base : Nat) (xs : List Value) (w : World) (hn : n * 4 + K ≤ 1000000000000) (h : w.ownsRow base 62 4 (.slice A n c) n xs) :
    Calls Try.prog 23 #[.slice A n c, .int .i64 K] w fun e w' => e = .returned (.int .i64 ((K + n * 4 : Nat) : Int)) ∧ w'.ownsRow base 62 4 (.slice A n c) n (marksInt K (n * 4)) ∧ w.grownBy w' (Value.slice A n c).ownBlock := by
  have HXL := Lib.hid h.1
  have HM := Lib.hid (length_marksInt K (n * 4))
  have H := Lib.hid h; clear h
  go_enter Try.func23, Try.ntmps23
  go_wp2
  go_loopw [1, 5] (fun r i wr => ∃ q : Nat, q ≤ n ∧ i = .int .i64 q ∧ r = .int .i64 ((K + q * 4 : Nat) : Int) ∧ wr.ownsRow base 62 4 (.slice A n c) n ((marksInt K (n * 4)).take (q * 4) ++ xs.drop (q * 4)) ∧ w.grownBy wr (Value.slice A n c).ownBlock) (fun _ i _ => n - (intOf i).toNat)
  case atStart => exact ⟨0, Nat.zero_le _, rfl, by simp, by simpa using H.out, World.grownBy.refl _ _⟩
  case round =>
    obtain ⟨q, hk, rfl, rfl, hown, hg⟩ := hrel
    clear H
    have HG := Lib.hid hg; clear hg
    by_cases hlt : q < n
    · obtain ⟨g, rfl⟩ : ∃ g, A = some ⟨g, 0, none⟩ := by
        rcases hown.2 with ⟨_, h0⟩ | ⟨g, cap, cur, hv, _⟩
        · omega
        · injection hv with e; exact ⟨g, e⟩
      have hcl : ∀ j, q * 4 + j < n * 4 → ∃ o, wr.cell? ⟨g, q * 4 + j, none⟩ = some o := fun j hj => ⟨_, by
        rw [hown.cellAt _ hj]; exact List.getElem?_eq_getElem (by rw [hown.1]; exact hj)⟩
      obtain ⟨o0, e0⟩ := hcl 0 (by omega)
      obtain ⟨o1, e1⟩ := hcl 1 (by omega)
      obtain ⟨o2, e2⟩ := hcl 2 (by omega)
      obtain ⟨o3, e3⟩ := hcl 3 (by omega)
      have f0 : wr.frozen? ⟨g, q * 4, none⟩ = false := hown.frozenAt _
      have f1 : wr.frozen? ⟨g, q * 4 + 1, none⟩ = false := hown.frozenAt _
      have f2 : wr.frozen? ⟨g, q * 4 + 2, none⟩ = false := hown.frozenAt _
      have f3 : wr.frozen? ⟨g, q * 4 + 3, none⟩ = false := hown.frozenAt _
      simp only [Nat.add_zero] at e0
      have HW := Lib.hid (own_set4 (x0 := .int .i64 ((K : Int) + (q : Int) * 4)) (x1 := .int .i64 ((K : Int) + (q : Int) * 4 + 1)) (x2 := .int .i64 ((K : Int) + (q : Int) * 4 + 2)) (x3 := .int .i64 ((K : Int) + (q : Int) * 4 + 3)) HM.out HXL.out hlt hown (by rw [marksInt_get (by omega)]; congr 2 <;> omega) (by rw [marksInt_get (by omega)]; congr 2 <;> omega) (by rw [marksInt_get (by omega)]; congr 2 <;> omega) (by rw [marksInt_get (by omega)]; congr 2 <;> omega))
      have HGS := Lib.hid ((grown_set (grown_set (grown_set (grown_set HG.out (i := q * 4) (.int .i64 ((K : Int) + (q : Int) * 4))) (i := q * 4 + 1) (.int .i64 ((K : Int) + (q : Int) * 4 + 1))) (i := q * 4 + 2) (.int .i64 ((K : Int) + (q : Int) * 4 + 2))) (i := q * 4 + 3) (.int .i64 ((K : Int) + (q : Int) * 4 + 3))))
      clear hown hcl
      have ek : ((K + q * 4 : Nat) : Int) = (K : Int) + (q : Int) * 4 := by omega
      rw [ek]
      have ek' : (K : Int) + (q : Int) * 4 + 4 = ((K + (q + 1) * 4 : Nat) : Int) := by omega
      have EK := Lib.hid ek'; clear ek ek'
      have b1 : (q : Int) * 4 + K ≤ 1000000000000 := by omega
      go_wp2
      go_roundw
      case rel => exact ⟨q + 1, by omega, by go_num, by rw [← EK.out]; go_num, HW.out, HGS.out⟩
      case measure => simp [intOf]; omega
    · obtain rfl : q = n := by omega
      rw [two_end HM.out HXL.out] at hown
      have HO := Lib.hid hown; clear hown
      go_wp2
      go_ret
      exact ⟨rfl, HO.out, HG.out⟩
set_option maxHeartbeats 2000000 in
theorem heldGapS_any (A : Option Addr) (n c K : Nat) (w : World) (hn : n * 4 + K ≤ 1000000000000) (h : Reads w 4 A n (marksInt K (n * 4))) :
    Calls Try.prog 24 #[.slice A n c, .int .i64 K] w fun e w' => e = .returned (.int .i64 ((K + n * 4 : Nat) : Int)) ∧ w = w' := by
  have H := Lib.hid h; clear h
  go_enter Try.func24, Try.ntmps24
  go_wp2
  go_loop [1, 5] (fun r i => ∃ q : Nat, q ≤ n ∧ i = .int .i64 q ∧ r = .int .i64 ((K + q * 4 : Nat) : Int)) (fun _ i => n - (intOf i).toNat)
  case atStart => exact ⟨0, Nat.zero_le _, rfl, by simp⟩
  case round =>
    obtain ⟨q, hk, rfl, rfl⟩ := hrel
    by_cases hlt : q < n
    · obtain ⟨ad, rfl, hc⟩ := H.out.2 (by omega)
      have f : ∀ j, 0 < j → ad.add (q * 4 + j) = ⟨(ad.add (q * 4)).block, (ad.add (q * 4)).off + j, none⟩ := by
        intro j hj
        rw [← add_of_add]
        generalize ad.add (q * 4) = p
        unfold Addr.add
        rw [if_neg (by omega)]
      have c0 : w.cell? (ad.add (q * 4)) = some (.int .i64 ((K : Int) + (q : Int) * 4)) := by rw [hc (q * 4) _ (marksInt_get (by omega))]; congr 2 <;> omega
      have c1 : w.cell? ⟨(ad.add (q * 4)).block, (ad.add (q * 4)).off + 1, none⟩ = some (.int .i64 ((K : Int) + (q : Int) * 4 + 1)) := by rw [← f 1 (by omega)]; rw [hc (q * 4 + 1) _ (marksInt_get (by omega))]; congr 2 <;> omega
      have c2 : w.cell? ⟨(ad.add (q * 4)).block, (ad.add (q * 4)).off + 2, none⟩ = some (.int .i64 ((K : Int) + (q : Int) * 4 + 2)) := by rw [← f 2 (by omega)]; rw [hc (q * 4 + 2) _ (marksInt_get (by omega))]; congr 2 <;> omega
      have c3 : w.cell? ⟨(ad.add (q * 4)).block, (ad.add (q * 4)).off + 3, none⟩ = some (.int .i64 ((K : Int) + (q : Int) * 4 + 3)) := by rw [← f 3 (by omega)]; rw [hc (q * 4 + 3) _ (marksInt_get (by omega))]; congr 2 <;> omega
      clear hc f
      have ek : ((K + q * 4 : Nat) : Int) = (K : Int) + (q : Int) * 4 := by omega
      rw [ek]
      have ek' : (K : Int) + (q : Int) * 4 + 4 = ((K + (q + 1) * 4 : Nat) : Int) := by omega
      have EK := Lib.hid ek'; clear ek ek'
      have b1 : (q : Int) * 4 + K ≤ 1000000000000 := by omega
      go_wp2
      go_round
      case rel => exact ⟨q + 1, by omega, by go_num, by rw [← EK.out]; go_num⟩
      case measure => simp [intOf]; omega
    · obtain rfl : q = n := by omega
      go_wp2
      go_ret
      exact ⟨rfl, rfl⟩





end Go.Proofs.Ytcjmlakmigfkfaa

namespace Go.Proofs.Ytcjmlakmigfkfaa
set_option linter.unusedSimpArgs false
set_option linter.unusedVariables false
open Go.RowKit

def cntE (M L : List EntryT) : Nat := (togE M L).length

set_option maxHeartbeats 4000000 in
set_option maxRecDepth 100000 in
theorem rbGaps_any (A : Option Addr) (n c : Nat) (L : List EntryT) (B : Option Addr) (m d : Nat) (M : List EntryT) (a b : Int) (w : World) (hn : n ≤ 1000) (hm : m ≤ 1000) (hL : ∀ x ∈ L, entB x = true) (hM : ∀ x ∈ M, entB x = true) (ha : 0 ≤ a ∧ a ≤ 60) (hb : 0 ≤ b ∧ b ≤ 60) (h : Reads2 w 5 A n (rowsE L)) (h' : Reads2 w 5 B m (rowsE M)) :
    Calls Try.prog 61 #[.slice A n c, .slice B m d, .int .i64 a, .int .i64 b] w fun e w' => ∃ A1 c1 A2 c2 hs, e = .returned (.tuple #[.slice A1 (cntE M L) c1, .slice A2 (cntE M L) c2]) ∧ Two w' w.heap.size 62 4 A1 (cntE M L) c1 (rows4 (gapsE M a b L)) 49 3 1 A2 (cntE M L) c2 (rowsIntss (ixL (ixE M 0 L))) hs ∧ Below w.heap.size w w' := by
  have HX := Lib.hid (show L.length = n by have := h.len; rw [length_rowsE] at this; omega)
  have HY := Lib.hid (show M.length = m by have := h'.len; rw [length_rowsE] at this; omega)
  have H := Lib.hid h
  have H' := Lib.hid h'
  have HLE := Lib.hid hL
  have HME := Lib.hid hM
  clear h h' hL hM
  have HS0 : Hid (Two w w.heap.size 62 4 none 0 0 [] 49 3 1 none 0 0 [] []) := Lib.hid (Two.start _ _ _ _ _ _ _)
  generalize hlo : w.heap.size = lo at *
  go_enter Try.func61, Try.ntmps61
  go_wp2
  go_loopw [10, 11, 17] (fun o1 o2 i wr => ∃ k g : Nat, ∃ A1 c1 A2 c2 G Pl hs, k ≤ n ∧ i = .int .i64 k ∧ o1 = .slice A1 g c1 ∧ o2 = .slice A2 g c2 ∧ g ≤ k ∧ G ++ gapsE M a b (L.drop k) = gapsE M a b L ∧ Pl ++ ixE M k (L.drop k) = ixE M 0 L ∧ G.length = g ∧ Pl.length = g ∧ (Two wr lo 62 4 A1 g c1 (rows4 G) 49 3 1 A2 g c2 (rowsIntss (ixL Pl)) hs) ∧ Below lo w wr) (fun _ _ i _ => n - (intOf i).toNat)
  case atStart => exact ⟨0, 0, none, 0, none, 0, [], [], [], Nat.zero_le _, rfl, rfl, rfl, Nat.le_refl _, rfl, rfl, rfl, rfl, HS0.out, Below.refl _ _⟩
  case round =>
    clear HS0
    obtain ⟨k, g, A1, c1, A2, c2, G, Pl, hs, hk, rfl, rfl, rfl, hgk, hrG, hrP, hlG, hlP, htwo, hbel⟩ := hrel
    have HRG := Lib.hid hrG; have HRP := Lib.hid hrP; have HLG := Lib.hid hlG; have HLP := Lib.hid hlP; have HT := Lib.hid htwo; have HB := Lib.hid hbel
    clear hrG hrP hlG hlP htwo hbel
    have HLO : Hid (lo ≤ wr.heap.size) := Lib.hid (by rw [← hlo]; exact HB.out.size)
    by_cases hlt : k < n
    · have hx : k < L.length := by rw [HX.out]; exact hlt
      have HD := Lib.hid (drop_cons hx)
      have hxe := HLE.out L[k] (List.getElem_mem hx)
      have HTX := Lib.hid (entB_time hxe)
      clear hxe
      obtain ⟨ad, A3, c3, A4, c4, rfl, k0, k1, k2, k3, k4, _, _⟩ := rowsE_at (H.out.below (by rw [hlo]; exact HB.out)) hx
      have hf := findE_cases M L[k]
      have HFE : Hid (findE M L[k] = idxP (isE L[k].2.1 L[k].2.2.1) M 0) := Lib.hid rfl
      generalize L[k] = x at *
      obtain ⟨t, mm, p, l, l'⟩ := x
      simp only at k0 k1 k2 k3 k4 HTX HFE
      have HW1 : Hid (Below wr.heap.size wr (wr.alloc (.cells #[.int .i64 t, .int .i64 mm, .int .i64 p, .slice A3 l.length c3, .slice A4 l'.length c4] 51))) := Lib.hid ((Below.refl _ _).alloc (Nat.le_refl _) _)
      have C1 := Lib.hid (lgFind_any B m d M mm p (wr.alloc (.cells #[.int .i64 t, .int .i64 mm, .int .i64 p, .slice A3 l.length c3, .slice A4 l'.length c4] 51)) (by omega) (H'.out.below (by rw [hlo]; exact HB.out.alloc HLO.out _)))
      rw [← HFE.out] at C1
      go_wp2_with fail
      refine (C1.out).mono ?_
      rintro e w2 ⟨rfl, hb2⟩
      have HB2 := Lib.hid hb2
      have s0 := (hb2.cell (p := ⟨wr.heap.size, 0, none⟩) (by simp)).trans (show _ = some (.int .i64 t) by simp)
      have s1 := (hb2.cell (p := ⟨wr.heap.size, 1, none⟩) (by simp)).trans (show _ = some (.int .i64 mm) by simp)
      have s2 := (hb2.cell (p := ⟨wr.heap.size, 2, none⟩) (by simp)).trans (show _ = some (.int .i64 p) by simp)
      clear hb2 k0 k1 k2 k3 k4
      have HBW : Hid (Below lo w w2) := Lib.hid ((HB.out.alloc HLO.out _).trans (HB2.out.mono (by have := HLO.out; simp; omega)))
      have HT2 := Lib.hid (HT.out.below (HW1.out.trans (HB2.out.mono (by simp))))
      have HLO2 : Hid (lo ≤ w2.heap.size) := Lib.hid (by rw [← hlo]; exact HBW.out.size)
      rcases hf with hf | ⟨j, hf, hj⟩
      · rw [hf]
        have HSK : Hid (gapsE M a b (L.drop k) = gapsE M a b (L.drop (k + 1)) ∧ ixE M k (L.drop k) = ixE M (k + 1) (L.drop (k + 1))) := Lib.hid (by
          rw [HD.out]
          simp only [gapsE, togE, ixE]
          rw [hf, if_pos (by omega), if_pos (by omega)]
          exact ⟨rfl, rfl⟩)
        clear hf
        go_wp2
        go_roundw
        case rel => exact ⟨k + 1, g, A1, c1, A2, c2, G, Pl, hs, by omega, by go_num, rfl, rfl, by omega, by rw [← HSK.out.1]; exact HRG.out, by rw [← HSK.out.2]; exact HRP.out, HLG.out, HLP.out, HT2.out, HBW.out⟩
        case measure => simp [intOf]; omega
      · rw [hf]
        have hyt := entB_time (HME.out M[j] (List.getElem_mem hj))
        obtain ⟨bd, rfl, j0, hbd⟩ : ∃ bd, B = some bd ∧ w2.cell? (bd.add (j * 5)) = some (.int .i64 M[j].1) ∧ (bd.add (j * 5)).block < w.heap.size := by
          obtain ⟨bd, B3, d3, B4, d4, e, j0, _, _, _, _, _, _⟩ := rowsE_at H'.out hj
          exact ⟨bd, e, (HBW.out.cell (by rw [← hlo]; exact World.block_lt_of_cell? w _ j0)).trans j0, World.block_lt_of_cell? w _ j0⟩
        have HBD := Lib.hid hbd; clear hbd
        have HSK : Hid (gapsE M a b (L.drop k) = (mm, p, t + a, M[j].1 - b) :: gapsE M a b (L.drop (k + 1)) ∧ ixE M k (L.drop k) = (k, j) :: ixE M (k + 1) (L.drop (k + 1))) := Lib.hid (by
          rw [HD.out]
          simp only [gapsE, togE, ixE]
          rw [hf, if_neg (by omega), if_neg (by omega)]
          refine ⟨?_, by simp⟩
          simp [gapOf, List.getD, List.getElem?_eq_getElem hj])
        generalize M[j] = y at *
        obtain ⟨yt, ym, yp, yl, yl'⟩ := y
        simp only at hyt j0 HSK
        have hjm : (j : Int) < (m : Int) := by rw [HY.out] at hj; omega
        have hj0 : (0 : Int) ≤ (j : Int) := by omega
        have htx := HTX.out
        have hs1 : IntKind.i64.wrap (t + a) = t + a := IntWalk.i64_in _ (by omega)
        have hs2 : IntKind.i64.wrap (yt - b) = yt - b := IntWalk.i64_in _ (by omega)
        clear hf
        go_wp2
        have hnb : (Value.slice A1 g c1).ownBlock ≠ some wr.heap.size := own_ne_of_lt HT.out.one (.inr (Nat.le_refl _))
        have hnd : (Value.slice A1 g c1).ownBlock ≠ some (bd.add (j * 5)).block := own_ne_of_lt HT.out.one (.inl (by rw [← hlo]; exact HBD.out))
        go_region_held3 (fun w' => w'.cell? ⟨wr.heap.size, 0, none⟩ = some (.int .i64 t) ∧ w'.cell? ⟨wr.heap.size, 1, none⟩ = some (.int .i64 mm) ∧ w'.cell? ⟨wr.heap.size, 2, none⟩ = some (.int .i64 p) ∧ w'.cell? (bd.add (j * 5)) = some (.int .i64 yt))
          (first | (go_split_ands; refine ⟨?_, ?_, ?_, ?_⟩ <;> first | assumption | (refine alloc_cell _ ?_; assumption) | (refine grown_cell hg4 ?_ (alloc_cell _ ?_) <;> assumption)) | fail)
          ((refine step_pushL _ (by rfl) (.tmp 30) (.tmp 47) 34 (by rfl) lo 62 (.agg #[.int .i64 0, .int .i64 0, .int .i64 0, .int .i64 0]) 4 32 infoGap rfl (by omega) Try.underlying34 A1 g c1 (rows4 G) (by rfl) (own_below HT2.out.one ((Below.refl _ _).drew.alloc (Nat.le_refl _) _)) (some ⟨w2.heap.size, 0, none⟩) 1 1 [.int .i64 mm, .int .i64 p, .int .i64 (t + a), .int .i64 (yt - b)] (by rfl) (reads_litk _ _ _ rfl) (by simp [Value.oneCell']) (by omega) (by omega) (by have := HLO2.out; simp; omega) ?_; intro A1' c1' w4 hown4 hg4 hb4 hloc4))
        clear hs1 hs2 s0 s1 s2 j0
        have HT4 := Lib.hid ((HT2.out.below ((Below.refl _ _).drew.alloc (Nat.le_refl _) (.cells #[.int .i64 mm, .int .i64 p, .int .i64 (t + a), .int .i64 (yt - b)] 62))).push1 hg4 hown4 hloc4)
        have HLO4 : Hid (lo ≤ w4.heap.size) := Lib.hid (by have h1 := hg4.size; have h2 := HLO2.out; simp at h1; omega)
        have HBM : Hid (Below lo w2 w4) := Lib.hid ((((Below.refl _ _).drew.alloc HLO2.out _)).trans hb4)
        clear hown4 hg4 hb4 hloc4 hnb hnd
        have HT6 := Lib.hid (HT4.out.below (((Below.refl _ _).alloc (Nat.le_refl _) (.cells #[.int .i64 (k : Int), .int .i64 (j : Int)] 3)).alloc (by simp) (.cells #[.slice (some ⟨w4.heap.size, 0, none⟩) 2 2] 49)))
        have HOC := Lib.hid (own_below (own_built w4 [.int .i64 (k : Int), .int .i64 (j : Int)] 3 (by simp) HLO4.out) ((Below.refl _ _).alloc (Nat.le_refl _) (.cells #[.slice (some ⟨w4.heap.size, 0, none⟩) 2 2] 49)))
        go_wp2_with (at_builtin; refine wpList_pushL _ rfl (.tmp 49) (.tmp 53) 24 rfl lo 49 (.slice none 0 0) 1 24 infoInts rfl (by omega) Try.underlying24 A2 g c2 hs rfl (HT6.out.two.row) (some ⟨w4.heap.size + 1, 0, none⟩) 1 1 [.slice (some ⟨w4.heap.size, 0, none⟩) 2 2] rfl (by have h := reads_new (w4.alloc (.cells #[.int .i64 (k : Int), .int .i64 (j : Int)] 3)) (.slice (some ⟨w4.heap.size, 0, none⟩) 2 2) 49; simp only [World.size_alloc] at h; exact h) (by simp [Value.oneCell']) (by omega) (by omega) (by have := HLO4.out; simp; omega) ?_; intro A2' c2' w7 hown7 hg7 hb7 hloc7)
        have HT7 := Lib.hid (HT6.out.push2 (b := w4.heap.size) (xc := [.inr (ints [(k : Int), (j : Int)])]) (own_lt HT4.out.one) (fun q hq => (HT4.out.two.lt hq).2) HLO4.out (by simp; omega) hg7 hown7 hloc7 rfl (fun q u x hu hx => by
          cases q with
          | succ q => simp at hu
          | zero =>
            simp at hu hx
            subst hu; subst hx
            exact ⟨_, _, rfl, by simpa [ints] using HOC.out⟩) (fun q u hu b' hb' => by
          cases q with
          | succ q => simp at hu
          | zero =>
            simp at hu
            subst hu
            simp [Value.ownBlock] at hb'
            subst hb'
            exact ⟨Nat.le_refl _, by simp; omega⟩) (fun q q' u v hne hu hv => by
          cases q with
          | succ q => simp at hu
          | zero =>
            cases q' with
            | zero => exact absurd rfl hne
            | succ q' => simp at hv))
        have HBL7 := Lib.hid hb7
        clear hown7 hg7 hb7 hloc7
        go_roundw
        case rel =>
          refine ⟨k + 1, g + 1, A1', c1', A2', c2', G ++ [(mm, p, t + a, yt - b)], Pl ++ [(k, j)], hs ++ [.slice (some ⟨w4.heap.size, 0, none⟩) 2 2], by omega, by go_num, rfl, rfl, by omega, ?_, ?_, by simp [HLG.out], by simp [HLP.out], ?_, ?_⟩
          · rw [← HRG.out, HSK.out.1]; simp
          · rw [← HRP.out, HSK.out.2]; simp
          · have e1 : rows4 (G ++ [(mm, p, t + a, yt - b)]) = rows4 G ++ [.int .i64 mm, .int .i64 p, .int .i64 (t + a), .int .i64 (yt - b)] := by simp [rows4, cells4]
            have e2 : rowsIntss (ixL (Pl ++ [(k, j)])) = rowsIntss (ixL Pl) ++ [.inr (ints [(k : Int), (j : Int)])] := by simp [rowsIntss, ixL]
            rw [e1, e2]
            exact HT7.out
          · exact (HBW.out.trans HBM.out).trans ((((Below.refl _ _).alloc HLO4.out (.cells #[.int .i64 (k : Int), .int .i64 (j : Int)] 3)).alloc (by have := HLO4.out; simp; omega) (.cells #[.slice (some ⟨w4.heap.size, 0, none⟩) 2 2] 49)).trans HBL7.out)
        case measure => simp [intOf]; omega
    · have HE := Lib.hid (drop_end (xs := L) (k := k) (by rw [HX.out]; omega))
      have hG : G = gapsE M a b L := by have := HRG.out; rw [HE.out] at this; simpa [gapsE, togE] using this
      have hP : Pl = ixE M 0 L := by have := HRP.out; rw [HE.out] at this; simpa [ixE] using this
      have hg : g = cntE M L := by rw [← HLG.out, hG]; simp [gapsE, cntE]
      subst hG hP
      subst hg
      go_wp2
      go_ret2
      exact ⟨A1, c1, A2, c2, hs, rfl, HT.out, HB.out⟩

end Go.Proofs.Ytcjmlakmigfkfaa

namespace Go.Proofs.Ytcjmlakmigfkfaa
set_option linter.unusedSimpArgs false
set_option linter.unusedVariables false
open Go.RowKit

def celP (p : EntryT × EntryT) : List Cel := celEntry p.1 ++ celEntry p.2
def rowsP (l : List (EntryT × EntryT)) : List Cel := l.flatMap celP
theorem celP_len (p : EntryT × EntryT) : (celP p).length = 10 := rfl
@[simp] theorem length_rowsP (l : List (EntryT × EntryT)) : (rowsP l).length = l.length * 10 := flat_len celP_len l
theorem rowsP_get {l : List (EntryT × EntryT)} {i j : Nat} (hi : i < l.length) (hj : j < 10) : (rowsP l)[i * 10 + j]? = (celP l[i])[j]? := flat_get celP_len hi hj
theorem infoPair : (Try.prog.info? 85).map (fun i => (i.zero, i.size, i.bytes)) = some (some (.agg #[.int .i64 0, .int .i64 0, .int .i64 0, .slice none 0 0, .slice none 0 0, .int .i64 0, .int .i64 0, .int .i64 0, .slice none 0 0, .slice none 0 0]), 10, 144) := by kernel_rfl
/-- As rowsE_at, with the bounds of the capacities. -/
theorem rowsE_at2 {w : World} {A : Option Addr} {n i : Nat} {L : List EntryT} (h : Reads2 w 5 A n (rowsE L)) (hi : i < L.length) :
    ∃ ad A3 c3 A4 c4, A = some ad ∧ (w.cell? (ad.add (i * 5)) = some (.int .i64 L[i].1) ∧ w.cell? ⟨(ad.add (i * 5)).block, (ad.add (i * 5)).off + 1, none⟩ = some (.int .i64 L[i].2.1) ∧ w.cell? ⟨(ad.add (i * 5)).block, (ad.add (i * 5)).off + 2, none⟩ = some (.int .i64 L[i].2.2.1) ∧
      w.cell? ⟨(ad.add (i * 5)).block, (ad.add (i * 5)).off + 3, none⟩ = some (.slice A3 L[i].2.2.2.1.length c3) ∧ w.cell? ⟨(ad.add (i * 5)).block, (ad.add (i * 5)).off + 4, none⟩ = some (.slice A4 L[i].2.2.2.2.length c4)) ∧
      readsC w (.slice A3 L[i].2.2.2.1.length c3) (.inr (ints L[i].2.2.2.1)) ∧ readsC w (.slice A4 L[i].2.2.2.2.length c4) (.inr (ints L[i].2.2.2.2)) := by
  obtain ⟨ad0, e0, k0⟩ := h.plain (j := i * 5 + 0) (u := .int .i64 L[i].1) (by rw [rowsE_get hi (by omega)]; rfl)
  obtain ⟨ad1, e1, k1⟩ := h.plain (j := i * 5 + 1) (u := .int .i64 L[i].2.1) (by rw [rowsE_get hi (by omega)]; rfl)
  obtain ⟨ad2, e2, k2⟩ := h.plain (j := i * 5 + 2) (u := .int .i64 L[i].2.2.1) (by rw [rowsE_get hi (by omega)]; rfl)
  obtain ⟨ad3, A3, c3, e3, k3, b3, m3, r3⟩ := h.row (j := i * 5 + 3) (l := ints L[i].2.2.2.1) (by rw [rowsE_get hi (by omega)]; rfl)
  obtain ⟨ad4, A4, c4, e4, k4, b4, m4, r4⟩ := h.row (j := i * 5 + 4) (l := ints L[i].2.2.2.2) (by rw [rowsE_get hi (by omega)]; rfl)
  subst e0
  injection e1 with e1
  subst e1
  injection e2 with e2
  subst e2
  injection e3 with e3
  subst e3
  injection e4 with e4
  subst e4
  simp only [length_ints] at k3 k4
  refine ⟨ad0, A3, c3, A4, c4, rfl, ⟨k0, ?_, ?_, ?_, ?_⟩, ⟨A3, c3, by simp, b3, m3, r3⟩, ⟨A4, c4, by simp, b4, m4, r4⟩⟩
  · rw [← add_pos_ (by omega)]; exact k1
  · rw [← add_pos_ (by omega)]; exact k2
  · rw [← add_pos_ (by omega)]; exact k3
  · rw [← add_pos_ (by omega)]; exact k4

set_option maxHeartbeats 4000000 in
set_option maxRecDepth 100000 in
theorem together_any (A : Option Addr) (n c : Nat) (L : List EntryT) (B : Option Addr) (m d : Nat) (M : List EntryT) (w : World) (hn : n ≤ 1000) (hm : m ≤ 1000) (h : Reads2 w 5 A n (rowsE L)) (h' : Reads2 w 5 B m (rowsE M)) :
    Calls Try.prog 64 #[.slice A n c, .slice B m d] w fun e w' => ∃ A1 c1, e = .returned (.slice A1 (cntE M L) c1) ∧ Reads2 w' 10 A1 (cntE M L) (rowsP (togE M L)) ∧ Below w.heap.size w w' := by
  have HX := Lib.hid (show L.length = n by have := h.len; rw [length_rowsE] at this; omega)
  have HY := Lib.hid (show M.length = m by have := h'.len; rw [length_rowsE] at this; omega)
  have H := Lib.hid h
  have H' := Lib.hid h'
  clear h h'
  generalize hlo : w.heap.size = lo at *
  go_enter Try.func64, Try.ntmps64
  go_wp2
  go_loopw [5, 11] (fun o1 i wr => ∃ k g : Nat, ∃ A1 c1 Pl hs, k ≤ n ∧ i = .int .i64 k ∧ o1 = .slice A1 g c1 ∧ g ≤ k ∧ Pl ++ togE M (L.drop k) = togE M L ∧ Pl.length = g ∧ wr.ownsRow lo 85 10 (.slice A1 g c1) g hs ∧ (∀ (j : Nat) (u : Value) (x : Cel), hs[j]? = some u → (rowsP Pl)[j]? = some x → readsC w u x) ∧ Below lo w wr) (fun _ i _ => n - (intOf i).toNat)
  case atStart => exact ⟨0, 0, none, 0, [], [], Nat.zero_le _, rfl, rfl, Nat.le_refl _, rfl, rfl, World.ownsRow_nil _ _ _ _, fun j u x hu => by simp at hu, Below.refl _ _⟩
  case round =>
    obtain ⟨k, g, A1, c1, Pl, hs, hk, rfl, rfl, hgk, hrP, hlP, hown, hcel, hbel⟩ := hrel
    have HRP := Lib.hid hrP; have HLP := Lib.hid hlP; have HO := Lib.hid hown; have HC := Lib.hid hcel; have HB := Lib.hid hbel
    clear hrP hlP hown hcel hbel
    have HLO : Hid (lo ≤ wr.heap.size) := Lib.hid (by rw [← hlo]; exact HB.out.size)
    by_cases hlt : k < n
    · have hx : k < L.length := by rw [HX.out]; exact hlt
      have HD := Lib.hid (drop_cons hx)
      have hf := findE_cases M L[k]
      have HFE : Hid (findE M L[k] = idxP (isE L[k].2.1 L[k].2.2.1) M 0) := Lib.hid rfl
      obtain ⟨ad, A3, c3, A4, c4, rfl, ⟨k0, k1, k2, k3, k4⟩, r3, r4⟩ := rowsE_at2 H.out hx
      have q0 := (HB.out.cell (by rw [← hlo]; exact World.block_lt_of_cell? w _ k0)).trans k0
      have q1 := (HB.out.cell (by rw [← hlo]; exact World.block_lt_of_cell? w _ k1)).trans k1
      have q2 := (HB.out.cell (by rw [← hlo]; exact World.block_lt_of_cell? w _ k2)).trans k2
      have q3 := (HB.out.cell (by rw [← hlo]; exact World.block_lt_of_cell? w _ k3)).trans k3
      have q4 := (HB.out.cell (by rw [← hlo]; exact World.block_lt_of_cell? w _ k4)).trans k4
      clear k0 k1 k2 k3 k4
      generalize L[k] = x at *
      obtain ⟨t, mm, p, l, l'⟩ := x
      simp only at q0 q1 q2 q3 q4 r3 r4 HFE
      have HR3 := Lib.hid r3; have HR4 := Lib.hid r4
      clear r3 r4
      have HW1 : Hid (Below wr.heap.size wr (wr.alloc (.cells #[.int .i64 t, .int .i64 mm, .int .i64 p, .slice A3 l.length c3, .slice A4 l'.length c4] 51))) := Lib.hid ((Below.refl _ _).alloc (Nat.le_refl _) _)
      have C1 := Lib.hid (entryIndex_any B m d M mm p (wr.alloc (.cells #[.int .i64 t, .int .i64 mm, .int .i64 p, .slice A3 l.length c3, .slice A4 l'.length c4] 51)) (by omega) (H'.out.below (by rw [hlo]; exact HB.out.alloc HLO.out _)))
      rw [← HFE.out] at C1
      go_wp2_with fail
      refine (C1.out).mono ?_
      rintro e w2 ⟨rfl, hb2⟩
      have HB2 := Lib.hid hb2
      have s0 := (hb2.cell (p := ⟨wr.heap.size, 0, none⟩) (by simp)).trans (show _ = some (.int .i64 t) by simp)
      have s1 := (hb2.cell (p := ⟨wr.heap.size, 1, none⟩) (by simp)).trans (show _ = some (.int .i64 mm) by simp)
      have s2 := (hb2.cell (p := ⟨wr.heap.size, 2, none⟩) (by simp)).trans (show _ = some (.int .i64 p) by simp)
      have s3 := (hb2.cell (p := ⟨wr.heap.size, 3, none⟩) (by simp)).trans (show _ = some (.slice A3 l.length c3) by simp)
      have s4 := (hb2.cell (p := ⟨wr.heap.size, 4, none⟩) (by simp)).trans (show _ = some (.slice A4 l'.length c4) by simp)
      clear hb2 q0 q1 q2 q3 q4
      have HBW : Hid (Below lo w w2) := Lib.hid ((HB.out.alloc HLO.out _).trans (HB2.out.mono (by have := HLO.out; simp; omega)))
      have HO2 := Lib.hid (own_below HO.out (HW1.out.trans (HB2.out.mono (by simp))))
      have HLO2 : Hid (lo ≤ w2.heap.size) := Lib.hid (by rw [← hlo]; exact HBW.out.size)
      rcases hf with hf | ⟨j, hf, hj⟩
      · rw [hf]
        have HSK : Hid (togE M (L.drop k) = togE M (L.drop (k + 1))) := Lib.hid (by
          rw [HD.out]
          simp only [togE]
          rw [hf, if_pos (by omega)])
        clear hf
        go_wp2
        go_roundw
        case rel => exact ⟨k + 1, g, A1, c1, Pl, hs, by omega, by go_num, rfl, by omega, by rw [← HSK.out]; exact HRP.out, HLP.out, HO2.out, HC.out, HBW.out⟩
        case measure => simp [intOf]; omega
      · rw [hf]
        obtain ⟨bd, B3, d3, B4, d4, rfl, ⟨i0, i1, i2, i3, i4⟩, r3, r4⟩ := rowsE_at2 H'.out hj
        have hbd := World.block_lt_of_cell? w _ i0
        have HBD : Hid ((bd.add (j * 5)).block < w.heap.size) := Lib.hid hbd
        have j0 := (HBW.out.cell (by rw [← hlo]; exact World.block_lt_of_cell? w _ i0)).trans i0
        have j1 := (HBW.out.cell (by rw [← hlo]; exact World.block_lt_of_cell? w _ i1)).trans i1
        have j2 := (HBW.out.cell (by rw [← hlo]; exact World.block_lt_of_cell? w _ i2)).trans i2
        have j3 := (HBW.out.cell (by rw [← hlo]; exact World.block_lt_of_cell? w _ i3)).trans i3
        have j4 := (HBW.out.cell (by rw [← hlo]; exact World.block_lt_of_cell? w _ i4)).trans i4
        clear i0 i1 i2 i3 i4 hbd
        have HSK : Hid (togE M (L.drop k) = ((t, mm, p, l, l'), M[j]) :: togE M (L.drop (k + 1))) := Lib.hid (by
          rw [HD.out]
          simp only [togE]
          rw [hf, if_neg (by omega)]
          simp [List.getD, List.getElem?_eq_getElem hj])
        generalize M[j] = y at *
        obtain ⟨yt, ym, yp, yl, yl'⟩ := y
        simp only at j0 j1 j2 j3 j4 r3 r4 HSK
        have HS3 := Lib.hid r3; have HS4 := Lib.hid r4
        clear r3 r4
        have hjm : (j : Int) < (m : Int) := by rw [HY.out] at hj; omega
        have hj0 : (0 : Int) ≤ (j : Int) := by omega
        clear hf
        have hnb : (Value.slice A1 g c1).ownBlock ≠ some wr.heap.size := own_ne_of_lt HO.out (.inr (Nat.le_refl _))
        have hnd : (Value.slice A1 g c1).ownBlock ≠ some (bd.add (j * 5)).block := own_ne_of_lt HO.out (.inl (by rw [← hlo]; exact HBD.out))
        go_wp2
        go_region_held3 (fun w' => w'.cell? ⟨wr.heap.size, 0, none⟩ = some (.int .i64 t) ∧ w'.cell? ⟨wr.heap.size, 1, none⟩ = some (.int .i64 mm) ∧ w'.cell? ⟨wr.heap.size, 2, none⟩ = some (.int .i64 p) ∧ w'.cell? ⟨wr.heap.size, 3, none⟩ = some (.slice A3 l.length c3) ∧ w'.cell? ⟨wr.heap.size, 4, none⟩ = some (.slice A4 l'.length c4) ∧ w'.cell? (bd.add (j * 5)) = some (.int .i64 yt) ∧ w'.cell? ⟨(bd.add (j * 5)).block, (bd.add (j * 5)).off + 1, none⟩ = some (.int .i64 ym) ∧ w'.cell? ⟨(bd.add (j * 5)).block, (bd.add (j * 5)).off + 2, none⟩ = some (.int .i64 yp) ∧ w'.cell? ⟨(bd.add (j * 5)).block, (bd.add (j * 5)).off + 3, none⟩ = some (.slice B3 yl.length d3) ∧ w'.cell? ⟨(bd.add (j * 5)).block, (bd.add (j * 5)).off + 4, none⟩ = some (.slice B4 yl'.length d4))
          (first | (go_split_ands; refine ⟨?_, ?_, ?_, ?_, ?_, ?_, ?_, ?_, ?_, ?_⟩ <;> first | assumption | (refine alloc_cell _ ?_; assumption) | (refine grown_cell hg4 ?_ (alloc_cell _ ?_) <;> assumption)) | fail)
          ((refine step_pushL _ (by rfl) (.tmp 23) (.tmp 30) 82 (by rfl) lo 85 _ 10 144 infoPair rfl (by omega) Try.underlying82 A1 g c1 hs (by rfl) (own_below HO2.out ((Below.refl _ _).drew.alloc (Nat.le_refl _) _)) (some ⟨w2.heap.size, 0, none⟩) 1 1 [.int .i64 t, .int .i64 mm, .int .i64 p, .slice A3 l.length c3, .slice A4 l'.length c4, .int .i64 yt, .int .i64 ym, .int .i64 yp, .slice B3 yl.length d3, .slice B4 yl'.length d4] (by rfl) (reads_litk _ _ _ rfl) (by simp [Value.oneCell']) (by omega) (by omega) (by have := HLO2.out; simp; omega) ?_; intro A1' c1' w4 hown4 hg4 hb4 hloc4))
        clear s0 s1 s2 s3 s4 j0 j1 j2 j3 j4 hnb hnd
        have HO4 := Lib.hid hown4
        have HB4 : Hid (Below lo w w4) := Lib.hid (HBW.out.trans ((((Below.refl _ _).drew.alloc HLO2.out _)).trans hb4))
        clear hown4 hg4 hb4 hloc4
        have HCN : Hid (∀ (q : Nat) (u : Value) (x : Cel), (hs ++ [.int .i64 t, .int .i64 mm, .int .i64 p, .slice A3 l.length c3, .slice A4 l'.length c4, .int .i64 yt, .int .i64 ym, .int .i64 yp, .slice B3 yl.length d3, .slice B4 yl'.length d4])[q]? = some u → (rowsP (Pl ++ [((t, mm, p, l, l'), (yt, ym, yp, yl, yl'))]))[q]? = some x → readsC w u x) := Lib.hid (by
          intro q u x hu hx
          have e1 : rowsP (Pl ++ [((t, mm, p, l, l'), (yt, ym, yp, yl, yl'))]) = rowsP Pl ++ celP ((t, mm, p, l, l'), (yt, ym, yp, yl, yl')) := by simp [rowsP]
          rw [e1] at hx
          have hl : (rowsP Pl).length = hs.length := by rw [length_rowsP, HLP.out, HO.out.1]
          rcases append_cases hu with ⟨hq, hu⟩ | ⟨hq, hu⟩ <;> rcases append_cases hx with ⟨hq', hx⟩ | ⟨hq', hx⟩
          · exact HC.out q u x hu hx
          · omega
          · omega
          · rw [hl] at hx
            generalize q - hs.length = r at hu hx
            match r with
            | 0 => simp [celP, celEntry] at hu hx; subst hu; subst hx; rfl
            | 1 => simp [celP, celEntry] at hu hx; subst hu; subst hx; rfl
            | 2 => simp [celP, celEntry] at hu hx; subst hu; subst hx; rfl
            | 3 => simp [celP, celEntry] at hu hx; subst hu; subst hx; exact HR3.out
            | 4 => simp [celP, celEntry] at hu hx; subst hu; subst hx; exact HR4.out
            | 5 => simp [celP, celEntry] at hu hx; subst hu; subst hx; rfl
            | 6 => simp [celP, celEntry] at hu hx; subst hu; subst hx; rfl
            | 7 => simp [celP, celEntry] at hu hx; subst hu; subst hx; rfl
            | 8 => simp [celP, celEntry] at hu hx; subst hu; subst hx; exact HS3.out
            | 9 => simp [celP, celEntry] at hu hx; subst hu; subst hx; exact HS4.out
            | r + 10 => simp at hu)
        go_wp2
        go_roundw
        case rel =>
          refine ⟨k + 1, g + 1, A1', c1', Pl ++ [((t, mm, p, l, l'), (yt, ym, yp, yl, yl'))], hs ++ [.int .i64 t, .int .i64 mm, .int .i64 p, .slice A3 l.length c3, .slice A4 l'.length c4, .int .i64 yt, .int .i64 ym, .int .i64 yp, .slice B3 yl.length d3, .slice B4 yl'.length d4], by omega, by go_num, rfl, by omega, ?_, by simp [HLP.out], HO4.out, HCN.out, HB4.out⟩
          rw [← HRP.out, HSK.out]; simp
        case measure => simp [intOf]; omega
    · have HE := Lib.hid (drop_end (xs := L) (k := k) (by rw [HX.out]; omega))
      have hP : Pl = togE M L := by have := HRP.out; rw [HE.out] at this; simpa [togE] using this
      have hg : g = cntE M L := by rw [← HLP.out, hP]; rfl
      subst hP
      subst hg
      go_wp2
      go_ret
      exact ⟨A1, c1, rfl, ⟨hs, .of_own HO.out, by rw [length_rowsP, HO.out.1]; rfl, fun j u x hu hx => readsC_keep (HC.out j u x hu hx) (fun q hq => HB.out.cell (by omega))⟩, HB.out⟩

end Go.Proofs.Ytcjmlakmigfkfaa
