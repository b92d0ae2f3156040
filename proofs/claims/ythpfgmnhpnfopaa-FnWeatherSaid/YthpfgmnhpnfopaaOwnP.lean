/- Appends to a slice of slices of the call's own; a plain row beside it. Speaks of no function. No conditions. -/
import Derived.Test.YthpfgmnhpnfopaaPushL
import Derived.Deep.RegionHeld3
import Derived.Deep.AppendLies
namespace Go.Proofs.Ythpfgmnhpnfopaa
set_option linter.unusedSimpArgs false
set_option linter.unusedVariables false
open Go.RowKit Go.ChangeShapes Go.WideShapes Go.Deep

theorem reads_litk (w : World) (cs : List Value) (e : TypeId) {n k : Nat} (h : cs.length = n * k) : Reads (w.alloc (.cells cs.toArray e)) k (some ⟨w.heap.size, 0, none⟩) n cs := by
  refine ⟨h, fun _ => ⟨_, rfl, fun j u hu => ?_⟩⟩
  have hadd : (⟨w.heap.size, 0, none⟩ : Addr).add j = ⟨w.heap.size, j, none⟩ := by unfold Addr.add; split <;> simp_all
  rw [hadd, cell_of_row _ _ j cs.toArray e (0, 0) (heap_alloc_new w _)]
  simpa using hu
theorem grown_cell {w w' : World} {row : Option Nat} {p : Addr} {u : Value} (hg : w.grownBy w' row) (hne : row ≠ some p.block) (h : w.cell? p = some u) : w'.cell? p = some u := by
  rw [← h]
  exact World.cell?_of_block (hg.block _ (World.block_lt_of_cell? w _ h) (fun e => hne e.symm))
theorem alloc_cell {w : World} {p : Addr} {u : Value} (o : Obj) (h : w.cell? p = some u) : (w.alloc o).cell? p = some u := (World.cell?_alloc_lt w o _ (World.block_lt_of_cell? w _ h)).trans h
theorem own_ne_of_lt {w : World} {base k n q : Nat} {e : TypeId} {v : Value} {xs : List Value} (h : w.ownsRow base e k v n xs) (hq : q < base ∨ w.heap.size ≤ q) : v.ownBlock ≠ some q := fun e' => by
  have := h.lt q e'
  omega
theorem append_cases {α : Type} {l m : List α} {j : Nat} {x : α} (h : (l ++ m)[j]? = some x) : (j < l.length ∧ l[j]? = some x) ∨ (l.length ≤ j ∧ m[j - l.length]? = some x) := by
  rw [List.getElem?_append] at h
  split at h
  · exact .inl ⟨by assumption, h⟩
  · exact .inr ⟨by omega, h⟩
section
variable {P : Program} {ops : Array Oper} {o : Oper} {a : Act} {Q : Exit → Act → World → Prop}
/-- As run_pushL, elements of any size. -/
theorem run_pushB (w : World) (base : Nat) (t ty e : TypeId) (z : Value) (k bytes : Nat) (hinfo : (P.info? e).map (fun i => (i.zero, i.size, i.bytes)) = some (some z, k, bytes)) (hzs : z.cells.size = k) (hk : 0 < k) (ht : P.underlying t = some (.slice e))
    (A : Option Addr) (n c : Nat) (xs : List Value) (hown : w.ownsRow base e k (.slice A n c) n xs)
    (A2 : Option Addr) (m c2 : Nat) (news : List Value) (hr : Reads w k A2 m news) (h1 : ∀ u ∈ news, u.oneCell' = true)
    (h63 : n + m ≤ 1000000000000) (hb : (n + m) * bytes ≤ 140737488355328) (hbase : base ≤ w.heap.size) :
    ∃ A' c' w', (Builtin.append_ #[t, t] ty #[.slice A n c, .slice A2 m c2]).run P w = .ok (.slice A' (n + m) c') w' ∧ w'.ownsRow base e k (.slice A' (n + m) c') (n + m) (xs ++ news) ∧ w.grownBy w' (Value.slice A n c).ownBlock ∧ Below base w w' ∧
      ((Value.slice A' (n + m) c').ownBlock = (Value.slice A n c).ownBlock ∨ (Value.slice A' (n + m) c').ownBlock = some w.heap.size) := by
  obtain ⟨i, hi, hz, hsz, hbs⟩ := info_parts hinfo
  rcases A2 with _ | ad
  · have hm : m = 0 := by
      rcases Nat.eq_zero_or_pos m with h0 | h0
      · exact h0
      · obtain ⟨_, h, _⟩ := hr.2 h0
        cases h
    subst hm
    have hn : news = [] := List.eq_nil_of_length_eq_zero (by simpa using hr.1)
    subst hn
    exact ⟨A, c, w, run_append_nil_src w base t ty e i k ht hi _ n xs hown c2, by simpa using hown, World.grownBy.refl _ _, Below.refl _ _, .inl rfl⟩
  · have hcell : ∀ j u, news[j]? = some u → w.cell? (ad.add j) = some u := by
      intro j u hu
      rcases Nat.eq_zero_or_pos m with h0 | h0
      · subst h0
        have hn : news = [] := List.eq_nil_of_length_eq_zero (by simpa using hr.1)
        subst hn
        simp at hu
      · obtain ⟨ad', h, hc⟩ := hr.2 h0
        injection h with h
        subst h
        exact hc j u hu
    obtain ⟨v', w', hrun, hown', hg, _, hloc⟩ := run_append_own_at (P := P) w base t ty e i z k bytes ht hi hz hsz hbs hzs hk _ n xs hown ad m c2 news hr.1 hcell h1 (by unfold maxLen; omega) hb hbase
    have hgb : Below base w w' := ⟨hg.os, hg.tape, hg.output, hg.size, fun q hq => hg.block q (by omega) (fun hk' => by have := hown.lt q hk'.symm; omega)⟩
    rcases hown'.2 with ⟨hv, h0⟩ | ⟨g, cap, cur, hv, rest⟩
    · subst hv
      have h00 : n + m = 0 := h0
      rw [h00] at hown' ⊢
      exact ⟨none, 0, w', hrun, hown', hg, hgb, hloc⟩
    · subst hv
      exact ⟨_, _, _, hrun, hown', hg, hgb, hloc⟩
/-- As wpList_pushL, at a step of a region that draws its order. -/
theorem step_pushL (w : World) {K : Act → World → Prop} {E : Prop} (hgd : o.guard = none) (s x : Operand) (t : TypeId)
    (ho : o.op = .call { callee := .builtin .append, args := #[s, x], argTypes := #[t, t] })
    (base : Nat) (e : TypeId) (z : Value) (k bytes : Nat) (hinfo : (P.info? e).map (fun i => (i.zero, i.size, i.bytes)) = some (some z, k, bytes)) (hzs : z.cells.size = k) (hk : 0 < k) (ht : P.underlying t = some (.slice e))
    (A : Option Addr) (n c : Nat) (xs : List Value) (hs : a.eval s = .slice A n c) (hown : w.ownsRow base e k (.slice A n c) n xs)
    (A2 : Option Addr) (m c2 : Nat) (news : List Value) (hx : a.eval x = .slice A2 m c2) (hr : Reads w k A2 m news) (h1 : ∀ u ∈ news, u.oneCell' = true)
    (h63 : n + m ≤ 1000000000000) (hb : (n + m) * bytes ≤ 140737488355328) (hbase : base ≤ w.heap.size)
    (h : ∀ A' c' w', w'.ownsRow base e k (.slice A' (n + m) c') (n + m) (xs ++ news) → w.grownBy w' (Value.slice A n c).ownBlock → Below base w w' → ((Value.slice A' (n + m) c').ownBlock = (Value.slice A n c).ownBlock ∨ (Value.slice A' (n + m) c').ownBlock = some w.heap.size) → K (a.put o.dst (.slice A' (n + m) c')) w') :
    if Region.wanted o (yielded ops a.tmps) = true then Oper.wp P o a w K Q else E := by
  rw [if_pos (by simp [Region.wanted, hgd])]
  obtain ⟨A', c', w', hrun, r1, r2, r3, r4⟩ := run_pushB (P := P) w base t o.type e z k bytes hinfo hzs hk ht A n c xs hown A2 m c2 news hr h1 h63 hb hbase
  unfold Oper.wp execOp
  simp only [ho, resolve, invoke, builtin, Sem.run_bind, Sem.run_pure, Result.andThen_ok, List.map_toArray, List.map_cons, List.map_nil, hs, hx, hrun]
  exact h A' c' w' r1 r2 r3 r4
end
section
variable {w w' : World} {lo hi k n n' c c' : Nat} {e ei : TypeId} {A A' : Option Addr} {cs xs : List Cel} {hs us : List Value}
/-- Elements are appended whose slices lie in blocks that are new to the slice of slices. -/
theorem Own2.push (h : Own2 w lo hi e ei k A n c cs hs) (hg : w.grownBy w' (Value.slice A n c).ownBlock) (hr : w'.ownsRow lo e k (.slice A' n' c') n' (hs ++ us))
    (hloc : (Value.slice A' n' c').ownBlock = (Value.slice A n c).ownBlock ∨ (Value.slice A' n' c').ownBlock = some w.heap.size) (hh : hi ≤ w.heap.size) (hx : xs.length = us.length)
    (hxs : ∀ (j : Nat) (u : Value) (x : Cel), us[j]? = some u → xs[j]? = some x → ownC w lo ei u x) (hin : ∀ (j : Nat) (u : Value), us[j]? = some u → ∀ q, u.ownBlock = some q → lo ≤ q ∧ hi ≤ q ∧ q < w.heap.size)
    (hap : ∀ (i j : Nat) (u v : Value), i ≠ j → us[i]? = some u → us[j]? = some v → Go.Proofs.Ythpfgmnhpnfopaa.apart u v) : Own2 w' lo w'.heap.size e ei k A' n' c' (cs ++ xs) (hs ++ us) := by
  have hsz := hg.size
  have hA : ∀ q, (Value.slice A n c).ownBlock = some q → q < hi := h.bound
  have hold : ∀ (j : Nat) (u : Value), hs[j]? = some u → ∀ q, u.ownBlock = some q → w'.heap[q]? = w.heap[q]? := by
    intro j u hu q hq
    have hb := h.bounds j u hu q hq
    refine hg.block q (by omega) (fun e' => ?_)
    rcases h.out j u hu with h1 | h1
    · rw [h1] at hq; cases hq
    · exact h1 (by rw [hq, e'])
  have hnew : ∀ (j : Nat) (u : Value), us[j]? = some u → ∀ q, u.ownBlock = some q → w'.heap[q]? = w.heap[q]? := by
    intro j u hu q hq
    have hb := hin j u hu q hq
    exact hg.block q hb.2.2 (fun e' => by have := hA q e'.symm; omega)
  refine ⟨hr, by simp [h.len, hx], fun j u x hu hxx => ?_, fun i j u v hij hu hv => ?_, fun j u hu => ?_, own_lt hr, fun j u hu q hq => ?_⟩
  · rcases append_cases hu with ⟨hj, hu⟩ | ⟨hj, hu⟩ <;> rcases append_cases hxx with ⟨hj', hxx⟩ | ⟨hj', hxx⟩
    · exact ownC_same (h.cell j u x hu hxx) (hold j u hu)
    · rw [h.len] at hj'; omega
    · rw [h.len] at hj'; omega
    · rw [h.len] at hxx
      exact ownC_same (hxs _ u x hu hxx) (hnew _ u hu)
  · rcases append_cases hu with ⟨hi', hu⟩ | ⟨hi', hu⟩ <;> rcases append_cases hv with ⟨hj', hv⟩ | ⟨hj', hv⟩
    · exact h.apart i j u v hij hu hv
    · cases hq : u.ownBlock with
      | none => exact .inl hq
      | some q =>
        refine .inr (fun e' => ?_)
        rw [hq] at e'
        have h1 := (h.bounds i u hu q hq).2
        have h2 := (hin _ v hv q e'.symm).2.1
        omega
    · cases hq : u.ownBlock with
      | none => exact .inl hq
      | some q =>
        refine .inr (fun e' => ?_)
        rw [hq] at e'
        have h1 := (hin _ u hu q hq).2.1
        have h2 := (h.bounds j v hv q e'.symm).2
        omega
    · exact hap (i - hs.length) (j - hs.length) u v (by omega) hu hv
  · cases hq : u.ownBlock with
    | none => exact .inl hq
    | some q =>
      refine .inr (fun e' => ?_)
      rw [hq] at e'
      rcases append_cases hu with ⟨hj, hu⟩ | ⟨hj, hu⟩
      · rcases hloc with h1 | h1
        · rcases h.out j u hu with h2 | h2
          · rw [h2] at hq; cases hq
          · exact h2 (by rw [hq, e', h1])
        · rw [h1] at e'
          injection e' with e'
          have := (h.bounds j u hu q hq).2
          omega
      · have h2 := hin _ u hu q hq
        rcases hloc with h1 | h1
        · rw [h1] at e'
          have := hA q e'.symm
          omega
        · rw [h1] at e'
          injection e' with e'
          omega
  · rcases append_cases hu with ⟨hj, hu⟩ | ⟨hj, hu⟩
    · have := h.bounds j u hu q hq; omega
    · have := hin _ u hu q hq; omega
theorem Own2.push_owns {q : Nat} (h : owns2 A' n' c' (hs ++ us) q) (hloc : (Value.slice A' n' c').ownBlock = (Value.slice A n c).ownBlock ∨ (Value.slice A' n' c').ownBlock = some w.heap.size) : owns2 A n c hs q ∨ q = w.heap.size ∨ ∃ (j : Nat) (u : Value), us[j]? = some u ∧ u.ownBlock = some q := by
  rcases h with h | ⟨j, u, hu, hq⟩
  · rcases hloc with h1 | h1
    · exact .inl (.inl (by rw [← h1]; exact h))
    · rw [h1] at h; injection h with h; exact .inr (.inl h.symm)
  · rcases append_cases hu with ⟨hj, hu⟩ | ⟨hj, hu⟩
    · exact .inl (.inr ⟨j, u, hu, hq⟩)
    · exact .inr (.inr ⟨_, u, hu, hq⟩)
end
/-- A row that has just been built, and its header beside it, appended. -/
theorem Own2.push_row {w w' : World} {lo n c c' : Nat} {e ei : TypeId} {A A' : Option Addr} {cs : List Cel} {hs : List Value} {l : List Value} {m : Nat} (h : Own2 w lo w.heap.size e ei 1 A n c cs hs) (hm : m = l.length) (hlo : lo ≤ w.heap.size) (hlen : l.length ≤ 1000000)
    (hg : ((w.alloc (.cells l.toArray ei)).alloc (.cells #[.slice (some ⟨w.heap.size, 0, none⟩) m m] e)).grownBy w' (Value.slice A n c).ownBlock) (hr : w'.ownsRow lo e 1 (.slice A' (n + 1) c') (n + 1) (hs ++ [.slice (some ⟨w.heap.size, 0, none⟩) m m]))
    (hloc : (Value.slice A' (n + 1) c').ownBlock = (Value.slice A n c).ownBlock ∨ (Value.slice A' (n + 1) c').ownBlock = some ((w.alloc (.cells l.toArray ei)).alloc (.cells #[.slice (some ⟨w.heap.size, 0, none⟩) m m] e)).heap.size) :
    Own2 w' lo w'.heap.size e ei 1 A' (n + 1) c' (cs ++ [.inr l]) (hs ++ [.slice (some ⟨w.heap.size, 0, none⟩) m m]) := by
  subst hm
  have hb : Below w.heap.size w ((w.alloc (.cells l.toArray ei)).alloc (.cells #[.slice (some ⟨w.heap.size, 0, none⟩) l.length l.length] e)) := ((Below.refl _ _).alloc (Nat.le_refl _) _).alloc (by simp) _
  have hoc := own_below (own_built w l ei hlen hlo) ((Below.refl _ _).alloc (Nat.le_refl _) (.cells #[.slice (some ⟨w.heap.size, 0, none⟩) l.length l.length] e))
  refine (h.below hb (Nat.le_refl _)).push hg hr hloc (by simp; omega) rfl (fun q u x hu hx => ?_) (fun q u hu b hb' => ?_) (fun q q' u v hne hu hv => ?_)
  · cases q with
    | succ q => simp at hu
    | zero =>
      simp at hu hx
      subst hu; subst hx
      exact ⟨_, _, rfl, hoc⟩
  · cases q with
    | succ q => simp at hu
    | zero =>
      simp at hu
      subst hu
      simp [Value.ownBlock] at hb'
      subst hb'
      exact ⟨hlo, Nat.le_refl _, by simp; omega⟩
  · cases q with
    | succ q => simp at hu
    | zero =>
      cases q' with
      | zero => exact absurd rfl hne
      | succ q' => simp at hv
/-- A plain row and a slice of slices, both of the call's own, with no block in common. -/
structure Two (w : World) (lo : Nat) (e1 : TypeId) (k1 : Nat) (A1 : Option Addr) (n1 c1 : Nat) (xs : List Value) (e ei : TypeId) (k : Nat) (A : Option Addr) (n c : Nat) (cs : List Cel) (hs : List Value) : Prop where
  one : w.ownsRow lo e1 k1 (.slice A1 n1 c1) n1 xs
  two : Own2 w lo w.heap.size e ei k A n c cs hs
  far : ∀ q, (Value.slice A1 n1 c1).ownBlock = some q → ¬ owns2 A n c hs q
section
variable {w w' : World} {lo k k1 n n' n1 n1' c c' c1 c1' : Nat} {e ei e1 : TypeId} {A A' A1 A1' : Option Addr} {cs xc : List Cel} {hs us xs ys : List Value}
theorem Two.start (w : World) (lo : Nat) (e1 : TypeId) (k1 : Nat) (e ei : TypeId) (k : Nat) : Two w lo e1 k1 none 0 0 [] e ei k none 0 0 [] [] :=
  ⟨World.ownsRow_nil _ _ _ _, own2_nil _ _, fun q hq => by simp [Value.ownBlock] at hq⟩
theorem Two.below (h : Two w lo e1 k1 A1 n1 c1 xs e ei k A n c cs hs) (hb : Below w.heap.size w w') : Two w' lo e1 k1 A1 n1 c1 xs e ei k A n c cs hs :=
  ⟨own_below h.one hb, (h.two.below hb (Nat.le_refl _)).mono_hi hb.size, h.far⟩
theorem Two.push1 (h : Two w lo e1 k1 A1 n1 c1 xs e ei k A n c cs hs) (hg : w.grownBy w' (Value.slice A1 n1 c1).ownBlock) (hr : w'.ownsRow lo e1 k1 (.slice A1' n1' c1') n1' ys)
    (hloc : (Value.slice A1' n1' c1').ownBlock = (Value.slice A1 n1 c1).ownBlock ∨ (Value.slice A1' n1' c1').ownBlock = some w.heap.size) : Two w' lo e1 k1 A1' n1' c1' ys e ei k A n c cs hs :=
  ⟨hr, (h.two.same' fun q hq => hg.block q (h.two.lt hq).2 (fun e' => h.far q e'.symm hq)).mono_hi hg.size, fun q hq ho => by
    rcases hloc with h1 | h1
    · exact h.far q (by rw [← h1]; exact hq) ho
    · rw [h1] at hq
      injection hq with hq
      have := (h.two.lt ho).2
      omega⟩
/-- .. the new elements' slices lie in blocks from b on, where nothing of the two lay. -/
theorem Two.push2 {b : Nat} (h : Two w lo e1 k1 A1 n1 c1 xs e ei k A n c cs hs) (hb : ∀ q, (Value.slice A1 n1 c1).ownBlock = some q → q < b) (hb2 : ∀ q, owns2 A n c hs q → q < b) (hbl : lo ≤ b) (hbw : b ≤ w.heap.size) (hg : w.grownBy w' (Value.slice A n c).ownBlock) (hr : w'.ownsRow lo e k (.slice A' n' c') n' (hs ++ us))
    (hloc : (Value.slice A' n' c').ownBlock = (Value.slice A n c).ownBlock ∨ (Value.slice A' n' c').ownBlock = some w.heap.size) (hx : xc.length = us.length)
    (hxs : ∀ (j : Nat) (u : Value) (x : Cel), us[j]? = some u → xc[j]? = some x → ownC w lo ei u x) (hin : ∀ (j : Nat) (u : Value), us[j]? = some u → ∀ q, u.ownBlock = some q → b ≤ q ∧ q < w.heap.size)
    (hap : ∀ (i j : Nat) (u v : Value), i ≠ j → us[i]? = some u → us[j]? = some v → Go.Proofs.Ythpfgmnhpnfopaa.apart u v) : Two w' lo e1 k1 A1 n1 c1 xs e ei k A' n' c' (cs ++ xc) (hs ++ us) := by
  have ho : Own2 w lo b e ei k A n c cs hs := ⟨h.two.row, h.two.len, h.two.cell, h.two.apart, h.two.out, fun q hq => hb2 q (.inl hq), fun j u hu q hq => ⟨(h.two.bounds j u hu q hq).1, hb2 q (.inr ⟨j, u, hu, hq⟩)⟩⟩
  refine ⟨row_same h.one fun q hq => hg.block q (h.one.lt q hq).2 (fun e' => h.far q hq (.inl e'.symm)), ho.push hg hr hloc hbw hx hxs (fun j u hu q hq => by have := hin j u hu q hq; omega) hap, fun q hq hown => ?_⟩
  rcases Own2.push_owns hown hloc with h1 | h1 | ⟨j, u, hu, h1⟩
  · exact h.far q hq h1
  · have := hb q hq; omega
  · have := hb q hq; have := (hin j u hu q h1).1; omega
end
end Go.Proofs.Ythpfgmnhpnfopaa
