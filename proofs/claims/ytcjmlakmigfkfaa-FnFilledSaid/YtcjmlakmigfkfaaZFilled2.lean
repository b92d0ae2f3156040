/- Lemmas and contracts of this claim, several texts in one: An append to a row of the call's own, with the place of the new row; slices of slices of the call's own beside boxes. Speaks of no function. Slices of structs that hold slices of integers (tickets, entries): arguments opened, contracts of the laws' helpers. Contracts of the laws' helpers on tickets and entries. No conditions. -/
import Derived.Test.YtcjmlakmigfkfaaZFilled1
namespace Go.Proofs.Ytcjmlakmigfkfaa
set_option linter.unusedSimpArgs false
set_option linter.unusedVariables false
open Go.RowKit Go.ChangeShapes Go.WideShapes Go.Deep

section
variable {P : Program} {ops : Array Oper} {rest : List Oper} {o : Oper} {a : Act} {Q : Exit → Act → World → Prop}
theorem run_pushL (w : World) (base : Nat) (t ty e : TypeId) (z : Value) (k bytes : Nat) (hinfo : (P.info? e).map (fun i => (i.zero, i.size, i.bytes)) = some (some z, k, bytes)) (hzs : z.cells.size = k) (hk : 0 < k) (ht : P.underlying t = some (.slice e))
    (A : Option Addr) (n c : Nat) (xs : List Value) (hown : w.ownsRow base e k (.slice A n c) n xs)
    (A2 : Option Addr) (m c2 : Nat) (news : List Value) (hr : Reads w k A2 m news) (h1 : ∀ u ∈ news, u.oneCell' = true)
    (h63 : n + m ≤ 1000000000000) (hby : bytes ≤ 100) (hbase : base ≤ w.heap.size) :
    ∃ A' c' w', (Builtin.append_ #[t, t] ty #[.slice A n c, .slice A2 m c2]).run P w = .ok (.slice A' (n + m) c') w' ∧ w'.ownsRow base e k (.slice A' (n + m) c') (n + m) (xs ++ news) ∧ w.grownBy w' (Value.slice A n c).ownBlock ∧ Below base w w' ∧
      ((Value.slice A' (n + m) c').ownBlock = (Value.slice A n c).ownBlock ∨ (Value.slice A' (n + m) c').ownBlock = some w.heap.size) := by
  obtain ⟨i, hi, hz, hsz, hbs⟩ := info_parts hinfo
  have hb : (n + m) * bytes ≤ 140737488355328 := by
    have := Nat.mul_le_mul h63 hby
    omega
  rcases A2 with _ | ad
  · have hm : m = 0 := by
      rcases Nat.eq_zero_or_pos m with h0 | h0
      · exact h0
      · obtain ⟨_, h, _⟩ := hr.2 h0
        cases h
    subst hm
    have hn : news = [] := List.eq_nil_of_length_eq_zero (by simpa using hr.1)
    subst hn
    exact ⟨A, c, w, run_append_nil_src w base t ty e i k ht hi _ n xs hown c2, by simpa using hown, World.grownBy.refl _ _, Below.refl _ _, .inl rfl⟩
  · have hcell : ∀ j u, news[j]? = some u → w.cell? (ad.add j) = some u := by
      intro j u hu
      rcases Nat.eq_zero_or_pos m with h0 | h0
      · subst h0
        have hn : news = [] := List.eq_nil_of_length_eq_zero (by simpa using hr.1)
        subst hn
        simp at hu
      · obtain ⟨ad', h, hc⟩ := hr.2 h0
        injection h with h
        subst h
        exact hc j u hu
    obtain ⟨v', w', hrun, hown', hg, _, hloc⟩ := run_append_own_at (P := P) w base t ty e i z k bytes ht hi hz hsz hbs hzs hk _ n xs hown ad m c2 news hr.1 hcell h1 (by unfold maxLen; omega) hb hbase
    have hgb : Below base w w' := ⟨hg.os, hg.tape, hg.output, hg.size, fun q hq => hg.block q (by omega) (fun hk' => by have := hown.lt q hk'.symm; omega)⟩
    rcases hown'.2 with ⟨hv, h0⟩ | ⟨g, cap, cur, hv, rest⟩
    · subst hv
      have h00 : n + m = 0 := h0
      rw [h00] at hown' ⊢
      exact ⟨none, 0, w', hrun, hown', hg, hgb, hloc⟩
    · subst hv
      exact ⟨_, _, _, hrun, hown', hg, hgb, hloc⟩
/-- As wpList_push, with the place of the new row: the old block, or the next one. -/
theorem wpList_pushL (w : World) (hgd : o.guard = none) (s x : Operand) (t : TypeId)
    (ho : o.op = .call { callee := .builtin .append, args := #[s, x], argTypes := #[t, t] })
    (base : Nat) (e : TypeId) (z : Value) (k bytes : Nat) (hinfo : (P.info? e).map (fun i => (i.zero, i.size, i.bytes)) = some (some z, k, bytes)) (hzs : z.cells.size = k) (hk : 0 < k) (ht : P.underlying t = some (.slice e))
    (A : Option Addr) (n c : Nat) (xs : List Value) (hs : a.eval s = .slice A n c) (hown : w.ownsRow base e k (.slice A n c) n xs)
    (A2 : Option Addr) (m c2 : Nat) (news : List Value) (hx : a.eval x = .slice A2 m c2) (hr : Reads w k A2 m news) (h1 : ∀ u ∈ news, u.oneCell' = true)
    (h63 : n + m ≤ 1000000000000) (hby : bytes ≤ 100) (hbase : base ≤ w.heap.size)
    (h : ∀ A' c' w', w'.ownsRow base e k (.slice A' (n + m) c') (n + m) (xs ++ news) → w.grownBy w' (Value.slice A n c).ownBlock → Below base w w' → ((Value.slice A' (n + m) c').ownBlock = (Value.slice A n c).ownBlock ∨ (Value.slice A' (n + m) c').ownBlock = some w.heap.size) → wpList P ops Q rest (a.put o.dst (.slice A' (n + m) c')) w') :
    wpList P ops Q (o :: rest) a w := by
  refine wpList_plain hgd fun K hK => ?_
  obtain ⟨A', c', w', hrun, r1, r2, r3, r4⟩ := run_pushL (P := P) w base t o.type e z k bytes hinfo hzs hk ht A n c xs hown A2 m c2 news hr h1 h63 hby hbase
  unfold Oper.wp execOp
  simp only [ho, resolve, invoke, builtin, Sem.run_bind, Sem.run_pure, Result.andThen_ok, List.map_toArray, List.map_cons, List.map_nil, hs, hx, hrun]
  exact hK _ _ (h A' c' w' r1 r2 r3 r4)
end
theorem own2_nil {w : World} {e ei : TypeId} {k : Nat} (lo hi : Nat) : Own2 w lo hi e ei k none 0 0 [] [] :=
  ⟨World.ownsRow_nil _ _ _ _, rfl, fun j u x h _ => by simp at h, fun i j u v _ h _ => by simp at h, fun j u h => by simp at h, fun q hq => by simp [Value.ownBlock] at hq, fun j u h => by simp at h⟩
/-- The block q is one of the slice of slices. -/
def owns2 (A : Option Addr) (n c : Nat) (hs : List Value) (q : Nat) : Prop := (Value.slice A n c).ownBlock = some q ∨ ∃ (j : Nat) (u : Value), hs[j]? = some u ∧ u.ownBlock = some q
section
variable {w w' : World} {lo hi k n c : Nat} {e ei : TypeId} {A : Option Addr} {cs : List Cel} {hs : List Value}
theorem Own2.same' (h : Own2 w lo hi e ei k A n c cs hs) (hk : ∀ q, owns2 A n c hs q → w'.heap[q]? = w.heap[q]?) : Own2 w' lo hi e ei k A n c cs hs :=
  ⟨row_same h.row fun q hq => hk q (.inl hq), h.len, fun j u x hu hx => ownC_same (h.cell j u x hu hx) fun q hq => hk q (.inr ⟨j, u, hu, hq⟩), h.apart, h.out, h.bound, h.bounds⟩
theorem Own2.lt (h : Own2 w lo hi e ei k A n c cs hs) {q : Nat} (hq : owns2 A n c hs q) : lo ≤ q ∧ q < hi := by
  rcases hq with hq | ⟨j, u, hu, hq⟩
  · exact ⟨(h.row.lt q hq).1, h.bound q hq⟩
  · exact h.bounds j u hu q hq
/-- A cell is stored in a block that is none of the slice of slices. -/
theorem Own2.setOther (h : Own2 w lo hi e ei k A n c cs hs) {g i : Nat} {u : Value} (hg : ¬ owns2 A n c hs g) : Own2 (w.setCell ⟨g, i, none⟩ u) lo hi e ei k A n c cs hs :=
  h.same' fun q hq => Below.heap_setCell w ⟨g, i, none⟩ u q (fun e => by subst e; exact hg hq)
/-- The outer row stands while one of the inner ones grows. -/
theorem Own2.outer (h : Own2 w lo hi e ei k A n c cs hs) {g i j : Nat} {u : Value} (hA : A = some ⟨g, 0, none⟩) (hu : hs[j]? = some u) (hg : w.grownBy w' u.ownBlock) (hi' : i < hs.length) : (∃ o, w'.cell? ⟨g, i, none⟩ = some o) ∧ w'.frozen? ⟨g, i, none⟩ = false := by
  subst hA
  have hne : some g ≠ u.ownBlock := by
    intro e'
    rcases h.out j u hu with h1 | h1
    · rw [h1] at e'; cases e'
    · exact h1 (by rw [← e']; rfl)
  have hb := hg.block g (h.row.lt g rfl).2 hne
  refine ⟨⟨hs[i], ?_⟩, ?_⟩
  · rw [World.cell?_of_block (a := ⟨g, i, none⟩) hb, h.row.cellAt i (by rw [← h.row.1]; exact hi')]
    exact List.getElem?_eq_getElem hi'
  · rw [World.frozen?_of_block (a := ⟨g, i, none⟩) hb]
    exact h.row.frozenAt i
theorem owns2_set {j q : Nat} {v' : Value} (h : owns2 A n c (hs.set j v') q) : owns2 A n c hs q ∨ v'.ownBlock = some q := by
  rcases h with h | ⟨i, u, hu, hq⟩
  · exact .inl (.inl h)
  · rcases set_cases hu with ⟨_, rfl⟩ | ⟨_, hu⟩
    · exact .inr hq
    · exact .inl (.inr ⟨i, u, hu, hq⟩)
end
theorem box4_push {w w1 : World} {gb g0 i : Nat} {t : TypeId} {v0 v1 v2 v3 u : Value} {row : Option Nat} (hB : Box4 w gb t v0 v1 v2 v3) (hg : w.grownBy w1 row) (hne : some gb ≠ row) (h0 : gb ≠ g0) : Box4 (w1.setCell ⟨g0, i, none⟩ u) gb t v0 v1 v2 v3 := by
  unfold Box4
  rw [Below.heap_setCell w1 ⟨g0, i, none⟩ u gb h0, hg.block gb hB.lt hne]
  exact hB
theorem box4_fin {W : World} {gb : Nat} {t : TypeId} {v0 v1 v2 v3 : Value} (hB : Box4 W gb t v0 v1 v2 v3) : ∀ W', Below W.heap.size W W' → (W'.cell? ⟨gb, 0, none⟩ = some v0 ∧ W'.cell? ⟨gb, 1, none⟩ = some v1 ∧ W'.cell? ⟨gb, 2, none⟩ = some v2 ∧ W'.cell? ⟨gb, 3, none⟩ = some v3) ∧ W'.frozen? ⟨gb, 0, none⟩ = false ∧ W'.frozen? ⟨gb, 1, none⟩ = false ∧ W'.frozen? ⟨gb, 2, none⟩ = false ∧ W'.frozen? ⟨gb, 3, none⟩ = false :=
  fun _ hW => ⟨(hB.below hW hB.lt).cells, (hB.below hW hB.lt).frozen⟩
/-- Up to t the one, from t on the other. -/
def mixL (f g : Nat → List Int) (d t : Nat) : List (List Int) := (List.range d).map fun i => if i < t then g i else f i
section
variable {f g : Nat → List Int} {d t : Nat}
@[simp] theorem length_mixL : (mixL f g d t).length = d := by simp [mixL]
theorem mixL_zero : mixL f g d 0 = (List.range d).map f := by simp [mixL]
theorem mixL_full : mixL f g d d = (List.range d).map g := by
  unfold mixL
  refine List.map_congr_left fun i hi => ?_
  rw [if_pos (by simpa using hi)]
theorem mixL_get (h : t < d) : (mixL f g d t)[t]? = some (f t) := by simp [mixL, h]
theorem mixL_set (h : t < d) : (mixL f g d t).set t (g t) = mixL f g d (t + 1) := by
  refine List.ext_getElem? fun i => ?_
  by_cases hi : t = i
  · subst hi
    rw [List.getElem?_set_self (by simpa using h)]
    simp [mixL, h]
  · rw [List.getElem?_set_ne hi]
    unfold mixL
    simp only [List.getElem?_map]
    by_cases hid : i < d
    · simp only [List.getElem?_range hid, Option.map_some]
      congr 1
      by_cases h1 : i < t
      · rw [if_pos h1, if_pos (by omega)]
      · rw [if_neg h1, if_neg (by omega)]
    · rw [List.getElem?_eq_none (by simpa using hid)]; rfl
theorem mixL_skip (h : t < d) (he : f t = g t) : mixL f g d t = mixL f g d (t + 1) := by
  rw [← mixL_set h, ← he]
  refine List.ext_getElem? fun i => ?_
  by_cases hi : t = i
  · subst hi
    rw [List.getElem?_set_self (by simpa using h), mixL_get h]
  · rw [List.getElem?_set_ne hi]
end
theorem rowsIntss_set (L : List (List Int)) (t : Nat) (l : List Int) : (rowsIntss L).set t (.inr (ints l)) = rowsIntss (L.set t l) := by simp [rowsIntss, List.map_set]
end Go.Proofs.Ytcjmlakmigfkfaa

namespace Go.Proofs.Ytcjmlakmigfkfaa
set_option linter.unusedSimpArgs false
set_option linter.unusedVariables false
open Go.RowKit Go.ChangeShapes Go.WideShapes Go.Deep

section
variable {P : Program} {ops : Array Oper} {rest : List Oper} {o : Oper} {a : Act} {Q : Exit → Act → World → Prop}
/-- make([]T, n), T of k cells: what lies in it has what the zero value's cells have. -/
theorem wpList_mkP (w : World) (hgd : o.guard = none) (l c : Operand) (t : TypeId) (hop : o.op = Op.makeSlice t l c)
    (base : Nat) (e : TypeId) (z : Value) (k bytes : Nat) (hinfo : (P.info? e).map (fun i => (i.zero, i.size, i.bytes)) = some (some z, k, bytes)) (hk0 : 0 < z.cells.size) (ht : P.underlying t = some (.slice e)) (R : Value → Prop) (hR : ∀ u ∈ z.cells, R u)
    (kl kc : IntKind) (L C : Int) (n : Nat) (hl : a.eval l = .int kl L) (hc : a.eval c = .int kc C) (hL : L = (n : Int)) (hC : C = (n : Int)) (hn : n ≤ 1000000000000) (hby : bytes ≤ 100) (hbase : base ≤ w.heap.size)
    (hK : ∀ w' old, old.length = n * k → (∀ u ∈ old, R u) → w'.ownsRow base e k (.slice (some ⟨w.heap.size, 0, none⟩) n n) n old → Below w.heap.size w w' → w.heap.size < w'.heap.size → wpList P ops Q rest (a.put o.dst (.slice (some ⟨w.heap.size, 0, none⟩) n n)) w') :
    wpList P ops Q (o :: rest) a w := by
  obtain ⟨i, hi, hz, hsz, hbs⟩ := info_parts hinfo
  have hb : i.bytes * n ≤ 281474976710656 := by
    have := Nat.mul_le_mul hby hn
    rw [hbs]
    omega
  refine wpList_make_full w hgd l c t hop base e i z k ht hi hz hsz kl kc L C n hl hc hL hC hb (by unfold maxLen; omega) hbase ?_
  intro w' hown hg
  refine hK w' _ hown.1 (fun u hu => ?_) hown ⟨hg.os, hg.tape, hg.output, hg.size, fun q hq => hg.block q hq (by simp)⟩ ?_
  · simp only [madeCells, Array.toList_map, List.mem_map] at hu
    obtain ⟨j, _, rfl⟩ := hu
    have hj : j % z.cells.size < z.cells.size := Nat.mod_lt _ hk0
    rw [getElem!_pos z.cells (j % z.cells.size) hj]
    exact hR _ (Array.getElem_mem hj)
  · have := hown.lt w.heap.size rfl
    exact this.2
end
theorem own2_plain {w : World} {lo hi g k n c : Nat} {e ei : TypeId} {hs : List Value} (h : w.ownsRow lo e k (.slice (some ⟨g, 0, none⟩) n c) n hs) (hb : g < hi) (hz : ∀ u ∈ hs, u.ownBlock = none) : Own2 w lo hi e ei k (some ⟨g, 0, none⟩) n c (hs.map .inl) hs := by
  have hz' : ∀ (j : Nat) (u : Value), hs[j]? = some u → u.ownBlock = none := fun j u hu => hz u (List.mem_of_getElem? hu)
  refine ⟨h, by simp, fun j u x hu hx => ?_, fun i j u v _ hu _ => .inl (hz' i u hu), fun j u hu => .inl (hz' j u hu), ?_, fun j u hu q hq => ?_⟩
  · rw [List.getElem?_map, hu] at hx
    injection hx with hx
    subst hx
    rfl
  · intro q hq
    simp [Value.ownBlock] at hq
    omega
  · rw [hz' j u hu] at hq; cases hq
/-- Cells one after the other: the i-th element's. -/
theorem flat_get {α β : Type} {f : α → List β} {k : Nat} (hf : ∀ x, (f x).length = k) {l : List α} {i j : Nat} (hi : i < l.length) (hj : j < k) : (l.flatMap f)[i * k + j]? = (f l[i])[j]? := by
  induction l generalizing i with
  | nil => simp at hi
  | cons x r ih =>
    cases i with
    | zero =>
      simp only [List.flatMap_cons, List.getElem_cons_zero, Nat.zero_mul, Nat.zero_add]
      rw [List.getElem?_append_left (by rw [hf]; exact hj)]
    | succ i =>
      have h := ih (i := i) (by simpa using hi)
      have e : (i + 1) * k + j = (f x).length + (i * k + j) := by rw [hf, Nat.add_mul]; omega
      simp only [List.flatMap_cons, List.getElem_cons_succ]
      rw [e, List.getElem?_append_right (by omega)]
      simpa using h
theorem flat_len {α β : Type} {f : α → List β} {k : Nat} (hf : ∀ x, (f x).length = k) (l : List α) : (l.flatMap f).length = l.length * k := by
  induction l with
  | nil => simp
  | cons x r ih => simp only [List.flatMap_cons, List.length_append, List.length_cons, ih, hf]; rw [Nat.add_mul]; omega
theorem add_pos_ {ad : Addr} {i j : Nat} (h : 0 < j) : ad.add (i + j) = ⟨(ad.add i).block, (ad.add i).off + j, none⟩ := by
  rw [← add_of_add]
  generalize ad.add i = p
  unfold Addr.add
  rw [if_neg (by omega)]

abbrev TicketT := Int × Int × List Int × Int
def celTicket (x : TicketT) : List Cel := [.inl (.int .i64 x.1), .inl (.int .i64 x.2.1), .inr (ints x.2.2.1), .inl (.int .i64 x.2.2.2)]
def rowsT (L : List TicketT) : List Cel := L.flatMap celTicket
def lenT (b : Nat) (x : TicketT) : Prop := x.2.2.1.length ≤ b
def totT : List TicketT → Nat
  | [] => 0
  | x :: r => x.2.2.1.length + totT r
def IsTickets (w : World) (v : Value) : Prop := ∃ A n c, ∃ L : List TicketT, v = .slice A n c ∧ n ≤ c ∧ c ≤ 9223372036854775807 ∧ L.length = n ∧ Reads2 w 4 A n (rowsT L) ∧ ∀ x ∈ L, lenT 9223372036854775807 x ∧ True
theorem celTicket_len (x : TicketT) : (celTicket x).length = 4 := rfl
@[simp] theorem length_rowsT (L : List TicketT) : (rowsT L).length = L.length * 4 := flat_len celTicket_len L
theorem rowsT_get {L : List TicketT} {i j : Nat} (hi : i < L.length) (hj : j < 4) : (rowsT L)[i * 4 + j]? = (celTicket L[i])[j]? := flat_get celTicket_len hi hj
theorem mem_totT {L : List TicketT} {x : TicketT} (h : x ∈ L) : lenT (totT L) x := by
  induction L with
  | nil => cases h
  | cons y r ih =>
    unfold lenT totT
    rcases List.mem_cons.1 h with rfl | h
    · omega
    · have := ih h
      unfold lenT at this
      omega
theorem bdTicketS {xs : List TicketT} {n s : Nat} (hs : s = n + totT xs) (h : s ≤ 1048576) : ∀ x ∈ xs, lenT 1000000000 x := by
  intro x hx
  have := mem_totT hx
  unfold lenT at this ⊢
  omega
theorem totT_succ {L : List TicketT} {k : Nat} (h : k < L.length) : totT (L.take (k + 1)) = totT (L.take k) + (L[k].2.2.1.length) := by
  induction L generalizing k with
  | nil => simp at h
  | cons y r ih =>
    cases k with
    | zero => simp [totT]
    | succ k =>
      have := ih (k := k) (by simpa using h)
      simp only [List.take_succ_cons, totT, List.getElem_cons_succ, this]
      omega
theorem totT_le (L : List TicketT) (k : Nat) : totT (L.take k) ≤ totT L := by
  induction L generalizing k with
  | nil => simp [totT]
  | cons y r ih =>
    cases k with
    | zero => simp [totT]
    | succ k => have := ih k; simp only [List.take_succ_cons, totT]; omega
theorem totT_all {L : List TicketT} {k : Nat} (h : L.length ≤ k) : totT (L.take k) = totT L := by rw [List.take_of_length_le h]
/-- An element, read: its cells as the walk spells their addresses, and its slices. -/
theorem rowsT_at {w : World} {A : Option Addr} {n i : Nat} {L : List TicketT} (h : Reads2 w 4 A n (rowsT L)) (hi : i < L.length) :
    ∃ ad A2 c2, A = some ad ∧ w.cell? (ad.add (i * 4)) = some (.int .i64 L[i].1) ∧ w.cell? ⟨(ad.add (i * 4)).block, (ad.add (i * 4)).off + 1, none⟩ = some (.int .i64 L[i].2.1) ∧ w.cell? ⟨(ad.add (i * 4)).block, (ad.add (i * 4)).off + 2, none⟩ = some (.slice A2 L[i].2.2.1.length c2) ∧ w.cell? ⟨(ad.add (i * 4)).block, (ad.add (i * 4)).off + 3, none⟩ = some (.int .i64 L[i].2.2.2) ∧ Reads w 1 A2 L[i].2.2.1.length (ints L[i].2.2.1) := by
  obtain ⟨ad0, e0, k0⟩ := h.plain (j := i * 4 + 0) (u := .int .i64 L[i].1) (by rw [rowsT_get hi (by omega)]; rfl)
  obtain ⟨ad1, e1, k1⟩ := h.plain (j := i * 4 + 1) (u := .int .i64 L[i].2.1) (by rw [rowsT_get hi (by omega)]; rfl)
  obtain ⟨ad2, A2, c2, e2, k2, _, _, r2⟩ := h.row (j := i * 4 + 2) (l := ints L[i].2.2.1) (by rw [rowsT_get hi (by omega)]; rfl)
  obtain ⟨ad3, e3, k3⟩ := h.plain (j := i * 4 + 3) (u := .int .i64 L[i].2.2.2) (by rw [rowsT_get hi (by omega)]; rfl)
  subst e0
  injection e1 with e1
  subst e1
  injection e2 with e2
  subst e2
  injection e3 with e3
  subst e3
  simp only [length_ints] at k2 r2
  refine ⟨ad0, A2, c2, rfl, k0, ?_, ?_, ?_, r2⟩
  · rw [← add_pos_ (by omega)]; exact k1
  · rw [← add_pos_ (by omega)]; exact k2
  · rw [← add_pos_ (by omega)]; exact k3
section
variable {H : Type} {enc : TypeId × Value → H} {P : Program} {w : World} {base b0 : Nat} {spare : Nat → Bool} {held : Bool} {r : Reach} {t e : TypeId} {v : Value} {d : DataW H} {p : List MemPlace}
theorem isTickets_of {u us : TypeId} {f0 f1 f2 f3 : Field} (ht : P.underlying t = some (.slice e)) (hs : P.underlying e = some (.struct #[f0, f1, f2, f3])) (he : P.underlying u = some (.int .i64)) (hes : P.underlying us = some (.slice u)) (hC : P.cellsOf e = 4) (hC1 : P.cellsOf u = 1) (hone : oneCellFields P #[f0, f1, f2, f3] = true)
    (hf : f0.type = u ∧ f1.type = u ∧ f2.type = us ∧ f3.type = u) (hval : Value.okWide P w r b0 t v) (h : DataW.Trod enc P w base spare held t v d p) : IsTickets w v := by
  obtain ⟨A, n, c, l, hv, h1, h2, h3, h4, h5⟩ := rows_of (fun x : List Value × TicketT => x.1) (fun x => x.1.length = 4 ∧ lenT 9223372036854775807 x.2 ∧ ∀ (j : Nat) (q : Value) (y : Cel), x.1[j]? = some q → (celTicket x.2)[j]? = some y → readsC w q y) 4 ht hC (fun m cs x hl htr => by
    match cs, hl with
    | [c0, c1, c2, c3], _ =>
      obtain ⟨xs, q, _, hx, _, hlen, hg⟩ := DataW.trod_struct hs htr
      obtain ⟨o0, k0⟩ := hone_of hone 0 f0 rfl
      obtain ⟨o1, k1⟩ := hone_of hone 1 f1 rfl
      obtain ⟨o2, k2⟩ := hone_of hone 2 f2 rfl
      obtain ⟨o3, k3⟩ := hone_of hone 3 f3 rfl
      match xs, hlen with
      | [y0, y1, y2, y3], _ =>
        have t0 : DataW.trod enc P w base spare held q f0.type [c0] = some y0 := by simpa [o0, k0] using hg 0 f0 rfl
        have t1 : DataW.trod enc P w base spare held q f1.type [c1] = some y1 := by simpa [o1, k1] using hg 1 f1 rfl
        have t2 : DataW.trod enc P w base spare held q f2.type [c2] = some y2 := by simpa [o2, k2] using hg 2 f2 rfl
        have t3 : DataW.trod enc P w base spare held q f3.type [c3] = some y3 := by simpa [o3, k3] using hg 3 f3 rfl
        obtain ⟨g0, g1, g2, g3⟩ := hf
        rw [g0] at t0
        obtain ⟨a0, e0, _, w0⟩ := DataW.trod_int he t0
        injection e0 with e0
        subst e0
        rw [g1] at t1
        obtain ⟨a1, e1, _, w1⟩ := DataW.trod_int he t1
        injection e1 with e1
        subst e1
        rw [g2] at t2
        obtain ⟨A2, b2, l2, e2, r2, _⟩ := ints_open hes he hC1 t2
        injection e2 with e2
        subst e2
        rw [g3] at t3
        obtain ⟨a3, e3, _, w3⟩ := DataW.trod_int he t3
        injection e3 with e3
        subst e3
        refine ⟨(_, (a0, a1, l2, a3)), rfl, rfl, ?_, ?_⟩
        · unfold lenT
          all_goals
            first
              | (obtain ⟨_, cb, _, hb1, hb2, _⟩ := r2; simp at hb1; simp only; omega)
        · intro j q y hq hy
          match j with
          | 0 => simp [celTicket] at hq hy; subst hq; subst hy; exact rfl
          | 1 => simp [celTicket] at hq hy; subst hq; subst hy; exact rfl
          | 2 => simp [celTicket] at hq hy; subst hq; subst hy; exact r2
          | 3 => simp [celTicket] at hq hy; subst hq; subst hy; exact rfl
          | j + 4 => simp at hq) hval h
  have hr := reads2_of (fun x : List Value × TicketT => x.1) (fun x => celTicket x.2) (fun y hy => ⟨rfl, (h5 y hy).1⟩) h4 (fun y hy => (h5 y hy).2.2)
  refine ⟨A, n, c, l.map (·.2), hv, h1, h2, by simpa using h3, by simpa [rowsT, List.flatMap_map] using hr, fun x hx => ?_⟩
  obtain ⟨y, hy, rfl⟩ := List.mem_map.1 hx
  exact ⟨(h5 y hy).2.1, trivial⟩
end

abbrev EntryT := Int × Int × Int × List Int × List Int
def celEntry (x : EntryT) : List Cel := [.inl (.int .i64 x.1), .inl (.int .i64 x.2.1), .inl (.int .i64 x.2.2.1), .inr (ints x.2.2.2.1), .inr (ints x.2.2.2.2)]
def rowsE (L : List EntryT) : List Cel := L.flatMap celEntry
def lenE (b : Nat) (x : EntryT) : Prop := x.2.2.2.1.length ≤ b ∧ x.2.2.2.2.length ≤ b
def totE : List EntryT → Nat
  | [] => 0
  | x :: r => x.2.2.2.1.length + x.2.2.2.2.length + totE r
def IsEntries (w : World) (v : Value) : Prop := ∃ A n c, ∃ L : List EntryT, v = .slice A n c ∧ n ≤ c ∧ c ≤ 9223372036854775807 ∧ L.length = n ∧ Reads2 w 5 A n (rowsE L) ∧ ∀ x ∈ L, lenE 9223372036854775807 x ∧ True
theorem celEntry_len (x : EntryT) : (celEntry x).length = 5 := rfl
@[simp] theorem length_rowsE (L : List EntryT) : (rowsE L).length = L.length * 5 := flat_len celEntry_len L
theorem rowsE_get {L : List EntryT} {i j : Nat} (hi : i < L.length) (hj : j < 5) : (rowsE L)[i * 5 + j]? = (celEntry L[i])[j]? := flat_get celEntry_len hi hj
theorem mem_totE {L : List EntryT} {x : EntryT} (h : x ∈ L) : lenE (totE L) x := by
  induction L with
  | nil => cases h
  | cons y r ih =>
    unfold lenE totE
    rcases List.mem_cons.1 h with rfl | h
    · omega
    · have := ih h
      unfold lenE at this
      omega
theorem bdEntryS {xs : List EntryT} {n s : Nat} (hs : s = n + totE xs) (h : s ≤ 1048576) : ∀ x ∈ xs, lenE 1000000000 x := by
  intro x hx
  have := mem_totE hx
  unfold lenE at this ⊢
  omega
theorem totE_succ {L : List EntryT} {k : Nat} (h : k < L.length) : totE (L.take (k + 1)) = totE (L.take k) + (L[k].2.2.2.1.length + L[k].2.2.2.2.length) := by
  induction L generalizing k with
  | nil => simp at h
  | cons y r ih =>
    cases k with
    | zero => simp [totE]
    | succ k =>
      have := ih (k := k) (by simpa using h)
      simp only [List.take_succ_cons, totE, List.getElem_cons_succ, this]
      omega
theorem totE_le (L : List EntryT) (k : Nat) : totE (L.take k) ≤ totE L := by
  induction L generalizing k with
  | nil => simp [totE]
  | cons y r ih =>
    cases k with
    | zero => simp [totE]
    | succ k => have := ih k; simp only [List.take_succ_cons, totE]; omega
theorem totE_all {L : List EntryT} {k : Nat} (h : L.length ≤ k) : totE (L.take k) = totE L := by rw [List.take_of_length_le h]
/-- An element, read: its cells as the walk spells their addresses, and its slices. -/
theorem rowsE_at {w : World} {A : Option Addr} {n i : Nat} {L : List EntryT} (h : Reads2 w 5 A n (rowsE L)) (hi : i < L.length) :
    ∃ ad A3 c3 A4 c4, A = some ad ∧ w.cell? (ad.add (i * 5)) = some (.int .i64 L[i].1) ∧ w.cell? ⟨(ad.add (i * 5)).block, (ad.add (i * 5)).off + 1, none⟩ = some (.int .i64 L[i].2.1) ∧ w.cell? ⟨(ad.add (i * 5)).block, (ad.add (i * 5)).off + 2, none⟩ = some (.int .i64 L[i].2.2.1) ∧ w.cell? ⟨(ad.add (i * 5)).block, (ad.add (i * 5)).off + 3, none⟩ = some (.slice A3 L[i].2.2.2.1.length c3) ∧ w.cell? ⟨(ad.add (i * 5)).block, (ad.add (i * 5)).off + 4, none⟩ = some (.slice A4 L[i].2.2.2.2.length c4) ∧ Reads w 1 A3 L[i].2.2.2.1.length (ints L[i].2.2.2.1) ∧ Reads w 1 A4 L[i].2.2.2.2.length (ints L[i].2.2.2.2) := by
  obtain ⟨ad0, e0, k0⟩ := h.plain (j := i * 5 + 0) (u := .int .i64 L[i].1) (by rw [rowsE_get hi (by omega)]; rfl)
  obtain ⟨ad1, e1, k1⟩ := h.plain (j := i * 5 + 1) (u := .int .i64 L[i].2.1) (by rw [rowsE_get hi (by omega)]; rfl)
  obtain ⟨ad2, e2, k2⟩ := h.plain (j := i * 5 + 2) (u := .int .i64 L[i].2.2.1) (by rw [rowsE_get hi (by omega)]; rfl)
  obtain ⟨ad3, A3, c3, e3, k3, _, _, r3⟩ := h.row (j := i * 5 + 3) (l := ints L[i].2.2.2.1) (by rw [rowsE_get hi (by omega)]; rfl)
  obtain ⟨ad4, A4, c4, e4, k4, _, _, r4⟩ := h.row (j := i * 5 + 4) (l := ints L[i].2.2.2.2) (by rw [rowsE_get hi (by omega)]; rfl)
  subst e0
  injection e1 with e1
  subst e1
  injection e2 with e2
  subst e2
  injection e3 with e3
  subst e3
  injection e4 with e4
  subst e4
  simp only [length_ints] at k3 r3 k4 r4
  refine ⟨ad0, A3, c3, A4, c4, rfl, k0, ?_, ?_, ?_, ?_, r3, r4⟩
  · rw [← add_pos_ (by omega)]; exact k1
  · rw [← add_pos_ (by omega)]; exact k2
  · rw [← add_pos_ (by omega)]; exact k3
  · rw [← add_pos_ (by omega)]; exact k4
section
variable {H : Type} {enc : TypeId × Value → H} {P : Program} {w : World} {base b0 : Nat} {spare : Nat → Bool} {held : Bool} {r : Reach} {t e : TypeId} {v : Value} {d : DataW H} {p : List MemPlace}
theorem isEntries_of {u us : TypeId} {f0 f1 f2 f3 f4 : Field} (ht : P.underlying t = some (.slice e)) (hs : P.underlying e = some (.struct #[f0, f1, f2, f3, f4])) (he : P.underlying u = some (.int .i64)) (hes : P.underlying us = some (.slice u)) (hC : P.cellsOf e = 5) (hC1 : P.cellsOf u = 1) (hone : oneCellFields P #[f0, f1, f2, f3, f4] = true)
    (hf : f0.type = u ∧ f1.type = u ∧ f2.type = u ∧ f3.type = us ∧ f4.type = us) (hval : Value.okWide P w r b0 t v) (h : DataW.Trod enc P w base spare held t v d p) : IsEntries w v := by
  obtain ⟨A, n, c, l, hv, h1, h2, h3, h4, h5⟩ := rows_of (fun x : List Value × EntryT => x.1) (fun x => x.1.length = 5 ∧ lenE 9223372036854775807 x.2 ∧ ∀ (j : Nat) (q : Value) (y : Cel), x.1[j]? = some q → (celEntry x.2)[j]? = some y → readsC w q y) 5 ht hC (fun m cs x hl htr => by
    match cs, hl with
    | [c0, c1, c2, c3, c4], _ =>
      obtain ⟨xs, q, _, hx, _, hlen, hg⟩ := DataW.trod_struct hs htr
      obtain ⟨o0, k0⟩ := hone_of hone 0 f0 rfl
      obtain ⟨o1, k1⟩ := hone_of hone 1 f1 rfl
      obtain ⟨o2, k2⟩ := hone_of hone 2 f2 rfl
      obtain ⟨o3, k3⟩ := hone_of hone 3 f3 rfl
      obtain ⟨o4, k4⟩ := hone_of hone 4 f4 rfl
      match xs, hlen with
      | [y0, y1, y2, y3, y4], _ =>
        have t0 : DataW.trod enc P w base spare held q f0.type [c0] = some y0 := by simpa [o0, k0] using hg 0 f0 rfl
        have t1 : DataW.trod enc P w base spare held q f1.type [c1] = some y1 := by simpa [o1, k1] using hg 1 f1 rfl
        have t2 : DataW.trod enc P w base spare held q f2.type [c2] = some y2 := by simpa [o2, k2] using hg 2 f2 rfl
        have t3 : DataW.trod enc P w base spare held q f3.type [c3] = some y3 := by simpa [o3, k3] using hg 3 f3 rfl
        have t4 : DataW.trod enc P w base spare held q f4.type [c4] = some y4 := by simpa [o4, k4] using hg 4 f4 rfl
        obtain ⟨g0, g1, g2, g3, g4⟩ := hf
        rw [g0] at t0
        obtain ⟨a0, e0, _, w0⟩ := DataW.trod_int he t0
        injection e0 with e0
        subst e0
        rw [g1] at t1
        obtain ⟨a1, e1, _, w1⟩ := DataW.trod_int he t1
        injection e1 with e1
        subst e1
        rw [g2] at t2
        obtain ⟨a2, e2, _, w2⟩ := DataW.trod_int he t2
        injection e2 with e2
        subst e2
        rw [g3] at t3
        obtain ⟨A3, b3, l3, e3, r3, _⟩ := ints_open hes he hC1 t3
        injection e3 with e3
        subst e3
        rw [g4] at t4
        obtain ⟨A4, b4, l4, e4, r4, _⟩ := ints_open hes he hC1 t4
        injection e4 with e4
        subst e4
        refine ⟨(_, (a0, a1, a2, l3, l4)), rfl, rfl, ?_, ?_⟩
        · refine ⟨?_, ?_⟩
          all_goals
            first
              | (obtain ⟨_, cb, _, hb1, hb2, _⟩ := r3; simp at hb1; simp only; omega)
              | (obtain ⟨_, cb, _, hb1, hb2, _⟩ := r4; simp at hb1; simp only; omega)
        · intro j q y hq hy
          match j with
          | 0 => simp [celEntry] at hq hy; subst hq; subst hy; exact rfl
          | 1 => simp [celEntry] at hq hy; subst hq; subst hy; exact rfl
          | 2 => simp [celEntry] at hq hy; subst hq; subst hy; exact rfl
          | 3 => simp [celEntry] at hq hy; subst hq; subst hy; exact r3
          | 4 => simp [celEntry] at hq hy; subst hq; subst hy; exact r4
          | j + 5 => simp at hq) hval h
  have hr := reads2_of (fun x : List Value × EntryT => x.1) (fun x => celEntry x.2) (fun y hy => ⟨rfl, (h5 y hy).1⟩) h4 (fun y hy => (h5 y hy).2.2)
  refine ⟨A, n, c, l.map (·.2), hv, h1, h2, by simpa using h3, by simpa [rowsE, List.flatMap_map] using hr, fun x hx => ?_⟩
  obtain ⟨y, hy, rfl⟩ := List.mem_map.1 hx
  exact ⟨(h5 y hy).2.1, trivial⟩
end

end Go.Proofs.Ytcjmlakmigfkfaa

namespace Go.Proofs.Ytcjmlakmigfkfaa
set_option linter.unusedSimpArgs false
set_option linter.unusedVariables false
open Go.RowKit

theorem box_after {W w1 : World} {g B : Nat} {cs : Array Value} {t : TypeId} (hb : Below B W w1) (hg : g < B) (h : W.heap[g]? = some (.cells cs t (0, 0))) : w1.heap[g]? = some (.cells cs t (0, 0)) := (hb.block g hg).trans h
theorem box_at {W : World} {g : Nat} {cs : Array Value} {t : TypeId} (h : W.heap[g]? = some (.cells cs t (0, 0))) {j : Nat} {u : Value} (hu : cs[j]? = some u) : W.cell? ⟨g, j, none⟩ = some u ∧ W.frozen? ⟨g, j, none⟩ = false := by
  refine ⟨?_, by simp [World.frozen?, h]⟩
  rw [cell_of_row W g j cs t (0, 0) h, hu]
theorem heap3 (w : World) (o1 o2 o3 : Obj) : (((w.alloc o1).alloc o2).alloc o3).heap[w.heap.size]? = some o1 ∧ (((w.alloc o1).alloc o2).alloc o3).heap[w.heap.size + 1]? = some o2 ∧ (((w.alloc o1).alloc o2).alloc o3).heap[w.heap.size + 1 + 1]? = some o3 := by
  have e1 : (w.alloc o1).heap.size = w.heap.size + 1 := by simp
  have e2 : ((w.alloc o1).alloc o2).heap.size = w.heap.size + 1 + 1 := by simp
  refine ⟨?_, ?_, ?_⟩
  · rw [heap_alloc_old _ _ (by rw [e2]; omega), heap_alloc_old _ _ (by rw [e1]; omega), heap_alloc_new]
  · have h := heap_alloc_new (w.alloc o1) o2
    rw [e1] at h
    rw [heap_alloc_old _ _ (by rw [e2]; omega)]
    exact h
  · have h := heap_alloc_new ((w.alloc o1).alloc o2) o3
    rw [e2] at h
    exact h
theorem own_setCell {w : World} {base b i k n : Nat} {e : TypeId} {v u : Value} {xs : List Value} (h : w.ownsRow base e k v n xs) (hb : b < base) : (w.setCell ⟨b, i, none⟩ u).ownsRow base e k v n xs :=
  row_same h fun q hq => Below.heap_setCell _ _ _ _ (by have := (h.lt q hq).1; simp; omega)
theorem box_set {w : World} {g j : Nat} {cs : Array Value} {t : TypeId} {u : Value} (h : w.heap[g]? = some (.cells cs t (0, 0))) : (w.setCell ⟨g, j, none⟩ u).heap[g]? = some (.cells (cs.setIfInBounds j u) t (0, 0)) := by
  simp [World.setCell, Array.getElem?_modify, h]
theorem own_below' {w w' : World} {base k n B : Nat} {e : TypeId} {v : Value} {xs : List Value} (h : w.ownsRow base e k v n xs) (hb : Below B w w') (hB : w.heap.size ≤ B) : w'.ownsRow base e k v n xs :=
  row_same h fun q hq => hb.block q (by have := (h.lt q hq).2; omega)

set_option maxHeartbeats 1000000 in
theorem toTicket_any (a0 a1 a3 : Int) (A2 : Option Addr) (c2 : Nat) (l2 : List Int) (w : World) (n2 : l2.length ≤ 1000000000) (h2 : Reads w 1 A2 l2.length (ints l2)) :
    Calls Try.prog 90 #[.agg #[.int .i64 a0, .int .i64 a1, .slice A2 l2.length c2, .int .i64 a3]] w fun e w' => ∃ B2 d2, e = .returned (.agg #[.int .i64 a0, .int .i64 a1, .slice B2 l2.length d2, .int .i64 a3]) ∧ w'.ownsRow w.heap.size 3 1 (.slice B2 l2.length d2) l2.length (ints l2) ∧ Below w.heap.size w w' := by
  have H2 := Lib.hid h2; clear h2
  go_enter Try.func90, Try.ntmps90
  go_wp2_with fail
  refine (toIntS_any A2 l2.length c2 l2 _ n2 (H2.out.below (by go_grown))).mono ?_
  rintro e u0 ⟨B2, d2, rfl, hown, hb⟩
  have hbx := box_after hb (g := w.heap.size + 1 + 1) (cs := #[.int .i64 a0, .int .i64 a1, .slice none 0 0, .int .i64 0]) (t := 106) (by simp <;> omega) (heap3 _ _ _ _).2.2
  have HX0 := Lib.hid hbx
  have HO2 := Lib.hid hown
  have HB0 : Hid (Below w.heap.size w u0) := Lib.hid (Below.trans (by go_grown) (hb.mono (by simp; omega)))
  have hz0 := hb.size
  simp only [World.size_alloc] at hz0
  obtain ⟨x0, f0⟩ := box_at hbx (j := 0) (u := .int .i64 a0) rfl
  obtain ⟨x1, f1⟩ := box_at hbx (j := 1) (u := .int .i64 a1) rfl
  obtain ⟨x2, f2⟩ := box_at hbx (j := 2) (u := .slice none 0 0) rfl
  obtain ⟨x3, f3⟩ := box_at hbx (j := 3) (u := .int .i64 0) rfl
  obtain ⟨y0, g0⟩ := box_at (box_after hb (g := w.heap.size + 1) (cs := #[.int .i64 0, .int .i64 0, .slice none 0 0, .int .i64 0]) (t := 106) (by simp <;> omega) (heap3 _ _ _ _).2.1) (j := 0) (u := .int .i64 0) rfl
  obtain ⟨y1, g1⟩ := box_at (box_after hb (g := w.heap.size + 1) (cs := #[.int .i64 0, .int .i64 0, .slice none 0 0, .int .i64 0]) (t := 106) (by simp <;> omega) (heap3 _ _ _ _).2.1) (j := 1) (u := .int .i64 0) rfl
  obtain ⟨y2, g2⟩ := box_at (box_after hb (g := w.heap.size + 1) (cs := #[.int .i64 0, .int .i64 0, .slice none 0 0, .int .i64 0]) (t := 106) (by simp <;> omega) (heap3 _ _ _ _).2.1) (j := 2) (u := .slice none 0 0) rfl
  obtain ⟨y3, g3⟩ := box_at (box_after hb (g := w.heap.size + 1) (cs := #[.int .i64 0, .int .i64 0, .slice none 0 0, .int .i64 0]) (t := 106) (by simp <;> omega) (heap3 _ _ _ _).2.1) (j := 3) (u := .int .i64 0) rfl
  obtain ⟨q3, _⟩ := box_at (box_after hb (g := w.heap.size) (cs := #[.int .i64 a0, .int .i64 a1, .slice A2 l2.length c2, .int .i64 a3]) (t := 105) (by simp <;> omega) (heap3 _ _ _ _).1) (j := 3) (u := .int .i64 a3) rfl
  have HYY := Lib.hid (box_after hb (g := w.heap.size + 1) (cs := #[.int .i64 0, .int .i64 0, .slice none 0 0, .int .i64 0]) (t := 106) (by simp <;> omega) (heap3 _ _ _ _).2.1)
  clear hbx hb hown
  have hw := HO2.out
  simp only [World.size_alloc] at hw
  have HO := Lib.hid hw
  clear hw HO2
  go_wp2
  refine bodyPost_ret (v := .agg #[.int .i64 a0, .int .i64 a1, .slice B2 l2.length d2, .int .i64 a3]) (by simp [results, Try.results90, go_sem, y0, y1, y2, y3]) rfl ⟨B2, d2, rfl, ?_, ?_⟩
  · exact own_mono (own_setCell (own_setCell (own_setCell (own_setCell (own_setCell (own_setCell HO.out (by omega)) (by omega)) (by omega)) (by omega)) (by omega)) (by omega)) (by omega)
  · exact ((((((HB0.out.setCell (p := ⟨w.heap.size + 1 + 1, 2, none⟩) (by simp; try omega) _).setCell (p := ⟨w.heap.size + 1 + 1, 3, none⟩) (by simp; try omega) _).setCell (p := ⟨w.heap.size + 1, 0, none⟩) (by simp; try omega) _).setCell (p := ⟨w.heap.size + 1, 1, none⟩) (by simp; try omega) _).setCell (p := ⟨w.heap.size + 1, 2, none⟩) (by simp; try omega) _).setCell (p := ⟨w.heap.size + 1, 3, none⟩) (by simp; try omega) _)

set_option maxHeartbeats 1000000 in
theorem toEntry_any (a0 a1 a2 : Int) (A3 : Option Addr) (c3 : Nat) (l3 : List Int) (A4 : Option Addr) (c4 : Nat) (l4 : List Int) (w : World) (n3 : l3.length ≤ 1000000000) (h3 : Reads w 1 A3 l3.length (ints l3)) (n4 : l4.length ≤ 1000000000) (h4 : Reads w 1 A4 l4.length (ints l4)) :
    Calls Try.prog 63 #[.agg #[.int .i64 a0, .int .i64 a1, .int .i64 a2, .slice A3 l3.length c3, .slice A4 l4.length c4]] w fun e w' => ∃ B3 d3 B4 d4, e = .returned (.agg #[.int .i64 a0, .int .i64 a1, .int .i64 a2, .slice B3 l3.length d3, .slice B4 l4.length d4]) ∧ w'.ownsRow w.heap.size 3 1 (.slice B3 l3.length d3) l3.length (ints l3) ∧ w'.ownsRow w.heap.size 3 1 (.slice B4 l4.length d4) l4.length (ints l4) ∧ apart (.slice B3 l3.length d3) (.slice B4 l4.length d4) ∧ Below w.heap.size w w' := by
  have H3 := Lib.hid h3; clear h3
  have H4 := Lib.hid h4; clear h4
  go_enter Try.func63, Try.ntmps63
  go_wp2_with fail
  refine (toIntS_any A3 l3.length c3 l3 _ n3 (H3.out.below (by go_grown))).mono ?_
  rintro e u0 ⟨B3, d3, rfl, hown, hb⟩
  have hbx := box_after hb (g := w.heap.size + 1 + 1) (cs := #[.int .i64 a0, .int .i64 a1, .int .i64 a2, .slice none 0 0, .slice none 0 0]) (t := 51) (by simp <;> omega) (heap3 _ _ _ _).2.2
  have HX0 := Lib.hid hbx
  have HO3 := Lib.hid hown
  have HB0 : Hid (Below w.heap.size w u0) := Lib.hid (Below.trans (by go_grown) (hb.mono (by simp; omega)))
  have hz0 := hb.size
  simp only [World.size_alloc] at hz0
  obtain ⟨x0, f0⟩ := box_at hbx (j := 0) (u := .int .i64 a0) rfl
  obtain ⟨x1, f1⟩ := box_at hbx (j := 1) (u := .int .i64 a1) rfl
  obtain ⟨x2, f2⟩ := box_at hbx (j := 2) (u := .int .i64 a2) rfl
  obtain ⟨x3, f3⟩ := box_at hbx (j := 3) (u := .slice none 0 0) rfl
  obtain ⟨x4, f4⟩ := box_at hbx (j := 4) (u := .slice none 0 0) rfl
  obtain ⟨y0, g0⟩ := box_at (box_after hb (g := w.heap.size + 1) (cs := #[.int .i64 0, .int .i64 0, .int .i64 0, .slice none 0 0, .slice none 0 0]) (t := 51) (by simp <;> omega) (heap3 _ _ _ _).2.1) (j := 0) (u := .int .i64 0) rfl
  obtain ⟨y1, g1⟩ := box_at (box_after hb (g := w.heap.size + 1) (cs := #[.int .i64 0, .int .i64 0, .int .i64 0, .slice none 0 0, .slice none 0 0]) (t := 51) (by simp <;> omega) (heap3 _ _ _ _).2.1) (j := 1) (u := .int .i64 0) rfl
  obtain ⟨y2, g2⟩ := box_at (box_after hb (g := w.heap.size + 1) (cs := #[.int .i64 0, .int .i64 0, .int .i64 0, .slice none 0 0, .slice none 0 0]) (t := 51) (by simp <;> omega) (heap3 _ _ _ _).2.1) (j := 2) (u := .int .i64 0) rfl
  obtain ⟨y3, g3⟩ := box_at (box_after hb (g := w.heap.size + 1) (cs := #[.int .i64 0, .int .i64 0, .int .i64 0, .slice none 0 0, .slice none 0 0]) (t := 51) (by simp <;> omega) (heap3 _ _ _ _).2.1) (j := 3) (u := .slice none 0 0) rfl
  obtain ⟨y4, g4⟩ := box_at (box_after hb (g := w.heap.size + 1) (cs := #[.int .i64 0, .int .i64 0, .int .i64 0, .slice none 0 0, .slice none 0 0]) (t := 51) (by simp <;> omega) (heap3 _ _ _ _).2.1) (j := 4) (u := .slice none 0 0) rfl
  obtain ⟨q4, _⟩ := box_at (box_after hb (g := w.heap.size) (cs := #[.int .i64 a0, .int .i64 a1, .int .i64 a2, .slice A3 l3.length c3, .slice A4 l4.length c4]) (t := 77) (by simp <;> omega) (heap3 _ _ _ _).1) (j := 4) (u := .slice A4 l4.length c4) rfl
  have HYY := Lib.hid (box_after hb (g := w.heap.size + 1) (cs := #[.int .i64 0, .int .i64 0, .int .i64 0, .slice none 0 0, .slice none 0 0]) (t := 51) (by simp <;> omega) (heap3 _ _ _ _).2.1)
  clear hbx hb hown
  have hw := HO3.out
  simp only [World.size_alloc] at hw
  have HO := Lib.hid hw
  have HLT := Lib.hid (own_lt hw)
  clear hw HO3
  have HY0 : Hid (u0.heap[w.heap.size + 1]? = some (.cells #[.int .i64 0, .int .i64 0, .int .i64 0, .slice none 0 0, .slice none 0 0] 51 (0, 0))) := Lib.hid HYY.out
  go_wp2_with fail
  clear x0 f0 y0 g0 x1 f1 y1 g1 x2 f2 y2 g2 x3 f3 y3 g3 x4 f4 y4 g4 q4
  refine (toIntS_any A4 l4.length c4 l4 _ n4 (H4.out.below (by exact HB0.out.setCell (p := ⟨w.heap.size + 1 + 1, 3, none⟩) (by simp <;> omega) _))).mono ?_
  rintro e u1 ⟨B4, d4, rfl, hown, hb⟩
  have hsz : (u0.setCell ⟨w.heap.size + 1 + 1, 3, none⟩ (.slice B3 l3.length d3)).heap.size = u0.heap.size := by simp
  rw [hsz] at hown hb
  have hx1 := box_after hb (g := w.heap.size + 1 + 1) (cs := #[.int .i64 a0, .int .i64 a1, .int .i64 a2, .slice B3 l3.length d3, .slice none 0 0]) (t := 51) (by omega) (box_set HX0.out)
  have hy1 := box_after hb (g := w.heap.size + 1) (cs := #[.int .i64 0, .int .i64 0, .int .i64 0, .slice none 0 0, .slice none 0 0]) (t := 51) (by omega) ((Below.heap_setCell _ _ _ _ (by simp <;> omega)).trans HY0.out)
  have HO1 := Lib.hid (own_below' (own_setCell (b := w.heap.size + 1 + 1) (i := 3) (u := .slice B3 l3.length d3) HO.out (by omega)) hb (by rw [hsz] <;> exact Nat.le_refl _))
  have HO2 := Lib.hid hown
  have HB1 : Hid (Below w.heap.size w u1) := Lib.hid ((HB0.out.setCell (p := ⟨w.heap.size + 1 + 1, 3, none⟩) (by simp <;> omega) _).trans (hb.mono (by omega)))
  have HAP : Hid (apart (.slice B3 l3.length d3) (.slice B4 l4.length d4)) := Lib.hid (by
    cases hq : (Value.slice B3 l3.length d3).ownBlock with
    | none => exact .inl hq
    | some q => exact .inr (by
        rw [hq]
        intro e'
        have h1 := HLT.out q hq
        have h2 := (HO2.out.lt q e'.symm).1
        omega))
  obtain ⟨x0, f0⟩ := box_at hx1 (j := 0) (u := .int .i64 a0) rfl
  obtain ⟨x1, f1⟩ := box_at hx1 (j := 1) (u := .int .i64 a1) rfl
  obtain ⟨x2, f2⟩ := box_at hx1 (j := 2) (u := .int .i64 a2) rfl
  obtain ⟨x3, f3⟩ := box_at hx1 (j := 3) (u := .slice B3 l3.length d3) rfl
  obtain ⟨x4, f4⟩ := box_at hx1 (j := 4) (u := .slice none 0 0) rfl
  obtain ⟨y0, g0⟩ := box_at hy1 (j := 0) (u := .int .i64 0) rfl
  obtain ⟨y1, g1⟩ := box_at hy1 (j := 1) (u := .int .i64 0) rfl
  obtain ⟨y2, g2⟩ := box_at hy1 (j := 2) (u := .int .i64 0) rfl
  obtain ⟨y3, g3⟩ := box_at hy1 (j := 3) (u := .slice none 0 0) rfl
  obtain ⟨y4, g4⟩ := box_at hy1 (j := 4) (u := .slice none 0 0) rfl
  clear hx1 hy1 hb hown hsz HLT
  have hzz := HB1.out.size
  go_wp2
  refine bodyPost_ret (v := .agg #[.int .i64 a0, .int .i64 a1, .int .i64 a2, .slice B3 l3.length d3, .slice B4 l4.length d4]) (by simp [results, Try.results63, go_sem, y0, y1, y2, y3, y4]) rfl ⟨B3, d3, B4, d4, rfl, ?_, ?_, HAP.out, ?_⟩
  · exact own_mono (own_setCell (own_setCell (own_setCell (own_setCell (own_setCell (own_setCell HO1.out (by omega)) (by omega)) (by omega)) (by omega)) (by omega)) (by omega)) (by omega)
  · exact own_mono (own_setCell (own_setCell (own_setCell (own_setCell (own_setCell (own_setCell HO2.out (by omega)) (by omega)) (by omega)) (by omega)) (by omega)) (by omega)) (by omega)
  · exact ((((((HB1.out.setCell (p := ⟨w.heap.size + 1 + 1, 4, none⟩) (by simp; try omega) _).setCell (p := ⟨w.heap.size + 1, 0, none⟩) (by simp; try omega) _).setCell (p := ⟨w.heap.size + 1, 1, none⟩) (by simp; try omega) _).setCell (p := ⟨w.heap.size + 1, 2, none⟩) (by simp; try omega) _).setCell (p := ⟨w.heap.size + 1, 3, none⟩) (by simp; try omega) _).setCell (p := ⟨w.heap.size + 1, 4, none⟩) (by simp; try omega) _)

end Go.Proofs.Ytcjmlakmigfkfaa
