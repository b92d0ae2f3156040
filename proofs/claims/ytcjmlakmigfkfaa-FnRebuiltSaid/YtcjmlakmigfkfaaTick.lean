/- Slices of structs that hold slices of integers (tickets, entries): arguments opened, contracts of the laws' helpers. No conditions. -/
import Derived.Test.YtcjmlakmigfkfaaNesh
import Derived.Test.YtcjmlakmigfkfaaPushL
namespace Go.Proofs.Ytcjmlakmigfkfaa
set_option linter.unusedSimpArgs false
set_option linter.unusedVariables false
open Go.RowKit Go.ChangeShapes Go.WideShapes Go.Deep

section
variable {P : Program} {ops : Array Oper} {rest : List Oper} {o : Oper} {a : Act} {Q : Exit → Act → World → Prop}
/-- make([]T, n), T of k cells: what lies in it has what the zero value's cells have. -/
theorem wpList_mkP (w : World) (hgd : o.guard = none) (l c : Operand) (t : TypeId) (hop : o.op = Op.makeSlice t l c)
    (base : Nat) (e : TypeId) (z : Value) (k bytes : Nat) (hinfo : (P.info? e).map (fun i => (i.zero, i.size, i.bytes)) = some (some z, k, bytes)) (hk0 : 0 < z.cells.size) (ht : P.underlying t = some (.slice e)) (R : Value → Prop) (hR : ∀ u ∈ z.cells, R u)
    (kl kc : IntKind) (L C : Int) (n : Nat) (hl : a.eval l = .int kl L) (hc : a.eval c = .int kc C) (hL : L = (n : Int)) (hC : C = (n : Int)) (hn : n ≤ 1000000000000) (hby : bytes ≤ 100) (hbase : base ≤ w.heap.size)
    (hK : ∀ w' old, old.length = n * k → (∀ u ∈ old, R u) → w'.ownsRow base e k (.slice (some ⟨w.heap.size, 0, none⟩) n n) n old → Below w.heap.size w w' → w.heap.size < w'.heap.size → wpList P ops Q rest (a.put o.dst (.slice (some ⟨w.heap.size, 0, none⟩) n n)) w') :
    wpList P ops Q (o :: rest) a w := by
  obtain ⟨i, hi, hz, hsz, hbs⟩ := info_parts hinfo
  have hb : i.bytes * n ≤ 281474976710656 := by
    have := Nat.mul_le_mul hby hn
    rw [hbs]
    omega
  refine wpList_make_full w hgd l c t hop base e i z k ht hi hz hsz kl kc L C n hl hc hL hC hb (by unfold maxLen; omega) hbase ?_
  intro w' hown hg
  refine hK w' _ hown.1 (fun u hu => ?_) hown ⟨hg.os, hg.tape, hg.output, hg.size, fun q hq => hg.block q hq (by simp)⟩ ?_
  · simp only [madeCells, Array.toList_map, List.mem_map] at hu
    obtain ⟨j, _, rfl⟩ := hu
    have hj : j % z.cells.size < z.cells.size := Nat.mod_lt _ hk0
    rw [getElem!_pos z.cells (j % z.cells.size) hj]
    exact hR _ (Array.getElem_mem hj)
  · have := hown.lt w.heap.size rfl
    exact this.2
end
theorem own2_plain {w : World} {lo hi g k n c : Nat} {e ei : TypeId} {hs : List Value} (h : w.ownsRow lo e k (.slice (some ⟨g, 0, none⟩) n c) n hs) (hb : g < hi) (hz : ∀ u ∈ hs, u.ownBlock = none) : Own2 w lo hi e ei k (some ⟨g, 0, none⟩) n c (hs.map .inl) hs := by
  have hz' : ∀ (j : Nat) (u : Value), hs[j]? = some u → u.ownBlock = none := fun j u hu => hz u (List.mem_of_getElem? hu)
  refine ⟨h, by simp, fun j u x hu hx => ?_, fun i j u v _ hu _ => .inl (hz' i u hu), fun j u hu => .inl (hz' j u hu), ?_, fun j u hu q hq => ?_⟩
  · rw [List.getElem?_map, hu] at hx
    injection hx with hx
    subst hx
    rfl
  · intro q hq
    simp [Value.ownBlock] at hq
    omega
  · rw [hz' j u hu] at hq; cases hq
/-- Cells one after the other: the i-th element's. -/
theorem flat_get {α β : Type} {f : α → List β} {k : Nat} (hf : ∀ x, (f x).length = k) {l : List α} {i j : Nat} (hi : i < l.length) (hj : j < k) : (l.flatMap f)[i * k + j]? = (f l[i])[j]? := by
  induction l generalizing i with
  | nil => simp at hi
  | cons x r ih =>
    cases i with
    | zero =>
      simp only [List.flatMap_cons, List.getElem_cons_zero, Nat.zero_mul, Nat.zero_add]
      rw [List.getElem?_append_left (by rw [hf]; exact hj)]
    | succ i =>
      have h := ih (i := i) (by simpa using hi)
      have e : (i + 1) * k + j = (f x).length + (i * k + j) := by rw [hf, Nat.add_mul]; omega
      simp only [List.flatMap_cons, List.getElem_cons_succ]
      rw [e, List.getElem?_append_right (by omega)]
      simpa using h
theorem flat_len {α β : Type} {f : α → List β} {k : Nat} (hf : ∀ x, (f x).length = k) (l : List α) : (l.flatMap f).length = l.length * k := by
  induction l with
  | nil => simp
  | cons x r ih => simp only [List.flatMap_cons, List.length_append, List.length_cons, ih, hf]; rw [Nat.add_mul]; omega
theorem add_pos_ {ad : Addr} {i j : Nat} (h : 0 < j) : ad.add (i + j) = ⟨(ad.add i).block, (ad.add i).off + j, none⟩ := by
  rw [← add_of_add]
  generalize ad.add i = p
  unfold Addr.add
  rw [if_neg (by omega)]

abbrev TicketT := Int × Int × List Int × Int
def celTicket (x : TicketT) : List Cel := [.inl (.int .i64 x.1), .inl (.int .i64 x.2.1), .inr (ints x.2.2.1), .inl (.int .i64 x.2.2.2)]
def rowsT (L : List TicketT) : List Cel := L.flatMap celTicket
def lenT (b : Nat) (x : TicketT) : Prop := x.2.2.1.length ≤ b
def totT : List TicketT → Nat
  | [] => 0
  | x :: r => x.2.2.1.length + totT r
def IsTickets (w : World) (v : Value) : Prop := ∃ A n c, ∃ L : List TicketT, v = .slice A n c ∧ n ≤ c ∧ c ≤ 9223372036854775807 ∧ L.length = n ∧ Reads2 w 4 A n (rowsT L) ∧ ∀ x ∈ L, lenT 9223372036854775807 x ∧ True
theorem celTicket_len (x : TicketT) : (celTicket x).length = 4 := rfl
@[simp] theorem length_rowsT (L : List TicketT) : (rowsT L).length = L.length * 4 := flat_len celTicket_len L
theorem rowsT_get {L : List TicketT} {i j : Nat} (hi : i < L.length) (hj : j < 4) : (rowsT L)[i * 4 + j]? = (celTicket L[i])[j]? := flat_get celTicket_len hi hj
theorem mem_totT {L : List TicketT} {x : TicketT} (h : x ∈ L) : lenT (totT L) x := by
  induction L with
  | nil => cases h
  | cons y r ih =>
    unfold lenT totT
    rcases List.mem_cons.1 h with rfl | h
    · omega
    · have := ih h
      unfold lenT at this
      omega
theorem bdTicketS {xs : List TicketT} {n s : Nat} (hs : s = n + totT xs) (h : s ≤ 1048576) : ∀ x ∈ xs, lenT 1000000000 x := by
  intro x hx
  have := mem_totT hx
  unfold lenT at this ⊢
  omega
theorem totT_succ {L : List TicketT} {k : Nat} (h : k < L.length) : totT (L.take (k + 1)) = totT (L.take k) + (L[k].2.2.1.length) := by
  induction L generalizing k with
  | nil => simp at h
  | cons y r ih =>
    cases k with
    | zero => simp [totT]
    | succ k =>
      have := ih (k := k) (by simpa using h)
      simp only [List.take_succ_cons, totT, List.getElem_cons_succ, this]
      omega
theorem totT_le (L : List TicketT) (k : Nat) : totT (L.take k) ≤ totT L := by
  induction L generalizing k with
  | nil => simp [totT]
  | cons y r ih =>
    cases k with
    | zero => simp [totT]
    | succ k => have := ih k; simp only [List.take_succ_cons, totT]; omega
theorem totT_all {L : List TicketT} {k : Nat} (h : L.length ≤ k) : totT (L.take k) = totT L := by rw [List.take_of_length_le h]
/-- An element, read: its cells as the walk spells their addresses, and its slices. -/
theorem rowsT_at {w : World} {A : Option Addr} {n i : Nat} {L : List TicketT} (h : Reads2 w 4 A n (rowsT L)) (hi : i < L.length) :
    ∃ ad A2 c2, A = some ad ∧ w.cell? (ad.add (i * 4)) = some (.int .i64 L[i].1) ∧ w.cell? ⟨(ad.add (i * 4)).block, (ad.add (i * 4)).off + 1, none⟩ = some (.int .i64 L[i].2.1) ∧ w.cell? ⟨(ad.add (i * 4)).block, (ad.add (i * 4)).off + 2, none⟩ = some (.slice A2 L[i].2.2.1.length c2) ∧ w.cell? ⟨(ad.add (i * 4)).block, (ad.add (i * 4)).off + 3, none⟩ = some (.int .i64 L[i].2.2.2) ∧ Reads w 1 A2 L[i].2.2.1.length (ints L[i].2.2.1) := by
  obtain ⟨ad0, e0, k0⟩ := h.plain (j := i * 4 + 0) (u := .int .i64 L[i].1) (by rw [rowsT_get hi (by omega)]; rfl)
  obtain ⟨ad1, e1, k1⟩ := h.plain (j := i * 4 + 1) (u := .int .i64 L[i].2.1) (by rw [rowsT_get hi (by omega)]; rfl)
  obtain ⟨ad2, A2, c2, e2, k2, _, _, r2⟩ := h.row (j := i * 4 + 2) (l := ints L[i].2.2.1) (by rw [rowsT_get hi (by omega)]; rfl)
  obtain ⟨ad3, e3, k3⟩ := h.plain (j := i * 4 + 3) (u := .int .i64 L[i].2.2.2) (by rw [rowsT_get hi (by omega)]; rfl)
  subst e0
  injection e1 with e1
  subst e1
  injection e2 with e2
  subst e2
  injection e3 with e3
  subst e3
  simp only [length_ints] at k2 r2
  refine ⟨ad0, A2, c2, rfl, k0, ?_, ?_, ?_, r2⟩
  · rw [← add_pos_ (by omega)]; exact k1
  · rw [← add_pos_ (by omega)]; exact k2
  · rw [← add_pos_ (by omega)]; exact k3
section
variable {H : Type} {enc : TypeId × Value → H} {P : Program} {w : World} {base b0 : Nat} {spare : Nat → Bool} {held : Bool} {r : Reach} {t e : TypeId} {v : Value} {d : DataW H} {p : List MemPlace}
theorem isTickets_of {u us : TypeId} {f0 f1 f2 f3 : Field} (ht : P.underlying t = some (.slice e)) (hs : P.underlying e = some (.struct #[f0, f1, f2, f3])) (he : P.underlying u = some (.int .i64)) (hes : P.underlying us = some (.slice u)) (hC : P.cellsOf e = 4) (hC1 : P.cellsOf u = 1) (hone : oneCellFields P #[f0, f1, f2, f3] = true)
    (hf : f0.type = u ∧ f1.type = u ∧ f2.type = us ∧ f3.type = u) (hval : Value.okWide P w r b0 t v) (h : DataW.Trod enc P w base spare held t v d p) : IsTickets w v := by
  obtain ⟨A, n, c, l, hv, h1, h2, h3, h4, h5⟩ := rows_of (fun x : List Value × TicketT => x.1) (fun x => x.1.length = 4 ∧ lenT 9223372036854775807 x.2 ∧ ∀ (j : Nat) (q : Value) (y : Cel), x.1[j]? = some q → (celTicket x.2)[j]? = some y → readsC w q y) 4 ht hC (fun m cs x hl htr => by
    match cs, hl with
    | [c0, c1, c2, c3], _ =>
      obtain ⟨xs, q, _, hx, _, hlen, hg⟩ := DataW.trod_struct hs htr
      obtain ⟨o0, k0⟩ := hone_of hone 0 f0 rfl
      obtain ⟨o1, k1⟩ := hone_of hone 1 f1 rfl
      obtain ⟨o2, k2⟩ := hone_of hone 2 f2 rfl
      obtain ⟨o3, k3⟩ := hone_of hone 3 f3 rfl
      match xs, hlen with
      | [y0, y1, y2, y3], _ =>
        have t0 : DataW.trod enc P w base spare held q f0.type [c0] = some y0 := by simpa [o0, k0] using hg 0 f0 rfl
        have t1 : DataW.trod enc P w base spare held q f1.type [c1] = some y1 := by simpa [o1, k1] using hg 1 f1 rfl
        have t2 : DataW.trod enc P w base spare held q f2.type [c2] = some y2 := by simpa [o2, k2] using hg 2 f2 rfl
        have t3 : DataW.trod enc P w base spare held q f3.type [c3] = some y3 := by simpa [o3, k3] using hg 3 f3 rfl
        obtain ⟨g0, g1, g2, g3⟩ := hf
        rw [g0] at t0
        obtain ⟨a0, e0, _, w0⟩ := DataW.trod_int he t0
        injection e0 with e0
        subst e0
        rw [g1] at t1
        obtain ⟨a1, e1, _, w1⟩ := DataW.trod_int he t1
        injection e1 with e1
        subst e1
        rw [g2] at t2
        obtain ⟨A2, b2, l2, e2, r2, _⟩ := ints_open hes he hC1 t2
        injection e2 with e2
        subst e2
        rw [g3] at t3
        obtain ⟨a3, e3, _, w3⟩ := DataW.trod_int he t3
        injection e3 with e3
        subst e3
        refine ⟨(_, (a0, a1, l2, a3)), rfl, rfl, ?_, ?_⟩
        · unfold lenT
          all_goals
            first
              | (obtain ⟨_, cb, _, hb1, hb2, _⟩ := r2; simp at hb1; simp only; omega)
        · intro j q y hq hy
          match j with
          | 0 => simp [celTicket] at hq hy; subst hq; subst hy; exact rfl
          | 1 => simp [celTicket] at hq hy; subst hq; subst hy; exact rfl
          | 2 => simp [celTicket] at hq hy; subst hq; subst hy; exact r2
          | 3 => simp [celTicket] at hq hy; subst hq; subst hy; exact rfl
          | j + 4 => simp at hq) hval h
  have hr := reads2_of (fun x : List Value × TicketT => x.1) (fun x => celTicket x.2) (fun y hy => ⟨rfl, (h5 y hy).1⟩) h4 (fun y hy => (h5 y hy).2.2)
  refine ⟨A, n, c, l.map (·.2), hv, h1, h2, by simpa using h3, by simpa [rowsT, List.flatMap_map] using hr, fun x hx => ?_⟩
  obtain ⟨y, hy, rfl⟩ := List.mem_map.1 hx
  exact ⟨(h5 y hy).2.1, trivial⟩
end

abbrev EntryT := Int × Int × Int × List Int × List Int
def celEntry (x : EntryT) : List Cel := [.inl (.int .i64 x.1), .inl (.int .i64 x.2.1), .inl (.int .i64 x.2.2.1), .inr (ints x.2.2.2.1), .inr (ints x.2.2.2.2)]
def rowsE (L : List EntryT) : List Cel := L.flatMap celEntry
def lenE (b : Nat) (x : EntryT) : Prop := x.2.2.2.1.length ≤ b ∧ x.2.2.2.2.length ≤ b
def totE : List EntryT → Nat
  | [] => 0
  | x :: r => x.2.2.2.1.length + x.2.2.2.2.length + totE r
def IsEntries (w : World) (v : Value) : Prop := ∃ A n c, ∃ L : List EntryT, v = .slice A n c ∧ n ≤ c ∧ c ≤ 9223372036854775807 ∧ L.length = n ∧ Reads2 w 5 A n (rowsE L) ∧ ∀ x ∈ L, lenE 9223372036854775807 x ∧ True
theorem celEntry_len (x : EntryT) : (celEntry x).length = 5 := rfl
@[simp] theorem length_rowsE (L : List EntryT) : (rowsE L).length = L.length * 5 := flat_len celEntry_len L
theorem rowsE_get {L : List EntryT} {i j : Nat} (hi : i < L.length) (hj : j < 5) : (rowsE L)[i * 5 + j]? = (celEntry L[i])[j]? := flat_get celEntry_len hi hj
theorem mem_totE {L : List EntryT} {x : EntryT} (h : x ∈ L) : lenE (totE L) x := by
  induction L with
  | nil => cases h
  | cons y r ih =>
    unfold lenE totE
    rcases List.mem_cons.1 h with rfl | h
    · omega
    · have := ih h
      unfold lenE at this
      omega
theorem bdEntryS {xs : List EntryT} {n s : Nat} (hs : s = n + totE xs) (h : s ≤ 1048576) : ∀ x ∈ xs, lenE 1000000000 x := by
  intro x hx
  have := mem_totE hx
  unfold lenE at this ⊢
  omega
theorem totE_succ {L : List EntryT} {k : Nat} (h : k < L.length) : totE (L.take (k + 1)) = totE (L.take k) + (L[k].2.2.2.1.length + L[k].2.2.2.2.length) := by
  induction L generalizing k with
  | nil => simp at h
  | cons y r ih =>
    cases k with
    | zero => simp [totE]
    | succ k =>
      have := ih (k := k) (by simpa using h)
      simp only [List.take_succ_cons, totE, List.getElem_cons_succ, this]
      omega
theorem totE_le (L : List EntryT) (k : Nat) : totE (L.take k) ≤ totE L := by
  induction L generalizing k with
  | nil => simp [totE]
  | cons y r ih =>
    cases k with
    | zero => simp [totE]
    | succ k => have := ih k; simp only [List.take_succ_cons, totE]; omega
theorem totE_all {L : List EntryT} {k : Nat} (h : L.length ≤ k) : totE (L.take k) = totE L := by rw [List.take_of_length_le h]
/-- An element, read: its cells as the walk spells their addresses, and its slices. -/
theorem rowsE_at {w : World} {A : Option Addr} {n i : Nat} {L : List EntryT} (h : Reads2 w 5 A n (rowsE L)) (hi : i < L.length) :
    ∃ ad A3 c3 A4 c4, A = some ad ∧ w.cell? (ad.add (i * 5)) = some (.int .i64 L[i].1) ∧ w.cell? ⟨(ad.add (i * 5)).block, (ad.add (i * 5)).off + 1, none⟩ = some (.int .i64 L[i].2.1) ∧ w.cell? ⟨(ad.add (i * 5)).block, (ad.add (i * 5)).off + 2, none⟩ = some (.int .i64 L[i].2.2.1) ∧ w.cell? ⟨(ad.add (i * 5)).block, (ad.add (i * 5)).off + 3, none⟩ = some (.slice A3 L[i].2.2.2.1.length c3) ∧ w.cell? ⟨(ad.add (i * 5)).block, (ad.add (i * 5)).off + 4, none⟩ = some (.slice A4 L[i].2.2.2.2.length c4) ∧ Reads w 1 A3 L[i].2.2.2.1.length (ints L[i].2.2.2.1) ∧ Reads w 1 A4 L[i].2.2.2.2.length (ints L[i].2.2.2.2) := by
  obtain ⟨ad0, e0, k0⟩ := h.plain (j := i * 5 + 0) (u := .int .i64 L[i].1) (by rw [rowsE_get hi (by omega)]; rfl)
  obtain ⟨ad1, e1, k1⟩ := h.plain (j := i * 5 + 1) (u := .int .i64 L[i].2.1) (by rw [rowsE_get hi (by omega)]; rfl)
  obtain ⟨ad2, e2, k2⟩ := h.plain (j := i * 5 + 2) (u := .int .i64 L[i].2.2.1) (by rw [rowsE_get hi (by omega)]; rfl)
  obtain ⟨ad3, A3, c3, e3, k3, _, _, r3⟩ := h.row (j := i * 5 + 3) (l := ints L[i].2.2.2.1) (by rw [rowsE_get hi (by omega)]; rfl)
  obtain ⟨ad4, A4, c4, e4, k4, _, _, r4⟩ := h.row (j := i * 5 + 4) (l := ints L[i].2.2.2.2) (by rw [rowsE_get hi (by omega)]; rfl)
  subst e0
  injection e1 with e1
  subst e1
  injection e2 with e2
  subst e2
  injection e3 with e3
  subst e3
  injection e4 with e4
  subst e4
  simp only [length_ints] at k3 r3 k4 r4
  refine ⟨ad0, A3, c3, A4, c4, rfl, k0, ?_, ?_, ?_, ?_, r3, r4⟩
  · rw [← add_pos_ (by omega)]; exact k1
  · rw [← add_pos_ (by omega)]; exact k2
  · rw [← add_pos_ (by omega)]; exact k3
  · rw [← add_pos_ (by omega)]; exact k4
section
variable {H : Type} {enc : TypeId × Value → H} {P : Program} {w : World} {base b0 : Nat} {spare : Nat → Bool} {held : Bool} {r : Reach} {t e : TypeId} {v : Value} {d : DataW H} {p : List MemPlace}
theorem isEntries_of {u us : TypeId} {f0 f1 f2 f3 f4 : Field} (ht : P.underlying t = some (.slice e)) (hs : P.underlying e = some (.struct #[f0, f1, f2, f3, f4])) (he : P.underlying u = some (.int .i64)) (hes : P.underlying us = some (.slice u)) (hC : P.cellsOf e = 5) (hC1 : P.cellsOf u = 1) (hone : oneCellFields P #[f0, f1, f2, f3, f4] = true)
    (hf : f0.type = u ∧ f1.type = u ∧ f2.type = u ∧ f3.type = us ∧ f4.type = us) (hval : Value.okWide P w r b0 t v) (h : DataW.Trod enc P w base spare held t v d p) : IsEntries w v := by
  obtain ⟨A, n, c, l, hv, h1, h2, h3, h4, h5⟩ := rows_of (fun x : List Value × EntryT => x.1) (fun x => x.1.length = 5 ∧ lenE 9223372036854775807 x.2 ∧ ∀ (j : Nat) (q : Value) (y : Cel), x.1[j]? = some q → (celEntry x.2)[j]? = some y → readsC w q y) 5 ht hC (fun m cs x hl htr => by
    match cs, hl with
    | [c0, c1, c2, c3, c4], _ =>
      obtain ⟨xs, q, _, hx, _, hlen, hg⟩ := DataW.trod_struct hs htr
      obtain ⟨o0, k0⟩ := hone_of hone 0 f0 rfl
      obtain ⟨o1, k1⟩ := hone_of hone 1 f1 rfl
      obtain ⟨o2, k2⟩ := hone_of hone 2 f2 rfl
      obtain ⟨o3, k3⟩ := hone_of hone 3 f3 rfl
      obtain ⟨o4, k4⟩ := hone_of hone 4 f4 rfl
      match xs, hlen with
      | [y0, y1, y2, y3, y4], _ =>
        have t0 : DataW.trod enc P w base spare held q f0.type [c0] = some y0 := by simpa [o0, k0] using hg 0 f0 rfl
        have t1 : DataW.trod enc P w base spare held q f1.type [c1] = some y1 := by simpa [o1, k1] using hg 1 f1 rfl
        have t2 : DataW.trod enc P w base spare held q f2.type [c2] = some y2 := by simpa [o2, k2] using hg 2 f2 rfl
        have t3 : DataW.trod enc P w base spare held q f3.type [c3] = some y3 := by simpa [o3, k3] using hg 3 f3 rfl
        have t4 : DataW.trod enc P w base spare held q f4.type [c4] = some y4 := by simpa [o4, k4] using hg 4 f4 rfl
        obtain ⟨g0, g1, g2, g3, g4⟩ := hf
        rw [g0] at t0
        obtain ⟨a0, e0, _, w0⟩ := DataW.trod_int he t0
        injection e0 with e0
        subst e0
        rw [g1] at t1
        obtain ⟨a1, e1, _, w1⟩ := DataW.trod_int he t1
        injection e1 with e1
        subst e1
        rw [g2] at t2
        obtain ⟨a2, e2, _, w2⟩ := DataW.trod_int he t2
        injection e2 with e2
        subst e2
        rw [g3] at t3
        obtain ⟨A3, b3, l3, e3, r3, _⟩ := ints_open hes he hC1 t3
        injection e3 with e3
        subst e3
        rw [g4] at t4
        obtain ⟨A4, b4, l4, e4, r4, _⟩ := ints_open hes he hC1 t4
        injection e4 with e4
        subst e4
        refine ⟨(_, (a0, a1, a2, l3, l4)), rfl, rfl, ?_, ?_⟩
        · refine ⟨?_, ?_⟩
          all_goals
            first
              | (obtain ⟨_, cb, _, hb1, hb2, _⟩ := r3; simp at hb1; simp only; omega)
              | (obtain ⟨_, cb, _, hb1, hb2, _⟩ := r4; simp at hb1; simp only; omega)
        · intro j q y hq hy
          match j with
          | 0 => simp [celEntry] at hq hy; subst hq; subst hy; exact rfl
          | 1 => simp [celEntry] at hq hy; subst hq; subst hy; exact rfl
          | 2 => simp [celEntry] at hq hy; subst hq; subst hy; exact rfl
          | 3 => simp [celEntry] at hq hy; subst hq; subst hy; exact r3
          | 4 => simp [celEntry] at hq hy; subst hq; subst hy; exact r4
          | j + 5 => simp at hq) hval h
  have hr := reads2_of (fun x : List Value × EntryT => x.1) (fun x => celEntry x.2) (fun y hy => ⟨rfl, (h5 y hy).1⟩) h4 (fun y hy => (h5 y hy).2.2)
  refine ⟨A, n, c, l.map (·.2), hv, h1, h2, by simpa using h3, by simpa [rowsE, List.flatMap_map] using hr, fun x hx => ?_⟩
  obtain ⟨y, hy, rfl⟩ := List.mem_map.1 hx
  exact ⟨(h5 y hy).2.1, trivial⟩
end

end Go.Proofs.Ytcjmlakmigfkfaa
