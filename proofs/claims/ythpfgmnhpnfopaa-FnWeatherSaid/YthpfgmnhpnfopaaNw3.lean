/- The box of a net that is being changed: stores into its rows. No conditions. -/
import Derived.Test.YthpfgmnhpnfopaaNw1
namespace Go.Proofs.Ythpfgmnhpnfopaa
set_option linter.unusedSimpArgs false
set_option linter.unusedVariables false
open Go.RowKit Go.ChangeShapes Go.WideShapes Go.Deep

theorem rows3_put (v : Int) : ∀ (T : List S3) (m : Nat), m < T.length * 3 → ∃ T', List.length T' = T.length ∧ (rows3 T).set m (.int .i64 v) = rows3 T' := by
  intro T
  induction T with
  | nil => intro m h; simp at h
  | cons x r ih =>
    obtain ⟨a, b, c⟩ := x
    intro m h
    have hc : rows3 ((a, b, c) :: r) = [.int .i64 a, .int .i64 b, .int .i64 c] ++ rows3 r := by simp [rows3, cells3]
    match m with
    | 0 => exact ⟨(v, b, c) :: r, by simp, by rw [hc]; simp [rows3, cells3]⟩
    | 1 => exact ⟨(a, v, c) :: r, by simp, by rw [hc]; simp [rows3, cells3]⟩
    | 2 => exact ⟨(a, b, v) :: r, by simp, by rw [hc]; simp [rows3, cells3]⟩
    | m + 3 =>
      obtain ⟨T', hl, he⟩ := ih m (by simp at h; omega)
      exact ⟨(a, b, c) :: T', by simp [hl], by rw [hc, show rows3 ((a, b, c) :: T') = [.int .i64 a, .int .i64 b, .int .i64 c] ++ rows3 T' from by simp [rows3, cells3], ← he]; rfl⟩
theorem rows3_int (T : List S3) {m : Nat} (h : m < T.length * 3) : ∃ x : Int, (rows3 T)[m]? = some (.int .i64 x) := by
  revert m
  induction T with
  | nil => intro m h; simp at h
  | cons x r ih =>
    obtain ⟨a, b, c⟩ := x
    intro m h
    have hc : rows3 ((a, b, c) :: r) = [.int .i64 a, .int .i64 b, .int .i64 c] ++ rows3 r := by simp [rows3, cells3]
    match m with
    | 0 => exact ⟨a, by rw [hc]; simp⟩
    | 1 => exact ⟨b, by rw [hc]; simp⟩
    | 2 => exact ⟨c, by rw [hc]; simp⟩
    | m + 3 =>
      obtain ⟨y, hy⟩ := ih (m := m) (by simp at h; omega)
      exact ⟨y, by rw [hc]; simpa using hy⟩
section
variable {P : Program} {ops : Array Oper} {rest : List Oper} {o : Oper} {a : Act} {Q : Exit → Act → World → Prop}
/-- make([]T, n), T of k cells: what lies in it has what the zero value's cells have. -/
theorem wpList_mkQ (w : World) (hgd : o.guard = none) (l c : Operand) (t : TypeId) (hop : o.op = Op.makeSlice t l c)
    (base : Nat) (e : TypeId) (z : Value) (k bytes : Nat) (hinfo : (P.info? e).map (fun i => (i.zero, i.size, i.bytes)) = some (some z, k, bytes)) (hk0 : 0 < z.cells.size) (ht : P.underlying t = some (.slice e)) (R : Value → Prop) (hR : ∀ u ∈ z.cells, R u)
    (kl kc : IntKind) (L C : Int) (n : Nat) (hl : a.eval l = .int kl L) (hc : a.eval c = .int kc C) (hL : L = (n : Int)) (hC : C = (n : Int)) (hn : n ≤ 1000000000000) (hby : bytes ≤ 100) (hbase : base ≤ w.heap.size)
    (hK : ∀ w' old, old.length = n * k → (∀ u ∈ old, R u) → w'.ownsRow base e k (.slice (some ⟨w.heap.size, 0, none⟩) n n) n old → Below w.heap.size w w' → w.heap.size < w'.heap.size → wpList P ops Q rest (a.put o.dst (.slice (some ⟨w.heap.size, 0, none⟩) n n)) w') :
    wpList P ops Q (o :: rest) a w := by
  obtain ⟨i, hi, hz, hsz, hbs⟩ := info_parts hinfo
  have hb : i.bytes * n ≤ 281474976710656 := by
    have := Nat.mul_le_mul hby hn
    rw [hbs]
    omega
  refine wpList_make_full w hgd l c t hop base e i z k ht hi hz hsz kl kc L C n hl hc hL hC hb (by unfold maxLen; omega) hbase ?_
  intro w' hown hg
  refine hK w' _ hown.1 (fun u hu => ?_) hown ⟨hg.os, hg.tape, hg.output, hg.size, fun q hq => hg.block q hq (by simp)⟩ ?_
  · simp only [madeCells, Array.toList_map, List.mem_map] at hu
    obtain ⟨j, _, rfl⟩ := hu
    have hj : j % z.cells.size < z.cells.size := Nat.mod_lt _ hk0
    rw [getElem!_pos z.cells (j % z.cells.size) hj]
    exact hR _ (Array.getElem_mem hj)
  · have := hown.lt w.heap.size rfl
    exact this.2
end
theorem rows3_of : ∀ (n : Nat) (l : List Value), (∀ u ∈ l, ∃ x : Int, u = .int .i64 x) → l.length = n * 3 → ∃ X : List S3, List.length X = n ∧ l = rows3 X := by
  intro n
  induction n with
  | zero => intro l _ hl; exact ⟨[], rfl, by simpa [rows3] using hl⟩
  | succ n ih =>
    intro l hu hl
    match l, hu, hl with
    | [], _, hl => simp at hl
    | [_], _, hl => simp at hl; omega
    | [_, _], _, hl => simp at hl; omega
    | p :: q :: r :: t, hu, hl =>
      obtain ⟨x, rfl⟩ := hu p (by simp)
      obtain ⟨y, rfl⟩ := hu q (by simp)
      obtain ⟨z, rfl⟩ := hu r (by simp)
      obtain ⟨X, hX, he⟩ := ih t (fun u h => hu u (by simp [h])) (by simp at hl; omega)
      exact ⟨(x, y, z) :: X, by simp [hX], by rw [he]; simp [rows3, cells3]⟩
theorem own3_net {w : World} {base n c k : Nat} {e : TypeId} {A : Option Addr} {xs : List Value} (h : w.ownsRow base e k (.slice A n c) n xs) (hn : 0 < n) : ∃ ga, A = some ⟨ga, 0, none⟩ ∧ base ≤ ga := by
  rcases h.2 with ⟨_, h0⟩ | ⟨g, cap, cur, hv, hb, _⟩
  · omega
  · injection hv with e _ _
    exact ⟨g, e, hb⟩
section
variable {w0 w w' : World} {g b k k' q : Nat} {At Ak A' : Option Addr} {ct ck c' : Nat} {T K : List S3}
theorem NBox.cellT (h : NBox w0 w g b k (some ⟨q, 0, none⟩) ct T Ak ck K) {m : Nat} (hm : m < T.length * 3) : ∃ x : Int, w.cell? ⟨q, m, none⟩ = some (.int .i64 x) ∧ w.frozen? ⟨q, m, none⟩ = false := by
  obtain ⟨x, hx⟩ := rows3_int T hm
  exact ⟨x, (h.ownT.cellAt m hm).trans hx, h.ownT.frozenAt m⟩
theorem NBox.cellK (h : NBox w0 w g b k At ct T (some ⟨q, 0, none⟩) ck K) {m : Nat} (hm : m < K.length * 3) : ∃ x : Int, w.cell? ⟨q, m, none⟩ = some (.int .i64 x) ∧ w.frozen? ⟨q, m, none⟩ = false := by
  obtain ⟨x, hx⟩ := rows3_int K hm
  exact ⟨x, (h.ownK.cellAt m hm).trans hx, h.ownK.frozenAt m⟩
theorem NBox.storeT (h : NBox w0 w g b k (some ⟨q, 0, none⟩) ct T Ak ck K) {m : Nat} (hm : m < T.length * 3) (v : Int) : ∃ T', List.length T' = T.length ∧ NBox w0 (w.setCell ⟨q, m, none⟩ (.int .i64 v)) g b k (some ⟨q, 0, none⟩) ct T' Ak ck K := by
  obtain ⟨T', hl, he⟩ := rows3_put v T m hm
  have hbl := h.bl
  have hgl := h.gl
  have hq := (h.ownT.lt q rfl).1
  have hqb : b ≠ q := fun e => h.nbT (by rw [e]; rfl)
  have hqk : (Value.slice Ak K.length ck).ownBlock ≠ some q := fun e => by
    rcases h.ap with h1 | h1
    · cases h1
    · exact h1 (by rw [e]; rfl)
  have hB : Below (w0.heap.size + 1) w (w.setCell ⟨q, m, none⟩ (.int .i64 v)) := (Below.refl _ _).setCell (p := ⟨q, m, none⟩) (by simp only; omega) _
  refine ⟨T', hl, ?_, ?_, ?_, own_set h.ownK hqk, by rw [hl]; exact h.nbT, h.nbK, by rw [hl]; exact h.ap, h.cur.below' hB (by omega), h.gl, h.bl, Drew.then_below h.dr (hB.mono (by omega))⟩
  · rw [hl]; exact (Below.heap_setCell w ⟨q, m, none⟩ _ _ hqb).trans h.box
  · exact (hB.block _ (by omega)).trans h.res
  · rw [hl, ← he]; exact (h.ownT.stored m (.int .i64 v)).1
theorem NBox.storeK (h : NBox w0 w g b k At ct T (some ⟨q, 0, none⟩) ck K) {m : Nat} (hm : m < K.length * 3) (v : Int) : ∃ K', List.length K' = K.length ∧ NBox w0 (w.setCell ⟨q, m, none⟩ (.int .i64 v)) g b k At ct T (some ⟨q, 0, none⟩) ck K' := by
  obtain ⟨K', hl, he⟩ := rows3_put v K m hm
  have hbl := h.bl
  have hgl := h.gl
  have hq := (h.ownK.lt q rfl).1
  have hqb : b ≠ q := fun e => h.nbK (by rw [e]; rfl)
  have hqk : (Value.slice At T.length ct).ownBlock ≠ some q := fun e => by
    rcases apart_symm h.ap with h1 | h1
    · cases h1
    · exact h1 (by rw [e]; rfl)
  have hB : Below (w0.heap.size + 1) w (w.setCell ⟨q, m, none⟩ (.int .i64 v)) := (Below.refl _ _).setCell (p := ⟨q, m, none⟩) (by simp only; omega) _
  refine ⟨K', hl, ?_, ?_, own_set h.ownT hqk, ?_, h.nbT, by rw [hl]; exact h.nbK, by rw [hl]; exact h.ap, h.cur.below' hB (by omega), h.gl, h.bl, Drew.then_below h.dr (hB.mono (by omega))⟩
  · rw [hl]; exact (Below.heap_setCell w ⟨q, m, none⟩ _ _ hqb).trans h.box
  · exact (hB.block _ (by omega)).trans h.res
  · rw [hl, ← he]; exact (h.ownK.stored m (.int .i64 v)).1
/-- The box takes no towers, or rows that have just been made. -/
theorem NBox.nilT (h : NBox w0 w g b k At ct T Ak ck K) : NBox w0 (w.setCell ⟨b, 0, none⟩ (.slice none 0 0)) g b k none 0 [] Ak ck K := by
  have hbl := h.bl
  have hgl := h.gl
  have hB : Below (w0.heap.size + 1) w (w.setCell ⟨b, 0, none⟩ (.slice none 0 0)) := (Below.refl _ _).setCell (p := ⟨b, 0, none⟩) (by simp only; omega) _
  refine ⟨?_, (hB.block _ (by omega)).trans h.res, own_start, own_set h.ownK h.nbK, (fun e => by cases e), h.nbK, .inl rfl, h.cur.below' hB (by omega), h.gl, h.bl, Drew.then_below h.dr (hB.mono (by omega))⟩
  have hb := h.box
  simp [World.setCell, Array.getElem?_modify, hb]
theorem NBox.newT (h : NBox w0 w g b k At ct T Ak ck K) (hb : Below w.heap.size w w') {n : Nat} {X : List S3} (ho : w'.ownsRow w.heap.size 121 3 (.slice A' n c') n (rows3 X)) (hn : n = X.length) : NBox w0 ((w'.setCell ⟨b, 0, none⟩ (.slice A' n c')).setCell ⟨b, 1, none⟩ (.slice none 0 0)) g b k A' c' X none 0 [] := by
  subst hn
  have h2 := h.below hb
  have hbl := h.bl
  have hgl := h.gl
  have hlt := h.lt
  have hnb : (Value.slice A' X.length c').ownBlock ≠ some b := fun e => by have := (ho.lt _ e).1; omega
  have hB : Below (w0.heap.size + 1) w' ((w'.setCell ⟨b, 0, none⟩ (.slice A' X.length c')).setCell ⟨b, 1, none⟩ (.slice none 0 0)) := ((Below.refl _ _).setCell (p := ⟨b, 0, none⟩) (by simp only; omega) _).setCell (p := ⟨b, 1, none⟩) (by simp only; omega) _
  refine ⟨?_, (hB.block _ (by have := h2.lt; omega)).trans h2.res, own_set (own_set (own_mono ho (by omega)) hnb) hnb, own_start, hnb, (fun e => by cases e), apart_symm (.inl rfl), h2.cur.below' hB (by omega), h.gl, h.bl, Drew.then_below h2.dr (hB.mono (by omega))⟩
  have hb2 := h2.box
  simp [World.setCell, Array.getElem?_modify, hb2]
end
end Go.Proofs.Ythpfgmnhpnfopaa
