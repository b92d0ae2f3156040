/- Contract of the program's nextCosts. No conditions. NOT FINISHED. -/
import Derived.Test.YtjibdabedagghaaLp8
namespace Go.Proofs.Ytjibdabedagghaa
set_option linter.unusedSimpArgs false
set_option linter.unusedVariables false
open Go.RowKit Go.Maps

def mkK (x : Int × Int × Int) : Value := .agg #[.int .i64 x.1, .int .i64 x.2.1, .int .i64 x.2.2]
theorem mkK_inv : ∀ key kl, keyOf Try.prog 95 key = some kl → ∃ x, key = mkK x := fun key kl h => by
  obtain ⟨a, b, c, rfl, _⟩ := keyTri_inv h
  exact ⟨(a, b, c), rfl⟩
theorem mkV_inv {H : Type} : ∀ v (y : DataW H × List MemPlace), plainElem Try.prog 3 v = some y → ∃ c, v = Value.int .i64 c := fun v y h => by
  obtain ⟨c, rfl, _⟩ := plainElem_int_inv Try.underlying3 h
  exact ⟨c, rfl⟩
theorem left_end {left : Lit → Bool} {k k' : Lit} (h : (left k && !k.sameKey k') = false) : left k = false ∨ k = k' := by
  by_cases e : k = k'
  · exact .inr e
  · rw [Maps.sameKey_ne e] at h
    exact .inl (by simpa using h)
theorem has_of_at {H : Type} {D : DataW H} {k : Lit} {q : Lit} (h : ∀ zd, D.atKey k zd = .lit q) : Maps.has D k = true := by
  cases hh : Maps.has D k with
  | true => rfl
  | false =>
    have h1 := h .nil
    cases D <;> simp only [DataW.atKey] at h1 <;> try cases h1
    rename_i es
    simp only [Maps.has] at hh
    have : es.find? (fun p => p.1.sameKey k) = none := by
      rw [List.find?_eq_none]
      intro p hp
      have := List.any_eq_false.1 hh p hp
      simpa using this
    rw [this] at h1
    cases h1

theorem ownsMap_of_heap {H : Type} {P : Program} {k : TypeId} {R : Value → Option (DataW H × List MemPlace)} {w w' : World} {b n : Nat} {D : DataW H} (h : w.ownsMap P k R b n D) (e : w'.heap[b]? = w.heap[b]?) : w'.ownsMap P k R b n D := by
  obtain ⟨es, clock, h1, h2⟩ := h
  exact ⟨es, clock, e.trans h1, h2⟩
theorem ranges_of_heap {H : Type} {P : Program} {k : TypeId} {R : Value → Option (DataW H × List MemPlace)} {w w' : World} {b r n : Nat} {D : DataW H} {left : Lit → Bool} {cnt : Nat} (h : w.ranges P k R b r n D left cnt) (e : w'.heap[b]? = w.heap[b]?) (e' : w'.heap[r]? = w.heap[r]?) : w'.ranges P k R b r n D left cnt := by
  obtain ⟨es, clock, since, seen, c0, h1, h2, h3, h4, h5, h6⟩ := h
  exact ⟨es, clock, since, seen, c0, e.trans h1, h2, h3, h4, e'.trans h5, h6⟩
/-- The wears of an entry. -/
def k3 (x : Int × Int × Int) : List Int := [x.1, x.2.1, x.2.2]
def kL (x : Int × Int × Int) : Lit := kT x.1 x.2.1 x.2.2
/-- Where the loop of the sets stands. -/
structure SetsAt (H : Type) (w wr : World) (b m : Nat) (D : DataW H) (left : Lit → Bool) (cnt cnt1 : Nat) (l : List G4) (trip : Int) (r : Nat) (V B M : Int) (o x : Int × Int × Int) (cv : Int) (s mo : Nat) (Dout : DataW H) : Prop where
  rg : wr.ranges Try.prog 95 (plainElem Try.prog 3) b (w.heap.size + 1) m D (fun z => left z && !z.sameKey (kL x)) cnt1
  hmo : mo ≤ 8 * (Maps.size D - cnt) + s
  own : wr.ownsMap Try.prog 95 (plainElem Try.prog 3) w.heap.size mo Dout
  sound : Sound l trip r V B M Dout
  tight : (left (kL o) = false ∨ (kL o = kL x ∧ ∃ s', s' < s ∧ failsW l (k3 x) s' = false ∧ cv + setC l trip s' + leastW l trip r (stepW l (k3 x) s') = V)) → Tight l trip r V Dout
  below : Below w.heap.size w wr
section
variable {H : Type} {w wr wr' : World} {b m : Nat} {D : DataW H} {left : Lit → Bool} {cnt cnt1 : Nat} {l : List G4} {trip : Int} {r : Nat} {V B M : Int} {o x : Int × Int × Int} {cv : Int} {s mo : Nat} {Dout : DataW H}
theorem SetsAt.far (h : SetsAt H w wr b m D left cnt cnt1 l trip r V B M o x cv s mo Dout) (hb : Below wr.heap.size wr wr') : SetsAt H w wr' b m D left cnt cnt1 l trip r V B M o x cv s mo Dout := by
  have e : ∀ i, i < wr.heap.size → wr'.heap[i]? = wr.heap[i]? := fun i hi => hb.block i hi
  exact ⟨ranges_of_heap h.rg (e _ h.rg.owns.lt) (e _ h.rg.lt), h.hmo, ownsMap_of_heap h.own (e _ h.own.lt), h.sound, h.tight, h.below.trans (hb.mono h.below.size)⟩
theorem SetsAt.skip (h : SetsAt H w wr b m D left cnt cnt1 l trip r V B M o x cv s mo Dout) (hf : failsW l (k3 x) s = true) : SetsAt H w wr b m D left cnt cnt1 l trip r V B M o x cv (s + 1) mo Dout := by
  refine ⟨h.rg, by have := h.hmo; omega, h.own, h.sound, fun hh => h.tight (hh.imp id (fun ⟨e, s', h1, h2, h3⟩ => ⟨e, s', ?_, h2, h3⟩)), h.below⟩
  by_cases es : s' = s
  · subst es; rw [hf] at h2; cases h2
  · omega
theorem SetsAt.keep (h : SetsAt H w wr b m D left cnt cnt1 l trip r V B M o x cv s mo Dout) {v : Int} (hs : Says Dout (stepW l (k3 x) s) v) (hle : v ≤ cv + setC l trip s) : SetsAt H w wr b m D left cnt cnt1 l trip r V B M o x cv (s + 1) mo Dout := by
  refine ⟨h.rg, by have := h.hmo; omega, h.own, h.sound, fun hh => ?_, h.below⟩
  rcases hh with hh | ⟨e, s', h1, h2, h3⟩
  · exact h.tight (.inl hh)
  · by_cases es : s' = s
    · subst es; exact tight_old h.sound hs hle h3
    · exact h.tight (.inr ⟨e, s', by omega, h2, h3⟩)
theorem SetsAt.put (h : SetsAt H w wr b m D left cnt cnt1 l trip r V B M o x cv s mo Dout) {y : Int × Int × Int} (hy : stepW l (k3 x) s = k3 y) (wf : (Lit.int .i64 y.1).wf = true ∧ (Lit.int .i64 y.2.1).wf = true ∧ (Lit.int .i64 y.2.2).wf = true)
    (hown : wr'.ownsMap Try.prog 95 (plainElem Try.prog 3) w.heap.size (mo + 1) (Dout.put (kL y) (.lit (.int .i64 (cv + setC l trip s))))) (hg : wr.grownBy wr' (some w.heap.size)) (hbw : b < w.heap.size)
    (hx : ∀ z ∈ k3 y, 0 ≤ z ∧ z ≤ M) (h0 : 0 ≤ cv + setC l trip s ∧ cv + setC l trip s ≤ B) (hV : V ≤ cv + setC l trip s + leastW l trip r (stepW l (k3 x) s)) (hold : ∀ u, Says Dout (k3 y) u → cv + setC l trip s < u) :
    SetsAt H w wr' b m D left cnt cnt1 l trip r V B M o x cv (s + 1) (mo + 1) (Dout.put (kL y) (.lit (.int .i64 (cv + setC l trip s)))) := by
  have hD := h.own.isMap
  have hV' := hV
  rw [hy] at hV'
  refine ⟨h.rg.kept hg (by intro e; injection e with e; omega) (by intro e; injection e with e; omega), by have := h.hmo; omega, hown, sound_put hD wf.1 wf.2.1 wf.2.2 h.sound hx h0 hV', fun hh => ?_, h.below.grown hg h.below.size (fun j hj => by cases hj; exact Nat.le_refl _)⟩
  rcases hh with hh | ⟨e, s', h1, h2, h3⟩
  · exact tight_put hD wf.1 wf.2.1 wf.2.2 (h.tight (.inl hh)) hV' hold
  · by_cases es : s' = s
    · subst es
      rw [hy] at h3
      exact tight_new hD wf.1 wf.2.1 wf.2.2 h3
    · exact tight_put hD wf.1 wf.2.1 wf.2.2 (h.tight (.inr ⟨e, s', by omega, h2, h3⟩)) hV' hold
theorem SetsAt.done (h : SetsAt H w wr b m D left cnt cnt1 l trip r V B M o x cv s mo Dout) (hg : goodG l) (ht : 0 ≤ trip ∧ trip ≤ 1000) (hs : 2 ^ l.length ≤ s) (hlk : kL o = kL x → cv + leastW l trip (r + 1) (k3 x) = V) (hh : (left (kL o) && !(kL o).sameKey (kL x)) = false) : Tight l trip r V Dout := by
  refine h.tight ?_
  rcases left_end hh with h1 | e
  · exact .inl h1
  · obtain ⟨s', h1, h2, h3⟩ := way_tight hg ht (hlk e)
    exact .inr ⟨e, s', by omega, h2, h3⟩
end
/-- The wears behind a set, as a key; its parts. -/
theorem step_three (l : List G4) (x : Int × Int × Int) (s : Nat) : ∃ y : Int × Int × Int, stepW l (k3 x) s = k3 y := by
  obtain ⟨a, b, c, e⟩ := three_of (show (stepW l (k3 x) s).length = 3 by rw [length_stepW]; rfl)
  exact ⟨(a, b, c), e⟩
theorem wf_small {x : Int} (h : 0 ≤ x ∧ x ≤ 2000000) : (Lit.int .i64 x).wf = true := by
  simp [Lit.wf, IntKind.min, IntKind.max, IntKind.bits, IntKind.signed]
  omega
/-- The array of the wears, on the way. -/
def mixW (l : List G4) (ws : List Int) (s k : Nat) : List Int := (stepW l ws s).take k ++ ws.drop k
theorem mixW_zero (l : List G4) (ws : List Int) (s : Nat) : mixW l ws s 0 = ws := by simp [mixW]
theorem mixW_end (l : List G4) (ws : List Int) (s : Nat) (h : l.length ≤ ws.length) : mixW l ws s l.length = stepW l ws s := stepW_take l ws s h
theorem mixW_at (l : List G4) (ws : List Int) (s k : Nat) (hk : k < ws.length) : (mixW l ws s k)[k]? = some ws[k] := by
  unfold mixW
  exact mid_at (by rw [length_stepW]) hk
theorem mixW_set (l : List G4) (ws : List Int) (s k : Nat) (hk : k < l.length) (hw : k < ws.length) (y : Int) (hy : y = (if s / 2 ^ k % 2 = 1 then 0 else ws[k]) + l[k].2.1) : (mixW l ws s k).set k y = mixW l ws s (k + 1) := by
  unfold mixW
  exact mid2 (by rw [length_stepW]) hw (by rw [hy]; exact stepW_at l ws s k hk hw)
theorem length_mixW (l : List G4) (ws : List Int) (s k : Nat) (h : k ≤ ws.length) : (mixW l ws s k).length = ws.length := by
  simp [mixW, length_stepW]; omega
theorem box_cell {w : World} {b k : Nat} {t : TypeId} {L : List Int} {x : Int} (h : w.heap[b]? = some (.cells (ints L).toArray t (0, 0))) (hx : L[k]? = some x) : w.cell? ⟨b, k, none⟩ = some (.int .i64 x) := by
  unfold World.cell?
  simp [h, ints, hx]
theorem box_frozen {w : World} {b k : Nat} {t : TypeId} {L : List Int} (h : w.heap[b]? = some (.cells (ints L).toArray t (0, 0))) : w.frozen? ⟨b, k, none⟩ = false := by
  unfold World.frozen?
  simp [h]
theorem lt_of_box {w : World} {b : Nat} {o : Obj} (h : w.heap[b]? = some o) : b < w.heap.size := by
  rcases Nat.lt_or_ge b w.heap.size with h1 | h1
  · exact h1
  · rw [Array.getElem?_eq_none h1] at h; cases h
theorem new_cell1 {X : World} {n : Nat} {t : TypeId} {v0 v1 v2 v3 : Value} (h : X.heap.size = n) : (X.alloc (.cells #[v0, v1, v2, v3] t)).cell? ⟨n, 1, none⟩ = some v1 := by subst h; simp
theorem new_cell2 {X : World} {n : Nat} {t : TypeId} {v0 v1 v2 v3 : Value} (h : X.heap.size = n) : (X.alloc (.cells #[v0, v1, v2, v3] t)).cell? ⟨n, 2, none⟩ = some v2 := by subst h; simp
theorem says_of {H : Type} {D : DataW H} {y : Int × Int × Int} {v : Int} {z : DataW H} (wf : (Lit.int .i64 y.1).wf = true ∧ (Lit.int .i64 y.2.1).wf = true ∧ (Lit.int .i64 y.2.2).wf = true) (hh : Maps.has D (kL y) = true) (ha : D.atKey (kL y) z = .lit (.int .i64 v)) : Says D (k3 y) v := by
  refine ⟨y.1, y.2.1, y.2.2, rfl, wf, hh, fun zd => ?_⟩
  rw [← ha]
  cases D <;> simp only [Maps.has, DataW.atKey] at hh ⊢ <;> try cases hh
  rename_i es
  cases hf : es.find? (fun p => p.1.sameKey (kL y)) with
  | none =>
    rw [List.find?_eq_none] at hf
    rw [List.any_eq_true] at hh
    obtain ⟨p, hp, hq⟩ := hh
    exact absurd hq (hf p hp)
  | some p =>
    show (match es.find? (fun p => p.1.sameKey (kL y)) with | some p => p.2 | none => zd) = _
    rw [hf]
theorem has_of_says {H : Type} {D : DataW H} {y : Int × Int × Int} {v : Int} (h : Says D (k3 y) v) : Maps.has D (kL y) = true := by
  obtain ⟨a, b, c, e, _, hh, _⟩ := h
  injection e with e1 e
  injection e with e2 e
  injection e with e3 e
  subst e1; subst e2; subst e3
  exact hh
theorem box_set {w : World} {b k : Nat} {t : TypeId} {L : List Int} {y : Int} (h : w.heap[b]? = some (.cells (ints L).toArray t (0, 0))) : (w.setCell ⟨b, k, none⟩ (.int .i64 y)).heap[b]? = some (.cells (ints (L.set k y)).toArray t (0, 0)) := by
  simp [World.setCell, Array.getElem?_modify, h, ints, List.map_set]
end Go.Proofs.Ytjibdabedagghaa
