/- Entries of the call's own, sorted by the library's stable sort; the closure of JoinLogs. No conditions. -/
import Derived.Test.YtcjmlakmigfkfaaJl2
import Derived.Test.YtcjmlakmigfkfaaStb7
import Derived.Sort.OwnSortedInts
namespace Go.Proofs.Ytcjmlakmigfkfaa
set_option linter.unusedSimpArgs false
set_option linter.unusedVariables false
open Go.Sort Go.RowKit

def sgnT (a b : Int) : Int := if a < b then -1 else if b < a then 1 else 0
theorem isNaN_any (a : Int) (w : World) :
    Calls Try.prog 115 #[.int .i64 a] w fun e w' => e = .returned (.bool false) ∧ w = w' := by
  go_enter Try.func115, Try.ntmps115
  go_wp2
  go_ret
  exact ⟨ret_bool (by simp), rfl⟩
theorem cmpCompare_any (a b : Int) (w : World) :
    Calls Try.prog 104 #[.int .i64 a, .int .i64 b] w fun e w' => e = .returned (.int .i64 (sgnT a b)) ∧ w = w' := by
  by_cases h1 : a < b
  · have hs : sgnT a b = -1 := by simp [sgnT, h1]
    rw [hs]
    go_enter Try.func104, Try.ntmps104
    go_wp2_with (go_at_call 115; refine (isNaN_any _ _).mono ?_; rintro e w' ⟨rfl, rfl⟩)
    go_ret
    exact ⟨rfl, rfl⟩
  · by_cases h2 : b < a
    · have hs : sgnT a b = 1 := by simp [sgnT, h1, h2]
      rw [hs]
      go_enter Try.func104, Try.ntmps104
      go_wp2_with (go_at_call 115; refine (isNaN_any _ _).mono ?_; rintro e w' ⟨rfl, rfl⟩)
      go_ret
      exact ⟨rfl, rfl⟩
    · have hs : sgnT a b = 0 := by simp [sgnT, h1, h2]
      rw [hs]
      go_enter Try.func104, Try.ntmps104
      go_wp2_with (go_at_call 115; refine (isNaN_any _ _).mono ?_; rintro e w' ⟨rfl, rfl⟩)
      go_ret
      exact ⟨rfl, rfl⟩
theorem joinLogs1_enters : ∀ a W, Sem.run Try.prog (callFunc 103 a) W = .ok (.enter 103 a) W := fun _ _ => by kernel_rfl
theorem joinLogs1_any (t m p t' m' p' : Int) (A3 A4 B3 B4 : Option Addr) (n3 c3 n4 c4 k3 d3 k4 d4 : Nat) (W : World) :
    Calls Try.prog 103 #[.agg #[.int .i64 t, .int .i64 m, .int .i64 p, .slice A3 n3 c3, .slice A4 n4 c4], .agg #[.int .i64 t', .int .i64 m', .int .i64 p', .slice B3 k3 d3, .slice B4 k4 d4]] W fun e w' => e = .returned (.int .i64 (sgnT t t')) ∧ ∃ q os', w' = grow (W.drewN q) os' := by
  have C1 := Lib.hid (fun W' => cmpCompare_any t t' W')
  generalize sgnT t t' = r at *
  go_enter Try.func103, Try.ntmps103
  go_wp2_with (go_at_call 104; refine (C1.out _).mono ?_; rintro e w' ⟨rfl, rfl⟩)
  go_ret
  exact ⟨rfl, 0, _, by rw [alloc_eq_grow, alloc_eq_grow, grow_grow]; rfl⟩
def cfE (F : Nat → EntV) (x y : Nat) : Int := sgnT (F x).t (F y).t
theorem cfE_lt (F : Nat → EntV) (x y : Nat) : ltOf (cfE F) x y = decide ((F x).t < (F y).t) := by
  unfold ltOf cfE sgnT
  rw [decide_eq_decide]
  split
  · simp; assumption
  · split
    · simp; omega
    · simp; omega
theorem cmpLaysE (F : Nat → EntV) (blk off size : Nat) (w : World) : CmpLays Try.prog 103 #[] (encV F) 5 (cfE F) blk off size w :=
  fun _ _ _ _ x y => joinLogs1_any _ _ _ _ _ _ _ _ _ _ _ _ _ _ _ _ _ _ _
/-! A row behind the sort. -/
theorem grownBy_sortedV {w : World} {g n : Nat} {os : Array Obj} (d : Array Value) : w.grownBy (grow (putRow id (Sort.ahead w n) g 0 d) os) (some g) := by
  refine ⟨rfl, rfl, rfl, by simp, fun k hk hne => ?_⟩
  rw [heap_grow_old _ _ (by simpa using hk)]
  have : g ≠ k := fun e => hne (by rw [e])
  simp [putRow, mapBlock, Sort.ahead, Array.getElem?_modify, this]
theorem heap_sortedV {w : World} {g n : Nat} {os : Array Obj} {cur : Array Value} {e : TypeId} {fr : Nat × Nat} (d : Array Value) (hb : w.heap[g]? = some (.cells cur e fr)) :
    (grow (putRow id (Sort.ahead w n) g 0 d) os).heap[g]? = some (.cells (putCells id 0 d cur) e fr) := by
  have hg : g < w.heap.size := (Array.getElem?_eq_some_iff.1 hb).1
  rw [heap_grow_old _ _ (by simpa using hg)]
  simp [putRow, mapBlock, Sort.ahead, Array.getElem?_modify, hb, onCells]
theorem take_putCellsV (cur d : Array Value) (h : d.size ≤ cur.size) : (putCells id 0 d cur).toList.take d.size = d.toList := by
  apply List.ext_getElem?
  intro j
  by_cases hj : j < d.size
  · rw [List.getElem?_take_of_lt hj, Array.getElem?_toList]
    simp [putCells, hj, show j < cur.size by omega]
  · rw [List.getElem?_take_eq_none (by omega), List.getElem?_eq_none (by simp; omega)]
theorem ownsRow_sortedV {w : World} {base g cap n N : Nat} {e : TypeId} {os : Array Obj} {hs : List Value} (h : w.ownsRow base e 5 (.slice (some ⟨g, 0, none⟩) N cap) N hs) (d : Array Value) (hd : d.size = N * 5) :
    (grow (putRow id (Sort.ahead w n) g 0 d) os).ownsRow base e 5 (.slice (some ⟨g, 0, none⟩) N cap) N d.toList := by
  refine ⟨by simp [hd], ?_⟩
  rcases h.2 with ⟨hv, _⟩ | ⟨g', cap', cur, hv, hb, hc, h1, h2, h3, _⟩
  · simp at hv
  · simp only [Value.slice.injEq, Option.some.injEq, Addr.mk.injEq, and_true, true_and] at hv
    obtain ⟨rfl, rfl⟩ := hv
    exact .inr ⟨g, cap, _, rfl, hb, heap_sortedV _ hc, h1, h2, by simp [putCells, h3], by rw [← hd]; exact take_putCellsV cur d (by rw [hd, h3]; exact Nat.mul_le_mul_right 5 h1)⟩
theorem Own2.perm {w w' : World} {lo hi n c n' c' : Nat} {e ei : TypeId} {A A' : Option Addr} {cs cs' : List Cel} {hs hs' : List Value} (h : Own2 w lo hi e ei 5 A n c cs hs) (hh : hi ≤ w.heap.size) (f : Nat → Nat)
    (hg : w.grownBy w' (Value.slice A n c).ownBlock) (hr : w'.ownsRow lo e 5 (.slice A' n' c') n' hs') (hA : (Value.slice A' n' c').ownBlock = (Value.slice A n c).ownBlock) (hl : cs'.length = hs'.length)
    (h1 : ∀ j, j < hs'.length → hs'[j]? = hs[f j]?) (h2 : ∀ j, j < hs'.length → cs'[j]? = cs[f j]?) (hf : ∀ i j, i < hs'.length → j < hs'.length → f i = f j → i = j) : Own2 w' lo w'.heap.size e ei 5 A' n' c' cs' hs' := by
  have lt : ∀ {j : Nat} {u : Value}, hs'[j]? = some u → j < hs'.length := fun hu => (List.getElem?_eq_some_iff.1 hu).1
  have old : ∀ {j : Nat} {u : Value}, hs'[j]? = some u → hs[f j]? = some u := fun hu => by rw [← h1 _ (lt hu)]; exact hu
  have hsz := hg.size
  refine ⟨hr, hl, fun j u x hu hx => ?_, fun i j u v hij hu hv => ?_, fun j u hu => ?_, own_lt hr, fun j u hu q hq => ?_⟩
  · have hx' : cs[f j]? = some x := by rw [← h2 _ (lt hu)]; exact hx
    refine ownC_same (h.cell _ u x (old hu) hx') (fun q hq => ?_)
    have hb := h.bounds _ u (old hu) q hq
    refine hg.block q (by omega) (fun e' => ?_)
    rcases h.out _ u (old hu) with h3 | h3
    · rw [h3] at hq; cases hq
    · exact h3 (by rw [hq, e'])
  · exact h.apart _ _ u v (fun e' => hij (hf _ _ (lt hu) (lt hv) e')) (old hu) (old hv)
  · have := h.out _ u (old hu)
    rcases this with h3 | h3
    · exact .inl h3
    · exact .inr (by rw [hA]; exact h3)
  · have hb := h.bounds _ u (old hu) q hq
    exact ⟨hb.1, by omega⟩
/-- The headers of a row. -/
def hdrV (hs : List Value) (i : Nat) : EntV :=
  match hs[i * 5]?, hs[i * 5 + 1]?, hs[i * 5 + 2]?, hs[i * 5 + 3]?, hs[i * 5 + 4]? with
  | some (.int _ t), some (.int _ m), some (.int _ p), some (.slice A3 n3 c3), some (.slice A4 n4 c4) => ⟨t, m, p, A3, n3, c3, A4, n4, c4⟩
  | _, _, _, _, _ => ⟨0, 0, 0, none, 0, 0, none, 0, 0⟩
theorem hdrV_of {w : World} {lo hi n c : Nat} {A : Option Addr} {L : List EntryT} {hs : List Value} {e ei : TypeId} (h : Own2 w lo hi e ei 5 A n c (rowsE L) hs) {i : Nat} (hi : i < L.length) :
    (∀ j, j < 5 → hs[i * 5 + j]? = some ((encV (hdrV hs) i)[j]!)) ∧ (hdrV hs i).t = L[i].1 := by
  have hl : (rowsE L).length = hs.length := h.len
  have hL : (rowsE L).length = L.length * 5 := length_rowsE L
  have lt : ∀ j, j < 5 → i * 5 + j < hs.length := fun j hj => by omega
  have cell : ∀ j (hj : j < 5) x, (celEntry L[i])[j]? = some x → ownC w lo ei (hs[i * 5 + j]'(lt j hj)) x := fun j hj x hx => h.cell _ _ x (List.getElem?_eq_getElem (lt j hj)) (by rw [rowsE_get hi hj]; exact hx)
  have c0 : hs[i * 5 + 0]'(lt 0 (by omega)) = .int .i64 L[i].1 := cell 0 (by omega) _ rfl
  have c1 : hs[i * 5 + 1]'(lt 1 (by omega)) = .int .i64 L[i].2.1 := cell 1 (by omega) _ rfl
  have c2 : hs[i * 5 + 2]'(lt 2 (by omega)) = .int .i64 L[i].2.2.1 := cell 2 (by omega) _ rfl
  obtain ⟨A3, c3, e3, _⟩ : ∃ A3 c3, hs[i * 5 + 3]'(lt 3 (by omega)) = .slice A3 (ints L[i].2.2.2.1).length c3 ∧ _ := cell 3 (by omega) (.inr (ints L[i].2.2.2.1)) rfl
  obtain ⟨A4, c4, e4, _⟩ : ∃ A4 c4, hs[i * 5 + 4]'(lt 4 (by omega)) = .slice A4 (ints L[i].2.2.2.2).length c4 ∧ _ := cell 4 (by omega) (.inr (ints L[i].2.2.2.2)) rfl
  have g0 : hs[i * 5]? = some (.int .i64 L[i].1) := by rw [← c0]; exact List.getElem?_eq_getElem (lt 0 (by omega))
  have g1 : hs[i * 5 + 1]? = some (.int .i64 L[i].2.1) := by rw [← c1]; exact List.getElem?_eq_getElem (lt 1 (by omega))
  have g2 : hs[i * 5 + 2]? = some (.int .i64 L[i].2.2.1) := by rw [← c2]; exact List.getElem?_eq_getElem (lt 2 (by omega))
  have g3 : hs[i * 5 + 3]? = some (.slice A3 (ints L[i].2.2.2.1).length c3) := by rw [← e3]; exact List.getElem?_eq_getElem (lt 3 (by omega))
  have g4 : hs[i * 5 + 4]? = some (.slice A4 (ints L[i].2.2.2.2).length c4) := by rw [← e4]; exact List.getElem?_eq_getElem (lt 4 (by omega))
  have hv : hdrV hs i = ⟨L[i].1, L[i].2.1, L[i].2.2.1, A3, (ints L[i].2.2.2.1).length, c3, A4, (ints L[i].2.2.2.2).length, c4⟩ := by
    unfold hdrV
    rw [g0, g1, g2, g3, g4]
  refine ⟨fun j hj => ?_, by rw [hv]⟩
  unfold encV
  rw [hv]
  match j, hj with
  | 0, _ => exact g0
  | 1, _ => exact g1
  | 2, _ => exact g2
  | 3, _ => exact g3
  | 4, _ => exact g4
theorem merge_perm_range (na nb : Nat) (le : Nat → Nat → Bool) : (List.merge (List.range na) (List.range' na nb) le).Perm (List.range (na + nb)) := by
  have hr : List.range na ++ List.range' na nb = List.range (na + nb) := by
    rw [List.range_eq_range', List.range_eq_range']
    have := List.range'_append (s := 0) (m := na) (n := nb) (step := 1)
    simpa using this
  rw [← hr]
  exact List.merge_perm_append _
theorem stable_perm {L M : List EntryT} (hL : L.Pairwise ordE) (hM : M.Pairwise ordE) (hn : L.length + M.length ≤ 60) (lt : Nat → Nat → Bool) (hlt : ∀ x y, lt x y = decide (((L ++ M).getD x zE).1 < ((L ++ M).getD y zE).1)) :
    (stableP lt (L.length + M.length) (Array.range (L.length + M.length))).toList.Perm (List.range (L.length + M.length)) := by
  have gl : ∀ i (h : i < L.length), (L ++ M).getD i zE = L[i] := fun i h => by
    rw [List.getD_eq_getElem?_getD, List.getElem?_append_left h, List.getElem?_eq_getElem h]; rfl
  have gr : ∀ i (h : i < M.length), (L ++ M).getD (L.length + i) zE = M[i] := fun i h => by
    rw [List.getD_eq_getElem?_getD, List.getElem?_append_right (by omega), Nat.add_sub_cancel_left, List.getElem?_eq_getElem h]; rfl
  rw [stable_merge (fun i => ((L ++ M).getD i zE).1) lt L.length M.length hn ?_ ?_ hlt]
  · exact merge_perm_range _ _ _
  · intro i j hij hj
    simp only [gl i (by omega), gl j hj]
    exact ord_time hL hij hj
  · intro i j hi hij hj
    obtain ⟨i, rfl⟩ : ∃ q, i = L.length + q := ⟨i - L.length, by omega⟩
    obtain ⟨j, rfl⟩ : ∃ q, j = L.length + q := ⟨j - L.length, by omega⟩
    simp only [gr i (by omega), gr j (by omega)]
    exact ord_time hM (by omega) (by omega)
end Go.Proofs.Ytcjmlakmigfkfaa
