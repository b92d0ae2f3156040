/- Two logs joined: the stable sort of both is their merge. Plain. No conditions. -/
import Derived.Test.YtcjmlakmigfkfaaStb2
import Derived.Test.YtcjmlakmigfkfaaLog12
import Derived.Shelf.SlSortCmp.Insertion
namespace Go.Proofs.Ytcjmlakmigfkfaa
set_option linter.unusedSimpArgs false
set_option linter.unusedVariables false
open Go.Sort

def lxT (T : Nat → Int) (i j : Nat) : Bool := decide (T i < T j ∨ (T i = T j ∧ i < j))
theorem lxT_swo (T : Nat → Int) : SWO (lxT T) := by
  refine ⟨fun x => ?_, fun x y z h1 h2 => ?_, fun x y z h1 h2 => ?_⟩
  · unfold lxT; rw [decide_eq_false_iff_not]; omega
  · unfold lxT at *; rw [decide_eq_true_eq] at *; omega
  · unfold lxT at *; rw [decide_eq_false_iff_not] at *; omega
theorem stable_merge (T : Nat → Int) (lt : Nat → Nat → Bool) (na nb : Nat) (hn : na + nb ≤ 60) (hA : ∀ i j, i < j → j < na → T i ≤ T j) (hB : ∀ i j, na ≤ i → i < j → j < na + nb → T i ≤ T j) (hlt : ∀ x y, lt x y = decide (T x < T y)) :
    (stableP lt (na + nb) (Array.range (na + nb))).toList = List.merge (List.range na) (List.range' na nb) (fun i j => decide (T i ≤ T j)) := by
  have hgr : ∀ i, i < na + nb → (Array.range (na + nb))[i]! = i := fun i hi => by simp [hi]
  obtain ⟨hP, hS⟩ := stableP_sorts (lt := lt) (lxT_swo T) (fun x => x) (fun x y hxy => by
    rw [hlt]; unfold lxT; rw [decide_eq_decide]; omega) (na + nb) (Array.range (na + nb)) hn (by simp) hgr
  generalize stableP lt (na + nb) (Array.range (na + nb)) = d at *
  have hsz : d.size = na + nb := by have := hP.1; simpa using this
  have hperm : d.toList.Perm (List.range (na + nb)) := by
    have h := hP.2.2
    rw [show d.extract 0 (na + nb) = d by rw [← hsz]; simp] at h
    simpa using h
  have hpd : d.toList.Pairwise (fun a b => (!lxT T b a) = true) := by
    rw [List.pairwise_iff_getElem]
    intro i j hi hj hij
    have h := hS i j (Nat.zero_le _) hij (by simpa [hsz] using hj)
    rw [Array.length_toList] at hi hj
    rw [getElem!_pos d i hi, getElem!_pos d j hj] at h
    simpa using h
  have hle : ∀ i ∈ List.range na, ∀ j ∈ List.range' na nb, decide (T i ≤ T j) = !lxT T j i := by
    intro i hi j hj
    rw [List.mem_range] at hi
    rw [List.mem_range'_1] at hj
    unfold lxT
    rw [← decide_not, decide_eq_decide]
    omega
  have hm := List.map_merge (f := id) (r := fun i j => decide (T i ≤ T j)) (s := fun i j => !lxT T j i) hle
  simp only [List.map_id] at hm
  have hm' : List.merge (List.range na) (List.range' na nb) (fun i j => decide (T i ≤ T j)) = List.merge (List.range na) (List.range' na nb) (fun i j => !lxT T j i) := by simpa using hm
  rw [hm']
  have hr : List.range na ++ List.range' na nb = List.range (na + nb) := by
    rw [List.range_eq_range', List.range_eq_range']
    have := List.range'_append (s := 0) (m := na) (n := nb) (step := 1)
    simpa using this
  refine List.Perm.eq_of_pairwise (le := fun a b => (!lxT T b a) = true) (fun a b _ _ h1 h2 => ?_) hpd ?_ ?_
  · unfold lxT at h1 h2
    simp only [Bool.not_eq_true', decide_eq_false_iff_not] at h1 h2
    omega
  · refine List.pairwise_merge (le := fun a b => !lxT T b a) (fun a b c h1 h2 => ?_) (fun a b => ?_) _ _ ?_ ?_
    · unfold lxT at *; simp only [Bool.not_eq_true', decide_eq_false_iff_not] at *; omega
    · unfold lxT; simp only [Bool.or_eq_true, Bool.not_eq_true', decide_eq_false_iff_not]; omega
    · rw [List.pairwise_iff_getElem]
      intro i j hi hj hij
      simp only [List.length_range] at hi hj
      have := hA i j hij hj
      simp only [List.getElem_range, lxT, Bool.not_eq_true', decide_eq_false_iff_not]
      omega
    · rw [List.pairwise_iff_getElem]
      intro i j hi hj hij
      simp only [List.length_range'] at hi hj
      have := hB (na + i) (na + j) (by omega) (by omega) (by omega)
      simp only [List.getElem_range', Nat.one_mul, lxT, Bool.not_eq_true', decide_eq_false_iff_not]
      omega
  · exact hperm.trans (by rw [← hr]; exact (List.merge_perm_append _).symm)
/-- Logs joined: those of the first before those of the second with the same time. -/
def leE (x y : EntryT) : Bool := decide (x.1 ≤ y.1)
def joinE (L M : List EntryT) : List EntryT := List.merge L M leE
theorem joinE_nil (L : List EntryT) : joinE L [] = L := by simp [joinE]
theorem joinE_len (L M : List EntryT) : (joinE L M).length = L.length + M.length := by simp [joinE]
theorem joinE_mem {L M : List EntryT} {x : EntryT} : x ∈ joinE L M ↔ x ∈ L ∨ x ∈ M := by unfold joinE; exact List.mem_merge
theorem ord_time {L : List EntryT} (h : L.Pairwise ordE) {i j : Nat} (hij : i < j) (hj : j < L.length) : L[i].1 ≤ L[j].1 := (List.pairwise_iff_getElem.1 h i j (by omega) hj hij).1
theorem stable_join {L M : List EntryT} (hL : L.Pairwise ordE) (hM : M.Pairwise ordE) (hn : L.length + M.length ≤ 60) (lt : Nat → Nat → Bool) (hlt : ∀ x y, lt x y = decide (((L ++ M).getD x zE).1 < ((L ++ M).getD y zE).1)) :
    (stableP lt (L.length + M.length) (Array.range (L.length + M.length))).toList.map (fun i => (L ++ M).getD i zE) = joinE L M := by
  have gl : ∀ i (h : i < L.length), (L ++ M).getD i zE = L[i] := fun i h => by
    rw [List.getD_eq_getElem?_getD, List.getElem?_append_left h, List.getElem?_eq_getElem h]; rfl
  have gr : ∀ i (h : i < M.length), (L ++ M).getD (L.length + i) zE = M[i] := fun i h => by
    rw [List.getD_eq_getElem?_getD, List.getElem?_append_right (by omega), Nat.add_sub_cancel_left, List.getElem?_eq_getElem h]; rfl
  rw [stable_merge (fun i => ((L ++ M).getD i zE).1) lt L.length M.length hn ?_ ?_ hlt]
  · rw [List.map_merge (f := fun i => (L ++ M).getD i zE) (r := fun i j => decide (((L ++ M).getD i zE).1 ≤ ((L ++ M).getD j zE).1)) (s := leE) (fun a _ b _ => rfl)]
    unfold joinE
    congr 1
    · refine List.ext_getElem (by simp) (fun i h1 h2 => ?_)
      simp only [List.getElem_map, List.getElem_range]
      exact gl i h2
    · refine List.ext_getElem (by simp) (fun i h1 h2 => ?_)
      simp only [List.getElem_map, List.getElem_range', Nat.one_mul]
      exact gr i h2
  · intro i j hij hj
    simp only [gl i (by omega), gl j hj]
    exact ord_time hL hij hj
  · intro i j hi hij hj
    obtain ⟨i, rfl⟩ : ∃ q, i = L.length + q := ⟨i - L.length, by omega⟩
    obtain ⟨j, rfl⟩ : ∃ q, j = L.length + q := ⟨j - L.length, by omega⟩
    simp only [gr i (by omega), gr j (by omega)]
    exact ord_time hM (by omega) (by omega)
/-- The answer of JoinLogs. -/
def joinLR (L M : List EntryT) : List EntryT × Bool := if (goodE L && goodE M) = true then (if goodE (joinE L M) = true then (joinE L M, true) else ([], false)) else ([], false)
end Go.Proofs.Ytcjmlakmigfkfaa
