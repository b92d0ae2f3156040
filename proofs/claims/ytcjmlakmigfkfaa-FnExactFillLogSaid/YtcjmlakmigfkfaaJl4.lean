/- The stable sort on entries of the call's own; JoinLogs of the implementation. No conditions. -/
import Derived.Test.YtcjmlakmigfkfaaJl3
namespace Go.Proofs.Ytcjmlakmigfkfaa
set_option linter.unusedSimpArgs false
set_option linter.unusedVariables false
open Go.Sort Go.RowKit

theorem hdr_time {w : World} {lo hi n c : Nat} {A : Option Addr} {L : List EntryT} {hs : List Value} {e ei : TypeId} (h : Own2 w lo hi e ei 5 A n c (rowsE L) hs) (x : Nat) : (hdrV hs x).t = (L.getD x zE).1 := by
  by_cases hx : x < L.length
  · rw [(hdrV_of h hx).2, List.getD_eq_getElem?_getD, List.getElem?_eq_getElem hx]
    rfl
  · have hl : (rowsE L).length = hs.length := h.len
    have hL : (rowsE L).length = L.length * 5 := length_rowsE L
    have h0 : hs[x * 5]? = none := List.getElem?_eq_none (by omega)
    rw [List.getD_eq_getElem?_getD, List.getElem?_eq_none (by omega)]
    unfold hdrV
    rw [h0]
    rfl
theorem getD_idx {l : List EntryT} {i : Nat} (h : i < l.length) : l.getD i zE = l[i] := by
  rw [List.getD_eq_getElem?_getD, List.getElem?_eq_getElem h]; rfl
set_option maxHeartbeats 1000000 in
theorem sortOwn_any {W : World} {lo blk c : Nat} {L M : List EntryT} {hs : List Value} (h : Own2 W lo W.heap.size 51 3 5 (some ⟨blk, 0, none⟩) (L.length + M.length) c (rowsE (L ++ M)) hs) (hblk : lo ≤ blk ∧ blk < W.heap.size) (hL : L.Pairwise ordE) (hM : M.Pairwise ordE) (hn : L.length + M.length ≤ 60) :
    Calls Try.prog 102 #[.slice (some ⟨blk, 0, none⟩) (L.length + M.length) c, .func (.func 103) #[] #[]] W fun e w' => e = .returned (.tuple #[]) ∧ ∃ hs', Own2 w' lo w'.heap.size 51 3 5 (some ⟨blk, 0, none⟩) (L.length + M.length) c (rowsE (joinE L M)) hs' ∧ Below lo W w' := by
  have hLM : (L ++ M).length = L.length + M.length := by simp
  obtain ⟨N, hN⟩ : ∃ N, N = L.length + M.length := ⟨_, rfl⟩
  have hF := fun i (hi : i < N) => (hdrV_of h (i := i) (by omega)).1
  have hlt : ∀ x y, ltOf (cfE (hdrV hs)) x y = decide (((L ++ M).getD x zE).1 < ((L ++ M).getD y zE).1) := fun x y => by rw [cfE_lt, hdr_time h, hdr_time h]
  have hJ := stable_join hL hM hn _ hlt
  have hP := stable_perm hL hM hn _ hlt
  rw [← hN] at h hJ hP hn ⊢
  have hfl : ∀ d : Array Nat, d.size = N → (∀ i, i < N → d[i]! < N) → ∀ t, t < N * 5 → (flatK (encV (hdrV hs)) 5 d)[t]! = (hs[d[t / 5]! * 5 + t % 5]?).getD default := fun d hd hdl t ht => by
    rw [get_flatK _ _ _ _ (by rw [hd]; exact ht)]
    have h5 := hF d[t / 5]! (hdl _ (by omega)) (t % 5) (by omega)
    rw [h5]
    rfl
  have hrg : ∀ i, i < N → (Array.range N)[i]! = i := fun i hi => by simp [hi]
  have hlen : hs.length = N * 5 := h.row.1
  have R : RowK (encV (hdrV hs)) 5 W blk 0 (Array.range N) := by
    refine ⟨fun _ => rfl, fun x v hv => ?_, fun t ht => ?_, hblk.2⟩
    · unfold encV at hv
      simp only [List.mem_cons, List.not_mem_nil, or_false] at hv
      rcases hv with rfl | rfl | rfl | rfl | rfl <;> rfl
    · rw [size_flatK, Array.size_range] at ht
      rw [hfl _ (by simp) (fun i hi => by rw [hrg i hi]; exact hi) t ht, hrg _ (by omega), Nat.zero_add, show t / 5 * 5 + t % 5 = t by omega]
      refine ⟨?_, h.row.frozenAt t⟩
      rw [h.row.cellAt t ht, List.getElem?_eq_getElem (by rw [hlen]; exact ht)]
      rfl
  have C := sortStable_any (hdrV hs) (cfE (hdrV hs)) 103 #[] blk 0 c (Array.range N) W joinLogs1_enters (cmpLaysE _ _ _ _ _) R (by simp; omega)
  simp only [Array.size_range] at C
  refine C.mono ?_
  rintro e w' ⟨rfl, m, os, rfl⟩
  refine ⟨rfl, ?_⟩
  generalize stableP (ltOf (cfE (hdrV hs))) N (Array.range N) = d at *
  have hd : d.size = N := by have := hP.length_eq; simpa using this
  have hdl : ∀ i, i < N → d[i]! < N := fun i hi => by
    have hm : d[i]! ∈ d.toList := by rw [getElem!_pos d i (by omega)]; simp
    have := hP.mem_iff.1 hm
    simpa using this
  have hinj : ∀ i j, i < N → j < N → d[i]! = d[j]! → i = j := fun i j hi hj e => by
    have hnd : d.toList.Nodup := hP.nodup_iff.2 List.nodup_range
    rw [getElem!_pos d i (by omega), getElem!_pos d j (by omega)] at e
    exact (List.getElem_inj (i := i) (j := j) (h₀ := by simpa [hd] using hi) (h₁ := by simpa [hd] using hj) hnd).1 (by simpa using e)
  have hw : sortWorldK (encV (hdrV hs)) 5 W blk 0 m d os = grow (putRow id (Sort.ahead W m) blk 0 (flatK (encV (hdrV hs)) 5 d)) os := rfl
  rw [hw]
  have hfs : (flatK (encV (hdrV hs)) 5 d).size = N * 5 := by rw [size_flatK, hd]
  have hrow := ownsRow_sortedV (n := m) (os := os) h.row (flatK (encV (hdrV hs)) 5 d) hfs
  have hgr := grownBy_sortedV (w := W) (g := blk) (n := m) (os := os) (flatK (encV (hdrV hs)) 5 d)
  have hjl : (joinE L M).length = N := by rw [joinE_len, hN]
  refine ⟨_, Own2.perm h (Nat.le_refl _) (fun j => d[j / 5]! * 5 + j % 5) hgr hrow rfl (by rw [length_rowsE, hjl]; simp [hfs]) (fun j hj => ?_) (fun j hj => ?_) (fun i j hi hj e => ?_), grown_below hgr (Nat.le_of_lt (Nat.lt_of_le_of_lt hblk.1 hblk.2)) (fun q hq => by injection hq with hq; subst hq; exact hblk.1)⟩
  · rw [Array.length_toList, hfs] at hj
    have h1 := hdl (j / 5) (by omega)
    have h2 := hfl d hd hdl j hj
    rw [List.getElem?_eq_getElem (l := hs) (by rw [hlen]; omega)] at h2 ⊢
    rw [Array.getElem?_toList, Array.getElem?_eq_getElem (by omega), ← getElem!_pos (flatK (encV (hdrV hs)) 5 d) j (by omega), h2]
    rfl
  · rw [Array.length_toList, hfs] at hj
    have h1 := hdl (j / 5) (by omega)
    have e1 := rowsE_get (L := joinE L M) (i := j / 5) (j := j % 5) (by rw [hjl]; omega) (by omega)
    have e2 := rowsE_get (L := L ++ M) (i := d[j / 5]!) (j := j % 5) (by omega) (by omega)
    rw [show j / 5 * 5 + j % 5 = j by omega] at e1
    rw [e1, e2]
    have e3 : (joinE L M)[j / 5]? = some ((L ++ M).getD d[j / 5]! zE) := by
      rw [← hJ, List.getElem?_map, Array.getElem?_toList, Array.getElem?_eq_getElem (by omega), getElem!_pos d (j / 5) (by omega)]
      rfl
    rw [List.getElem?_eq_getElem (by rw [hjl]; omega)] at e3
    injection e3 with e3
    rw [e3, getD_idx (by omega)]
  · rw [Array.length_toList, hfs] at hi hj
    have h1 := hdl (i / 5) (by omega)
    have h2 := hdl (j / 5) (by omega)
    have e : d[i / 5]! * 5 + i % 5 = d[j / 5]! * 5 + j % 5 := e
    have h3 := hinj (i / 5) (j / 5) (by omega) (by omega) (by omega)
    omega
end Go.Proofs.Ytcjmlakmigfkfaa
