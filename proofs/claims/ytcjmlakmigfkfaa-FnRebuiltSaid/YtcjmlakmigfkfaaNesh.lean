/- Contracts of the laws' own helpers on slices of slices. No conditions. -/
import Derived.Test.YtcjmlakmigfkfaaCom
import Derived.Test.YtcjmlakmigfkfaaNest
namespace Go.Proofs.Ytcjmlakmigfkfaa
set_option linter.unusedSimpArgs false
set_option linter.unusedVariables false
open Go.RowKit

/-- A slice of new memory whose cells are slices in new memory. -/
def Made3 (w : World) (e ei : TypeId) (k n : Nat) (cs : List Cel) (en : Ending) (w' : World) : Prop :=
  ∃ A c hs, en = .returned (.slice A n c) ∧ Own2 w' w.heap.size w'.heap.size e ei k A n c cs hs ∧ Below w.heap.size w w'
/-- The same with a bool. -/
def Made4 (w : World) (e ei : TypeId) (k n : Nat) (cs : List Cel) (b : Bool) (en : Ending) (w' : World) : Prop :=
  ∃ A c hs, en = .returned (.tuple #[.slice A n c, .bool b]) ∧ Own2 w' w.heap.size w'.heap.size e ei k A n c cs hs ∧ Below w.heap.size w w'
theorem own2_made {w : World} {lo hi g n c : Nat} {e ei : TypeId} (h : w.ownsRow lo e 1 (.slice (some ⟨g, 0, none⟩) n c) n (List.replicate n (.slice none 0 0))) (hb : g < hi) :
    Own2 w lo hi e ei 1 (some ⟨g, 0, none⟩) n c (List.replicate n (.inr [])) (List.replicate n (.slice none 0 0)) := by
  have hz : ∀ (j : Nat) (u : Value), (List.replicate n (Value.slice none 0 0))[j]? = some u → u = .slice none 0 0 := by
    intro j u hu
    rw [List.getElem?_replicate] at hu
    split at hu
    · injection hu with hu; exact hu.symm
    · cases hu
  refine ⟨h, by simp, fun j u x hu hx => ?_, fun i j u v _ hu _ => ?_, fun j u hu => ?_, ?_, fun j u hu q hq => ?_⟩
  · rw [List.getElem?_replicate] at hx
    split at hx
    · injection hx with hx
      subst hx
      rw [hz j u hu]
      exact ⟨none, 0, rfl, World.ownsRow_nil _ _ _ _⟩
    · cases hx
  · rw [hz i u hu]; exact .inl rfl
  · rw [hz j u hu]; exact .inl rfl
  · intro q hq
    simp [Value.ownBlock] at hq
    omega
  · rw [hz j u hu] at hq; cases hq
theorem own2_next {w : World} {lo hi hi2 g n c k base : Nat} {e ei : TypeId} {L' : List Cel} {z : Cel} {hs : List Value} {Ai : Option Addr} {ci : Nat} {l : List Value}
    (hL : L'.length = n) (hk : k < n) (h : Own2 w lo hi e ei 1 (some ⟨g, 0, none⟩) n c (L'.take k ++ List.replicate (n - k) z) hs) (hx : L'[k]? = some (.inr l)) (m : Nat) (hm : m = l.length) (ho : w.ownsRow base ei 1 (.slice Ai m ci) m l) (hb : hi ≤ base) (hlo : lo ≤ base) (hh : hi ≤ hi2) (h2 : blockLt (.slice Ai m ci) hi2) :
    ∃ hs', Own2 (w.setCell ⟨g, k, none⟩ (.slice Ai m ci)) lo hi2 e ei 1 (some ⟨g, 0, none⟩) n c (L'.take (k + 1) ++ List.replicate (n - (k + 1)) z) hs' := by
  subst hm
  have hj : k < hs.length := by have := h.row.1; omega
  have := h.put_new hj ho hb hlo hh h2
  rw [mid_set hL hk hx] at this
  exact ⟨_, this⟩
def tot (X : List (List Value)) : Nat := (X.map List.length).sum
theorem tot_take_succ {X : List (List Value)} {k : Nat} (h : k < X.length) : tot (X.take (k + 1)) = tot (X.take k) + X[k].length := by
  unfold tot
  rw [List.take_succ_eq_append_getElem h, List.map_append, List.sum_append]
  rfl
theorem tot_take_le (X : List (List Value)) (k : Nat) : tot (X.take k) ≤ tot X := by
  have : tot X = tot (X.take k) + tot (X.drop k) := by
    unfold tot
    rw [← List.sum_append, ← List.map_append, List.take_append_drop]
  omega
theorem mem_tot {X : List (List Value)} {l : List Value} (h : l ∈ X) : l.length ≤ tot X := by
  induction X with
  | nil => cases h
  | cons a r ih =>
    simp only [tot, List.map_cons, List.sum_cons]
    rcases List.mem_cons.1 h with rfl | h
    · omega
    · have := ih h
      unfold tot at this
      omega
theorem tot_all {X : List (List Value)} {k : Nat} (h : X.length ≤ k) : tot (X.take k) = tot X := by rw [List.take_of_length_le h]

theorem infoInts : (Try.prog.info? 49).map (fun i => (i.zero, i.size, i.bytes)) = some (some (.slice none 0 0), 1, 24) := by kernel_rfl
def marksCInt (K : Nat) : List (List Value) → List Cel
  | [] => []
  | l :: r => .inr (marksInt K l.length) :: marksCInt (K + l.length) r
@[simp] theorem length_marksCInt (K : Nat) (X : List (List Value)) : (marksCInt K X).length = X.length := by
  induction X generalizing K with
  | nil => rfl
  | cons a r ih => simp [marksCInt, ih]
theorem marksCInt_get {K : Nat} {X : List (List Value)} {j : Nat} (hj : j < X.length) : (marksCInt K X)[j]? = some (.inr (marksInt (K + tot (X.take j)) X[j].length)) := by
  induction X generalizing K j with
  | nil => simp at hj
  | cons a r ih =>
    cases j with
    | zero => simp [marksCInt, tot]
    | succ j =>
      have := ih (K := K + a.length) (j := j) (by simpa using hj)
      simp only [marksCInt, List.getElem?_cons_succ, this, List.take_succ_cons, List.getElem_cons_succ, tot, List.map_cons, List.sum_cons]
      simp [Nat.add_assoc]
set_option maxHeartbeats 1000000 in
theorem eqIntSS_any (A B : Option Addr) (n c c' : Nat) (L : List (List Int)) (w : World) (hn : n ≤ 1000000000000) (hl : ∀ l ∈ L, l.length ≤ 1000000000) (h : Reads2 w 1 A n (rowsIntss L)) (h' : Reads2 w 1 B n (rowsIntss L)) :
    Calls Try.prog 15 #[.slice A n c, .slice B n c'] w fun e w' => e = .returned (.bool true) ∧ Below w.heap.size w w' := by
  have HX := Lib.hid (show L.length = n by have := h.len; simpa using this)
  have HL := Lib.hid hl
  have H := Lib.hid h
  have H' := Lib.hid h'
  clear h h' hl
  go_enter Try.func15, Try.ntmps15
  go_wp2
  go_loopw [5] (fun i wr => ∃ k : Nat, k ≤ n ∧ i = .int .i64 k ∧ Below w.heap.size w wr) (fun i _ => n - (intOf i).toNat)
  case atStart => exact ⟨0, Nat.zero_le _, rfl, Below.refl _ _⟩
  case round =>
    obtain ⟨k, hk, rfl, hb⟩ := hrel
    have HB := Lib.hid hb; clear hb
    by_cases hlt : k < n
    · have hx : k < L.length := by rw [HX.out]; exact hlt
      obtain ⟨ad, Ai, ci, rfl, kc, _, _, hr⟩ := (H.out.below HB.out).row (rowsIntss_get hx)
      obtain ⟨ad', Bi, di, rfl, jc, _, _, hr'⟩ := (H'.out.below HB.out).row (rowsIntss_get hx)
      have HR := Lib.hid hr; clear hr
      have HR' := Lib.hid hr'; clear hr'
      have HXL := Lib.hid (HL.out L[k] (List.getElem_mem hx))
      generalize L[k] = l at *
      simp only [length_ints] at kc jc HR HR'
      go_wp2
      go_region_with (go_at_call 66; refine (eqIntS_any Ai Bi l.length ci di l _ (by have := HXL.out; omega) HR.out.drew HR'.out.drew).mono ?_; rintro e w1 ⟨rfl, hq1⟩; have HB1 := Lib.hid (below_of_quiet (B := wr.heap.size) hq1); clear hq1)
      all_goals
        go_wp2
        go_roundw
        case rel => exact ⟨k + 1, by omega, by go_num, HB.out.drew.trans (HB1.out.mono HB.out.size)⟩
        case measure => simp [intOf]; omega
    · go_wp2
      go_ret
      exact ⟨rfl, HB.out⟩
set_option maxHeartbeats 1000000 in
theorem markIntSS_any (A : Option Addr) (n c K lo hi : Nat) (X : List (List Value)) (hs : List Value) (w : World) (hn : n ≤ 1000000000) (hK : K + tot X ≤ 1000000000000) (hh : hi ≤ w.heap.size) (h : Own2 w lo hi 49 3 1 A n c (X.map .inr) hs) :
    Calls Try.prog 18 #[.slice A n c, .int .i64 K] w fun e w' => e = .returned (.int .i64 ((K + tot X : Nat) : Int)) ∧ Own2 w' lo hi 49 3 1 A n c (marksCInt K X) hs ∧ Turned lo hi w w' := by
  have HX := Lib.hid (show X.length = n by have h1 := h.row.1; have h2 := h.len; simp at h2; omega)
  have H := Lib.hid h
  clear h
  go_enter Try.func18, Try.ntmps18
  go_wp2
  go_loopw [1, 5] (fun q i wr => ∃ k : Nat, k ≤ n ∧ i = .int .i64 k ∧ q = .int .i64 ((K + tot (X.take k) : Nat) : Int) ∧ Own2 wr lo hi 49 3 1 A n c ((marksCInt K X).take k ++ (X.map .inr).drop k) hs ∧ Turned lo hi w wr) (fun _ i _ => n - (intOf i).toNat)
  case atStart => exact ⟨0, Nat.zero_le _, rfl, rfl, by simpa using H.out, Turned.refl⟩
  case round =>
    obtain ⟨k, hk, rfl, rfl, hown, hg⟩ := hrel
    clear H
    have HG := Lib.hid hg; clear hg
    have hhr : hi ≤ wr.heap.size := by have := HG.out.size; omega
    by_cases hlt : k < n
    · have hx : k < X.length := by rw [HX.out]; exact hlt
      have hc : ((marksCInt K X).take k ++ (X.map Sum.inr).drop k)[k]? = some (.inr X[k]) := by
        rw [two_get (n := n) (by simp [HX.out]) (by simp [HX.out]) hlt]
        simp [hx]
      have HM := Lib.hid (marksCInt_get (K := K) hx)
      have HT := Lib.hid (tot_take_succ hx)
      have HTT := Lib.hid (tot_take_le X (k + 1))
      have HC := Lib.hid hc; clear hc
      generalize X[k] = l at *
      obtain ⟨g, Ai, ci, rfl, hu, kc, _, hro⟩ := hown.at_ HC.out
      have HU := Lib.hid hu; clear hu
      have HRO := Lib.hid hro; clear hro
      have HO := Lib.hid hown; clear hown
      go_wp2_with (go_at_call 68; refine (markIntS_any Ai l.length ci (K + tot (X.take k)) lo l _ (by have := HTT.out; have := HT.out; omega) HRO.out).mono ?_; rintro e w1 ⟨rfl, hown1, hg1⟩; have HG1 := Lib.hid hg1; clear hg1; have HO1 := Lib.hid hown1; clear hown1)
      have hw := HO.out.wrote HC.out HU.out HG1.out hhr (l' := marksInt (K + tot (X.take k)) l.length) (by simp [marksInt]) (by simpa [marksInt] using HO1.out)
      rw [two_set (n := n) (by simp [HX.out]) (by simp [HX.out]) hlt HM.out] at hw
      have HW := Lib.hid hw
      clear hw
      have hT : Turned lo hi wr w1 := Turned.of_grown HG1.out (fun q hq => HO.out.bounds k _ HU.out q hq)
      have HTU := Lib.hid (HG.out.trans hT)
      clear hT
      go_roundw
      case rel => exact ⟨k + 1, by omega, by go_num, by have h := HT.out; congr 1; omega, HW.out, HTU.out⟩
      case measure => simp [intOf]; omega
    · obtain rfl : k = n := by omega
      rw [two_end (n := k) (by simp [HX.out]) (by simp [HX.out])] at hown
      have HO := Lib.hid hown; clear hown
      have HT := Lib.hid (tot_all (X := X) (k := k) (by simp [HX.out]))
      go_wp2
      go_ret
      exact ⟨ret_int (by have := HT.out; omega), HO.out, HG.out⟩
set_option maxHeartbeats 1000000 in
theorem heldIntSS_any (A : Option Addr) (n c K : Nat) (X : List (List Value)) (w : World) (hn : n ≤ 1000000000) (hK : K + tot X ≤ 1000000000000) (h : Reads2 w 1 A n (marksCInt K X)) :
    Calls Try.prog 19 #[.slice A n c, .int .i64 K] w fun e w' => e = .returned (.int .i64 ((K + tot X : Nat) : Int)) ∧ w = w' := by
  have HX := Lib.hid (show X.length = n by have := h.len; simpa using this)
  have H := Lib.hid h
  clear h
  go_enter Try.func19, Try.ntmps19
  go_wp2
  go_loop [1, 5] (fun q i => ∃ k : Nat, k ≤ n ∧ i = .int .i64 k ∧ q = .int .i64 ((K + tot (X.take k) : Nat) : Int)) (fun _ i => n - (intOf i).toNat)
  case atStart => exact ⟨0, Nat.zero_le _, rfl, rfl⟩
  case round =>
    obtain ⟨k, hk, rfl, rfl⟩ := hrel
    by_cases hlt : k < n
    · have hx : k < X.length := by rw [HX.out]; exact hlt
      have HT := Lib.hid (tot_take_succ hx)
      have HTT := Lib.hid (tot_take_le X (k + 1))
      obtain ⟨ad, Ai, ci, rfl, kc, _, _, hr⟩ := H.out.row (marksCInt_get hx)
      have HR := Lib.hid hr; clear hr
      generalize X[k] = l at *
      have hml : (marksInt (K + tot (X.take k)) l.length).length = l.length := by simp [marksInt]
      rw [hml] at kc HR
      clear hml
      go_wp2_with (go_at_call 69; refine (heldIntS_any Ai l.length ci (K + tot (X.take k)) _ (by have := HTT.out; have := HT.out; omega) HR.out).mono ?_; rintro e w' ⟨rfl, rfl⟩)
      go_round
      case rel => exact ⟨k + 1, by omega, by go_num, by have h := HT.out; congr 1; omega⟩
      case measure => simp [intOf]; omega
    · obtain rfl : k = n := by omega
      have HT := Lib.hid (tot_all (X := X) (k := k) (by simp [HX.out]))
      go_wp2
      go_ret
      exact ⟨ret_int (by have := HT.out; omega), rfl⟩

def marksCBool (K : Nat) : List (List Value) → List Cel
  | [] => []
  | l :: r => .inr (marksBool K l.length) :: marksCBool (K + l.length) r
@[simp] theorem length_marksCBool (K : Nat) (X : List (List Value)) : (marksCBool K X).length = X.length := by
  induction X generalizing K with
  | nil => rfl
  | cons a r ih => simp [marksCBool, ih]
theorem marksCBool_get {K : Nat} {X : List (List Value)} {j : Nat} (hj : j < X.length) : (marksCBool K X)[j]? = some (.inr (marksBool (K + tot (X.take j)) X[j].length)) := by
  induction X generalizing K j with
  | nil => simp at hj
  | cons a r ih =>
    cases j with
    | zero => simp [marksCBool, tot]
    | succ j =>
      have := ih (K := K + a.length) (j := j) (by simpa using hj)
      simp only [marksCBool, List.getElem?_cons_succ, this, List.take_succ_cons, List.getElem_cons_succ, tot, List.map_cons, List.sum_cons]
      simp [Nat.add_assoc]

end Go.Proofs.Ytcjmlakmigfkfaa
