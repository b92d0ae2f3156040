/- Contracts of the laws' own helpers on slices of slices. No conditions. -/
import Derived.Test.YthpfgmnhpnfopaaCom
import Derived.Test.YthpfgmnhpnfopaaNest
namespace Go.Proofs.Ythpfgmnhpnfopaa
set_option linter.unusedSimpArgs false
set_option linter.unusedVariables false
open Go.RowKit

/-- A slice of new memory whose cells are slices in new memory. -/
def Made3 (w : World) (e ei : TypeId) (k n : Nat) (cs : List Cel) (en : Ending) (w' : World) : Prop :=
  ∃ A c hs, en = .returned (.slice A n c) ∧ Own2 w' w.heap.size w'.heap.size e ei k A n c cs hs ∧ Below w.heap.size w w'
/-- The same with a bool. -/
def Made4 (w : World) (e ei : TypeId) (k n : Nat) (cs : List Cel) (b : Bool) (en : Ending) (w' : World) : Prop :=
  ∃ A c hs, en = .returned (.tuple #[.slice A n c, .bool b]) ∧ Own2 w' w.heap.size w'.heap.size e ei k A n c cs hs ∧ Below w.heap.size w w'
theorem own2_made {w : World} {lo hi g n c : Nat} {e ei : TypeId} (h : w.ownsRow lo e 1 (.slice (some ⟨g, 0, none⟩) n c) n (List.replicate n (.slice none 0 0))) (hb : g < hi) :
    Own2 w lo hi e ei 1 (some ⟨g, 0, none⟩) n c (List.replicate n (.inr [])) (List.replicate n (.slice none 0 0)) := by
  have hz : ∀ (j : Nat) (u : Value), (List.replicate n (Value.slice none 0 0))[j]? = some u → u = .slice none 0 0 := by
    intro j u hu
    rw [List.getElem?_replicate] at hu
    split at hu
    · injection hu with hu; exact hu.symm
    · cases hu
  refine ⟨h, by simp, fun j u x hu hx => ?_, fun i j u v _ hu _ => ?_, fun j u hu => ?_, ?_, fun j u hu q hq => ?_⟩
  · rw [List.getElem?_replicate] at hx
    split at hx
    · injection hx with hx
      subst hx
      rw [hz j u hu]
      exact ⟨none, 0, rfl, World.ownsRow_nil _ _ _ _⟩
    · cases hx
  · rw [hz i u hu]; exact .inl rfl
  · rw [hz j u hu]; exact .inl rfl
  · intro q hq
    simp [Value.ownBlock] at hq
    omega
  · rw [hz j u hu] at hq; cases hq
theorem own2_next {w : World} {lo hi hi2 g n c k base : Nat} {e ei : TypeId} {L' : List Cel} {z : Cel} {hs : List Value} {Ai : Option Addr} {ci : Nat} {l : List Value}
    (hL : L'.length = n) (hk : k < n) (h : Own2 w lo hi e ei 1 (some ⟨g, 0, none⟩) n c (L'.take k ++ List.replicate (n - k) z) hs) (hx : L'[k]? = some (.inr l)) (m : Nat) (hm : m = l.length) (ho : w.ownsRow base ei 1 (.slice Ai m ci) m l) (hb : hi ≤ base) (hlo : lo ≤ base) (hh : hi ≤ hi2) (h2 : blockLt (.slice Ai m ci) hi2) :
    ∃ hs', Own2 (w.setCell ⟨g, k, none⟩ (.slice Ai m ci)) lo hi2 e ei 1 (some ⟨g, 0, none⟩) n c (L'.take (k + 1) ++ List.replicate (n - (k + 1)) z) hs' := by
  subst hm
  have hj : k < hs.length := by have := h.row.1; omega
  have := h.put_new hj ho hb hlo hh h2
  rw [mid_set hL hk hx] at this
  exact ⟨_, this⟩
def tot (X : List (List Value)) : Nat := (X.map List.length).sum
theorem tot_take_succ {X : List (List Value)} {k : Nat} (h : k < X.length) : tot (X.take (k + 1)) = tot (X.take k) + X[k].length := by
  unfold tot
  rw [List.take_succ_eq_append_getElem h, List.map_append, List.sum_append]
  rfl
theorem tot_take_le (X : List (List Value)) (k : Nat) : tot (X.take k) ≤ tot X := by
  have : tot X = tot (X.take k) + tot (X.drop k) := by
    unfold tot
    rw [← List.sum_append, ← List.map_append, List.take_append_drop]
  omega
theorem mem_tot {X : List (List Value)} {l : List Value} (h : l ∈ X) : l.length ≤ tot X := by
  induction X with
  | nil => cases h
  | cons a r ih =>
    simp only [tot, List.map_cons, List.sum_cons]
    rcases List.mem_cons.1 h with rfl | h
    · omega
    · have := ih h
      unfold tot at this
      omega
theorem tot_all {X : List (List Value)} {k : Nat} (h : X.length ≤ k) : tot (X.take k) = tot X := by rw [List.take_of_length_le h]

def marksCInt (K : Nat) : List (List Value) → List Cel
  | [] => []
  | l :: r => .inr (marksInt K l.length) :: marksCInt (K + l.length) r
@[simp] theorem length_marksCInt (K : Nat) (X : List (List Value)) : (marksCInt K X).length = X.length := by
  induction X generalizing K with
  | nil => rfl
  | cons a r ih => simp [marksCInt, ih]
theorem marksCInt_get {K : Nat} {X : List (List Value)} {j : Nat} (hj : j < X.length) : (marksCInt K X)[j]? = some (.inr (marksInt (K + tot (X.take j)) X[j].length)) := by
  induction X generalizing K j with
  | nil => simp at hj
  | cons a r ih =>
    cases j with
    | zero => simp [marksCInt, tot]
    | succ j =>
      have := ih (K := K + a.length) (j := j) (by simpa using hj)
      simp only [marksCInt, List.getElem?_cons_succ, this, List.take_succ_cons, List.getElem_cons_succ, tot, List.map_cons, List.sum_cons]
      simp [Nat.add_assoc]

theorem infoBools : (Try.prog.info? 28).map (fun i => (i.zero, i.size, i.bytes)) = some (some (.slice none 0 0), 1, 24) := by kernel_rfl
def marksCBool (K : Nat) : List (List Value) → List Cel
  | [] => []
  | l :: r => .inr (marksBool K l.length) :: marksCBool (K + l.length) r
@[simp] theorem length_marksCBool (K : Nat) (X : List (List Value)) : (marksCBool K X).length = X.length := by
  induction X generalizing K with
  | nil => rfl
  | cons a r ih => simp [marksCBool, ih]
theorem marksCBool_get {K : Nat} {X : List (List Value)} {j : Nat} (hj : j < X.length) : (marksCBool K X)[j]? = some (.inr (marksBool (K + tot (X.take j)) X[j].length)) := by
  induction X generalizing K j with
  | nil => simp at hj
  | cons a r ih =>
    cases j with
    | zero => simp [marksCBool, tot]
    | succ j =>
      have := ih (K := K + a.length) (j := j) (by simpa using hj)
      simp only [marksCBool, List.getElem?_cons_succ, this, List.take_succ_cons, List.getElem_cons_succ, tot, List.map_cons, List.sum_cons]
      simp [Nat.add_assoc]
set_option maxHeartbeats 1000000 in
theorem toBoolSS_any (A : Option Addr) (n c : Nat) (L : List (List Bool)) (w : World) (hn : n ≤ 1000000000) (hl : ∀ l ∈ L, l.length ≤ 1000000000) (h : Reads2 w 1 A n (rowsBoolss L)) :
    Calls Try.prog 56 #[.slice A n c] w (Made3 w 28 4 1 n (rowsBoolss L)) := by
  have HX := Lib.hid (show L.length = n by have := h.len; simpa using this)
  have HL := Lib.hid hl
  have H := Lib.hid h
  clear h hl
  go_enter Try.func56, Try.ntmps56
  go_wp2_with (at_make; refine wpList_mk _ rfl (.tmp 6) (.tmp 6) 75 rfl w.heap.size 28 (.slice none 0 0) _ infoBools rfl Try.underlying75 _ _ _ _ n rfl rfl rfl rfl (by omega) (by omega) (Nat.le_refl _) ?_; intro w1 hown1 hb1 hz1)
  have hown2 : Own2 w1 w.heap.size w1.heap.size 28 4 1 (some ⟨w.heap.size, 0, none⟩) n n ((rowsBoolss L).take 0 ++ List.replicate (n - 0) (.inr [])) (List.replicate n (.slice none 0 0)) := by simpa using own2_made (ei := 4) hown1 hz1
  have HS0 := Lib.hid (And.intro hown2 (And.intro hb1 hz1))
  clear hown1 hown2 hb1 hz1
  generalize hg : w.heap.size = g at *
  go_loopw [4] (fun i wr => ∃ k hs, k ≤ n ∧ i = .int .i64 (k : Nat) ∧ Own2 wr g wr.heap.size 28 4 1 (some ⟨g, 0, none⟩) n n ((rowsBoolss L).take k ++ List.replicate (n - k) (.inr [])) hs ∧ Below g w wr ∧ g < wr.heap.size) (fun i _ => n - (intOf i).toNat)
  case atStart => exact ⟨0, _, Nat.zero_le _, rfl, HS0.out.1, HS0.out.2.1, HS0.out.2.2⟩
  case round =>
    obtain ⟨k, hs, hk, rfl, hown, hb, hgz⟩ := hrel
    clear HS0
    have HO := Lib.hid hown; clear hown
    have HB := Lib.hid hb; clear hb
    by_cases hlt : k < n
    · have hx : k < L.length := by rw [HX.out]; exact hlt
      obtain ⟨ad, Ai, ci, rfl, kc, _, _, hr⟩ := (H.out.keep (w' := wr) (fun p hp => HB.out.cell (by omega))).row (rowsBoolss_get hx)
      have HR := Lib.hid hr; clear hr
      have HXL := Lib.hid (HL.out L[k] (List.getElem_mem hx))
      have HG := Lib.hid (rowsBoolss_get hx)
      generalize L[k] = l at *
      simp only [length_bools] at kc HR
      have hst : ∀ W, Below wr.heap.size wr W → (∃ o0, W.cell? ⟨g, k, none⟩ = some o0) ∧ W.frozen? ⟨g, k, none⟩ = false := by
        intro W hW
        have ho := HO.out.below hW (Nat.le_refl _)
        obtain ⟨g', A0, c0, e0, _, h1, h2, _⟩ := ho.at_ (mid_get (by simp [HX.out]) hlt)
        injection e0 with e0
        injection e0 with e0
        subst e0
        exact ⟨⟨_, h1⟩, h2⟩
      have HST := Lib.hid hst; clear hst
      go_wp2_with (go_at_call 20; refine (toBoolS_any Ai l.length ci l _ HXL.out HR.out).mono ?_; rintro e w1 ⟨A1, c1, rfl, hown1, hb1⟩; obtain ⟨⟨o0, c0⟩, f0⟩ := HST.out w1 hb1; have HB1 := Lib.hid hb1; clear hb1; have HO1 := Lib.hid hown1; clear hown1)
      obtain ⟨hs', HN⟩ := own2_next (by simp [HX.out]) hlt (HO.out.below HB1.out (Nat.le_refl _)) HG.out l.length (by simp) HO1.out (Nat.le_refl _) (by omega) HB1.out.size (own_lt HO1.out)
      have HN := Lib.hid HN
      go_roundw
      case rel => exact ⟨k + 1, hs', by omega, by go_num, by simpa using HN.out, (HB.out.trans (HB1.out.mono (by omega))).setCell (Nat.le_refl _) _, by have := HB1.out.size; simp; omega⟩
      case measure => simp [intOf]; omega
    · obtain rfl : k = n := by omega
      have ho := HO.out
      rw [mid_end (by simp [HX.out])] at ho
      have HO2 := Lib.hid ho
      clear ho
      go_wp2
      go_ret
      subst hg
      exact ⟨_, _, _, rfl, HO2.out, HB.out⟩
set_option maxHeartbeats 1000000 in
theorem eqBoolSS_any (A B : Option Addr) (n c c' : Nat) (L : List (List Bool)) (w : World) (hn : n ≤ 1000000000000) (hl : ∀ l ∈ L, l.length ≤ 1000000000) (h : Reads2 w 1 A n (rowsBoolss L)) (h' : Reads2 w 1 B n (rowsBoolss L)) :
    Calls Try.prog 58 #[.slice A n c, .slice B n c'] w fun e w' => e = .returned (.bool true) ∧ Below w.heap.size w w' := by
  have HX := Lib.hid (show L.length = n by have := h.len; simpa using this)
  have HL := Lib.hid hl
  have H := Lib.hid h
  have H' := Lib.hid h'
  clear h h' hl
  go_enter Try.func58, Try.ntmps58
  go_wp2
  go_loopw [5] (fun i wr => ∃ k : Nat, k ≤ n ∧ i = .int .i64 k ∧ Below w.heap.size w wr) (fun i _ => n - (intOf i).toNat)
  case atStart => exact ⟨0, Nat.zero_le _, rfl, Below.refl _ _⟩
  case round =>
    obtain ⟨k, hk, rfl, hb⟩ := hrel
    have HB := Lib.hid hb; clear hb
    by_cases hlt : k < n
    · have hx : k < L.length := by rw [HX.out]; exact hlt
      obtain ⟨ad, Ai, ci, rfl, kc, _, _, hr⟩ := (H.out.below HB.out).row (rowsBoolss_get hx)
      obtain ⟨ad', Bi, di, rfl, jc, _, _, hr'⟩ := (H'.out.below HB.out).row (rowsBoolss_get hx)
      have HR := Lib.hid hr; clear hr
      have HR' := Lib.hid hr'; clear hr'
      have HXL := Lib.hid (HL.out L[k] (List.getElem_mem hx))
      generalize L[k] = l at *
      simp only [length_bools] at kc jc HR HR'
      go_wp2
      go_region_with (go_at_call 22; refine (eqBoolS_any Ai Bi l.length ci di l _ (by have := HXL.out; omega) HR.out.drew HR'.out.drew).mono ?_; rintro e w1 ⟨rfl, hq1⟩; have HB1 := Lib.hid (below_of_quiet (B := wr.heap.size) hq1); clear hq1)
      all_goals
        go_wp2
        go_roundw
        case rel => exact ⟨k + 1, by omega, by go_num, HB.out.drew.trans (HB1.out.mono HB.out.size)⟩
        case measure => simp [intOf]; omega
    · go_wp2
      go_ret
      exact ⟨rfl, HB.out⟩
theorem szBoolS1_any (A : Option Addr) (n c : Nat) (left : Nat) (w : World) (hn : n ≤ 9223372036854775807) (h2 : left ≤ 1000000000) :
    Calls Try.prog 104 #[.slice A n c, .int .i64 left] w fun e w' => e = .returned (.int .i64 (if left < n then -1 else (left : Int) - (n : Int))) ∧ w = w' := by
  by_cases hlt : left < n
  · rw [if_pos hlt]
    go_enter Try.func104, Try.ntmps104
    go_wp2
    go_ret
    exact ⟨rfl, rfl⟩
  · rw [if_neg hlt]
    go_enter Try.func104, Try.ntmps104
    go_wp2
    go_ret
    exact ⟨rfl, rfl⟩
set_option maxHeartbeats 1000000 in
theorem szBoolSS_any (A : Option Addr) (n c : Nat) (L : List (List Bool)) (left : Nat) (w : World) (hn : n ≤ 9223372036854775807) (h2 : left ≤ 1000000000) (hl : ∀ l ∈ L, l.length ≤ 9223372036854775807) (h : Reads2 w 1 A n (rowsBoolss L)) :
    Calls Try.prog 54 #[.slice A n c, .int .i64 left] w fun e w' => e = .returned (.int .i64 (if left < n + tot (L.map bools) then -1 else (left : Int) - (n + tot (L.map bools) : Nat))) ∧ w = w' := by
  have HX := Lib.hid (show L.length = n by have := h.len; simpa using this)
  have HL := Lib.hid hl
  have H := Lib.hid h
  clear h hl
  by_cases hbig : left < n + tot (L.map bools)
  · rw [if_pos hbig]
    by_cases hnl : left < n
    · go_enter Try.func54, Try.ntmps54
      go_wp2
      go_ret
      exact ⟨rfl, rfl⟩
    · have HBIG := Lib.hid hbig
      clear hbig
      go_enter Try.func54, Try.ntmps54
      go_wp2
      go_loop [1, 5] (fun q i => ∃ k r : Nat, k ≤ n ∧ i = .int .i64 k ∧ q = .int .i64 (r : Int) ∧ n + tot ((L.map bools).take k) + r = left) (fun _ i => n - (intOf i).toNat)
      case atStart => exact ⟨0, left - n, Nat.zero_le _, rfl, by go_num, by simp [tot]; omega⟩
      case round =>
        obtain ⟨k, r, hk, rfl, rfl, hrel⟩ := hrel
        have HR := Lib.hid hrel; clear hrel
        have hrl : r ≤ 1000000000 := by have := HR.out; omega
        by_cases hlt : k < n
        · have hx : k < L.length := by rw [HX.out]; exact hlt
          obtain ⟨ad, Ai, ci, rfl, kc, _, _, _⟩ := H.out.row (rowsBoolss_get hx)
          have HT : Hid (tot ((L.map bools).take (k + 1)) = tot ((L.map bools).take k) + L[k].length) := Lib.hid (by rw [tot_take_succ (by simpa using hx)]; simp)
          have hxl := HL.out L[k] (List.getElem_mem hx)
          generalize L[k] = l at *
          simp only [length_bools] at kc
          have C1 := szBoolS1_any Ai l.length ci r w hxl hrl
          by_cases hrr : r < l.length
          · rw [if_pos hrr] at C1
            have C2 := Lib.hid C1
            clear C1
            go_wp2_with (go_at_call 104; refine (C2.out).mono ?_; rintro e w' ⟨rfl, rfl⟩)
            go_ret
            exact ⟨rfl, rfl⟩
          · rw [if_neg hrr] at C1
            have C2 := Lib.hid C1
            clear C1
            go_wp2_with (go_at_call 104; refine (C2.out).mono ?_; rintro e w' ⟨rfl, rfl⟩)
            go_round
            case rel => exact ⟨k + 1, r - l.length, by omega, by go_num, by go_num, by have := HT.out; have := HR.out; omega⟩
            case measure => simp [intOf]; omega
        · exfalso
          obtain rfl : k = n := by omega
          have h1 := tot_all (X := L.map bools) (k := k) (by simp [HX.out])
          have h2 := HR.out
          have h3 := HBIG.out
          omega
  · rw [if_neg hbig]
    have HBIG := Lib.hid hbig
    have hnl : ¬ left < n := by omega
    clear hbig
    go_enter Try.func54, Try.ntmps54
    go_wp2
    go_loop [1, 5] (fun q i => ∃ k r : Nat, k ≤ n ∧ i = .int .i64 k ∧ q = .int .i64 (r : Int) ∧ n + tot ((L.map bools).take k) + r = left) (fun _ i => n - (intOf i).toNat)
    case atStart => exact ⟨0, left - n, Nat.zero_le _, rfl, by go_num, by simp [tot]; omega⟩
    case round =>
      obtain ⟨k, r, hk, rfl, rfl, hrel⟩ := hrel
      have HR := Lib.hid hrel; clear hrel
      have hrl : r ≤ 1000000000 := by have := HR.out; omega
      by_cases hlt : k < n
      · have hx : k < L.length := by rw [HX.out]; exact hlt
        obtain ⟨ad, Ai, ci, rfl, kc, _, _, _⟩ := H.out.row (rowsBoolss_get hx)
        have HT : Hid (tot ((L.map bools).take (k + 1)) = tot ((L.map bools).take k) + L[k].length) := Lib.hid (by rw [tot_take_succ (by simpa using hx)]; simp)
        have HTT := Lib.hid (tot_take_le (L.map bools) (k + 1))
        have hxl := HL.out L[k] (List.getElem_mem hx)
        generalize L[k] = l at *
        simp only [length_bools] at kc
        have C1 := szBoolS1_any Ai l.length ci r w hxl hrl
        have hrr : ¬ r < l.length := by have := HTT.out; have := HT.out; have := HR.out; have := HBIG.out; omega
        rw [if_neg hrr] at C1
        have C2 := Lib.hid C1
        clear C1
        go_wp2_with (go_at_call 104; refine (C2.out).mono ?_; rintro e w' ⟨rfl, rfl⟩)
        go_round
        case rel => exact ⟨k + 1, r - l.length, by omega, by go_num, by go_num, by have := HT.out; have := HR.out; omega⟩
        case measure => simp [intOf]; omega
      · obtain rfl : k = n := by omega
        have HT := Lib.hid (tot_all (X := L.map bools) (k := k) (by simp [HX.out]))
        go_wp2
        go_ret
        exact ⟨ret_int (by have := HT.out; have := HR.out; omega), rfl⟩
theorem szBoolSS_okI (A : Option Addr) (n c : Nat) (L : List (List Bool)) (left : Int) (s : Nat) (w : World) (h0 : 0 ≤ left) (h2 : left ≤ 1000000000) (h1 : (s : Int) ≤ left) (hn : n ≤ 9223372036854775807) (hs : s = n + tot (L.map bools)) (hl : ∀ l ∈ L, l.length ≤ 9223372036854775807) (h : Reads2 w 1 A n (rowsBoolss L)) :
    Calls Try.prog 54 #[.slice A n c, .int .i64 left] w fun e w' => e = .returned (.int .i64 (left - (s : Int))) ∧ w = w' := by
  obtain ⟨m, rfl⟩ := Int.eq_ofNat_of_zero_le h0
  have := szBoolSS_any A n c L m w hn (by omega) hl h
  rw [← hs, if_neg (by omega)] at this
  exact this
theorem szBoolSS_bigI (A : Option Addr) (n c : Nat) (L : List (List Bool)) (left : Int) (s : Nat) (w : World) (h0 : 0 ≤ left) (h2 : left ≤ 1000000000) (h1 : left < (s : Int)) (hn : n ≤ 9223372036854775807) (hs : s = n + tot (L.map bools)) (hl : ∀ l ∈ L, l.length ≤ 9223372036854775807) (h : Reads2 w 1 A n (rowsBoolss L)) :
    Calls Try.prog 54 #[.slice A n c, .int .i64 left] w fun e w' => e = .returned (.int .i64 (-1)) ∧ w = w' := by
  obtain ⟨m, rfl⟩ := Int.eq_ofNat_of_zero_le h0
  have := szBoolSS_any A n c L m w hn (by omega) hl h
  rw [← hs, if_pos (by omega)] at this
  exact this
theorem bdBoolSS {xs : List (List Bool)} {n s : Nat} (hs : s = n + tot (xs.map bools)) (h : s ≤ 1048576) : ∀ l ∈ xs, l.length ≤ 1000000000 := by
  intro l hl
  have := mem_tot (X := xs.map bools) (l := bools l) (List.mem_map.2 ⟨l, hl, rfl⟩)
  simp at this
  omega
set_option maxHeartbeats 1000000 in
theorem markBoolSS_any (A : Option Addr) (n c K lo hi : Nat) (X : List (List Value)) (hs : List Value) (w : World) (hn : n ≤ 1000000000) (hK : K + tot X ≤ 1000000000000) (hh : hi ≤ w.heap.size) (h : Own2 w lo hi 28 4 1 A n c (X.map .inr) hs) :
    Calls Try.prog 59 #[.slice A n c, .int .i64 K] w fun e w' => e = .returned (.int .i64 ((K + tot X : Nat) : Int)) ∧ Own2 w' lo hi 28 4 1 A n c (marksCBool K X) hs ∧ Turned lo hi w w' := by
  have HX := Lib.hid (show X.length = n by have h1 := h.row.1; have h2 := h.len; simp at h2; omega)
  have H := Lib.hid h
  clear h
  go_enter Try.func59, Try.ntmps59
  go_wp2
  go_loopw [1, 5] (fun q i wr => ∃ k : Nat, k ≤ n ∧ i = .int .i64 k ∧ q = .int .i64 ((K + tot (X.take k) : Nat) : Int) ∧ Own2 wr lo hi 28 4 1 A n c ((marksCBool K X).take k ++ (X.map .inr).drop k) hs ∧ Turned lo hi w wr) (fun _ i _ => n - (intOf i).toNat)
  case atStart => exact ⟨0, Nat.zero_le _, rfl, rfl, by simpa using H.out, Turned.refl⟩
  case round =>
    obtain ⟨k, hk, rfl, rfl, hown, hg⟩ := hrel
    clear H
    have HG := Lib.hid hg; clear hg
    have hhr : hi ≤ wr.heap.size := by have := HG.out.size; omega
    by_cases hlt : k < n
    · have hx : k < X.length := by rw [HX.out]; exact hlt
      have hc : ((marksCBool K X).take k ++ (X.map Sum.inr).drop k)[k]? = some (.inr X[k]) := by
        rw [two_get (n := n) (by simp [HX.out]) (by simp [HX.out]) hlt]
        simp [hx]
      have HM := Lib.hid (marksCBool_get (K := K) hx)
      have HT := Lib.hid (tot_take_succ hx)
      have HTT := Lib.hid (tot_take_le X (k + 1))
      have HC := Lib.hid hc; clear hc
      generalize X[k] = l at *
      obtain ⟨g, Ai, ci, rfl, hu, kc, _, hro⟩ := hown.at_ HC.out
      have HU := Lib.hid hu; clear hu
      have HRO := Lib.hid hro; clear hro
      have HO := Lib.hid hown; clear hown
      go_wp2_with (go_at_call 33; refine (markBoolS_any Ai l.length ci (K + tot (X.take k)) lo l _ (by have := HTT.out; have := HT.out; omega) HRO.out).mono ?_; rintro e w1 ⟨rfl, hown1, hg1⟩; have HG1 := Lib.hid hg1; clear hg1; have HO1 := Lib.hid hown1; clear hown1)
      have hw := HO.out.wrote HC.out HU.out HG1.out hhr (l' := marksBool (K + tot (X.take k)) l.length) (by simp [marksBool]) (by simpa [marksBool] using HO1.out)
      rw [two_set (n := n) (by simp [HX.out]) (by simp [HX.out]) hlt HM.out] at hw
      have HW := Lib.hid hw
      clear hw
      have hT : Turned lo hi wr w1 := Turned.of_grown HG1.out (fun q hq => HO.out.bounds k _ HU.out q hq)
      have HTU := Lib.hid (HG.out.trans hT)
      clear hT
      go_roundw
      case rel => exact ⟨k + 1, by omega, by go_num, by have h := HT.out; congr 1; omega, HW.out, HTU.out⟩
      case measure => simp [intOf]; omega
    · obtain rfl : k = n := by omega
      rw [two_end (n := k) (by simp [HX.out]) (by simp [HX.out])] at hown
      have HO := Lib.hid hown; clear hown
      have HT := Lib.hid (tot_all (X := X) (k := k) (by simp [HX.out]))
      go_wp2
      go_ret
      exact ⟨ret_int (by have := HT.out; omega), HO.out, HG.out⟩

end Go.Proofs.Ythpfgmnhpnfopaa
