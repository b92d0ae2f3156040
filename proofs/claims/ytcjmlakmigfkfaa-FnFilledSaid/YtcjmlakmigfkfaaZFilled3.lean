/- Lemmas and contracts of this claim, several texts in one: Contracts of the laws' helpers on slices of tickets and of entries. A region that draws its order, only reads, and calls functions that make memory but always answer alike: one walk, in the class of the worlds that leave what was there alone. Speaks of no function. Entries and logs: the small functions of both packages. No conditions. -/
import Derived.Test.YtcjmlakmigfkfaaZFilled2
import Derived.Test.YtcjmlakmigfkfaaLib
import Derived.Test.YtcjmlakmigfkfaaZFilled1
namespace Go.Proofs.Ytcjmlakmigfkfaa
set_option linter.unusedSimpArgs false
set_option linter.unusedVariables false
open Go.RowKit

section
variable {w : World} {lo hi hi2 base k n c g j ci : Nat} {e ei : TypeId} {cs : List Cel} {hs : List Value} {Ai : Option Addr} {l : List Value}
/-- A slice of the call's own is stored in a cell: it is apart from the others. -/
theorem Own2.put_apart (h : Own2 w lo hi e ei k (some ⟨g, 0, none⟩) n c cs hs) (hj : j < hs.length) (m : Nat) (hm : m = l.length) (ho : w.ownsRow base ei 1 (.slice Ai m ci) m l) (hlo : lo ≤ base) (hg : g < base) (hh : hi ≤ hi2) (h2 : blockLt (.slice Ai m ci) hi2)
    (hx : ∀ i v, i ≠ j → hs[i]? = some v → Go.Proofs.Ytcjmlakmigfkfaa.apart v (.slice Ai m ci)) :
    Own2 (w.setCell ⟨g, j, none⟩ (.slice Ai m ci)) lo hi2 e ei k (some ⟨g, 0, none⟩) n c (cs.set j (.inr l)) (hs.set j (.slice Ai m ci)) := by
  subst hm
  refine h.put hj ⟨Ai, ci, rfl, own_mono ho hlo⟩ hh (fun q hq => ?_)
  have h1 := (ho.lt q hq).1
  refine ⟨by omega, h2 q hq, by omega, fun i v hne hv e' => ?_⟩
  rcases hx i v hne hv with h3 | h3
  · rw [h3] at e'; cases e'
  · exact h3 (by rw [e', hq])
theorem apart_of_lt {v u : Value} {b : Nat} (hv : ∀ q, v.ownBlock = some q → q < b) (hu : ∀ q, u.ownBlock = some q → b ≤ q) : apart v u := by
  cases hq : v.ownBlock with
  | none => exact .inl hq
  | some q => exact .inr (by
      rw [hq]
      intro e'
      have h1 := hv q hq
      have h2 := hu q e'.symm
      omega)
end
theorem szIntS2_any (A : Option Addr) (n c : Nat) (left : Nat) (w : World) (hn : n ≤ 9223372036854775807) (h2 : left ≤ 1000000000) :
    Calls Try.prog 94 #[.slice A n c, .int .i64 left] w fun e w' => e = .returned (.int .i64 (if left < n then -1 else (left : Int) - (n : Int))) ∧ w = w' := by
  by_cases hlt : left < n
  · rw [if_pos hlt]
    go_enter Try.func94, Try.ntmps94
    go_wp2
    go_ret
    exact ⟨rfl, rfl⟩
  · rw [if_neg hlt]
    go_enter Try.func94, Try.ntmps94
    go_wp2
    go_ret
    exact ⟨rfl, rfl⟩

theorem infoTicket : (Try.prog.info? 106).map (fun i => (i.zero, i.size, i.bytes)) = some (some (.agg #[.int .i64 0, .int .i64 0, .slice none 0 0, .int .i64 0]), 4, 48) := by kernel_rfl
set_option maxHeartbeats 4000000 in
set_option maxRecDepth 100000 in
theorem toTicketS_any (A : Option Addr) (n c : Nat) (L : List TicketT) (w : World) (hn : n ≤ 1000000000) (hl : ∀ x ∈ L, lenT 1000000000 x) (h : Reads2 w 4 A n (rowsT L)) :
    Calls Try.prog 54 #[.slice A n c] w (Made3 w 106 3 4 n (rowsT L)) := by
  have HX := Lib.hid (show L.length = n by have := h.len; rw [length_rowsT] at this; omega)
  have HL := Lib.hid hl
  have H := Lib.hid h
  clear h hl
  go_enter Try.func54, Try.ntmps54
  go_wp2_with (at_make; refine wpList_mkP _ rfl (.tmp 6) (.tmp 6) 70 rfl w.heap.size 106 _ 4 _ infoTicket (by decide) Try.underlying70 (fun u => u.ownBlock = none) (by simp [Value.cells, Value.ownBlock]) _ _ _ _ n rfl rfl rfl rfl (by omega) (by omega) (Nat.le_refl _) ?_; intro w1 old hol hall hown1 hb1 hz1)
  have hown2 : Own2 w1 w.heap.size w1.heap.size 106 3 4 (some ⟨w.heap.size, 0, none⟩) n n ((rowsT L).take (0 * 4) ++ (old.map Sum.inl).drop (0 * 4)) old := by simpa using own2_plain (ei := 3) hown1 hz1 hall
  have HS0 := Lib.hid (And.intro hown2 (And.intro hb1 hz1))
  have HOL := Lib.hid hol
  clear hown1 hown2 hb1 hz1 hol hall
  generalize hg : w.heap.size = g at *
  go_loopw [4] (fun i wr => ∃ q hs, q ≤ n ∧ i = .int .i64 (q : Nat) ∧ Own2 wr g wr.heap.size 106 3 4 (some ⟨g, 0, none⟩) n n ((rowsT L).take (q * 4) ++ (old.map Sum.inl).drop (q * 4)) hs ∧ Below g w wr ∧ g < wr.heap.size) (fun i _ => n - (intOf i).toNat)
  case atStart => exact ⟨0, _, Nat.zero_le _, rfl, HS0.out.1, HS0.out.2.1, HS0.out.2.2⟩
  case round =>
    obtain ⟨q, hs, hk, rfl, hown, hb, hgz⟩ := hrel
    clear HS0
    have HO := Lib.hid hown; clear hown
    have HB := Lib.hid hb; clear hb
    by_cases hlt : q < n
    · have hx : q < L.length := by rw [HX.out]; exact hlt
      obtain ⟨ad, A2, c2, rfl, k0, k1, k2, k3, r2⟩ := rowsT_at (H.out.keep (w' := wr) (fun p hp => HB.out.cell (by omega))) hx
      have HXL := Lib.hid (HL.out L[q] (List.getElem_mem hx))
      have HG : Hid (∀ j, j < 4 → (rowsT L)[q * 4 + j]? = (celTicket L[q])[j]?) := Lib.hid (fun j hj => rowsT_get hx hj)
      generalize L[q] = x at *
      obtain ⟨a0, a1, l2, a3⟩ := x
      simp only at k0 k1 k2 k3 r2
      have HR2 := Lib.hid r2; clear r2
      have hst : ∀ W, Below wr.heap.size wr W → (∃ o0 o1 o2 o3, W.cell? ⟨g, q * 4, none⟩ = some o0 ∧ W.cell? ⟨g, q * 4 + 1, none⟩ = some o1 ∧ W.cell? ⟨g, q * 4 + 2, none⟩ = some o2 ∧ W.cell? ⟨g, q * 4 + 3, none⟩ = some o3) ∧ W.frozen? ⟨g, q * 4, none⟩ = false ∧ W.frozen? ⟨g, q * 4 + 1, none⟩ = false ∧ W.frozen? ⟨g, q * 4 + 2, none⟩ = false ∧ W.frozen? ⟨g, q * 4 + 3, none⟩ = false := by
        intro W hW
        have ho := own_below HO.out.row hW
        have hol : hs.length = n * 4 := ho.1
        have f : ∀ j, q * 4 + j < n * 4 → ∃ o, W.cell? ⟨g, q * 4 + j, none⟩ = some o := fun j hj => ⟨_, by rw [ho.cellAt _ (by omega)]; exact List.getElem?_eq_getElem (by rw [hol]; exact hj)⟩
        obtain ⟨o0, e0⟩ := f 0 (by omega)
        obtain ⟨o1, e1⟩ := f 1 (by omega)
        obtain ⟨o2, e2⟩ := f 2 (by omega)
        obtain ⟨o3, e3⟩ := f 3 (by omega)
        exact ⟨⟨o0, o1, o2, o3, e0, e1, e2, e3⟩, ho.frozenAt _, ho.frozenAt _, ho.frozenAt _, ho.frozenAt _⟩
      have HST := Lib.hid hst; clear hst
      go_wp2_with (go_at_call 90; refine (toTicket_any a0 a1 a3 A2 c2 l2 _ (by have := HXL.out; unfold lenT at this; simp only at this; omega) HR2.out).mono ?_; rintro e w1 ⟨B2, d2, rfl, hq2, hb1⟩; obtain ⟨⟨o0, o1, o2, o3, c0', c1', c2', c3'⟩, f0, f1, f2, f3⟩ := HST.out w1 hb1; have HB1 := Lib.hid hb1; clear hb1; have HQ2 := Lib.hid hq2; clear hq2)
      have hgz2 : g < wr.heap.size := hgz
      have P0 := HO.out.below HB1.out (Nat.le_refl _)
      have N0 : hs.length = n * 4 := P0.row.1
      have D0' : ∀ (i : Nat) (v : Value), hs[i]? = some v → ∀ q, v.ownBlock = some q → q < wr.heap.size := fun i v hv q hq => (P0.bounds i v hv q hq).2
      have Q2_0 := HQ2.out
      have P1 := P0.put_plain (j := q * 4) (u := .int .i64 a0) (by rw [N0]; omega) rfl
      have D1' : ∀ (i : Nat) (v : Value), (hs.set (q * 4) (.int .i64 a0))[i]? = some v → ∀ q, v.ownBlock = some q → q < wr.heap.size := fun i v hv => by
        rcases set_cases hv with ⟨_, rfl⟩ | ⟨_, hv⟩
        · exact fun q hq => by cases hq
        · exact D0' i v hv
      have Q2_1 := own_setCell (b := g) (i := q * 4) (u := .int .i64 a0) Q2_0 (by omega)
      have N1 : (hs.set (q * 4) (.int .i64 a0)).length = n * 4 := by simp [N0]
      have P2 := P1.put_plain (j := q * 4 + 1) (u := .int .i64 a1) (by rw [N1]; omega) rfl
      have D2' : ∀ (i : Nat) (v : Value), ((hs.set (q * 4) (.int .i64 a0)).set (q * 4 + 1) (.int .i64 a1))[i]? = some v → ∀ q, v.ownBlock = some q → q < wr.heap.size := fun i v hv => by
        rcases set_cases hv with ⟨_, rfl⟩ | ⟨_, hv⟩
        · exact fun q hq => by cases hq
        · exact D1' i v hv
      have Q2_2 := own_setCell (b := g) (i := q * 4 + 1) (u := .int .i64 a1) Q2_1 (by omega)
      have N2 : ((hs.set (q * 4) (.int .i64 a0)).set (q * 4 + 1) (.int .i64 a1)).length = n * 4 := by simp [N0]
      have P3 := P2.put_apart (hi2 := w1.heap.size) (l := ints l2) (j := q * 4 + 2) (by rw [N2]; omega) l2.length (by simp) Q2_2 (by omega) (by omega) HB1.out.size (own_lt Q2_0) (fun i v _ hv => apart_of_lt (D2' i v hv) (fun q hq => (Q2_2.lt q hq).1))
      have D3' : ∀ (i : Nat) (v : Value), (((hs.set (q * 4) (.int .i64 a0)).set (q * 4 + 1) (.int .i64 a1)).set (q * 4 + 2) (.slice B2 l2.length d2))[i]? = some v → (∀ q, v.ownBlock = some q → q < wr.heap.size) ∨ v = .slice B2 l2.length d2 := fun i v hv => by
        rcases set_cases hv with ⟨_, rfl⟩ | ⟨_, hv⟩
        · exact .inr rfl
        · exact .inl (D2' i v hv)
      have N3 : (((hs.set (q * 4) (.int .i64 a0)).set (q * 4 + 1) (.int .i64 a1)).set (q * 4 + 2) (.slice B2 l2.length d2)).length = n * 4 := by simp [N0]
      have P4 := P3.put_plain (j := q * 4 + 3) (u := .int .i64 a3) (by rw [N3]; omega) rfl
      have D4' : ∀ (i : Nat) (v : Value), ((((hs.set (q * 4) (.int .i64 a0)).set (q * 4 + 1) (.int .i64 a1)).set (q * 4 + 2) (.slice B2 l2.length d2)).set (q * 4 + 3) (.int .i64 a3))[i]? = some v → (∀ q, v.ownBlock = some q → q < wr.heap.size) ∨ v = .slice B2 l2.length d2 := fun i v hv => by
        rcases set_cases hv with ⟨_, rfl⟩ | ⟨_, hv⟩
        · exact .inl (fun q hq => by cases hq)
        · exact D3' i v hv
      have N4 : ((((hs.set (q * 4) (.int .i64 a0)).set (q * 4 + 1) (.int .i64 a1)).set (q * 4 + 2) (.slice B2 l2.length d2)).set (q * 4 + 3) (.int .i64 a3)).length = n * 4 := by simp [N0]
      clear P0 P1 P2 P3 D0' D1' D2' D3'
      have T0 : (rowsT L)[q * 4]? = some (.inl (.int .i64 a0)) := by have h := HG.out 0 (by omega); simpa [celTicket] using h
      have T1 : (rowsT L)[q * 4 + 1]? = some (.inl (.int .i64 a1)) := by have h := HG.out 1 (by omega); simpa [celTicket] using h
      have T2 : (rowsT L)[q * 4 + 2]? = some (.inr (ints l2)) := by have h := HG.out 2 (by omega); simpa [celTicket] using h
      have T3 : (rowsT L)[q * 4 + 3]? = some (.inl (.int .i64 a3)) := by have h := HG.out 3 (by omega); simpa [celTicket] using h
      rw [two_set (n := n * 4) (by simp [HX.out]) (by simp [HOL.out]) (by omega) T0, two_set (n := n * 4) (by simp [HX.out]) (by simp [HOL.out]) (by omega) T1, two_set (n := n * 4) (by simp [HX.out]) (by simp [HOL.out]) (by omega) T2, two_set (n := n * 4) (by simp [HX.out]) (by simp [HOL.out]) (by omega) T3] at P4
      rw [show q * 4 + 3 + 1 = (q + 1) * 4 by omega] at P4
      have HN := Lib.hid P4
      clear P4
      go_roundw
      case rel => exact ⟨q + 1, _, by omega, by go_num, by simpa using HN.out, (((((HB.out.trans (HB1.out.mono (by omega))).setCell (p := ⟨g, q * 4, none⟩) (Nat.le_refl _) _).setCell (p := ⟨g, q * 4 + 1, none⟩) (Nat.le_refl _) _).setCell (p := ⟨g, q * 4 + 2, none⟩) (Nat.le_refl _) _).setCell (p := ⟨g, q * 4 + 3, none⟩) (Nat.le_refl _) _), by have := HB1.out.size; simp; omega⟩
      case measure => simp [intOf]; omega
    · obtain rfl : q = n := by omega
      have ho := HO.out
      rw [two_end (by simp [HX.out]) (by simp [HOL.out])] at ho
      have HO2 := Lib.hid ho
      clear ho
      go_wp2
      go_ret
      subst hg
      exact ⟨_, _, _, rfl, HO2.out, HB.out⟩
set_option maxHeartbeats 1000000 in
theorem eqTicket_any (a0 a1 a3 : Int) (A2 : Option Addr) (c2 : Nat) (B2 : Option Addr) (d2 : Nat) (l2 : List Int) (w : World) (n2 : l2.length ≤ 1000000000) (h2 : Reads w 1 A2 l2.length (ints l2)) (g2 : Reads w 1 B2 l2.length (ints l2)) :
    Calls Try.prog 93 #[.agg #[.int .i64 a0, .int .i64 a1, .slice A2 l2.length c2, .int .i64 a3], .agg #[.int .i64 a0, .int .i64 a1, .slice B2 l2.length d2, .int .i64 a3]] w fun e w' => e = .returned (.bool true) ∧ Below w.heap.size w w' := by
  have H2 := Lib.hid h2; clear h2
  have G2 := Lib.hid g2; clear g2
  have HW : Hid (Below w.heap.size w ((w.alloc (.cells #[.int .i64 a0, .int .i64 a1, .slice A2 l2.length c2, .int .i64 a3] 106)).alloc (.cells #[.int .i64 a0, .int .i64 a1, .slice B2 l2.length d2, .int .i64 a3] 106))) := Lib.hid (((Below.refl _ _).alloc (Nat.le_refl _) _).alloc (by simp) _)
  go_enter Try.func93, Try.ntmps93
  go_wp2_with fail
  refine (eqIntS_any A2 B2 l2.length c2 d2 l2 _ (by omega) (H2.out.below HW.out) (G2.out.below HW.out)).mono ?_
  rintro e w2 ⟨rfl, q2, rfl⟩
  have HW := Lib.hid (below_toN HW.out q2)
  go_wp2
  go_ret
  exact ⟨rfl, by first | exact HW.out | simpa using HW.out⟩
set_option maxHeartbeats 2000000 in
theorem eqTicketS_any (A B : Option Addr) (n c c' : Nat) (L : List TicketT) (w : World) (hn : n ≤ 1000000000000) (hl : ∀ x ∈ L, lenT 1000000000 x) (h : Reads2 w 4 A n (rowsT L)) (h' : Reads2 w 4 B n (rowsT L)) :
    Calls Try.prog 56 #[.slice A n c, .slice B n c'] w fun e w' => e = .returned (.bool true) ∧ Below w.heap.size w w' := by
  have HX := Lib.hid (show L.length = n by have := h.len; rw [length_rowsT] at this; omega)
  have HL := Lib.hid hl
  have H := Lib.hid h
  have H' := Lib.hid h'
  clear h h' hl
  go_enter Try.func56, Try.ntmps56
  go_wp2
  go_loopw [5] (fun i wr => ∃ k : Nat, k ≤ n ∧ i = .int .i64 k ∧ Below w.heap.size w wr) (fun i _ => n - (intOf i).toNat)
  case atStart => exact ⟨0, Nat.zero_le _, rfl, Below.refl _ _⟩
  case round =>
    obtain ⟨q, hk, rfl, hb⟩ := hrel
    have HB := Lib.hid hb; clear hb
    by_cases hlt : q < n
    · have hx : q < L.length := by rw [HX.out]; exact hlt
      obtain ⟨ad, A2, c2, rfl, k0, k1, k2, k3, r2⟩ := rowsT_at (H.out.below HB.out) hx
      obtain ⟨ad', B2, d2, rfl, j0, j1, j2, j3, s2⟩ := rowsT_at (H'.out.below HB.out) hx
      have HXL := Lib.hid (HL.out L[q] (List.getElem_mem hx))
      generalize L[q] = x at *
      obtain ⟨a0, a1, l2, a3⟩ := x
      simp only at k0 k1 k2 k3 j0 j1 j2 j3 r2 s2
      have HR2 := Lib.hid r2; clear r2
      have HS2 := Lib.hid s2; clear s2
      go_wp2
      go_region_with (go_at_call 93; refine (eqTicket_any a0 a1 a3 A2 c2 B2 d2 l2 _ (by have := HXL.out; unfold lenT at this; simp only at this; omega) HR2.out.drew HS2.out.drew).mono ?_; rintro e w1 ⟨rfl, hb1⟩; have HB1 := Lib.hid hb1; clear hb1)
      all_goals
        go_wp2
        go_roundw
        case rel => exact ⟨q + 1, by omega, by go_num, HB.out.drew.trans (HB1.out.mono HB.out.size)⟩
        case measure => simp [intOf]; omega
    · go_wp2
      go_ret
      exact ⟨rfl, HB.out⟩
theorem szTicket_any (a0 a1 a3 : Int) (A2 : Option Addr) (c2 : Nat) (l2 : List Int) (left : Nat) (w : World) (n2 : l2.length ≤ 9223372036854775807) (h2 : left ≤ 1000000000) :
    Calls Try.prog 88 #[.agg #[.int .i64 a0, .int .i64 a1, .slice A2 l2.length c2, .int .i64 a3], .int .i64 left] w fun e w' => e = .returned (.int .i64 (if left < l2.length then -1 else (left : Int) - (l2.length : Nat))) ∧ Below w.heap.size w w' := by
  have C1 := szIntS2_any A2 l2.length c2 left (w.alloc (.cells #[.int .i64 a0, .int .i64 a1, .slice A2 l2.length c2, .int .i64 a3] 105)) n2 h2
  by_cases h : left < l2.length
  all_goals
    first | rw [if_pos h] at C1 ⊢ | rw [if_neg h] at C1 ⊢
    have C2 := Lib.hid C1
    clear C1
    go_enter Try.func88, Try.ntmps88
    go_wp2_with (go_at_call 94; refine (C2.out).mono ?_; rintro e w' ⟨rfl, rfl⟩)
    go_ret
    exact ⟨rfl, (Below.refl _ _).alloc (Nat.le_refl _) _⟩
set_option maxHeartbeats 1000000 in
theorem szTicketS_any (A : Option Addr) (n c : Nat) (L : List TicketT) (left : Nat) (w : World) (hn : n ≤ 9223372036854775807) (h2 : left ≤ 1000000000) (hl : ∀ x ∈ L, lenT 9223372036854775807 x) (h : Reads2 w 4 A n (rowsT L)) :
    Calls Try.prog 52 #[.slice A n c, .int .i64 left] w fun e w' => e = .returned (.int .i64 (if left < n + totT L then -1 else (left : Int) - (n + totT L : Nat))) ∧ Below w.heap.size w w' := by
  have HX := Lib.hid (show L.length = n by have := h.len; rw [length_rowsT] at this; omega)
  have HL := Lib.hid hl
  have H := Lib.hid h
  clear h hl
  by_cases hnl : left < n
  · rw [if_pos (by omega)]
    go_enter Try.func52, Try.ntmps52
    go_wp2
    go_ret
    exact ⟨rfl, Below.refl _ _⟩
  · obtain ⟨res, hres⟩ : ∃ res : Int, res = (if left < n + totT L then -1 else (left : Int) - (n + totT L : Nat)) := ⟨_, rfl⟩
    rw [← hres]
    have HRES := Lib.hid hres
    clear hres
    go_enter Try.func52, Try.ntmps52
    go_wp2
    go_loopw [1, 5] (fun q i wr => ∃ k r : Nat, k ≤ n ∧ i = .int .i64 k ∧ q = .int .i64 (r : Int) ∧ n + totT (L.take k) + r = left ∧ Below w.heap.size w wr) (fun _ i _ => n - (intOf i).toNat)
    case atStart => exact ⟨0, left - n, Nat.zero_le _, rfl, by go_num, by simp [totT]; omega, Below.refl _ _⟩
    case round =>
      obtain ⟨q, r, hk, rfl, rfl, hrel, hb⟩ := hrel
      have HR := Lib.hid hrel; clear hrel
      have HB := Lib.hid hb; clear hb
      have hrl : r ≤ 1000000000 := by have := HR.out; omega
      by_cases hlt : q < n
      · have hx : q < L.length := by rw [HX.out]; exact hlt
        obtain ⟨ad, A2, c2, rfl, k0, k1, k2, k3, _⟩ := rowsT_at (H.out.below HB.out) hx
        have HT := Lib.hid (totT_succ hx)
        have HTT := Lib.hid (totT_le L (q + 1))
        have HXL := Lib.hid (HL.out L[q] (List.getElem_mem hx))
        generalize L[q] = x at *
        obtain ⟨a0, a1, l2, a3⟩ := x
        simp only at k0 k1 k2 k3 HT
        have C1 := szTicket_any a0 a1 a3 A2 c2 l2 r wr (by have := HXL.out; unfold lenT at this; simp only at this; omega) hrl
        by_cases hrr : r < l2.length
        · rw [if_pos hrr] at C1
          have C2 := Lib.hid C1
          have HE : Hid (res = -1) := Lib.hid (by rw [HRES.out, if_pos (by have := HTT.out; have := HT.out; have := HR.out; omega)])
          clear C1 hrr
          go_wp2_with (go_at_call 88; refine (C2.out).mono ?_; rintro e w' ⟨rfl, hb1⟩; have HB1 := Lib.hid hb1; clear hb1)
          go_ret
          exact ⟨ret_int HE.out.symm, HB.out.trans (HB1.out.mono HB.out.size)⟩
        · rw [if_neg hrr] at C1
          obtain ⟨r2, rfl⟩ : ∃ r2, r = l2.length + r2 := ⟨r - (l2.length), by omega⟩
          have er : ((l2.length + r2 : Nat) : Int) - ((l2.length : Nat) : Int) = (r2 : Int) := by omega
          rw [er] at C1
          have C2 := Lib.hid C1
          clear C1 er
          go_wp2_with fail
          refine (C2.out).mono ?_
          rintro e w' ⟨rfl, hb1⟩
          have HB1 := Lib.hid hb1; clear hb1
          go_wp2
          go_roundw
          case rel => exact ⟨q + 1, r2, by omega, by go_num, rfl, by have := HT.out; have := HR.out; omega, HB.out.trans (HB1.out.mono HB.out.size)⟩
          case measure => simp [intOf]; omega
      · obtain rfl : q = n := by omega
        have HT := Lib.hid (totT_all (L := L) (k := q) (by rw [HX.out]; exact Nat.le_refl _))
        go_wp2
        go_ret
        exact ⟨ret_int (by have h1 := HT.out; have h2 := HR.out; rw [HRES.out, if_neg (by omega)]; omega), HB.out⟩
theorem szTicketS_okI (A : Option Addr) (n c : Nat) (L : List TicketT) (left : Int) (s : Nat) (w : World) (h0 : 0 ≤ left) (h2 : left ≤ 1000000000) (h1 : (s : Int) ≤ left) (hn : n ≤ 9223372036854775807) (hs : s = n + totT L) (hl : ∀ x ∈ L, lenT 9223372036854775807 x) (h : Reads2 w 4 A n (rowsT L)) :
    Calls Try.prog 52 #[.slice A n c, .int .i64 left] w fun e w' => e = .returned (.int .i64 (left - (s : Int))) ∧ Below w.heap.size w w' := by
  obtain ⟨m, rfl⟩ := Int.eq_ofNat_of_zero_le h0
  have := szTicketS_any A n c L m w hn (by omega) hl h
  rw [← hs, if_neg (by omega)] at this
  exact this
theorem szTicketS_bigI (A : Option Addr) (n c : Nat) (L : List TicketT) (left : Int) (s : Nat) (w : World) (h0 : 0 ≤ left) (h2 : left ≤ 1000000000) (h1 : left < (s : Int)) (hn : n ≤ 9223372036854775807) (hs : s = n + totT L) (hl : ∀ x ∈ L, lenT 9223372036854775807 x) (h : Reads2 w 4 A n (rowsT L)) :
    Calls Try.prog 52 #[.slice A n c, .int .i64 left] w fun e w' => e = .returned (.int .i64 (-1)) ∧ Below w.heap.size w w' := by
  obtain ⟨m, rfl⟩ := Int.eq_ofNat_of_zero_le h0
  have := szTicketS_any A n c L m w hn (by omega) hl h
  rw [← hs, if_pos (by omega)] at this
  exact this

theorem infoEntry : (Try.prog.info? 51).map (fun i => (i.zero, i.size, i.bytes)) = some (some (.agg #[.int .i64 0, .int .i64 0, .int .i64 0, .slice none 0 0, .slice none 0 0]), 5, 72) := by kernel_rfl
set_option maxHeartbeats 4000000 in
set_option maxRecDepth 100000 in
theorem toEntryS_any (A : Option Addr) (n c : Nat) (L : List EntryT) (w : World) (hn : n ≤ 1000000000) (hl : ∀ x ∈ L, lenE 1000000000 x) (h : Reads2 w 5 A n (rowsE L)) :
    Calls Try.prog 13 #[.slice A n c] w (Made3 w 51 3 5 n (rowsE L)) := by
  have HX := Lib.hid (show L.length = n by have := h.len; rw [length_rowsE] at this; omega)
  have HL := Lib.hid hl
  have H := Lib.hid h
  clear h hl
  go_enter Try.func13, Try.ntmps13
  go_wp2_with (at_make; refine wpList_mkP _ rfl (.tmp 6) (.tmp 6) 27 rfl w.heap.size 51 _ 5 _ infoEntry (by decide) Try.underlying27 (fun u => u.ownBlock = none) (by simp [Value.cells, Value.ownBlock]) _ _ _ _ n rfl rfl rfl rfl (by omega) (by omega) (Nat.le_refl _) ?_; intro w1 old hol hall hown1 hb1 hz1)
  have hown2 : Own2 w1 w.heap.size w1.heap.size 51 3 5 (some ⟨w.heap.size, 0, none⟩) n n ((rowsE L).take (0 * 5) ++ (old.map Sum.inl).drop (0 * 5)) old := by simpa using own2_plain (ei := 3) hown1 hz1 hall
  have HS0 := Lib.hid (And.intro hown2 (And.intro hb1 hz1))
  have HOL := Lib.hid hol
  clear hown1 hown2 hb1 hz1 hol hall
  generalize hg : w.heap.size = g at *
  go_loopw [4] (fun i wr => ∃ q hs, q ≤ n ∧ i = .int .i64 (q : Nat) ∧ Own2 wr g wr.heap.size 51 3 5 (some ⟨g, 0, none⟩) n n ((rowsE L).take (q * 5) ++ (old.map Sum.inl).drop (q * 5)) hs ∧ Below g w wr ∧ g < wr.heap.size) (fun i _ => n - (intOf i).toNat)
  case atStart => exact ⟨0, _, Nat.zero_le _, rfl, HS0.out.1, HS0.out.2.1, HS0.out.2.2⟩
  case round =>
    obtain ⟨q, hs, hk, rfl, hown, hb, hgz⟩ := hrel
    clear HS0
    have HO := Lib.hid hown; clear hown
    have HB := Lib.hid hb; clear hb
    by_cases hlt : q < n
    · have hx : q < L.length := by rw [HX.out]; exact hlt
      obtain ⟨ad, A3, c3, A4, c4, rfl, k0, k1, k2, k3, k4, r3, r4⟩ := rowsE_at (H.out.keep (w' := wr) (fun p hp => HB.out.cell (by omega))) hx
      have HXL := Lib.hid (HL.out L[q] (List.getElem_mem hx))
      have HG : Hid (∀ j, j < 5 → (rowsE L)[q * 5 + j]? = (celEntry L[q])[j]?) := Lib.hid (fun j hj => rowsE_get hx hj)
      generalize L[q] = x at *
      obtain ⟨a0, a1, a2, l3, l4⟩ := x
      simp only at k0 k1 k2 k3 k4 r3 r4
      have HR3 := Lib.hid r3; clear r3
      have HR4 := Lib.hid r4; clear r4
      have hst : ∀ W, Below wr.heap.size wr W → (∃ o0 o1 o2 o3 o4, W.cell? ⟨g, q * 5, none⟩ = some o0 ∧ W.cell? ⟨g, q * 5 + 1, none⟩ = some o1 ∧ W.cell? ⟨g, q * 5 + 2, none⟩ = some o2 ∧ W.cell? ⟨g, q * 5 + 3, none⟩ = some o3 ∧ W.cell? ⟨g, q * 5 + 4, none⟩ = some o4) ∧ W.frozen? ⟨g, q * 5, none⟩ = false ∧ W.frozen? ⟨g, q * 5 + 1, none⟩ = false ∧ W.frozen? ⟨g, q * 5 + 2, none⟩ = false ∧ W.frozen? ⟨g, q * 5 + 3, none⟩ = false ∧ W.frozen? ⟨g, q * 5 + 4, none⟩ = false := by
        intro W hW
        have ho := own_below HO.out.row hW
        have hol : hs.length = n * 5 := ho.1
        have f : ∀ j, q * 5 + j < n * 5 → ∃ o, W.cell? ⟨g, q * 5 + j, none⟩ = some o := fun j hj => ⟨_, by rw [ho.cellAt _ (by omega)]; exact List.getElem?_eq_getElem (by rw [hol]; exact hj)⟩
        obtain ⟨o0, e0⟩ := f 0 (by omega)
        obtain ⟨o1, e1⟩ := f 1 (by omega)
        obtain ⟨o2, e2⟩ := f 2 (by omega)
        obtain ⟨o3, e3⟩ := f 3 (by omega)
        obtain ⟨o4, e4⟩ := f 4 (by omega)
        exact ⟨⟨o0, o1, o2, o3, o4, e0, e1, e2, e3, e4⟩, ho.frozenAt _, ho.frozenAt _, ho.frozenAt _, ho.frozenAt _, ho.frozenAt _⟩
      have HST := Lib.hid hst; clear hst
      go_wp2_with (go_at_call 63; refine (toEntry_any a0 a1 a2 A3 c3 l3 A4 c4 l4 _ (by have := HXL.out; unfold lenE at this; simp only at this; omega) HR3.out (by have := HXL.out; unfold lenE at this; simp only at this; omega) HR4.out).mono ?_; rintro e w1 ⟨B3, d3, B4, d4, rfl, hq3, hq4, hap, hb1⟩; obtain ⟨⟨o0, o1, o2, o3, o4, c0', c1', c2', c3', c4'⟩, f0, f1, f2, f3, f4⟩ := HST.out w1 hb1; have HB1 := Lib.hid hb1; clear hb1; have HAP := Lib.hid hap; clear hap; have HQ3 := Lib.hid hq3; clear hq3; have HQ4 := Lib.hid hq4; clear hq4)
      have hgz2 : g < wr.heap.size := hgz
      have P0 := HO.out.below HB1.out (Nat.le_refl _)
      have N0 : hs.length = n * 5 := P0.row.1
      have D0' : ∀ (i : Nat) (v : Value), hs[i]? = some v → ∀ q, v.ownBlock = some q → q < wr.heap.size := fun i v hv q hq => (P0.bounds i v hv q hq).2
      have Q3_0 := HQ3.out
      have Q4_0 := HQ4.out
      have P1 := P0.put_plain (j := q * 5) (u := .int .i64 a0) (by rw [N0]; omega) rfl
      have D1' : ∀ (i : Nat) (v : Value), (hs.set (q * 5) (.int .i64 a0))[i]? = some v → ∀ q, v.ownBlock = some q → q < wr.heap.size := fun i v hv => by
        rcases set_cases hv with ⟨_, rfl⟩ | ⟨_, hv⟩
        · exact fun q hq => by cases hq
        · exact D0' i v hv
      have Q3_1 := own_setCell (b := g) (i := q * 5) (u := .int .i64 a0) Q3_0 (by omega)
      have Q4_1 := own_setCell (b := g) (i := q * 5) (u := .int .i64 a0) Q4_0 (by omega)
      have N1 : (hs.set (q * 5) (.int .i64 a0)).length = n * 5 := by simp [N0]
      have P2 := P1.put_plain (j := q * 5 + 1) (u := .int .i64 a1) (by rw [N1]; omega) rfl
      have D2' : ∀ (i : Nat) (v : Value), ((hs.set (q * 5) (.int .i64 a0)).set (q * 5 + 1) (.int .i64 a1))[i]? = some v → ∀ q, v.ownBlock = some q → q < wr.heap.size := fun i v hv => by
        rcases set_cases hv with ⟨_, rfl⟩ | ⟨_, hv⟩
        · exact fun q hq => by cases hq
        · exact D1' i v hv
      have Q3_2 := own_setCell (b := g) (i := q * 5 + 1) (u := .int .i64 a1) Q3_1 (by omega)
      have Q4_2 := own_setCell (b := g) (i := q * 5 + 1) (u := .int .i64 a1) Q4_1 (by omega)
      have N2 : ((hs.set (q * 5) (.int .i64 a0)).set (q * 5 + 1) (.int .i64 a1)).length = n * 5 := by simp [N0]
      have P3 := P2.put_plain (j := q * 5 + 2) (u := .int .i64 a2) (by rw [N2]; omega) rfl
      have D3' : ∀ (i : Nat) (v : Value), (((hs.set (q * 5) (.int .i64 a0)).set (q * 5 + 1) (.int .i64 a1)).set (q * 5 + 2) (.int .i64 a2))[i]? = some v → ∀ q, v.ownBlock = some q → q < wr.heap.size := fun i v hv => by
        rcases set_cases hv with ⟨_, rfl⟩ | ⟨_, hv⟩
        · exact fun q hq => by cases hq
        · exact D2' i v hv
      have Q3_3 := own_setCell (b := g) (i := q * 5 + 2) (u := .int .i64 a2) Q3_2 (by omega)
      have Q4_3 := own_setCell (b := g) (i := q * 5 + 2) (u := .int .i64 a2) Q4_2 (by omega)
      have N3 : (((hs.set (q * 5) (.int .i64 a0)).set (q * 5 + 1) (.int .i64 a1)).set (q * 5 + 2) (.int .i64 a2)).length = n * 5 := by simp [N0]
      have P4 := P3.put_apart (hi2 := w1.heap.size) (l := ints l3) (j := q * 5 + 3) (by rw [N3]; omega) l3.length (by simp) Q3_3 (by omega) (by omega) HB1.out.size (own_lt Q3_0) (fun i v _ hv => apart_of_lt (D3' i v hv) (fun q hq => (Q3_3.lt q hq).1))
      have D4' : ∀ (i : Nat) (v : Value), ((((hs.set (q * 5) (.int .i64 a0)).set (q * 5 + 1) (.int .i64 a1)).set (q * 5 + 2) (.int .i64 a2)).set (q * 5 + 3) (.slice B3 l3.length d3))[i]? = some v → (∀ q, v.ownBlock = some q → q < wr.heap.size) ∨ v = .slice B3 l3.length d3 := fun i v hv => by
        rcases set_cases hv with ⟨_, rfl⟩ | ⟨_, hv⟩
        · exact .inr rfl
        · exact .inl (D3' i v hv)
      have Q4_4 := own_setCell (b := g) (i := q * 5 + 3) (u := .slice B3 l3.length d3) Q4_3 (by omega)
      have N4 : ((((hs.set (q * 5) (.int .i64 a0)).set (q * 5 + 1) (.int .i64 a1)).set (q * 5 + 2) (.int .i64 a2)).set (q * 5 + 3) (.slice B3 l3.length d3)).length = n * 5 := by simp [N0]
      have P5 := P4.put_apart (hi2 := w1.heap.size) (l := ints l4) (j := q * 5 + 4) (by rw [N4]; omega) l4.length (by simp) Q4_4 (by omega) (by omega) (Nat.le_refl _) (own_lt Q4_0) (fun i v _ hv => by
          rcases D4' i v hv with h | rfl
          · exact apart_of_lt h (fun q hq => (Q4_4.lt q hq).1)
          · exact HAP.out)
      have N5 : (((((hs.set (q * 5) (.int .i64 a0)).set (q * 5 + 1) (.int .i64 a1)).set (q * 5 + 2) (.int .i64 a2)).set (q * 5 + 3) (.slice B3 l3.length d3)).set (q * 5 + 4) (.slice B4 l4.length d4)).length = n * 5 := by simp [N0]
      clear P0 P1 P2 P3 P4 D0' D1' D2' D3' D4'
      have T0 : (rowsE L)[q * 5]? = some (.inl (.int .i64 a0)) := by have h := HG.out 0 (by omega); simpa [celEntry] using h
      have T1 : (rowsE L)[q * 5 + 1]? = some (.inl (.int .i64 a1)) := by have h := HG.out 1 (by omega); simpa [celEntry] using h
      have T2 : (rowsE L)[q * 5 + 2]? = some (.inl (.int .i64 a2)) := by have h := HG.out 2 (by omega); simpa [celEntry] using h
      have T3 : (rowsE L)[q * 5 + 3]? = some (.inr (ints l3)) := by have h := HG.out 3 (by omega); simpa [celEntry] using h
      have T4 : (rowsE L)[q * 5 + 4]? = some (.inr (ints l4)) := by have h := HG.out 4 (by omega); simpa [celEntry] using h
      rw [two_set (n := n * 5) (by simp [HX.out]) (by simp [HOL.out]) (by omega) T0, two_set (n := n * 5) (by simp [HX.out]) (by simp [HOL.out]) (by omega) T1, two_set (n := n * 5) (by simp [HX.out]) (by simp [HOL.out]) (by omega) T2, two_set (n := n * 5) (by simp [HX.out]) (by simp [HOL.out]) (by omega) T3, two_set (n := n * 5) (by simp [HX.out]) (by simp [HOL.out]) (by omega) T4] at P5
      rw [show q * 5 + 4 + 1 = (q + 1) * 5 by omega] at P5
      have HN := Lib.hid P5
      clear P5
      go_roundw
      case rel => exact ⟨q + 1, _, by omega, by go_num, by simpa using HN.out, ((((((HB.out.trans (HB1.out.mono (by omega))).setCell (p := ⟨g, q * 5, none⟩) (Nat.le_refl _) _).setCell (p := ⟨g, q * 5 + 1, none⟩) (Nat.le_refl _) _).setCell (p := ⟨g, q * 5 + 2, none⟩) (Nat.le_refl _) _).setCell (p := ⟨g, q * 5 + 3, none⟩) (Nat.le_refl _) _).setCell (p := ⟨g, q * 5 + 4, none⟩) (Nat.le_refl _) _), by have := HB1.out.size; simp; omega⟩
      case measure => simp [intOf]; omega
    · obtain rfl : q = n := by omega
      have ho := HO.out
      rw [two_end (by simp [HX.out]) (by simp [HOL.out])] at ho
      have HO2 := Lib.hid ho
      clear ho
      go_wp2
      go_ret
      subst hg
      exact ⟨_, _, _, rfl, HO2.out, HB.out⟩
set_option maxHeartbeats 1000000 in
theorem eqEntry_any (a0 a1 a2 : Int) (A3 : Option Addr) (c3 : Nat) (B3 : Option Addr) (d3 : Nat) (l3 : List Int) (A4 : Option Addr) (c4 : Nat) (B4 : Option Addr) (d4 : Nat) (l4 : List Int) (w : World) (n3 : l3.length ≤ 1000000000) (h3 : Reads w 1 A3 l3.length (ints l3)) (g3 : Reads w 1 B3 l3.length (ints l3)) (n4 : l4.length ≤ 1000000000) (h4 : Reads w 1 A4 l4.length (ints l4)) (g4 : Reads w 1 B4 l4.length (ints l4)) :
    Calls Try.prog 67 #[.agg #[.int .i64 a0, .int .i64 a1, .int .i64 a2, .slice A3 l3.length c3, .slice A4 l4.length c4], .agg #[.int .i64 a0, .int .i64 a1, .int .i64 a2, .slice B3 l3.length d3, .slice B4 l4.length d4]] w fun e w' => e = .returned (.bool true) ∧ Below w.heap.size w w' := by
  have H3 := Lib.hid h3; clear h3
  have G3 := Lib.hid g3; clear g3
  have H4 := Lib.hid h4; clear h4
  have G4 := Lib.hid g4; clear g4
  have HW : Hid (Below w.heap.size w ((w.alloc (.cells #[.int .i64 a0, .int .i64 a1, .int .i64 a2, .slice A3 l3.length c3, .slice A4 l4.length c4] 51)).alloc (.cells #[.int .i64 a0, .int .i64 a1, .int .i64 a2, .slice B3 l3.length d3, .slice B4 l4.length d4] 51))) := Lib.hid (((Below.refl _ _).alloc (Nat.le_refl _) _).alloc (by simp) _)
  go_enter Try.func67, Try.ntmps67
  go_wp2_with fail
  refine (eqIntS_any A3 B3 l3.length c3 d3 l3 _ (by omega) (H3.out.below HW.out) (G3.out.below HW.out)).mono ?_
  rintro e w3 ⟨rfl, q3, rfl⟩
  have HW := Lib.hid (below_toN HW.out q3)
  go_wp2_with fail
  refine (eqIntS_any A4 B4 l4.length c4 d4 l4 _ (by omega) (H4.out.below HW.out) (G4.out.below HW.out)).mono ?_
  rintro e w4 ⟨rfl, q4, rfl⟩
  have HW := Lib.hid (below_toN HW.out q4)
  go_wp2
  go_ret
  exact ⟨rfl, by first | exact HW.out | simpa using HW.out⟩
set_option maxHeartbeats 2000000 in
theorem eqEntryS_any (A B : Option Addr) (n c c' : Nat) (L : List EntryT) (w : World) (hn : n ≤ 1000000000000) (hl : ∀ x ∈ L, lenE 1000000000 x) (h : Reads2 w 5 A n (rowsE L)) (h' : Reads2 w 5 B n (rowsE L)) :
    Calls Try.prog 16 #[.slice A n c, .slice B n c'] w fun e w' => e = .returned (.bool true) ∧ Below w.heap.size w w' := by
  have HX := Lib.hid (show L.length = n by have := h.len; rw [length_rowsE] at this; omega)
  have HL := Lib.hid hl
  have H := Lib.hid h
  have H' := Lib.hid h'
  clear h h' hl
  go_enter Try.func16, Try.ntmps16
  go_wp2
  go_loopw [5] (fun i wr => ∃ k : Nat, k ≤ n ∧ i = .int .i64 k ∧ Below w.heap.size w wr) (fun i _ => n - (intOf i).toNat)
  case atStart => exact ⟨0, Nat.zero_le _, rfl, Below.refl _ _⟩
  case round =>
    obtain ⟨q, hk, rfl, hb⟩ := hrel
    have HB := Lib.hid hb; clear hb
    by_cases hlt : q < n
    · have hx : q < L.length := by rw [HX.out]; exact hlt
      obtain ⟨ad, A3, c3, A4, c4, rfl, k0, k1, k2, k3, k4, r3, r4⟩ := rowsE_at (H.out.below HB.out) hx
      obtain ⟨ad', B3, d3, B4, d4, rfl, j0, j1, j2, j3, j4, s3, s4⟩ := rowsE_at (H'.out.below HB.out) hx
      have HXL := Lib.hid (HL.out L[q] (List.getElem_mem hx))
      generalize L[q] = x at *
      obtain ⟨a0, a1, a2, l3, l4⟩ := x
      simp only at k0 k1 k2 k3 k4 j0 j1 j2 j3 j4 r3 s3 r4 s4
      have HR3 := Lib.hid r3; clear r3
      have HS3 := Lib.hid s3; clear s3
      have HR4 := Lib.hid r4; clear r4
      have HS4 := Lib.hid s4; clear s4
      go_wp2
      go_region_with (go_at_call 67; refine (eqEntry_any a0 a1 a2 A3 c3 B3 d3 l3 A4 c4 B4 d4 l4 _ (by have := HXL.out; unfold lenE at this; simp only at this; omega) HR3.out.drew HS3.out.drew (by have := HXL.out; unfold lenE at this; simp only at this; omega) HR4.out.drew HS4.out.drew).mono ?_; rintro e w1 ⟨rfl, hb1⟩; have HB1 := Lib.hid hb1; clear hb1)
      all_goals
        go_wp2
        go_roundw
        case rel => exact ⟨q + 1, by omega, by go_num, HB.out.drew.trans (HB1.out.mono HB.out.size)⟩
        case measure => simp [intOf]; omega
    · go_wp2
      go_ret
      exact ⟨rfl, HB.out⟩
theorem szEntry_any (a0 a1 a2 : Int) (A3 : Option Addr) (c3 : Nat) (l3 : List Int) (A4 : Option Addr) (c4 : Nat) (l4 : List Int) (left : Nat) (w : World) (n3 : l3.length ≤ 9223372036854775807) (n4 : l4.length ≤ 9223372036854775807) (h2 : left ≤ 1000000000) :
    Calls Try.prog 59 #[.agg #[.int .i64 a0, .int .i64 a1, .int .i64 a2, .slice A3 l3.length c3, .slice A4 l4.length c4], .int .i64 left] w fun e w' => e = .returned (.int .i64 (if left < l3.length + l4.length then -1 else (left : Int) - (l3.length + l4.length : Nat))) ∧ Below w.heap.size w w' := by
  have C1 := szIntS2_any A3 l3.length c3 left (w.alloc (.cells #[.int .i64 a0, .int .i64 a1, .int .i64 a2, .slice A3 l3.length c3, .slice A4 l4.length c4] 77)) n3 h2
  by_cases h : left < l3.length
  · rw [if_pos h] at C1
    rw [if_pos (by omega)]
    have C2 := Lib.hid C1
    clear C1
    go_enter Try.func59, Try.ntmps59
    go_wp2_with (go_at_call 94; refine (C2.out).mono ?_; rintro e w' ⟨rfl, rfl⟩)
    go_ret
    exact ⟨rfl, (Below.refl _ _).alloc (Nat.le_refl _) _⟩
  · rw [if_neg h] at C1
    obtain ⟨r, rfl⟩ : ∃ r, left = l3.length + r := ⟨left - l3.length, by omega⟩
    have er : ((l3.length + r : Nat) : Int) - (l3.length : Int) = (r : Int) := by omega
    rw [er] at C1
    have C2 := Lib.hid C1
    have D1 := szIntS2_any A4 l4.length c4 r (w.alloc (.cells #[.int .i64 a0, .int .i64 a1, .int .i64 a2, .slice A3 l3.length c3, .slice A4 l4.length c4] 77)) n4 (by omega)
    clear C1 er
    by_cases h3 : r < l4.length
    all_goals
      first | (rw [if_pos h3] at D1; rw [if_pos (by omega)]) | (rw [if_neg h3] at D1; rw [if_neg (by omega)])
      have D2 := Lib.hid D1
      clear D1
      go_enter Try.func59, Try.ntmps59
      go_wp2_with fail
      refine (C2.out).mono ?_
      rintro e w' ⟨rfl, rfl⟩
      go_wp2_with fail
      refine (D2.out).mono ?_
      rintro e w' ⟨rfl, rfl⟩
      go_wp2
      go_ret
      exact ⟨ret_int (by omega), (Below.refl _ _).alloc (Nat.le_refl _) _⟩
set_option maxHeartbeats 1000000 in
theorem szEntryS_any (A : Option Addr) (n c : Nat) (L : List EntryT) (left : Nat) (w : World) (hn : n ≤ 9223372036854775807) (h2 : left ≤ 1000000000) (hl : ∀ x ∈ L, lenE 9223372036854775807 x) (h : Reads2 w 5 A n (rowsE L)) :
    Calls Try.prog 11 #[.slice A n c, .int .i64 left] w fun e w' => e = .returned (.int .i64 (if left < n + totE L then -1 else (left : Int) - (n + totE L : Nat))) ∧ Below w.heap.size w w' := by
  have HX := Lib.hid (show L.length = n by have := h.len; rw [length_rowsE] at this; omega)
  have HL := Lib.hid hl
  have H := Lib.hid h
  clear h hl
  by_cases hnl : left < n
  · rw [if_pos (by omega)]
    go_enter Try.func11, Try.ntmps11
    go_wp2
    go_ret
    exact ⟨rfl, Below.refl _ _⟩
  · obtain ⟨res, hres⟩ : ∃ res : Int, res = (if left < n + totE L then -1 else (left : Int) - (n + totE L : Nat)) := ⟨_, rfl⟩
    rw [← hres]
    have HRES := Lib.hid hres
    clear hres
    go_enter Try.func11, Try.ntmps11
    go_wp2
    go_loopw [1, 5] (fun q i wr => ∃ k r : Nat, k ≤ n ∧ i = .int .i64 k ∧ q = .int .i64 (r : Int) ∧ n + totE (L.take k) + r = left ∧ Below w.heap.size w wr) (fun _ i _ => n - (intOf i).toNat)
    case atStart => exact ⟨0, left - n, Nat.zero_le _, rfl, by go_num, by simp [totE]; omega, Below.refl _ _⟩
    case round =>
      obtain ⟨q, r, hk, rfl, rfl, hrel, hb⟩ := hrel
      have HR := Lib.hid hrel; clear hrel
      have HB := Lib.hid hb; clear hb
      have hrl : r ≤ 1000000000 := by have := HR.out; omega
      by_cases hlt : q < n
      · have hx : q < L.length := by rw [HX.out]; exact hlt
        obtain ⟨ad, A3, c3, A4, c4, rfl, k0, k1, k2, k3, k4, _, _⟩ := rowsE_at (H.out.below HB.out) hx
        have HT := Lib.hid (totE_succ hx)
        have HTT := Lib.hid (totE_le L (q + 1))
        have HXL := Lib.hid (HL.out L[q] (List.getElem_mem hx))
        generalize L[q] = x at *
        obtain ⟨a0, a1, a2, l3, l4⟩ := x
        simp only at k0 k1 k2 k3 k4 HT
        have C1 := szEntry_any a0 a1 a2 A3 c3 l3 A4 c4 l4 r wr (by have := HXL.out; unfold lenE at this; simp only at this; omega) (by have := HXL.out; unfold lenE at this; simp only at this; omega) hrl
        by_cases hrr : r < l3.length + l4.length
        · rw [if_pos hrr] at C1
          have C2 := Lib.hid C1
          have HE : Hid (res = -1) := Lib.hid (by rw [HRES.out, if_pos (by have := HTT.out; have := HT.out; have := HR.out; omega)])
          clear C1 hrr
          go_wp2_with (go_at_call 59; refine (C2.out).mono ?_; rintro e w' ⟨rfl, hb1⟩; have HB1 := Lib.hid hb1; clear hb1)
          go_ret
          exact ⟨ret_int HE.out.symm, HB.out.trans (HB1.out.mono HB.out.size)⟩
        · rw [if_neg hrr] at C1
          obtain ⟨r2, rfl⟩ : ∃ r2, r = l3.length + l4.length + r2 := ⟨r - (l3.length + l4.length), by omega⟩
          have er : ((l3.length + l4.length + r2 : Nat) : Int) - ((l3.length + l4.length : Nat) : Int) = (r2 : Int) := by omega
          rw [er] at C1
          have C2 := Lib.hid C1
          clear C1 er
          go_wp2_with fail
          refine (C2.out).mono ?_
          rintro e w' ⟨rfl, hb1⟩
          have HB1 := Lib.hid hb1; clear hb1
          go_wp2
          go_roundw
          case rel => exact ⟨q + 1, r2, by omega, by go_num, rfl, by have := HT.out; have := HR.out; omega, HB.out.trans (HB1.out.mono HB.out.size)⟩
          case measure => simp [intOf]; omega
      · obtain rfl : q = n := by omega
        have HT := Lib.hid (totE_all (L := L) (k := q) (by rw [HX.out]; exact Nat.le_refl _))
        go_wp2
        go_ret
        exact ⟨ret_int (by have h1 := HT.out; have h2 := HR.out; rw [HRES.out, if_neg (by omega)]; omega), HB.out⟩
theorem szEntryS_okI (A : Option Addr) (n c : Nat) (L : List EntryT) (left : Int) (s : Nat) (w : World) (h0 : 0 ≤ left) (h2 : left ≤ 1000000000) (h1 : (s : Int) ≤ left) (hn : n ≤ 9223372036854775807) (hs : s = n + totE L) (hl : ∀ x ∈ L, lenE 9223372036854775807 x) (h : Reads2 w 5 A n (rowsE L)) :
    Calls Try.prog 11 #[.slice A n c, .int .i64 left] w fun e w' => e = .returned (.int .i64 (left - (s : Int))) ∧ Below w.heap.size w w' := by
  obtain ⟨m, rfl⟩ := Int.eq_ofNat_of_zero_le h0
  have := szEntryS_any A n c L m w hn (by omega) hl h
  rw [← hs, if_neg (by omega)] at this
  exact this
theorem szEntryS_bigI (A : Option Addr) (n c : Nat) (L : List EntryT) (left : Int) (s : Nat) (w : World) (h0 : 0 ≤ left) (h2 : left ≤ 1000000000) (h1 : left < (s : Int)) (hn : n ≤ 9223372036854775807) (hs : s = n + totE L) (hl : ∀ x ∈ L, lenE 9223372036854775807 x) (h : Reads2 w 5 A n (rowsE L)) :
    Calls Try.prog 11 #[.slice A n c, .int .i64 left] w fun e w' => e = .returned (.int .i64 (-1)) ∧ Below w.heap.size w w' := by
  obtain ⟨m, rfl⟩ := Int.eq_ofNat_of_zero_le h0
  have := szEntryS_any A n c L m w hn (by omega) hl h
  rw [← hs, if_pos (by omega)] at this
  exact this

end Go.Proofs.Ytcjmlakmigfkfaa

namespace Go.Proofs.Ytcjmlakmigfkfaa
set_option linter.unusedSimpArgs false
set_option linter.unusedVariables false
open Go.RowKit

/-- The worlds that leave alone what S holds. -/
def InB (S : World) : Type := {V : World // Below S.heap.size S V}
instance (S : World) : Nonempty (InB S) := ⟨⟨S, Below.refl _ _⟩⟩
theorem wp_region_below {P : Program} {id : Nat} {Q : Exit → Act → World → Prop} {a : Act} {w : World} {l : List Oper} (S : World) (hm : P.follows .mixedOrders = true) (hB : Region.lexB .any l.toArray = true) (hw : Below S.heap.size S w)
    (h : wpQuiet P l.toArray (fun w' => ∃ V : InB S, w' = V.1) (fun a' => ∀ w', (∃ V : InB S, w' = V.1) → Q .normal a' w') l a) : (Code.region id l.toArray true).wp P Q a w :=
  wp_region_quiet (C := fun w' => ∃ V : InB S, w' = V.1) hm hB ⟨⟨_, hw.drew⟩, rfl⟩ (by simpa using h)
theorem bel_of {P : Program} {f : FuncId} {args : Array Value} {S : World} {V : InB S} {v : Value} (h : Calls P f args V.1 fun e w' => e = .returned v ∧ Below V.1.heap.size V.1 w') : Calls P f args V.1 fun e w'' => e = .returned v ∧ ∃ V' : InB S, w'' = V'.1 :=
  h.mono fun _ w' ⟨he, hb⟩ => ⟨he, ⟨w', V.2.trans (hb.mono V.2.size)⟩, rfl⟩
theorem bel_same {P : Program} {f : FuncId} {args : Array Value} {S : World} {V : InB S} {v : Value} (h : Calls P f args V.1 fun e w' => e = .returned v ∧ V.1 = w') : Calls P f args V.1 fun e w'' => e = .returned v ∧ ∃ V' : InB S, w'' = V'.1 :=
  h.mono fun _ _ ⟨he, hb⟩ => ⟨he, V, hb.symm⟩
theorem bel_quiet {P : Program} {f : FuncId} {args : Array Value} {S : World} {V : InB S} {v : Value} (h : Calls P f args V.1 fun e w' => e = .returned v ∧ Quiet V.1 w') : Calls P f args V.1 fun e w'' => e = .returned v ∧ ∃ V' : InB S, w'' = V'.1 :=
  bel_of (h.mono fun _ _ ⟨he, hq⟩ => ⟨he, below_of_quiet hq⟩)
theorem InB.cell {S : World} (V : InB S) {p : Addr} {u : Value} (h : S.cell? p = some u) : V.1.cell? p = some u := (V.2.cell (World.block_lt_of_cell? S p h)).trans h
theorem InB.reads {S : World} (V : InB S) {k n : Nat} {A : Option Addr} {xs : List Value} (h : Reads S k A n xs) : Reads V.1 k A n xs := h.below V.2
end Go.Proofs.Ytcjmlakmigfkfaa

namespace Go.Proofs.Ytcjmlakmigfkfaa
set_option linter.unusedSimpArgs false
set_option linter.unusedVariables false
open Go.RowKit

def sigB (l : List Int) : Bool := inB (l.length : Int) 1 8 && allB 0 63 l
def entB (x : EntryT) : Bool := inB x.1 0 10000 && (inB x.2.1 1 999 && (inB x.2.2.1 0 8 && (sigB x.2.2.2.1 && sigB x.2.2.2.2)))
def isE (m p : Int) (x : EntryT) : Bool := (x.2.1 == m) && (x.2.2.1 == p)
/-- The first index whose element has the property, -1 if there is none. -/
def idxP {α : Type} (p : α → Bool) : List α → Int → Int
  | [], _ => -1
  | x :: r, i => if p x then i else idxP p r (i + 1)
theorem lgSignals_any (A : Option Addr) (c : Nat) (l : List Int) (w : World) (hn : l.length ≤ 1000000000) (h : Reads w 1 A l.length (ints l)) :
    Calls Try.prog 112 #[.slice A l.length c] w fun e w' => e = .returned (.bool (sigB l)) ∧ w = w' := by
  have CA := Lib.hid (l1All_any A l.length c l 0 63 w (by omega) h)
  clear h
  cases h1 : inB (l.length : Int) 1 8 with
  | false =>
    go_enter Try.func112, Try.ntmps112
    go_wp2_with (go_at_call 84; refine (l1In_any _ _ _ _).mono ?_; rintro e w' ⟨rfl, rfl⟩)
    go_ret
    exact ⟨ret_bool (by simp [sigB, h1]), rfl⟩
  | true =>
    cases h2 : allB 0 63 l with
    | false =>
      rw [h2] at CA
      have H2 := Lib.hid h2; clear h2
      go_enter Try.func112, Try.ntmps112
      go_wp2_with (first | (go_at_call 84; refine (l1In_any _ _ _ _).mono ?_; rintro e w' ⟨rfl, rfl⟩) | (go_at_call 119; refine (CA.out).mono ?_; rintro e w' ⟨rfl, rfl⟩))
      go_ret
      exact ⟨ret_bool (by simp [sigB, H2.out]), rfl⟩
    | true =>
      rw [h2] at CA
      have H2 := Lib.hid h2; clear h2
      go_enter Try.func112, Try.ntmps112
      go_wp2_with (first | (go_at_call 84; refine (l1In_any _ _ _ _).mono ?_; rintro e w' ⟨rfl, rfl⟩) | (go_at_call 119; refine (CA.out).mono ?_; rintro e w' ⟨rfl, rfl⟩))
      go_ret
      exact ⟨ret_bool (by simp [sigB, h1, H2.out]), rfl⟩

set_option maxHeartbeats 4000000 in
set_option maxRecDepth 100000 in
theorem lgEntry_any (t m p : Int) (A2 A3 : Option Addr) (c2 c3 : Nat) (l l' : List Int) (w : World) (hl : l.length ≤ 1000000000) (hl' : l'.length ≤ 1000000000) (h : Reads w 1 A2 l.length (ints l)) (h' : Reads w 1 A3 l'.length (ints l')) :
    Calls Try.prog 95 #[.agg #[.int .i64 t, .int .i64 m, .int .i64 p, .slice A2 l.length c2, .slice A3 l'.length c3]] w fun e w' => e = .returned (.bool (entB (t, m, p, l, l'))) ∧ Below w.heap.size w w' := by
  have C1 := Lib.hid (lgSignals_any A2 c2 l (w.alloc (.cells #[.int .i64 t, .int .i64 m, .int .i64 p, .slice A2 l.length c2, .slice A3 l'.length c3] 51)) hl (h.alloc _))
  have C2 := Lib.hid (lgSignals_any A3 c3 l' (w.alloc (.cells #[.int .i64 t, .int .i64 m, .int .i64 p, .slice A2 l.length c2, .slice A3 l'.length c3] 51)) hl' (h'.alloc _))
  clear h h'
  cases h1 : inB t 0 10000 with
  | false =>
    go_enter Try.func95, Try.ntmps95
    go_wp2_with (first | (go_at_call 84; refine (l1In_any _ _ _ _).mono ?_; rintro e w' ⟨rfl, rfl⟩) | (go_at_call_of 112 (Value.slice A2 l.length c2); refine (C1.out).mono ?_; rintro e w' ⟨rfl, rfl⟩) | (go_at_call_of 112 (Value.slice A3 l'.length c3); refine (C2.out).mono ?_; rintro e w' ⟨rfl, rfl⟩))
    go_ret
    exact ⟨ret_bool (by simp [entB, h1]), (Below.refl _ _).alloc (Nat.le_refl _) _⟩
  | true =>
    cases h2 : inB m 1 999 with
    | false =>
      go_enter Try.func95, Try.ntmps95
      go_wp2_with (first | (go_at_call 84; refine (l1In_any _ _ _ _).mono ?_; rintro e w' ⟨rfl, rfl⟩) | (go_at_call_of 112 (Value.slice A2 l.length c2); refine (C1.out).mono ?_; rintro e w' ⟨rfl, rfl⟩) | (go_at_call_of 112 (Value.slice A3 l'.length c3); refine (C2.out).mono ?_; rintro e w' ⟨rfl, rfl⟩))
      go_ret
      exact ⟨ret_bool (by simp [entB, h2]), (Below.refl _ _).alloc (Nat.le_refl _) _⟩
    | true =>
      cases h3 : inB p 0 8 with
      | false =>
        go_enter Try.func95, Try.ntmps95
        go_wp2_with (first | (go_at_call 84; refine (l1In_any _ _ _ _).mono ?_; rintro e w' ⟨rfl, rfl⟩) | (go_at_call_of 112 (Value.slice A2 l.length c2); refine (C1.out).mono ?_; rintro e w' ⟨rfl, rfl⟩) | (go_at_call_of 112 (Value.slice A3 l'.length c3); refine (C2.out).mono ?_; rintro e w' ⟨rfl, rfl⟩))
        go_ret
        exact ⟨ret_bool (by simp [entB, h3]), (Below.refl _ _).alloc (Nat.le_refl _) _⟩
      | true =>
        cases h4 : sigB l with
        | false =>
          rw [h4] at C1
          go_enter Try.func95, Try.ntmps95
          go_wp2_with (first | (go_at_call 84; refine (l1In_any _ _ _ _).mono ?_; rintro e w' ⟨rfl, rfl⟩) | (go_at_call_of 112 (Value.slice A2 l.length c2); refine (C1.out).mono ?_; rintro e w' ⟨rfl, rfl⟩) | (go_at_call_of 112 (Value.slice A3 l'.length c3); refine (C2.out).mono ?_; rintro e w' ⟨rfl, rfl⟩))
          go_ret
          exact ⟨ret_bool (by simp [entB, h4]), (Below.refl _ _).alloc (Nat.le_refl _) _⟩
        | true =>
          cases h5 : sigB l' with
          | false =>
            rw [h4] at C1
            rw [h5] at C2
            go_enter Try.func95, Try.ntmps95
            go_wp2_with (first | (go_at_call 84; refine (l1In_any _ _ _ _).mono ?_; rintro e w' ⟨rfl, rfl⟩) | (go_at_call_of 112 (Value.slice A2 l.length c2); refine (C1.out).mono ?_; rintro e w' ⟨rfl, rfl⟩) | (go_at_call_of 112 (Value.slice A3 l'.length c3); refine (C2.out).mono ?_; rintro e w' ⟨rfl, rfl⟩))
            go_ret
            exact ⟨ret_bool (by simp [entB, h5]), (Below.refl _ _).alloc (Nat.le_refl _) _⟩
          | true =>
            rw [h4] at C1
            rw [h5] at C2
            go_enter Try.func95, Try.ntmps95
            go_wp2_with (first | (go_at_call 84; refine (l1In_any _ _ _ _).mono ?_; rintro e w' ⟨rfl, rfl⟩) | (go_at_call_of 112 (Value.slice A2 l.length c2); refine (C1.out).mono ?_; rintro e w' ⟨rfl, rfl⟩) | (go_at_call_of 112 (Value.slice A3 l'.length c3); refine (C2.out).mono ?_; rintro e w' ⟨rfl, rfl⟩))
            go_ret
            exact ⟨ret_bool (by simp [entB, h1, h2, h3, h4, h5]), (Below.refl _ _).alloc (Nat.le_refl _) _⟩

set_option maxHeartbeats 4000000 in
set_option maxRecDepth 100000 in
theorem isEntry_any (t m p : Int) (A2 A3 : Option Addr) (c2 c3 : Nat) (l l' : List Int) (w : World) (hl : l.length ≤ 1000000000) (hl' : l'.length ≤ 1000000000) (h : Reads w 1 A2 l.length (ints l)) (h' : Reads w 1 A3 l'.length (ints l')) :
    Calls Try.prog 82 #[.agg #[.int .i64 t, .int .i64 m, .int .i64 p, .slice A2 l.length c2, .slice A3 l'.length c3]] w fun e w' => e = .returned (.bool (entB (t, m, p, l, l'))) ∧ Below w.heap.size w w' := by
  have C1 := Lib.hid (allWithin_any A2 l.length c2 l 0 63 (w.alloc (.cells #[.int .i64 t, .int .i64 m, .int .i64 p, .slice A2 l.length c2, .slice A3 l'.length c3] 51)) (by omega) (h.alloc _))
  have C2 := Lib.hid (allWithin_any A3 l'.length c3 l' 0 63 (w.alloc (.cells #[.int .i64 t, .int .i64 m, .int .i64 p, .slice A2 l.length c2, .slice A3 l'.length c3] 51)) (by omega) (h'.alloc _))
  clear h h'
  cases h1 : inB t 0 10000 with
  | false =>
    go_enter Try.func82, Try.ntmps82
    go_wp2_with (first | (go_at_call 83; refine (within_any _ _ _ _).mono ?_; rintro e w' ⟨rfl, rfl⟩) | (go_at_call_of 91 (Value.slice A2 l.length c2); refine (C1.out).mono ?_; rintro e w' ⟨rfl, rfl⟩) | (go_at_call_of 91 (Value.slice A3 l'.length c3); refine (C2.out).mono ?_; rintro e w' ⟨rfl, rfl⟩))
    go_ret
    exact ⟨ret_bool (by simp [entB, sigB, h1]), (Below.refl _ _).alloc (Nat.le_refl _) _⟩
  | true =>
    cases h2 : inB m 1 999 with
    | false =>
      go_enter Try.func82, Try.ntmps82
      go_wp2_with (first | (go_at_call 83; refine (within_any _ _ _ _).mono ?_; rintro e w' ⟨rfl, rfl⟩) | (go_at_call_of 91 (Value.slice A2 l.length c2); refine (C1.out).mono ?_; rintro e w' ⟨rfl, rfl⟩) | (go_at_call_of 91 (Value.slice A3 l'.length c3); refine (C2.out).mono ?_; rintro e w' ⟨rfl, rfl⟩))
      go_ret
      exact ⟨ret_bool (by simp [entB, sigB, h2]), (Below.refl _ _).alloc (Nat.le_refl _) _⟩
    | true =>
      cases h3 : inB p 0 8 with
      | false =>
        go_enter Try.func82, Try.ntmps82
        go_wp2_with (first | (go_at_call 83; refine (within_any _ _ _ _).mono ?_; rintro e w' ⟨rfl, rfl⟩) | (go_at_call_of 91 (Value.slice A2 l.length c2); refine (C1.out).mono ?_; rintro e w' ⟨rfl, rfl⟩) | (go_at_call_of 91 (Value.slice A3 l'.length c3); refine (C2.out).mono ?_; rintro e w' ⟨rfl, rfl⟩))
        go_ret
        exact ⟨ret_bool (by simp [entB, sigB, h3]), (Below.refl _ _).alloc (Nat.le_refl _) _⟩
      | true =>
        cases h4 : inB (l.length : Int) 1 8 with
        | false =>
          go_enter Try.func82, Try.ntmps82
          go_wp2_with (first | (go_at_call 83; refine (within_any _ _ _ _).mono ?_; rintro e w' ⟨rfl, rfl⟩) | (go_at_call_of 91 (Value.slice A2 l.length c2); refine (C1.out).mono ?_; rintro e w' ⟨rfl, rfl⟩) | (go_at_call_of 91 (Value.slice A3 l'.length c3); refine (C2.out).mono ?_; rintro e w' ⟨rfl, rfl⟩))
          go_ret
          exact ⟨ret_bool (by simp [entB, sigB, h4]), (Below.refl _ _).alloc (Nat.le_refl _) _⟩
        | true =>
          cases h5 : allB 0 63 l with
          | false =>
            rw [h5] at C1
            go_enter Try.func82, Try.ntmps82
            go_wp2_with (first | (go_at_call 83; refine (within_any _ _ _ _).mono ?_; rintro e w' ⟨rfl, rfl⟩) | (go_at_call_of 91 (Value.slice A2 l.length c2); refine (C1.out).mono ?_; rintro e w' ⟨rfl, rfl⟩) | (go_at_call_of 91 (Value.slice A3 l'.length c3); refine (C2.out).mono ?_; rintro e w' ⟨rfl, rfl⟩))
            go_ret
            exact ⟨ret_bool (by simp [entB, sigB, h5]), (Below.refl _ _).alloc (Nat.le_refl _) _⟩
          | true =>
            cases h6 : inB (l'.length : Int) 1 8 with
            | false =>
              rw [h5] at C1
              go_enter Try.func82, Try.ntmps82
              go_wp2_with (first | (go_at_call 83; refine (within_any _ _ _ _).mono ?_; rintro e w' ⟨rfl, rfl⟩) | (go_at_call_of 91 (Value.slice A2 l.length c2); refine (C1.out).mono ?_; rintro e w' ⟨rfl, rfl⟩) | (go_at_call_of 91 (Value.slice A3 l'.length c3); refine (C2.out).mono ?_; rintro e w' ⟨rfl, rfl⟩))
              go_ret
              exact ⟨ret_bool (by simp [entB, sigB, h6]), (Below.refl _ _).alloc (Nat.le_refl _) _⟩
            | true =>
              cases h7 : allB 0 63 l' with
              | false =>
                rw [h5] at C1
                rw [h7] at C2
                go_enter Try.func82, Try.ntmps82
                go_wp2_with (first | (go_at_call 83; refine (within_any _ _ _ _).mono ?_; rintro e w' ⟨rfl, rfl⟩) | (go_at_call_of 91 (Value.slice A2 l.length c2); refine (C1.out).mono ?_; rintro e w' ⟨rfl, rfl⟩) | (go_at_call_of 91 (Value.slice A3 l'.length c3); refine (C2.out).mono ?_; rintro e w' ⟨rfl, rfl⟩))
                go_ret
                exact ⟨ret_bool (by simp [entB, sigB, h7]), (Below.refl _ _).alloc (Nat.le_refl _) _⟩
              | true =>
                rw [h5] at C1
                rw [h7] at C2
                go_enter Try.func82, Try.ntmps82
                go_wp2_with (first | (go_at_call 83; refine (within_any _ _ _ _).mono ?_; rintro e w' ⟨rfl, rfl⟩) | (go_at_call_of 91 (Value.slice A2 l.length c2); refine (C1.out).mono ?_; rintro e w' ⟨rfl, rfl⟩) | (go_at_call_of 91 (Value.slice A3 l'.length c3); refine (C2.out).mono ?_; rintro e w' ⟨rfl, rfl⟩))
                go_ret
                exact ⟨ret_bool (by simp [entB, sigB, h1, h2, h3, h4, h5, h6, h7]), (Below.refl _ _).alloc (Nat.le_refl _) _⟩

set_option maxHeartbeats 4000000 in
set_option maxRecDepth 100000 in
theorem lgFind_any (A : Option Addr) (n c : Nat) (L : List EntryT) (m p : Int) (w : World) (hn : n ≤ 1000000000) (h : Reads2 w 5 A n (rowsE L)) :
    Calls Try.prog 75 #[.slice A n c, .int .i64 m, .int .i64 p] w fun e w' => e = .returned (.int .i64 (idxP (isE m p) L 0)) ∧ Below w.heap.size w w' := by
  have HX := Lib.hid (show L.length = n by have := h.len; rw [length_rowsE] at this; omega)
  have H := Lib.hid h
  clear h
  go_enter Try.func75, Try.ntmps75
  go_wp2
  go_loopw [11] (fun i wr => ∃ k : Nat, k ≤ n ∧ i = .int .i64 k ∧ idxP (isE m p) (L.drop k) (k : Int) = idxP (isE m p) L 0 ∧ Below w.heap.size w wr) (fun i _ => n - (intOf i).toNat)
  case atStart => exact ⟨0, Nat.zero_le _, rfl, rfl, Below.refl _ _⟩
  case round =>
    obtain ⟨k, hk, rfl, hrel, hb⟩ := hrel
    have HR := Lib.hid hrel; clear hrel
    have HB := Lib.hid hb; clear hb
    by_cases hlt : k < n
    · have hx : k < L.length := by rw [HX.out]; exact hlt
      have HD := Lib.hid (drop_cons hx)
      obtain ⟨ad, A3, A4, c3, c4, hAA⟩ : ∃ ad A3 A4 c3 c4, A = some ad ∧ wr.cell? (ad.add (k * 5)) = some (.int .i64 L[k].1) ∧ wr.cell? ⟨(ad.add (k * 5)).block, (ad.add (k * 5)).off + 1, none⟩ = some (.int .i64 L[k].2.1) ∧ wr.cell? ⟨(ad.add (k * 5)).block, (ad.add (k * 5)).off + 2, none⟩ = some (.int .i64 L[k].2.2.1) ∧ wr.cell? ⟨(ad.add (k * 5)).block, (ad.add (k * 5)).off + 3, none⟩ = some (.slice A3 L[k].2.2.2.1.length c3) ∧ wr.cell? ⟨(ad.add (k * 5)).block, (ad.add (k * 5)).off + 4, none⟩ = some (.slice A4 L[k].2.2.2.2.length c4) := by
        obtain ⟨ad, A3, c3, A4, c4, e, k0, k1, k2, k3, k4, _, _⟩ := rowsE_at (H.out.below HB.out) hx
        exact ⟨ad, A3, A4, c3, c4, e, k0, k1, k2, k3, k4⟩
      obtain ⟨rfl, k0, k1, k2, k3, k4⟩ := hAA
      generalize L[k] = x at *
      obtain ⟨xt, xm, xp, xl, xl'⟩ := x
      simp only at k0 k1 k2 k3 k4
      cases hm : (xm == m) with
      | false =>
        have HF : Hid (isE m p (xt, xm, xp, xl, xl') = false) := Lib.hid (by simp [isE, hm])
        go_wp2
        go_roundw
        case rel =>
          refine ⟨k + 1, by omega, by go_num, ?_, HB.out.trans ((Below.refl _ _).alloc HB.out.size _)⟩
          rw [← HR.out, HD.out]
          simp [idxP, HF.out]
        case measure => simp [intOf]; omega
      | true =>
        cases hp : (xp == p) with
        | false =>
          have HF : Hid (isE m p (xt, xm, xp, xl, xl') = false) := Lib.hid (by simp [isE, hm, hp])
          go_wp2
          go_roundw
          case rel =>
            refine ⟨k + 1, by omega, by go_num, ?_, HB.out.trans ((Below.refl _ _).alloc HB.out.size _)⟩
            rw [← HR.out, HD.out]
            simp [idxP, HF.out]
          case measure => simp [intOf]; omega
        | true =>
          have HF : Hid (isE m p (xt, xm, xp, xl, xl') = true) := Lib.hid (by simp [isE, hm, hp])
          go_wp2
          go_ret
          refine ⟨ret_int ?_, HB.out.trans ((Below.refl _ _).alloc HB.out.size _)⟩
          rw [← HR.out, HD.out]
          simp [idxP, HF.out]
    · have HE := Lib.hid (drop_end (xs := L) (k := k) (by rw [HX.out]; omega))
      go_wp2
      go_ret
      refine ⟨ret_int ?_, HB.out⟩
      rw [← HR.out, HE.out]
      rfl

end Go.Proofs.Ytcjmlakmigfkfaa
