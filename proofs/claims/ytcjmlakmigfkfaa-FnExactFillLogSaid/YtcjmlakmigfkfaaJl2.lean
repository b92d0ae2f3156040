/- cloneLog of the implementation. No conditions. -/
import Derived.Test.YtcjmlakmigfkfaaJl1
import Derived.Test.YtcjmlakmigfkfaaTick3
namespace Go.Proofs.Ytcjmlakmigfkfaa
set_option linter.unusedSimpArgs false
set_option linter.unusedVariables false
open Go.RowKit

set_option maxHeartbeats 1000000 in
/-- An entry of two fresh slices is written into its place. -/
theorem Own2.set_entry {w1 : World} {g b n q b3 b4 d3 d4 : Nat} {B3 B4 : Option Addr} {L : List EntryT} {old hs : List Value} {a0 a1 a2 : Int} {l3 l4 : List Int}
    (P0 : Own2 w1 g b 51 3 5 (some ⟨g, 0, none⟩) n n ((rowsE L).take (q * 5) ++ (old.map Sum.inl).drop (q * 5)) hs) (hgz : g < b) (hbz : b ≤ w1.heap.size) (hq : q < n) (hL : L.length = n) (hold : old.length = n * 5)
    (HG : ∀ j, j < 5 → (rowsE L)[q * 5 + j]? = (celEntry (a0, a1, a2, l3, l4))[j]?) (Q3_0 : w1.ownsRow b3 3 1 (.slice B3 l3.length d3) l3.length (ints l3)) (h3 : b ≤ b3) (Q4_0 : w1.ownsRow b4 3 1 (.slice B4 l4.length d4) l4.length (ints l4)) (h4 : b ≤ b4) (HAP : Go.Proofs.Ytcjmlakmigfkfaa.apart (.slice B3 l3.length d3) (.slice B4 l4.length d4)) :
    Own2 (((((w1.setCell ⟨g, q * 5, none⟩ (.int .i64 a0)).setCell ⟨g, q * 5 + 1, none⟩ (.int .i64 a1)).setCell ⟨g, q * 5 + 2, none⟩ (.int .i64 a2)).setCell ⟨g, q * 5 + 3, none⟩ (.slice B3 l3.length d3)).setCell ⟨g, q * 5 + 4, none⟩ (.slice B4 l4.length d4)) g w1.heap.size 51 3 5 (some ⟨g, 0, none⟩) n n ((rowsE L).take ((q + 1) * 5) ++ (old.map Sum.inl).drop ((q + 1) * 5))
      (((((hs.set (q * 5) (.int .i64 a0)).set (q * 5 + 1) (.int .i64 a1)).set (q * 5 + 2) (.int .i64 a2)).set (q * 5 + 3) (.slice B3 l3.length d3)).set (q * 5 + 4) (.slice B4 l4.length d4)) := by
  have N0 : hs.length = n * 5 := P0.row.1
  have D0' : ∀ (i : Nat) (v : Value), hs[i]? = some v → ∀ q, v.ownBlock = some q → q < b := fun i v hv q hq => (P0.bounds i v hv q hq).2
  have P1 := P0.put_plain (j := q * 5) (u := .int .i64 a0) (by rw [N0]; omega) rfl
  have D1' : ∀ (i : Nat) (v : Value), (hs.set (q * 5) (.int .i64 a0))[i]? = some v → ∀ q, v.ownBlock = some q → q < b := fun i v hv => by
    rcases set_cases hv with ⟨_, rfl⟩ | ⟨_, hv⟩
    · exact fun q hq => by cases hq
    · exact D0' i v hv
  have Q3_1 := own_setCell (b := g) (i := q * 5) (u := .int .i64 a0) Q3_0 (by omega)
  have Q4_1 := own_setCell (b := g) (i := q * 5) (u := .int .i64 a0) Q4_0 (by omega)
  have N1 : (hs.set (q * 5) (.int .i64 a0)).length = n * 5 := by simp [N0]
  have P2 := P1.put_plain (j := q * 5 + 1) (u := .int .i64 a1) (by rw [N1]; omega) rfl
  have D2' : ∀ (i : Nat) (v : Value), ((hs.set (q * 5) (.int .i64 a0)).set (q * 5 + 1) (.int .i64 a1))[i]? = some v → ∀ q, v.ownBlock = some q → q < b := fun i v hv => by
    rcases set_cases hv with ⟨_, rfl⟩ | ⟨_, hv⟩
    · exact fun q hq => by cases hq
    · exact D1' i v hv
  have Q3_2 := own_setCell (b := g) (i := q * 5 + 1) (u := .int .i64 a1) Q3_1 (by omega)
  have Q4_2 := own_setCell (b := g) (i := q * 5 + 1) (u := .int .i64 a1) Q4_1 (by omega)
  have N2 : ((hs.set (q * 5) (.int .i64 a0)).set (q * 5 + 1) (.int .i64 a1)).length = n * 5 := by simp [N0]
  have P3 := P2.put_plain (j := q * 5 + 2) (u := .int .i64 a2) (by rw [N2]; omega) rfl
  have D3' : ∀ (i : Nat) (v : Value), (((hs.set (q * 5) (.int .i64 a0)).set (q * 5 + 1) (.int .i64 a1)).set (q * 5 + 2) (.int .i64 a2))[i]? = some v → ∀ q, v.ownBlock = some q → q < b := fun i v hv => by
    rcases set_cases hv with ⟨_, rfl⟩ | ⟨_, hv⟩
    · exact fun q hq => by cases hq
    · exact D2' i v hv
  have Q3_3 := own_setCell (b := g) (i := q * 5 + 2) (u := .int .i64 a2) Q3_2 (by omega)
  have Q4_3 := own_setCell (b := g) (i := q * 5 + 2) (u := .int .i64 a2) Q4_2 (by omega)
  have N3 : (((hs.set (q * 5) (.int .i64 a0)).set (q * 5 + 1) (.int .i64 a1)).set (q * 5 + 2) (.int .i64 a2)).length = n * 5 := by simp [N0]
  have P4 := P3.put_apart (hi2 := w1.heap.size) (l := ints l3) (j := q * 5 + 3) (by rw [N3]; omega) l3.length (by simp) Q3_3 (by omega) (by omega) hbz (own_lt Q3_0) (fun i v _ hv => apart_of_lt (D3' i v hv) (fun q hq => Nat.le_trans h3 (Q3_3.lt q hq).1))
  have D4' : ∀ (i : Nat) (v : Value), ((((hs.set (q * 5) (.int .i64 a0)).set (q * 5 + 1) (.int .i64 a1)).set (q * 5 + 2) (.int .i64 a2)).set (q * 5 + 3) (.slice B3 l3.length d3))[i]? = some v → (∀ q, v.ownBlock = some q → q < b) ∨ v = .slice B3 l3.length d3 := fun i v hv => by
    rcases set_cases hv with ⟨_, rfl⟩ | ⟨_, hv⟩
    · exact .inr rfl
    · exact .inl (D3' i v hv)
  have Q4_4 := own_setCell (b := g) (i := q * 5 + 3) (u := .slice B3 l3.length d3) Q4_3 (by omega)
  have N4 : ((((hs.set (q * 5) (.int .i64 a0)).set (q * 5 + 1) (.int .i64 a1)).set (q * 5 + 2) (.int .i64 a2)).set (q * 5 + 3) (.slice B3 l3.length d3)).length = n * 5 := by simp [N0]
  have P5 := P4.put_apart (hi2 := w1.heap.size) (l := ints l4) (j := q * 5 + 4) (by rw [N4]; omega) l4.length (by simp) Q4_4 (by omega) (by omega) (Nat.le_refl _) (own_lt Q4_0) (fun i v _ hv => by
      rcases D4' i v hv with h | rfl
      · exact apart_of_lt h (fun q hq => Nat.le_trans h4 (Q4_4.lt q hq).1)
      · exact HAP)
  have N5 : (((((hs.set (q * 5) (.int .i64 a0)).set (q * 5 + 1) (.int .i64 a1)).set (q * 5 + 2) (.int .i64 a2)).set (q * 5 + 3) (.slice B3 l3.length d3)).set (q * 5 + 4) (.slice B4 l4.length d4)).length = n * 5 := by simp [N0]
  clear P0 P1 P2 P3 P4 D0' D1' D2' D3' D4'
  have T0 : (rowsE L)[q * 5]? = some (.inl (.int .i64 a0)) := by have h := HG 0 (by omega); simpa [celEntry] using h
  have T1 : (rowsE L)[q * 5 + 1]? = some (.inl (.int .i64 a1)) := by have h := HG 1 (by omega); simpa [celEntry] using h
  have T2 : (rowsE L)[q * 5 + 2]? = some (.inl (.int .i64 a2)) := by have h := HG 2 (by omega); simpa [celEntry] using h
  have T3 : (rowsE L)[q * 5 + 3]? = some (.inr (ints l3)) := by have h := HG 3 (by omega); simpa [celEntry] using h
  have T4 : (rowsE L)[q * 5 + 4]? = some (.inr (ints l4)) := by have h := HG 4 (by omega); simpa [celEntry] using h
  rw [two_set (n := n * 5) (by simp [hL]) (by simp [hold]) (by omega) T0, two_set (n := n * 5) (by simp [hL]) (by simp [hold]) (by omega) T1, two_set (n := n * 5) (by simp [hL]) (by simp [hold]) (by omega) T2, two_set (n := n * 5) (by simp [hL]) (by simp [hold]) (by omega) T3, two_set (n := n * 5) (by simp [hL]) (by simp [hold]) (by omega) T4] at P5
  rw [show q * 5 + 4 + 1 = (q + 1) * 5 by omega] at P5
  exact P5

set_option maxHeartbeats 4000000 in
set_option maxRecDepth 100000 in
theorem cloneLog_any (A : Option Addr) (n c : Nat) (L : List EntryT) (w : World) (hn : n ≤ 1000000000) (hl : ∀ x ∈ L, lenE 1000000000 x) (h : Reads2 w 5 A n (rowsE L)) :
    Calls Try.prog 101 #[.slice A n c] w fun e w' => ∃ g c' hs, e = .returned (.slice (some ⟨g, 0, none⟩) n c') ∧ Own2 w' w.heap.size w'.heap.size 51 3 5 (some ⟨g, 0, none⟩) n c' (rowsE L) hs ∧ Below w.heap.size w w' := by
  have HX := Lib.hid (show L.length = n by have := h.len; rw [length_rowsE] at this; omega)
  have HL := Lib.hid hl
  have H := Lib.hid h
  clear h hl
  go_enter Try.func101, Try.ntmps101
  go_wp2_with (at_make; refine wpList_mkP _ rfl (.tmp 7) (.tmp 7) 27 rfl w.heap.size 51 _ 5 _ infoEntry (by decide) Try.underlying27 (fun u => u.ownBlock = none) (by simp [Value.cells, Value.ownBlock]) _ _ _ _ n rfl rfl rfl rfl (by omega) (by omega) (Nat.le_refl _) ?_; intro w1 old hol hall hown1 hb1 hz1)
  have hown2 : Own2 w1 w.heap.size w1.heap.size 51 3 5 (some ⟨w.heap.size, 0, none⟩) n n ((rowsE L).take (0 * 5) ++ (old.map Sum.inl).drop (0 * 5)) old := by simpa using own2_plain (ei := 3) hown1 hz1 hall
  have HS0 := Lib.hid (And.intro hown2 (And.intro hb1 hz1))
  have HOL := Lib.hid hol
  clear hown1 hown2 hb1 hz1 hol hall
  generalize hg : w.heap.size = g at *
  go_loopw [11] (fun i wr => ∃ q hs, q ≤ n ∧ i = .int .i64 (q : Nat) ∧ Own2 wr g wr.heap.size 51 3 5 (some ⟨g, 0, none⟩) n n ((rowsE L).take (q * 5) ++ (old.map Sum.inl).drop (q * 5)) hs ∧ Below g w wr ∧ g < wr.heap.size) (fun i _ => n - (intOf i).toNat)
  case atStart => exact ⟨0, _, Nat.zero_le _, rfl, HS0.out.1, HS0.out.2.1, HS0.out.2.2⟩
  case round =>
    obtain ⟨q, hs, hk, rfl, hown, hb, hgz⟩ := hrel
    clear HS0
    have HO := Lib.hid hown; clear hown
    have HB := Lib.hid hb; clear hb
    have HGZ := Lib.hid hgz; clear hgz
    by_cases hlt : q < n
    · have hx : q < L.length := by rw [HX.out]; exact hlt
      obtain ⟨ad, A3, c3, A4, c4, rfl, k0, k1, k2, k3, k4, r3, r4⟩ := rowsE_at (H.out.keep (w' := wr) (fun p hp => HB.out.cell (by omega))) hx
      have HXL := Lib.hid (HL.out L[q] (List.getElem_mem hx))
      have HG : Hid (∀ j, j < 5 → (rowsE L)[q * 5 + j]? = (celEntry L[q])[j]?) := Lib.hid (fun j hj => rowsE_get hx hj)
      generalize L[q] = x at *
      obtain ⟨a0, a1, a2, l3, l4⟩ := x
      simp only at k0 k1 k2 k3 k4 r3 r4
      have HR3 := Lib.hid r3; clear r3
      have HR4 := Lib.hid r4; clear r4
      have hx3 : l3.length ≤ 1000000000 := by have := HXL.out; unfold lenE at this; exact this.1
      have hx4 : l4.length ≤ 1000000000 := by have := HXL.out; unfold lenE at this; exact this.2
      have HWS : Hid (Below wr.heap.size wr (wr.alloc (.cells #[.int .i64 a0, .int .i64 a1, .int .i64 a2, .slice A3 l3.length c3, .slice A4 l4.length c4] 51))) := Lib.hid ((Below.refl _ _).alloc (Nat.le_refl _) _)
      go_wp2_with fail
      clear k0 k1 k2 k3 k4
      obtain ⟨wx, hwx⟩ : ∃ wx, wx = wr.alloc (.cells #[.int .i64 a0, .int .i64 a1, .int .i64 a2, .slice A3 l3.length c3, .slice A4 l4.length c4] 51) := ⟨_, rfl⟩
      have HWX : Hid (Below wr.heap.size wr wx ∧ wx.heap.size = wr.heap.size + 1 ∧ wx.heap[wr.heap.size]? = some (.cells #[.int .i64 a0, .int .i64 a1, .int .i64 a2, .slice A3 l3.length c3, .slice A4 l4.length c4] 51)) := Lib.hid (by rw [hwx]; exact ⟨HWS.out, by simp, heap_alloc_new wr _⟩)
      rw [← hwx]
      clear hwx
      have x3 := box_at HWX.out.2.2 (j := 3) rfl
      have x4 := box_at HWX.out.2.2 (j := 4) rfl
      obtain ⟨x3, f3⟩ := x3
      obtain ⟨x4, f4⟩ := x4
      have HLX : Hid (wr.heap.size < wx.drew.heap.size) := Lib.hid (by have := HWX.out.2.1; show wr.heap.size < wx.heap.size; omega)
      have HWD : Hid (Below wr.heap.size wr wx.drew) := Lib.hid HWX.out.1.drew
      go_region_with (first | (go_at_call_of 98 (Value.slice A3 l3.length c3); refine (clone_any A3 l3.length c3 l3 wx.drew hx3 (HR3.out.below HWD.out)).mono ?_; rintro e wa ⟨Q3, q3, rfl, hoa, hba⟩; have HBA := Lib.hid (box_after hba HLX.out HWX.out.2.2); obtain ⟨y3, g3⟩ := box_at HBA.out (j := 3) rfl; obtain ⟨y4, g4⟩ := box_at HBA.out (j := 4) rfl; have HLA := Lib.hid (Nat.lt_of_lt_of_le HLX.out hba.size)) | (go_at_call_of 98 (Value.slice A4 l4.length c4); refine (clone_any A4 l4.length c4 l4 wa hx4 ((HR4.out.below HWD.out).below hba)).mono ?_; rintro e wb ⟨Q4, q4, rfl, hob, hbb⟩; have HBB := Lib.hid (box_after hbb HLA.out HBA.out); obtain ⟨z3, t3⟩ := box_at HBB.out (j := 3) rfl; obtain ⟨z4, t4⟩ := box_at HBB.out (j := 4) rfl))
      all_goals
        clear x3 x4 f3 f4 y3 y4 g3 g4 z3 z4 t3 t4
        have h1 := box_set (j := 3) (u := .slice Q3 l3.length q3) HBB.out
        have h2 := box_set (j := 4) (u := .slice Q4 l4.length q4) h1
        obtain ⟨wz, hwz⟩ : ∃ wz, wz = (wb.setCell ⟨wr.heap.size, 3, none⟩ (.slice Q3 l3.length q3)).setCell ⟨wr.heap.size, 4, none⟩ (.slice Q4 l4.length q4) := ⟨_, rfl⟩
        rw [← hwz] at h2 ⊢
        have hz : wz.heap.size = wb.heap.size := by rw [hwz]; simp
        have hsa := hba.size
        have hsb := hbb.size
        have hlx := HLX.out
        have hBz : Below wr.heap.size wr wz := by
          rw [hwz]
          exact (((HWD.out.trans (hba.mono (by omega))).trans (hbb.mono (by omega))).setCell (p := ⟨wr.heap.size, 3, none⟩) (Nat.le_refl _) _).setCell (p := ⟨wr.heap.size, 4, none⟩) (Nat.le_refl _) _
        have r3 : wz.ownsRow wx.drew.heap.size 3 1 (.slice Q3 l3.length q3) l3.length (ints l3) := by
          rw [hwz]
          exact own_setCell (b := wr.heap.size) (i := 4) (u := .slice Q4 l4.length q4) (own_setCell (b := wr.heap.size) (i := 3) (u := .slice Q3 l3.length q3) (own_below hoa hbb) hlx) hlx
        have r4 : wz.ownsRow wa.heap.size 3 1 (.slice Q4 l4.length q4) l4.length (ints l4) := by
          rw [hwz]
          exact own_setCell (b := wr.heap.size) (i := 4) (u := .slice Q4 l4.length q4) (own_setCell (b := wr.heap.size) (i := 3) (u := .slice Q3 l3.length q3) hob HLA.out) HLA.out
        have hap : apart (.slice Q3 l3.length q3) (.slice Q4 l4.length q4) := apart_of_lt (b := wa.heap.size) (fun q hq => (hoa.lt q hq).2) (fun q hq => (hob.lt q hq).1)
        have P0 := HO.out.below hBz (Nat.le_refl _)
        have HN := Lib.hid (Own2.set_entry P0 HGZ.out hBz.size hlt HX.out HOL.out HG.out r3 (by omega) r4 (by omega) hap)
        have hol : hs.length = n * 5 := P0.row.1
        have fc : ∀ j, q * 5 + j < n * 5 → ∃ o, wz.cell? ⟨g, q * 5 + j, none⟩ = some o := fun j hj => ⟨_, by rw [P0.row.cellAt _ (by omega)]; exact List.getElem?_eq_getElem (by rw [hol]; exact hj)⟩
        have hst : (∃ o0 o1 o2 o3 o4, wz.cell? ⟨g, q * 5, none⟩ = some o0 ∧ wz.cell? ⟨g, q * 5 + 1, none⟩ = some o1 ∧ wz.cell? ⟨g, q * 5 + 2, none⟩ = some o2 ∧ wz.cell? ⟨g, q * 5 + 3, none⟩ = some o3 ∧ wz.cell? ⟨g, q * 5 + 4, none⟩ = some o4) ∧ wz.frozen? ⟨g, q * 5, none⟩ = false ∧ wz.frozen? ⟨g, q * 5 + 1, none⟩ = false ∧ wz.frozen? ⟨g, q * 5 + 2, none⟩ = false ∧ wz.frozen? ⟨g, q * 5 + 3, none⟩ = false ∧ wz.frozen? ⟨g, q * 5 + 4, none⟩ = false := by
          obtain ⟨o0, e0⟩ := fc 0 (by omega)
          obtain ⟨o1, e1⟩ := fc 1 (by omega)
          obtain ⟨o2, e2⟩ := fc 2 (by omega)
          obtain ⟨o3, e3⟩ := fc 3 (by omega)
          obtain ⟨o4, e4⟩ := fc 4 (by omega)
          exact ⟨⟨o0, o1, o2, o3, o4, e0, e1, e2, e3, e4⟩, P0.row.frozenAt _, P0.row.frozenAt _, P0.row.frozenAt _, P0.row.frozenAt _, P0.row.frozenAt _⟩
        obtain ⟨⟨o0, o1, o2, o3, o4, e0, e1, e2, e3, e4⟩, p0, p1, p2, p3, p4⟩ := hst
        have hbx : wz.heap[wr.heap.size]? = some (.cells #[.int .i64 a0, .int .i64 a1, .int .i64 a2, .slice Q3 l3.length q3, .slice Q4 l4.length q4] 51) := by simpa using h2
        have HBX := Lib.hid hbx
        have HBZ := Lib.hid (HB.out.trans (hBz.mono (Nat.le_of_lt HGZ.out)))
        have HZ2 : Hid (g < wz.heap.size) := Lib.hid (by have := HGZ.out; omega)
        clear hwz hz hsa hsb hlx hBz r3 r4 hap P0 hol fc h1 h2 hbx hoa hob hba hbb HBA HBB HLA
        obtain ⟨v0, _⟩ := box_at HBX.out (j := 0) rfl
        obtain ⟨v1, _⟩ := box_at HBX.out (j := 1) rfl
        obtain ⟨v2, _⟩ := box_at HBX.out (j := 2) rfl
        obtain ⟨v3, _⟩ := box_at HBX.out (j := 3) rfl
        obtain ⟨v4, _⟩ := box_at HBX.out (j := 4) rfl
        have hqn : (q : Int) < (n : Int) := by omega
        go_wp2
        go_roundw
        case rel => exact ⟨q + 1, _, by omega, by go_num, by simpa using HN.out, ((((((HBZ.out).setCell (p := ⟨g, q * 5, none⟩) (Nat.le_refl _) _).setCell (p := ⟨g, q * 5 + 1, none⟩) (Nat.le_refl _) _).setCell (p := ⟨g, q * 5 + 2, none⟩) (Nat.le_refl _) _).setCell (p := ⟨g, q * 5 + 3, none⟩) (Nat.le_refl _) _).setCell (p := ⟨g, q * 5 + 4, none⟩) (Nat.le_refl _) _), by have := HZ2.out; simpa using this⟩
        case measure => simp [intOf]; omega
    · obtain rfl : q = n := by omega
      have ho := HO.out
      rw [two_end (by simp [HX.out]) (by simp [HOL.out])] at ho
      have HO2 := Lib.hid ho
      clear ho
      go_wp2
      go_ret
      subst hg
      exact ⟨_, _, _, rfl, HO2.out, HB.out⟩

end Go.Proofs.Ytcjmlakmigfkfaa
