/- An entry appended to entries of the call's own; lgOwn and lgIf of the spec. No conditions. -/
import Derived.Test.YtcjmlakmigfkfaaLog12
import Derived.Test.YtcjmlakmigfkfaaOwnP
import Derived.Test.YtcjmlakmigfkfaaClone
namespace Go.Proofs.Ytcjmlakmigfkfaa
set_option linter.unusedSimpArgs false
set_option linter.unusedVariables false
open Go.RowKit

theorem Own2.push_entry {w w' : World} {lo hi n n' c c' b3 b4 q3 q4 m3 m4 : Nat} {T : TypeId} {A A' Q3 Q4 : Option Addr} {cs : List Cel} {hs : List Value} {t m p : Int} {l l' : List Int} (h : Own2 w lo hi T 3 5 A n c cs hs) (hh : hi ≤ w.heap.size)
    (h3 : w.ownsRow b3 3 1 (.slice Q3 m3 q3) m3 (ints l)) (h4 : w.ownsRow b4 3 1 (.slice Q4 m4 q4) m4 (ints l')) (e3 : m3 = l.length) (e4 : m4 = l'.length) (hb3 : hi ≤ b3) (hb4 : hi ≤ b4) (hl3 : lo ≤ b3) (hl4 : lo ≤ b4) (hap : Go.Proofs.Ytcjmlakmigfkfaa.apart (.slice Q3 m3 q3) (.slice Q4 m4 q4))
    (hg : w.grownBy w' (Value.slice A n c).ownBlock) (hr : w'.ownsRow lo T 5 (.slice A' n' c') n' (hs ++ [.int .i64 t, .int .i64 m, .int .i64 p, .slice Q3 m3 q3, .slice Q4 m4 q4]))
    (hloc : (Value.slice A' n' c').ownBlock = (Value.slice A n c).ownBlock ∨ (Value.slice A' n' c').ownBlock = some w.heap.size) :
    Own2 w' lo w'.heap.size T 3 5 A' n' c' (cs ++ celEntry (t, m, p, l, l')) (hs ++ [.int .i64 t, .int .i64 m, .int .i64 p, .slice Q3 m3 q3, .slice Q4 m4 q4]) := by
  subst e3 e4
  refine h.push hg hr hloc hh rfl (fun q u x hu hx => ?_) (fun q u hu b hb => ?_) (fun q q' u v hne hu hv => ?_)
  · match q with
    | 0 => simp [celEntry] at hu hx; subst hu; subst hx; rfl
    | 1 => simp [celEntry] at hu hx; subst hu; subst hx; rfl
    | 2 => simp [celEntry] at hu hx; subst hu; subst hx; rfl
    | 3 => simp [celEntry] at hu hx; subst hu; subst hx; exact ⟨Q3, q3, by simp, by simpa using own_mono h3 hl3⟩
    | 4 => simp [celEntry] at hu hx; subst hu; subst hx; exact ⟨Q4, q4, by simp, by simpa using own_mono h4 hl4⟩
    | q + 5 => simp at hu
  · match q with
    | 0 => simp at hu; subst hu; cases hb
    | 1 => simp at hu; subst hu; cases hb
    | 2 => simp at hu; subst hu; cases hb
    | 3 => simp at hu; subst hu; have := h3.lt b hb; omega
    | 4 => simp at hu; subst hu; have := h4.lt b hb; omega
    | q + 5 => simp at hu
  · match q, q' with
    | 0, _ => simp at hu; subst hu; exact .inl rfl
    | 1, _ => simp at hu; subst hu; exact .inl rfl
    | 2, _ => simp at hu; subst hu; exact .inl rfl
    | 3, 0 => simp at hv; subst hv; exact apart_symm (.inl rfl)
    | 3, 1 => simp at hv; subst hv; exact apart_symm (.inl rfl)
    | 3, 2 => simp at hv; subst hv; exact apart_symm (.inl rfl)
    | 3, 3 => exact absurd rfl hne
    | 3, 4 => simp at hu hv; subst hu; subst hv; exact hap
    | 3, q' + 5 => simp at hv
    | 4, 0 => simp at hv; subst hv; exact apart_symm (.inl rfl)
    | 4, 1 => simp at hv; subst hv; exact apart_symm (.inl rfl)
    | 4, 2 => simp at hv; subst hv; exact apart_symm (.inl rfl)
    | 4, 3 => simp at hu hv; subst hu; subst hv; exact apart_symm hap
    | 4, 4 => exact absurd rfl hne
    | 4, q' + 5 => simp at hv
    | q + 5, _ => simp at hu

set_option maxHeartbeats 4000000 in
set_option maxRecDepth 100000 in
theorem lgOwn_any (A : Option Addr) (n c : Nat) (L : List EntryT) (w : World) (hn : n ≤ 1000000000) (hl : ∀ x ∈ L, lenE 1000000000 x) (h : Reads2 w 5 A n (rowsE L)) :
    Calls Try.prog 113 #[.slice A n c] w (Made3 w 51 3 5 n (rowsE L)) := by
  have HX := Lib.hid (show L.length = n by have := h.len; rw [length_rowsE] at this; omega)
  have HL := Lib.hid hl
  have H := Lib.hid h
  clear h hl
  generalize hlo : w.heap.size = lo at *
  go_enter Try.func113, Try.ntmps113
  go_wp2
  go_loopw [3, 8] (fun o i wr => ∃ k : Nat, ∃ O1 o1 hs, k ≤ n ∧ i = .int .i64 k ∧ o = .slice O1 k o1 ∧ Own2 wr lo wr.heap.size 51 3 5 O1 k o1 (rowsE (L.take k)) hs ∧ Below lo w wr) (fun _ i _ => n - (intOf i).toNat)
  case atStart => exact ⟨0, none, 0, [], Nat.zero_le _, rfl, rfl, own2_nil _ _, Below.refl _ _⟩
  case round =>
    obtain ⟨k, O1, o1, hs, hk, rfl, rfl, hown, hb⟩ := hrel
    have HO := Lib.hid hown; have HB := Lib.hid hb
    clear hown hb
    have HLO : Hid (lo ≤ wr.heap.size) := Lib.hid (by rw [← hlo]; exact HB.out.size)
    by_cases hlt : k < n
    · have hx : k < L.length := by rw [HX.out]; exact hlt
      have HTK : Hid (L.take (k + 1) = L.take k ++ [L[k]]) := Lib.hid (List.take_succ_eq_append_getElem hx)
      obtain ⟨ad, A3, c3, A4, c4, rfl, k0, k1, k2, k3, k4, hr3, hr4⟩ := rowsE_at (H.out.below (by rw [hlo]; exact HB.out)) hx
      have HXL := Lib.hid (HL.out L[k] (List.getElem_mem hx))
      generalize L[k] = x at *
      obtain ⟨t, m, p, l, l'⟩ := x
      simp only at k0 k1 k2 k3 k4 hr3 hr4
      have hx3 : l.length ≤ 1000000000 := by have := HXL.out; unfold lenE at this; exact this.1
      have hx4 : l'.length ≤ 1000000000 := by have := HXL.out; unfold lenE at this; exact this.2
      have HR3 := Lib.hid hr3; have HR4 := Lib.hid hr4
      clear hr3 hr4
      have HW1 : Hid (Below wr.heap.size wr (wr.alloc (.cells #[.int .i64 t, .int .i64 m, .int .i64 p, .slice A3 l.length c3, .slice A4 l'.length c4] 51))) := Lib.hid ((Below.refl _ _).alloc (Nat.le_refl _) _)
      have HW1z : Hid ((wr.alloc (.cells #[.int .i64 t, .int .i64 m, .int .i64 p, .slice A3 l.length c3, .slice A4 l'.length c4] 51)).heap.size = wr.heap.size + 1) := Lib.hid (by simp)
      go_wp2_with fail
      refine (l1Own_any A3 l.length c3 l _ hx3 (HR3.out.alloc _)).mono ?_
      rintro e wa ⟨Q3, q3, rfl, ho3, hba⟩
      have HBA := Lib.hid hba; have HO3 := Lib.hid ho3
      have hgb : wr.heap.size < (wr.alloc (.cells #[.int .i64 t, .int .i64 m, .int .i64 p, .slice A3 l.length c3, .slice A4 l'.length c4] 51)).heap.size := by simp
      have hbx : wa.heap[wr.heap.size]? = some (.cells #[.int .i64 t, .int .i64 m, .int .i64 p, .slice A3 l.length c3, .slice A4 l'.length c4] 51) := box_after hba hgb (heap_alloc_new wr _)
      obtain ⟨x0, f0⟩ := box_at hbx (j := 0) rfl
      obtain ⟨x1, f1⟩ := box_at hbx (j := 1) rfl
      obtain ⟨x2, f2⟩ := box_at hbx (j := 2) rfl
      obtain ⟨x3, f3⟩ := box_at hbx (j := 3) rfl
      obtain ⟨x4, f4⟩ := box_at hbx (j := 4) rfl
      have HBX := Lib.hid hbx
      have HGA : Hid (wr.heap.size < wa.heap.size) := Lib.hid (by have := HBA.out.size; omega)
      clear hba ho3 hgb hbx k0 k1 k2 k3 k4
      have HRB : Hid (Reads (wa.setCell ⟨wr.heap.size, 3, none⟩ (.slice Q3 l.length q3)) 1 A4 l'.length (ints l')) := Lib.hid (HR4.out.keep (fun q hq => by
        have h1 : wa.cell? q = wr.cell? q := ((HW1.out.trans (HBA.out.mono HW1.out.size)).cell hq)
        rw [← h1]
        exact World.cell?_of_block (Below.heap_setCell wa ⟨wr.heap.size, 3, none⟩ _ _ (by simp; omega))))
      go_wp2_with fail
      refine (l1Own_any A4 l'.length c4 l' (wa.setCell ⟨wr.heap.size, 3, none⟩ (.slice Q3 l.length q3)) hx4 HRB.out).mono ?_
      rintro e wb ⟨Q4, q4, rfl, ho4, hbb⟩
      have hz3 : (wa.setCell ⟨wr.heap.size, 3, none⟩ (.slice Q3 l.length q3)).heap.size = wa.heap.size := by simp
      rw [hz3] at ho4 hbb
      have HBB := Lib.hid hbb; have HO4 := Lib.hid ho4
      have hbx : wb.heap[wr.heap.size]? = some (.cells #[.int .i64 t, .int .i64 m, .int .i64 p, .slice Q3 l.length q3, .slice A4 l'.length c4] 51) := box_after hbb HGA.out (box_set HBX.out)
      clear x0 x1 x2 x3 x4 f0 f1 f2 f3 f4
      obtain ⟨x0, f0⟩ := box_at hbx (j := 0) rfl
      obtain ⟨x1, f1⟩ := box_at hbx (j := 1) rfl
      obtain ⟨x2, f2⟩ := box_at hbx (j := 2) rfl
      obtain ⟨x3, f3⟩ := box_at hbx (j := 3) rfl
      obtain ⟨x4, f4⟩ := box_at hbx (j := 4) rfl
      clear hbb ho4 hbx hz3
      have HGB : Hid (wa.heap.size ≤ wb.heap.size) := Lib.hid (by have h1 := HBB.out.size; simpa using h1)
      have HLB : Hid (lo ≤ wb.heap.size) := Lib.hid (by have h1 := HGB.out; have h2 := HGA.out; have h3 := HLO.out; omega)
      -- the state behind the last store
      have ow := (HO.out.below (HW1.out.trans (HBA.out.mono HW1.out.size)) (Nat.le_refl _))
      have hnot : ∀ q, owns2 O1 k o1 hs q → q ≠ wr.heap.size := fun q hq => by have := HO.out.lt hq; omega
      have ow3 : Own2 (wa.setCell ⟨wr.heap.size, 3, none⟩ (.slice Q3 l.length q3)) lo wr.heap.size 51 3 5 O1 k o1 (rowsE (L.take k)) hs := ow.setOther (fun hq => hnot _ hq rfl)
      have owb := ow3.below (w' := wb) (by simpa using HBB.out) (by have := HGA.out; simp; omega)
      have ow4 : Own2 (wb.setCell ⟨wr.heap.size, 4, none⟩ (.slice Q4 l'.length q4)) lo wr.heap.size 51 3 5 O1 k o1 (rowsE (L.take k)) hs := owb.setOther (fun hq => hnot _ hq rfl)
      have ow6 : Own2 ((wb.setCell ⟨wr.heap.size, 4, none⟩ (.slice Q4 l'.length q4)).alloc (.cells #[.int .i64 t, .int .i64 m, .int .i64 p, .slice Q3 l.length q3, .slice Q4 l'.length q4] 51)) lo wr.heap.size 51 3 5 O1 k o1 (rowsE (L.take k)) hs := ow4.below ((Below.refl _ _).alloc (Nat.le_refl _) _) (by have := HGB.out; have := HGA.out; simp; omega)
      have HO6 := Lib.hid ow6
      have r3 : ((wb.setCell ⟨wr.heap.size, 4, none⟩ (.slice Q4 l'.length q4)).alloc (.cells #[.int .i64 t, .int .i64 m, .int .i64 p, .slice Q3 l.length q3, .slice Q4 l'.length q4] 51)).ownsRow (wr.heap.size + 1) 3 1 (.slice Q3 l.length q3) l.length (ints l) := own_below (own_setCell (b := wr.heap.size) (i := 4) (u := .slice Q4 l'.length q4) (own_below' (own_setCell (b := wr.heap.size) (i := 3) (u := .slice Q3 l.length q3) (by have := HO3.out; rwa [HW1z.out] at this) (by omega)) HBB.out (by simp)) (by omega)) ((Below.refl _ _).alloc (Nat.le_refl _) _)
      have r4 : ((wb.setCell ⟨wr.heap.size, 4, none⟩ (.slice Q4 l'.length q4)).alloc (.cells #[.int .i64 t, .int .i64 m, .int .i64 p, .slice Q3 l.length q3, .slice Q4 l'.length q4] 51)).ownsRow wa.heap.size 3 1 (.slice Q4 l'.length q4) l'.length (ints l') := own_below (own_setCell (b := wr.heap.size) (i := 4) (u := .slice Q4 l'.length q4) HO4.out HGA.out) ((Below.refl _ _).alloc (Nat.le_refl _) _)
      have hap : apart (.slice Q3 l.length q3) (.slice Q4 l'.length q4) := apart_of_lt (b := wa.heap.size) (fun q hq => (HO3.out.lt q hq).2) (fun q hq => (HO4.out.lt q hq).1)
      have HP3 := Lib.hid r3; have HP4 := Lib.hid r4; have HAP := Lib.hid hap
      have HB6 : Hid (Below lo w ((wb.setCell ⟨wr.heap.size, 4, none⟩ (.slice Q4 l'.length q4)).alloc (.cells #[.int .i64 t, .int .i64 m, .int .i64 p, .slice Q3 l.length q3, .slice Q4 l'.length q4] 51))) := Lib.hid ((((((HB.out.trans (HW1.out.mono HLO.out)).trans (HBA.out.mono (by have := HLO.out; simp; omega))).setCell (p := ⟨wr.heap.size, 3, none⟩) HLO.out _).trans (HBB.out.mono (by have := HGA.out; have := HLO.out; omega))).setCell (p := ⟨wr.heap.size, 4, none⟩) HLO.out _).alloc (by have := HLB.out; simp; omega) _)
      clear ow hnot ow3 owb ow4 ow6 r3 r4 hap
      go_wp2_with (at_builtin; refine wpList_pushL _ rfl (.tmp 20) (.tmp 22) 27 rfl lo 51 _ 5 72 infoEntry rfl (by omega) Try.underlying27 O1 k o1 hs rfl (HO6.out.row) (some ⟨wb.heap.size, 0, none⟩) 1 1 [.int .i64 t, .int .i64 m, .int .i64 p, .slice Q3 l.length q3, .slice Q4 l'.length q4] rfl (by have h := reads_litk (wb.setCell ⟨wr.heap.size, 4, none⟩ (.slice Q4 l'.length q4)) [.int .i64 t, .int .i64 m, .int .i64 p, .slice Q3 l.length q3, .slice Q4 l'.length q4] 51 (n := 1) (k := 5) rfl; simpa using h) (by simp [Value.oneCell']) (by omega) (by omega) (by have := HLB.out; simp; omega) ?_; intro O2 o2 w7 hown7 hg7 hb7 hloc7)
      have HO7 := Lib.hid (HO6.out.push_entry (by have := HGB.out; have := HGA.out; simp; omega) HP3.out HP4.out rfl rfl (by omega) (by have := HGA.out; omega) (by have := HLO.out; omega) (by have := HGA.out; have := HLO.out; omega) HAP.out hg7 hown7 hloc7)
      have HB7 := Lib.hid (HB6.out.trans hb7)
      clear hown7 hg7 hb7 hloc7
      go_roundw
      case rel =>
        refine ⟨k + 1, O2, o2, hs ++ [.int .i64 t, .int .i64 m, .int .i64 p, .slice Q3 l.length q3, .slice Q4 l'.length q4], by omega, by go_num, rfl, ?_, HB7.out⟩
        have e1 : rowsE (L.take (k + 1)) = rowsE (L.take k) ++ celEntry (t, m, p, l, l') := by rw [HTK.out]; simp [rowsE]
        rw [e1]
        exact HO7.out
      case measure => simp [intOf]; omega
    · obtain rfl : k = n := by omega
      have e : L.take k = L := List.take_of_length_le (by rw [HX.out]; exact Nat.le_refl _)
      rw [e] at HO
      go_wp2
      go_ret
      subst hlo
      exact ⟨O1, o1, hs, rfl, HO.out, HB.out⟩
theorem lgIf_any (A : Option Addr) (n c : Nat) (L : List EntryT) (w : World) (hn : n ≤ 1000000000) (hl : ∀ x ∈ L, lenE 1000000000 x) (hg : goodE L = true) (h : Reads2 w 5 A n (rowsE L)) :
    Calls Try.prog 97 #[.slice A n c] w (Made4 w 51 3 5 n (rowsE L) true) := by
  have c1 := lgGood_any A n c L w hn hl h
  rw [hg] at c1
  have C1 := Lib.hid c1
  have C2 := Lib.hid (fun W (hW : Below w.heap.size w W) => lgOwn_any A n c L W hn hl (h.below hW))
  clear c1 h hl hg
  go_enter Try.func97, Try.ntmps97
  go_wp2_with (first | (go_at_call 60; refine (C1.out).mono ?_; rintro e w1 ⟨rfl, hb1⟩; have HB1 := Lib.hid hb1; clear hb1) | (go_at_call 113; refine (C2.out _ HB1.out).mono ?_; rintro e w2 ⟨O1, o1, hs, rfl, ho, hb2⟩; have HO := Lib.hid ho; have HB2 := Lib.hid hb2; clear ho hb2))
  go_ret2
  exact ⟨O1, o1, hs, rfl, HO.out.mono_lo HB1.out.size, HB1.out.trans (HB2.out.mono HB1.out.size)⟩

end Go.Proofs.Ytcjmlakmigfkfaa
