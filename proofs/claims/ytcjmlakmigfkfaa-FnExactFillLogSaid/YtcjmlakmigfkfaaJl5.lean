/- JoinLogs of the implementation. No conditions. -/
import Derived.Test.YtcjmlakmigfkfaaJl4
import Derived.Test.YtcjmlakmigfkfaaLog5
namespace Go.Proofs.Ytcjmlakmigfkfaa
set_option linter.unusedSimpArgs false
set_option linter.unusedVariables false
open Go.RowKit

theorem checkedLog_any (A : Option Addr) (n c : Nat) (L : List EntryT) (b : Bool) (w : World) (hn : n ≤ 1000000000) (hnc : n ≤ c) (hl : ∀ x ∈ L, lenE 1000000000 x) (h : Reads2 w 5 A n (rowsE L)) (hg : goodE L = b) :
    Calls Try.prog 105 #[.slice A n c] w fun e w' => e = .returned (.tuple #[if b = true then .slice A n c else .slice none 0 0, .bool b]) ∧ Below w.heap.size w w' := by
  have c1 := isLog_any A n c L w hn hnc hl h
  rw [hg] at c1
  have C1 := Lib.hid c1
  clear c1 h hl hg
  cases b with
  | true =>
    go_enter Try.func105, Try.ntmps105
    go_wp2_with (go_at_call 33; refine (C1.out).mono ?_; rintro e w1 ⟨rfl, hb1⟩; have HB1 := Lib.hid hb1; clear hb1)
    go_ret2
    exact ⟨rfl, HB1.out⟩
  | false =>
    go_enter Try.func105, Try.ntmps105
    go_wp2_with (go_at_call 33; refine (C1.out).mono ?_; rintro e w1 ⟨rfl, hb1⟩; have HB1 := Lib.hid hb1; clear hb1)
    go_ret2
    exact ⟨rfl, HB1.out⟩

set_option maxHeartbeats 4000000 in
set_option maxRecDepth 100000 in
theorem implJoinLogs_any (A : Option Addr) (n c : Nat) (L : List EntryT) (B : Option Addr) (m d : Nat) (M : List EntryT) (w : World) (hn : n ≤ 1000000000) (hl : ∀ x ∈ L, lenE 1000000000 x) (h : Reads2 w 5 A n (rowsE L)) (hc : n ≤ c) (hm : m ≤ 1000000000) (hl' : ∀ x ∈ M, lenE 1000000000 x) (h' : Reads2 w 5 B m (rowsE M)) (hd : m ≤ d) :
    Calls Try.prog 78 #[.slice A n c, .slice B m d] w (Made4 w 51 3 5 (joinLR L M).1.length (rowsE (joinLR L M).1) (joinLR L M).2) := by
  have HX := Lib.hid (show L.length = n by have := h.len; rw [length_rowsE] at this; omega)
  have HY := Lib.hid (show M.length = m by have := h'.len; rw [length_rowsE] at this; omega)
  have c1 := fun W (hW : Below w.heap.size w W) => isLog_any A n c L W hn hc hl (h.below hW)
  have c2 := fun W (hW : Below w.heap.size w W) => isLog_any B m d M W hm hd hl' (h'.below hW)
  cases hgL : goodE L with
  | false =>
    have hr : joinLR L M = ([], false) := by simp [joinLR, hgL]
    rw [hr]
    simp only [hgL] at c1
    have C1 := Lib.hid c1
    clear c1 c2 hr h h' hl hl' hgL
    go_enter Try.func78, Try.ntmps78
    go_wp2_with (go_at_call 33; refine (C1.out _ (Below.refl _ _)).mono ?_; rintro e w1 ⟨rfl, hb1⟩; have HB1 := Lib.hid hb1; clear hb1)
    go_ret2
    exact ⟨none, 0, [], rfl, own2_nil _ _, HB1.out⟩
  | true =>
    cases hgM : goodE M with
    | false =>
      have hr : joinLR L M = ([], false) := by simp [joinLR, hgM]
      rw [hr]
      simp only [hgL] at c1
      simp only [hgM] at c2
      have C1 := Lib.hid c1
      have C2 := Lib.hid c2
      clear c1 c2 hr h h' hl hl' hgL hgM
      go_enter Try.func78, Try.ntmps78
      go_wp2_with fail
      refine (C1.out _ (Below.refl _ _)).mono ?_
      rintro e w1 ⟨rfl, hb1⟩
      have HB1 := Lib.hid hb1
      clear hb1
      go_wp2_with fail
      refine (C2.out _ HB1.out).mono ?_
      rintro e w2 ⟨rfl, hb2⟩
      have HB2 := Lib.hid (HB1.out.trans (hb2.mono HB1.out.size))
      clear hb2
      go_wp2
      go_ret2
      exact ⟨none, 0, [], rfl, own2_nil _ _, HB2.out⟩
    | true =>
      have hr : joinLR L M = ifR (joinE L M) := by simp [joinLR, hgM, hgL, ifR]
      simp only [hgL] at c1
      simp only [hgM] at c2
      have C1 := Lib.hid c1
      have C2 := Lib.hid c2
      have hn30 : n ≤ 30 := by rw [← HX.out]; exact (goodE_all hgL).2
      have hm30 : m ≤ 30 := by rw [← HY.out]; exact (goodE_all hgM).2
      have HLJ : Hid (∀ x ∈ joinE L M, lenE 1000000000 x) := Lib.hid (fun x hx => by rcases joinE_mem.1 hx with hx | hx; exact hl x hx; exact hl' x hx)
      have HLN : Hid ((joinE L M).length = n + m) := Lib.hid (by rw [joinE_len, HX.out, HY.out])
      have HOL := Lib.hid (goodE_ord hgL)
      have HOM := Lib.hid (goodE_ord hgM)
      have H := Lib.hid h
      have H' := Lib.hid h'
      have HL := Lib.hid hl
      have HL' := Lib.hid hl'
      clear c1 c2 h h' hl hl' hgL hgM
      cases hgJ : goodE (joinE L M) with
      | true =>
        have HGJ := Lib.hid hgJ
        have e : ifR (joinE L M) = (joinE L M, true) := by simp [ifR, hgJ]
        rw [hr, e]
        simp only [HLN.out]
        clear hgJ e hr
        go_enter Try.func78, Try.ntmps78
        go_wp2_with fail
        refine (C1.out _ (Below.refl _ _)).mono ?_
        rintro e w1 ⟨rfl, hb1⟩
        have HB1 := Lib.hid hb1
        clear hb1
        go_wp2_with fail
        refine (C2.out _ HB1.out).mono ?_
        rintro e w2 ⟨rfl, hb2⟩
        have HB2 := Lib.hid (HB1.out.trans (hb2.mono HB1.out.size))
        clear hb2 HB1 C1 C2
        go_wp2_with fail
        refine (cloneLog_any A n c L w2 hn HL.out (H.out.below HB2.out)).mono ?_
        rintro e w3 ⟨g1, c3, hs1, rfl, ho1, hb3⟩
        have HO1 := Lib.hid ho1
        have HB3 := Lib.hid hb3
        have HBA := Lib.hid (HB2.out.trans (hb3.mono HB2.out.size))
        clear ho1 hb3
        go_wp2_with fail
        refine (cloneLog_any B m d M w3 hm HL'.out (H'.out.below HBA.out)).mono ?_
        rintro e w4 ⟨g2, c4, hs2, rfl, ho2, hb4⟩
        have HO2 := Lib.hid ho2
        have HO1b := Lib.hid (HO1.out.below hb4 (Nat.le_refl _))
        have HB4 := Lib.hid hb4
        have HBC := Lib.hid (HBA.out.trans (hb4.mono HBA.out.size))
        have HZ : Hid (w2.heap.size ≤ w3.heap.size ∧ w3.heap.size ≤ w4.heap.size) := Lib.hid ⟨HB3.out.size, hb4.size⟩
        have HON := Lib.hid (one_hsE ho2.len (fun j u x hu hx => readsC_of_own (ho2.cell j u x hu hx)))
        clear ho2 hb4
        go_wp2_with (at_builtin; refine wpList_pushL _ rfl (.tmp 16) (.tmp 18) 27 rfl w2.heap.size 51 _ 5 72 infoEntry rfl (by omega) Try.underlying27 (some ⟨g1, 0, none⟩) n c3 hs1 rfl HO1b.out.row (some ⟨g2, 0, none⟩) m c4 hs2 rfl (Reads.of_own HO2.out.row) HON.out (by omega) (by omega) (by have := HZ.out; omega) ?_; intro O2 o2 w5 hown5 hg5 hb5 hloc5)
        have ho5 := HO1b.out.push (xs := rowsE M) hg5 hown5 hloc5 HZ.out.2 HO2.out.len (fun j u x hu hx => ownC_mono (HO2.out.cell j u x hu hx) HZ.out.1) (fun j u hu q hq => by have := HO2.out.bounds j u hu q hq; exact ⟨by have := HZ.out.1; omega, this.1, this.2⟩) HO2.out.apart
        obtain ⟨blk, hblk, hO2⟩ : ∃ blk, (w2.heap.size ≤ blk ∧ blk < w5.heap.size) ∧ O2 = some ⟨blk, 0, none⟩ := by
          rcases hown5.2 with ⟨hv, _⟩ | ⟨g, cap, cur, hv, hb, hc, _⟩
          · exfalso
            rw [hv] at hloc5
            rcases hloc5 with e | e <;> cases e
          · injection hv with hv _ _
            exact ⟨g, ⟨hb, (Array.getElem?_eq_some_iff.1 hc).1⟩, hv⟩
        subst hO2
        have e1 : rowsE L ++ rowsE M = rowsE (L ++ M) := by simp [rowsE]
        rw [e1] at ho5
        have HBE := Lib.hid (HBC.out.trans (hb5.mono HB2.out.size))
        have C5 := sortOwn_any (L := L) (M := M) (by rw [HX.out, HY.out]; exact ho5) hblk HOL.out HOM.out (by rw [HX.out, HY.out]; omega)
        rw [HX.out, HY.out] at C5
        have HC5 := Lib.hid C5
        have HLB := Lib.hid hblk.1
        clear C5 ho5 hblk e1 hown5 hg5 hb5 hloc5 HO1 HO1b HO2 HON
        refine (HC5.out).mono ?_
        rintro e w6 ⟨rfl, hs6, ho6, hb6⟩
        have HO6 := Lib.hid ho6
        have HBF := Lib.hid (HBE.out.trans (hb6.mono HB2.out.size))
        have C7 := checkedLog_any (some ⟨blk, 0, none⟩) (n + m) o2 (joinE L M) _ w6 (by omega) (own_cap ho6.row) HLJ.out (Reads2.of_own ho6) HGJ.out
        have HC7 := Lib.hid C7
        clear C7 ho6 hb6 HC5
        go_wp2_with fail
        refine (HC7.out).mono ?_
        rintro e w7 ⟨rfl, hb7⟩
        have HB7 := Lib.hid hb7
        clear hb7
        go_wp2
        go_ret2
        exact ⟨_, _, hs6, rfl, ((HO6.out.below HB7.out (Nat.le_refl _)).mono_hi HB7.out.size).mono_lo HB2.out.size, HBF.out.trans (HB7.out.mono HBF.out.size)⟩
      | false =>
        have HGJ := Lib.hid hgJ
        have e : ifR (joinE L M) = ([], false) := by simp [ifR, hgJ]
        rw [hr, e]
        clear hgJ e hr
        go_enter Try.func78, Try.ntmps78
        go_wp2_with fail
        refine (C1.out _ (Below.refl _ _)).mono ?_
        rintro e w1 ⟨rfl, hb1⟩
        have HB1 := Lib.hid hb1
        clear hb1
        go_wp2_with fail
        refine (C2.out _ HB1.out).mono ?_
        rintro e w2 ⟨rfl, hb2⟩
        have HB2 := Lib.hid (HB1.out.trans (hb2.mono HB1.out.size))
        clear hb2 HB1 C1 C2
        go_wp2_with fail
        refine (cloneLog_any A n c L w2 hn HL.out (H.out.below HB2.out)).mono ?_
        rintro e w3 ⟨g1, c3, hs1, rfl, ho1, hb3⟩
        have HO1 := Lib.hid ho1
        have HB3 := Lib.hid hb3
        have HBA := Lib.hid (HB2.out.trans (hb3.mono HB2.out.size))
        clear ho1 hb3
        go_wp2_with fail
        refine (cloneLog_any B m d M w3 hm HL'.out (H'.out.below HBA.out)).mono ?_
        rintro e w4 ⟨g2, c4, hs2, rfl, ho2, hb4⟩
        have HO2 := Lib.hid ho2
        have HO1b := Lib.hid (HO1.out.below hb4 (Nat.le_refl _))
        have HB4 := Lib.hid hb4
        have HBC := Lib.hid (HBA.out.trans (hb4.mono HBA.out.size))
        have HZ : Hid (w2.heap.size ≤ w3.heap.size ∧ w3.heap.size ≤ w4.heap.size) := Lib.hid ⟨HB3.out.size, hb4.size⟩
        have HON := Lib.hid (one_hsE ho2.len (fun j u x hu hx => readsC_of_own (ho2.cell j u x hu hx)))
        clear ho2 hb4
        go_wp2_with (at_builtin; refine wpList_pushL _ rfl (.tmp 16) (.tmp 18) 27 rfl w2.heap.size 51 _ 5 72 infoEntry rfl (by omega) Try.underlying27 (some ⟨g1, 0, none⟩) n c3 hs1 rfl HO1b.out.row (some ⟨g2, 0, none⟩) m c4 hs2 rfl (Reads.of_own HO2.out.row) HON.out (by omega) (by omega) (by have := HZ.out; omega) ?_; intro O2 o2 w5 hown5 hg5 hb5 hloc5)
        have ho5 := HO1b.out.push (xs := rowsE M) hg5 hown5 hloc5 HZ.out.2 HO2.out.len (fun j u x hu hx => ownC_mono (HO2.out.cell j u x hu hx) HZ.out.1) (fun j u hu q hq => by have := HO2.out.bounds j u hu q hq; exact ⟨by have := HZ.out.1; omega, this.1, this.2⟩) HO2.out.apart
        obtain ⟨blk, hblk, hO2⟩ : ∃ blk, (w2.heap.size ≤ blk ∧ blk < w5.heap.size) ∧ O2 = some ⟨blk, 0, none⟩ := by
          rcases hown5.2 with ⟨hv, _⟩ | ⟨g, cap, cur, hv, hb, hc, _⟩
          · exfalso
            rw [hv] at hloc5
            rcases hloc5 with e | e <;> cases e
          · injection hv with hv _ _
            exact ⟨g, ⟨hb, (Array.getElem?_eq_some_iff.1 hc).1⟩, hv⟩
        subst hO2
        have e1 : rowsE L ++ rowsE M = rowsE (L ++ M) := by simp [rowsE]
        rw [e1] at ho5
        have HBE := Lib.hid (HBC.out.trans (hb5.mono HB2.out.size))
        have C5 := sortOwn_any (L := L) (M := M) (by rw [HX.out, HY.out]; exact ho5) hblk HOL.out HOM.out (by rw [HX.out, HY.out]; omega)
        rw [HX.out, HY.out] at C5
        have HC5 := Lib.hid C5
        have HLB := Lib.hid hblk.1
        clear C5 ho5 hblk e1 hown5 hg5 hb5 hloc5 HO1 HO1b HO2 HON
        refine (HC5.out).mono ?_
        rintro e w6 ⟨rfl, hs6, ho6, hb6⟩
        have HO6 := Lib.hid ho6
        have HBF := Lib.hid (HBE.out.trans (hb6.mono HB2.out.size))
        have C7 := checkedLog_any (some ⟨blk, 0, none⟩) (n + m) o2 (joinE L M) _ w6 (by omega) (own_cap ho6.row) HLJ.out (Reads2.of_own ho6) HGJ.out
        have HC7 := Lib.hid C7
        clear C7 ho6 hb6 HC5
        go_wp2_with fail
        refine (HC7.out).mono ?_
        rintro e w7 ⟨rfl, hb7⟩
        have HB7 := Lib.hid hb7
        clear hb7
        go_wp2
        go_ret2
        exact ⟨none, 0, [], rfl, own2_nil _ _, HBF.out.trans (HB7.out.mono HBF.out.size)⟩

end Go.Proofs.Ytcjmlakmigfkfaa
