/- rbLog and RebuildLog of the spec. No conditions. -/
import Derived.Test.YtcjmlakmigfkfaaLog13
import Derived.Test.YtcjmlakmigfkfaaLog11
namespace Go.Proofs.Ytcjmlakmigfkfaa
set_option linter.unusedSimpArgs false
set_option linter.unusedVariables false
open Go.RowKit


set_option maxHeartbeats 4000000 in
set_option maxRecDepth 100000 in
theorem rbLog_any (A : Option Addr) (n c : Nat) (L : List EntryT) (B : Option Addr) (m d : Nat) (M : List EntryT) (a b : Int) (w : World) (hk : askE L M a b = true) (h : Reads2 w 5 A n (rowsE L)) (h' : Reads2 w 5 B m (rowsE M)) :
    Calls Try.prog 73 #[.slice A n c, .slice B m d, .int .i64 a, .int .i64 b] w (Made4 w 51 3 5 (rebE a b (togE M L)).length (rowsE (rebE a b (togE M L))) true) := by
  have HX := Lib.hid (show L.length = n by have := h.len; rw [length_rowsE] at this; omega)
  have HY := Lib.hid (show M.length = m by have := h'.len; rw [length_rowsE] at this; omega)
  obtain ⟨hgL, hgM, hab, hbb⟩ := askE_true hk
  have gL := goodE_all hgL
  have gM := goodE_all hgM
  have gR := rebE_good hk
  have HLR : Hid (∀ x ∈ rebE a b (togE M L), lenE 1000000000 x) := Lib.hid (fun x hx => by have := entB_len ((goodE_all gR).1 x hx); unfold lenE; omega)
  have HNR : Hid ((rebE a b (togE M L)).length ≤ 30) := Lib.hid (goodE_all gR).2
  have HGR := Lib.hid gR
  have C3 := Lib.hid (rbGaps_any A n c L B m d M a b w (by have := gL.2; rw [HX.out] at this; omega) (by have := gM.2; rw [HY.out] at this; omega) gL.1 gM.1 hab hbb h h')
  have H := Lib.hid h
  have H' := Lib.hid h'
  have hN : cntE M L ≤ 30 := by have := togE_len M L; have := gL.2; unfold cntE; omega
  have HPL : Hid ((togE M L).length = cntE M L) := Lib.hid rfl
  clear h h' hgL hgM gL gM gR hk
  go_enter Try.func73, Try.ntmps73
  go_wp2_with (go_at_call 61; refine (C3.out).mono ?_; rintro e w3 ⟨P1, p1, P2, p2, hs0, rfl, hr3, hb3⟩; have HR3 := Lib.hid (Reads.of_own hr3.one); have HR4 := Lib.hid (Reads2.of_own hr3.two); have HW3 := Lib.hid hb3; clear hr3 hb3)
  generalize hg3 : w3.heap.size = g3 at *
  have C4 : Hid (∀ (O1 : Option Addr) (o1 : Nat) (W : World), Below g3 w3 W → Reads2 W 5 O1 (rebE a b (togE M L)).length (rowsE (rebE a b (togE M L))) → Calls Try.prog 97 #[.slice O1 (rebE a b (togE M L)).length o1] W (Made4 W 51 3 5 (rebE a b (togE M L)).length (rowsE (rebE a b (togE M L))) true)) := Lib.hid (fun O1 o1 W _ hR => lgIf_any O1 _ o1 _ W (by have := HNR.out; omega) HLR.out HGR.out hR)
  go_loopw [12, 25] (fun o i wr => ∃ k g : Nat, ∃ O1 o1 C hs, k ≤ cntE M L ∧ i = .int .i64 k ∧ o = .slice O1 g o1 ∧ g ≤ k ∧ C.length = g ∧ C ++ rebE a b ((togE M L).drop k) = rebE a b (togE M L) ∧ wr.ownsRow g3 51 5 (.slice O1 g o1) g hs ∧ (∀ (j : Nat) (u : Value) (x : Cel), hs[j]? = some u → (rowsE C)[j]? = some x → readsC w3 u x) ∧ Below g3 w3 wr) (fun _ i _ => cntE M L - (intOf i).toNat)
  case atStart => exact ⟨0, 0, none, 0, [], [], Nat.zero_le _, rfl, rfl, Nat.le_refl _, rfl, rfl, World.ownsRow_nil _ _ _ _, fun j u x hu => by simp at hu, Below.refl _ _⟩
  case round =>
    obtain ⟨k, g, O1, o1, C, hs, hk, rfl, rfl, hgk, hlc, hrc, hown, hcel, hb⟩ := hrel
    have HLC := Lib.hid hlc; have HRC := Lib.hid hrc; have HO := Lib.hid hown; have HB := Lib.hid hb; have HC := Lib.hid hcel
    clear hlc hrc hown hb hcel
    have HLO : Hid (g3 ≤ wr.heap.size) := Lib.hid (by have h1 := HB.out.size; omega)
    have HWB : Hid (Below w.heap.size w wr) := Lib.hid (HW3.out.trans (HB.out.mono (by rw [← hg3]; exact HW3.out.size)))
    by_cases hlt : k < cntE M L
    · have hx : k < (togE M L).length := by rw [HPL.out]; exact hlt
      have HD := Lib.hid (drop_cons hx)
      obtain ⟨i, j, hi, hj, hix, hxy⟩ := ix_at hx
      have HR3' := HR3.out
      have HR4' := HR4.out
      obtain ⟨ga, e0, k0', k1', k2', k3'⟩ := rows4_at HR3' hlt (gapsE_len M a b L)
      obtain ⟨pa, qa, cq, e1, j0', j1', j2'⟩ := ixL_at HR4' hix
      subst e0
      subst e1
      have up : ∀ (p : Addr) (u : Value), w3.cell? p = some u → wr.cell? p = some u ∧ p.block < g3 := fun p u hu => by
        have := World.block_lt_of_cell? w3 _ hu
        rw [hg3] at this
        exact ⟨(HB.out.cell this).trans hu, this⟩
      have upw : ∀ (p : Addr) (u : Value), w.cell? p = some u → wr.cell? p = some u ∧ p.block < g3 := fun p u hu => by
        have := World.block_lt_of_cell? w _ hu
        have h2 := HW3.out.size
        exact ⟨(HWB.out.cell this).trans hu, by omega⟩
      obtain ⟨ad, A3, c3, A4, c4, rfl, ⟨_, _, _, _, k4'⟩, _, r4⟩ := rowsE_at2 H.out hi
      obtain ⟨bd, B3, d3, B4, d4, rfl, ⟨_, _, _, k5', _⟩, r5, _⟩ := rowsE_at2 H'.out hj
      obtain ⟨k0, _⟩ := up _ _ k0'
      obtain ⟨k1, _⟩ := up _ _ k1'
      obtain ⟨k2, _⟩ := up _ _ k2'
      obtain ⟨k3, _⟩ := up _ _ k3'
      obtain ⟨j0, hl0⟩ := up _ _ j0'
      obtain ⟨j1, hl1⟩ := up _ _ j1'
      obtain ⟨j2, hl2⟩ := up _ _ j2'
      obtain ⟨k4, hl4⟩ := upw _ _ k4'
      obtain ⟨k5, hl5⟩ := upw _ _ k5'
      have HRA := Lib.hid (readsC_keep (w' := w3) r4 (fun q hq => HW3.out.cell hq))
      have HRB := Lib.hid (readsC_keep (w' := w3) r5 (fun q hq => HW3.out.cell hq))
      clear k0' k1' k2' k3' j0' j1' j2' k4' k5' r4 r5 up upw HR3' HR4'
      have HRE : Hid (rebE a b ((togE M L).drop k) = if openG a b (L[i], M[j]) = true then rebOf a b (L[i], M[j]) :: rebE a b ((togE M L).drop (k + 1)) else rebE a b ((togE M L).drop (k + 1))) := Lib.hid (by rw [HD.out, hxy]; rfl)
      have hge : (gapsE M a b L)[k]'(by rw [gapsE_len]; exact hlt) = (L[i].2.1, L[i].2.2.1, L[i].1 + a, M[j].1 - b) := by simp only [gapsE, List.getElem_map, hxy, gapOf]
      simp only [hge] at k0 k1 k2 k3
      have him : (i : Int) < (n : Int) := by rw [HX.out] at hi; omega
      have hjm : (j : Int) < (m : Int) := by rw [HY.out] at hj; omega
      have hi0 : (0 : Int) ≤ (i : Int) := by omega
      have hj0 : (0 : Int) ≤ (j : Int) := by omega
      have hkN : (k : Int) < (cntE M L : Int) := by omega
      have hk0 : (0 : Int) ≤ (k : Int) := by omega
      clear hix hxy hge
      generalize L[i] = x at *
      generalize M[j] = y at *
      obtain ⟨xt, xm, xp, xl, l'⟩ := x
      obtain ⟨yt, ym, yp, yl, yl'⟩ := y
      simp only at k0 k1 k2 k3 k4 k5 HRA HRB
      have hop : openG a b ((xt, xm, xp, xl, l'), (yt, ym, yp, yl, yl')) = decide (xt + a ≤ yt - b) := rfl
      have hro : rebOf a b ((xt, xm, xp, xl, l'), (yt, ym, yp, yl, yl')) = (xt + a, xm, xp, l', yl) := rfl
      rw [hop, hro] at HRE
      obtain ⟨lw, hlw⟩ : ∃ lw, lw = xt + a := ⟨_, rfl⟩
      obtain ⟨hw, hhw⟩ : ∃ hw, hw = yt - b := ⟨_, rfl⟩
      rw [← hlw] at k2 HRE
      rw [← hhw] at k3 HRE
      clear hlw hhw hop hro
      have HWS : Hid (Below wr.heap.size wr (wr.alloc (.cells #[.int .i64 xm, .int .i64 xp, .int .i64 lw, .int .i64 hw] 62))) := Lib.hid ((Below.refl _ _).alloc (Nat.le_refl _) _)
      by_cases hle : lw ≤ hw
      · have HSK : Hid (rebE a b ((togE M L).drop k) = (lw, xm, xp, l', yl) :: rebE a b ((togE M L).drop (k + 1))) := Lib.hid (by rw [HRE.out]; simp [hle])
        have nb : (Value.slice O1 g o1).ownBlock ≠ some wr.heap.size := own_ne_of_lt HO.out (.inr (Nat.le_refl _))
        have n0 : (Value.slice O1 g o1).ownBlock ≠ some (pa.add k).block := own_ne_of_lt HO.out (.inl hl0)
        have n1 : (Value.slice O1 g o1).ownBlock ≠ some qa.block := own_ne_of_lt HO.out (.inl hl1)
        have n4 : (Value.slice O1 g o1).ownBlock ≠ some (ad.add (i * 5)).block := own_ne_of_lt HO.out (.inl hl4)
        have n5 : (Value.slice O1 g o1).ownBlock ≠ some (bd.add (j * 5)).block := own_ne_of_lt HO.out (.inl hl5)
        have HWX : Hid (Below wr.heap.size wr ((wr.alloc (.cells #[.int .i64 xm, .int .i64 xp, .int .i64 lw, .int .i64 hw] 62)).drew.alloc (.cells #[.int .i64 lw, .int .i64 xm, .int .i64 xp, .slice A4 l'.length c4, .slice B3 yl.length d3] 51))) := Lib.hid (((Below.refl _ _).alloc (Nat.le_refl _) _).drew.alloc (by simp) _)
        clear hl0 hl1 hl2 hl4 hl5
        have b0 := alloc_cell (.cells #[.int .i64 xm, .int .i64 xp, .int .i64 lw, .int .i64 hw] 62) j0
        have b1 := alloc_cell (.cells #[.int .i64 xm, .int .i64 xp, .int .i64 lw, .int .i64 hw] 62) j1
        have b2 := alloc_cell (.cells #[.int .i64 xm, .int .i64 xp, .int .i64 lw, .int .i64 hw] 62) j2
        have b4 := alloc_cell (.cells #[.int .i64 xm, .int .i64 xp, .int .i64 lw, .int .i64 hw] 62) k4
        have b5 := alloc_cell (.cells #[.int .i64 xm, .int .i64 xp, .int .i64 lw, .int .i64 hw] 62) k5
        have x0 : (wr.alloc (.cells #[.int .i64 xm, .int .i64 xp, .int .i64 lw, .int .i64 hw] 62)).cell? ⟨wr.heap.size, 0, none⟩ = some (.int .i64 xm) := by simp
        have x1 : (wr.alloc (.cells #[.int .i64 xm, .int .i64 xp, .int .i64 lw, .int .i64 hw] 62)).cell? ⟨wr.heap.size, 1, none⟩ = some (.int .i64 xp) := by simp
        have x2 : (wr.alloc (.cells #[.int .i64 xm, .int .i64 xp, .int .i64 lw, .int .i64 hw] 62)).cell? ⟨wr.heap.size, 2, none⟩ = some (.int .i64 lw) := by simp
        go_wp2
        go_region_held3 (fun w' => w'.cell? ⟨wr.heap.size, 0, none⟩ = some (.int .i64 xm) ∧ w'.cell? ⟨wr.heap.size, 1, none⟩ = some (.int .i64 xp) ∧ w'.cell? ⟨wr.heap.size, 2, none⟩ = some (.int .i64 lw) ∧ w'.cell? (pa.add k) = some (.slice (some qa) 2 cq) ∧ w'.cell? qa = some (.int .i64 (i : Int)) ∧ w'.cell? ⟨qa.block, qa.off + 1, none⟩ = some (.int .i64 (j : Int)) ∧ w'.cell? ⟨(ad.add (i * 5)).block, (ad.add (i * 5)).off + 4, none⟩ = some (.slice A4 l'.length c4) ∧ w'.cell? ⟨(bd.add (j * 5)).block, (bd.add (j * 5)).off + 3, none⟩ = some (.slice B3 yl.length d3))
          (first | (go_split_ands; refine ⟨?_, ?_, ?_, ?_, ?_, ?_, ?_, ?_⟩ <;> first | assumption | (simp; done) | (refine alloc_cell _ ?_; assumption) | (refine grown_cell hg4 ?_ (alloc_cell _ ?_) <;> assumption)) | fail)
          ((refine step_pushL _ (by rfl) (.tmp 35) (.tmp 63) 27 (by rfl) g3 51 _ 5 72 infoEntry rfl (by omega) Try.underlying27 O1 g o1 hs (by rfl) (own_below HO.out HWX.out) (some ⟨wr.heap.size + 1, 0, none⟩) 1 1 [.int .i64 lw, .int .i64 xm, .int .i64 xp, .slice A4 l'.length c4, .slice B3 yl.length d3] (by rfl) (by have h := reads_litk (wr.alloc (.cells #[.int .i64 xm, .int .i64 xp, .int .i64 lw, .int .i64 hw] 62)).drew [.int .i64 lw, .int .i64 xm, .int .i64 xp, .slice A4 l'.length c4, .slice B3 yl.length d3] 51 (n := 1) (k := 5) rfl; have e : (wr.alloc (.cells #[.int .i64 xm, .int .i64 xp, .int .i64 lw, .int .i64 hw] 62)).drew.heap.size = wr.heap.size + 1 := World.size_alloc _ _; rw [e] at h; exact h) (by simp [Value.oneCell']) (by omega) (by omega) (by have := HLO.out; simp; omega) ?_; intro O2 o2 w4 hown4 hg4 hb4 hloc4))
        clear x0 x1 x2 b0 b1 b2 b4 b5 j0 j1 j2 k0 k1 k2 k3 k4 k5 nb n0 n1 n4 n5
        have HO4 := Lib.hid hown4
        have HB4 : Hid (Below g3 w3 w4) := Lib.hid ((HB.out.trans (HWS.out.mono HLO.out)).trans ((((Below.refl _ _).drew.alloc (by have := HLO.out; simp; omega) _)).trans hb4))
        clear hown4 hg4 hb4 hloc4
        have HCN : Hid (∀ (q : Nat) (u : Value) (x : Cel), (hs ++ [.int .i64 lw, .int .i64 xm, .int .i64 xp, .slice A4 l'.length c4, .slice B3 yl.length d3])[q]? = some u → (rowsE (C ++ [(lw, xm, xp, l', yl)]))[q]? = some x → readsC w3 u x) := Lib.hid (by
          intro q u x hu hx
          have e1 : rowsE (C ++ [(lw, xm, xp, l', yl)]) = rowsE C ++ celEntry (lw, xm, xp, l', yl) := by simp [rowsE]
          rw [e1] at hx
          have hl : (rowsE C).length = hs.length := by rw [length_rowsE, HLC.out, HO.out.1]
          rcases append_cases hu with ⟨hq, hu⟩ | ⟨hq, hu⟩ <;> rcases append_cases hx with ⟨hq', hx⟩ | ⟨hq', hx⟩
          · exact HC.out q u x hu hx
          · omega
          · omega
          · rw [hl] at hx
            generalize q - hs.length = r at hu hx
            match r with
            | 0 => simp [celEntry] at hu hx; subst hu; subst hx; rfl
            | 1 => simp [celEntry] at hu hx; subst hu; subst hx; rfl
            | 2 => simp [celEntry] at hu hx; subst hu; subst hx; rfl
            | 3 => simp [celEntry] at hu hx; subst hu; subst hx; exact HRA.out
            | 4 => simp [celEntry] at hu hx; subst hu; subst hx; exact HRB.out
            | r + 5 => simp at hu)
        go_wp2
        go_roundw
        case rel =>
          refine ⟨k + 1, g + 1, O2, o2, C ++ [(lw, xm, xp, l', yl)], hs ++ [.int .i64 lw, .int .i64 xm, .int .i64 xp, .slice A4 l'.length c4, .slice B3 yl.length d3], by omega, by go_num, rfl, by omega, by simp [HLC.out], ?_, HO4.out, HCN.out, HB4.out⟩
          rw [← HRC.out, HSK.out]; simp
        case measure => simp [intOf]; omega
      · have HSK : Hid (rebE a b ((togE M L).drop k) = rebE a b ((togE M L).drop (k + 1))) := Lib.hid (by rw [HRE.out]; simp [hle])
        go_wp2
        go_roundw
        case rel => exact ⟨k + 1, g, O1, o1, C, hs, by omega, by go_num, rfl, by omega, HLC.out, by rw [← HSK.out]; exact HRC.out, own_below HO.out HWS.out, HC.out, HB.out.trans (HWS.out.mono HLO.out)⟩
        case measure => simp [intOf]; omega
    · have HE := Lib.hid (drop_end (xs := togE M L) (k := k) (by rw [HPL.out]; omega))
      have hC : C = rebE a b (togE M L) := by have := HRC.out; rw [HE.out] at this; simpa [rebE] using this
      subst hC
      have hg : g = (rebE a b (togE M L)).length := HLC.out.symm
      subst hg
      have HRD : Hid (Reads2 wr 5 O1 (rebE a b (togE M L)).length (rowsE (rebE a b (togE M L)))) := Lib.hid ⟨hs, .of_own HO.out, by rw [length_rowsE, HO.out.1], fun j u x hu hx => readsC_keep (HC.out j u x hu hx) (fun q hq => HB.out.cell (by omega))⟩
      go_wp2_with (go_at_call 97; refine (C4.out O1 o1 wr HB.out HRD.out).mono ?_; rintro e w5 ⟨Q1, q1, hs5, rfl, ho5, hb5⟩; have HO5 := Lib.hid ho5; have HB5 := Lib.hid hb5; clear ho5 hb5)
      go_ret2
      exact ⟨Q1, q1, hs5, rfl, HO5.out.mono_lo HWB.out.size, HWB.out.trans (HB5.out.mono HWB.out.size)⟩
set_option maxHeartbeats 1000000 in
set_option maxRecDepth 100000 in
theorem specRebuildLog_any (A : Option Addr) (n c : Nat) (L : List EntryT) (B : Option Addr) (m d : Nat) (M : List EntryT) (a b : Int) (w : World) (hn : n ≤ 1000000000) (hl : ∀ x ∈ L, lenE 1000000000 x) (h : Reads2 w 5 A n (rowsE L)) (hc : n ≤ c) (hm : m ≤ 1000000000) (hl' : ∀ x ∈ M, lenE 1000000000 x) (h' : Reads2 w 5 B m (rowsE M)) (hd : m ≤ d) :
    Calls Try.prog 25 #[.slice A n c, .slice B m d, .int .i64 a, .int .i64 b] w (Made4 w 51 3 5 (rebR L M a b).1.length (rowsE (rebR L M a b).1) (rebR L M a b).2) := by
  have c1 := rbGood_any A n c L B m d M a b w hn hl h hm hl' h'
  cases hk : askE L M a b with
  | false =>
    rw [hk] at c1
    have C1 := Lib.hid c1
    have hr : rebR L M a b = ([], false) := by simp [rebR, hk]
    rw [hr]
    clear c1 hr h h' hl hl' hk
    go_enter Try.func25, Try.ntmps25
    go_wp2_with (go_at_call 70; refine (C1.out).mono ?_; rintro e w1 ⟨rfl, hb⟩; have HB := Lib.hid hb; clear hb)
    go_ret2
    exact ⟨none, 0, [], rfl, own2_nil _ _, HB.out⟩
  | true =>
    rw [hk] at c1
    have C1 := Lib.hid c1
    have hr : rebR L M a b = (rebE a b (togE M L), true) := by simp [rebR, hk]
    rw [hr]
    have C2 := Lib.hid (fun W (hW : Below w.heap.size w W) => rbLog_any A n c L B m d M a b W hk (h.below hW) (h'.below hW))
    clear c1 hr h h' hl hl' hk
    go_enter Try.func25, Try.ntmps25
    go_wp2_with (first | (go_at_call 70; refine (C1.out).mono ?_; rintro e w1 ⟨rfl, hb⟩; have HB0 := Lib.hid hb; clear hb) | (go_at_call 73; refine (C2.out _ HB0.out).mono ?_; rintro e w2 ⟨Q1, q1, hs, rfl, ho, hb2⟩; have HO2 := Lib.hid ho; have HB2 := Lib.hid hb2; clear ho hb2))
    go_ret2
    exact ⟨Q1, q1, hs, rfl, HO2.out.mono_lo HB0.out.size, HB0.out.trans (HB2.out.mono HB0.out.size)⟩

end Go.Proofs.Ytcjmlakmigfkfaa
