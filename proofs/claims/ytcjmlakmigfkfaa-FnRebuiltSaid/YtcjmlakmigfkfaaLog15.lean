/- rebuilt and RebuildLog of the implementation. No conditions. -/
import Derived.Test.YtcjmlakmigfkfaaLog13
namespace Go.Proofs.Ytcjmlakmigfkfaa
set_option linter.unusedSimpArgs false
set_option linter.unusedVariables false
open Go.RowKit

theorem bel_cell {w w' : World} {p : Addr} {u : Value} (hb : Below w.heap.size w w') (h : w.cell? p = some u) : w'.cell? p = some u := (hb.cell (World.block_lt_of_cell? w _ h)).trans h

set_option maxHeartbeats 4000000 in
set_option maxRecDepth 100000 in
theorem rebuilt_any (A : Option Addr) (n c : Nat) (L : List EntryT) (B : Option Addr) (m d : Nat) (M : List EntryT) (a b : Int) (w : World) (hk : askE L M a b = true) (h : Reads2 w 5 A n (rowsE L)) (h' : Reads2 w 5 B m (rowsE M)) :
    Calls Try.prog 74 #[.slice A n c, .slice B m d, .int .i64 a, .int .i64 b] w (Made3 w 51 3 5 (rebE a b (togE M L)).length (rowsE (rebE a b (togE M L)))) := by
  have HX := Lib.hid (show L.length = n by have := h.len; rw [length_rowsE] at this; omega)
  have HY := Lib.hid (show M.length = m by have := h'.len; rw [length_rowsE] at this; omega)
  obtain ⟨hgL, hgM, hab, hbb⟩ := askE_true hk
  have gL := goodE_all hgL
  have gM := goodE_all hgM
  have C3 := Lib.hid (together_any A n c L B m d M w (by have := gL.2; rw [HX.out] at this; omega) (by have := gM.2; rw [HY.out] at this; omega) h h')
  have hN : cntE M L ≤ 30 := by have := togE_len M L; have := gL.2; unfold cntE; omega
  have HTT : Hid (∀ p ∈ togE M L, ((0 ≤ p.1.1 ∧ p.1.1 ≤ 10000) ∧ 0 ≤ p.2.1 ∧ p.2.1 ≤ 10000) ∧ p.1.2.2.2.2.length ≤ 1000000000 ∧ p.2.2.2.2.1.length ≤ 1000000000) := Lib.hid (fun p hp => by
    have hm := togE_mem p hp
    have e1 := entB_len (gL.1 _ hm.1)
    have e2 := entB_len (gM.1 _ hm.2)
    exact ⟨⟨entB_time (gL.1 _ hm.1), entB_time (gM.1 _ hm.2)⟩, by omega, by omega⟩)
  have HPL : Hid ((togE M L).length = cntE M L) := Lib.hid rfl
  clear h h' hgL hgM gL gM hk
  generalize togE M L = P at *
  generalize cntE M L = N at *
  go_enter Try.func74, Try.ntmps74
  go_wp2_with (go_at_call 64; refine (C3.out).mono ?_; rintro e w3 ⟨P1, p1, rfl, hr3, hb3⟩; have HR3 := Lib.hid hr3; have HW3 := Lib.hid hb3; clear hr3 hb3)
  generalize hg3 : w3.heap.size = g3 at *
  go_loopw [9, 16] (fun o i wr => ∃ k g : Nat, ∃ O1 o1 C hs, k ≤ N ∧ i = .int .i64 k ∧ o = .slice O1 g o1 ∧ g ≤ k ∧ C.length = g ∧ C ++ rebE a b (P.drop k) = rebE a b P ∧ Own2 wr g3 wr.heap.size 51 3 5 O1 g o1 (rowsE C) hs ∧ Below g3 w3 wr) (fun _ i _ => N - (intOf i).toNat)
  case atStart => exact ⟨0, 0, none, 0, [], [], Nat.zero_le _, rfl, rfl, Nat.le_refl _, rfl, rfl, own2_nil _ _, Below.refl _ _⟩
  case round =>
    obtain ⟨k, g, O1, o1, C, hs, hk, rfl, rfl, hgk, hlc, hrc, hown, hb⟩ := hrel
    have HLC := Lib.hid hlc; have HRC := Lib.hid hrc; have HO := Lib.hid hown; have HB := Lib.hid hb
    clear hlc hrc hown hb
    have HLO : Hid (g3 ≤ wr.heap.size) := Lib.hid (by have h1 := HB.out.size; omega)
    by_cases hlt : k < N
    · have hx : k < P.length := by rw [HPL.out]; exact hlt
      have HD := Lib.hid (drop_cons hx)
      obtain ⟨ad, A3, c3, A4, c4, B3, d3, B4, d4, rfl, ⟨k0, k1, k2, k3, k4, k5, k6, k7, k8, k9⟩, _, hra, hrb, _⟩ := rowsP_at (HR3.out.below (by rw [hg3]; exact HB.out)) hx
      have htt := HTT.out P[k] (List.getElem_mem hx)
      have HRE : Hid (rebE a b (P.drop k) = if openG a b P[k] = true then rebOf a b P[k] :: rebE a b (P.drop (k + 1)) else rebE a b (P.drop (k + 1))) := Lib.hid (by rw [HD.out]; rfl)
      generalize P[k] = x at *
      obtain ⟨⟨t, mm, p, l, l'⟩, ⟨yt, ym, yp, yl, yl'⟩⟩ := x
      simp only at k0 k1 k2 k3 k4 k5 k6 k7 k8 k9 htt hra hrb
      have hop : openG a b ((t, mm, p, l, l'), (yt, ym, yp, yl, yl')) = decide (t + a ≤ yt - b) := rfl
      have hro : rebOf a b ((t, mm, p, l, l'), (yt, ym, yp, yl, yl')) = (t + a, mm, p, l', yl) := rfl
      rw [hop, hro] at HRE
      clear hop hro
      obtain ⟨⟨ht, hyt⟩, hx4, hx5⟩ := htt
      have HRA := Lib.hid hra; have HRB := Lib.hid hrb
      clear hra hrb
      have HWS : Hid (Below wr.heap.size wr (wr.alloc (.cells #[.int .i64 t, .int .i64 mm, .int .i64 p, .slice A3 l.length c3, .slice A4 l'.length c4, .int .i64 yt, .int .i64 ym, .int .i64 yp, .slice B3 yl.length d3, .slice B4 yl'.length d4] 85))) := Lib.hid ((Below.refl _ _).alloc (Nat.le_refl _) _)
      by_cases hle : t + a ≤ yt - b
      · have HSK : Hid (rebE a b (P.drop k) = (t + a, mm, p, l', yl) :: rebE a b (P.drop (k + 1))) := Lib.hid (by rw [HRE.out]; simp [hle])
        have HWD : Hid (Below wr.heap.size wr (wr.alloc (.cells #[.int .i64 t, .int .i64 mm, .int .i64 p, .slice A3 l.length c3, .slice A4 l'.length c4, .int .i64 yt, .int .i64 ym, .int .i64 yp, .slice B3 yl.length d3, .slice B4 yl'.length d4] 85)).drew) := Lib.hid HWS.out.drew
        have HWZ : Hid (wr.heap.size ≤ (wr.alloc (.cells #[.int .i64 t, .int .i64 mm, .int .i64 p, .slice A3 l.length c3, .slice A4 l'.length c4, .int .i64 yt, .int .i64 ym, .int .i64 yp, .slice B3 yl.length d3, .slice B4 yl'.length d4] 85)).drew.heap.size) := Lib.hid HWD.out.size
        have HWY : Hid (wr.heap.size < (wr.alloc (.cells #[.int .i64 t, .int .i64 mm, .int .i64 p, .slice A3 l.length c3, .slice A4 l'.length c4, .int .i64 yt, .int .i64 ym, .int .i64 yp, .slice B3 yl.length d3, .slice B4 yl'.length d4] 85)).drew.heap.size) := Lib.hid (by have e : (wr.alloc (.cells #[.int .i64 t, .int .i64 mm, .int .i64 p, .slice A3 l.length c3, .slice A4 l'.length c4, .int .i64 yt, .int .i64 ym, .int .i64 yp, .slice B3 yl.length d3, .slice B4 yl'.length d4] 85)).drew.heap.size = wr.heap.size + 1 := World.size_alloc _ _; omega)
        have nb : (Value.slice O1 g o1).ownBlock ≠ some wr.heap.size := own_ne_of_lt HO.out.row (.inr (Nat.le_refl _))
        have hs1 : IntKind.i64.wrap (t + a) = t + a := IntWalk.i64_in _ (by omega)
        have x0 : (wr.alloc (.cells #[.int .i64 t, .int .i64 mm, .int .i64 p, .slice A3 l.length c3, .slice A4 l'.length c4, .int .i64 yt, .int .i64 ym, .int .i64 yp, .slice B3 yl.length d3, .slice B4 yl'.length d4] 85)).cell? ⟨wr.heap.size, 0, none⟩ = some (.int .i64 t) := by simp
        have x1 : (wr.alloc (.cells #[.int .i64 t, .int .i64 mm, .int .i64 p, .slice A3 l.length c3, .slice A4 l'.length c4, .int .i64 yt, .int .i64 ym, .int .i64 yp, .slice B3 yl.length d3, .slice B4 yl'.length d4] 85)).cell? ⟨wr.heap.size, 1, none⟩ = some (.int .i64 mm) := by simp
        have x2 : (wr.alloc (.cells #[.int .i64 t, .int .i64 mm, .int .i64 p, .slice A3 l.length c3, .slice A4 l'.length c4, .int .i64 yt, .int .i64 ym, .int .i64 yp, .slice B3 yl.length d3, .slice B4 yl'.length d4] 85)).cell? ⟨wr.heap.size, 2, none⟩ = some (.int .i64 p) := by simp
        have x4 : (wr.alloc (.cells #[.int .i64 t, .int .i64 mm, .int .i64 p, .slice A3 l.length c3, .slice A4 l'.length c4, .int .i64 yt, .int .i64 ym, .int .i64 yp, .slice B3 yl.length d3, .slice B4 yl'.length d4] 85)).cell? ⟨wr.heap.size, 4, none⟩ = some (.slice A4 l'.length c4) := by simp
        have x8 : (wr.alloc (.cells #[.int .i64 t, .int .i64 mm, .int .i64 p, .slice A3 l.length c3, .slice A4 l'.length c4, .int .i64 yt, .int .i64 ym, .int .i64 yp, .slice B3 yl.length d3, .slice B4 yl'.length d4] 85)).cell? ⟨wr.heap.size, 8, none⟩ = some (.slice B3 yl.length d3) := by simp
        go_wp2
        clear k0 k1 k2 k3 k4 k5 k6 k7 k8 k9
        go_region_held3 (fun w' => w'.cell? ⟨wr.heap.size, 0, none⟩ = some (.int .i64 t) ∧ w'.cell? ⟨wr.heap.size, 1, none⟩ = some (.int .i64 mm) ∧ w'.cell? ⟨wr.heap.size, 2, none⟩ = some (.int .i64 p) ∧ w'.cell? ⟨wr.heap.size, 4, none⟩ = some (.slice A4 l'.length c4) ∧ w'.cell? ⟨wr.heap.size, 8, none⟩ = some (.slice B3 yl.length d3))
          (first | (go_split_ands; refine ⟨?_, ?_, ?_, ?_, ?_⟩ <;> first | assumption | (simp; done) | (exact bel_cell hbb (by assumption)) | (exact bel_cell hba (by assumption)) | (refine alloc_cell _ ?_; assumption) | (refine grown_cell hg4 ?_ (alloc_cell _ ?_) <;> assumption) | (refine grown_cell hg4 ?_ ?_ <;> assumption)) | fail)
          (first | (go_at_call_of 98 (Value.slice A4 l'.length c4); refine (clone_any A4 l'.length c4 l' _ hx4 ((HRA.out.alloc _).drew)).mono ?_; rintro e wa ⟨Q3, q3, rfl, hoa, hba⟩) | (go_at_call_of 98 (Value.slice B3 yl.length d3); refine (clone_any B3 yl.length d3 yl _ hx5 (((HRB.out.alloc _).drew).below hba)).mono ?_; rintro e wb ⟨Q4, q4, rfl, hob, hbb⟩) | (refine step_pushL _ (by rfl) (.tmp 31) (.tmp 52) 27 (by rfl) g3 51 _ 5 72 infoEntry rfl (by omega) Try.underlying27 O1 g o1 hs (by rfl) (own_below (own_below HO.out.row (HWD.out.trans ((hba.mono HWZ.out).trans (hbb.mono (Nat.le_trans HWZ.out hba.size))))) ((Below.refl _ _).alloc (Nat.le_refl _) _)) (some ⟨wb.heap.size, 0, none⟩) 1 1 [.int .i64 (t + a), .int .i64 mm, .int .i64 p, .slice Q3 l'.length q3, .slice Q4 yl.length q4] (by rfl) (reads_litk _ _ _ rfl) (by simp [Value.oneCell']) (by omega) (by omega) (by have h1 := HLO.out; have h2 := HWZ.out; have h3 := hba.size; have h4 := hbb.size; simp; omega) ?_; intro O2 o2 w4 hown4 hg4 hb4 hloc4))
        have HOA := Lib.hid hoa; have HOB := Lib.hid hob; have HBA := Lib.hid hba; have HBB := Lib.hid hbb
        have hsa := hba.size
        have hsb := hbb.size
        have hz := HWZ.out
        have HOW := Lib.hid (HO.out.below ((HWD.out.trans ((hba.mono HWZ.out).trans (hbb.mono (Nat.le_trans HWZ.out hba.size)))).alloc (by omega) (.cells #[.int .i64 (t + a), .int .i64 mm, .int .i64 p, .slice Q3 l'.length q3, .slice Q4 yl.length q4] 51)) (Nat.le_refl _))
        have hap : apart (.slice Q3 l'.length q3) (.slice Q4 yl.length q4) := apart_of_lt (b := wa.heap.size) (fun q hq => (hoa.lt q hq).2) (fun q hq => (hob.lt q hq).1)
        have HO4 := Lib.hid (HOW.out.push_entry (by simp; omega) (own_below (own_below hoa hbb) ((Below.refl _ _).alloc (Nat.le_refl _) (.cells #[.int .i64 (t + a), .int .i64 mm, .int .i64 p, .slice Q3 l'.length q3, .slice Q4 yl.length q4] 51))) (own_below hob ((Below.refl _ _).alloc (Nat.le_refl _) (.cells #[.int .i64 (t + a), .int .i64 mm, .int .i64 p, .slice Q3 l'.length q3, .slice Q4 yl.length q4] 51))) rfl rfl (by omega) (by omega) (by have := HLO.out; omega) (by have := HLO.out; omega) hap hg4 hown4 hloc4)
        have HB4 : Hid (Below g3 w3 w4) := Lib.hid ((HB.out.trans (((HWD.out.trans ((hba.mono HWZ.out).trans (hbb.mono (Nat.le_trans HWZ.out hba.size)))).alloc (by omega) (.cells #[.int .i64 (t + a), .int .i64 mm, .int .i64 p, .slice Q3 l'.length q3, .slice Q4 yl.length q4] 51)).mono HLO.out)).trans hb4)
        clear x0 x1 x2 x4 x8 hs1 nb hoa hob hba hbb hsa hsb hz hap hown4 hg4 hb4 hloc4
        go_wp2
        go_roundw
        case rel =>
          refine ⟨k + 1, g + 1, O2, o2, C ++ [(t + a, mm, p, l', yl)], hs ++ [.int .i64 (t + a), .int .i64 mm, .int .i64 p, .slice Q3 l'.length q3, .slice Q4 yl.length q4], by omega, by go_num, rfl, by omega, by simp [HLC.out], ?_, ?_, HB4.out⟩
          · rw [← HRC.out, HSK.out]; simp
          · have e1 : rowsE (C ++ [(t + a, mm, p, l', yl)]) = rowsE C ++ celEntry (t + a, mm, p, l', yl) := by simp [rowsE]
            rw [e1]
            exact HO4.out
        case measure => simp [intOf]; omega
      · have HSK : Hid (rebE a b (P.drop k) = rebE a b (P.drop (k + 1))) := Lib.hid (by rw [HRE.out]; simp [hle])
        go_wp2
        go_roundw
        case rel => exact ⟨k + 1, g, O1, o1, C, hs, by omega, by go_num, rfl, by omega, HLC.out, by rw [← HSK.out]; exact HRC.out, (HO.out.below HWS.out (Nat.le_refl _)).mono_hi HWS.out.size, HB.out.trans (HWS.out.mono HLO.out)⟩
        case measure => simp [intOf]; omega
    · have HE := Lib.hid (drop_end (xs := P) (k := k) (by rw [HPL.out]; omega))
      have hC : C = rebE a b P := by have := HRC.out; rw [HE.out] at this; simpa [rebE] using this
      subst hC
      have hg : g = (rebE a b P).length := HLC.out.symm
      subst hg
      go_wp2
      go_ret
      subst hg3
      exact ⟨O1, o1, hs, rfl, HO.out.mono_lo HW3.out.size, HW3.out.trans (HB.out.mono HW3.out.size)⟩
set_option maxHeartbeats 1000000 in
set_option maxRecDepth 100000 in
theorem implRebuildLog_any (A : Option Addr) (n c : Nat) (L : List EntryT) (B : Option Addr) (m d : Nat) (M : List EntryT) (a b : Int) (w : World) (hn : n ≤ 1000000000) (hl : ∀ x ∈ L, lenE 1000000000 x) (h : Reads2 w 5 A n (rowsE L)) (hc : n ≤ c) (hm : m ≤ 1000000000) (hl' : ∀ x ∈ M, lenE 1000000000 x) (h' : Reads2 w 5 B m (rowsE M)) (hd : m ≤ d) :
    Calls Try.prog 26 #[.slice A n c, .slice B m d, .int .i64 a, .int .i64 b] w (Made4 w 51 3 5 (rebR L M a b).1.length (rowsE (rebR L M a b).1) (rebR L M a b).2) := by
  have c1 := gapAsked_any A n c L B m d M a b w hn hl h hc hd hm hl' h'
  cases hk : askE L M a b with
  | false =>
    rw [hk] at c1
    have C1 := Lib.hid c1
    have hr : rebR L M a b = ([], false) := by simp [rebR, hk]
    rw [hr]
    clear c1 hr h h' hl hl' hk
    go_enter Try.func26, Try.ntmps26
    go_wp2_with (go_at_call 71; refine (C1.out).mono ?_; rintro e w1 ⟨rfl, hb⟩; have HB := Lib.hid hb; clear hb)
    go_ret2
    exact ⟨none, 0, [], rfl, own2_nil _ _, HB.out⟩
  | true =>
    rw [hk] at c1
    have C1 := Lib.hid c1
    have hr : rebR L M a b = (rebE a b (togE M L), true) := by simp [rebR, hk]
    rw [hr]
    have C2 := Lib.hid (fun W (hW : Below w.heap.size w W) => rebuilt_any A n c L B m d M a b W hk (h.below hW) (h'.below hW))
    clear c1 hr h h' hl hl' hk
    go_enter Try.func26, Try.ntmps26
    go_wp2_with (first | (go_at_call 71; refine (C1.out).mono ?_; rintro e w1 ⟨rfl, hb⟩; have HB0 := Lib.hid hb; clear hb) | (go_at_call 74; refine (C2.out _ HB0.out).mono ?_; rintro e w2 ⟨Q1, q1, hs, rfl, ho, hb2⟩; have HO2 := Lib.hid ho; have HB2 := Lib.hid hb2; clear ho hb2))
    go_ret2
    exact ⟨Q1, q1, hs, rfl, HO2.out.mono_lo HB0.out.size, HB0.out.trans (HB2.out.mono HB0.out.size)⟩

end Go.Proofs.Ytcjmlakmigfkfaa
