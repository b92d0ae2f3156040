/- Contract of together of the implementation: pairs that share the arguments' memory. No conditions. -/
import Derived.Test.YtcjmlakmigfkfaaLog8
namespace Go.Proofs.Ytcjmlakmigfkfaa
set_option linter.unusedSimpArgs false
set_option linter.unusedVariables false
open Go.RowKit

def celP (p : EntryT × EntryT) : List Cel := celEntry p.1 ++ celEntry p.2
def rowsP (l : List (EntryT × EntryT)) : List Cel := l.flatMap celP
theorem celP_len (p : EntryT × EntryT) : (celP p).length = 10 := rfl
@[simp] theorem length_rowsP (l : List (EntryT × EntryT)) : (rowsP l).length = l.length * 10 := flat_len celP_len l
theorem rowsP_get {l : List (EntryT × EntryT)} {i j : Nat} (hi : i < l.length) (hj : j < 10) : (rowsP l)[i * 10 + j]? = (celP l[i])[j]? := flat_get celP_len hi hj
theorem infoPair : (Try.prog.info? 85).map (fun i => (i.zero, i.size, i.bytes)) = some (some (.agg #[.int .i64 0, .int .i64 0, .int .i64 0, .slice none 0 0, .slice none 0 0, .int .i64 0, .int .i64 0, .int .i64 0, .slice none 0 0, .slice none 0 0]), 10, 144) := by kernel_rfl
/-- As rowsE_at, with the bounds of the capacities. -/
theorem rowsE_at2 {w : World} {A : Option Addr} {n i : Nat} {L : List EntryT} (h : Reads2 w 5 A n (rowsE L)) (hi : i < L.length) :
    ∃ ad A3 c3 A4 c4, A = some ad ∧ (w.cell? (ad.add (i * 5)) = some (.int .i64 L[i].1) ∧ w.cell? ⟨(ad.add (i * 5)).block, (ad.add (i * 5)).off + 1, none⟩ = some (.int .i64 L[i].2.1) ∧ w.cell? ⟨(ad.add (i * 5)).block, (ad.add (i * 5)).off + 2, none⟩ = some (.int .i64 L[i].2.2.1) ∧
      w.cell? ⟨(ad.add (i * 5)).block, (ad.add (i * 5)).off + 3, none⟩ = some (.slice A3 L[i].2.2.2.1.length c3) ∧ w.cell? ⟨(ad.add (i * 5)).block, (ad.add (i * 5)).off + 4, none⟩ = some (.slice A4 L[i].2.2.2.2.length c4)) ∧
      readsC w (.slice A3 L[i].2.2.2.1.length c3) (.inr (ints L[i].2.2.2.1)) ∧ readsC w (.slice A4 L[i].2.2.2.2.length c4) (.inr (ints L[i].2.2.2.2)) := by
  obtain ⟨ad0, e0, k0⟩ := h.plain (j := i * 5 + 0) (u := .int .i64 L[i].1) (by rw [rowsE_get hi (by omega)]; rfl)
  obtain ⟨ad1, e1, k1⟩ := h.plain (j := i * 5 + 1) (u := .int .i64 L[i].2.1) (by rw [rowsE_get hi (by omega)]; rfl)
  obtain ⟨ad2, e2, k2⟩ := h.plain (j := i * 5 + 2) (u := .int .i64 L[i].2.2.1) (by rw [rowsE_get hi (by omega)]; rfl)
  obtain ⟨ad3, A3, c3, e3, k3, b3, m3, r3⟩ := h.row (j := i * 5 + 3) (l := ints L[i].2.2.2.1) (by rw [rowsE_get hi (by omega)]; rfl)
  obtain ⟨ad4, A4, c4, e4, k4, b4, m4, r4⟩ := h.row (j := i * 5 + 4) (l := ints L[i].2.2.2.2) (by rw [rowsE_get hi (by omega)]; rfl)
  subst e0
  injection e1 with e1
  subst e1
  injection e2 with e2
  subst e2
  injection e3 with e3
  subst e3
  injection e4 with e4
  subst e4
  simp only [length_ints] at k3 k4
  refine ⟨ad0, A3, c3, A4, c4, rfl, ⟨k0, ?_, ?_, ?_, ?_⟩, ⟨A3, c3, by simp, b3, m3, r3⟩, ⟨A4, c4, by simp, b4, m4, r4⟩⟩
  · rw [← add_pos_ (by omega)]; exact k1
  · rw [← add_pos_ (by omega)]; exact k2
  · rw [← add_pos_ (by omega)]; exact k3
  · rw [← add_pos_ (by omega)]; exact k4

set_option maxHeartbeats 4000000 in
set_option maxRecDepth 100000 in
theorem together_any (A : Option Addr) (n c : Nat) (L : List EntryT) (B : Option Addr) (m d : Nat) (M : List EntryT) (w : World) (hn : n ≤ 1000) (hm : m ≤ 1000) (h : Reads2 w 5 A n (rowsE L)) (h' : Reads2 w 5 B m (rowsE M)) :
    Calls Try.prog 64 #[.slice A n c, .slice B m d] w fun e w' => ∃ A1 c1, e = .returned (.slice A1 (cntE M L) c1) ∧ Reads2 w' 10 A1 (cntE M L) (rowsP (togE M L)) ∧ Below w.heap.size w w' := by
  have HX := Lib.hid (show L.length = n by have := h.len; rw [length_rowsE] at this; omega)
  have HY := Lib.hid (show M.length = m by have := h'.len; rw [length_rowsE] at this; omega)
  have H := Lib.hid h
  have H' := Lib.hid h'
  clear h h'
  generalize hlo : w.heap.size = lo at *
  go_enter Try.func64, Try.ntmps64
  go_wp2
  go_loopw [5, 11] (fun o1 i wr => ∃ k g : Nat, ∃ A1 c1 Pl hs, k ≤ n ∧ i = .int .i64 k ∧ o1 = .slice A1 g c1 ∧ g ≤ k ∧ Pl ++ togE M (L.drop k) = togE M L ∧ Pl.length = g ∧ wr.ownsRow lo 85 10 (.slice A1 g c1) g hs ∧ (∀ (j : Nat) (u : Value) (x : Cel), hs[j]? = some u → (rowsP Pl)[j]? = some x → readsC w u x) ∧ Below lo w wr) (fun _ i _ => n - (intOf i).toNat)
  case atStart => exact ⟨0, 0, none, 0, [], [], Nat.zero_le _, rfl, rfl, Nat.le_refl _, rfl, rfl, World.ownsRow_nil _ _ _ _, fun j u x hu => by simp at hu, Below.refl _ _⟩
  case round =>
    obtain ⟨k, g, A1, c1, Pl, hs, hk, rfl, rfl, hgk, hrP, hlP, hown, hcel, hbel⟩ := hrel
    have HRP := Lib.hid hrP; have HLP := Lib.hid hlP; have HO := Lib.hid hown; have HC := Lib.hid hcel; have HB := Lib.hid hbel
    clear hrP hlP hown hcel hbel
    have HLO : Hid (lo ≤ wr.heap.size) := Lib.hid (by rw [← hlo]; exact HB.out.size)
    by_cases hlt : k < n
    · have hx : k < L.length := by rw [HX.out]; exact hlt
      have HD := Lib.hid (drop_cons hx)
      have hf := findE_cases M L[k]
      have HFE : Hid (findE M L[k] = idxP (isE L[k].2.1 L[k].2.2.1) M 0) := Lib.hid rfl
      obtain ⟨ad, A3, c3, A4, c4, rfl, ⟨k0, k1, k2, k3, k4⟩, r3, r4⟩ := rowsE_at2 H.out hx
      have q0 := (HB.out.cell (by rw [← hlo]; exact World.block_lt_of_cell? w _ k0)).trans k0
      have q1 := (HB.out.cell (by rw [← hlo]; exact World.block_lt_of_cell? w _ k1)).trans k1
      have q2 := (HB.out.cell (by rw [← hlo]; exact World.block_lt_of_cell? w _ k2)).trans k2
      have q3 := (HB.out.cell (by rw [← hlo]; exact World.block_lt_of_cell? w _ k3)).trans k3
      have q4 := (HB.out.cell (by rw [← hlo]; exact World.block_lt_of_cell? w _ k4)).trans k4
      clear k0 k1 k2 k3 k4
      generalize L[k] = x at *
      obtain ⟨t, mm, p, l, l'⟩ := x
      simp only at q0 q1 q2 q3 q4 r3 r4 HFE
      have HR3 := Lib.hid r3; have HR4 := Lib.hid r4
      clear r3 r4
      have HW1 : Hid (Below wr.heap.size wr (wr.alloc (.cells #[.int .i64 t, .int .i64 mm, .int .i64 p, .slice A3 l.length c3, .slice A4 l'.length c4] 51))) := Lib.hid ((Below.refl _ _).alloc (Nat.le_refl _) _)
      have C1 := Lib.hid (entryIndex_any B m d M mm p (wr.alloc (.cells #[.int .i64 t, .int .i64 mm, .int .i64 p, .slice A3 l.length c3, .slice A4 l'.length c4] 51)) (by omega) (H'.out.below (by rw [hlo]; exact HB.out.alloc HLO.out _)))
      rw [← HFE.out] at C1
      go_wp2_with fail
      refine (C1.out).mono ?_
      rintro e w2 ⟨rfl, hb2⟩
      have HB2 := Lib.hid hb2
      have s0 := (hb2.cell (p := ⟨wr.heap.size, 0, none⟩) (by simp)).trans (show _ = some (.int .i64 t) by simp)
      have s1 := (hb2.cell (p := ⟨wr.heap.size, 1, none⟩) (by simp)).trans (show _ = some (.int .i64 mm) by simp)
      have s2 := (hb2.cell (p := ⟨wr.heap.size, 2, none⟩) (by simp)).trans (show _ = some (.int .i64 p) by simp)
      have s3 := (hb2.cell (p := ⟨wr.heap.size, 3, none⟩) (by simp)).trans (show _ = some (.slice A3 l.length c3) by simp)
      have s4 := (hb2.cell (p := ⟨wr.heap.size, 4, none⟩) (by simp)).trans (show _ = some (.slice A4 l'.length c4) by simp)
      clear hb2 q0 q1 q2 q3 q4
      have HBW : Hid (Below lo w w2) := Lib.hid ((HB.out.alloc HLO.out _).trans (HB2.out.mono (by have := HLO.out; simp; omega)))
      have HO2 := Lib.hid (own_below HO.out (HW1.out.trans (HB2.out.mono (by simp))))
      have HLO2 : Hid (lo ≤ w2.heap.size) := Lib.hid (by rw [← hlo]; exact HBW.out.size)
      rcases hf with hf | ⟨j, hf, hj⟩
      · rw [hf]
        have HSK : Hid (togE M (L.drop k) = togE M (L.drop (k + 1))) := Lib.hid (by
          rw [HD.out]
          simp only [togE]
          rw [hf, if_pos (by omega)])
        clear hf
        go_wp2
        go_roundw
        case rel => exact ⟨k + 1, g, A1, c1, Pl, hs, by omega, by go_num, rfl, by omega, by rw [← HSK.out]; exact HRP.out, HLP.out, HO2.out, HC.out, HBW.out⟩
        case measure => simp [intOf]; omega
      · rw [hf]
        obtain ⟨bd, B3, d3, B4, d4, rfl, ⟨i0, i1, i2, i3, i4⟩, r3, r4⟩ := rowsE_at2 H'.out hj
        have hbd := World.block_lt_of_cell? w _ i0
        have HBD : Hid ((bd.add (j * 5)).block < w.heap.size) := Lib.hid hbd
        have j0 := (HBW.out.cell (by rw [← hlo]; exact World.block_lt_of_cell? w _ i0)).trans i0
        have j1 := (HBW.out.cell (by rw [← hlo]; exact World.block_lt_of_cell? w _ i1)).trans i1
        have j2 := (HBW.out.cell (by rw [← hlo]; exact World.block_lt_of_cell? w _ i2)).trans i2
        have j3 := (HBW.out.cell (by rw [← hlo]; exact World.block_lt_of_cell? w _ i3)).trans i3
        have j4 := (HBW.out.cell (by rw [← hlo]; exact World.block_lt_of_cell? w _ i4)).trans i4
        clear i0 i1 i2 i3 i4 hbd
        have HSK : Hid (togE M (L.drop k) = ((t, mm, p, l, l'), M[j]) :: togE M (L.drop (k + 1))) := Lib.hid (by
          rw [HD.out]
          simp only [togE]
          rw [hf, if_neg (by omega)]
          simp [List.getD, List.getElem?_eq_getElem hj])
        generalize M[j] = y at *
        obtain ⟨yt, ym, yp, yl, yl'⟩ := y
        simp only at j0 j1 j2 j3 j4 r3 r4 HSK
        have HS3 := Lib.hid r3; have HS4 := Lib.hid r4
        clear r3 r4
        have hjm : (j : Int) < (m : Int) := by rw [HY.out] at hj; omega
        have hj0 : (0 : Int) ≤ (j : Int) := by omega
        clear hf
        have hnb : (Value.slice A1 g c1).ownBlock ≠ some wr.heap.size := own_ne_of_lt HO.out (.inr (Nat.le_refl _))
        have hnd : (Value.slice A1 g c1).ownBlock ≠ some (bd.add (j * 5)).block := own_ne_of_lt HO.out (.inl (by rw [← hlo]; exact HBD.out))
        go_wp2
        go_region_held3 (fun w' => w'.cell? ⟨wr.heap.size, 0, none⟩ = some (.int .i64 t) ∧ w'.cell? ⟨wr.heap.size, 1, none⟩ = some (.int .i64 mm) ∧ w'.cell? ⟨wr.heap.size, 2, none⟩ = some (.int .i64 p) ∧ w'.cell? ⟨wr.heap.size, 3, none⟩ = some (.slice A3 l.length c3) ∧ w'.cell? ⟨wr.heap.size, 4, none⟩ = some (.slice A4 l'.length c4) ∧ w'.cell? (bd.add (j * 5)) = some (.int .i64 yt) ∧ w'.cell? ⟨(bd.add (j * 5)).block, (bd.add (j * 5)).off + 1, none⟩ = some (.int .i64 ym) ∧ w'.cell? ⟨(bd.add (j * 5)).block, (bd.add (j * 5)).off + 2, none⟩ = some (.int .i64 yp) ∧ w'.cell? ⟨(bd.add (j * 5)).block, (bd.add (j * 5)).off + 3, none⟩ = some (.slice B3 yl.length d3) ∧ w'.cell? ⟨(bd.add (j * 5)).block, (bd.add (j * 5)).off + 4, none⟩ = some (.slice B4 yl'.length d4))
          (first | (go_split_ands; refine ⟨?_, ?_, ?_, ?_, ?_, ?_, ?_, ?_, ?_, ?_⟩ <;> first | assumption | (refine alloc_cell _ ?_; assumption) | (refine grown_cell hg4 ?_ (alloc_cell _ ?_) <;> assumption)) | fail)
          ((refine step_pushL _ (by rfl) (.tmp 23) (.tmp 30) 82 (by rfl) lo 85 _ 10 144 infoPair rfl (by omega) Try.underlying82 A1 g c1 hs (by rfl) (own_below HO2.out ((Below.refl _ _).drew.alloc (Nat.le_refl _) _)) (some ⟨w2.heap.size, 0, none⟩) 1 1 [.int .i64 t, .int .i64 mm, .int .i64 p, .slice A3 l.length c3, .slice A4 l'.length c4, .int .i64 yt, .int .i64 ym, .int .i64 yp, .slice B3 yl.length d3, .slice B4 yl'.length d4] (by rfl) (reads_litk _ _ _ rfl) (by simp [Value.oneCell']) (by omega) (by omega) (by have := HLO2.out; simp; omega) ?_; intro A1' c1' w4 hown4 hg4 hb4 hloc4))
        clear s0 s1 s2 s3 s4 j0 j1 j2 j3 j4 hnb hnd
        have HO4 := Lib.hid hown4
        have HB4 : Hid (Below lo w w4) := Lib.hid (HBW.out.trans ((((Below.refl _ _).drew.alloc HLO2.out _)).trans hb4))
        clear hown4 hg4 hb4 hloc4
        have HCN : Hid (∀ (q : Nat) (u : Value) (x : Cel), (hs ++ [.int .i64 t, .int .i64 mm, .int .i64 p, .slice A3 l.length c3, .slice A4 l'.length c4, .int .i64 yt, .int .i64 ym, .int .i64 yp, .slice B3 yl.length d3, .slice B4 yl'.length d4])[q]? = some u → (rowsP (Pl ++ [((t, mm, p, l, l'), (yt, ym, yp, yl, yl'))]))[q]? = some x → readsC w u x) := Lib.hid (by
          intro q u x hu hx
          have e1 : rowsP (Pl ++ [((t, mm, p, l, l'), (yt, ym, yp, yl, yl'))]) = rowsP Pl ++ celP ((t, mm, p, l, l'), (yt, ym, yp, yl, yl')) := by simp [rowsP]
          rw [e1] at hx
          have hl : (rowsP Pl).length = hs.length := by rw [length_rowsP, HLP.out, HO.out.1]
          rcases append_cases hu with ⟨hq, hu⟩ | ⟨hq, hu⟩ <;> rcases append_cases hx with ⟨hq', hx⟩ | ⟨hq', hx⟩
          · exact HC.out q u x hu hx
          · omega
          · omega
          · rw [hl] at hx
            generalize q - hs.length = r at hu hx
            match r with
            | 0 => simp [celP, celEntry] at hu hx; subst hu; subst hx; rfl
            | 1 => simp [celP, celEntry] at hu hx; subst hu; subst hx; rfl
            | 2 => simp [celP, celEntry] at hu hx; subst hu; subst hx; rfl
            | 3 => simp [celP, celEntry] at hu hx; subst hu; subst hx; exact HR3.out
            | 4 => simp [celP, celEntry] at hu hx; subst hu; subst hx; exact HR4.out
            | 5 => simp [celP, celEntry] at hu hx; subst hu; subst hx; rfl
            | 6 => simp [celP, celEntry] at hu hx; subst hu; subst hx; rfl
            | 7 => simp [celP, celEntry] at hu hx; subst hu; subst hx; rfl
            | 8 => simp [celP, celEntry] at hu hx; subst hu; subst hx; exact HS3.out
            | 9 => simp [celP, celEntry] at hu hx; subst hu; subst hx; exact HS4.out
            | r + 10 => simp at hu)
        go_wp2
        go_roundw
        case rel =>
          refine ⟨k + 1, g + 1, A1', c1', Pl ++ [((t, mm, p, l, l'), (yt, ym, yp, yl, yl'))], hs ++ [.int .i64 t, .int .i64 mm, .int .i64 p, .slice A3 l.length c3, .slice A4 l'.length c4, .int .i64 yt, .int .i64 ym, .int .i64 yp, .slice B3 yl.length d3, .slice B4 yl'.length d4], by omega, by go_num, rfl, by omega, ?_, by simp [HLP.out], HO4.out, HCN.out, HB4.out⟩
          rw [← HRP.out, HSK.out]; simp
        case measure => simp [intOf]; omega
    · have HE := Lib.hid (drop_end (xs := L) (k := k) (by rw [HX.out]; omega))
      have hP : Pl = togE M L := by have := HRP.out; rw [HE.out] at this; simpa [togE] using this
      have hg : g = cntE M L := by rw [← HLP.out, hP]; rfl
      subst hP
      subst hg
      go_wp2
      go_ret
      exact ⟨A1, c1, rfl, ⟨hs, .of_own HO.out, by rw [length_rowsP, HO.out.1]; rfl, fun j u x hu hx => readsC_keep (HC.out j u x hu hx) (fun q hq => HB.out.cell (by omega))⟩, HB.out⟩

end Go.Proofs.Ytcjmlakmigfkfaa
