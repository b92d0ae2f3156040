/- Contract of rbGaps of the spec. No conditions. -/
import Derived.Test.YtcjmlakmigfkfaaLog7
import Derived.Test.YtcjmlakmigfkfaaOwnP
import Derived.Test.YtcjmlakmigfkfaaTail
import Derived.Test.YtcjmlakmigfkfaaMark
namespace Go.Proofs.Ytcjmlakmigfkfaa
set_option linter.unusedSimpArgs false
set_option linter.unusedVariables false
open Go.RowKit

def cntE (M L : List EntryT) : Nat := (togE M L).length

set_option maxHeartbeats 4000000 in
set_option maxRecDepth 100000 in
theorem rbGaps_any (A : Option Addr) (n c : Nat) (L : List EntryT) (B : Option Addr) (m d : Nat) (M : List EntryT) (a b : Int) (w : World) (hn : n ≤ 1000) (hm : m ≤ 1000) (hL : ∀ x ∈ L, entB x = true) (hM : ∀ x ∈ M, entB x = true) (ha : 0 ≤ a ∧ a ≤ 60) (hb : 0 ≤ b ∧ b ≤ 60) (h : Reads2 w 5 A n (rowsE L)) (h' : Reads2 w 5 B m (rowsE M)) :
    Calls Try.prog 61 #[.slice A n c, .slice B m d, .int .i64 a, .int .i64 b] w fun e w' => ∃ A1 c1 A2 c2 hs, e = .returned (.tuple #[.slice A1 (cntE M L) c1, .slice A2 (cntE M L) c2]) ∧ Two w' w.heap.size 62 4 A1 (cntE M L) c1 (rows4 (gapsE M a b L)) 49 3 1 A2 (cntE M L) c2 (rowsIntss (ixL (ixE M 0 L))) hs ∧ Below w.heap.size w w' := by
  have HX := Lib.hid (show L.length = n by have := h.len; rw [length_rowsE] at this; omega)
  have HY := Lib.hid (show M.length = m by have := h'.len; rw [length_rowsE] at this; omega)
  have H := Lib.hid h
  have H' := Lib.hid h'
  have HLE := Lib.hid hL
  have HME := Lib.hid hM
  clear h h' hL hM
  have HS0 : Hid (Two w w.heap.size 62 4 none 0 0 [] 49 3 1 none 0 0 [] []) := Lib.hid (Two.start _ _ _ _ _ _ _)
  generalize hlo : w.heap.size = lo at *
  go_enter Try.func61, Try.ntmps61
  go_wp2
  go_loopw [10, 11, 17] (fun o1 o2 i wr => ∃ k g : Nat, ∃ A1 c1 A2 c2 G Pl hs, k ≤ n ∧ i = .int .i64 k ∧ o1 = .slice A1 g c1 ∧ o2 = .slice A2 g c2 ∧ g ≤ k ∧ G ++ gapsE M a b (L.drop k) = gapsE M a b L ∧ Pl ++ ixE M k (L.drop k) = ixE M 0 L ∧ G.length = g ∧ Pl.length = g ∧ (Two wr lo 62 4 A1 g c1 (rows4 G) 49 3 1 A2 g c2 (rowsIntss (ixL Pl)) hs) ∧ Below lo w wr) (fun _ _ i _ => n - (intOf i).toNat)
  case atStart => exact ⟨0, 0, none, 0, none, 0, [], [], [], Nat.zero_le _, rfl, rfl, rfl, Nat.le_refl _, rfl, rfl, rfl, rfl, HS0.out, Below.refl _ _⟩
  case round =>
    clear HS0
    obtain ⟨k, g, A1, c1, A2, c2, G, Pl, hs, hk, rfl, rfl, rfl, hgk, hrG, hrP, hlG, hlP, htwo, hbel⟩ := hrel
    have HRG := Lib.hid hrG; have HRP := Lib.hid hrP; have HLG := Lib.hid hlG; have HLP := Lib.hid hlP; have HT := Lib.hid htwo; have HB := Lib.hid hbel
    clear hrG hrP hlG hlP htwo hbel
    have HLO : Hid (lo ≤ wr.heap.size) := Lib.hid (by rw [← hlo]; exact HB.out.size)
    by_cases hlt : k < n
    · have hx : k < L.length := by rw [HX.out]; exact hlt
      have HD := Lib.hid (drop_cons hx)
      have hxe := HLE.out L[k] (List.getElem_mem hx)
      have HTX := Lib.hid (entB_time hxe)
      clear hxe
      obtain ⟨ad, A3, c3, A4, c4, rfl, k0, k1, k2, k3, k4, _, _⟩ := rowsE_at (H.out.below (by rw [hlo]; exact HB.out)) hx
      have hf := findE_cases M L[k]
      have HFE : Hid (findE M L[k] = idxP (isE L[k].2.1 L[k].2.2.1) M 0) := Lib.hid rfl
      generalize L[k] = x at *
      obtain ⟨t, mm, p, l, l'⟩ := x
      simp only at k0 k1 k2 k3 k4 HTX HFE
      have HW1 : Hid (Below wr.heap.size wr (wr.alloc (.cells #[.int .i64 t, .int .i64 mm, .int .i64 p, .slice A3 l.length c3, .slice A4 l'.length c4] 51))) := Lib.hid ((Below.refl _ _).alloc (Nat.le_refl _) _)
      have C1 := Lib.hid (lgFind_any B m d M mm p (wr.alloc (.cells #[.int .i64 t, .int .i64 mm, .int .i64 p, .slice A3 l.length c3, .slice A4 l'.length c4] 51)) (by omega) (H'.out.below (by rw [hlo]; exact HB.out.alloc HLO.out _)))
      rw [← HFE.out] at C1
      go_wp2_with fail
      refine (C1.out).mono ?_
      rintro e w2 ⟨rfl, hb2⟩
      have HB2 := Lib.hid hb2
      have s0 := (hb2.cell (p := ⟨wr.heap.size, 0, none⟩) (by simp)).trans (show _ = some (.int .i64 t) by simp)
      have s1 := (hb2.cell (p := ⟨wr.heap.size, 1, none⟩) (by simp)).trans (show _ = some (.int .i64 mm) by simp)
      have s2 := (hb2.cell (p := ⟨wr.heap.size, 2, none⟩) (by simp)).trans (show _ = some (.int .i64 p) by simp)
      clear hb2 k0 k1 k2 k3 k4
      have HBW : Hid (Below lo w w2) := Lib.hid ((HB.out.alloc HLO.out _).trans (HB2.out.mono (by have := HLO.out; simp; omega)))
      have HT2 := Lib.hid (HT.out.below (HW1.out.trans (HB2.out.mono (by simp))))
      have HLO2 : Hid (lo ≤ w2.heap.size) := Lib.hid (by rw [← hlo]; exact HBW.out.size)
      rcases hf with hf | ⟨j, hf, hj⟩
      · rw [hf]
        have HSK : Hid (gapsE M a b (L.drop k) = gapsE M a b (L.drop (k + 1)) ∧ ixE M k (L.drop k) = ixE M (k + 1) (L.drop (k + 1))) := Lib.hid (by
          rw [HD.out]
          simp only [gapsE, togE, ixE]
          rw [hf, if_pos (by omega), if_pos (by omega)]
          exact ⟨rfl, rfl⟩)
        clear hf
        go_wp2
        go_roundw
        case rel => exact ⟨k + 1, g, A1, c1, A2, c2, G, Pl, hs, by omega, by go_num, rfl, rfl, by omega, by rw [← HSK.out.1]; exact HRG.out, by rw [← HSK.out.2]; exact HRP.out, HLG.out, HLP.out, HT2.out, HBW.out⟩
        case measure => simp [intOf]; omega
      · rw [hf]
        have hyt := entB_time (HME.out M[j] (List.getElem_mem hj))
        obtain ⟨bd, rfl, j0, hbd⟩ : ∃ bd, B = some bd ∧ w2.cell? (bd.add (j * 5)) = some (.int .i64 M[j].1) ∧ (bd.add (j * 5)).block < w.heap.size := by
          obtain ⟨bd, B3, d3, B4, d4, e, j0, _, _, _, _, _, _⟩ := rowsE_at H'.out hj
          exact ⟨bd, e, (HBW.out.cell (by rw [← hlo]; exact World.block_lt_of_cell? w _ j0)).trans j0, World.block_lt_of_cell? w _ j0⟩
        have HBD := Lib.hid hbd; clear hbd
        have HSK : Hid (gapsE M a b (L.drop k) = (mm, p, t + a, M[j].1 - b) :: gapsE M a b (L.drop (k + 1)) ∧ ixE M k (L.drop k) = (k, j) :: ixE M (k + 1) (L.drop (k + 1))) := Lib.hid (by
          rw [HD.out]
          simp only [gapsE, togE, ixE]
          rw [hf, if_neg (by omega), if_neg (by omega)]
          refine ⟨?_, by simp⟩
          simp [gapOf, List.getD, List.getElem?_eq_getElem hj])
        generalize M[j] = y at *
        obtain ⟨yt, ym, yp, yl, yl'⟩ := y
        simp only at hyt j0 HSK
        have hjm : (j : Int) < (m : Int) := by rw [HY.out] at hj; omega
        have hj0 : (0 : Int) ≤ (j : Int) := by omega
        have htx := HTX.out
        have hs1 : IntKind.i64.wrap (t + a) = t + a := IntWalk.i64_in _ (by omega)
        have hs2 : IntKind.i64.wrap (yt - b) = yt - b := IntWalk.i64_in _ (by omega)
        clear hf
        go_wp2
        have hnb : (Value.slice A1 g c1).ownBlock ≠ some wr.heap.size := own_ne_of_lt HT.out.one (.inr (Nat.le_refl _))
        have hnd : (Value.slice A1 g c1).ownBlock ≠ some (bd.add (j * 5)).block := own_ne_of_lt HT.out.one (.inl (by rw [← hlo]; exact HBD.out))
        go_region_held3 (fun w' => w'.cell? ⟨wr.heap.size, 0, none⟩ = some (.int .i64 t) ∧ w'.cell? ⟨wr.heap.size, 1, none⟩ = some (.int .i64 mm) ∧ w'.cell? ⟨wr.heap.size, 2, none⟩ = some (.int .i64 p) ∧ w'.cell? (bd.add (j * 5)) = some (.int .i64 yt))
          (first | (go_split_ands; refine ⟨?_, ?_, ?_, ?_⟩ <;> first | assumption | (refine alloc_cell _ ?_; assumption) | (refine grown_cell hg4 ?_ (alloc_cell _ ?_) <;> assumption)) | fail)
          ((refine step_pushL _ (by rfl) (.tmp 30) (.tmp 47) 34 (by rfl) lo 62 (.agg #[.int .i64 0, .int .i64 0, .int .i64 0, .int .i64 0]) 4 32 infoGap rfl (by omega) Try.underlying34 A1 g c1 (rows4 G) (by rfl) (own_below HT2.out.one ((Below.refl _ _).drew.alloc (Nat.le_refl _) _)) (some ⟨w2.heap.size, 0, none⟩) 1 1 [.int .i64 mm, .int .i64 p, .int .i64 (t + a), .int .i64 (yt - b)] (by rfl) (reads_litk _ _ _ rfl) (by simp [Value.oneCell']) (by omega) (by omega) (by have := HLO2.out; simp; omega) ?_; intro A1' c1' w4 hown4 hg4 hb4 hloc4))
        clear hs1 hs2 s0 s1 s2 j0
        have HT4 := Lib.hid ((HT2.out.below ((Below.refl _ _).drew.alloc (Nat.le_refl _) (.cells #[.int .i64 mm, .int .i64 p, .int .i64 (t + a), .int .i64 (yt - b)] 62))).push1 hg4 hown4 hloc4)
        have HLO4 : Hid (lo ≤ w4.heap.size) := Lib.hid (by have h1 := hg4.size; have h2 := HLO2.out; simp at h1; omega)
        have HBM : Hid (Below lo w2 w4) := Lib.hid ((((Below.refl _ _).drew.alloc HLO2.out _)).trans hb4)
        clear hown4 hg4 hb4 hloc4 hnb hnd
        have HT6 := Lib.hid (HT4.out.below (((Below.refl _ _).alloc (Nat.le_refl _) (.cells #[.int .i64 (k : Int), .int .i64 (j : Int)] 3)).alloc (by simp) (.cells #[.slice (some ⟨w4.heap.size, 0, none⟩) 2 2] 49)))
        have HOC := Lib.hid (own_below (own_built w4 [.int .i64 (k : Int), .int .i64 (j : Int)] 3 (by simp) HLO4.out) ((Below.refl _ _).alloc (Nat.le_refl _) (.cells #[.slice (some ⟨w4.heap.size, 0, none⟩) 2 2] 49)))
        go_wp2_with (at_builtin; refine wpList_pushL _ rfl (.tmp 49) (.tmp 53) 24 rfl lo 49 (.slice none 0 0) 1 24 infoInts rfl (by omega) Try.underlying24 A2 g c2 hs rfl (HT6.out.two.row) (some ⟨w4.heap.size + 1, 0, none⟩) 1 1 [.slice (some ⟨w4.heap.size, 0, none⟩) 2 2] rfl (by have h := reads_new (w4.alloc (.cells #[.int .i64 (k : Int), .int .i64 (j : Int)] 3)) (.slice (some ⟨w4.heap.size, 0, none⟩) 2 2) 49; simp only [World.size_alloc] at h; exact h) (by simp [Value.oneCell']) (by omega) (by omega) (by have := HLO4.out; simp; omega) ?_; intro A2' c2' w7 hown7 hg7 hb7 hloc7)
        have HT7 := Lib.hid (HT6.out.push2 (b := w4.heap.size) (xc := [.inr (ints [(k : Int), (j : Int)])]) (own_lt HT4.out.one) (fun q hq => (HT4.out.two.lt hq).2) HLO4.out (by simp; omega) hg7 hown7 hloc7 rfl (fun q u x hu hx => by
          cases q with
          | succ q => simp at hu
          | zero =>
            simp at hu hx
            subst hu; subst hx
            exact ⟨_, _, rfl, by simpa [ints] using HOC.out⟩) (fun q u hu b' hb' => by
          cases q with
          | succ q => simp at hu
          | zero =>
            simp at hu
            subst hu
            simp [Value.ownBlock] at hb'
            subst hb'
            exact ⟨Nat.le_refl _, by simp; omega⟩) (fun q q' u v hne hu hv => by
          cases q with
          | succ q => simp at hu
          | zero =>
            cases q' with
            | zero => exact absurd rfl hne
            | succ q' => simp at hv))
        have HBL7 := Lib.hid hb7
        clear hown7 hg7 hb7 hloc7
        go_roundw
        case rel =>
          refine ⟨k + 1, g + 1, A1', c1', A2', c2', G ++ [(mm, p, t + a, yt - b)], Pl ++ [(k, j)], hs ++ [.slice (some ⟨w4.heap.size, 0, none⟩) 2 2], by omega, by go_num, rfl, rfl, by omega, ?_, ?_, by simp [HLG.out], by simp [HLP.out], ?_, ?_⟩
          · rw [← HRG.out, HSK.out.1]; simp
          · rw [← HRP.out, HSK.out.2]; simp
          · have e1 : rows4 (G ++ [(mm, p, t + a, yt - b)]) = rows4 G ++ [.int .i64 mm, .int .i64 p, .int .i64 (t + a), .int .i64 (yt - b)] := by simp [rows4, cells4]
            have e2 : rowsIntss (ixL (Pl ++ [(k, j)])) = rowsIntss (ixL Pl) ++ [.inr (ints [(k : Int), (j : Int)])] := by simp [rowsIntss, ixL]
            rw [e1, e2]
            exact HT7.out
          · exact (HBW.out.trans HBM.out).trans ((((Below.refl _ _).alloc HLO4.out (.cells #[.int .i64 (k : Int), .int .i64 (j : Int)] 3)).alloc (by have := HLO4.out; simp; omega) (.cells #[.slice (some ⟨w4.heap.size, 0, none⟩) 2 2] 49)).trans HBL7.out)
        case measure => simp [intOf]; omega
    · have HE := Lib.hid (drop_end (xs := L) (k := k) (by rw [HX.out]; omega))
      have hG : G = gapsE M a b L := by have := HRG.out; rw [HE.out] at this; simpa [gapsE, togE] using this
      have hP : Pl = ixE M 0 L := by have := HRP.out; rw [HE.out] at this; simpa [ixE] using this
      have hg : g = cntE M L := by rw [← HLG.out, hG]; simp [gapsE, cntE]
      subst hG hP
      subst hg
      go_wp2
      go_ret2
      exact ⟨A1, c1, A2, c2, hs, rfl, HT.out, HB.out⟩

end Go.Proofs.Ytcjmlakmigfkfaa
