/- The spec's shSort: short lists stay short. No conditions. -/
import Derived.Test.YtiofgoppgdgbaaaDoorDrP
import Derived.Test.YtiofgoppgdgbaaaDoorSh4
import Derived.Test.YtiofgoppgdgbaaaDoorBel
import Derived.Deep.RegionLaw
namespace Go.Proofs.YtiofgoppgdgbaaaDoor
set_option linter.unusedSimpArgs false
set_option linter.unusedVariables false
open Go.RowKit

theorem infoShift3 : (Tryd.prog.info? 56).map (fun i => (i.zero, i.size, i.bytes)) = some (some (.agg #[.int .i64 0, .int .i64 0, .int .i64 0]), 3, 24) := by kernel_rfl
theorem rows3_drop (l : List S3) (j : Nat) : (rows3 l).drop (j * 3) = rows3 (l.drop j) := by
  induction l generalizing j with
  | nil => simp [rows3]
  | cons x r ih =>
    cases j with
    | zero => simp [rows3]
    | succ j =>
      have h := ih j
      simp only [rows3, List.flatMap_cons, List.drop_succ_cons] at h ⊢
      rw [show (j + 1) * 3 = (cells3 x).length + j * 3 from by simp [cells3]; omega, List.drop_length_add_append, h]
theorem reads_grownF {w w' : World} {k n : Nat} {A : Option Addr} {xs : List Value} {row : Option Nat} (h : Reads w k A n xs) (hg : w.grownBy w' row) (hne : ∀ ad, A = some ad → row ≠ some ad.block) : Reads w' k A n xs :=
  ⟨h.1, fun hn => by
    obtain ⟨ad, e, hc⟩ := h.2 hn
    exact ⟨ad, e, fun j u hu => grown_cell hg (by rw [block_of_add]; exact hne ad e) (hc j u hu)⟩⟩
theorem rows3_app (l m : List S3) : rows3 (l ++ m) = rows3 l ++ rows3 m := by simp [rows3]

set_option maxHeartbeats 4000000 in
set_option maxRecDepth 100000 in
theorem shSort_any (A : Option Addr) (n c : Nat) (l : List S3) (w : World) (hn : n ≤ 100) (h : Reads w 3 A n (rows3 l)) :
    Calls Tryd.prog 84 #[.slice A n c] w fun e w' => ∃ B d out b, e = .returned (.tuple #[.slice B (List.length out) d, .bool b]) ∧ out.length ≤ n ∧ w'.ownsRow w.heap.size 56 3 (.slice B out.length d) out.length (rows3 out) ∧ Below w.heap.size w w' := by
  have HX := Lib.hid (show l.length = n by have := h.1; rw [length_rows3] at this; omega)
  have H := Lib.hid h
  clear h
  go_enter Tryd.func84, Tryd.ntmps84
  go_wp2
  go_loopw [4, 10] (fun o i wr => ∃ k : Nat, ∃ B d out, k ≤ n ∧ i = .int .i64 k ∧ o = .slice B k d ∧ List.length out = k ∧ wr.ownsRow w.heap.size 56 3 (.slice B k d) k (rows3 out) ∧ Below w.heap.size w wr) (fun _ i _ => n - (intOf i).toNat)
  case atStart => exact ⟨0, none, 0, [], Nat.zero_le _, rfl, rfl, rfl, World.ownsRow_nil _ _ _ _, Below.refl _ _⟩
  case round =>
    obtain ⟨k, B, d, out, hk, rfl, rfl, hlo, hown, hb⟩ := hrel
    have HLO := Lib.hid hlo; have HO := Lib.hid hown; have HB := Lib.hid hb
    clear hlo hown hb
    obtain ⟨wo, rfl⟩ : ∃ wo, wo = wr := ⟨_, rfl⟩
    by_cases hlt : k < n
    · have hx : k < l.length := by rw [HX.out]; exact hlt
      obtain ⟨ad, rfl, k0, k1, k2⟩ := rows3_at (H.out.below HB.out) hlt HX.out
      generalize l[k] = x at *
      obtain ⟨xa, xb, xc⟩ := x
      simp only at k0 k1 k2
      have HBX : Hid (Below wo.heap.size wo (wo.alloc (.cells #[.int .i64 xa, .int .i64 xb, .int .i64 xc] 56))) := Lib.hid ((Below.refl _ _).alloc (Nat.le_refl _) _)
      have HK : Hid (∀ W, Below (wo.alloc (.cells #[.int .i64 xa, .int .i64 xb, .int .i64 xc] 56)).heap.size (wo.alloc (.cells #[.int .i64 xa, .int .i64 xb, .int .i64 xc] 56)) W → W.cell? ⟨wo.heap.size, 0, none⟩ = some (.int .i64 xa) ∧ W.cell? ⟨wo.heap.size, 1, none⟩ = some (.int .i64 xb) ∧ W.cell? ⟨wo.heap.size, 2, none⟩ = some (.int .i64 xc)) := Lib.hid (fun W hW => box3 hW)
      go_wp2
      clear k0 k1 k2
      go_loopw [7] (fun v wi => ∃ j : Nat, j ≤ k ∧ v = .int .i64 j ∧ Below (wo.alloc (.cells #[.int .i64 xa, .int .i64 xb, .int .i64 xc] 56)).heap.size (wo.alloc (.cells #[.int .i64 xa, .int .i64 xb, .int .i64 xc] 56)) wi) (fun v _ => (intOf v).toNat)
      case atStart => exact ⟨k, Nat.le_refl _, rfl, Below.refl _ _⟩
      case round =>
        obtain ⟨j, hj, rfl, hb⟩ := hrel
        have HBI := Lib.hid hb
        clear hb
        obtain ⟨wi, rfl⟩ : ∃ wi, wi = wr := ⟨_, rfl⟩
        have HBW : Hid (Below wo.heap.size wo wi) := Lib.hid (HBX.out.trans (HBI.out.mono HBX.out.size))
        obtain ⟨x0, x1, x2⟩ := HK.out wi HBI.out
        have HXC := Lib.hid (And.intro x0 (And.intro x1 x2))
        clear x0 x1 x2
        by_cases hj0 : j = 0
        · have hw2 : decide (0 < j) = false := by simp; omega
          clear hj0
          go_wp2
          refine wp_region_below wi (by kernel_rfl) (by kernel_rfl) (by first | assumption | exact Below.refl _ _) ?_
          repeat (go_big_quiet_step (fail))
          refine wpQuiet_nil ?_
          intro wb hw'
          obtain ⟨⟨wb', hB⟩, hwb⟩ := hw'
          simp only at hwb
          subst hwb
          try simp only at hB ⊢
          clear hw2
          go_wp2
          have HBB := Lib.hid (HBW.out.trans (hB.mono HBW.out.size))
          have HKB := Lib.hid (HK.out wb (HBI.out.trans (hB.mono HBI.out.size)))
          clear hB
          obtain ⟨x0, x1, x2⟩ := HKB.out
          have hkeep : ∀ W, Below wb.heap.size wb W → W.cell? ⟨wo.heap.size, 0, none⟩ = some (.int .i64 xa) ∧ W.cell? ⟨wo.heap.size, 1, none⟩ = some (.int .i64 xb) ∧ W.cell? ⟨wo.heap.size, 2, none⟩ = some (.int .i64 xc) := fun W hW => ⟨(hW.cell (World.block_lt_of_cell? _ _ x0)).trans x0, (hW.cell (World.block_lt_of_cell? _ _ x1)).trans x1, (hW.cell (World.block_lt_of_cell? _ _ x2)).trans x2⟩
          have HKEEP := Lib.hid hkeep
          clear hkeep
          have hcap := own_cap HO.out
          have HRT : Hid (∀ W, Below wb.heap.size wb W → Reads W 3 B j (rows3 (out.take j))) := Lib.hid (fun W hW => by have h9 := ((Reads.of_own (own_below HO.out HBB.out)).below hW).take (m := j) hj; rw [rows3_take] at h9; exact h9)
          have HRC : Hid (∀ W, Below wb.heap.size wb W → Reads W 3 (if d = j then B else B.map (·.add (j * 3))) (k - j) (rows3 (out.drop j))) := Lib.hid (fun W hW => by have h9 := ((Reads.of_own (own_below HO.out HBB.out)).below hW).cut (m := j) (cap := d) hj hcap; rw [rows3_drop] at h9; exact h9)
          have hjd : (j : Int) ≤ (d : Int) := by omega
          have hj1 : (0 : Int) ≤ (j : Int) := by omega
          have hjk : (j : Int) ≤ (k : Int) := by omega
          have hkd : (k : Int) ≤ (d : Int) := by omega
          have HBEL0 : Hid (Below wb.heap.size wb ((wb.alloc (.cells #[] 56)).alloc (.cells #[.int .i64 xa, .int .i64 xb, .int .i64 xc] 56)).drew) := Lib.hid (((Below.refl _ _).alloc (Nat.le_refl _) _).alloc (by simp) _).drew
          have HOW0 : Hid (((wb.alloc (.cells #[] 56)).alloc (.cells #[.int .i64 xa, .int .i64 xb, .int .i64 xc] 56)).drew.ownsRow wb.heap.size 56 3 (.slice (some ⟨wb.heap.size, 0, none⟩) 0 0) 0 []) := Lib.hid (own_below (World.ownsRow_made wb #[] 0 (Nat.le_refl _) (by unfold maxLen; omega) rfl) ((Below.refl _ _).alloc (Nat.le_refl _) _).drew)
          have HRW0 : Hid (Reads ((wb.alloc (.cells #[] 56)).alloc (.cells #[.int .i64 xa, .int .i64 xb, .int .i64 xc] 56)).drew 3 (some ⟨wb.heap.size + 1, 0, none⟩) 1 [.int .i64 xa, .int .i64 xb, .int .i64 xc]) := Lib.hid (by have h9 := reads_litk (wb.alloc (.cells #[] 56)) [.int .i64 xa, .int .i64 xb, .int .i64 xc] 56 (n := 1) (k := 3) rfl; rw [World.size_alloc] at h9; exact h9)
          have HBELA : Hid (Below wb.heap.size wb (wb.alloc (.cells #[] 56)).drew) := Lib.hid ((Below.refl _ _).alloc (Nat.le_refl _) _).drew
          have HOWA : Hid ((wb.alloc (.cells #[] 56)).drew.ownsRow wb.heap.size 56 3 (.slice (some ⟨wb.heap.size, 0, none⟩) 0 0) 0 []) := Lib.hid (own_below (World.ownsRow_made wb #[] 0 (Nat.le_refl _) (by unfold maxLen; omega) rfl) (Below.refl _ _).drew)
          have HBELC : Hid (Below wb.heap.size wb ((wb.alloc (.cells #[.int .i64 xa, .int .i64 xb, .int .i64 xc] 56)).alloc (.cells #[] 56)).drew) := Lib.hid (((Below.refl _ _).alloc (Nat.le_refl _) _).alloc (by simp) _).drew
          have HOWC : Hid (((wb.alloc (.cells #[.int .i64 xa, .int .i64 xb, .int .i64 xc] 56)).alloc (.cells #[] 56)).drew.ownsRow wb.heap.size 56 3 (.slice (some ⟨wb.heap.size + 1, 0, none⟩) 0 0) 0 []) := Lib.hid (by have h9 := show (((wb.alloc (.cells #[.int .i64 xa, .int .i64 xb, .int .i64 xc] 56)).alloc (.cells #[] 56)).ownsRow (wb.alloc (.cells #[.int .i64 xa, .int .i64 xb, .int .i64 xc] 56)).heap.size 56 3 (.slice (some ⟨(wb.alloc (.cells #[.int .i64 xa, .int .i64 xb, .int .i64 xc] 56)).heap.size, 0, none⟩) 0 0) 0 []) from World.ownsRow_made _ #[] 0 (Nat.le_refl _) (by unfold maxLen; omega) rfl; rw [World.size_alloc] at h9; exact own_below (own_mono h9 (Nat.le_succ _)) (Below.refl _ _).drew)
          have HRWC : Hid (Reads ((wb.alloc (.cells #[.int .i64 xa, .int .i64 xb, .int .i64 xc] 56)).alloc (.cells #[] 56)).drew 3 (some ⟨wb.heap.size, 0, none⟩) 1 [.int .i64 xa, .int .i64 xb, .int .i64 xc]) := Lib.hid ((reads_litk wb [.int .i64 xa, .int .i64 xb, .int .i64 xc] 56 (n := 1) (k := 3) rfl).alloc _)
          have HSW0 : Hid (wb.heap.size + 1 < ((wb.alloc (.cells #[] 56)).alloc (.cells #[.int .i64 xa, .int .i64 xb, .int .i64 xc] 56)).drew.heap.size) := Lib.hid (by have e : ((wb.alloc (.cells #[] 56)).alloc (.cells #[.int .i64 xa, .int .i64 xb, .int .i64 xc] 56)).drew.heap.size = wb.heap.size + 1 + 1 := (World.size_alloc _ _).trans (by rw [World.size_alloc]); omega)
          
          go_region_held3 (fun W => W.cell? ⟨wo.heap.size, 0, none⟩ = some (.int .i64 xa) ∧ W.cell? ⟨wo.heap.size, 1, none⟩ = some (.int .i64 xb) ∧ W.cell? ⟨wo.heap.size, 2, none⟩ = some (.int .i64 xc)) (exact HKEEP.out _ (by first | assumption | exact (Below.refl _ _).drew | exact ((Below.refl _ _).alloc (Nat.le_refl _) _).drew | exact HBEL0.out | exact HBELC.out | exact (hA.alloc hA.size _) | exact hB.trans hb3 | fail)) (first | ((refine step_pushL _ (by rfl) (.tmp 29) (.tmp 32) 31 (by rfl) wb.heap.size 56 _ 3 24 infoShift3 rfl (by omega) Tryd.underlying31 (some ⟨wb.heap.size, 0, none⟩) 0 0 [] (by first | rfl | (show Value.slice A1 (0 + j) c1 = Value.slice A1 j c1; rw [Nat.zero_add])) HOWA.out B j d (rows3 (out.take j)) (by rfl) (HRT.out _ HBELA.out) (one_rows3 _) (by omega) (by omega) HBELA.out.size ?_); intro A1 c1 wp hown1 hg1 hb1 hl1; rw [Nat.zero_add, List.nil_append] at hown1; have hA := HBELA.out.trans hb1) | ((refine step_pushL _ (by rfl) (.tmp 29) (.tmp 32) 31 (by rfl) wb.heap.size 56 _ 3 24 infoShift3 rfl (by omega) Tryd.underlying31 (some ⟨wb.heap.size, 0, none⟩) 0 0 [] (by first | rfl | (show Value.slice A1 (0 + j) c1 = Value.slice A1 j c1; rw [Nat.zero_add])) HOW0.out B j d (rows3 (out.take j)) (by rfl) (HRT.out _ HBEL0.out) (one_rows3 _) (by omega) (by omega) HBEL0.out.size ?_); intro A1 c1 wp hown1 hg1 hb1 hl1; rw [Nat.zero_add, List.nil_append] at hown1; have hA := HBEL0.out.trans hb1; have hrx := reads_grownF HRW0.out hg1 (fun ad e => by injection e with e; subst e; simp [Value.ownBlock])) | ((refine step_pushL _ (by rfl) (.tmp 29) (.tmp 32) 31 (by rfl) wb.heap.size 56 _ 3 24 infoShift3 rfl (by omega) Tryd.underlying31 (some ⟨wb.heap.size + 1, 0, none⟩) 0 0 [] (by first | rfl | (show Value.slice A1 (0 + j) c1 = Value.slice A1 j c1; rw [Nat.zero_add])) HOWC.out B j d (rows3 (out.take j)) (by rfl) (HRT.out _ HBELC.out) (one_rows3 _) (by omega) (by omega) HBELC.out.size ?_); intro A1 c1 wp hown1 hg1 hb1 hl1; rw [Nat.zero_add, List.nil_append] at hown1; have hA := HBELC.out.trans hb1; have hrx := reads_grownF HRWC.out hg1 (fun ad e => by injection e with e; subst e; simp [Value.ownBlock])) | ((refine step_pushL _ (by rfl) (.tmp 33) (.tmp 35) 31 (by rfl) wb.heap.size 56 _ 3 24 infoShift3 rfl (by omega) Tryd.underlying31 A1 j c1 (rows3 (out.take j)) (by first | rfl | (show Value.slice A1 (0 + j) c1 = Value.slice A1 j c1; rw [Nat.zero_add])) (own_below hown1 ((Below.refl _ _).alloc (Nat.le_refl _) _)) (some ⟨wp.heap.size, 0, none⟩) 1 1 [.int .i64 xa, .int .i64 xb, .int .i64 xc] (by rfl) (reads_litk _ _ _ rfl) (by simp [Value.oneCell']) (by omega) (by omega) (by have := hA.size; simp; omega) ?_); intro A2 c2 wq hown2 hg2 hb2 hl2; have hB := (hA.alloc hA.size _).trans hb2) | ((refine step_pushL _ (by rfl) (.tmp 33) (.tmp 35) 31 (by rfl) wb.heap.size 56 _ 3 24 infoShift3 rfl (by omega) Tryd.underlying31 A1 j c1 (rows3 (out.take j)) (by first | rfl | (show Value.slice A1 (0 + j) c1 = Value.slice A1 j c1; rw [Nat.zero_add])) hown1 (some ⟨wb.heap.size + 1, 0, none⟩) 1 1 [.int .i64 xa, .int .i64 xb, .int .i64 xc] (by rfl) hrx (by simp [Value.oneCell']) (by omega) (by omega) hA.size ?_); intro A2 c2 wq hown2 hg2 hb2 hl2; have hB := hA.trans hb2) | ((refine step_pushL _ (by rfl) (.tmp 33) (.tmp 35) 31 (by rfl) wb.heap.size 56 _ 3 24 infoShift3 rfl (by omega) Tryd.underlying31 A1 j c1 (rows3 (out.take j)) (by first | rfl | (show Value.slice A1 (0 + j) c1 = Value.slice A1 j c1; rw [Nat.zero_add])) hown1 (some ⟨wb.heap.size, 0, none⟩) 1 1 [.int .i64 xa, .int .i64 xb, .int .i64 xc] (by rfl) hrx (by simp [Value.oneCell']) (by omega) (by omega) hA.size ?_); intro A2 c2 wq hown2 hg2 hb2 hl2; have hB := hA.trans hb2) | ((refine step_pushL _ (by rfl) (.tmp 36) (.tmp 39) 31 (by rfl) wb.heap.size 56 _ 3 24 infoShift3 rfl (by omega) Tryd.underlying31 A2 (j + 1) c2 (rows3 (out.take j) ++ [.int .i64 xa, .int .i64 xb, .int .i64 xc]) (by first | rfl | (show Value.slice A1 (0 + j) c1 = Value.slice A1 j c1; rw [Nat.zero_add])) hown2 _ (k - j) _ (rows3 (out.drop j)) (by rfl) (HRC.out _ hB) (one_rows3 _) (by omega) (by omega) hB.size ?_); intro A3 c3 wz hown3 hg3 hb3 hl3) | fail)
          all_goals
            clear x0 x1 x2
            have HO8 := Lib.hid hown3
            have HB8 : Hid (Below w.heap.size w wz) := Lib.hid (HB.out.trans ((HBB.out.trans ((hB.trans hb3).mono HBB.out.size)).mono HB.out.size))
            have HSZ8 : Hid (w.heap.size ≤ wb.heap.size) := Lib.hid (Nat.le_trans HB.out.size HBB.out.size)
            clear hown3 HRC HRT HKEEP HKB
            go_wp2
            go_roundw
            case rel =>
              refine ⟨k + 1, A3, c3, out.take j ++ [(xa, xb, xc)] ++ out.drop j, by omega, by go_num, ?_, ?_, ?_, HB8.out⟩
              · first | rfl | (congr 1; omega)
              · have := HLO.out; simp; omega
              · have h9 := HO8.out
                have e1 : j + 1 + (k - j) = k + 1 := by omega
                rw [e1] at h9
                have e2 : rows3 (out.take j ++ [(xa, xb, xc)] ++ out.drop j) = rows3 (out.take j) ++ [.int .i64 xa, .int .i64 xb, .int .i64 xc] ++ rows3 (out.drop j) := by simp [rows3, cells3]
                rw [e2]
                exact own_mono h9 HSZ8.out
            case measure => simp [intOf]; omega
        · obtain ⟨j2, hj2⟩ : ∃ j2, j2 + 1 = j := ⟨j - 1, by omega⟩
          have hj2o : j2 < out.length := by rw [HLO.out]; omega
          obtain ⟨gb, rfl, y0, y1, y2⟩ := rows3_at (Reads.of_own (own_below HO.out HBW.out)) (show j2 < k by omega) HLO.out
          generalize out[j2] = y at *
          obtain ⟨ya, yb, yc⟩ := y
          simp only at y0 y1 y2
          have Y0 : ∀ V : InB wi, V.1.cell? (gb.add (j2 * 3)) = some (.int .i64 ya) := fun V => V.cell y0
          have Y1 : ∀ V : InB wi, V.1.cell? ⟨(gb.add (j2 * 3)).block, (gb.add (j2 * 3)).off + 1, none⟩ = some (.int .i64 yb) := fun V => V.cell y1
          have Y2 : ∀ V : InB wi, V.1.cell? ⟨(gb.add (j2 * 3)).block, (gb.add (j2 * 3)).off + 2, none⟩ = some (.int .i64 yc) := fun V => V.cell y2
          have X0 : ∀ V : InB wi, V.1.cell? ⟨wo.heap.size, 0, none⟩ = some (.int .i64 xa) := fun V => V.cell HXC.out.1
          have X1 : ∀ V : InB wi, V.1.cell? ⟨wo.heap.size, 1, none⟩ = some (.int .i64 xb) := fun V => V.cell HXC.out.2.1
          have X2 : ∀ V : InB wi, V.1.cell? ⟨wo.heap.size, 2, none⟩ = some (.int .i64 xc) := fun V => V.cell HXC.out.2.2
          clear y0 y1 y2
          have hw2 : decide (0 < j) = true := by simp; omega
          have hje : (j : Int) - 1 = (j2 : Int) := by omega
          have hwj : IntKind.i64.wrap ((j : Int) - 1) = (j2 : Int) := by rw [hje]; exact IntWalk.i64_in _ (by omega)
          have hjk : (j2 : Int) < (k : Int) := by omega
          have hj20 : (0 : Int) ≤ (j2 : Int) := by omega
          have CB := fun W => shBefore_any xa xb xc ya yb yc W
          cases hbf : befS (xa, xb, xc) (ya, yb, yc) with
          | true =>
            rw [hbf] at CB
            have HCB := Lib.hid CB
            clear CB hbf
            go_wp2
            refine wp_region_below wi (by kernel_rfl) (by kernel_rfl) (by first | assumption | exact Below.refl _ _) ?_
            repeat (go_big_quiet_step ((go_at_call 74; exact bel_of (HCB.out _))))
            refine wpQuiet_nil ?_
            intro wb hw'
            obtain ⟨⟨wb', hB⟩, hwb⟩ := hw'
            simp only at hwb
            subst hwb
            try simp only at hB ⊢
            clear hw2 hwj X0 X1 X2 Y0 Y1 Y2
            go_wp2
            go_roundw
            case rel => exact ⟨j2, by omega, by go_num, HBI.out.trans (hB.mono HBI.out.size)⟩
            case measure => simp [intOf]; omega
          | false =>
            rw [hbf] at CB
            have HCB := Lib.hid CB
            clear CB hbf
            go_wp2
            refine wp_region_below wi (by kernel_rfl) (by kernel_rfl) (by first | assumption | exact Below.refl _ _) ?_
            repeat (go_big_quiet_step ((go_at_call 74; exact bel_of (HCB.out _))))
            refine wpQuiet_nil ?_
            intro wb hw'
            obtain ⟨⟨wb', hB⟩, hwb⟩ := hw'
            simp only at hwb
            subst hwb
            try simp only at hB ⊢
            clear hw2 hwj hje hjk hj20 X0 X1 X2 Y0 Y1 Y2 hj2 hj2o
            go_wp2
            have HBB := Lib.hid (HBW.out.trans (hB.mono HBW.out.size))
            have HKB := Lib.hid (HK.out wb (HBI.out.trans (hB.mono HBI.out.size)))
            clear hB
            obtain ⟨x0, x1, x2⟩ := HKB.out
            have hkeep : ∀ W, Below wb.heap.size wb W → W.cell? ⟨wo.heap.size, 0, none⟩ = some (.int .i64 xa) ∧ W.cell? ⟨wo.heap.size, 1, none⟩ = some (.int .i64 xb) ∧ W.cell? ⟨wo.heap.size, 2, none⟩ = some (.int .i64 xc) := fun W hW => ⟨(hW.cell (World.block_lt_of_cell? _ _ x0)).trans x0, (hW.cell (World.block_lt_of_cell? _ _ x1)).trans x1, (hW.cell (World.block_lt_of_cell? _ _ x2)).trans x2⟩
            have HKEEP := Lib.hid hkeep
            clear hkeep
            have hcap := own_cap HO.out
            have HRT : Hid (∀ W, Below wb.heap.size wb W → Reads W 3 (some gb) j (rows3 (out.take j))) := Lib.hid (fun W hW => by have h9 := ((Reads.of_own (own_below HO.out HBB.out)).below hW).take (m := j) hj; rw [rows3_take] at h9; exact h9)
            have HRC : Hid (∀ W, Below wb.heap.size wb W → Reads W 3 (if d = j then (some gb) else (some gb).map (·.add (j * 3))) (k - j) (rows3 (out.drop j))) := Lib.hid (fun W hW => by have h9 := ((Reads.of_own (own_below HO.out HBB.out)).below hW).cut (m := j) (cap := d) hj hcap; rw [rows3_drop] at h9; exact h9)
            have hjd : (j : Int) ≤ (d : Int) := by omega
            have hj1 : (0 : Int) ≤ (j : Int) := by omega
            have hjk : (j : Int) ≤ (k : Int) := by omega
            have hkd : (k : Int) ≤ (d : Int) := by omega
            have HBEL0 : Hid (Below wb.heap.size wb ((wb.alloc (.cells #[] 56)).alloc (.cells #[.int .i64 xa, .int .i64 xb, .int .i64 xc] 56)).drew) := Lib.hid (((Below.refl _ _).alloc (Nat.le_refl _) _).alloc (by simp) _).drew
            have HOW0 : Hid (((wb.alloc (.cells #[] 56)).alloc (.cells #[.int .i64 xa, .int .i64 xb, .int .i64 xc] 56)).drew.ownsRow wb.heap.size 56 3 (.slice (some ⟨wb.heap.size, 0, none⟩) 0 0) 0 []) := Lib.hid (own_below (World.ownsRow_made wb #[] 0 (Nat.le_refl _) (by unfold maxLen; omega) rfl) ((Below.refl _ _).alloc (Nat.le_refl _) _).drew)
            have HRW0 : Hid (Reads ((wb.alloc (.cells #[] 56)).alloc (.cells #[.int .i64 xa, .int .i64 xb, .int .i64 xc] 56)).drew 3 (some ⟨wb.heap.size + 1, 0, none⟩) 1 [.int .i64 xa, .int .i64 xb, .int .i64 xc]) := Lib.hid (by have h9 := reads_litk (wb.alloc (.cells #[] 56)) [.int .i64 xa, .int .i64 xb, .int .i64 xc] 56 (n := 1) (k := 3) rfl; rw [World.size_alloc] at h9; exact h9)
            have HBELA : Hid (Below wb.heap.size wb (wb.alloc (.cells #[] 56)).drew) := Lib.hid ((Below.refl _ _).alloc (Nat.le_refl _) _).drew
            have HOWA : Hid ((wb.alloc (.cells #[] 56)).drew.ownsRow wb.heap.size 56 3 (.slice (some ⟨wb.heap.size, 0, none⟩) 0 0) 0 []) := Lib.hid (own_below (World.ownsRow_made wb #[] 0 (Nat.le_refl _) (by unfold maxLen; omega) rfl) (Below.refl _ _).drew)
            have HBELC : Hid (Below wb.heap.size wb ((wb.alloc (.cells #[.int .i64 xa, .int .i64 xb, .int .i64 xc] 56)).alloc (.cells #[] 56)).drew) := Lib.hid (((Below.refl _ _).alloc (Nat.le_refl _) _).alloc (by simp) _).drew
            have HOWC : Hid (((wb.alloc (.cells #[.int .i64 xa, .int .i64 xb, .int .i64 xc] 56)).alloc (.cells #[] 56)).drew.ownsRow wb.heap.size 56 3 (.slice (some ⟨wb.heap.size + 1, 0, none⟩) 0 0) 0 []) := Lib.hid (by have h9 := show (((wb.alloc (.cells #[.int .i64 xa, .int .i64 xb, .int .i64 xc] 56)).alloc (.cells #[] 56)).ownsRow (wb.alloc (.cells #[.int .i64 xa, .int .i64 xb, .int .i64 xc] 56)).heap.size 56 3 (.slice (some ⟨(wb.alloc (.cells #[.int .i64 xa, .int .i64 xb, .int .i64 xc] 56)).heap.size, 0, none⟩) 0 0) 0 []) from World.ownsRow_made _ #[] 0 (Nat.le_refl _) (by unfold maxLen; omega) rfl; rw [World.size_alloc] at h9; exact own_below (own_mono h9 (Nat.le_succ _)) (Below.refl _ _).drew)
            have HRWC : Hid (Reads ((wb.alloc (.cells #[.int .i64 xa, .int .i64 xb, .int .i64 xc] 56)).alloc (.cells #[] 56)).drew 3 (some ⟨wb.heap.size, 0, none⟩) 1 [.int .i64 xa, .int .i64 xb, .int .i64 xc]) := Lib.hid ((reads_litk wb [.int .i64 xa, .int .i64 xb, .int .i64 xc] 56 (n := 1) (k := 3) rfl).alloc _)
            have HSW0 : Hid (wb.heap.size + 1 < ((wb.alloc (.cells #[] 56)).alloc (.cells #[.int .i64 xa, .int .i64 xb, .int .i64 xc] 56)).drew.heap.size) := Lib.hid (by have e : ((wb.alloc (.cells #[] 56)).alloc (.cells #[.int .i64 xa, .int .i64 xb, .int .i64 xc] 56)).drew.heap.size = wb.heap.size + 1 + 1 := (World.size_alloc _ _).trans (by rw [World.size_alloc]); omega)
            
            go_region_held3 (fun W => W.cell? ⟨wo.heap.size, 0, none⟩ = some (.int .i64 xa) ∧ W.cell? ⟨wo.heap.size, 1, none⟩ = some (.int .i64 xb) ∧ W.cell? ⟨wo.heap.size, 2, none⟩ = some (.int .i64 xc)) (exact HKEEP.out _ (by first | assumption | exact (Below.refl _ _).drew | exact ((Below.refl _ _).alloc (Nat.le_refl _) _).drew | exact HBEL0.out | exact HBELC.out | exact (hA.alloc hA.size _) | exact hB.trans hb3 | fail)) (first | ((refine step_pushL _ (by rfl) (.tmp 29) (.tmp 32) 31 (by rfl) wb.heap.size 56 _ 3 24 infoShift3 rfl (by omega) Tryd.underlying31 (some ⟨wb.heap.size, 0, none⟩) 0 0 [] (by first | rfl | (show Value.slice A1 (0 + j) c1 = Value.slice A1 j c1; rw [Nat.zero_add])) HOWA.out (some gb) j d (rows3 (out.take j)) (by rfl) (HRT.out _ HBELA.out) (one_rows3 _) (by omega) (by omega) HBELA.out.size ?_); intro A1 c1 wp hown1 hg1 hb1 hl1; rw [Nat.zero_add, List.nil_append] at hown1; have hA := HBELA.out.trans hb1) | ((refine step_pushL _ (by rfl) (.tmp 29) (.tmp 32) 31 (by rfl) wb.heap.size 56 _ 3 24 infoShift3 rfl (by omega) Tryd.underlying31 (some ⟨wb.heap.size, 0, none⟩) 0 0 [] (by first | rfl | (show Value.slice A1 (0 + j) c1 = Value.slice A1 j c1; rw [Nat.zero_add])) HOW0.out (some gb) j d (rows3 (out.take j)) (by rfl) (HRT.out _ HBEL0.out) (one_rows3 _) (by omega) (by omega) HBEL0.out.size ?_); intro A1 c1 wp hown1 hg1 hb1 hl1; rw [Nat.zero_add, List.nil_append] at hown1; have hA := HBEL0.out.trans hb1; have hrx := reads_grownF HRW0.out hg1 (fun ad e => by injection e with e; subst e; simp [Value.ownBlock])) | ((refine step_pushL _ (by rfl) (.tmp 29) (.tmp 32) 31 (by rfl) wb.heap.size 56 _ 3 24 infoShift3 rfl (by omega) Tryd.underlying31 (some ⟨wb.heap.size + 1, 0, none⟩) 0 0 [] (by first | rfl | (show Value.slice A1 (0 + j) c1 = Value.slice A1 j c1; rw [Nat.zero_add])) HOWC.out (some gb) j d (rows3 (out.take j)) (by rfl) (HRT.out _ HBELC.out) (one_rows3 _) (by omega) (by omega) HBELC.out.size ?_); intro A1 c1 wp hown1 hg1 hb1 hl1; rw [Nat.zero_add, List.nil_append] at hown1; have hA := HBELC.out.trans hb1; have hrx := reads_grownF HRWC.out hg1 (fun ad e => by injection e with e; subst e; simp [Value.ownBlock])) | ((refine step_pushL _ (by rfl) (.tmp 33) (.tmp 35) 31 (by rfl) wb.heap.size 56 _ 3 24 infoShift3 rfl (by omega) Tryd.underlying31 A1 j c1 (rows3 (out.take j)) (by first | rfl | (show Value.slice A1 (0 + j) c1 = Value.slice A1 j c1; rw [Nat.zero_add])) (own_below hown1 ((Below.refl _ _).alloc (Nat.le_refl _) _)) (some ⟨wp.heap.size, 0, none⟩) 1 1 [.int .i64 xa, .int .i64 xb, .int .i64 xc] (by rfl) (reads_litk _ _ _ rfl) (by simp [Value.oneCell']) (by omega) (by omega) (by have := hA.size; simp; omega) ?_); intro A2 c2 wq hown2 hg2 hb2 hl2; have hB := (hA.alloc hA.size _).trans hb2) | ((refine step_pushL _ (by rfl) (.tmp 33) (.tmp 35) 31 (by rfl) wb.heap.size 56 _ 3 24 infoShift3 rfl (by omega) Tryd.underlying31 A1 j c1 (rows3 (out.take j)) (by first | rfl | (show Value.slice A1 (0 + j) c1 = Value.slice A1 j c1; rw [Nat.zero_add])) hown1 (some ⟨wb.heap.size + 1, 0, none⟩) 1 1 [.int .i64 xa, .int .i64 xb, .int .i64 xc] (by rfl) hrx (by simp [Value.oneCell']) (by omega) (by omega) hA.size ?_); intro A2 c2 wq hown2 hg2 hb2 hl2; have hB := hA.trans hb2) | ((refine step_pushL _ (by rfl) (.tmp 33) (.tmp 35) 31 (by rfl) wb.heap.size 56 _ 3 24 infoShift3 rfl (by omega) Tryd.underlying31 A1 j c1 (rows3 (out.take j)) (by first | rfl | (show Value.slice A1 (0 + j) c1 = Value.slice A1 j c1; rw [Nat.zero_add])) hown1 (some ⟨wb.heap.size, 0, none⟩) 1 1 [.int .i64 xa, .int .i64 xb, .int .i64 xc] (by rfl) hrx (by simp [Value.oneCell']) (by omega) (by omega) hA.size ?_); intro A2 c2 wq hown2 hg2 hb2 hl2; have hB := hA.trans hb2) | ((refine step_pushL _ (by rfl) (.tmp 36) (.tmp 39) 31 (by rfl) wb.heap.size 56 _ 3 24 infoShift3 rfl (by omega) Tryd.underlying31 A2 (j + 1) c2 (rows3 (out.take j) ++ [.int .i64 xa, .int .i64 xb, .int .i64 xc]) (by first | rfl | (show Value.slice A1 (0 + j) c1 = Value.slice A1 j c1; rw [Nat.zero_add])) hown2 _ (k - j) _ (rows3 (out.drop j)) (by rfl) (HRC.out _ hB) (one_rows3 _) (by omega) (by omega) hB.size ?_); intro A3 c3 wz hown3 hg3 hb3 hl3) | fail)
            all_goals
              clear x0 x1 x2
              have HO8 := Lib.hid hown3
              have HB8 : Hid (Below w.heap.size w wz) := Lib.hid (HB.out.trans ((HBB.out.trans ((hB.trans hb3).mono HBB.out.size)).mono HB.out.size))
              have HSZ8 : Hid (w.heap.size ≤ wb.heap.size) := Lib.hid (Nat.le_trans HB.out.size HBB.out.size)
              clear hown3 HRC HRT HKEEP HKB
              go_wp2
              go_roundw
              case rel =>
                refine ⟨k + 1, A3, c3, out.take j ++ [(xa, xb, xc)] ++ out.drop j, by omega, by go_num, ?_, ?_, ?_, HB8.out⟩
                · first | rfl | (congr 1; omega)
                · have := HLO.out; simp; omega
                · have h9 := HO8.out
                  have e1 : j + 1 + (k - j) = k + 1 := by omega
                  rw [e1] at h9
                  have e2 : rows3 (out.take j ++ [(xa, xb, xc)] ++ out.drop j) = rows3 (out.take j) ++ [.int .i64 xa, .int .i64 xb, .int .i64 xc] ++ rows3 (out.drop j) := by simp [rows3, cells3]
                  rw [e2]
                  exact own_mono h9 HSZ8.out
              case measure => simp [intOf]; omega
    · have e := HLO.out
      subst e
      have CG := shGood_any B out.length d out wo (by omega) (own_cap HO.out) (Reads.of_own HO.out)
      cases hg : goodShifts out with
      | true =>
        rw [hg] at CG
        have HCG := Lib.hid CG
        clear CG hg
        go_wp2_with fail
        refine (HCG.out).mono ?_
        rintro e wz ⟨rfl, hb⟩
        have HBZ := Lib.hid hb
        clear hb
        go_wp2
        go_ret2
        exact ⟨B, d, out, true, rfl, hk, own_below HO.out HBZ.out, HB.out.trans (HBZ.out.mono HB.out.size)⟩
      | false =>
        rw [hg] at CG
        have HCG := Lib.hid CG
        clear CG hg
        go_wp2_with fail
        refine (HCG.out).mono ?_
        rintro e wz ⟨rfl, hb⟩
        have HBZ := Lib.hid hb
        clear hb
        go_wp2
        go_ret2
        exact ⟨none, 0, [], false, rfl, Nat.zero_le _, World.ownsRow_nil _ _ _ _, HB.out.trans (HBZ.out.mono HB.out.size)⟩

end Go.Proofs.YtiofgoppgdgbaaaDoor
