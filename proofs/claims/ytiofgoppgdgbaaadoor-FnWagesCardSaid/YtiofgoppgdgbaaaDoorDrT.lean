/- The spec's drawings of shifts. No conditions. -/
import Derived.Test.YtiofgoppgdgbaaaDoorDrS
namespace Go.Proofs.YtiofgoppgdgbaaaDoor
set_option linter.unusedSimpArgs false
set_option linter.unusedVariables false
open Go.RowKit

theorem l1LeastT_any (a b : Int) (w : World) : Calls Tryd.prog 83 #[.int .i64 a, .int .i64 b] w fun e w' => e = .returned (.int .i64 (min a b)) ∧ w = w' := by
  by_cases h : a < b
  · go_enter Tryd.func83, Tryd.ntmps83
    go_wp2
    go_ret
    exact ⟨ret_int (by omega), rfl⟩
  · go_enter Tryd.func83, Tryd.ntmps83
    go_wp2
    go_ret
    exact ⟨ret_int (by omega), rfl⟩
section
variable {w w' : World} {b g : Nat} {t : TypeId} {v0 v1 v2 u : Value}
theorem box3_put0 (h : Box3 w b t v0 v1 v2) : Box3 (w.setCell ⟨b, 0, none⟩ u) b t u v1 v2 := by unfold Box3 at h ⊢; simp [World.setCell, Array.getElem?_modify, h]
theorem box3_put1 (h : Box3 w b t v0 v1 v2) : Box3 (w.setCell ⟨b, 1, none⟩ u) b t v0 u v2 := by unfold Box3 at h ⊢; simp [World.setCell, Array.getElem?_modify, h]
theorem box3_put2 (h : Box3 w b t v0 v1 v2) : Box3 (w.setCell ⟨b, 2, none⟩ u) b t v0 v1 u := by unfold Box3 at h ⊢; simp [World.setCell, Array.getElem?_modify, h]
end
theorem rows3_set0 : ∀ (l : List S3) (i : Nat) (v : Int) (h : i < l.length), (rows3 l).set (i * 3) (.int .i64 v) = rows3 (l.set i (v, l[i].2)) := by
  intro l
  induction l with
  | nil => intro i v h; simp at h
  | cons x r ih =>
    intro i v h
    cases i with
    | zero => obtain ⟨a, b, c⟩ := x; simp [rows3, cells3]
    | succ i =>
      have h2 := ih i v (by simpa using h)
      have e : (i + 1) * 3 = (cells3 x).length + i * 3 := by simp [cells3]; omega
      simp only [rows3, List.flatMap_cons, List.set_cons_succ, List.getElem_cons_succ] at h2 ⊢
      rw [e, List.set_append_right _ _ (by omega), Nat.add_sub_cancel_left, h2]
theorem rows3_set1 : ∀ (l : List S3) (i : Nat) (v : Int) (h : i < l.length), (rows3 l).set (i * 3 + 1) (.int .i64 v) = rows3 (l.set i (l[i].1, v, l[i].2.2)) := by
  intro l
  induction l with
  | nil => intro i v h; simp at h
  | cons x r ih =>
    intro i v h
    cases i with
    | zero => obtain ⟨a, b, c⟩ := x; simp [rows3, cells3]
    | succ i =>
      have h2 := ih i v (by simpa using h)
      have e : (i + 1) * 3 + 1 = (cells3 x).length + (i * 3 + 1) := by simp [cells3]; omega
      simp only [rows3, List.flatMap_cons, List.set_cons_succ, List.getElem_cons_succ] at h2 ⊢
      rw [e, List.set_append_right _ _ (by omega), Nat.add_sub_cancel_left, h2]
theorem rows3_set2 : ∀ (l : List S3) (i : Nat) (v : Int) (h : i < l.length), (rows3 l).set (i * 3 + 2) (.int .i64 v) = rows3 (l.set i (l[i].1, l[i].2.1, v)) := by
  intro l
  induction l with
  | nil => intro i v h; simp at h
  | cons x r ih =>
    intro i v h
    cases i with
    | zero => obtain ⟨a, b, c⟩ := x; simp [rows3, cells3]
    | succ i =>
      have h2 := ih i v (by simpa using h)
      have e : (i + 1) * 3 + 2 = (cells3 x).length + (i * 3 + 2) := by simp [cells3]; omega
      simp only [rows3, List.flatMap_cons, List.set_cons_succ, List.getElem_cons_succ] at h2 ⊢
      rw [e, List.set_append_right _ _ (by omega), Nat.add_sub_cancel_left, h2]

set_option maxHeartbeats 8000000 in
set_option maxRecDepth 100000 in
theorem shifts_any (g k : Nat) (w : World) (hk : k ≤ 1000000000) (h : Cur w g k) :
    Calls Tryd.prog 69 #[.pointer (some ⟨g, 0, none⟩)] w fun e w' => ∃ B d out, e = .returned (.slice B (List.length out) d) ∧ out.length ≤ 60 ∧ w'.ownsRow w.heap.size 56 3 (.slice B out.length d) out.length (rows3 out) ∧ Cur w' g (k + 4000) ∧ Drew g w w' := by
  have HC := Lib.hid h
  have HD : Hid (Drew g w w) := Lib.hid Turned.refl
  have HGW : Hid (g < w.heap.size) := Lib.hid h.lt
  clear h
  go_enter Tryd.func69, Tryd.ntmps69
  go_wp2_with fail
  refine (pick_any g _ (10) _ (by omega) (by omega) HC.out).mono ?_
  rintro e w1 ⟨n0, rfl, hn0, hn0', hc, hd⟩
  have HC := Lib.hid hc; have HD1 := Lib.hid hd; have HD := Lib.hid (HD.out.trans hd)
  clear hc hd
  go_wp2_with fail
  refine (one_any g _ (20) _ (by omega) (by omega) HC.out).mono ?_
  rintro e w2 ⟨b0, rfl, hc, hd⟩
  have HC := Lib.hid hc; have HD1 := Lib.hid hd; have HD := Lib.hid (HD.out.trans hd)
  clear hc hd

  cases b0 with
  | false =>
    obtain ⟨N, hN⟩ : ∃ N : Nat, N = n0 := ⟨_, rfl⟩; subst hN; have hN : N < 10 := by omega
    go_wp2_with fail
    refine (amongLit_any g _ [40, 100, 160] 3 _ _ _ rfl rfl (by omega) (by simp) (by simp) HC.out).mono ?_
    rintro e w3 ⟨most, hmost, rfl, hc, hd⟩
    have hmb : 40 ≤ most ∧ most ≤ 160 := by simp at hmost; omega
    have HC := Lib.hid hc; have HD := Lib.hid (HD.out.trans hd)
    clear hc hd hmost
    go_wp2
    go_loopw [3, 6] (fun o i wr => ∃ t q : Nat, ∃ B d out, i = .int .i64 t ∧ t ≤ 300 ∧ o = .slice B q d ∧ List.length out = q ∧ q ≤ 60 ∧ wr.ownsRow w.heap.size 56 3 (.slice B q d) q (rows3 out) ∧ Cur wr g (k + 6 + 10 * t) ∧ Drew g w wr) (fun _ i _ => 300 - (intOf i).toNat)
    case atStart => exact ⟨0, 0, none, 0, [], rfl, by omega, rfl, rfl, by omega, World.ownsRow_nil _ _ _ _, HC.out.mono (by omega), HD.out⟩
    case round =>
      obtain ⟨t, q, B, d, out, rfl, ht, rfl, hlo, hq, hown, hc, hd⟩ := hrel
      have HLO := Lib.hid hlo; have HO := Lib.hid hown; have HC := Lib.hid hc; have HD := Lib.hid hd
      clear hlo hown hc hd
      by_cases hgo : q < N ∧ t < 300
      · obtain ⟨hqN, ht3⟩ := hgo
        have hw1 : decide (q < N) = true := by simpa using hqN
        have hw2 : decide (t < 300) = true := by simpa using ht3
        go_wp2_with fail
        refine (pick_any g _ (most) _ (by omega) (by omega) HC.out).mono ?_
        rintro e wa ⟨f, rfl, hf, hf', hc, hd⟩
        have HC := Lib.hid hc; have HD1 := Lib.hid hd; have HD := Lib.hid (HD.out.trans hd)
        clear hc hd
        have HO := Lib.hid (Drew.own HD1.out HO.out HGW.out)
        go_wp2_with fail
        refine (pick_any g _ (5) _ (by omega) (by omega) HC.out).mono ?_
        rintro e wc ⟨p, rfl, hp, hp', hc, hd⟩
        have HC := Lib.hid hc; have HD1 := Lib.hid hd; have HD := Lib.hid (HD.out.trans hd)
        clear hc hd
        have HO := Lib.hid (Drew.own HD1.out HO.out HGW.out)
        go_wp2_with fail
        refine (amongLit_any g _ [1, 4, 8, 8, 12] 3 _ _ _ rfl rfl (by omega) (by simp) (by simp) HC.out).mono ?_
        rintro e we ⟨z, hz, rfl, hc, hd⟩
        have hzb : 1 ≤ z ∧ z ≤ 12 := by simp at hz; omega
        have HC := Lib.hid hc; have HD1 := Lib.hid hd; have HD := Lib.hid (HD.out.trans hd)
        clear hc hd hz
        have HO := Lib.hid (Drew.own HD1.out HO.out HGW.out)
        have hfb : (f : Int) ≤ 160 := by omega
        go_wp2_with (first | (go_at_call 83; refine (l1LeastT_any _ _ _).mono ?_; rintro e w' ⟨rfl, rfl⟩))
        have HWX : Hid (Below we.heap.size we (we.alloc (.cells #[.int .i64 (1 + (p : Int)), .int .i64 ((f : Int)), .int .i64 (min 168 ((f : Int) + z))] 56))) := Lib.hid ((Below.refl _ _).alloc (Nat.le_refl _) _)
        have HBXB := Lib.hid (Box3.new we 56 (.int .i64 (1 + (p : Int))) (.int .i64 ((f : Int))) (.int .i64 (min 168 ((f : Int) + z))))
        have HO := Lib.hid (own_below HO.out HWX.out)
        have HC := Lib.hid (HC.out.below HWX.out)
        have HD := Lib.hid (HD.out.trans (Drew.of_below HWX.out))
        have HWZ : Hid (w.heap.size ≤ (we.alloc (.cells #[.int .i64 (1 + (p : Int)), .int .i64 ((f : Int)), .int .i64 (min 168 ((f : Int) + z))] 56)).heap.size) := Lib.hid HD.out.size
        clear HWX HD1
        generalize we.alloc (.cells #[.int .i64 (1 + (p : Int)), .int .i64 ((f : Int)), .int .i64 (min 168 ((f : Int) + z))] 56) = wb at *
        generalize we.heap.size = gx at *
        generalize min 168 ((f : Int) + z) = xc at *
        generalize (f : Int) = xb at *
        generalize 1 + (p : Int) = xa at *
        have hq2 : q ≤ 59 := by omega
        have HRT : Hid (∀ W, Below wb.heap.size wb W → Reads W 3 B q (rows3 out)) := Lib.hid (fun W hW => (Reads.of_own HO.out).below hW)
        have HBEL0 : Hid (Below wb.heap.size wb ((wb.alloc (.cells #[] 56)).alloc (.cells #[.int .i64 xa, .int .i64 xb, .int .i64 xc] 56)).drew) := Lib.hid (((Below.refl _ _).alloc (Nat.le_refl _) _).alloc (by simp) _).drew
        have HOW0 : Hid (((wb.alloc (.cells #[] 56)).alloc (.cells #[.int .i64 xa, .int .i64 xb, .int .i64 xc] 56)).drew.ownsRow wb.heap.size 56 3 (.slice (some ⟨wb.heap.size, 0, none⟩) 0 0) 0 []) := Lib.hid (own_below (World.ownsRow_made wb #[] 0 (Nat.le_refl _) (by unfold maxLen; omega) rfl) ((Below.refl _ _).alloc (Nat.le_refl _) _).drew)
        have HRW0 : Hid (Reads ((wb.alloc (.cells #[] 56)).alloc (.cells #[.int .i64 xa, .int .i64 xb, .int .i64 xc] 56)).drew 3 (some ⟨wb.heap.size + 1, 0, none⟩) 1 [.int .i64 xa, .int .i64 xb, .int .i64 xc]) := Lib.hid (by have h9 := reads_litk (wb.alloc (.cells #[] 56)) [.int .i64 xa, .int .i64 xb, .int .i64 xc] 56 (n := 1) (k := 3) rfl; rw [World.size_alloc] at h9; exact h9)
        have HBELA : Hid (Below wb.heap.size wb (wb.alloc (.cells #[] 56)).drew) := Lib.hid ((Below.refl _ _).alloc (Nat.le_refl _) _).drew
        have HOWA : Hid ((wb.alloc (.cells #[] 56)).drew.ownsRow wb.heap.size 56 3 (.slice (some ⟨wb.heap.size, 0, none⟩) 0 0) 0 []) := Lib.hid (own_below (World.ownsRow_made wb #[] 0 (Nat.le_refl _) (by unfold maxLen; omega) rfl) (Below.refl _ _).drew)
        have HBELC : Hid (Below wb.heap.size wb ((wb.alloc (.cells #[.int .i64 xa, .int .i64 xb, .int .i64 xc] 56)).alloc (.cells #[] 56)).drew) := Lib.hid (((Below.refl _ _).alloc (Nat.le_refl _) _).alloc (by simp) _).drew
        have HOWC : Hid (((wb.alloc (.cells #[.int .i64 xa, .int .i64 xb, .int .i64 xc] 56)).alloc (.cells #[] 56)).drew.ownsRow wb.heap.size 56 3 (.slice (some ⟨wb.heap.size + 1, 0, none⟩) 0 0) 0 []) := Lib.hid (by have h9 := show (((wb.alloc (.cells #[.int .i64 xa, .int .i64 xb, .int .i64 xc] 56)).alloc (.cells #[] 56)).ownsRow (wb.alloc (.cells #[.int .i64 xa, .int .i64 xb, .int .i64 xc] 56)).heap.size 56 3 (.slice (some ⟨(wb.alloc (.cells #[.int .i64 xa, .int .i64 xb, .int .i64 xc] 56)).heap.size, 0, none⟩) 0 0) 0 []) from World.ownsRow_made _ #[] 0 (Nat.le_refl _) (by unfold maxLen; omega) rfl; rw [World.size_alloc] at h9; exact own_below (own_mono h9 (Nat.le_succ _)) (Below.refl _ _).drew)
        have HRWC : Hid (Reads ((wb.alloc (.cells #[.int .i64 xa, .int .i64 xb, .int .i64 xc] 56)).alloc (.cells #[] 56)).drew 3 (some ⟨wb.heap.size, 0, none⟩) 1 [.int .i64 xa, .int .i64 xb, .int .i64 xc]) := Lib.hid ((reads_litk wb [.int .i64 xa, .int .i64 xb, .int .i64 xc] 56 (n := 1) (k := 3) rfl).alloc _)
        obtain ⟨x0, x1, x2⟩ := HBXB.out.cells
        have HKEEP : Hid (∀ W, Below wb.heap.size wb W → W.cell? ⟨gx, 0, none⟩ = some (.int .i64 xa) ∧ W.cell? ⟨gx, 1, none⟩ = some (.int .i64 xb) ∧ W.cell? ⟨gx, 2, none⟩ = some (.int .i64 xc)) := Lib.hid (fun W hW => (HBXB.out.below hW HBXB.out.lt).cells)
        go_region_held3 (fun W => W.cell? ⟨gx, 0, none⟩ = some (.int .i64 xa) ∧ W.cell? ⟨gx, 1, none⟩ = some (.int .i64 xb) ∧ W.cell? ⟨gx, 2, none⟩ = some (.int .i64 xc)) (exact HKEEP.out _ (by first | assumption | exact (Below.refl _ _).drew | exact ((Below.refl _ _).alloc (Nat.le_refl _) _).drew | exact HBEL0.out | exact HBELC.out | exact (hA.alloc hA.size _) | exact hB.trans (hb'.mono hB.size) | fail)) (first | ((refine step_pushL _ (by rfl) (.tmp 59) (.tmp 60) 31 (by rfl) wb.heap.size 56 _ 3 24 infoShift3 rfl (by omega) Tryd.underlying31 (some ⟨wb.heap.size, 0, none⟩) 0 0 [] (by first | rfl | (show Value.slice A1 (0 + q) c1 = Value.slice A1 q c1; rw [Nat.zero_add])) HOWA.out B q d (rows3 out) (by rfl) (HRT.out _ HBELA.out) (one_rows3 _) (by omega) (by omega) HBELA.out.size ?_); intro A1 c1 wp hown1 hg1 hb1 hl1; rw [Nat.zero_add, List.nil_append] at hown1; have hA := HBELA.out.trans hb1) | ((refine step_pushL _ (by rfl) (.tmp 59) (.tmp 60) 31 (by rfl) wb.heap.size 56 _ 3 24 infoShift3 rfl (by omega) Tryd.underlying31 (some ⟨wb.heap.size, 0, none⟩) 0 0 [] (by first | rfl | (show Value.slice A1 (0 + q) c1 = Value.slice A1 q c1; rw [Nat.zero_add])) HOW0.out B q d (rows3 out) (by rfl) (HRT.out _ HBEL0.out) (one_rows3 _) (by omega) (by omega) HBEL0.out.size ?_); intro A1 c1 wp hown1 hg1 hb1 hl1; rw [Nat.zero_add, List.nil_append] at hown1; have hA := HBEL0.out.trans hb1; have hrx := reads_grownF HRW0.out hg1 (fun ad e => by injection e with e; subst e; simp [Value.ownBlock])) | ((refine step_pushL _ (by rfl) (.tmp 59) (.tmp 60) 31 (by rfl) wb.heap.size 56 _ 3 24 infoShift3 rfl (by omega) Tryd.underlying31 (some ⟨wb.heap.size + 1, 0, none⟩) 0 0 [] (by first | rfl | (show Value.slice A1 (0 + q) c1 = Value.slice A1 q c1; rw [Nat.zero_add])) HOWC.out B q d (rows3 out) (by rfl) (HRT.out _ HBELC.out) (one_rows3 _) (by omega) (by omega) HBELC.out.size ?_); intro A1 c1 wp hown1 hg1 hb1 hl1; rw [Nat.zero_add, List.nil_append] at hown1; have hA := HBELC.out.trans hb1; have hrx := reads_grownF HRWC.out hg1 (fun ad e => by injection e with e; subst e; simp [Value.ownBlock])) | ((refine step_pushL _ (by rfl) (.tmp 61) (.tmp 63) 31 (by rfl) wb.heap.size 56 _ 3 24 infoShift3 rfl (by omega) Tryd.underlying31 A1 q c1 (rows3 out) (by first | rfl | (show Value.slice A1 (0 + q) c1 = Value.slice A1 q c1; rw [Nat.zero_add])) (own_below hown1 ((Below.refl _ _).alloc (Nat.le_refl _) _)) (some ⟨wp.heap.size, 0, none⟩) 1 1 [.int .i64 xa, .int .i64 xb, .int .i64 xc] (by rfl) (reads_litk _ _ _ rfl) (by simp [Value.oneCell']) (by omega) (by omega) (by have := hA.size; simp; omega) ?_); intro A2 c2 wq hown2 hg2 hb2 hl2; have hB := (hA.alloc hA.size _).trans hb2) | ((refine step_pushL _ (by rfl) (.tmp 61) (.tmp 63) 31 (by rfl) wb.heap.size 56 _ 3 24 infoShift3 rfl (by omega) Tryd.underlying31 A1 q c1 (rows3 out) (by first | rfl | (show Value.slice A1 (0 + q) c1 = Value.slice A1 q c1; rw [Nat.zero_add])) hown1 (some ⟨wb.heap.size + 1, 0, none⟩) 1 1 [.int .i64 xa, .int .i64 xb, .int .i64 xc] (by rfl) hrx (by simp [Value.oneCell']) (by omega) (by omega) hA.size ?_); intro A2 c2 wq hown2 hg2 hb2 hl2; have hB := hA.trans hb2) | ((refine step_pushL _ (by rfl) (.tmp 61) (.tmp 63) 31 (by rfl) wb.heap.size 56 _ 3 24 infoShift3 rfl (by omega) Tryd.underlying31 A1 q c1 (rows3 out) (by first | rfl | (show Value.slice A1 (0 + q) c1 = Value.slice A1 q c1; rw [Nat.zero_add])) hown1 (some ⟨wb.heap.size, 0, none⟩) 1 1 [.int .i64 xa, .int .i64 xb, .int .i64 xc] (by rfl) hrx (by simp [Value.oneCell']) (by omega) (by omega) hA.size ?_); intro A2 c2 wq hown2 hg2 hb2 hl2; have hB := hA.trans hb2) | (go_at_call 84; refine (shSort_any A2 (q + 1) c2 (out ++ [(xa, xb, xc)]) _ (by omega) (by rw [rows3_app]; exact Reads.of_own hown2)).mono ?_; rintro e ws ⟨B', d', out', b', rfl, hlo', hown', hb'⟩) | fail)
        all_goals
          clear x0 x1 x2
          have HBS : Hid (Below wb.heap.size wb ws) := Lib.hid (hB.trans (hb'.mono hB.size))
          have HO8 := Lib.hid (own_mono hown' (Nat.le_trans HWZ.out hB.size))
          have HO9 := Lib.hid (own_below HO.out HBS.out)
          have HC := Lib.hid (HC.out.below HBS.out)
          have HD := Lib.hid (HD.out.trans (Drew.of_below HBS.out))
          clear hown' hb' hown2 hb2 hg2 hl2 hown1 hb1 hg1 hl1 HRT HBEL0 HOW0 HRW0 HBELA HOWA HBELC HOWC HRWC HKEEP HBXB
          cases b' with
          | true =>
            go_wp2
            go_roundw
            case rel => exact ⟨t + 1, out'.length, B', d', out', by go_num, by omega, rfl, rfl, by omega, HO8.out, HC.out.mono (by omega), HD.out⟩
            case measure => simp [intOf]; omega
          | false =>
            go_wp2
            go_roundw
            case rel => exact ⟨t + 1, q, B, d, out, by go_num, by omega, rfl, HLO.out, by omega, HO9.out, HC.out.mono (by omega), HD.out⟩
            case measure => simp [intOf]; omega
      · have HCF := HC; have HOF := HO; have HDF := HD
        have e := HLO.out
        subst e
        by_cases hqN : out.length < N
        · have hw1 : decide (out.length < N) = true := by simpa using hqN
          have hw2 : decide (t < 300) = false := by simp; omega
          go_wp2
          go_ret
          exact ⟨B, d, out, rfl, by omega, HOF.out, HCF.out.mono (by omega), HDF.out⟩
        · have hw1 : decide (out.length < N) = false := by simpa using hqN
          go_wp2
          go_ret
          exact ⟨B, d, out, rfl, by omega, HOF.out, HCF.out.mono (by omega), HDF.out⟩

  
  | true =>
    skip
    go_wp2_with fail
    refine (amongLit_any g _ [40, 100, 160] 3 _ _ _ rfl rfl (by omega) (by simp) (by simp) HC.out).mono ?_
    rintro e w3 ⟨most, hmost, rfl, hc, hd⟩
    have hmb : 40 ≤ most ∧ most ≤ 160 := by simp at hmost; omega
    have HC := Lib.hid hc; have HD := Lib.hid (HD.out.trans hd)
    clear hc hd hmost
    go_wp2
    go_loopw [3, 6] (fun o i wr => ∃ t q : Nat, ∃ B d out, i = .int .i64 t ∧ t ≤ 300 ∧ o = .slice B q d ∧ List.length out = q ∧ q ≤ 60 ∧ wr.ownsRow w.heap.size 56 3 (.slice B q d) q (rows3 out) ∧ Cur wr g (k + 6 + 10 * t) ∧ Drew g w wr) (fun _ i _ => 300 - (intOf i).toNat)
    case atStart => exact ⟨0, 0, none, 0, [], rfl, by omega, rfl, rfl, by omega, World.ownsRow_nil _ _ _ _, HC.out.mono (by omega), HD.out⟩
    case round =>
      obtain ⟨t, q, B, d, out, rfl, ht, rfl, hlo, hq, hown, hc, hd⟩ := hrel
      have HLO := Lib.hid hlo; have HO := Lib.hid hown; have HC := Lib.hid hc; have HD := Lib.hid hd
      clear hlo hown hc hd
      by_cases hgo : q < 60 ∧ t < 300
      · obtain ⟨hqN, ht3⟩ := hgo
        have hw1 : decide (q < 60) = true := by simpa using hqN
        have hw2 : decide (t < 300) = true := by simpa using ht3
        go_wp2_with fail
        refine (pick_any g _ (most) _ (by omega) (by omega) HC.out).mono ?_
        rintro e wa ⟨f, rfl, hf, hf', hc, hd⟩
        have HC := Lib.hid hc; have HD1 := Lib.hid hd; have HD := Lib.hid (HD.out.trans hd)
        clear hc hd
        have HO := Lib.hid (Drew.own HD1.out HO.out HGW.out)
        go_wp2_with fail
        refine (pick_any g _ (5) _ (by omega) (by omega) HC.out).mono ?_
        rintro e wc ⟨p, rfl, hp, hp', hc, hd⟩
        have HC := Lib.hid hc; have HD1 := Lib.hid hd; have HD := Lib.hid (HD.out.trans hd)
        clear hc hd
        have HO := Lib.hid (Drew.own HD1.out HO.out HGW.out)
        go_wp2_with fail
        refine (amongLit_any g _ [1, 4, 8, 8, 12] 3 _ _ _ rfl rfl (by omega) (by simp) (by simp) HC.out).mono ?_
        rintro e we ⟨z, hz, rfl, hc, hd⟩
        have hzb : 1 ≤ z ∧ z ≤ 12 := by simp at hz; omega
        have HC := Lib.hid hc; have HD1 := Lib.hid hd; have HD := Lib.hid (HD.out.trans hd)
        clear hc hd hz
        have HO := Lib.hid (Drew.own HD1.out HO.out HGW.out)
        have hfb : (f : Int) ≤ 160 := by omega
        go_wp2_with (first | (go_at_call 83; refine (l1LeastT_any _ _ _).mono ?_; rintro e w' ⟨rfl, rfl⟩))
        have HWX : Hid (Below we.heap.size we (we.alloc (.cells #[.int .i64 (1 + (q : Int) % 30), .int .i64 ((q : Int) / 30 * 20), .int .i64 ((q : Int) / 30 * 20 + 8)] 56))) := Lib.hid ((Below.refl _ _).alloc (Nat.le_refl _) _)
        have HBXB := Lib.hid (Box3.new we 56 (.int .i64 (1 + (q : Int) % 30)) (.int .i64 ((q : Int) / 30 * 20)) (.int .i64 ((q : Int) / 30 * 20 + 8)))
        have HO := Lib.hid (own_below HO.out HWX.out)
        have HC := Lib.hid (HC.out.below HWX.out)
        have HD := Lib.hid (HD.out.trans (Drew.of_below HWX.out))
        have HWZ : Hid (w.heap.size ≤ (we.alloc (.cells #[.int .i64 (1 + (q : Int) % 30), .int .i64 ((q : Int) / 30 * 20), .int .i64 ((q : Int) / 30 * 20 + 8)] 56)).heap.size) := Lib.hid HD.out.size
        clear HWX HD1
        generalize we.alloc (.cells #[.int .i64 (1 + (q : Int) % 30), .int .i64 ((q : Int) / 30 * 20), .int .i64 ((q : Int) / 30 * 20 + 8)] 56) = wb at *
        generalize we.heap.size = gx at *
        generalize (q : Int) / 30 * 20 + 8 = xc at *
        generalize (q : Int) / 30 * 20 = xb at *
        generalize 1 + (q : Int) % 30 = xa at *
        have hq2 : q ≤ 59 := by omega
        have HRT : Hid (∀ W, Below wb.heap.size wb W → Reads W 3 B q (rows3 out)) := Lib.hid (fun W hW => (Reads.of_own HO.out).below hW)
        have HBEL0 : Hid (Below wb.heap.size wb ((wb.alloc (.cells #[] 56)).alloc (.cells #[.int .i64 xa, .int .i64 xb, .int .i64 xc] 56)).drew) := Lib.hid (((Below.refl _ _).alloc (Nat.le_refl _) _).alloc (by simp) _).drew
        have HOW0 : Hid (((wb.alloc (.cells #[] 56)).alloc (.cells #[.int .i64 xa, .int .i64 xb, .int .i64 xc] 56)).drew.ownsRow wb.heap.size 56 3 (.slice (some ⟨wb.heap.size, 0, none⟩) 0 0) 0 []) := Lib.hid (own_below (World.ownsRow_made wb #[] 0 (Nat.le_refl _) (by unfold maxLen; omega) rfl) ((Below.refl _ _).alloc (Nat.le_refl _) _).drew)
        have HRW0 : Hid (Reads ((wb.alloc (.cells #[] 56)).alloc (.cells #[.int .i64 xa, .int .i64 xb, .int .i64 xc] 56)).drew 3 (some ⟨wb.heap.size + 1, 0, none⟩) 1 [.int .i64 xa, .int .i64 xb, .int .i64 xc]) := Lib.hid (by have h9 := reads_litk (wb.alloc (.cells #[] 56)) [.int .i64 xa, .int .i64 xb, .int .i64 xc] 56 (n := 1) (k := 3) rfl; rw [World.size_alloc] at h9; exact h9)
        have HBELA : Hid (Below wb.heap.size wb (wb.alloc (.cells #[] 56)).drew) := Lib.hid ((Below.refl _ _).alloc (Nat.le_refl _) _).drew
        have HOWA : Hid ((wb.alloc (.cells #[] 56)).drew.ownsRow wb.heap.size 56 3 (.slice (some ⟨wb.heap.size, 0, none⟩) 0 0) 0 []) := Lib.hid (own_below (World.ownsRow_made wb #[] 0 (Nat.le_refl _) (by unfold maxLen; omega) rfl) (Below.refl _ _).drew)
        have HBELC : Hid (Below wb.heap.size wb ((wb.alloc (.cells #[.int .i64 xa, .int .i64 xb, .int .i64 xc] 56)).alloc (.cells #[] 56)).drew) := Lib.hid (((Below.refl _ _).alloc (Nat.le_refl _) _).alloc (by simp) _).drew
        have HOWC : Hid (((wb.alloc (.cells #[.int .i64 xa, .int .i64 xb, .int .i64 xc] 56)).alloc (.cells #[] 56)).drew.ownsRow wb.heap.size 56 3 (.slice (some ⟨wb.heap.size + 1, 0, none⟩) 0 0) 0 []) := Lib.hid (by have h9 := show (((wb.alloc (.cells #[.int .i64 xa, .int .i64 xb, .int .i64 xc] 56)).alloc (.cells #[] 56)).ownsRow (wb.alloc (.cells #[.int .i64 xa, .int .i64 xb, .int .i64 xc] 56)).heap.size 56 3 (.slice (some ⟨(wb.alloc (.cells #[.int .i64 xa, .int .i64 xb, .int .i64 xc] 56)).heap.size, 0, none⟩) 0 0) 0 []) from World.ownsRow_made _ #[] 0 (Nat.le_refl _) (by unfold maxLen; omega) rfl; rw [World.size_alloc] at h9; exact own_below (own_mono h9 (Nat.le_succ _)) (Below.refl _ _).drew)
        have HRWC : Hid (Reads ((wb.alloc (.cells #[.int .i64 xa, .int .i64 xb, .int .i64 xc] 56)).alloc (.cells #[] 56)).drew 3 (some ⟨wb.heap.size, 0, none⟩) 1 [.int .i64 xa, .int .i64 xb, .int .i64 xc]) := Lib.hid ((reads_litk wb [.int .i64 xa, .int .i64 xb, .int .i64 xc] 56 (n := 1) (k := 3) rfl).alloc _)
        obtain ⟨x0, x1, x2⟩ := HBXB.out.cells
        have HKEEP : Hid (∀ W, Below wb.heap.size wb W → W.cell? ⟨gx, 0, none⟩ = some (.int .i64 xa) ∧ W.cell? ⟨gx, 1, none⟩ = some (.int .i64 xb) ∧ W.cell? ⟨gx, 2, none⟩ = some (.int .i64 xc)) := Lib.hid (fun W hW => (HBXB.out.below hW HBXB.out.lt).cells)
        go_region_held3 (fun W => W.cell? ⟨gx, 0, none⟩ = some (.int .i64 xa) ∧ W.cell? ⟨gx, 1, none⟩ = some (.int .i64 xb) ∧ W.cell? ⟨gx, 2, none⟩ = some (.int .i64 xc)) (exact HKEEP.out _ (by first | assumption | exact (Below.refl _ _).drew | exact ((Below.refl _ _).alloc (Nat.le_refl _) _).drew | exact HBEL0.out | exact HBELC.out | exact (hA.alloc hA.size _) | exact hB.trans (hb'.mono hB.size) | fail)) (first | ((refine step_pushL _ (by rfl) (.tmp 59) (.tmp 60) 31 (by rfl) wb.heap.size 56 _ 3 24 infoShift3 rfl (by omega) Tryd.underlying31 (some ⟨wb.heap.size, 0, none⟩) 0 0 [] (by first | rfl | (show Value.slice A1 (0 + q) c1 = Value.slice A1 q c1; rw [Nat.zero_add])) HOWA.out B q d (rows3 out) (by rfl) (HRT.out _ HBELA.out) (one_rows3 _) (by omega) (by omega) HBELA.out.size ?_); intro A1 c1 wp hown1 hg1 hb1 hl1; rw [Nat.zero_add, List.nil_append] at hown1; have hA := HBELA.out.trans hb1) | ((refine step_pushL _ (by rfl) (.tmp 59) (.tmp 60) 31 (by rfl) wb.heap.size 56 _ 3 24 infoShift3 rfl (by omega) Tryd.underlying31 (some ⟨wb.heap.size, 0, none⟩) 0 0 [] (by first | rfl | (show Value.slice A1 (0 + q) c1 = Value.slice A1 q c1; rw [Nat.zero_add])) HOW0.out B q d (rows3 out) (by rfl) (HRT.out _ HBEL0.out) (one_rows3 _) (by omega) (by omega) HBEL0.out.size ?_); intro A1 c1 wp hown1 hg1 hb1 hl1; rw [Nat.zero_add, List.nil_append] at hown1; have hA := HBEL0.out.trans hb1; have hrx := reads_grownF HRW0.out hg1 (fun ad e => by injection e with e; subst e; simp [Value.ownBlock])) | ((refine step_pushL _ (by rfl) (.tmp 59) (.tmp 60) 31 (by rfl) wb.heap.size 56 _ 3 24 infoShift3 rfl (by omega) Tryd.underlying31 (some ⟨wb.heap.size + 1, 0, none⟩) 0 0 [] (by first | rfl | (show Value.slice A1 (0 + q) c1 = Value.slice A1 q c1; rw [Nat.zero_add])) HOWC.out B q d (rows3 out) (by rfl) (HRT.out _ HBELC.out) (one_rows3 _) (by omega) (by omega) HBELC.out.size ?_); intro A1 c1 wp hown1 hg1 hb1 hl1; rw [Nat.zero_add, List.nil_append] at hown1; have hA := HBELC.out.trans hb1; have hrx := reads_grownF HRWC.out hg1 (fun ad e => by injection e with e; subst e; simp [Value.ownBlock])) | ((refine step_pushL _ (by rfl) (.tmp 61) (.tmp 63) 31 (by rfl) wb.heap.size 56 _ 3 24 infoShift3 rfl (by omega) Tryd.underlying31 A1 q c1 (rows3 out) (by first | rfl | (show Value.slice A1 (0 + q) c1 = Value.slice A1 q c1; rw [Nat.zero_add])) (own_below hown1 ((Below.refl _ _).alloc (Nat.le_refl _) _)) (some ⟨wp.heap.size, 0, none⟩) 1 1 [.int .i64 xa, .int .i64 xb, .int .i64 xc] (by rfl) (reads_litk _ _ _ rfl) (by simp [Value.oneCell']) (by omega) (by omega) (by have := hA.size; simp; omega) ?_); intro A2 c2 wq hown2 hg2 hb2 hl2; have hB := (hA.alloc hA.size _).trans hb2) | ((refine step_pushL _ (by rfl) (.tmp 61) (.tmp 63) 31 (by rfl) wb.heap.size 56 _ 3 24 infoShift3 rfl (by omega) Tryd.underlying31 A1 q c1 (rows3 out) (by first | rfl | (show Value.slice A1 (0 + q) c1 = Value.slice A1 q c1; rw [Nat.zero_add])) hown1 (some ⟨wb.heap.size + 1, 0, none⟩) 1 1 [.int .i64 xa, .int .i64 xb, .int .i64 xc] (by rfl) hrx (by simp [Value.oneCell']) (by omega) (by omega) hA.size ?_); intro A2 c2 wq hown2 hg2 hb2 hl2; have hB := hA.trans hb2) | ((refine step_pushL _ (by rfl) (.tmp 61) (.tmp 63) 31 (by rfl) wb.heap.size 56 _ 3 24 infoShift3 rfl (by omega) Tryd.underlying31 A1 q c1 (rows3 out) (by first | rfl | (show Value.slice A1 (0 + q) c1 = Value.slice A1 q c1; rw [Nat.zero_add])) hown1 (some ⟨wb.heap.size, 0, none⟩) 1 1 [.int .i64 xa, .int .i64 xb, .int .i64 xc] (by rfl) hrx (by simp [Value.oneCell']) (by omega) (by omega) hA.size ?_); intro A2 c2 wq hown2 hg2 hb2 hl2; have hB := hA.trans hb2) | (go_at_call 84; refine (shSort_any A2 (q + 1) c2 (out ++ [(xa, xb, xc)]) _ (by omega) (by rw [rows3_app]; exact Reads.of_own hown2)).mono ?_; rintro e ws ⟨B', d', out', b', rfl, hlo', hown', hb'⟩) | fail)
        all_goals
          clear x0 x1 x2
          have HBS : Hid (Below wb.heap.size wb ws) := Lib.hid (hB.trans (hb'.mono hB.size))
          have HO8 := Lib.hid (own_mono hown' (Nat.le_trans HWZ.out hB.size))
          have HO9 := Lib.hid (own_below HO.out HBS.out)
          have HC := Lib.hid (HC.out.below HBS.out)
          have HD := Lib.hid (HD.out.trans (Drew.of_below HBS.out))
          clear hown' hb' hown2 hb2 hg2 hl2 hown1 hb1 hg1 hl1 HRT HBEL0 HOW0 HRW0 HBELA HOWA HBELC HOWC HRWC HKEEP HBXB
          cases b' with
          | true =>
            go_wp2
            go_roundw
            case rel => exact ⟨t + 1, out'.length, B', d', out', by go_num, by omega, rfl, rfl, by omega, HO8.out, HC.out.mono (by omega), HD.out⟩
            case measure => simp [intOf]; omega
          | false =>
            go_wp2
            go_roundw
            case rel => exact ⟨t + 1, q, B, d, out, by go_num, by omega, rfl, HLO.out, by omega, HO9.out, HC.out.mono (by omega), HD.out⟩
            case measure => simp [intOf]; omega
      · have HCF := HC; have HOF := HO; have HDF := HD
        have e := HLO.out
        subst e
        by_cases hqN : out.length < 60
        · have hw1 : decide (out.length < 60) = true := by simpa using hqN
          have hw2 : decide (t < 300) = false := by simp; omega
          go_wp2
          go_ret
          exact ⟨B, d, out, rfl, by omega, HOF.out, HCF.out.mono (by omega), HDF.out⟩
        · have hw1 : decide (out.length < 60) = false := by simpa using hqN
          go_wp2
          go_ret
          exact ⟨B, d, out, rfl, by omega, HOF.out, HCF.out.mono (by omega), HDF.out⟩

end Go.Proofs.YtiofgoppgdgbaaaDoor
