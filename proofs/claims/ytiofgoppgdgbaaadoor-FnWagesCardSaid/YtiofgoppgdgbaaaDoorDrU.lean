/- The spec's drawing of shifts, mostly valid ones. No conditions. -/
import Derived.Test.YtiofgoppgdgbaaaDoorDrT
namespace Go.Proofs.YtiofgoppgdgbaaaDoor
set_option linter.unusedSimpArgs false
set_option linter.unusedVariables false
open Go.RowKit

theorem own_atK {w : World} {base n c k : Nat} {e : TypeId} {A : Option Addr} {xs : List Value} (h : w.ownsRow base e k (.slice A n c) n xs) (hn : 0 < n) : ∃ ga, A = some ⟨ga, 0, none⟩ ∧ base ≤ ga := by
  rcases h.2 with ⟨_, h0⟩ | ⟨g, cap, cur, hv, hb, _⟩
  · omega
  · injection hv with e _ _
    exact ⟨g, e, hb⟩
theorem Drew.own_set {g ga i : Nat} {w0 w : World} {v : Value} (h : Drew g w0 w) (hB : w0.heap.size ≤ ga) : Drew g w0 (w.setCell ⟨ga, i, none⟩ v) := Drew.then_below h ((Below.refl _ _).setCell (p := ⟨ga, i, none⟩) hB v)

set_option maxHeartbeats 4000000 in
set_option maxRecDepth 100000 in
theorem anyShifts_any (g k : Nat) (w : World) (hk : k ≤ 100000000) (h : Cur w g k) :
    Calls Tryd.prog 42 #[.pointer (some ⟨g, 0, none⟩)] w fun e w' => ∃ B d out, e = .returned (.slice B (List.length out) d) ∧ out.length ≤ 61 ∧ w'.ownsRow w.heap.size 56 3 (.slice B out.length d) out.length (rows3 out) ∧ Cur w' g (k + 5000) ∧ Drew g w w' := by
  have HC := Lib.hid h
  have HGW : Hid (g < w.heap.size) := Lib.hid h.lt
  clear h
  go_enter Tryd.func42, Tryd.ntmps42
  go_wp2_with fail
  refine (shifts_any g _ _ (by omega) HC.out).mono ?_
  rintro e w0 ⟨B, d, out, rfl, hlen, hown, hc, hd⟩
  have HO := Lib.hid hown; have HC := Lib.hid hc; have HD := Lib.hid hd
  clear hown hc hd
  by_cases h0 : 0 < out.length
  · obtain ⟨ga, rfl, hga⟩ := own_atK HO.out h0
    have h0b : decide (0 < out.length) = true := by simpa using h0
    go_wp2_with fail
    refine (pick_any g _ (out.length) _ (by omega) (by omega) HC.out).mono ?_
    rintro e w1 ⟨i, rfl, hi, hi', hc, hd⟩
    have HC := Lib.hid hc; have HD1 := Lib.hid hd; have HD := Lib.hid (HD.out.trans hd)
    clear hc hd
    have HO := Lib.hid (Drew.own HD1.out HO.out HGW.out)
    have hil : i < out.length := by omega
    have hi1 : (i : Int) < (out.length : Int) := by omega
    have hi0 : (0 : Int) ≤ (i : Int) := by omega
    go_wp2_with fail
    refine (pick_any g _ (30) _ (by omega) (by omega) HC.out).mono ?_
    rintro e w2 ⟨s, rfl, hs, hs', hc, hd⟩
    have HC := Lib.hid hc; have HD1 := Lib.hid hd; have HD := Lib.hid (HD.out.trans hd)
    clear hc hd
    have HO := Lib.hid (Drew.own HD1.out HO.out HGW.out)
    by_cases e0 : s = 0
    · subst e0
      
      
      go_wp2_with fail
      refine (amongLit_any g _ [0, 30, 31] 3 _ _ _ rfl rfl (by omega) (by simp) (by simp) HC.out).mono ?_
      rintro e w5 ⟨v, hv, rfl, hc, hd⟩
      have HC := Lib.hid hc; have HD1 := Lib.hid hd; have HD := Lib.hid (HD.out.trans hd)
      clear hc hd hv
      have HO := Lib.hid (Drew.own HD1.out HO.out HGW.out)
      
      have k0 : w5.cell? ⟨ga, i * 3, none⟩ = some (.int .i64 out[i].1) := by
        rw [HO.out.cellAt (i * 3) (by omega)]
        exact (rows3_get hil).1
      have f0 : w5.frozen? ⟨ga, i * 3, none⟩ = false := HO.out.frozenAt (i * 3)
      have HS := (HO.out.stored (i * 3) (.int .i64 v)).1
      rw [rows3_set0 out i v hil] at HS
      have HOS := Lib.hid HS
      have HCS := Lib.hid (HC.out.below' ((Below.refl w.heap.size w5).setCell (p := ⟨ga, i * 3, none⟩) hga (.int .i64 v)) HGW.out)
      have HDS := Lib.hid (Drew.own_set (i := i * 3) (v := .int .i64 v) HD.out hga)
      clear HS
      generalize out[i].1 = yy at k0
      go_wp2
      go_ret
      exact ⟨some ⟨ga, 0, none⟩, d, out.set i (v, out[i].2), by simp, by simp; omega, by simpa using HOS.out, HCS.out.mono (by omega), HDS.out⟩
    by_cases e1 : s = 1
    · subst e1
      have k2 : w2.cell? ⟨ga, i * 3 + 2, none⟩ = some (.int .i64 out[i].2.2) := by
        rw [HO.out.cellAt (i * 3 + 2) (by omega)]
        exact (rows3_get hil).2.2
      have f2 : w2.frozen? ⟨ga, i * 3 + 2, none⟩ = false := HO.out.frozenAt (i * 3 + 2)
      generalize out[i].2.2 = y at k2
      go_wp2_with fail
      refine (amongLit_any g _ [-1, y] 3 _ _ _ rfl rfl (by omega) (by simp) (by simp) HC.out).mono ?_
      rintro e w5 ⟨v, hv, rfl, hc, hd⟩
      have HC := Lib.hid hc; have HD1 := Lib.hid hd; have HD := Lib.hid (HD.out.trans hd)
      clear hc hd hv
      have HO := Lib.hid (Drew.own HD1.out HO.out HGW.out)
      clear k2 f2
      have k1 : w5.cell? ⟨ga, i * 3 + 1, none⟩ = some (.int .i64 out[i].2.1) := by
        rw [HO.out.cellAt (i * 3 + 1) (by omega)]
        exact (rows3_get hil).2.1
      have f1 : w5.frozen? ⟨ga, i * 3 + 1, none⟩ = false := HO.out.frozenAt (i * 3 + 1)
      have HS := (HO.out.stored (i * 3 + 1) (.int .i64 v)).1
      rw [rows3_set1 out i v hil] at HS
      have HOS := Lib.hid HS
      have HCS := Lib.hid (HC.out.below' ((Below.refl w.heap.size w5).setCell (p := ⟨ga, i * 3 + 1, none⟩) hga (.int .i64 v)) HGW.out)
      have HDS := Lib.hid (Drew.own_set (i := i * 3 + 1) (v := .int .i64 v) HD.out hga)
      clear HS
      generalize out[i].2.1 = yy at k1
      go_wp2
      go_ret
      exact ⟨some ⟨ga, 0, none⟩, d, out.set i (out[i].1, v, out[i].2.2), by simp, by simp; omega, by simpa using HOS.out, HCS.out.mono (by omega), HDS.out⟩
    by_cases e2 : s = 2
    · subst e2
      have k1 : w2.cell? ⟨ga, i * 3 + 1, none⟩ = some (.int .i64 out[i].2.1) := by
        rw [HO.out.cellAt (i * 3 + 1) (by omega)]
        exact (rows3_get hil).2.1
      have f1 : w2.frozen? ⟨ga, i * 3 + 1, none⟩ = false := HO.out.frozenAt (i * 3 + 1)
      generalize out[i].2.1 = y at k1
      go_wp2_with fail
      refine (amongLit_any g _ [y, 168, 169] 3 _ _ _ rfl rfl (by omega) (by simp) (by simp) HC.out).mono ?_
      rintro e w5 ⟨v, hv, rfl, hc, hd⟩
      have HC := Lib.hid hc; have HD1 := Lib.hid hd; have HD := Lib.hid (HD.out.trans hd)
      clear hc hd hv
      have HO := Lib.hid (Drew.own HD1.out HO.out HGW.out)
      clear k1 f1
      have k2 : w5.cell? ⟨ga, i * 3 + 2, none⟩ = some (.int .i64 out[i].2.2) := by
        rw [HO.out.cellAt (i * 3 + 2) (by omega)]
        exact (rows3_get hil).2.2
      have f2 : w5.frozen? ⟨ga, i * 3 + 2, none⟩ = false := HO.out.frozenAt (i * 3 + 2)
      have HS := (HO.out.stored (i * 3 + 2) (.int .i64 v)).1
      rw [rows3_set2 out i v hil] at HS
      have HOS := Lib.hid HS
      have HCS := Lib.hid (HC.out.below' ((Below.refl w.heap.size w5).setCell (p := ⟨ga, i * 3 + 2, none⟩) hga (.int .i64 v)) HGW.out)
      have HDS := Lib.hid (Drew.own_set (i := i * 3 + 2) (v := .int .i64 v) HD.out hga)
      clear HS
      generalize out[i].2.2 = yy at k2
      go_wp2
      go_ret
      exact ⟨some ⟨ga, 0, none⟩, d, out.set i (out[i].1, out[i].2.1, v), by simp, by simp; omega, by simpa using HOS.out, HCS.out.mono (by omega), HDS.out⟩
    by_cases e3 : s = 3
    · subst e3
      have HZ : Hid (w.heap.size ≤ w2.heap.size) := Lib.hid HD.out.size
      go_wp2_with (at_builtin; refine wpList_push _ rfl (.tmp 52) (.tmp 54) 31 rfl w.heap.size 56 _ 3 24 infoShift3 rfl (by omega) Tryd.underlying31 (some ⟨ga, 0, none⟩) out.length d (rows3 out) rfl (own_below HO.out ((Below.refl _ _).alloc (Nat.le_refl _) _)) (some ⟨w2.heap.size, 0, none⟩) 1 1 [.int .i64 7, .int .i64 167, .int .i64 168] rfl (reads_litk _ _ _ rfl) (by simp [Value.oneCell']) (by omega) (by omega) (by have := HZ.out; simp; omega) ?_; intro A' c' w5 hown5 hg5 hb5)
      have hb6 : Below w.heap.size w2 w5 := ((Below.refl _ _).alloc HZ.out _).trans hb5
      have HO5 := Lib.hid hown5; have HC5 := Lib.hid (HC.out.below' hb6 HGW.out); have HD5 := Lib.hid (Drew.then_below HD.out hb6)
      clear hown5 hg5 hb5 hb6
      go_ret
      exact ⟨A', c', out ++ [(7, 167, 168)], by simp, by simp; omega, by have h9 := HO5.out; simpa [rows3, cells3] using h9, HC5.out.mono (by omega), HD5.out⟩
    have n0 : ((s : Int) == 0) = false := by rw [beq_eq_false_iff_ne]; omega
    have n1 : ((s : Int) == 1) = false := by rw [beq_eq_false_iff_ne]; omega
    have n2 : ((s : Int) == 2) = false := by rw [beq_eq_false_iff_ne]; omega
    have n3 : ((s : Int) == 3) = false := by rw [beq_eq_false_iff_ne]; omega
    go_wp2
    go_ret
    exact ⟨some ⟨ga, 0, none⟩, d, out, rfl, by omega, HO.out, HC.out.mono (by omega), HD.out⟩
  · have h0b : decide (0 < out.length) = false := by simpa using h0
    go_wp2
    go_ret
    exact ⟨B, d, out, rfl, by omega, HO.out, HC.out.mono (by omega), HD.out⟩

end Go.Proofs.YtiofgoppgdgbaaaDoor
