/- Contracts of WearOn of both packages, and the law over them. No conditions. -/
import Derived.Test.YtjibdabedagghaaGear
import Derived.Test.YtjibdabedagghaaRise
namespace Go.Proofs.Ytjibdabedagghaa
set_option linter.unusedSimpArgs false
set_option linter.unusedVariables false
open Go.RowKit

def wearAt (a b : Int) (days : List Int) : Nat → Int
  | 0 => a
  | t + 1 => (if hasB days (t : Int) = true then 0 else wearAt a b days t) + b
theorem wearAt_bd (a b : Int) (days : List Int) (ha : 0 ≤ a ∧ a ≤ 1000) (hb : 1 ≤ b ∧ b ≤ 100) : ∀ t, 0 ≤ wearAt a b days t ∧ wearAt a b days t ≤ 1000 + 100 * (t : Int) := by
  intro t
  induction t with
  | zero => simp [wearAt]; omega
  | succ t ih => simp only [wearAt]; split <;> omega
def wearR (a b c d : Int) (days : List Int) (day : Int) : Int × Bool := if gearB a b c d = true ∧ riseB 0 30 days = true ∧ inB day 0 30 = true then (wearAt a b days (day.toNat + 1), true) else (0, false)
theorem rrAfter_any (a b c d : Int) (rep : Bool) (w : World) (ha : 0 ≤ a ∧ a ≤ 1000000) (hb : 0 ≤ b ∧ b ≤ 1000000) :
    Calls Try.prog 69 #[.agg #[.int .i64 a, .int .i64 b, .int .i64 c, .int .i64 d], .bool rep] w fun e w' => e = .returned (.agg #[.int .i64 ((if rep = true then 0 else a) + b), .int .i64 b, .int .i64 c, .int .i64 d]) ∧ Below w.heap.size w w' := by
  cases rep with
  | true =>
    go_enter Try.func69, Try.ntmps69
    go_wp2
    go_returns
    exact ⟨by simp, by go_grown⟩
  | false =>
    go_enter Try.func69, Try.ntmps69
    go_wp2
    go_returns
    exact ⟨by simp, by go_grown⟩

set_option maxHeartbeats 4000000 in
theorem specWearOn_any (a b c d : Int) (A : Option Addr) (n cc : Nat) (days : List Int) (day : Int) (w : World) (hn : n ≤ 1000000000) (h : Reads w 1 A n (ints days)) :
    Calls Try.prog 25 #[.agg #[.int .i64 a, .int .i64 b, .int .i64 c, .int .i64 d], .slice A n cc, .int .i64 day] w fun e w' => e = .returned (.tuple #[.int .i64 (wearR a b c d days day).1, .bool (wearR a b c d days day).2]) ∧ Below w.heap.size w w' := by
  have CG := fun W => rrGear_any a b c d W
  have CR0 := fun W (hR : Reads W 1 A n (ints days)) => l1Rising_any A n cc days 0 30 W hn hR
  
  have HR := Lib.hid (h.alloc (.cells #[.int .i64 a, .int .i64 b, .int .i64 c, .int .i64 d] 26))
  have HR0 := Lib.hid h
  clear h
  cases hg : gearB a b c d with
  | false =>
    simp only [hg] at CG
    have C1 := Lib.hid CG; clear CG
    clear CR0
    have hr : wearR a b c d days day = (0, false) := by simp [wearR, hg]
    rw [hr]
    clear hr
    go_enter Try.func25, Try.ntmps25
    go_wp2_with (first | (go_at_call 60; refine (C1.out _).mono ?_; rintro e w1 ⟨rfl, hb1⟩; have B1 := Lib.hid hb1; clear hb1) | fail | (go_at_call 68; refine (l1In_any _ _ _ _).mono ?_; rintro e w' ⟨rfl, rfl⟩))
    go_ret2
    exact ⟨rfl, ((Below.refl _ _).alloc (Nat.le_refl _) _).trans (B1.out.mono (by simp))⟩
  | true =>
    cases hi : riseB 0 30 days with
    | false =>
      simp only [hg] at CG
      simp only [hi] at CR0
      have C1 := Lib.hid CG; clear CG
      have CR := Lib.hid CR0
      clear CR0
      have hr : wearR a b c d days day = (0, false) := by simp [wearR, hi]
      rw [hr]
      clear hr
      go_enter Try.func25, Try.ntmps25
      go_wp2_with (first | (go_at_call 60; refine (C1.out _).mono ?_; rintro e w1 ⟨rfl, hb1⟩; have B1 := Lib.hid hb1; clear hb1) | (go_at_call 67; refine (CR.out _ (HR.out.below B1.out)).mono ?_; rintro e w' ⟨rfl, rfl⟩) | (go_at_call 68; refine (l1In_any _ _ _ _).mono ?_; rintro e w' ⟨rfl, rfl⟩))
      go_ret2
      exact ⟨rfl, ((Below.refl _ _).alloc (Nat.le_refl _) _).trans (B1.out.mono (by simp))⟩
    | true =>
      cases hd : inB day 0 30 with
      | false =>
        simp only [hg] at CG
        simp only [hi] at CR0
        have C1 := Lib.hid CG; clear CG
        have CR := Lib.hid CR0
        clear CR0
        have hr : wearR a b c d days day = (0, false) := by simp [wearR, hd]
        rw [hr]
        clear hr
        go_enter Try.func25, Try.ntmps25
        go_wp2_with (first | (go_at_call 60; refine (C1.out _).mono ?_; rintro e w1 ⟨rfl, hb1⟩; have B1 := Lib.hid hb1; clear hb1) | (go_at_call 67; refine (CR.out _ (HR.out.below B1.out)).mono ?_; rintro e w' ⟨rfl, rfl⟩) | (go_at_call 68; refine (l1In_any _ _ _ _).mono ?_; rintro e w' ⟨rfl, rfl⟩))
        go_ret2
        exact ⟨rfl, ((Below.refl _ _).alloc (Nat.le_refl _) _).trans (B1.out.mono (by simp))⟩
      | true =>
        simp only [hg] at CG
        simp only [hi] at CR0
        have C1 := Lib.hid CG; clear CG
        have CR := Lib.hid CR0; clear CR0
        obtain ⟨hd1, hd2⟩ := inB_true.1 hd
        obtain ⟨m, rfl⟩ : ∃ m : Nat, day = (m : Int) := ⟨day.toNat, by omega⟩
        have hr : wearR a b c d days (m : Int) = (wearAt a b days (m + 1), true) := by simp [wearR, hg, hd, hi]
        rw [hr]
        obtain ⟨⟨hb1', hb2'⟩, ⟨_, hc2'⟩, ⟨ha1', ha2'⟩, _⟩ := gearB_true.1 hg
        have hwb := wearAt_bd a b days ⟨ha1', by omega⟩ ⟨hb1', hb2'⟩
        have HWB := Lib.hid hwb
        have HWS : Hid (∀ t, wearAt a b days (t + 1) = (if hasB days (t : Int) = true then 0 else wearAt a b days t) + b) := Lib.hid (fun t => rfl)
        have hw0 : wearAt a b days 0 = a := rfl
        have HW0 := Lib.hid hw0
        clear hr hwb hw0
        have HB4 := Lib.hid (Box4.new w 26 (.int .i64 a) (.int .i64 b) (.int .i64 c) (.int .i64 d))
        go_enter Try.func25, Try.ntmps25
        go_wp2_with (first | (go_at_call 60; refine (C1.out _).mono ?_; rintro e w1 ⟨rfl, hb1⟩; have B1 := Lib.hid hb1; clear hb1) | (go_at_call 67; refine (CR.out _ (HR.out.below B1.out)).mono ?_; rintro e w' ⟨rfl, rfl⟩) | (go_at_call 68; refine (l1In_any _ _ _ _).mono ?_; rintro e w' ⟨rfl, rfl⟩))
        have HBL0 : Hid (Below w.heap.size w w1) := Lib.hid (((Below.refl _ _).alloc (Nat.le_refl _) _).trans (B1.out.mono (by simp)))
        have HB41 := Lib.hid (HB4.out.below B1.out (by simp))
        go_loopw [8] (fun i wr => ∃ t : Nat, t ≤ m + 1 ∧ i = .int .i64 t ∧ Box4 wr w.heap.size 26 (.int .i64 (wearAt a b days t)) (.int .i64 b) (.int .i64 c) (.int .i64 d) ∧ Below w.heap.size w wr) (fun i _ => m + 1 - (intOf i).toNat)
        case atStart => exact ⟨0, by omega, rfl, by rw [HW0.out]; exact HB41.out, HBL0.out⟩
        case round =>
          obtain ⟨t, ht, rfl, hbox, hb⟩ := hrel
          have HBL := Lib.hid hb; clear hb
          have HBOX := Lib.hid hbox; clear hbox
          have hb0 := HWB.out t
          obtain ⟨x0, x1, x2, x3⟩ := HBOX.out.cells
          by_cases hlt : t < m + 1
          · have HST := Lib.hid (HWS.out t)
            have CH := Lib.hid (fun W (hW : Below wr.heap.size wr W) => l1Has_any A n cc days (t : Int) W hn ((HR0.out.below HBL.out).below hW))
            generalize wearAt a b days t = q at *
            have hfin : ∀ W, Below wr.heap.size wr W → (W.cell? ⟨w.heap.size, 0, none⟩ = some (.int .i64 q) ∧ W.cell? ⟨w.heap.size, 1, none⟩ = some (.int .i64 b) ∧ W.cell? ⟨w.heap.size, 2, none⟩ = some (.int .i64 c) ∧ W.cell? ⟨w.heap.size, 3, none⟩ = some (.int .i64 d)) ∧ W.frozen? ⟨w.heap.size, 0, none⟩ = false ∧ W.frozen? ⟨w.heap.size, 1, none⟩ = false ∧ W.frozen? ⟨w.heap.size, 2, none⟩ = false ∧ W.frozen? ⟨w.heap.size, 3, none⟩ = false := fun W hW =>
              ⟨(HBOX.out.below hW HBOX.out.lt).cells, (HBOX.out.below hW HBOX.out.lt).frozen⟩
            have HFIN := Lib.hid hfin; clear hfin
            have hS : Below wr.heap.size wr wr.drew := (Below.refl _ _).drew
            cases hh : hasB days (t : Int)
            all_goals
              rw [hh] at HST
              simp only [hh] at CH
              go_wp2
              go_region_with (first | (go_at_call 70; refine (CH.out _ (by assumption)).mono ?_; rintro e w' ⟨rfl, rfl⟩) | (go_at_call 69; refine (rrAfter_any q b c d _ _ ⟨by omega, by omega⟩ ⟨by omega, by omega⟩).mono ?_; rintro e w3 ⟨rfl, hb3⟩; have hS3 := hS.trans (hb3.mono hS.size); obtain ⟨⟨y0, y1, y2, y3⟩, f0, f1, f2, f3⟩ := HFIN.out _ hS3))
              all_goals
                have HS3 := Lib.hid hS3
                clear hS3 hb3
                go_wp2
                go_roundw
                case rel =>
                  have hgz : w.heap.size ≤ wr.heap.size := HBL.out.size
                  refine ⟨t + 1, by omega, by go_num, ?_, ?_⟩
                  · have hst := HST.out
                    simp at hst
                    rw [hst]
                    exact (HBOX.out.below HS3.out HBOX.out.lt).set4 _ _ _ _
                  · exact ((((HBL.out.trans (HS3.out.mono hgz)).setCell (p := ⟨w.heap.size, 0, none⟩) (Nat.le_refl _) _).setCell (p := ⟨w.heap.size, 1, none⟩) (Nat.le_refl _) _).setCell (p := ⟨w.heap.size, 2, none⟩) (Nat.le_refl _) _).setCell (p := ⟨w.heap.size, 3, none⟩) (Nat.le_refl _) _
                case measure => simp [intOf]; omega
          · obtain rfl : t = m + 1 := by omega
            go_wp2
            go_ret2
            exact ⟨rfl, HBL.out⟩

set_option maxHeartbeats 4000000 in
theorem implWearOn_any (a b c d : Int) (A : Option Addr) (n cc : Nat) (days : List Int) (day : Int) (w : World) (hn : n ≤ 1000000000) (h : Reads w 1 A n (ints days)) :
    Calls Try.prog 27 #[.agg #[.int .i64 a, .int .i64 b, .int .i64 c, .int .i64 d], .slice A n cc, .int .i64 day] w fun e w' => e = .returned (.tuple #[.int .i64 (wearR a b c d days day).1, .bool (wearR a b c d days day).2]) ∧ Below w.heap.size w w' := by
  have CG := fun W => isGear_any a b c d W
  have CA0 := fun W (hR : Reads W 1 A n (ints days)) => allWithin_any A n cc days 0 30 W (by omega) hR
  have CI0 := fun W (hR : Reads W 1 A n (ints days)) => increasing_any A n cc days W hn hR
  have HR := Lib.hid (h.alloc (.cells #[.int .i64 a, .int .i64 b, .int .i64 c, .int .i64 d] 26))
  have HR0 := Lib.hid h
  clear h
  cases hg : gearB a b c d with
  | false =>
    simp only [hg] at CG
    have C1 := Lib.hid CG; clear CG
    clear CA0
    clear CI0
    have hr : wearR a b c d days day = (0, false) := by simp [wearR, hg]
    rw [hr]
    clear hr
    go_enter Try.func27, Try.ntmps27
    go_wp2_with (first | (go_at_call 62; refine (C1.out _).mono ?_; rintro e w1 ⟨rfl, hb1⟩; have B1 := Lib.hid hb1; clear hb1) | fail | (go_at_call 73; refine (within_any _ _ _ _).mono ?_; rintro e w' ⟨rfl, rfl⟩))
    go_ret2
    exact ⟨rfl, ((Below.refl _ _).alloc (Nat.le_refl _) _).trans (B1.out.mono (by simp))⟩
  | true =>
    cases ha : allB 0 30 days with
    | false =>
      simp only [hg] at CG
      simp only [ha] at CA0
      have C1 := Lib.hid CG; clear CG
      have CA := Lib.hid CA0
      clear CA0
      clear CI0
      have hr : wearR a b c d days day = (0, false) := by simp [wearR, riseB_eq, ha]
      rw [hr]
      clear hr
      go_enter Try.func27, Try.ntmps27
      go_wp2_with (first | (go_at_call 62; refine (C1.out _).mono ?_; rintro e w1 ⟨rfl, hb1⟩; have B1 := Lib.hid hb1; clear hb1) | (go_at_call 71; refine (CA.out _ (HR.out.below B1.out)).mono ?_; rintro e w' ⟨rfl, rfl⟩) | (go_at_call 73; refine (within_any _ _ _ _).mono ?_; rintro e w' ⟨rfl, rfl⟩))
      go_ret2
      exact ⟨rfl, ((Below.refl _ _).alloc (Nat.le_refl _) _).trans (B1.out.mono (by simp))⟩
    | true =>
      cases hi : incB days with
      | false =>
        simp only [hg] at CG
        simp only [ha] at CA0
        simp only [hi] at CI0
        have C1 := Lib.hid CG; clear CG
        have CA := Lib.hid CA0
        clear CA0
        have CI := Lib.hid CI0
        clear CI0
        have hr : wearR a b c d days day = (0, false) := by simp [wearR, riseB_eq, hi]
        rw [hr]
        clear hr
        go_enter Try.func27, Try.ntmps27
        go_wp2_with (first | (go_at_call 62; refine (C1.out _).mono ?_; rintro e w1 ⟨rfl, hb1⟩; have B1 := Lib.hid hb1; clear hb1) | (go_at_call 71; refine (CA.out _ (HR.out.below B1.out)).mono ?_; rintro e w' ⟨rfl, rfl⟩) | (go_at_call 72; refine (CI.out _ (HR.out.below B1.out)).mono ?_; rintro e w2 ⟨rfl, hq2⟩; have B2 := Lib.hid (below_of_quiet (B := w.heap.size + 1) hq2); clear hq2) | (go_at_call 73; refine (within_any _ _ _ _).mono ?_; rintro e w' ⟨rfl, rfl⟩))
        go_ret2
        exact ⟨rfl, (((Below.refl _ _).alloc (Nat.le_refl _) _).trans (B1.out.mono (by simp))).trans (B2.out.mono (by simp))⟩
      | true =>
        cases hd : inB day 0 30 with
        | false =>
          simp only [hg] at CG
          simp only [ha] at CA0
          simp only [hi] at CI0
          have C1 := Lib.hid CG; clear CG
          have CA := Lib.hid CA0
          clear CA0
          have CI := Lib.hid CI0
          clear CI0
          have hr : wearR a b c d days day = (0, false) := by simp [wearR, hd]
          rw [hr]
          clear hr
          go_enter Try.func27, Try.ntmps27
          go_wp2_with (first | (go_at_call 62; refine (C1.out _).mono ?_; rintro e w1 ⟨rfl, hb1⟩; have B1 := Lib.hid hb1; clear hb1) | (go_at_call 71; refine (CA.out _ (HR.out.below B1.out)).mono ?_; rintro e w' ⟨rfl, rfl⟩) | (go_at_call 72; refine (CI.out _ (HR.out.below B1.out)).mono ?_; rintro e w2 ⟨rfl, hq2⟩; have B2 := Lib.hid (below_of_quiet (B := w.heap.size + 1) hq2); clear hq2) | (go_at_call 73; refine (within_any _ _ _ _).mono ?_; rintro e w' ⟨rfl, rfl⟩))
          go_ret2
          exact ⟨rfl, (((Below.refl _ _).alloc (Nat.le_refl _) _).trans (B1.out.mono (by simp))).trans (B2.out.mono (by simp))⟩
        | true =>
          simp only [hg] at CG
          simp only [ha] at CA0
          simp only [hi] at CI0
          have C1 := Lib.hid CG; clear CG
          have CA := Lib.hid CA0; clear CA0
          have CI := Lib.hid CI0; clear CI0
          obtain ⟨hd1, hd2⟩ := inB_true.1 hd
          obtain ⟨m, rfl⟩ : ∃ m : Nat, day = (m : Int) := ⟨day.toNat, by omega⟩
          have hr : wearR a b c d days (m : Int) = (wearAt a b days (m + 1), true) := by simp [wearR, hg, hd, riseB_eq, ha, hi]
          rw [hr]
          obtain ⟨⟨hb1', hb2'⟩, ⟨_, hc2'⟩, ⟨ha1', ha2'⟩, _⟩ := gearB_true.1 hg
          have hwb := wearAt_bd a b days ⟨ha1', by omega⟩ ⟨hb1', hb2'⟩
          have HWB := Lib.hid hwb
          have HWS : Hid (∀ t, wearAt a b days (t + 1) = (if hasB days (t : Int) = true then 0 else wearAt a b days t) + b) := Lib.hid (fun t => rfl)
          have hw0 : wearAt a b days 0 = a := rfl
          have HW0 := Lib.hid hw0
          clear hr hwb hw0
          have hbx : ∀ W, Below (w.alloc (.cells #[.int .i64 a, .int .i64 b, .int .i64 c, .int .i64 d] 26)).heap.size (w.alloc (.cells #[.int .i64 a, .int .i64 b, .int .i64 c, .int .i64 d] 26)) W → _ := fun W hW => box4 hW
          have HBX := Lib.hid hbx; clear hbx
          go_enter Try.func27, Try.ntmps27
          go_wp2_with (first | (go_at_call 62; refine (C1.out _).mono ?_; rintro e w1 ⟨rfl, hb1⟩; have B1 := Lib.hid hb1; clear hb1) | (go_at_call 71; refine (CA.out _ (HR.out.below B1.out)).mono ?_; rintro e w' ⟨rfl, rfl⟩) | (go_at_call 72; refine (CI.out _ (HR.out.below B1.out)).mono ?_; rintro e w2 ⟨rfl, hq2⟩; have B2 := Lib.hid (below_then B1.out (below_of_quiet hq2)); clear hq2; obtain ⟨x0, x1, x2, x3⟩ := HBX.out _ B2.out) | (go_at_call 73; refine (within_any _ _ _ _).mono ?_; rintro e w' ⟨rfl, rfl⟩))
          go_loop [8, 32] (fun s i => ∃ t : Nat, t ≤ m + 1 ∧ i = .int .i64 t ∧ s = .int .i64 (wearAt a b days t)) (fun _ i => m + 1 - (intOf i).toNat)
          case atStart => exact ⟨0, by omega, rfl, by rw [HW0.out]⟩
          case round =>
            obtain ⟨t, ht, rfl, rfl⟩ := hrel
            have hb0 := HWB.out t
            by_cases hlt : t < m + 1
            · have HST := Lib.hid (HWS.out t)
              have CH := Lib.hid (slContains_any A n cc days (t : Int) _ hn (HR.out.below B2.out))
              generalize wearAt a b days t = q at *
              cases hh : hasB days (t : Int) with
              | true =>
                rw [hh] at CH HST
                go_wp2_with (go_at_call 74; refine (CH.out).mono ?_; rintro e w' ⟨rfl, rfl⟩)
                go_round
                case rel => exact ⟨t + 1, by omega, by go_num, by rw [HST.out]; simp⟩
                case measure => simp [intOf]; omega
              | false =>
                rw [hh] at CH HST
                go_wp2_with (go_at_call 74; refine (CH.out).mono ?_; rintro e w' ⟨rfl, rfl⟩)
                go_round
                case rel => exact ⟨t + 1, by omega, by go_num, by rw [HST.out]; simp⟩
                case measure => simp [intOf]; omega
            · obtain rfl : t = m + 1 := by omega
              go_wp2
              go_ret2
              exact ⟨rfl, ((Below.refl _ _).alloc (Nat.le_refl _) _).trans (B2.out.mono (by simp))⟩
set_option maxHeartbeats 4000000 in
set_option maxRecDepth 100000 in
theorem law_FnExactWearOn (w : World) {v0 v1 v2 : Value} (h0 : IsAgg4 v0) (h1 : IsInts w v1) (h2 : IsInt v2) :
    Calls Try.prog 6 #[v0, v1, v2] w fun e w' => e = .returned (.bool true) ∧ Below w.heap.size w w' := by
  obtain ⟨a0, b0, c0, d0, rfl, _⟩ := h0
  obtain ⟨A1, n1, c1, xs1, rfl, _, _, hr1, _⟩ := h1
  obtain ⟨a2, rfl, _⟩ := h2
  have HR1 := Lib.hid ((hr1.alloc (.cells #[.int .i64 a0, .int .i64 b0, .int .i64 c0, .int .i64 d0] 23))); clear hr1
  by_cases hn1 : n1 ≤ 1048576
  rotate_left
  · go_enter Try.func6, Try.ntmps6
    go_wp2
    go_ret
    exact ⟨rfl, ((Below.refl _ _).alloc (by first | exact Nat.le_refl _ | (simp; done) | (simp; omega)) _)⟩
  obtain ⟨S0, hS0⟩ : ∃ S0, S0 = (w.alloc (.cells #[.int .i64 a0, .int .i64 b0, .int .i64 c0, .int .i64 d0] 23)) := ⟨_, rfl⟩
  have KB0 : Hid (∀ W, Below S0.heap.size S0 W → W.cell? ⟨w.heap.size, 0, none⟩ = some (.int .i64 a0) ∧ W.cell? ⟨w.heap.size, 1, none⟩ = some (.int .i64 b0) ∧ W.cell? ⟨w.heap.size, 2, none⟩ = some (.int .i64 c0) ∧ W.cell? ⟨w.heap.size, 3, none⟩ = some (.int .i64 d0)) := Lib.hid (by
    intro W hW; subst hS0; exact box4 hW)
  have HS0 := Lib.hid hS0
  have BW0 : Hid (Below w.heap.size w S0 ∧ w.heap.size ≤ S0.heap.size) := Lib.hid (by subst hS0; exact ⟨((Below.refl _ _).alloc (by first | exact Nat.le_refl _ | (simp; done) | (simp; omega)) _), by simp; try omega⟩)
  rw [← hS0] at HR1
  clear hS0
  go_enter Try.func6, Try.ntmps6
  have BB0 : Hid (Below S0.heap.size S0 S0) := Lib.hid (Below.refl _ _)
  try rw [← HS0.out]
  go_wp2_with fail
  try rw [← HS0.out]
  refine (toGear_any a0 b0 c0 d0 S0).mono ?_
  rintro e w1 ⟨rfl, hb⟩
  have B0 := Lib.hid hb; clear hb
  have Z0 := Lib.hid (B0.out.size)
  have BB1 := Lib.hid (BB0.out.trans (B0.out.mono BB0.out.size))
  obtain ⟨ka0, kb0, kc0, kd0⟩ := KB0.out w1 BB1.out
  go_wp2_with fail
  clear ka0 kb0 kc0 kd0
  refine (toIntS_any A1 n1 c1 xs1 w1 (by omega) (HR1.out.below BB1.out)).mono ?_
  rintro e w2 ⟨As1, cs1, rfl, hown, hb⟩
  have Os1_2 := Lib.hid hown; clear hown
  have Ls1 := Lib.hid (own_lt Os1_2.out)
  have B1 := Lib.hid hb; clear hb
  have Z1 := Lib.hid (B1.out.size)
  have BB2 := Lib.hid (BB1.out.trans (B1.out.mono BB1.out.size))
  obtain ⟨ka0, kb0, kc0, kd0⟩ := KB0.out w2 BB2.out
  go_wp2_with fail
  clear ka0 kb0 kc0 kd0
  refine (specWearOn_any a0 b0 c0 d0 As1 n1 cs1 xs1 a2 w2 (by omega) (Reads.of_own Os1_2.out)).mono ?_
  rintro e w3 ⟨rfl, hb⟩
  have B2 := Lib.hid hb; clear hb
  have Z2 := Lib.hid (B2.out.size)
  have BB3 := Lib.hid (BB2.out.trans (B2.out.mono BB2.out.size))
  have Os1_3 := Lib.hid (own_below Os1_2.out B2.out)
  obtain ⟨ka0, kb0, kc0, kd0⟩ := KB0.out w3 BB3.out
  go_wp2_with fail
  clear ka0 kb0 kc0 kd0
  refine (toIntS_any A1 n1 c1 xs1 w3 (by omega) (HR1.out.below BB3.out)).mono ?_
  rintro e w4 ⟨Ax1, cx1, rfl, hown, hb⟩
  have Ox1_4 := Lib.hid hown; clear hown
  have Lx1 := Lib.hid (own_lt Ox1_4.out)
  have B3 := Lib.hid hb; clear hb
  have Z3 := Lib.hid (B3.out.size)
  have BB4 := Lib.hid (BB3.out.trans (B3.out.mono BB3.out.size))
  obtain ⟨ka0, kb0, kc0, kd0⟩ := KB0.out w4 BB4.out
  go_wp2_with fail
  clear ka0 kb0 kc0 kd0
  refine (toGear_any a0 b0 c0 d0 w4).mono ?_
  rintro e w5 ⟨rfl, hb⟩
  have B4 := Lib.hid hb; clear hb
  have Z4 := Lib.hid (B4.out.size)
  have BB5 := Lib.hid (BB4.out.trans (B4.out.mono BB4.out.size))
  have Ox1_5 := Lib.hid (own_below Ox1_4.out B4.out)
  obtain ⟨ka0, kb0, kc0, kd0⟩ := KB0.out w5 BB5.out
  go_wp2_with fail
  clear ka0 kb0 kc0 kd0
  refine (implWearOn_any a0 b0 c0 d0 Ax1 n1 cx1 xs1 a2 w5 (by omega) (Reads.of_own Ox1_5.out)).mono ?_
  rintro e w6 ⟨rfl, hb⟩
  have B5 := Lib.hid hb; clear hb
  have Z5 := Lib.hid (B5.out.size)
  have BB6 := Lib.hid (BB5.out.trans (B5.out.mono BB5.out.size))
  have Ox1_6 := Lib.hid (own_below Ox1_5.out B5.out)
  obtain ⟨ka0, kb0, kc0, kd0⟩ := KB0.out w6 BB6.out
  go_wp2_with fail
  clear ka0 kb0 kc0 kd0
  refine (toIntS_any A1 n1 c1 xs1 w6 (by omega) (HR1.out.below BB6.out)).mono ?_
  rintro e w7 ⟨At1, ct1, rfl, hown, hb⟩
  have Ot1_7 := Lib.hid hown; clear hown
  have Lt1 := Lib.hid (own_lt Ot1_7.out)
  have B6 := Lib.hid hb; clear hb
  have Z6 := Lib.hid (B6.out.size)
  have BB7 := Lib.hid (BB6.out.trans (B6.out.mono BB6.out.size))
  have Ox1_7 := Lib.hid (own_below Ox1_6.out B6.out)
  obtain ⟨ka0, kb0, kc0, kd0⟩ := KB0.out w7 BB7.out
  go_wp2_with fail
  clear ka0 kb0 kc0 kd0
  refine (eqIntS_any Ax1 At1 n1 cx1 ct1 xs1 w7 (by omega) (Reads.of_own Ox1_7.out) (Reads.of_own Ot1_7.out)).mono ?_
  rintro e w8 ⟨rfl, hb⟩
  replace hb := below_of_quiet (B := w7.heap.size) hb
  have B7 := Lib.hid hb; clear hb
  have Z7 := Lib.hid (B7.out.size)
  have BB8 := Lib.hid (BB7.out.trans (B7.out.mono BB7.out.size))
  have Ox1_8 := Lib.hid (own_below Ox1_7.out B7.out)
  have Ot1_8 := Lib.hid (own_below Ot1_7.out B7.out)
  go_wp2_with fail
  go_ret
  exact ⟨rfl, BW0.out.1.trans (BB8.out.mono BW0.out.2)⟩

end Go.Proofs.Ytjibdabedagghaa
