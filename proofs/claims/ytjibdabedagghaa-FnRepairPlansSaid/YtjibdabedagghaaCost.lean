/- Contracts of gearsPlanned and of PlanCost of both packages, and the law over them. No conditions. -/
import Derived.Test.YtjibdabedagghaaPlan
import Derived.Test.YtjibdabedagghaaFirst
import Derived.Test.YtjibdabedagghaaMark
namespace Go.Proofs.Ytjibdabedagghaa
set_option linter.unusedSimpArgs false
set_option linter.unusedVariables false
open Go.RowKit

theorem gearsPlanned1_any (B : Option Addr) (m cb : Nat) (x : List Int) (g : Nat) (A : Option Addr) (n c : Nat) (w : World) (hn : n ≤ 1000000000) (hm : m ≤ 9223372036854775807) (hg : w.cell? ⟨g, 0, none⟩ = some (.slice A n c)) (h : Reads w 1 B m (ints x)) :
    Calls Try.prog 102 #[.slice B m cb, .pointer (some ⟨g, 0, none⟩)] w fun e w' => e = .returned (.bool (!allB 0 ((n : Int) - 1) x)) ∧ w = w' := by
  have C1 := Lib.hid (allWithin_any B m cb x 0 ((n : Int) - 1) w hm h)
  clear h
  generalize allB 0 ((n : Int) - 1) x = b at *
  go_enter Try.func102, Try.ntmps102
  go_wp2_with (go_at_call 71; refine (C1.out).mono ?_; rintro e w' ⟨rfl, rfl⟩)
  go_ret
  exact ⟨rfl, rfl⟩
theorem gearsPlanned1_enters : ∀ a W, Sem.run Try.prog (callFunc 102 a) W = .ok (.enter 102 a) W := fun _ _ => by kernel_rfl
def allP (hi : Int) (P : PL) : Bool := !P.any fun l => !allB 0 hi l
theorem allP_true {hi : Int} {P : PL} : allP hi P = true ↔ ∀ l ∈ P, allB 0 hi l = true := by simp [allP]
theorem gearsPlanned_any (A : Option Addr) (n c : Nat) (B : Option Addr) (m cb : Nat) (P : PL) (w : World) (hn : n ≤ 1000000000) (hm : m ≤ 1000000000) (hl : ∀ l ∈ P, l.length ≤ 1000000000) (h : Reads2 w 1 B m (rowsIntss P)) :
    Calls Try.prog 81 #[.slice A n c, .slice B m cb] w fun e w' => e = .returned (.bool (allP ((n : Int) - 1) P)) ∧ Below w.heap.size w w' := by
  have C1 := Lib.hid (containsFuncP_any B m cb P 102 #[.pointer (some ⟨w.heap.size, 0, none⟩)] (fun l => !allB 0 ((n : Int) - 1) l) (w.alloc (.cells #[.slice A n c] 32)) hm (h.alloc _) gearsPlanned1_enters (fun x hx Ai ci W hW hr =>
    (gearsPlanned1_any Ai x.length ci x w.heap.size A n c W hn (by have := hl x hx; omega) ((hW.cell (p := ⟨w.heap.size, 0, none⟩) (by simp)).trans (cell_of_row _ w.heap.size 0 #[.slice A n c] 32 (0, 0) (heap_alloc_new w _))) hr).mono (fun e w' ⟨h1, h2⟩ => ⟨h1, by subst h2; exact Below.refl _ _⟩)))
  unfold allP
  generalize (P.any fun l => !allB 0 ((n : Int) - 1) l) = b at *
  clear h hl
  go_enter Try.func81, Try.ntmps81
  go_wp2_with (go_at_call 98; refine (C1.out).mono ?_; rintro e w1 ⟨rfl, hb⟩)
  go_ret
  exact ⟨rfl, ((Below.refl _ _).alloc (Nat.le_refl _) _).trans (hb.mono (by simp))⟩
theorem allB_mono {hi hi' : Int} (hh : hi ≤ hi') {l : List Int} (h : allB 0 hi l = true) : allB 0 hi' l = true := by
  rw [allB_true] at h ⊢
  intro x hx
  have := h x hx
  omega
theorem planB_split {hi : Int} (hh : hi ≤ 7) (P : PL) : planB hi P = (planB 7 P && allP hi P) := by
  rw [Bool.eq_iff_iff]
  simp only [planB, Bool.and_eq_true, allR_true, allP_true, riseB_eq, decide_eq_true_eq]
  constructor
  · rintro ⟨h1, h2⟩
    exact ⟨⟨fun l hl => ⟨allB_mono hh (h1 l hl).1, (h1 l hl).2⟩, h2⟩, fun l hl => (h1 l hl).1⟩
  · rintro ⟨⟨h1, h2⟩, h3⟩
    exact ⟨fun l hl => ⟨h3 l hl, (h1 l hl).2⟩, h2⟩
def costAt (l : List G4) (i : Int) : Int := match l[i.toNat]? with | some g => g.2.2.2 | none => 0
def dayC (l : List G4) : List Int → Int
  | [] => 0
  | x :: r => costAt l x + dayC l r
def planC (l : List G4) (trip : Int) : PL → Int
  | [] => 0
  | d :: r => (if d = [] then 0 else trip) + dayC l d + planC l trip r
def costR (l : List G4) (P : PL) (trip : Int) : Int × Bool := if (goodGears l && (planB ((l.length : Int) - 1) P && inB trip 0 1000)) = true then (planC l trip P, true) else (0, false)

set_option maxHeartbeats 2000000 in
theorem specPlanCost_any (A : Option Addr) (n c : Nat) (l : List G4) (B : Option Addr) (m cb : Nat) (P : PL) (trip : Int) (w : World) (hn : n ≤ 1000000000) (h : Reads w 4 A n (rows4 l)) (hm : m ≤ 1000000000) (hl : ∀ d ∈ P, d.length ≤ 1000000000) (h' : Reads2 w 1 B m (rowsIntss P)) :
    Calls Try.prog 43 #[.slice A n c, .slice B m cb, .int .i64 trip] w fun e w' => e = .returned (.tuple #[.int .i64 (costR l P trip).1, .bool (costR l P trip).2]) ∧ Below w.heap.size w w' := by
  have HX := Lib.hid (show l.length = n by have := h.1; rw [length_rows4] at this; omega)
  have HY := Lib.hid (show P.length = m by have := h'.len; simpa using this)
  have CG := Lib.hid (fun W (hW : Below w.heap.size w W) => rrGood_any A n c l W hn (h.below hW))
  have CP := Lib.hid (fun W (hW : Below w.heap.size w W) => rrPlan_any B m cb P n W hm hl ⟨by omega, by omega⟩ (h'.below hW))
  cases h1 : goodGears l with
  | false =>
    have hr : costR l P trip = (0, false) := by simp [costR, HX.out, h1]
    rw [hr]
    simp only [h1] at CG
    clear hr h h' hl
    go_enter Try.func43, Try.ntmps43
    go_wp2_with (first | (go_at_call 63; refine (CG.out _ (Below.refl _ _)).mono ?_; rintro e w1 ⟨rfl, hb⟩; have HB := Lib.hid hb; clear hb) | (go_at_call 76; refine (CP.out _ HB.out).mono ?_; rintro e w2 ⟨rfl, rfl⟩) | (go_at_call 68; refine (l1In_any _ _ _ _).mono ?_; rintro e w' ⟨rfl, rfl⟩))
    go_ret2
    exact ⟨rfl, HB.out⟩
  | true =>
    cases h2 : planB ((n : Int) - 1) P with
    | false =>
      have hr : costR l P trip = (0, false) := by simp [costR, HX.out, h1, h2]
      rw [hr]
      simp only [h1] at CG
      simp only [h2] at CP
      clear hr h h' hl
      go_enter Try.func43, Try.ntmps43
      go_wp2_with (first | (go_at_call 63; refine (CG.out _ (Below.refl _ _)).mono ?_; rintro e w1 ⟨rfl, hb⟩; have HB := Lib.hid hb; clear hb) | (go_at_call 76; refine (CP.out _ HB.out).mono ?_; rintro e w2 ⟨rfl, rfl⟩) | (go_at_call 68; refine (l1In_any _ _ _ _).mono ?_; rintro e w' ⟨rfl, rfl⟩))
      go_ret2
      exact ⟨rfl, HB.out⟩
    | true =>
      cases h3 : inB trip 0 1000 with
      | false =>
        have hr : costR l P trip = (0, false) := by simp [costR, HX.out, h1, h2, h3]
        rw [hr]
        simp only [h1] at CG
        simp only [h2] at CP
        clear hr h h' hl
        go_enter Try.func43, Try.ntmps43
        go_wp2_with (first | (go_at_call 63; refine (CG.out _ (Below.refl _ _)).mono ?_; rintro e w1 ⟨rfl, hb⟩; have HB := Lib.hid hb; clear hb) | (go_at_call 76; refine (CP.out _ HB.out).mono ?_; rintro e w2 ⟨rfl, rfl⟩) | (go_at_call 68; refine (l1In_any _ _ _ _).mono ?_; rintro e w' ⟨rfl, rfl⟩))
        go_ret2
        exact ⟨rfl, HB.out⟩
      | true =>
        have h8 := goodGears_true.1 h1
        rw [HX.out] at h8
        
        have hsp := h2
        have hr : costR l P trip = (planC l trip P, true) := by simp [costR, HX.out, h1, hsp, h3]
        rw [hr]
        have HRES := Lib.hid (inB_true.1 h3)
        have hP30 : m ≤ 30 := by simp [planB] at hsp; have := HY.out; omega
        have hin : ∀ d ∈ P, ∀ x ∈ d, 0 ≤ x ∧ x ≤ (n : Int) - 1 := by
          simp only [planB, Bool.and_eq_true] at hsp
          intro d hd
          have := allR_true.1 hsp.1 d hd
          rw [riseB_eq, Bool.and_eq_true] at this
          exact allB_true.1 this.1
        have hcb : ∀ g ∈ l, 0 ≤ g.2.2.2 ∧ g.2.2.2 ≤ 1000 := fun g hg => (gearB_true.1 (h8.1 g hg)).2.2.2
        have HINN := Lib.hid hin
        have HCB := Lib.hid hcb
        have hn8 := h8.2
        simp only [h1] at CG
        simp only [h2] at CP
        have H0 := Lib.hid h
        have H0' := Lib.hid h'
        have HL := Lib.hid hl
        have ht1 := HRES.out.1
        have ht2 := HRES.out.2
        clear hr h h' hl h8 hsp hin hcb
        go_enter Try.func43, Try.ntmps43
        go_wp2_with (first | (go_at_call 63; refine (CG.out _ (Below.refl _ _)).mono ?_; rintro e w1 ⟨rfl, hb⟩; have HB := Lib.hid hb; clear hb) | (go_at_call 76; refine (CP.out _ HB.out).mono ?_; rintro e w2 ⟨rfl, rfl⟩) | (go_at_call 68; refine (l1In_any _ _ _ _).mono ?_; rintro e w' ⟨rfl, rfl⟩))
        have HG := Lib.hid (H0.out.below HB.out)
        have HPP := Lib.hid (H0'.out.below HB.out)
        go_loop [8, 30] (fun s i => ∃ k : Nat, ∃ q : Int, k ≤ m ∧ i = .int .i64 k ∧ s = .int .i64 q ∧ 0 ≤ q ∧ q ≤ 2000000000000 * (k : Int) ∧ q + planC l trip (P.drop k) = planC l trip P) (fun _ i => m - (intOf i).toNat)
        case atStart => exact ⟨0, 0, Nat.zero_le _, rfl, rfl, by omega, by omega, by simp⟩
        case round =>
          obtain ⟨k, q, hk, rfl, rfl, hq1, hq2, hrel⟩ := hrel
          have HR := Lib.hid hrel; clear hrel
          have hq2' : q ≤ 100000000000000 := by omega
          by_cases hlt : k < m
          · have hx : k < P.length := by rw [HY.out]; exact hlt
            obtain ⟨ad, Ai, ci, rfl, kc, _, _, hr⟩ := HPP.out.row (rowsIntss_get hx)
            have HRR := Lib.hid hr; clear hr
            have HXL := Lib.hid (HL.out P[k] (List.getElem_mem hx))
            have HIN := Lib.hid (HINN.out P[k] (List.getElem_mem hx))
            have HD := Lib.hid (drop_cons hx)
            generalize P[k] = d at *
            simp only [length_ints] at kc HRR
            have hdl : d.length ≤ 1000000000 := HXL.out
            by_cases hd0 : d.length = 0
            · have hd : d = [] := List.eq_nil_of_length_eq_zero hd0
              have HN : Hid (q + dayC l d + planC l trip (P.drop (k + 1)) = planC l trip P) := Lib.hid (by have h1 := HR.out; rw [HD.out] at h1; simp only [planC, if_pos hd] at h1; omega)
              have hd0' : ¬ 0 < d.length := by omega
              clear hd0 hd
              go_wp2
              go_loop [8, 42] (fun s i => ∃ j : Nat, ∃ q : Int, j ≤ d.length ∧ i = .int .i64 j ∧ s = .int .i64 q ∧ 0 ≤ q ∧ q ≤ 2000000000000 * (k : Int) + 1000 + 1000 * (j : Int) ∧ q + dayC l (d.drop j) + planC l trip (P.drop (k + 1)) = planC l trip P) (fun _ i => d.length - (intOf i).toNat)
              case atStart => exact ⟨0, _, Nat.zero_le _, rfl, rfl, by omega, by omega, by have := HN.out; simp only [List.drop_zero]; omega⟩
              case round =>
                obtain ⟨j, q2, hj, rfl, rfl, hq3, hq4, hrel⟩ := hrel
                have HR2 := Lib.hid hrel; clear hrel
                have hb2 : q2 ≤ 100000000000000 := by have := HXL.out; omega
                by_cases hjt : j < d.length
                · exfalso; omega
                · have HDE := Lib.hid (drop_end (xs := d) (k := j) (by omega))
                  go_wp2
                  go_round
                  case rel => exact ⟨k + 1, _, by omega, by go_num, rfl, by omega, by have := HXL.out; omega, by have h1 := HR2.out; rw [HDE.out] at h1; simp only [dayC] at h1; omega⟩
                  case measure => simp [intOf]; omega
            · have hd : d ≠ [] := by rintro rfl; exact hd0 rfl
              have HN : Hid (q + trip + dayC l d + planC l trip (P.drop (k + 1)) = planC l trip P) := Lib.hid (by have h1 := HR.out; rw [HD.out] at h1; simp only [planC, if_neg hd] at h1; omega)
              have hd0' : 0 < d.length := by omega
              clear hd0 hd
              go_wp2
              go_loop [8, 42] (fun s i => ∃ j : Nat, ∃ q : Int, j ≤ d.length ∧ i = .int .i64 j ∧ s = .int .i64 q ∧ 0 ≤ q ∧ q ≤ 2000000000000 * (k : Int) + 1000 + 1000 * (j : Int) ∧ q + dayC l (d.drop j) + planC l trip (P.drop (k + 1)) = planC l trip P) (fun _ i => d.length - (intOf i).toNat)
              case atStart => exact ⟨0, _, Nat.zero_le _, rfl, rfl, by omega, by omega, by have := HN.out; simp only [List.drop_zero]; omega⟩
              case round =>
                obtain ⟨j, q2, hj, rfl, rfl, hq3, hq4, hrel⟩ := hrel
                have HR2 := Lib.hid hrel; clear hrel
                have hb2 : q2 ≤ 100000000000000 := by have := HXL.out; omega
                by_cases hjt : j < d.length
                · have HDJ := Lib.hid (drop_cons hjt)
                  have hxin := HIN.out d[j] (List.getElem_mem hjt)
                  obtain ⟨ad2, e2, hc2⟩ := HRR.out.2 (by omega)
                  subst e2
                  have hcell := hc2 j _ (show (ints d)[j]? = some (.int .i64 d[j]) by simp [ints, hjt])
                  clear hc2
                  generalize d[j] = x at *
                  obtain ⟨y, rfl⟩ : ∃ y : Nat, x = (y : Int) := ⟨x.toNat, by omega⟩
                  have hyn : y < n := by omega
                  obtain ⟨ag, eg, k0, k1, k2, k3⟩ := rows4_at HG.out hyn HX.out
                  subst eg
                  have hyl : y < l.length := by rw [HX.out]; exact hyn
                  have HC : Hid (costAt l (y : Int) = l[y].2.2.2) := Lib.hid (by simp [costAt, hyl])
                  have hcb := HCB.out l[y] (List.getElem_mem hyl)
                  generalize l[y] = gx at *
                  obtain ⟨ga, gb, gc, gd⟩ := gx
                  simp only at k0 k1 k2 k3 hcb HC
                  go_wp2
                  go_round
                  case rel => exact ⟨j + 1, _, by omega, by go_num, rfl, by omega, by omega, by have h1 := HR2.out; rw [HDJ.out] at h1; simp only [dayC, HC.out] at h1; omega⟩
                  case measure => simp [intOf]; omega
                · have HDE := Lib.hid (drop_end (xs := d) (k := j) (by omega))
                  go_wp2
                  go_round
                  case rel => exact ⟨k + 1, _, by omega, by go_num, rfl, by omega, by have := HXL.out; omega, by have h1 := HR2.out; rw [HDE.out] at h1; simp only [dayC] at h1; omega⟩
                  case measure => simp [intOf]; omega
          · have HE := Lib.hid (drop_end (xs := P) (k := k) (by rw [HY.out]; omega))
            go_wp2
            go_ret2
            exact ⟨by rw [← HR.out, HE.out]; simp [planC], HB.out⟩

set_option maxHeartbeats 2000000 in
theorem implPlanCost_any (A : Option Addr) (n c : Nat) (l : List G4) (B : Option Addr) (m cb : Nat) (P : PL) (trip : Int) (w : World) (hn : n ≤ 1000000000) (h : Reads w 4 A n (rows4 l)) (hm : m ≤ 1000000000) (hl : ∀ d ∈ P, d.length ≤ 1000000000) (h' : Reads2 w 1 B m (rowsIntss P)) :
    Calls Try.prog 44 #[.slice A n c, .slice B m cb, .int .i64 trip] w fun e w' => e = .returned (.tuple #[.int .i64 (costR l P trip).1, .bool (costR l P trip).2]) ∧ Below w.heap.size w w' := by
  have HX := Lib.hid (show l.length = n by have := h.1; rw [length_rows4] at this; omega)
  have HY := Lib.hid (show P.length = m by have := h'.len; simpa using this)
  have CG := Lib.hid (fun W (hW : Below w.heap.size w W) => areGears_any A n c l W hn (h.below hW))
  have CP := Lib.hid (fun W (hW : Below w.heap.size w W) => isPlan_any B m cb P W hm hl (h'.below hW))
  have CA := Lib.hid (fun W (hW : Below w.heap.size w W) => gearsPlanned_any A n c B m cb P W hn hm hl (h'.below hW))
  cases h1 : goodGears l with
  | false =>
    have hr : costR l P trip = (0, false) := by simp [costR, HX.out, h1]
    rw [hr]
    simp only [h1] at CG
    clear hr h h' hl
    go_enter Try.func44, Try.ntmps44
    go_wp2_with (first | (go_at_call 21; refine (CG.out _ (Below.refl _ _)).mono ?_; rintro e w1 ⟨rfl, hb⟩; have HB := Lib.hid hb; clear hb) | (go_at_call 77; refine (CP.out _ HB.out).mono ?_; rintro e w2 ⟨rfl, hb⟩; have HB := Lib.hid (below_then HB.out hb); clear hb) | (go_at_call 73; refine (within_any _ _ _ _).mono ?_; rintro e w' ⟨rfl, rfl⟩) | (go_at_call 81; refine (CA.out _ HB.out).mono ?_; rintro e w3 ⟨rfl, hb⟩; have HB := Lib.hid (below_then HB.out hb); clear hb))
    go_ret2
    exact ⟨rfl, HB.out⟩
  | true =>
    cases h2 : planB 7 P with
    | false =>
      have hr : costR l P trip = (0, false) := by have h8 := goodGears_true.1 h1; rw [HX.out] at h8; have hsp := planB_split (hi := (n : Int) - 1) (by omega) P; rw [h2] at hsp; simp [costR, HX.out, h1, hsp]
      rw [hr]
      simp only [h1] at CG
      simp only [h2] at CP
      clear hr h h' hl
      go_enter Try.func44, Try.ntmps44
      go_wp2_with (first | (go_at_call 21; refine (CG.out _ (Below.refl _ _)).mono ?_; rintro e w1 ⟨rfl, hb⟩; have HB := Lib.hid hb; clear hb) | (go_at_call 77; refine (CP.out _ HB.out).mono ?_; rintro e w2 ⟨rfl, hb⟩; have HB := Lib.hid (below_then HB.out hb); clear hb) | (go_at_call 73; refine (within_any _ _ _ _).mono ?_; rintro e w' ⟨rfl, rfl⟩) | (go_at_call 81; refine (CA.out _ HB.out).mono ?_; rintro e w3 ⟨rfl, hb⟩; have HB := Lib.hid (below_then HB.out hb); clear hb))
      go_ret2
      exact ⟨rfl, HB.out⟩
    | true =>
      cases h3 : inB trip 0 1000 with
      | false =>
        have hr : costR l P trip = (0, false) := by simp [costR, h3]
        rw [hr]
        simp only [h1] at CG
        simp only [h2] at CP
        clear hr h h' hl
        go_enter Try.func44, Try.ntmps44
        go_wp2_with (first | (go_at_call 21; refine (CG.out _ (Below.refl _ _)).mono ?_; rintro e w1 ⟨rfl, hb⟩; have HB := Lib.hid hb; clear hb) | (go_at_call 77; refine (CP.out _ HB.out).mono ?_; rintro e w2 ⟨rfl, hb⟩; have HB := Lib.hid (below_then HB.out hb); clear hb) | (go_at_call 73; refine (within_any _ _ _ _).mono ?_; rintro e w' ⟨rfl, rfl⟩) | (go_at_call 81; refine (CA.out _ HB.out).mono ?_; rintro e w3 ⟨rfl, hb⟩; have HB := Lib.hid (below_then HB.out hb); clear hb))
        go_ret2
        exact ⟨rfl, HB.out⟩
      | true =>
        cases h4 : allP ((n : Int) - 1) P with
        | false =>
          have hr : costR l P trip = (0, false) := by have h8 := goodGears_true.1 h1; rw [HX.out] at h8; have hsp := planB_split (hi := (n : Int) - 1) (by omega) P; rw [h2, h4] at hsp; simp [costR, HX.out, h1, hsp]
          rw [hr]
          simp only [h1] at CG
          simp only [h2] at CP
          simp only [h4] at CA
          clear hr h h' hl
          go_enter Try.func44, Try.ntmps44
          go_wp2_with (first | (go_at_call 21; refine (CG.out _ (Below.refl _ _)).mono ?_; rintro e w1 ⟨rfl, hb⟩; have HB := Lib.hid hb; clear hb) | (go_at_call 77; refine (CP.out _ HB.out).mono ?_; rintro e w2 ⟨rfl, hb⟩; have HB := Lib.hid (below_then HB.out hb); clear hb) | (go_at_call 73; refine (within_any _ _ _ _).mono ?_; rintro e w' ⟨rfl, rfl⟩) | (go_at_call 81; refine (CA.out _ HB.out).mono ?_; rintro e w3 ⟨rfl, hb⟩; have HB := Lib.hid (below_then HB.out hb); clear hb))
          go_ret2
          exact ⟨rfl, HB.out⟩
        | true =>
          have h8 := goodGears_true.1 h1
          rw [HX.out] at h8
          have hsp := planB_split (hi := (n : Int) - 1) (by omega) P
          rw [h2, h4, Bool.and_self] at hsp
          have hr : costR l P trip = (planC l trip P, true) := by simp [costR, HX.out, h1, hsp, h3]
          rw [hr]
          have HRES := Lib.hid (inB_true.1 h3)
          have hP30 : m ≤ 30 := by simp [planB] at hsp; have := HY.out; omega
          have hin : ∀ d ∈ P, ∀ x ∈ d, 0 ≤ x ∧ x ≤ (n : Int) - 1 := by
            simp only [planB, Bool.and_eq_true] at hsp
            intro d hd
            have := allR_true.1 hsp.1 d hd
            rw [riseB_eq, Bool.and_eq_true] at this
            exact allB_true.1 this.1
          have hcb : ∀ g ∈ l, 0 ≤ g.2.2.2 ∧ g.2.2.2 ≤ 1000 := fun g hg => (gearB_true.1 (h8.1 g hg)).2.2.2
          have HINN := Lib.hid hin
          have HCB := Lib.hid hcb
          have hn8 := h8.2
          simp only [h1] at CG
          simp only [h2] at CP
          simp only [h4] at CA
          have H0 := Lib.hid h
          have H0' := Lib.hid h'
          have HL := Lib.hid hl
          have ht1 := HRES.out.1
          have ht2 := HRES.out.2
          clear hr h h' hl h8 hsp hin hcb
          go_enter Try.func44, Try.ntmps44
          go_wp2_with (first | (go_at_call 21; refine (CG.out _ (Below.refl _ _)).mono ?_; rintro e w1 ⟨rfl, hb⟩; have HB := Lib.hid hb; clear hb) | (go_at_call 77; refine (CP.out _ HB.out).mono ?_; rintro e w2 ⟨rfl, hb⟩; have HB := Lib.hid (below_then HB.out hb); clear hb) | (go_at_call 73; refine (within_any _ _ _ _).mono ?_; rintro e w' ⟨rfl, rfl⟩) | (go_at_call 81; refine (CA.out _ HB.out).mono ?_; rintro e w3 ⟨rfl, hb⟩; have HB := Lib.hid (below_then HB.out hb); clear hb))
          have HG := Lib.hid (H0.out.below HB.out)
          have HPP := Lib.hid (H0'.out.below HB.out)
          go_loop [8, 34] (fun s i => ∃ k : Nat, ∃ q : Int, k ≤ m ∧ i = .int .i64 k ∧ s = .int .i64 q ∧ 0 ≤ q ∧ q ≤ 2000000000000 * (k : Int) ∧ q + planC l trip (P.drop k) = planC l trip P) (fun _ i => m - (intOf i).toNat)
          case atStart => exact ⟨0, 0, Nat.zero_le _, rfl, rfl, by omega, by omega, by simp⟩
          case round =>
            obtain ⟨k, q, hk, rfl, rfl, hq1, hq2, hrel⟩ := hrel
            have HR := Lib.hid hrel; clear hrel
            have hq2' : q ≤ 100000000000000 := by omega
            by_cases hlt : k < m
            · have hx : k < P.length := by rw [HY.out]; exact hlt
              obtain ⟨ad, Ai, ci, rfl, kc, _, _, hr⟩ := HPP.out.row (rowsIntss_get hx)
              have HRR := Lib.hid hr; clear hr
              have HXL := Lib.hid (HL.out P[k] (List.getElem_mem hx))
              have HIN := Lib.hid (HINN.out P[k] (List.getElem_mem hx))
              have HD := Lib.hid (drop_cons hx)
              generalize P[k] = d at *
              simp only [length_ints] at kc HRR
              have hdl : d.length ≤ 1000000000 := HXL.out
              by_cases hd0 : d.length = 0
              · have hd : d = [] := List.eq_nil_of_length_eq_zero hd0
                have HN : Hid (q + dayC l d + planC l trip (P.drop (k + 1)) = planC l trip P) := Lib.hid (by have h1 := HR.out; rw [HD.out] at h1; simp only [planC, if_pos hd] at h1; omega)
                have hd0' : ¬ 0 < d.length := by omega
                clear hd0 hd
                go_wp2
                go_loop [8, 46] (fun s i => ∃ j : Nat, ∃ q : Int, j ≤ d.length ∧ i = .int .i64 j ∧ s = .int .i64 q ∧ 0 ≤ q ∧ q ≤ 2000000000000 * (k : Int) + 1000 + 1000 * (j : Int) ∧ q + dayC l (d.drop j) + planC l trip (P.drop (k + 1)) = planC l trip P) (fun _ i => d.length - (intOf i).toNat)
                case atStart => exact ⟨0, _, Nat.zero_le _, rfl, rfl, by omega, by omega, by have := HN.out; simp only [List.drop_zero]; omega⟩
                case round =>
                  obtain ⟨j, q2, hj, rfl, rfl, hq3, hq4, hrel⟩ := hrel
                  have HR2 := Lib.hid hrel; clear hrel
                  have hb2 : q2 ≤ 100000000000000 := by have := HXL.out; omega
                  by_cases hjt : j < d.length
                  · exfalso; omega
                  · have HDE := Lib.hid (drop_end (xs := d) (k := j) (by omega))
                    go_wp2
                    go_round
                    case rel => exact ⟨k + 1, _, by omega, by go_num, rfl, by omega, by have := HXL.out; omega, by have h1 := HR2.out; rw [HDE.out] at h1; simp only [dayC] at h1; omega⟩
                    case measure => simp [intOf]; omega
              · have hd : d ≠ [] := by rintro rfl; exact hd0 rfl
                have HN : Hid (q + trip + dayC l d + planC l trip (P.drop (k + 1)) = planC l trip P) := Lib.hid (by have h1 := HR.out; rw [HD.out] at h1; simp only [planC, if_neg hd] at h1; omega)
                have hd0' : 0 < d.length := by omega
                clear hd0 hd
                go_wp2
                go_loop [8, 46] (fun s i => ∃ j : Nat, ∃ q : Int, j ≤ d.length ∧ i = .int .i64 j ∧ s = .int .i64 q ∧ 0 ≤ q ∧ q ≤ 2000000000000 * (k : Int) + 1000 + 1000 * (j : Int) ∧ q + dayC l (d.drop j) + planC l trip (P.drop (k + 1)) = planC l trip P) (fun _ i => d.length - (intOf i).toNat)
                case atStart => exact ⟨0, _, Nat.zero_le _, rfl, rfl, by omega, by omega, by have := HN.out; simp only [List.drop_zero]; omega⟩
                case round =>
                  obtain ⟨j, q2, hj, rfl, rfl, hq3, hq4, hrel⟩ := hrel
                  have HR2 := Lib.hid hrel; clear hrel
                  have hb2 : q2 ≤ 100000000000000 := by have := HXL.out; omega
                  by_cases hjt : j < d.length
                  · have HDJ := Lib.hid (drop_cons hjt)
                    have hxin := HIN.out d[j] (List.getElem_mem hjt)
                    obtain ⟨ad2, e2, hc2⟩ := HRR.out.2 (by omega)
                    subst e2
                    have hcell := hc2 j _ (show (ints d)[j]? = some (.int .i64 d[j]) by simp [ints, hjt])
                    clear hc2
                    generalize d[j] = x at *
                    obtain ⟨y, rfl⟩ : ∃ y : Nat, x = (y : Int) := ⟨x.toNat, by omega⟩
                    have hyn : y < n := by omega
                    obtain ⟨ag, eg, k0, k1, k2, k3⟩ := rows4_at HG.out hyn HX.out
                    subst eg
                    have hyl : y < l.length := by rw [HX.out]; exact hyn
                    have HC : Hid (costAt l (y : Int) = l[y].2.2.2) := Lib.hid (by simp [costAt, hyl])
                    have hcb := HCB.out l[y] (List.getElem_mem hyl)
                    generalize l[y] = gx at *
                    obtain ⟨ga, gb, gc, gd⟩ := gx
                    simp only at k0 k1 k2 k3 hcb HC
                    go_wp2
                    go_round
                    case rel => exact ⟨j + 1, _, by omega, by go_num, rfl, by omega, by omega, by have h1 := HR2.out; rw [HDJ.out] at h1; simp only [dayC, HC.out] at h1; omega⟩
                    case measure => simp [intOf]; omega
                  · have HDE := Lib.hid (drop_end (xs := d) (k := j) (by omega))
                    go_wp2
                    go_round
                    case rel => exact ⟨k + 1, _, by omega, by go_num, rfl, by omega, by have := HXL.out; omega, by have h1 := HR2.out; rw [HDE.out] at h1; simp only [dayC] at h1; omega⟩
                    case measure => simp [intOf]; omega
            · have HE := Lib.hid (drop_end (xs := P) (k := k) (by rw [HY.out]; omega))
              go_wp2
              go_ret2
              exact ⟨by rw [← HR.out, HE.out]; simp [planC], HB.out⟩
set_option maxHeartbeats 4000000 in
set_option maxRecDepth 100000 in
theorem law_FnExactPlanCost (w : World) {v0 v1 v2 : Value} (h0 : IsRows4 w v0) (h1 : IsIntss w v1) (h2 : IsInt v2) :
    Calls Try.prog 10 #[v0, v1, v2] w fun e w' => e = .returned (.bool true) ∧ Below w.heap.size w w' := by
  obtain ⟨A0, n0, c0, xs0, rfl, hnc0, hcm0, _, hr0, _⟩ := h0
  obtain ⟨A1, n1, c1, xs1, rfl, hnc1, hcm1, _, hr1, hin1⟩ := h1
  obtain ⟨a2, rfl, _⟩ := h2
  have HR0 := Lib.hid (hr0); clear hr0
  have HR1 := Lib.hid (hr1); clear hr1
  have HIN1 := Lib.hid hin1; clear hin1
  obtain ⟨s1, hs1⟩ : ∃ s, s = n1 + tot (xs1.map ints) := ⟨_, rfl⟩
  have HS_1 := Lib.hid hs1
  have hs1' : n1 ≤ s1 := by omega
  clear hs1
  by_cases hz0 : n0 ≤ 1048576
  rotate_left
  · go_enter Try.func10, Try.ntmps10
    go_wp2_with fail
    refine (szGearS_bigI A0 n0 c0 _ _ (by omega) (by omega) (by omega) (by omega)).mono ?_
    rintro e w' ⟨rfl, rfl⟩
    go_wp2_with fail
    go_ret
    exact ⟨rfl, (Below.refl _ _)⟩
  by_cases hz1 : n0 + s1 ≤ 1048576
  rotate_left
  · go_enter Try.func10, Try.ntmps10
    go_wp2_with fail
    refine (szGearS_okI A0 n0 c0 _ _ (by omega) (by omega) (by omega) (by omega)).mono ?_
    rintro e w' ⟨rfl, rfl⟩
    go_wp2_with fail
    refine (szIntSS_bigI A1 n1 c1 xs1 _ s1 _ (by omega) (by omega) (by omega) (by omega) HS_1.out (fun x hx => (HIN1.out x hx).1) HR1.out).mono ?_
    rintro e w' ⟨rfl, rfl⟩
    go_wp2_with fail
    go_ret
    exact ⟨rfl, (Below.refl _ _)⟩
  have HLX1 := Lib.hid (bdIntSS (xs := xs1) (n := n1) (s := s1) HS_1.out (by omega))
  obtain ⟨S0, hS0⟩ : ∃ S0, S0 = w := ⟨_, rfl⟩
  have HS0 := Lib.hid hS0
  have BW0 : Hid (Below w.heap.size w S0 ∧ w.heap.size ≤ S0.heap.size) := Lib.hid (by subst hS0; exact ⟨(Below.refl _ _), by simp; try omega⟩)
  rw [← hS0] at HR0
  rw [← hS0] at HR1
  clear hS0
  go_enter Try.func10, Try.ntmps10
  try rw [← HS0.out]
  go_wp2_with fail
  try rw [← HS0.out]
  refine (szGearS_okI A0 n0 c0 _ _ (by omega) (by omega) (by omega) (by omega)).mono ?_
  rintro e w' ⟨rfl, rfl⟩
  try rw [← HS0.out]
  go_wp2_with fail
  try rw [← HS0.out]
  refine (szIntSS_okI A1 n1 c1 xs1 _ s1 _ (by omega) (by omega) (by omega) (by omega) HS_1.out (fun x hx => (HIN1.out x hx).1) HR1.out).mono ?_
  rintro e w' ⟨rfl, rfl⟩
  have BB0 : Hid (Below S0.heap.size S0 S0) := Lib.hid (Below.refl _ _)
  try rw [← HS0.out]
  go_wp2_with fail
  try rw [← HS0.out]
  refine (toGearS_any A0 n0 c0 xs0 S0 (by omega) (HR0.out.below BB0.out)).mono ?_
  rintro e w1 ⟨As0, cs0, rfl, hown, hb⟩
  have Os0_1 := Lib.hid hown; clear hown
  have Ls0 := Lib.hid (own_lt Os0_1.out)
  have B0 := Lib.hid hb; clear hb
  have Z0 := Lib.hid (B0.out.size)
  have BB1 := Lib.hid (BB0.out.trans (B0.out.mono BB0.out.size))
  go_wp2_with fail
  refine (toIntSS_any A1 n1 c1 xs1 w1 (by omega) HLX1.out (HR1.out.below BB1.out)).mono ?_
  rintro e w2 ⟨As1, cs1, hss1, rfl, hown, hb⟩
  have Os1_2 := Lib.hid hown; clear hown
  have B1 := Lib.hid hb; clear hb
  have Z1 := Lib.hid (B1.out.size)
  have BB2 := Lib.hid (BB1.out.trans (B1.out.mono BB1.out.size))
  have Os0_2 := Lib.hid (own_below Os0_1.out B1.out)
  go_wp2_with fail
  refine (specPlanCost_any As0 n0 cs0 xs0 As1 n1 cs1 xs1 a2 w2 (by omega) (Reads.of_own Os0_2.out) (by omega) HLX1.out (Reads2.of_own Os1_2.out)).mono ?_
  rintro e w3 ⟨rfl, hb⟩
  have B2 := Lib.hid hb; clear hb
  have Z2 := Lib.hid (B2.out.size)
  have BB3 := Lib.hid (BB2.out.trans (B2.out.mono BB2.out.size))
  have Os0_3 := Lib.hid (own_below Os0_2.out B2.out)
  have Os1_3 := Lib.hid (Os1_2.out.below B2.out (Nat.le_refl _))
  go_wp2_with fail
  refine (toGearS_any A0 n0 c0 xs0 w3 (by omega) (HR0.out.below BB3.out)).mono ?_
  rintro e w4 ⟨Ax0, cx0, rfl, hown, hb⟩
  have Ox0_4 := Lib.hid hown; clear hown
  have Lx0 := Lib.hid (own_lt Ox0_4.out)
  have B3 := Lib.hid hb; clear hb
  have Z3 := Lib.hid (B3.out.size)
  have BB4 := Lib.hid (BB3.out.trans (B3.out.mono BB3.out.size))
  go_wp2_with fail
  refine (toIntSS_any A1 n1 c1 xs1 w4 (by omega) HLX1.out (HR1.out.below BB4.out)).mono ?_
  rintro e w5 ⟨Ax1, cx1, hsx1, rfl, hown, hb⟩
  have Ox1_5 := Lib.hid hown; clear hown
  have B4 := Lib.hid hb; clear hb
  have Z4 := Lib.hid (B4.out.size)
  have BB5 := Lib.hid (BB4.out.trans (B4.out.mono BB4.out.size))
  have Ox0_5 := Lib.hid (own_below Ox0_4.out B4.out)
  go_wp2_with fail
  refine (implPlanCost_any Ax0 n0 cx0 xs0 Ax1 n1 cx1 xs1 a2 w5 (by omega) (Reads.of_own Ox0_5.out) (by omega) HLX1.out (Reads2.of_own Ox1_5.out)).mono ?_
  rintro e w6 ⟨rfl, hb⟩
  have B5 := Lib.hid hb; clear hb
  have Z5 := Lib.hid (B5.out.size)
  have BB6 := Lib.hid (BB5.out.trans (B5.out.mono BB5.out.size))
  have Ox0_6 := Lib.hid (own_below Ox0_5.out B5.out)
  have Ox1_6 := Lib.hid (Ox1_5.out.below B5.out (Nat.le_refl _))
  go_wp2_with fail
  refine (toGearS_any A0 n0 c0 xs0 w6 (by omega) (HR0.out.below BB6.out)).mono ?_
  rintro e w7 ⟨At0, ct0, rfl, hown, hb⟩
  have Ot0_7 := Lib.hid hown; clear hown
  have Lt0 := Lib.hid (own_lt Ot0_7.out)
  have B6 := Lib.hid hb; clear hb
  have Z6 := Lib.hid (B6.out.size)
  have BB7 := Lib.hid (BB6.out.trans (B6.out.mono BB6.out.size))
  have Ox0_7 := Lib.hid (own_below Ox0_6.out B6.out)
  have Ox1_7 := Lib.hid (Ox1_6.out.below B6.out (by have := Z5.out; omega))
  go_wp2_with fail
  refine (eqGearS_any Ax0 At0 n0 cx0 ct0 xs0 w7 (by omega)  (Reads.of_own Ox0_7.out) (Reads.of_own Ot0_7.out)).mono ?_
  rintro e w8 ⟨rfl, hb⟩
  have B7 := Lib.hid hb; clear hb
  have Z7 := Lib.hid (B7.out.size)
  have BB8 := Lib.hid (BB7.out.trans (B7.out.mono BB7.out.size))
  have Ox0_8 := Lib.hid (own_below Ox0_7.out B7.out)
  have Ox1_8 := Lib.hid (Ox1_7.out.below B7.out (by have := Z5.out; have := Z6.out; omega))
  have Ot0_8 := Lib.hid (own_below Ot0_7.out B7.out)
  go_wp2_with fail
  refine (toIntSS_any A1 n1 c1 xs1 w8 (by omega) HLX1.out (HR1.out.below BB8.out)).mono ?_
  rintro e w9 ⟨At1, ct1, hst1, rfl, hown, hb⟩
  have Ot1_9 := Lib.hid hown; clear hown
  have B8 := Lib.hid hb; clear hb
  have Z8 := Lib.hid (B8.out.size)
  have BB9 := Lib.hid (BB8.out.trans (B8.out.mono BB8.out.size))
  have Ox0_9 := Lib.hid (own_below Ox0_8.out B8.out)
  have Ox1_9 := Lib.hid (Ox1_8.out.below B8.out (by have := Z5.out; have := Z6.out; have := Z7.out; omega))
  go_wp2_with fail
  refine (eqIntSS_any Ax1 At1 n1 cx1 ct1 xs1 w9 (by omega) HLX1.out (Reads2.of_own Ox1_9.out) (Reads2.of_own Ot1_9.out)).mono ?_
  rintro e w10 ⟨rfl, hb⟩
  have B9 := Lib.hid hb; clear hb
  have Z9 := Lib.hid (B9.out.size)
  have BB10 := Lib.hid (BB9.out.trans (B9.out.mono BB9.out.size))
  have Ox0_10 := Lib.hid (own_below Ox0_9.out B9.out)
  have Ox1_10 := Lib.hid (Ox1_9.out.below B9.out (by have := Z5.out; have := Z6.out; have := Z7.out; have := Z8.out; omega))
  have Ot1_10 := Lib.hid (Ot1_9.out.below B9.out (Nat.le_refl _))
  go_wp2_with fail
  go_ret
  first | exact ⟨rfl, BW0.out.1.trans (BB10.out.mono BW0.out.2)⟩ | exact ⟨rfl, BB10.out⟩

end Go.Proofs.Ytjibdabedagghaa
