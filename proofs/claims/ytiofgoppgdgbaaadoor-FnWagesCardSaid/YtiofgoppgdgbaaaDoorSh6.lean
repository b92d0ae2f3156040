/- Contracts of the hours on duty, of both packages. No conditions. -/
import Derived.Test.YtiofgoppgdgbaaaDoorSh5
namespace Go.Proofs.YtiofgoppgdgbaaaDoor
set_option linter.unusedSimpArgs false
set_option linter.unusedVariables false
open Go.RowKit

def nightsF : Nat → Int → Int
  | 0, _ => 0
  | f + 1, h => (if nightB h then 1 else 0) + nightsF f (h + 1)
theorem nightsF_bd (f : Nat) : ∀ h, 0 ≤ nightsF f h ∧ nightsF f h ≤ f := by
  induction f with
  | zero => intro h; simp [nightsF]
  | succ f ih => intro h; have := ih (h + 1); unfold nightsF; split <;> omega
def duty1 (op : Int) (x : S3) : Int × Int := if x.1 = op then (x.2.2 - x.2.1, nightsF (x.2.2 - x.2.1).toNat x.2.1) else (0, 0)
def duty (op : Int) : List S3 → Int × Int
  | [] => (0, 0)
  | x :: r => ((duty1 op x).1 + (duty op r).1, (duty1 op x).2 + (duty op r).2)
def inWeek (l : List S3) : Prop := ∀ x ∈ l, 0 ≤ x.2.1 ∧ x.2.1 < x.2.2 ∧ x.2.2 ≤ 168
theorem duty1_bd {op : Int} {x : S3} (h : 0 ≤ x.2.1 ∧ x.2.1 < x.2.2 ∧ x.2.2 ≤ 168) : 0 ≤ (duty1 op x).1 ∧ (duty1 op x).1 ≤ 168 ∧ 0 ≤ (duty1 op x).2 ∧ (duty1 op x).2 ≤ 168 := by
  unfold duty1
  have := nightsF_bd (x.2.2 - x.2.1).toNat x.2.1
  split <;> simp <;> omega
theorem duty_bd {op : Int} {l : List S3} (h : inWeek l) : 0 ≤ (duty op l).1 ∧ (duty op l).1 ≤ 168 * l.length ∧ 0 ≤ (duty op l).2 ∧ (duty op l).2 ≤ 168 * l.length := by
  induction l with
  | nil => simp [duty]
  | cons x r ih =>
    have h1 := duty1_bd (op := op) (h x (by simp))
    have h2 := ih (fun y hy => h y (by simp [hy]))
    simp only [duty, List.length_cons]
    omega
theorem inWeek_drop {l : List S3} (h : inWeek l) (k : Nat) : inWeek (l.drop k) := fun x hx => h x (List.mem_of_mem_drop hx)
theorem okAt_of {l : List S3} (h : goodShifts l = true) {k : Nat} (hk : k < l.length) : okAt l k = true := by
  cases ho : okAt l k with
  | true => rfl
  | false => rw [allAt_not ho hk] at h; cases h
theorem good_ok {l : List S3} (h : goodShifts l = true) {k : Nat} (hk : k < l.length) : okS l[k] = true := by
  have := okAt_of h hk
  unfold okAt at this
  rw [List.getElem?_eq_getElem hk] at this
  simp only [Bool.and_eq_true] at this
  exact this.1
theorem good_op {l : List S3} (h : goodShifts l = true) : ∀ x ∈ l, 1 ≤ x.1 ∧ x.1 ≤ 30 := by
  intro x hx
  obtain ⟨k, hk, rfl⟩ := List.getElem_of_mem hx
  have := good_ok h hk
  simp only [okS, Bool.and_eq_true, inB_true] at this
  omega
theorem good_week {l : List S3} (h : goodShifts l = true) : inWeek l := by
  intro x hx
  obtain ⟨k, hk, rfl⟩ := List.getElem_of_mem hx
  have := good_ok h hk
  simp only [okS, Bool.and_eq_true, inB_true] at this
  omega
theorem good_len {l : List S3} (h : goodShifts l = true) : l.length ≤ 60 := by
  simp only [goodShifts, Bool.and_eq_true, decide_eq_true_eq] at h
  exact h.2
def dutyR (l : List S3) (op : Int) : Int × Int × Bool := if goodShifts l = true ∧ inB op 1 30 = true then ((duty op l).1, (duty op l).2, true) else (0, 0, false)

set_option maxHeartbeats 2000000 in
theorem wgHours_any (A : Option Addr) (n c : Nat) (l : List S3) (op : Int) (w : World) (hn : n ≤ 60) (hw : inWeek l) (h : Reads w 3 A n (rows3 l)) :
    Calls Tryd.prog 50 #[.slice A n c, .int .i64 op] w fun e w' => e = .returned (.tuple #[.int .i64 (duty op l).1, .int .i64 (duty op l).2]) ∧ Below w.heap.size w w' := by
  have hlx : l.length = n := by have := h.1; rw [length_rows3] at this; omega
  have hdt := duty_bd (op := op) hw
  rw [hlx] at hdt
  have HDT : Hid ((duty op l).1 ≤ 10080 ∧ (duty op l).2 ≤ 10080) := Lib.hid (by omega)
  have HX := Lib.hid hlx
  have H := Lib.hid h
  have HW := Lib.hid hw
  have HB0 := Lib.hid (Below.refl w.heap.size w)
  clear h hw hlx hdt
  go_enter Tryd.func50, Tryd.ntmps50
  go_wp2
  go_loopw [6, 7, 13] (fun u v i wr => ∃ k : Nat, ∃ a b : Int, k ≤ n ∧ i = .int .i64 k ∧ u = .int .i64 a ∧ v = .int .i64 b ∧ (a + (duty op (l.drop k)).1 = (duty op l).1 ∧ b + (duty op (l.drop k)).2 = (duty op l).2) ∧ Below w.heap.size w wr ∧ 0 ≤ a ∧ 0 ≤ b) (fun _ _ i _ => n - (intOf i).toNat)
  case atStart => exact ⟨0, 0, 0, Nat.zero_le _, rfl, rfl, rfl, by simp, HB0.out, by omega, by omega⟩
  case round =>
    obtain ⟨k, a0, b0, hk, rfl, rfl, rfl, hrel, hb, ha0, hb0⟩ := hrel
    have hdb := duty_bd (op := op) (inWeek_drop HW.out k)
    have hdt := HDT.out
    have ha0' : a0 ≤ 10080 := by omega
    have hb0' : b0 ≤ 10080 := by omega
    have HR := Lib.hid hrel; clear hrel hdb hdt
    have HB := Lib.hid hb; clear hb
    by_cases hlt : k < n
    · have hx : k < l.length := by rw [HX.out]; exact hlt
      obtain ⟨ad, rfl, k0, k1, k2⟩ := rows3_at (H.out.below HB.out) hlt HX.out
      have hwk := HW.out l[k] (List.getElem_mem hx)
      have HD := Lib.hid (drop_cons hx)
      generalize l[k] = x at *
      obtain ⟨xa, xb, xc⟩ := x
      dsimp only at hwk k0 k1 k2
      obtain ⟨hw1, hw2, hw3⟩ := hwk
      by_cases hop : xa = op
      · subst hop
        go_wp2
        go_loop [6, 7, 10] (fun u v x => ∃ h a b : Int, u = .int .i64 a ∧ v = .int .i64 b ∧ x = .int .i64 h ∧ xb ≤ h ∧ h ≤ xc ∧ a + (xc - h) = a0 + (xc - xb) ∧ b + nightsF (xc - h).toNat h = b0 + nightsF (xc - xb).toNat xb ∧ 0 ≤ a ∧ 0 ≤ b) (fun _ _ x => (xc - intOf x).toNat)
        case atStart => exact ⟨xb, a0, b0, rfl, rfl, rfl, by omega, by omega, rfl, rfl, by omega, by omega⟩
        case round =>
          obtain ⟨h, a, b, rfl, rfl, rfl, hh1, hh2, hi1, hi2, ha, hbb⟩ := hrel
          have hnb := nightsF_bd (xc - h).toNat h
          have hnb0 := nightsF_bd (xc - xb).toNat xb
          have hab : a ≤ 20000 := by omega
          have hbb2 : b ≤ 20000 := by omega
          have HI1 := Lib.hid hi1
          have HI2 := Lib.hid hi2
          clear hi1 hi2 hnb hnb0
          have hh0 : 0 ≤ h := by omega
          by_cases hlh : h < xc
          · have HST : Hid (nightsF (xc - h).toNat h = (if nightB h then 1 else 0) + nightsF (xc - (h + 1)).toNat (h + 1)) := Lib.hid (by rw [show (xc - h).toNat = (xc - (h + 1)).toNat + 1 from by omega]; rfl)
            cases hni : nightB h with
            | true =>
              go_wp2_with (go_at_call 55; refine (shNight_any _ _).mono ?_; rintro e w' ⟨rfl, rfl⟩)
              go_round
              case rel => exact ⟨h + 1, a + 1, b + 1, rfl, rfl, rfl, by omega, by omega, by have := HI1.out; omega, by rw [← HI2.out, HST.out]; simp [hni]; omega, by omega, by omega⟩
              case measure => simp [intOf]; omega
            | false =>
              go_wp2_with (go_at_call 55; refine (shNight_any _ _).mono ?_; rintro e w' ⟨rfl, rfl⟩)
              go_round
              case rel => exact ⟨h + 1, a + 1, b, rfl, rfl, rfl, by omega, by omega, by have := HI1.out; omega, by rw [← HI2.out, HST.out]; simp [hni], by omega, by omega⟩
              case measure => simp [intOf]; omega
          · have HEE := Lib.hid (show h = xc by omega)
            go_wp2
            go_roundw
            case rel =>
              refine ⟨k + 1, a, b, by omega, by go_num, rfl, rfl, ?_, HB.out.trans ((Below.refl _ _).alloc HB.out.size _), by omega, by omega⟩
              have e1 := HI1.out
              have e2 := HI2.out
              rw [HEE.out] at e1 e2
              simp [nightsF] at e1 e2
              have e3 := HR.out
              rw [HD.out] at e3
              simp only [duty, duty1, if_true] at e3
              omega
            case measure => simp [intOf]; omega
      · have HNO := Lib.hid hop
        have hop' : (xa == op) = false := by rw [beq_eq_false_iff_ne]; exact hop
        go_wp2
        go_loop [6, 7, 10] (fun u v x => u = .int .i64 a0 ∧ v = .int .i64 b0 ∧ x = .int .i64 xb) (fun _ _ _ => 0)
        case atStart => exact ⟨rfl, rfl, rfl⟩
        case round =>
          obtain ⟨rfl, rfl, rfl⟩ := hrel
          go_wp2
          go_roundw
          case rel =>
            refine ⟨k + 1, a0, b0, by omega, by go_num, rfl, rfl, ?_, HB.out.trans ((Below.refl _ _).alloc HB.out.size _), by omega, by omega⟩
            have e3 := HR.out
            rw [HD.out] at e3
            simp only [duty, duty1, HNO.out] at e3
            simpa using e3
          case measure => simp [intOf]; omega
    · have HE := Lib.hid (drop_end (xs := l) (k := k) (by rw [HX.out]; omega))
      go_wp2
      go_ret2
      have e := HR.out
      rw [HE.out] at e
      simp only [duty] at e
      exact ⟨by rw [← e.1, ← e.2]; simp, HB.out⟩
set_option maxHeartbeats 2000000 in
theorem dutyHours_any (A : Option Addr) (n c : Nat) (l : List S3) (op : Int) (w : World) (hn : n ≤ 1000000000) (hnc : n ≤ c) (h : Reads w 3 A n (rows3 l)) :
    Calls Tryd.prog 21 #[.slice A n c, .int .i64 op] w fun e w' => e = .returned (.tuple #[.int .i64 (dutyR l op).1, .int .i64 (dutyR l op).2.1, .bool (dutyR l op).2.2]) ∧ Below w.heap.size w w' := by
  have c1 := areShifts_any A n c l w hn hnc h
  have hlx : l.length = n := by have := h.1; rw [length_rows3] at this; omega
  cases hg : goodShifts l with
  | false =>
    rw [hg] at c1
    have hr : dutyR l op = (0, 0, false) := by simp [dutyR, hg]
    rw [hr]
    have C1 := Lib.hid c1
    clear c1 hr h hg hlx
    go_enter Tryd.func21, Tryd.ntmps21
    go_wp2_with (go_at_call 34; refine (C1.out).mono ?_; rintro e w1 ⟨rfl, hb⟩)
    go_ret3
    exact ⟨rfl, hb⟩
  | true =>
    rw [hg] at c1
    have C1 := Lib.hid c1
    clear c1
    cases hop : inB op 1 30 with
    | false =>
      have hr : dutyR l op = (0, 0, false) := by simp [dutyR, hop]
      rw [hr]
      clear hr h hg hlx
      go_enter Tryd.func21, Tryd.ntmps21
      go_wp2_with (first | (go_at_call 34; refine (C1.out).mono ?_; rintro e w1 ⟨rfl, hb⟩) | (go_at_call 45; refine (isOperator_any _ _).mono ?_; rintro e w' ⟨rfl, rfl⟩))
      go_ret3
      exact ⟨rfl, hb⟩
    | true =>
      have hr : dutyR l op = ((duty op l).1, (duty op l).2, true) := by simp [dutyR, hop, hg]
      rw [hr]
      have hw := good_week hg
      have hn60 := good_len hg
      rw [hlx] at hn60
      have hdt := duty_bd (op := op) hw
      rw [hlx] at hdt
      have HDT : Hid ((duty op l).1 ≤ 10080 ∧ (duty op l).2 ≤ 10080) := Lib.hid (by omega)
      have HX := Lib.hid hlx
      have H := Lib.hid h
      have HW := Lib.hid hw
      clear hr h hg hlx hw hdt
      go_enter Tryd.func21, Tryd.ntmps21
      go_wp2_with (first | (go_at_call 34; refine (C1.out).mono ?_; rintro e w1 ⟨rfl, hb⟩) | (go_at_call 45; refine (isOperator_any _ _).mono ?_; rintro e w' ⟨rfl, rfl⟩))
      have HB0 := Lib.hid hb; clear hb
      go_loopw [7, 8, 22] (fun u v i wr => ∃ k : Nat, ∃ a b : Int, k ≤ n ∧ i = .int .i64 k ∧ u = .int .i64 a ∧ v = .int .i64 b ∧ (a + (duty op (l.drop k)).1 = (duty op l).1 ∧ b + (duty op (l.drop k)).2 = (duty op l).2) ∧ Below w.heap.size w wr ∧ 0 ≤ a ∧ 0 ≤ b) (fun _ _ i _ => n - (intOf i).toNat)
      case atStart => exact ⟨0, 0, 0, Nat.zero_le _, rfl, rfl, rfl, by simp, HB0.out, by omega, by omega⟩
      case round =>
        obtain ⟨k, a0, b0, hk, rfl, rfl, rfl, hrel, hb, ha0, hb0⟩ := hrel
        have hdb := duty_bd (op := op) (inWeek_drop HW.out k)
        have hdt := HDT.out
        have ha0' : a0 ≤ 10080 := by omega
        have hb0' : b0 ≤ 10080 := by omega
        have HR := Lib.hid hrel; clear hrel hdb hdt
        have HB := Lib.hid hb; clear hb
        by_cases hlt : k < n
        · have hx : k < l.length := by rw [HX.out]; exact hlt
          obtain ⟨ad, rfl, k0, k1, k2⟩ := rows3_at (H.out.below HB.out) hlt HX.out
          have hwk := HW.out l[k] (List.getElem_mem hx)
          have HD := Lib.hid (drop_cons hx)
          generalize l[k] = x at *
          obtain ⟨xa, xb, xc⟩ := x
          dsimp only at hwk k0 k1 k2
          obtain ⟨hw1, hw2, hw3⟩ := hwk
          by_cases hop : xa = op
          · subst hop
            go_wp2
            go_loop [7, 8, 11] (fun u v x => ∃ h a b : Int, u = .int .i64 a ∧ v = .int .i64 b ∧ x = .int .i64 h ∧ xb ≤ h ∧ h ≤ xc ∧ a + (xc - h) = a0 + (xc - xb) ∧ b + nightsF (xc - h).toNat h = b0 + nightsF (xc - xb).toNat xb ∧ 0 ≤ a ∧ 0 ≤ b) (fun _ _ x => (xc - intOf x).toNat)
            case atStart => exact ⟨xb, a0, b0, rfl, rfl, rfl, by omega, by omega, rfl, rfl, by omega, by omega⟩
            case round =>
              obtain ⟨h, a, b, rfl, rfl, rfl, hh1, hh2, hi1, hi2, ha, hbb⟩ := hrel
              have hnb := nightsF_bd (xc - h).toNat h
              have hnb0 := nightsF_bd (xc - xb).toNat xb
              have hab : a ≤ 20000 := by omega
              have hbb2 : b ≤ 20000 := by omega
              have HI1 := Lib.hid hi1
              have HI2 := Lib.hid hi2
              clear hi1 hi2 hnb hnb0
              have hh0 : 0 ≤ h := by omega
              by_cases hlh : h < xc
              · have HST : Hid (nightsF (xc - h).toNat h = (if nightB h then 1 else 0) + nightsF (xc - (h + 1)).toNat (h + 1)) := Lib.hid (by rw [show (xc - h).toNat = (xc - (h + 1)).toNat + 1 from by omega]; rfl)
                by_cases h6 : h % 24 < 6
                · have hni : nightB h = true := by simp [nightB, Int.tmod_eq_emod_of_nonneg hh0, h6]
                  go_wp2
                  go_round
                  case rel => exact ⟨h + 1, a + 1, b + 1, rfl, rfl, rfl, by omega, by omega, by have := HI1.out; omega, by rw [← HI2.out, HST.out]; simp [hni]; omega, by omega, by omega⟩
                  case measure => simp [intOf]; omega
                · by_cases h22 : 22 ≤ h % 24
                  · have hni : nightB h = true := by simp [nightB, Int.tmod_eq_emod_of_nonneg hh0, h22]
                    go_wp2
                    go_round
                    case rel => exact ⟨h + 1, a + 1, b + 1, rfl, rfl, rfl, by omega, by omega, by have := HI1.out; omega, by rw [← HI2.out, HST.out]; simp [hni]; omega, by omega, by omega⟩
                    case measure => simp [intOf]; omega
                  · have hni : nightB h = false := by simp [nightB, Int.tmod_eq_emod_of_nonneg hh0, h22, h6] <;> omega
                    go_wp2
                    go_round
                    case rel => exact ⟨h + 1, a + 1, b, rfl, rfl, rfl, by omega, by omega, by have := HI1.out; omega, by rw [← HI2.out, HST.out]; simp [hni], by omega, by omega⟩
                    case measure => simp [intOf]; omega
              · have HEE := Lib.hid (show h = xc by omega)
                go_wp2
                go_roundw
                case rel =>
                  refine ⟨k + 1, a, b, by omega, by go_num, rfl, rfl, ?_, HB.out.trans ((Below.refl _ _).alloc HB.out.size _), by omega, by omega⟩
                  have e1 := HI1.out
                  have e2 := HI2.out
                  rw [HEE.out] at e1 e2
                  simp [nightsF] at e1 e2
                  have e3 := HR.out
                  rw [HD.out] at e3
                  simp only [duty, duty1, if_true] at e3
                  omega
                case measure => simp [intOf]; omega
          · have HNO := Lib.hid hop
            have hop' : (xa == op) = false := by rw [beq_eq_false_iff_ne]; exact hop
            go_wp2
            go_roundw
            case rel =>
              refine ⟨k + 1, a0, b0, by omega, by go_num, rfl, rfl, ?_, HB.out.trans ((Below.refl _ _).alloc HB.out.size _), by omega, by omega⟩
              have e3 := HR.out
              rw [HD.out] at e3
              simp only [duty, duty1, HNO.out] at e3
              simpa using e3
            case measure => simp [intOf]; omega
        · have HE := Lib.hid (drop_end (xs := l) (k := k) (by rw [HX.out]; omega))
          go_wp2
          go_ret3
          have e := HR.out
          rw [HE.out] at e
          simp only [duty] at e
          exact ⟨by rw [← e.1, ← e.2]; simp, HB.out⟩

end Go.Proofs.YtiofgoppgdgbaaaDoor
