/- Contracts of rrHolds and of IsRepairPlan of both packages, and the law over them. No conditions. -/
import Derived.Test.YtjibdabedagghaaCost
import Derived.Test.YtjibdabedagghaaWear
namespace Go.Proofs.Ytjibdabedagghaa
set_option linter.unusedSimpArgs false
set_option linter.unusedVariables false
open Go.RowKit

/-- Whether a gear never fails by a plan, from a wear on. -/
def holdsG (i b c : Int) : Int → PL → Bool
  | _, [] => true
  | a, d :: r => if c < (if hasB d i = true then 0 else a) + b then false else holdsG i b c ((if hasB d i = true then 0 else a) + b) r
def holdsL (P : PL) : List G4 → Int → Bool
  | [], _ => true
  | g :: r, i => if holdsG i g.2.1 g.2.2.1 g.1 P then holdsL P r (i + 1) else false
def planR (l : List G4) (days : Int) (P : PL) : Bool × Bool :=
  if (goodGears l && (inB days 0 30 && planB 7 P)) = true then (decide ((P.length : Int) = days) && (allP ((l.length : Int) - 1) P && holdsL P l 0), true) else (false, false)
theorem rrDays_any (a : Int) (w : World) : Calls Try.prog 78 #[.int .i64 a] w fun e w' => e = .returned (.bool (inB a 0 30)) ∧ w = w' := by
  go_enter Try.func78, Try.ntmps78
  go_wp2_with (go_at_call 68; refine (l1In_any _ _ _ _).mono ?_; rintro e w' ⟨rfl, rfl⟩)
  go_ret
  exact ⟨rfl, rfl⟩
set_option maxHeartbeats 4000000 in
theorem rrHolds_any (A : Option Addr) (n c : Nat) (l : List G4) (B : Option Addr) (m cb : Nat) (P : PL) (w : World) (hn : n ≤ 1000000000) (h : Reads w 4 A n (rows4 l)) (hm : m ≤ 1000000000) (hl : ∀ d ∈ P, d.length ≤ 1000000000) (h' : Reads2 w 1 B m (rowsIntss P)) (hg : ∀ g ∈ l, gearB g.1 g.2.1 g.2.2.1 g.2.2.2 = true) :
    Calls Try.prog 82 #[.slice A n c, .slice B m cb] w fun e w' => e = .returned (.bool (holdsL P l 0)) ∧ Below w.heap.size w w' := by
  have HX := Lib.hid (show l.length = n by have := h.1; rw [length_rows4] at this; omega)
  have HY := Lib.hid (show P.length = m by have := h'.len; simpa using this)
  have H0 := Lib.hid h
  have H0' := Lib.hid h'
  have HL := Lib.hid hl
  have HGG := Lib.hid hg
  clear h h' hl hg
  go_enter Try.func82, Try.ntmps82
  go_wp2
  go_loopw [11] (fun i wr => ∃ k : Nat, k ≤ n ∧ i = .int .i64 k ∧ holdsL P (l.drop k) (k : Int) = holdsL P l 0 ∧ Below w.heap.size w wr) (fun i _ => n - (intOf i).toNat)
  case atStart => exact ⟨0, Nat.zero_le _, rfl, rfl, Below.refl _ _⟩
  case round =>
    obtain ⟨k, hk, rfl, hrel, hb⟩ := hrel
    have HR := Lib.hid hrel; clear hrel
    have HBO := Lib.hid hb; clear hb
    obtain ⟨wo, rfl⟩ : ∃ wo, wo = wr := ⟨_, rfl⟩
    by_cases hlt : k < n
    · obtain ⟨ag, rfl, k0, k1, k2, k3⟩ := rows4_at (H0.out.below HBO.out) hlt HX.out
      have hx : k < l.length := by rw [HX.out]; exact hlt
      have HD := Lib.hid (drop_cons hx)
      have hgk := HGG.out l[k] (List.getElem_mem hx)
      generalize l[k] = gx at *
      obtain ⟨a, b, c4, d4⟩ := gx
      obtain ⟨⟨hb1, hb2⟩, ⟨hc1, hc2⟩, ⟨ha1, ha2⟩, _⟩ := gearB_true.1 hgk
      simp only at hb1 hb2 hc1 hc2 ha1 ha2 k0 k1 k2 k3
      have HB4 := Lib.hid (Box4.new wo 26 (.int .i64 a) (.int .i64 b) (.int .i64 c4) (.int .i64 d4))
      have HNX : Hid (holdsL P l 0 = if holdsG (k : Int) b c4 a P then holdsL P (l.drop (k + 1)) ((k + 1 : Nat) : Int) else false) := Lib.hid (by rw [← HR.out, HD.out]; simp [holdsL])
      have HBS : Hid (Below wo.heap.size wo (wo.alloc (.cells #[.int .i64 a, .int .i64 b, .int .i64 c4, .int .i64 d4] 26))) := Lib.hid ((Below.refl _ _).alloc (Nat.le_refl _) _)
      clear HD hgk
      go_wp2
      clear k0 k1 k2 k3
      go_loopw [18] (fun i wr => ∃ j : Nat, ∃ q : Int, j ≤ m ∧ i = .int .i64 j ∧ 0 ≤ q ∧ q ≤ c4 ∧ holdsG (k : Int) b c4 q (P.drop j) = holdsG (k : Int) b c4 a P ∧ Box4 wr wo.heap.size 26 (.int .i64 q) (.int .i64 b) (.int .i64 c4) (.int .i64 d4) ∧ Below wo.heap.size wo wr ∧ wo.heap.size < wr.heap.size) (fun i _ => m - (intOf i).toNat)
      case atStart => exact ⟨0, a, Nat.zero_le _, rfl, by omega, by omega, rfl, HB4.out, HBS.out, by simp⟩
      case round =>
        obtain ⟨j, q, hj, rfl, hq1, hq2, hrel, hbox, hbi, hsz⟩ := hrel
        have HRI := Lib.hid hrel; clear hrel
        have HBI := Lib.hid hbi; clear hbi
        have HBOX := Lib.hid hbox; clear hbox
        have HSZ := Lib.hid hsz; clear hsz
        obtain ⟨x0, x1, x2, x3⟩ := HBOX.out.cells
        have HBW : Hid (Below w.heap.size w wr) := Lib.hid (HBO.out.trans (HBI.out.mono HBO.out.size))
        by_cases hjt : j < m
        · have hxj : j < P.length := by rw [HY.out]; exact hjt
          obtain ⟨ad, Ai, ci, rfl, kc, _, _, hr⟩ := (H0'.out.below HBW.out).row (rowsIntss_get hxj)
          have HRR := Lib.hid hr; clear hr
          have HXL := Lib.hid (HL.out P[j] (List.getElem_mem hxj))
          have HDJ := Lib.hid (drop_cons hxj)
          generalize P[j] = dd at *
          simp only [length_ints] at kc HRR
          have CH := Lib.hid (fun W (hW : Below wr.heap.size wr W) => l1Has_any Ai dd.length ci dd (k : Int) W HXL.out (HRR.out.below hW))
          have hfin : ∀ W, Below wr.heap.size wr W → (W.cell? ⟨wo.heap.size, 0, none⟩ = some (.int .i64 q) ∧ W.cell? ⟨wo.heap.size, 1, none⟩ = some (.int .i64 b) ∧ W.cell? ⟨wo.heap.size, 2, none⟩ = some (.int .i64 c4) ∧ W.cell? ⟨wo.heap.size, 3, none⟩ = some (.int .i64 d4)) ∧ W.frozen? ⟨wo.heap.size, 0, none⟩ = false ∧ W.frozen? ⟨wo.heap.size, 1, none⟩ = false ∧ W.frozen? ⟨wo.heap.size, 2, none⟩ = false ∧ W.frozen? ⟨wo.heap.size, 3, none⟩ = false := fun W hW =>
            ⟨(HBOX.out.below hW HBOX.out.lt).cells, (HBOX.out.below hW HBOX.out.lt).frozen⟩
          have HFIN := Lib.hid hfin; clear hfin
          have hS : Below wr.heap.size wr wr.drew := (Below.refl _ _).drew
          have HSTEP : Hid (holdsG (k : Int) b c4 a P = if c4 < (if hasB dd (k : Int) = true then 0 else q) + b then false else holdsG (k : Int) b c4 ((if hasB dd (k : Int) = true then 0 else q) + b) (P.drop (j + 1))) := Lib.hid (by rw [← HRI.out, HDJ.out]; rfl)
          clear HDJ
          cases hh : hasB dd (k : Int) with
          | true =>
            rw [hh] at HSTEP
            simp only [hh] at CH
            have HST2 : Hid (holdsG (k : Int) b c4 a P = holdsG (k : Int) b c4 b (P.drop (j + 1))) := Lib.hid (by rw [HSTEP.out]; simp; omega)
            clear HSTEP
            have hbc : ¬ c4 < b := by omega
            go_wp2
            go_region_with (first | (go_at_call 70; refine (CH.out _ (by assumption)).mono ?_; rintro e w' ⟨rfl, rfl⟩) | (go_at_call 69; refine (rrAfter_any q b c4 d4 _ _ ⟨by omega, by omega⟩ ⟨by omega, by omega⟩).mono ?_; rintro e w3 ⟨rfl, hb3⟩; have hS3 := hS.trans (hb3.mono hS.size); obtain ⟨⟨y0, y1, y2, y3⟩, f0, f1, f2, f3⟩ := HFIN.out _ hS3))
            all_goals
              have HS3 := Lib.hid hS3
              clear hS3 hb3
              go_wp2
              go_roundw
              case rel =>
                refine ⟨j + 1, b, by omega, by go_num, by omega, by omega, by rw [HST2.out], ?_, ?_, ?_⟩
                · simpa using (HBOX.out.below HS3.out HBOX.out.lt).set4 (.int .i64 b) (.int .i64 b) (.int .i64 c4) (.int .i64 d4)
                · exact ((((HBI.out.trans (HS3.out.mono HBI.out.size)).setCell (p := ⟨wo.heap.size, 0, none⟩) (Nat.le_refl _) _).setCell (p := ⟨wo.heap.size, 1, none⟩) (Nat.le_refl _) _).setCell (p := ⟨wo.heap.size, 2, none⟩) (Nat.le_refl _) _).setCell (p := ⟨wo.heap.size, 3, none⟩) (Nat.le_refl _) _
                · have h1 := HSZ.out; have h2 := HS3.out.size; simp; omega
              case measure => simp [intOf]; omega
          | false =>
            rw [hh] at HSTEP
            simp only [hh] at CH
            by_cases hbc : c4 < q + b
            · have HST2 : Hid (holdsG (k : Int) b c4 a P = false) := Lib.hid (by rw [HSTEP.out]; simp; omega)
              have HFA : Hid (holdsL P l 0 = false) := Lib.hid (by rw [HNX.out, HST2.out]; simp)
              clear HSTEP
              go_wp2
              go_region_with (first | (go_at_call 70; refine (CH.out _ (by assumption)).mono ?_; rintro e w' ⟨rfl, rfl⟩) | (go_at_call 69; refine (rrAfter_any q b c4 d4 _ _ ⟨by omega, by omega⟩ ⟨by omega, by omega⟩).mono ?_; rintro e w3 ⟨rfl, hb3⟩; have hS3 := hS.trans (hb3.mono hS.size); obtain ⟨⟨y0, y1, y2, y3⟩, f0, f1, f2, f3⟩ := HFIN.out _ hS3))
              all_goals
                have HS3 := Lib.hid hS3
                clear hS3 hb3
                go_wp2
                go_ret
                refine ⟨ret_bool HFA.out.symm, HBO.out.trans (Below.mono ?_ HBO.out.size)⟩
                exact ((((HBI.out.trans (HS3.out.mono HBI.out.size)).setCell (p := ⟨wo.heap.size, 0, none⟩) (Nat.le_refl _) _).setCell (p := ⟨wo.heap.size, 1, none⟩) (Nat.le_refl _) _).setCell (p := ⟨wo.heap.size, 2, none⟩) (Nat.le_refl _) _).setCell (p := ⟨wo.heap.size, 3, none⟩) (Nat.le_refl _) _
            · have HST2 : Hid (holdsG (k : Int) b c4 a P = holdsG (k : Int) b c4 (q + b) (P.drop (j + 1))) := Lib.hid (by rw [HSTEP.out]; simp; omega)
              clear HSTEP
              go_wp2
              go_region_with (first | (go_at_call 70; refine (CH.out _ (by assumption)).mono ?_; rintro e w' ⟨rfl, rfl⟩) | (go_at_call 69; refine (rrAfter_any q b c4 d4 _ _ ⟨by omega, by omega⟩ ⟨by omega, by omega⟩).mono ?_; rintro e w3 ⟨rfl, hb3⟩; have hS3 := hS.trans (hb3.mono hS.size); obtain ⟨⟨y0, y1, y2, y3⟩, f0, f1, f2, f3⟩ := HFIN.out _ hS3))
              all_goals
                have HS3 := Lib.hid hS3
                clear hS3 hb3
                go_wp2
                go_roundw
                case rel =>
                  refine ⟨j + 1, q + b, by omega, by go_num, by omega, by omega, by rw [HST2.out], ?_, ?_, ?_⟩
                  · simpa using (HBOX.out.below HS3.out HBOX.out.lt).set4 (.int .i64 (q + b)) (.int .i64 b) (.int .i64 c4) (.int .i64 d4)
                  · exact ((((HBI.out.trans (HS3.out.mono HBI.out.size)).setCell (p := ⟨wo.heap.size, 0, none⟩) (Nat.le_refl _) _).setCell (p := ⟨wo.heap.size, 1, none⟩) (Nat.le_refl _) _).setCell (p := ⟨wo.heap.size, 2, none⟩) (Nat.le_refl _) _).setCell (p := ⟨wo.heap.size, 3, none⟩) (Nat.le_refl _) _
                  · have h1 := HSZ.out; have h2 := HS3.out.size; simp; omega
                case measure => simp [intOf]; omega
        · have HE := Lib.hid (drop_end (xs := P) (k := j) (by rw [HY.out]; omega))
          have HOK : Hid (holdsG (k : Int) b c4 a P = true) := Lib.hid (by rw [← HRI.out, HE.out]; rfl)
          go_wp2
          go_roundw
          case rel => exact ⟨k + 1, by omega, by go_num, by rw [HNX.out, HOK.out]; simp, HBW.out⟩
          case measure => simp [intOf]; omega
    · have HE := Lib.hid (drop_end (xs := l) (k := k) (by rw [HX.out]; omega))
      go_wp2
      go_ret
      refine ⟨ret_bool ?_, HBO.out⟩
      rw [← HR.out, HE.out]
      rfl
end Go.Proofs.Ytjibdabedagghaa
