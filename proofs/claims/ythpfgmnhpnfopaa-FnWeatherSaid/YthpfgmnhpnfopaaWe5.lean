/- Contracts of BestConstant and StayLoss of both packages, and the laws over them. No conditions. -/
import Derived.Test.YthpfgmnhpnfopaaWe4
namespace Go.Proofs.Ythpfgmnhpnfopaa
set_option linter.unusedSimpArgs false
set_option linter.unusedVariables false
open Go.RowKit

def bestStep (fs : List Bool) (s : Int × Int) (p : Nat) : Int × Int :=
  if s.2 < 0 ∨ loss (List.replicate fs.length (p : Int)) fs < s.2 then ((p : Int), loss (List.replicate fs.length (p : Int)) fs) else s
def bestF (fs : List Bool) (k : Nat) : Int × Int := (List.range k).foldl (bestStep fs) (0, -1)
theorem bestF_succ (fs : List Bool) (k : Nat) : bestF fs (k + 1) = bestStep fs (bestF fs k) k := by simp [bestF, List.range_succ]
def bestR (fs : List Bool) : Int × Int × Bool := if fs.length ≤ 20 then ((bestF fs 101).1, (bestF fs 101).2, true) else (0, 0, false)
theorem rep_bd (n p : Nat) (h : p ≤ 100) : ∀ x ∈ List.replicate n (p : Int), 0 ≤ x ∧ x ≤ 100 := by
  intro x hx
  have := (List.mem_replicate.1 hx).2
  omega

theorem weAlways_any (n : Nat) (p : Int) (w : World) (hn : n ≤ 1000000000) :
    Calls Try.prog 84 #[.int .i64 p, .int .i64 n] w (Made w 3 1 n (ints (List.replicate n p))) := by
  go_enter Try.func84, Try.ntmps84
  go_wp2
  go_loopw [1, 5] (fun r v wr => ∃ k : Nat, ∃ A c, k ≤ n ∧ r = .int .i64 ((n - k : Nat) : Int) ∧ v = .slice A k c ∧ wr.ownsRow w.heap.size 3 1 (.slice A k c) k (ints (List.replicate k p)) ∧ Below w.heap.size w wr) (fun r _ _ => (intOf r).toNat)
  case atStart => exact ⟨0, none, 0, Nat.zero_le _, rfl, rfl, own_start, Below.refl _ _⟩
  case round =>
    obtain ⟨k, A, c, hk, rfl, rfl, hown, hb⟩ := hrel
    have hz := hb.size
    have HB := Lib.hid hb; clear hb
    by_cases hlt : k < n
    · obtain ⟨m, hm⟩ : ∃ m, n - k = m + 1 := ⟨n - k - 1, by omega⟩
      have hm2 : n - (k + 1) = m := by omega
      have HM := Lib.hid hm2
      rw [hm]
      have em : ((m + 1 : Nat) : Int) = (m : Int) + 1 := by omega
      rw [em]
      have hmb : m ≤ 1000000000 := by omega
      clear hm hm2 em
      go_wp2_with (at_builtin; refine wpList_push _ rfl (.tmp 10) (.tmp 12) 33 rfl w.heap.size 3 (.int .i64 0) 1 8 infoInt rfl (by omega) Try.underlying33 A k c (ints (List.replicate k p)) rfl (hown.alloc _) (some ⟨wr.heap.size, 0, none⟩) 1 1 [.int .i64 p] rfl (reads_new _ _ _) (by simp [Value.oneCell']) (by omega) (by omega) (by simp; omega) ?_; intro A' c' w1 hown1 hg1 hb1)
      go_roundw
      case rel =>
        refine ⟨k + 1, A', c', by omega, by rw [HM.out], rfl, ?_, HB.out.trans ((Below.refl _ _ |>.alloc hz _).trans hb1)⟩
        rw [show ints (List.replicate (k + 1) p) = ints (List.replicate k p) ++ [.int .i64 p] from by simp [ints, List.replicate_succ']]
        exact hown1
      case measure => simp [intOf]; try omega
    · obtain rfl : k = n := by omega
      have e : k - k = 0 := by omega
      rw [e]
      clear e
      go_wp2
      go_ret
      exact ⟨A, c, rfl, hown, HB.out⟩

set_option maxHeartbeats 1000000 in
theorem specBest_any (A : Option Addr) (n c : Nat) (fs : List Bool) (w : World) (hn : n ≤ 1000000000) (h : Reads w 1 A n (bools fs)) :
    Calls Try.prog 27 #[.slice A n c] w fun e w' => e = .returned (.tuple #[.int .i64 (bestR fs).1, .int .i64 (bestR fs).2.1, .bool (bestR fs).2.2]) ∧ Below w.heap.size w w' := by
  have hlf : fs.length = n := by simpa using h.1
  by_cases h20 : n ≤ 20
  · have hR : bestR fs = ((bestF fs 101).1, (bestF fs 101).2, true) := by unfold bestR; rw [if_pos (by omega)]
    rw [hR]
    have HF := Lib.hid hlf
    have H := Lib.hid h
    clear hR hlf h
    go_enter Try.func27, Try.ntmps27
    go_wp2
    go_loopw [5, 6, 7] (fun b l p wr => ∃ k : Nat, k ≤ 101 ∧ p = .int .i64 k ∧ b = .int .i64 (bestF fs k).1 ∧ l = .int .i64 (bestF fs k).2 ∧ Below w.heap.size w wr) (fun _ _ p _ => 101 - (intOf p).toNat)
    case atStart => exact ⟨0, Nat.zero_le _, rfl, rfl, rfl, Below.refl _ _⟩
    case round =>
      obtain ⟨k, hk, rfl, rfl, rfl, hb⟩ := hrel
      have HB := Lib.hid hb; clear hb
      by_cases hlt : k ≤ 100
      · have HS := Lib.hid (bestF_succ fs k)
        generalize bestF fs k = s at *
        obtain ⟨b, l⟩ := s
        have hlo := loss_bd (List.replicate n (k : Int)) fs (rep_bd n k hlt)
        have HL : Hid (loss (List.replicate fs.length (k : Int)) fs = loss (List.replicate n (k : Int)) fs) := by rw [HF.out]; exact Lib.hid rfl
        have c1 := fun W => weAlways_any n (k : Int) W (by omega)
        have c2 := fun (A1 : Option Addr) (c1 : Nat) (W : World) (h1 : Reads W 1 A1 n (ints (List.replicate n (k : Int)))) (h2 : Reads W 1 A n (bools fs)) => weLoss_any A1 A n c1 c _ _ W (by omega) h1 h2 (rep_bd n k hlt)
        have C1 := Lib.hid c1
        have C2 := Lib.hid c2
        clear c1 c2
        generalize loss (List.replicate n (k : Int)) fs = q at *
        go_wp2_with (first | (go_at_call 84; refine (C1.out _).mono ?_; rintro e w1 ⟨A1, c1, rfl, hown1, hb1⟩; have HO1 := Lib.hid (And.intro hown1 hb1); clear hown1 hb1) | (go_at_call 78; refine (C2.out A1 c1 _ (Reads.of_own HO1.out.1) ((H.out.below HB.out).below HO1.out.2)).mono ?_; rintro e w' ⟨rfl, rfl⟩))
        all_goals
          go_roundw
          case rel =>
            refine ⟨k + 1, by omega, by go_num, ?_, ?_, HB.out.trans (HO1.out.2.mono HB.out.size)⟩ <;>
            · rw [HS.out]
              simp only [bestStep, HL.out]
              first | rw [if_pos (by omega)] | rw [if_neg (by omega)]
          case measure => simp [intOf]; omega
      · obtain rfl : k = 101 := by omega
        go_wp2
        go_ret3
        exact ⟨rfl, HB.out⟩
  · have hR : bestR fs = (0, 0, false) := by unfold bestR; rw [if_neg (by omega)]
    rw [hR]
    clear hR hlf h
    go_enter Try.func27, Try.ntmps27
    go_wp2
    go_ret3
    exact ⟨rfl, Below.refl _ _⟩

set_option maxHeartbeats 2000000 in
theorem implBest_any (A : Option Addr) (n c : Nat) (fs : List Bool) (w : World) (hn : n ≤ 1000000000) (h : Reads w 1 A n (bools fs)) :
    Calls Try.prog 28 #[.slice A n c] w fun e w' => e = .returned (.tuple #[.int .i64 (bestR fs).1, .int .i64 (bestR fs).2.1, .bool (bestR fs).2.2]) ∧ Below w.heap.size w w' := by
  have hlf : fs.length = n := by simpa using h.1
  by_cases h20 : n ≤ 20
  · have hR : bestR fs = ((bestF fs 101).1, (bestF fs 101).2, true) := by unfold bestR; rw [if_pos (by omega)]
    rw [hR]
    have HF := Lib.hid hlf
    have H := Lib.hid h
    clear hR hlf h
    go_enter Try.func28, Try.ntmps28
    go_wp2_with (at_make; refine wpList_mk _ rfl (.tmp 15) (.tmp 15) 33 rfl w.heap.size 3 (.int .i64 0) _ infoInt rfl Try.underlying33 _ _ _ _ n rfl rfl rfl rfl (by omega) (by omega) (by first | exact Nat.le_refl _ | omega | (simp; omega)) ?_; intro w1 hown1 hb1 hz1)
    have hown1' : w1.ownsRow w.heap.size 3 1 (.slice (some ⟨w.heap.size, 0, none⟩) n n) n (ints (List.replicate n 0)) := by simpa [ints] using hown1
    generalize hg : w.heap.size = g at *
    go_loopw [5, 6, 17] (fun b l p wr => ∃ k : Nat, ∃ xs : List Int, k ≤ 101 ∧ p = .int .i64 k ∧ b = .int .i64 (bestF fs k).1 ∧ l = .int .i64 (bestF fs k).2 ∧ wr.ownsRow g 3 1 (.slice (some ⟨g, 0, none⟩) n n) n (ints xs) ∧ Below g w wr) (fun _ _ p _ => 101 - (intOf p).toNat)
    case atStart => exact ⟨0, _, Nat.zero_le _, rfl, rfl, rfl, hown1', hb1⟩
    case round =>
      obtain ⟨k, xs, hk, rfl, rfl, rfl, hown, hb⟩ := hrel
      clear hown1 hown1' hb1 hz1
      have HB := Lib.hid hb; clear hb
      have HO := Lib.hid hown; clear hown
      by_cases hlt : k ≤ 100
      · have HS := Lib.hid (bestF_succ fs k)
        generalize bestF fs k = s at *
        obtain ⟨b, l⟩ := s
        have hlo := loss_bd (List.replicate n (k : Int)) fs (rep_bd n k hlt)
        have HL : Hid (loss (List.replicate fs.length (k : Int)) fs = loss (List.replicate n (k : Int)) fs) := by rw [HF.out]; exact Lib.hid rfl
        have c2 := fun (W : World) (h1 : Reads W 1 (some ⟨g, 0, none⟩) n (ints (List.replicate n (k : Int)))) (h2 : Reads W 1 A n (bools fs)) => forecastLoss_any (some ⟨g, 0, none⟩) A n n c _ _ W (by omega) h1 h2 (rep_bd n k hlt)
        have C2 := Lib.hid c2
        clear c2
        have hxl : xs.length = n := by simpa using HO.out.1
        have HX := Lib.hid hxl; clear hxl
        generalize loss (List.replicate n (k : Int)) fs = q at *
        obtain ⟨wo, rfl⟩ : ∃ wo : World, wo = wr := ⟨_, rfl⟩
        go_wp2
        go_loopw [22] (fun p wr => ∃ i : Nat, i ≤ n ∧ p = .int .i64 i ∧ wr.ownsRow g 3 1 (.slice (some ⟨g, 0, none⟩) n n) n ((ints (List.replicate n (k : Int))).take i ++ (ints xs).drop i) ∧ Below g w wr) (fun p _ => n - (intOf p).toNat)
        case atStart => exact ⟨0, Nat.zero_le _, rfl, HO.out, HB.out⟩
        case round =>
          obtain ⟨i, hi, rfl, hown, hb⟩ := hrel
          clear HO HB
          by_cases hlt2 : i < n
          · have hxi : i < xs.length := by rw [HX.out]; exact hlt2
            have hold : wr.cell? ⟨g, i, none⟩ = some (.int .i64 xs[i]) := by
              rw [hown.cellAt i (by omega), two_get (n := n) (by simp) (by simp [HX.out]) hlt2]
              simp [ints, hxi]
            have hfz : wr.frozen? ⟨g, i, none⟩ = false := hown.frozenAt i
            have hs := (hown.stored i (.int .i64 (k : Int))).1
            rw [two_set (n := n) (by simp) (by simp [HX.out]) hlt2 (by simp [ints, hlt2])] at hs
            have hbs := hb.setCell (p := ⟨g, i, none⟩) (Nat.le_refl _) (.int .i64 (k : Int))
            have HS2 := Lib.hid hs
            have HB2 := Lib.hid hbs
            clear hs hbs hown hb
            generalize xs[i] = x0 at *
            go_wp2
            go_roundw
            case rel => exact ⟨i + 1, by omega, by go_num, HS2.out, HB2.out⟩
            case measure => simp [intOf]; omega
          · obtain rfl : i = n := by omega
            rw [two_end (by simp) (by simp [HX.out])] at hown
            have HO2 := Lib.hid hown
            have HB2 := Lib.hid hb
            clear hown hb
            go_wp2_with (go_at_call 79; refine (C2.out _ (Reads.of_own HO2.out) (H.out.keep (fun p hp => HB2.out.cell (by omega)))).mono ?_; rintro e w' ⟨rfl, rfl⟩)
            all_goals
              go_roundw
              case rel =>
                refine ⟨k + 1, _, by omega, by go_num, ?_, ?_, HO2.out, HB2.out⟩ <;>
                · rw [HS.out]
                  simp only [bestStep, HL.out]
                  first | rw [if_pos (by omega)] | rw [if_neg (by omega)]
              case measure => simp [intOf]; omega
      · obtain rfl : k = 101 := by omega
        go_wp2
        go_ret3
        exact ⟨rfl, by rw [← hg] at HB; exact HB.out⟩
  · have hR : bestR fs = (0, 0, false) := by unfold bestR; rw [if_neg (by omega)]
    rw [hR]
    clear hR hlf h
    go_enter Try.func28, Try.ntmps28
    go_wp2
    go_ret3
    exact ⟨rfl, Below.refl _ _⟩
set_option maxHeartbeats 2000000 in
set_option maxRecDepth 100000 in
theorem law_FnExactBestConstant (w : World) {v0 : Value} (h0 : IsBools w v0) :
    Calls Try.prog 7 #[v0] w fun e w' => e = .returned (.bool true) ∧ Below w.heap.size w w' := by
  obtain ⟨A0, n0, c0, xs0, rfl, _, _, hr0⟩ := h0
  have HR0 := Lib.hid hr0; clear hr0
  by_cases hn0 : n0 ≤ 1048576
  rotate_left
  · go_enter Try.func7, Try.ntmps7
    go_wp2
    go_ret
    exact ⟨rfl, Below.refl _ _⟩
  go_enter Try.func7, Try.ntmps7
  have BB0 : Hid (Below w.heap.size w w) := Lib.hid (Below.refl _ _)
  go_wp2_with fail
  refine (toBoolS_any A0 n0 c0 xs0 w (by omega) (HR0.out.below BB0.out)).mono ?_
  rintro e w1 ⟨As0, cs0, rfl, hown, hb⟩
  have Os0_1 := Lib.hid hown; clear hown
  have Ls0 := Lib.hid (own_lt Os0_1.out)
  have B0 := Lib.hid hb; clear hb
  have Z0 := Lib.hid (B0.out.size)
  have BB1 := Lib.hid (below_then BB0.out B0.out)
  go_wp2_with fail
  refine (specBest_any As0 n0 cs0 xs0 w1 (by omega) (Reads.of_own Os0_1.out)).mono ?_
  rintro e w2 ⟨rfl, hb⟩
  have B1 := Lib.hid hb; clear hb
  have Z1 := Lib.hid (B1.out.size)
  have BB2 := Lib.hid (BB1.out.trans (B1.out.mono BB1.out.size))
  have Os0_2 := Lib.hid (own_below Os0_1.out B1.out)
  go_wp2_with fail
  refine (toBoolS_any A0 n0 c0 xs0 w2 (by omega) (HR0.out.below BB2.out)).mono ?_
  rintro e w3 ⟨Ax0, cx0, rfl, hown, hb⟩
  have Ox0_3 := Lib.hid hown; clear hown
  have Lx0 := Lib.hid (own_lt Ox0_3.out)
  have B2 := Lib.hid hb; clear hb
  have Z2 := Lib.hid (B2.out.size)
  have BB3 := Lib.hid (BB2.out.trans (B2.out.mono BB2.out.size))
  go_wp2_with fail
  refine (implBest_any Ax0 n0 cx0 xs0 w3 (by omega) (Reads.of_own Ox0_3.out)).mono ?_
  rintro e w4 ⟨rfl, hb⟩
  have B3 := Lib.hid hb; clear hb
  have Z3 := Lib.hid (B3.out.size)
  have BB4 := Lib.hid (BB3.out.trans (B3.out.mono BB3.out.size))
  have Ox0_4 := Lib.hid (own_below Ox0_3.out B3.out)
  go_wp2_with fail
  refine (toBoolS_any A0 n0 c0 xs0 w4 (by omega) (HR0.out.below BB4.out)).mono ?_
  rintro e w5 ⟨At0, ct0, rfl, hown, hb⟩
  have Ot0_5 := Lib.hid hown; clear hown
  have Lt0 := Lib.hid (own_lt Ot0_5.out)
  have B4 := Lib.hid hb; clear hb
  have Z4 := Lib.hid (B4.out.size)
  have BB5 := Lib.hid (BB4.out.trans (B4.out.mono BB4.out.size))
  have Ox0_5 := Lib.hid (own_below Ox0_4.out B4.out)
  go_wp2_with fail
  refine (eqBoolS_any Ax0 At0 n0 cx0 ct0 xs0 w5 (by omega) (Reads.of_own Ox0_5.out) (Reads.of_own Ot0_5.out)).mono ?_
  rintro e w6 ⟨rfl, hb⟩
  replace hb := below_of_quiet (B := w5.heap.size) hb
  have B5 := Lib.hid hb; clear hb
  have Z5 := Lib.hid (B5.out.size)
  have BB6 := Lib.hid (BB5.out.trans (B5.out.mono BB5.out.size))
  have Ox0_6 := Lib.hid (own_below Ox0_5.out B5.out)
  have Ot0_6 := Lib.hid (own_below Ot0_5.out B5.out)
  go_wp2_with fail
  go_ret
  exact ⟨rfl, BB6.out⟩

end Go.Proofs.Ythpfgmnhpnfopaa
