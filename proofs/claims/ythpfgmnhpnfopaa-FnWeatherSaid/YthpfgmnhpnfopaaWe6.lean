/- Contracts of StayLoss of both packages, and the law over them. No conditions. -/
import Derived.Test.YthpfgmnhpnfopaaWe4
namespace Go.Proofs.Ythpfgmnhpnfopaa
set_option linter.unusedSimpArgs false
set_option linter.unusedVariables false
open Go.RowKit

def saysOf (f : Bool) : Int := if f = true then 100 else 0
def stay (fs : List Bool) : List Int := 50 :: (fs.take (fs.length - 1)).map saysOf
def stayR (fs : List Bool) : Int × Bool := if fs.length ≤ 20 ∧ 1 ≤ fs.length then (loss (stay fs) fs, true) else (0, false)
theorem stay_length (fs : List Bool) (h : 1 ≤ fs.length) : (stay fs).length = fs.length := by simp [stay]; omega
theorem stay_bd (fs : List Bool) : ∀ x ∈ stay fs, 0 ≤ x ∧ x ≤ 100 := by
  intro x hx
  rcases List.mem_cons.1 hx with rfl | hx
  · omega
  · obtain ⟨f, _, rfl⟩ := List.mem_map.1 hx
    unfold saysOf
    split <;> omega
theorem stay_get (fs : List Bool) (k : Nat) (h1 : 1 ≤ k) (hk : k < fs.length) : (stay fs)[k]? = some (saysOf (fs[k - 1]'(by omega))) := by
  obtain ⟨j, rfl⟩ : ∃ j, k = j + 1 := ⟨k - 1, by omega⟩
  simp only [stay, List.getElem?_cons_succ, List.getElem?_map, List.getElem?_take]
  rw [if_pos (by omega)]
  rw [List.getElem?_eq_getElem (by omega)]
  rfl
theorem stay_succ (fs : List Bool) (k : Nat) (hk : k + 1 < fs.length) : (stay fs).take (k + 2) = (stay fs).take (k + 1) ++ [saysOf (fs[k]'(by omega))] := by
  have hl := stay_length fs (by omega)
  rw [List.take_succ_eq_append_getElem (by omega)]
  have := stay_get fs (k + 1) (by omega) hk
  rw [List.getElem?_eq_getElem (by omega)] at this
  injection this with this
  rw [this]
  rfl

set_option maxHeartbeats 2000000 in
theorem specStayLoss_any (A : Option Addr) (n c : Nat) (fs : List Bool) (w : World) (hn : n ≤ 1000000000) (h : Reads w 1 A n (bools fs)) (hnc : n ≤ c) :
    Calls Try.prog 19 #[.slice A n c] w fun e w' => e = .returned (.tuple #[.int .i64 (stayR fs).1, .bool (stayR fs).2]) ∧ Below w.heap.size w w' := by
  have hlf : fs.length = n := by simpa using h.1
  by_cases h20 : n ≤ 20
  · by_cases h0 : n = 0
    · have hR : stayR fs = (0, false) := by unfold stayR; rw [if_neg (by omega)]
      rw [hR]
      clear hR hlf h
      subst h0
      go_enter Try.func19, Try.ntmps19
      go_wp2
      go_ret2
      exact ⟨rfl, Below.refl _ _⟩
    · have hR : stayR fs = (loss (stay fs) fs, true) := by unfold stayR; rw [if_pos (by omega)]
      rw [hR]
      obtain ⟨ad, rfl, hc⟩ := h.2 (by omega)
      have HF := Lib.hid hlf
      have H := Lib.hid h
      have HC := Lib.hid hc
      obtain ⟨m, rfl⟩ : ∃ m : Nat, n = m + 1 := ⟨n - 1, by omega⟩
      clear hR hlf h hc h0
      have hne : ((m : Int) + 1 == 0) = false := by simp; omega
      have hmc : m ≤ c := by omega
      have h20' : (m : Int) + 1 ≤ 20 := by omega
      have hst := own_built w [.int .i64 50] 3 (by simp) (Nat.le_refl _)
      have HST := Lib.hid hst; clear hst
      have c2 := fun (A1 : Option Addr) (c1 : Nat) (W : World) (h1 : Reads W 1 A1 (m + 1) (ints (stay fs))) (h2 : Reads W 1 (some ad) (m + 1) (bools fs)) => weLoss_any A1 (some ad) (m + 1) c1 c _ _ W (by omega) h1 h2 (stay_bd fs)
      have C2 := Lib.hid c2; clear c2
      have hlo := loss_bd (stay fs) fs (stay_bd fs)
      generalize hq : loss (stay fs) fs = q at *
      have HQ := Lib.hid hq; clear hq
      go_enter Try.func19, Try.ntmps19
      go_wp2
      go_loopw [4, 22] (fun v i wr => ∃ k : Nat, ∃ A1 c1, k ≤ m ∧ i = .int .i64 k ∧ v = .slice A1 (k + 1) c1 ∧ wr.ownsRow w.heap.size 3 1 (.slice A1 (k + 1) c1) (k + 1) (ints ((stay fs).take (k + 1))) ∧ Below w.heap.size w wr) (fun _ i _ => m - (intOf i).toNat)
      case atStart => exact ⟨0, _, _, Nat.zero_le _, rfl, rfl, HST.out, (Below.refl _ _).alloc (Nat.le_refl _) _⟩
      case round =>
        obtain ⟨k, A1, c1, hk, rfl, rfl, hown, hb⟩ := hrel
        have hz := hb.size
        have HB := Lib.hid hb; clear hb
        by_cases hlt : k < m
        · have hfk : k < fs.length := by rw [HF.out]; omega
          have hcell : wr.cell? (ad.add k) = some (.bool fs[k]) := by
            have h1 := HC.out k (.bool fs[k]) (by simp [bools, hfk])
            rw [HB.out.cell (World.block_lt_of_cell? w _ h1)]
            exact h1
          have HS := Lib.hid (stay_succ fs k (by rw [HF.out]; omega))
          generalize fs[k] = f at hcell HS
          cases f with
          | true =>
            go_wp2_with (at_builtin; refine wpList_push _ rfl (.tmp 27) (.tmp 28) 33 rfl w.heap.size 3 (.int .i64 0) 1 8 infoInt rfl (by omega) Try.underlying33 A1 (k + 1) c1 (ints ((stay fs).take (k + 1))) rfl (hown.alloc _) (some ⟨wr.heap.size, 0, none⟩) 1 1 [.int .i64 100] rfl (reads_new _ _ _) (by simp [Value.oneCell']) (by omega) (by omega) (by simp; omega) ?_; intro A' c' w1 hown1 hg1 hb1)
            go_roundw
            case rel =>
              refine ⟨k + 1, A', c', by omega, by go_num, rfl, ?_, HB.out.trans (((Below.refl _ _).alloc hz _).trans hb1)⟩
              rw [HS.out]
              simpa [ints, saysOf] using hown1
            case measure => simp [intOf]; try omega
          | false =>
            go_wp2_with (at_builtin; refine wpList_push _ rfl (.tmp 30) (.tmp 31) 33 rfl w.heap.size 3 (.int .i64 0) 1 8 infoInt rfl (by omega) Try.underlying33 A1 (k + 1) c1 (ints ((stay fs).take (k + 1))) rfl (hown.alloc _) (some ⟨wr.heap.size, 0, none⟩) 1 1 [.int .i64 0] rfl (reads_new _ _ _) (by simp [Value.oneCell']) (by omega) (by omega) (by simp; omega) ?_; intro A' c' w1 hown1 hg1 hb1)
            go_roundw
            case rel =>
              refine ⟨k + 1, A', c', by omega, by go_num, rfl, ?_, HB.out.trans (((Below.refl _ _).alloc hz _).trans hb1)⟩
              rw [HS.out]
              simpa [ints, saysOf] using hown1
            case measure => simp [intOf]; try omega
        · obtain rfl : k = m := by omega
          have hl := stay_length fs (by rw [HF.out]; omega)
          have e : (stay fs).take (k + 1) = stay fs := List.take_of_length_le (by rw [hl, HF.out]; omega)
          rw [e] at hown
          have HO := Lib.hid hown
          clear hown hl e
          go_wp2_with (go_at_call 78; refine (C2.out A1 c1 _ (Reads.of_own HO.out) (H.out.below HB.out)).mono ?_; rintro e w' ⟨rfl, rfl⟩)
          go_ret2
          exact ⟨rfl, HB.out⟩
  · have hR : stayR fs = (0, false) := by unfold stayR; rw [if_neg (by omega)]
    rw [hR]
    clear hR hlf h
    go_enter Try.func19, Try.ntmps19
    go_wp2
    go_ret2
    exact ⟨rfl, Below.refl _ _⟩

set_option maxHeartbeats 2000000 in
theorem implStayLoss_any (A : Option Addr) (n c : Nat) (fs : List Bool) (w : World) (hn : n ≤ 1000000000) (h : Reads w 1 A n (bools fs)) (hnc : n ≤ c) :
    Calls Try.prog 21 #[.slice A n c] w fun e w' => e = .returned (.tuple #[.int .i64 (stayR fs).1, .bool (stayR fs).2]) ∧ Below w.heap.size w w' := by
  have hlf : fs.length = n := by simpa using h.1
  cases hin : inB (n : Int) 1 20 with
  | false =>
    have hno := inB_false.1 hin
    have hR : stayR fs = (0, false) := by unfold stayR; rw [if_neg (by omega)]
    rw [hR]
    clear hR hlf h hno
    go_enter Try.func21, Try.ntmps21
    go_wp2_with (go_at_call 72; refine (within_any _ _ _ _).mono ?_; rintro e w' ⟨rfl, rfl⟩)
    go_ret2
    exact ⟨rfl, Below.refl _ _⟩
  | true =>
    have hyes := inB_true.1 hin
    have hR : stayR fs = (loss (stay fs) fs, true) := by unfold stayR; rw [if_pos (by omega)]
    rw [hR]
    obtain ⟨ad, rfl, hc⟩ := h.2 (by omega)
    have HF := Lib.hid hlf
    have H := Lib.hid h
    have HC := Lib.hid hc
    have hsl := stay_length fs (by omega)
    rw [hlf] at hsl
    have HSL := Lib.hid hsl
    have hn1 : 1 ≤ n := by omega
    have hn20 : n ≤ 20 := by omega
    clear hR hlf h hc hyes hsl
    have c2 := fun (A1 : Option Addr) (c1 : Nat) (W : World) (h1 : Reads W 1 A1 n (ints (stay fs))) (h2 : Reads W 1 (some ad) n (bools fs)) => forecastLoss_any A1 (some ad) n c1 c _ _ W (by omega) h1 h2 (stay_bd fs)
    have C2 := Lib.hid c2; clear c2
    generalize hq : loss (stay fs) fs = q at *
    have HQ := Lib.hid hq; clear hq
    have hfill : ∀ W : World, W.ownsRow w.heap.size 3 1 (.slice (some ⟨w.heap.size, 0, none⟩) n n) n (List.replicate n (.int .i64 0)) → W.cell? ⟨w.heap.size, 0, none⟩ = some (.int .i64 0) ∧ W.frozen? ⟨w.heap.size, 0, none⟩ = false := by
      intro W hW
      refine ⟨?_, hW.frozenAt 0⟩
      rw [hW.cellAt 0 (by omega), List.getElem?_replicate, if_pos (by omega)]
    have HFI := Lib.hid hfill; clear hfill
    go_enter Try.func21, Try.ntmps21
    go_wp2_with (first | (go_at_call 72; refine (within_any _ _ _ _).mono ?_; rintro e w' ⟨rfl, rfl⟩) | ((at_make; refine wpList_mk _ rfl (.tmp 11) (.tmp 11) 33 rfl w.heap.size 3 (.int .i64 0) _ infoInt rfl Try.underlying33 _ _ _ _ n rfl rfl rfl rfl (by omega) (by omega) (by first | exact Nat.le_refl _ | omega | (simp; omega)) ?_; intro w1 hown1 hb1 hz1); obtain ⟨hcell0, hfz0⟩ := HFI.out w1 hown1))
    have hown2 : (w1.setCell ⟨w.heap.size, 0, none⟩ (.int .i64 50)).ownsRow w.heap.size 3 1 (.slice (some ⟨w.heap.size, 0, none⟩) n n) n ((ints (stay fs)).take 1 ++ List.replicate (n - 1) (.int .i64 0)) := by
      have := (hown1.stored 0 (.int .i64 50)).1
      have e := mid_set (l := ints (stay fs)) (n := n) (k := 0) (z := .int .i64 0) (x := .int .i64 50) (by simp [HSL.out]) (by omega) (by simp [ints, stay])
      rw [mid_start] at e
      rw [e] at this
      exact this
    have hb2 := hb1.setCell (p := ⟨w.heap.size, 0, none⟩) (Nat.le_refl _) (.int .i64 50)
    have HO2 := Lib.hid (And.intro hown2 hb2)
    clear hown1 hb1 hz1 hown2 hb2 hcell0 hfz0
    generalize hg : w.heap.size = g at *
    go_loopw [5] (fun i wr => ∃ k : Nat, k ≤ n ∧ 1 ≤ k ∧ i = .int .i64 k ∧ wr.ownsRow g 3 1 (.slice (some ⟨g, 0, none⟩) n n) n ((ints (stay fs)).take k ++ List.replicate (n - k) (.int .i64 0)) ∧ Below g w wr) (fun i _ => n - (intOf i).toNat)
    case atStart => exact ⟨1, by omega, by omega, rfl, HO2.out.1, HO2.out.2⟩
    case round =>
      obtain ⟨k, hk, hk1, rfl, hown, hb⟩ := hrel
      have HB := Lib.hid hb; clear hb
      by_cases hlt : k < n
      · obtain ⟨m, rfl⟩ : ∃ m : Nat, k = m + 1 := ⟨k - 1, by omega⟩
        have hfk : m < fs.length := by rw [HF.out]; omega
        have hcell : wr.cell? (ad.add m) = some (.bool fs[m]) := by
          have h1 := HC.out m (.bool fs[m]) (by simp [bools, hfk])
          rw [HB.out.cell (by have := World.block_lt_of_cell? w _ h1; omega)]
          exact h1
        have hget := stay_get fs (m + 1) (by omega) (by rw [HF.out]; omega)
        have hget' : (ints (stay fs))[m + 1]? = some (.int .i64 (saysOf fs[m])) := by rw [ints, List.getElem?_map, hget]; rfl
        clear hget
        generalize fs[m] = f at hcell hget'
        cases f with
        | true =>
          have hold : wr.cell? ⟨g, m + 1, none⟩ = some (.int .i64 0) := by
            rw [hown.cellAt (m + 1) (by omega)]
            exact mid_get (by simp [HSL.out]) hlt
          have hfz : wr.frozen? ⟨g, m + 1, none⟩ = false := hown.frozenAt (m + 1)
          have hs := (hown.stored (m + 1) (.int .i64 100)).1
          rw [mid_set (by simp [HSL.out]) hlt (by simpa [saysOf] using hget')] at hs
          have HS := Lib.hid hs
          have HB2 := Lib.hid (HB.out.setCell (p := ⟨g, m + 1, none⟩) (Nat.le_refl _) (.int .i64 100))
          clear hs hown hget'
          go_wp2
          go_roundw
          case rel => exact ⟨m + 1 + 1, by omega, by omega, by go_num, HS.out, HB2.out⟩
          case measure => simp [intOf]; omega
        | false =>
          rw [mid_skip (by simp [HSL.out]) hlt (by simpa [saysOf] using hget')] at hown
          have HS := Lib.hid hown
          clear hown hget'
          go_wp2
          go_roundw
          case rel => exact ⟨m + 1 + 1, by omega, by omega, by go_num, HS.out, HB.out⟩
          case measure => simp [intOf]; omega
      · obtain rfl : k = n := by omega
        rw [mid_end (by simp [HSL.out])] at hown
        have HO := Lib.hid hown
        clear hown
        go_wp2_with (go_at_call 79; refine (C2.out _ _ _ (Reads.of_own HO.out) (H.out.keep (fun p hp => HB.out.cell (by omega)))).mono ?_; rintro e w' ⟨rfl, rfl⟩)
        go_ret2
        exact ⟨rfl, by rw [← hg] at HB; exact HB.out⟩
set_option maxHeartbeats 2000000 in
set_option maxRecDepth 100000 in
theorem law_FnExactStayLoss (w : World) {v0 : Value} (h0 : IsBools w v0) :
    Calls Try.prog 5 #[v0] w fun e w' => e = .returned (.bool true) ∧ Below w.heap.size w w' := by
  obtain ⟨A0, n0, c0, xs0, rfl, _, _, hr0⟩ := h0
  have HR0 := Lib.hid hr0; clear hr0
  by_cases hn0 : n0 ≤ 1048576
  rotate_left
  · go_enter Try.func5, Try.ntmps5
    go_wp2
    go_ret
    exact ⟨rfl, Below.refl _ _⟩
  go_enter Try.func5, Try.ntmps5
  have BB0 : Hid (Below w.heap.size w w) := Lib.hid (Below.refl _ _)
  go_wp2_with fail
  refine (toBoolS_any A0 n0 c0 xs0 w (by omega) (HR0.out.below BB0.out)).mono ?_
  rintro e w1 ⟨As0, cs0, rfl, hown, hb⟩
  have Os0_1 := Lib.hid hown; clear hown
  have Ls0 := Lib.hid (own_lt Os0_1.out)
  have B0 := Lib.hid hb; clear hb
  have Z0 := Lib.hid (B0.out.size)
  have BB1 := Lib.hid (below_then BB0.out B0.out)
  go_wp2_with fail
  refine (specStayLoss_any As0 n0 cs0 xs0 w1 (by omega) (Reads.of_own Os0_1.out) (own_cap Os0_1.out)).mono ?_
  rintro e w2 ⟨rfl, hb⟩
  have B1 := Lib.hid hb; clear hb
  have Z1 := Lib.hid (B1.out.size)
  have BB2 := Lib.hid (BB1.out.trans (B1.out.mono BB1.out.size))
  have Os0_2 := Lib.hid (own_below Os0_1.out B1.out)
  go_wp2_with fail
  refine (toBoolS_any A0 n0 c0 xs0 w2 (by omega) (HR0.out.below BB2.out)).mono ?_
  rintro e w3 ⟨Ax0, cx0, rfl, hown, hb⟩
  have Ox0_3 := Lib.hid hown; clear hown
  have Lx0 := Lib.hid (own_lt Ox0_3.out)
  have B2 := Lib.hid hb; clear hb
  have Z2 := Lib.hid (B2.out.size)
  have BB3 := Lib.hid (BB2.out.trans (B2.out.mono BB2.out.size))
  go_wp2_with fail
  refine (implStayLoss_any Ax0 n0 cx0 xs0 w3 (by omega) (Reads.of_own Ox0_3.out) (own_cap Ox0_3.out)).mono ?_
  rintro e w4 ⟨rfl, hb⟩
  have B3 := Lib.hid hb; clear hb
  have Z3 := Lib.hid (B3.out.size)
  have BB4 := Lib.hid (BB3.out.trans (B3.out.mono BB3.out.size))
  have Ox0_4 := Lib.hid (own_below Ox0_3.out B3.out)
  go_wp2_with fail
  refine (toBoolS_any A0 n0 c0 xs0 w4 (by omega) (HR0.out.below BB4.out)).mono ?_
  rintro e w5 ⟨At0, ct0, rfl, hown, hb⟩
  have Ot0_5 := Lib.hid hown; clear hown
  have Lt0 := Lib.hid (own_lt Ot0_5.out)
  have B4 := Lib.hid hb; clear hb
  have Z4 := Lib.hid (B4.out.size)
  have BB5 := Lib.hid (BB4.out.trans (B4.out.mono BB4.out.size))
  have Ox0_5 := Lib.hid (own_below Ox0_4.out B4.out)
  go_wp2_with fail
  refine (eqBoolS_any Ax0 At0 n0 cx0 ct0 xs0 w5 (by omega) (Reads.of_own Ox0_5.out) (Reads.of_own Ot0_5.out)).mono ?_
  rintro e w6 ⟨rfl, hb⟩
  replace hb := below_of_quiet (B := w5.heap.size) hb
  have B5 := Lib.hid hb; clear hb
  have Z5 := Lib.hid (B5.out.size)
  have BB6 := Lib.hid (BB5.out.trans (B5.out.mono BB5.out.size))
  have Ox0_6 := Lib.hid (own_below Ox0_5.out B5.out)
  have Ot0_6 := Lib.hid (own_below Ot0_5.out B5.out)
  go_wp2_with fail
  go_ret
  exact ⟨rfl, BB6.out⟩

end Go.Proofs.Ythpfgmnhpnfopaa
