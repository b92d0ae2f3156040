/- Contracts of RepairsOf of both packages, and the law over them. No conditions. -/
import Derived.Test.YtjibdabedagghaaPlan
namespace Go.Proofs.Ytjibdabedagghaa
set_option linter.unusedSimpArgs false
set_option linter.unusedVariables false
open Go.RowKit

/-- The indexes, from i on, of the days on which g is repaired. -/
def repF (g : Int) : PL → Int → List Int
  | [], _ => []
  | l :: r, i => if hasB l g then i :: repF g r (i + 1) else repF g r (i + 1)
theorem repF_len (g : Int) (L : PL) : ∀ i, (repF g L i).length ≤ L.length := by
  induction L with
  | nil => intro i; simp [repF]
  | cons l r ih =>
    intro i
    have := ih (i + 1)
    unfold repF
    split <;> simp <;> omega
def repR (L : PL) (g : Int) : List Int × Bool := if (planB 7 L && inB g 0 7) = true then (repF g L 0, true) else ([], false)
theorem repR_len (L : PL) (g : Int) : (repR L g).1.length ≤ 30 := by
  unfold repR
  split
  · rename_i h
    simp [planB] at h
    have := repF_len g L 0
    simp only
    omega
  · simp

set_option maxHeartbeats 1000000 in
theorem specRepairsOf_any (A : Option Addr) (n c : Nat) (L : PL) (g : Int) (w : World) (hn : n ≤ 1000000000) (hl : ∀ l ∈ L, l.length ≤ 1000000000) (h : Reads2 w 1 A n (rowsIntss L)) :
    Calls Try.prog 30 #[.slice A n c, .int .i64 g] w (Made2 w 3 1 (repR L g).1.length (ints (repR L g).1) (repR L g).2) := by
  have HX := Lib.hid (show L.length = n by have := h.len; simpa using this)
  have c1 := rrPlan_any A n c L 8 w hn hl ⟨by omega, by omega⟩ h
  have hm : (8 : Int) - 1 = 7 := rfl
  rw [hm] at c1
  clear hm
  cases h1 : planB 7 L with
  | false =>
    rw [h1] at c1
    have C1 := Lib.hid c1
    have hr : repR L g = ([], false) := by simp [repR, h1]
    rw [hr]
    clear c1 hr h1 h hl
    go_enter Try.func30, Try.ntmps30
    go_wp2_with (first | (go_at_call 76; refine (C1.out).mono ?_; rintro e w1 ⟨rfl, rfl⟩) | (go_at_call 68; refine (l1In_any _ _ _ _).mono ?_; rintro e w' ⟨rfl, rfl⟩))
    go_ret2
    exact ⟨none, 0, rfl, own_start, (Below.refl _ _)⟩
  | true =>
    rw [h1] at c1
    have C1 := Lib.hid c1
    cases h2 : inB g 0 7 with
    | false =>
      have hr : repR L g = ([], false) := by simp [repR, h2]
      rw [hr]
      clear c1 hr h1 h hl
      go_enter Try.func30, Try.ntmps30
      go_wp2_with (first | (go_at_call 76; refine (C1.out).mono ?_; rintro e w1 ⟨rfl, rfl⟩) | (go_at_call 68; refine (l1In_any _ _ _ _).mono ?_; rintro e w' ⟨rfl, rfl⟩))
      go_ret2
      exact ⟨none, 0, rfl, own_start, (Below.refl _ _)⟩
    | true =>
      have hr : repR L g = (repF g L 0, true) := by simp [repR, h1, h2]
      rw [hr]
      have hn30 : n ≤ 30 := by simp [planB] at h1; have := HX.out; omega
      have H := Lib.hid h
      have HL := Lib.hid hl
      clear c1 hr h1 h hl
      go_enter Try.func30, Try.ntmps30
      go_wp2_with (first | (go_at_call 76; refine (C1.out).mono ?_; rintro e w1 ⟨rfl, rfl⟩) | (go_at_call 68; refine (l1In_any _ _ _ _).mono ?_; rintro e w' ⟨rfl, rfl⟩))
      go_loopw [6, 19] (fun v i wr => ∃ k q : Nat, ∃ A1 c1, ∃ o : List Int, k ≤ n ∧ q ≤ k ∧ i = .int .i64 k ∧ v = .slice A1 q c1 ∧ o.length = q ∧ repF g L 0 = o ++ repF g (L.drop k) (k : Int) ∧ wr.ownsRow w.heap.size 3 1 (.slice A1 q c1) q (ints o) ∧ Below w.heap.size w wr) (fun _ i _ => n - (intOf i).toNat)
      case atStart => exact ⟨0, 0, none, 0, [], Nat.zero_le _, Nat.zero_le _, rfl, rfl, rfl, rfl, own_start, (Below.refl _ _)⟩
      case round =>
        obtain ⟨k, q, A1, c1, o, hk, hq, rfl, rfl, hol, hrel, hown, hb⟩ := hrel
        have hz := hb.size
        have HBL := Lib.hid hb; clear hb
        have HR := Lib.hid hrel; clear hrel
        have HOL := Lib.hid hol; clear hol
        by_cases hlt : k < n
        · have hx : k < L.length := by rw [HX.out]; exact hlt
          obtain ⟨ad, Ai, ci, rfl, kc, _, _, hr⟩ := (H.out.below HBL.out).row (rowsIntss_get hx)
          have HRR := Lib.hid hr; clear hr
          have HXL := Lib.hid (HL.out L[k] (List.getElem_mem hx))
          have HD := Lib.hid (drop_cons hx)
          generalize L[k] = l at *
          simp only [length_ints] at kc HRR
          cases hh : hasB l g with
          | false =>
            have HN : Hid (repF g (L.drop k) (k : Int) = repF g (L.drop (k + 1)) ((k + 1 : Nat) : Int)) := Lib.hid (by rw [HD.out]; simp [repF, hh])
            have HH := Lib.hid hh
            have HO := Lib.hid hown; clear hown
            go_wp2_with (go_at_call 70; refine (l1Has_any Ai l.length ci l g _ HXL.out HRR.out).mono ?_; rintro e w' ⟨rfl, rfl⟩)
            go_roundw
            case rel => exact ⟨k + 1, q, A1, c1, o, by omega, by omega, by go_num, rfl, HOL.out, by rw [← HN.out]; exact HR.out, HO.out, HBL.out⟩
            case measure => simp [intOf]; omega
          | true =>
            have HN : Hid (repF g (L.drop k) (k : Int) = (k : Int) :: repF g (L.drop (k + 1)) ((k + 1 : Nat) : Int)) := Lib.hid (by rw [HD.out]; simp [repF, hh])
            go_wp2_with (first | (go_at_call 70; refine (l1Has_any Ai l.length ci l g _ HXL.out HRR.out).mono ?_; rintro e w' ⟨rfl, rfl⟩) | (at_builtin; refine wpList_push _ rfl (.tmp 27) (.tmp 29) 38 rfl w.heap.size 3 (.int .i64 0) 1 8 infoInt rfl (by omega) Try.underlying38 A1 q c1 (ints o) rfl (hown.alloc _) (some ⟨wr.heap.size, 0, none⟩) 1 1 [_] rfl (reads_new _ _ _) (by simp [Value.oneCell']) (by omega) (by omega) (by simp; omega) ?_; intro A' c' w1 hown1 hg1 hb1))
            go_roundw
            case rel =>
              refine ⟨k + 1, q + 1, A', c', o ++ [(k : Int)], by omega, by omega, by go_num, rfl, by simp [HOL.out], ?_, ?_, HBL.out.trans (((Below.refl _ _).alloc hz _).trans hb1)⟩
              · rw [HR.out, HN.out]; simp
              · simpa [ints] using hown1
            case measure => simp [intOf]; try omega
        · obtain rfl : k = n := by omega
          have HE := Lib.hid (drop_end (xs := L) (k := k) (by rw [HX.out]; omega))
          have HF : Hid (repF g L 0 = o) := Lib.hid (by rw [HR.out, HE.out]; simp [repF])
          have HO := Lib.hid hown; clear hown
          go_wp2
          go_ret2
          rw [HF.out]
          have hq' := HOL.out
          subst hq'
          exact ⟨A1, c1, rfl, HO.out, HBL.out⟩

set_option maxHeartbeats 1000000 in
theorem implRepairsOf_any (A : Option Addr) (n c : Nat) (L : PL) (g : Int) (w : World) (hn : n ≤ 1000000000) (hl : ∀ l ∈ L, l.length ≤ 1000000000) (h : Reads2 w 1 A n (rowsIntss L)) :
    Calls Try.prog 32 #[.slice A n c, .int .i64 g] w (Made2 w 3 1 (repR L g).1.length (ints (repR L g).1) (repR L g).2) := by
  have HX := Lib.hid (show L.length = n by have := h.len; simpa using this)
  have c1 := isPlan_any A n c L w hn hl h
  have hm : (8 : Int) - 1 = 7 := rfl
  
  clear hm
  cases h1 : planB 7 L with
  | false =>
    rw [h1] at c1
    have C1 := Lib.hid c1
    have hr : repR L g = ([], false) := by simp [repR, h1]
    rw [hr]
    clear c1 hr h1 h hl
    go_enter Try.func32, Try.ntmps32
    go_wp2_with (first | (go_at_call 77; refine (C1.out).mono ?_; rintro e w1 ⟨rfl, hb⟩; have HB1 := Lib.hid hb; clear hb) | (go_at_call 73; refine (within_any _ _ _ _).mono ?_; rintro e w' ⟨rfl, rfl⟩))
    go_ret2
    exact ⟨none, 0, rfl, own_start, HB1.out⟩
  | true =>
    rw [h1] at c1
    have C1 := Lib.hid c1
    cases h2 : inB g 0 7 with
    | false =>
      have hr : repR L g = ([], false) := by simp [repR, h2]
      rw [hr]
      clear c1 hr h1 h hl
      go_enter Try.func32, Try.ntmps32
      go_wp2_with (first | (go_at_call 77; refine (C1.out).mono ?_; rintro e w1 ⟨rfl, hb⟩; have HB1 := Lib.hid hb; clear hb) | (go_at_call 73; refine (within_any _ _ _ _).mono ?_; rintro e w' ⟨rfl, rfl⟩))
      go_ret2
      exact ⟨none, 0, rfl, own_start, HB1.out⟩
    | true =>
      have hr : repR L g = (repF g L 0, true) := by simp [repR, h1, h2]
      rw [hr]
      have hn30 : n ≤ 30 := by simp [planB] at h1; have := HX.out; omega
      have H := Lib.hid h
      have HL := Lib.hid hl
      clear c1 hr h1 h hl
      go_enter Try.func32, Try.ntmps32
      go_wp2_with (first | (go_at_call 77; refine (C1.out).mono ?_; rintro e w1 ⟨rfl, hb⟩; have HB1 := Lib.hid hb; clear hb) | (go_at_call 73; refine (within_any _ _ _ _).mono ?_; rintro e w' ⟨rfl, rfl⟩))
      go_loopw [6, 19] (fun v i wr => ∃ k q : Nat, ∃ A1 c1, ∃ o : List Int, k ≤ n ∧ q ≤ k ∧ i = .int .i64 k ∧ v = .slice A1 q c1 ∧ o.length = q ∧ repF g L 0 = o ++ repF g (L.drop k) (k : Int) ∧ wr.ownsRow w.heap.size 3 1 (.slice A1 q c1) q (ints o) ∧ Below w.heap.size w wr) (fun _ i _ => n - (intOf i).toNat)
      case atStart => exact ⟨0, 0, none, 0, [], Nat.zero_le _, Nat.zero_le _, rfl, rfl, rfl, rfl, own_start, HB1.out⟩
      case round =>
        obtain ⟨k, q, A1, c1, o, hk, hq, rfl, rfl, hol, hrel, hown, hb⟩ := hrel
        have hz := hb.size
        have HBL := Lib.hid hb; clear hb
        have HR := Lib.hid hrel; clear hrel
        have HOL := Lib.hid hol; clear hol
        by_cases hlt : k < n
        · have hx : k < L.length := by rw [HX.out]; exact hlt
          obtain ⟨ad, Ai, ci, rfl, kc, _, _, hr⟩ := (H.out.below HBL.out).row (rowsIntss_get hx)
          have HRR := Lib.hid hr; clear hr
          have HXL := Lib.hid (HL.out L[k] (List.getElem_mem hx))
          have HD := Lib.hid (drop_cons hx)
          generalize L[k] = l at *
          simp only [length_ints] at kc HRR
          cases hh : hasB l g with
          | false =>
            have HN : Hid (repF g (L.drop k) (k : Int) = repF g (L.drop (k + 1)) ((k + 1 : Nat) : Int)) := Lib.hid (by rw [HD.out]; simp [repF, hh])
            have HH := Lib.hid hh
            have HO := Lib.hid hown; clear hown
            go_wp2_with (go_at_call 74; refine (slContains_any Ai l.length ci l g _ HXL.out HRR.out).mono ?_; rintro e w' ⟨rfl, rfl⟩)
            go_roundw
            case rel => exact ⟨k + 1, q, A1, c1, o, by omega, by omega, by go_num, rfl, HOL.out, by rw [← HN.out]; exact HR.out, HO.out, HBL.out⟩
            case measure => simp [intOf]; omega
          | true =>
            have HN : Hid (repF g (L.drop k) (k : Int) = (k : Int) :: repF g (L.drop (k + 1)) ((k + 1 : Nat) : Int)) := Lib.hid (by rw [HD.out]; simp [repF, hh])
            go_wp2_with (first | (go_at_call 74; refine (slContains_any Ai l.length ci l g _ HXL.out HRR.out).mono ?_; rintro e w' ⟨rfl, rfl⟩) | (at_builtin; refine wpList_push _ rfl (.tmp 27) (.tmp 29) 38 rfl w.heap.size 3 (.int .i64 0) 1 8 infoInt rfl (by omega) Try.underlying38 A1 q c1 (ints o) rfl (hown.alloc _) (some ⟨wr.heap.size, 0, none⟩) 1 1 [_] rfl (reads_new _ _ _) (by simp [Value.oneCell']) (by omega) (by omega) (by simp; omega) ?_; intro A' c' w1 hown1 hg1 hb1))
            go_roundw
            case rel =>
              refine ⟨k + 1, q + 1, A', c', o ++ [(k : Int)], by omega, by omega, by go_num, rfl, by simp [HOL.out], ?_, ?_, HBL.out.trans (((Below.refl _ _).alloc hz _).trans hb1)⟩
              · rw [HR.out, HN.out]; simp
              · simpa [ints] using hown1
            case measure => simp [intOf]; try omega
        · obtain rfl : k = n := by omega
          have HE := Lib.hid (drop_end (xs := L) (k := k) (by rw [HX.out]; omega))
          have HF : Hid (repF g L 0 = o) := Lib.hid (by rw [HR.out, HE.out]; simp [repF])
          have HO := Lib.hid hown; clear hown
          go_wp2
          go_ret2
          rw [HF.out]
          have hq' := HOL.out
          subst hq'
          exact ⟨A1, c1, rfl, HO.out, HBL.out⟩
set_option maxHeartbeats 4000000 in
set_option maxRecDepth 100000 in
theorem law_FnExactRepairsOf (w : World) {v0 v1 : Value} (h0 : IsIntss w v0) (h1 : IsInt v1) :
    Calls Try.prog 7 #[v0, v1] w fun e w' => e = .returned (.bool true) ∧ Below w.heap.size w w' := by
  obtain ⟨A0, n0, c0, xs0, rfl, hnc0, hcm0, _, hr0, hin0⟩ := h0
  obtain ⟨a1, rfl, _⟩ := h1
  have HR0 := Lib.hid (hr0); clear hr0
  have HIN0 := Lib.hid hin0; clear hin0
  obtain ⟨s0, hs0⟩ : ∃ s, s = n0 + tot (xs0.map ints) := ⟨_, rfl⟩
  have HS_0 := Lib.hid hs0
  have hs0' : n0 ≤ s0 := by omega
  clear hs0
  by_cases hz0 : s0 ≤ 1048576
  rotate_left
  · go_enter Try.func7, Try.ntmps7
    go_wp2_with fail
    refine (szIntSS_bigI A0 n0 c0 xs0 _ s0 _ (by omega) (by omega) (by omega) (by omega) HS_0.out (fun x hx => (HIN0.out x hx).1) HR0.out).mono ?_
    rintro e w' ⟨rfl, rfl⟩
    go_wp2_with fail
    go_ret
    exact ⟨rfl, (Below.refl _ _)⟩
  have HLX0 := Lib.hid (bdIntSS (xs := xs0) (n := n0) (s := s0) HS_0.out (by omega))
  obtain ⟨S0, hS0⟩ : ∃ S0, S0 = w := ⟨_, rfl⟩
  have HS0 := Lib.hid hS0
  have BW0 : Hid (Below w.heap.size w S0 ∧ w.heap.size ≤ S0.heap.size) := Lib.hid (by subst hS0; exact ⟨(Below.refl _ _), by simp; try omega⟩)
  rw [← hS0] at HR0
  clear hS0
  go_enter Try.func7, Try.ntmps7
  try rw [← HS0.out]
  go_wp2_with fail
  try rw [← HS0.out]
  refine (szIntSS_okI A0 n0 c0 xs0 _ s0 _ (by omega) (by omega) (by omega) (by omega) HS_0.out (fun x hx => (HIN0.out x hx).1) HR0.out).mono ?_
  rintro e w' ⟨rfl, rfl⟩
  have BB0 : Hid (Below S0.heap.size S0 S0) := Lib.hid (Below.refl _ _)
  try rw [← HS0.out]
  go_wp2_with fail
  try rw [← HS0.out]
  refine (toIntSS_any A0 n0 c0 xs0 S0 (by omega) HLX0.out (HR0.out.below BB0.out)).mono ?_
  rintro e w1 ⟨As0, cs0, hss0, rfl, hown, hb⟩
  have Os0_1 := Lib.hid hown; clear hown
  have B0 := Lib.hid hb; clear hb
  have Z0 := Lib.hid (B0.out.size)
  have BB1 := Lib.hid (BB0.out.trans (B0.out.mono BB0.out.size))
  go_wp2_with fail
  refine (specRepairsOf_any As0 n0 cs0 xs0 a1 w1 (by omega) HLX0.out (Reads2.of_own Os0_1.out)).mono ?_
  rintro e w2 ⟨Aw, cw, rfl, hown, hb⟩
  have Ow_2 := Lib.hid hown; clear hown
  have Lw := Lib.hid (own_lt Ow_2.out)
  have B1 := Lib.hid hb; clear hb
  have Z1 := Lib.hid (B1.out.size)
  have BB2 := Lib.hid (BB1.out.trans (B1.out.mono BB1.out.size))
  have Os0_2 := Lib.hid (Os0_1.out.below B1.out (Nat.le_refl _))
  go_wp2_with fail
  refine (toIntSS_any A0 n0 c0 xs0 w2 (by omega) HLX0.out (HR0.out.below BB2.out)).mono ?_
  rintro e w3 ⟨Ax0, cx0, hsx0, rfl, hown, hb⟩
  have Ox0_3 := Lib.hid hown; clear hown
  have B2 := Lib.hid hb; clear hb
  have Z2 := Lib.hid (B2.out.size)
  have BB3 := Lib.hid (BB2.out.trans (B2.out.mono BB2.out.size))
  have Ow_3 := Lib.hid (own_below Ow_2.out B2.out)
  go_wp2_with fail
  refine (implRepairsOf_any Ax0 n0 cx0 xs0 a1 w3 (by omega) HLX0.out (Reads2.of_own Ox0_3.out)).mono ?_
  rintro e w4 ⟨Ag, cg, rfl, hown, hb⟩
  have Og_4 := Lib.hid hown; clear hown
  have Lg := Lib.hid (own_lt Og_4.out)
  have B3 := Lib.hid hb; clear hb
  have Z3 := Lib.hid (B3.out.size)
  have BB4 := Lib.hid (BB3.out.trans (B3.out.mono BB3.out.size))
  have Ow_4 := Lib.hid (own_below Ow_3.out B3.out)
  have Ox0_4 := Lib.hid (Ox0_3.out.below B3.out (Nat.le_refl _))
  go_wp2_with fail
  refine (eqIntS_any Ag Aw ((repR xs0 a1).1).length cg cw (repR xs0 a1).1 w4 (by (have := repR_len xs0 a1; omega))  (Reads.of_own Og_4.out) (Reads.of_own Ow_4.out)).mono ?_
  rintro e w5 ⟨rfl, hb⟩
  replace hb := below_of_quiet (B := w4.heap.size) hb
  have B4 := Lib.hid hb; clear hb
  have Z4 := Lib.hid (B4.out.size)
  have BB5 := Lib.hid (BB4.out.trans (B4.out.mono BB4.out.size))
  have Ow_5 := Lib.hid (own_below Ow_4.out B4.out)
  have Ox0_5 := Lib.hid (Ox0_4.out.below B4.out (by have := Z3.out; omega))
  have Og_5 := Lib.hid (own_below Og_4.out B4.out)
  go_wp2_with fail
  refine (toIntSS_any A0 n0 c0 xs0 w5 (by omega) HLX0.out (HR0.out.below BB5.out)).mono ?_
  rintro e w6 ⟨At0, ct0, hst0, rfl, hown, hb⟩
  have Ot0_6 := Lib.hid hown; clear hown
  have B5 := Lib.hid hb; clear hb
  have Z5 := Lib.hid (B5.out.size)
  have BB6 := Lib.hid (BB5.out.trans (B5.out.mono BB5.out.size))
  have Ow_6 := Lib.hid (own_below Ow_5.out B5.out)
  have Ox0_6 := Lib.hid (Ox0_5.out.below B5.out (by have := Z3.out; have := Z4.out; omega))
  have Og_6 := Lib.hid (own_below Og_5.out B5.out)
  go_wp2_with fail
  refine (eqIntSS_any Ax0 At0 n0 cx0 ct0 xs0 w6 (by omega) HLX0.out (Reads2.of_own Ox0_6.out) (Reads2.of_own Ot0_6.out)).mono ?_
  rintro e w7 ⟨rfl, hb⟩
  have B6 := Lib.hid hb; clear hb
  have Z6 := Lib.hid (B6.out.size)
  have BB7 := Lib.hid (BB6.out.trans (B6.out.mono BB6.out.size))
  have Ow_7 := Lib.hid (own_below Ow_6.out B6.out)
  have Ox0_7 := Lib.hid (Ox0_6.out.below B6.out (by have := Z3.out; have := Z4.out; have := Z5.out; omega))
  have Og_7 := Lib.hid (own_below Og_6.out B6.out)
  have Ot0_7 := Lib.hid (Ot0_6.out.below B6.out (Nat.le_refl _))
  go_wp2_with fail
  refine (markIntSS_any Ax0 n0 cx0 (1) w2.heap.size w3.heap.size (xs0.map ints) hsx0 w7 (by have := HS_0.out; omega) (by have := HS_0.out; omega) (by have := Z3.out; have := Z4.out; have := Z5.out; have := Z6.out; omega) Ox0_7.out).mono ?_
  rintro e w8 ⟨rfl, hown, hT⟩
  have T7 := Lib.hid hT; clear hT
  have Ox0_8 := Lib.hid hown; clear hown
  have Z7 := Lib.hid T7.out.size
  have BB8 := Lib.hid (below_turned BB7.out T7.out (by have := Z0.out; have := Z1.out; omega) BB7.out.size)
  have Ow_8 := Lib.hid (row_turned_after Ow_7.out T7.out Lw.out (Nat.le_refl _))
  have Og_8 := Lib.hid (row_turned_before Og_7.out T7.out (Nat.le_refl _))
  go_wp2_with fail
  refine (eqIntS_any Ag Aw ((repR xs0 a1).1).length cg cw (repR xs0 a1).1 w8 (by (have := repR_len xs0 a1; omega))  (Reads.of_own Og_8.out) (Reads.of_own Ow_8.out)).mono ?_
  rintro e w9 ⟨rfl, hb⟩
  replace hb := below_of_quiet (B := w8.heap.size) hb
  have B8 := Lib.hid hb; clear hb
  have Z8 := Lib.hid (B8.out.size)
  have BB9 := Lib.hid (BB8.out.trans (B8.out.mono BB8.out.size))
  have Ow_9 := Lib.hid (own_below Ow_8.out B8.out)
  have Ox0_9 := Lib.hid (Ox0_8.out.below B8.out (by have := Z3.out; have := Z4.out; have := Z5.out; have := Z6.out; have := Z7.out; omega))
  have Og_9 := Lib.hid (own_below Og_8.out B8.out)
  go_wp2_with fail
  refine (markIntS_any Ag ((repR xs0 a1).1).length cg (1) _ _ w9 (by (have := repR_len xs0 a1; omega)) Og_9.out).mono ?_
  rintro e w10 ⟨rfl, hown, hg⟩
  have hT := Turned.of_mark hg Og_9.out Lg.out; clear hg
  have T9 := Lib.hid hT; clear hT
  have Og_10 := Lib.hid hown; clear hown
  have Z9 := Lib.hid T9.out.size
  have BB10 := Lib.hid (below_turned BB9.out T9.out (by have := Z0.out; have := Z1.out; have := Z2.out; omega) BB9.out.size)
  have Ow_10 := Lib.hid (row_turned_after Ow_9.out T9.out Lw.out (by have := Z2.out; omega))
  go_wp2_with fail
  refine (heldIntS_any Ag ((repR xs0 a1).1).length cg (1) w10 (by (have := repR_len xs0 a1; omega)) (Reads.of_own Og_10.out)).mono ?_
  rintro e w11 ⟨rfl, hb⟩
  subst hb
  go_wp2_with fail
  refine (toIntSS_any A0 n0 c0 xs0 w10 (by omega) HLX0.out (HR0.out.below BB10.out)).mono ?_
  rintro e w11 ⟨Ay0, cy0, hsy0, rfl, hown, hb⟩
  have Oy0_11 := Lib.hid hown; clear hown
  have B10 := Lib.hid hb; clear hb
  have Z10 := Lib.hid (B10.out.size)
  have BB11 := Lib.hid (BB10.out.trans (B10.out.mono BB10.out.size))
  have Ow_11 := Lib.hid (own_below Ow_10.out B10.out)
  have Og_11 := Lib.hid (own_below Og_10.out B10.out)
  go_wp2_with fail
  refine (implRepairsOf_any Ay0 n0 cy0 xs0 a1 w11 (by omega) HLX0.out (Reads2.of_own Oy0_11.out)).mono ?_
  rintro e w12 ⟨Ah, ch, rfl, hown, hb⟩
  have Oh_12 := Lib.hid hown; clear hown
  have Lh := Lib.hid (own_lt Oh_12.out)
  have B11 := Lib.hid hb; clear hb
  have Z11 := Lib.hid (B11.out.size)
  have BB12 := Lib.hid (BB11.out.trans (B11.out.mono BB11.out.size))
  have Ow_12 := Lib.hid (own_below Ow_11.out B11.out)
  have Og_12 := Lib.hid (own_below Og_11.out B11.out)
  have Oy0_12 := Lib.hid (Oy0_11.out.below B11.out (Nat.le_refl _))
  go_wp2_with fail
  refine (eqIntS_any Ah Aw ((repR xs0 a1).1).length ch cw (repR xs0 a1).1 w12 (by (have := repR_len xs0 a1; omega))  (Reads.of_own Oh_12.out) (Reads.of_own Ow_12.out)).mono ?_
  rintro e w13 ⟨rfl, hb⟩
  replace hb := below_of_quiet (B := w12.heap.size) hb
  have B12 := Lib.hid hb; clear hb
  have Z12 := Lib.hid (B12.out.size)
  have BB13 := Lib.hid (BB12.out.trans (B12.out.mono BB12.out.size))
  have Ow_13 := Lib.hid (own_below Ow_12.out B12.out)
  have Og_13 := Lib.hid (own_below Og_12.out B12.out)
  have Oh_13 := Lib.hid (own_below Oh_12.out B12.out)
  go_wp2_with fail
  refine (heldIntS_any Ag ((repR xs0 a1).1).length cg (1) w13 (by (have := repR_len xs0 a1; omega)) (Reads.of_own Og_13.out)).mono ?_
  rintro e w14 ⟨rfl, hb⟩
  subst hb
  go_wp2_with fail
  go_ret
  first | exact ⟨rfl, BW0.out.1.trans (BB13.out.mono BW0.out.2)⟩ | exact ⟨rfl, BB13.out⟩

end Go.Proofs.Ytjibdabedagghaa
