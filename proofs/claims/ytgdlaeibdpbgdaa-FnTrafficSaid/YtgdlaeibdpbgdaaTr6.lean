/- Contracts of SentInHours of both packages, and the law over them. No conditions. -/
import Derived.Test.YtgdlaeibdpbgdaaTr3
namespace Go.Proofs.Ytgdlaeibdpbgdaa
set_option linter.unusedSimpArgs false
set_option linter.unusedVariables false
open Go.RowKit

def drain (cap : Int) : Nat → Int → List Int
  | 0, _ => []
  | f + 1, q => if 0 < q then min q cap :: drain cap f (q - min q cap) else []
def sents (cap : Int) (f : Nat) : Int → List Int → List Int
  | q, [] => drain cap f q
  | q, x :: r => min (q + x) cap :: sents cap f (q + x - min (q + x) cap) r
theorem length_drain (cap : Int) (f : Nat) : ∀ q, (drain cap f q).length ≤ f := by
  induction f with
  | zero => intro q; simp [drain]
  | succ f ih =>
    intro q
    unfold drain
    split
    · have := ih (q - min q cap); simp; omega
    · simp
theorem length_sents (cap : Int) (f : Nat) (xs : List Int) : ∀ q, (sents cap f q xs).length ≤ xs.length + f := by
  induction xs with
  | nil => intro q; have := length_drain cap f q; simp [sents]; exact this
  | cons x r ih => intro q; have := ih (q + x - min (q + x) cap); simp [sents]; omega
theorem drain_stop (cap : Int) (f : Nat) (q : Int) (h : ¬ 0 < q) : drain cap f q = [] := by
  cases f with
  | zero => rfl
  | succ f => simp [drain, h]
def sentR (xs : List Int) (cap : Int) : List Int × Bool := if trafB xs cap = true then (sents cap 12000 0 xs, true) else ([], false)
theorem sentR_bd (xs : List Int) (cap : Int) : (sentR xs cap).1.length ≤ 12060 := by
  unfold sentR
  split
  · rename_i h
    have h1 := (trafB_true.1 h).1.1
    have h2 := length_sents cap 12000 xs 0
    simp only
    omega
  · simp

set_option maxHeartbeats 4000000 in
theorem specSentInHours_any (A : Option Addr) (n c : Nat) (xs : List Int) (cap : Int) (w : World) (hn : n ≤ 1000000000) (h : Reads w 1 A n (ints xs)) :
    Calls Try.prog 27 #[.slice A n c, .int .i64 cap] w (Made2 w 3 1 (sentR xs cap).1.length (ints (sentR xs cap).1) (sentR xs cap).2) := by
  have c1 := trGood_any A n c xs cap w hn h
  cases hg : trafB xs cap with
  | false =>
    rw [hg] at c1
    have hr : sentR xs cap = ([], false) := by simp [sentR, hg]
    rw [hr]
    have C1 := Lib.hid c1
    clear c1 hr h hg
    go_enter Try.func27, Try.ntmps27
    go_wp2_with (go_at_call 52; refine (C1.out).mono ?_; rintro e w' ⟨rfl, rfl⟩)
    go_ret2
    exact ⟨none, 0, rfl, own_start, Below.refl _ _⟩
  | true =>
    rw [hg] at c1
    have C1 := Lib.hid c1
    clear c1
    obtain ⟨⟨hn60, hx⟩, hc1, hc2⟩ := trafB_true.1 hg
    have hlx : xs.length = n := by simpa using h.1
    have hr : sentR xs cap = (sents cap 12000 0 xs, true) := by simp [sentR, hg]
    rw [hr]
    have hL0 : (sents cap 12000 0 xs).drop 0 = sents cap 12000 0 (xs.drop 0) := by simp
    have HL0 := Lib.hid hL0
    have HX := Lib.hid hlx
    have HB := Lib.hid hx
    have H := Lib.hid h
    have hn60' : n ≤ 60 := by omega
    generalize sents cap 12000 0 xs = L at *
    clear hr h hg hlx hx hL0 hn60
    go_enter Try.func27, Try.ntmps27
    go_wp2_with (go_at_call 52; refine (C1.out).mono ?_; rintro e w' ⟨rfl, rfl⟩)
    go_loopw [6, 7, 8] (fun v s i wr => ∃ k F : Nat, ∃ q : Int, ∃ A1 c1, i = .int .i64 k ∧ s = .int .i64 q ∧ v = .slice A1 k c1 ∧ 0 ≤ q ∧ q ≤ (F : Int) ∧ F ≤ 12000 ∧ (k ≤ n → q ≤ 200 * (k : Int)) ∧ (k < n → F = 12000) ∧ (n ≤ k → (k : Int) + q ≤ 201 * (n : Int)) ∧ L.drop k = sents cap F q (xs.drop k) ∧ wr.ownsRow w.heap.size 3 1 (.slice A1 k c1) k (ints (L.take k)) ∧ Below w.heap.size w wr) (fun _ s i _ => (n - (intOf i).toNat) * 1000 + (intOf s).toNat)
    case atStart => exact ⟨0, 12000, 0, none, 0, rfl, rfl, rfl, by omega, by omega, by omega, by omega, by omega, by omega, HL0.out, own_start, Below.refl _ _⟩
    case round =>
      obtain ⟨k, F, q, A1, c1, rfl, rfl, rfl, hq1, hq2, hF, hq3, hF2, hkq, hrel, hown, hb⟩ := hrel
      have hz := hb.size
      have HBL := Lib.hid hb; clear hb
      by_cases hlt : k < n
      · have hFe := hF2 hlt
        have hq4 := hq3 (by omega)
        subst hFe
        clear hF2 hq3 hkq
        obtain ⟨F2, hF2e⟩ : ∃ F2 : Nat, F2 = 12000 := ⟨_, rfl⟩
        obtain ⟨ad, rfl, hc⟩ := (H.out.below HBL.out).2 (by omega)
        have hxk : k < xs.length := by rw [HX.out]; exact hlt
        have hcell : wr.cell? (ad.add k) = some (.int .i64 xs[k]) := hc k _ (by simp [ints, hxk])
        have hbx := HB.out xs[k] (List.getElem_mem hxk)
        rw [drop_cons hxk, ← hF2e] at hrel
        simp only [sents] at hrel
        have HH := Lib.hid (drop_head hrel)
        clear hc hrel
        generalize xs[k] = x at *
        have hF2l : 12000 ≤ F2 ∧ F2 ≤ 12000 := by omega
        clear hF2e
        rcases (show (cap < q + x ∧ min (q + x) cap = cap) ∨ (¬ cap < q + x ∧ min (q + x) cap = q + x) by omega) with ⟨hmx, e⟩ | ⟨hmx, e⟩
        all_goals
          rw [e] at HH
          have E := Lib.hid e; clear e
          go_wp2_with (first | (go_at_call 59; refine (l1Least_any _ _ _).mono ?_; rintro e w' ⟨rfl, rfl⟩; rw [E.out]) | (at_builtin; refine wpList_push _ rfl (.tmp 40) (.tmp 42) 22 rfl w.heap.size 3 (.int .i64 0) 1 8 infoInt rfl (by omega) Try.underlying22 A1 k c1 (ints (L.take k)) rfl (hown.alloc _) (some ⟨wr.heap.size, 0, none⟩) 1 1 [_] rfl (reads_new _ _ _) (by simp [Value.oneCell']) (by omega) (by omega) (by simp; omega) ?_; intro A' c' w1 hown1 hg1 hb1))
          go_roundw
          case rel =>
            refine ⟨k + 1, F2, _, A', c', by go_num, rfl, rfl, by omega, by omega, by omega, by omega, by omega, by omega, (by first | exact HH.out.2.1 | (have hh := HH.out.2.1; rw [Int.sub_self] at hh; exact hh)), ?_, HBL.out.trans (((Below.refl _ _).alloc hz _).trans hb1)⟩
            rw [HH.out.2.2.1]
            simpa [ints] using hown1
          case measure => simp [intOf]; omega
      · have hkn : n ≤ k := by omega
        have hq5 := hkq hkn
        clear hF2 hq3 hkq
        have hE := drop_end (xs := xs) (k := k) (by rw [HX.out]; omega)
        have hE1 := drop_end (xs := xs) (k := k + 1) (by rw [HX.out]; omega)
        rw [hE] at hrel
        simp only [sents] at hrel
        by_cases hq0 : 0 < q
        · obtain ⟨F2, rfl⟩ : ∃ F2, F = F2 + 1 := ⟨F - 1, by omega⟩
          simp only [drain, hq0, if_true] at hrel
          have HH0 := Lib.hid (drop_head hrel)
          have HH : Hid (L[k]? = some (min q cap) ∧ L.drop (k + 1) = sents cap F2 (q - min q cap) (xs.drop (k + 1)) ∧ L.take (k + 1) = L.take k ++ [min q cap] ∧ k < L.length) := by
            rw [hE1]
            exact HH0
          clear hrel hE hE1 HH0
          rcases (show (cap < q ∧ min q cap = cap) ∨ (¬ cap < q ∧ min q cap = q) by omega) with ⟨hmx, e⟩ | ⟨hmx, e⟩
          all_goals
            rw [e] at HH
            have E := Lib.hid e; clear e
            go_wp2_with (first | (go_at_call 59; refine (l1Least_any _ _ _).mono ?_; rintro e w' ⟨rfl, rfl⟩; rw [E.out]) | (at_builtin; refine wpList_push _ rfl (.tmp 40) (.tmp 42) 22 rfl w.heap.size 3 (.int .i64 0) 1 8 infoInt rfl (by omega) Try.underlying22 A1 k c1 (ints (L.take k)) rfl (hown.alloc _) (some ⟨wr.heap.size, 0, none⟩) 1 1 [_] rfl (reads_new _ _ _) (by simp [Value.oneCell']) (by omega) (by omega) (by simp; omega) ?_; intro A' c' w1 hown1 hg1 hb1))
            go_roundw
            case rel =>
              refine ⟨k + 1, F2, _, A', c', by go_num, rfl, rfl, by omega, by omega, by omega, by omega, by omega, by omega, (by first | exact HH.out.2.1 | (have hh := HH.out.2.1; rw [Int.sub_self] at hh; exact hh)), ?_, HBL.out.trans (((Below.refl _ _).alloc hz _).trans hb1)⟩
              rw [HH.out.2.2.1]
              simpa [ints] using hown1
            case measure => simp [intOf]; omega
        · rw [drain_stop cap F q hq0] at hrel
          have hjl : L.length ≤ k := by
            rcases Nat.lt_or_ge k L.length with h1 | h1
            · rw [drop_cons h1] at hrel; cases hrel
            · exact h1
          have e : L.take k = L := List.take_of_length_le hjl
          rw [e] at hown
          have hjj : k = L.length := by have := hown.1; simp at this; omega
          have HJ := Lib.hid hjj
          have HO := Lib.hid hown
          clear hown hrel hjl e hjj hE hE1
          go_wp2
          go_ret2
          rw [HJ.out] at HO
          exact ⟨A1, c1, by rw [HJ.out]; rfl, HO.out, HBL.out⟩

set_option maxHeartbeats 4000000 in
theorem implSentInHours_any (A : Option Addr) (n c : Nat) (xs : List Int) (cap : Int) (w : World) (hn : n ≤ 1000000000) (h : Reads w 1 A n (ints xs)) :
    Calls Try.prog 28 #[.slice A n c, .int .i64 cap] w (Made2 w 3 1 (sentR xs cap).1.length (ints (sentR xs cap).1) (sentR xs cap).2) := by
  have c1 := trafficAsked_any A n c xs cap w hn h
  cases hg : trafB xs cap with
  | false =>
    rw [hg] at c1
    have hr : sentR xs cap = ([], false) := by simp [sentR, hg]
    rw [hr]
    have C1 := Lib.hid c1
    clear c1 hr h hg
    go_enter Try.func28, Try.ntmps28
    go_wp2_with (go_at_call 50; refine (C1.out).mono ?_; rintro e w' ⟨rfl, rfl⟩)
    go_ret2
    exact ⟨none, 0, rfl, own_start, Below.refl _ _⟩
  | true =>
    rw [hg] at c1
    have C1 := Lib.hid c1
    clear c1
    obtain ⟨⟨hn60, hx⟩, hc1, hc2⟩ := trafB_true.1 hg
    have hlx : xs.length = n := by simpa using h.1
    have hr : sentR xs cap = (sents cap 12000 0 xs, true) := by simp [sentR, hg]
    rw [hr]
    have hL0 : (sents cap 12000 0 xs).drop 0 = sents cap 12000 0 (xs.drop 0) := by simp
    have HL0 := Lib.hid hL0
    have HX := Lib.hid hlx
    have HB := Lib.hid hx
    have H := Lib.hid h
    have hn60' : n ≤ 60 := by omega
    generalize sents cap 12000 0 xs = L at *
    clear hr h hg hlx hx hL0 hn60
    go_enter Try.func28, Try.ntmps28
    go_wp2_with (go_at_call 50; refine (C1.out).mono ?_; rintro e w' ⟨rfl, rfl⟩)
    go_loopw [6, 7, 8] (fun v s i wr => ∃ k F : Nat, ∃ q : Int, ∃ A1 c1, i = .int .i64 k ∧ s = .int .i64 q ∧ v = .slice A1 k c1 ∧ 0 ≤ q ∧ q ≤ (F : Int) ∧ F ≤ 12000 ∧ (k ≤ n → q ≤ 200 * (k : Int)) ∧ (k < n → F = 12000) ∧ (n ≤ k → (k : Int) + q ≤ 201 * (n : Int)) ∧ L.drop k = sents cap F q (xs.drop k) ∧ wr.ownsRow w.heap.size 3 1 (.slice A1 k c1) k (ints (L.take k)) ∧ Below w.heap.size w wr) (fun _ s i _ => (n - (intOf i).toNat) * 1000 + (intOf s).toNat)
    case atStart => exact ⟨0, 12000, 0, none, 0, rfl, rfl, rfl, by omega, by omega, by omega, by omega, by omega, by omega, HL0.out, own_start, Below.refl _ _⟩
    case round =>
      obtain ⟨k, F, q, A1, c1, rfl, rfl, rfl, hq1, hq2, hF, hq3, hF2, hkq, hrel, hown, hb⟩ := hrel
      have hz := hb.size
      have HBL := Lib.hid hb; clear hb
      by_cases hlt : k < n
      · have hFe := hF2 hlt
        have hq4 := hq3 (by omega)
        subst hFe
        clear hF2 hq3 hkq
        obtain ⟨F2, hF2e⟩ : ∃ F2 : Nat, F2 = 12000 := ⟨_, rfl⟩
        obtain ⟨ad, rfl, hc⟩ := (H.out.below HBL.out).2 (by omega)
        have hxk : k < xs.length := by rw [HX.out]; exact hlt
        have hcell : wr.cell? (ad.add k) = some (.int .i64 xs[k]) := hc k _ (by simp [ints, hxk])
        have hbx := HB.out xs[k] (List.getElem_mem hxk)
        rw [drop_cons hxk, ← hF2e] at hrel
        simp only [sents] at hrel
        have HH := Lib.hid (drop_head hrel)
        clear hc hrel
        generalize xs[k] = x at *
        have hF2l : 12000 ≤ F2 ∧ F2 ≤ 12000 := by omega
        clear hF2e
        rcases (show (cap < q + x ∧ min (q + x) cap = cap) ∨ (¬ cap < q + x ∧ min (q + x) cap = q + x) by omega) with ⟨hmx, e⟩ | ⟨hmx, e⟩
        all_goals
          rw [e] at HH
          have E := Lib.hid e; clear e
          go_wp2_with (first | (go_at_call 59; refine (l1Least_any _ _ _).mono ?_; rintro e w' ⟨rfl, rfl⟩; rw [E.out]) | (at_builtin; refine wpList_push _ rfl (.tmp 37) (.tmp 39) 22 rfl w.heap.size 3 (.int .i64 0) 1 8 infoInt rfl (by omega) Try.underlying22 A1 k c1 (ints (L.take k)) rfl (hown.alloc _) (some ⟨wr.heap.size, 0, none⟩) 1 1 [_] rfl (reads_new _ _ _) (by simp [Value.oneCell']) (by omega) (by omega) (by simp; omega) ?_; intro A' c' w1 hown1 hg1 hb1))
          go_roundw
          case rel =>
            refine ⟨k + 1, F2, _, A', c', by go_num, rfl, rfl, by omega, by omega, by omega, by omega, by omega, by omega, (by first | exact HH.out.2.1 | (have hh := HH.out.2.1; rw [Int.sub_self] at hh; exact hh)), ?_, HBL.out.trans (((Below.refl _ _).alloc hz _).trans hb1)⟩
            rw [HH.out.2.2.1]
            simpa [ints] using hown1
          case measure => simp [intOf]; omega
      · have hkn : n ≤ k := by omega
        have hq5 := hkq hkn
        clear hF2 hq3 hkq
        have hE := drop_end (xs := xs) (k := k) (by rw [HX.out]; omega)
        have hE1 := drop_end (xs := xs) (k := k + 1) (by rw [HX.out]; omega)
        rw [hE] at hrel
        simp only [sents] at hrel
        by_cases hq0 : 0 < q
        · obtain ⟨F2, rfl⟩ : ∃ F2, F = F2 + 1 := ⟨F - 1, by omega⟩
          simp only [drain, hq0, if_true] at hrel
          have HH0 := Lib.hid (drop_head hrel)
          have HH : Hid (L[k]? = some (min q cap) ∧ L.drop (k + 1) = sents cap F2 (q - min q cap) (xs.drop (k + 1)) ∧ L.take (k + 1) = L.take k ++ [min q cap] ∧ k < L.length) := by
            rw [hE1]
            exact HH0
          clear hrel hE hE1 HH0
          rcases (show (cap < q ∧ min q cap = cap) ∨ (¬ cap < q ∧ min q cap = q) by omega) with ⟨hmx, e⟩ | ⟨hmx, e⟩
          all_goals
            rw [e] at HH
            have E := Lib.hid e; clear e
            go_wp2_with (first | (go_at_call 59; refine (l1Least_any _ _ _).mono ?_; rintro e w' ⟨rfl, rfl⟩; rw [E.out]) | (at_builtin; refine wpList_push _ rfl (.tmp 37) (.tmp 39) 22 rfl w.heap.size 3 (.int .i64 0) 1 8 infoInt rfl (by omega) Try.underlying22 A1 k c1 (ints (L.take k)) rfl (hown.alloc _) (some ⟨wr.heap.size, 0, none⟩) 1 1 [_] rfl (reads_new _ _ _) (by simp [Value.oneCell']) (by omega) (by omega) (by simp; omega) ?_; intro A' c' w1 hown1 hg1 hb1))
            go_roundw
            case rel =>
              refine ⟨k + 1, F2, _, A', c', by go_num, rfl, rfl, by omega, by omega, by omega, by omega, by omega, by omega, (by first | exact HH.out.2.1 | (have hh := HH.out.2.1; rw [Int.sub_self] at hh; exact hh)), ?_, HBL.out.trans (((Below.refl _ _).alloc hz _).trans hb1)⟩
              rw [HH.out.2.2.1]
              simpa [ints] using hown1
            case measure => simp [intOf]; omega
        · rw [drain_stop cap F q hq0] at hrel
          have hjl : L.length ≤ k := by
            rcases Nat.lt_or_ge k L.length with h1 | h1
            · rw [drop_cons h1] at hrel; cases hrel
            · exact h1
          have e : L.take k = L := List.take_of_length_le hjl
          rw [e] at hown
          have hjj : k = L.length := by have := hown.1; simp at this; omega
          have HJ := Lib.hid hjj
          have HO := Lib.hid hown
          clear hown hrel hjl e hjj hE hE1
          go_wp2
          go_ret2
          rw [HJ.out] at HO
          exact ⟨A1, c1, by rw [HJ.out]; rfl, HO.out, HBL.out⟩
set_option maxHeartbeats 2000000 in
set_option maxRecDepth 100000 in
theorem law_FnExactSentInHours (w : World) {v0 v1 : Value} (h0 : IsInts w v0) (h1 : IsInt v1) :
    Calls Try.prog 7 #[v0, v1] w fun e w' => e = .returned (.bool true) ∧ Below w.heap.size w w' := by
  obtain ⟨A0, n0, c0, xs0, rfl, _, _, hr0, _⟩ := h0
  obtain ⟨a1, rfl, _⟩ := h1
  have HR0 := Lib.hid hr0; clear hr0
  by_cases hn0 : n0 ≤ 1048576
  rotate_left
  · go_enter Try.func7, Try.ntmps7
    go_wp2
    go_ret
    exact ⟨rfl, Below.refl _ _⟩
  go_enter Try.func7, Try.ntmps7
  have BB0 : Hid (Below w.heap.size w w) := Lib.hid (Below.refl _ _)
  go_wp2_with fail
  refine (toIntS_any A0 n0 c0 xs0 w (by omega) (HR0.out.below BB0.out)).mono ?_
  rintro e w1 ⟨As0, cs0, rfl, hown, hb⟩
  have Os0_1 := Lib.hid hown; clear hown
  have Ls0 := Lib.hid (own_lt Os0_1.out)
  have B0 := Lib.hid hb; clear hb
  have Z0 := Lib.hid (B0.out.size)
  have BB1 := Lib.hid (below_then BB0.out B0.out)
  go_wp2_with fail
  refine (specSentInHours_any As0 n0 cs0 xs0 a1 w1 (by omega) (Reads.of_own Os0_1.out)).mono ?_
  rintro e w2 ⟨Aw, cw, rfl, hown, hb⟩
  have Ow_2 := Lib.hid hown; clear hown
  have Lw := Lib.hid (own_lt Ow_2.out)
  have B1 := Lib.hid hb; clear hb
  have Z1 := Lib.hid (B1.out.size)
  have BB2 := Lib.hid (BB1.out.trans (B1.out.mono BB1.out.size))
  have Os0_2 := Lib.hid (own_below Os0_1.out B1.out)
  go_wp2_with fail
  refine (toIntS_any A0 n0 c0 xs0 w2 (by omega) (HR0.out.below BB2.out)).mono ?_
  rintro e w3 ⟨Ax0, cx0, rfl, hown, hb⟩
  have Ox0_3 := Lib.hid hown; clear hown
  have Lx0 := Lib.hid (own_lt Ox0_3.out)
  have B2 := Lib.hid hb; clear hb
  have Z2 := Lib.hid (B2.out.size)
  have BB3 := Lib.hid (BB2.out.trans (B2.out.mono BB2.out.size))
  have Ow_3 := Lib.hid (own_below Ow_2.out B2.out)
  go_wp2_with fail
  refine (implSentInHours_any Ax0 n0 cx0 xs0 a1 w3 (by omega) (Reads.of_own Ox0_3.out)).mono ?_
  rintro e w4 ⟨Ag, cg, rfl, hown, hb⟩
  have Og_4 := Lib.hid hown; clear hown
  have Lg := Lib.hid (own_lt Og_4.out)
  have B3 := Lib.hid hb; clear hb
  have Z3 := Lib.hid (B3.out.size)
  have BB4 := Lib.hid (BB3.out.trans (B3.out.mono BB3.out.size))
  have Ow_4 := Lib.hid (own_below Ow_3.out B3.out)
  have Ox0_4 := Lib.hid (own_below Ox0_3.out B3.out)
  go_wp2_with fail
  refine (eqIntS_any Ag Aw ((sentR xs0 a1).1).length cg cw (sentR xs0 a1).1 w4 (by (have := sentR_bd xs0 a1; omega)) (Reads.of_own Og_4.out) (Reads.of_own Ow_4.out)).mono ?_
  rintro e w5 ⟨rfl, hb⟩
  replace hb := below_of_quiet (B := w4.heap.size) hb
  have B4 := Lib.hid hb; clear hb
  have Z4 := Lib.hid (B4.out.size)
  have BB5 := Lib.hid (BB4.out.trans (B4.out.mono BB4.out.size))
  have Ow_5 := Lib.hid (own_below Ow_4.out B4.out)
  have Ox0_5 := Lib.hid (own_below Ox0_4.out B4.out)
  have Og_5 := Lib.hid (own_below Og_4.out B4.out)
  go_wp2_with fail
  refine (toIntS_any A0 n0 c0 xs0 w5 (by omega) (HR0.out.below BB5.out)).mono ?_
  rintro e w6 ⟨At0, ct0, rfl, hown, hb⟩
  have Ot0_6 := Lib.hid hown; clear hown
  have Lt0 := Lib.hid (own_lt Ot0_6.out)
  have B5 := Lib.hid hb; clear hb
  have Z5 := Lib.hid (B5.out.size)
  have BB6 := Lib.hid (BB5.out.trans (B5.out.mono BB5.out.size))
  have Ow_6 := Lib.hid (own_below Ow_5.out B5.out)
  have Ox0_6 := Lib.hid (own_below Ox0_5.out B5.out)
  have Og_6 := Lib.hid (own_below Og_5.out B5.out)
  go_wp2_with fail
  refine (eqIntS_any Ax0 At0 n0 cx0 ct0 xs0 w6 (by omega) (Reads.of_own Ox0_6.out) (Reads.of_own Ot0_6.out)).mono ?_
  rintro e w7 ⟨rfl, hb⟩
  replace hb := below_of_quiet (B := w6.heap.size) hb
  have B6 := Lib.hid hb; clear hb
  have Z6 := Lib.hid (B6.out.size)
  have BB7 := Lib.hid (BB6.out.trans (B6.out.mono BB6.out.size))
  have Ow_7 := Lib.hid (own_below Ow_6.out B6.out)
  have Ox0_7 := Lib.hid (own_below Ox0_6.out B6.out)
  have Og_7 := Lib.hid (own_below Og_6.out B6.out)
  have Ot0_7 := Lib.hid (own_below Ot0_6.out B6.out)
  go_wp2_with fail
  refine (markIntS_any Ax0 n0 cx0 (1) _ _ w7 (by omega) Ox0_7.out).mono ?_
  rintro e w8 ⟨rfl, hown, hg⟩
  have G7 := Lib.hid hg; clear hg
  have Ox0_8 := Lib.hid hown; clear hown
  have Z7 := Lib.hid G7.out.size
  have BB8 := Lib.hid (below_mark BB7.out Ox0_7.out G7.out (by have := Z0.out; have := Z1.out; omega) BB7.out.size)
  have Ow_8 := Lib.hid (kept_earlier Ow_7.out Lw.out Ox0_7.out G7.out (by  omega))
  have Og_8 := Lib.hid (kept_later Og_7.out G7.out Lx0.out (by  omega))
  go_wp2_with fail
  refine (eqIntS_any Ag Aw ((sentR xs0 a1).1).length cg cw (sentR xs0 a1).1 w8 (by (have := sentR_bd xs0 a1; omega)) (Reads.of_own Og_8.out) (Reads.of_own Ow_8.out)).mono ?_
  rintro e w9 ⟨rfl, hb⟩
  replace hb := below_of_quiet (B := w8.heap.size) hb
  have B8 := Lib.hid hb; clear hb
  have Z8 := Lib.hid (B8.out.size)
  have BB9 := Lib.hid (BB8.out.trans (B8.out.mono BB8.out.size))
  have Ow_9 := Lib.hid (own_below Ow_8.out B8.out)
  have Ox0_9 := Lib.hid (own_below Ox0_8.out B8.out)
  have Og_9 := Lib.hid (own_below Og_8.out B8.out)
  go_wp2_with fail
  refine (markIntS_any Ag ((sentR xs0 a1).1).length cg (1) _ _ w9 (by (have := sentR_bd xs0 a1; omega)) Og_9.out).mono ?_
  rintro e w10 ⟨rfl, hown, hg⟩
  have G9 := Lib.hid hg; clear hg
  have Og_10 := Lib.hid hown; clear hown
  have Z9 := Lib.hid G9.out.size
  have BB10 := Lib.hid (below_mark BB9.out Og_9.out G9.out (by have := Z0.out; have := Z1.out; have := Z2.out; omega) BB9.out.size)
  have Ow_10 := Lib.hid (kept_earlier Ow_9.out Lw.out Og_9.out G9.out (by have := Z2.out; omega))
  go_wp2_with fail
  refine (heldIntS_any Ag ((sentR xs0 a1).1).length cg (1) w10 (by (have := sentR_bd xs0 a1; omega)) (Reads.of_own Og_10.out)).mono ?_
  rintro e w11 ⟨rfl, hb⟩
  subst hb
  go_wp2_with fail
  refine (toIntS_any A0 n0 c0 xs0 w10 (by omega) (HR0.out.below BB10.out)).mono ?_
  rintro e w11 ⟨Ay0, cy0, rfl, hown, hb⟩
  have Oy0_11 := Lib.hid hown; clear hown
  have Ly0 := Lib.hid (own_lt Oy0_11.out)
  have B10 := Lib.hid hb; clear hb
  have Z10 := Lib.hid (B10.out.size)
  have BB11 := Lib.hid (BB10.out.trans (B10.out.mono BB10.out.size))
  have Ow_11 := Lib.hid (own_below Ow_10.out B10.out)
  have Og_11 := Lib.hid (own_below Og_10.out B10.out)
  go_wp2_with fail
  refine (implSentInHours_any Ay0 n0 cy0 xs0 a1 w11 (by omega) (Reads.of_own Oy0_11.out)).mono ?_
  rintro e w12 ⟨Ah, ch, rfl, hown, hb⟩
  have Oh_12 := Lib.hid hown; clear hown
  have Lh := Lib.hid (own_lt Oh_12.out)
  have B11 := Lib.hid hb; clear hb
  have Z11 := Lib.hid (B11.out.size)
  have BB12 := Lib.hid (BB11.out.trans (B11.out.mono BB11.out.size))
  have Ow_12 := Lib.hid (own_below Ow_11.out B11.out)
  have Og_12 := Lib.hid (own_below Og_11.out B11.out)
  have Oy0_12 := Lib.hid (own_below Oy0_11.out B11.out)
  go_wp2_with fail
  refine (eqIntS_any Ah Aw ((sentR xs0 a1).1).length ch cw (sentR xs0 a1).1 w12 (by (have := sentR_bd xs0 a1; omega)) (Reads.of_own Oh_12.out) (Reads.of_own Ow_12.out)).mono ?_
  rintro e w13 ⟨rfl, hb⟩
  replace hb := below_of_quiet (B := w12.heap.size) hb
  have B12 := Lib.hid hb; clear hb
  have Z12 := Lib.hid (B12.out.size)
  have BB13 := Lib.hid (BB12.out.trans (B12.out.mono BB12.out.size))
  have Ow_13 := Lib.hid (own_below Ow_12.out B12.out)
  have Og_13 := Lib.hid (own_below Og_12.out B12.out)
  have Oh_13 := Lib.hid (own_below Oh_12.out B12.out)
  go_wp2_with fail
  refine (heldIntS_any Ag ((sentR xs0 a1).1).length cg (1) w13 (by (have := sentR_bd xs0 a1; omega)) (Reads.of_own Og_13.out)).mono ?_
  rintro e w14 ⟨rfl, hb⟩
  subst hb
  go_wp2_with fail
  go_ret
  exact ⟨rfl, BB13.out⟩

end Go.Proofs.Ytgdlaeibdpbgdaa
