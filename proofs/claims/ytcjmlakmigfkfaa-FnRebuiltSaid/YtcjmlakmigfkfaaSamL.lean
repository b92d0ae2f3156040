/- The laws' tests of logs, gaps and lists: what is the same is found so. No conditions. -/
import Derived.Test.YtcjmlakmigfkfaaOnly
import Derived.Test.YtcjmlakmigfkfaaSame
import Derived.Test.YtcjmlakmigfkfaaBel
namespace Go.Proofs.Ytcjmlakmigfkfaa
set_option linter.unusedSimpArgs false
set_option linter.unusedVariables false
open Go.RowKit

theorem sameInts_self (A B : Option Addr) (n c c' : Nat) (l : List Int) (w : World) (hn : n ≤ 1000000000) (h : Reads w 1 A n (ints l)) (h' : Reads w 1 B n (ints l)) :
    Calls Try.prog 81 #[.slice A n c, .slice B n c'] w fun e w' => e = .returned (.bool true) ∧ Quiet w w' := by
  have := sameInts_any A n c l B n c' l w hn hn h h'
  simpa [sameB] using this
set_option maxHeartbeats 1000000 in
theorem sameLists_same (A B : Option Addr) (n c c' : Nat) (L : List (List Int)) (w : World) (hn : n ≤ 1000000000) (hl : ∀ l ∈ L, l.length ≤ 1000000000) (h : Reads2 w 1 A n (rowsIntss L)) (h' : Reads2 w 1 B n (rowsIntss L)) :
    Calls Try.prog 44 #[.slice A n c, .slice B n c'] w fun e w' => e = .returned (.bool true) ∧ Below w.heap.size w w' := by
  have HX := Lib.hid (show L.length = n by have := h.len; simpa using this)
  have HL := Lib.hid hl
  have H := Lib.hid h
  have H' := Lib.hid h'
  clear h h' hl
  go_enter Try.func44, Try.ntmps44
  go_wp2
  go_loopw [13] (fun i wr => ∃ k : Nat, k ≤ n ∧ i = .int .i64 k ∧ Below w.heap.size w wr) (fun i _ => n - (intOf i).toNat)
  case atStart => exact ⟨0, Nat.zero_le _, rfl, Below.refl _ _⟩
  case round =>
    obtain ⟨k, hk, rfl, hb⟩ := hrel
    have HB := Lib.hid hb; clear hb
    by_cases hlt : k < n
    · have hx : k < L.length := by rw [HX.out]; exact hlt
      obtain ⟨ad, Ai, ci, rfl, kc, _, _, hr⟩ := (H.out.below HB.out).row (rowsIntss_get hx)
      obtain ⟨ad', Bi, di, rfl, jc, _, _, hr'⟩ := (H'.out.below HB.out).row (rowsIntss_get hx)
      have HR := Lib.hid hr; clear hr
      have HR' := Lib.hid hr'; clear hr'
      have HXL := Lib.hid (HL.out L[k] (List.getElem_mem hx))
      generalize L[k] = l at *
      simp only [length_ints] at kc jc HR HR'
      go_wp2
      go_region_with (go_at_call 81; refine (sameInts_self Ai Bi l.length ci di l _ (by have := HXL.out; omega) HR.out.drew HR'.out.drew).mono ?_; rintro e w1 ⟨rfl, hq1⟩; have HB1 := Lib.hid (below_of_quiet (B := wr.heap.size) hq1); clear hq1)
      all_goals
        go_wp2
        go_roundw
        case rel => exact ⟨k + 1, by omega, by go_num, HB.out.drew.trans (HB1.out.mono HB.out.size)⟩
        case measure => simp [intOf]; omega
    · go_wp2
      go_ret
      exact ⟨rfl, HB.out⟩
set_option maxHeartbeats 40000000 in
set_option maxRecDepth 1000000 in
theorem pSameLog_same (A B : Option Addr) (n c c' : Nat) (L : List EntryT) (w : World) (hn : n ≤ 1000000000) (hl : ∀ x ∈ L, lenE 1000000000 x) (h : Reads2 w 5 A n (rowsE L)) (h' : Reads2 w 5 B n (rowsE L)) :
    Calls Try.prog 32 #[.slice A n c, .slice B n c'] w fun e w' => e = .returned (.bool true) ∧ Below w.heap.size w w' := by
  have HX := Lib.hid (show L.length = n by have := h.len; rw [length_rowsE] at this; omega)
  have HL := Lib.hid hl
  have H := Lib.hid h
  have H' := Lib.hid h'
  clear h h' hl
  go_enter Try.func32, Try.ntmps32
  go_wp2
  go_loopw [13] (fun i wr => ∃ k : Nat, k ≤ n ∧ i = .int .i64 k ∧ Below w.heap.size w wr) (fun i _ => n - (intOf i).toNat)
  case atStart => exact ⟨0, Nat.zero_le _, rfl, Below.refl _ _⟩
  case round =>
    obtain ⟨k, hk, rfl, hb⟩ := hrel
    have HB := Lib.hid hb; clear hb
    by_cases hlt : k < n
    · have hx : k < L.length := by rw [HX.out]; exact hlt
      obtain ⟨ad, A3, c3, A4, c4, rfl, k0, k1, k2, k3, k4, r3, r4⟩ := rowsE_at (H.out.below HB.out) hx
      obtain ⟨bd, B3, d3, B4, d4, rfl, j0, j1, j2, j3, j4, s3, s4⟩ := rowsE_at (H'.out.below HB.out) hx
      have HXL := Lib.hid (HL.out L[k] (List.getElem_mem hx))
      generalize L[k] = x at *
      obtain ⟨t, m, p, l, l'⟩ := x
      simp only at k0 k1 k2 k3 k4 r3 r4 j0 j1 j2 j3 j4 s3 s4
      have hx3 : l.length ≤ 1000000000 := by have := HXL.out; unfold lenE at this; exact this.1
      have hx4 : l'.length ≤ 1000000000 := by have := HXL.out; unfold lenE at this; exact this.2
      have CS3 := fun V : InB wr => sameInts_self A3 B3 l.length c3 d3 l V.1 hx3 (r3.below V.2) (s3.below V.2)
      have CS4 := fun V : InB wr => sameInts_self A4 B4 l'.length c4 d4 l' V.1 hx4 (r4.below V.2) (s4.below V.2)
      have HC3 := Lib.hid CS3; have HC4 := Lib.hid CS4
      have a0 := fun V : InB wr => V.cell k0
      have a1 := fun V : InB wr => V.cell k1
      have a2 := fun V : InB wr => V.cell k2
      have a3 := fun V : InB wr => V.cell k3
      have a4 := fun V : InB wr => V.cell k4
      have b0 := fun V : InB wr => V.cell j0
      have b1 := fun V : InB wr => V.cell j1
      have b2 := fun V : InB wr => V.cell j2
      have b3 := fun V : InB wr => V.cell j3
      have b4 := fun V : InB wr => V.cell j4
      clear CS3 CS4 r3 r4 s3 s4 k0 k1 k2 k3 k4 j0 j1 j2 j3 j4
      have hkz : (k : Int) < (n : Int) := by omega
      have hk0 : (0 : Int) ≤ (k : Int) := by omega
      have g0 : (t != t) = false := by simp
      have g1 : (m != m) = false := by simp
      have g2 : (p != p) = false := by simp
      go_wp2
      obtain ⟨ws, hws⟩ : ∃ ws, ws = wr := ⟨_, rfl⟩
      subst hws
      simp only [List.append]
      refine wp_region_below ws (by kernel_rfl) (by kernel_rfl) (by first | assumption | exact Below.refl _ _) ?_
      repeat (go_big_quiet_step (first | (go_at_call_of 81 (Value.slice A3 l.length c3); exact bel_quiet (HC3.out _)) | (go_at_call_of 81 (Value.slice A4 l'.length c4); exact bel_quiet (HC4.out _))))
      refine wpQuiet_nil ?_
      intro wb hw'
      obtain ⟨⟨wb', hB⟩, hwb⟩ := hw'
      simp only at hwb
      subst hwb
      try simp only at hB ⊢
      all_goals
        clear a0 a1 a2 a3 a4 b0 b1 b2 b3 b4
        have HB2 := Lib.hid (HB.out.trans (hB.mono HB.out.size))
        clear hB
        go_wp2
        go_roundw
        case rel => exact ⟨k + 1, by omega, by go_num, HB2.out⟩
        case measure => simp [intOf]; omega
    · go_wp2
      go_ret
      exact ⟨rfl, HB.out⟩
set_option maxHeartbeats 2000000 in
set_option maxRecDepth 100000 in
theorem pSameGaps_same (A B : Option Addr) (n c c' : Nat) (L : List G4T) (w : World) (hn : n ≤ 1000000000) (h : Reads w 4 A n (rows4 L)) (h' : Reads w 4 B n (rows4 L)) :
    Calls Try.prog 38 #[.slice A n c, .slice B n c'] w fun e w' => e = .returned (.bool true) ∧ Below w.heap.size w w' := by
  have HX := Lib.hid (show L.length = n by have := h.1; rw [length_rows4] at this; omega)
  have H := Lib.hid h
  have H' := Lib.hid h'
  clear h h'
  go_enter Try.func38, Try.ntmps38
  go_wp2
  go_loopw [13] (fun i wr => ∃ k : Nat, k ≤ n ∧ i = .int .i64 k ∧ Below w.heap.size w wr) (fun i _ => n - (intOf i).toNat)
  case atStart => exact ⟨0, Nat.zero_le _, rfl, Below.refl _ _⟩
  case round =>
    obtain ⟨k, hk, rfl, hb⟩ := hrel
    have HB := Lib.hid hb; clear hb
    by_cases hlt : k < n
    · have hx : k < L.length := by rw [HX.out]; exact hlt
      obtain ⟨ad, rfl, k0, k1, k2, k3⟩ := rows4_at (H.out.below HB.out) hlt HX.out
      obtain ⟨bd, rfl, j0, j1, j2, j3⟩ := rows4_at (H'.out.below HB.out) hlt HX.out
      generalize L[k] = x at *
      obtain ⟨xa, xb, xc, xd⟩ := x
      simp only at k0 k1 k2 k3 j0 j1 j2 j3
      have hkz : (k : Int) < (n : Int) := by omega
      have hk0 : (0 : Int) ≤ (k : Int) := by omega
      go_wp2
      go_quiet (fail)
      obtain ⟨wq, hwq⟩ : ∃ wq, wq = wr.drewN nq := ⟨_, rfl⟩
      have HB2 : Hid (Below w.heap.size w wq) := Lib.hid (by rw [hwq]; exact below_toN HB.out nq)
      rw [← hwq]
      clear hwq k0 k1 k2 k3 j0 j1 j2 j3
      go_wp2
      go_roundw
      case rel => exact ⟨k + 1, by omega, by go_num, HB2.out⟩
      case measure => simp [intOf]; omega
    · go_wp2
      go_ret
      exact ⟨rfl, HB.out⟩
end Go.Proofs.Ytcjmlakmigfkfaa
