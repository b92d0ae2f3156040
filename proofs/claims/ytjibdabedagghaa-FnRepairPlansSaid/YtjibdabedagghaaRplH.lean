/- Helpers of the law of repair plans: lists of lists alike, a list has a number. No conditions. -/
import Derived.Test.YtjibdabedagghaaSame
import Derived.Test.YtjibdabedagghaaNesh
import Derived.Test.YtjibdabedagghaaRise
namespace Go.Proofs.Ytjibdabedagghaa
set_option linter.unusedSimpArgs false
set_option linter.unusedVariables false
open Go.RowKit

theorem qHas_any (A : Option Addr) (n c : Nat) (xs : List Int) (v : Int) (w : World) (hn : n ≤ 1000000000) (h : Reads w 1 A n (ints xs)) :
    Calls Try.prog 56 #[.slice A n c, .int .i64 v] w fun e w' => e = .returned (.bool (hasB xs v)) ∧ w = w' := by
  have HX := Lib.hid (show xs.length = n by simpa using h.1)
  go_enter Try.func56, Try.ntmps56
  go_wp2
  go_loop [9] (fun i => ∃ k : Nat, k ≤ n ∧ i = .int .i64 k ∧ hasB (xs.drop k) v = hasB xs v) (fun i => n - (intOf i).toNat)
  case atStart => exact ⟨0, Nat.zero_le _, rfl, rfl⟩
  case round =>
    obtain ⟨k, hk, rfl, hrel⟩ := hrel
    have HR := Lib.hid hrel; clear hrel
    by_cases hlt : k < n
    · obtain ⟨ad, rfl, hc⟩ := h.2 (by omega)
      have hxk : k < xs.length := by rw [HX.out]; exact hlt
      have hcell : w.cell? (ad.add k) = some (.int .i64 xs[k]) := hc k _ (by simp [ints, hxk])
      have HD := Lib.hid (drop_cons hxk)
      clear hc h
      generalize xs[k] = x at hcell HD
      cases hpx : (x == v) with
      | true =>
        have HP := Lib.hid hpx
        go_wp2
        go_ret
        refine ⟨ret_bool ?_, rfl⟩
        rw [← HR.out, HD.out]
        unfold hasB
        rw [List.any_cons, HP.out]
        rfl
      | false =>
        have HP := Lib.hid hpx
        go_wp2
        go_round
        case rel =>
          refine ⟨k + 1, by omega, by go_num, ?_⟩
          rw [← HR.out, HD.out]
          unfold hasB
          rw [List.any_cons, HP.out]
          rfl
        case measure => simp [intOf]; omega
    · have e1 : xs.drop k = [] := List.drop_eq_nil_of_le (by rw [HX.out]; omega)
      have h1 := HR.out
      rw [e1] at h1
      have HF : Hid (hasB xs v = false) := Lib.hid (by rw [← h1]; rfl)
      clear h1 e1 HR
      go_wp2
      go_ret
      exact ⟨ret_bool HF.out.symm, rfl⟩
theorem qInts_same (A B : Option Addr) (n c c' : Nat) (l : List Int) (w : World) (hn : n ≤ 1000000000) (h : Reads w 1 A n (ints l)) (h' : Reads w 1 B n (ints l)) :
    Calls Try.prog 55 #[.slice A n c, .slice B n c'] w fun e w' => e = .returned (.bool true) ∧ Quiet w w' := by
  have := qInts_any A n c l B n c' l w hn hn h h'
  simpa [sameB] using this
set_option maxHeartbeats 1000000 in
theorem qLists_same (A B : Option Addr) (n c c' : Nat) (L : List (List Int)) (w : World) (hn : n ≤ 1000000000) (hl : ∀ l ∈ L, l.length ≤ 1000000000) (h : Reads2 w 1 A n (rowsIntss L)) (h' : Reads2 w 1 B n (rowsIntss L)) :
    Calls Try.prog 54 #[.slice A n c, .slice B n c'] w fun e w' => e = .returned (.bool true) ∧ Below w.heap.size w w' := by
  have HX := Lib.hid (show L.length = n by have := h.len; simpa using this)
  have HL := Lib.hid hl
  have H := Lib.hid h
  have H' := Lib.hid h'
  clear h h' hl
  go_enter Try.func54, Try.ntmps54
  go_wp2
  go_loopw [13] (fun i wr => ∃ k : Nat, k ≤ n ∧ i = .int .i64 k ∧ Below w.heap.size w wr) (fun i _ => n - (intOf i).toNat)
  case atStart => exact ⟨0, Nat.zero_le _, rfl, Below.refl _ _⟩
  case round =>
    obtain ⟨k, hk, rfl, hb⟩ := hrel
    have HB := Lib.hid hb; clear hb
    by_cases hlt : k < n
    · have hx : k < L.length := by rw [HX.out]; exact hlt
      obtain ⟨ad, Ai, ci, rfl, kc, _, _, hr⟩ := (H.out.below HB.out).row (rowsIntss_get hx)
      obtain ⟨ad', Bi, di, rfl, jc, _, _, hr'⟩ := (H'.out.below HB.out).row (rowsIntss_get hx)
      have HR := Lib.hid hr; clear hr
      have HR' := Lib.hid hr'; clear hr'
      have HXL := Lib.hid (HL.out L[k] (List.getElem_mem hx))
      generalize L[k] = l at *
      simp only [length_ints] at kc jc HR HR'
      go_wp2
      go_region_with (go_at_call 55; refine (qInts_same Ai Bi l.length ci di l _ (by have := HXL.out; omega) HR.out.drew HR'.out.drew).mono ?_; rintro e w1 ⟨rfl, hq1⟩; have HB1 := Lib.hid (below_of_quiet (B := wr.heap.size) hq1); clear hq1)
      all_goals
        go_wp2
        go_roundw
        case rel => exact ⟨k + 1, by omega, by go_num, HB.out.drew.trans (HB1.out.mono HB.out.size)⟩
        case measure => simp [intOf]; omega
    · go_wp2
      go_ret
      exact ⟨rfl, HB.out⟩
end Go.Proofs.Ytjibdabedagghaa
