/- Contracts of the laws' own helpers: qSum, qInts of two lists that are the same. No conditions. -/
import Derived.Test.YtgdlaeibdpbgdaaTr1
import Derived.Test.YtgdlaeibdpbgdaaSame
import Derived.Test.YtgdlaeibdpbgdaaTraP
namespace Go.Proofs.Ytgdlaeibdpbgdaa
set_option linter.unusedSimpArgs false
set_option linter.unusedVariables false
open Go.RowKit

theorem quiet_below {w w' : World} (h : Quiet w w') : Below w.heap.size w w' := by
  obtain ⟨n, rfl⟩ := h
  exact ⟨rfl, rfl, rfl, Nat.le_refl _, fun _ _ => rfl⟩
theorem qSame_any (A : Option Addr) (n c : Nat) (B : Option Addr) (d : Nat) (l : List Int) (w : World) (hn : n ≤ 1000000000) (h : Reads w 1 A n (ints l)) (h' : Reads w 1 B n (ints l)) :
    Calls Try.prog 45 #[.slice A n c, .slice B n d] w fun e w' => e = .returned (.bool true) ∧ Below w.heap.size w w' := by
  refine (qInts_any A n c l B n d l w hn hn h h').mono ?_
  rintro e w' ⟨rfl, hq⟩
  exact ⟨by simp [sameB], quiet_below hq⟩
theorem qSum_any (A : Option Addr) (n c : Nat) (xs : List Int) (w : World) (hn : n ≤ 1000000) (h : Reads w 1 A n (ints xs)) (hx : ∀ x ∈ xs, -1000000 ≤ x ∧ x ≤ 1000000) :
    Calls Try.prog 46 #[.slice A n c] w fun e w' => e = .returned (.int .i64 (sumL xs)) ∧ w = w' := by
  have HX := Lib.hid (show xs.length = n by simpa using h.1)
  have HB := Lib.hid hx; clear hx
  go_enter Try.func46, Try.ntmps46
  go_wp2
  go_loop [3, 8] (fun s i => ∃ k : Nat, ∃ q : Int, k ≤ n ∧ i = .int .i64 k ∧ s = .int .i64 q ∧ -1000000 * (k : Int) ≤ q ∧ q ≤ 1000000 * (k : Int) ∧ q + sumL (xs.drop k) = sumL xs) (fun _ i => n - (intOf i).toNat)
  case atStart => exact ⟨0, 0, Nat.zero_le _, rfl, rfl, by omega, by omega, by simp⟩
  case round =>
    obtain ⟨k, q, hk, rfl, rfl, hq1, hq2, hrel⟩ := hrel
    have HR := Lib.hid hrel; clear hrel
    by_cases hlt : k < n
    · obtain ⟨ad, rfl, hc⟩ := h.2 (by omega)
      have hxk : k < xs.length := by rw [HX.out]; exact hlt
      have hcell : w.cell? (ad.add k) = some (.int .i64 xs[k]) := hc k _ (by simp [ints, hxk])
      have hb := HB.out xs[k] (List.getElem_mem hxk)
      have HD := Lib.hid (drop_cons hxk)
      clear hc h
      generalize xs[k] = x at hcell hb HD
      go_wp2
      go_round
      case rel => exact ⟨k + 1, _, by omega, by go_num, rfl, by omega, by omega, by rw [← HR.out, HD.out]; simp only [sumL]; omega⟩
      case measure => simp [intOf]; omega
    · have HE := Lib.hid (drop_end (xs := xs) (k := k) (by rw [HX.out]; omega))
      clear h
      go_wp2
      go_ret
      refine ⟨ret_int ?_, rfl⟩
      rw [← HR.out, HE.out]
      simp [sumL]

theorem specWaitYes_any (A : Option Addr) (n c : Nat) (xs : List Int) (cap : Int) (w : World) (hn : n ≤ 1000000000) (h : Reads w 1 A n (ints xs)) (ht : trafB xs cap = true) {K : List Int} (hK : waits cap 0 xs = K) :
    Calls Try.prog 23 #[.slice A n c, .int .i64 cap] w (Made2 w 3 1 K.length (ints K) true) := by
  subst hK
  have h1 := specWaitingAfter_any A n c xs cap w hn h
  rw [waitR_yes ht] at h1
  exact h1
theorem specMostYes_any (A : Option Addr) (n c : Nat) (xs : List Int) (cap a m : Int) (w : World) (hn : n ≤ 1000000000) (h : Reads w 1 A n (ints xs)) (ht : mostR xs cap = (a, m, true)) :
    Calls Try.prog 33 #[.slice A n c, .int .i64 cap] w fun e w' => e = .returned (.tuple #[.int .i64 a, .int .i64 m, .bool true]) ∧ Below w.heap.size w w' := by
  have h1 := specMostWaiting_any A n c xs cap w hn h
  rw [ht] at h1
  exact h1

theorem implWaitYes_any (A : Option Addr) (n c : Nat) (xs : List Int) (cap : Int) (w : World) (hn : n ≤ 1000000000) (h : Reads w 1 A n (ints xs)) (ht : trafB xs cap = true) {K : List Int} (hK : waits cap 0 xs = K) :
    Calls Try.prog 24 #[.slice A n c, .int .i64 cap] w (Made2 w 3 1 K.length (ints K) true) := by
  subst hK
  have h1 := implWaitingAfter_any A n c xs cap w hn h
  rw [waitR_yes ht] at h1
  exact h1
theorem implMostYes_any (A : Option Addr) (n c : Nat) (xs : List Int) (cap a m : Int) (w : World) (hn : n ≤ 1000000000) (h : Reads w 1 A n (ints xs)) (ht : mostR xs cap = (a, m, true)) :
    Calls Try.prog 34 #[.slice A n c, .int .i64 cap] w fun e w' => e = .returned (.tuple #[.int .i64 a, .int .i64 m, .bool true]) ∧ Below w.heap.size w w' := by
  have h1 := implMostWaiting_any A n c xs cap w hn h
  rw [ht] at h1
  exact h1

end Go.Proofs.Ytgdlaeibdpbgdaa
