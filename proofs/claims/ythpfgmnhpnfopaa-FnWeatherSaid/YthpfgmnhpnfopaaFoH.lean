/- Contracts of the laws' own helpers: big, pSum. No conditions. -/
import Derived.Test.YthpfgmnhpnfopaaFoP
import Derived.Test.YthpfgmnhpnfopaaSame
namespace Go.Proofs.Ythpfgmnhpnfopaa
set_option linter.unusedSimpArgs false
set_option linter.unusedVariables false
open Go.RowKit

def bigB (n m : Nat) : Bool := decide (1048576 < n) || decide ((1048576 : Int) - (n : Int) < (m : Int))
theorem bigB_no {n m : Nat} (h : bigB n m = false) : n ≤ 1048576 ∧ m ≤ 1048576 := by
  simp [bigB] at h
  omega
theorem big_any (A : Option Addr) (n c : Nat) (B : Option Addr) (m d : Nat) (w : World) (hn : n ≤ 9223372036854775807) (hm : m ≤ 9223372036854775807) :
    Calls Try.prog 39 #[.slice A n c, .slice B m d] w fun e w' => e = .returned (.bool (bigB n m)) ∧ w = w' := by
  by_cases h1 : 1048576 < n
  · have hr : bigB n m = true := by simp [bigB, h1]
    rw [hr]
    clear hr
    go_enter Try.func39, Try.ntmps39
    go_wp2
    go_ret
    exact ⟨rfl, rfl⟩
  · by_cases h2 : (1048576 : Int) - (n : Int) < (m : Int)
    · have hr : bigB n m = true := by simp [bigB, h2]
      rw [hr]
      clear hr
      go_enter Try.func39, Try.ntmps39
      go_wp2
      go_ret
      exact ⟨rfl, rfl⟩
    · have hr : bigB n m = false := by simp [bigB]; omega
      rw [hr]
      clear hr
      go_enter Try.func39, Try.ntmps39
      go_wp2
      go_ret
      exact ⟨ret_bool (show decide ((1048576 : Int) < (n : Int)) = false by simp; omega), rfl⟩
set_option maxHeartbeats 1000000 in
theorem pSum_any (A : Option Addr) (n c : Nat) (xs : List Int) (w : World) (hn : n ≤ 1000) (h : Reads w 1 A n (ints xs)) (hx : ∀ x ∈ xs, 0 ≤ x ∧ x ≤ 1000000) :
    Calls Try.prog 43 #[.slice A n c] w fun e w' => e = .returned (.int .i64 (sumZ xs)) ∧ w = w' := by
  have HX := Lib.hid (show xs.length = n by have := h.1; simpa using this)
  have H := Lib.hid h
  have HB := Lib.hid hx
  clear h hx
  go_enter Try.func43, Try.ntmps43
  go_wp2
  go_loop [3, 8] (fun s i => ∃ k : Nat, k ≤ n ∧ i = .int .i64 k ∧ s = .int .i64 (sumZ (xs.take k))) (fun _ i => n - (intOf i).toNat)
  case atStart => exact ⟨0, Nat.zero_le _, rfl, rfl⟩
  case round =>
    obtain ⟨k, hk, rfl, rfl⟩ := hrel
    by_cases hlt : k < n
    · have hxl : k < xs.length := by rw [HX.out]; exact hlt
      obtain ⟨ad, u, rfl, hu, k0⟩ := H.out.at_ hlt
      have e0 : u = .int .i64 xs[k] := by simp [ints, hxl] at hu; exact hu.symm
      subst e0
      have hb := HB.out _ (List.getElem_mem hxl)
      have hs := sumZ_bd (xs.take k) 1000000 (fun x hx => HB.out x (List.mem_of_mem_take hx))
      have hl : (xs.take k).length ≤ 1000 := by simp; omega
      have HT : Hid (sumZ (xs.take (k + 1)) = sumZ (xs.take k) + xs[k]) := Lib.hid (by rw [List.take_succ_eq_append_getElem hxl, sumZ_snoc])
      have hs2 : sumZ (xs.take k) ≤ 1000000000 := by omega
      have hs1 := hs.1
      clear hs hl hu
      generalize xs[k] = x at *
      generalize sumZ (xs.take k) = S at *
      go_wp2
      go_round
      case rel => exact ⟨k + 1, by omega, by go_num, by rw [HT.out]⟩
      case measure => simp [intOf]; omega
    · have e : xs.take k = xs := List.take_of_length_le (by rw [HX.out]; omega)
      rw [e]
      go_wp2
      go_ret
      exact ⟨rfl, rfl⟩
end Go.Proofs.Ythpfgmnhpnfopaa
