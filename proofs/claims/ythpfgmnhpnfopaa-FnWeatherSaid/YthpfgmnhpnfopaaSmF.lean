/- The laws' own comparisons of fogs and of bools: alike ones are the same. No conditions. -/
import Derived.Test.YthpfgmnhpnfopaaFgs
import Derived.Test.YthpfgmnhpnfopaaBel
import Derived.Deep.QuietTactic
import Derived.BigQuiet
namespace Go.Proofs.Ythpfgmnhpnfopaa
set_option linter.unusedSimpArgs false
set_option linter.unusedVariables false
open Go.RowKit


set_option maxHeartbeats 2000000 in
set_option maxRecDepth 100000 in
theorem pSameFogs_same (A : Option Addr) (n c : Nat) (B : Option Addr) (d : Nat) (F : List S3) (w : World) (hn : n ≤ 1000000000) (h : Reads w 3 A n (rows3 F)) (h2 : Reads w 3 B n (rows3 F)) :
    Calls Try.prog 61 #[.slice A n c, .slice B n d] w fun e w' => e = .returned (.bool true) ∧ Below w.heap.size w w' := by
  have HX := Lib.hid (show F.length = n by have := h.1; rw [length_rows3] at this; omega)
  have H := Lib.hid h; have H2 := Lib.hid h2
  clear h h2
  go_enter Try.func61, Try.ntmps61
  go_wp2
  go_loopw [13] (fun i wr => ∃ k : Nat, k ≤ n ∧ i = .int .i64 k ∧ Below w.heap.size w wr) (fun i _ => n - (intOf i).toNat)
  case atStart => exact ⟨0, Nat.zero_le _, rfl, Below.refl _ _⟩
  case round =>
    obtain ⟨k, hk, rfl, hb⟩ := hrel
    have HB := Lib.hid hb; clear hb
    by_cases hlt : k < n
    · obtain ⟨ad, rfl, k0, k1, k2⟩ := rows3_at (H.out.below HB.out) hlt HX.out
      obtain ⟨ad2, rfl, j0, j1, j2⟩ := rows3_at (H2.out.below HB.out) hlt HX.out
      have hx : k < F.length := by rw [HX.out]; exact hlt
      generalize F[k] = x at *
      obtain ⟨xa, xb, xc⟩ := x
      simp only at k0 k1 k2 j0 j1 j2
      have hki : (k : Int) < (n : Int) := by omega
      have hk0 : (0 : Int) ≤ (k : Int) := by omega
      go_wp2
      go_quiet (fail)
      go_wp2
      go_roundw
      case rel => exact ⟨k + 1, by omega, by go_num, by first | exact HB.out.drewN _ | exact HB.out.trans (below_of_quiet ⟨_, rfl⟩) | exact Below.trans HB.out (Below.of_drewN _ _)⟩
      case measure => first | (simp [intOf]; done) | (simp [intOf]; omega)
    · go_wp2
      go_ret
      exact ⟨rfl, HB.out⟩
set_option maxHeartbeats 2000000 in
set_option maxRecDepth 100000 in
theorem pSameBools_same (A : Option Addr) (n c : Nat) (B : Option Addr) (d : Nat) (xs : List Bool) (w : World) (hn : n ≤ 1000000000) (h : Reads w 1 A n (bools xs)) (h2 : Reads w 1 B n (bools xs)) :
    Calls Try.prog 65 #[.slice A n c, .slice B n d] w fun e w' => e = .returned (.bool true) ∧ Below w.heap.size w w' := by
  have HX := Lib.hid (show xs.length = n by have := h.1; simpa using this)
  have H := Lib.hid h; have H2 := Lib.hid h2
  clear h h2
  go_enter Try.func65, Try.ntmps65
  go_wp2
  go_loopw [13] (fun i wr => ∃ k : Nat, k ≤ n ∧ i = .int .i64 k ∧ Below w.heap.size w wr) (fun i _ => n - (intOf i).toNat)
  case atStart => exact ⟨0, Nat.zero_le _, rfl, Below.refl _ _⟩
  case round =>
    obtain ⟨k, hk, rfl, hb⟩ := hrel
    have HB := Lib.hid hb; clear hb
    by_cases hlt : k < n
    · obtain ⟨ad, u, rfl, hu, k0⟩ := (H.out.below HB.out).at_ hlt
      obtain ⟨ad2, u2, rfl, hu2, j0⟩ := (H2.out.below HB.out).at_ hlt
      have hxk : k < xs.length := by rw [HX.out]; exact hlt
      have e0 : u = .bool xs[k] := by simp [bools, hxk] at hu; exact hu.symm
      have e1 : u2 = .bool xs[k] := by simp [bools, hxk] at hu2; exact hu2.symm
      subst e0; subst e1
      clear hu hu2
      generalize xs[k] = x at *
      have hki : (k : Int) < (n : Int) := by omega
      have hk0 : (0 : Int) ≤ (k : Int) := by omega
      go_wp2
      go_quiet (fail)
      go_wp2
      go_roundw
      case rel => exact ⟨k + 1, by omega, by go_num, by first | exact HB.out.drewN _ | exact HB.out.trans (below_of_quiet ⟨_, rfl⟩) | exact Below.trans HB.out (Below.of_drewN _ _)⟩
      case measure => first | (simp [intOf]; done) | (simp [intOf]; omega)
    · go_wp2
      go_ret
      exact ⟨rfl, HB.out⟩

end Go.Proofs.Ythpfgmnhpnfopaa
