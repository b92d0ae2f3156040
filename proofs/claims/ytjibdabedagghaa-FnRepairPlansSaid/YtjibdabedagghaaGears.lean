/- Contracts of the laws' helpers on slices of gears. No conditions. -/
import Derived.Test.YtjibdabedagghaaGear
namespace Go.Proofs.Ytjibdabedagghaa
set_option linter.unusedSimpArgs false
set_option linter.unusedVariables false
open Go.RowKit

abbrev G4 := Int × Int × Int × Int
def gearsB : List G4 → Bool
  | [] => true
  | g :: r => if gearB g.1 g.2.1 g.2.2.1 g.2.2.2 then gearsB r else false
def goodGears (l : List G4) : Bool := gearsB l && decide (l.length ≤ 8)
theorem rrGood_any (A : Option Addr) (n c : Nat) (l : List G4) (w : World) (hn : n ≤ 1000000000) (h : Reads w 4 A n (rows4 l)) :
    Calls Try.prog 63 #[.slice A n c] w fun e w' => e = .returned (.bool (goodGears l)) ∧ Below w.heap.size w w' := by
  have HX := Lib.hid (show l.length = n by have := h.1; rw [length_rows4] at this; omega)
  have H := Lib.hid h; clear h
  go_enter Try.func63, Try.ntmps63
  go_wp2
  go_loopw [7] (fun i wr => ∃ k : Nat, k ≤ n ∧ i = .int .i64 k ∧ gearsB (l.drop k) = gearsB l ∧ Below w.heap.size w wr) (fun i _ => n - (intOf i).toNat)
  case atStart => exact ⟨0, Nat.zero_le _, rfl, rfl, Below.refl _ _⟩
  case round =>
    obtain ⟨k, hk, rfl, hrel, hb⟩ := hrel
    have HR := Lib.hid hrel; clear hrel
    have HB := Lib.hid hb; clear hb
    by_cases hlt : k < n
    · obtain ⟨ad, rfl, k0, k1, k2, k3⟩ := rows4_at (H.out.below HB.out) hlt HX.out
      have hx : k < l.length := by rw [HX.out]; exact hlt
      have HD := Lib.hid (drop_cons hx)
      generalize l[k] = g at *
      obtain ⟨ga, gb, gc, gd⟩ := g
      go_wp2_with (go_at_call 60; refine (rrGear_any ga gb gc gd _).mono ?_; rintro e w1 ⟨rfl, hb1⟩; have HB1 := Lib.hid hb1; clear hb1)
      · have ht : (!gearB ga gb gc gd) = true := by assumption
        go_ret
        simp at ht
        exact ⟨ret_bool (by unfold goodGears; rw [← HR.out, HD.out]; simp [gearsB, ht]), HB.out.trans (((Below.refl _ _).alloc HB.out.size _).trans (HB1.out.mono (by have := HB.out.size; simp; omega)))⟩
      · have ht : (!gearB ga gb gc gd) = false := by assumption
        simp at ht
        go_roundw
        case rel => exact ⟨k + 1, by omega, by go_num, by rw [← HR.out, HD.out]; simp [gearsB, ht], HB.out.trans (((Below.refl _ _).alloc HB.out.size _).trans (HB1.out.mono (by have := HB.out.size; simp; omega)))⟩
        case measure => simp [intOf]; omega
    · have HE := Lib.hid (drop_end (xs := l) (k := k) (by rw [HX.out]; omega))
      go_wp2
      go_ret
      refine ⟨ret_bool ?_, HB.out⟩
      unfold goodGears
      rw [← HR.out, HE.out, HX.out]
      simp [gearsB]
      omega
end Go.Proofs.Ytjibdabedagghaa
