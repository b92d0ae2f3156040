/- Contracts of the laws' helpers that write marks into slices of structs of integers and that look for them. No conditions. -/
import Derived.Test.YtjibdabedagghaaHelp
namespace Go.Proofs.Ytjibdabedagghaa
set_option linter.unusedSimpArgs false
set_option linter.unusedVariables false
open Go.RowKit

theorem marksInt_get {K n j : Nat} (h : j < n) : (marksInt K n)[j]? = some (.int .i64 ((K + j : Nat) : Int)) := by simp [marksInt, h]
theorem length_marksInt (K n : Nat) : (marksInt K n).length = n := by simp [marksInt]

theorem szGearS_okI (A : Option Addr) (n c : Nat) (left : Int) (w : World) (h0 : 0 ≤ left) (h2 : left ≤ 1000000000) (h1 : (n : Int) ≤ left) (hn : n ≤ 9223372036854775807) :
    Calls Try.prog 18 #[.slice A n c, .int .i64 left] w fun e w' => e = .returned (.int .i64 (left - (n : Int))) ∧ w = w' := by
  have := szGearS_any A n c left w hn h0 h2
  rw [if_neg (by omega)] at this
  exact this
theorem szGearS_bigI (A : Option Addr) (n c : Nat) (left : Int) (w : World) (h0 : 0 ≤ left) (h2 : left ≤ 1000000000) (h1 : left < (n : Int)) (hn : n ≤ 9223372036854775807) :
    Calls Try.prog 18 #[.slice A n c, .int .i64 left] w fun e w' => e = .returned (.int .i64 (-1)) ∧ w = w' := by
  have := szGearS_any A n c left w hn h0 h2
  rw [if_pos (by omega)] at this
  exact this
set_option maxHeartbeats 2000000 in
theorem markGearS_any (A : Option Addr) (n c K base : Nat) (xs : List Value) (w : World) (hn : n * 4 + K ≤ 1000000000000) (h : w.ownsRow base 26 4 (.slice A n c) n xs) :
    Calls Try.prog 39 #[.slice A n c, .int .i64 K] w fun e w' => e = .returned (.int .i64 ((K + n * 4 : Nat) : Int)) ∧ w'.ownsRow base 26 4 (.slice A n c) n (marksInt K (n * 4)) ∧ w.grownBy w' (Value.slice A n c).ownBlock := by
  have HXL := Lib.hid h.1
  have HM := Lib.hid (length_marksInt K (n * 4))
  have H := Lib.hid h; clear h
  go_enter Try.func39, Try.ntmps39
  go_wp2
  go_loopw [1, 5] (fun r i wr => ∃ q : Nat, q ≤ n ∧ i = .int .i64 q ∧ r = .int .i64 ((K + q * 4 : Nat) : Int) ∧ wr.ownsRow base 26 4 (.slice A n c) n ((marksInt K (n * 4)).take (q * 4) ++ xs.drop (q * 4)) ∧ w.grownBy wr (Value.slice A n c).ownBlock) (fun _ i _ => n - (intOf i).toNat)
  case atStart => exact ⟨0, Nat.zero_le _, rfl, by simp, by simpa using H.out, World.grownBy.refl _ _⟩
  case round =>
    obtain ⟨q, hk, rfl, rfl, hown, hg⟩ := hrel
    clear H
    have HG := Lib.hid hg; clear hg
    by_cases hlt : q < n
    · obtain ⟨g, rfl⟩ : ∃ g, A = some ⟨g, 0, none⟩ := by
        rcases hown.2 with ⟨_, h0⟩ | ⟨g, cap, cur, hv, _⟩
        · omega
        · injection hv with e; exact ⟨g, e⟩
      have hcl : ∀ j, q * 4 + j < n * 4 → ∃ o, wr.cell? ⟨g, q * 4 + j, none⟩ = some o := fun j hj => ⟨_, by
        rw [hown.cellAt _ hj]; exact List.getElem?_eq_getElem (by rw [hown.1]; exact hj)⟩
      obtain ⟨o0, e0⟩ := hcl 0 (by omega)
      obtain ⟨o1, e1⟩ := hcl 1 (by omega)
      obtain ⟨o2, e2⟩ := hcl 2 (by omega)
      obtain ⟨o3, e3⟩ := hcl 3 (by omega)
      have f0 : wr.frozen? ⟨g, q * 4, none⟩ = false := hown.frozenAt _
      have f1 : wr.frozen? ⟨g, q * 4 + 1, none⟩ = false := hown.frozenAt _
      have f2 : wr.frozen? ⟨g, q * 4 + 2, none⟩ = false := hown.frozenAt _
      have f3 : wr.frozen? ⟨g, q * 4 + 3, none⟩ = false := hown.frozenAt _
      simp only [Nat.add_zero] at e0
      have HW := Lib.hid (own_set4 (x0 := .int .i64 ((K : Int) + (q : Int) * 4)) (x1 := .int .i64 ((K : Int) + (q : Int) * 4 + 1)) (x2 := .int .i64 ((K : Int) + (q : Int) * 4 + 2)) (x3 := .int .i64 ((K : Int) + (q : Int) * 4 + 3)) HM.out HXL.out hlt hown (by rw [marksInt_get (by omega)]; congr 2 <;> omega) (by rw [marksInt_get (by omega)]; congr 2 <;> omega) (by rw [marksInt_get (by omega)]; congr 2 <;> omega) (by rw [marksInt_get (by omega)]; congr 2 <;> omega))
      have HGS := Lib.hid ((grown_set (grown_set (grown_set (grown_set HG.out (i := q * 4) (.int .i64 ((K : Int) + (q : Int) * 4))) (i := q * 4 + 1) (.int .i64 ((K : Int) + (q : Int) * 4 + 1))) (i := q * 4 + 2) (.int .i64 ((K : Int) + (q : Int) * 4 + 2))) (i := q * 4 + 3) (.int .i64 ((K : Int) + (q : Int) * 4 + 3))))
      clear hown hcl
      have ek : ((K + q * 4 : Nat) : Int) = (K : Int) + (q : Int) * 4 := by omega
      rw [ek]
      have ek' : (K : Int) + (q : Int) * 4 + 4 = ((K + (q + 1) * 4 : Nat) : Int) := by omega
      have EK := Lib.hid ek'; clear ek ek'
      have b1 : (q : Int) * 4 + K ≤ 1000000000000 := by omega
      go_wp2
      go_roundw
      case rel => exact ⟨q + 1, by omega, by go_num, by rw [← EK.out]; go_num, HW.out, HGS.out⟩
      case measure => simp [intOf]; omega
    · obtain rfl : q = n := by omega
      rw [two_end HM.out HXL.out] at hown
      have HO := Lib.hid hown; clear hown
      go_wp2
      go_ret
      exact ⟨rfl, HO.out, HG.out⟩






end Go.Proofs.Ytjibdabedagghaa
