/- Contracts of the laws' helpers that write marks into slices of structs of integers and that look for them. No conditions. -/
import Derived.Test.YtcjmlakmigfkfaaHelp
namespace Go.Proofs.Ytcjmlakmigfkfaa
set_option linter.unusedSimpArgs false
set_option linter.unusedVariables false
open Go.RowKit

theorem marksInt_get {K n j : Nat} (h : j < n) : (marksInt K n)[j]? = some (.int .i64 ((K + j : Nat) : Int)) := by simp [marksInt, h]
theorem length_marksInt (K n : Nat) : (marksInt K n).length = n := by simp [marksInt]


set_option maxHeartbeats 2000000 in
theorem markGapS_any (A : Option Addr) (n c K base : Nat) (xs : List Value) (w : World) (hn : n * 4 + K ≤ 1000000000000) (h : w.ownsRow base 62 4 (.slice A n c) n xs) :
    Calls Try.prog 23 #[.slice A n c, .int .i64 K] w fun e w' => e = .returned (.int .i64 ((K + n * 4 : Nat) : Int)) ∧ w'.ownsRow base 62 4 (.slice A n c) n (marksInt K (n * 4)) ∧ w.grownBy w' (Value.slice A n c).ownBlock := by
  have HXL := Lib.hid h.1
  have HM := Lib.hid (length_marksInt K (n * 4))
  have H := Lib.hid h; clear h
  go_enter Try.func23, Try.ntmps23
  go_wp2
  go_loopw [1, 5] (fun r i wr => ∃ q : Nat, q ≤ n ∧ i = .int .i64 q ∧ r = .int .i64 ((K + q * 4 : Nat) : Int) ∧ wr.ownsRow base 62 4 (.slice A n c) n ((marksInt K (n * 4)).take (q * 4) ++ xs.drop (q * 4)) ∧ w.grownBy wr (Value.slice A n c).ownBlock) (fun _ i _ => n - (intOf i).toNat)
  case atStart => exact ⟨0, Nat.zero_le _, rfl, by simp, by simpa using H.out, World.grownBy.refl _ _⟩
  case round =>
    obtain ⟨q, hk, rfl, rfl, hown, hg⟩ := hrel
    clear H
    have HG := Lib.hid hg; clear hg
    by_cases hlt : q < n
    · obtain ⟨g, rfl⟩ : ∃ g, A = some ⟨g, 0, none⟩ := by
        rcases hown.2 with ⟨_, h0⟩ | ⟨g, cap, cur, hv, _⟩
        · omega
        · injection hv with e; exact ⟨g, e⟩
      have hcl : ∀ j, q * 4 + j < n * 4 → ∃ o, wr.cell? ⟨g, q * 4 + j, none⟩ = some o := fun j hj => ⟨_, by
        rw [hown.cellAt _ hj]; exact List.getElem?_eq_getElem (by rw [hown.1]; exact hj)⟩
      obtain ⟨o0, e0⟩ := hcl 0 (by omega)
      obtain ⟨o1, e1⟩ := hcl 1 (by omega)
      obtain ⟨o2, e2⟩ := hcl 2 (by omega)
      obtain ⟨o3, e3⟩ := hcl 3 (by omega)
      have f0 : wr.frozen? ⟨g, q * 4, none⟩ = false := hown.frozenAt _
      have f1 : wr.frozen? ⟨g, q * 4 + 1, none⟩ = false := hown.frozenAt _
      have f2 : wr.frozen? ⟨g, q * 4 + 2, none⟩ = false := hown.frozenAt _
      have f3 : wr.frozen? ⟨g, q * 4 + 3, none⟩ = false := hown.frozenAt _
      simp only [Nat.add_zero] at e0
      have HW := Lib.hid (own_set4 (x0 := .int .i64 ((K : Int) + (q : Int) * 4)) (x1 := .int .i64 ((K : Int) + (q : Int) * 4 + 1)) (x2 := .int .i64 ((K : Int) + (q : Int) * 4 + 2)) (x3 := .int .i64 ((K : Int) + (q : Int) * 4 + 3)) HM.out HXL.out hlt hown (by rw [marksInt_get (by omega)]; congr 2 <;> omega) (by rw [marksInt_get (by omega)]; congr 2 <;> omega) (by rw [marksInt_get (by omega)]; congr 2 <;> omega) (by rw [marksInt_get (by omega)]; congr 2 <;> omega))
      have HGS := Lib.hid ((grown_set (grown_set (grown_set (grown_set HG.out (i := q * 4) (.int .i64 ((K : Int) + (q : Int) * 4))) (i := q * 4 + 1) (.int .i64 ((K : Int) + (q : Int) * 4 + 1))) (i := q * 4 + 2) (.int .i64 ((K : Int) + (q : Int) * 4 + 2))) (i := q * 4 + 3) (.int .i64 ((K : Int) + (q : Int) * 4 + 3))))
      clear hown hcl
      have ek : ((K + q * 4 : Nat) : Int) = (K : Int) + (q : Int) * 4 := by omega
      rw [ek]
      have ek' : (K : Int) + (q : Int) * 4 + 4 = ((K + (q + 1) * 4 : Nat) : Int) := by omega
      have EK := Lib.hid ek'; clear ek ek'
      have b1 : (q : Int) * 4 + K ≤ 1000000000000 := by omega
      go_wp2
      go_roundw
      case rel => exact ⟨q + 1, by omega, by go_num, by rw [← EK.out]; go_num, HW.out, HGS.out⟩
      case measure => simp [intOf]; omega
    · obtain rfl : q = n := by omega
      rw [two_end HM.out HXL.out] at hown
      have HO := Lib.hid hown; clear hown
      go_wp2
      go_ret
      exact ⟨rfl, HO.out, HG.out⟩
set_option maxHeartbeats 2000000 in
theorem heldGapS_any (A : Option Addr) (n c K : Nat) (w : World) (hn : n * 4 + K ≤ 1000000000000) (h : Reads w 4 A n (marksInt K (n * 4))) :
    Calls Try.prog 24 #[.slice A n c, .int .i64 K] w fun e w' => e = .returned (.int .i64 ((K + n * 4 : Nat) : Int)) ∧ w = w' := by
  have H := Lib.hid h; clear h
  go_enter Try.func24, Try.ntmps24
  go_wp2
  go_loop [1, 5] (fun r i => ∃ q : Nat, q ≤ n ∧ i = .int .i64 q ∧ r = .int .i64 ((K + q * 4 : Nat) : Int)) (fun _ i => n - (intOf i).toNat)
  case atStart => exact ⟨0, Nat.zero_le _, rfl, by simp⟩
  case round =>
    obtain ⟨q, hk, rfl, rfl⟩ := hrel
    by_cases hlt : q < n
    · obtain ⟨ad, rfl, hc⟩ := H.out.2 (by omega)
      have f : ∀ j, 0 < j → ad.add (q * 4 + j) = ⟨(ad.add (q * 4)).block, (ad.add (q * 4)).off + j, none⟩ := by
        intro j hj
        rw [← add_of_add]
        generalize ad.add (q * 4) = p
        unfold Addr.add
        rw [if_neg (by omega)]
      have c0 : w.cell? (ad.add (q * 4)) = some (.int .i64 ((K : Int) + (q : Int) * 4)) := by rw [hc (q * 4) _ (marksInt_get (by omega))]; congr 2 <;> omega
      have c1 : w.cell? ⟨(ad.add (q * 4)).block, (ad.add (q * 4)).off + 1, none⟩ = some (.int .i64 ((K : Int) + (q : Int) * 4 + 1)) := by rw [← f 1 (by omega)]; rw [hc (q * 4 + 1) _ (marksInt_get (by omega))]; congr 2 <;> omega
      have c2 : w.cell? ⟨(ad.add (q * 4)).block, (ad.add (q * 4)).off + 2, none⟩ = some (.int .i64 ((K : Int) + (q : Int) * 4 + 2)) := by rw [← f 2 (by omega)]; rw [hc (q * 4 + 2) _ (marksInt_get (by omega))]; congr 2 <;> omega
      have c3 : w.cell? ⟨(ad.add (q * 4)).block, (ad.add (q * 4)).off + 3, none⟩ = some (.int .i64 ((K : Int) + (q : Int) * 4 + 3)) := by rw [← f 3 (by omega)]; rw [hc (q * 4 + 3) _ (marksInt_get (by omega))]; congr 2 <;> omega
      clear hc f
      have ek : ((K + q * 4 : Nat) : Int) = (K : Int) + (q : Int) * 4 := by omega
      rw [ek]
      have ek' : (K : Int) + (q : Int) * 4 + 4 = ((K + (q + 1) * 4 : Nat) : Int) := by omega
      have EK := Lib.hid ek'; clear ek ek'
      have b1 : (q : Int) * 4 + K ≤ 1000000000000 := by omega
      go_wp2
      go_round
      case rel => exact ⟨q + 1, by omega, by go_num, by rw [← EK.out]; go_num⟩
      case measure => simp [intOf]; omega
    · obtain rfl : q = n := by omega
      go_wp2
      go_ret
      exact ⟨rfl, rfl⟩





end Go.Proofs.Ytcjmlakmigfkfaa
