/- Contracts of the laws' helpers that write marks into slices of structs of integers and that look for them. No conditions. -/
import Derived.Test.YthpfgmnhpnfopaaHelp
namespace Go.Proofs.Ythpfgmnhpnfopaa
set_option linter.unusedSimpArgs false
set_option linter.unusedVariables false
open Go.RowKit

theorem marksInt_get {K n j : Nat} (h : j < n) : (marksInt K n)[j]? = some (.int .i64 ((K + j : Nat) : Int)) := by simp [marksInt, h]
theorem length_marksInt (K n : Nat) : (marksInt K n).length = n := by simp [marksInt]




set_option maxHeartbeats 2000000 in
theorem markFogS_any (A : Option Addr) (n c K base : Nat) (xs : List Value) (w : World) (hn : n * 3 + K ≤ 1000000000000) (h : w.ownsRow base 110 3 (.slice A n c) n xs) :
    Calls Try.prog 52 #[.slice A n c, .int .i64 K] w fun e w' => e = .returned (.int .i64 ((K + n * 3 : Nat) : Int)) ∧ w'.ownsRow base 110 3 (.slice A n c) n (marksInt K (n * 3)) ∧ w.grownBy w' (Value.slice A n c).ownBlock := by
  have HXL := Lib.hid h.1
  have HM := Lib.hid (length_marksInt K (n * 3))
  have H := Lib.hid h; clear h
  go_enter Try.func52, Try.ntmps52
  go_wp2
  go_loopw [1, 5] (fun r i wr => ∃ q : Nat, q ≤ n ∧ i = .int .i64 q ∧ r = .int .i64 ((K + q * 3 : Nat) : Int) ∧ wr.ownsRow base 110 3 (.slice A n c) n ((marksInt K (n * 3)).take (q * 3) ++ xs.drop (q * 3)) ∧ w.grownBy wr (Value.slice A n c).ownBlock) (fun _ i _ => n - (intOf i).toNat)
  case atStart => exact ⟨0, Nat.zero_le _, rfl, by simp, by simpa using H.out, World.grownBy.refl _ _⟩
  case round =>
    obtain ⟨q, hk, rfl, rfl, hown, hg⟩ := hrel
    clear H
    have HG := Lib.hid hg; clear hg
    by_cases hlt : q < n
    · obtain ⟨g, rfl⟩ : ∃ g, A = some ⟨g, 0, none⟩ := by
        rcases hown.2 with ⟨_, h0⟩ | ⟨g, cap, cur, hv, _⟩
        · omega
        · injection hv with e; exact ⟨g, e⟩
      have hcl : ∀ j, q * 3 + j < n * 3 → ∃ o, wr.cell? ⟨g, q * 3 + j, none⟩ = some o := fun j hj => ⟨_, by
        rw [hown.cellAt _ hj]; exact List.getElem?_eq_getElem (by rw [hown.1]; exact hj)⟩
      obtain ⟨o0, e0⟩ := hcl 0 (by omega)
      obtain ⟨o1, e1⟩ := hcl 1 (by omega)
      obtain ⟨o2, e2⟩ := hcl 2 (by omega)
      have f0 : wr.frozen? ⟨g, q * 3, none⟩ = false := hown.frozenAt _
      have f1 : wr.frozen? ⟨g, q * 3 + 1, none⟩ = false := hown.frozenAt _
      have f2 : wr.frozen? ⟨g, q * 3 + 2, none⟩ = false := hown.frozenAt _
      simp only [Nat.add_zero] at e0
      have HW := Lib.hid (own_set3 (x0 := .int .i64 ((K : Int) + (q : Int) * 3)) (x1 := .int .i64 ((K : Int) + (q : Int) * 3 + 1)) (x2 := .int .i64 ((K : Int) + (q : Int) * 3 + 2)) HM.out HXL.out hlt hown (by rw [marksInt_get (by omega)]; congr 2 <;> omega) (by rw [marksInt_get (by omega)]; congr 2 <;> omega) (by rw [marksInt_get (by omega)]; congr 2 <;> omega))
      have HGS := Lib.hid ((grown_set (grown_set (grown_set HG.out (i := q * 3) (.int .i64 ((K : Int) + (q : Int) * 3))) (i := q * 3 + 1) (.int .i64 ((K : Int) + (q : Int) * 3 + 1))) (i := q * 3 + 2) (.int .i64 ((K : Int) + (q : Int) * 3 + 2))))
      clear hown hcl
      have ek : ((K + q * 3 : Nat) : Int) = (K : Int) + (q : Int) * 3 := by omega
      rw [ek]
      have ek' : (K : Int) + (q : Int) * 3 + 3 = ((K + (q + 1) * 3 : Nat) : Int) := by omega
      have EK := Lib.hid ek'; clear ek ek'
      have b1 : (q : Int) * 3 + K ≤ 1000000000000 := by omega
      go_wp2
      go_roundw
      case rel => exact ⟨q + 1, by omega, by go_num, by rw [← EK.out]; go_num, HW.out, HGS.out⟩
      case measure => simp [intOf]; omega
    · obtain rfl : q = n := by omega
      rw [two_end HM.out HXL.out] at hown
      have HO := Lib.hid hown; clear hown
      go_wp2
      go_ret
      exact ⟨rfl, HO.out, HG.out⟩
set_option maxHeartbeats 2000000 in
theorem heldFogS_any (A : Option Addr) (n c K : Nat) (w : World) (hn : n * 3 + K ≤ 1000000000000) (h : Reads w 3 A n (marksInt K (n * 3))) :
    Calls Try.prog 53 #[.slice A n c, .int .i64 K] w fun e w' => e = .returned (.int .i64 ((K + n * 3 : Nat) : Int)) ∧ w = w' := by
  have H := Lib.hid h; clear h
  go_enter Try.func53, Try.ntmps53
  go_wp2
  go_loop [1, 5] (fun r i => ∃ q : Nat, q ≤ n ∧ i = .int .i64 q ∧ r = .int .i64 ((K + q * 3 : Nat) : Int)) (fun _ i => n - (intOf i).toNat)
  case atStart => exact ⟨0, Nat.zero_le _, rfl, by simp⟩
  case round =>
    obtain ⟨q, hk, rfl, rfl⟩ := hrel
    by_cases hlt : q < n
    · obtain ⟨ad, rfl, hc⟩ := H.out.2 (by omega)
      have f : ∀ j, 0 < j → ad.add (q * 3 + j) = ⟨(ad.add (q * 3)).block, (ad.add (q * 3)).off + j, none⟩ := by
        intro j hj
        rw [← add_of_add]
        generalize ad.add (q * 3) = p
        unfold Addr.add
        rw [if_neg (by omega)]
      have c0 : w.cell? (ad.add (q * 3)) = some (.int .i64 ((K : Int) + (q : Int) * 3)) := by rw [hc (q * 3) _ (marksInt_get (by omega))]; congr 2 <;> omega
      have c1 : w.cell? ⟨(ad.add (q * 3)).block, (ad.add (q * 3)).off + 1, none⟩ = some (.int .i64 ((K : Int) + (q : Int) * 3 + 1)) := by rw [← f 1 (by omega)]; rw [hc (q * 3 + 1) _ (marksInt_get (by omega))]; congr 2 <;> omega
      have c2 : w.cell? ⟨(ad.add (q * 3)).block, (ad.add (q * 3)).off + 2, none⟩ = some (.int .i64 ((K : Int) + (q : Int) * 3 + 2)) := by rw [← f 2 (by omega)]; rw [hc (q * 3 + 2) _ (marksInt_get (by omega))]; congr 2 <;> omega
      clear hc f
      have ek : ((K + q * 3 : Nat) : Int) = (K : Int) + (q : Int) * 3 := by omega
      rw [ek]
      have ek' : (K : Int) + (q : Int) * 3 + 3 = ((K + (q + 1) * 3 : Nat) : Int) := by omega
      have EK := Lib.hid ek'; clear ek ek'
      have b1 : (q : Int) * 3 + K ≤ 1000000000000 := by omega
      go_wp2
      go_round
      case rel => exact ⟨q + 1, by omega, by go_num, by rw [← EK.out]; go_num⟩
      case measure => simp [intOf]; omega
    · obtain rfl : q = n := by omega
      go_wp2
      go_ret
      exact ⟨rfl, rfl⟩

theorem szTowerS_okI (A : Option Addr) (n c : Nat) (left : Int) (w : World) (h0 : 0 ≤ left) (h2 : left ≤ 1000000000) (h1 : (n : Int) ≤ left) (hn : n ≤ 9223372036854775807) :
    Calls Try.prog 92 #[.slice A n c, .int .i64 left] w fun e w' => e = .returned (.int .i64 (left - (n : Int))) ∧ w = w' := by
  have := szTowerS_any A n c left w hn h0 h2
  rw [if_neg (by omega)] at this
  exact this
theorem szTowerS_bigI (A : Option Addr) (n c : Nat) (left : Int) (w : World) (h0 : 0 ≤ left) (h2 : left ≤ 1000000000) (h1 : left < (n : Int)) (hn : n ≤ 9223372036854775807) :
    Calls Try.prog 92 #[.slice A n c, .int .i64 left] w fun e w' => e = .returned (.int .i64 (-1)) ∧ w = w' := by
  have := szTowerS_any A n c left w hn h0 h2
  rw [if_pos (by omega)] at this
  exact this
set_option maxHeartbeats 2000000 in
theorem markTowerS_any (A : Option Addr) (n c K base : Nat) (xs : List Value) (w : World) (hn : n * 3 + K ≤ 1000000000000) (h : w.ownsRow base 121 3 (.slice A n c) n xs) :
    Calls Try.prog 102 #[.slice A n c, .int .i64 K] w fun e w' => e = .returned (.int .i64 ((K + n * 3 : Nat) : Int)) ∧ w'.ownsRow base 121 3 (.slice A n c) n (marksInt K (n * 3)) ∧ w.grownBy w' (Value.slice A n c).ownBlock := by
  have HXL := Lib.hid h.1
  have HM := Lib.hid (length_marksInt K (n * 3))
  have H := Lib.hid h; clear h
  go_enter Try.func102, Try.ntmps102
  go_wp2
  go_loopw [1, 5] (fun r i wr => ∃ q : Nat, q ≤ n ∧ i = .int .i64 q ∧ r = .int .i64 ((K + q * 3 : Nat) : Int) ∧ wr.ownsRow base 121 3 (.slice A n c) n ((marksInt K (n * 3)).take (q * 3) ++ xs.drop (q * 3)) ∧ w.grownBy wr (Value.slice A n c).ownBlock) (fun _ i _ => n - (intOf i).toNat)
  case atStart => exact ⟨0, Nat.zero_le _, rfl, by simp, by simpa using H.out, World.grownBy.refl _ _⟩
  case round =>
    obtain ⟨q, hk, rfl, rfl, hown, hg⟩ := hrel
    clear H
    have HG := Lib.hid hg; clear hg
    by_cases hlt : q < n
    · obtain ⟨g, rfl⟩ : ∃ g, A = some ⟨g, 0, none⟩ := by
        rcases hown.2 with ⟨_, h0⟩ | ⟨g, cap, cur, hv, _⟩
        · omega
        · injection hv with e; exact ⟨g, e⟩
      have hcl : ∀ j, q * 3 + j < n * 3 → ∃ o, wr.cell? ⟨g, q * 3 + j, none⟩ = some o := fun j hj => ⟨_, by
        rw [hown.cellAt _ hj]; exact List.getElem?_eq_getElem (by rw [hown.1]; exact hj)⟩
      obtain ⟨o0, e0⟩ := hcl 0 (by omega)
      obtain ⟨o1, e1⟩ := hcl 1 (by omega)
      obtain ⟨o2, e2⟩ := hcl 2 (by omega)
      have f0 : wr.frozen? ⟨g, q * 3, none⟩ = false := hown.frozenAt _
      have f1 : wr.frozen? ⟨g, q * 3 + 1, none⟩ = false := hown.frozenAt _
      have f2 : wr.frozen? ⟨g, q * 3 + 2, none⟩ = false := hown.frozenAt _
      simp only [Nat.add_zero] at e0
      have HW := Lib.hid (own_set3 (x0 := .int .i64 ((K : Int) + (q : Int) * 3)) (x1 := .int .i64 ((K : Int) + (q : Int) * 3 + 1)) (x2 := .int .i64 ((K : Int) + (q : Int) * 3 + 2)) HM.out HXL.out hlt hown (by rw [marksInt_get (by omega)]; congr 2 <;> omega) (by rw [marksInt_get (by omega)]; congr 2 <;> omega) (by rw [marksInt_get (by omega)]; congr 2 <;> omega))
      have HGS := Lib.hid ((grown_set (grown_set (grown_set HG.out (i := q * 3) (.int .i64 ((K : Int) + (q : Int) * 3))) (i := q * 3 + 1) (.int .i64 ((K : Int) + (q : Int) * 3 + 1))) (i := q * 3 + 2) (.int .i64 ((K : Int) + (q : Int) * 3 + 2))))
      clear hown hcl
      have ek : ((K + q * 3 : Nat) : Int) = (K : Int) + (q : Int) * 3 := by omega
      rw [ek]
      have ek' : (K : Int) + (q : Int) * 3 + 3 = ((K + (q + 1) * 3 : Nat) : Int) := by omega
      have EK := Lib.hid ek'; clear ek ek'
      have b1 : (q : Int) * 3 + K ≤ 1000000000000 := by omega
      go_wp2
      go_roundw
      case rel => exact ⟨q + 1, by omega, by go_num, by rw [← EK.out]; go_num, HW.out, HGS.out⟩
      case measure => simp [intOf]; omega
    · obtain rfl : q = n := by omega
      rw [two_end HM.out HXL.out] at hown
      have HO := Lib.hid hown; clear hown
      go_wp2
      go_ret
      exact ⟨rfl, HO.out, HG.out⟩

theorem szLinkS_okI (A : Option Addr) (n c : Nat) (left : Int) (w : World) (h0 : 0 ≤ left) (h2 : left ≤ 1000000000) (h1 : (n : Int) ≤ left) (hn : n ≤ 9223372036854775807) :
    Calls Try.prog 93 #[.slice A n c, .int .i64 left] w fun e w' => e = .returned (.int .i64 (left - (n : Int))) ∧ w = w' := by
  have := szLinkS_any A n c left w hn h0 h2
  rw [if_neg (by omega)] at this
  exact this
theorem szLinkS_bigI (A : Option Addr) (n c : Nat) (left : Int) (w : World) (h0 : 0 ≤ left) (h2 : left ≤ 1000000000) (h1 : left < (n : Int)) (hn : n ≤ 9223372036854775807) :
    Calls Try.prog 93 #[.slice A n c, .int .i64 left] w fun e w' => e = .returned (.int .i64 (-1)) ∧ w = w' := by
  have := szLinkS_any A n c left w hn h0 h2
  rw [if_pos (by omega)] at this
  exact this
set_option maxHeartbeats 2000000 in
theorem markLinkS_any (A : Option Addr) (n c K base : Nat) (xs : List Value) (w : World) (hn : n * 3 + K ≤ 1000000000000) (h : w.ownsRow base 123 3 (.slice A n c) n xs) :
    Calls Try.prog 103 #[.slice A n c, .int .i64 K] w fun e w' => e = .returned (.int .i64 ((K + n * 3 : Nat) : Int)) ∧ w'.ownsRow base 123 3 (.slice A n c) n (marksInt K (n * 3)) ∧ w.grownBy w' (Value.slice A n c).ownBlock := by
  have HXL := Lib.hid h.1
  have HM := Lib.hid (length_marksInt K (n * 3))
  have H := Lib.hid h; clear h
  go_enter Try.func103, Try.ntmps103
  go_wp2
  go_loopw [1, 5] (fun r i wr => ∃ q : Nat, q ≤ n ∧ i = .int .i64 q ∧ r = .int .i64 ((K + q * 3 : Nat) : Int) ∧ wr.ownsRow base 123 3 (.slice A n c) n ((marksInt K (n * 3)).take (q * 3) ++ xs.drop (q * 3)) ∧ w.grownBy wr (Value.slice A n c).ownBlock) (fun _ i _ => n - (intOf i).toNat)
  case atStart => exact ⟨0, Nat.zero_le _, rfl, by simp, by simpa using H.out, World.grownBy.refl _ _⟩
  case round =>
    obtain ⟨q, hk, rfl, rfl, hown, hg⟩ := hrel
    clear H
    have HG := Lib.hid hg; clear hg
    by_cases hlt : q < n
    · obtain ⟨g, rfl⟩ : ∃ g, A = some ⟨g, 0, none⟩ := by
        rcases hown.2 with ⟨_, h0⟩ | ⟨g, cap, cur, hv, _⟩
        · omega
        · injection hv with e; exact ⟨g, e⟩
      have hcl : ∀ j, q * 3 + j < n * 3 → ∃ o, wr.cell? ⟨g, q * 3 + j, none⟩ = some o := fun j hj => ⟨_, by
        rw [hown.cellAt _ hj]; exact List.getElem?_eq_getElem (by rw [hown.1]; exact hj)⟩
      obtain ⟨o0, e0⟩ := hcl 0 (by omega)
      obtain ⟨o1, e1⟩ := hcl 1 (by omega)
      obtain ⟨o2, e2⟩ := hcl 2 (by omega)
      have f0 : wr.frozen? ⟨g, q * 3, none⟩ = false := hown.frozenAt _
      have f1 : wr.frozen? ⟨g, q * 3 + 1, none⟩ = false := hown.frozenAt _
      have f2 : wr.frozen? ⟨g, q * 3 + 2, none⟩ = false := hown.frozenAt _
      simp only [Nat.add_zero] at e0
      have HW := Lib.hid (own_set3 (x0 := .int .i64 ((K : Int) + (q : Int) * 3)) (x1 := .int .i64 ((K : Int) + (q : Int) * 3 + 1)) (x2 := .int .i64 ((K : Int) + (q : Int) * 3 + 2)) HM.out HXL.out hlt hown (by rw [marksInt_get (by omega)]; congr 2 <;> omega) (by rw [marksInt_get (by omega)]; congr 2 <;> omega) (by rw [marksInt_get (by omega)]; congr 2 <;> omega))
      have HGS := Lib.hid ((grown_set (grown_set (grown_set HG.out (i := q * 3) (.int .i64 ((K : Int) + (q : Int) * 3))) (i := q * 3 + 1) (.int .i64 ((K : Int) + (q : Int) * 3 + 1))) (i := q * 3 + 2) (.int .i64 ((K : Int) + (q : Int) * 3 + 2))))
      clear hown hcl
      have ek : ((K + q * 3 : Nat) : Int) = (K : Int) + (q : Int) * 3 := by omega
      rw [ek]
      have ek' : (K : Int) + (q : Int) * 3 + 3 = ((K + (q + 1) * 3 : Nat) : Int) := by omega
      have EK := Lib.hid ek'; clear ek ek'
      have b1 : (q : Int) * 3 + K ≤ 1000000000000 := by omega
      go_wp2
      go_roundw
      case rel => exact ⟨q + 1, by omega, by go_num, by rw [← EK.out]; go_num, HW.out, HGS.out⟩
      case measure => simp [intOf]; omega
    · obtain rfl : q = n := by omega
      rw [two_end HM.out HXL.out] at hown
      have HO := Lib.hid hown; clear hown
      go_wp2
      go_ret
      exact ⟨rfl, HO.out, HG.out⟩

end Go.Proofs.Ythpfgmnhpnfopaa
