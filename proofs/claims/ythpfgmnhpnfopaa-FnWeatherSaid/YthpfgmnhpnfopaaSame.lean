/- Are two lists of integers alike? Contracts of both packages' tests. No conditions. -/
import Derived.Test.YthpfgmnhpnfopaaCom
namespace Go.Proofs.Ythpfgmnhpnfopaa
set_option linter.unusedSimpArgs false
set_option linter.unusedVariables false
open Go.RowKit

def sameB (l l' : List Int) : Bool := decide (l = l')
theorem quiet_then {w w' : World} (h : Quiet w w') (m : Nat) : Quiet w (w'.drewN m) := by
  obtain ⟨n, rfl⟩ := h
  refine ⟨n + m, ?_⟩
  simp [World.drewN, Nat.add_assoc]
theorem drop_eq_iff {l l' : List Int} {k : Nat} (h : k < l.length) (h' : k < l'.length) : (l.drop k = l'.drop k) ↔ (l[k] = l'[k] ∧ l.drop (k + 1) = l'.drop (k + 1)) := by
  rw [List.drop_eq_getElem_cons h, List.drop_eq_getElem_cons h', List.cons.injEq]



set_option maxHeartbeats 1000000 in
theorem sameInts_any (A : Option Addr) (n c : Nat) (l : List Int) (B : Option Addr) (m d : Nat) (l' : List Int) (w : World) (hn : n ≤ 1000000000) (hm : m ≤ 1000000000) (h : Reads w 1 A n (ints l)) (h' : Reads w 1 B m (ints l')) :
    Calls Try.prog 42 #[.slice A n c, .slice B m d] w fun e w' => e = .returned (.bool (sameB l l')) ∧ Quiet w w' := by
  have HX := Lib.hid (show l.length = n by have := h.1; simpa using this)
  have HY := Lib.hid (show l'.length = m by have := h'.1; simpa using this)
  have H := Lib.hid h
  have H' := Lib.hid h'
  clear h h'
  by_cases hnm : n = m
  rotate_left
  · have hr : sameB l l' = false := by
      unfold sameB
      rw [decide_eq_false_iff_not]
      rintro rfl
      exact hnm (HX.out.symm.trans HY.out)
    rw [hr]
    have hne : ((n : Int) == (m : Int)) = false := by rw [beq_eq_false_iff_ne]; omega
    clear hr
    go_enter Try.func42, Try.ntmps42
    go_wp2
    go_ret
    exact ⟨rfl, Quiet.refl⟩
  subst hnm
  go_enter Try.func42, Try.ntmps42
  go_wp2
  go_loopw [13] (fun i wr => ∃ k : Nat, k ≤ n ∧ i = .int .i64 k ∧ (l.drop k = l'.drop k ↔ l = l') ∧ Quiet w wr) (fun i _ => n - (intOf i).toNat)
  case atStart => exact ⟨0, Nat.zero_le _, rfl, by simp, Quiet.refl⟩
  case round =>
    obtain ⟨k, hk, rfl, hrel, q, rfl⟩ := hrel
    have HR := Lib.hid hrel; clear hrel
    by_cases hlt : k < n
    · have hx : k < l.length := by rw [HX.out]; exact hlt
      have hy : k < l'.length := by rw [HY.out]; exact hlt
      have HE := Lib.hid (drop_eq_iff hx hy)
      obtain ⟨ad, u, rfl, hu, c0⟩ := (H.out.drewN q).at_ hlt
      obtain ⟨bd, v, rfl, hv, c1⟩ := (H'.out.drewN q).at_ hlt
      have e0 : u = .int .i64 l[k] := by simp [ints, hx] at hu; exact hu.symm
      have e1 : v = .int .i64 l'[k] := by simp [ints, hy] at hv; exact hv.symm
      subst e0; subst e1
      clear hu hv
      generalize l[k] = x at *
      generalize l'[k] = y at *
      have hi0 : (0 : Int) ≤ (k : Int) := by omega
      have hi1 : (k : Int) < (n : Int) := by omega
      obtain ⟨wo, hwo⟩ : ∃ wo, wo = w.drewN q := ⟨_, rfl⟩
      rw [← hwo] at c0 c1 ⊢
      have HWO : Hid (Quiet w wo) := Lib.hid ⟨q, hwo⟩
      clear hwo
      cases hxy : (x == y) with
      | true =>
        have hxy' : x = y := by simpa using hxy
        have HN : Hid (l.drop (k + 1) = l'.drop (k + 1) ↔ l = l') := Lib.hid (by rw [← HR.out, HE.out]; simp [hxy'])
        clear hxy'
        go_wp2
        go_quiet (fail)
        go_wp2
        go_roundw
        case rel => exact ⟨k + 1, by omega, by go_num, HN.out, quiet_then HWO.out _⟩
        case measure => simp [intOf]; omega
      | false =>
        have hxy' : ¬ x = y := by simpa using hxy
        have HN : Hid (sameB l l' = false) := Lib.hid (by unfold sameB; rw [decide_eq_false_iff_not, ← HR.out, HE.out]; simp [hxy'])
        clear hxy'
        go_wp2
        go_quiet (fail)
        go_wp2
        go_ret
        exact ⟨ret_bool HN.out.symm, quiet_then HWO.out _⟩
    · have hr : sameB l l' = true := by
        unfold sameB
        rw [decide_eq_true_eq, ← HR.out, List.drop_eq_nil_of_le (by rw [HX.out]; omega), List.drop_eq_nil_of_le (by rw [HY.out]; omega)]
      have HN := Lib.hid hr; clear hr
      go_wp2
      go_ret
      exact ⟨ret_bool HN.out.symm, ⟨q, rfl⟩⟩


end Go.Proofs.Ythpfgmnhpnfopaa
