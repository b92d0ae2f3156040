/- The reference's table of least costs: its keys, its wears. No conditions. -/
import Derived.Test.YtjibdabedagghaaLpP
import Derived.Test.YtjibdabedagghaaNesh
import Derived.Test.YtjibdabedagghaaBel
namespace Go.Proofs.Ytjibdabedagghaa
set_option linter.unusedSimpArgs false
set_option linter.unusedVariables false
open Go.RowKit

set_option maxHeartbeats 1000000 in
theorem key_any (t : Value) (A : Option Addr) (n c : Nat) (ns : List Int) (w : World) (hn : n ≤ 3) (hb : ∀ x ∈ ns, -1 ≤ x ∧ x ≤ 10) (h : Reads w 1 A n (ints ns)) :
    Calls Try.prog 100 #[t, .slice A n c] w fun e w' => e = .returned (.int .i64 (keyF ns 0)) ∧ w = w' := by
  have HX := Lib.hid (show ns.length = n by have := h.1; simpa using this)
  have H := Lib.hid h
  have HV := Lib.hid hb
  clear h hb
  go_enter Try.func100, Try.ntmps100
  go_wp2
  go_loop [5, 10] (fun a i => ∃ k : Nat, ∃ acc : Int, k ≤ n ∧ i = .int .i64 k ∧ a = .int .i64 acc ∧ keyF (ns.drop k) acc = keyF ns 0 ∧ 0 ≤ acc ∧ acc + 1 ≤ (12 : Int) ^ k) (fun _ i => n - (intOf i).toNat)
  case atStart => exact ⟨0, 0, Nat.zero_le _, rfl, rfl, rfl, by omega, by simp⟩
  case round =>
    obtain ⟨k, acc, hk, rfl, rfl, hrel, ha0, ha1⟩ := hrel
    have HR := Lib.hid hrel
    clear hrel
    by_cases hlt : k < n
    · have hxl : k < ns.length := by rw [HX.out]; exact hlt
      obtain ⟨ad, u, rfl, hu, k0⟩ := H.out.at_ hlt
      have e0 : u = .int .i64 ns[k] := by simp [ints, hxl] at hu; exact hu.symm
      subst e0
      have hv := HV.out _ (List.getElem_mem hxl)
      have HD := Lib.hid (drop_cons hxl)
      clear hu
      generalize ns[k] = x at *
      have hacc : acc ≤ 143 := by
        have hk3 : k = 0 ∨ k = 1 ∨ k = 2 := by omega
        rcases hk3 with rfl | rfl | rfl <;> simp at ha1 <;> omega
      have HA1 := Lib.hid ha1
      clear ha1
      go_wp2
      go_round
      case rel => exact ⟨k + 1, 12 * acc + x + 1, by omega, by go_num, rfl, by rw [← HR.out, HD.out]; rfl, by omega, by have := HA1.out; rw [Int.pow_succ]; omega⟩
      case measure => simp [intOf]; omega
    · have e : ns.drop k = [] := List.drop_eq_nil_of_le (by rw [HX.out]; omega)
      have hend := HR.out
      rw [e] at hend
      have HEN : Hid (acc = keyF ns 0) := Lib.hid hend
      clear hend ha1
      go_wp2
      go_ret
      exact ⟨ret_int HEN.out, rfl⟩
/-- The table: its gears, its days, what a trip costs, what is known. -/
abbrev TabAt (w : World) (g : Nat) (A : Option Addr) (n c : Nat) (D trip : Int) (K : Option Addr) (m kc : Nat) : Prop := Box4 w g 93 (.slice A n c) (.int .i64 D) (.int .i64 trip) (.slice K m kc)
set_option maxHeartbeats 1000000 in
theorem wear_any (g : Nat) (A : Option Addr) (n c : Nat) (D trip : Int) (K : Option Addr) (m kc : Nat) (l : List G4) (i : Nat) (x day : Int) (w : World) (hi : i < n) (hn : n ≤ 3) (hx : -1 ≤ x ∧ x ≤ 11) (hd : 0 ≤ day ∧ day ≤ 11) (hgd : goodG l) (hT : TabAt w g A n c D trip K m kc) (h : Reads w 4 A n (rows4 l)) (hl : l.length = n) (q : G4) (hq : l[i]? = some q) :
    Calls Try.prog 108 #[.pointer (some ⟨g, 0, none⟩), .int .i64 i, .int .i64 x, .int .i64 day] w fun e w' => e = .returned (.int .i64 (wearOf q x day)) ∧ Quiet w w' := by
  have hx' : i < l.length := by omega
  obtain ⟨ad, rfl, k0, k1, k2, k3⟩ := rows4_at h hi hl
  obtain ⟨t0, t1, t2, t3⟩ := hT.cells
  have hgq := hgd _ (List.getElem_mem hx')
  rw [List.getElem?_eq_getElem hx'] at hq
  injection hq with hq
  rw [hq] at k0 k1 k2 k3 hgq
  clear hT h hq
  obtain ⟨qa, qb, qc, qd⟩ := q
  simp only at k0 k1 k2 k3 hgq
  clear k2 k3 t1 t2 t3
  have hi0 : (0 : Int) ≤ (i : Int) := by omega
  have hi1 : (i : Int) < (n : Int) := by omega
  by_cases hneg : x < 0
  · have hw : wearOf (qa, qb, qc, qd) x day = qa + day * qb := by unfold wearOf; rw [if_pos hneg]
    have hp := Int.mul_nonneg hd.1 (show 0 ≤ qb by omega)
    have hp2 : day * qb ≤ 11 * 100 := Int.mul_le_mul hd.2 (by omega) (by omega) (by omega)
    have hw1 : IntKind.i64.wrap (day * qb) = day * qb := IntWalk.i64_in _ (by omega)
    have hw2 : IntKind.i64.wrap (qa + day * qb) = qa + day * qb := IntWalk.i64_in _ (by omega)
    have HW := Lib.hid hw
    clear hw
    go_enter Try.func108, Try.ntmps108
    go_wp2
    go_quiet (fail)
    go_wp2
    go_ret
    exact ⟨ret_int HW.out.symm, ⟨_, rfl⟩⟩
  · have hw : wearOf (qa, qb, qc, qd) x day = x * qb := by unfold wearOf; rw [if_neg hneg]
    have hp := Int.mul_nonneg (show 0 ≤ x by omega) (show 0 ≤ qb by omega)
    have hp2 : x * qb ≤ 11 * 100 := Int.mul_le_mul hx.2 (by omega) (by omega) (by omega)
    have HW := Lib.hid hw
    clear hw
    go_enter Try.func108, Try.ntmps108
    go_wp2
    go_ret
    exact ⟨ret_int HW.out.symm, Quiet.refl⟩
end Go.Proofs.Ytjibdabedagghaa
