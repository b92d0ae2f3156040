/- AreFogs and FogSeconds of the program, on a net and on fogs in order. No conditions. -/
import Derived.Test.YthpfgmnhpnfopaaFgA
namespace Go.Proofs.Ythpfgmnhpnfopaa
set_option linter.unusedSimpArgs false
set_option linter.unusedVariables false
open Go.RowKit


set_option maxRecDepth 100000 in
theorem isLink_yes (At Ak : Option Addr) (nT cT nK cK : Nat) (T K : List S3) (w : World) (hT : nT ≤ 1000000000) (hK : nK ≤ 1000000000) (ht : Reads w 3 At nT (rows3 T)) (hk : Reads w 3 Ak nK (rows3 K)) (hnet : netB T K = true) (l : Int) (hl : 0 ≤ l ∧ l < (nK : Int)) :
    Calls Try.prog 124 #[.agg #[.slice At nT cT, .slice Ak nK cK], .int .i64 l] w fun e w' => e = .returned (.bool true) ∧ Below w.heap.size w w' := by
  have CN : Hid (Calls Try.prog 98 #[.agg #[.slice At nT cT, .slice Ak nK cK]] (w.alloc (.cells #[.slice At nT cT, .slice Ak nK cK] 68)) fun e w' => e = .returned (.bool true) ∧ Below (w.alloc (.cells #[.slice At nT cT, .slice Ak nK cK] 68)).heap.size (w.alloc (.cells #[.slice At nT cT, .slice Ak nK cK] 68)) w') := Lib.hid (by rw [← hnet]; exact isNet_any At Ak nT cT nK cK T K (w.alloc (.cells #[.slice At nT cT, .slice Ak nK cK] 68)) hT hK (ht.alloc _) (hk.alloc _))
  have HB0 : Hid (Below w.heap.size w (w.alloc (.cells #[.slice At nT cT, .slice Ak nK cK] 68))) := Lib.hid ((Below.refl _ _).alloc (Nat.le_refl _) _)
  have HBB : Hid (∀ W, Below (w.alloc (.cells #[.slice At nT cT, .slice Ak nK cK] 68)).heap.size (w.alloc (.cells #[.slice At nT cT, .slice Ak nK cK] 68)) W → W.cell? ⟨w.heap.size, 0, none⟩ = some (.slice At nT cT) ∧ W.cell? ⟨w.heap.size, 1, none⟩ = some (.slice Ak nK cK)) := Lib.hid (fun W hW => ⟨(hW.cell (by simp)).trans (by simp), (hW.cell (by simp)).trans (by simp)⟩)
  have HZ : Hid (∀ W, Below (w.alloc (.cells #[.slice At nT cT, .slice Ak nK cK] 68)).heap.size (w.alloc (.cells #[.slice At nT cT, .slice Ak nK cK] 68)) W → Below w.heap.size w W) := Lib.hid (fun W hW => HB0.out.trans (hW.mono HB0.out.size))
  have hw := fun W => within_any l 0 ((nK : Int) - 1) W
  have hin : inB l 0 ((nK : Int) - 1) = true := inB_true.2 ⟨hl.1, by omega⟩
  rw [hin] at hw
  have HW := Lib.hid hw
  clear hw hin hnet ht hk
  go_enter Try.func124, Try.ntmps124
  go_wp2_with fail
  refine (CN.out).mono ?_
  rintro e w1 ⟨rfl, hb⟩
  have HB1 := Lib.hid hb
  obtain ⟨b0, b1⟩ := HBB.out _ hb
  clear hb
  go_wp2_with (go_at_call 72; refine (HW.out _).mono ?_; rintro e w' ⟨rfl, rfl⟩)
  go_ret
  exact ⟨ret_bool (by first | rfl | simp), HZ.out _ HB1.out⟩
set_option maxRecDepth 100000 in
theorem fogAsked_yes (At Ak : Option Addr) (nT cT nK cK : Nat) (T K : List S3) (w : World) (hT : nT ≤ 1000000000) (hK : nK ≤ 1000000000) (ht : Reads w 3 At nT (rows3 T)) (hk : Reads w 3 Ak nK (rows3 K)) (hnet : netB T K = true) (A : Option Addr) (n c : Nat) (F : List S3) (l a b : Int) (hl : 0 ≤ l ∧ l < (nK : Int)) (ha : 0 ≤ a) (hab : a ≤ b) (hb0 : b ≤ 10000) (h : Reads w 3 A n (rows3 F)) (hf : FogsOk nK F) :
    Calls Try.prog 109 #[.agg #[.slice At nT cT, .slice Ak nK cK], .slice A n c, .int .i64 l, .int .i64 a, .int .i64 b] w fun e w' => e = .returned (.bool true) ∧ Below w.heap.size w w' := by
  have CN : Hid (Calls Try.prog 98 #[.agg #[.slice At nT cT, .slice Ak nK cK]] (w.alloc (.cells #[.slice At nT cT, .slice Ak nK cK] 68)) fun e w' => e = .returned (.bool true) ∧ Below (w.alloc (.cells #[.slice At nT cT, .slice Ak nK cK] 68)).heap.size (w.alloc (.cells #[.slice At nT cT, .slice Ak nK cK] 68)) w') := Lib.hid (by rw [← hnet]; exact isNet_any At Ak nT cT nK cK T K (w.alloc (.cells #[.slice At nT cT, .slice Ak nK cK] 68)) hT hK (ht.alloc _) (hk.alloc _))
  have HB0 : Hid (Below w.heap.size w (w.alloc (.cells #[.slice At nT cT, .slice Ak nK cK] 68))) := Lib.hid ((Below.refl _ _).alloc (Nat.le_refl _) _)
  have HBB : Hid (∀ W, Below (w.alloc (.cells #[.slice At nT cT, .slice Ak nK cK] 68)).heap.size (w.alloc (.cells #[.slice At nT cT, .slice Ak nK cK] 68)) W → W.cell? ⟨w.heap.size, 0, none⟩ = some (.slice At nT cT) ∧ W.cell? ⟨w.heap.size, 1, none⟩ = some (.slice Ak nK cK)) := Lib.hid (fun W hW => ⟨(hW.cell (by simp)).trans (by simp), (hW.cell (by simp)).trans (by simp)⟩)
  have HZ : Hid (∀ W, Below (w.alloc (.cells #[.slice At nT cT, .slice Ak nK cK] 68)).heap.size (w.alloc (.cells #[.slice At nT cT, .slice Ak nK cK] 68)) W → Below w.heap.size w W) := Lib.hid (fun W hW => HB0.out.trans (hW.mono HB0.out.size))
  have CL := Lib.hid (isLink_yes At Ak nT cT nK cK T K (w.alloc (.cells #[.slice At nT cT, .slice Ak nK cK] 68)) hT hK (ht.alloc _) (hk.alloc _) hnet l hl)
  have CA := Lib.hid (fun W (hW : Below (w.alloc (.cells #[.slice At nT cT, .slice Ak nK cK] 68)).heap.size (w.alloc (.cells #[.slice At nT cT, .slice Ak nK cK] 68)) W) => areFogs_yes At Ak nT cT nK cK A n c F W hK ((h.alloc (.cells #[.slice At nT cT, .slice Ak nK cK] 68)).below hW) hf)
  clear CN hnet ht hk h hf hl
  go_enter Try.func109, Try.ntmps109
  go_wp2_with fail
  refine (CL.out).mono ?_
  rintro e w1 ⟨rfl, hb⟩
  have HB1 := Lib.hid hb
  obtain ⟨b0, b1⟩ := HBB.out _ hb
  clear hb
  go_wp2_with fail
  refine (CA.out _ HB1.out).mono ?_
  rintro e w2 ⟨rfl, hb⟩
  have HB2 := Lib.hid (HB1.out.trans (hb.mono HB1.out.size))
  clear hb b0 b1
  go_wp2
  go_ret
  exact ⟨ret_bool (by first | rfl | simp [ha, hab, hb0]), HZ.out _ HB2.out⟩
set_option maxRecDepth 100000 in
theorem AreFogs_yes (At Ak : Option Addr) (nT cT nK cK : Nat) (T K : List S3) (w : World) (hT : nT ≤ 1000000000) (hK : nK ≤ 1000000000) (ht : Reads w 3 At nT (rows3 T)) (hk : Reads w 3 Ak nK (rows3 K)) (hnet : netB T K = true) (A : Option Addr) (n c : Nat) (F : List S3) (h : Reads w 3 A n (rows3 F)) (hf : FogsOk nK F) :
    Calls Try.prog 62 #[.agg #[.slice At nT cT, .slice Ak nK cK], .slice A n c] w fun e w' => e = .returned (.tuple #[.bool true, .bool true]) ∧ Below w.heap.size w w' := by
  have CN : Hid (Calls Try.prog 98 #[.agg #[.slice At nT cT, .slice Ak nK cK]] (w.alloc (.cells #[.slice At nT cT, .slice Ak nK cK] 68)) fun e w' => e = .returned (.bool true) ∧ Below (w.alloc (.cells #[.slice At nT cT, .slice Ak nK cK] 68)).heap.size (w.alloc (.cells #[.slice At nT cT, .slice Ak nK cK] 68)) w') := Lib.hid (by rw [← hnet]; exact isNet_any At Ak nT cT nK cK T K (w.alloc (.cells #[.slice At nT cT, .slice Ak nK cK] 68)) hT hK (ht.alloc _) (hk.alloc _))
  have HB0 : Hid (Below w.heap.size w (w.alloc (.cells #[.slice At nT cT, .slice Ak nK cK] 68))) := Lib.hid ((Below.refl _ _).alloc (Nat.le_refl _) _)
  have HBB : Hid (∀ W, Below (w.alloc (.cells #[.slice At nT cT, .slice Ak nK cK] 68)).heap.size (w.alloc (.cells #[.slice At nT cT, .slice Ak nK cK] 68)) W → W.cell? ⟨w.heap.size, 0, none⟩ = some (.slice At nT cT) ∧ W.cell? ⟨w.heap.size, 1, none⟩ = some (.slice Ak nK cK)) := Lib.hid (fun W hW => ⟨(hW.cell (by simp)).trans (by simp), (hW.cell (by simp)).trans (by simp)⟩)
  have HZ : Hid (∀ W, Below (w.alloc (.cells #[.slice At nT cT, .slice Ak nK cK] 68)).heap.size (w.alloc (.cells #[.slice At nT cT, .slice Ak nK cK] 68)) W → Below w.heap.size w W) := Lib.hid (fun W hW => HB0.out.trans (hW.mono HB0.out.size))
  have CA := Lib.hid (fun W (hW : Below (w.alloc (.cells #[.slice At nT cT, .slice Ak nK cK] 68)).heap.size (w.alloc (.cells #[.slice At nT cT, .slice Ak nK cK] 68)) W) => areFogs_yes At Ak nT cT nK cK A n c F W hK ((h.alloc (.cells #[.slice At nT cT, .slice Ak nK cK] 68)).below hW) hf)
  clear hnet ht hk h hf
  go_enter Try.func62, Try.ntmps62
  go_wp2_with fail
  refine (CN.out).mono ?_
  rintro e w1 ⟨rfl, hb⟩
  have HB1 := Lib.hid hb
  obtain ⟨b0, b1⟩ := HBB.out _ hb
  clear hb
  go_wp2_with fail
  refine (CA.out _ HB1.out).mono ?_
  rintro e w2 ⟨rfl, hb⟩
  have HB2 := Lib.hid (HB1.out.trans (hb.mono HB1.out.size))
  clear hb b0 b1
  go_wp2
  go_ret2
  exact ⟨rfl, HZ.out _ HB2.out⟩

end Go.Proofs.Ythpfgmnhpnfopaa
