/- What the laws on pays draw. No conditions. -/
import Derived.Test.YtiofgoppgdgbaaaDoorDrU
import Derived.Test.YtiofgoppgdgbaaaDoorSh8
namespace Go.Proofs.YtiofgoppgdgbaaaDoor
set_option linter.unusedSimpArgs false
set_option linter.unusedVariables false
open Go.RowKit

section
variable {w w' : World} {b b' : Nat} {t : TypeId} {v0 v1 v2 v3 u0 u1 u2 u3 : Value}
theorem box4_far4 (h : Box4 w b t v0 v1 v2 v3) (hne : b ≠ b') : Box4 ((((w.setCell ⟨b', 0, none⟩ u0).setCell ⟨b', 1, none⟩ u1).setCell ⟨b', 2, none⟩ u2).setCell ⟨b', 3, none⟩ u3) b t v0 v1 v2 v3 := box4_far (box4_far (box4_far (box4_far h hne) hne) hne) hne
theorem box4_put4 (h : Box4 w b t v0 v1 v2 v3) : Box4 ((((w.setCell ⟨b, 0, none⟩ u0).setCell ⟨b, 1, none⟩ u1).setCell ⟨b, 2, none⟩ u2).setCell ⟨b, 3, none⟩ u3) b t u0 u1 u2 u3 := box4_put3 (box4_put2 (box4_put1 (box4_put0 h)))
theorem below_put4 {B : Nat} {w0 : World} (h : Below B w0 w) (hB : B ≤ b) : Below B w0 ((((w.setCell ⟨b, 0, none⟩ u0).setCell ⟨b, 1, none⟩ u1).setCell ⟨b, 2, none⟩ u2).setCell ⟨b, 3, none⟩ u3) := (((h.setCell (p := ⟨b, 0, none⟩) hB _).setCell (p := ⟨b, 1, none⟩) hB _).setCell (p := ⟨b, 2, none⟩) hB _).setCell (p := ⟨b, 3, none⟩) hB _
theorem own_put4 {base k n : Nat} {e : TypeId} {v : Value} {xs : List Value} (h : w.ownsRow base e k v n xs) (hb : b < base) : ((((w.setCell ⟨b, 0, none⟩ u0).setCell ⟨b, 1, none⟩ u1).setCell ⟨b, 2, none⟩ u2).setCell ⟨b, 3, none⟩ u3).ownsRow base e k v n xs :=
  row_same h fun q hq => by
    have h1 := (h.lt q hq).1
    have hne : q ≠ b := by omega
    rw [Below.heap_setCell _ ⟨b, 3, none⟩ _ q hne, Below.heap_setCell _ ⟨b, 2, none⟩ _ q hne, Below.heap_setCell _ ⟨b, 1, none⟩ _ q hne, Below.heap_setCell _ ⟨b, 0, none⟩ _ q hne]
end

set_option maxHeartbeats 2000000 in
set_option maxRecDepth 100000 in
theorem drawWageOf_any (A : Option Addr) (n c : Nat) (l : List Int) (w : World) (hn : n ≤ 9223372036854775807) (hl : ∀ x ∈ l, 0 ≤ x ∧ x ≤ 255) (h : Reads w 1 A n (bytesV l)) :
    Calls Tryd.prog 14 #[.slice A n c] w fun e w' => ∃ pa pb pc pd B m out op ms, e = .returned (.tuple #[.agg #[.int .i64 pa, .int .i64 pb, .int .i64 pc, .int .i64 pd], .slice B (List.length out) m, .int .i64 op, .int .i64 ms]) ∧ (-1 ≤ pa ∧ pa ≤ 100001) ∧ (-1 ≤ op ∧ op ≤ 100001) ∧ (-1 ≤ ms ∧ ms ≤ 100001) ∧ out.length ≤ 61 ∧ w'.ownsRow w.heap.size 56 3 (.slice B out.length m) out.length (rows3 out) ∧ Below w.heap.size w w' := by
  have HZ : Hid (Below w.heap.size w (w.alloc (.cells #[.int .i64 0, .int .i64 0, .int .i64 0, .int .i64 0] 29))) := Lib.hid ((Below.refl _ _).alloc (Nat.le_refl _) _)
  have HB0 : Hid (Below w.heap.size w ((w.alloc (.cells #[.int .i64 0, .int .i64 0, .int .i64 0, .int .i64 0] 29)).alloc (.cells #[.slice A n c, .int .i64 0, .int .u64 0] 75))) := Lib.hid (((Below.refl _ _).alloc (Nat.le_refl _) _).alloc (by simp) _)
  have HE0 : Hid ((w.alloc (.cells #[.int .i64 0, .int .i64 0, .int .i64 0, .int .i64 0] 29)).heap.size = w.heap.size + 1) := Lib.hid (by simp)
  have HE1 : Hid (((w.alloc (.cells #[.int .i64 0, .int .i64 0, .int .i64 0, .int .i64 0] 29)).alloc (.cells #[.slice A n c, .int .i64 0, .int .u64 0] 75)).heap.size = w.heap.size + 1 + 1) := Lib.hid (by simp)
  have hcn := Cur.new (c := c) (h.alloc (.cells #[.int .i64 0, .int .i64 0, .int .i64 0, .int .i64 0] 29)) hn hl
  rw [HE0.out] at hcn
  have HC := Lib.hid hcn
  have HB2 := Lib.hid (box4_bel (Box4.new w 29 (.int .i64 0) (.int .i64 0) (.int .i64 0) (.int .i64 0)) ((Below.refl _ _).alloc (Nat.le_refl _) (.cells #[.slice A n c, .int .i64 0, .int .u64 0] 75)))
  clear h hl hcn
  go_enter Tryd.func14, Tryd.ntmps14
  go_wp2_with fail
  refine (pay_any (w.heap.size + 1) _ _ (by omega) HC.out).mono ?_
  rintro e w1 ⟨pa, pb, pc, pd, rfl, hpa, hpb, hpc, hpd, hc, hd⟩
  have HB2 := Lib.hid (box4_drew HB2.out hd (by omega))
  have HC := Lib.hid hc; have HD := Lib.hid hd
  have HS1 : Hid (w.heap.size + 1 < w1.heap.size) := Lib.hid HC.out.lt
  clear hc hd
  go_wp2_with fail
  refine (anyShifts_any (w.heap.size + 1) _ _ (by omega) HC.out).mono ?_
  rintro e w2 ⟨B, m, out, rfl, hlo, hown, hc, hd⟩
  have HB2 := Lib.hid (box4_drew HB2.out hd (by omega))
  have HO := Lib.hid hown
  have HC := Lib.hid hc; have HD := Lib.hid (HD.out.trans hd)
  clear hown hc hd
  go_wp2_with fail
  refine (operator_any (w.heap.size + 1) _ _ (by omega) HC.out).mono ?_
  rintro e w3 ⟨op, rfl, hop, hc, hd⟩
  have HB2 := Lib.hid (box4_drew HB2.out hd (by omega))
  have HO := Lib.hid (Drew.own hd HO.out HS1.out)
  have HC := Lib.hid hc; have HD := Lib.hid (HD.out.trans hd)
  clear hc hd
  go_wp2_with fail
  refine (messagesOf_any (w.heap.size + 1) _ _ (by omega) HC.out).mono ?_
  rintro e w4 ⟨ms, rfl, hms, hc, hd⟩
  have HB2 := Lib.hid (box4_drew HB2.out hd (by omega))
  have HO := Lib.hid (Drew.own hd HO.out HS1.out)
  have HC := Lib.hid hc; have HD := Lib.hid (HD.out.trans hd)
  clear hc hd
  have HDB := Lib.hid (Drew.allB HD.out (B := w.heap.size) (by omega) (by have := HE1.out; omega))
  obtain ⟨z0, z1, z2, z3⟩ := HB2.out.cells
  obtain ⟨y0, y1, y2, y3⟩ := HB2.out.frozen
  go_wp2
  obtain ⟨r0, r1, r2, r3⟩ := (box4_put4 (u0 := .int .i64 pa) (u1 := .int .i64 pb) (u2 := .int .i64 pc) (u3 := .int .i64 pd) HB2.out).cells
  try simp only [Exit.inBlock, Exit.then]
  refine bodyPost_ret (v := .tuple #[.agg #[.int .i64 pa, .int .i64 pb, .int .i64 pc, .int .i64 pd], .slice B out.length m, .int .i64 op, .int .i64 ms]) (by simp [results, Tryd.results14, go_sem, r0, r1, r2, r3]) rfl ?_
  exact ⟨pa, pb, pc, pd, B, m, out, op, ms, rfl, hpa, hop, hms, hlo, own_mono (own_put4 HO.out (by have := HS1.out; omega)) (by have := HS1.out; omega), below_put4 (HB0.out.trans HDB.out) (Nat.le_refl _)⟩
set_option maxHeartbeats 2000000 in
set_option maxRecDepth 100000 in
theorem drawWageBill_any (A : Option Addr) (n c : Nat) (l : List Int) (w : World) (hn : n ≤ 9223372036854775807) (hl : ∀ x ∈ l, 0 ≤ x ∧ x ≤ 255) (h : Reads w 1 A n (bytesV l)) :
    Calls Tryd.prog 25 #[.slice A n c] w fun e w' => ∃ pa pb pc pd B m out E q ms, e = .returned (.tuple #[.agg #[.int .i64 pa, .int .i64 pb, .int .i64 pc, .int .i64 pd], .slice B (List.length out) m, .slice E (List.length ms) q]) ∧ (-1 ≤ pa ∧ pa ≤ 100001) ∧ out.length ≤ 61 ∧ ms.length ≤ 31 ∧ w'.ownsRow w.heap.size 56 3 (.slice B out.length m) out.length (rows3 out) ∧ w'.ownsRow w.heap.size 3 1 (.slice E ms.length q) ms.length (ints ms) ∧ Below w.heap.size w w' := by
  have HZ : Hid (Below w.heap.size w (w.alloc (.cells #[.int .i64 0, .int .i64 0, .int .i64 0, .int .i64 0] 29))) := Lib.hid ((Below.refl _ _).alloc (Nat.le_refl _) _)
  have HB0 : Hid (Below w.heap.size w ((w.alloc (.cells #[.int .i64 0, .int .i64 0, .int .i64 0, .int .i64 0] 29)).alloc (.cells #[.slice A n c, .int .i64 0, .int .u64 0] 75))) := Lib.hid (((Below.refl _ _).alloc (Nat.le_refl _) _).alloc (by simp) _)
  have HE0 : Hid ((w.alloc (.cells #[.int .i64 0, .int .i64 0, .int .i64 0, .int .i64 0] 29)).heap.size = w.heap.size + 1) := Lib.hid (by simp)
  have HE1 : Hid (((w.alloc (.cells #[.int .i64 0, .int .i64 0, .int .i64 0, .int .i64 0] 29)).alloc (.cells #[.slice A n c, .int .i64 0, .int .u64 0] 75)).heap.size = w.heap.size + 1 + 1) := Lib.hid (by simp)
  have hcn := Cur.new (c := c) (h.alloc (.cells #[.int .i64 0, .int .i64 0, .int .i64 0, .int .i64 0] 29)) hn hl
  rw [HE0.out] at hcn
  have HC := Lib.hid hcn
  have HB2 := Lib.hid (box4_bel (Box4.new w 29 (.int .i64 0) (.int .i64 0) (.int .i64 0) (.int .i64 0)) ((Below.refl _ _).alloc (Nat.le_refl _) (.cells #[.slice A n c, .int .i64 0, .int .u64 0] 75)))
  clear h hl hcn
  go_enter Tryd.func25, Tryd.ntmps25
  go_wp2_with fail
  refine (pay_any (w.heap.size + 1) _ _ (by omega) HC.out).mono ?_
  rintro e w1 ⟨pa, pb, pc, pd, rfl, hpa, hpb, hpc, hpd, hc, hd⟩
  have HB2 := Lib.hid (box4_drew HB2.out hd (by omega))
  have HC := Lib.hid hc; have HD := Lib.hid hd
  have HS1 : Hid (w.heap.size + 1 < w1.heap.size) := Lib.hid HC.out.lt
  clear hc hd
  go_wp2_with fail
  refine (anyShifts_any (w.heap.size + 1) _ _ (by omega) HC.out).mono ?_
  rintro e w2 ⟨B, m, out, rfl, hlo, hown, hc, hd⟩
  have HB2 := Lib.hid (box4_drew HB2.out hd (by omega))
  have HO := Lib.hid hown
  have HC := Lib.hid hc; have HD := Lib.hid (HD.out.trans hd)
  clear hown hc hd
  have HS2 : Hid (w.heap.size + 1 < w2.heap.size) := Lib.hid HC.out.lt
  go_wp2_with fail
  refine (messagesAll_any (w.heap.size + 1) _ _ (by omega) HC.out).mono ?_
  rintro e w3 ⟨E, q, ms, rfl, hlm, _, hown, hc, hd⟩
  have HB2 := Lib.hid (box4_drew HB2.out hd (by omega))
  have HO := Lib.hid (Drew.own hd HO.out HS1.out)
  have HC := Lib.hid hc; have HD := Lib.hid (HD.out.trans hd)
  have HM := Lib.hid hown
  clear hown hc hd
  have HDB := Lib.hid (Drew.allB HD.out (B := w.heap.size) (by omega) (by have := HE1.out; omega))
  obtain ⟨z0, z1, z2, z3⟩ := HB2.out.cells
  obtain ⟨y0, y1, y2, y3⟩ := HB2.out.frozen
  go_wp2
  obtain ⟨r0, r1, r2, r3⟩ := (box4_put4 (u0 := .int .i64 pa) (u1 := .int .i64 pb) (u2 := .int .i64 pc) (u3 := .int .i64 pd) HB2.out).cells
  try simp only [Exit.inBlock, Exit.then]
  refine bodyPost_ret (v := .tuple #[.agg #[.int .i64 pa, .int .i64 pb, .int .i64 pc, .int .i64 pd], .slice B out.length m, .slice E ms.length q]) (by simp [results, Tryd.results25, go_sem, r0, r1, r2, r3]) rfl ?_
  exact ⟨pa, pb, pc, pd, B, m, out, E, q, ms, rfl, hpa, hlo, hlm, own_mono (own_put4 HO.out (by have := HS1.out; omega)) (by have := HS1.out; omega), own_mono (own_put4 HM.out (by have := HS2.out; omega)) (by have := HS2.out; omega), below_put4 (HB0.out.trans HDB.out) (Nat.le_refl _)⟩

end Go.Proofs.YtiofgoppgdgbaaaDoor
