/- slices.IndexFunc on entries, the closure of entryIndex, entryIndex. No conditions. -/
import Derived.Test.YtcjmlakmigfkfaaLog1
namespace Go.Proofs.Ytcjmlakmigfkfaa
set_option linter.unusedSimpArgs false
set_option linter.unusedVariables false
open Go.RowKit

set_option maxHeartbeats 4000000 in
set_option maxRecDepth 100000 in
theorem indexFuncE_any (A : Option Addr) (n c : Nat) (L : List EntryT) (F : FuncId) (caps : Array Value) (p : EntryT → Bool) (w : World) (hn : n ≤ 1000000000) (h : Reads2 w 5 A n (rowsE L))
    (hF : ∀ a W, Sem.run Try.prog (callFunc F a) W = .ok (.enter F a) W)
    (hp : ∀ x ∈ L, ∀ (W : World) (A3 A4 : Option Addr) (c3 c4 : Nat), Below w.heap.size w W → Calls Try.prog F (#[.agg #[.int .i64 x.1, .int .i64 x.2.1, .int .i64 x.2.2.1, .slice A3 x.2.2.2.1.length c3, .slice A4 x.2.2.2.2.length c4]] ++ caps) W fun e w' => e = .returned (.bool (p x)) ∧ Below W.heap.size W w') :
    Calls Try.prog 99 #[.slice A n c, .func (.func F) #[] caps] w fun e w' => e = .returned (.int .i64 (idxP p L 0)) ∧ Below w.heap.size w w' := by
  have HX := Lib.hid (show L.length = n by have := h.len; rw [length_rowsE] at this; omega)
  have H := Lib.hid h
  have HP := Lib.hid hp
  clear h hp
  go_enter Try.func99, Try.ntmps99
  go_wp2
  go_loopw [8] (fun i wr => ∃ k : Nat, k ≤ n ∧ i = .int .i64 k ∧ idxP p (L.drop k) (k : Int) = idxP p L 0 ∧ Below w.heap.size w wr) (fun i _ => n - (intOf i).toNat)
  case atStart => exact ⟨0, Nat.zero_le _, rfl, rfl, Below.refl _ _⟩
  case round =>
    obtain ⟨k, hk, rfl, hrel, hb⟩ := hrel
    have HR := Lib.hid hrel; clear hrel
    have HB := Lib.hid hb; clear hb
    by_cases hlt : k < n
    · have hx : k < L.length := by rw [HX.out]; exact hlt
      obtain ⟨ad, A3, c3, A4, c4, rfl, k0, k1, k2, k3, k4, _, _⟩ := rowsE_at (H.out.below HB.out) hx
      have HPX := Lib.hid (HP.out L[k] (List.getElem_mem hx) wr A3 A4 c3 c4 HB.out)
      have HD := Lib.hid (drop_cons hx)
      generalize L[k] = g at *
      obtain ⟨gt, gm, gp, gl, gl'⟩ := g
      simp only at k0 k1 k2 k3 k4 HPX
      go_wp2_with fail
      refine (HPX.out).mono ?_
      rintro e w1 ⟨rfl, hb1⟩
      have HB1 := Lib.hid hb1; clear hb1 k0 k1 k2 k3 k4
      cases hpx : p (gt, gm, gp, gl, gl') with
      | true =>
        go_wp2
        go_ret
        refine ⟨ret_int ?_, HB.out.trans (HB1.out.mono HB.out.size)⟩
        rw [← HR.out, HD.out]
        simp [idxP, hpx]
      | false =>
        go_wp2
        go_roundw
        case rel =>
          refine ⟨k + 1, by omega, by go_num, ?_, HB.out.trans (HB1.out.mono HB.out.size)⟩
          rw [← HR.out, HD.out]
          simp [idxP, hpx]
        case measure => simp [intOf]; omega
    · have HE := Lib.hid (drop_end (xs := L) (k := k) (by rw [HX.out]; omega))
      go_wp2
      go_ret
      refine ⟨ret_int ?_, HB.out⟩
      rw [← HR.out, HE.out]
      rfl

theorem entryIndex1_any (t m p : Int) (A3 A4 : Option Addr) (c3 c4 : Nat) (l l' : List Int) (m0 p0 : Int) (g g' : Nat) (w : World) (h0 : w.cell? ⟨g, 0, none⟩ = some (.int .i64 m0)) (h1 : w.cell? ⟨g', 0, none⟩ = some (.int .i64 p0)) :
    Calls Try.prog 100 #[.agg #[.int .i64 t, .int .i64 m, .int .i64 p, .slice A3 l.length c3, .slice A4 l'.length c4], .pointer (some ⟨g, 0, none⟩), .pointer (some ⟨g', 0, none⟩)] w fun e w' => e = .returned (.bool (isE m0 p0 (t, m, p, l, l'))) ∧ Below w.heap.size w w' := by
  have s0 := (World.cell?_alloc_lt w (.cells #[.int .i64 t, .int .i64 m, .int .i64 p, .slice A3 l.length c3, .slice A4 l'.length c4] 51) _ (World.block_lt_of_cell? w _ h0)).trans h0
  have s1 := (World.cell?_alloc_lt w (.cells #[.int .i64 t, .int .i64 m, .int .i64 p, .slice A3 l.length c3, .slice A4 l'.length c4] 51) _ (World.block_lt_of_cell? w _ h1)).trans h1
  clear h0 h1
  cases hm : (m == m0) with
  | false =>
    go_enter Try.func100, Try.ntmps100
    go_wp2
    go_ret
    exact ⟨ret_bool (by simp [isE, hm]), (Below.refl _ _).alloc (Nat.le_refl _) _⟩
  | true =>
    cases hp : (p == p0) with
    | false =>
      go_enter Try.func100, Try.ntmps100
      go_wp2
      go_ret
      exact ⟨ret_bool (by simp [isE, hm, hp]), (Below.refl _ _).alloc (Nat.le_refl _) _⟩
    | true =>
      go_enter Try.func100, Try.ntmps100
      go_wp2
      go_ret
      exact ⟨ret_bool (by simp [isE, hm, hp]), (Below.refl _ _).alloc (Nat.le_refl _) _⟩
theorem entryIndex1_enters : ∀ a W, Sem.run Try.prog (callFunc 100 a) W = .ok (.enter 100 a) W := fun _ _ => by kernel_rfl
set_option maxRecDepth 100000 in
theorem entryIndex_any (A : Option Addr) (n c : Nat) (L : List EntryT) (m p : Int) (w : World) (hn : n ≤ 1000000000) (h : Reads2 w 5 A n (rowsE L)) :
    Calls Try.prog 77 #[.slice A n c, .int .i64 m, .int .i64 p] w fun e w' => e = .returned (.int .i64 (idxP (isE m p) L 0)) ∧ Below w.heap.size w w' := by
  have HB0 : Hid (Below w.heap.size w ((w.alloc (.cells #[.int .i64 m] 3)).alloc (.cells #[.int .i64 p] 3))) := Lib.hid (((Below.refl _ _).alloc (Nat.le_refl _) _).alloc (by simp) _)
  have z0 : ((w.alloc (.cells #[.int .i64 m] 3)).alloc (.cells #[.int .i64 p] 3)).cell? ⟨w.heap.size, 0, none⟩ = some (.int .i64 m) := by
    rw [World.cell?_alloc_lt _ _ _ (by simp)]
    simp
  have z1 : ((w.alloc (.cells #[.int .i64 m] 3)).alloc (.cells #[.int .i64 p] 3)).cell? ⟨w.heap.size + 1, 0, none⟩ = some (.int .i64 p) := by simp
  have C1 := Lib.hid (indexFuncE_any A n c L 100 #[.pointer (some ⟨w.heap.size, 0, none⟩), .pointer (some ⟨w.heap.size + 1, 0, none⟩)] (isE m p) _ hn (h.below HB0.out) entryIndex1_enters (fun x _ W A3 A4 c3 c4 hW => by
    obtain ⟨xt, xm, xp, xl, xl'⟩ := x
    exact entryIndex1_any xt xm xp A3 A4 c3 c4 xl xl' m p w.heap.size (w.heap.size + 1) W ((hW.cell (World.block_lt_of_cell? _ _ z0)).trans z0) ((hW.cell (World.block_lt_of_cell? _ _ z1)).trans z1)))
  clear h z0 z1
  go_enter Try.func77, Try.ntmps77
  go_wp2_with (go_at_call 99; refine (C1.out).mono ?_; rintro e w1 ⟨rfl, hb⟩)
  go_ret
  exact ⟨rfl, HB0.out.trans (hb.mono HB0.out.size)⟩

end Go.Proofs.Ytcjmlakmigfkfaa
