/- Contracts of WageOf and NightExtra of both packages, and the laws over them. No conditions. -/
import Derived.Test.YtiofgoppgdgbaaaDoorSh7
namespace Go.Proofs.YtiofgoppgdgbaaaDoor
set_option linter.unusedSimpArgs false
set_option linter.unusedVariables false
open Go.RowKit

theorem askB_of {a b c d : Int} {l : List S3} {op m : Int} (h : askB a b c d l op m = true) : payB a b c d = true ∧ goodShifts l = true ∧ inB op 1 30 = true ∧ inB m 0 1000 = true := by
  simpa [askB] using h
def wageR (a b c d : Int) (l : List S3) (op m : Int) : Int × Bool := if askB a b c d l op m = true then (wage a b c d l op m, true) else (0, false)
def nightR (a b c d : Int) (l : List S3) (op : Int) : Int × Bool := if askB a b c d l op 0 = true then (a * b * (duty op l).2 / 100, true) else (0, false)

theorem specWageOf_any (a b c d : Int) (A : Option Addr) (n cc : Nat) (l : List S3) (op m : Int) (w : World) (hn : n ≤ 1000000000) (h : Reads w 3 A n (rows3 l)) (hnc : n ≤ cc) :
    Calls Tryd.prog 16 #[.agg #[.int .i64 a, .int .i64 b, .int .i64 c, .int .i64 d], .slice A n cc, .int .i64 op, .int .i64 m] w fun e w' => e = .returned (.tuple #[.int .i64 (wageR a b c d l op m ).1, .bool (wageR a b c d l op m ).2]) ∧ Below w.heap.size w w' := by
  have ca := fun W (hW : Below w.heap.size w W) => wgAsked_any a b c d A n cc l op m W hn hnc (h.below hW)
  cases hask : askB a b c d l op m with
  | false =>
    simp only [hask] at ca
    have hr : wageR a b c d l op m  = (0, false) := by simp [wageR, hask]
    rw [hr]
    have CA := Lib.hid ca
    clear ca hr h hask
    go_enter Tryd.func16, Tryd.ntmps16
    go_wp2_with (go_at_call 47; refine (CA.out _ ((Below.refl _ _).alloc (Nat.le_refl _) _)).mono ?_; rintro e w1 ⟨rfl, hb1⟩)
    go_ret2
    exact ⟨rfl, ((Below.refl _ _).alloc (Nat.le_refl _) _).trans (hb1.mono (by simp))⟩
  | true =>
    simp only [hask] at ca
    have CA := Lib.hid ca
    obtain ⟨hp, hg, hop, hm⟩ := askB_of hask
    have CW := Lib.hid (fun W (hW : Below w.heap.size w W) => wgWage_any a b c d A n cc l op m W hp hg hop (inB_true.1 hm) hnc (h.below hW))
    have hr : wageR a b c d l op m  = (wage a b c d l op m, true) := by simp [wageR, hask]
    rw [hr]
    clear ca hr h hask hp hg hop hm
    go_enter Tryd.func16, Tryd.ntmps16
    go_wp2_with (first | (go_at_call 47; refine (CA.out _ ((Below.refl _ _).alloc (Nat.le_refl _) _)).mono ?_; rintro e w1 ⟨rfl, hb1⟩; obtain ⟨k0, k1, k2, k3⟩ := box4 hb1; have HB1 := Lib.hid (((Below.refl _ _).alloc (Nat.le_refl _) _).trans (hb1.mono (by simp))); clear hb1) | (go_at_call 48; refine (CW.out _ HB1.out).mono ?_; rintro e w2 ⟨rfl, hb2⟩; skip; have HB2 := Lib.hid (below_then HB1.out hb2); clear hb2))
    go_ret2
    exact ⟨rfl, HB2.out⟩

theorem specNightExtra_any (a b c d : Int) (A : Option Addr) (n cc : Nat) (l : List S3) (op : Int) (w : World) (hn : n ≤ 1000000000) (h : Reads w 3 A n (rows3 l)) (hnc : n ≤ cc) :
    Calls Tryd.prog 24 #[.agg #[.int .i64 a, .int .i64 b, .int .i64 c, .int .i64 d], .slice A n cc, .int .i64 op] w fun e w' => e = .returned (.tuple #[.int .i64 (nightR a b c d l op ).1, .bool (nightR a b c d l op ).2]) ∧ Below w.heap.size w w' := by
  have ca := fun W (hW : Below w.heap.size w W) => wgAsked_any a b c d A n cc l op 0 W hn hnc (h.below hW)
  cases hask : askB a b c d l op 0 with
  | false =>
    simp only [hask] at ca
    have hr : nightR a b c d l op  = (0, false) := by simp [nightR, hask]
    rw [hr]
    have CA := Lib.hid ca
    clear ca hr h hask
    go_enter Tryd.func24, Tryd.ntmps24
    go_wp2_with (go_at_call 47; refine (CA.out _ ((Below.refl _ _).alloc (Nat.le_refl _) _)).mono ?_; rintro e w1 ⟨rfl, hb1⟩)
    go_ret2
    exact ⟨rfl, ((Below.refl _ _).alloc (Nat.le_refl _) _).trans (hb1.mono (by simp))⟩
  | true =>
    simp only [hask] at ca
    have CA := Lib.hid ca
    obtain ⟨hp, hg, hop, hm⟩ := askB_of hask
    have hr : nightR a b c d l op = (a * b * (duty op l).2 / 100, true) := by simp [nightR, hask]
    rw [hr]
    clear hr
    have hlx : l.length = n := by have := h.1; rw [length_rows3] at this; omega
    have hn60 := good_len hg
    have hw := good_week hg
    have hdt := duty_bd (op := op) hw
    rw [hlx] at hn60 hdt
    have cw := fun W (hW : Below w.heap.size w W) => wgHours_any A n cc l op W hn60 hw (h.below hW)
    generalize duty op l = D at *
    obtain ⟨hh, nn⟩ := D
    dsimp only at hdt cw
    obtain ⟨ha, hb, hc, hd⟩ := payB_of hp
    obtain ⟨_, ⟨q3, q4⟩, ⟨q5, q6⟩, _⟩ := wage_parts (c := 0) (m := 0) (hh := hh) (nn := nn) ha hb (by omega) (by omega) (by omega) (by omega)
    have CW := Lib.hid cw
    clear cw hlx hw hdt
    clear ca h hask hp hg hop hm
    go_enter Tryd.func24, Tryd.ntmps24
    go_wp2_with (first | (go_at_call 47; refine (CA.out _ ((Below.refl _ _).alloc (Nat.le_refl _) _)).mono ?_; rintro e w1 ⟨rfl, hb1⟩; obtain ⟨k0, k1, k2, k3⟩ := box4 hb1; have HB1 := Lib.hid (((Below.refl _ _).alloc (Nat.le_refl _) _).trans (hb1.mono (by simp))); clear hb1) | (go_at_call 50; refine (CW.out _ HB1.out).mono ?_; rintro e w2 ⟨rfl, hb2⟩; have k0 := (hb2.cell (World.block_lt_of_cell? w1 _ k0)).trans k0; have k1 := (hb2.cell (World.block_lt_of_cell? w1 _ k1)).trans k1; have HB2 := Lib.hid (below_then HB1.out hb2); clear hb2))
    go_ret2
    exact ⟨rfl, HB2.out⟩

theorem implWageOf_any (a b c d : Int) (A : Option Addr) (n cc : Nat) (l : List S3) (op m : Int) (w : World) (hn : n ≤ 1000000000) (h : Reads w 3 A n (rows3 l)) (hnc : n ≤ cc) :
    Calls Tryd.prog 15 #[.agg #[.int .i64 a, .int .i64 b, .int .i64 c, .int .i64 d], .slice A n cc, .int .i64 op, .int .i64 m] w fun e w' => e = .returned (.tuple #[.int .i64 (wageR a b c d l op m ).1, .bool (wageR a b c d l op m ).2]) ∧ Below w.heap.size w w' := by
  have SG := Lib.hid (fun W (hW : Below w.heap.size w W) => areShifts_any A n cc l W hn hnc (h.below hW))
  cases h1 : payB a b c d with
  | false =>
    have hr : wageR a b c d l op m  = (0, false) := by simp [wageR, askB, h1]
    rw [hr]
    clear hr h
    go_enter Tryd.func15, Tryd.ntmps15
    go_wp2_with (first | (go_at_call 19; refine (isPay_any a b c d _).mono ?_; rintro e w1 ⟨rfl, hb1⟩; obtain ⟨k0, k1, k2, k3⟩ := box4 hb1; have HB1 := Lib.hid (((Below.refl _ _).alloc (Nat.le_refl _) _).trans (hb1.mono (by simp))); clear hb1) | (go_at_call 34; refine (SG.out _ HB1.out).mono ?_; rintro e w2 ⟨rfl, hb2⟩; replace k0 := (hb2.cell (World.block_lt_of_cell? w1 _ k0)).trans k0; replace k1 := (hb2.cell (World.block_lt_of_cell? w1 _ k1)).trans k1; replace k2 := (hb2.cell (World.block_lt_of_cell? w1 _ k2)).trans k2; replace k3 := (hb2.cell (World.block_lt_of_cell? w1 _ k3)).trans k3; have HB2 := Lib.hid (below_then HB1.out hb2); clear hb2) | (go_at_call 45; refine (isOperator_any _ _).mono ?_; rintro e w' ⟨rfl, rfl⟩) | (go_at_call 46; refine (within_any _ _ _ _).mono ?_; rintro e w' ⟨rfl, rfl⟩))
    go_ret2
    exact ⟨rfl, HB1.out⟩
  | true =>
    cases h2 : goodShifts l with
    | false =>
      have hr : wageR a b c d l op m  = (0, false) := by simp [wageR, askB, h1, h2]
      rw [hr]
      clear hr h
      go_enter Tryd.func15, Tryd.ntmps15
      go_wp2_with (first | (go_at_call 19; refine (isPay_any a b c d _).mono ?_; rintro e w1 ⟨rfl, hb1⟩; obtain ⟨k0, k1, k2, k3⟩ := box4 hb1; have HB1 := Lib.hid (((Below.refl _ _).alloc (Nat.le_refl _) _).trans (hb1.mono (by simp))); clear hb1) | (go_at_call 34; refine (SG.out _ HB1.out).mono ?_; rintro e w2 ⟨rfl, hb2⟩; replace k0 := (hb2.cell (World.block_lt_of_cell? w1 _ k0)).trans k0; replace k1 := (hb2.cell (World.block_lt_of_cell? w1 _ k1)).trans k1; replace k2 := (hb2.cell (World.block_lt_of_cell? w1 _ k2)).trans k2; replace k3 := (hb2.cell (World.block_lt_of_cell? w1 _ k3)).trans k3; have HB2 := Lib.hid (below_then HB1.out hb2); clear hb2) | (go_at_call 45; refine (isOperator_any _ _).mono ?_; rintro e w' ⟨rfl, rfl⟩) | (go_at_call 46; refine (within_any _ _ _ _).mono ?_; rintro e w' ⟨rfl, rfl⟩))
      go_ret2
      exact ⟨rfl, HB2.out⟩
    | true =>
      cases h3 : inB op 1 30 with
      | false =>
        have hr : wageR a b c d l op m  = (0, false) := by simp [wageR, askB, h1, h2, h3]
        rw [hr]
        clear hr h
        go_enter Tryd.func15, Tryd.ntmps15
        go_wp2_with (first | (go_at_call 19; refine (isPay_any a b c d _).mono ?_; rintro e w1 ⟨rfl, hb1⟩; obtain ⟨k0, k1, k2, k3⟩ := box4 hb1; have HB1 := Lib.hid (((Below.refl _ _).alloc (Nat.le_refl _) _).trans (hb1.mono (by simp))); clear hb1) | (go_at_call 34; refine (SG.out _ HB1.out).mono ?_; rintro e w2 ⟨rfl, hb2⟩; replace k0 := (hb2.cell (World.block_lt_of_cell? w1 _ k0)).trans k0; replace k1 := (hb2.cell (World.block_lt_of_cell? w1 _ k1)).trans k1; replace k2 := (hb2.cell (World.block_lt_of_cell? w1 _ k2)).trans k2; replace k3 := (hb2.cell (World.block_lt_of_cell? w1 _ k3)).trans k3; have HB2 := Lib.hid (below_then HB1.out hb2); clear hb2) | (go_at_call 45; refine (isOperator_any _ _).mono ?_; rintro e w' ⟨rfl, rfl⟩) | (go_at_call 46; refine (within_any _ _ _ _).mono ?_; rintro e w' ⟨rfl, rfl⟩))
        go_ret2
        exact ⟨rfl, HB2.out⟩
      | true =>
        cases h4 : inB m 0 1000 with
        | false =>
          have hr : wageR a b c d l op m  = (0, false) := by simp [wageR, askB, h1, h2, h3, h4]
          rw [hr]
          clear hr h
          go_enter Tryd.func15, Tryd.ntmps15
          go_wp2_with (first | (go_at_call 19; refine (isPay_any a b c d _).mono ?_; rintro e w1 ⟨rfl, hb1⟩; obtain ⟨k0, k1, k2, k3⟩ := box4 hb1; have HB1 := Lib.hid (((Below.refl _ _).alloc (Nat.le_refl _) _).trans (hb1.mono (by simp))); clear hb1) | (go_at_call 34; refine (SG.out _ HB1.out).mono ?_; rintro e w2 ⟨rfl, hb2⟩; replace k0 := (hb2.cell (World.block_lt_of_cell? w1 _ k0)).trans k0; replace k1 := (hb2.cell (World.block_lt_of_cell? w1 _ k1)).trans k1; replace k2 := (hb2.cell (World.block_lt_of_cell? w1 _ k2)).trans k2; replace k3 := (hb2.cell (World.block_lt_of_cell? w1 _ k3)).trans k3; have HB2 := Lib.hid (below_then HB1.out hb2); clear hb2) | (go_at_call 45; refine (isOperator_any _ _).mono ?_; rintro e w' ⟨rfl, rfl⟩) | (go_at_call 46; refine (within_any _ _ _ _).mono ?_; rintro e w' ⟨rfl, rfl⟩))
          go_ret2
          exact ⟨rfl, HB2.out⟩
        | true =>
          have CW := Lib.hid (fun W (hW : Below w.heap.size w W) => wageOfI_any a b c d A n cc l op m W h1 h2 h3 (inB_true.1 h4) hnc (h.below hW))
          have hr : wageR a b c d l op m = (wage a b c d l op m, true) := by simp [wageR, askB, h1, h2, h3, h4]
          rw [hr]
          clear hr h
          go_enter Tryd.func15, Tryd.ntmps15
          go_wp2_with (first | (go_at_call 19; refine (isPay_any a b c d _).mono ?_; rintro e w1 ⟨rfl, hb1⟩; obtain ⟨k0, k1, k2, k3⟩ := box4 hb1; have HB1 := Lib.hid (((Below.refl _ _).alloc (Nat.le_refl _) _).trans (hb1.mono (by simp))); clear hb1) | (go_at_call 34; refine (SG.out _ HB1.out).mono ?_; rintro e w2 ⟨rfl, hb2⟩; replace k0 := (hb2.cell (World.block_lt_of_cell? w1 _ k0)).trans k0; replace k1 := (hb2.cell (World.block_lt_of_cell? w1 _ k1)).trans k1; replace k2 := (hb2.cell (World.block_lt_of_cell? w1 _ k2)).trans k2; replace k3 := (hb2.cell (World.block_lt_of_cell? w1 _ k3)).trans k3; have HB2 := Lib.hid (below_then HB1.out hb2); clear hb2) | (go_at_call 45; refine (isOperator_any _ _).mono ?_; rintro e w' ⟨rfl, rfl⟩) | (go_at_call 46; refine (within_any _ _ _ _).mono ?_; rintro e w' ⟨rfl, rfl⟩) | (go_at_call 36; refine (CW.out _ HB2.out).mono ?_; rintro e w3 ⟨rfl, hb3⟩; skip; have HB3 := Lib.hid (below_then HB2.out hb3); clear hb3))
          go_ret2
          exact ⟨rfl, HB3.out⟩

theorem implNightExtra_any (a b c d : Int) (A : Option Addr) (n cc : Nat) (l : List S3) (op : Int) (w : World) (hn : n ≤ 1000000000) (h : Reads w 3 A n (rows3 l)) (hnc : n ≤ cc) :
    Calls Tryd.prog 23 #[.agg #[.int .i64 a, .int .i64 b, .int .i64 c, .int .i64 d], .slice A n cc, .int .i64 op] w fun e w' => e = .returned (.tuple #[.int .i64 (nightR a b c d l op ).1, .bool (nightR a b c d l op ).2]) ∧ Below w.heap.size w w' := by
  have SG := Lib.hid (fun W (hW : Below w.heap.size w W) => areShifts_any A n cc l W hn hnc (h.below hW))
  cases h1 : payB a b c d with
  | false =>
    have hr : nightR a b c d l op  = (0, false) := by simp [nightR, askB, h1]
    rw [hr]
    clear hr h
    go_enter Tryd.func23, Tryd.ntmps23
    go_wp2_with (first | (go_at_call 19; refine (isPay_any a b c d _).mono ?_; rintro e w1 ⟨rfl, hb1⟩; obtain ⟨k0, k1, k2, k3⟩ := box4 hb1; have HB1 := Lib.hid (((Below.refl _ _).alloc (Nat.le_refl _) _).trans (hb1.mono (by simp))); clear hb1) | (go_at_call 34; refine (SG.out _ HB1.out).mono ?_; rintro e w2 ⟨rfl, hb2⟩; replace k0 := (hb2.cell (World.block_lt_of_cell? w1 _ k0)).trans k0; replace k1 := (hb2.cell (World.block_lt_of_cell? w1 _ k1)).trans k1; replace k2 := (hb2.cell (World.block_lt_of_cell? w1 _ k2)).trans k2; replace k3 := (hb2.cell (World.block_lt_of_cell? w1 _ k3)).trans k3; have HB2 := Lib.hid (below_then HB1.out hb2); clear hb2) | (go_at_call 45; refine (isOperator_any _ _).mono ?_; rintro e w' ⟨rfl, rfl⟩) | (go_at_call 46; refine (within_any _ _ _ _).mono ?_; rintro e w' ⟨rfl, rfl⟩))
    go_ret2
    exact ⟨rfl, HB1.out⟩
  | true =>
    cases h2 : goodShifts l with
    | false =>
      have hr : nightR a b c d l op  = (0, false) := by simp [nightR, askB, h1, h2]
      rw [hr]
      clear hr h
      go_enter Tryd.func23, Tryd.ntmps23
      go_wp2_with (first | (go_at_call 19; refine (isPay_any a b c d _).mono ?_; rintro e w1 ⟨rfl, hb1⟩; obtain ⟨k0, k1, k2, k3⟩ := box4 hb1; have HB1 := Lib.hid (((Below.refl _ _).alloc (Nat.le_refl _) _).trans (hb1.mono (by simp))); clear hb1) | (go_at_call 34; refine (SG.out _ HB1.out).mono ?_; rintro e w2 ⟨rfl, hb2⟩; replace k0 := (hb2.cell (World.block_lt_of_cell? w1 _ k0)).trans k0; replace k1 := (hb2.cell (World.block_lt_of_cell? w1 _ k1)).trans k1; replace k2 := (hb2.cell (World.block_lt_of_cell? w1 _ k2)).trans k2; replace k3 := (hb2.cell (World.block_lt_of_cell? w1 _ k3)).trans k3; have HB2 := Lib.hid (below_then HB1.out hb2); clear hb2) | (go_at_call 45; refine (isOperator_any _ _).mono ?_; rintro e w' ⟨rfl, rfl⟩) | (go_at_call 46; refine (within_any _ _ _ _).mono ?_; rintro e w' ⟨rfl, rfl⟩))
      go_ret2
      exact ⟨rfl, HB2.out⟩
    | true =>
      cases h3 : inB op 1 30 with
      | false =>
        have hr : nightR a b c d l op  = (0, false) := by simp [nightR, askB, h1, h2, h3]
        rw [hr]
        clear hr h
        go_enter Tryd.func23, Tryd.ntmps23
        go_wp2_with (first | (go_at_call 19; refine (isPay_any a b c d _).mono ?_; rintro e w1 ⟨rfl, hb1⟩; obtain ⟨k0, k1, k2, k3⟩ := box4 hb1; have HB1 := Lib.hid (((Below.refl _ _).alloc (Nat.le_refl _) _).trans (hb1.mono (by simp))); clear hb1) | (go_at_call 34; refine (SG.out _ HB1.out).mono ?_; rintro e w2 ⟨rfl, hb2⟩; replace k0 := (hb2.cell (World.block_lt_of_cell? w1 _ k0)).trans k0; replace k1 := (hb2.cell (World.block_lt_of_cell? w1 _ k1)).trans k1; replace k2 := (hb2.cell (World.block_lt_of_cell? w1 _ k2)).trans k2; replace k3 := (hb2.cell (World.block_lt_of_cell? w1 _ k3)).trans k3; have HB2 := Lib.hid (below_then HB1.out hb2); clear hb2) | (go_at_call 45; refine (isOperator_any _ _).mono ?_; rintro e w' ⟨rfl, rfl⟩) | (go_at_call 46; refine (within_any _ _ _ _).mono ?_; rintro e w' ⟨rfl, rfl⟩))
        go_ret2
        exact ⟨rfl, HB2.out⟩
      | true =>
        have hr : nightR a b c d l op = (a * b * (duty op l).2 / 100, true) := by have h00 : inB 0 0 1000 = true := rfl; simp [nightR, askB, h1, h2, h3, h00]
        rw [hr]
        clear hr
        have hg := h2
        have hp := h1
        have hlx : l.length = n := by have := h.1; rw [length_rows3] at this; omega
        have hn60 := good_len hg
        have hw := good_week hg
        have hdt := duty_bd (op := op) hw
        rw [hlx] at hn60 hdt
        have cw := fun W (hW : Below w.heap.size w W) => dutyHours_any A n cc l op W hn hnc (h.below hW)
        have hr : dutyR l op = ((duty op l).1, (duty op l).2, true) := by simp [dutyR, h2, h3]
        rw [hr] at cw
        clear hr
        generalize duty op l = D at *
        obtain ⟨hh, nn⟩ := D
        dsimp only at hdt cw
        obtain ⟨ha, hb, hc, hd⟩ := payB_of hp
        obtain ⟨_, ⟨q3, q4⟩, ⟨q5, q6⟩, _⟩ := wage_parts (c := 0) (m := 0) (hh := hh) (nn := nn) ha hb (by omega) (by omega) (by omega) (by omega)
        have CW := Lib.hid cw
        clear cw hlx hw hdt
        clear h hg hp
        go_enter Tryd.func23, Tryd.ntmps23
        go_wp2_with (first | (go_at_call 19; refine (isPay_any a b c d _).mono ?_; rintro e w1 ⟨rfl, hb1⟩; obtain ⟨k0, k1, k2, k3⟩ := box4 hb1; have HB1 := Lib.hid (((Below.refl _ _).alloc (Nat.le_refl _) _).trans (hb1.mono (by simp))); clear hb1) | (go_at_call 34; refine (SG.out _ HB1.out).mono ?_; rintro e w2 ⟨rfl, hb2⟩; replace k0 := (hb2.cell (World.block_lt_of_cell? w1 _ k0)).trans k0; replace k1 := (hb2.cell (World.block_lt_of_cell? w1 _ k1)).trans k1; replace k2 := (hb2.cell (World.block_lt_of_cell? w1 _ k2)).trans k2; replace k3 := (hb2.cell (World.block_lt_of_cell? w1 _ k3)).trans k3; have HB2 := Lib.hid (below_then HB1.out hb2); clear hb2) | (go_at_call 45; refine (isOperator_any _ _).mono ?_; rintro e w' ⟨rfl, rfl⟩) | (go_at_call 46; refine (within_any _ _ _ _).mono ?_; rintro e w' ⟨rfl, rfl⟩) | (go_at_call 21; refine (CW.out _ HB2.out).mono ?_; rintro e w3 ⟨rfl, hb3⟩; replace k0 := (hb3.cell (World.block_lt_of_cell? w2 _ k0)).trans k0; replace k1 := (hb3.cell (World.block_lt_of_cell? w2 _ k1)).trans k1; have HB3 := Lib.hid (below_then HB2.out hb3); clear hb3))
        go_ret2
        exact ⟨rfl, HB3.out⟩
end Go.Proofs.YtiofgoppgdgbaaaDoor
