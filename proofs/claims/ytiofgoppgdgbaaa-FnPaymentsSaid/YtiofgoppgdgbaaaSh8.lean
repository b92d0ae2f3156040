/- Contracts of WageOf and NightExtra of both packages, and the laws over them. No conditions. -/
import Derived.Test.YtiofgoppgdgbaaaSh7
namespace Go.Proofs.Ytiofgoppgdgbaaa
set_option linter.unusedSimpArgs false
set_option linter.unusedVariables false
open Go.RowKit

theorem askB_of {a b c d : Int} {l : List S3} {op m : Int} (h : askB a b c d l op m = true) : payB a b c d = true ∧ goodShifts l = true ∧ inB op 1 30 = true ∧ inB m 0 1000 = true := by
  simpa [askB] using h
def wageR (a b c d : Int) (l : List S3) (op m : Int) : Int × Bool := if askB a b c d l op m = true then (wage a b c d l op m, true) else (0, false)
def nightR (a b c d : Int) (l : List S3) (op : Int) : Int × Bool := if askB a b c d l op 0 = true then (a * b * (duty op l).2 / 100, true) else (0, false)

theorem specWageOf_any (a b c d : Int) (A : Option Addr) (n cc : Nat) (l : List S3) (op m : Int) (w : World) (hn : n ≤ 1000000000) (h : Reads w 3 A n (rows3 l)) (hnc : n ≤ cc) :
    Calls Try.prog 21 #[.agg #[.int .i64 a, .int .i64 b, .int .i64 c, .int .i64 d], .slice A n cc, .int .i64 op, .int .i64 m] w fun e w' => e = .returned (.tuple #[.int .i64 (wageR a b c d l op m ).1, .bool (wageR a b c d l op m ).2]) ∧ Below w.heap.size w w' := by
  have ca := fun W (hW : Below w.heap.size w W) => wgAsked_any a b c d A n cc l op m W hn hnc (h.below hW)
  cases hask : askB a b c d l op m with
  | false =>
    simp only [hask] at ca
    have hr : wageR a b c d l op m  = (0, false) := by simp [wageR, hask]
    rw [hr]
    have CA := Lib.hid ca
    clear ca hr h hask
    go_enter Try.func21, Try.ntmps21
    go_wp2_with (go_at_call 51; refine (CA.out _ ((Below.refl _ _).alloc (Nat.le_refl _) _)).mono ?_; rintro e w1 ⟨rfl, hb1⟩)
    go_ret2
    exact ⟨rfl, ((Below.refl _ _).alloc (Nat.le_refl _) _).trans (hb1.mono (by simp))⟩
  | true =>
    simp only [hask] at ca
    have CA := Lib.hid ca
    obtain ⟨hp, hg, hop, hm⟩ := askB_of hask
    have CW := Lib.hid (fun W (hW : Below w.heap.size w W) => wgWage_any a b c d A n cc l op m W hp hg hop (inB_true.1 hm) hnc (h.below hW))
    have hr : wageR a b c d l op m  = (wage a b c d l op m, true) := by simp [wageR, hask]
    rw [hr]
    clear ca hr h hask hp hg hop hm
    go_enter Try.func21, Try.ntmps21
    go_wp2_with (first | (go_at_call 51; refine (CA.out _ ((Below.refl _ _).alloc (Nat.le_refl _) _)).mono ?_; rintro e w1 ⟨rfl, hb1⟩; obtain ⟨k0, k1, k2, k3⟩ := box4 hb1; have HB1 := Lib.hid (((Below.refl _ _).alloc (Nat.le_refl _) _).trans (hb1.mono (by simp))); clear hb1) | (go_at_call 57; refine (CW.out _ HB1.out).mono ?_; rintro e w2 ⟨rfl, hb2⟩; skip; have HB2 := Lib.hid (below_then HB1.out hb2); clear hb2))
    go_ret2
    exact ⟨rfl, HB2.out⟩

theorem specNightExtra_any (a b c d : Int) (A : Option Addr) (n cc : Nat) (l : List S3) (op : Int) (w : World) (hn : n ≤ 1000000000) (h : Reads w 3 A n (rows3 l)) (hnc : n ≤ cc) :
    Calls Try.prog 17 #[.agg #[.int .i64 a, .int .i64 b, .int .i64 c, .int .i64 d], .slice A n cc, .int .i64 op] w fun e w' => e = .returned (.tuple #[.int .i64 (nightR a b c d l op ).1, .bool (nightR a b c d l op ).2]) ∧ Below w.heap.size w w' := by
  have ca := fun W (hW : Below w.heap.size w W) => wgAsked_any a b c d A n cc l op 0 W hn hnc (h.below hW)
  cases hask : askB a b c d l op 0 with
  | false =>
    simp only [hask] at ca
    have hr : nightR a b c d l op  = (0, false) := by simp [nightR, hask]
    rw [hr]
    have CA := Lib.hid ca
    clear ca hr h hask
    go_enter Try.func17, Try.ntmps17
    go_wp2_with (go_at_call 51; refine (CA.out _ ((Below.refl _ _).alloc (Nat.le_refl _) _)).mono ?_; rintro e w1 ⟨rfl, hb1⟩)
    go_ret2
    exact ⟨rfl, ((Below.refl _ _).alloc (Nat.le_refl _) _).trans (hb1.mono (by simp))⟩
  | true =>
    simp only [hask] at ca
    have CA := Lib.hid ca
    obtain ⟨hp, hg, hop, hm⟩ := askB_of hask
    have hr : nightR a b c d l op = (a * b * (duty op l).2 / 100, true) := by simp [nightR, hask]
    rw [hr]
    clear hr
    have hlx : l.length = n := by have := h.1; rw [length_rows3] at this; omega
    have hn60 := good_len hg
    have hw := good_week hg
    have hdt := duty_bd (op := op) hw
    rw [hlx] at hn60 hdt
    have cw := fun W (hW : Below w.heap.size w W) => wgHours_any A n cc l op W hn60 hw (h.below hW)
    generalize duty op l = D at *
    obtain ⟨hh, nn⟩ := D
    dsimp only at hdt cw
    obtain ⟨ha, hb, hc, hd⟩ := payB_of hp
    obtain ⟨_, ⟨q3, q4⟩, ⟨q5, q6⟩, _⟩ := wage_parts (c := 0) (m := 0) (hh := hh) (nn := nn) ha hb (by omega) (by omega) (by omega) (by omega)
    have CW := Lib.hid cw
    clear cw hlx hw hdt
    clear ca h hask hp hg hop hm
    go_enter Try.func17, Try.ntmps17
    go_wp2_with (first | (go_at_call 51; refine (CA.out _ ((Below.refl _ _).alloc (Nat.le_refl _) _)).mono ?_; rintro e w1 ⟨rfl, hb1⟩; obtain ⟨k0, k1, k2, k3⟩ := box4 hb1; have HB1 := Lib.hid (((Below.refl _ _).alloc (Nat.le_refl _) _).trans (hb1.mono (by simp))); clear hb1) | (go_at_call 52; refine (CW.out _ HB1.out).mono ?_; rintro e w2 ⟨rfl, hb2⟩; have k0 := (hb2.cell (World.block_lt_of_cell? w1 _ k0)).trans k0; have k1 := (hb2.cell (World.block_lt_of_cell? w1 _ k1)).trans k1; have HB2 := Lib.hid (below_then HB1.out hb2); clear hb2))
    go_ret2
    exact ⟨rfl, HB2.out⟩

theorem implWageOf_any (a b c d : Int) (A : Option Addr) (n cc : Nat) (l : List S3) (op m : Int) (w : World) (hn : n ≤ 1000000000) (h : Reads w 3 A n (rows3 l)) (hnc : n ≤ cc) :
    Calls Try.prog 22 #[.agg #[.int .i64 a, .int .i64 b, .int .i64 c, .int .i64 d], .slice A n cc, .int .i64 op, .int .i64 m] w fun e w' => e = .returned (.tuple #[.int .i64 (wageR a b c d l op m ).1, .bool (wageR a b c d l op m ).2]) ∧ Below w.heap.size w w' := by
  have SG := Lib.hid (fun W (hW : Below w.heap.size w W) => areShifts_any A n cc l W hn hnc (h.below hW))
  cases h1 : payB a b c d with
  | false =>
    have hr : wageR a b c d l op m  = (0, false) := by simp [wageR, askB, h1]
    rw [hr]
    clear hr h
    go_enter Try.func22, Try.ntmps22
    go_wp2_with (first | (go_at_call 15; refine (isPay_any a b c d _).mono ?_; rintro e w1 ⟨rfl, hb1⟩; obtain ⟨k0, k1, k2, k3⟩ := box4 hb1; have HB1 := Lib.hid (((Below.refl _ _).alloc (Nat.le_refl _) _).trans (hb1.mono (by simp))); clear hb1) | (go_at_call 54; refine (SG.out _ HB1.out).mono ?_; rintro e w2 ⟨rfl, hb2⟩; replace k0 := (hb2.cell (World.block_lt_of_cell? w1 _ k0)).trans k0; replace k1 := (hb2.cell (World.block_lt_of_cell? w1 _ k1)).trans k1; replace k2 := (hb2.cell (World.block_lt_of_cell? w1 _ k2)).trans k2; replace k3 := (hb2.cell (World.block_lt_of_cell? w1 _ k3)).trans k3; have HB2 := Lib.hid (below_then HB1.out hb2); clear hb2) | (go_at_call 55; refine (isOperator_any _ _).mono ?_; rintro e w' ⟨rfl, rfl⟩) | (go_at_call 50; refine (within_any _ _ _ _).mono ?_; rintro e w' ⟨rfl, rfl⟩))
    go_ret2
    exact ⟨rfl, HB1.out⟩
  | true =>
    cases h2 : goodShifts l with
    | false =>
      have hr : wageR a b c d l op m  = (0, false) := by simp [wageR, askB, h1, h2]
      rw [hr]
      clear hr h
      go_enter Try.func22, Try.ntmps22
      go_wp2_with (first | (go_at_call 15; refine (isPay_any a b c d _).mono ?_; rintro e w1 ⟨rfl, hb1⟩; obtain ⟨k0, k1, k2, k3⟩ := box4 hb1; have HB1 := Lib.hid (((Below.refl _ _).alloc (Nat.le_refl _) _).trans (hb1.mono (by simp))); clear hb1) | (go_at_call 54; refine (SG.out _ HB1.out).mono ?_; rintro e w2 ⟨rfl, hb2⟩; replace k0 := (hb2.cell (World.block_lt_of_cell? w1 _ k0)).trans k0; replace k1 := (hb2.cell (World.block_lt_of_cell? w1 _ k1)).trans k1; replace k2 := (hb2.cell (World.block_lt_of_cell? w1 _ k2)).trans k2; replace k3 := (hb2.cell (World.block_lt_of_cell? w1 _ k3)).trans k3; have HB2 := Lib.hid (below_then HB1.out hb2); clear hb2) | (go_at_call 55; refine (isOperator_any _ _).mono ?_; rintro e w' ⟨rfl, rfl⟩) | (go_at_call 50; refine (within_any _ _ _ _).mono ?_; rintro e w' ⟨rfl, rfl⟩))
      go_ret2
      exact ⟨rfl, HB2.out⟩
    | true =>
      cases h3 : inB op 1 30 with
      | false =>
        have hr : wageR a b c d l op m  = (0, false) := by simp [wageR, askB, h1, h2, h3]
        rw [hr]
        clear hr h
        go_enter Try.func22, Try.ntmps22
        go_wp2_with (first | (go_at_call 15; refine (isPay_any a b c d _).mono ?_; rintro e w1 ⟨rfl, hb1⟩; obtain ⟨k0, k1, k2, k3⟩ := box4 hb1; have HB1 := Lib.hid (((Below.refl _ _).alloc (Nat.le_refl _) _).trans (hb1.mono (by simp))); clear hb1) | (go_at_call 54; refine (SG.out _ HB1.out).mono ?_; rintro e w2 ⟨rfl, hb2⟩; replace k0 := (hb2.cell (World.block_lt_of_cell? w1 _ k0)).trans k0; replace k1 := (hb2.cell (World.block_lt_of_cell? w1 _ k1)).trans k1; replace k2 := (hb2.cell (World.block_lt_of_cell? w1 _ k2)).trans k2; replace k3 := (hb2.cell (World.block_lt_of_cell? w1 _ k3)).trans k3; have HB2 := Lib.hid (below_then HB1.out hb2); clear hb2) | (go_at_call 55; refine (isOperator_any _ _).mono ?_; rintro e w' ⟨rfl, rfl⟩) | (go_at_call 50; refine (within_any _ _ _ _).mono ?_; rintro e w' ⟨rfl, rfl⟩))
        go_ret2
        exact ⟨rfl, HB2.out⟩
      | true =>
        cases h4 : inB m 0 1000 with
        | false =>
          have hr : wageR a b c d l op m  = (0, false) := by simp [wageR, askB, h1, h2, h3, h4]
          rw [hr]
          clear hr h
          go_enter Try.func22, Try.ntmps22
          go_wp2_with (first | (go_at_call 15; refine (isPay_any a b c d _).mono ?_; rintro e w1 ⟨rfl, hb1⟩; obtain ⟨k0, k1, k2, k3⟩ := box4 hb1; have HB1 := Lib.hid (((Below.refl _ _).alloc (Nat.le_refl _) _).trans (hb1.mono (by simp))); clear hb1) | (go_at_call 54; refine (SG.out _ HB1.out).mono ?_; rintro e w2 ⟨rfl, hb2⟩; replace k0 := (hb2.cell (World.block_lt_of_cell? w1 _ k0)).trans k0; replace k1 := (hb2.cell (World.block_lt_of_cell? w1 _ k1)).trans k1; replace k2 := (hb2.cell (World.block_lt_of_cell? w1 _ k2)).trans k2; replace k3 := (hb2.cell (World.block_lt_of_cell? w1 _ k3)).trans k3; have HB2 := Lib.hid (below_then HB1.out hb2); clear hb2) | (go_at_call 55; refine (isOperator_any _ _).mono ?_; rintro e w' ⟨rfl, rfl⟩) | (go_at_call 50; refine (within_any _ _ _ _).mono ?_; rintro e w' ⟨rfl, rfl⟩))
          go_ret2
          exact ⟨rfl, HB2.out⟩
        | true =>
          have CW := Lib.hid (fun W (hW : Below w.heap.size w W) => wageOfI_any a b c d A n cc l op m W h1 h2 h3 (inB_true.1 h4) hnc (h.below hW))
          have hr : wageR a b c d l op m = (wage a b c d l op m, true) := by simp [wageR, askB, h1, h2, h3, h4]
          rw [hr]
          clear hr h
          go_enter Try.func22, Try.ntmps22
          go_wp2_with (first | (go_at_call 15; refine (isPay_any a b c d _).mono ?_; rintro e w1 ⟨rfl, hb1⟩; obtain ⟨k0, k1, k2, k3⟩ := box4 hb1; have HB1 := Lib.hid (((Below.refl _ _).alloc (Nat.le_refl _) _).trans (hb1.mono (by simp))); clear hb1) | (go_at_call 54; refine (SG.out _ HB1.out).mono ?_; rintro e w2 ⟨rfl, hb2⟩; replace k0 := (hb2.cell (World.block_lt_of_cell? w1 _ k0)).trans k0; replace k1 := (hb2.cell (World.block_lt_of_cell? w1 _ k1)).trans k1; replace k2 := (hb2.cell (World.block_lt_of_cell? w1 _ k2)).trans k2; replace k3 := (hb2.cell (World.block_lt_of_cell? w1 _ k3)).trans k3; have HB2 := Lib.hid (below_then HB1.out hb2); clear hb2) | (go_at_call 55; refine (isOperator_any _ _).mono ?_; rintro e w' ⟨rfl, rfl⟩) | (go_at_call 50; refine (within_any _ _ _ _).mono ?_; rintro e w' ⟨rfl, rfl⟩) | (go_at_call 58; refine (CW.out _ HB2.out).mono ?_; rintro e w3 ⟨rfl, hb3⟩; skip; have HB3 := Lib.hid (below_then HB2.out hb3); clear hb3))
          go_ret2
          exact ⟨rfl, HB3.out⟩

theorem implNightExtra_any (a b c d : Int) (A : Option Addr) (n cc : Nat) (l : List S3) (op : Int) (w : World) (hn : n ≤ 1000000000) (h : Reads w 3 A n (rows3 l)) (hnc : n ≤ cc) :
    Calls Try.prog 19 #[.agg #[.int .i64 a, .int .i64 b, .int .i64 c, .int .i64 d], .slice A n cc, .int .i64 op] w fun e w' => e = .returned (.tuple #[.int .i64 (nightR a b c d l op ).1, .bool (nightR a b c d l op ).2]) ∧ Below w.heap.size w w' := by
  have SG := Lib.hid (fun W (hW : Below w.heap.size w W) => areShifts_any A n cc l W hn hnc (h.below hW))
  cases h1 : payB a b c d with
  | false =>
    have hr : nightR a b c d l op  = (0, false) := by simp [nightR, askB, h1]
    rw [hr]
    clear hr h
    go_enter Try.func19, Try.ntmps19
    go_wp2_with (first | (go_at_call 15; refine (isPay_any a b c d _).mono ?_; rintro e w1 ⟨rfl, hb1⟩; obtain ⟨k0, k1, k2, k3⟩ := box4 hb1; have HB1 := Lib.hid (((Below.refl _ _).alloc (Nat.le_refl _) _).trans (hb1.mono (by simp))); clear hb1) | (go_at_call 54; refine (SG.out _ HB1.out).mono ?_; rintro e w2 ⟨rfl, hb2⟩; replace k0 := (hb2.cell (World.block_lt_of_cell? w1 _ k0)).trans k0; replace k1 := (hb2.cell (World.block_lt_of_cell? w1 _ k1)).trans k1; replace k2 := (hb2.cell (World.block_lt_of_cell? w1 _ k2)).trans k2; replace k3 := (hb2.cell (World.block_lt_of_cell? w1 _ k3)).trans k3; have HB2 := Lib.hid (below_then HB1.out hb2); clear hb2) | (go_at_call 55; refine (isOperator_any _ _).mono ?_; rintro e w' ⟨rfl, rfl⟩) | (go_at_call 50; refine (within_any _ _ _ _).mono ?_; rintro e w' ⟨rfl, rfl⟩))
    go_ret2
    exact ⟨rfl, HB1.out⟩
  | true =>
    cases h2 : goodShifts l with
    | false =>
      have hr : nightR a b c d l op  = (0, false) := by simp [nightR, askB, h1, h2]
      rw [hr]
      clear hr h
      go_enter Try.func19, Try.ntmps19
      go_wp2_with (first | (go_at_call 15; refine (isPay_any a b c d _).mono ?_; rintro e w1 ⟨rfl, hb1⟩; obtain ⟨k0, k1, k2, k3⟩ := box4 hb1; have HB1 := Lib.hid (((Below.refl _ _).alloc (Nat.le_refl _) _).trans (hb1.mono (by simp))); clear hb1) | (go_at_call 54; refine (SG.out _ HB1.out).mono ?_; rintro e w2 ⟨rfl, hb2⟩; replace k0 := (hb2.cell (World.block_lt_of_cell? w1 _ k0)).trans k0; replace k1 := (hb2.cell (World.block_lt_of_cell? w1 _ k1)).trans k1; replace k2 := (hb2.cell (World.block_lt_of_cell? w1 _ k2)).trans k2; replace k3 := (hb2.cell (World.block_lt_of_cell? w1 _ k3)).trans k3; have HB2 := Lib.hid (below_then HB1.out hb2); clear hb2) | (go_at_call 55; refine (isOperator_any _ _).mono ?_; rintro e w' ⟨rfl, rfl⟩) | (go_at_call 50; refine (within_any _ _ _ _).mono ?_; rintro e w' ⟨rfl, rfl⟩))
      go_ret2
      exact ⟨rfl, HB2.out⟩
    | true =>
      cases h3 : inB op 1 30 with
      | false =>
        have hr : nightR a b c d l op  = (0, false) := by simp [nightR, askB, h1, h2, h3]
        rw [hr]
        clear hr h
        go_enter Try.func19, Try.ntmps19
        go_wp2_with (first | (go_at_call 15; refine (isPay_any a b c d _).mono ?_; rintro e w1 ⟨rfl, hb1⟩; obtain ⟨k0, k1, k2, k3⟩ := box4 hb1; have HB1 := Lib.hid (((Below.refl _ _).alloc (Nat.le_refl _) _).trans (hb1.mono (by simp))); clear hb1) | (go_at_call 54; refine (SG.out _ HB1.out).mono ?_; rintro e w2 ⟨rfl, hb2⟩; replace k0 := (hb2.cell (World.block_lt_of_cell? w1 _ k0)).trans k0; replace k1 := (hb2.cell (World.block_lt_of_cell? w1 _ k1)).trans k1; replace k2 := (hb2.cell (World.block_lt_of_cell? w1 _ k2)).trans k2; replace k3 := (hb2.cell (World.block_lt_of_cell? w1 _ k3)).trans k3; have HB2 := Lib.hid (below_then HB1.out hb2); clear hb2) | (go_at_call 55; refine (isOperator_any _ _).mono ?_; rintro e w' ⟨rfl, rfl⟩) | (go_at_call 50; refine (within_any _ _ _ _).mono ?_; rintro e w' ⟨rfl, rfl⟩))
        go_ret2
        exact ⟨rfl, HB2.out⟩
      | true =>
        have hr : nightR a b c d l op = (a * b * (duty op l).2 / 100, true) := by have h00 : inB 0 0 1000 = true := rfl; simp [nightR, askB, h1, h2, h3, h00]
        rw [hr]
        clear hr
        have hg := h2
        have hp := h1
        have hlx : l.length = n := by have := h.1; rw [length_rows3] at this; omega
        have hn60 := good_len hg
        have hw := good_week hg
        have hdt := duty_bd (op := op) hw
        rw [hlx] at hn60 hdt
        have cw := fun W (hW : Below w.heap.size w W) => dutyHours_any A n cc l op W hn hnc (h.below hW)
        have hr : dutyR l op = ((duty op l).1, (duty op l).2, true) := by simp [dutyR, h2, h3]
        rw [hr] at cw
        clear hr
        generalize duty op l = D at *
        obtain ⟨hh, nn⟩ := D
        dsimp only at hdt cw
        obtain ⟨ha, hb, hc, hd⟩ := payB_of hp
        obtain ⟨_, ⟨q3, q4⟩, ⟨q5, q6⟩, _⟩ := wage_parts (c := 0) (m := 0) (hh := hh) (nn := nn) ha hb (by omega) (by omega) (by omega) (by omega)
        have CW := Lib.hid cw
        clear cw hlx hw hdt
        clear h hg hp
        go_enter Try.func19, Try.ntmps19
        go_wp2_with (first | (go_at_call 15; refine (isPay_any a b c d _).mono ?_; rintro e w1 ⟨rfl, hb1⟩; obtain ⟨k0, k1, k2, k3⟩ := box4 hb1; have HB1 := Lib.hid (((Below.refl _ _).alloc (Nat.le_refl _) _).trans (hb1.mono (by simp))); clear hb1) | (go_at_call 54; refine (SG.out _ HB1.out).mono ?_; rintro e w2 ⟨rfl, hb2⟩; replace k0 := (hb2.cell (World.block_lt_of_cell? w1 _ k0)).trans k0; replace k1 := (hb2.cell (World.block_lt_of_cell? w1 _ k1)).trans k1; replace k2 := (hb2.cell (World.block_lt_of_cell? w1 _ k2)).trans k2; replace k3 := (hb2.cell (World.block_lt_of_cell? w1 _ k3)).trans k3; have HB2 := Lib.hid (below_then HB1.out hb2); clear hb2) | (go_at_call 55; refine (isOperator_any _ _).mono ?_; rintro e w' ⟨rfl, rfl⟩) | (go_at_call 50; refine (within_any _ _ _ _).mono ?_; rintro e w' ⟨rfl, rfl⟩) | (go_at_call 44; refine (CW.out _ HB2.out).mono ?_; rintro e w3 ⟨rfl, hb3⟩; replace k0 := (hb3.cell (World.block_lt_of_cell? w2 _ k0)).trans k0; replace k1 := (hb3.cell (World.block_lt_of_cell? w2 _ k1)).trans k1; have HB3 := Lib.hid (below_then HB2.out hb3); clear hb3))
        go_ret2
        exact ⟨rfl, HB3.out⟩
set_option maxHeartbeats 4000000 in
set_option maxRecDepth 100000 in
theorem law_FnExactWageOf (w : World) {v0 v1 v2 v3 : Value} (h0 : IsAgg4 v0) (h1 : IsRows3 w v1) (h2 : IsInt v2) (h3 : IsInt v3) :
    Calls Try.prog 5 #[v0, v1, v2, v3] w fun e w' => e = .returned (.bool true) ∧ Below w.heap.size w w' := by
  obtain ⟨a0, b0, c0, d0, rfl, _⟩ := h0
  obtain ⟨A1, n1, c1, xs1, rfl, hnc1, hcm1, _, hr1, _⟩ := h1
  obtain ⟨a2, rfl, _⟩ := h2
  obtain ⟨a3, rfl, _⟩ := h3
  have HR1 := Lib.hid ((hr1.alloc (.cells #[.int .i64 a0, .int .i64 b0, .int .i64 c0, .int .i64 d0] 23))); clear hr1
  by_cases hn1 : n1 ≤ 1048576
  rotate_left
  · go_enter Try.func5, Try.ntmps5
    go_wp2_with fail
    refine (szShiftS_big A1 n1 c1 1048576 _ (by omega) (by omega) (by omega)).mono ?_
    rintro e w' ⟨rfl, rfl⟩
    go_wp2_with fail
    go_ret
    exact ⟨rfl, ((Below.refl _ _).alloc (by first | exact Nat.le_refl _ | (simp; done) | (simp; omega)) _)⟩
  obtain ⟨S0, hS0⟩ : ∃ S0, S0 = (w.alloc (.cells #[.int .i64 a0, .int .i64 b0, .int .i64 c0, .int .i64 d0] 23)) := ⟨_, rfl⟩
  have KB0 : Hid (∀ W, Below S0.heap.size S0 W → W.cell? ⟨w.heap.size, 0, none⟩ = some (.int .i64 a0) ∧ W.cell? ⟨w.heap.size, 1, none⟩ = some (.int .i64 b0) ∧ W.cell? ⟨w.heap.size, 2, none⟩ = some (.int .i64 c0) ∧ W.cell? ⟨w.heap.size, 3, none⟩ = some (.int .i64 d0)) := Lib.hid (by
    intro W hW; subst hS0; exact box4 hW)
  have HS0 := Lib.hid hS0
  have BW0 : Hid (Below w.heap.size w S0 ∧ w.heap.size ≤ S0.heap.size) := Lib.hid (by subst hS0; exact ⟨((Below.refl _ _).alloc (by first | exact Nat.le_refl _ | (simp; done) | (simp; omega)) _), by simp; try omega⟩)
  rw [← hS0] at HR1
  clear hS0
  go_enter Try.func5, Try.ntmps5
  go_wp2_with fail
  refine (szShiftS_ok A1 n1 c1 1048576 _ (by omega) (by omega)).mono ?_
  rintro e w' ⟨rfl, rfl⟩
  have BB0 : Hid (Below S0.heap.size S0 S0) := Lib.hid (Below.refl _ _)
  try rw [← HS0.out]
  obtain ⟨ka0, kb0, kc0, kd0⟩ := KB0.out S0 BB0.out
  go_wp2_with fail
  try rw [← HS0.out]
  clear ka0 kb0 kc0 kd0
  refine (toPay_any a0 b0 c0 d0 S0).mono ?_
  rintro e w1 ⟨rfl, hb⟩
  have B0 := Lib.hid hb; clear hb
  have Z0 := Lib.hid (B0.out.size)
  have BB1 := Lib.hid (BB0.out.trans (B0.out.mono BB0.out.size))
  obtain ⟨ka0, kb0, kc0, kd0⟩ := KB0.out w1 BB1.out
  go_wp2_with fail
  clear ka0 kb0 kc0 kd0
  refine (toShiftS_any A1 n1 c1 xs1 w1 (by omega) (HR1.out.below BB1.out)).mono ?_
  rintro e w2 ⟨As1, cs1, rfl, hown, hb⟩
  have Os1_2 := Lib.hid hown; clear hown
  have Ls1 := Lib.hid (own_lt Os1_2.out)
  have B1 := Lib.hid hb; clear hb
  have Z1 := Lib.hid (B1.out.size)
  have BB2 := Lib.hid (BB1.out.trans (B1.out.mono BB1.out.size))
  obtain ⟨ka0, kb0, kc0, kd0⟩ := KB0.out w2 BB2.out
  go_wp2_with fail
  clear ka0 kb0 kc0 kd0
  refine (specWageOf_any a0 b0 c0 d0 As1 n1 cs1 xs1 a2 a3 w2 (by omega) (Reads.of_own Os1_2.out) (own_cap Os1_2.out)).mono ?_
  rintro e w3 ⟨rfl, hb⟩
  have B2 := Lib.hid hb; clear hb
  have Z2 := Lib.hid (B2.out.size)
  have BB3 := Lib.hid (BB2.out.trans (B2.out.mono BB2.out.size))
  have Os1_3 := Lib.hid (own_below Os1_2.out B2.out)
  obtain ⟨ka0, kb0, kc0, kd0⟩ := KB0.out w3 BB3.out
  go_wp2_with fail
  clear ka0 kb0 kc0 kd0
  refine (toShiftS_any A1 n1 c1 xs1 w3 (by omega) (HR1.out.below BB3.out)).mono ?_
  rintro e w4 ⟨Ax1, cx1, rfl, hown, hb⟩
  have Ox1_4 := Lib.hid hown; clear hown
  have Lx1 := Lib.hid (own_lt Ox1_4.out)
  have B3 := Lib.hid hb; clear hb
  have Z3 := Lib.hid (B3.out.size)
  have BB4 := Lib.hid (BB3.out.trans (B3.out.mono BB3.out.size))
  obtain ⟨ka0, kb0, kc0, kd0⟩ := KB0.out w4 BB4.out
  go_wp2_with fail
  clear ka0 kb0 kc0 kd0
  refine (toPay_any a0 b0 c0 d0 w4).mono ?_
  rintro e w5 ⟨rfl, hb⟩
  have B4 := Lib.hid hb; clear hb
  have Z4 := Lib.hid (B4.out.size)
  have BB5 := Lib.hid (BB4.out.trans (B4.out.mono BB4.out.size))
  have Ox1_5 := Lib.hid (own_below Ox1_4.out B4.out)
  obtain ⟨ka0, kb0, kc0, kd0⟩ := KB0.out w5 BB5.out
  go_wp2_with fail
  clear ka0 kb0 kc0 kd0
  refine (implWageOf_any a0 b0 c0 d0 Ax1 n1 cx1 xs1 a2 a3 w5 (by omega) (Reads.of_own Ox1_5.out) (own_cap Ox1_5.out)).mono ?_
  rintro e w6 ⟨rfl, hb⟩
  have B5 := Lib.hid hb; clear hb
  have Z5 := Lib.hid (B5.out.size)
  have BB6 := Lib.hid (BB5.out.trans (B5.out.mono BB5.out.size))
  have Ox1_6 := Lib.hid (own_below Ox1_5.out B5.out)
  obtain ⟨ka0, kb0, kc0, kd0⟩ := KB0.out w6 BB6.out
  go_wp2_with fail
  clear ka0 kb0 kc0 kd0
  refine (toShiftS_any A1 n1 c1 xs1 w6 (by omega) (HR1.out.below BB6.out)).mono ?_
  rintro e w7 ⟨At1, ct1, rfl, hown, hb⟩
  have Ot1_7 := Lib.hid hown; clear hown
  have Lt1 := Lib.hid (own_lt Ot1_7.out)
  have B6 := Lib.hid hb; clear hb
  have Z6 := Lib.hid (B6.out.size)
  have BB7 := Lib.hid (BB6.out.trans (B6.out.mono BB6.out.size))
  have Ox1_7 := Lib.hid (own_below Ox1_6.out B6.out)
  obtain ⟨ka0, kb0, kc0, kd0⟩ := KB0.out w7 BB7.out
  go_wp2_with fail
  clear ka0 kb0 kc0 kd0
  refine (eqShiftS_any Ax1 At1 n1 cx1 ct1 xs1 w7 (by omega) (Reads.of_own Ox1_7.out) (Reads.of_own Ot1_7.out)).mono ?_
  rintro e w8 ⟨rfl, hb⟩
  have B7 := Lib.hid hb; clear hb
  have Z7 := Lib.hid (B7.out.size)
  have BB8 := Lib.hid (BB7.out.trans (B7.out.mono BB7.out.size))
  have Ox1_8 := Lib.hid (own_below Ox1_7.out B7.out)
  have Ot1_8 := Lib.hid (own_below Ot1_7.out B7.out)
  go_wp2_with fail
  go_ret
  exact ⟨rfl, BW0.out.1.trans (BB8.out.mono BW0.out.2)⟩
set_option maxHeartbeats 4000000 in
set_option maxRecDepth 100000 in
theorem law_FnExactNightExtra (w : World) {v0 v1 v2 : Value} (h0 : IsAgg4 v0) (h1 : IsRows3 w v1) (h2 : IsInt v2) :
    Calls Try.prog 4 #[v0, v1, v2] w fun e w' => e = .returned (.bool true) ∧ Below w.heap.size w w' := by
  obtain ⟨a0, b0, c0, d0, rfl, _⟩ := h0
  obtain ⟨A1, n1, c1, xs1, rfl, hnc1, hcm1, _, hr1, _⟩ := h1
  obtain ⟨a2, rfl, _⟩ := h2
  have HR1 := Lib.hid ((hr1.alloc (.cells #[.int .i64 a0, .int .i64 b0, .int .i64 c0, .int .i64 d0] 23))); clear hr1
  by_cases hn1 : n1 ≤ 1048576
  rotate_left
  · go_enter Try.func4, Try.ntmps4
    go_wp2_with fail
    refine (szShiftS_big A1 n1 c1 1048576 _ (by omega) (by omega) (by omega)).mono ?_
    rintro e w' ⟨rfl, rfl⟩
    go_wp2_with fail
    go_ret
    exact ⟨rfl, ((Below.refl _ _).alloc (by first | exact Nat.le_refl _ | (simp; done) | (simp; omega)) _)⟩
  obtain ⟨S0, hS0⟩ : ∃ S0, S0 = (w.alloc (.cells #[.int .i64 a0, .int .i64 b0, .int .i64 c0, .int .i64 d0] 23)) := ⟨_, rfl⟩
  have KB0 : Hid (∀ W, Below S0.heap.size S0 W → W.cell? ⟨w.heap.size, 0, none⟩ = some (.int .i64 a0) ∧ W.cell? ⟨w.heap.size, 1, none⟩ = some (.int .i64 b0) ∧ W.cell? ⟨w.heap.size, 2, none⟩ = some (.int .i64 c0) ∧ W.cell? ⟨w.heap.size, 3, none⟩ = some (.int .i64 d0)) := Lib.hid (by
    intro W hW; subst hS0; exact box4 hW)
  have HS0 := Lib.hid hS0
  have BW0 : Hid (Below w.heap.size w S0 ∧ w.heap.size ≤ S0.heap.size) := Lib.hid (by subst hS0; exact ⟨((Below.refl _ _).alloc (by first | exact Nat.le_refl _ | (simp; done) | (simp; omega)) _), by simp; try omega⟩)
  rw [← hS0] at HR1
  clear hS0
  go_enter Try.func4, Try.ntmps4
  go_wp2_with fail
  refine (szShiftS_ok A1 n1 c1 1048576 _ (by omega) (by omega)).mono ?_
  rintro e w' ⟨rfl, rfl⟩
  have BB0 : Hid (Below S0.heap.size S0 S0) := Lib.hid (Below.refl _ _)
  try rw [← HS0.out]
  obtain ⟨ka0, kb0, kc0, kd0⟩ := KB0.out S0 BB0.out
  go_wp2_with fail
  try rw [← HS0.out]
  clear ka0 kb0 kc0 kd0
  refine (toPay_any a0 b0 c0 d0 S0).mono ?_
  rintro e w1 ⟨rfl, hb⟩
  have B0 := Lib.hid hb; clear hb
  have Z0 := Lib.hid (B0.out.size)
  have BB1 := Lib.hid (BB0.out.trans (B0.out.mono BB0.out.size))
  obtain ⟨ka0, kb0, kc0, kd0⟩ := KB0.out w1 BB1.out
  go_wp2_with fail
  clear ka0 kb0 kc0 kd0
  refine (toShiftS_any A1 n1 c1 xs1 w1 (by omega) (HR1.out.below BB1.out)).mono ?_
  rintro e w2 ⟨As1, cs1, rfl, hown, hb⟩
  have Os1_2 := Lib.hid hown; clear hown
  have Ls1 := Lib.hid (own_lt Os1_2.out)
  have B1 := Lib.hid hb; clear hb
  have Z1 := Lib.hid (B1.out.size)
  have BB2 := Lib.hid (BB1.out.trans (B1.out.mono BB1.out.size))
  obtain ⟨ka0, kb0, kc0, kd0⟩ := KB0.out w2 BB2.out
  go_wp2_with fail
  clear ka0 kb0 kc0 kd0
  refine (specNightExtra_any a0 b0 c0 d0 As1 n1 cs1 xs1 a2 w2 (by omega) (Reads.of_own Os1_2.out) (own_cap Os1_2.out)).mono ?_
  rintro e w3 ⟨rfl, hb⟩
  have B2 := Lib.hid hb; clear hb
  have Z2 := Lib.hid (B2.out.size)
  have BB3 := Lib.hid (BB2.out.trans (B2.out.mono BB2.out.size))
  have Os1_3 := Lib.hid (own_below Os1_2.out B2.out)
  obtain ⟨ka0, kb0, kc0, kd0⟩ := KB0.out w3 BB3.out
  go_wp2_with fail
  clear ka0 kb0 kc0 kd0
  refine (toShiftS_any A1 n1 c1 xs1 w3 (by omega) (HR1.out.below BB3.out)).mono ?_
  rintro e w4 ⟨Ax1, cx1, rfl, hown, hb⟩
  have Ox1_4 := Lib.hid hown; clear hown
  have Lx1 := Lib.hid (own_lt Ox1_4.out)
  have B3 := Lib.hid hb; clear hb
  have Z3 := Lib.hid (B3.out.size)
  have BB4 := Lib.hid (BB3.out.trans (B3.out.mono BB3.out.size))
  obtain ⟨ka0, kb0, kc0, kd0⟩ := KB0.out w4 BB4.out
  go_wp2_with fail
  clear ka0 kb0 kc0 kd0
  refine (toPay_any a0 b0 c0 d0 w4).mono ?_
  rintro e w5 ⟨rfl, hb⟩
  have B4 := Lib.hid hb; clear hb
  have Z4 := Lib.hid (B4.out.size)
  have BB5 := Lib.hid (BB4.out.trans (B4.out.mono BB4.out.size))
  have Ox1_5 := Lib.hid (own_below Ox1_4.out B4.out)
  obtain ⟨ka0, kb0, kc0, kd0⟩ := KB0.out w5 BB5.out
  go_wp2_with fail
  clear ka0 kb0 kc0 kd0
  refine (implNightExtra_any a0 b0 c0 d0 Ax1 n1 cx1 xs1 a2 w5 (by omega) (Reads.of_own Ox1_5.out) (own_cap Ox1_5.out)).mono ?_
  rintro e w6 ⟨rfl, hb⟩
  have B5 := Lib.hid hb; clear hb
  have Z5 := Lib.hid (B5.out.size)
  have BB6 := Lib.hid (BB5.out.trans (B5.out.mono BB5.out.size))
  have Ox1_6 := Lib.hid (own_below Ox1_5.out B5.out)
  obtain ⟨ka0, kb0, kc0, kd0⟩ := KB0.out w6 BB6.out
  go_wp2_with fail
  clear ka0 kb0 kc0 kd0
  refine (toShiftS_any A1 n1 c1 xs1 w6 (by omega) (HR1.out.below BB6.out)).mono ?_
  rintro e w7 ⟨At1, ct1, rfl, hown, hb⟩
  have Ot1_7 := Lib.hid hown; clear hown
  have Lt1 := Lib.hid (own_lt Ot1_7.out)
  have B6 := Lib.hid hb; clear hb
  have Z6 := Lib.hid (B6.out.size)
  have BB7 := Lib.hid (BB6.out.trans (B6.out.mono BB6.out.size))
  have Ox1_7 := Lib.hid (own_below Ox1_6.out B6.out)
  obtain ⟨ka0, kb0, kc0, kd0⟩ := KB0.out w7 BB7.out
  go_wp2_with fail
  clear ka0 kb0 kc0 kd0
  refine (eqShiftS_any Ax1 At1 n1 cx1 ct1 xs1 w7 (by omega) (Reads.of_own Ox1_7.out) (Reads.of_own Ot1_7.out)).mono ?_
  rintro e w8 ⟨rfl, hb⟩
  have B7 := Lib.hid hb; clear hb
  have Z7 := Lib.hid (B7.out.size)
  have BB8 := Lib.hid (BB7.out.trans (B7.out.mono BB7.out.size))
  have Ox1_8 := Lib.hid (own_below Ox1_7.out B7.out)
  have Ot1_8 := Lib.hid (own_below Ot1_7.out B7.out)
  go_wp2_with fail
  go_ret
  exact ⟨rfl, BW0.out.1.trans (BB8.out.mono BW0.out.2)⟩

end Go.Proofs.Ytiofgoppgdgbaaa
