/- Contracts of WagePerHour and HourFor of both packages, and the laws over them. No conditions. -/
import Derived.Test.YtiofgoppgdgbaaaDoorSh8
namespace Go.Proofs.YtiofgoppgdgbaaaDoor
set_option linter.unusedSimpArgs false
set_option linter.unusedVariables false
open Go.RowKit

theorem gcdOf_any (a b : Nat) (w : World) (ha : a ≤ 1000000000000) (hb : b ≤ 1000000000000) :
    Calls Tryd.prog 49 #[.int .i64 a, .int .i64 b] w fun e w' => e = .returned (.int .i64 (Nat.gcd a b : Int)) ∧ Quiet w w' := by
  go_enter Tryd.func49, Tryd.ntmps49
  go_wp2
  go_loopw [0, 1] (fun s t wr => ∃ x y m : Nat, s = .int .i64 x ∧ t = .int .i64 y ∧ x ≤ 1000000000000 ∧ y ≤ 1000000000000 ∧ Nat.gcd x y = Nat.gcd a b ∧ wr = w.drewN m) (fun _ t _ => (intOf t).toNat)
  case atStart => exact ⟨a, b, 0, rfl, rfl, ha, hb, rfl, rfl⟩
  case round =>
    obtain ⟨x, y, m, rfl, rfl, hx, hy, hrel, rfl⟩ := hrel
    have HR := Lib.hid hrel; clear hrel
    by_cases h0 : 0 < y
    · have hm := Nat.mod_lt x h0
      have HG : Hid (Nat.gcd y (x % y) = Nat.gcd x y) := Lib.hid (by rw [Nat.gcd_comm x y, Nat.gcd_rec y x, Nat.gcd_comm])
      have ec : (x : Int) % (y : Int) = ((x % y : Nat) : Int) := by simp
      have EC := Lib.hid ec; clear ec
      have hy1 : 1 ≤ (y : Int) := by omega
      go_wp2
      go_quiet (fail)
      go_wp2
      go_roundw
      case rel => exact ⟨y, x % y, _, rfl, by rw [← EC.out], hy, by omega, by rw [HG.out, HR.out], World.drewN_drewN _ _ _⟩
      case measure => simp [intOf]; omega
    · obtain rfl : y = 0 := by omega
      go_wp2
      go_ret
      refine ⟨ret_int ?_, m, rfl⟩
      rw [← HR.out, Nat.gcd_zero_right]
theorem wgPart_any (a b : Nat) (w : World) (ha : a ≤ 1000000000000) (hb : b ≤ 1000000000000) (hb0 : 0 < b) :
    Calls Tryd.prog 51 #[.int .i64 a, .int .i64 b] w fun e w' => e = .returned (.tuple #[.int .i64 ((a : Int) / (Nat.gcd a b : Int)), .int .i64 ((b : Int) / (Nat.gcd a b : Int))]) ∧ Quiet w w' := by
  have hab : ∀ W : World, Calls Tryd.prog 72 #[.int .i64 a] W fun e w' => e = .returned (.int .i64 a) ∧ W = w' := by
    intro W
    go_enter Tryd.func72, Tryd.ntmps72
    go_wp2_with (go_at_call 71; refine (l1Most_any _ _ _).mono ?_; rintro e w' ⟨rfl, rfl⟩)
    go_ret
    exact ⟨ret_int (by omega), rfl⟩
  have HAB := Lib.hid hab; clear hab
  have hg0 : 0 < Nat.gcd a b := Nat.gcd_pos_of_pos_right _ hb0
  have HG0 := Lib.hid hg0; clear hg0
  generalize hgg : Nat.gcd a b = g at *
  have HGG := Lib.hid hgg; clear hgg
  go_enter Tryd.func51, Tryd.ntmps51
  go_wp2_with (go_at_call 72; refine (HAB.out _).mono ?_; rintro e w' ⟨rfl, rfl⟩)
  go_loop [6, 7] (fun s t => ∃ x y : Nat, s = .int .i64 x ∧ t = .int .i64 y ∧ x ≤ 1000000000000 ∧ y ≤ 1000000000000 ∧ Nat.gcd x y = g) (fun _ t => (intOf t).toNat)
  case atStart => exact ⟨a, b, rfl, rfl, ha, hb, HGG.out⟩
  case round =>
    obtain ⟨x, y, rfl, rfl, hx, hy, hrel⟩ := hrel
    have HR := Lib.hid hrel; clear hrel
    by_cases h0 : 0 < y
    · have hm := Nat.mod_lt x h0
      have HG : Hid (Nat.gcd y (x % y) = Nat.gcd x y) := Lib.hid (by rw [Nat.gcd_comm x y, Nat.gcd_rec y x, Nat.gcd_comm])
      have ec : (x : Int) % (y : Int) = ((x % y : Nat) : Int) := by simp
      have EC := Lib.hid ec; clear ec
      go_wp2
      go_round
      case rel => exact ⟨y, x % y, rfl, by rw [← EC.out], hy, by omega, by rw [HG.out, HR.out]⟩
      case measure => simp [intOf]; omega
    · obtain rfl : y = 0 := by omega
      have hxg : x = g := by have := HR.out; rwa [Nat.gcd_zero_right] at this
      subst hxg
      have hx0 := HG0.out
      have hx1 : 1 ≤ (x : Int) := by omega
      go_wp2
      go_quiet (fail)
      go_wp2
      go_ret2
      exact ⟨ret_int2 (quo_in a x ha) (quo_in b x hb), _, rfl⟩

def perHourR (a b c d : Int) (l : List S3) (op m : Int) : Int × Int × Bool :=
  if askB a b c d l op m = true ∧ (duty op l).1 ≠ 0 then (wage a b c d l op m / (Nat.gcd (wage a b c d l op m).toNat (duty op l).1.toNat : Int), (duty op l).1 / (Nat.gcd (wage a b c d l op m).toNat (duty op l).1.toNat : Int), true) else (0, 0, false)
theorem wage_bd {a b c d : Int} {l : List S3} {op m : Int} (hp : payB a b c d = true) (hg : goodShifts l = true) (hm : 0 ≤ m ∧ m ≤ 1000) : 0 ≤ wage a b c d l op m ∧ wage a b c d l op m ≤ 1000000000 := by
  obtain ⟨ha, hb, hc, hd⟩ := payB_of hp
  have h60 := good_len hg
  have hdt := duty_bd (op := op) (good_week hg)
  have := wage_parts (hh := (duty op l).1) (nn := (duty op l).2) ha hb hc hm (by omega) (by omega)
  unfold wage wageV baseV
  generalize duty op l = D at *
  split <;> omega
theorem duty_pos {a b c d : Int} {l : List S3} {op m : Int} (h : askB a b c d l op m = true) : 0 ≤ (duty op l).1 ∧ (duty op l).1 ≤ 10080 := by
  obtain ⟨_, hg, _, _⟩ := askB_of h
  have h60 := good_len hg
  have hdt := duty_bd (op := op) (good_week hg)
  omega

set_option maxHeartbeats 1000000 in
theorem specWagePerHour_any (a b c d : Int) (A : Option Addr) (n cc : Nat) (l : List S3) (op m : Int) (w : World) (hn : n ≤ 1000000000) (h : Reads w 3 A n (rows3 l)) (hnc : n ≤ cc) :
    Calls Tryd.prog 18 #[.agg #[.int .i64 a, .int .i64 b, .int .i64 c, .int .i64 d], .slice A n cc, .int .i64 op, .int .i64 m] w fun e w' => e = .returned (.tuple #[.int .i64 (perHourR a b c d l op m).1, .int .i64 (perHourR a b c d l op m).2.1, .bool (perHourR a b c d l op m).2.2]) ∧ Below w.heap.size w w' := by
  have hlx : l.length = n := by have := h.1; rw [length_rows3] at this; omega
  have ca := fun W (hW : Below w.heap.size w W) => wgAsked_any a b c d A n cc l op m W hn hnc (h.below hW)
  cases hask : askB a b c d l op m with
  | false =>
    simp only [hask] at ca
    have hr : perHourR a b c d l op m = (0, 0, false) := by simp [perHourR, hask]
    rw [hr]
    have CA := Lib.hid ca
    clear ca hr h hask hlx
    go_enter Tryd.func18, Tryd.ntmps18
    go_wp2_with (go_at_call 47; refine (CA.out _ ((Below.refl _ _).alloc (Nat.le_refl _) _)).mono ?_; rintro e w1 ⟨rfl, hb1⟩)
    go_ret3
    exact ⟨rfl, ((Below.refl _ _).alloc (Nat.le_refl _) _).trans (hb1.mono (by simp))⟩
  | true =>
    simp only [hask] at ca
    have CA := Lib.hid ca
    obtain ⟨hp, hg, hop, hm⟩ := askB_of hask
    have hn60 := good_len hg
    have hw := good_week hg
    have hwb := wage_bd (op := op) hp hg (inB_true.1 hm)
    have hdp := duty_pos hask
    have CW := Lib.hid (fun W (hW : Below w.heap.size w W) => wgWage_any a b c d A n cc l op m W hp hg hop (inB_true.1 hm) hnc (h.below hW))
    have CH := Lib.hid (fun W (hW : Below w.heap.size w W) => wgHours_any A n cc l op W (by omega) hw (h.below hW))
    have hr : perHourR a b c d l op m = if (duty op l).1 ≠ 0 then (wage a b c d l op m / (Nat.gcd (wage a b c d l op m).toNat (duty op l).1.toNat : Int), (duty op l).1 / (Nat.gcd (wage a b c d l op m).toNat (duty op l).1.toNat : Int), true) else (0, 0, false) := by simp [perHourR, hask]
    rw [hr]
    clear ca hr h hask hp hg hop hm hn60 hw hlx
    generalize duty op l = D at *
    obtain ⟨hh, nn⟩ := D
    dsimp only at hdp CH ⊢
    generalize wage a b c d l op m = v at *
    by_cases h0 : hh = 0
    · subst h0
      go_enter Tryd.func18, Tryd.ntmps18
      go_wp2_with (first | (go_at_call 47; refine (CA.out _ ((Below.refl _ _).alloc (Nat.le_refl _) _)).mono ?_; rintro e w1 ⟨rfl, hb1⟩; have HB1 := Lib.hid (((Below.refl _ _).alloc (Nat.le_refl _) _).trans (hb1.mono (by simp))); clear hb1) | (go_at_call 50; refine (CH.out _ HB1.out).mono ?_; rintro e w2 ⟨rfl, hb2⟩; have HB2 := Lib.hid (below_then HB1.out hb2); clear hb2))
      go_ret3
      exact ⟨rfl, HB2.out⟩
    · rw [if_pos h0]
      have h0' : (hh == 0) = false := by rw [beq_eq_false_iff_ne]; exact h0
      obtain ⟨p, hp⟩ := Int.eq_ofNat_of_zero_le hdp.1
      obtain ⟨q, hq⟩ := Int.eq_ofNat_of_zero_le hwb.1
      subst hp hq
      simp only [Int.toNat_natCast]
      have CP := Lib.hid (fun W => wgPart_any q p W (by omega) (by omega) (by omega))
      go_enter Tryd.func18, Tryd.ntmps18
      go_wp2_with (first | (go_at_call 47; refine (CA.out _ ((Below.refl _ _).alloc (Nat.le_refl _) _)).mono ?_; rintro e w1 ⟨rfl, hb1⟩; obtain ⟨k0, k1, k2, k3⟩ := box4 hb1; have HB1 := Lib.hid (((Below.refl _ _).alloc (Nat.le_refl _) _).trans (hb1.mono (by simp))); clear hb1) | (go_at_call 50; refine (CH.out _ HB1.out).mono ?_; rintro e w2 ⟨rfl, hb2⟩; replace k0 := (hb2.cell (World.block_lt_of_cell? _ _ k0)).trans k0; replace k1 := (hb2.cell (World.block_lt_of_cell? _ _ k1)).trans k1; replace k2 := (hb2.cell (World.block_lt_of_cell? _ _ k2)).trans k2; replace k3 := (hb2.cell (World.block_lt_of_cell? _ _ k3)).trans k3; have HB2 := Lib.hid (below_then HB1.out hb2); clear hb2) | (go_at_call 48; refine (CW.out _ HB2.out).mono ?_; rintro e w3 ⟨rfl, hb3⟩; have HB3 := Lib.hid (below_then HB2.out hb3); clear hb3) | (go_at_call 51; refine (CP.out _).mono ?_; rintro e w4 ⟨rfl, hb4⟩; have HB4 := Lib.hid (below_then HB3.out (below_of_quiet hb4)); clear hb4))
      go_ret3
      exact ⟨rfl, HB4.out⟩
set_option maxHeartbeats 1000000 in
theorem implWagePerHour_any (a b c d : Int) (A : Option Addr) (n cc : Nat) (l : List S3) (op m : Int) (w : World) (hn : n ≤ 1000000000) (h : Reads w 3 A n (rows3 l)) (hnc : n ≤ cc) :
    Calls Tryd.prog 17 #[.agg #[.int .i64 a, .int .i64 b, .int .i64 c, .int .i64 d], .slice A n cc, .int .i64 op, .int .i64 m] w fun e w' => e = .returned (.tuple #[.int .i64 (perHourR a b c d l op m).1, .int .i64 (perHourR a b c d l op m).2.1, .bool (perHourR a b c d l op m).2.2]) ∧ Below w.heap.size w w' := by
  have ca := fun W (hW : Below w.heap.size w W) => implWageOf_any a b c d A n cc l op m W hn (h.below hW) hnc
  have ch := fun W (hW : Below w.heap.size w W) => dutyHours_any A n cc l op W hn hnc (h.below hW)
  have hdr : dutyR l op = ((dutyR l op).1, (dutyR l op).2.1, (dutyR l op).2.2) := rfl
  cases hask : askB a b c d l op m with
  | false =>
    have hr0 : wageR a b c d l op m = (0, false) := by simp [wageR, hask]
    simp only [hr0] at ca
    have hr : perHourR a b c d l op m = (0, 0, false) := by simp [perHourR, hask]
    rw [hr]
    have CA := Lib.hid ca
    clear hdr
    generalize dutyR l op = D at *
    obtain ⟨hh, nn, ok⟩ := D
    have CH := Lib.hid ch
    clear ca hr h hask hr0 ch
    go_enter Tryd.func17, Tryd.ntmps17
    go_wp2_with (first | (go_at_call 15; refine (CA.out _ ((Below.refl _ _).alloc (Nat.le_refl _) _)).mono ?_; rintro e w1 ⟨rfl, hb1⟩; have HB1 := Lib.hid (((Below.refl _ _).alloc (Nat.le_refl _) _).trans (hb1.mono (by simp))); clear hb1) | (go_at_call 21; refine (CH.out _ HB1.out).mono ?_; rintro e w2 ⟨rfl, hb2⟩; have HB2 := Lib.hid (below_then HB1.out hb2); clear hb2))
    go_ret3
    exact ⟨rfl, HB2.out⟩
  | true =>
    have hr0 : wageR a b c d l op m = (wage a b c d l op m, true) := by simp [wageR, hask]
    simp only [hr0] at ca
    have CA := Lib.hid ca
    obtain ⟨hp, hg, hop, hm⟩ := askB_of hask
    have hwb := wage_bd (op := op) hp hg (inB_true.1 hm)
    have hdp := duty_pos hask
    have hr1 : dutyR l op = ((duty op l).1, (duty op l).2, true) := by simp [dutyR, hg, hop]
    rw [hr1] at ch
    have CH := Lib.hid ch
    have hr : perHourR a b c d l op m = if (duty op l).1 ≠ 0 then (wage a b c d l op m / (Nat.gcd (wage a b c d l op m).toNat (duty op l).1.toNat : Int), (duty op l).1 / (Nat.gcd (wage a b c d l op m).toNat (duty op l).1.toNat : Int), true) else (0, 0, false) := by simp [perHourR, hask]
    rw [hr]
    clear ca hr h hask hp hg hop hm hr0 hr1 ch hdr
    generalize duty op l = D at *
    obtain ⟨hh, nn⟩ := D
    dsimp only at hdp CH ⊢
    generalize wage a b c d l op m = v at *
    by_cases h0 : hh = 0
    · subst h0
      go_enter Tryd.func17, Tryd.ntmps17
      go_wp2_with (first | (go_at_call 15; refine (CA.out _ ((Below.refl _ _).alloc (Nat.le_refl _) _)).mono ?_; rintro e w1 ⟨rfl, hb1⟩; have HB1 := Lib.hid (((Below.refl _ _).alloc (Nat.le_refl _) _).trans (hb1.mono (by simp))); clear hb1) | (go_at_call 21; refine (CH.out _ HB1.out).mono ?_; rintro e w2 ⟨rfl, hb2⟩; have HB2 := Lib.hid (below_then HB1.out hb2); clear hb2))
      go_ret3
      exact ⟨rfl, HB2.out⟩
    · rw [if_pos h0]
      have h0' : (hh == 0) = false := by rw [beq_eq_false_iff_ne]; exact h0
      obtain ⟨p, hp⟩ := Int.eq_ofNat_of_zero_le hdp.1
      obtain ⟨q, hq⟩ := Int.eq_ofNat_of_zero_le hwb.1
      subst hp hq
      simp only [Int.toNat_natCast]
      have CP := Lib.hid (fun W => gcdOf_any q p W (by omega) (by omega))
      have hg0 : 0 < Nat.gcd q p := Nat.gcd_pos_of_pos_right _ (by omega)
      have hq' : q ≤ 1000000000000 := by omega
      have hp' : p ≤ 1000000000000 := by omega
      generalize Nat.gcd q p = g at *
      have hg1 : 1 ≤ (g : Int) := by omega
      go_enter Tryd.func17, Tryd.ntmps17
      go_wp2_with (first | (go_at_call 15; refine (CA.out _ ((Below.refl _ _).alloc (Nat.le_refl _) _)).mono ?_; rintro e w1 ⟨rfl, hb1⟩; have HB1 := Lib.hid (((Below.refl _ _).alloc (Nat.le_refl _) _).trans (hb1.mono (by simp))); clear hb1) | (go_at_call 21; refine (CH.out _ HB1.out).mono ?_; rintro e w2 ⟨rfl, hb2⟩; have HB2 := Lib.hid (below_then HB1.out hb2); clear hb2) | (go_at_call 49; refine (CP.out _).mono ?_; rintro e w4 ⟨rfl, hb4⟩; have HB4 := Lib.hid (below_then HB2.out (below_of_quiet hb4)); clear hb4))
      go_quiet (fail)
      go_wp2
      go_ret3
      exact ⟨ret_int2b (quo_in q g hq') (quo_in p g hp'), below_toN HB4.out _⟩
end Go.Proofs.YtiofgoppgdgbaaaDoor
