/- Contracts of the small tests on shifts, of both packages. No conditions. -/
import Derived.Test.YtiofgoppgdgbaaaDoorPay
import Derived.Test.YtiofgoppgdgbaaaDoorHelp
namespace Go.Proofs.YtiofgoppgdgbaaaDoor
set_option linter.unusedSimpArgs false
set_option linter.unusedVariables false
open Go.RowKit

abbrev S3 := Int × Int × Int
def okS (x : S3) : Bool := inB x.1 1 30 && (inB x.2.1 0 167 && inB x.2.2 (x.2.1 + 1) 168)
def befS (a b : S3) : Bool := decide (a.2.1 < b.2.1) || (decide (a.2.1 = b.2.1) && decide (a.1 < b.1))
def clash (x y : S3) : Bool := decide (y.1 = x.1) && decide (x.2.1 < y.2.2)
def nightB (h : Int) : Bool := decide (Int.tmod h 24 < 6) || decide (22 ≤ Int.tmod h 24)
def sgnI (a b : Int) : Int := if a < b then -1 else if b < a then 1 else 0
def cmpS (a b : S3) : Int := if sgnI a.2.1 b.2.1 ≠ 0 then sgnI a.2.1 b.2.1 else sgnI a.1 b.1
theorem cmpS_neg (a b : S3) : decide (0 ≤ cmpS a b) = !befS a b := by
  unfold cmpS befS sgnI
  by_cases h1 : a.2.1 < b.2.1
  · simp [h1]
  · by_cases h2 : b.2.1 < a.2.1
    · have : a.2.1 ≠ b.2.1 := by omega
      simp [h1, h2, this]
    · have : a.2.1 = b.2.1 := by omega
      by_cases h3 : a.1 < b.1
      · simp [this, h3]
      · by_cases h4 : b.1 < a.1 <;> simp [this, h3, h4]
theorem shOperator_any (a : Int) (w : World) :
    Calls Tryd.prog 54 #[.int .i64 a] w fun e w' => e = .returned (.bool (inB a 1 30)) ∧ w = w' := by
  go_enter Tryd.func54, Tryd.ntmps54
  go_wp2_with (go_at_call 70; refine (l1In_any _ _ _ _).mono ?_; rintro e w' ⟨rfl, rfl⟩)
  go_ret
  exact ⟨rfl, rfl⟩
theorem isOperator_any (a : Int) (w : World) :
    Calls Tryd.prog 45 #[.int .i64 a] w fun e w' => e = .returned (.bool (inB a 1 30)) ∧ w = w' := by
  go_enter Tryd.func45, Tryd.ntmps45
  go_wp2_with (go_at_call 46; refine (within_any _ _ _ _).mono ?_; rintro e w' ⟨rfl, rfl⟩)
  go_ret
  exact ⟨rfl, rfl⟩
theorem shHour_any (a : Int) (w : World) :
    Calls Tryd.prog 73 #[.int .i64 a] w fun e w' => e = .returned (.bool (inB a 0 167)) ∧ w = w' := by
  go_enter Tryd.func73, Tryd.ntmps73
  go_wp2_with (go_at_call 70; refine (l1In_any _ _ _ _).mono ?_; rintro e w' ⟨rfl, rfl⟩)
  go_ret
  exact ⟨rfl, rfl⟩
theorem shNight_any (a : Int) (w : World) :
    Calls Tryd.prog 55 #[.int .i64 a] w fun e w' => e = .returned (.bool (nightB a)) ∧ w = w' := by
  by_cases h6 : Int.tmod a 24 < 6
  · go_enter Tryd.func55, Tryd.ntmps55
    go_wp2
    go_ret
    exact ⟨ret_bool (by simp [nightB, h6]), rfl⟩
  · go_enter Tryd.func55, Tryd.ntmps55
    go_wp2
    go_ret
    exact ⟨ret_bool (by simp [nightB]; omega), rfl⟩
theorem shBefore_any (a b c x y z : Int) (w : World) :
    Calls Tryd.prog 74 #[.agg #[.int .i64 a, .int .i64 b, .int .i64 c], .agg #[.int .i64 x, .int .i64 y, .int .i64 z]] w fun e w' => e = .returned (.bool (befS (a, b, c) (x, y, z))) ∧ Below w.heap.size w w' := by
  by_cases h1 : b < y
  · go_enter Tryd.func74, Tryd.ntmps74
    go_wp2
    go_ret
    exact ⟨ret_bool (by simp [befS, h1]), ((Below.refl _ _).alloc (Nat.le_refl _) _).alloc (by simp) _⟩
  · by_cases h2 : b = y
    · subst h2
      go_enter Tryd.func74, Tryd.ntmps74
      go_wp2
      go_ret
      exact ⟨ret_bool (by simp [befS]), ((Below.refl _ _).alloc (Nat.le_refl _) _).alloc (by simp) _⟩
    · have h2' : (b == y) = false := by rw [beq_eq_false_iff_ne]; exact h2
      go_enter Tryd.func74, Tryd.ntmps74
      go_wp2
      go_ret
      exact ⟨ret_bool (by simp [befS, h1, h2]), ((Below.refl _ _).alloc (Nat.le_refl _) _).alloc (by simp) _⟩
theorem isNaN_any (a : Int) (w : World) :
    Calls Tryd.prog 85 #[.int .i64 a] w fun e w' => e = .returned (.bool false) ∧ w = w' := by
  go_enter Tryd.func85, Tryd.ntmps85
  go_wp2
  go_ret
  exact ⟨ret_bool (by simp), rfl⟩
theorem cmpCompare_any (a b : Int) (w : World) :
    Calls Tryd.prog 77 #[.int .i64 a, .int .i64 b] w fun e w' => e = .returned (.int .i64 (sgnI a b)) ∧ w = w' := by
  by_cases h1 : a < b
  · have hs : sgnI a b = -1 := by simp [sgnI, h1]
    rw [hs]
    go_enter Tryd.func77, Tryd.ntmps77
    go_wp2_with (go_at_call 85; refine (isNaN_any _ _).mono ?_; rintro e w' ⟨rfl, rfl⟩)
    go_ret
    exact ⟨rfl, rfl⟩
  · by_cases h2 : b < a
    · have hs : sgnI a b = 1 := by simp [sgnI, h1, h2]
      rw [hs]
      go_enter Tryd.func77, Tryd.ntmps77
      go_wp2_with (go_at_call 85; refine (isNaN_any _ _).mono ?_; rintro e w' ⟨rfl, rfl⟩)
      go_ret
      exact ⟨rfl, rfl⟩
    · have hs : sgnI a b = 0 := by simp [sgnI, h1, h2]
      rw [hs]
      go_enter Tryd.func77, Tryd.ntmps77
      go_wp2_with (go_at_call 85; refine (isNaN_any _ _).mono ?_; rintro e w' ⟨rfl, rfl⟩)
      go_ret
      exact ⟨rfl, rfl⟩
def orI : List Int → Int
  | [] => 0
  | x :: r => if x ≠ 0 then x else orI r
theorem cmpOr_any (A : Option Addr) (n c : Nat) (xs : List Int) (w : World) (hn : n ≤ 1000000000) (h : Reads w 1 A n (ints xs)) :
    Calls Tryd.prog 76 #[.slice A n c] w fun e w' => e = .returned (.int .i64 (orI xs)) ∧ w = w' := by
  have HX := Lib.hid (show xs.length = n by simpa using h.1)
  go_enter Tryd.func76, Tryd.ntmps76
  go_wp2
  go_loop [8] (fun i => ∃ k : Nat, k ≤ n ∧ i = .int .i64 k ∧ orI (xs.drop k) = orI xs) (fun i => n - (intOf i).toNat)
  case atStart => exact ⟨0, Nat.zero_le _, rfl, rfl⟩
  case round =>
    obtain ⟨k, hk, rfl, hrel⟩ := hrel
    have HR := Lib.hid hrel; clear hrel
    by_cases hlt : k < n
    · obtain ⟨ad, rfl, hc⟩ := h.2 (by omega)
      have hxk : k < xs.length := by rw [HX.out]; exact hlt
      have hcell : w.cell? (ad.add k) = some (.int .i64 xs[k]) := hc k _ (by simp [ints, hxk])
      have HD := Lib.hid (drop_cons hxk)
      clear hc h
      generalize xs[k] = x at *
      by_cases h0 : x = 0
      · subst h0
        go_wp2
        go_round
        case rel => exact ⟨k + 1, by omega, by go_num, by rw [← HR.out, HD.out]; simp [orI]⟩
        case measure => simp [intOf]; omega
      · have h0' : (x == 0) = false := by rw [beq_eq_false_iff_ne]; exact h0
        go_wp2
        go_ret
        exact ⟨ret_int (by rw [← HR.out, HD.out]; simp [orI, h0]), rfl⟩
    · have HE := Lib.hid (drop_end (xs := xs) (k := k) (by rw [HX.out]; omega))
      clear h
      go_wp2
      go_ret
      exact ⟨ret_int (by rw [← HR.out, HE.out]; rfl), rfl⟩
end Go.Proofs.YtiofgoppgdgbaaaDoor
