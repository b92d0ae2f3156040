/- Contracts of the tests on rising lists and on membership. No conditions. -/
import Derived.Test.YtjibdabedagghaaCom
namespace Go.Proofs.Ytjibdabedagghaa
set_option linter.unusedSimpArgs false
set_option linter.unusedVariables false
open Go.RowKit

def riseP (lo hi : Int) : Option Int → List Int → Bool
  | _, [] => true
  | p, x :: r => if inB x lo hi && (match p with | none => true | some y => decide (y < x)) then riseP lo hi (some x) r else false
def riseB (lo hi : Int) (l : List Int) : Bool := riseP lo hi none l
def incP : Option Int → List Int → Bool
  | _, [] => true
  | p, x :: r => if (match p with | none => true | some y => decide (y < x)) then incP (some x) r else false
def incB (l : List Int) : Bool := incP none l
theorem riseP_eq (lo hi : Int) (l : List Int) : ∀ p, riseP lo hi p l = (allB lo hi l && incP p l) := by
  induction l with
  | nil => intro p; rfl
  | cons x r ih =>
    intro p
    simp only [riseP, allB, incP, ih]
    cases inB x lo hi <;> simp
    cases p with
    | none => simp
    | some y => by_cases h : y < x <;> simp [h]
theorem riseB_eq (lo hi : Int) (l : List Int) : riseB lo hi l = (allB lo hi l && incB l) := riseP_eq lo hi l none
def prev (xs : List Int) (k : Nat) : Option Int := if k = 0 then none else xs[k - 1]?
theorem prev_succ {xs : List Int} {k : Nat} (h : k < xs.length) : prev xs (k + 1) = some xs[k] := by
  simp [prev, h]
theorem prev_pos {xs : List Int} {k : Nat} (h0 : 0 < k) (h : k ≤ xs.length) : prev xs k = some (xs[k - 1]'(by omega)) := by
  unfold prev
  rw [if_neg (by omega), List.getElem?_eq_getElem (by omega)]
set_option maxHeartbeats 1000000 in
theorem l1Rising_any (A : Option Addr) (n c : Nat) (xs : List Int) (lo hi : Int) (w : World) (hn : n ≤ 1000000000) (h : Reads w 1 A n (ints xs)) :
    Calls Try.prog 67 #[.slice A n c, .int .i64 lo, .int .i64 hi] w fun e w' => e = .returned (.bool (riseB lo hi xs)) ∧ w = w' := by
  have HX := Lib.hid (show xs.length = n by simpa using h.1)
  go_enter Try.func67, Try.ntmps67
  go_wp2
  go_loop [11] (fun i => ∃ k : Nat, k ≤ n ∧ i = .int .i64 k ∧ riseP lo hi (prev xs k) (xs.drop k) = riseB lo hi xs) (fun i => n - (intOf i).toNat)
  case atStart => exact ⟨0, Nat.zero_le _, rfl, rfl⟩
  case round =>
    obtain ⟨k, hk, rfl, hrel⟩ := hrel
    have HR := Lib.hid hrel; clear hrel
    by_cases hlt : k < n
    · obtain ⟨ad, rfl, hc⟩ := h.2 (by omega)
      have hxk : k < xs.length := by rw [HX.out]; exact hlt
      have hcell : w.cell? (ad.add k) = some (.int .i64 xs[k]) := hc k _ (by simp [ints, hxk])
      have HD := Lib.hid (drop_cons hxk)
      have HP := Lib.hid (prev_succ hxk)
      by_cases hk0 : k = 0
      · have HR2 : Hid (riseB lo hi xs = if inB xs[k] lo hi then riseP lo hi (some xs[k]) (xs.drop (k + 1)) else false) := Lib.hid (by
          rw [← HR.out, HD.out, show prev xs k = none from by simp [prev, hk0]]; simp [riseP])
        have hk0' : ¬ (0 : Int) < (k : Int) := by omega
        clear hc h HR HD hk0
        generalize xs[k] = x at *
        cases hin : inB x lo hi with
        | true =>
          rw [hin] at HR2
          go_wp2_with (go_at_call 68; refine (l1In_any _ _ _ _).mono ?_; rintro e w' ⟨rfl, rfl⟩)
          go_round
          case rel => exact ⟨k + 1, by omega, by go_num, by rw [HP.out, HR2.out]; rfl⟩
          case measure => simp [intOf]; omega
        | false =>
          rw [hin] at HR2
          go_wp2_with (go_at_call 68; refine (l1In_any _ _ _ _).mono ?_; rintro e w' ⟨rfl, rfl⟩)
          go_ret
          exact ⟨ret_bool (by rw [HR2.out]; rfl), rfl⟩
      · obtain ⟨j, rfl⟩ : ∃ j, k = j + 1 := ⟨k - 1, by omega⟩
        have hxj : j < xs.length := by omega
        have hcell2 : w.cell? (ad.add j) = some (.int .i64 xs[j]) := hc j _ (by simp [ints, hxj])
        have HR2 : Hid (riseB lo hi xs = if inB xs[j + 1] lo hi && decide (xs[j] < xs[j + 1]) then riseP lo hi (some xs[j + 1]) (xs.drop (j + 1 + 1)) else false) := Lib.hid (by
          rw [← HR.out, HD.out, prev_succ hxj]; rfl)
        have ea : ad.add (j + 1) = ⟨ad.block, ad.off + (j + 1), none⟩ := by unfold Addr.add; rw [if_neg (by omega)]
        rw [ea] at hcell
        clear hc h HR HD hk0 ea
        generalize xs[j + 1] = x at *
        generalize xs[j] = y at *
        cases hin : inB x lo hi with
        | true =>
          rw [hin] at HR2
          by_cases hyx : y < x
          · have HR3 : Hid (riseB lo hi xs = riseP lo hi (some x) (xs.drop (j + 1 + 1))) := Lib.hid (by rw [HR2.out]; simp [hyx])
            clear HR2
            go_wp2_with (go_at_call 68; refine (l1In_any _ _ _ _).mono ?_; rintro e w' ⟨rfl, rfl⟩)
            go_round
            case rel => exact ⟨j + 1 + 1, by omega, by go_num, by rw [HP.out, HR3.out]⟩
            case measure => simp [intOf]; omega
          · have HR3 : Hid (riseB lo hi xs = false) := Lib.hid (by rw [HR2.out]; simp [hyx])
            clear HR2
            go_wp2_with (go_at_call 68; refine (l1In_any _ _ _ _).mono ?_; rintro e w' ⟨rfl, rfl⟩)
            go_ret
            exact ⟨ret_bool (by rw [HR3.out]), rfl⟩
        | false =>
          rw [hin] at HR2
          go_wp2_with (go_at_call 68; refine (l1In_any _ _ _ _).mono ?_; rintro e w' ⟨rfl, rfl⟩)
          go_ret
          exact ⟨ret_bool (by rw [HR2.out]; rfl), rfl⟩
    · have HE := Lib.hid (drop_end (xs := xs) (k := k) (by rw [HX.out]; omega))
      clear h
      go_wp2
      go_ret
      refine ⟨ret_bool ?_, rfl⟩
      rw [← HR.out, HE.out]
      rfl
set_option maxHeartbeats 1000000 in
theorem increasing_any (A : Option Addr) (n c : Nat) (xs : List Int) (w : World) (hn : n ≤ 1000000000) (h : Reads w 1 A n (ints xs)) :
    Calls Try.prog 72 #[.slice A n c] w fun e w' => e = .returned (.bool (incB xs)) ∧ Quiet w w' := by
  have HX := Lib.hid (show xs.length = n by simpa using h.1)
  by_cases h0 : n = 0
  · subst h0
    have hx0 : xs = [] := List.eq_nil_of_length_eq_zero HX.out
    have HX0 := Lib.hid hx0
    clear h hx0
    go_enter Try.func72, Try.ntmps72
    go_wp2
    go_loop [3] (fun i => i = .int .i64 1) (fun _ => 0)
    case atStart => rfl
    case round =>
      subst hrel
      go_wp2
      go_ret
      exact ⟨ret_bool (by rw [HX0.out]; rfl), 0, rfl⟩
  · obtain ⟨ad, rfl, hc⟩ := h.2 (by omega)
    have HC := Lib.hid hc
    have hpos : 0 < xs.length := by rw [HX.out]; omega
    have hst : incP (prev xs 1) (xs.drop 1) = incB xs := by
      cases xs with
      | nil => simp at hpos
      | cons x r => rfl
    have HST := Lib.hid hst
    clear h hc hst
    go_enter Try.func72, Try.ntmps72
    go_wp2
    go_loopw [3] (fun i wr => ∃ k m : Nat, k ≤ n ∧ 1 ≤ k ∧ i = .int .i64 k ∧ incP (prev xs k) (xs.drop k) = incB xs ∧ wr = w.drewN m) (fun i _ => n - (intOf i).toNat)
    case atStart => exact ⟨1, 0, by omega, by omega, rfl, HST.out, rfl⟩
    case round =>
      obtain ⟨k, m, hk, hk1, rfl, hrel, rfl⟩ := hrel
      have HR := Lib.hid hrel; clear hrel
      by_cases hlt : k < n
      · obtain ⟨j, rfl⟩ : ∃ j, k = j + 1 := ⟨k - 1, by omega⟩
        have hxj : j < xs.length := by rw [HX.out]; omega
        have hxk : j + 1 < xs.length := by rw [HX.out]; omega
        have hcell : w.cell? ⟨(ad.add j).block, (ad.add j).off + 1, none⟩ = some (.int .i64 xs[j + 1]) ∨ True := .inr trivial
        have hcell1 : w.cell? (ad.add (j + 1)) = some (.int .i64 xs[j + 1]) := HC.out (j + 1) _ (by simp [ints, hxk])
        have hcell2 : w.cell? (ad.add j) = some (.int .i64 xs[j]) := HC.out j _ (by simp [ints, hxj])
        have ea : ad.add (j + 1) = ⟨ad.block, ad.off + (j + 1), none⟩ := by unfold Addr.add; rw [if_neg (by omega)]
        rw [ea] at hcell1
        have HR2 : Hid (incB xs = if decide (xs[j] < xs[j + 1]) then incP (some xs[j + 1]) (xs.drop (j + 1 + 1)) else false) := Lib.hid (by
          rw [← HR.out, drop_cons hxk, prev_succ hxj]; rfl)
        have HP := Lib.hid (prev_succ hxk)
        clear HR hcell ea
        generalize xs[j + 1] = x at *
        generalize xs[j] = y at *
        by_cases hyx : y < x
        · have HR3 : Hid (incB xs = incP (some x) (xs.drop (j + 1 + 1))) := Lib.hid (by rw [HR2.out]; simp [hyx])
          clear HR2
          go_wp2
          go_quiet (fail)
          go_wp2
          go_roundw
          case rel => exact ⟨j + 1 + 1, _, by omega, by omega, by go_num, by rw [HP.out, HR3.out], by first | rfl | exact World.drewN_drewN _ _ _⟩
          case measure => simp [intOf]; omega
        · have HR3 : Hid (incB xs = false) := Lib.hid (by rw [HR2.out]; simp [hyx])
          clear HR2
          go_wp2
          go_quiet (fail)
          go_wp2
          go_ret
          exact ⟨ret_bool (by rw [HR3.out]), m + nq, by first | rfl | exact World.drewN_drewN _ _ _⟩
      · have HE := Lib.hid (drop_end (xs := xs) (k := k) (by rw [HX.out]; omega))
        go_wp2
        go_ret
        refine ⟨ret_bool ?_, m, rfl⟩
        rw [← HR.out, HE.out]
        rfl
def hasB (l : List Int) (v : Int) : Bool := l.any fun x => x == v
theorem l1Has_any (A : Option Addr) (n c : Nat) (xs : List Int) (v : Int) (w : World) (hn : n ≤ 1000000000) (h : Reads w 1 A n (ints xs)) :
    Calls Try.prog 70 #[.slice A n c, .int .i64 v] w fun e w' => e = .returned (.bool (hasB xs v)) ∧ w = w' := by
  have HX := Lib.hid (show xs.length = n by simpa using h.1)
  go_enter Try.func70, Try.ntmps70
  go_wp2
  go_loop [9] (fun i => ∃ k : Nat, k ≤ n ∧ i = .int .i64 k ∧ hasB (xs.drop k) v = hasB xs v) (fun i => n - (intOf i).toNat)
  case atStart => exact ⟨0, Nat.zero_le _, rfl, rfl⟩
  case round =>
    obtain ⟨k, hk, rfl, hrel⟩ := hrel
    have HR := Lib.hid hrel; clear hrel
    by_cases hlt : k < n
    · obtain ⟨ad, rfl, hc⟩ := h.2 (by omega)
      have hxk : k < xs.length := by rw [HX.out]; exact hlt
      have hcell : w.cell? (ad.add k) = some (.int .i64 xs[k]) := hc k _ (by simp [ints, hxk])
      have HD := Lib.hid (drop_cons hxk)
      clear hc h
      generalize xs[k] = x at hcell HD
      cases hpx : (x == v) with
      | true =>
        have HP := Lib.hid hpx
        go_wp2
        go_ret
        refine ⟨ret_bool ?_, rfl⟩
        rw [← HR.out, HD.out]
        unfold hasB
        rw [List.any_cons, HP.out]
        rfl
      | false =>
        have HP := Lib.hid hpx
        go_wp2
        go_round
        case rel =>
          refine ⟨k + 1, by omega, by go_num, ?_⟩
          rw [← HR.out, HD.out]
          unfold hasB
          rw [List.any_cons, HP.out]
          rfl
        case measure => simp [intOf]; omega
    · have HE := Lib.hid (drop_end (xs := xs) (k := k) (by rw [HX.out]; omega))
      clear h
      go_wp2
      go_ret
      refine ⟨ret_bool ?_, rfl⟩
      rw [← HR.out, HE.out]
      rfl
/-- The first index at which v stands, -1 if there is none. -/
def indexV (v : Int) : List Int → Int → Int
  | [], _ => -1
  | x :: r, i => if x == v then i else indexV v r (i + 1)
theorem indexV_neg {v : Int} {l : List Int} : ∀ {i : Int}, 0 ≤ i → (decide (0 ≤ indexV v l i) = hasB l v) := by
  induction l with
  | nil => intro i h; simp [indexV, hasB]
  | cons x r ih =>
    intro i h
    unfold indexV hasB
    cases hp : x == v with
    | true => simp [hp]; omega
    | false =>
      simp only [hp, List.any_cons, Bool.false_or]
      have := ih (i := i + 1) (by omega)
      simpa [hasB] using this
theorem slIndex_any (A : Option Addr) (n c : Nat) (xs : List Int) (v : Int) (w : World) (hn : n ≤ 1000000000) (h : Reads w 1 A n (ints xs)) :
    Calls Try.prog 97 #[.slice A n c, .int .i64 v] w fun e w' => e = .returned (.int .i64 (indexV v xs 0)) ∧ w = w' := by
  have HX := Lib.hid (show xs.length = n by simpa using h.1)
  go_enter Try.func97, Try.ntmps97
  go_wp2
  go_loop [8] (fun i => ∃ k : Nat, k ≤ n ∧ i = .int .i64 k ∧ indexV v (xs.drop k) (k : Int) = indexV v xs 0) (fun i => n - (intOf i).toNat)
  case atStart => exact ⟨0, Nat.zero_le _, rfl, rfl⟩
  case round =>
    obtain ⟨k, hk, rfl, hrel⟩ := hrel
    have HR := Lib.hid hrel; clear hrel
    by_cases hlt : k < n
    · obtain ⟨ad, rfl, hc⟩ := h.2 (by omega)
      have hxk : k < xs.length := by rw [HX.out]; exact hlt
      have hcell : w.cell? (ad.add k) = some (.int .i64 xs[k]) := hc k _ (by simp [ints, hxk])
      have HD := Lib.hid (drop_cons hxk)
      clear hc h
      generalize xs[k] = x at hcell HD
      cases hpx : (x == v) with
      | true =>
        have HP := Lib.hid hpx
        have hvx : (v == x) = true := by simp at hpx ⊢; omega
        clear hpx
        go_wp2
        go_ret
        refine ⟨ret_int ?_, rfl⟩
        rw [← HR.out, HD.out]
        simp only [indexV, HP.out, if_true]
      | false =>
        have HP := Lib.hid hpx
        have hvx : (v == x) = false := by simp at hpx ⊢; omega
        clear hpx
        go_wp2
        go_round
        case rel =>
          refine ⟨k + 1, by omega, by go_num, ?_⟩
          rw [← HR.out, HD.out]
          simp only [indexV, HP.out]
          simp
        case measure => simp [intOf]; omega
    · have HE := Lib.hid (drop_end (xs := xs) (k := k) (by rw [HX.out]; omega))
      clear h
      go_wp2
      go_ret
      refine ⟨ret_int ?_, rfl⟩
      rw [← HR.out, HE.out]
      rfl
theorem slContains_any (A : Option Addr) (n c : Nat) (xs : List Int) (v : Int) (w : World) (hn : n ≤ 1000000000) (h : Reads w 1 A n (ints xs)) :
    Calls Try.prog 74 #[.slice A n c, .int .i64 v] w fun e w' => e = .returned (.bool (hasB xs v)) ∧ w = w' := by
  have C1 := Lib.hid (slIndex_any A n c xs v w hn h)
  have HI := Lib.hid (indexV_neg (v := v) (l := xs) (i := 0) (by omega))
  clear h
  generalize indexV v xs 0 = i at *
  go_enter Try.func74, Try.ntmps74
  go_wp2_with (go_at_call 97; refine (C1.out).mono ?_; rintro e w' ⟨rfl, rfl⟩)
  go_ret
  exact ⟨ret_bool HI.out, rfl⟩
end Go.Proofs.Ytjibdabedagghaa
