/- Contracts of the tests on rising lists and on membership. No conditions. -/
import Derived.Test.YtgdlaeibdpbgdaaCom
namespace Go.Proofs.Ytgdlaeibdpbgdaa
set_option linter.unusedSimpArgs false
set_option linter.unusedVariables false
open Go.RowKit

def riseP (lo hi : Int) : Option Int → List Int → Bool
  | _, [] => true
  | p, x :: r => if inB x lo hi && (match p with | none => true | some y => decide (y < x)) then riseP lo hi (some x) r else false
def riseB (lo hi : Int) (l : List Int) : Bool := riseP lo hi none l
def incP : Option Int → List Int → Bool
  | _, [] => true
  | p, x :: r => if (match p with | none => true | some y => decide (y < x)) then incP (some x) r else false
def incB (l : List Int) : Bool := incP none l
theorem riseP_eq (lo hi : Int) (l : List Int) : ∀ p, riseP lo hi p l = (allB lo hi l && incP p l) := by
  induction l with
  | nil => intro p; rfl
  | cons x r ih =>
    intro p
    simp only [riseP, allB, incP, ih]
    cases inB x lo hi <;> simp
    cases p with
    | none => simp
    | some y => by_cases h : y < x <;> simp [h]
theorem riseB_eq (lo hi : Int) (l : List Int) : riseB lo hi l = (allB lo hi l && incB l) := riseP_eq lo hi l none
def prev (xs : List Int) (k : Nat) : Option Int := if k = 0 then none else xs[k - 1]?
theorem prev_succ {xs : List Int} {k : Nat} (h : k < xs.length) : prev xs (k + 1) = some xs[k] := by
  simp [prev, h]
theorem prev_pos {xs : List Int} {k : Nat} (h0 : 0 < k) (h : k ≤ xs.length) : prev xs k = some (xs[k - 1]'(by omega)) := by
  unfold prev
  rw [if_neg (by omega), List.getElem?_eq_getElem (by omega)]
def hasB (l : List Int) (v : Int) : Bool := l.any fun x => x == v
theorem l1Has_any (A : Option Addr) (n c : Nat) (xs : List Int) (v : Int) (w : World) (hn : n ≤ 1000000000) (h : Reads w 1 A n (ints xs)) :
    Calls Try.prog 67 #[.slice A n c, .int .i64 v] w fun e w' => e = .returned (.bool (hasB xs v)) ∧ w = w' := by
  have HX := Lib.hid (show xs.length = n by simpa using h.1)
  go_enter Try.func67, Try.ntmps67
  go_wp2
  go_loop [9] (fun i => ∃ k : Nat, k ≤ n ∧ i = .int .i64 k ∧ hasB (xs.drop k) v = hasB xs v) (fun i => n - (intOf i).toNat)
  case atStart => exact ⟨0, Nat.zero_le _, rfl, rfl⟩
  case round =>
    obtain ⟨k, hk, rfl, hrel⟩ := hrel
    have HR := Lib.hid hrel; clear hrel
    by_cases hlt : k < n
    · obtain ⟨ad, rfl, hc⟩ := h.2 (by omega)
      have hxk : k < xs.length := by rw [HX.out]; exact hlt
      have hcell : w.cell? (ad.add k) = some (.int .i64 xs[k]) := hc k _ (by simp [ints, hxk])
      have HD := Lib.hid (drop_cons hxk)
      clear hc h
      generalize xs[k] = x at hcell HD
      cases hpx : (x == v) with
      | true =>
        have HP := Lib.hid hpx
        go_wp2
        go_ret
        refine ⟨ret_bool ?_, rfl⟩
        rw [← HR.out, HD.out]
        unfold hasB
        rw [List.any_cons, HP.out]
        rfl
      | false =>
        have HP := Lib.hid hpx
        go_wp2
        go_round
        case rel =>
          refine ⟨k + 1, by omega, by go_num, ?_⟩
          rw [← HR.out, HD.out]
          unfold hasB
          rw [List.any_cons, HP.out]
          rfl
        case measure => simp [intOf]; omega
    · have HE := Lib.hid (drop_end (xs := xs) (k := k) (by rw [HX.out]; omega))
      clear h
      go_wp2
      go_ret
      refine ⟨ret_bool ?_, rfl⟩
      rw [← HR.out, HE.out]
      rfl
end Go.Proofs.Ytgdlaeibdpbgdaa
