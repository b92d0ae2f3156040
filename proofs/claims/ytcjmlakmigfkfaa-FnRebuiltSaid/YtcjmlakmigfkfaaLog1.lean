/- Entries and logs: the small functions of both packages. No conditions. -/
import Derived.Test.YtcjmlakmigfkfaaTick3
import Derived.Test.YtcjmlakmigfkfaaBel
import Derived.Test.YtcjmlakmigfkfaaCom
namespace Go.Proofs.Ytcjmlakmigfkfaa
set_option linter.unusedSimpArgs false
set_option linter.unusedVariables false
open Go.RowKit

def sigB (l : List Int) : Bool := inB (l.length : Int) 1 8 && allB 0 63 l
def entB (x : EntryT) : Bool := inB x.1 0 10000 && (inB x.2.1 1 999 && (inB x.2.2.1 0 8 && (sigB x.2.2.2.1 && sigB x.2.2.2.2)))
def isE (m p : Int) (x : EntryT) : Bool := (x.2.1 == m) && (x.2.2.1 == p)
/-- The first index whose element has the property, -1 if there is none. -/
def idxP {α : Type} (p : α → Bool) : List α → Int → Int
  | [], _ => -1
  | x :: r, i => if p x then i else idxP p r (i + 1)
theorem lgSignals_any (A : Option Addr) (c : Nat) (l : List Int) (w : World) (hn : l.length ≤ 1000000000) (h : Reads w 1 A l.length (ints l)) :
    Calls Try.prog 112 #[.slice A l.length c] w fun e w' => e = .returned (.bool (sigB l)) ∧ w = w' := by
  have CA := Lib.hid (l1All_any A l.length c l 0 63 w (by omega) h)
  clear h
  cases h1 : inB (l.length : Int) 1 8 with
  | false =>
    go_enter Try.func112, Try.ntmps112
    go_wp2_with (go_at_call 84; refine (l1In_any _ _ _ _).mono ?_; rintro e w' ⟨rfl, rfl⟩)
    go_ret
    exact ⟨ret_bool (by simp [sigB, h1]), rfl⟩
  | true =>
    cases h2 : allB 0 63 l with
    | false =>
      rw [h2] at CA
      have H2 := Lib.hid h2; clear h2
      go_enter Try.func112, Try.ntmps112
      go_wp2_with (first | (go_at_call 84; refine (l1In_any _ _ _ _).mono ?_; rintro e w' ⟨rfl, rfl⟩) | (go_at_call 119; refine (CA.out).mono ?_; rintro e w' ⟨rfl, rfl⟩))
      go_ret
      exact ⟨ret_bool (by simp [sigB, H2.out]), rfl⟩
    | true =>
      rw [h2] at CA
      have H2 := Lib.hid h2; clear h2
      go_enter Try.func112, Try.ntmps112
      go_wp2_with (first | (go_at_call 84; refine (l1In_any _ _ _ _).mono ?_; rintro e w' ⟨rfl, rfl⟩) | (go_at_call 119; refine (CA.out).mono ?_; rintro e w' ⟨rfl, rfl⟩))
      go_ret
      exact ⟨ret_bool (by simp [sigB, h1, H2.out]), rfl⟩

set_option maxHeartbeats 4000000 in
set_option maxRecDepth 100000 in
theorem lgEntry_any (t m p : Int) (A2 A3 : Option Addr) (c2 c3 : Nat) (l l' : List Int) (w : World) (hl : l.length ≤ 1000000000) (hl' : l'.length ≤ 1000000000) (h : Reads w 1 A2 l.length (ints l)) (h' : Reads w 1 A3 l'.length (ints l')) :
    Calls Try.prog 95 #[.agg #[.int .i64 t, .int .i64 m, .int .i64 p, .slice A2 l.length c2, .slice A3 l'.length c3]] w fun e w' => e = .returned (.bool (entB (t, m, p, l, l'))) ∧ Below w.heap.size w w' := by
  have C1 := Lib.hid (lgSignals_any A2 c2 l (w.alloc (.cells #[.int .i64 t, .int .i64 m, .int .i64 p, .slice A2 l.length c2, .slice A3 l'.length c3] 51)) hl (h.alloc _))
  have C2 := Lib.hid (lgSignals_any A3 c3 l' (w.alloc (.cells #[.int .i64 t, .int .i64 m, .int .i64 p, .slice A2 l.length c2, .slice A3 l'.length c3] 51)) hl' (h'.alloc _))
  clear h h'
  cases h1 : inB t 0 10000 with
  | false =>
    go_enter Try.func95, Try.ntmps95
    go_wp2_with (first | (go_at_call 84; refine (l1In_any _ _ _ _).mono ?_; rintro e w' ⟨rfl, rfl⟩) | (go_at_call_of 112 (Value.slice A2 l.length c2); refine (C1.out).mono ?_; rintro e w' ⟨rfl, rfl⟩) | (go_at_call_of 112 (Value.slice A3 l'.length c3); refine (C2.out).mono ?_; rintro e w' ⟨rfl, rfl⟩))
    go_ret
    exact ⟨ret_bool (by simp [entB, h1]), (Below.refl _ _).alloc (Nat.le_refl _) _⟩
  | true =>
    cases h2 : inB m 1 999 with
    | false =>
      go_enter Try.func95, Try.ntmps95
      go_wp2_with (first | (go_at_call 84; refine (l1In_any _ _ _ _).mono ?_; rintro e w' ⟨rfl, rfl⟩) | (go_at_call_of 112 (Value.slice A2 l.length c2); refine (C1.out).mono ?_; rintro e w' ⟨rfl, rfl⟩) | (go_at_call_of 112 (Value.slice A3 l'.length c3); refine (C2.out).mono ?_; rintro e w' ⟨rfl, rfl⟩))
      go_ret
      exact ⟨ret_bool (by simp [entB, h2]), (Below.refl _ _).alloc (Nat.le_refl _) _⟩
    | true =>
      cases h3 : inB p 0 8 with
      | false =>
        go_enter Try.func95, Try.ntmps95
        go_wp2_with (first | (go_at_call 84; refine (l1In_any _ _ _ _).mono ?_; rintro e w' ⟨rfl, rfl⟩) | (go_at_call_of 112 (Value.slice A2 l.length c2); refine (C1.out).mono ?_; rintro e w' ⟨rfl, rfl⟩) | (go_at_call_of 112 (Value.slice A3 l'.length c3); refine (C2.out).mono ?_; rintro e w' ⟨rfl, rfl⟩))
        go_ret
        exact ⟨ret_bool (by simp [entB, h3]), (Below.refl _ _).alloc (Nat.le_refl _) _⟩
      | true =>
        cases h4 : sigB l with
        | false =>
          rw [h4] at C1
          go_enter Try.func95, Try.ntmps95
          go_wp2_with (first | (go_at_call 84; refine (l1In_any _ _ _ _).mono ?_; rintro e w' ⟨rfl, rfl⟩) | (go_at_call_of 112 (Value.slice A2 l.length c2); refine (C1.out).mono ?_; rintro e w' ⟨rfl, rfl⟩) | (go_at_call_of 112 (Value.slice A3 l'.length c3); refine (C2.out).mono ?_; rintro e w' ⟨rfl, rfl⟩))
          go_ret
          exact ⟨ret_bool (by simp [entB, h4]), (Below.refl _ _).alloc (Nat.le_refl _) _⟩
        | true =>
          cases h5 : sigB l' with
          | false =>
            rw [h4] at C1
            rw [h5] at C2
            go_enter Try.func95, Try.ntmps95
            go_wp2_with (first | (go_at_call 84; refine (l1In_any _ _ _ _).mono ?_; rintro e w' ⟨rfl, rfl⟩) | (go_at_call_of 112 (Value.slice A2 l.length c2); refine (C1.out).mono ?_; rintro e w' ⟨rfl, rfl⟩) | (go_at_call_of 112 (Value.slice A3 l'.length c3); refine (C2.out).mono ?_; rintro e w' ⟨rfl, rfl⟩))
            go_ret
            exact ⟨ret_bool (by simp [entB, h5]), (Below.refl _ _).alloc (Nat.le_refl _) _⟩
          | true =>
            rw [h4] at C1
            rw [h5] at C2
            go_enter Try.func95, Try.ntmps95
            go_wp2_with (first | (go_at_call 84; refine (l1In_any _ _ _ _).mono ?_; rintro e w' ⟨rfl, rfl⟩) | (go_at_call_of 112 (Value.slice A2 l.length c2); refine (C1.out).mono ?_; rintro e w' ⟨rfl, rfl⟩) | (go_at_call_of 112 (Value.slice A3 l'.length c3); refine (C2.out).mono ?_; rintro e w' ⟨rfl, rfl⟩))
            go_ret
            exact ⟨ret_bool (by simp [entB, h1, h2, h3, h4, h5]), (Below.refl _ _).alloc (Nat.le_refl _) _⟩

set_option maxHeartbeats 4000000 in
set_option maxRecDepth 100000 in
theorem isEntry_any (t m p : Int) (A2 A3 : Option Addr) (c2 c3 : Nat) (l l' : List Int) (w : World) (hl : l.length ≤ 1000000000) (hl' : l'.length ≤ 1000000000) (h : Reads w 1 A2 l.length (ints l)) (h' : Reads w 1 A3 l'.length (ints l')) :
    Calls Try.prog 82 #[.agg #[.int .i64 t, .int .i64 m, .int .i64 p, .slice A2 l.length c2, .slice A3 l'.length c3]] w fun e w' => e = .returned (.bool (entB (t, m, p, l, l'))) ∧ Below w.heap.size w w' := by
  have C1 := Lib.hid (allWithin_any A2 l.length c2 l 0 63 (w.alloc (.cells #[.int .i64 t, .int .i64 m, .int .i64 p, .slice A2 l.length c2, .slice A3 l'.length c3] 51)) (by omega) (h.alloc _))
  have C2 := Lib.hid (allWithin_any A3 l'.length c3 l' 0 63 (w.alloc (.cells #[.int .i64 t, .int .i64 m, .int .i64 p, .slice A2 l.length c2, .slice A3 l'.length c3] 51)) (by omega) (h'.alloc _))
  clear h h'
  cases h1 : inB t 0 10000 with
  | false =>
    go_enter Try.func82, Try.ntmps82
    go_wp2_with (first | (go_at_call 83; refine (within_any _ _ _ _).mono ?_; rintro e w' ⟨rfl, rfl⟩) | (go_at_call_of 91 (Value.slice A2 l.length c2); refine (C1.out).mono ?_; rintro e w' ⟨rfl, rfl⟩) | (go_at_call_of 91 (Value.slice A3 l'.length c3); refine (C2.out).mono ?_; rintro e w' ⟨rfl, rfl⟩))
    go_ret
    exact ⟨ret_bool (by simp [entB, sigB, h1]), (Below.refl _ _).alloc (Nat.le_refl _) _⟩
  | true =>
    cases h2 : inB m 1 999 with
    | false =>
      go_enter Try.func82, Try.ntmps82
      go_wp2_with (first | (go_at_call 83; refine (within_any _ _ _ _).mono ?_; rintro e w' ⟨rfl, rfl⟩) | (go_at_call_of 91 (Value.slice A2 l.length c2); refine (C1.out).mono ?_; rintro e w' ⟨rfl, rfl⟩) | (go_at_call_of 91 (Value.slice A3 l'.length c3); refine (C2.out).mono ?_; rintro e w' ⟨rfl, rfl⟩))
      go_ret
      exact ⟨ret_bool (by simp [entB, sigB, h2]), (Below.refl _ _).alloc (Nat.le_refl _) _⟩
    | true =>
      cases h3 : inB p 0 8 with
      | false =>
        go_enter Try.func82, Try.ntmps82
        go_wp2_with (first | (go_at_call 83; refine (within_any _ _ _ _).mono ?_; rintro e w' ⟨rfl, rfl⟩) | (go_at_call_of 91 (Value.slice A2 l.length c2); refine (C1.out).mono ?_; rintro e w' ⟨rfl, rfl⟩) | (go_at_call_of 91 (Value.slice A3 l'.length c3); refine (C2.out).mono ?_; rintro e w' ⟨rfl, rfl⟩))
        go_ret
        exact ⟨ret_bool (by simp [entB, sigB, h3]), (Below.refl _ _).alloc (Nat.le_refl _) _⟩
      | true =>
        cases h4 : inB (l.length : Int) 1 8 with
        | false =>
          go_enter Try.func82, Try.ntmps82
          go_wp2_with (first | (go_at_call 83; refine (within_any _ _ _ _).mono ?_; rintro e w' ⟨rfl, rfl⟩) | (go_at_call_of 91 (Value.slice A2 l.length c2); refine (C1.out).mono ?_; rintro e w' ⟨rfl, rfl⟩) | (go_at_call_of 91 (Value.slice A3 l'.length c3); refine (C2.out).mono ?_; rintro e w' ⟨rfl, rfl⟩))
          go_ret
          exact ⟨ret_bool (by simp [entB, sigB, h4]), (Below.refl _ _).alloc (Nat.le_refl _) _⟩
        | true =>
          cases h5 : allB 0 63 l with
          | false =>
            rw [h5] at C1
            go_enter Try.func82, Try.ntmps82
            go_wp2_with (first | (go_at_call 83; refine (within_any _ _ _ _).mono ?_; rintro e w' ⟨rfl, rfl⟩) | (go_at_call_of 91 (Value.slice A2 l.length c2); refine (C1.out).mono ?_; rintro e w' ⟨rfl, rfl⟩) | (go_at_call_of 91 (Value.slice A3 l'.length c3); refine (C2.out).mono ?_; rintro e w' ⟨rfl, rfl⟩))
            go_ret
            exact ⟨ret_bool (by simp [entB, sigB, h5]), (Below.refl _ _).alloc (Nat.le_refl _) _⟩
          | true =>
            cases h6 : inB (l'.length : Int) 1 8 with
            | false =>
              rw [h5] at C1
              go_enter Try.func82, Try.ntmps82
              go_wp2_with (first | (go_at_call 83; refine (within_any _ _ _ _).mono ?_; rintro e w' ⟨rfl, rfl⟩) | (go_at_call_of 91 (Value.slice A2 l.length c2); refine (C1.out).mono ?_; rintro e w' ⟨rfl, rfl⟩) | (go_at_call_of 91 (Value.slice A3 l'.length c3); refine (C2.out).mono ?_; rintro e w' ⟨rfl, rfl⟩))
              go_ret
              exact ⟨ret_bool (by simp [entB, sigB, h6]), (Below.refl _ _).alloc (Nat.le_refl _) _⟩
            | true =>
              cases h7 : allB 0 63 l' with
              | false =>
                rw [h5] at C1
                rw [h7] at C2
                go_enter Try.func82, Try.ntmps82
                go_wp2_with (first | (go_at_call 83; refine (within_any _ _ _ _).mono ?_; rintro e w' ⟨rfl, rfl⟩) | (go_at_call_of 91 (Value.slice A2 l.length c2); refine (C1.out).mono ?_; rintro e w' ⟨rfl, rfl⟩) | (go_at_call_of 91 (Value.slice A3 l'.length c3); refine (C2.out).mono ?_; rintro e w' ⟨rfl, rfl⟩))
                go_ret
                exact ⟨ret_bool (by simp [entB, sigB, h7]), (Below.refl _ _).alloc (Nat.le_refl _) _⟩
              | true =>
                rw [h5] at C1
                rw [h7] at C2
                go_enter Try.func82, Try.ntmps82
                go_wp2_with (first | (go_at_call 83; refine (within_any _ _ _ _).mono ?_; rintro e w' ⟨rfl, rfl⟩) | (go_at_call_of 91 (Value.slice A2 l.length c2); refine (C1.out).mono ?_; rintro e w' ⟨rfl, rfl⟩) | (go_at_call_of 91 (Value.slice A3 l'.length c3); refine (C2.out).mono ?_; rintro e w' ⟨rfl, rfl⟩))
                go_ret
                exact ⟨ret_bool (by simp [entB, sigB, h1, h2, h3, h4, h5, h6, h7]), (Below.refl _ _).alloc (Nat.le_refl _) _⟩

set_option maxHeartbeats 4000000 in
set_option maxRecDepth 100000 in
theorem lgFind_any (A : Option Addr) (n c : Nat) (L : List EntryT) (m p : Int) (w : World) (hn : n ≤ 1000000000) (h : Reads2 w 5 A n (rowsE L)) :
    Calls Try.prog 75 #[.slice A n c, .int .i64 m, .int .i64 p] w fun e w' => e = .returned (.int .i64 (idxP (isE m p) L 0)) ∧ Below w.heap.size w w' := by
  have HX := Lib.hid (show L.length = n by have := h.len; rw [length_rowsE] at this; omega)
  have H := Lib.hid h
  clear h
  go_enter Try.func75, Try.ntmps75
  go_wp2
  go_loopw [11] (fun i wr => ∃ k : Nat, k ≤ n ∧ i = .int .i64 k ∧ idxP (isE m p) (L.drop k) (k : Int) = idxP (isE m p) L 0 ∧ Below w.heap.size w wr) (fun i _ => n - (intOf i).toNat)
  case atStart => exact ⟨0, Nat.zero_le _, rfl, rfl, Below.refl _ _⟩
  case round =>
    obtain ⟨k, hk, rfl, hrel, hb⟩ := hrel
    have HR := Lib.hid hrel; clear hrel
    have HB := Lib.hid hb; clear hb
    by_cases hlt : k < n
    · have hx : k < L.length := by rw [HX.out]; exact hlt
      have HD := Lib.hid (drop_cons hx)
      obtain ⟨ad, A3, A4, c3, c4, hAA⟩ : ∃ ad A3 A4 c3 c4, A = some ad ∧ wr.cell? (ad.add (k * 5)) = some (.int .i64 L[k].1) ∧ wr.cell? ⟨(ad.add (k * 5)).block, (ad.add (k * 5)).off + 1, none⟩ = some (.int .i64 L[k].2.1) ∧ wr.cell? ⟨(ad.add (k * 5)).block, (ad.add (k * 5)).off + 2, none⟩ = some (.int .i64 L[k].2.2.1) ∧ wr.cell? ⟨(ad.add (k * 5)).block, (ad.add (k * 5)).off + 3, none⟩ = some (.slice A3 L[k].2.2.2.1.length c3) ∧ wr.cell? ⟨(ad.add (k * 5)).block, (ad.add (k * 5)).off + 4, none⟩ = some (.slice A4 L[k].2.2.2.2.length c4) := by
        obtain ⟨ad, A3, c3, A4, c4, e, k0, k1, k2, k3, k4, _, _⟩ := rowsE_at (H.out.below HB.out) hx
        exact ⟨ad, A3, A4, c3, c4, e, k0, k1, k2, k3, k4⟩
      obtain ⟨rfl, k0, k1, k2, k3, k4⟩ := hAA
      generalize L[k] = x at *
      obtain ⟨xt, xm, xp, xl, xl'⟩ := x
      simp only at k0 k1 k2 k3 k4
      cases hm : (xm == m) with
      | false =>
        have HF : Hid (isE m p (xt, xm, xp, xl, xl') = false) := Lib.hid (by simp [isE, hm])
        go_wp2
        go_roundw
        case rel =>
          refine ⟨k + 1, by omega, by go_num, ?_, HB.out.trans ((Below.refl _ _).alloc HB.out.size _)⟩
          rw [← HR.out, HD.out]
          simp [idxP, HF.out]
        case measure => simp [intOf]; omega
      | true =>
        cases hp : (xp == p) with
        | false =>
          have HF : Hid (isE m p (xt, xm, xp, xl, xl') = false) := Lib.hid (by simp [isE, hm, hp])
          go_wp2
          go_roundw
          case rel =>
            refine ⟨k + 1, by omega, by go_num, ?_, HB.out.trans ((Below.refl _ _).alloc HB.out.size _)⟩
            rw [← HR.out, HD.out]
            simp [idxP, HF.out]
          case measure => simp [intOf]; omega
        | true =>
          have HF : Hid (isE m p (xt, xm, xp, xl, xl') = true) := Lib.hid (by simp [isE, hm, hp])
          go_wp2
          go_ret
          refine ⟨ret_int ?_, HB.out.trans ((Below.refl _ _).alloc HB.out.size _)⟩
          rw [← HR.out, HD.out]
          simp [idxP, HF.out]
    · have HE := Lib.hid (drop_end (xs := L) (k := k) (by rw [HX.out]; omega))
      go_wp2
      go_ret
      refine ⟨ret_int ?_, HB.out⟩
      rw [← HR.out, HE.out]
      rfl

end Go.Proofs.Ytcjmlakmigfkfaa
