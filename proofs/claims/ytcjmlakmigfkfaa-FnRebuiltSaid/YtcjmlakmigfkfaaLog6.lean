/- Two logs and two ways asked: rbGood of the spec, gapAsked of the implementation. No conditions. -/
import Derived.Test.YtcjmlakmigfkfaaLog5
namespace Go.Proofs.Ytcjmlakmigfkfaa
set_option linter.unusedSimpArgs false
set_option linter.unusedVariables false
open Go.RowKit

def askE (L M : List EntryT) (a b : Int) : Bool := goodE L && (goodE M && (inB a 0 60 && inB b 0 60))

set_option maxHeartbeats 1000000 in
set_option maxRecDepth 100000 in
theorem rbGood_any (A : Option Addr) (n c : Nat) (L : List EntryT) (B : Option Addr) (m d : Nat) (M : List EntryT) (a b : Int) (w : World) (hn : n ≤ 1000000000) (hl : ∀ x ∈ L, lenE 1000000000 x) (h : Reads2 w 5 A n (rowsE L)) (hm : m ≤ 1000000000) (hl' : ∀ x ∈ M, lenE 1000000000 x) (h' : Reads2 w 5 B m (rowsE M)) :
    Calls Try.prog 70 #[.slice A n c, .slice B m d, .int .i64 a, .int .i64 b] w fun e w' => e = .returned (.bool (askE L M a b)) ∧ Below w.heap.size w w' := by
  have C1 := Lib.hid (lgGood_any A n c L w hn hl h)
  have C2 := Lib.hid (fun W (hW : Below w.heap.size w W) => lgGood_any B m d M W hm hl' (h'.below hW))
  clear h h' hl hl'
  cases h1 : goodE L with
  | false =>
    simp only [h1] at C1
    go_enter Try.func70, Try.ntmps70
    go_wp2_with (first | (go_at_call_of 60 (Value.slice A n c); refine (C1.out).mono ?_; rintro e w1 ⟨rfl, hb1⟩; have HB1 := Lib.hid hb1; clear hb1) | (go_at_call_of 60 (Value.slice B m d); refine (C2.out _ HB1.out).mono ?_; rintro e w2 ⟨rfl, hb2⟩; have HB2 := Lib.hid hb2; clear hb2) | (go_at_call 84; refine (l1In_any _ _ _ _).mono ?_; rintro e w' ⟨rfl, rfl⟩))
    go_ret
    exact ⟨ret_bool (by simp [askE, h1]), HB1.out⟩
  | true =>
    cases h2 : goodE M with
    | false =>
      simp only [h1] at C1
      simp only [h2] at C2
      go_enter Try.func70, Try.ntmps70
      go_wp2_with (first | (go_at_call_of 60 (Value.slice A n c); refine (C1.out).mono ?_; rintro e w1 ⟨rfl, hb1⟩; have HB1 := Lib.hid hb1; clear hb1) | (go_at_call_of 60 (Value.slice B m d); refine (C2.out _ HB1.out).mono ?_; rintro e w2 ⟨rfl, hb2⟩; have HB2 := Lib.hid hb2; clear hb2) | (go_at_call 84; refine (l1In_any _ _ _ _).mono ?_; rintro e w' ⟨rfl, rfl⟩))
      go_ret
      exact ⟨ret_bool (by simp [askE, h2]), HB1.out.trans (HB2.out.mono HB1.out.size)⟩
    | true =>
      cases h3 : inB a 0 60 with
      | false =>
        simp only [h1] at C1
        simp only [h2] at C2
        go_enter Try.func70, Try.ntmps70
        go_wp2_with (first | (go_at_call_of 60 (Value.slice A n c); refine (C1.out).mono ?_; rintro e w1 ⟨rfl, hb1⟩; have HB1 := Lib.hid hb1; clear hb1) | (go_at_call_of 60 (Value.slice B m d); refine (C2.out _ HB1.out).mono ?_; rintro e w2 ⟨rfl, hb2⟩; have HB2 := Lib.hid hb2; clear hb2) | (go_at_call 84; refine (l1In_any _ _ _ _).mono ?_; rintro e w' ⟨rfl, rfl⟩))
        go_ret
        exact ⟨ret_bool (by simp [askE, h3]), HB1.out.trans (HB2.out.mono HB1.out.size)⟩
      | true =>
        cases h4 : inB b 0 60 with
        | false =>
          simp only [h1] at C1
          simp only [h2] at C2
          go_enter Try.func70, Try.ntmps70
          go_wp2_with (first | (go_at_call_of 60 (Value.slice A n c); refine (C1.out).mono ?_; rintro e w1 ⟨rfl, hb1⟩; have HB1 := Lib.hid hb1; clear hb1) | (go_at_call_of 60 (Value.slice B m d); refine (C2.out _ HB1.out).mono ?_; rintro e w2 ⟨rfl, hb2⟩; have HB2 := Lib.hid hb2; clear hb2) | (go_at_call 84; refine (l1In_any _ _ _ _).mono ?_; rintro e w' ⟨rfl, rfl⟩))
          go_ret
          exact ⟨ret_bool (by simp [askE, h4]), HB1.out.trans (HB2.out.mono HB1.out.size)⟩
        | true =>
          simp only [h1] at C1
          simp only [h2] at C2
          go_enter Try.func70, Try.ntmps70
          go_wp2_with (first | (go_at_call_of 60 (Value.slice A n c); refine (C1.out).mono ?_; rintro e w1 ⟨rfl, hb1⟩; have HB1 := Lib.hid hb1; clear hb1) | (go_at_call_of 60 (Value.slice B m d); refine (C2.out _ HB1.out).mono ?_; rintro e w2 ⟨rfl, hb2⟩; have HB2 := Lib.hid hb2; clear hb2) | (go_at_call 84; refine (l1In_any _ _ _ _).mono ?_; rintro e w' ⟨rfl, rfl⟩))
          go_ret
          exact ⟨ret_bool (by simp [askE, h1, h2, h3, h4]), HB1.out.trans (HB2.out.mono HB1.out.size)⟩

set_option maxHeartbeats 1000000 in
set_option maxRecDepth 100000 in
theorem gapAsked_any (A : Option Addr) (n c : Nat) (L : List EntryT) (B : Option Addr) (m d : Nat) (M : List EntryT) (a b : Int) (w : World) (hn : n ≤ 1000000000) (hl : ∀ x ∈ L, lenE 1000000000 x) (h : Reads2 w 5 A n (rowsE L)) (hc : n ≤ c) (hd : m ≤ d) (hm : m ≤ 1000000000) (hl' : ∀ x ∈ M, lenE 1000000000 x) (h' : Reads2 w 5 B m (rowsE M)) :
    Calls Try.prog 71 #[.slice A n c, .slice B m d, .int .i64 a, .int .i64 b] w fun e w' => e = .returned (.bool (askE L M a b)) ∧ Below w.heap.size w w' := by
  have C1 := Lib.hid (isLog_any A n c L w hn hc hl h)
  have C2 := Lib.hid (fun W (hW : Below w.heap.size w W) => isLog_any B m d M W hm hd hl' (h'.below hW))
  clear h h' hl hl'
  cases h1 : goodE L with
  | false =>
    simp only [h1] at C1
    go_enter Try.func71, Try.ntmps71
    go_wp2_with (first | (go_at_call_of 33 (Value.slice A n c); refine (C1.out).mono ?_; rintro e w1 ⟨rfl, hb1⟩; have HB1 := Lib.hid hb1; clear hb1) | (go_at_call_of 33 (Value.slice B m d); refine (C2.out _ HB1.out).mono ?_; rintro e w2 ⟨rfl, hb2⟩; have HB2 := Lib.hid hb2; clear hb2) | (go_at_call 83; refine (within_any _ _ _ _).mono ?_; rintro e w' ⟨rfl, rfl⟩))
    go_ret
    exact ⟨ret_bool (by simp [askE, h1]), HB1.out⟩
  | true =>
    cases h2 : goodE M with
    | false =>
      simp only [h1] at C1
      simp only [h2] at C2
      go_enter Try.func71, Try.ntmps71
      go_wp2_with (first | (go_at_call_of 33 (Value.slice A n c); refine (C1.out).mono ?_; rintro e w1 ⟨rfl, hb1⟩; have HB1 := Lib.hid hb1; clear hb1) | (go_at_call_of 33 (Value.slice B m d); refine (C2.out _ HB1.out).mono ?_; rintro e w2 ⟨rfl, hb2⟩; have HB2 := Lib.hid hb2; clear hb2) | (go_at_call 83; refine (within_any _ _ _ _).mono ?_; rintro e w' ⟨rfl, rfl⟩))
      go_ret
      exact ⟨ret_bool (by simp [askE, h2]), HB1.out.trans (HB2.out.mono HB1.out.size)⟩
    | true =>
      cases h3 : inB a 0 60 with
      | false =>
        simp only [h1] at C1
        simp only [h2] at C2
        go_enter Try.func71, Try.ntmps71
        go_wp2_with (first | (go_at_call_of 33 (Value.slice A n c); refine (C1.out).mono ?_; rintro e w1 ⟨rfl, hb1⟩; have HB1 := Lib.hid hb1; clear hb1) | (go_at_call_of 33 (Value.slice B m d); refine (C2.out _ HB1.out).mono ?_; rintro e w2 ⟨rfl, hb2⟩; have HB2 := Lib.hid hb2; clear hb2) | (go_at_call 83; refine (within_any _ _ _ _).mono ?_; rintro e w' ⟨rfl, rfl⟩))
        go_ret
        exact ⟨ret_bool (by simp [askE, h3]), HB1.out.trans (HB2.out.mono HB1.out.size)⟩
      | true =>
        cases h4 : inB b 0 60 with
        | false =>
          simp only [h1] at C1
          simp only [h2] at C2
          go_enter Try.func71, Try.ntmps71
          go_wp2_with (first | (go_at_call_of 33 (Value.slice A n c); refine (C1.out).mono ?_; rintro e w1 ⟨rfl, hb1⟩; have HB1 := Lib.hid hb1; clear hb1) | (go_at_call_of 33 (Value.slice B m d); refine (C2.out _ HB1.out).mono ?_; rintro e w2 ⟨rfl, hb2⟩; have HB2 := Lib.hid hb2; clear hb2) | (go_at_call 83; refine (within_any _ _ _ _).mono ?_; rintro e w' ⟨rfl, rfl⟩))
          go_ret
          exact ⟨ret_bool (by simp [askE, h4]), HB1.out.trans (HB2.out.mono HB1.out.size)⟩
        | true =>
          simp only [h1] at C1
          simp only [h2] at C2
          go_enter Try.func71, Try.ntmps71
          go_wp2_with (first | (go_at_call_of 33 (Value.slice A n c); refine (C1.out).mono ?_; rintro e w1 ⟨rfl, hb1⟩; have HB1 := Lib.hid hb1; clear hb1) | (go_at_call_of 33 (Value.slice B m d); refine (C2.out _ HB1.out).mono ?_; rintro e w2 ⟨rfl, hb2⟩; have HB2 := Lib.hid hb2; clear hb2) | (go_at_call 83; refine (within_any _ _ _ _).mono ?_; rintro e w' ⟨rfl, rfl⟩))
          go_ret
          exact ⟨ret_bool (by simp [askE, h1, h2, h3, h4]), HB1.out.trans (HB2.out.mono HB1.out.size)⟩

end Go.Proofs.Ytcjmlakmigfkfaa
