/- Contracts of AreTickets of both packages, and the law over them. No conditions. -/
import Derived.Test.YtcjmlakmigfkfaaTick3
import Derived.Test.YtcjmlakmigfkfaaRise
import Derived.Test.YtcjmlakmigfkfaaTail
import Derived.Deep.RegionHeld3
namespace Go.Proofs.Ytcjmlakmigfkfaa
set_option linter.unusedSimpArgs false
set_option linter.unusedVariables false
open Go.RowKit

def tickB (x : TicketT) : Bool := inB x.1 1 999 && (inB x.2.1 1 9 && (riseB 0 (x.2.1 - 1) x.2.2.1 && (inB x.2.2.2 0 2 && (decide ((x.2.2.1.length : Int) = x.2.1) == decide (x.2.2.2 = 1)))))
def aftB : Option Int → Int → Bool
  | none, _ => true
  | some y, m => decide (y < m)
def okT : Option Int → List TicketT → Bool
  | _, [] => true
  | p, x :: r => if (tickB x && aftB p x.1) = true then okT (some x.1) r else false
def goodT (L : List TicketT) : Bool := okT none L && decide (L.length ≤ 20)
def prevT (L : List TicketT) (k : Nat) : Option Int := if k = 0 then none else (L[k - 1]?).map (·.1)
theorem prevT_succ {L : List TicketT} {k : Nat} (h : k < L.length) : prevT L (k + 1) = some L[k].1 := by simp [prevT, h]
theorem okT_all {L : List TicketT} : ∀ {p}, okT p L = true → ∀ x ∈ L, tickB x = true := by
  induction L with
  | nil => intro p _ x hx; cases hx
  | cons y r ih =>
    intro p h x hx
    unfold okT at h
    split at h
    · rename_i hc
      simp only [Bool.and_eq_true] at hc
      rcases List.mem_cons.1 hx with rfl | hx
      · exact hc.1
      · exact ih h x hx
    · cases h

set_option maxHeartbeats 1000000 in
set_option maxRecDepth 100000 in
theorem dkTicket_any (m p s : Int) (A : Option Addr) (c : Nat) (l : List Int) (w : World) (hn : l.length ≤ 1000000000) (h : Reads w 1 A l.length (ints l)) :
    Calls Try.prog 111 #[.agg #[.int .i64 m, .int .i64 p, .slice A l.length c, .int .i64 s]] w fun e w' => e = .returned (.bool (tickB (m, p, l, s))) ∧ Below w.heap.size w w' := by
  have CR := Lib.hid (l1Rising_any A l.length c l 0 (p - 1) (w.alloc (.cells #[.int .i64 m, .int .i64 p, .slice A l.length c, .int .i64 s] 106)) hn (h.alloc _))
  clear h
  cases h1 : inB m 1 999 with
  | false =>
    go_enter Try.func111, Try.ntmps111
    go_wp2_with (first | (go_at_call 84; refine (l1In_any _ _ _ _).mono ?_; rintro e w' ⟨rfl, rfl⟩) | (go_at_call 118; refine (CR.out).mono ?_; rintro e w' ⟨rfl, rfl⟩))
    go_ret
    exact ⟨ret_bool (by simp [tickB, h1]), (Below.refl _ _).alloc (Nat.le_refl _) _⟩
  | true =>
    cases h2 : inB p 1 9 with
    | false =>
      go_enter Try.func111, Try.ntmps111
      go_wp2_with (first | (go_at_call 84; refine (l1In_any _ _ _ _).mono ?_; rintro e w' ⟨rfl, rfl⟩) | (go_at_call 118; refine (CR.out).mono ?_; rintro e w' ⟨rfl, rfl⟩))
      go_ret
      exact ⟨ret_bool (by simp [tickB, h2]), (Below.refl _ _).alloc (Nat.le_refl _) _⟩
    | true =>
      cases h3 : riseB 0 (p - 1) l with
      | false =>
        have H3 := Lib.hid h3
        clear h3
        rw [H3.out] at CR
        obtain ⟨hp1, hp2⟩ := inB_true.1 h2
        go_enter Try.func111, Try.ntmps111
        go_wp2_with (first | (go_at_call 84; refine (l1In_any _ _ _ _).mono ?_; rintro e w' ⟨rfl, rfl⟩) | (go_at_call 118; refine (CR.out).mono ?_; rintro e w' ⟨rfl, rfl⟩))
        go_ret
        exact ⟨ret_bool (by simp [tickB, H3.out]), (Below.refl _ _).alloc (Nat.le_refl _) _⟩
      | true =>
        cases h4 : inB s 0 2 with
        | false =>
          have H3 := Lib.hid h3
          clear h3
          rw [H3.out] at CR
          obtain ⟨hp1, hp2⟩ := inB_true.1 h2
          go_enter Try.func111, Try.ntmps111
          go_wp2_with (first | (go_at_call 84; refine (l1In_any _ _ _ _).mono ?_; rintro e w' ⟨rfl, rfl⟩) | (go_at_call 118; refine (CR.out).mono ?_; rintro e w' ⟨rfl, rfl⟩))
          go_ret
          exact ⟨ret_bool (by simp [tickB, h4]), (Below.refl _ _).alloc (Nat.le_refl _) _⟩
        | true =>
          have H3 := Lib.hid h3
          clear h3
          rw [H3.out] at CR
          obtain ⟨hp1, hp2⟩ := inB_true.1 h2
          by_cases ha : (l.length : Int) = p
          · by_cases hb : s = 1
            · have ha' : ((l.length : Int) == p) = true := by simpa using ha
              have hb' : (s == 1) = true := by simpa using hb
              have HA := Lib.hid ha
              have HB := Lib.hid hb
              clear ha hb
              go_enter Try.func111, Try.ntmps111
              go_wp2_with (first | (go_at_call 84; refine (l1In_any _ _ _ _).mono ?_; rintro e w' ⟨rfl, rfl⟩) | (go_at_call 118; refine (CR.out).mono ?_; rintro e w' ⟨rfl, rfl⟩))
              go_ret
              exact ⟨ret_bool (by have h5 : decide ((l.length : Int) = p) = true := (by simpa using HA.out); have h6 : decide (s = 1) = true := (by simpa using HB.out); unfold tickB; simp only [h1, h2, H3.out, h4, h5, h6]; rfl), (Below.refl _ _).alloc (Nat.le_refl _) _⟩
            · have ha' : ((l.length : Int) == p) = true := by simpa using ha
              have hb' : (s == 1) = false := by simpa using hb
              have HA := Lib.hid ha
              have HB := Lib.hid hb
              clear ha hb
              go_enter Try.func111, Try.ntmps111
              go_wp2_with (first | (go_at_call 84; refine (l1In_any _ _ _ _).mono ?_; rintro e w' ⟨rfl, rfl⟩) | (go_at_call 118; refine (CR.out).mono ?_; rintro e w' ⟨rfl, rfl⟩))
              go_ret
              exact ⟨ret_bool (by have h5 : decide ((l.length : Int) = p) = true := (by simpa using HA.out); have h6 : decide (s = 1) = false := (by simpa using HB.out); unfold tickB; simp only [h1, h2, H3.out, h4, h5, h6]; rfl), (Below.refl _ _).alloc (Nat.le_refl _) _⟩
          · by_cases hb : s = 1
            · have ha' : ((l.length : Int) == p) = false := by simpa using ha
              have hb' : (s == 1) = true := by simpa using hb
              have HA := Lib.hid ha
              have HB := Lib.hid hb
              clear ha hb
              go_enter Try.func111, Try.ntmps111
              go_wp2_with (first | (go_at_call 84; refine (l1In_any _ _ _ _).mono ?_; rintro e w' ⟨rfl, rfl⟩) | (go_at_call 118; refine (CR.out).mono ?_; rintro e w' ⟨rfl, rfl⟩))
              go_ret
              exact ⟨ret_bool (by have h5 : decide ((l.length : Int) = p) = false := (by simpa using HA.out); have h6 : decide (s = 1) = true := (by simpa using HB.out); unfold tickB; simp only [h1, h2, H3.out, h4, h5, h6]; rfl), (Below.refl _ _).alloc (Nat.le_refl _) _⟩
            · have ha' : ((l.length : Int) == p) = false := by simpa using ha
              have hb' : (s == 1) = false := by simpa using hb
              have HA := Lib.hid ha
              have HB := Lib.hid hb
              clear ha hb
              go_enter Try.func111, Try.ntmps111
              go_wp2_with (first | (go_at_call 84; refine (l1In_any _ _ _ _).mono ?_; rintro e w' ⟨rfl, rfl⟩) | (go_at_call 118; refine (CR.out).mono ?_; rintro e w' ⟨rfl, rfl⟩))
              go_ret
              exact ⟨ret_bool (by have h5 : decide ((l.length : Int) = p) = false := (by simpa using HA.out); have h6 : decide (s = 1) = false := (by simpa using HB.out); unfold tickB; simp only [h1, h2, H3.out, h4, h5, h6]; rfl), (Below.refl _ _).alloc (Nat.le_refl _) _⟩

end Go.Proofs.Ytcjmlakmigfkfaa
