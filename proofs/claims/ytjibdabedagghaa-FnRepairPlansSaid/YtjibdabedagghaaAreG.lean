/- Contracts of AreGears and FirstToFail of both packages, and the laws over them. No conditions. -/
import Derived.Test.YtjibdabedagghaaGears
namespace Go.Proofs.Ytjibdabedagghaa
set_option linter.unusedSimpArgs false
set_option linter.unusedVariables false
open Go.RowKit

/-- The first index whose element has the property, -1 if there is none. -/
def idxP {α : Type} (p : α → Bool) : List α → Int → Int
  | [], _ => -1
  | x :: r, i => if p x then i else idxP p r (i + 1)
theorem idxP_neg {α : Type} {p : α → Bool} {l : List α} : ∀ {i : Int}, 0 ≤ i → (decide (0 ≤ idxP p l i) = l.any p) := by
  induction l with
  | nil => intro i h; simp [idxP]
  | cons x r ih =>
    intro i h
    unfold idxP
    cases hp : p x with
    | true => simp [hp]; omega
    | false => simp [hp]; rw [← ih (i := i + 1) (by omega)]
def g4 (g : G4) : Value := .agg #[.int .i64 g.1, .int .i64 g.2.1, .int .i64 g.2.2.1, .int .i64 g.2.2.2]
set_option maxHeartbeats 1000000 in
set_option maxRecDepth 100000 in
theorem indexFuncG_any (A : Option Addr) (n c : Nat) (l : List G4) (F : FuncId) (p : G4 → Bool) (w : World) (hn : n ≤ 1000000000) (h : Reads w 4 A n (rows4 l))
    (hF : ∀ a W, Sem.run Try.prog (callFunc F a) W = .ok (.enter F a) W)
    (hp : ∀ x ∈ l, ∀ W, Calls Try.prog F #[.agg #[.int .i64 x.1, .int .i64 x.2.1, .int .i64 x.2.2.1, .int .i64 x.2.2.2]] W fun e w' => e = .returned (.bool (p x)) ∧ Below W.heap.size W w') :
    Calls Try.prog 96 #[.slice A n c, .func (.func F) #[] #[]] w fun e w' => e = .returned (.int .i64 (idxP p l 0)) ∧ Below w.heap.size w w' := by
  have HX := Lib.hid (show l.length = n by have := h.1; rw [length_rows4] at this; omega)
  have H := Lib.hid h
  have HP := Lib.hid hp
  clear h hp
  go_enter Try.func96, Try.ntmps96
  go_wp2
  go_loopw [8] (fun i wr => ∃ k : Nat, k ≤ n ∧ i = .int .i64 k ∧ idxP p (l.drop k) (k : Int) = idxP p l 0 ∧ Below w.heap.size w wr) (fun i _ => n - (intOf i).toNat)
  case atStart => exact ⟨0, Nat.zero_le _, rfl, rfl, Below.refl _ _⟩
  case round =>
    obtain ⟨k, hk, rfl, hrel, hb⟩ := hrel
    have HR := Lib.hid hrel; clear hrel
    have HB := Lib.hid hb; clear hb
    by_cases hlt : k < n
    · obtain ⟨ad, rfl, k0, k1, k2, k3⟩ := rows4_at (H.out.below HB.out) hlt HX.out
      have hx : k < l.length := by rw [HX.out]; exact hlt
      have HPX := Lib.hid (HP.out l[k] (List.getElem_mem hx))
      have HD := Lib.hid (drop_cons hx)
      generalize l[k] = g at *
      obtain ⟨ga, gb, gc, gd⟩ := g
      go_wp2_with fail
      refine (HPX.out _).mono ?_
      rintro e w1 ⟨rfl, hb1⟩
      have HB1 := Lib.hid hb1; clear hb1 k0 k1 k2 k3
      cases hpx : p (ga, gb, gc, gd) with
      | true =>
        go_wp2
        go_ret
        refine ⟨ret_int ?_, HB.out.trans (HB1.out.mono HB.out.size)⟩
        rw [← HR.out, HD.out]
        simp [idxP, hpx]
      | false =>
        go_wp2
        go_roundw
        case rel =>
          refine ⟨k + 1, by omega, by go_num, ?_, HB.out.trans (HB1.out.mono HB.out.size)⟩
          rw [← HR.out, HD.out]
          simp [idxP, hpx]
        case measure => simp [intOf]; omega
    · have HE := Lib.hid (drop_end (xs := l) (k := k) (by rw [HX.out]; omega))
      go_wp2
      go_ret
      refine ⟨ret_int ?_, HB.out⟩
      rw [← HR.out, HE.out]
      rfl
set_option maxRecDepth 100000 in
theorem containsFuncG_any (A : Option Addr) (n c : Nat) (l : List G4) (F : FuncId) (p : G4 → Bool) (w : World) (hn : n ≤ 1000000000) (h : Reads w 4 A n (rows4 l))
    (hF : ∀ a W, Sem.run Try.prog (callFunc F a) W = .ok (.enter F a) W)
    (hp : ∀ x ∈ l, ∀ W, Calls Try.prog F #[.agg #[.int .i64 x.1, .int .i64 x.2.1, .int .i64 x.2.2.1, .int .i64 x.2.2.2]] W fun e w' => e = .returned (.bool (p x)) ∧ Below W.heap.size W w') :
    Calls Try.prog 64 #[.slice A n c, .func (.func F) #[] #[]] w fun e w' => e = .returned (.bool (l.any p)) ∧ Below w.heap.size w w' := by
  have C1 := Lib.hid (indexFuncG_any A n c l F p w hn h hF hp)
  have hi := idxP_neg (p := p) (l := l) (i := 0) (by omega)
  have HI := Lib.hid hi
  clear h hp hi hF
  generalize idxP p l 0 = i at *
  go_enter Try.func64, Try.ntmps64
  go_wp2_with (go_at_call 96; refine (C1.out).mono ?_; rintro e w1 ⟨rfl, hb⟩)
  go_ret
  exact ⟨ret_bool HI.out, hb⟩
theorem areGears1_any (a b c d : Int) (w : World) :
    Calls Try.prog 65 #[.agg #[.int .i64 a, .int .i64 b, .int .i64 c, .int .i64 d]] w fun e w' => e = .returned (.bool (!gearB a b c d)) ∧ Below w.heap.size w w' := by
  go_enter Try.func65, Try.ntmps65
  go_wp2_with (go_at_call 62; refine (isGear_any _ _ _ _ _).mono ?_; rintro e w1 ⟨rfl, hb⟩)
  go_ret
  exact ⟨rfl, ((Below.refl _ _).alloc (Nat.le_refl _) _).trans (hb.mono (by simp))⟩
theorem areGears1_enters : ∀ a W, Sem.run Try.prog (callFunc 65 a) W = .ok (.enter 65 a) W := fun _ _ => by kernel_rfl
theorem any_gears (l : List G4) : (!l.any fun g => !gearB g.1 g.2.1 g.2.2.1 g.2.2.2) = gearsB l := by
  induction l with
  | nil => rfl
  | cons g r ih =>
    simp only [List.any_cons, gearsB]
    cases gearB g.1 g.2.1 g.2.2.1 g.2.2.2 <;> simp
    simpa using ih
theorem specAreGears_any (A : Option Addr) (n c : Nat) (l : List G4) (w : World) (hn : n ≤ 1000000000) (h : Reads w 4 A n (rows4 l)) :
    Calls Try.prog 19 #[.slice A n c] w fun e w' => e = .returned (.bool (goodGears l)) ∧ Below w.heap.size w w' := by
  have C1 := Lib.hid (rrGood_any A n c l w hn h)
  clear h
  go_enter Try.func19, Try.ntmps19
  go_wp2_with (go_at_call 63; refine (C1.out).mono ?_; rintro e w1 ⟨rfl, hb⟩)
  go_ret
  exact ⟨rfl, hb⟩
theorem areGears_any (A : Option Addr) (n c : Nat) (l : List G4) (w : World) (hn : n ≤ 1000000000) (h : Reads w 4 A n (rows4 l)) :
    Calls Try.prog 21 #[.slice A n c] w fun e w' => e = .returned (.bool (goodGears l)) ∧ Below w.heap.size w w' := by
  have hl : l.length = n := by have := h.1; rw [length_rows4] at this; omega
  have C1 := Lib.hid (containsFuncG_any A n c l 65 (fun g => !gearB g.1 g.2.1 g.2.2.1 g.2.2.2) w hn h areGears1_enters (fun x _ W => areGears1_any _ _ _ _ W))
  have hg : goodGears l = (decide (n ≤ 8) && !l.any fun g => !gearB g.1 g.2.1 g.2.2.1 g.2.2.2) := by unfold goodGears; rw [any_gears, hl, Bool.and_comm]
  rw [hg]
  generalize (l.any fun g => !gearB g.1 g.2.1 g.2.2.1 g.2.2.2) = x at *
  clear h hg hl
  by_cases h8 : n ≤ 8
  · go_enter Try.func21, Try.ntmps21
    go_wp2_with (go_at_call 64; refine (C1.out).mono ?_; rintro e w1 ⟨rfl, hb⟩)
    go_ret
    exact ⟨ret_bool (by simp [h8]), hb⟩
  · go_enter Try.func21, Try.ntmps21
    go_wp2
    go_ret
    exact ⟨ret_bool (by simp [h8]), Below.refl _ _⟩
set_option maxHeartbeats 4000000 in
set_option maxRecDepth 100000 in
theorem law_FnExactAreGears (w : World) {v0 : Value} (h0 : IsRows4 w v0) :
    Calls Try.prog 4 #[v0] w fun e w' => e = .returned (.bool true) ∧ Below w.heap.size w w' := by
  obtain ⟨A0, n0, c0, xs0, rfl, hnc0, hcm0, _, hr0, _⟩ := h0
  have HR0 := Lib.hid (hr0); clear hr0
  by_cases hn0 : n0 ≤ 1048576
  rotate_left
  · go_enter Try.func4, Try.ntmps4
    go_wp2_with fail
    refine (szGearS_big A0 n0 c0 1048576 _ (by omega) (by omega) (by omega)).mono ?_
    rintro e w' ⟨rfl, rfl⟩
    go_wp2_with fail
    go_ret
    exact ⟨rfl, (Below.refl _ _)⟩
  obtain ⟨S0, hS0⟩ : ∃ S0, S0 = w := ⟨_, rfl⟩
  have HS0 := Lib.hid hS0
  have BW0 : Hid (Below w.heap.size w S0 ∧ w.heap.size ≤ S0.heap.size) := Lib.hid (by subst hS0; exact ⟨(Below.refl _ _), by simp; try omega⟩)
  rw [← hS0] at HR0
  clear hS0
  go_enter Try.func4, Try.ntmps4
  go_wp2_with fail
  refine (szGearS_ok A0 n0 c0 1048576 _ (by omega) (by omega)).mono ?_
  rintro e w' ⟨rfl, rfl⟩
  have BB0 : Hid (Below S0.heap.size S0 S0) := Lib.hid (Below.refl _ _)
  try rw [← HS0.out]
  go_wp2_with fail
  try rw [← HS0.out]
  refine (toGearS_any A0 n0 c0 xs0 S0 (by omega) (HR0.out.below BB0.out)).mono ?_
  rintro e w1 ⟨As0, cs0, rfl, hown, hb⟩
  have Os0_1 := Lib.hid hown; clear hown
  have Ls0 := Lib.hid (own_lt Os0_1.out)
  have B0 := Lib.hid hb; clear hb
  have Z0 := Lib.hid (B0.out.size)
  have BB1 := Lib.hid (BB0.out.trans (B0.out.mono BB0.out.size))
  go_wp2_with fail
  refine (specAreGears_any As0 n0 cs0 xs0 w1 (by omega) (Reads.of_own Os0_1.out)).mono ?_
  rintro e w2 ⟨rfl, hb⟩
  have B1 := Lib.hid hb; clear hb
  have Z1 := Lib.hid (B1.out.size)
  have BB2 := Lib.hid (BB1.out.trans (B1.out.mono BB1.out.size))
  have Os0_2 := Lib.hid (own_below Os0_1.out B1.out)
  go_wp2_with fail
  refine (toGearS_any A0 n0 c0 xs0 w2 (by omega) (HR0.out.below BB2.out)).mono ?_
  rintro e w3 ⟨Ax0, cx0, rfl, hown, hb⟩
  have Ox0_3 := Lib.hid hown; clear hown
  have Lx0 := Lib.hid (own_lt Ox0_3.out)
  have B2 := Lib.hid hb; clear hb
  have Z2 := Lib.hid (B2.out.size)
  have BB3 := Lib.hid (BB2.out.trans (B2.out.mono BB2.out.size))
  go_wp2_with fail
  refine (areGears_any Ax0 n0 cx0 xs0 w3 (by omega) (Reads.of_own Ox0_3.out)).mono ?_
  rintro e w4 ⟨rfl, hb⟩
  have B3 := Lib.hid hb; clear hb
  have Z3 := Lib.hid (B3.out.size)
  have BB4 := Lib.hid (BB3.out.trans (B3.out.mono BB3.out.size))
  have Ox0_4 := Lib.hid (own_below Ox0_3.out B3.out)
  go_wp2_with fail
  refine (toGearS_any A0 n0 c0 xs0 w4 (by omega) (HR0.out.below BB4.out)).mono ?_
  rintro e w5 ⟨At0, ct0, rfl, hown, hb⟩
  have Ot0_5 := Lib.hid hown; clear hown
  have Lt0 := Lib.hid (own_lt Ot0_5.out)
  have B4 := Lib.hid hb; clear hb
  have Z4 := Lib.hid (B4.out.size)
  have BB5 := Lib.hid (BB4.out.trans (B4.out.mono BB4.out.size))
  have Ox0_5 := Lib.hid (own_below Ox0_4.out B4.out)
  go_wp2_with fail
  refine (eqGearS_any Ax0 At0 n0 cx0 ct0 xs0 w5 (by omega) (Reads.of_own Ox0_5.out) (Reads.of_own Ot0_5.out)).mono ?_
  rintro e w6 ⟨rfl, hb⟩
  have B5 := Lib.hid hb; clear hb
  have Z5 := Lib.hid (B5.out.size)
  have BB6 := Lib.hid (BB5.out.trans (B5.out.mono BB5.out.size))
  have Ox0_6 := Lib.hid (own_below Ox0_5.out B5.out)
  have Ot0_6 := Lib.hid (own_below Ot0_5.out B5.out)
  go_wp2_with fail
  go_ret
  exact ⟨rfl, BW0.out.1.trans (BB6.out.mono BW0.out.2)⟩

end Go.Proofs.Ytjibdabedagghaa
