/- Contracts of the tests on repair plans of both packages. No conditions. -/
import Derived.Test.YtjibdabedagghaaNesh
import Derived.Test.YtjibdabedagghaaRise
import Derived.Test.YtjibdabedagghaaAreG
namespace Go.Proofs.Ytjibdabedagghaa
set_option linter.unusedSimpArgs false
set_option linter.unusedVariables false
open Go.RowKit

abbrev PL := List (List Int)
def allR (hi : Int) : PL → Bool
  | [] => true
  | l :: r => if riseB 0 hi l then allR hi r else false
def planB (hi : Int) (L : PL) : Bool := allR hi L && decide (L.length ≤ 30)
theorem allR_true {hi : Int} {L : PL} : allR hi L = true ↔ ∀ l ∈ L, riseB 0 hi l = true := by
  induction L with
  | nil => simp [allR]
  | cons a r ih => by_cases h : riseB 0 hi a = true <;> simp [allR, h, ih]
set_option maxHeartbeats 1000000 in
theorem rrPlan_any (A : Option Addr) (n c : Nat) (L : PL) (g : Int) (w : World) (hn : n ≤ 1000000000) (hl : ∀ l ∈ L, l.length ≤ 1000000000) (hg : -1000 ≤ g ∧ g ≤ 1000000000) (h : Reads2 w 1 A n (rowsIntss L)) :
    Calls Try.prog 76 #[.slice A n c, .int .i64 g] w fun e w' => e = .returned (.bool (planB (g - 1) L)) ∧ w = w' := by
  have HX := Lib.hid (show L.length = n by have := h.len; simpa using this)
  have H := Lib.hid h
  have HL := Lib.hid hl
  clear h hl
  go_enter Try.func76, Try.ntmps76
  go_wp2
  go_loop [9] (fun i => ∃ k : Nat, k ≤ n ∧ i = .int .i64 k ∧ allR (g - 1) (L.drop k) = allR (g - 1) L) (fun i => n - (intOf i).toNat)
  case atStart => exact ⟨0, Nat.zero_le _, rfl, rfl⟩
  case round =>
    obtain ⟨k, hk, rfl, hrel⟩ := hrel
    have HR := Lib.hid hrel; clear hrel
    by_cases hlt : k < n
    · have hx : k < L.length := by rw [HX.out]; exact hlt
      obtain ⟨ad, Ai, ci, rfl, kc, _, _, hr⟩ := H.out.row (rowsIntss_get hx)
      have HRR := Lib.hid hr; clear hr
      have HXL := Lib.hid (HL.out L[k] (List.getElem_mem hx))
      have HD := Lib.hid (drop_cons hx)
      generalize L[k] = l at *
      simp only [length_ints] at kc HRR
      have C1 := Lib.hid (l1Rising_any Ai l.length ci l 0 (g - 1) w HXL.out HRR.out)
      generalize hrb : riseB 0 (g - 1) l = b at *
      have HB := Lib.hid hrb
      clear hrb
      cases b with
      | true =>
        go_wp2_with (go_at_call 67; refine (C1.out).mono ?_; rintro e w' ⟨rfl, rfl⟩)
        go_round
        case rel => exact ⟨k + 1, by omega, by go_num, by rw [← HR.out, HD.out]; simp [allR, HB.out]⟩
        case measure => simp [intOf]; omega
      | false =>
        go_wp2_with (go_at_call 67; refine (C1.out).mono ?_; rintro e w' ⟨rfl, rfl⟩)
        go_ret
        exact ⟨ret_bool (by unfold planB; rw [← HR.out, HD.out]; simp [allR, HB.out]), rfl⟩
    · have HE := Lib.hid (drop_end (xs := L) (k := k) (by rw [HX.out]; omega))
      go_wp2
      go_ret
      refine ⟨ret_bool ?_, rfl⟩
      unfold planB
      rw [← HR.out, HE.out, HX.out]
      simp [allR]
      omega
set_option maxHeartbeats 1000000 in
set_option maxRecDepth 100000 in
theorem indexFuncP_any (A : Option Addr) (n c : Nat) (L : PL) (F : FuncId) (caps : Array Value) (p : List Int → Bool) (w : World) (hn : n ≤ 1000000000) (h : Reads2 w 1 A n (rowsIntss L))
    (hF : ∀ a W, Sem.run Try.prog (callFunc F a) W = .ok (.enter F a) W)
    (hp : ∀ x ∈ L, ∀ Ai ci W, Below w.heap.size w W → Reads W 1 Ai x.length (ints x) → Calls Try.prog F (#[.slice Ai x.length ci] ++ caps) W fun e w' => e = .returned (.bool (p x)) ∧ Below W.heap.size W w') :
    Calls Try.prog 107 #[.slice A n c, .func (.func F) #[] caps] w fun e w' => e = .returned (.int .i64 (idxP p L 0)) ∧ Below w.heap.size w w' := by
  have HX := Lib.hid (show L.length = n by have := h.len; simpa using this)
  have H := Lib.hid h
  have HP := Lib.hid hp
  clear h hp
  go_enter Try.func107, Try.ntmps107
  go_wp2
  go_loopw [8] (fun i wr => ∃ k : Nat, k ≤ n ∧ i = .int .i64 k ∧ idxP p (L.drop k) (k : Int) = idxP p L 0 ∧ Below w.heap.size w wr) (fun i _ => n - (intOf i).toNat)
  case atStart => exact ⟨0, Nat.zero_le _, rfl, rfl, Below.refl _ _⟩
  case round =>
    obtain ⟨k, hk, rfl, hrel, hb⟩ := hrel
    have HR := Lib.hid hrel; clear hrel
    have HB := Lib.hid hb; clear hb
    by_cases hlt : k < n
    · have hx : k < L.length := by rw [HX.out]; exact hlt
      obtain ⟨ad, Ai, ci, rfl, kc, _, _, hr⟩ := (H.out.below HB.out).row (rowsIntss_get hx)
      have HRR := Lib.hid hr; clear hr
      have HPX := Lib.hid (HP.out L[k] (List.getElem_mem hx))
      have HD := Lib.hid (drop_cons hx)
      generalize L[k] = l at *
      simp only [length_ints] at kc HRR
      go_wp2_with fail
      refine (HPX.out _ _ _ HB.out HRR.out).mono ?_
      rintro e w1 ⟨rfl, hb1⟩
      have HB1 := Lib.hid hb1; clear hb1 kc
      cases hpx : p l with
      | true =>
        go_wp2
        go_ret
        refine ⟨ret_int ?_, HB.out.trans (HB1.out.mono HB.out.size)⟩
        rw [← HR.out, HD.out]
        simp [idxP, hpx]
      | false =>
        go_wp2
        go_roundw
        case rel =>
          refine ⟨k + 1, by omega, by go_num, ?_, HB.out.trans (HB1.out.mono HB.out.size)⟩
          rw [← HR.out, HD.out]
          simp [idxP, hpx]
        case measure => simp [intOf]; omega
    · have HE := Lib.hid (drop_end (xs := L) (k := k) (by rw [HX.out]; omega))
      go_wp2
      go_ret
      refine ⟨ret_int ?_, HB.out⟩
      rw [← HR.out, HE.out]
      rfl
set_option maxRecDepth 100000 in
theorem containsFuncP_any (A : Option Addr) (n c : Nat) (L : PL) (F : FuncId) (caps : Array Value) (p : List Int → Bool) (w : World) (hn : n ≤ 1000000000) (h : Reads2 w 1 A n (rowsIntss L))
    (hF : ∀ a W, Sem.run Try.prog (callFunc F a) W = .ok (.enter F a) W)
    (hp : ∀ x ∈ L, ∀ Ai ci W, Below w.heap.size w W → Reads W 1 Ai x.length (ints x) → Calls Try.prog F (#[.slice Ai x.length ci] ++ caps) W fun e w' => e = .returned (.bool (p x)) ∧ Below W.heap.size W w') :
    Calls Try.prog 98 #[.slice A n c, .func (.func F) #[] caps] w fun e w' => e = .returned (.bool (L.any p)) ∧ Below w.heap.size w w' := by
  have C1 := Lib.hid (indexFuncP_any A n c L F caps p w hn h hF hp)
  have hi := idxP_neg (p := p) (l := L) (i := 0) (by omega)
  have HI := Lib.hid hi
  clear h hp hi hF
  generalize idxP p L 0 = i at *
  go_enter Try.func98, Try.ntmps98
  go_wp2_with (go_at_call 107; refine (C1.out).mono ?_; rintro e w1 ⟨rfl, hb⟩)
  go_ret
  exact ⟨ret_bool HI.out, hb⟩
theorem isPlan1_any (A : Option Addr) (n c : Nat) (x : List Int) (w : World) (hn : n ≤ 1000000000) (h : Reads w 1 A n (ints x)) :
    Calls Try.prog 99 #[.slice A n c] w fun e w' => e = .returned (.bool (!riseB 0 7 x)) ∧ Below w.heap.size w w' := by
  have C1 := Lib.hid (allWithin_any A n c x 0 7 w (by omega) h)
  have C2 := Lib.hid (increasing_any A n c x w hn h)
  rw [riseB_eq]
  clear h
  generalize incB x = b2 at *
  generalize allB 0 7 x = b1 at *
  cases b1 with
  | true =>
    go_enter Try.func99, Try.ntmps99
    go_wp2_with (first | (go_at_call 71; refine (C1.out).mono ?_; rintro e w' ⟨rfl, rfl⟩) | (go_at_call 72; refine (C2.out).mono ?_; rintro e w1 ⟨rfl, hq⟩; have hb := below_of_quiet (B := w.heap.size) hq; clear hq))
    go_ret
    exact ⟨ret_bool (by simp), hb⟩
  | false =>
    go_enter Try.func99, Try.ntmps99
    go_wp2_with (first | (go_at_call 71; refine (C1.out).mono ?_; rintro e w' ⟨rfl, rfl⟩) | (go_at_call 72; refine (C2.out).mono ?_; rintro e w1 ⟨rfl, hq⟩; have hb := below_of_quiet (B := w.heap.size) hq; clear hq))
    go_ret
    exact ⟨ret_bool (by simp), Below.refl _ _⟩
theorem isPlan1_enters : ∀ a W, Sem.run Try.prog (callFunc 99 a) W = .ok (.enter 99 a) W := fun _ _ => by kernel_rfl
theorem any_plan (hi : Int) (L : PL) : (!L.any fun l => !riseB 0 hi l) = allR hi L := by
  induction L with
  | nil => rfl
  | cons g r ih =>
    simp only [List.any_cons, allR]
    cases riseB 0 hi g <;> simp
    simpa using ih
theorem isPlan_any (A : Option Addr) (n c : Nat) (L : PL) (w : World) (hn : n ≤ 1000000000) (hl : ∀ l ∈ L, l.length ≤ 1000000000) (h : Reads2 w 1 A n (rowsIntss L)) :
    Calls Try.prog 77 #[.slice A n c] w fun e w' => e = .returned (.bool (planB 7 L)) ∧ Below w.heap.size w w' := by
  have hx : L.length = n := by have := h.len; simpa using this
  have C1 := Lib.hid (containsFuncP_any A n c L 99 #[] (fun l => !riseB 0 7 l) w hn h isPlan1_enters (fun x hx Ai ci W _ hr => by simpa using isPlan1_any Ai x.length ci x W (hl x hx) hr))
  have hg : planB 7 L = (decide (n ≤ 30) && !L.any fun l => !riseB 0 7 l) := by unfold planB; rw [any_plan, hx, Bool.and_comm]
  rw [hg]
  generalize (L.any fun l => !riseB 0 7 l) = x at *
  clear h hg hx hl
  by_cases h8 : n ≤ 30
  · go_enter Try.func77, Try.ntmps77
    go_wp2_with (go_at_call 98; refine (C1.out).mono ?_; rintro e w1 ⟨rfl, hb⟩)
    go_ret
    exact ⟨ret_bool (by simp [h8]), hb⟩
  · go_enter Try.func77, Try.ntmps77
    go_wp2
    go_ret
    exact ⟨ret_bool (by simp [h8]), Below.refl _ _⟩
end Go.Proofs.Ytjibdabedagghaa
