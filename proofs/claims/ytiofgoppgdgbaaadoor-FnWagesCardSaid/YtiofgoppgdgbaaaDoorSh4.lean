/- Contract of AreShifts. No conditions. -/
import Derived.Test.YtiofgoppgdgbaaaDoorSh3
namespace Go.Proofs.YtiofgoppgdgbaaaDoor
set_option linter.unusedSimpArgs false
set_option linter.unusedVariables false
open Go.RowKit

theorem rows3_take (l : List S3) (k : Nat) : (rows3 l).take (k * 3) = rows3 (l.take k) := by
  induction l generalizing k with
  | nil => simp [rows3]
  | cons x r ih =>
    cases k with
    | zero => simp [rows3]
    | succ k =>
      have e : (k + 1) * 3 = k * 3 + 1 + 1 + 1 := by omega
      have := ih k
      simp only [rows3, List.flatMap_cons, List.take_succ_cons, cells3] at this ⊢
      rw [e]
      simp [this]
/-- The first index whose element has the property, -1 if there is none. -/
def idxP {α : Type} (p : α → Bool) : List α → Int → Int
  | [], _ => -1
  | x :: r, i => if p x then i else idxP p r (i + 1)
theorem idxP_neg {α : Type} {p : α → Bool} {l : List α} : ∀ {i : Int}, 0 ≤ i → (decide (0 ≤ idxP p l i) = l.any p) := by
  induction l with
  | nil => intro i h; simp [idxP]
  | cons x r ih =>
    intro i h
    unfold idxP
    cases hp : p x with
    | true => simp [hp]; omega
    | false => simp [hp]; rw [← ih (i := i + 1) (by omega)]
set_option maxHeartbeats 1000000 in
set_option maxRecDepth 100000 in
theorem indexFuncS_any (A : Option Addr) (n c : Nat) (l : List S3) (F : FuncId) (caps : Array Value) (p : S3 → Bool) (w : World) (hn : n ≤ 1000000000) (h : Reads w 3 A n (rows3 l))
    (hF : ∀ a W, Sem.run Tryd.prog (callFunc F a) W = .ok (.enter F a) W)
    (hp : ∀ x ∈ l, ∀ W, Below w.heap.size w W → Calls Tryd.prog F (#[.agg #[.int .i64 x.1, .int .i64 x.2.1, .int .i64 x.2.2]] ++ caps) W fun e w' => e = .returned (.bool (p x)) ∧ Below W.heap.size W w') :
    Calls Tryd.prog 78 #[.slice A n c, .func (.func F) #[] caps] w fun e w' => e = .returned (.int .i64 (idxP p l 0)) ∧ Below w.heap.size w w' := by
  have HX := Lib.hid (show l.length = n by have := h.1; rw [length_rows3] at this; omega)
  have H := Lib.hid h
  have HP := Lib.hid hp
  clear h hp
  go_enter Tryd.func78, Tryd.ntmps78
  go_wp2
  go_loopw [8] (fun i wr => ∃ k : Nat, k ≤ n ∧ i = .int .i64 k ∧ idxP p (l.drop k) (k : Int) = idxP p l 0 ∧ Below w.heap.size w wr) (fun i _ => n - (intOf i).toNat)
  case atStart => exact ⟨0, Nat.zero_le _, rfl, rfl, Below.refl _ _⟩
  case round =>
    obtain ⟨k, hk, rfl, hrel, hb⟩ := hrel
    have HR := Lib.hid hrel; clear hrel
    have HB := Lib.hid hb; clear hb
    by_cases hlt : k < n
    · obtain ⟨ad, rfl, k0, k1, k2⟩ := rows3_at (H.out.below HB.out) hlt HX.out
      have hx : k < l.length := by rw [HX.out]; exact hlt
      have HPX := Lib.hid (HP.out l[k] (List.getElem_mem hx) _ HB.out)
      have HD := Lib.hid (drop_cons hx)
      generalize l[k] = g at *
      obtain ⟨ga, gb, gc⟩ := g
      go_wp2_with fail
      refine (HPX.out).mono ?_
      rintro e w1 ⟨rfl, hb1⟩
      have HB1 := Lib.hid hb1; clear hb1 k0 k1 k2
      cases hpx : p (ga, gb, gc) with
      | true =>
        go_wp2
        go_ret
        refine ⟨ret_int ?_, HB.out.trans (HB1.out.mono HB.out.size)⟩
        rw [← HR.out, HD.out]
        simp [idxP, hpx]
      | false =>
        go_wp2
        go_roundw
        case rel =>
          refine ⟨k + 1, by omega, by go_num, ?_, HB.out.trans (HB1.out.mono HB.out.size)⟩
          rw [← HR.out, HD.out]
          simp [idxP, hpx]
        case measure => simp [intOf]; omega
    · have HE := Lib.hid (drop_end (xs := l) (k := k) (by rw [HX.out]; omega))
      go_wp2
      go_ret
      refine ⟨ret_int ?_, HB.out⟩
      rw [← HR.out, HE.out]
      rfl
set_option maxRecDepth 100000 in
theorem containsFuncS_any (A : Option Addr) (n c : Nat) (l : List S3) (F : FuncId) (caps : Array Value) (p : S3 → Bool) (w : World) (hn : n ≤ 1000000000) (h : Reads w 3 A n (rows3 l))
    (hF : ∀ a W, Sem.run Tryd.prog (callFunc F a) W = .ok (.enter F a) W)
    (hp : ∀ x ∈ l, ∀ W, Below w.heap.size w W → Calls Tryd.prog F (#[.agg #[.int .i64 x.1, .int .i64 x.2.1, .int .i64 x.2.2]] ++ caps) W fun e w' => e = .returned (.bool (p x)) ∧ Below W.heap.size W w') :
    Calls Tryd.prog 61 #[.slice A n c, .func (.func F) #[] caps] w fun e w' => e = .returned (.bool (l.any p)) ∧ Below w.heap.size w w' := by
  have C1 := Lib.hid (indexFuncS_any A n c l F caps p w hn h hF hp)
  have hi := idxP_neg (p := p) (l := l) (i := 0) (by omega)
  have HI := Lib.hid hi
  clear h hp hi hF
  generalize idxP p l 0 = i at *
  go_enter Tryd.func61, Tryd.ntmps61
  go_wp2_with (go_at_call 78; refine (C1.out).mono ?_; rintro e w1 ⟨rfl, hb⟩)
  go_ret
  exact ⟨ret_bool HI.out, hb⟩
theorem areShifts1_any (a b c xa xb : Int) (g : Nat) (w : World) (h0 : w.cell? ⟨g, 0, none⟩ = some (.int .i64 xa)) (h1 : w.cell? ⟨g, 1, none⟩ = some (.int .i64 xb)) :
    Calls Tryd.prog 62 #[.agg #[.int .i64 a, .int .i64 b, .int .i64 c], .pointer (some ⟨g, 0, none⟩)] w fun e w' => e = .returned (.bool (decide (a = xa) && decide (xb < c))) ∧ Below w.heap.size w w' := by
  have s0 := (World.cell?_alloc_lt w (.cells #[.int .i64 a, .int .i64 b, .int .i64 c] 56) _ (World.block_lt_of_cell? w _ h0)).trans h0
  have s1 := (World.cell?_alloc_lt w (.cells #[.int .i64 a, .int .i64 b, .int .i64 c] 56) _ (World.block_lt_of_cell? w _ h1)).trans h1
  clear h0 h1
  by_cases hop : a = xa
  · subst hop
    go_enter Tryd.func62, Tryd.ntmps62
    go_wp2
    go_ret
    exact ⟨ret_bool (by simp), (Below.refl _ _).alloc (Nat.le_refl _) _⟩
  · have hop' : (a == xa) = false := by rw [beq_eq_false_iff_ne]; exact hop
    go_enter Tryd.func62, Tryd.ntmps62
    go_wp2
    go_ret
    exact ⟨ret_bool (by simp [hop]), (Below.refl _ _).alloc (Nat.le_refl _) _⟩
theorem areShifts1_enters : ∀ a W, Sem.run Tryd.prog (callFunc 62 a) W = .ok (.enter 62 a) W := fun _ _ => by kernel_rfl
/-- The search among the first k shifts for one that clashes. -/
theorem clash_search (ad : Addr) (n c k : Nat) (l : List S3) (xa xb xc : Int) (g : Nat) (w : World) (hk : k ≤ n) (hn : n ≤ 1000000000) (h : Reads w 3 (some ad) n (rows3 l))
    (h0 : w.cell? ⟨g, 0, none⟩ = some (.int .i64 xa)) (h1 : w.cell? ⟨g, 1, none⟩ = some (.int .i64 xb)) :
    Calls Tryd.prog 61 #[.slice (some ad) k c, .func (.func 62) #[] #[.pointer (some ⟨g, 0, none⟩)]] w fun e w' => e = .returned (.bool ((l.take k).any (clash (xa, xb, xc)))) ∧ Below w.heap.size w w' := by
  have ht : Reads w 3 (some ad) k (rows3 (l.take k)) := by rw [← rows3_take]; exact h.take hk
  refine containsFuncS_any _ k c (l.take k) _ _ (clash (xa, xb, xc)) w (by omega) ht areShifts1_enters (fun x _ W hW => ?_)
  have e : (#[.agg #[.int .i64 x.1, .int .i64 x.2.1, .int .i64 x.2.2]] ++ #[.pointer (some ⟨g, 0, none⟩)] : Array Value) = #[.agg #[.int .i64 x.1, .int .i64 x.2.1, .int .i64 x.2.2], .pointer (some ⟨g, 0, none⟩)] := rfl
  rw [e]
  exact areShifts1_any x.1 x.2.1 x.2.2 xa xb g W ((hW.cell (World.block_lt_of_cell? w _ h0)).trans h0) ((hW.cell (World.block_lt_of_cell? w _ h1)).trans h1)
end Go.Proofs.YtiofgoppgdgbaaaDoor
