/- Contracts of LeastCapacity of both packages, and the law over them. No conditions. -/
import Derived.Test.YtgdlaeibdpbgdaaTr3
import Derived.Test.YtgdlaeibdpbgdaaMaxI
namespace Go.Proofs.Ytgdlaeibdpbgdaa
set_option linter.unusedSimpArgs false
set_option linter.unusedVariables false
open Go.RowKit

def lc (xs : List Int) (most : Int) : Nat → Int → Int
  | 0, c => c
  | f + 1, c => if allB 0 most (waits c 0 xs) then c else lc xs most f (c + 1)
def leastR (xs : List Int) (most : Int) : Int × Bool := if arrB xs = true ∧ inB most 0 12000 = true then (lc xs most 200 1, true) else (0, false)
theorem waits_zero {cap : Int} {xs : List Int} (h : ∀ x ∈ xs, 0 ≤ x ∧ x ≤ cap) : ∀ y ∈ waits cap 0 xs, y = 0 := by
  induction xs with
  | nil => intro y hy; simp [waits] at hy
  | cons x r ih =>
    intro y hy
    have hx := h x (by simp)
    have e : max 0 (0 + x - cap) = 0 := by omega
    simp only [waits, e, List.mem_cons] at hy
    rcases hy with rfl | hy
    · rfl
    · exact ih (fun z hz => h z (by simp [hz])) y hy
theorem idx_neg {p : Int → Bool} {l : List Int} : ∀ {i : Int}, 0 ≤ i → (decide (0 ≤ idx p l i) = l.any p) := by
  induction l with
  | nil => intro i h; simp [idx]
  | cons x r ih =>
    intro i h
    unfold idx
    cases hp : p x with
    | true => simp [hp]; omega
    | false => simp [hp]; rw [← ih (i := i + 1) (by omega)]
theorem indexFunc_any (A : Option Addr) (n c : Nat) (xs : List Int) (F : FuncId) (caps : Array Value) (p : Int → Bool) (w : World) (hn : n ≤ 1000000000) (h : Reads w 1 A n (ints xs))
    (hF : ∀ a W, Sem.run Try.prog (callFunc F a) W = .ok (.enter F a) W) (hp : ∀ x ∈ xs, Calls Try.prog F (#[.int .i64 x] ++ caps) w fun e w' => e = .returned (.bool (p x)) ∧ w = w') :
    Calls Try.prog 75 #[.slice A n c, .func (.func F) #[] caps] w fun e w' => e = .returned (.int .i64 (idx p xs 0)) ∧ w = w' := by
  have HX := Lib.hid (show xs.length = n by simpa using h.1)
  have HP := Lib.hid hp; clear hp
  go_enter Try.func75, Try.ntmps75
  go_wp2
  go_loop [8] (fun i => ∃ k : Nat, k ≤ n ∧ i = .int .i64 k ∧ idx p (xs.drop k) (k : Int) = idx p xs 0) (fun i => n - (intOf i).toNat)
  case atStart => exact ⟨0, Nat.zero_le _, rfl, rfl⟩
  case round =>
    obtain ⟨k, hk, rfl, hrel⟩ := hrel
    have HR := Lib.hid hrel; clear hrel
    by_cases hlt : k < n
    · obtain ⟨ad, rfl, hc⟩ := h.2 (by omega)
      have hxk : k < xs.length := by rw [HX.out]; exact hlt
      have hcell : w.cell? (ad.add k) = some (.int .i64 xs[k]) := hc k _ (by simp [ints, hxk])
      have HPX := Lib.hid (HP.out xs[k] (List.getElem_mem hxk))
      have HD := Lib.hid (drop_cons hxk)
      clear hc h
      generalize xs[k] = x at hcell HPX HD
      go_wp2_with fail
      refine (HPX.out).mono ?_
      rintro e w' ⟨rfl, rfl⟩
      cases hpx : p x with
      | true =>
        go_wp2
        go_ret
        refine ⟨ret_int ?_, rfl⟩
        rw [← HR.out, HD.out]
        simp [idx, hpx]
      | false =>
        go_wp2
        go_round
        case rel =>
          refine ⟨k + 1, by omega, by go_num, ?_⟩
          rw [← HR.out, HD.out]
          simp [idx, hpx]
        case measure => simp [intOf]; omega
    · have HE := Lib.hid (drop_end (xs := xs) (k := k) (by rw [HX.out]; omega))
      clear h
      go_wp2
      go_ret
      refine ⟨ret_int ?_, rfl⟩
      rw [← HR.out, HE.out]
      rfl
theorem containsFunc_any (A : Option Addr) (n c : Nat) (xs : List Int) (F : FuncId) (caps : Array Value) (p : Int → Bool) (w : World) (hn : n ≤ 1000000000) (h : Reads w 1 A n (ints xs))
    (hF : ∀ a W, Sem.run Try.prog (callFunc F a) W = .ok (.enter F a) W) (hp : ∀ x ∈ xs, Calls Try.prog F (#[.int .i64 x] ++ caps) w fun e w' => e = .returned (.bool (p x)) ∧ w = w') :
    Calls Try.prog 57 #[.slice A n c, .func (.func F) #[] caps] w fun e w' => e = .returned (.bool (xs.any p)) ∧ w = w' := by
  have C1 := Lib.hid (indexFunc_any A n c xs F caps p w hn h hF hp)
  have hi := idx_neg (p := p) (l := xs) (i := 0) (by omega)
  have HI := Lib.hid hi
  clear h hp hi hF
  generalize idx p xs 0 = i at *
  go_enter Try.func57, Try.ntmps57
  go_wp2_with (go_at_call 75; refine (C1.out).mono ?_; rintro e w' ⟨rfl, rfl⟩)
  go_ret
  exact ⟨ret_bool HI.out, rfl⟩
theorem any_waits {xs : List Int} {cap most : Int} (hc : 1 ≤ cap) (h : ∀ x ∈ xs, 0 ≤ x ∧ x ≤ 200) : (waits cap 0 xs).any (fun x => decide (most < x)) = !allB 0 most (waits cap 0 xs) := by
  have hw := waits_bd cap hc xs h 0 0 (by omega) (by omega)
  cases hA : allB 0 most (waits cap 0 xs) with
  | true =>
    simp only [Bool.not_true, List.any_eq_false]
    intro x hx
    have := allB_true.1 hA x hx
    simp; omega
  | false =>
    simp only [Bool.not_false, List.any_eq_true]
    by_cases hex : ∃ x ∈ waits cap 0 xs, most < x
    · obtain ⟨x, hx, hm⟩ := hex
      exact ⟨x, hx, by simpa using hm⟩
    · have : allB 0 most (waits cap 0 xs) = true := allB_true.2 (fun x hx => ⟨(hw x hx).1, by
        exact Int.not_lt.1 (fun hm => hex ⟨x, hx, hm⟩)⟩)
      rw [hA] at this
      cases this
theorem least1_any (x most : Int) (a : Addr) (w : World) (hc : w.cell? a = some (.int .i64 most)) :
    Calls Try.prog 58 #[.int .i64 x, .pointer (some a)] w fun e w' => e = .returned (.bool (decide (most < x))) ∧ w = w' := by
  go_enter Try.func58, Try.ntmps58
  go_wp2
  go_ret
  exact ⟨rfl, rfl⟩
theorem least1_app (x most : Int) (a : Addr) (w : World) (hc : w.cell? a = some (.int .i64 most)) :
    Calls Try.prog 58 (#[.int .i64 x] ++ #[.pointer (some a)]) w fun e w' => e = .returned (.bool (decide (most < x))) ∧ w = w' := by
  have h := least1_any x most a w hc
  have e : (#[.int .i64 x] ++ #[.pointer (some a)] : Array Value) = #[.int .i64 x, .pointer (some a)] := rfl
  rw [e]
  exact h
theorem least1_enters : ∀ a W, Sem.run Try.prog (callFunc 58 a) W = .ok (.enter 58 a) W := fun _ _ => by kernel_rfl

set_option maxHeartbeats 2000000 in
theorem specLeastCapacity_any (A : Option Addr) (n c : Nat) (xs : List Int) (most : Int) (w : World) (hn : n ≤ 1000000000) (h : Reads w 1 A n (ints xs)) :
    Calls Try.prog 21 #[.slice A n c, .int .i64 most] w fun e w' => e = .returned (.tuple #[.int .i64 (leastR xs most).1, .bool (leastR xs most).2]) ∧ Below w.heap.size w w' := by
  have c1 := fun (W : World) (hR : Reads W 1 A n (ints xs)) => trArrivals_any A n c xs W hn hR
  have H := Lib.hid h
  clear h
  
  
  
  cases hg : arrB xs with
  | false =>
    have hr : leastR xs most = (0, false) := by simp [leastR, hg]
    rw [hr]
    simp only [hg] at c1
    have C1 := Lib.hid c1
    clear c1 hr hg
    go_enter Try.func21, Try.ntmps21
    go_wp2_with (go_at_call 47; refine (C1.out _ (H.out)).mono ?_; rintro e w' ⟨rfl, rfl⟩)
    go_ret2
    exact ⟨rfl, Below.refl _ _⟩
  | true =>
    simp only [hg] at c1
    have C1 := Lib.hid c1
    clear c1
    cases hin : inB most 0 12000 with
    | false =>
      have hr : leastR xs most = (0, false) := by simp [leastR, hin]
      rw [hr]
      clear hr hg
      go_enter Try.func21, Try.ntmps21
      go_wp2_with (first | (go_at_call 47; refine (C1.out _ (H.out)).mono ?_; rintro e w' ⟨rfl, rfl⟩) | (go_at_call 48; refine (l1In_any _ _ _ _).mono ?_; rintro e w' ⟨rfl, rfl⟩))
      go_ret2
      exact ⟨rfl, Below.refl _ _⟩
    | true =>
      have hr : leastR xs most = (lc xs most 200 1, true) := by simp [leastR, hin, hg]
      rw [hr]
      obtain ⟨hn60, hx⟩ := arrB_true.1 hg
      have hlx : xs.length = n := by simpa using H.out.1
      have hm := inB_true.1 hin
      have hn60' : n ≤ 60 := by omega
      have HX := Lib.hid hx
      have hL : ∀ f c, lc xs most (f + 1) c = if allB 0 most (waits c 0 xs) then c else lc xs most f (c + 1) := fun f c => rfl
      have HL := Lib.hid hL
      have h200 : allB 0 most (waits 200 0 xs) = true := allB_true.2 (fun x hx' => by have := waits_zero (cap := 200) hx x hx'; omega)
      have H200 := Lib.hid h200
      generalize hT : lc xs most 200 1 = T at *
      have HT := Lib.hid hT
      have HLX := Lib.hid hlx
      clear hr hg hn60 hx hlx hL h200 hT
      go_enter Try.func21, Try.ntmps21
      go_wp2_with (first | (go_at_call 47; refine (C1.out _ (H.out)).mono ?_; rintro e w' ⟨rfl, rfl⟩) | (go_at_call 48; refine (l1In_any _ _ _ _).mono ?_; rintro e w' ⟨rfl, rfl⟩))
      
      have HB0 := Lib.hid (And.intro (Below.refl w.heap.size w) trivial)
      go_loopw [6] (fun s wr => ∃ k f : Nat, 1 ≤ k ∧ k + f = 201 ∧ k ≤ 200 ∧ s = .int .i64 k ∧ lc xs most f (k : Int) = T ∧ Below w.heap.size w wr ∧ True) (fun s _ => 300 - (intOf s).toNat)
      case atStart => exact ⟨1, 200, by omega, by omega, by omega, rfl, HT.out, HB0.out.1, HB0.out.2⟩
      case round =>
        obtain ⟨k, f, hk1, hk2, hk3, rfl, hrel, hb, hcl⟩ := hrel
        clear HB0
        have HBL := Lib.hid (And.intro hb hcl); clear hb hcl
        have c2 := trWaiting_any A n c xs (k : Int) wr (by omega) (H.out.below HBL.out.1) HX.out (by omega) (by omega)
        have hwl : (waits (k : Int) 0 xs).length = n := by simp [HLX.out]
        cases f with
        | zero => omega
        | succ f =>
          rw [HL.out f k] at hrel
          have hany := any_waits (cap := (k : Int)) (most := most) (by omega) HX.out
          have HANY := Lib.hid hany
          have HK := Lib.hid (show k = 200 → allB 0 most (waits (k : Int) 0 xs) = true from fun e => by rw [e]; exact H200.out)
          generalize waits (k : Int) 0 xs = L at *
          have C2 := Lib.hid c2
          clear c2 hany hwl
          cases hA : allB 0 most L with
          | true =>
            rw [hA] at hrel
            have hkT : (k : Int) = T := by simpa using hrel
            have HKT := Lib.hid hkT
            clear hrel hkT
            
            go_wp2_with (go_at_call 56; refine (C2.out).mono ?_; rintro e w1 ⟨A1, c1, rfl, hown, hb⟩; have HO := Lib.hid hown; clear hown; have HB1 := Lib.hid hb; clear hb)
            refine (l1All_any A1 n c1 L 0 most _ (by omega) (Reads.of_own HO.out)).mono ?_
            rintro e w' ⟨rfl, rfl⟩
            go_wp2
            go_ret2
            exact ⟨by rw [← HKT.out]; rfl, HBL.out.1.trans (HB1.out.mono HBL.out.1.size)⟩
          | false =>
            rw [hA] at hrel
            have HR := Lib.hid hrel
            have hkne : k ≠ 200 := by
              intro e
              have := HK.out e
              rw [hA] at this
              cases this
            clear hrel
            
            go_wp2_with (go_at_call 56; refine (C2.out).mono ?_; rintro e w1 ⟨A1, c1, rfl, hown, hb⟩; have HO := Lib.hid hown; clear hown; have HB1 := Lib.hid hb; clear hb)
            refine (l1All_any A1 n c1 L 0 most _ (by omega) (Reads.of_own HO.out)).mono ?_
            rintro e w' ⟨rfl, rfl⟩
            go_wp2
            go_roundw
            case rel => exact ⟨k + 1, f, by omega, by omega, by omega, by go_num, by have := HR.out; simpa using this, HBL.out.1.trans (HB1.out.mono HBL.out.1.size), trivial⟩
            case measure => simp [intOf]; omega

set_option maxHeartbeats 2000000 in
theorem implLeastCapacity_any (A : Option Addr) (n c : Nat) (xs : List Int) (most : Int) (w : World) (hn : n ≤ 1000000000) (h : Reads w 1 A n (ints xs)) :
    Calls Try.prog 22 #[.slice A n c, .int .i64 most] w fun e w' => e = .returned (.tuple #[.int .i64 (leastR xs most).1, .bool (leastR xs most).2]) ∧ Below w.heap.size w w' := by
  have c1 := fun (W : World) (hR : Reads W 1 A n (ints xs)) => trafficAsked_any A n c xs 1 W hn hR
  have H := Lib.hid h
  clear h
  have ht : trafB xs 1 = arrB xs := by simp [trafB, inB]
  simp only [ht] at c1
  clear ht
  cases hg : arrB xs with
  | false =>
    have hr : leastR xs most = (0, false) := by simp [leastR, hg]
    rw [hr]
    simp only [hg] at c1
    have C1 := Lib.hid c1
    clear c1 hr hg
    go_enter Try.func22, Try.ntmps22
    go_wp2_with (go_at_call 50; refine (C1.out _ (H.out.alloc _)).mono ?_; rintro e w' ⟨rfl, rfl⟩)
    go_ret2
    exact ⟨rfl, (Below.refl _ _).alloc (Nat.le_refl _) _⟩
  | true =>
    simp only [hg] at c1
    have C1 := Lib.hid c1
    clear c1
    cases hin : inB most 0 12000 with
    | false =>
      have hr : leastR xs most = (0, false) := by simp [leastR, hin]
      rw [hr]
      clear hr hg
      go_enter Try.func22, Try.ntmps22
      go_wp2_with (first | (go_at_call 50; refine (C1.out _ (H.out.alloc _)).mono ?_; rintro e w' ⟨rfl, rfl⟩) | (go_at_call 51; refine (within_any _ _ _ _).mono ?_; rintro e w' ⟨rfl, rfl⟩))
      go_ret2
      exact ⟨rfl, (Below.refl _ _).alloc (Nat.le_refl _) _⟩
    | true =>
      have hr : leastR xs most = (lc xs most 200 1, true) := by simp [leastR, hin, hg]
      rw [hr]
      obtain ⟨hn60, hx⟩ := arrB_true.1 hg
      have hlx : xs.length = n := by simpa using H.out.1
      have hm := inB_true.1 hin
      have hn60' : n ≤ 60 := by omega
      have HX := Lib.hid hx
      have hL : ∀ f c, lc xs most (f + 1) c = if allB 0 most (waits c 0 xs) then c else lc xs most f (c + 1) := fun f c => rfl
      have HL := Lib.hid hL
      have h200 : allB 0 most (waits 200 0 xs) = true := allB_true.2 (fun x hx' => by have := waits_zero (cap := 200) hx x hx'; omega)
      have H200 := Lib.hid h200
      generalize hT : lc xs most 200 1 = T at *
      have HT := Lib.hid hT
      have HLX := Lib.hid hlx
      clear hr hg hn60 hx hlx hL h200 hT
      go_enter Try.func22, Try.ntmps22
      go_wp2_with (first | (go_at_call 50; refine (C1.out _ (H.out.alloc _)).mono ?_; rintro e w' ⟨rfl, rfl⟩) | (go_at_call 51; refine (within_any _ _ _ _).mono ?_; rintro e w' ⟨rfl, rfl⟩))
      have hcap0 : (w.alloc (.cells #[.int .i64 most] 3)).cell? ⟨w.heap.size, 0, none⟩ = some (.int .i64 most) := by rw [cell_of_row _ _ 0 _ _ (0, 0) (heap_alloc_new w _)]; rfl
      have HB0 := Lib.hid (And.intro ((Below.refl w.heap.size w).alloc (Nat.le_refl _) (.cells #[.int .i64 most] 3)) hcap0); clear hcap0
      go_loopw [6] (fun s wr => ∃ k f : Nat, 1 ≤ k ∧ k + f = 201 ∧ k ≤ 200 ∧ s = .int .i64 k ∧ lc xs most f (k : Int) = T ∧ Below w.heap.size w wr ∧ wr.cell? ⟨w.heap.size, 0, none⟩ = some (.int .i64 most)) (fun s _ => 300 - (intOf s).toNat)
      case atStart => exact ⟨1, 200, by omega, by omega, by omega, rfl, HT.out, HB0.out.1, HB0.out.2⟩
      case round =>
        obtain ⟨k, f, hk1, hk2, hk3, rfl, hrel, hb, hcl⟩ := hrel
        clear HB0
        have HBL := Lib.hid (And.intro hb hcl); clear hb hcl
        have c2 := waitingAfter_any A n c xs (k : Int) wr (by omega) (H.out.below HBL.out.1) HX.out (by omega) (by omega)
        have hwl : (waits (k : Int) 0 xs).length = n := by simp [HLX.out]
        cases f with
        | zero => omega
        | succ f =>
          rw [HL.out f k] at hrel
          have hany := any_waits (cap := (k : Int)) (most := most) (by omega) HX.out
          have HANY := Lib.hid hany
          have HK := Lib.hid (show k = 200 → allB 0 most (waits (k : Int) 0 xs) = true from fun e => by rw [e]; exact H200.out)
          generalize waits (k : Int) 0 xs = L at *
          have C2 := Lib.hid c2
          clear c2 hany hwl
          cases hA : allB 0 most L with
          | true =>
            rw [hA] at hrel
            have hkT : (k : Int) = T := by simpa using hrel
            have HKT := Lib.hid hkT
            clear hrel hkT
            have hAny : L.any (fun x => decide (most < x)) = false := by rw [HANY.out, hA]; rfl
            go_wp2_with (go_at_call 54; refine (C2.out).mono ?_; rintro e w1 ⟨A1, c1, rfl, hown, hb⟩; have HO := Lib.hid hown; clear hown; have HB1 := Lib.hid hb; clear hb)
            refine (containsFunc_any A1 n c1 L 58 #[.pointer (some ⟨w.heap.size, 0, none⟩)] (fun x => decide (most < x)) w1 (by omega) (Reads.of_own HO.out) least1_enters (fun x _ => least1_app x most _ w1 (by rw [HB1.out.cell (World.block_lt_of_cell? _ _ HBL.out.2)]; exact HBL.out.2))).mono ?_
            rintro e w' ⟨rfl, rfl⟩
            go_wp2
            go_ret2
            exact ⟨by rw [← HKT.out]; rfl, HBL.out.1.trans (HB1.out.mono HBL.out.1.size)⟩
          | false =>
            rw [hA] at hrel
            have HR := Lib.hid hrel
            have hkne : k ≠ 200 := by
              intro e
              have := HK.out e
              rw [hA] at this
              cases this
            clear hrel
            have hAny : L.any (fun x => decide (most < x)) = true := by rw [HANY.out, hA]; rfl
            go_wp2_with (go_at_call 54; refine (C2.out).mono ?_; rintro e w1 ⟨A1, c1, rfl, hown, hb⟩; have HO := Lib.hid hown; clear hown; have HB1 := Lib.hid hb; clear hb)
            refine (containsFunc_any A1 n c1 L 58 #[.pointer (some ⟨w.heap.size, 0, none⟩)] (fun x => decide (most < x)) w1 (by omega) (Reads.of_own HO.out) least1_enters (fun x _ => least1_app x most _ w1 (by rw [HB1.out.cell (World.block_lt_of_cell? _ _ HBL.out.2)]; exact HBL.out.2))).mono ?_
            rintro e w' ⟨rfl, rfl⟩
            go_wp2
            go_roundw
            case rel => exact ⟨k + 1, f, by omega, by omega, by omega, by go_num, by have := HR.out; simpa using this, HBL.out.1.trans (HB1.out.mono HBL.out.1.size), by rw [HB1.out.cell (World.block_lt_of_cell? _ _ HBL.out.2)]; exact HBL.out.2⟩
            case measure => simp [intOf]; omega
set_option maxHeartbeats 2000000 in
set_option maxRecDepth 100000 in
theorem law_FnExactLeastCapacity (w : World) {v0 v1 : Value} (h0 : IsInts w v0) (h1 : IsInt v1) :
    Calls Try.prog 5 #[v0, v1] w fun e w' => e = .returned (.bool true) ∧ Below w.heap.size w w' := by
  obtain ⟨A0, n0, c0, xs0, rfl, _, _, hr0, _⟩ := h0
  obtain ⟨a1, rfl, _⟩ := h1
  have HR0 := Lib.hid hr0; clear hr0
  by_cases hn0 : n0 ≤ 1048576
  rotate_left
  · go_enter Try.func5, Try.ntmps5
    go_wp2
    go_ret
    exact ⟨rfl, Below.refl _ _⟩
  go_enter Try.func5, Try.ntmps5
  have BB0 : Hid (Below w.heap.size w w) := Lib.hid (Below.refl _ _)
  go_wp2_with fail
  refine (toIntS_any A0 n0 c0 xs0 w (by omega) (HR0.out.below BB0.out)).mono ?_
  rintro e w1 ⟨As0, cs0, rfl, hown, hb⟩
  have Os0_1 := Lib.hid hown; clear hown
  have Ls0 := Lib.hid (own_lt Os0_1.out)
  have B0 := Lib.hid hb; clear hb
  have Z0 := Lib.hid (B0.out.size)
  have BB1 := Lib.hid (below_then BB0.out B0.out)
  go_wp2_with fail
  refine (specLeastCapacity_any As0 n0 cs0 xs0 a1 w1 (by omega) (Reads.of_own Os0_1.out)).mono ?_
  rintro e w2 ⟨rfl, hb⟩
  have B1 := Lib.hid hb; clear hb
  have Z1 := Lib.hid (B1.out.size)
  have BB2 := Lib.hid (BB1.out.trans (B1.out.mono BB1.out.size))
  have Os0_2 := Lib.hid (own_below Os0_1.out B1.out)
  go_wp2_with fail
  refine (toIntS_any A0 n0 c0 xs0 w2 (by omega) (HR0.out.below BB2.out)).mono ?_
  rintro e w3 ⟨Ax0, cx0, rfl, hown, hb⟩
  have Ox0_3 := Lib.hid hown; clear hown
  have Lx0 := Lib.hid (own_lt Ox0_3.out)
  have B2 := Lib.hid hb; clear hb
  have Z2 := Lib.hid (B2.out.size)
  have BB3 := Lib.hid (BB2.out.trans (B2.out.mono BB2.out.size))
  go_wp2_with fail
  refine (implLeastCapacity_any Ax0 n0 cx0 xs0 a1 w3 (by omega) (Reads.of_own Ox0_3.out)).mono ?_
  rintro e w4 ⟨rfl, hb⟩
  have B3 := Lib.hid hb; clear hb
  have Z3 := Lib.hid (B3.out.size)
  have BB4 := Lib.hid (BB3.out.trans (B3.out.mono BB3.out.size))
  have Ox0_4 := Lib.hid (own_below Ox0_3.out B3.out)
  go_wp2_with fail
  refine (toIntS_any A0 n0 c0 xs0 w4 (by omega) (HR0.out.below BB4.out)).mono ?_
  rintro e w5 ⟨At0, ct0, rfl, hown, hb⟩
  have Ot0_5 := Lib.hid hown; clear hown
  have Lt0 := Lib.hid (own_lt Ot0_5.out)
  have B4 := Lib.hid hb; clear hb
  have Z4 := Lib.hid (B4.out.size)
  have BB5 := Lib.hid (BB4.out.trans (B4.out.mono BB4.out.size))
  have Ox0_5 := Lib.hid (own_below Ox0_4.out B4.out)
  go_wp2_with fail
  refine (eqIntS_any Ax0 At0 n0 cx0 ct0 xs0 w5 (by omega) (Reads.of_own Ox0_5.out) (Reads.of_own Ot0_5.out)).mono ?_
  rintro e w6 ⟨rfl, hb⟩
  replace hb := below_of_quiet (B := w5.heap.size) hb
  have B5 := Lib.hid hb; clear hb
  have Z5 := Lib.hid (B5.out.size)
  have BB6 := Lib.hid (BB5.out.trans (B5.out.mono BB5.out.size))
  have Ox0_6 := Lib.hid (own_below Ox0_5.out B5.out)
  have Ot0_6 := Lib.hid (own_below Ot0_5.out B5.out)
  go_wp2_with fail
  go_ret
  exact ⟨rfl, BB6.out⟩

end Go.Proofs.Ytgdlaeibdpbgdaa
