/- Contracts of the small functions of chapter 24, of both packages. No conditions. -/
import Derived.Test.YtgdlaeibdpbgdaaCom
namespace Go.Proofs.Ytgdlaeibdpbgdaa
set_option linter.unusedSimpArgs false
set_option linter.unusedVariables false
open Go.RowKit

theorem one_ints (l : List Int) : ∀ u ∈ ints l, u.oneCell' = true := by
  intro u hu
  obtain ⟨x, _, rfl⟩ := List.mem_map.1 hu
  rfl
def arrB (xs : List Int) : Bool := decide (xs.length ≤ 60) && allB 0 200 xs
theorem arrB_true {xs : List Int} : arrB xs = true ↔ xs.length ≤ 60 ∧ ∀ x ∈ xs, 0 ≤ x ∧ x ≤ 200 := by simp [arrB, allB_true]
def trafB (xs : List Int) (cap : Int) : Bool := arrB xs && inB cap 1 200
theorem trafB_true {xs : List Int} {cap : Int} : trafB xs cap = true ↔ (xs.length ≤ 60 ∧ ∀ x ∈ xs, 0 ≤ x ∧ x ≤ 200) ∧ 1 ≤ cap ∧ cap ≤ 200 := by simp [trafB, arrB_true, inB_true]
def sumL : List Int → Int
  | [] => 0
  | x :: r => x + sumL r
theorem sumL_bd (l : List Int) (lo hi : Int) (h : ∀ x ∈ l, lo ≤ x ∧ x ≤ hi) : lo * (l.length : Int) ≤ sumL l ∧ sumL l ≤ hi * (l.length : Int) := by
  induction l with
  | nil => simp [sumL]
  | cons x r ih =>
    have h1 := h x (by simp)
    have h2 := ih (fun y hy => h y (by simp [hy]))
    simp only [sumL, List.length_cons, Int.natCast_add, Int.mul_add]
    omega
theorem sumL_append (a b : List Int) : sumL (a ++ b) = sumL a + sumL b := by
  induction a with
  | nil => simp [sumL]
  | cons x r ih => simp [sumL, ih]; omega
/-- How many wait after each hour. -/
def waits (cap : Int) : Int → List Int → List Int
  | _, [] => []
  | q, x :: r => max 0 (q + x - cap) :: waits cap (max 0 (q + x - cap)) r
@[simp] theorem length_waits (cap q : Int) (xs : List Int) : (waits cap q xs).length = xs.length := by
  induction xs generalizing q with
  | nil => rfl
  | cons x r ih => simp [waits, ih]
theorem waits_bd (cap : Int) (hc : 1 ≤ cap) (xs : List Int) (h : ∀ x ∈ xs, 0 ≤ x ∧ x ≤ 200) : ∀ (q b : Int), 0 ≤ q → q ≤ b → ∀ y ∈ waits cap q xs, 0 ≤ y ∧ y ≤ b + 200 * (xs.length : Int) := by
  induction xs with
  | nil => intro q b _ _ y hy; simp [waits] at hy
  | cons x r ih =>
    intro q b h0 hb y hy
    have hx := h x (by simp)
    simp only [waits, List.mem_cons] at hy
    simp only [List.length_cons, Int.natCast_add]
    rcases hy with rfl | hy
    · omega
    · have := ih (fun y hy => h y (by simp [hy])) (max 0 (q + x - cap)) (b + 200) (by omega) (by omega) y hy
      omega

theorem l1Most_any (a b : Int) (w : World) : Calls Try.prog 62 #[.int .i64 a, .int .i64 b] w fun e w' => e = .returned (.int .i64 (max a b)) ∧ w = w' := by
  by_cases h : b < a
  · go_enter Try.func62, Try.ntmps62
    go_wp2
    go_ret
    exact ⟨ret_int (by omega), rfl⟩
  · go_enter Try.func62, Try.ntmps62
    go_wp2
    go_ret
    exact ⟨ret_int (by omega), rfl⟩
theorem l1Least_any (a b : Int) (w : World) : Calls Try.prog 59 #[.int .i64 a, .int .i64 b] w fun e w' => e = .returned (.int .i64 (min a b)) ∧ w = w' := by
  by_cases h : a < b
  · go_enter Try.func59, Try.ntmps59
    go_wp2
    go_ret
    exact ⟨ret_int (by omega), rfl⟩
  · go_enter Try.func59, Try.ntmps59
    go_wp2
    go_ret
    exact ⟨ret_int (by omega), rfl⟩

theorem trArrivals_any (A : Option Addr) (n c : Nat) (xs : List Int) (w : World) (hn : n ≤ 1000000000) (h : Reads w 1 A n (ints xs)) :
    Calls Try.prog 47 #[.slice A n c] w fun e w' => e = .returned (.bool (arrB xs)) ∧ w = w' := by
  have hlx : xs.length = n := by simpa using h.1
  have hg : arrB xs = (decide (n ≤ 60) && allB 0 200 xs) := by unfold arrB; rw [hlx]
  rw [hg]
  have C1 := Lib.hid (l1All_any A n c xs 0 200 w (by omega) h)
  clear hlx hg h
  by_cases h2 : n ≤ 60
  · go_enter Try.func47, Try.ntmps47
    go_wp2_with (go_at_call 55; refine (C1.out).mono ?_; rintro e w' ⟨rfl, rfl⟩)
    go_ret
    exact ⟨ret_bool (by simp [h2]), rfl⟩
  · go_enter Try.func47, Try.ntmps47
    go_wp2
    go_ret
    exact ⟨ret_bool (by simp [h2]), rfl⟩
theorem trGood_any (A : Option Addr) (n c : Nat) (xs : List Int) (cap : Int) (w : World) (hn : n ≤ 1000000000) (h : Reads w 1 A n (ints xs)) :
    Calls Try.prog 52 #[.slice A n c, .int .i64 cap] w fun e w' => e = .returned (.bool (trafB xs cap)) ∧ w = w' := by
  have c1 := trArrivals_any A n c xs w hn h
  unfold trafB
  clear h
  cases hA : arrB xs <;> rw [hA] at c1
  all_goals
    have C1 := Lib.hid c1
    clear c1
    go_enter Try.func52, Try.ntmps52
    go_wp2_with (first | (go_at_call 47; refine (C1.out).mono ?_; rintro e w' ⟨rfl, rfl⟩) | (go_at_call 48; refine (l1In_any _ _ _ _).mono ?_; rintro e w' ⟨rfl, rfl⟩))
    go_ret
    exact ⟨ret_bool (by simp), rfl⟩
theorem trafficAsked_any (A : Option Addr) (n c : Nat) (xs : List Int) (cap : Int) (w : World) (hn : n ≤ 1000000000) (h : Reads w 1 A n (ints xs)) :
    Calls Try.prog 50 #[.slice A n c, .int .i64 cap] w fun e w' => e = .returned (.bool (trafB xs cap)) ∧ w = w' := by
  have hlx : xs.length = n := by simpa using h.1
  have hg : trafB xs cap = ((decide (n ≤ 60) && allB 0 200 xs) && inB cap 1 200) := by unfold trafB arrB; rw [hlx]
  rw [hg]
  have c1 := allWithin_any A n c xs 0 200 w (by omega) h
  clear hlx hg h
  by_cases h2 : n ≤ 60
  · cases hA : allB 0 200 xs <;> rw [hA] at c1
    all_goals
      have C1 := Lib.hid c1
      clear c1
      go_enter Try.func50, Try.ntmps50
      go_wp2_with (first | (go_at_call 68; refine (C1.out).mono ?_; rintro e w' ⟨rfl, rfl⟩) | (go_at_call 51; refine (within_any _ _ _ _).mono ?_; rintro e w' ⟨rfl, rfl⟩))
      go_ret
      exact ⟨ret_bool (by simp [h2]), rfl⟩
  · clear c1
    go_enter Try.func50, Try.ntmps50
    go_wp2
    go_ret
    exact ⟨ret_bool (by simp [h2]), rfl⟩
theorem trSum_any (A : Option Addr) (n c : Nat) (xs : List Int) (w : World) (hn : n ≤ 1000000) (h : Reads w 1 A n (ints xs)) (hx : ∀ x ∈ xs, -1000000 ≤ x ∧ x ≤ 1000000) :
    Calls Try.prog 49 #[.slice A n c] w fun e w' => e = .returned (.int .i64 (sumL xs)) ∧ w = w' := by
  have HX := Lib.hid (show xs.length = n by simpa using h.1)
  have HB := Lib.hid hx; clear hx
  go_enter Try.func49, Try.ntmps49
  go_wp2
  go_loop [3, 8] (fun s i => ∃ k : Nat, ∃ q : Int, k ≤ n ∧ i = .int .i64 k ∧ s = .int .i64 q ∧ -1000000 * (k : Int) ≤ q ∧ q ≤ 1000000 * (k : Int) ∧ q + sumL (xs.drop k) = sumL xs) (fun _ i => n - (intOf i).toNat)
  case atStart => exact ⟨0, 0, Nat.zero_le _, rfl, rfl, by omega, by omega, by simp⟩
  case round =>
    obtain ⟨k, q, hk, rfl, rfl, hq1, hq2, hrel⟩ := hrel
    have HR := Lib.hid hrel; clear hrel
    by_cases hlt : k < n
    · obtain ⟨ad, rfl, hc⟩ := h.2 (by omega)
      have hxk : k < xs.length := by rw [HX.out]; exact hlt
      have hcell : w.cell? (ad.add k) = some (.int .i64 xs[k]) := hc k _ (by simp [ints, hxk])
      have hb := HB.out xs[k] (List.getElem_mem hxk)
      have HD := Lib.hid (drop_cons hxk)
      clear hc h
      generalize xs[k] = x at hcell hb HD
      go_wp2
      go_round
      case rel => exact ⟨k + 1, _, by omega, by go_num, rfl, by omega, by omega, by rw [← HR.out, HD.out]; simp only [sumL]; omega⟩
      case measure => simp [intOf]; omega
    · have HE := Lib.hid (drop_end (xs := xs) (k := k) (by rw [HX.out]; omega))
      clear h
      go_wp2
      go_ret
      refine ⟨ret_int ?_, rfl⟩
      rw [← HR.out, HE.out]
      simp [sumL]

set_option maxHeartbeats 1000000 in
theorem trWaiting_any (A : Option Addr) (n c : Nat) (xs : List Int) (cap : Int) (w : World) (hn : n ≤ 1000) (h : Reads w 1 A n (ints xs)) (hx : ∀ x ∈ xs, 0 ≤ x ∧ x ≤ 200) (hc1 : 1 ≤ cap) (hc2 : cap ≤ 100000) :
    Calls Try.prog 56 #[.slice A n c, .int .i64 cap] w (Made w 3 1 n (ints (waits cap 0 xs))) := by
  have HX := Lib.hid (show xs.length = n by simpa using h.1)
  have HB := Lib.hid hx; clear hx
  have H := Lib.hid h; clear h
  go_enter Try.func56, Try.ntmps56
  go_wp2
  go_loopw [5, 6, 11] (fun v s i wr => ∃ k : Nat, ∃ q : Int, ∃ A1 c1, k ≤ n ∧ i = .int .i64 k ∧ s = .int .i64 q ∧ 0 ≤ q ∧ q ≤ 200 * (k : Int) ∧ v = .slice A1 k c1 ∧ (waits cap 0 xs).drop k = waits cap q (xs.drop k) ∧ wr.ownsRow w.heap.size 3 1 (.slice A1 k c1) k (ints ((waits cap 0 xs).take k)) ∧ Below w.heap.size w wr) (fun _ _ i _ => n - (intOf i).toNat)
  case atStart => exact ⟨0, 0, none, 0, Nat.zero_le _, rfl, rfl, by omega, by omega, rfl, by simp, own_start, Below.refl _ _⟩
  case round =>
    obtain ⟨k, q, A1, c1, hk, rfl, rfl, hq1, hq2, rfl, hrel, hown, hb⟩ := hrel
    have hz := hb.size
    have HBL := Lib.hid hb; clear hb
    by_cases hlt : k < n
    · obtain ⟨ad, rfl, hc⟩ := (H.out.below HBL.out).2 (by omega)
      have hxk : k < xs.length := by rw [HX.out]; exact hlt
      have hcell : wr.cell? (ad.add k) = some (.int .i64 xs[k]) := hc k _ (by simp [ints, hxk])
      have hbx := HB.out xs[k] (List.getElem_mem hxk)
      rw [drop_cons hxk] at hrel
      have HH := Lib.hid (drop_head hrel)
      clear hc hrel
      generalize xs[k] = x at *
      go_wp2_with (first | (go_at_call 62; refine (l1Most_any _ _ _).mono ?_; rintro e w' ⟨rfl, rfl⟩) | (at_builtin; refine wpList_push _ rfl (.tmp 21) (.tmp 23) 22 rfl w.heap.size 3 (.int .i64 0) 1 8 infoInt rfl (by omega) Try.underlying22 A1 k c1 (ints ((waits cap 0 xs).take k)) rfl (hown.alloc _) (some ⟨wr.heap.size, 0, none⟩) 1 1 [.int .i64 (max 0 (q + x - cap))] rfl (reads_new _ _ _) (by simp [Value.oneCell']) (by omega) (by omega) (by simp; omega) ?_; intro A' c' w1 hown1 hg1 hb1))
      go_roundw
      case rel =>
        refine ⟨k + 1, _, A', c', by omega, by go_num, rfl, by omega, by omega, rfl, HH.out.2.1, ?_, HBL.out.trans (((Below.refl _ _).alloc hz _).trans hb1)⟩
        rw [HH.out.2.2.1]
        simpa [ints] using hown1
      case measure => simp [intOf]; try omega
    · obtain rfl : k = n := by omega
      have e : (waits cap 0 xs).take k = waits cap 0 xs := List.take_of_length_le (by simp [HX.out])
      rw [e] at hown
      go_wp2
      go_ret
      exact ⟨A1, c1, rfl, hown, HBL.out⟩
set_option maxHeartbeats 1000000 in
theorem waitingAfter_any (A : Option Addr) (n c : Nat) (xs : List Int) (cap : Int) (w : World) (hn : n ≤ 1000) (h : Reads w 1 A n (ints xs)) (hx : ∀ x ∈ xs, 0 ≤ x ∧ x ≤ 200) (hc1 : 1 ≤ cap) (hc2 : cap ≤ 100000) :
    Calls Try.prog 54 #[.slice A n c, .int .i64 cap] w (Made w 3 1 n (ints (waits cap 0 xs))) := by
  have HX := Lib.hid (show xs.length = n by simpa using h.1)
  have HB := Lib.hid hx; clear hx
  have H := Lib.hid h; clear h
  have hwl : (ints (waits cap 0 xs)).length = n := by simp [HX.out]
  have HWL := Lib.hid hwl; clear hwl
  go_enter Try.func54, Try.ntmps54
  go_wp2_with (at_make; refine wpList_mk _ rfl (.tmp 10) (.tmp 10) 22 rfl w.heap.size 3 (.int .i64 0) _ infoInt rfl Try.underlying22 _ _ _ _ n rfl rfl rfl rfl (by omega) (by omega) (by first | exact Nat.le_refl _ | omega | (simp; omega)) ?_; intro w1 hown1 hb1 hz1)
  rw [← mid_start (l := ints (waits cap 0 xs))] at hown1
  have HS0 := Lib.hid (And.intro hown1 hb1)
  clear hown1 hb1 hz1
  generalize hg : w.heap.size = g at *
  go_loopw [6, 14] (fun s i wr => ∃ k : Nat, ∃ q : Int, k ≤ n ∧ i = .int .i64 k ∧ s = .int .i64 q ∧ 0 ≤ q ∧ q ≤ 200 * (k : Int) ∧ (waits cap 0 xs).drop k = waits cap q (xs.drop k) ∧ wr.ownsRow g 3 1 (.slice (some ⟨g, 0, none⟩) n n) n ((ints (waits cap 0 xs)).take k ++ List.replicate (n - k) (.int .i64 0)) ∧ Below g w wr) (fun _ i _ => n - (intOf i).toNat)
  case atStart => exact ⟨0, 0, Nat.zero_le _, rfl, rfl, by omega, by omega, by simp, HS0.out.1, HS0.out.2⟩
  case round =>
    obtain ⟨k, q, hk, rfl, rfl, hq1, hq2, hrel, hown, hb⟩ := hrel
    have HBL := Lib.hid hb; clear hb
    clear HS0
    by_cases hlt : k < n
    · obtain ⟨ad, rfl, hc⟩ := (H.out.keep (w' := wr) (fun p hp => HBL.out.cell (by omega))).2 (by omega)
      have hxk : k < xs.length := by rw [HX.out]; exact hlt
      have hcell : wr.cell? (ad.add k) = some (.int .i64 xs[k]) := hc k _ (by simp [ints, hxk])
      have hbx := HB.out xs[k] (List.getElem_mem hxk)
      rw [drop_cons hxk] at hrel
      have HH := Lib.hid (drop_head hrel)
      clear hc hrel
      generalize xs[k] = x at *
      have hold : wr.cell? ⟨g, k, none⟩ = some (.int .i64 0) := by
        rw [hown.cellAt k (by omega)]
        exact mid_get HWL.out hlt
      have hfz : wr.frozen? ⟨g, k, none⟩ = false := hown.frozenAt k
      have hs := (hown.stored k (.int .i64 (max 0 (q + x - cap)))).1
      rw [mid_set HWL.out hlt (by rw [ints, List.getElem?_map, HH.out.1]; rfl)] at hs
      have HS := Lib.hid hs
      have HB2 := Lib.hid (HBL.out.setCell (p := ⟨g, k, none⟩) (Nat.le_refl _) (.int .i64 (max 0 (q + x - cap))))
      clear hs hown
      rcases (show (cap < q + x ∧ max 0 (q + x - cap) = q + x - cap) ∨ (¬ cap < q + x ∧ max 0 (q + x - cap) = 0) by omega) with ⟨hmx, e⟩ | ⟨hmx, e⟩
      all_goals
        rw [e] at HH HS HB2
        clear e
        go_wp2
        go_roundw
        case rel => exact ⟨k + 1, _, by omega, by go_num, rfl, by omega, by omega, HH.out.2.1, HS.out, HB2.out⟩
        case measure => simp [intOf]; omega
    · obtain rfl : k = n := by omega
      rw [mid_end HWL.out] at hown
      have HO := Lib.hid hown
      clear hown
      go_wp2
      go_ret
      subst hg
      exact ⟨_, _, rfl, HO.out, HBL.out⟩

end Go.Proofs.Ytgdlaeibdpbgdaa
