/- When is a net one: contracts of the program's test. No conditions. -/
import Derived.Test.YthpfgmnhpnfopaaNet
import Derived.Test.YthpfgmnhpnfopaaTail
namespace Go.Proofs.Ythpfgmnhpnfopaa
set_option linter.unusedSimpArgs false
set_option linter.unusedVariables false
open Go.RowKit

def sgnI (a b : Int) : Int := if a < b then -1 else if b < a then 1 else 0
def cmpK (a b : S3) : Int := if sgnI a.1 b.1 ≠ 0 then sgnI a.1 b.1 else sgnI a.2.1 b.2.1
theorem cmpK_neg (a b : S3) : decide (0 ≤ cmpK a b) = !befK a b := by
  unfold cmpK befK sgnI
  by_cases h1 : a.1 < b.1
  · simp [h1]
  · by_cases h2 : b.1 < a.1
    · have : a.1 ≠ b.1 := by omega
      simp [h1, h2, this]
    · have : a.1 = b.1 := by omega
      by_cases h3 : a.2.1 < b.2.1
      · simp [this, h3]
      · by_cases h4 : b.2.1 < a.2.1 <;> simp [this, h3, h4]
theorem okK_eq (nT : Int) (pv : Option S3) (x : S3) (hn : nT ≤ 1000000000) : okK nT pv x = (decide (0 ≤ x.1) && (decide (x.1 < x.2.1) && (decide (x.2.1 < nT) && (inB x.2.2 1 60 && (match pv with | none => true | some y => befK y x))))) := by
  obtain ⟨a, b, c⟩ := x
  unfold okK
  simp only
  by_cases hb : 0 ≤ b ∧ b < nT
  · have e : wrap64 (b - 1) = b - 1 := IntWalk.wrap64_in _ ⟨by omega, by omega⟩
    rw [e]
    generalize (inB c 1 60 && (match pv with | none => true | some y => befK y (a, b, c))) = z
    have e1 : inB b 0 (nT - 1) = true := inB_true.2 ⟨hb.1, by omega⟩
    rw [e1]
    by_cases h1 : 0 ≤ a ∧ a < b
    · have e2 : inB a 0 (b - 1) = true := inB_true.2 ⟨h1.1, by omega⟩
      simp [e2, h1.1, h1.2, hb.2]
    · have e2 : inB a 0 (b - 1) = false := by rw [← Bool.not_eq_true, inB_true]; omega
      rw [e2]
      by_cases h2 : 0 ≤ a
      · have h3 : ¬ a < b := fun h => h1 ⟨h2, h⟩
        simp [h3]
      · simp [h2]
  · have e1 : inB b 0 (nT - 1) = false := by rw [← Bool.not_eq_true, inB_true]; omega
    rw [e1]
    simp only [Bool.false_and, Bool.and_false]
    by_cases h1 : 0 ≤ a
    · by_cases h2 : a < b
      · have h3 : ¬ b < nT := fun h => hb ⟨by omega, h⟩
        simp [h3]
      · simp [h2]
    · simp [h1]
theorem isNaN_any (a : Int) (w : World) :
    Calls Try.prog 127 #[.int .i64 a] w fun e w' => e = .returned (.bool false) ∧ w = w' := by
  go_enter Try.func127, Try.ntmps127
  go_wp2
  go_ret
  exact ⟨ret_bool (by simp), rfl⟩
theorem cmpCompare_any (a b : Int) (w : World) :
    Calls Try.prog 126 #[.int .i64 a, .int .i64 b] w fun e w' => e = .returned (.int .i64 (sgnI a b)) ∧ w = w' := by
  by_cases h1 : a < b
  · have hs : sgnI a b = -1 := by simp [sgnI, h1]
    rw [hs]
    go_enter Try.func126, Try.ntmps126
    go_wp2_with (go_at_call 127; refine (isNaN_any _ _).mono ?_; rintro e w' ⟨rfl, rfl⟩)
    go_ret
    exact ⟨rfl, rfl⟩
  · by_cases h2 : b < a
    · have hs : sgnI a b = 1 := by simp [sgnI, h1, h2]
      rw [hs]
      go_enter Try.func126, Try.ntmps126
      go_wp2_with (go_at_call 127; refine (isNaN_any _ _).mono ?_; rintro e w' ⟨rfl, rfl⟩)
      go_ret
      exact ⟨rfl, rfl⟩
    · have hs : sgnI a b = 0 := by simp [sgnI, h1, h2]
      rw [hs]
      go_enter Try.func126, Try.ntmps126
      go_wp2_with (go_at_call 127; refine (isNaN_any _ _).mono ?_; rintro e w' ⟨rfl, rfl⟩)
      go_ret
      exact ⟨rfl, rfl⟩
def orI : List Int → Int
  | [] => 0
  | x :: r => if x ≠ 0 then x else orI r
theorem cmpOr_any (A : Option Addr) (n c : Nat) (xs : List Int) (w : World) (hn : n ≤ 1000000000) (h : Reads w 1 A n (ints xs)) :
    Calls Try.prog 125 #[.slice A n c] w fun e w' => e = .returned (.int .i64 (orI xs)) ∧ w = w' := by
  have HX := Lib.hid (show xs.length = n by simpa using h.1)
  go_enter Try.func125, Try.ntmps125
  go_wp2
  go_loop [8] (fun i => ∃ k : Nat, k ≤ n ∧ i = .int .i64 k ∧ orI (xs.drop k) = orI xs) (fun i => n - (intOf i).toNat)
  case atStart => exact ⟨0, Nat.zero_le _, rfl, rfl⟩
  case round =>
    obtain ⟨k, hk, rfl, hrel⟩ := hrel
    have HR := Lib.hid hrel; clear hrel
    by_cases hlt : k < n
    · obtain ⟨ad, rfl, hc⟩ := h.2 (by omega)
      have hxk : k < xs.length := by rw [HX.out]; exact hlt
      have hcell : w.cell? (ad.add k) = some (.int .i64 xs[k]) := hc k _ (by simp [ints, hxk])
      have HD := Lib.hid (drop_cons hxk)
      clear hc h
      generalize xs[k] = x at *
      by_cases h0 : x = 0
      · subst h0
        go_wp2
        go_round
        case rel => exact ⟨k + 1, by omega, by go_num, by rw [← HR.out, HD.out]; simp [orI]⟩
        case measure => simp [intOf]; omega
      · have h0' : (x == 0) = false := by rw [beq_eq_false_iff_ne]; exact h0
        go_wp2
        go_ret
        exact ⟨ret_int (by rw [← HR.out, HD.out]; simp [orI, h0]), rfl⟩
    · have HE := Lib.hid (drop_end (xs := xs) (k := k) (by rw [HX.out]; omega))
      clear h
      go_wp2
      go_ret
      exact ⟨ret_int (by rw [← HR.out, HE.out]; rfl), rfl⟩
set_option maxRecDepth 100000 in
theorem compareLinks_any (a b c x y z : Int) (w : World) :
    Calls Try.prog 118 #[.agg #[.int .i64 a, .int .i64 b, .int .i64 c], .agg #[.int .i64 x, .int .i64 y, .int .i64 z]] w fun e w' => e = .returned (.int .i64 (cmpK (a, b, c) (x, y, z))) ∧ Below w.heap.size w w' := by
  have hcmp : cmpK (a, b, c) (x, y, z) = orI [sgnI a x, sgnI b y] := by simp only [cmpK, orI]; split <;> rename_i h1 <;> simp at h1 <;> simp [h1]
  have hor : ∀ W : World, Calls Try.prog 125 #[.slice (some ⟨W.heap.size, 0, none⟩) 2 2] (W.alloc (.cells #[.int .i64 (sgnI a x), .int .i64 (sgnI b y)] 3)) fun e w' => e = .returned (.int .i64 (cmpK (a, b, c) (x, y, z))) ∧ (W.alloc (.cells #[.int .i64 (sgnI a x), .int .i64 (sgnI b y)] 3)) = w' := by
    intro W
    rw [hcmp]
    exact cmpOr_any _ 2 2 [sgnI a x, sgnI b y] _ (by omega) (reads_lit W (ints [sgnI a x, sgnI b y]) _)
  have HOR := Lib.hid hor
  clear hor hcmp
  go_enter Try.func118, Try.ntmps118
  go_wp2
  refine region_tail 10 (by kernel_rfl) (by kernel_rfl) ?_
  simp only [List.take_succ_cons, List.take_zero, List.drop_succ_cons, List.drop_zero]
  repeat (refine wpStill_step (fun K hK => ?_)
          go_simp
          first
            | (refine hK _ ?_; clear hK K)
            | (apply Exists.intro
               refine ⟨?_, hK _ ?_⟩
               (exact still_of (cmpCompare_any _ _ _))
               clear hK K))
  refine wpStill_nil ?_
  have hB : Below w.heap.size w (((w.alloc (.cells #[.int .i64 a, .int .i64 b, .int .i64 c] 123)).alloc (.cells #[.int .i64 x, .int .i64 y, .int .i64 z] 123)).drew) := (((Below.refl _ _).alloc (Nat.le_refl _) _).alloc (by simp) _).drew
  generalize ((w.alloc (.cells #[.int .i64 a, .int .i64 b, .int .i64 c] 123)).alloc (.cells #[.int .i64 x, .int .i64 y, .int .i64 z] 123)).drew = W0 at hB ⊢
  go_wp2_with (go_at_call 125; refine (HOR.out W0).mono ?_; rintro e w' ⟨rfl, rfl⟩)
  go_ret
  exact ⟨rfl, hB.alloc hB.size _⟩

set_option maxHeartbeats 8000000 in
set_option maxRecDepth 100000 in
theorem isNet_any (At Ak : Option Addr) (nT cT nK cK : Nat) (T K : List S3) (w : World) (hT : nT ≤ 1000000000) (hK : nK ≤ 1000000000) (ht : Reads w 3 At nT (rows3 T)) (hk : Reads w 3 Ak nK (rows3 K)) :
    Calls Try.prog 98 #[.agg #[.slice At nT cT, .slice Ak nK cK]] w fun e w' => e = .returned (.bool (netB T K)) ∧ Below w.heap.size w w' := by
  have HXT := Lib.hid (show T.length = nT by have := ht.1; rw [length_rows3] at this; omega)
  have HXK := Lib.hid (show K.length = nK by have := hk.1; rw [length_rows3] at this; omega)
  have HT0 := Lib.hid (ht.alloc (.cells #[.slice At nT cT, .slice Ak nK cK] 68)); have HK0 := Lib.hid (hk.alloc (.cells #[.slice At nT cT, .slice Ak nK cK] 68))
  have hnb : netB T K = (allTow T && (goK (nT : Int) none K && (inB (nT : Int) 1 16 && decide (nK ≤ 40)))) := by unfold netB; rw [HXT.out, HXK.out]
  have HNB := Lib.hid hnb
  have b0 : (w.alloc (.cells #[.slice At nT cT, .slice Ak nK cK] 68)).cell? ⟨w.heap.size, 0, none⟩ = some (.slice At nT cT) := by simp
  have b1 : (w.alloc (.cells #[.slice At nT cT, .slice Ak nK cK] 68)).cell? ⟨w.heap.size, 1, none⟩ = some (.slice Ak nK cK) := by simp
  have HBB0 := Lib.hid b0; have HBB1 := Lib.hid b1
  have HZ : Hid (∀ W, Below (w.alloc (.cells #[.slice At nT cT, .slice Ak nK cK] 68)).heap.size (w.alloc (.cells #[.slice At nT cT, .slice Ak nK cK] 68)) W → Below w.heap.size w W) := Lib.hid (fun W hW => ((Below.refl _ _).alloc (Nat.le_refl _) _).trans (hW.mono (by simp)))
  clear ht hk hnb
  rw [HNB.out]
  cases h1 : inB (nT : Int) 1 16 with
  | false =>
    go_enter Try.func98, Try.ntmps98
    go_wp2_with (go_at_call 72; refine (within_any _ _ _ _).mono ?_; rintro e w' ⟨rfl, rfl⟩)
    go_ret
    exact ⟨ret_bool (by simp), HZ.out _ (Below.refl _ _)⟩
  | true =>
  by_cases h40 : nK ≤ 40
  rotate_left
  · go_enter Try.func98, Try.ntmps98
    go_wp2_with (go_at_call 72; refine (within_any _ _ _ _).mono ?_; rintro e w' ⟨rfl, rfl⟩)
    go_ret
    exact ⟨ret_bool (by simp; try omega), HZ.out _ (Below.refl _ _)⟩
  go_enter Try.func98, Try.ntmps98
  go_wp2_with (go_at_call 72; refine (within_any _ _ _ _).mono ?_; rintro e w' ⟨rfl, rfl⟩)
  clear h1
  go_loopw [21] (fun i wr => ∃ k : Nat, k ≤ nT ∧ i = .int .i64 k ∧ allTow (T.drop k) = allTow T ∧ Below (w.alloc (.cells #[.slice At nT cT, .slice Ak nK cK] 68)).heap.size (w.alloc (.cells #[.slice At nT cT, .slice Ak nK cK] 68)) wr) (fun i _ => nT - (intOf i).toNat)
  case atStart => exact ⟨0, Nat.zero_le _, rfl, rfl, Below.refl _ _⟩
  case round =>
    obtain ⟨k, hk, rfl, hrel, hb⟩ := hrel
    have HR := Lib.hid hrel; clear hrel
    have HB := Lib.hid hb; clear hb
    clear b0 b1
    by_cases hlt : k < nT
    · have hx : k < T.length := by rw [HXT.out]; exact hlt
      obtain ⟨ad, rfl, k0, k1, k2⟩ := rows3_at (HT0.out.below HB.out) hlt HXT.out
      have HD := Lib.hid (drop_cons hx)
      generalize T[k] = x at *
      obtain ⟨xa, xb, xc⟩ := x
      simp only at k0 k1 k2
      cases h1 : inB xa 0 999 with
      | false =>
        have HF : Hid (allTow T = false) := Lib.hid (by rw [← HR.out, HD.out]; simp [allTow, towB, h1])
        go_wp2_with (go_at_call 72; refine (within_any _ _ _ _).mono ?_; rintro e w' ⟨rfl, rfl⟩)
        go_ret
        exact ⟨ret_bool (by rw [HF.out]; rfl), HZ.out _ (HB.out.alloc HB.out.size _)⟩
      | true =>
        cases h2 : inB xb 0 999 with
        | false =>
          have HF : Hid (allTow T = false) := Lib.hid (by rw [← HR.out, HD.out]; simp [allTow, towB, h1, h2])
          go_wp2_with (go_at_call 72; refine (within_any _ _ _ _).mono ?_; rintro e w' ⟨rfl, rfl⟩)
          go_ret
          exact ⟨ret_bool (by rw [HF.out]; rfl), HZ.out _ (HB.out.alloc HB.out.size _)⟩
        | true =>
          cases h3 : inB xc 0 500 with
          | false =>
            have HF : Hid (allTow T = false) := Lib.hid (by rw [← HR.out, HD.out]; simp [allTow, towB, h1, h2, h3])
            go_wp2_with (go_at_call 72; refine (within_any _ _ _ _).mono ?_; rintro e w' ⟨rfl, rfl⟩)
            go_ret
            exact ⟨ret_bool (by rw [HF.out]; rfl), HZ.out _ (HB.out.alloc HB.out.size _)⟩
          | true =>
            have HT : Hid (allTow (T.drop (k + 1)) = allTow T) := Lib.hid (by rw [← HR.out, HD.out]; simp [allTow, towB, h1, h2, h3])
            go_wp2_with (go_at_call 72; refine (within_any _ _ _ _).mono ?_; rintro e w' ⟨rfl, rfl⟩)
            go_roundw
            case rel => exact ⟨k + 1, by omega, by go_num, HT.out, HB.out.alloc HB.out.size _⟩
            case measure => simp [intOf]; omega
    · have HE : Hid (allTow T = true) := Lib.hid (by rw [← HR.out, drop_end (xs := T) (k := k) (by rw [HXT.out]; omega)]; rfl)
      have b1 : wr.cell? ⟨w.heap.size, 1, none⟩ = some (.slice Ak nK cK) := (HB.out.cell (by simp)).trans HBB1.out
      have HBT := HB
      have HET := HE
      clear HR HE
      obtain ⟨wt, rfl⟩ : ∃ wt, wt = wr := ⟨_, rfl⟩
      go_wp2
      go_loopw [45] (fun i wr => ∃ k : Nat, k ≤ nK ∧ i = .int .i64 k ∧ goK (nT : Int) (prevK K k) (K.drop k) = goK (nT : Int) none K ∧ Below (w.alloc (.cells #[.slice At nT cT, .slice Ak nK cK] 68)).heap.size (w.alloc (.cells #[.slice At nT cT, .slice Ak nK cK] 68)) wr) (fun i _ => nK - (intOf i).toNat)
      case atStart => exact ⟨0, Nat.zero_le _, rfl, rfl, HBT.out⟩
      case round =>
        obtain ⟨k, hk, rfl, hrel, hb⟩ := hrel
        have HR := Lib.hid hrel; clear hrel
        have HB := Lib.hid hb; clear hb
        clear b1
        obtain ⟨wo, rfl⟩ : ∃ wo, wo = wr := ⟨_, rfl⟩
        by_cases hlt : k < nK
        · have hx : k < K.length := by rw [HXK.out]; exact hlt
          have HD := Lib.hid (drop_cons hx)
          have HP := Lib.hid (prevK_succ hx)
          by_cases hk0 : k = 0
          · subst hk0
            obtain ⟨ad, rfl, k0, k1, k2⟩ := rows3_at (HK0.out.below HB.out) hlt HXK.out
            rw [show ad.add (0 * 3) = ad from by simp [Addr.add]] at k0 k1 k2
            rw [show prevK K 0 = none from rfl] at HR
            generalize K[0] = x at *
            obtain ⟨xa, xb, xc⟩ := x
            simp only at k0 k1 k2
            have HW : Hid (Below wo.heap.size wo (wo.alloc (.cells #[.int .i64 xa, .int .i64 xb, .int .i64 xc] 123))) := Lib.hid ((Below.refl _ _).alloc (Nat.le_refl _) _)
            have HZ2 : Hid (∀ W, Below (wo.alloc (.cells #[.int .i64 xa, .int .i64 xb, .int .i64 xc] 123)).heap.size (wo.alloc (.cells #[.int .i64 xa, .int .i64 xb, .int .i64 xc] 123)) W → Below (w.alloc (.cells #[.slice At nT cT, .slice (some ad) nK cK] 68)).heap.size (w.alloc (.cells #[.slice At nT cT, .slice (some ad) nK cK] 68)) W) := Lib.hid (fun W hW => HB.out.trans ((HW.out.trans (hW.mono (by simp))).mono HB.out.size))
            have s0 := fun V : InB (wo.alloc (.cells #[.int .i64 xa, .int .i64 xb, .int .i64 xc] 123)) => V.cell (p := ⟨wo.heap.size, 0, none⟩) (u := .int .i64 xa) (by simp)
            have s1 := fun V : InB (wo.alloc (.cells #[.int .i64 xa, .int .i64 xb, .int .i64 xc] 123)) => V.cell (p := ⟨wo.heap.size, 1, none⟩) (u := .int .i64 xb) (by simp)
            have s2 := fun V : InB (wo.alloc (.cells #[.int .i64 xa, .int .i64 xb, .int .i64 xc] 123)) => V.cell (p := ⟨wo.heap.size, 2, none⟩) (u := .int .i64 xc) (by simp)
            have s3 : ∀ V : InB (wo.alloc (.cells #[.int .i64 xa, .int .i64 xb, .int .i64 xc] 123)), V.1.cell? ⟨w.heap.size, 0, none⟩ = some (.slice At nT cT) := fun V => (HZ2.out _ V.2).cell (by simp) |>.trans (by simp)
            have s4 : ∀ V : InB (wo.alloc (.cells #[.int .i64 xa, .int .i64 xb, .int .i64 xc] 123)), V.1.cell? ⟨w.heap.size, 1, none⟩ = some (.slice (some ad) nK cK) := fun V => (HZ2.out _ V.2).cell (by simp) |>.trans (by simp)
            have hw0 : IntKind.i64.wrap ((nT : Int) - 1) = (nT : Int) - 1 := IntWalk.i64_in _ (by omega)
            have hlt' : (0 : Int) < (nK : Int) := by omega
            have hw2 : decide ((0 : Int) < 0) = false := by decide
            have hw1 := hw2
            have CB : Hid True := Lib.hid trivial
            by_cases a0 : xa < 0
            · have d0 : decide (xa < 0) = true := by simpa using a0
              have a0' : ¬ 0 ≤ xa := by omega
              have HF : Hid (goK (nT : Int) none K = false) := Lib.hid (by rw [← HR.out, HD.out]; simp only [goK]; rw [okK_eq _ _ _ (by omega)]; simp [a0'])
              go_wp2
              clear k0 k1 k2 
              generalize hws : (wo.alloc (.cells #[.int .i64 xa, .int .i64 xb, .int .i64 xc] 123)) = ws at *
              refine wp_region_below ws (by kernel_rfl) (by kernel_rfl) (by first | assumption | exact Below.refl _ _) ?_
              repeat (go_big_quiet_step ((first | (go_at_call 72; exact bel_same (within_any _ _ _ _)) | (go_at_call 118; exact bel_of (CB.out _)))))
              refine wpQuiet_nil ?_
              intro _ hw'
              obtain ⟨⟨wb, hB⟩, rfl⟩ := hw'
              try simp only at hB ⊢
              all_goals
                clear hw0 hw1 hw2
                go_wp2
                go_ret
                exact ⟨ret_bool (by rw [HF.out]; simp), HZ.out _ (HZ2.out _ hB)⟩
            · have d0 : decide (xa < 0) = false := by simpa using a0
              by_cases a1 : xb ≤ xa
              · have d1 : decide (xb ≤ xa) = true := by simpa using a1
                have a1' : ¬ xa < xb := by omega
                have HF : Hid (goK (nT : Int) none K = false) := Lib.hid (by rw [← HR.out, HD.out]; simp only [goK]; rw [okK_eq _ _ _ (by omega)]; simp [a0, a1'])
                go_wp2
                clear k0 k1 k2 
                generalize hws : (wo.alloc (.cells #[.int .i64 xa, .int .i64 xb, .int .i64 xc] 123)) = ws at *
                refine wp_region_below ws (by kernel_rfl) (by kernel_rfl) (by first | assumption | exact Below.refl _ _) ?_
                repeat (go_big_quiet_step ((first | (go_at_call 72; exact bel_same (within_any _ _ _ _)) | (go_at_call 118; exact bel_of (CB.out _)))))
                refine wpQuiet_nil ?_
                intro _ hw'
                obtain ⟨⟨wb, hB⟩, rfl⟩ := hw'
                try simp only at hB ⊢
                all_goals
                  clear hw0 hw1 hw2
                  go_wp2
                  go_ret
                  exact ⟨ret_bool (by rw [HF.out]; simp), HZ.out _ (HZ2.out _ hB)⟩
              · have d1 : decide (xb ≤ xa) = false := by simpa using a1
                by_cases a2 : (nT : Int) ≤ xb
                · have d2 : decide ((nT : Int) ≤ xb) = true := by simpa using a2
                  have a2' : ¬ xb < (nT : Int) := by omega
                  have HF : Hid (goK (nT : Int) none K = false) := Lib.hid (by rw [← HR.out, HD.out]; simp only [goK]; rw [okK_eq _ _ _ (by omega)]; simp [a0, a1, a2'])
                  go_wp2
                  clear k0 k1 k2 
                  generalize hws : (wo.alloc (.cells #[.int .i64 xa, .int .i64 xb, .int .i64 xc] 123)) = ws at *
                  refine wp_region_below ws (by kernel_rfl) (by kernel_rfl) (by first | assumption | exact Below.refl _ _) ?_
                  repeat (go_big_quiet_step ((first | (go_at_call 72; exact bel_same (within_any _ _ _ _)) | (go_at_call 118; exact bel_of (CB.out _)))))
                  refine wpQuiet_nil ?_
                  intro _ hw'
                  obtain ⟨⟨wb, hB⟩, rfl⟩ := hw'
                  try simp only at hB ⊢
                  all_goals
                    clear hw0 hw1 hw2
                    go_wp2
                    go_ret
                    exact ⟨ret_bool (by rw [HF.out]; simp), HZ.out _ (HZ2.out _ hB)⟩
                · have d2 : decide ((nT : Int) ≤ xb) = false := by simpa using a2
                  have p0 : 0 ≤ xa := by omega
                  have p1 : xa < xb := by omega
                  have p2 : xb < (nT : Int) := by omega
                  cases h3 : inB xc 1 60 with
                  | false =>
                    have HF : Hid (goK (nT : Int) none K = false) := Lib.hid (by rw [← HR.out, HD.out]; simp only [goK]; rw [okK_eq _ _ _ (by omega)]; simp [a0, a1, a2, h3])
                    go_wp2
                    clear k0 k1 k2 
                    generalize hws : (wo.alloc (.cells #[.int .i64 xa, .int .i64 xb, .int .i64 xc] 123)) = ws at *
                    refine wp_region_below ws (by kernel_rfl) (by kernel_rfl) (by first | assumption | exact Below.refl _ _) ?_
                    repeat (go_big_quiet_step ((first | (go_at_call 72; exact bel_same (within_any _ _ _ _)) | (go_at_call 118; exact bel_of (CB.out _)))))
                    refine wpQuiet_nil ?_
                    intro _ hw'
                    obtain ⟨⟨wb, hB⟩, rfl⟩ := hw'
                    try simp only at hB ⊢
                    all_goals
                      clear hw0 hw1 hw2
                      go_wp2
                      go_ret
                      exact ⟨ret_bool (by rw [HF.out]; simp), HZ.out _ (HZ2.out _ hB)⟩
                  | true =>
                    have HT : Hid (goK (nT : Int) none K = goK (nT : Int) (prevK K 1) (K.drop 1)) := Lib.hid (by rw [HP.out, ← HR.out, HD.out]; simp only [goK]; rw [okK_eq _ _ _ (by omega)]; simp [p0, p1, p2, h3])
                    go_wp2
                    clear k0 k1 k2 
                    generalize hws : (wo.alloc (.cells #[.int .i64 xa, .int .i64 xb, .int .i64 xc] 123)) = ws at *
                    refine wp_region_below ws (by kernel_rfl) (by kernel_rfl) (by first | assumption | exact Below.refl _ _) ?_
                    repeat (go_big_quiet_step ((first | (go_at_call 72; exact bel_same (within_any _ _ _ _)) | (go_at_call 118; exact bel_of (CB.out _)))))
                    refine wpQuiet_nil ?_
                    intro _ hw'
                    obtain ⟨⟨wb, hB⟩, rfl⟩ := hw'
                    try simp only at hB ⊢
                    all_goals
                      clear hw0 hw1 hw2
                      go_wp2
                      go_roundw
                      case rel => exact ⟨1, by omega, by go_num, HT.out.symm, HZ2.out _ hB⟩
                      case measure => simp [intOf]; omega
          · obtain ⟨j, rfl⟩ : ∃ j, k = j + 1 := ⟨k - 1, by omega⟩
            have hxj : j < K.length := by omega
            obtain ⟨ad, rfl, k0, k1, k2⟩ := rows3_at (HK0.out.below HB.out) hlt HXK.out
            obtain ⟨_, e, j0, j1, j2⟩ := rows3_at (HK0.out.below HB.out) (show j < nK by omega) HXK.out
            injection e with e
            subst e
            have HPJ := Lib.hid (prevK_succ hxj)
            generalize K[j + 1] = x at *
            generalize K[j] = y at *
            obtain ⟨xa, xb, xc⟩ := x
            obtain ⟨ya, yb, yc⟩ := y
            simp only at k0 k1 k2 j0 j1 j2
            have HW : Hid (Below wo.heap.size wo (wo.alloc (.cells #[.int .i64 xa, .int .i64 xb, .int .i64 xc] 123))) := Lib.hid ((Below.refl _ _).alloc (Nat.le_refl _) _)
            have HZ2 : Hid (∀ W, Below (wo.alloc (.cells #[.int .i64 xa, .int .i64 xb, .int .i64 xc] 123)).heap.size (wo.alloc (.cells #[.int .i64 xa, .int .i64 xb, .int .i64 xc] 123)) W → Below (w.alloc (.cells #[.slice At nT cT, .slice (some ad) nK cK] 68)).heap.size (w.alloc (.cells #[.slice At nT cT, .slice (some ad) nK cK] 68)) W) := Lib.hid (fun W hW => HB.out.trans ((HW.out.trans (hW.mono (by simp))).mono HB.out.size))
            have s0 := fun V : InB (wo.alloc (.cells #[.int .i64 xa, .int .i64 xb, .int .i64 xc] 123)) => V.cell (p := ⟨wo.heap.size, 0, none⟩) (u := .int .i64 xa) (by simp)
            have s1 := fun V : InB (wo.alloc (.cells #[.int .i64 xa, .int .i64 xb, .int .i64 xc] 123)) => V.cell (p := ⟨wo.heap.size, 1, none⟩) (u := .int .i64 xb) (by simp)
            have s2 := fun V : InB (wo.alloc (.cells #[.int .i64 xa, .int .i64 xb, .int .i64 xc] 123)) => V.cell (p := ⟨wo.heap.size, 2, none⟩) (u := .int .i64 xc) (by simp)
            have s3 : ∀ V : InB (wo.alloc (.cells #[.int .i64 xa, .int .i64 xb, .int .i64 xc] 123)), V.1.cell? ⟨w.heap.size, 0, none⟩ = some (.slice At nT cT) := fun V => (HZ2.out _ V.2).cell (by simp) |>.trans (by simp)
            have s4 : ∀ V : InB (wo.alloc (.cells #[.int .i64 xa, .int .i64 xb, .int .i64 xc] 123)), V.1.cell? ⟨w.heap.size, 1, none⟩ = some (.slice (some ad) nK cK) := fun V => (HZ2.out _ V.2).cell (by simp) |>.trans (by simp)
            have hw0 : IntKind.i64.wrap ((nT : Int) - 1) = (nT : Int) - 1 := IntWalk.i64_in _ (by omega)
            have s5 : ∀ V : InB (wo.alloc (.cells #[.int .i64 xa, .int .i64 xb, .int .i64 xc] 123)), V.1.cell? (ad.add (j * 3)) = some (.int .i64 ya) := fun V => ((HW.out.trans (V.2.mono (by simp))).cell (World.block_lt_of_cell? wo _ j0)).trans j0
            have s6 : ∀ V : InB (wo.alloc (.cells #[.int .i64 xa, .int .i64 xb, .int .i64 xc] 123)), V.1.cell? ⟨(ad.add (j * 3)).block, (ad.add (j * 3)).off + 1, none⟩ = some (.int .i64 yb) := fun V => ((HW.out.trans (V.2.mono (by simp))).cell (World.block_lt_of_cell? wo _ j1)).trans j1
            have s7 : ∀ V : InB (wo.alloc (.cells #[.int .i64 xa, .int .i64 xb, .int .i64 xc] 123)), V.1.cell? ⟨(ad.add (j * 3)).block, (ad.add (j * 3)).off + 2, none⟩ = some (.int .i64 yc) := fun V => ((HW.out.trans (V.2.mono (by simp))).cell (World.block_lt_of_cell? wo _ j2)).trans j2
            have hw1 : IntKind.i64.wrap (j : Int) = (j : Int) := IntWalk.i64_in _ (by omega)
            have hw2 : decide ((0 : Int) < (j : Int) + 1) = true := by simp <;> omega
            have hjn : (j : Int) < (nK : Int) := by omega
            have hj0 : (0 : Int) ≤ (j : Int) := by omega
            obtain ⟨cv, hcv⟩ : ∃ cv, cv = cmpK (ya, yb, yc) (xa, xb, xc) := ⟨_, rfl⟩
            have cb := fun V : InB (wo.alloc (.cells #[.int .i64 xa, .int .i64 xb, .int .i64 xc] 123)) => compareLinks_any ya yb yc xa xb xc V.1
            rw [← hcv] at cb
            have CB := Lib.hid cb
            clear cb
            by_cases a0 : xa < 0
            · have d0 : decide (xa < 0) = true := by simpa using a0
              have a0' : ¬ 0 ≤ xa := by omega
              have HF : Hid (goK (nT : Int) none K = false) := Lib.hid (by rw [← HR.out, HD.out, HPJ.out]; simp only [goK]; rw [okK_eq _ _ _ (by omega)]; simp [a0'])
              go_wp2
              clear k0 k1 k2 j0 j1 j2
              generalize hws : (wo.alloc (.cells #[.int .i64 xa, .int .i64 xb, .int .i64 xc] 123)) = ws at *
              refine wp_region_below ws (by kernel_rfl) (by kernel_rfl) (by first | assumption | exact Below.refl _ _) ?_
              repeat (go_big_quiet_step ((first | (go_at_call 72; exact bel_same (within_any _ _ _ _)) | (go_at_call 118; exact bel_of (CB.out _)))))
              refine wpQuiet_nil ?_
              intro _ hw'
              obtain ⟨⟨wb, hB⟩, rfl⟩ := hw'
              try simp only at hB ⊢
              all_goals
                clear hw0 hw1 hw2
                go_wp2
                go_ret
                exact ⟨ret_bool (by rw [HF.out]; simp), HZ.out _ (HZ2.out _ hB)⟩
            · have d0 : decide (xa < 0) = false := by simpa using a0
              by_cases a1 : xb ≤ xa
              · have d1 : decide (xb ≤ xa) = true := by simpa using a1
                have a1' : ¬ xa < xb := by omega
                have HF : Hid (goK (nT : Int) none K = false) := Lib.hid (by rw [← HR.out, HD.out, HPJ.out]; simp only [goK]; rw [okK_eq _ _ _ (by omega)]; simp [a0, a1'])
                go_wp2
                clear k0 k1 k2 j0 j1 j2
                generalize hws : (wo.alloc (.cells #[.int .i64 xa, .int .i64 xb, .int .i64 xc] 123)) = ws at *
                refine wp_region_below ws (by kernel_rfl) (by kernel_rfl) (by first | assumption | exact Below.refl _ _) ?_
                repeat (go_big_quiet_step ((first | (go_at_call 72; exact bel_same (within_any _ _ _ _)) | (go_at_call 118; exact bel_of (CB.out _)))))
                refine wpQuiet_nil ?_
                intro _ hw'
                obtain ⟨⟨wb, hB⟩, rfl⟩ := hw'
                try simp only at hB ⊢
                all_goals
                  clear hw0 hw1 hw2
                  go_wp2
                  go_ret
                  exact ⟨ret_bool (by rw [HF.out]; simp), HZ.out _ (HZ2.out _ hB)⟩
              · have d1 : decide (xb ≤ xa) = false := by simpa using a1
                by_cases a2 : (nT : Int) ≤ xb
                · have d2 : decide ((nT : Int) ≤ xb) = true := by simpa using a2
                  have a2' : ¬ xb < (nT : Int) := by omega
                  have HF : Hid (goK (nT : Int) none K = false) := Lib.hid (by rw [← HR.out, HD.out, HPJ.out]; simp only [goK]; rw [okK_eq _ _ _ (by omega)]; simp [a0, a1, a2'])
                  go_wp2
                  clear k0 k1 k2 j0 j1 j2
                  generalize hws : (wo.alloc (.cells #[.int .i64 xa, .int .i64 xb, .int .i64 xc] 123)) = ws at *
                  refine wp_region_below ws (by kernel_rfl) (by kernel_rfl) (by first | assumption | exact Below.refl _ _) ?_
                  repeat (go_big_quiet_step ((first | (go_at_call 72; exact bel_same (within_any _ _ _ _)) | (go_at_call 118; exact bel_of (CB.out _)))))
                  refine wpQuiet_nil ?_
                  intro _ hw'
                  obtain ⟨⟨wb, hB⟩, rfl⟩ := hw'
                  try simp only at hB ⊢
                  all_goals
                    clear hw0 hw1 hw2
                    go_wp2
                    go_ret
                    exact ⟨ret_bool (by rw [HF.out]; simp), HZ.out _ (HZ2.out _ hB)⟩
                · have d2 : decide ((nT : Int) ≤ xb) = false := by simpa using a2
                  have p0 : 0 ≤ xa := by omega
                  have p1 : xa < xb := by omega
                  have p2 : xb < (nT : Int) := by omega
                  cases h3 : inB xc 1 60 with
                  | false =>
                    have HF : Hid (goK (nT : Int) none K = false) := Lib.hid (by rw [← HR.out, HD.out, HPJ.out]; simp only [goK]; rw [okK_eq _ _ _ (by omega)]; simp [a0, a1, a2, h3])
                    go_wp2
                    clear k0 k1 k2 j0 j1 j2
                    generalize hws : (wo.alloc (.cells #[.int .i64 xa, .int .i64 xb, .int .i64 xc] 123)) = ws at *
                    refine wp_region_below ws (by kernel_rfl) (by kernel_rfl) (by first | assumption | exact Below.refl _ _) ?_
                    repeat (go_big_quiet_step ((first | (go_at_call 72; exact bel_same (within_any _ _ _ _)) | (go_at_call 118; exact bel_of (CB.out _)))))
                    refine wpQuiet_nil ?_
                    intro _ hw'
                    obtain ⟨⟨wb, hB⟩, rfl⟩ := hw'
                    try simp only at hB ⊢
                    all_goals
                      clear hw0 hw1 hw2
                      go_wp2
                      go_ret
                      exact ⟨ret_bool (by rw [HF.out]; simp), HZ.out _ (HZ2.out _ hB)⟩
                  | true =>
                    cases h4 : befK (ya, yb, yc) (xa, xb, xc) with
                    | false =>
                      have d4 : decide (0 ≤ cv) = true := by rw [hcv, cmpK_neg, h4]; rfl
                      clear hcv
                      have HF : Hid (goK (nT : Int) none K = false) := Lib.hid (by rw [← HR.out, HD.out, HPJ.out]; simp only [goK]; rw [okK_eq _ _ _ (by omega)]; simp [a0, a1, a2, h3, h4])
                      go_wp2
                      clear k0 k1 k2 j0 j1 j2
                      generalize hws : (wo.alloc (.cells #[.int .i64 xa, .int .i64 xb, .int .i64 xc] 123)) = ws at *
                      refine wp_region_below ws (by kernel_rfl) (by kernel_rfl) (by first | assumption | exact Below.refl _ _) ?_
                      repeat (go_big_quiet_step ((first | (go_at_call 72; exact bel_same (within_any _ _ _ _)) | (go_at_call 118; exact bel_of (CB.out _)))))
                      refine wpQuiet_nil ?_
                      intro _ hw'
                      obtain ⟨⟨wb, hB⟩, rfl⟩ := hw'
                      try simp only at hB ⊢
                      all_goals
                        clear hw0 hw1 hw2
                        go_wp2
                        go_ret
                        exact ⟨ret_bool (by rw [HF.out]; simp), HZ.out _ (HZ2.out _ hB)⟩
                    | true =>
                      have d4 : decide (0 ≤ cv) = false := by rw [hcv, cmpK_neg, h4]; rfl
                      clear hcv
                      have HT : Hid (goK (nT : Int) none K = goK (nT : Int) (prevK K (j + 1 + 1)) (K.drop (j + 1 + 1))) := Lib.hid (by rw [HP.out, ← HR.out, HD.out, HPJ.out]; simp only [goK]; rw [okK_eq _ _ _ (by omega)]; simp [p0, p1, p2, h3, h4])
                      go_wp2
                      clear k0 k1 k2 j0 j1 j2
                      generalize hws : (wo.alloc (.cells #[.int .i64 xa, .int .i64 xb, .int .i64 xc] 123)) = ws at *
                      refine wp_region_below ws (by kernel_rfl) (by kernel_rfl) (by first | assumption | exact Below.refl _ _) ?_
                      repeat (go_big_quiet_step ((first | (go_at_call 72; exact bel_same (within_any _ _ _ _)) | (go_at_call 118; exact bel_of (CB.out _)))))
                      refine wpQuiet_nil ?_
                      intro _ hw'
                      obtain ⟨⟨wb, hB⟩, rfl⟩ := hw'
                      try simp only at hB ⊢
                      all_goals
                        clear hw0 hw1 hw2
                        go_wp2
                        go_roundw
                        case rel => exact ⟨(j + 1 + 1), by omega, by go_num, HT.out.symm, HZ2.out _ hB⟩
                        case measure => simp [intOf]; omega
        · have HE : Hid (goK (nT : Int) none K = true) := Lib.hid (by rw [← HR.out, drop_end (xs := K) (k := k) (by rw [HXK.out]; omega)]; rfl)
          have b0 : wo.cell? ⟨w.heap.size, 0, none⟩ = some (.slice At nT cT) := (HB.out.cell (by simp)).trans HBB0.out
          have b1 : wo.cell? ⟨w.heap.size, 1, none⟩ = some (.slice Ak nK cK) := (HB.out.cell (by simp)).trans HBB1.out
          clear HR
          go_wp2
          go_ret
          exact ⟨ret_bool (by rw [HET.out, HE.out]; simp; try omega), HZ.out _ HB.out⟩

end Go.Proofs.Ythpfgmnhpnfopaa
