/- When is a net one: contracts of the spec's test. No conditions. -/
import Derived.Test.YthpfgmnhpnfopaaCom
import Derived.Test.YthpfgmnhpnfopaaBel
namespace Go.Proofs.Ythpfgmnhpnfopaa
set_option linter.unusedSimpArgs false
set_option linter.unusedVariables false
open Go.RowKit

abbrev S3 := Int × Int × Int
def befK (a b : S3) : Bool := decide (a.1 < b.1) || (decide (a.1 = b.1) && decide (a.2.1 < b.2.1))
def towB (x : S3) : Bool := inB x.1 0 999 && (inB x.2.1 0 999 && inB x.2.2 0 500)
def allTow : List S3 → Bool
  | [] => true
  | x :: r => if towB x = true then allTow r else false
def okK (nT : Int) (pv : Option S3) (x : S3) : Bool :=
  inB x.1 0 (wrap64 (x.2.1 - 1)) && (inB x.2.1 0 (nT - 1) && (inB x.2.2 1 60 && (match pv with | none => true | some y => befK y x)))
def goK (nT : Int) : Option S3 → List S3 → Bool
  | _, [] => true
  | pv, x :: r => if okK nT pv x = true then goK nT (some x) r else false
def netB (T K : List S3) : Bool := allTow T && (goK (T.length : Int) none K && (inB (T.length : Int) 1 16 && decide (K.length ≤ 40)))
def prevK (K : List S3) (k : Nat) : Option S3 := if k = 0 then none else K[k - 1]?
theorem prevK_succ {K : List S3} {k : Nat} (h : k < K.length) : prevK K (k + 1) = some K[k] := by simp [prevK, h]
theorem neBefore_any (a b c x y z : Int) (w : World) :
    Calls Try.prog 115 #[.agg #[.int .i64 a, .int .i64 b, .int .i64 c], .agg #[.int .i64 x, .int .i64 y, .int .i64 z]] w fun e w' => e = .returned (.bool (befK (a, b, c) (x, y, z))) ∧ Below w.heap.size w w' := by
  by_cases h1 : a < x
  · go_enter Try.func115, Try.ntmps115
    go_wp2
    go_ret
    exact ⟨ret_bool (by simp [befK, h1]), ((Below.refl _ _).alloc (Nat.le_refl _) _).alloc (by simp) _⟩
  · by_cases h2 : a = x
    · subst h2
      go_enter Try.func115, Try.ntmps115
      go_wp2
      go_ret
      exact ⟨ret_bool (by simp [befK]), ((Below.refl _ _).alloc (Nat.le_refl _) _).alloc (by simp) _⟩
    · have h2' : (a == x) = false := by rw [beq_eq_false_iff_ne]; exact h2
      go_enter Try.func115, Try.ntmps115
      go_wp2
      go_ret
      exact ⟨ret_bool (by simp [befK, h1, h2]), ((Below.refl _ _).alloc (Nat.le_refl _) _).alloc (by simp) _⟩

set_option maxHeartbeats 8000000 in
set_option maxRecDepth 100000 in
theorem neGood_any (At Ak : Option Addr) (nT cT nK cK : Nat) (T K : List S3) (w : World) (hT : nT ≤ 1000000000) (hK : nK ≤ 1000000000) (ht : Reads w 3 At nT (rows3 T)) (hk : Reads w 3 Ak nK (rows3 K)) :
    Calls Try.prog 94 #[.agg #[.slice At nT cT, .slice Ak nK cK]] w fun e w' => e = .returned (.bool (netB T K)) ∧ Below w.heap.size w w' := by
  have HXT := Lib.hid (show T.length = nT by have := ht.1; rw [length_rows3] at this; omega)
  have HXK := Lib.hid (show K.length = nK by have := hk.1; rw [length_rows3] at this; omega)
  have HT0 := Lib.hid (ht.alloc (.cells #[.slice At nT cT, .slice Ak nK cK] 68)); have HK0 := Lib.hid (hk.alloc (.cells #[.slice At nT cT, .slice Ak nK cK] 68))
  have hnb : netB T K = (allTow T && (goK (nT : Int) none K && (inB (nT : Int) 1 16 && decide (nK ≤ 40)))) := by unfold netB; rw [HXT.out, HXK.out]
  have HNB := Lib.hid hnb
  have b0 : (w.alloc (.cells #[.slice At nT cT, .slice Ak nK cK] 68)).cell? ⟨w.heap.size, 0, none⟩ = some (.slice At nT cT) := by simp
  have b1 : (w.alloc (.cells #[.slice At nT cT, .slice Ak nK cK] 68)).cell? ⟨w.heap.size, 1, none⟩ = some (.slice Ak nK cK) := by simp
  have HBB0 := Lib.hid b0; have HBB1 := Lib.hid b1
  have HZ : Hid (∀ W, Below (w.alloc (.cells #[.slice At nT cT, .slice Ak nK cK] 68)).heap.size (w.alloc (.cells #[.slice At nT cT, .slice Ak nK cK] 68)) W → Below w.heap.size w W) := Lib.hid (fun W hW => ((Below.refl _ _).alloc (Nat.le_refl _) _).trans (hW.mono (by simp)))
  clear ht hk hnb
  rw [HNB.out]
  go_enter Try.func94, Try.ntmps94
  go_wp2
  go_loopw [10] (fun i wr => ∃ k : Nat, k ≤ nT ∧ i = .int .i64 k ∧ allTow (T.drop k) = allTow T ∧ Below (w.alloc (.cells #[.slice At nT cT, .slice Ak nK cK] 68)).heap.size (w.alloc (.cells #[.slice At nT cT, .slice Ak nK cK] 68)) wr) (fun i _ => nT - (intOf i).toNat)
  case atStart => exact ⟨0, Nat.zero_le _, rfl, rfl, Below.refl _ _⟩
  case round =>
    obtain ⟨k, hk, rfl, hrel, hb⟩ := hrel
    have HR := Lib.hid hrel; clear hrel
    have HB := Lib.hid hb; clear hb
    clear b0 b1
    by_cases hlt : k < nT
    · have hx : k < T.length := by rw [HXT.out]; exact hlt
      obtain ⟨ad, rfl, k0, k1, k2⟩ := rows3_at (HT0.out.below HB.out) hlt HXT.out
      have HD := Lib.hid (drop_cons hx)
      generalize T[k] = x at *
      obtain ⟨xa, xb, xc⟩ := x
      simp only at k0 k1 k2
      cases h1 : inB xa 0 999 with
      | false =>
        have HF : Hid (allTow T = false) := Lib.hid (by rw [← HR.out, HD.out]; simp [allTow, towB, h1])
        go_wp2_with (go_at_call 75; refine (l1In_any _ _ _ _).mono ?_; rintro e w' ⟨rfl, rfl⟩)
        go_ret
        exact ⟨ret_bool (by rw [HF.out]; rfl), HZ.out _ (HB.out.alloc HB.out.size _)⟩
      | true =>
        cases h2 : inB xb 0 999 with
        | false =>
          have HF : Hid (allTow T = false) := Lib.hid (by rw [← HR.out, HD.out]; simp [allTow, towB, h1, h2])
          go_wp2_with (go_at_call 75; refine (l1In_any _ _ _ _).mono ?_; rintro e w' ⟨rfl, rfl⟩)
          go_ret
          exact ⟨ret_bool (by rw [HF.out]; rfl), HZ.out _ (HB.out.alloc HB.out.size _)⟩
        | true =>
          cases h3 : inB xc 0 500 with
          | false =>
            have HF : Hid (allTow T = false) := Lib.hid (by rw [← HR.out, HD.out]; simp [allTow, towB, h1, h2, h3])
            go_wp2_with (go_at_call 75; refine (l1In_any _ _ _ _).mono ?_; rintro e w' ⟨rfl, rfl⟩)
            go_ret
            exact ⟨ret_bool (by rw [HF.out]; rfl), HZ.out _ (HB.out.alloc HB.out.size _)⟩
          | true =>
            have HT : Hid (allTow (T.drop (k + 1)) = allTow T) := Lib.hid (by rw [← HR.out, HD.out]; simp [allTow, towB, h1, h2, h3])
            go_wp2_with (go_at_call 75; refine (l1In_any _ _ _ _).mono ?_; rintro e w' ⟨rfl, rfl⟩)
            go_roundw
            case rel => exact ⟨k + 1, by omega, by go_num, HT.out, HB.out.alloc HB.out.size _⟩
            case measure => simp [intOf]; omega
    · have HE : Hid (allTow T = true) := Lib.hid (by rw [← HR.out, drop_end (xs := T) (k := k) (by rw [HXT.out]; omega)]; rfl)
      have b1 : wr.cell? ⟨w.heap.size, 1, none⟩ = some (.slice Ak nK cK) := (HB.out.cell (by simp)).trans HBB1.out
      have HBT := HB
      have HET := HE
      clear HR HE
      obtain ⟨wt, rfl⟩ : ∃ wt, wt = wr := ⟨_, rfl⟩
      go_wp2
      go_loopw [34] (fun i wr => ∃ k : Nat, k ≤ nK ∧ i = .int .i64 k ∧ goK (nT : Int) (prevK K k) (K.drop k) = goK (nT : Int) none K ∧ Below (w.alloc (.cells #[.slice At nT cT, .slice Ak nK cK] 68)).heap.size (w.alloc (.cells #[.slice At nT cT, .slice Ak nK cK] 68)) wr) (fun i _ => nK - (intOf i).toNat)
      case atStart => exact ⟨0, Nat.zero_le _, rfl, rfl, HBT.out⟩
      case round =>
        obtain ⟨k, hk, rfl, hrel, hb⟩ := hrel
        have HR := Lib.hid hrel; clear hrel
        have HB := Lib.hid hb; clear hb
        clear b1
        obtain ⟨wo, rfl⟩ : ∃ wo, wo = wr := ⟨_, rfl⟩
        by_cases hlt : k < nK
        · have hx : k < K.length := by rw [HXK.out]; exact hlt
          have HD := Lib.hid (drop_cons hx)
          have HP := Lib.hid (prevK_succ hx)
          by_cases hk0 : k = 0
          · subst hk0
            obtain ⟨ad, rfl, k0, k1, k2⟩ := rows3_at (HK0.out.below HB.out) hlt HXK.out
            rw [show ad.add (0 * 3) = ad from by simp [Addr.add]] at k0 k1 k2
            rw [show prevK K 0 = none from rfl] at HR
            generalize K[0] = x at *
            obtain ⟨xa, xb, xc⟩ := x
            simp only at k0 k1 k2
            have HW : Hid (Below wo.heap.size wo (wo.alloc (.cells #[.int .i64 xa, .int .i64 xb, .int .i64 xc] 123))) := Lib.hid ((Below.refl _ _).alloc (Nat.le_refl _) _)
            have HZ2 : Hid (∀ W, Below (wo.alloc (.cells #[.int .i64 xa, .int .i64 xb, .int .i64 xc] 123)).heap.size (wo.alloc (.cells #[.int .i64 xa, .int .i64 xb, .int .i64 xc] 123)) W → Below (w.alloc (.cells #[.slice At nT cT, .slice (some ad) nK cK] 68)).heap.size (w.alloc (.cells #[.slice At nT cT, .slice (some ad) nK cK] 68)) W) := Lib.hid (fun W hW => HB.out.trans ((HW.out.trans (hW.mono (by simp))).mono HB.out.size))
            have s0 := fun V : InB (wo.alloc (.cells #[.int .i64 xa, .int .i64 xb, .int .i64 xc] 123)) => V.cell (p := ⟨wo.heap.size, 0, none⟩) (u := .int .i64 xa) (by simp)
            have s1 := fun V : InB (wo.alloc (.cells #[.int .i64 xa, .int .i64 xb, .int .i64 xc] 123)) => V.cell (p := ⟨wo.heap.size, 1, none⟩) (u := .int .i64 xb) (by simp)
            have s2 := fun V : InB (wo.alloc (.cells #[.int .i64 xa, .int .i64 xb, .int .i64 xc] 123)) => V.cell (p := ⟨wo.heap.size, 2, none⟩) (u := .int .i64 xc) (by simp)
            have s3 : ∀ V : InB (wo.alloc (.cells #[.int .i64 xa, .int .i64 xb, .int .i64 xc] 123)), V.1.cell? ⟨w.heap.size, 0, none⟩ = some (.slice At nT cT) := fun V => (HZ2.out _ V.2).cell (by simp) |>.trans (by simp)
            have s4 : ∀ V : InB (wo.alloc (.cells #[.int .i64 xa, .int .i64 xb, .int .i64 xc] 123)), V.1.cell? ⟨w.heap.size, 1, none⟩ = some (.slice (some ad) nK cK) := fun V => (HZ2.out _ V.2).cell (by simp) |>.trans (by simp)
            have hw0 : IntKind.i64.wrap ((nT : Int) - 1) = (nT : Int) - 1 := IntWalk.i64_in _ (by omega)
            have hlt' : (0 : Int) < (nK : Int) := by omega
            have hw2 : decide ((0 : Int) < 0) = false := by decide
            have hw1 := hw2
            have CB : Hid True := Lib.hid trivial
            cases h1 : inB xa 0 (wrap64 (xb - 1)) with
            | false =>
              have HF : Hid (goK (nT : Int) none K = false) := Lib.hid (by rw [← HR.out, HD.out]; simp [goK, okK, h1])
              go_wp2
              clear k0 k1 k2 
              generalize hws : (wo.alloc (.cells #[.int .i64 xa, .int .i64 xb, .int .i64 xc] 123)) = ws at *
              refine wp_region_below ws (by kernel_rfl) (by kernel_rfl) (by first | assumption | exact Below.refl _ _) ?_
              repeat (go_big_quiet_step ((first | (go_at_call 75; exact bel_same (l1In_any _ _ _ _)) | (go_at_call 115; exact bel_of (CB.out _)))))
              refine wpQuiet_nil ?_
              intro _ hw'
              obtain ⟨⟨wb, hB⟩, rfl⟩ := hw'
              try simp only at hB ⊢
              all_goals
                clear hw0 hw1 hw2
                go_wp2
                go_ret
                exact ⟨ret_bool (by rw [HF.out]; simp), HZ.out _ (HZ2.out _ hB)⟩
            | true =>
              cases h2 : inB xb 0 ((nT : Int) - 1) with
              | false =>
                have HF : Hid (goK (nT : Int) none K = false) := Lib.hid (by rw [← HR.out, HD.out]; simp [goK, okK, h1, h2])
                go_wp2
                clear k0 k1 k2 
                generalize hws : (wo.alloc (.cells #[.int .i64 xa, .int .i64 xb, .int .i64 xc] 123)) = ws at *
                refine wp_region_below ws (by kernel_rfl) (by kernel_rfl) (by first | assumption | exact Below.refl _ _) ?_
                repeat (go_big_quiet_step ((first | (go_at_call 75; exact bel_same (l1In_any _ _ _ _)) | (go_at_call 115; exact bel_of (CB.out _)))))
                refine wpQuiet_nil ?_
                intro _ hw'
                obtain ⟨⟨wb, hB⟩, rfl⟩ := hw'
                try simp only at hB ⊢
                all_goals
                  clear hw0 hw1 hw2
                  go_wp2
                  go_ret
                  exact ⟨ret_bool (by rw [HF.out]; simp), HZ.out _ (HZ2.out _ hB)⟩
              | true =>
                cases h3 : inB xc 1 60 with
                | false =>
                  have HF : Hid (goK (nT : Int) none K = false) := Lib.hid (by rw [← HR.out, HD.out]; simp [goK, okK, h1, h2, h3])
                  go_wp2
                  clear k0 k1 k2 
                  generalize hws : (wo.alloc (.cells #[.int .i64 xa, .int .i64 xb, .int .i64 xc] 123)) = ws at *
                  refine wp_region_below ws (by kernel_rfl) (by kernel_rfl) (by first | assumption | exact Below.refl _ _) ?_
                  repeat (go_big_quiet_step ((first | (go_at_call 75; exact bel_same (l1In_any _ _ _ _)) | (go_at_call 115; exact bel_of (CB.out _)))))
                  refine wpQuiet_nil ?_
                  intro _ hw'
                  obtain ⟨⟨wb, hB⟩, rfl⟩ := hw'
                  try simp only at hB ⊢
                  all_goals
                    clear hw0 hw1 hw2
                    go_wp2
                    go_ret
                    exact ⟨ret_bool (by rw [HF.out]; simp), HZ.out _ (HZ2.out _ hB)⟩
                | true =>
                  have HT : Hid (goK (nT : Int) none K = goK (nT : Int) (prevK K 1) (K.drop 1)) := Lib.hid (by rw [HP.out, ← HR.out, HD.out]; simp [goK, okK, h1, h2, h3])
                  go_wp2
                  clear k0 k1 k2 
                  generalize hws : (wo.alloc (.cells #[.int .i64 xa, .int .i64 xb, .int .i64 xc] 123)) = ws at *
                  refine wp_region_below ws (by kernel_rfl) (by kernel_rfl) (by first | assumption | exact Below.refl _ _) ?_
                  repeat (go_big_quiet_step ((first | (go_at_call 75; exact bel_same (l1In_any _ _ _ _)) | (go_at_call 115; exact bel_of (CB.out _)))))
                  refine wpQuiet_nil ?_
                  intro _ hw'
                  obtain ⟨⟨wb, hB⟩, rfl⟩ := hw'
                  try simp only at hB ⊢
                  all_goals
                    clear hw0 hw1 hw2
                    go_wp2
                    go_roundw
                    case rel => exact ⟨1, by omega, by go_num, HT.out.symm, HZ2.out _ hB⟩
                    case measure => simp [intOf]; omega
          · obtain ⟨j, rfl⟩ : ∃ j, k = j + 1 := ⟨k - 1, by omega⟩
            have hxj : j < K.length := by omega
            obtain ⟨ad, rfl, k0, k1, k2⟩ := rows3_at (HK0.out.below HB.out) hlt HXK.out
            obtain ⟨_, e, j0, j1, j2⟩ := rows3_at (HK0.out.below HB.out) (show j < nK by omega) HXK.out
            injection e with e
            subst e
            have HPJ := Lib.hid (prevK_succ hxj)
            generalize K[j + 1] = x at *
            generalize K[j] = y at *
            obtain ⟨xa, xb, xc⟩ := x
            obtain ⟨ya, yb, yc⟩ := y
            simp only at k0 k1 k2 j0 j1 j2
            have HW : Hid (Below wo.heap.size wo (wo.alloc (.cells #[.int .i64 xa, .int .i64 xb, .int .i64 xc] 123))) := Lib.hid ((Below.refl _ _).alloc (Nat.le_refl _) _)
            have HZ2 : Hid (∀ W, Below (wo.alloc (.cells #[.int .i64 xa, .int .i64 xb, .int .i64 xc] 123)).heap.size (wo.alloc (.cells #[.int .i64 xa, .int .i64 xb, .int .i64 xc] 123)) W → Below (w.alloc (.cells #[.slice At nT cT, .slice (some ad) nK cK] 68)).heap.size (w.alloc (.cells #[.slice At nT cT, .slice (some ad) nK cK] 68)) W) := Lib.hid (fun W hW => HB.out.trans ((HW.out.trans (hW.mono (by simp))).mono HB.out.size))
            have s0 := fun V : InB (wo.alloc (.cells #[.int .i64 xa, .int .i64 xb, .int .i64 xc] 123)) => V.cell (p := ⟨wo.heap.size, 0, none⟩) (u := .int .i64 xa) (by simp)
            have s1 := fun V : InB (wo.alloc (.cells #[.int .i64 xa, .int .i64 xb, .int .i64 xc] 123)) => V.cell (p := ⟨wo.heap.size, 1, none⟩) (u := .int .i64 xb) (by simp)
            have s2 := fun V : InB (wo.alloc (.cells #[.int .i64 xa, .int .i64 xb, .int .i64 xc] 123)) => V.cell (p := ⟨wo.heap.size, 2, none⟩) (u := .int .i64 xc) (by simp)
            have s3 : ∀ V : InB (wo.alloc (.cells #[.int .i64 xa, .int .i64 xb, .int .i64 xc] 123)), V.1.cell? ⟨w.heap.size, 0, none⟩ = some (.slice At nT cT) := fun V => (HZ2.out _ V.2).cell (by simp) |>.trans (by simp)
            have s4 : ∀ V : InB (wo.alloc (.cells #[.int .i64 xa, .int .i64 xb, .int .i64 xc] 123)), V.1.cell? ⟨w.heap.size, 1, none⟩ = some (.slice (some ad) nK cK) := fun V => (HZ2.out _ V.2).cell (by simp) |>.trans (by simp)
            have hw0 : IntKind.i64.wrap ((nT : Int) - 1) = (nT : Int) - 1 := IntWalk.i64_in _ (by omega)
            have s5 : ∀ V : InB (wo.alloc (.cells #[.int .i64 xa, .int .i64 xb, .int .i64 xc] 123)), V.1.cell? (ad.add (j * 3)) = some (.int .i64 ya) := fun V => ((HW.out.trans (V.2.mono (by simp))).cell (World.block_lt_of_cell? wo _ j0)).trans j0
            have s6 : ∀ V : InB (wo.alloc (.cells #[.int .i64 xa, .int .i64 xb, .int .i64 xc] 123)), V.1.cell? ⟨(ad.add (j * 3)).block, (ad.add (j * 3)).off + 1, none⟩ = some (.int .i64 yb) := fun V => ((HW.out.trans (V.2.mono (by simp))).cell (World.block_lt_of_cell? wo _ j1)).trans j1
            have s7 : ∀ V : InB (wo.alloc (.cells #[.int .i64 xa, .int .i64 xb, .int .i64 xc] 123)), V.1.cell? ⟨(ad.add (j * 3)).block, (ad.add (j * 3)).off + 2, none⟩ = some (.int .i64 yc) := fun V => ((HW.out.trans (V.2.mono (by simp))).cell (World.block_lt_of_cell? wo _ j2)).trans j2
            have hw1 : IntKind.i64.wrap (j : Int) = (j : Int) := IntWalk.i64_in _ (by omega)
            have hw2 : decide ((0 : Int) < (j : Int) + 1) = true := by simp <;> omega
            have hjn : (j : Int) < (nK : Int) := by omega
            have hj0 : (0 : Int) ≤ (j : Int) := by omega
            have CB := Lib.hid (fun V : InB (wo.alloc (.cells #[.int .i64 xa, .int .i64 xb, .int .i64 xc] 123)) => neBefore_any ya yb yc xa xb xc V.1)
            cases h1 : inB xa 0 (wrap64 (xb - 1)) with
            | false =>
              have HF : Hid (goK (nT : Int) none K = false) := Lib.hid (by rw [← HR.out, HD.out, HPJ.out]; simp [goK, okK, h1])
              go_wp2
              clear k0 k1 k2 j0 j1 j2
              generalize hws : (wo.alloc (.cells #[.int .i64 xa, .int .i64 xb, .int .i64 xc] 123)) = ws at *
              refine wp_region_below ws (by kernel_rfl) (by kernel_rfl) (by first | assumption | exact Below.refl _ _) ?_
              repeat (go_big_quiet_step ((first | (go_at_call 75; exact bel_same (l1In_any _ _ _ _)) | (go_at_call 115; exact bel_of (CB.out _)))))
              refine wpQuiet_nil ?_
              intro _ hw'
              obtain ⟨⟨wb, hB⟩, rfl⟩ := hw'
              try simp only at hB ⊢
              all_goals
                clear hw0 hw1 hw2
                go_wp2
                go_ret
                exact ⟨ret_bool (by rw [HF.out]; simp), HZ.out _ (HZ2.out _ hB)⟩
            | true =>
              cases h2 : inB xb 0 ((nT : Int) - 1) with
              | false =>
                have HF : Hid (goK (nT : Int) none K = false) := Lib.hid (by rw [← HR.out, HD.out, HPJ.out]; simp [goK, okK, h1, h2])
                go_wp2
                clear k0 k1 k2 j0 j1 j2
                generalize hws : (wo.alloc (.cells #[.int .i64 xa, .int .i64 xb, .int .i64 xc] 123)) = ws at *
                refine wp_region_below ws (by kernel_rfl) (by kernel_rfl) (by first | assumption | exact Below.refl _ _) ?_
                repeat (go_big_quiet_step ((first | (go_at_call 75; exact bel_same (l1In_any _ _ _ _)) | (go_at_call 115; exact bel_of (CB.out _)))))
                refine wpQuiet_nil ?_
                intro _ hw'
                obtain ⟨⟨wb, hB⟩, rfl⟩ := hw'
                try simp only at hB ⊢
                all_goals
                  clear hw0 hw1 hw2
                  go_wp2
                  go_ret
                  exact ⟨ret_bool (by rw [HF.out]; simp), HZ.out _ (HZ2.out _ hB)⟩
              | true =>
                cases h3 : inB xc 1 60 with
                | false =>
                  have HF : Hid (goK (nT : Int) none K = false) := Lib.hid (by rw [← HR.out, HD.out, HPJ.out]; simp [goK, okK, h1, h2, h3])
                  go_wp2
                  clear k0 k1 k2 j0 j1 j2
                  generalize hws : (wo.alloc (.cells #[.int .i64 xa, .int .i64 xb, .int .i64 xc] 123)) = ws at *
                  refine wp_region_below ws (by kernel_rfl) (by kernel_rfl) (by first | assumption | exact Below.refl _ _) ?_
                  repeat (go_big_quiet_step ((first | (go_at_call 75; exact bel_same (l1In_any _ _ _ _)) | (go_at_call 115; exact bel_of (CB.out _)))))
                  refine wpQuiet_nil ?_
                  intro _ hw'
                  obtain ⟨⟨wb, hB⟩, rfl⟩ := hw'
                  try simp only at hB ⊢
                  all_goals
                    clear hw0 hw1 hw2
                    go_wp2
                    go_ret
                    exact ⟨ret_bool (by rw [HF.out]; simp), HZ.out _ (HZ2.out _ hB)⟩
                | true =>
                  cases h4 : befK (ya, yb, yc) (xa, xb, xc) with
                  | false =>
                    have HF : Hid (goK (nT : Int) none K = false) := Lib.hid (by rw [← HR.out, HD.out, HPJ.out]; simp [goK, okK, h1, h2, h3, h4])
                    go_wp2
                    clear k0 k1 k2 j0 j1 j2
                    generalize hws : (wo.alloc (.cells #[.int .i64 xa, .int .i64 xb, .int .i64 xc] 123)) = ws at *
                    refine wp_region_below ws (by kernel_rfl) (by kernel_rfl) (by first | assumption | exact Below.refl _ _) ?_
                    repeat (go_big_quiet_step ((first | (go_at_call 75; exact bel_same (l1In_any _ _ _ _)) | (go_at_call 115; exact bel_of (CB.out _)))))
                    refine wpQuiet_nil ?_
                    intro _ hw'
                    obtain ⟨⟨wb, hB⟩, rfl⟩ := hw'
                    try simp only at hB ⊢
                    all_goals
                      clear hw0 hw1 hw2
                      go_wp2
                      go_ret
                      exact ⟨ret_bool (by rw [HF.out]; simp), HZ.out _ (HZ2.out _ hB)⟩
                  | true =>
                    have HT : Hid (goK (nT : Int) none K = goK (nT : Int) (prevK K (j + 1 + 1)) (K.drop (j + 1 + 1))) := Lib.hid (by rw [HP.out, ← HR.out, HD.out, HPJ.out]; simp [goK, okK, h1, h2, h3, h4])
                    go_wp2
                    clear k0 k1 k2 j0 j1 j2
                    generalize hws : (wo.alloc (.cells #[.int .i64 xa, .int .i64 xb, .int .i64 xc] 123)) = ws at *
                    refine wp_region_below ws (by kernel_rfl) (by kernel_rfl) (by first | assumption | exact Below.refl _ _) ?_
                    repeat (go_big_quiet_step ((first | (go_at_call 75; exact bel_same (l1In_any _ _ _ _)) | (go_at_call 115; exact bel_of (CB.out _)))))
                    refine wpQuiet_nil ?_
                    intro _ hw'
                    obtain ⟨⟨wb, hB⟩, rfl⟩ := hw'
                    try simp only at hB ⊢
                    all_goals
                      clear hw0 hw1 hw2
                      go_wp2
                      go_roundw
                      case rel => exact ⟨(j + 1 + 1), by omega, by go_num, HT.out.symm, HZ2.out _ hB⟩
                      case measure => simp [intOf]; omega
        · have HE : Hid (goK (nT : Int) none K = true) := Lib.hid (by rw [← HR.out, drop_end (xs := K) (k := k) (by rw [HXK.out]; omega)]; rfl)
          have b0 : wo.cell? ⟨w.heap.size, 0, none⟩ = some (.slice At nT cT) := (HB.out.cell (by simp)).trans HBB0.out
          have b1 : wo.cell? ⟨w.heap.size, 1, none⟩ = some (.slice Ak nK cK) := (HB.out.cell (by simp)).trans HBB1.out
          clear HR
          cases h1 : inB (nT : Int) 1 16 <;> by_cases h2 : nK ≤ 40
          all_goals
            go_wp2_with (go_at_call 75; refine (l1In_any _ _ _ _).mono ?_; rintro e w' ⟨rfl, rfl⟩)
            go_ret
            exact ⟨ret_bool (by rw [HET.out, HE.out]; simp [h1, h2]; try omega), HZ.out _ HB.out⟩

end Go.Proofs.Ythpfgmnhpnfopaa
