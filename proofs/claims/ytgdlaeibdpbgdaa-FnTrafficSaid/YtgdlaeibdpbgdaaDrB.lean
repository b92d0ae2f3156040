/- The spec's drawings of arrivals and of capacities: what they return is short and small. No conditions. -/
import Derived.Test.YtgdlaeibdpbgdaaDraw
import Derived.Test.YtgdlaeibdpbgdaaTr1
namespace Go.Proofs.Ytgdlaeibdpbgdaa
set_option linter.unusedSimpArgs false
set_option linter.unusedVariables false
open Go.RowKit

def lenV : Value → Nat
  | .slice _ n _ => n
  | _ => 0
theorem ints_setB (l : List Int) (i : Nat) (x : Int) : (ints l).set i (.int .i64 x) = ints (l.set i x) := by simp [ints, List.map_set]
theorem ints_snoc (l : List Int) (x : Int) : ints l ++ [.int .i64 x] = ints (l ++ [x]) := by simp [ints]
def smallL (lo hi : Int) (l : List Int) : Prop := ∀ x ∈ l, lo ≤ x ∧ x ≤ hi
theorem smallL.snoc {lo hi : Int} {l : List Int} {x : Int} (h : smallL lo hi l) (hx : lo ≤ x ∧ x ≤ hi) : smallL lo hi (l ++ [x]) := fun y hy => by
  rcases List.mem_append.1 hy with hy | hy
  · exact h y hy
  · simp at hy; subst hy; exact hx
theorem smallL.set {lo hi : Int} {l : List Int} {x : Int} (h : smallL lo hi l) (hx : lo ≤ x ∧ x ≤ hi) (i : Nat) : smallL lo hi (l.set i x) := fun y hy => by
  rcases List.mem_or_eq_of_mem_set hy with hy | hy
  · exact h y hy
  · subst hy; exact hx
/-- A row of the call's own, and its first cell's place. -/
theorem own_at0 {w : World} {base n c : Nat} {e : TypeId} {A : Option Addr} {xs : List Value} (h : w.ownsRow base e 1 (.slice A n c) n xs) (hn : 0 < n) : ∃ ga, A = some ⟨ga, 0, none⟩ ∧ base ≤ ga := by
  rcases h.2 with ⟨_, h0⟩ | ⟨g, cap, cur, hv, hb, _⟩
  · omega
  · injection hv with e _ _
    exact ⟨g, e, hb⟩

theorem capacity_any (g k : Nat) (w : World) (hk : k ≤ 10000000000) (h : Cur w g k) :
    Calls Try.prog 71 #[.pointer (some ⟨g, 0, none⟩)] w fun e w' => ∃ x : Int, e = .returned (.int .i64 x) ∧ (0 ≤ x ∧ x ≤ 201) ∧ Cur w' g (k + 4) ∧ Drew g w w' := by
  have HC := Lib.hid h
  have HD : Hid (Drew g w w) := Lib.hid Turned.refl
  clear h
  go_enter Try.func71, Try.ntmps71
  go_wp2_with fail
  refine (amongLit_any g _ [0, 201] 3 _ _ _ rfl rfl (by omega) (by simp) (by simp) HC.out).mono ?_
  rintro e w1 ⟨x, hx, rfl, hc, hd⟩
  have hxb : 0 ≤ x ∧ x ≤ 201 := by simp at hx; omega
  have HC := Lib.hid hc; have HD1 := Lib.hid hd; have HD := Lib.hid (HD.out.trans hd)
  clear hc hd hx
  go_wp2_with fail
  refine (amongLit_any g _ [1, 2, 3, 5, 10, 200, x] 3 _ _ _ rfl rfl (by omega) (by simp) (by simp) HC.out).mono ?_
  rintro e w2 ⟨y, hy, rfl, hc, hd⟩
  have hyb : 0 ≤ y ∧ y ≤ 201 := by simp at hy; omega
  have HC := Lib.hid hc; have HD1 := Lib.hid hd; have HD := Lib.hid (HD.out.trans hd)
  clear hc hd hy
  go_wp2
  go_ret
  exact ⟨y, rfl, hyb, HC.out, HD.out⟩

set_option maxHeartbeats 2000000 in
set_option maxRecDepth 100000 in
theorem arrivals_any (g k : Nat) (w : World) (hk : k ≤ 10000000000) (h : Cur w g k) :
    Calls Try.prog 70 #[.pointer (some ⟨g, 0, none⟩)] w fun e w' => ∃ A c l, e = .returned (.slice A (List.length l) c) ∧ l.length ≤ 61 ∧ smallL (-1) 201 l ∧ w'.ownsRow w.heap.size 3 1 (.slice A l.length c) l.length (ints l) ∧ Cur w' g (k + 300) ∧ Drew g w w' := by
  have HC := Lib.hid h
  have HD : Hid (Drew g w w) := Lib.hid Turned.refl
  have HGW : Hid (g < w.heap.size) := Lib.hid h.lt
  clear h
  go_enter Try.func70, Try.ntmps70
  go_wp2_with fail
  refine (pick_any g _ (12) _ (by omega) (by omega) HC.out).mono ?_
  rintro e w1 ⟨N, rfl, hN, hN', hc, hd⟩
  have HC := Lib.hid hc; have HD1 := Lib.hid hd; have HD := Lib.hid (HD.out.trans hd)
  clear hc hd
  go_wp2_with fail
  refine (one_any g _ (20) _ (by omega) (by omega) HC.out).mono ?_
  rintro e w2 ⟨b, rfl, hc, hd⟩
  have HC := Lib.hid hc; have HD1 := Lib.hid hd; have HD := Lib.hid (HD.out.trans hd)
  clear hc hd
  cases b with
  | false =>
    have hN : N ≤ 61 := by omega
    go_wp2
    have HKK : Hid (True) := Lib.hid trivial
    have HC := Lib.hid (HC.out.mono (k' := k + 6) (by omega))
    have HST : Hid (Drew g w _ ∧ Cur _ g (k + 6)) := Lib.hid ⟨HD.out, HC.out⟩
    clear HD1 HD HC
    go_loopw [3] (fun o wr => ∃ A q c l, o = .slice A q c ∧ List.length l = q ∧ q ≤ N ∧ smallL (-1) 201 l ∧ wr.ownsRow w.heap.size 3 1 (.slice A q c) q (ints l) ∧ Cur wr g (k + 6 + 4 * q) ∧ Drew g w wr) (fun o _ => N - lenV o)
    case atStart => exact ⟨none, 0, 0, [], rfl, rfl, Nat.zero_le _, fun y hy => (by cases hy), own_start, HST.out.2, HST.out.1⟩
    case round =>
      obtain ⟨A, q, c, l, rfl, hlq, hq, hsm, hown, hc, hd⟩ := hrel
      clear HST
      have HLQ := Lib.hid hlq; have HSM := Lib.hid hsm; have HO := Lib.hid hown; have HC := Lib.hid hc; have HD := Lib.hid hd
      clear hlq hsm hown hc hd
      by_cases hlt : q < N
      · go_wp2_with fail
        refine (pick_any g _ (30) _ (by omega) (by omega) HC.out).mono ?_
        rintro e w3 ⟨x, rfl, hx, hx', hc, hd⟩
        have HC := Lib.hid hc; have HD1 := Lib.hid hd; have HD := Lib.hid (HD.out.trans hd)
        clear hc hd
        have HO := Lib.hid (Drew.own HD1.out HO.out HGW.out)
        go_wp2_with fail
        refine (amongLit_any g _ [0, 0, 1, 2, 3, 5, 9, (x : Int)] 3 _ _ _ rfl rfl (by omega) (by simp) (by simp) HC.out).mono ?_
        rintro e w4 ⟨y, hy, rfl, hc, hd⟩
        have hyb : -1 ≤ y ∧ y ≤ 201 := by simp at hy; omega
        have HC := Lib.hid hc; have HD1 := Lib.hid hd; have HD := Lib.hid (HD.out.trans hd)
        clear hc hd hy
        have HO := Lib.hid (Drew.own HD1.out HO.out HGW.out)
        have HZ : Hid (w.heap.size ≤ w4.heap.size) := Lib.hid HD.out.size
        go_wp2_with (at_builtin; refine wpList_push _ rfl (.tmp 16) (.tmp 22) 22 rfl w.heap.size 3 (.int .i64 0) 1 8 infoInt rfl (by omega) Try.underlying22 A q c (ints l) rfl (HO.out.alloc _) (some ⟨w4.heap.size, 0, none⟩) 1 1 [.int .i64 y] rfl (reads_new _ _ _) (by simp [Value.oneCell']) (by omega) (by omega) (by have := HZ.out; simp; omega) ?_; intro A' c' w5 hown5 hg5 hb5)
        have hb6 : Below w.heap.size w4 w5 := ((Below.refl _ _).alloc HZ.out _).trans hb5
        have HO5 := Lib.hid hown5; have HC5 := Lib.hid (HC.out.below' hb6 HGW.out); have HD5 := Lib.hid (Drew.then_below HD.out hb6)
        clear hown5 hg5 hb5 hb6
        go_roundw
        case rel => exact ⟨A', q + 1, c', l ++ [y], rfl, by simp [HLQ.out], by omega, HSM.out.snoc hyb, by rw [← ints_snoc]; exact HO5.out, HC5.out.mono (by omega), HD5.out⟩
        case measure => simp [lenV]; omega
      · obtain rfl : q = N := by omega
        have HC := Lib.hid (HC.out.mono (k' := k + 6 + 4 * 61) (by omega))
        by_cases h0 : q = 0
        · subst h0
          go_wp2
          go_ret
          obtain rfl : l = [] := List.eq_nil_of_length_eq_zero HLQ.out
          exact ⟨A, c, [], rfl, by simp, HSM.out, HO.out, HC.out.mono (by omega), HD.out⟩
        · -- the last draws
          go_wp2_with fail
          refine (one_any g _ (20) _ (by omega) (by omega) HC.out).mono ?_
          rintro e w3 ⟨b2, rfl, hc, hd⟩
          have HC := Lib.hid hc; have HD1 := Lib.hid hd; have HD := Lib.hid (HD.out.trans hd)
          clear hc hd
          have HO := Lib.hid (Drew.own HD1.out HO.out HGW.out)
          cases b2 with
          | false =>
            go_wp2
            go_ret
            have HCF := HC; have HOF := HO; have HDF := HD
            have e1 := HLQ.out
            subst e1
            exact ⟨A, c, l, rfl, by omega, HSM.out, HOF.out, HCF.out.mono (by omega), HDF.out⟩
          | true =>
            go_wp2_with fail
            refine (pick_any g _ (q) _ (by omega) (by omega) HC.out).mono ?_
            rintro e w4 ⟨i, rfl, hi, hi', hc, hd⟩
            have HC := Lib.hid hc; have HD1 := Lib.hid hd; have HD := Lib.hid (HD.out.trans hd)
            clear hc hd
            have HO := Lib.hid (Drew.own HD1.out HO.out HGW.out)
            go_wp2_with fail
            refine (amongLit_any g _ [-1, 200, 201] 3 _ _ _ rfl rfl (by omega) (by simp) (by simp) HC.out).mono ?_
            rintro e w5 ⟨v, hv, rfl, hc, hd⟩
            have hvb : -1 ≤ v ∧ v ≤ 201 := by simp at hv; omega
            have HC := Lib.hid hc; have HD1 := Lib.hid hd; have HD := Lib.hid (HD.out.trans hd)
            clear hc hd hv
            have HO := Lib.hid (Drew.own HD1.out HO.out HGW.out)
            have hiq : i < q := by omega
            obtain ⟨ga, rfl, hga⟩ := own_at0 HO.out (by omega)
            have hql : i < l.length := by have := HLQ.out; omega
            have k0 : w5.cell? ⟨ga, i, none⟩ = some (.int .i64 l[i]) := by
              rw [HO.out.cellAt i (by omega)]
              simp [ints, hql]
            have f0 : w5.frozen? ⟨ga, i, none⟩ = false := HO.out.frozenAt i
            have hx0 : (0 : Int) ≤ (i : Int) := by omega
            have hx1 : (i : Int) < (q : Int) := by omega
            have HS := (HO.out.stored i (.int .i64 v)).1
            rw [ints_setB] at HS
            have hbs : Below w.heap.size w5 (w5.setCell ⟨ga, i, none⟩ (.int .i64 v)) := (Below.refl _ _).setCell (p := ⟨ga, i, none⟩) hga _
            have HSS := Lib.hid HS; have HC6 := Lib.hid (HC.out.below' hbs HGW.out); have HD6 := Lib.hid (Drew.then_below HD.out hbs)
            clear HS hbs
            go_wp2
            go_ret
            have e1 := HLQ.out
            subst e1
            exact ⟨some ⟨ga, 0, none⟩, c, l.set i v, by simp, by simp; omega, HSM.out.set hvb i, by simpa using HSS.out, HC6.out.mono (by omega), HD6.out⟩
  | true =>
    go_wp2_with fail
    refine (pick_any g _ (2) _ (by omega) (by omega) HC.out).mono ?_
    rintro e w3 ⟨y, rfl, hy, hy', hc, hd⟩
    have HC := Lib.hid hc; have HD1 := Lib.hid hd; have HD := Lib.hid (HD.out.trans hd)
    clear hc hd
    clear hN hN'
    have hyb : (y : Int) ≤ 1 := by omega
    go_wp2
    obtain ⟨M, hM⟩ : ∃ M : Nat, M = 60 + y := ⟨_, rfl⟩
    have e1 : (60 : Int) + (y : Int) = (M : Int) := by omega
    rw [e1]
    have hM' : M ≤ 61 := by omega
    clear e1 hM hyb hy hy'
    have HKK : Hid (True) := Lib.hid trivial
    have HC := Lib.hid (HC.out.mono (k' := k + 6) (by omega))
    have HST : Hid (Drew g w _ ∧ Cur _ g (k + 6)) := Lib.hid ⟨HD.out, HC.out⟩
    clear HD1 HD HC
    go_loopw [3] (fun o wr => ∃ A q c l, o = .slice A q c ∧ List.length l = q ∧ q ≤ M ∧ smallL (-1) 201 l ∧ wr.ownsRow w.heap.size 3 1 (.slice A q c) q (ints l) ∧ Cur wr g (k + 6 + 4 * q) ∧ Drew g w wr) (fun o _ => M - lenV o)
    case atStart => exact ⟨none, 0, 0, [], rfl, rfl, Nat.zero_le _, fun y hy => (by cases hy), own_start, HST.out.2, HST.out.1⟩
    case round =>
      obtain ⟨A, q, c, l, rfl, hlq, hq, hsm, hown, hc, hd⟩ := hrel
      clear HST
      have HLQ := Lib.hid hlq; have HSM := Lib.hid hsm; have HO := Lib.hid hown; have HC := Lib.hid hc; have HD := Lib.hid hd
      clear hlq hsm hown hc hd
      by_cases hlt : q < M
      · go_wp2_with fail
        refine (pick_any g _ (30) _ (by omega) (by omega) HC.out).mono ?_
        rintro e w3 ⟨x, rfl, hx, hx', hc, hd⟩
        have HC := Lib.hid hc; have HD1 := Lib.hid hd; have HD := Lib.hid (HD.out.trans hd)
        clear hc hd
        have HO := Lib.hid (Drew.own HD1.out HO.out HGW.out)
        go_wp2_with fail
        refine (amongLit_any g _ [0, 0, 1, 2, 3, 5, 9, (x : Int)] 3 _ _ _ rfl rfl (by omega) (by simp) (by simp) HC.out).mono ?_
        rintro e w4 ⟨y, hy, rfl, hc, hd⟩
        have hyb : -1 ≤ y ∧ y ≤ 201 := by simp at hy; omega
        have HC := Lib.hid hc; have HD1 := Lib.hid hd; have HD := Lib.hid (HD.out.trans hd)
        clear hc hd hy
        have HO := Lib.hid (Drew.own HD1.out HO.out HGW.out)
        have HZ : Hid (w.heap.size ≤ w4.heap.size) := Lib.hid HD.out.size
        go_wp2_with (at_builtin; refine wpList_push _ rfl (.tmp 16) (.tmp 22) 22 rfl w.heap.size 3 (.int .i64 0) 1 8 infoInt rfl (by omega) Try.underlying22 A q c (ints l) rfl (HO.out.alloc _) (some ⟨w4.heap.size, 0, none⟩) 1 1 [.int .i64 y] rfl (reads_new _ _ _) (by simp [Value.oneCell']) (by omega) (by omega) (by have := HZ.out; simp; omega) ?_; intro A' c' w5 hown5 hg5 hb5)
        have hb6 : Below w.heap.size w4 w5 := ((Below.refl _ _).alloc HZ.out _).trans hb5
        have HO5 := Lib.hid hown5; have HC5 := Lib.hid (HC.out.below' hb6 HGW.out); have HD5 := Lib.hid (Drew.then_below HD.out hb6)
        clear hown5 hg5 hb5 hb6
        go_roundw
        case rel => exact ⟨A', q + 1, c', l ++ [y], rfl, by simp [HLQ.out], by omega, HSM.out.snoc hyb, by rw [← ints_snoc]; exact HO5.out, HC5.out.mono (by omega), HD5.out⟩
        case measure => simp [lenV]; omega
      · obtain rfl : q = M := by omega
        have HC := Lib.hid (HC.out.mono (k' := k + 6 + 4 * 61) (by omega))
        by_cases h0 : q = 0
        · subst h0
          go_wp2
          go_ret
          obtain rfl : l = [] := List.eq_nil_of_length_eq_zero HLQ.out
          exact ⟨A, c, [], rfl, by simp, HSM.out, HO.out, HC.out.mono (by omega), HD.out⟩
        · -- the last draws
          go_wp2_with fail
          refine (one_any g _ (20) _ (by omega) (by omega) HC.out).mono ?_
          rintro e w3 ⟨b2, rfl, hc, hd⟩
          have HC := Lib.hid hc; have HD1 := Lib.hid hd; have HD := Lib.hid (HD.out.trans hd)
          clear hc hd
          have HO := Lib.hid (Drew.own HD1.out HO.out HGW.out)
          cases b2 with
          | false =>
            go_wp2
            go_ret
            have HCF := HC; have HOF := HO; have HDF := HD
            have e1 := HLQ.out
            subst e1
            exact ⟨A, c, l, rfl, by omega, HSM.out, HOF.out, HCF.out.mono (by omega), HDF.out⟩
          | true =>
            go_wp2_with fail
            refine (pick_any g _ (q) _ (by omega) (by omega) HC.out).mono ?_
            rintro e w4 ⟨i, rfl, hi, hi', hc, hd⟩
            have HC := Lib.hid hc; have HD1 := Lib.hid hd; have HD := Lib.hid (HD.out.trans hd)
            clear hc hd
            have HO := Lib.hid (Drew.own HD1.out HO.out HGW.out)
            go_wp2_with fail
            refine (amongLit_any g _ [-1, 200, 201] 3 _ _ _ rfl rfl (by omega) (by simp) (by simp) HC.out).mono ?_
            rintro e w5 ⟨v, hv, rfl, hc, hd⟩
            have hvb : -1 ≤ v ∧ v ≤ 201 := by simp at hv; omega
            have HC := Lib.hid hc; have HD1 := Lib.hid hd; have HD := Lib.hid (HD.out.trans hd)
            clear hc hd hv
            have HO := Lib.hid (Drew.own HD1.out HO.out HGW.out)
            have hiq : i < q := by omega
            obtain ⟨ga, rfl, hga⟩ := own_at0 HO.out (by omega)
            have hql : i < l.length := by have := HLQ.out; omega
            have k0 : w5.cell? ⟨ga, i, none⟩ = some (.int .i64 l[i]) := by
              rw [HO.out.cellAt i (by omega)]
              simp [ints, hql]
            have f0 : w5.frozen? ⟨ga, i, none⟩ = false := HO.out.frozenAt i
            have hx0 : (0 : Int) ≤ (i : Int) := by omega
            have hx1 : (i : Int) < (q : Int) := by omega
            have HS := (HO.out.stored i (.int .i64 v)).1
            rw [ints_setB] at HS
            have hbs : Below w.heap.size w5 (w5.setCell ⟨ga, i, none⟩ (.int .i64 v)) := (Below.refl _ _).setCell (p := ⟨ga, i, none⟩) hga _
            have HSS := Lib.hid HS; have HC6 := Lib.hid (HC.out.below' hbs HGW.out); have HD6 := Lib.hid (Drew.then_below HD.out hbs)
            clear HS hbs
            go_wp2
            go_ret
            have e1 := HLQ.out
            subst e1
            exact ⟨some ⟨ga, 0, none⟩, c, l.set i v, by simp, by simp; omega, HSM.out.set hvb i, by simpa using HSS.out, HC6.out.mono (by omega), HD6.out⟩

end Go.Proofs.Ytgdlaeibdpbgdaa
