/- The spec's drawings of fog and of forecasts: what they return is short and small. No conditions. -/
import Derived.Test.YthpfgmnhpnfopaaDrL
namespace Go.Proofs.Ythpfgmnhpnfopaa
set_option linter.unusedSimpArgs false
set_option linter.unusedVariables false
open Go.RowKit

theorem bools_snoc (l : List Bool) (x : Bool) : bools l ++ [.bool x] = bools (l ++ [x]) := by simp [bools]

set_option maxHeartbeats 2000000 in
set_option maxRecDepth 100000 in
theorem fogSlots_any (g k : Nat) (w : World) (hk : k ≤ 10000000000) (h : Cur w g k) :
    Calls Try.prog 114 #[.pointer (some ⟨g, 0, none⟩)] w fun e w' => ∃ A c l, e = .returned (.slice A (List.length l) c) ∧ l.length ≤ 21 ∧ w'.ownsRow w.heap.size 4 1 (.slice A l.length c) l.length (bools l) ∧ Cur w' g (k + 100) ∧ Drew g w w' := by
  have HC := Lib.hid h
  have HD : Hid (Drew g w w) := Lib.hid Turned.refl
  have HGW : Hid (g < w.heap.size) := Lib.hid h.lt
  clear h
  go_enter Try.func114, Try.ntmps114
  go_wp2_with fail
  refine (pick_any g _ (8) _ (by omega) (by omega) HC.out).mono ?_
  rintro e w1 ⟨N, rfl, hN, hN', hc, hd⟩
  have HC := Lib.hid hc; have HD1 := Lib.hid hd; have HD := Lib.hid (HD.out.trans hd)
  clear hc hd
  go_wp2_with fail
  refine (one_any g _ (20) _ (by omega) (by omega) HC.out).mono ?_
  rintro e w2 ⟨b, rfl, hc, hd⟩
  have HC := Lib.hid hc; have HD1 := Lib.hid hd; have HD := Lib.hid (HD.out.trans hd)
  clear hc hd
  cases b with
  | false =>
    have hN : N ≤ 21 := by omega
    go_wp2_with fail
    refine (amongLit_any g _ [2, 3, 1] 3 _ _ _ rfl rfl (by omega) (by simp) (by simp) HC.out).mono ?_
    rintro e w4 ⟨few, hfew, rfl, hc, hd⟩
    have hfewb : 1 ≤ few ∧ few ≤ 3 := by simp at hfew; omega
    have HC := Lib.hid hc; have HD1 := Lib.hid hd; have HD := Lib.hid (HD.out.trans hd)
    clear hc hd hfew
    have HC := Lib.hid (HC.out.mono (k' := k + 10) (by omega))
    have HST : Hid (Drew g w _ ∧ Cur _ g (k + 10)) := Lib.hid ⟨HD.out, HC.out⟩
    clear HD1 HD HC
    go_wp2
    go_loopw [3] (fun o wr => ∃ A q c l, o = .slice A q c ∧ List.length l = q ∧ q ≤ N ∧ wr.ownsRow w.heap.size 4 1 (.slice A q c) q (bools l) ∧ Cur wr g (k + 10 + 2 * q) ∧ Drew g w wr) (fun o _ => N - lenV o)
    case atStart => exact ⟨none, 0, 0, [], rfl, rfl, Nat.zero_le _, own_start, HST.out.2, HST.out.1⟩
    case round =>
      obtain ⟨A, q, c, l, rfl, hlq, hq, hown, hc, hd⟩ := hrel
      clear HST
      have HLQ := Lib.hid hlq; have HO := Lib.hid hown; have HC := Lib.hid hc; have HD := Lib.hid hd
      clear hlq hown hc hd
      by_cases hlt : q < N
      · go_wp2_with fail
        refine (one_any g _ (few) _ (by omega) (by omega) HC.out).mono ?_
        rintro e w5 ⟨b, rfl, hc, hd⟩
        have HC := Lib.hid hc; have HD1 := Lib.hid hd; have HD := Lib.hid (HD.out.trans hd)
        clear hc hd
        have HO := Lib.hid (Drew.own HD1.out HO.out HGW.out)
        have HZ : Hid (w.heap.size ≤ w5.heap.size) := Lib.hid HD.out.size
        go_wp2_with (at_builtin; refine wpList_push _ rfl (.tmp 20) (.tmp 24) 28 rfl w.heap.size 4 (.bool false) 1 1 infoBool rfl (by omega) Try.underlying28 A q c (bools l) rfl (HO.out.alloc _) (some ⟨w5.heap.size, 0, none⟩) 1 1 [.bool b] rfl (reads_new _ _ _) (by simp [Value.oneCell']) (by omega) (by omega) (by have := HZ.out; simp; omega) ?_; intro A' c' w6 hown6 hg6 hb6)
        have hb7 : Below w.heap.size w5 w6 := ((Below.refl _ _).alloc HZ.out _).trans hb6
        have HO6 := Lib.hid hown6; have HC6 := Lib.hid (HC.out.below' hb7 HGW.out); have HD6 := Lib.hid (Drew.then_below HD.out hb7)
        clear hown6 hg6 hb6 hb7
        go_roundw
        case rel => exact ⟨A', q + 1, c', l ++ [b], rfl, by simp [HLQ.out], by omega, by rw [← bools_snoc]; exact HO6.out, HC6.out.mono (by omega), HD6.out⟩
        case measure => simp [lenV]; omega
      · obtain rfl : q = N := by omega
        have HC := Lib.hid (HC.out.mono (k' := k + 52) (by omega))
        go_wp2
        go_ret
        have HCF := HC; have HOF := HO; have HDF := HD
        have e1 := HLQ.out
        subst e1
        exact ⟨A, c, l, rfl, by omega, HOF.out, HCF.out.mono (by omega), HDF.out⟩
  | true =>
    go_wp2_with fail
    refine (pick_any g _ (2) _ (by omega) (by omega) HC.out).mono ?_
    rintro e w3 ⟨y, rfl, hy, hy', hc, hd⟩
    have HC := Lib.hid hc; have HD1 := Lib.hid hd; have HD := Lib.hid (HD.out.trans hd)
    clear hc hd
    clear hN hN'
    have hyb : (y : Int) ≤ 1 := by omega
    go_wp2_with fail
    obtain ⟨M, hM⟩ : ∃ M : Nat, M = 20 + y := ⟨_, rfl⟩
    have e1 : (20 : Int) + (y : Int) = (M : Int) := by omega
    rw [e1]
    have hM' : M ≤ 21 := by omega
    clear e1 hM hyb hy hy'
    go_wp2_with fail
    refine (amongLit_any g _ [2, 3, 1] 3 _ _ _ rfl rfl (by omega) (by simp) (by simp) HC.out).mono ?_
    rintro e w4 ⟨few, hfew, rfl, hc, hd⟩
    have hfewb : 1 ≤ few ∧ few ≤ 3 := by simp at hfew; omega
    have HC := Lib.hid hc; have HD1 := Lib.hid hd; have HD := Lib.hid (HD.out.trans hd)
    clear hc hd hfew
    have HC := Lib.hid (HC.out.mono (k' := k + 10) (by omega))
    have HST : Hid (Drew g w _ ∧ Cur _ g (k + 10)) := Lib.hid ⟨HD.out, HC.out⟩
    clear HD1 HD HC
    go_wp2
    go_loopw [3] (fun o wr => ∃ A q c l, o = .slice A q c ∧ List.length l = q ∧ q ≤ M ∧ wr.ownsRow w.heap.size 4 1 (.slice A q c) q (bools l) ∧ Cur wr g (k + 10 + 2 * q) ∧ Drew g w wr) (fun o _ => M - lenV o)
    case atStart => exact ⟨none, 0, 0, [], rfl, rfl, Nat.zero_le _, own_start, HST.out.2, HST.out.1⟩
    case round =>
      obtain ⟨A, q, c, l, rfl, hlq, hq, hown, hc, hd⟩ := hrel
      clear HST
      have HLQ := Lib.hid hlq; have HO := Lib.hid hown; have HC := Lib.hid hc; have HD := Lib.hid hd
      clear hlq hown hc hd
      by_cases hlt : q < M
      · go_wp2_with fail
        refine (one_any g _ (few) _ (by omega) (by omega) HC.out).mono ?_
        rintro e w5 ⟨b, rfl, hc, hd⟩
        have HC := Lib.hid hc; have HD1 := Lib.hid hd; have HD := Lib.hid (HD.out.trans hd)
        clear hc hd
        have HO := Lib.hid (Drew.own HD1.out HO.out HGW.out)
        have HZ : Hid (w.heap.size ≤ w5.heap.size) := Lib.hid HD.out.size
        go_wp2_with (at_builtin; refine wpList_push _ rfl (.tmp 20) (.tmp 24) 28 rfl w.heap.size 4 (.bool false) 1 1 infoBool rfl (by omega) Try.underlying28 A q c (bools l) rfl (HO.out.alloc _) (some ⟨w5.heap.size, 0, none⟩) 1 1 [.bool b] rfl (reads_new _ _ _) (by simp [Value.oneCell']) (by omega) (by omega) (by have := HZ.out; simp; omega) ?_; intro A' c' w6 hown6 hg6 hb6)
        have hb7 : Below w.heap.size w5 w6 := ((Below.refl _ _).alloc HZ.out _).trans hb6
        have HO6 := Lib.hid hown6; have HC6 := Lib.hid (HC.out.below' hb7 HGW.out); have HD6 := Lib.hid (Drew.then_below HD.out hb7)
        clear hown6 hg6 hb6 hb7
        go_roundw
        case rel => exact ⟨A', q + 1, c', l ++ [b], rfl, by simp [HLQ.out], by omega, by rw [← bools_snoc]; exact HO6.out, HC6.out.mono (by omega), HD6.out⟩
        case measure => simp [lenV]; omega
      · obtain rfl : q = M := by omega
        have HC := Lib.hid (HC.out.mono (k' := k + 52) (by omega))
        go_wp2
        go_ret
        have HCF := HC; have HOF := HO; have HDF := HD
        have e1 := HLQ.out
        subst e1
        exact ⟨A, c, l, rfl, by omega, HOF.out, HCF.out.mono (by omega), HDF.out⟩

set_option maxHeartbeats 2000000 in
set_option maxRecDepth 100000 in
theorem forecast_any (g k : Nat) (w : World) (hk : k ≤ 10000000000) (h : Cur w g k) :
    Calls Try.prog 89 #[.pointer (some ⟨g, 0, none⟩)] w fun e w' => ∃ A n c l B d fs, e = .returned (.tuple #[.slice A n c, .slice B (List.length fs) d]) ∧ fs.length ≤ 21 ∧ n ≤ 21 ∧ Reads w' 1 A n (ints l) ∧ w'.ownsRow w.heap.size 4 1 (.slice B fs.length d) fs.length (bools fs) ∧ Cur w' g (k + 300) ∧ Drew g w w' ∧ (∀ ad, A = some ad → 0 < n → w.heap.size ≤ ad.block) := by
  have HC := Lib.hid h
  have HGW : Hid (g < w.heap.size) := Lib.hid h.lt
  clear h
  go_enter Try.func89, Try.ntmps89
  go_wp2_with fail
  refine (fogSlots_any g k w (by omega) HC.out).mono ?_
  rintro e w1 ⟨B, d, fs, rfl, hfl, hown, hc, hd⟩
  have HC := Lib.hid hc; have HF := Lib.hid hown; have HW := Lib.hid hd
  clear hown hc hd
  have HZ1 : Hid (w.heap.size ≤ w1.heap.size) := Lib.hid HW.out.size
  have HG1 : Hid (g < w1.heap.size) := Lib.hid (by have h1 := HGW.out; have h2 := HZ1.out; omega)
  go_wp2
  go_loopw [5, 10] (fun o i wr => ∃ A q c l, i = .int .i64 (q : Nat) ∧ o = .slice A q c ∧ List.length l = q ∧ q ≤ fs.length ∧ wr.ownsRow w1.heap.size 3 1 (.slice A q c) q (ints l) ∧ Cur wr g (k + 100 + 4 * q) ∧ Drew g w1 wr) (fun o _ _ => fs.length - lenV o)
  case atStart => exact ⟨none, 0, 0, [], rfl, rfl, rfl, Nat.zero_le _, own_start, HC.out, Turned.refl⟩
  case round =>
    obtain ⟨A, q, c, l, rfl, rfl, hlq, hq, hown, hc, hd⟩ := hrel
    have HLQ := Lib.hid hlq; have HO := Lib.hid hown; have HC := Lib.hid hc; have HD := Lib.hid hd
    clear hlq hown hc hd
    by_cases hlt : q < fs.length
    · go_wp2_with fail
      refine (pick_any g _ (101) _ (by omega) (by omega) HC.out).mono ?_
      rintro e w3 ⟨x, rfl, hx, hx', hc, hd⟩
      have HC := Lib.hid hc; have HD1 := Lib.hid hd; have HD := Lib.hid (HD.out.trans hd)
      clear hc hd
      have HO := Lib.hid (Drew.own HD1.out HO.out HG1.out)
      go_wp2_with fail
      refine (amongLit_any g _ [0, 15, 50, 60, 100, (x : Int)] 3 _ _ _ rfl rfl (by omega) (by simp) (by simp) HC.out).mono ?_
      rintro e w4 ⟨y, hy, rfl, hc, hd⟩
      have hyb : 0 ≤ y ∧ y ≤ 65535 := by simp at hy; omega
      have HC := Lib.hid hc; have HD1 := Lib.hid hd; have HD := Lib.hid (HD.out.trans hd)
      clear hc hd hy
      have HO := Lib.hid (Drew.own HD1.out HO.out HG1.out)
      have HZ : Hid (w1.heap.size ≤ w4.heap.size) := Lib.hid HD.out.size
      go_wp2_with (at_builtin; refine wpList_push _ rfl (.tmp 12) (.tmp 18) 33 rfl w1.heap.size 3 (.int .i64 0) 1 8 infoInt rfl (by omega) Try.underlying33 A q c (ints l) rfl (HO.out.alloc _) (some ⟨w4.heap.size, 0, none⟩) 1 1 [.int .i64 y] rfl (reads_new _ _ _) (by simp [Value.oneCell']) (by omega) (by omega) (by have := HZ.out; simp; omega) ?_; intro A' c' w5 hown5 hg5 hb5)
      have hb6 : Below w1.heap.size w4 w5 := ((Below.refl _ _).alloc HZ.out _).trans hb5
      have HO5 := Lib.hid hown5; have HC5 := Lib.hid (HC.out.below' hb6 HG1.out); have HD5 := Lib.hid (Drew.then_below HD.out hb6)
      clear hown5 hg5 hb5 hb6
      go_roundw
      case rel => exact ⟨A', q + 1, c', l ++ [y], by go_num, rfl, by simp [HLQ.out], by omega, by rw [← ints_snoc]; exact HO5.out, HC5.out.mono (by omega), HD5.out⟩
      case measure => simp [lenV]; omega
    · have hqb : q ≤ 21 := by omega
      have HC := Lib.hid (HC.out.mono (k' := k + 184) (by omega))

      have hpl : ∀ (W : World) (A : Option Addr) (n' c' : Nat) (l' : List Int), W.ownsRow w1.heap.size 3 1 (.slice A n' c') n' (ints l') → ∀ ad, A = some ad → 0 < n' → w.heap.size ≤ ad.block := fun W A n' c' l' ho ad ha h0 => by
        obtain ⟨ga, e, hb⟩ := own_at0 ho h0
        rw [ha] at e
        injection e with e
        subst e
        have := HZ1.out
        simp only
        omega
      have HPL := Lib.hid hpl
      clear hpl
      by_cases h0 : q = 0
      · subst h0
        go_wp2
        go_ret2
        exact ⟨A, 0, c, l, B, d, fs, rfl, hfl, by omega, .of_own HO.out, Drew.own HD.out HF.out HGW.out, HC.out.mono (by omega), HW.out.trans HD.out, fun _ _ h => absurd h (by omega)⟩
      · go_wp2_with fail
        refine (pick_any g _ (24) _ (by omega) (by omega) HC.out).mono ?_
        rintro e w3 ⟨v, rfl, hv, hv', hc, hd⟩
        have HC := Lib.hid hc; have HD1 := Lib.hid hd; have HD := Lib.hid (HD.out.trans hd)
        clear hc hd
        have HO := Lib.hid (Drew.own HD1.out HO.out HG1.out)
        by_cases hv0 : v = 0
        · subst hv0
          go_wp2_with fail
          refine (amongLit_any g _ [-1, 101] 3 _ _ _ rfl rfl (by omega) (by simp) (by simp) HC.out).mono ?_
          rintro e w4 ⟨y, hy, rfl, hc, hd⟩
          have hyb : -1 ≤ y ∧ y ≤ 101 := by simp at hy; omega
          have HC := Lib.hid hc; have HD1 := Lib.hid hd; have HD := Lib.hid (HD.out.trans hd)
          clear hc hd hy
          have HO := Lib.hid (Drew.own HD1.out HO.out HG1.out)
          obtain ⟨ga, rfl, hga⟩ := own_at0 HO.out (by omega)
          have hql : 0 < l.length := by have := HLQ.out; omega
          have k0 : w4.cell? ⟨ga, 0, none⟩ = some (.int .i64 l[0]) := by
            rw [HO.out.cellAt 0 (by omega)]
            simp [ints, hql]
          have f0 : w4.frozen? ⟨ga, 0, none⟩ = false := HO.out.frozenAt 0
          have hx1 : (0 : Int) < (q : Int) := by omega
          have HS := (HO.out.stored 0 (.int .i64 y)).1
          rw [ints_set] at HS
          have hbs : Below w1.heap.size w4 (w4.setCell ⟨ga, 0, none⟩ (.int .i64 y)) := (Below.refl _ _).setCell (p := ⟨ga, 0, none⟩) hga _
          have HSS := Lib.hid HS; have HC6 := Lib.hid (HC.out.below' hbs HG1.out); have HD6 := Lib.hid (Drew.then_below HD.out hbs)
          clear HS hbs
          go_wp2
          go_ret2
          exact ⟨some ⟨ga, 0, none⟩, q, c, l.set 0 y, B, d, fs, rfl, hfl, by omega, .of_own HSS.out, Drew.own HD6.out HF.out HGW.out, HC6.out.mono (by omega), HW.out.trans HD6.out, HPL.out _ _ _ _ _ HSS.out⟩
        · by_cases hv1 : v = 1
          · subst hv1
            have hcc := own_cap HO.out
            obtain ⟨ga, rfl, hga⟩ := own_at0 HO.out (by omega)
            have HRC := Lib.hid ((Reads.of_own HO.out).cut (m := 1) (cap := c) (by omega) hcc)
            have HGA := Lib.hid hga
            clear hga
            by_cases hc1 : c = 1
            · have HCF := HC; have HDF := HD
              obtain rfl : q = 1 := by omega
              subst hc1
              go_wp2
              go_ret2
              exact ⟨some ⟨ga, 0, none⟩, 0, 0, [], B, d, fs, rfl, hfl, by omega, Reads.nil, Drew.own HDF.out HF.out HGW.out, HCF.out.mono (by omega), HW.out.trans HDF.out, fun _ _ h => absurd h (by omega)⟩
            · have HR1 : Hid (Reads w3 1 (some ⟨ga, 1, none⟩) (q - 1) (ints (l.drop 1))) := Lib.hid (by
                have h1 := HRC.out
                rw [if_neg hc1] at h1
                simpa [Addr.add, ints, List.map_drop] using h1)
              clear HRC
              go_wp2
              go_ret2
              exact ⟨some ⟨ga, 1, none⟩, q - 1, c - 1, l.drop 1, B, d, fs, rfl, hfl, by omega, HR1.out, Drew.own HD.out HF.out HGW.out, HC.out.mono (by omega), HW.out.trans HD.out, fun ad ha _ => by injection ha with ha; subst ha; have h1 := HGA.out; have h2 := HZ1.out; simp only; omega⟩
          · have hvne0 : ((v : Int) == 0) = false := by rw [beq_eq_false_iff_ne]; omega
            have hvne1 : ((v : Int) == 1) = false := by rw [beq_eq_false_iff_ne]; omega
            go_wp2
            go_ret2
            exact ⟨A, q, c, l, B, d, fs, rfl, hfl, by omega, .of_own HO.out, Drew.own HD.out HF.out HGW.out, HC.out.mono (by omega), HW.out.trans HD.out, HPL.out _ _ _ _ _ HO.out⟩

set_option maxHeartbeats 1000000 in
theorem drawForecastLoss_any (A : Option Addr) (n c : Nat) (l : List Int) (w : World) (hn : n ≤ 9223372036854775807) (hl : ∀ x ∈ l, 0 ≤ x ∧ x ≤ 255) (h : Reads w 1 A n (bytesV l)) :
    Calls Try.prog 40 #[.slice A n c] w fun e w' => ∃ B m d xs D p fs, e = .returned (.tuple #[.slice B m d, .slice D (List.length fs) p]) ∧ fs.length ≤ 21 ∧ m ≤ 21 ∧ Reads w' 1 B m (ints xs) ∧ w'.ownsRow w.heap.size 4 1 (.slice D fs.length p) fs.length (bools fs) ∧ Below w.heap.size w w' := by
  have HB0 : Hid (Below w.heap.size w (w.alloc (.cells #[.slice A n c, .int .i64 0, .int .u64 0] 100))) := Lib.hid ((Below.refl _ _).alloc (Nat.le_refl _) _)
  have HZ0 : Hid ((w.alloc (.cells #[.slice A n c, .int .i64 0, .int .u64 0] 100)).heap.size = w.heap.size + 1) := Lib.hid (by simp)
  have HC := Lib.hid (Cur.new (c := c) h hn hl)
  clear h hl
  go_enter Try.func40, Try.ntmps40
  go_wp2_with fail
  refine (forecast_any w.heap.size 0 _ (by omega) HC.out).mono ?_
  rintro e w1 ⟨B, m, d, xs, D, p, fs, rfl, hf, hm, hr, ho, _, hd, _⟩
  have HR := Lib.hid hr; have HO := Lib.hid (own_mono ho (base' := w.heap.size) (by simp)); have HD := Lib.hid (hd.allB (Nat.le_refl w.heap.size) (by have := HZ0.out; omega))
  clear hr ho hd
  go_wp2
  go_ret2
  exact ⟨B, m, d, xs, D, p, fs, rfl, hf, hm, HR.out, HO.out, HB0.out.trans HD.out⟩
set_option maxHeartbeats 1000000 in
theorem drawHitCounts_any (A : Option Addr) (n c : Nat) (l : List Int) (w : World) (hn : n ≤ 9223372036854775807) (hl : ∀ x ∈ l, 0 ≤ x ∧ x ≤ 255) (h : Reads w 1 A n (bytesV l)) :
    Calls Try.prog 41 #[.slice A n c] w fun e w' => ∃ B m d xs D p fs q, e = .returned (.tuple #[.slice B m d, .slice D (List.length fs) p, .int .i64 q]) ∧ fs.length ≤ 21 ∧ m ≤ 21 ∧ Reads w' 1 B m (ints xs) ∧ w'.ownsRow w.heap.size 4 1 (.slice D fs.length p) fs.length (bools fs) ∧ Below w.heap.size w w' := by
  have HB0 : Hid (Below w.heap.size w (w.alloc (.cells #[.slice A n c, .int .i64 0, .int .u64 0] 100))) := Lib.hid ((Below.refl _ _).alloc (Nat.le_refl _) _)
  have HZ0 : Hid ((w.alloc (.cells #[.slice A n c, .int .i64 0, .int .u64 0] 100)).heap.size = w.heap.size + 1) := Lib.hid (by simp)
  have HC := Lib.hid (Cur.new (c := c) h hn hl)
  clear h hl
  go_enter Try.func41, Try.ntmps41
  go_wp2_with fail
  refine (forecast_any w.heap.size 0 _ (by omega) HC.out).mono ?_
  rintro e w1 ⟨B, m, d, xs, D, p, fs, rfl, hf, hm, hr, ho, hc, hd, hpl⟩
  have HPL : Hid (0 < m → ∀ ad, B = some ad → ad.block ≠ w.heap.size) := Lib.hid (fun h0 ad e => by have := hpl ad e h0; have := HZ0.out; omega)
  have HR := Lib.hid hr; have HO := Lib.hid ho; have HD := Lib.hid hd; have HC := Lib.hid hc
  clear hr ho hd hc hpl
  have RD : ∀ (u v : World), Reads u 1 B m (ints xs) → Drew w.heap.size u v → Reads v 1 B m (ints xs) := fun u v hr hd => by
    rcases Nat.eq_zero_or_pos m with h0 | h0
    · exact ⟨hr.1, fun h => absurd h (by omega)⟩
    · exact reads_drew hr (HPL.out h0) hd
  have HRD := Lib.hid RD
  clear RD
  go_wp2_with fail
  refine (amongLit_any w.heap.size _ [101, -1] 3 _ _ _ rfl rfl (by omega) (by simp) (by simp) HC.out).mono ?_
  rintro e w2 ⟨x, _, rfl, hc, hd⟩
  have HR := Lib.hid (HRD.out _ _ HR.out hd); have HO := Lib.hid (Drew.own hd HO.out (by have := HZ0.out; omega)); have HD := Lib.hid (HD.out.trans hd); have HC := Lib.hid hc
  clear hd hc
  go_wp2_with fail
  refine (amongLit_any w.heap.size _ [0, 15, 50, 51, 100, x] 3 _ _ _ rfl rfl (by omega) (by simp) (by simp) HC.out).mono ?_
  rintro e w3 ⟨y, _, rfl, hc, hd⟩
  have HR := Lib.hid (HRD.out _ _ HR.out hd); have HO := Lib.hid (own_mono (Drew.own hd HO.out (by have := HZ0.out; omega)) (base' := w.heap.size) (by have := HZ0.out; omega)); have HD := Lib.hid (HD.out.trans hd)
  clear hd hc
  go_wp2
  go_ret3
  exact ⟨B, m, d, xs, D, p, fs, y, rfl, hf, hm, HR.out, HO.out, HB0.out.trans (Drew.allB HD.out (Nat.le_refl w.heap.size) (by have := HZ0.out; omega))⟩
theorem drawBestConstant_any (A : Option Addr) (n c : Nat) (l : List Int) (w : World) (hn : n ≤ 9223372036854775807) (hl : ∀ x ∈ l, 0 ≤ x ∧ x ≤ 255) (h : Reads w 1 A n (bytesV l)) :
    Calls Try.prog 91 #[.slice A n c] w fun e w' => ∃ D p fs, e = .returned (.slice D (List.length fs) p) ∧ fs.length ≤ 21 ∧ w'.ownsRow w.heap.size 4 1 (.slice D fs.length p) fs.length (bools fs) ∧ Below w.heap.size w w' := by
  have HB0 : Hid (Below w.heap.size w (w.alloc (.cells #[.slice A n c, .int .i64 0, .int .u64 0] 100))) := Lib.hid ((Below.refl _ _).alloc (Nat.le_refl _) _)
  have HZ0 : Hid ((w.alloc (.cells #[.slice A n c, .int .i64 0, .int .u64 0] 100)).heap.size = w.heap.size + 1) := Lib.hid (by simp)
  have HC := Lib.hid (Cur.new (c := c) h hn hl)
  clear h hl
  go_enter Try.func91, Try.ntmps91
  go_wp2_with fail
  refine (fogSlots_any w.heap.size 0 _ (by omega) HC.out).mono ?_
  rintro e w1 ⟨D, p, fs, rfl, hf, ho, _, hd⟩
  have HO := Lib.hid (own_mono ho (base' := w.heap.size) (by simp)); have HD := Lib.hid (hd.allB (Nat.le_refl w.heap.size) (by have := HZ0.out; omega))
  clear ho hd
  go_wp2
  go_ret
  exact ⟨D, p, fs, rfl, hf, HO.out, HB0.out.trans HD.out⟩
theorem drawStayLoss_any (A : Option Addr) (n c : Nat) (l : List Int) (w : World) (hn : n ≤ 9223372036854775807) (hl : ∀ x ∈ l, 0 ≤ x ∧ x ≤ 255) (h : Reads w 1 A n (bytesV l)) :
    Calls Try.prog 44 #[.slice A n c] w fun e w' => ∃ D p fs, e = .returned (.slice D (List.length fs) p) ∧ fs.length ≤ 21 ∧ w'.ownsRow w.heap.size 4 1 (.slice D fs.length p) fs.length (bools fs) ∧ Below w.heap.size w w' := by
  go_enter Try.func44, Try.ntmps44
  go_wp2_with fail
  refine (drawBestConstant_any A n c l w hn hl h).mono ?_
  rintro e w1 ⟨D, p, fs, rfl, hf, ho, hb⟩
  have HO := Lib.hid ho; have HB := Lib.hid hb
  clear ho hb
  go_wp2
  go_ret
  exact ⟨D, p, fs, rfl, hf, HO.out, HB.out⟩

end Go.Proofs.Ythpfgmnhpnfopaa
