/- The spec's drawings of days and plans. No conditions. -/
import Derived.Test.YtjibdabedagghaaDrH
import Derived.Test.YtjibdabedagghaaLate
import Derived.Deep.RegionLaw
namespace Go.Proofs.Ytjibdabedagghaa
set_option linter.unusedSimpArgs false
set_option linter.unusedVariables false
open Go.RowKit

/-- A row that lies behind a slice of slices, and its header just built, appended. -/
theorem Own2.push_mid {w w' : World} {lo mid n c c' m co : Nat} {e ei : TypeId} {A A' Ao : Option Addr} {cs : List Cel} {hs : List Value} {l : List Value} (h : Own2 w lo mid e ei 1 A n c cs hs) (hm : m = l.length)
    (ho : w.ownsRow mid ei 1 (.slice Ao m co) m l) (hlo : lo ≤ mid) (hmw : mid ≤ w.heap.size) (hg : (w.alloc (.cells #[.slice Ao m co] e)).grownBy w' (Value.slice A n c).ownBlock) (hr : w'.ownsRow lo e 1 (.slice A' (n + 1) c') (n + 1) (hs ++ [.slice Ao m co]))
    (hloc : (Value.slice A' (n + 1) c').ownBlock = (Value.slice A n c).ownBlock ∨ (Value.slice A' (n + 1) c').ownBlock = some (w.alloc (.cells #[.slice Ao m co] e)).heap.size) :
    Own2 w' lo w'.heap.size e ei 1 A' (n + 1) c' (cs ++ [.inr l]) (hs ++ [.slice Ao m co]) := by
  subst hm
  have hal : Below w.heap.size w (w.alloc (.cells #[.slice Ao l.length co] e)) := (Below.refl _ _).alloc (Nat.le_refl _) _
  have ho2 := own_below ho hal
  refine (h.below hal hmw).push hg hr hloc (by simp; omega) rfl (fun q u x hu hx => ?_) (fun q u hu b hb' => ?_) (fun q q' u v hne hu hv => ?_)
  · cases q with
    | succ q => simp at hu
    | zero =>
      simp at hu hx
      subst hu; subst hx
      exact ⟨_, _, rfl, own_mono ho2 hlo⟩
  · cases q with
    | succ q => simp at hu
    | zero =>
      simp at hu
      subst hu
      have := ho.lt b hb'
      exact ⟨by omega, this.1, by simp; omega⟩
  · cases q with
    | succ q => simp at hu
    | zero =>
      cases q' with
      | zero => exact absurd rfl hne
      | succ q' => simp at hv
theorem rowsIntss_snocD (L : PL) (l : List Int) : rowsIntss L ++ [.inr (ints l)] = rowsIntss (L ++ [l]) := by simp [rowsIntss]
theorem Own2.drewG {w w' : World} {g lo hi n c k : Nat} {e ei : TypeId} {A : Option Addr} {cs : List Cel} {hs : List Value} (h : Own2 w lo hi e ei k A n c cs hs) (hd : Drew g w w') (hh : hi ≤ w.heap.size) (hg : g < lo) : Own2 w' lo hi e ei k A n c cs hs := h.turned_before hd hh (by omega)

set_option maxHeartbeats 1000000 in
theorem planDays_any (g k : Nat) (w : World) (hk : k ≤ 10000000000) (h : Cur w g k) :
    Calls Try.prog 90 #[.pointer (some ⟨g, 0, none⟩)] w fun e w' => ∃ y : Int, e = .returned (.int .i64 y) ∧ (-1 ≤ y ∧ y ≤ 31) ∧ Cur w' g (k + 4) ∧ Drew g w w' := by
  have HC := Lib.hid h
  have HD : Hid (Drew g w w) := Lib.hid Turned.refl
  clear h
  go_enter Try.func90, Try.ntmps90
  go_wp2_with fail
  refine (amongLit_any g _ [11, 30, 31, -1] 3 _ _ _ rfl rfl (by omega) (by simp) (by simp) HC.out).mono ?_
  rintro e w1 ⟨x, hx, rfl, hc, hd⟩
  have hxb : -1 ≤ x ∧ x ≤ 31 := by simp at hx; omega
  have HC := Lib.hid hc; have HD := Lib.hid (HD.out.trans hd)
  clear hc hd hx
  go_wp2_with fail
  refine (amongLit_any g _ [0, 1, 3, 5, 9, 10, x] 3 _ _ _ rfl rfl (by omega) (by simp) (by simp) HC.out).mono ?_
  rintro e w2 ⟨y, hy, rfl, hc, hd⟩
  have hyb : -1 ≤ y ∧ y ≤ 31 := by simp at hy; omega
  have HC := Lib.hid hc; have HD := Lib.hid (HD.out.trans hd)
  clear hc hd hy
  go_wp2
  go_ret
  exact ⟨y, rfl, hyb, HC.out.mono (by omega), HD.out⟩

set_option maxHeartbeats 4000000 in
set_option maxRecDepth 100000 in
theorem plan_any (g k : Nat) (base : Nat) (A : Option Addr) (n c : Nat) (l : List G4) (days : Int) (w : World) (hk : k ≤ 1000000000) (hn : n ≤ 9) (hl : l.length = n) (hd : -1 ≤ days ∧ days ≤ 31) (hbg : g < base) (h : Cur w g k) (ho : w.ownsRow base 26 4 (.slice A n c) n (rows4 l)) :
    Calls Try.prog 92 #[.pointer (some ⟨g, 0, none⟩), .slice A n c, .int .i64 days] w fun e w' => ∃ B d P hs, e = .returned (.slice B (List.length P) d) ∧ P.length ≤ 31 ∧ (∀ x ∈ P, x.length ≤ 10) ∧ Own2 w' w.heap.size w'.heap.size 38 3 1 B P.length d (rowsIntss P) hs ∧ Cur w' g (k + 800) ∧ Drew g w w' := by
  have HC := Lib.hid h
  have HD : Hid (Drew g w w) := Lib.hid Turned.refl
  have HGW : Hid (g < w.heap.size) := Lib.hid h.lt
  have HO := Lib.hid ho; have HLL := Lib.hid hl
  have CG := Lib.hid (rrGood_any A n c l w (by omega) (Reads.of_own ho))
  clear h ho hl
  cases h1 : goodGears l with
  | false =>
    rw [h1] at CG
    go_enter Try.func92, Try.ntmps92
    go_wp2_with (first | (go_at_call 63; refine (CG.out).mono ?_; rintro e w1 ⟨rfl, hb⟩; have HO := Lib.hid (own_below HO.out hb); have HC := Lib.hid (HC.out.below hb); have HD := Lib.hid (HD.out.trans (Drew.of_below hb)); clear hb CG) | (go_at_call 78; refine (rrDays_any _ _).mono ?_; rintro e w2 ⟨rfl, rfl⟩) | fail)
    have HC := Lib.hid (HC.out.mono (k' := k + 2) (by omega))
    have HST : Hid (Drew g w _ ∧ Cur _ g (k + 2) ∧ World.ownsRow _ base 26 4 (.slice A n c) n (rows4 l)) := Lib.hid ⟨HD.out, HC.out, HO.out⟩
    clear HD HC HO
    have L1 := l1LeastG_any
    go_wp2_with fail
    go_loopw [9] (fun v wr => ∃ B q d P hs, v = .slice B q d ∧ List.length P = q ∧ q ≤ 31 ∧ (∀ x ∈ P, x.length ≤ 9) ∧ Own2 wr w.heap.size wr.heap.size 38 3 1 B q d (rowsIntss P) hs ∧ Cur wr g (k + 2 + 20 * q) ∧ Drew g w wr) (fun v _ => 31 - lenV v)
    case atStart => exact ⟨none, 0, 0, [], [], rfl, rfl, by omega, by simp, own2_nil _ _, HST.out.2.1, HST.out.1⟩
    case round =>
      clear HST
      obtain ⟨B, q, d, P, hs, rfl, hpl, hq, hpb, hp, hc, hd⟩ := hrel
      have HPL := Lib.hid hpl; have HPB := Lib.hid hpb; have HP := Lib.hid hp; have HC := Lib.hid hc; have HD := Lib.hid hd
      clear hpl hpb hp hc hd
      by_cases hlt : (q : Int) < min days 31
      · obtain ⟨wo, rfl⟩ : ∃ wo, wo = wr := ⟨_, rfl⟩
        have HLO : Hid (w.heap.size ≤ wo.heap.size) := Lib.hid HD.out.size
        have hq31 : q < 31 := by omega
        go_wp2_with (go_at_call 105; refine (l1LeastG_any _ _ _).mono ?_; rintro e w' ⟨rfl, rfl⟩)
        go_loopw [10, 37] (fun o i wr => ∃ j D m dd ds, j ≤ n ∧ i = .int .i64 (j : Nat) ∧ o = .slice D m dd ∧ List.length ds = m ∧ m ≤ j ∧ wr.ownsRow wo.heap.size 3 1 (.slice D m dd) m (ints ds) ∧ Own2 wr w.heap.size wo.heap.size 38 3 1 B q d (rowsIntss P) hs ∧ Cur wr g (k + 2 + 20 * q + 2 * j) ∧ Drew g wo wr) (fun _ i _ => n - (intOf i).toNat)
        case atStart => exact ⟨0, none, 0, 0, [], Nat.zero_le _, rfl, rfl, rfl, Nat.le_refl _, own_start, HP.out, HC.out, Turned.refl⟩
        case round =>
          clear HP HC
          obtain ⟨j, D, m, dd, ds, hj, rfl, rfl, hml, hmj, ho, hp, hc, hd⟩ := hrel
          have HML := Lib.hid hml; have HX := Lib.hid ho; have HP := Lib.hid hp; have HC := Lib.hid hc; have HD2 := Lib.hid hd
          clear hml ho hp hc hd
          by_cases hjn : j < n
          · go_wp2_with fail
            refine (one_any g _ 3 _ (by omega) (by omega) HC.out).mono ?_
            rintro e w5 ⟨b, rfl, hc, hd⟩
            have HX := Lib.hid (Drew.own hd HX.out (by have h1 := HGW.out; have h2 := HLO.out; omega)); have HP := Lib.hid (HP.out.drewG hd HD2.out.size HGW.out); have HC := Lib.hid hc; have HD2 := Lib.hid (HD2.out.trans hd)
            clear hc hd
            cases b with
            | false =>
              go_wp2
              go_roundw
              case rel => exact ⟨j + 1, D, m, dd, ds, by omega, by go_num, rfl, HML.out, by omega, HX.out, HP.out, HC.out.mono (by omega), HD2.out⟩
              case measure => simp [intOf]; omega
            | true =>
              have HZ : Hid (wo.heap.size ≤ w5.heap.size) := Lib.hid HD2.out.size
              go_wp2_with (at_builtin; refine wpList_push _ rfl (.tmp 42) (.tmp 44) 38 rfl wo.heap.size 3 (.int .i64 0) 1 8 infoInt rfl (by omega) Try.underlying38 D m dd (ints ds) rfl (HX.out.alloc _) (some ⟨w5.heap.size, 0, none⟩) 1 1 [.int .i64 (j : Int)] rfl (reads_new _ _ _) (by simp [Value.oneCell']) (by omega) (by omega) (by have := HZ.out; simp; omega) ?_; intro D' d' w6 hown6 hg6 hb6)
              have hb7 : Below wo.heap.size w5 w6 := ((Below.refl _ _).alloc HZ.out _).trans hb6
              have HX6 := Lib.hid hown6; have HP6 : Hid (Own2 w6 w.heap.size wo.heap.size 38 3 1 B q d (rowsIntss P) hs) := Lib.hid (HP.out.same fun q _ hq => hb7.block q hq)
              have HC6 := Lib.hid (HC.out.below' hb7 (by have h1 := HGW.out; have h2 := HLO.out; omega)); have HD6 := Lib.hid (Drew.then_below HD2.out hb7)
              clear hown6 hg6 hb6 hb7
              go_roundw
              case rel => exact ⟨j + 1, D', m + 1, d', ds ++ [(j : Int)], by omega, by go_num, rfl, by simp [HML.out], by omega, by rw [← ints_snoc]; exact HX6.out, HP6.out, HC6.out.mono (by omega), HD6.out⟩
              case measure => simp [intOf]; omega
          · obtain rfl : j = n := by omega
            have HZ : Hid (wo.heap.size ≤ wr.heap.size) := Lib.hid HD2.out.size
            go_wp2_with (at_builtin; refine wpList_pushL _ rfl (.tmp 47) (.tmp 49) 43 rfl w.heap.size 38 (.slice none 0 0) 1 24 infoInts rfl (by omega) Try.underlying43 B q d hs rfl (own_below HP.out.row ((Below.refl _ _).alloc (Nat.le_refl _) _)) (some ⟨wr.heap.size, 0, none⟩) 1 1 [.slice D m dd] rfl (reads_new _ _ _) (by simp [Value.oneCell']) (by omega) (by omega) (by have h1 := HZ.out; have h2 := HLO.out; simp; omega) ?_; intro A5 c5 w5 hown5 hg5 hb5 hloc5)
            have h5 := HP.out.push_mid (l := ints ds) (by simp [HML.out]) HX.out HLO.out HZ.out hg5 hown5 hloc5
            rw [rowsIntss_snocD] at h5
            have hb7 : Below w.heap.size wr w5 := ((Below.refl _ _).alloc (Nat.le_trans HLO.out HZ.out) _).trans hb5
            have HP5 := Lib.hid h5
            have HC5 := Lib.hid (HC.out.below' hb7 HGW.out); have HD5 := Lib.hid (Drew.then_below (HD.out.trans HD2.out) hb7)
            have HPB5 : Hid (∀ x ∈ P ++ [ds], x.length ≤ 9) := Lib.hid (fun x hx => by
              rcases List.mem_append.1 hx with hx | hx
              · exact HPB.out x hx
              · simp at hx; subst hx; rw [HML.out]; omega)
            clear hown5 hg5 hb5 hloc5 h5 hb7
            go_roundw
            case rel => exact ⟨A5, q + 1, c5, P ++ [ds], _, rfl, by simp [HPL.out], by omega, HPB5.out, HP5.out, HC5.out.mono (by omega), HD5.out⟩
            case measure => simp [lenV]; omega
      · have HPB9 := HPB
        have HPB := Lib.hid (fun x hx => Nat.le_trans (HPB.out x hx) (show 9 ≤ 10 by omega))
        by_cases hq0 : 0 < q
        · go_wp2_with (first | (go_at_call 105; refine (l1LeastG_any _ _ _).mono ?_; rintro e w' ⟨rfl, rfl⟩) | fail)
          refine (one_any g _ 12 _ (by omega) (by omega) HC.out).mono ?_
          rintro e w7 ⟨b, rfl, hc, hd⟩
          have HP := Lib.hid ((HP.out.drewG hd (Nat.le_refl _) HGW.out).mono_hi hd.size); have HC := Lib.hid hc; have HD := Lib.hid (HD.out.trans hd)
          clear hc hd
          cases b with
          | false =>
            go_wp2
            go_ret
            have HPF := HP; have HPB := HPB; have HCF := HC; have HDF := HD
            have e1 := HPL.out
            subst e1
            exact ⟨B, d, P, hs, rfl, hq, HPB.out, HPF.out, HCF.out.mono (by omega), HDF.out⟩
          | true =>
            go_wp2_with fail
            refine (pick_any g _ (q : Int) _ (by omega) (by omega) HC.out).mono ?_
            rintro e wS ⟨z, rfl, hzq, _, hc, hd⟩
            have hz : z < P.length := by rw [HPL.out]; omega
            have HP := Lib.hid ((HP.out.drewG hd (Nat.le_refl _) HGW.out).mono_hi hd.size); have HC := Lib.hid (hc.mono (k' := k + 700) (by omega)); have HD := Lib.hid (HD.out.trans hd)
            clear hc hd
            have hrow := HP.out.at_ (j := z) (l := ints P[z]) (by simp [rowsIntss, hz])
            obtain ⟨g0, Ai, ci, rfl, hus, kc, kf, hro⟩ := hrow
            simp only [length_ints] at hus kc hro
            have HXL := HPB9.out P[z] (List.getElem_mem hz)
            have HST : Hid (∀ (v : Value), (rowsIntss P).set z (.inr (ints (P[z] ++ [7]))) = (rowsIntss P).set z (.inr (ints (P[z] ++ [7])))) := Lib.hid (fun _ => rfl)
            have HCZ : Hid ((rowsIntss P)[z]? = some (.inr (ints P[z]))) := Lib.hid (by simp [rowsIntss, hz])
            have HUS := Lib.hid hus; have HRO := Lib.hid hro
            have HG0 : Hid (g0 < wS.heap.size ∧ g0 ≠ g ∧ w.heap.size ≤ g0) := Lib.hid (by have := HP.out.row.lt g0 rfl; have h2 := HGW.out; exact ⟨this.2, by omega, this.1⟩)
            have HZL : Hid (z < hs.length) := Lib.hid (List.getElem?_eq_some_iff.1 hus).1
            generalize hp0 : P[z] = p0 at *
            have HP0 := Lib.hid hp0
            clear hus hro hp0 HST
            have HW1 : Hid (Below wS.heap.size wS (wS.alloc (.cells #[.int .i64 (-1), .int .i64 7, .int .i64 8] 3)).drew) := Lib.hid ((Below.refl wS.heap.size wS).alloc (Nat.le_refl _) _).drew
            have HAM := Lib.hid (among_any g (k + 700) (some ⟨wS.heap.size, 0, none⟩) 3 3 [-1, 7, 8] (wS.alloc (.cells #[.int .i64 (-1), .int .i64 7, .int .i64 8] 3)).drew (by omega) (by omega) (by omega) (HC.out.below HW1.out) (reads_litk wS [.int .i64 (-1), .int .i64 7, .int .i64 8] 3 (n := 3) (k := 1) rfl) (fun ad e => by injection e with e; subst e; have := HC.out.lt; show wS.heap.size ≠ g; omega))
            have c1 : (wS.alloc (.cells #[.int .i64 (-1), .int .i64 7, .int .i64 8] 3)).cell? ⟨g0, z, none⟩ = some (Value.slice Ai p0.length ci) := alloc_cell _ kc
            have hq0 : (z : Int) < (q : Int) := by omega
            have hq1 : (0 : Int) ≤ (z : Int) := by omega
            go_wp2_with fail
            go_region_law ((first | (refine step_pushL _ rfl (.tmp 67) (.tmp 71) 38 rfl w.heap.size 3 (.int .i64 0) 1 8 infoInt rfl (by omega) Try.underlying38 Ai p0.length ci (ints p0) rfl HRW.out (some ⟨w4.heap.size, 0, none⟩) 1 1 [.int .i64 x] rfl (reads_new _ _ _) (by simp [Value.oneCell']) (by omega) (by omega) HBW.out ?_; intro A5 c5 w5 hown5 hg5 hb5 hloc5; obtain ⟨⟨ob, kb⟩, fb⟩ := HP4.out.outer rfl HUS.out hg5 HZL.out) | (go_simp; go_wp2_with (go_at_call 91; refine (HAM.out).mono ?_; rintro e w4 ⟨x, hx, rfl, hc, hd⟩; have c4 := Drew.cellOf hd c1 HG0.out.2.1; have c5 := alloc_cell (.cells #[.int .i64 x] 3) c4; have HD4 := Lib.hid hd; have HC4 := Lib.hid hc; have HA4 : Hid (Below w4.heap.size w4 (w4.alloc (.cells #[.int .i64 x] 3))) := Lib.hid ((Below.refl _ _).alloc (Nat.le_refl _) _); have HRW := Lib.hid (own_below (Drew.own hd (own_below HRO.out HW1.out) HGW.out) HA4.out); have HP4 := Lib.hid (((HP.out.below HW1.out (Nat.le_refl _)).drewG hd HW1.out.size HGW.out).below HA4.out (Nat.le_trans HW1.out.size hd.size)); have HBW : Hid (w.heap.size ≤ (w4.alloc (.cells #[.int .i64 x] 3)).heap.size) := Lib.hid (Nat.le_trans (Nat.le_trans HD.out.size (Nat.le_trans HW1.out.size hd.size)) HA4.out.size)))))
            all_goals
              have hpx : (ints (p0 ++ [x])).length = p0.length + 1 := by simp
              have hnew := HP4.out.regrown (j := z) (v' := .slice A5 (p0.length + 1) c5) (l' := ints (p0 ++ [x])) (ci := c5) (Ai := A5) (hi2 := w5.heap.size) HCZ.out HUS.out hg5 (by have h1 := HW1.out.size; have h2 := HD4.out.size; have h3 := HA4.out.size; omega) (by rw [hpx]) (by rw [hpx, ← ints_snoc]; exact hown5) (hloc5.elim .inl (fun h => .inr ⟨_, h, by have h1 := HW1.out.size; have h2 := HD4.out.size; have h3 := HA4.out.size; omega⟩)) (by have h1 := HW1.out.size; have h2 := HD4.out.size; have h3 := HA4.out.size; have h4 := hg5.size; omega) (own_lt hown5)
              rw [rowsIntss_set] at hnew
              have HNEW := Lib.hid hnew
              have hbf : Below w.heap.size w4 (w5.setCell ⟨g0, z, none⟩ (.slice A5 (p0.length + 1) c5)) := ((HA4.out.mono (by have h1 := HD.out.size; have h2 := HW1.out.size; have h3 := HD4.out.size; omega)).trans hb5).setCell HG0.out.2.2 _
              have HCF := Lib.hid (HC4.out.below' hbf HGW.out)
              have HDF := Lib.hid (Drew.then_below ((HD.out.trans (Drew.of_below HW1.out)).trans HD4.out) hbf)
              have HPBF : Hid (∀ y ∈ P.set z (p0 ++ [x]), y.length ≤ 10) := Lib.hid (fun y hy => by
                rcases List.mem_or_eq_of_mem_set hy with hy | hy
                · exact HPB.out y hy
                · subst hy; simp; omega)
              have HPLF : Hid ((P.set z (p0 ++ [x])).length = q) := Lib.hid (by simp [HPL.out])
              clear hnew hbf hown5 hg5 hb5 hloc5 kb fb hpx
              have hszf : (w5.setCell ⟨g0, z, none⟩ (.slice A5 (p0.length + 1) c5)).heap.size = w5.heap.size := World.size_setCell _ _ _
              have HSZ := Lib.hid hszf
              clear hszf
              generalize P.set z (p0 ++ [x]) = PF at *
              have e1 := HPLF.out
              subst e1
              obtain ⟨wF, hwF⟩ : ∃ wF, wF = w5.setCell ⟨g0, z, none⟩ (.slice A5 (p0.length + 1) c5) := ⟨_, rfl⟩
              rw [← hwF] at HNEW HCF HDF HSZ ⊢
              clear hwF
              go_wp2
              go_ret
              exact ⟨_, d, PF, rfl, hq, HPBF.out, ⟨_, by rw [HSZ.out]; exact HNEW.out⟩, HCF.out.mono (by omega), HDF.out⟩
        · go_wp2_with (go_at_call 105; refine (l1LeastG_any _ _ _).mono ?_; rintro e w' ⟨rfl, rfl⟩)
          go_ret
          have HPF := HP; have HPB := HPB; have HCF := HC; have HDF := HD
          have e1 := HPL.out
          subst e1
          exact ⟨B, d, P, hs, rfl, hq, HPB.out, HPF.out, HCF.out.mono (by omega), HDF.out⟩
  | true =>
    rw [h1] at CG
    cases h2 : inB days 0 30 with
    | false =>
      go_enter Try.func92, Try.ntmps92
      go_wp2_with (first | (go_at_call 63; refine (CG.out).mono ?_; rintro e w1 ⟨rfl, hb⟩; have HO := Lib.hid (own_below HO.out hb); have HC := Lib.hid (HC.out.below hb); have HD := Lib.hid (HD.out.trans (Drew.of_below hb)); clear hb CG) | (go_at_call 78; refine (rrDays_any _ _).mono ?_; rintro e w2 ⟨rfl, rfl⟩) | fail)
      have HC := Lib.hid (HC.out.mono (k' := k + 2) (by omega))
      have HST : Hid (Drew g w _ ∧ Cur _ g (k + 2) ∧ World.ownsRow _ base 26 4 (.slice A n c) n (rows4 l)) := Lib.hid ⟨HD.out, HC.out, HO.out⟩
      clear HD HC HO
      have L1 := l1LeastG_any
      go_wp2_with fail
      go_loopw [9] (fun v wr => ∃ B q d P hs, v = .slice B q d ∧ List.length P = q ∧ q ≤ 31 ∧ (∀ x ∈ P, x.length ≤ 9) ∧ Own2 wr w.heap.size wr.heap.size 38 3 1 B q d (rowsIntss P) hs ∧ Cur wr g (k + 2 + 20 * q) ∧ Drew g w wr) (fun v _ => 31 - lenV v)
      case atStart => exact ⟨none, 0, 0, [], [], rfl, rfl, by omega, by simp, own2_nil _ _, HST.out.2.1, HST.out.1⟩
      case round =>
        clear HST
        obtain ⟨B, q, d, P, hs, rfl, hpl, hq, hpb, hp, hc, hd⟩ := hrel
        have HPL := Lib.hid hpl; have HPB := Lib.hid hpb; have HP := Lib.hid hp; have HC := Lib.hid hc; have HD := Lib.hid hd
        clear hpl hpb hp hc hd
        by_cases hlt : (q : Int) < min days 31
        · obtain ⟨wo, rfl⟩ : ∃ wo, wo = wr := ⟨_, rfl⟩
          have HLO : Hid (w.heap.size ≤ wo.heap.size) := Lib.hid HD.out.size
          have hq31 : q < 31 := by omega
          go_wp2_with (go_at_call 105; refine (l1LeastG_any _ _ _).mono ?_; rintro e w' ⟨rfl, rfl⟩)
          go_loopw [10, 37] (fun o i wr => ∃ j D m dd ds, j ≤ n ∧ i = .int .i64 (j : Nat) ∧ o = .slice D m dd ∧ List.length ds = m ∧ m ≤ j ∧ wr.ownsRow wo.heap.size 3 1 (.slice D m dd) m (ints ds) ∧ Own2 wr w.heap.size wo.heap.size 38 3 1 B q d (rowsIntss P) hs ∧ Cur wr g (k + 2 + 20 * q + 2 * j) ∧ Drew g wo wr) (fun _ i _ => n - (intOf i).toNat)
          case atStart => exact ⟨0, none, 0, 0, [], Nat.zero_le _, rfl, rfl, rfl, Nat.le_refl _, own_start, HP.out, HC.out, Turned.refl⟩
          case round =>
            clear HP HC
            obtain ⟨j, D, m, dd, ds, hj, rfl, rfl, hml, hmj, ho, hp, hc, hd⟩ := hrel
            have HML := Lib.hid hml; have HX := Lib.hid ho; have HP := Lib.hid hp; have HC := Lib.hid hc; have HD2 := Lib.hid hd
            clear hml ho hp hc hd
            by_cases hjn : j < n
            · go_wp2_with fail
              refine (one_any g _ 3 _ (by omega) (by omega) HC.out).mono ?_
              rintro e w5 ⟨b, rfl, hc, hd⟩
              have HX := Lib.hid (Drew.own hd HX.out (by have h1 := HGW.out; have h2 := HLO.out; omega)); have HP := Lib.hid (HP.out.drewG hd HD2.out.size HGW.out); have HC := Lib.hid hc; have HD2 := Lib.hid (HD2.out.trans hd)
              clear hc hd
              cases b with
              | false =>
                go_wp2
                go_roundw
                case rel => exact ⟨j + 1, D, m, dd, ds, by omega, by go_num, rfl, HML.out, by omega, HX.out, HP.out, HC.out.mono (by omega), HD2.out⟩
                case measure => simp [intOf]; omega
              | true =>
                have HZ : Hid (wo.heap.size ≤ w5.heap.size) := Lib.hid HD2.out.size
                go_wp2_with (at_builtin; refine wpList_push _ rfl (.tmp 42) (.tmp 44) 38 rfl wo.heap.size 3 (.int .i64 0) 1 8 infoInt rfl (by omega) Try.underlying38 D m dd (ints ds) rfl (HX.out.alloc _) (some ⟨w5.heap.size, 0, none⟩) 1 1 [.int .i64 (j : Int)] rfl (reads_new _ _ _) (by simp [Value.oneCell']) (by omega) (by omega) (by have := HZ.out; simp; omega) ?_; intro D' d' w6 hown6 hg6 hb6)
                have hb7 : Below wo.heap.size w5 w6 := ((Below.refl _ _).alloc HZ.out _).trans hb6
                have HX6 := Lib.hid hown6; have HP6 : Hid (Own2 w6 w.heap.size wo.heap.size 38 3 1 B q d (rowsIntss P) hs) := Lib.hid (HP.out.same fun q _ hq => hb7.block q hq)
                have HC6 := Lib.hid (HC.out.below' hb7 (by have h1 := HGW.out; have h2 := HLO.out; omega)); have HD6 := Lib.hid (Drew.then_below HD2.out hb7)
                clear hown6 hg6 hb6 hb7
                go_roundw
                case rel => exact ⟨j + 1, D', m + 1, d', ds ++ [(j : Int)], by omega, by go_num, rfl, by simp [HML.out], by omega, by rw [← ints_snoc]; exact HX6.out, HP6.out, HC6.out.mono (by omega), HD6.out⟩
                case measure => simp [intOf]; omega
            · obtain rfl : j = n := by omega
              have HZ : Hid (wo.heap.size ≤ wr.heap.size) := Lib.hid HD2.out.size
              go_wp2_with (at_builtin; refine wpList_pushL _ rfl (.tmp 47) (.tmp 49) 43 rfl w.heap.size 38 (.slice none 0 0) 1 24 infoInts rfl (by omega) Try.underlying43 B q d hs rfl (own_below HP.out.row ((Below.refl _ _).alloc (Nat.le_refl _) _)) (some ⟨wr.heap.size, 0, none⟩) 1 1 [.slice D m dd] rfl (reads_new _ _ _) (by simp [Value.oneCell']) (by omega) (by omega) (by have h1 := HZ.out; have h2 := HLO.out; simp; omega) ?_; intro A5 c5 w5 hown5 hg5 hb5 hloc5)
              have h5 := HP.out.push_mid (l := ints ds) (by simp [HML.out]) HX.out HLO.out HZ.out hg5 hown5 hloc5
              rw [rowsIntss_snocD] at h5
              have hb7 : Below w.heap.size wr w5 := ((Below.refl _ _).alloc (Nat.le_trans HLO.out HZ.out) _).trans hb5
              have HP5 := Lib.hid h5
              have HC5 := Lib.hid (HC.out.below' hb7 HGW.out); have HD5 := Lib.hid (Drew.then_below (HD.out.trans HD2.out) hb7)
              have HPB5 : Hid (∀ x ∈ P ++ [ds], x.length ≤ 9) := Lib.hid (fun x hx => by
                rcases List.mem_append.1 hx with hx | hx
                · exact HPB.out x hx
                · simp at hx; subst hx; rw [HML.out]; omega)
              clear hown5 hg5 hb5 hloc5 h5 hb7
              go_roundw
              case rel => exact ⟨A5, q + 1, c5, P ++ [ds], _, rfl, by simp [HPL.out], by omega, HPB5.out, HP5.out, HC5.out.mono (by omega), HD5.out⟩
              case measure => simp [lenV]; omega
        · have HPB9 := HPB
          have HPB := Lib.hid (fun x hx => Nat.le_trans (HPB.out x hx) (show 9 ≤ 10 by omega))
          by_cases hq0 : 0 < q
          · go_wp2_with (first | (go_at_call 105; refine (l1LeastG_any _ _ _).mono ?_; rintro e w' ⟨rfl, rfl⟩) | fail)
            refine (one_any g _ 12 _ (by omega) (by omega) HC.out).mono ?_
            rintro e w7 ⟨b, rfl, hc, hd⟩
            have HP := Lib.hid ((HP.out.drewG hd (Nat.le_refl _) HGW.out).mono_hi hd.size); have HC := Lib.hid hc; have HD := Lib.hid (HD.out.trans hd)
            clear hc hd
            cases b with
            | false =>
              go_wp2
              go_ret
              have HPF := HP; have HPB := HPB; have HCF := HC; have HDF := HD
              have e1 := HPL.out
              subst e1
              exact ⟨B, d, P, hs, rfl, hq, HPB.out, HPF.out, HCF.out.mono (by omega), HDF.out⟩
            | true =>
              go_wp2_with fail
              refine (pick_any g _ (q : Int) _ (by omega) (by omega) HC.out).mono ?_
              rintro e wS ⟨z, rfl, hzq, _, hc, hd⟩
              have hz : z < P.length := by rw [HPL.out]; omega
              have HP := Lib.hid ((HP.out.drewG hd (Nat.le_refl _) HGW.out).mono_hi hd.size); have HC := Lib.hid (hc.mono (k' := k + 700) (by omega)); have HD := Lib.hid (HD.out.trans hd)
              clear hc hd
              have hrow := HP.out.at_ (j := z) (l := ints P[z]) (by simp [rowsIntss, hz])
              obtain ⟨g0, Ai, ci, rfl, hus, kc, kf, hro⟩ := hrow
              simp only [length_ints] at hus kc hro
              have HXL := HPB9.out P[z] (List.getElem_mem hz)
              have HST : Hid (∀ (v : Value), (rowsIntss P).set z (.inr (ints (P[z] ++ [7]))) = (rowsIntss P).set z (.inr (ints (P[z] ++ [7])))) := Lib.hid (fun _ => rfl)
              have HCZ : Hid ((rowsIntss P)[z]? = some (.inr (ints P[z]))) := Lib.hid (by simp [rowsIntss, hz])
              have HUS := Lib.hid hus; have HRO := Lib.hid hro
              have HG0 : Hid (g0 < wS.heap.size ∧ g0 ≠ g ∧ w.heap.size ≤ g0) := Lib.hid (by have := HP.out.row.lt g0 rfl; have h2 := HGW.out; exact ⟨this.2, by omega, this.1⟩)
              have HZL : Hid (z < hs.length) := Lib.hid (List.getElem?_eq_some_iff.1 hus).1
              generalize hp0 : P[z] = p0 at *
              have HP0 := Lib.hid hp0
              clear hus hro hp0 HST
              have HW1 : Hid (Below wS.heap.size wS (wS.alloc (.cells #[.int .i64 (-1), .int .i64 7, .int .i64 8] 3)).drew) := Lib.hid ((Below.refl wS.heap.size wS).alloc (Nat.le_refl _) _).drew
              have HAM := Lib.hid (among_any g (k + 700) (some ⟨wS.heap.size, 0, none⟩) 3 3 [-1, 7, 8] (wS.alloc (.cells #[.int .i64 (-1), .int .i64 7, .int .i64 8] 3)).drew (by omega) (by omega) (by omega) (HC.out.below HW1.out) (reads_litk wS [.int .i64 (-1), .int .i64 7, .int .i64 8] 3 (n := 3) (k := 1) rfl) (fun ad e => by injection e with e; subst e; have := HC.out.lt; show wS.heap.size ≠ g; omega))
              have c1 : (wS.alloc (.cells #[.int .i64 (-1), .int .i64 7, .int .i64 8] 3)).cell? ⟨g0, z, none⟩ = some (Value.slice Ai p0.length ci) := alloc_cell _ kc
              have hq0 : (z : Int) < (q : Int) := by omega
              have hq1 : (0 : Int) ≤ (z : Int) := by omega
              go_wp2_with fail
              go_region_law ((first | (refine step_pushL _ rfl (.tmp 67) (.tmp 71) 38 rfl w.heap.size 3 (.int .i64 0) 1 8 infoInt rfl (by omega) Try.underlying38 Ai p0.length ci (ints p0) rfl HRW.out (some ⟨w4.heap.size, 0, none⟩) 1 1 [.int .i64 x] rfl (reads_new _ _ _) (by simp [Value.oneCell']) (by omega) (by omega) HBW.out ?_; intro A5 c5 w5 hown5 hg5 hb5 hloc5; obtain ⟨⟨ob, kb⟩, fb⟩ := HP4.out.outer rfl HUS.out hg5 HZL.out) | (go_simp; go_wp2_with (go_at_call 91; refine (HAM.out).mono ?_; rintro e w4 ⟨x, hx, rfl, hc, hd⟩; have c4 := Drew.cellOf hd c1 HG0.out.2.1; have c5 := alloc_cell (.cells #[.int .i64 x] 3) c4; have HD4 := Lib.hid hd; have HC4 := Lib.hid hc; have HA4 : Hid (Below w4.heap.size w4 (w4.alloc (.cells #[.int .i64 x] 3))) := Lib.hid ((Below.refl _ _).alloc (Nat.le_refl _) _); have HRW := Lib.hid (own_below (Drew.own hd (own_below HRO.out HW1.out) HGW.out) HA4.out); have HP4 := Lib.hid (((HP.out.below HW1.out (Nat.le_refl _)).drewG hd HW1.out.size HGW.out).below HA4.out (Nat.le_trans HW1.out.size hd.size)); have HBW : Hid (w.heap.size ≤ (w4.alloc (.cells #[.int .i64 x] 3)).heap.size) := Lib.hid (Nat.le_trans (Nat.le_trans HD.out.size (Nat.le_trans HW1.out.size hd.size)) HA4.out.size)))))
              all_goals
                have hpx : (ints (p0 ++ [x])).length = p0.length + 1 := by simp
                have hnew := HP4.out.regrown (j := z) (v' := .slice A5 (p0.length + 1) c5) (l' := ints (p0 ++ [x])) (ci := c5) (Ai := A5) (hi2 := w5.heap.size) HCZ.out HUS.out hg5 (by have h1 := HW1.out.size; have h2 := HD4.out.size; have h3 := HA4.out.size; omega) (by rw [hpx]) (by rw [hpx, ← ints_snoc]; exact hown5) (hloc5.elim .inl (fun h => .inr ⟨_, h, by have h1 := HW1.out.size; have h2 := HD4.out.size; have h3 := HA4.out.size; omega⟩)) (by have h1 := HW1.out.size; have h2 := HD4.out.size; have h3 := HA4.out.size; have h4 := hg5.size; omega) (own_lt hown5)
                rw [rowsIntss_set] at hnew
                have HNEW := Lib.hid hnew
                have hbf : Below w.heap.size w4 (w5.setCell ⟨g0, z, none⟩ (.slice A5 (p0.length + 1) c5)) := ((HA4.out.mono (by have h1 := HD.out.size; have h2 := HW1.out.size; have h3 := HD4.out.size; omega)).trans hb5).setCell HG0.out.2.2 _
                have HCF := Lib.hid (HC4.out.below' hbf HGW.out)
                have HDF := Lib.hid (Drew.then_below ((HD.out.trans (Drew.of_below HW1.out)).trans HD4.out) hbf)
                have HPBF : Hid (∀ y ∈ P.set z (p0 ++ [x]), y.length ≤ 10) := Lib.hid (fun y hy => by
                  rcases List.mem_or_eq_of_mem_set hy with hy | hy
                  · exact HPB.out y hy
                  · subst hy; simp; omega)
                have HPLF : Hid ((P.set z (p0 ++ [x])).length = q) := Lib.hid (by simp [HPL.out])
                clear hnew hbf hown5 hg5 hb5 hloc5 kb fb hpx
                have hszf : (w5.setCell ⟨g0, z, none⟩ (.slice A5 (p0.length + 1) c5)).heap.size = w5.heap.size := World.size_setCell _ _ _
                have HSZ := Lib.hid hszf
                clear hszf
                generalize P.set z (p0 ++ [x]) = PF at *
                have e1 := HPLF.out
                subst e1
                obtain ⟨wF, hwF⟩ : ∃ wF, wF = w5.setCell ⟨g0, z, none⟩ (.slice A5 (p0.length + 1) c5) := ⟨_, rfl⟩
                rw [← hwF] at HNEW HCF HDF HSZ ⊢
                clear hwF
                go_wp2
                go_ret
                exact ⟨_, d, PF, rfl, hq, HPBF.out, ⟨_, by rw [HSZ.out]; exact HNEW.out⟩, HCF.out.mono (by omega), HDF.out⟩
          · go_wp2_with (go_at_call 105; refine (l1LeastG_any _ _ _).mono ?_; rintro e w' ⟨rfl, rfl⟩)
            go_ret
            have HPF := HP; have HPB := HPB; have HCF := HC; have HDF := HD
            have e1 := HPL.out
            subst e1
            exact ⟨B, d, P, hs, rfl, hq, HPB.out, HPF.out, HCF.out.mono (by omega), HDF.out⟩
    | true =>
      go_enter Try.func92, Try.ntmps92
      go_wp2_with (first | (go_at_call 63; refine (CG.out).mono ?_; rintro e w1 ⟨rfl, hb⟩; have HO := Lib.hid (own_below HO.out hb); have HC := Lib.hid (HC.out.below hb); have HD := Lib.hid (HD.out.trans (Drew.of_below hb)); clear hb CG) | (go_at_call 78; refine (rrDays_any _ _).mono ?_; rintro e w2 ⟨rfl, rfl⟩) | fail)
      refine (one_any g _ 2 _ (by omega) (by omega) HC.out).mono ?_
      rintro e w3 ⟨b, rfl, hc, hd⟩
      have HO := Lib.hid (Drew.own hd HO.out hbg); have HC := Lib.hid hc; have HD := Lib.hid (HD.out.trans hd)
      clear hc hd
      cases b with
      | false =>
        have HC := Lib.hid (HC.out.mono (k' := k + 2) (by omega))
        have HST : Hid (Drew g w _ ∧ Cur _ g (k + 2) ∧ World.ownsRow _ base 26 4 (.slice A n c) n (rows4 l)) := Lib.hid ⟨HD.out, HC.out, HO.out⟩
        clear HD HC HO
        have L1 := l1LeastG_any
        go_wp2_with fail
        go_loopw [9] (fun v wr => ∃ B q d P hs, v = .slice B q d ∧ List.length P = q ∧ q ≤ 31 ∧ (∀ x ∈ P, x.length ≤ 9) ∧ Own2 wr w.heap.size wr.heap.size 38 3 1 B q d (rowsIntss P) hs ∧ Cur wr g (k + 2 + 20 * q) ∧ Drew g w wr) (fun v _ => 31 - lenV v)
        case atStart => exact ⟨none, 0, 0, [], [], rfl, rfl, by omega, by simp, own2_nil _ _, HST.out.2.1, HST.out.1⟩
        case round =>
          clear HST
          obtain ⟨B, q, d, P, hs, rfl, hpl, hq, hpb, hp, hc, hd⟩ := hrel
          have HPL := Lib.hid hpl; have HPB := Lib.hid hpb; have HP := Lib.hid hp; have HC := Lib.hid hc; have HD := Lib.hid hd
          clear hpl hpb hp hc hd
          by_cases hlt : (q : Int) < min days 31
          · obtain ⟨wo, rfl⟩ : ∃ wo, wo = wr := ⟨_, rfl⟩
            have HLO : Hid (w.heap.size ≤ wo.heap.size) := Lib.hid HD.out.size
            have hq31 : q < 31 := by omega
            go_wp2_with (go_at_call 105; refine (l1LeastG_any _ _ _).mono ?_; rintro e w' ⟨rfl, rfl⟩)
            go_loopw [10, 37] (fun o i wr => ∃ j D m dd ds, j ≤ n ∧ i = .int .i64 (j : Nat) ∧ o = .slice D m dd ∧ List.length ds = m ∧ m ≤ j ∧ wr.ownsRow wo.heap.size 3 1 (.slice D m dd) m (ints ds) ∧ Own2 wr w.heap.size wo.heap.size 38 3 1 B q d (rowsIntss P) hs ∧ Cur wr g (k + 2 + 20 * q + 2 * j) ∧ Drew g wo wr) (fun _ i _ => n - (intOf i).toNat)
            case atStart => exact ⟨0, none, 0, 0, [], Nat.zero_le _, rfl, rfl, rfl, Nat.le_refl _, own_start, HP.out, HC.out, Turned.refl⟩
            case round =>
              clear HP HC
              obtain ⟨j, D, m, dd, ds, hj, rfl, rfl, hml, hmj, ho, hp, hc, hd⟩ := hrel
              have HML := Lib.hid hml; have HX := Lib.hid ho; have HP := Lib.hid hp; have HC := Lib.hid hc; have HD2 := Lib.hid hd
              clear hml ho hp hc hd
              by_cases hjn : j < n
              · go_wp2_with fail
                refine (one_any g _ 3 _ (by omega) (by omega) HC.out).mono ?_
                rintro e w5 ⟨b, rfl, hc, hd⟩
                have HX := Lib.hid (Drew.own hd HX.out (by have h1 := HGW.out; have h2 := HLO.out; omega)); have HP := Lib.hid (HP.out.drewG hd HD2.out.size HGW.out); have HC := Lib.hid hc; have HD2 := Lib.hid (HD2.out.trans hd)
                clear hc hd
                cases b with
                | false =>
                  go_wp2
                  go_roundw
                  case rel => exact ⟨j + 1, D, m, dd, ds, by omega, by go_num, rfl, HML.out, by omega, HX.out, HP.out, HC.out.mono (by omega), HD2.out⟩
                  case measure => simp [intOf]; omega
                | true =>
                  have HZ : Hid (wo.heap.size ≤ w5.heap.size) := Lib.hid HD2.out.size
                  go_wp2_with (at_builtin; refine wpList_push _ rfl (.tmp 42) (.tmp 44) 38 rfl wo.heap.size 3 (.int .i64 0) 1 8 infoInt rfl (by omega) Try.underlying38 D m dd (ints ds) rfl (HX.out.alloc _) (some ⟨w5.heap.size, 0, none⟩) 1 1 [.int .i64 (j : Int)] rfl (reads_new _ _ _) (by simp [Value.oneCell']) (by omega) (by omega) (by have := HZ.out; simp; omega) ?_; intro D' d' w6 hown6 hg6 hb6)
                  have hb7 : Below wo.heap.size w5 w6 := ((Below.refl _ _).alloc HZ.out _).trans hb6
                  have HX6 := Lib.hid hown6; have HP6 : Hid (Own2 w6 w.heap.size wo.heap.size 38 3 1 B q d (rowsIntss P) hs) := Lib.hid (HP.out.same fun q _ hq => hb7.block q hq)
                  have HC6 := Lib.hid (HC.out.below' hb7 (by have h1 := HGW.out; have h2 := HLO.out; omega)); have HD6 := Lib.hid (Drew.then_below HD2.out hb7)
                  clear hown6 hg6 hb6 hb7
                  go_roundw
                  case rel => exact ⟨j + 1, D', m + 1, d', ds ++ [(j : Int)], by omega, by go_num, rfl, by simp [HML.out], by omega, by rw [← ints_snoc]; exact HX6.out, HP6.out, HC6.out.mono (by omega), HD6.out⟩
                  case measure => simp [intOf]; omega
              · obtain rfl : j = n := by omega
                have HZ : Hid (wo.heap.size ≤ wr.heap.size) := Lib.hid HD2.out.size
                go_wp2_with (at_builtin; refine wpList_pushL _ rfl (.tmp 47) (.tmp 49) 43 rfl w.heap.size 38 (.slice none 0 0) 1 24 infoInts rfl (by omega) Try.underlying43 B q d hs rfl (own_below HP.out.row ((Below.refl _ _).alloc (Nat.le_refl _) _)) (some ⟨wr.heap.size, 0, none⟩) 1 1 [.slice D m dd] rfl (reads_new _ _ _) (by simp [Value.oneCell']) (by omega) (by omega) (by have h1 := HZ.out; have h2 := HLO.out; simp; omega) ?_; intro A5 c5 w5 hown5 hg5 hb5 hloc5)
                have h5 := HP.out.push_mid (l := ints ds) (by simp [HML.out]) HX.out HLO.out HZ.out hg5 hown5 hloc5
                rw [rowsIntss_snocD] at h5
                have hb7 : Below w.heap.size wr w5 := ((Below.refl _ _).alloc (Nat.le_trans HLO.out HZ.out) _).trans hb5
                have HP5 := Lib.hid h5
                have HC5 := Lib.hid (HC.out.below' hb7 HGW.out); have HD5 := Lib.hid (Drew.then_below (HD.out.trans HD2.out) hb7)
                have HPB5 : Hid (∀ x ∈ P ++ [ds], x.length ≤ 9) := Lib.hid (fun x hx => by
                  rcases List.mem_append.1 hx with hx | hx
                  · exact HPB.out x hx
                  · simp at hx; subst hx; rw [HML.out]; omega)
                clear hown5 hg5 hb5 hloc5 h5 hb7
                go_roundw
                case rel => exact ⟨A5, q + 1, c5, P ++ [ds], _, rfl, by simp [HPL.out], by omega, HPB5.out, HP5.out, HC5.out.mono (by omega), HD5.out⟩
                case measure => simp [lenV]; omega
          · have HPB9 := HPB
            have HPB := Lib.hid (fun x hx => Nat.le_trans (HPB.out x hx) (show 9 ≤ 10 by omega))
            by_cases hq0 : 0 < q
            · go_wp2_with (first | (go_at_call 105; refine (l1LeastG_any _ _ _).mono ?_; rintro e w' ⟨rfl, rfl⟩) | fail)
              refine (one_any g _ 12 _ (by omega) (by omega) HC.out).mono ?_
              rintro e w7 ⟨b, rfl, hc, hd⟩
              have HP := Lib.hid ((HP.out.drewG hd (Nat.le_refl _) HGW.out).mono_hi hd.size); have HC := Lib.hid hc; have HD := Lib.hid (HD.out.trans hd)
              clear hc hd
              cases b with
              | false =>
                go_wp2
                go_ret
                have HPF := HP; have HPB := HPB; have HCF := HC; have HDF := HD
                have e1 := HPL.out
                subst e1
                exact ⟨B, d, P, hs, rfl, hq, HPB.out, HPF.out, HCF.out.mono (by omega), HDF.out⟩
              | true =>
                go_wp2_with fail
                refine (pick_any g _ (q : Int) _ (by omega) (by omega) HC.out).mono ?_
                rintro e wS ⟨z, rfl, hzq, _, hc, hd⟩
                have hz : z < P.length := by rw [HPL.out]; omega
                have HP := Lib.hid ((HP.out.drewG hd (Nat.le_refl _) HGW.out).mono_hi hd.size); have HC := Lib.hid (hc.mono (k' := k + 700) (by omega)); have HD := Lib.hid (HD.out.trans hd)
                clear hc hd
                have hrow := HP.out.at_ (j := z) (l := ints P[z]) (by simp [rowsIntss, hz])
                obtain ⟨g0, Ai, ci, rfl, hus, kc, kf, hro⟩ := hrow
                simp only [length_ints] at hus kc hro
                have HXL := HPB9.out P[z] (List.getElem_mem hz)
                have HST : Hid (∀ (v : Value), (rowsIntss P).set z (.inr (ints (P[z] ++ [7]))) = (rowsIntss P).set z (.inr (ints (P[z] ++ [7])))) := Lib.hid (fun _ => rfl)
                have HCZ : Hid ((rowsIntss P)[z]? = some (.inr (ints P[z]))) := Lib.hid (by simp [rowsIntss, hz])
                have HUS := Lib.hid hus; have HRO := Lib.hid hro
                have HG0 : Hid (g0 < wS.heap.size ∧ g0 ≠ g ∧ w.heap.size ≤ g0) := Lib.hid (by have := HP.out.row.lt g0 rfl; have h2 := HGW.out; exact ⟨this.2, by omega, this.1⟩)
                have HZL : Hid (z < hs.length) := Lib.hid (List.getElem?_eq_some_iff.1 hus).1
                generalize hp0 : P[z] = p0 at *
                have HP0 := Lib.hid hp0
                clear hus hro hp0 HST
                have HW1 : Hid (Below wS.heap.size wS (wS.alloc (.cells #[.int .i64 (-1), .int .i64 7, .int .i64 8] 3)).drew) := Lib.hid ((Below.refl wS.heap.size wS).alloc (Nat.le_refl _) _).drew
                have HAM := Lib.hid (among_any g (k + 700) (some ⟨wS.heap.size, 0, none⟩) 3 3 [-1, 7, 8] (wS.alloc (.cells #[.int .i64 (-1), .int .i64 7, .int .i64 8] 3)).drew (by omega) (by omega) (by omega) (HC.out.below HW1.out) (reads_litk wS [.int .i64 (-1), .int .i64 7, .int .i64 8] 3 (n := 3) (k := 1) rfl) (fun ad e => by injection e with e; subst e; have := HC.out.lt; show wS.heap.size ≠ g; omega))
                have c1 : (wS.alloc (.cells #[.int .i64 (-1), .int .i64 7, .int .i64 8] 3)).cell? ⟨g0, z, none⟩ = some (Value.slice Ai p0.length ci) := alloc_cell _ kc
                have hq0 : (z : Int) < (q : Int) := by omega
                have hq1 : (0 : Int) ≤ (z : Int) := by omega
                go_wp2_with fail
                go_region_law ((first | (refine step_pushL _ rfl (.tmp 67) (.tmp 71) 38 rfl w.heap.size 3 (.int .i64 0) 1 8 infoInt rfl (by omega) Try.underlying38 Ai p0.length ci (ints p0) rfl HRW.out (some ⟨w4.heap.size, 0, none⟩) 1 1 [.int .i64 x] rfl (reads_new _ _ _) (by simp [Value.oneCell']) (by omega) (by omega) HBW.out ?_; intro A5 c5 w5 hown5 hg5 hb5 hloc5; obtain ⟨⟨ob, kb⟩, fb⟩ := HP4.out.outer rfl HUS.out hg5 HZL.out) | (go_simp; go_wp2_with (go_at_call 91; refine (HAM.out).mono ?_; rintro e w4 ⟨x, hx, rfl, hc, hd⟩; have c4 := Drew.cellOf hd c1 HG0.out.2.1; have c5 := alloc_cell (.cells #[.int .i64 x] 3) c4; have HD4 := Lib.hid hd; have HC4 := Lib.hid hc; have HA4 : Hid (Below w4.heap.size w4 (w4.alloc (.cells #[.int .i64 x] 3))) := Lib.hid ((Below.refl _ _).alloc (Nat.le_refl _) _); have HRW := Lib.hid (own_below (Drew.own hd (own_below HRO.out HW1.out) HGW.out) HA4.out); have HP4 := Lib.hid (((HP.out.below HW1.out (Nat.le_refl _)).drewG hd HW1.out.size HGW.out).below HA4.out (Nat.le_trans HW1.out.size hd.size)); have HBW : Hid (w.heap.size ≤ (w4.alloc (.cells #[.int .i64 x] 3)).heap.size) := Lib.hid (Nat.le_trans (Nat.le_trans HD.out.size (Nat.le_trans HW1.out.size hd.size)) HA4.out.size)))))
                all_goals
                  have hpx : (ints (p0 ++ [x])).length = p0.length + 1 := by simp
                  have hnew := HP4.out.regrown (j := z) (v' := .slice A5 (p0.length + 1) c5) (l' := ints (p0 ++ [x])) (ci := c5) (Ai := A5) (hi2 := w5.heap.size) HCZ.out HUS.out hg5 (by have h1 := HW1.out.size; have h2 := HD4.out.size; have h3 := HA4.out.size; omega) (by rw [hpx]) (by rw [hpx, ← ints_snoc]; exact hown5) (hloc5.elim .inl (fun h => .inr ⟨_, h, by have h1 := HW1.out.size; have h2 := HD4.out.size; have h3 := HA4.out.size; omega⟩)) (by have h1 := HW1.out.size; have h2 := HD4.out.size; have h3 := HA4.out.size; have h4 := hg5.size; omega) (own_lt hown5)
                  rw [rowsIntss_set] at hnew
                  have HNEW := Lib.hid hnew
                  have hbf : Below w.heap.size w4 (w5.setCell ⟨g0, z, none⟩ (.slice A5 (p0.length + 1) c5)) := ((HA4.out.mono (by have h1 := HD.out.size; have h2 := HW1.out.size; have h3 := HD4.out.size; omega)).trans hb5).setCell HG0.out.2.2 _
                  have HCF := Lib.hid (HC4.out.below' hbf HGW.out)
                  have HDF := Lib.hid (Drew.then_below ((HD.out.trans (Drew.of_below HW1.out)).trans HD4.out) hbf)
                  have HPBF : Hid (∀ y ∈ P.set z (p0 ++ [x]), y.length ≤ 10) := Lib.hid (fun y hy => by
                    rcases List.mem_or_eq_of_mem_set hy with hy | hy
                    · exact HPB.out y hy
                    · subst hy; simp; omega)
                  have HPLF : Hid ((P.set z (p0 ++ [x])).length = q) := Lib.hid (by simp [HPL.out])
                  clear hnew hbf hown5 hg5 hb5 hloc5 kb fb hpx
                  have hszf : (w5.setCell ⟨g0, z, none⟩ (.slice A5 (p0.length + 1) c5)).heap.size = w5.heap.size := World.size_setCell _ _ _
                  have HSZ := Lib.hid hszf
                  clear hszf
                  generalize P.set z (p0 ++ [x]) = PF at *
                  have e1 := HPLF.out
                  subst e1
                  obtain ⟨wF, hwF⟩ : ∃ wF, wF = w5.setCell ⟨g0, z, none⟩ (.slice A5 (p0.length + 1) c5) := ⟨_, rfl⟩
                  rw [← hwF] at HNEW HCF HDF HSZ ⊢
                  clear hwF
                  go_wp2
                  go_ret
                  exact ⟨_, d, PF, rfl, hq, HPBF.out, ⟨_, by rw [HSZ.out]; exact HNEW.out⟩, HCF.out.mono (by omega), HDF.out⟩
            · go_wp2_with (go_at_call 105; refine (l1LeastG_any _ _ _).mono ?_; rintro e w' ⟨rfl, rfl⟩)
              go_ret
              have HPF := HP; have HPB := HPB; have HCF := HC; have HDF := HD
              have e1 := HPL.out
              subst e1
              exact ⟨B, d, P, hs, rfl, hq, HPB.out, HPF.out, HCF.out.mono (by omega), HDF.out⟩
      | true =>
        go_wp2_with fail
        refine (specLatePlan_any A n c l days _ (by omega) (Reads.of_own HO.out)).mono ?_
        rintro e w4 ⟨B, d, hs, rfl, hp, hb⟩
        have HP := Lib.hid (hp.mono_lo HD.out.size); have HC := Lib.hid (HC.out.below hb); have HD := Lib.hid (HD.out.trans (Drew.of_below hb))
        have hlb := lateR_bd l days
        clear hp hb
        go_wp2
        go_ret
        exact ⟨B, d, _, hs, rfl, by omega, fun x hx => by have := hlb.2 x hx; omega, HP.out, HC.out.mono (by omega), HD.out⟩

end Go.Proofs.Ytjibdabedagghaa
