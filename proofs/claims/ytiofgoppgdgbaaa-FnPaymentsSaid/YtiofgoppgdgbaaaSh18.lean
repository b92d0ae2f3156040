/- Contract of ShareByHours of the implementation. No conditions. -/
import Derived.Test.YtiofgoppgdgbaaaSh17
import Derived.BigRegion
namespace Go.Proofs.Ytiofgoppgdgbaaa
set_option linter.unusedSimpArgs false
set_option linter.unusedVariables false
open Go.RowKit

theorem below_drew {B : Nat} {w w' : World} (h : Below B w w') : Below B w w'.drew := ⟨h.os, h.tape, h.output, h.size, h.block⟩
theorem shareR_len (l : List S3) (c : Int) : (shareR l c).1.length ≤ 30 := by
  unfold shareR
  split
  · simp
  · simp

set_option maxHeartbeats 4000000 in
set_option maxRecDepth 100000 in
theorem implShareByHours_any (A : Option Addr) (n cc : Nat) (l : List S3) (cents : Int) (w : World) (hn : n ≤ 1000000000) (h : Reads w 3 A n (rows3 l)) (hnc : n ≤ cc) :
    Calls Try.prog 28 #[.slice A n cc, .int .i64 cents] w (Made2 w 3 1 (shareR l cents).1.length (ints (shareR l cents).1) (shareR l cents).2) := by
  have hlx : l.length = n := by have := h.1; rw [length_rows3] at this; omega
  have CG := Lib.hid (areShifts_any A n cc l w hn hnc h)
  cases h1 : goodShifts l with
  | false =>
    rw [h1] at CG
    have hr : shareR l cents = ([], false) := by simp [shareR, h1]
    rw [hr]
    
    clear hr h
    go_enter Try.func28, Try.ntmps28
    go_wp2_with (first | (go_at_call 54; refine (CG.out).mono ?_; rintro e w1 ⟨rfl, hb⟩; have HB1 := Lib.hid hb; clear hb) | (go_at_call 50; refine (within_any _ _ _ _).mono ?_; rintro e w' ⟨rfl, rfl⟩))
    go_ret2
    exact ⟨none, 0, rfl, own_start, HB1.out⟩
  | true =>
    rw [h1] at CG
    cases h3 : inB cents 0 1000000 with
    | false =>
      have hr : shareR l cents = ([], false) := by simp [shareR, h3]
      rw [hr]
      
      clear hr h
      go_enter Try.func28, Try.ntmps28
      go_wp2_with (first | (go_at_call 54; refine (CG.out).mono ?_; rintro e w1 ⟨rfl, hb⟩; have HB1 := Lib.hid hb; clear hb) | (go_at_call 50; refine (within_any _ _ _ _).mono ?_; rintro e w' ⟨rfl, rfl⟩))
      go_ret2
      exact ⟨none, 0, rfl, own_start, HB1.out⟩
    | true =>
      by_cases h2 : n = 0
      · have h2' : ((n : Int) == 0) = true := by simp [h2]
        have hr : shareR l cents = ([], false) := by simp [shareR, hlx, h2]
        rw [hr]
        have hl0 : l.length = 0 := by omega
        clear h2 hlx hl0
        clear hr h
        go_enter Try.func28, Try.ntmps28
        go_wp2_with (first | (go_at_call 54; refine (CG.out).mono ?_; rintro e w1 ⟨rfl, hb⟩; have HB1 := Lib.hid hb; clear hb) | (go_at_call 50; refine (within_any _ _ _ _).mono ?_; rintro e w' ⟨rfl, rfl⟩))
        go_ret2
        exact ⟨none, 0, rfl, own_start, HB1.out⟩
      · have h2' : ((n : Int) == 0) = false := by simp; omega
        have hr : shareR l cents = (sharesOf cents (hoursOf l), true) := by simp [shareR, h1, hlx, h2, h3]
        rw [hr]
        obtain ⟨hc0, hc1⟩ := inB_true.1 h3
        have hw := good_week h1
        have hn60 := good_len h1
        rw [hlx] at hn60
        have hsum := sum_hours h1
        have hdb := durs_bd hw
        rw [← hsum, hlx] at hdb
        have hsp : 0 < sumI (hoursOf l) := by omega
        have hs10 : sumI (hoursOf l) ≤ 10080 := by omega
        have HHB := Lib.hid (hours_bd h1)
        have HST := Lib.hid (ShInv.start (p := cents) (ns := hoursOf l) hsp hc0 hc1 (fun x hx => (hours_bd h1 x hx).1) (by simp))
        have HFIN : Hid (sharesOf cents (hoursOf l) = (shareN (cents - sumI (quos cents (sumI (hoursOf l)) (hoursOf l))).toNat (quos cents (sumI (hoursOf l)) (hoursOf l), rests cents (sumI (hoursOf l)) (hoursOf l))).1) := Lib.hid rfl
        have HLB : Hid (0 ≤ cents - sumI (quos cents (sumI (hoursOf l)) (hoursOf l))) := Lib.hid (left_bd hsp (by intro e; have := length_hoursOf l; rw [e] at this; simp at this)).1
        have HWW := Lib.hid hw
        have HOPS := Lib.hid (good_op h1)
        have H := Lib.hid h
        have HX := Lib.hid hlx
        have HHL : Hid ((hoursOf l).length = 30) := Lib.hid (length_hoursOf l)
        have HDS : Hid (durs l = sumI (hoursOf l)) := Lib.hid hsum.symm
        have HZ0 : Hid (ints (hoursOf []) = List.replicate 30 (.int .i64 0)) := Lib.hid (by rfl)
        clear hr hsum hdb h hw hlx
        generalize hFI : sharesOf cents (hoursOf l) = FINAL at *
        generalize hH0 : hoursOf l = H0 at *
        have HH0 := Lib.hid hH0
        clear hFI hH0
        go_enter Try.func28, Try.ntmps28
        go_wp2_with (first | (first | (go_at_call 54; refine (CG.out).mono ?_; rintro e w1 ⟨rfl, hb⟩; have HB1 := Lib.hid hb; clear hb) | (go_at_call 50; refine (within_any _ _ _ _).mono ?_; rintro e w' ⟨rfl, rfl⟩)) | (at_make; refine wpList_mk _ rfl (.const (.int .i64 30)) (.const (.int .i64 30)) 42 rfl w1.heap.size 3 (.int .i64 0) _ infoInt rfl Try.underlying42 _ _ _ _ 30 rfl rfl rfl rfl (by omega) (by omega) (by first | exact Nat.le_refl _ | omega | (simp; omega)) ?_; intro w3 hown3 hb3 hz3))
        rw [← HZ0.out] at hown3
        have HS3 := Lib.hid (And.intro hown3 hb3)
        have HG2 : Hid (w.heap.size ≤ w1.heap.size) := Lib.hid HB1.out.size
        have hz3' : w1.heap.size < w3.heap.size := (hown3.lt _ rfl).2
        have HZ3 := Lib.hid hz3'
        clear hown3 hb3 hz3 hz3'
        generalize hg2 : w1.heap.size = g2 at *
        go_loopw [7, 32] (fun sm i wr => ∃ k : Nat, k ≤ n ∧ i = .int .i64 k ∧ sm = .int .i64 (durs (l.take k)) ∧ wr.ownsRow g2 3 1 (.slice (some ⟨g2, 0, none⟩) 30 30) 30 (ints (hoursOf (l.take k))) ∧ Below g2 w1 wr) (fun _ i _ => n - (intOf i).toNat)
        case atStart => exact ⟨0, by omega, rfl, by simp [durs], HS3.out.1, HS3.out.2⟩
        case round =>
          clear HS3
          obtain ⟨k, hk, rfl, rfl, hown, hb⟩ := hrel
          have HB := Lib.hid hb; clear hb
          have HO := Lib.hid hown; clear hown
          by_cases hlt : k < n
          · have hx : k < l.length := by rw [HX.out]; exact hlt
            obtain ⟨ad, rfl, k0, k1, k2⟩ := rows3_at (H.out.below (HB1.out.trans (HB.out.mono HG2.out))) hlt HX.out
            have hwk := HWW.out l[k] (List.getElem_mem hx)
            have hok := HOPS.out l[k] (List.getElem_mem hx)
            have HDK : Hid (durs (l.take (k + 1)) = durs (l.take k) + (l[k].2.2 - l[k].2.1)) := Lib.hid (by rw [List.take_succ_eq_append_getElem hx, durs_snoc])
            have HHK : Hid (hoursOf (l.take (k + 1)) = (hoursOf (l.take k)).set (l[k].1 - 1).toNat ((duty l[k].1 (l.take k)).1 + (l[k].2.2 - l[k].2.1))) := Lib.hid (by rw [List.take_succ_eq_append_getElem hx, hoursOf_snoc hok])
            have hdt := duty_bd (op := l[k].1) (l := l.take k) (fun x hx => HWW.out x (List.mem_of_mem_take hx))
            have hdb := durs_bd (l := l.take k) (fun x hx => HWW.out x (List.mem_of_mem_take hx))
            have hlk : (l.take k).length = k := by simp; omega
            rw [hlk] at hdt hdb
            have HGET : Hid (∀ j : Nat, 0 ≤ l[k].1 - 1 → l[k].1 - 1 = (j : Int) → j < 30 → (hoursOf (l.take k))[j]? = some (duty l[k].1 (l.take k)).1) := Lib.hid (fun j _ e hj => by rw [hoursOf_get hj, show (j : Int) + 1 = l[k].1 by omega])
            clear hlk
            generalize l[k] = x at *
            obtain ⟨xa, xb, xc⟩ := x
            dsimp only at hwk hok k0 k1 k2 HDK HHK hdt HGET
            obtain ⟨hw1, hw2, hw3⟩ := hwk
            obtain ⟨hp1, hp2⟩ := hok
            obtain ⟨hd1, hd2, _, _⟩ := hdt
            obtain ⟨j, hj⟩ : ∃ j : Nat, xa - 1 = (j : Int) := ⟨(xa - 1).toNat, by omega⟩
            obtain rfl : xa = (j : Int) + 1 := by omega
            have hj30 : j < 30 := by omega
            have hjt : ((j : Int) + 1 - 1).toNat = j := by omega
            rw [hjt] at HHK
            have hgj := HGET.out j (by omega) (by omega) hj30
            clear HGET hjt hj
            generalize (duty ((j : Int) + 1) (l.take k)).1 = d at *
            have HLL : Hid ((hoursOf (l.take k)).length = 30) := Lib.hid (length_hoursOf _)
            generalize hoursOf (l.take k) = L at *
            generalize durs (l.take k) = q at *
            have hsg : g2 < wr.heap.size := by exact (HO.out.lt g2 rfl).2
            go_wp2
            obtain ⟨wa, hwa⟩ : ∃ wa, wa = (wr.alloc (.cells #[.int .i64 ((j : Int) + 1), .int .i64 xb, .int .i64 xc] 72)) := ⟨_, rfl⟩
            rw [← hwa]
            have a0' : wa.cell? ⟨wr.heap.size, 0, none⟩ = some (.int .i64 ((j : Int) + 1)) := by rw [hwa]; simp
            have a1' : wa.cell? ⟨wr.heap.size, 1, none⟩ = some (.int .i64 xb) := by rw [hwa]; simp
            have a2' : wa.cell? ⟨wr.heap.size, 2, none⟩ = some (.int .i64 xc) := by rw [hwa]; simp
            have HBA : Hid (Below g2 w1 wa) := Lib.hid (by rw [hwa]; exact HB.out.trans ((Below.refl _ _).alloc (by omega) _))
            have HOA : Hid (wa.ownsRow g2 3 1 (.slice (some ⟨g2, 0, none⟩) 30 30) 30 (ints L)) := Lib.hid (by rw [hwa]; exact own_below HO.out ((Below.refl _ _).alloc (Nat.le_refl _) _))
            clear hwa
            have b0 : wa.cell? ⟨wr.heap.size, 0, none⟩ = some (.int .i64 ((j : Int) + 1)) := a0'
            have b1 : wa.cell? ⟨wr.heap.size, 1, none⟩ = some (.int .i64 xb) := a1'
            have b2 : wa.cell? ⟨wr.heap.size, 2, none⟩ = some (.int .i64 xc) := a2'
            clear a0' a1' a2'
            have hcj : wa.cell? ⟨g2, j, none⟩ = some (.int .i64 d) := by
              rw [HOA.out.cellAt j (by omega)]
              simp [ints, hgj]
            have hfj : wa.frozen? ⟨g2, j, none⟩ = false := HOA.out.frozenAt j
            have hi1 : IntKind.i64.wrap ((j : Int) + 1 - 1) = (j : Int) := by rw [Int.add_sub_cancel]; exact IntWalk.i64_in _ (by omega)
            have hi2 : IntKind.i64.wrap (xc - xb) = xc - xb := IntWalk.i64_in _ (by omega)
            have hi3 : IntKind.i64.wrap (d + (xc - xb)) = d + (xc - xb) := IntWalk.i64_in _ (by omega)
            have hj31 : (j : Int) < 30 := by omega
            have hj00 : (0 : Int) ≤ (j : Int) := by omega
            have hjt2 : ((j : Int)).toNat = j := by simp
            have hs := (HOA.out.stored j (.int .i64 (d + (xc - xb)))).1
            rw [ints_set, ← HHK.out] at hs
            have HS := Lib.hid hs
            have HBS := Lib.hid (HBA.out.setCell (p := ⟨g2, j, none⟩) (Nat.le_refl _) (.int .i64 (d + (xc - xb))))
            have hr1 : (wa.setCell ⟨g2, j, none⟩ (.int .i64 (d + (xc - xb)))).cell? ⟨wr.heap.size, 1, none⟩ = some (.int .i64 xb) := by rw [World.cell?_setCell_other]; exact b1; simp <;> omega
            have hr2 : (wa.setCell ⟨g2, j, none⟩ (.int .i64 (d + (xc - xb)))).cell? ⟨wr.heap.size, 2, none⟩ = some (.int .i64 xc) := by rw [World.cell?_setCell_other]; exact b2; simp <;> omega
            clear hs hgj
            go_region
            generalize wa.setCell ⟨g2, j, none⟩ (.int .i64 (d + (xc - xb))) = wb at *
            go_wp2
            go_roundw
            case rel => exact ⟨k + 1, by omega, by go_num, by rw [HDK.out], HS.out, below_drew HBS.out⟩
            case measure => simp [intOf]; omega
          · obtain rfl : k = n := by omega
            rw [take_full HX.out] at *
            rw [HH0.out, HDS.out] at *
            have HOH := HO
            clear HO HH0 HDS HOPS HWW HX HZ0
            obtain ⟨w2, rfl⟩ : ∃ w2, w2 = wr := ⟨_, rfl⟩
            have HG3 : Hid (w.heap.size ≤ w2.heap.size) := Lib.hid (by have h1 := HG2.out; have h2 := HB.out.size; omega)
            have HBL : Hid (Below w.heap.size w w2) := Lib.hid (HB1.out.trans (HB.out.mono HG2.out))
            have HQL : Hid ((quos cents (sumI H0) H0).length = 30) := Lib.hid (by simp [HHL.out])
            have HR0 : Hid ((rests cents (sumI H0) H0).length = 30) := Lib.hid (by simp [HHL.out])
            generalize sumI H0 = s at *
            have HQG : Hid (∀ (k : Nat) (x : Int), H0[k]? = some x → (quos cents s H0)[k]? = some (cents * x / s)) := Lib.hid (fun k x hx => by simp [quos, hx])
            have HRG : Hid (∀ (k : Nat) (x : Int), H0[k]? = some x → (rests cents s H0)[k]? = some (cents * x % s)) := Lib.hid (fun k x hx => by simp [rests, hx])
            have HQB : Hid (∀ x ∈ quos cents s H0, 0 ≤ x ∧ x ≤ 3000000) := Lib.hid (fun x hx => by have := HST.out.bd x hx; omega)
            generalize quos cents s H0 = Q at *
            generalize rests cents s H0 = R0 at *
            obtain ⟨t0, ht0⟩ : ∃ t0 : Nat, cents - sumI Q = (t0 : Int) := ⟨(cents - sumI Q).toNat, by have := HLB.out; omega⟩
            rw [ht0] at HST HFIN
            rw [Int.toNat_natCast] at HST HFIN
            have HT0 := Lib.hid ht0
            clear ht0 HLB H CG hk hlt
            go_wp2_with (first | ((fail_if_success (have hq := hown3)); (at_make; refine wpList_mk _ rfl (.const (.int .i64 30)) (.const (.int .i64 30)) 42 rfl w2.heap.size 3 (.int .i64 0) _ infoInt rfl Try.underlying42 _ _ _ _ 30 rfl rfl rfl rfl (by omega) (by omega) (by first | exact Nat.le_refl _ | omega | (simp; omega)) ?_; intro w3 hown3 hb3 hz3)) | (at_make; refine wpList_mk _ rfl (.const (.int .i64 30)) (.const (.int .i64 30)) 42 rfl w3.heap.size 3 (.int .i64 0) _ infoInt rfl Try.underlying42 _ _ _ _ 30 rfl rfl rfl rfl (by omega) (by omega) (by first | exact Nat.le_refl _ | omega | (simp; omega)) ?_; intro w4 hown4 hb4 hz4))
            have hg34 : w2.heap.size < w3.heap.size := (hown3.lt _ rfl).2
            have hg23 : g2 < w2.heap.size := (HOH.out.lt _ rfl).2
            have ho3 := own_below hown3 hb4
            rw [← mid_start (l := ints Q)] at ho3
            rw [← mid_start (l := ints R0)] at hown4
            have HS5 := Lib.hid (And.intro ho3 (And.intro hown4 (hb3.trans (hb4.mono (by omega)))))
            clear hown3 ho3 hown4 hb3 hb4 hz3 hz4
            generalize hg3 : w2.heap.size = g3 at *
            generalize hg4 : w3.heap.size = g4 at *
            go_loopw [12, 62] (fun lf i wr => ∃ k : Nat, k ≤ 30 ∧ i = .int .i64 k ∧ lf = .int .i64 (cents - sumI (Q.take k)) ∧ wr.ownsRow g3 3 1 (.slice (some ⟨g3, 0, none⟩) 30 30) 30 ((ints Q).take k ++ List.replicate (30 - k) (.int .i64 0)) ∧ wr.ownsRow g4 3 1 (.slice (some ⟨g4, 0, none⟩) 30 30) 30 ((ints R0).take k ++ List.replicate (30 - k) (.int .i64 0)) ∧ Below g3 w2 wr) (fun _ i _ => 30 - (intOf i).toNat)
            case atStart => exact ⟨0, by omega, rfl, by simp [sumI], HS5.out.1, HS5.out.2.1, HS5.out.2.2⟩
            case round =>
              clear HS5
              obtain ⟨k, hk, rfl, rfl, hown, hown', hb⟩ := hrel
              have HBQ := Lib.hid hb; clear hb
              have HO := Lib.hid hown; clear hown
              have HO' := Lib.hid hown'; clear hown'
              have hsb := sumI_bd (l := Q.take k) (b := 3000000) (fun x hx => HQB.out x (List.mem_of_mem_take hx))
              have hsl : (Q.take k).length = k := by simp [HQL.out]; omega
              rw [hsl] at hsb
              clear hsl
              by_cases hlt : k < 30
              · have hx : k < H0.length := by rw [HHL.out]; exact hlt
                have hcell : wr.cell? ⟨g2, k, none⟩ = some (.int .i64 H0[k]) := by
                  rw [HBQ.out.cell (by show g2 < g3; omega), HOH.out.cellAt k (by omega)]
                  simp [ints, hx]
                have hq := HQG.out k H0[k] (List.getElem?_eq_getElem hx)
                have hr := HRG.out k H0[k] (List.getElem?_eq_getElem hx)
                have hxb := HHB.out H0[k] (List.getElem_mem hx)
                have hxq : k < Q.length := by rw [HQL.out]; exact hlt
                have HTK : Hid (sumI (Q.take (k + 1)) = sumI (Q.take k) + cents * H0[k] / s) := Lib.hid (by
                  rw [sumI_take hxq]
                  rw [List.getElem?_eq_getElem hxq] at hq
                  injection hq with hq
                  rw [hq])
                have hqb := HQB.out _ (List.mem_of_getElem? hq)
                generalize H0[k] = x at *
                have hp0 : 0 ≤ cents * x := Int.mul_nonneg hc0 hxb.1
                have hp1 : cents * x ≤ 1000000 * 10080 := Int.mul_le_mul hc1 hxb.2 hxb.1 (by omega)
                have hrb : 0 ≤ cents * x % s ∧ cents * x % s < s := ⟨Int.emod_nonneg _ (by omega), Int.emod_lt_of_pos _ hsp⟩
                have hold : wr.cell? ⟨g3, k, none⟩ = some (.int .i64 0) := by
                  rw [HO.out.cellAt k (by omega)]
                  exact mid_get (by simp [HQL.out]) hlt
                have hold' : wr.cell? ⟨g4, k, none⟩ = some (.int .i64 0) := by
                  rw [HO'.out.cellAt k (by omega)]
                  exact mid_get (by simp [HR0.out]) hlt
                have hfz : wr.frozen? ⟨g3, k, none⟩ = false := HO.out.frozenAt k
                have hfz' : wr.frozen? ⟨g4, k, none⟩ = false := HO'.out.frozenAt k
                have hv1 : IntKind.i64.wrap (cents * x) = cents * x := IntWalk.i64_in _ (by omega)
                have hv2 : (cents * x).tdiv s = cents * x / s := Int.tdiv_eq_ediv_of_nonneg hp0
                have hv3 : (cents * x).tmod s = cents * x % s := Int.tmod_eq_emod_of_nonneg hp0
                have hw1 : IntKind.i64.wrap (cents * x / s) = cents * x / s := IntWalk.i64_in _ (by omega)
                have hw2 : IntKind.i64.wrap (cents * x % s) = cents * x % s := IntWalk.i64_in _ (by omega)
                generalize cents * x / s = qx at *
                generalize cents * x % s = rx at *
                have hs0 : (s == 0) = false := by simp; omega
                have hs0' : s ≠ 0 := by omega
                have hk31 : (k : Int) < 30 := by omega
                have hk00 : (0 : Int) ≤ (k : Int) := by omega
                have hn34 : g3 ≠ g4 := by omega
                have hn43 : g4 ≠ g3 := by omega
                have o1 := (HO.out.stored k (.int .i64 qx)).1
                rw [mid_set (by simp [HQL.out]) hlt (by rw [ints, List.getElem?_map, hq]; rfl)] at o1
                have o1' := row_setOther (i := k) (u := .int .i64 rx) o1 hn34
                have o2 := row_setOther (i := k) (u := .int .i64 qx) HO'.out hn43
                have o2' := (o2.stored k (.int .i64 rx)).1
                rw [mid_set (by simp [HR0.out]) hlt (by rw [ints, List.getElem?_map, hr]; rfl)] at o2'
                have hcb : ((wr.setCell ⟨g3, k, none⟩ (.int .i64 qx)).setCell ⟨g4, k, none⟩ (.int .i64 rx)).cell? ⟨g3, k, none⟩ = some (.int .i64 qx) := by
                  rw [o1'.cellAt k (by omega)]
                  rw [List.getElem?_append_left (by simp [HQL.out]; omega), List.getElem?_take_of_lt (by omega), ints, List.getElem?_map, hq]
                  rfl
                have hold2 : (wr.setCell ⟨g3, k, none⟩ (.int .i64 qx)).cell? ⟨g4, k, none⟩ = some (.int .i64 0) := by
                  rw [World.cell?_setCell_other]
                  · exact hold'
                  · simp <;> omega
                have hfz2 : (wr.setCell ⟨g3, k, none⟩ (.int .i64 qx)).frozen? ⟨g4, k, none⟩ = false := o2.frozenAt k
                have HO1 := Lib.hid o1'
                have HO2 := Lib.hid o2'
                have HB2 := Lib.hid ((HBQ.out.setCell (p := ⟨g3, k, none⟩) (Nat.le_refl _) (.int .i64 qx)).setCell (p := ⟨g4, k, none⟩) (by show g3 ≤ g4; omega) (.int .i64 rx))
                clear o1 o1' o2 o2' hq hr
                go_wp2
                go_region
                generalize (wr.setCell ⟨g3, k, none⟩ (.int .i64 qx)).setCell ⟨g4, k, none⟩ (.int .i64 rx) = wb at *
                go_wp2
                go_roundw
                case rel => exact ⟨k + 1, by omega, by go_num, by have := HTK.out; congr 1; omega, HO1.out, HO2.out, below_drew HB2.out⟩
                case measure => simp [intOf]; omega
              · obtain rfl : k = 30 := by omega
                have ho := HO.out
                have ho' := HO'.out
                rw [mid_end (by simp [HQL.out])] at ho
                rw [mid_end (by simp [HR0.out])] at ho'
                rw [take_full HQL.out] at *
                rw [HT0.out] at *
                have HSTART := Lib.hid (And.intro ho (And.intro ho' HBQ.out))
                have ht30 : t0 ≤ 30 := by have h1 := HST.out.left; have h2 := List.length_filter_le (fun x : Int => decide (0 ≤ x)) R0; rw [HR0.out] at h2; unfold open_ at h1; omega
                clear ho ho' HO HO' hsb hk hlt HBQ HT0
                go_wp2_with fail
                go_loopw [12] (fun lf wr => ∃ t S R, lf = .int .i64 ((t : Nat) : Int) ∧ ShInv cents s H0 t S R ∧ shareN t (S, R) = shareN t0 (Q, R0) ∧ wr.ownsRow g3 3 1 (.slice (some ⟨g3, 0, none⟩) 30 30) 30 (ints S) ∧ wr.ownsRow g4 3 1 (.slice (some ⟨g4, 0, none⟩) 30 30) 30 (ints R) ∧ Below g3 w2 wr) (fun lf _ => (intOf lf).toNat)
                case atStart => exact ⟨t0, Q, R0, rfl, HST.out, rfl, HSTART.out.1, HSTART.out.2.1, HSTART.out.2.2⟩
                case round =>
                  clear HSTART
                  obtain ⟨t, S, R, rfl, hinv, hsh, hos, hor, hb⟩ := hrel
                  have HINV := Lib.hid hinv
                  have HSH := Lib.hid hsh; clear hsh
                  have HOS := Lib.hid hos; clear hos
                  have HOR := Lib.hid hor; clear hor
                  have HBB := Lib.hid hb; clear hb
                  have HRL : Hid (R.length = 30) := Lib.hid (by rw [hinv.lenR]; exact HHL.out)
                  have HSL : Hid (S.length = 30) := Lib.hid (by rw [hinv.lenS]; exact HHL.out)
                  have htl : t ≤ 30 := by have h1 := hinv.left; have h2 := List.length_filter_le (fun x : Int => decide (0 ≤ x)) R; rw [HRL.out] at h2; unfold open_ at h1; omega
                  clear hinv
                  by_cases ht : t = 0
                  · subst ht
                    have HE : Hid (FINAL = S) := Lib.hid (by rw [HFIN.out, ← HSH.out]; rfl)
                    go_wp2
                    go_ret2
                    rw [HE.out]
                    subst hg3
                    refine ⟨some ⟨w2.heap.size, 0, none⟩, 30, ?_, ?_, HBL.out.trans (HBB.out.mono HG3.out)⟩
                    · show _ = Ending.returned (.tuple #[.slice _ S.length 30, .bool true])
                      rw [HSL.out]
                      rfl
                    · have := own_mono HOS.out HG3.out
                      simpa only [HSL.out] using this
                  · obtain ⟨t, rfl⟩ : ∃ t', t = t' + 1 := ⟨t - 1, by omega⟩
                    obtain ⟨hb1, hix, _, hSb, hinv2⟩ := HINV.out.step
                    rw [HHL.out] at hb1
                    have hvb := HINV.out.bd _ (List.mem_of_getElem? hSb)
                    have HI2 : Hid (ShInv cents s H0 t (S.set (best R) (S.getD (best R) 0 + 1)) (R.set (best R) (-1))) := Lib.hid hinv2
                    have HSH2 : Hid (shareN t (S.set (best R) (S.getD (best R) 0 + 1), R.set (best R) (-1)) = shareN t0 (Q, R0)) := Lib.hid (by rw [← HSH.out]; rfl)
                    have CM := Lib.hid (slicesMax_any (some ⟨g4, 0, none⟩) 30 30 R wr (by omega) (by omega) (Reads.of_own HOR.out))
                    have CI := Lib.hid (slicesIndex_any (some ⟨g4, 0, none⟩) 30 30 R (maxL R) wr (by omega) (Reads.of_own HOR.out))
                    rw [hix] at CI
                    clear hinv2 hix HSH
                    have hSb2 : S[best R]? = some (S.getD (best R) 0) := hSb
                    clear hSb
                    generalize S.getD (best R) 0 = v at *
                    generalize best R = b at *
                    generalize maxL R = mx at *
                    have hbR : b < R.length := by rw [HRL.out]; exact hb1
                    have hb31 : (b : Int) < 30 := by omega
                    have hb00 : (0 : Int) ≤ (b : Int) := by omega
                    have hold3 : wr.cell? ⟨g3, b, none⟩ = some (.int .i64 v) := by
                      rw [HOS.out.cellAt b (by omega)]
                      simp [ints, hSb2]
                    have hfz3 : wr.frozen? ⟨g3, b, none⟩ = false := HOS.out.frozenAt b
                    have HOR3 := Lib.hid (row_setOther (i := b) (u := .int .i64 (v + 1)) HOR.out (show g4 ≠ g3 by omega))
                    have hold4 : (wr.setCell ⟨g3, b, none⟩ (.int .i64 (v + 1))).cell? ⟨g4, b, none⟩ = some (.int .i64 R[b]) := by
                      rw [HOR3.out.cellAt b (by omega)]
                      simp [ints, hbR]
                    have hfz4 : (wr.setCell ⟨g3, b, none⟩ (.int .i64 (v + 1))).frozen? ⟨g4, b, none⟩ = false := HOR3.out.frozenAt b
                    have hs4 := (HOR3.out.stored b (.int .i64 (-1))).1
                    rw [ints_set] at hs4
                    have hs3 := row_setOther (i := b) (u := .int .i64 (-1)) (HOS.out.stored b (.int .i64 (v + 1))).1 (show g3 ≠ g4 by omega)
                    rw [ints_set] at hs3
                    have HS3 := Lib.hid hs3
                    have HS4 := Lib.hid hs4
                    have HB4 := Lib.hid ((HBB.out.setCell (p := ⟨g3, b, none⟩) (Nat.le_refl _) (.int .i64 (v + 1))).setCell (p := ⟨g4, b, none⟩) (by show g3 ≤ g4; omega) (.int .i64 (-1)))
                    clear hs3 hs4 hSb2
                    generalize R[b] = rb at *
                    go_wp2_with (first | (go_at_call 65; refine (CM.out).mono ?_; rintro e w' ⟨rfl, rfl⟩) | (go_at_call 64; refine (CI.out).mono ?_; rintro e w' ⟨rfl, rfl⟩))
                    first | (refine ⟨⟨_, _, _, _, _, _, _, _, _, _, _, _, _, _, _, _, _, _, _, ?rel, rfl⟩, ?measure⟩) | (refine ⟨⟨_, _, _, _, _, _, _, _, _, _, _, _, _, _, _, _, _, _, ?rel, rfl⟩, ?measure⟩) | (refine ⟨⟨_, _, _, _, _, _, _, _, _, _, _, _, _, _, _, _, _, _, _, _, ?rel, rfl⟩, ?measure⟩) | (refine ⟨⟨_, _, _, _, _, _, _, _, _, _, _, _, _, _, _, _, _, ?rel, rfl⟩, ?measure⟩) | (refine ⟨⟨_, _, _, _, _, _, _, _, _, _, _, _, _, _, _, _, _, _, _, _, _, ?rel, rfl⟩, ?measure⟩)
                    case rel => exact ⟨t, _, _, by go_num, HI2.out, HSH2.out, HS3.out, HS4.out, HB4.out⟩
                    case measure => simp [intOf] <;> omega
set_option maxHeartbeats 4000000 in
set_option maxRecDepth 100000 in
theorem law_FnExactShareByHours (w : World) {v0 v1 : Value} (h0 : IsRows3 w v0) (h1 : IsInt v1) :
    Calls Try.prog 8 #[v0, v1] w fun e w' => e = .returned (.bool true) ∧ Below w.heap.size w w' := by
  obtain ⟨A0, n0, c0, xs0, rfl, hnc0, hcm0, _, hr0, _⟩ := h0
  obtain ⟨a1, rfl, _⟩ := h1
  have HR0 := Lib.hid (hr0); clear hr0
  by_cases hz0 : n0 ≤ 1048576
  rotate_left
  · go_enter Try.func8, Try.ntmps8
    go_wp2_with fail
    refine (szShiftS_bigI A0 n0 c0 _ _ (by omega) (by omega) (by omega) (by omega)).mono ?_
    rintro e w' ⟨rfl, rfl⟩
    go_wp2_with fail
    go_ret
    exact ⟨rfl, (Below.refl _ _)⟩
  obtain ⟨S0, hS0⟩ : ∃ S0, S0 = w := ⟨_, rfl⟩
  have HS0 := Lib.hid hS0
  have BW0 : Hid (Below w.heap.size w S0 ∧ w.heap.size ≤ S0.heap.size) := Lib.hid (by subst hS0; exact ⟨(Below.refl _ _), by simp; try omega⟩)
  rw [← hS0] at HR0
  clear hS0
  go_enter Try.func8, Try.ntmps8
  try rw [← HS0.out]
  go_wp2_with fail
  try rw [← HS0.out]
  refine (szShiftS_okI A0 n0 c0 _ _ (by omega) (by omega) (by omega) (by omega)).mono ?_
  rintro e w' ⟨rfl, rfl⟩
  have BB0 : Hid (Below S0.heap.size S0 S0) := Lib.hid (Below.refl _ _)
  try rw [← HS0.out]
  go_wp2_with fail
  try rw [← HS0.out]
  refine (toShiftS_any A0 n0 c0 xs0 S0 (by omega) (HR0.out.below BB0.out)).mono ?_
  rintro e w1 ⟨As0, cs0, rfl, hown, hb⟩
  have Os0_1 := Lib.hid hown; clear hown
  have Ls0 := Lib.hid (own_lt Os0_1.out)
  have B0 := Lib.hid hb; clear hb
  have Z0 := Lib.hid (B0.out.size)
  have BB1 := Lib.hid (BB0.out.trans (B0.out.mono BB0.out.size))
  go_wp2_with fail
  refine (specShareByHours_any As0 n0 cs0 xs0 a1 w1 (by omega) (Reads.of_own Os0_1.out) (own_cap Os0_1.out)).mono ?_
  rintro e w2 ⟨Aw, cw, rfl, hown, hb⟩
  have Ow_2 := Lib.hid hown; clear hown
  have Lw := Lib.hid (own_lt Ow_2.out)
  have B1 := Lib.hid hb; clear hb
  have Z1 := Lib.hid (B1.out.size)
  have BB2 := Lib.hid (BB1.out.trans (B1.out.mono BB1.out.size))
  have Os0_2 := Lib.hid (own_below Os0_1.out B1.out)
  go_wp2_with fail
  refine (toShiftS_any A0 n0 c0 xs0 w2 (by omega) (HR0.out.below BB2.out)).mono ?_
  rintro e w3 ⟨Ax0, cx0, rfl, hown, hb⟩
  have Ox0_3 := Lib.hid hown; clear hown
  have Lx0 := Lib.hid (own_lt Ox0_3.out)
  have B2 := Lib.hid hb; clear hb
  have Z2 := Lib.hid (B2.out.size)
  have BB3 := Lib.hid (BB2.out.trans (B2.out.mono BB2.out.size))
  have Ow_3 := Lib.hid (own_below Ow_2.out B2.out)
  go_wp2_with fail
  refine (implShareByHours_any Ax0 n0 cx0 xs0 a1 w3 (by omega) (Reads.of_own Ox0_3.out) (own_cap Ox0_3.out)).mono ?_
  rintro e w4 ⟨Ag, cg, rfl, hown, hb⟩
  have Og_4 := Lib.hid hown; clear hown
  have Lg := Lib.hid (own_lt Og_4.out)
  have B3 := Lib.hid hb; clear hb
  have Z3 := Lib.hid (B3.out.size)
  have BB4 := Lib.hid (BB3.out.trans (B3.out.mono BB3.out.size))
  have Ow_4 := Lib.hid (own_below Ow_3.out B3.out)
  have Ox0_4 := Lib.hid (own_below Ox0_3.out B3.out)
  go_wp2_with fail
  refine (eqIntS_any Ag Aw ((shareR xs0 a1).1).length cg cw (shareR xs0 a1).1 w4 (by (have := shareR_len xs0 a1; omega))  (Reads.of_own Og_4.out) (Reads.of_own Ow_4.out)).mono ?_
  rintro e w5 ⟨rfl, hb⟩
  replace hb := below_of_quiet (B := w4.heap.size) hb
  have B4 := Lib.hid hb; clear hb
  have Z4 := Lib.hid (B4.out.size)
  have BB5 := Lib.hid (BB4.out.trans (B4.out.mono BB4.out.size))
  have Ow_5 := Lib.hid (own_below Ow_4.out B4.out)
  have Ox0_5 := Lib.hid (own_below Ox0_4.out B4.out)
  have Og_5 := Lib.hid (own_below Og_4.out B4.out)
  go_wp2_with fail
  refine (toShiftS_any A0 n0 c0 xs0 w5 (by omega) (HR0.out.below BB5.out)).mono ?_
  rintro e w6 ⟨At0, ct0, rfl, hown, hb⟩
  have Ot0_6 := Lib.hid hown; clear hown
  have Lt0 := Lib.hid (own_lt Ot0_6.out)
  have B5 := Lib.hid hb; clear hb
  have Z5 := Lib.hid (B5.out.size)
  have BB6 := Lib.hid (BB5.out.trans (B5.out.mono BB5.out.size))
  have Ow_6 := Lib.hid (own_below Ow_5.out B5.out)
  have Ox0_6 := Lib.hid (own_below Ox0_5.out B5.out)
  have Og_6 := Lib.hid (own_below Og_5.out B5.out)
  go_wp2_with fail
  refine (eqShiftS_any Ax0 At0 n0 cx0 ct0 xs0 w6 (by omega)  (Reads.of_own Ox0_6.out) (Reads.of_own Ot0_6.out)).mono ?_
  rintro e w7 ⟨rfl, hb⟩
  have B6 := Lib.hid hb; clear hb
  have Z6 := Lib.hid (B6.out.size)
  have BB7 := Lib.hid (BB6.out.trans (B6.out.mono BB6.out.size))
  have Ow_7 := Lib.hid (own_below Ow_6.out B6.out)
  have Ox0_7 := Lib.hid (own_below Ox0_6.out B6.out)
  have Og_7 := Lib.hid (own_below Og_6.out B6.out)
  have Ot0_7 := Lib.hid (own_below Ot0_6.out B6.out)
  go_wp2_with fail
  refine (markShiftS_any Ax0 n0 cx0 (1) _ _ w7 (by omega) Ox0_7.out).mono ?_
  rintro e w8 ⟨rfl, hown, hg⟩
  have hT := Turned.of_mark hg Ox0_7.out Lx0.out; clear hg
  have T7 := Lib.hid hT; clear hT
  have Ox0_8 := Lib.hid hown; clear hown
  have Z7 := Lib.hid T7.out.size
  have BB8 := Lib.hid (below_turned BB7.out T7.out (by have := Z0.out; have := Z1.out; omega) BB7.out.size)
  have Ow_8 := Lib.hid (row_turned_after Ow_7.out T7.out Lw.out (Nat.le_refl _))
  have Og_8 := Lib.hid (row_turned_before Og_7.out T7.out (Nat.le_refl _))
  go_wp2_with fail
  refine (eqIntS_any Ag Aw ((shareR xs0 a1).1).length cg cw (shareR xs0 a1).1 w8 (by (have := shareR_len xs0 a1; omega))  (Reads.of_own Og_8.out) (Reads.of_own Ow_8.out)).mono ?_
  rintro e w9 ⟨rfl, hb⟩
  replace hb := below_of_quiet (B := w8.heap.size) hb
  have B8 := Lib.hid hb; clear hb
  have Z8 := Lib.hid (B8.out.size)
  have BB9 := Lib.hid (BB8.out.trans (B8.out.mono BB8.out.size))
  have Ow_9 := Lib.hid (own_below Ow_8.out B8.out)
  have Ox0_9 := Lib.hid (own_below Ox0_8.out B8.out)
  have Og_9 := Lib.hid (own_below Og_8.out B8.out)
  go_wp2_with fail
  refine (markIntS_any Ag ((shareR xs0 a1).1).length cg (1) _ _ w9 (by (have := shareR_len xs0 a1; omega)) Og_9.out).mono ?_
  rintro e w10 ⟨rfl, hown, hg⟩
  have hT := Turned.of_mark hg Og_9.out Lg.out; clear hg
  have T9 := Lib.hid hT; clear hT
  have Og_10 := Lib.hid hown; clear hown
  have Z9 := Lib.hid T9.out.size
  have BB10 := Lib.hid (below_turned BB9.out T9.out (by have := Z0.out; have := Z1.out; have := Z2.out; omega) BB9.out.size)
  have Ow_10 := Lib.hid (row_turned_after Ow_9.out T9.out Lw.out (by have := Z2.out; omega))
  go_wp2_with fail
  refine (heldIntS_any Ag ((shareR xs0 a1).1).length cg (1) w10 (by (have := shareR_len xs0 a1; omega)) (Reads.of_own Og_10.out)).mono ?_
  rintro e w11 ⟨rfl, hb⟩
  subst hb
  go_wp2_with fail
  refine (toShiftS_any A0 n0 c0 xs0 w10 (by omega) (HR0.out.below BB10.out)).mono ?_
  rintro e w11 ⟨Ay0, cy0, rfl, hown, hb⟩
  have Oy0_11 := Lib.hid hown; clear hown
  have Ly0 := Lib.hid (own_lt Oy0_11.out)
  have B10 := Lib.hid hb; clear hb
  have Z10 := Lib.hid (B10.out.size)
  have BB11 := Lib.hid (BB10.out.trans (B10.out.mono BB10.out.size))
  have Ow_11 := Lib.hid (own_below Ow_10.out B10.out)
  have Og_11 := Lib.hid (own_below Og_10.out B10.out)
  go_wp2_with fail
  refine (implShareByHours_any Ay0 n0 cy0 xs0 a1 w11 (by omega) (Reads.of_own Oy0_11.out) (own_cap Oy0_11.out)).mono ?_
  rintro e w12 ⟨Ah, ch, rfl, hown, hb⟩
  have Oh_12 := Lib.hid hown; clear hown
  have Lh := Lib.hid (own_lt Oh_12.out)
  have B11 := Lib.hid hb; clear hb
  have Z11 := Lib.hid (B11.out.size)
  have BB12 := Lib.hid (BB11.out.trans (B11.out.mono BB11.out.size))
  have Ow_12 := Lib.hid (own_below Ow_11.out B11.out)
  have Og_12 := Lib.hid (own_below Og_11.out B11.out)
  have Oy0_12 := Lib.hid (own_below Oy0_11.out B11.out)
  go_wp2_with fail
  refine (eqIntS_any Ah Aw ((shareR xs0 a1).1).length ch cw (shareR xs0 a1).1 w12 (by (have := shareR_len xs0 a1; omega))  (Reads.of_own Oh_12.out) (Reads.of_own Ow_12.out)).mono ?_
  rintro e w13 ⟨rfl, hb⟩
  replace hb := below_of_quiet (B := w12.heap.size) hb
  have B12 := Lib.hid hb; clear hb
  have Z12 := Lib.hid (B12.out.size)
  have BB13 := Lib.hid (BB12.out.trans (B12.out.mono BB12.out.size))
  have Ow_13 := Lib.hid (own_below Ow_12.out B12.out)
  have Og_13 := Lib.hid (own_below Og_12.out B12.out)
  have Oh_13 := Lib.hid (own_below Oh_12.out B12.out)
  go_wp2_with fail
  refine (heldIntS_any Ag ((shareR xs0 a1).1).length cg (1) w13 (by (have := shareR_len xs0 a1; omega)) (Reads.of_own Og_13.out)).mono ?_
  rintro e w14 ⟨rfl, hb⟩
  subst hb
  go_wp2_with fail
  go_ret
  first | exact ⟨rfl, BW0.out.1.trans (BB13.out.mono BW0.out.2)⟩ | exact ⟨rfl, BB13.out⟩

end Go.Proofs.Ytiofgoppgdgbaaa
