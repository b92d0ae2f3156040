/- Contract of JoinDays of the program, and the law over both. No conditions. -/
import Derived.Test.YtjibdabedagghaaJoiT
import Derived.Deep.RegionHeld3
import Derived.Deep.RegionLaw
namespace Go.Proofs.Ytjibdabedagghaa
set_option linter.unusedSimpArgs false
set_option linter.unusedVariables false
open Go.RowKit

theorem grown_drew {w w' : World} {r : Option Nat} (h : w.drew.grownBy w' r) : w.grownBy w' r := ⟨h.os, h.tape, h.output, h.size, h.block⟩
theorem own_drew {w : World} {base k n : Nat} {e : TypeId} {v : Value} {xs : List Value} (h : w.ownsRow base e k v n xs) : w.drew.ownsRow base e k v n xs := h
theorem reads_drew1 {w : World} {k n : Nat} {A : Option Addr} {xs : List Value} (h : Reads w k A n xs) : Reads w.drew k A n xs := h
theorem below_drew0 {B : Nat} {w w' : World} (h : Below B w.drew w') : Below B w w' := ⟨h.os, h.tape, h.output, h.size, h.block⟩
theorem join_rows (L : PL) {f t : Nat} (h : f ≠ t) (X1 X2 : Cel) (v : List Int) : ((((rowsIntss L).set t X1).set f (.inr [])).set t X2).set t (.inr (ints v)) = rowsIntss ((L.set t v).set f []) := by
  rw [List.set_set, List.set_comm _ _ h, List.set_set, rowsIntss_set]
  have := rowsIntss_set (L.set t v) f []
  exact this
theorem grown_belowT {w w' : World} {lo hi k n c : Nat} {e ei : TypeId} {A : Option Addr} {cs : List Cel} {hs : List Value} {j : Nat} {u : Value} (h : Own2 w lo hi e ei k A n c cs hs) (hu : hs[j]? = some u) (hg : w.grownBy w' u.ownBlock) (hlo : lo ≤ w.heap.size) : Below lo w w' :=
  ⟨hg.os, hg.tape, hg.output, hg.size, fun q hq => hg.block q (by omega) (fun e' => by have := (h.bounds j u hu q e'.symm).1; omega)⟩

set_option maxHeartbeats 4000000 in
set_option maxRecDepth 100000 in
theorem implJoinDays_any (A : Option Addr) (n c : Nat) (L : PL) (f t : Int) (w : World) (hn : n ≤ 1000000000) (hl : ∀ l ∈ L, l.length ≤ 1000000000) (h : Reads2 w 1 A n (rowsIntss L)) :
    Calls Try.prog 48 #[.slice A n c, .int .i64 f, .int .i64 t] w (Made4 w 38 3 1 (joinR L f t).1.length (rowsIntss (joinR L f t).1) (joinR L f t).2) := by
  have HX := Lib.hid (show L.length = n by have := h.len; simpa using this)
  have c1 := isPlan_any A n c L w hn hl h
  cases h1 : planB 7 L with
  | false =>
    rw [h1] at c1
    have C1 := Lib.hid c1
    have hr : joinR L f t = ([], false) := by simp [joinR, h1]
    rw [hr]
    clear hr c1 h1 h hl
    go_enter Try.func48, Try.ntmps48
    go_wp2_with (first | (go_at_call 77; refine (C1.out).mono ?_; rintro e w1 ⟨rfl, hb⟩; have HB := Lib.hid hb; clear hb) | (go_at_call 73; refine (within_any _ _ _ _).mono ?_; rintro e w' ⟨rfl, rfl⟩))
    go_ret2
    exact ⟨none, 0, [], rfl, own2_nil _ _, HB.out⟩
  | true =>
    rw [h1] at c1
    have C1 := Lib.hid c1
    cases h2 : inB f 0 ((n : Int) - 1) with
    | false =>
      have hr : joinR L f t = ([], false) := by simp [joinR, HX.out, h2]
      rw [hr]
      clear hr c1 h1 h hl
      go_enter Try.func48, Try.ntmps48
      go_wp2_with (first | (go_at_call 77; refine (C1.out).mono ?_; rintro e w1 ⟨rfl, hb⟩; have HB := Lib.hid hb; clear hb) | (go_at_call 73; refine (within_any _ _ _ _).mono ?_; rintro e w' ⟨rfl, rfl⟩))
      go_ret2
      exact ⟨none, 0, [], rfl, own2_nil _ _, HB.out⟩
    | true =>
      cases h3 : inB t 0 ((n : Int) - 1) with
      | false =>
        have hr : joinR L f t = ([], false) := by simp [joinR, HX.out, h3]
        rw [hr]
        clear hr c1 h1 h hl
        go_enter Try.func48, Try.ntmps48
        go_wp2_with (first | (go_at_call 77; refine (C1.out).mono ?_; rintro e w1 ⟨rfl, hb⟩; have HB := Lib.hid hb; clear hb) | (go_at_call 73; refine (within_any _ _ _ _).mono ?_; rintro e w' ⟨rfl, rfl⟩))
        go_ret2
        exact ⟨none, 0, [], rfl, own2_nil _ _, HB.out⟩
      | true =>
        obtain ⟨hf0, hf1⟩ := inB_true.1 h2
        obtain ⟨ht0, ht1⟩ := inB_true.1 h3
        obtain ⟨f, rfl⟩ : ∃ f' : Nat, f = (f' : Int) := ⟨f.toNat, by omega⟩
        obtain ⟨t, rfl⟩ : ∃ t' : Nat, t = (t' : Int) := ⟨t.toNat, by omega⟩
        have hr : joinR L (f : Int) (t : Int) = (joinL L f t, true) := by simp [joinR, h1, HX.out, h2, h3]
        rw [hr]
        have hn30 : n ≤ 30 := by have := (plan_rows h1).1; rw [HX.out] at this; exact this
        have hfn : f < L.length := by rw [HX.out]; omega
        have htn : t < L.length := by rw [HX.out]; omega
        have HRS := Lib.hid (plan_rows h1).2
        have HL8 := Lib.hid (fun l hl' => ((plan_rows h1).2 l hl').2.2)
        have H := Lib.hid h
        clear hr c1 h1 h hl
        generalize hlo : w.heap.size = lo at *
        go_enter Try.func48, Try.ntmps48
        go_wp2_with (first | (go_at_call 77; refine (C1.out).mono ?_; rintro e w1 ⟨rfl, hb⟩; have HB := Lib.hid hb; clear hb) | (go_at_call 73; refine (within_any _ _ _ _).mono ?_; rintro e w' ⟨rfl, rfl⟩) | (at_make; refine wpList_mk _ rfl (.tmp 31) (.tmp 31) 43 rfl lo 38 (.slice none 0 0) _ infoInts rfl Try.underlying43 _ _ _ _ n rfl rfl rfl rfl (by omega) (by omega) (by have := HB.out.size; omega) ?_; intro w2 hown2 hb2 hz2))
        have HLG : Hid (lo ≤ w1.heap.size) := Lib.hid (by have := HB.out.size; omega)
        have HBW : Hid (Below lo w w2) := Lib.hid (by have h1 := HB.out; exact h1.trans (hb2.mono HLG.out))
        have hown3 := own2_made (ei := 3) hown2 hz2
        clear hb2 hown2 C1
        generalize w1.heap.size = g0 at *
        have HS0 : Hid (Own2 w2 lo w2.heap.size 38 3 1 (some ⟨g0, 0, none⟩) n n ((rowsIntss L).take 0 ++ List.replicate (n - 0) (.inr [])) (List.replicate n (.slice none 0 0))) := Lib.hid (by simpa using hown3)
        clear hown3 hz2 HB
        go_loopw [35] (fun i wr => ∃ k hs, k ≤ n ∧ i = .int .i64 (k : Nat) ∧ Own2 wr lo wr.heap.size 38 3 1 (some ⟨g0, 0, none⟩) n n ((rowsIntss L).take k ++ List.replicate (n - k) (.inr [])) hs ∧ Below lo w wr) (fun i _ => n - (intOf i).toNat)
        case atStart => exact ⟨0, _, Nat.zero_le _, rfl, HS0.out, HBW.out⟩
        case round =>
          obtain ⟨k, hs, hk, rfl, hown, hb⟩ := hrel
          clear HS0 HBW
          have HO := Lib.hid hown; clear hown
          have HBB := Lib.hid hb; clear hb
          have HLO : Hid (lo ≤ wr.heap.size) := Lib.hid (by have := HBB.out.size; omega)
          obtain ⟨wo, rfl⟩ : ∃ wo, wo = wr := ⟨_, rfl⟩
          by_cases hlt : k < n
          · have hx : k < L.length := by rw [HX.out]; exact hlt
            obtain ⟨ad, Ai, ci, rfl, kc, _, _, hr⟩ := (H.out.keep (w' := wo) (fun p hp => HBB.out.cell (by omega))).row (rowsIntss_get hx)
            have HR := Lib.hid hr; clear hr
            have HXL := HL8.out L[k] (List.getElem_mem hx)
            have HG := Lib.hid (rowsIntss_get hx)
            generalize L[k] = l at *
            simp only [length_ints] at kc HR
            have hst : ∀ W, Below wo.heap.size wo W → (∃ o0, W.cell? ⟨g0, k, none⟩ = some o0) ∧ W.frozen? ⟨g0, k, none⟩ = false := by
              intro W hW
              have ho := HO.out.below hW (Nat.le_refl _)
              obtain ⟨g', A0, c0, e0, _, h1, h2, _⟩ := ho.at_ (mid_get (by simp [HX.out]) hlt)
              injection e0 with e0
              injection e0 with e0
              subst e0
              exact ⟨⟨_, h1⟩, h2⟩
            have HST := Lib.hid hst; clear hst
            go_wp2_with (go_at_call 85; refine (clone_any Ai l.length ci l _ (by omega) HR.out).mono ?_; rintro e w1 ⟨A1, c1, rfl, hown1, hb1⟩; obtain ⟨⟨o0, c0⟩, f0⟩ := HST.out w1 hb1; have HB1 := Lib.hid hb1; clear hb1; have HO1 := Lib.hid hown1; clear hown1)
            obtain ⟨hs', HN⟩ := own2_next (by simp [HX.out]) hlt (HO.out.below HB1.out (Nat.le_refl _)) HG.out l.length (by simp) HO1.out (Nat.le_refl _) HLO.out HB1.out.size (own_lt HO1.out)
            have HN := Lib.hid HN
            go_roundw
            case rel => exact ⟨k + 1, hs', by omega, by go_num, by simpa using HN.out, (HBB.out.trans (HB1.out.mono HLO.out)).setCell HLG.out _⟩
            case measure => simp [intOf]; omega
          · obtain rfl : k = n := by omega
            have ho := HO.out
            rw [mid_end (by simp [HX.out])] at ho
            have HO2 := Lib.hid ho
            clear ho HO
            by_cases hft : f = t
            · have HJ : Hid (joinL L f t = L) := Lib.hid (by unfold joinL; rw [if_pos hft])
              have hbn : ((f : Int) != (t : Int)) = false := by rw [bne_eq_false_iff_eq]; omega
              clear hft
              go_wp2
              go_ret2
              rw [HJ.out]
              subst hlo
              refine ⟨(some ⟨g0, 0, none⟩), k, hs, ?_, ?_, HBB.out⟩
              · show _ = Ending.returned (.tuple #[.slice (some ⟨g0, 0, none⟩) L.length k, .bool true])
                rw [HX.out]; rfl
              · show Own2 _ _ _ _ _ 1 _ L.length k (rowsIntss L) hs
                rw [HX.out]; exact HO2.out
            · have hbn : ((f : Int) != (t : Int)) = true := by rw [bne_iff_ne]; omega
              have HJ : Hid (joinL L f t = (L.set t (joinP L[t] L[f])).set f []) := Lib.hid (by
                unfold joinL
                rw [if_neg hft]
                have e1 : L.getD t [] = L[t] := by simp [List.getD_eq_getElem?_getD, htn]
                have e2 : L.getD f [] = L[f] := by simp [List.getD_eq_getElem?_getD, hfn]
                rw [e1, e2])
              have hCT := rowsIntss_get htn
              have hCF := rowsIntss_get hfn
              obtain ⟨hia, _, hla⟩ := HRS.out _ (List.getElem_mem htn)
              have hlb := HL8.out _ (List.getElem_mem hfn)
              have HIA := Lib.hid hia
              clear hia
              generalize L[t] = a at *
              generalize L[f] = b at *
              obtain ⟨g1, At, ct, e1, hut, kt, ft, rt⟩ := HO2.out.at_ hCT
              injection e1 with e1
              injection e1 with e1
              subst e1
              obtain ⟨g1, Af, cf, e1, huf, kf, ff, rf⟩ := HO2.out.at_ hCF
              injection e1 with e1
              injection e1 with e1
              subst e1
              simp only [length_ints] at hut kt rt huf kf rf
              have HCT := Lib.hid hCT; have HCF := Lib.hid hCF; have HUT := Lib.hid hut; have HUF := Lib.hid huf; have HRT := Lib.hid rt; have HRF := Lib.hid (Reads.of_own rf)
              have HNG : Hid ((Value.slice At a.length ct).ownBlock ≠ some g0) := Lib.hid (fun e' => by
                rcases HO2.out.out t _ HUT.out with h1 | h1
                · rw [h1] at e'; cases e'
                · exact h1 (by rw [e']; rfl))
              have HHT : Hid (t < hs.length) := Lib.hid (List.getElem?_eq_some_iff.1 hut).1
              have HHF : Hid (f < hs.length) := Lib.hid (List.getElem?_eq_some_iff.1 huf).1
              clear hCT hCF hut huf rt rf
              have hx1 : (t : Int) < (k : Int) := by omega
              have hx2 : (f : Int) < (k : Int) := by omega
              go_upto_region 10 with fail
              go_cut [] from 500 to 500 (fun wx => ∃ hs1, Own2 wx lo wx.heap.size 38 3 1 (some ⟨g0, 0, none⟩) k k ((rowsIntss L).set t (.inr (ints (a ++ b)))) hs1 ∧ Below lo w wx)
              case first =>
                go_region_law ((refine step_pushL _ rfl (.tmp 54) (.tmp 58) 38 rfl lo 3 (.int .i64 0) 1 8 infoInt rfl (by omega) Try.underlying38 At a.length ct (ints a) rfl (own_drew HRT.out) Af b.length cf (ints b) rfl (reads_drew1 HRF.out) (one_ints _) (by omega) (by omega) (by simpa using HLO.out) ?_; intro A5 c5 w5 hown5 hg5 hb5 hloc5; obtain ⟨⟨ob, kb⟩, fb⟩ := HO2.out.outer rfl HUT.out (grown_drew hg5) (i := t) HHT.out))
                all_goals
                  go_wp2_with fail
                  go_meet
                  case rel =>
                    have hab : (ints (a ++ b)).length = a.length + b.length := by simp
                    have hnew := HO2.out.regrown (hi2 := w5.heap.size) (v' := .slice A5 (a.length + b.length) c5) (l' := ints (a ++ b)) (ci := c5) (Ai := A5) HCT.out HUT.out (grown_drew hg5) (Nat.le_refl _) (by rw [hab]) (by rw [hab]; simpa [ints] using hown5) (hloc5.elim .inl (fun h => .inr ⟨_, h, Nat.le_refl _⟩)) (by have := hg5.size; simpa using this) (own_lt hown5)
                    exact ⟨_, by simpa using hnew, (HBB.out.trans ((below_drew0 hb5).mono (Nat.le_refl _))).setCell HLG.out _⟩
              case rest =>
              obtain ⟨hs1, ho1, hb1⟩ := hcut
              have hlab : (a ++ b).length ≤ 16 := by simp; omega
              have HJE : Hid (Lib.compact (sortL (a ++ b)) = joinP a b) := Lib.hid (join_eq HIA.out)
              have hlcb : (joinP a b).length ≤ 16 := by
                have h1 := congrArg List.length HJE.out
                have h2 : (Lib.compact (sortL (a ++ b))).length ≤ (sortL (a ++ b)).length := by unfold Lib.compact Lib.compactUpTo; rw [List.length_map]; exact Nat.le_trans (List.length_filter_le _ _) (by simp)
                rw [sortL_len] at h2
                omega
              generalize a ++ b = ab at *
              have hfs : f < hs1.length := by have := ho1.row.1; omega
              have h6 := ho1.put (j := f) (u := .slice none 0 0) (x := .inr []) hfs ⟨none, 0, rfl, World.ownsRow_nil _ _ _ _⟩ (Nat.le_refl _) (fun q hq => by cases hq)
              have hc1 : ((rowsIntss L).set t (.inr (ints ab)))[f]? = some (.inr (ints b)) := by rw [List.getElem?_set_ne (by omega)]; exact HCF.out
              obtain ⟨g1, A6, c6, e1, _, kf6, ff6, _⟩ := ho1.at_ hc1
              injection e1 with e1
              injection e1 with e1
              subst e1
              have hc6 : (((rowsIntss L).set t (.inr (ints ab))).set f (.inr []))[t]? = some (.inr (ints ab)) := by rw [List.getElem?_set_ne hft, List.getElem?_set_self (by rw [length_rowsIntss]; exact htn)]
              obtain ⟨g1, At6, ct6, e1, hu6, k6, f6, r6⟩ := h6.at_ hc6
              injection e1 with e1
              injection e1 with e1
              subst e1
              simp only [length_ints] at hu6 k6 r6 kf6
              have HC6 := Lib.hid hc6; have HU6 := Lib.hid hu6; have HR6 := Lib.hid r6; have HO6 := Lib.hid h6
              have HB6 : Hid (Below lo w (wc.setCell ⟨g0, f, none⟩ (.slice none 0 0))) := Lib.hid (hb1.setCell HLG.out _)
              clear ho1 hb1 h6 hc1 hc6 hu6 r6 kt kf ft ff
              go_wp2_with fail
              have hsz6 : (wc.setCell ⟨g0, f, none⟩ (.slice none 0 0)).heap.size = wc.heap.size := by simp [World.setCell]
              generalize wc.setCell ⟨g0, f, none⟩ (.slice none 0 0) = w6 at *
              refine (sort_any ab w6 HR6.out (by omega)).mono ?_
              rintro e w7 ⟨rfl, ho7, hg7⟩
              have h7 := (HO6.out.wrote HC6.out HU6.out hg7 (by omega) (l' := ints (sortL ab)) (by simp [sortL_len]) (by rw [length_ints, sortL_len]; exact ho7)).mono_hi (hi' := w7.heap.size) (by have := hg7.size; omega)
              have HB7 : Hid (Below lo w w7) := Lib.hid (HB6.out.trans (grown_belowT HO6.out HU6.out hg7 (by have := HB6.out.size; omega)))
              have hc7 : ((((rowsIntss L).set t (.inr (ints ab))).set f (.inr [])).set t (.inr (ints (sortL ab))))[t]? = some (.inr (ints (sortL ab))) := List.getElem?_set_self (by simp [length_rowsIntss]; exact htn)
              have hls : (sortL ab).length ≤ 16 := by rw [sortL_len]; omega
              generalize sortL ab = sb at *
              obtain ⟨g1, At7, ct7, e1, hu7, k7, f7, r7⟩ := h7.at_ hc7
              injection e1 with e1
              injection e1 with e1
              subst e1
              simp only [length_ints] at hu7 k7 r7
              have HC7 := Lib.hid hc7; have HU7 := Lib.hid hu7; have HR7 := Lib.hid r7; have HO7 := Lib.hid h7
              have HHT7 : Hid (t < (hs1.set f (.slice none 0 0)).length) := Lib.hid (List.getElem?_eq_some_iff.1 HU7.out).1
              clear h7 hc7 hu7 r7 ho7 hg7 k6 f6 kf6 ff6
              go_wp2_with fail
              refine (compact_any sb w7 HR7.out (by omega)).mono ?_
              rintro e w8 ⟨rfl, ho8, hg8⟩
              obtain ⟨⟨o8, k8⟩, f8⟩ := HO7.out.outer rfl HU7.out hg8 (i := t) HHT7.out
              have h8 := HO7.out.regrown (hi2 := w8.heap.size) (v' := .slice At7 (Lib.compact sb).length ct7) (l' := ints (Lib.compact sb)) (ci := ct7) (Ai := At7) HC7.out HU7.out hg8 (Nat.le_refl _) (by rw [length_ints]) (by rw [length_ints]; exact ho8) (.inl (by cases At7 <;> rfl)) hg8.size (own_lt ho8)
              have HB8 : Hid (Below lo w (w8.setCell ⟨g0, t, none⟩ (.slice At7 (Lib.compact sb).length ct7))) := Lib.hid ((HB7.out.trans (grown_belowT HO7.out HU7.out hg8 (by have := HB7.out.size; omega))).setCell HLG.out _)
              rw [HJE.out] at h8 HB8
              rw [HJE.out]
              rw [join_rows L (by omega : f ≠ t), ← HJ.out] at h8
              obtain ⟨hs8, h9⟩ : ∃ hs8, Own2 (w8.setCell ⟨g0, t, none⟩ (.slice At7 (joinP a b).length ct7)) lo w8.heap.size 38 3 1 (some ⟨g0, 0, none⟩) k k (rowsIntss (joinL L f t)) hs8 := ⟨_, h8⟩
              have HO8 := Lib.hid h9
              clear h9 h8 ho8 hg8 k7 f7
              generalize joinP a b = jb at *
              go_wp2
              go_ret2
              have HJN : Hid ((joinL L f t).length = k) := Lib.hid (by rw [length_joinL]; exact HX.out)
              subst hlo
              refine ⟨(some ⟨g0, 0, none⟩), k, hs8, ?_, ?_, HB8.out⟩
              · show _ = Ending.returned (.tuple #[.slice (some ⟨g0, 0, none⟩) (joinL L f t).length k, .bool true])
                rw [HJN.out]; rfl
              · show Own2 _ _ _ _ _ 1 _ (joinL L f t).length k (rowsIntss (joinL L f t)) hs8
                rw [HJN.out]; exact HO8.out.mono_hi (by simp [World.setCell])

end Go.Proofs.Ytjibdabedagghaa
