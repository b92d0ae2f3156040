/- Contracts of BestPaid of both packages, and the law over them. No conditions. -/
import Derived.Test.YtiofgoppgdgbaaaDoorSh12
namespace Go.Proofs.YtiofgoppgdgbaaaDoor
set_option linter.unusedSimpArgs false
set_option linter.unusedVariables false
open Go.RowKit

def bestF : List Int → Nat → Nat × Int → Nat × Int
  | [], _, b => b
  | x :: r, k, b => if b.2 < x then bestF r (k + 1) (k, x) else bestF r (k + 1) b
def bestW : List Int → Nat × Int
  | [] => (0, 0)
  | x :: r => bestF r 1 (0, x)
def bestR (a b c d : Int) (l : List S3) (ms : List Int) : Int × Int × Bool := if allAsk a b c d l ms = true then (((bestW (wagesF a b c d l ms 0)).1 : Int) + 1, (bestW (wagesF a b c d l ms 0)).2, true) else (0, 0, false)
theorem bestW_start {l : List Int} (h : 0 < l.length) : bestF l 0 (0, l[0]) = bestW l := by
  cases l with
  | nil => simp at h
  | cons g r => simp [bestF, bestW]
theorem bestW_neg {l : List Int} (h : 0 < l.length) (hp : 0 ≤ l[0]) : bestF (l.drop 1) 1 (0, l[0]) = bestW l := by
  cases l with
  | nil => simp at h
  | cons g r => rfl
theorem ret_iib {a b c d : Int} {x : Bool} (h : a = b) (h' : c = d) : Ending.returned (.tuple #[.int .i64 a, .int .i64 c, .bool x]) = .returned (.tuple #[.int .i64 b, .int .i64 d, .bool x]) := by rw [h, h']
theorem drop_wagesF (a b c d : Int) (l : List S3) (ms : List Int) : ∀ j k, (wagesF a b c d l ms j).drop k = wagesF a b c d l (ms.drop k) (j + k) := by
  induction ms with
  | nil => intro j k; cases k <;> simp [wagesF]
  | cons x r ih =>
    intro j k
    cases k with
    | zero => rfl
    | succ k =>
      simp only [wagesF, List.drop_succ_cons]
      rw [ih]
      congr 1
      omega

set_option maxHeartbeats 1000000 in
theorem specBestPaid_any (a b c d : Int) (A : Option Addr) (n cc : Nat) (l : List S3) (B : Option Addr) (m mc : Nat) (ms : List Int) (w : World) (hn : n ≤ 1000000000) (h : Reads w 3 A n (rows3 l)) (hnc : n ≤ cc) (hm : m ≤ 1000000000) (hr : Reads w 1 B m (ints ms)) (hmc : m ≤ mc) :
    Calls Tryd.prog 29 #[.agg #[.int .i64 a, .int .i64 b, .int .i64 c, .int .i64 d], .slice A n cc, .slice B m mc] w fun e w' => e = .returned (.tuple #[.int .i64 (bestR a b c d l ms).1, .int .i64 (bestR a b c d l ms).2.1, .bool (bestR a b c d l ms).2.2]) ∧ Below w.heap.size w w' := by
  have hmx : ms.length = m := by simpa using hr.1
  have ca := fun W (hW : Below w.heap.size w W) => wgAll_any a b c d A n cc l B m mc ms W hn (h.below hW) hnc hm (hr.below hW)
  cases hask : allAsk a b c d l ms with
  | false =>
    simp only [hask] at ca
    have hres : bestR a b c d l ms = (0, 0, false) := by simp [bestR, hask]
    rw [hres]
    have CA := Lib.hid ca
    clear ca hres h hask hr hmx
    go_enter Tryd.func29, Tryd.ntmps29
    go_wp2_with (go_at_call 30; refine (CA.out _ ((Below.refl _ _).alloc (Nat.le_refl _) _)).mono ?_; rintro e w1 ⟨rfl, hb1⟩; obtain ⟨k0, k1, k2, k3⟩ := box4 hb1; have HB1 := Lib.hid (((Below.refl _ _).alloc (Nat.le_refl _) _).trans (hb1.mono (by simp))); clear hb1)
    go_ret3
    exact ⟨rfl, HB1.out⟩
  | true =>
    simp only [hask] at ca
    have CA := Lib.hid ca
    obtain ⟨hp, hg, h30, hms⟩ := allAsk_of hask
    have hres : bestR a b c d l ms = (((bestW (wagesF a b c d l ms 0)).1 : Int) + 1, (bestW (wagesF a b c d l ms 0)).2, true) := by simp [bestR, hask]
    rw [hres]
    have hlw : (wagesF a b c d l ms 0).length = m := by simp [hmx]
    have hbd := wagesF_bd hp hg (allB_true.1 hms) 0
    have CW := Lib.hid (fun W (hW : Below w.heap.size w W) => wgWages_any a b c d A n cc l B m mc ms W (h.below hW) hnc (hr.below hW) hask)
    generalize wagesF a b c d l ms 0 = ws at *
    rw [hmx] at h30
    have hpos : 0 < ws.length := by omega
    have HT := Lib.hid (bestW_start (l := ws) hpos)
    have HX := Lib.hid hlw
    have hm30 : m ≤ 30 := by omega
    have hm1 : 1 ≤ m := by omega
    clear ca hres h hask hr hmx hp hg h30 hms hlw hbd
    go_enter Tryd.func29, Tryd.ntmps29
    go_wp2_with (first | (go_at_call 30; refine (CA.out _ ((Below.refl _ _).alloc (Nat.le_refl _) _)).mono ?_; rintro e w1 ⟨rfl, hb1⟩; obtain ⟨k0, k1, k2, k3⟩ := box4 hb1; have HB1 := Lib.hid (((Below.refl _ _).alloc (Nat.le_refl _) _).trans (hb1.mono (by simp))); clear hb1) | (go_at_call 31; refine (CW.out _ HB1.out).mono ?_; rintro e w2 ⟨A2, c2, rfl, hown, hb2⟩; have HR2 := Lib.hid (Reads.of_own hown); have HB2 := Lib.hid (below_then HB1.out hb2); clear hown hb2))
    go_loop [10, 24] (fun s i => ∃ b k : Nat, ∃ (hb : b < ws.length), k ≤ m ∧ i = .int .i64 k ∧ s = .int .i64 b ∧ bestF (ws.drop k) k (b, ws[b]) = bestW ws) (fun _ i => m - (intOf i).toNat)
    case atStart => exact ⟨0, 0, hpos, by omega, rfl, rfl, HT.out⟩
    case round =>
      obtain ⟨b, k, hbl, hk, rfl, rfl, hrel⟩ := hrel
      have HR := Lib.hid hrel; clear hrel
      have hbn : b < m := by rw [HX.out] at hbl; exact hbl
      obtain ⟨ad, rfl, hc⟩ := HR2.out.2 (by omega)
      have hcb : w2.cell? (ad.add b) = some (.int .i64 ws[b]) := hc b _ (by simp [ints, hbl])
      by_cases hlt : k < m
      · have hx : k < ws.length := by rw [HX.out]; exact hlt
        have hck : w2.cell? (ad.add k) = some (.int .i64 ws[k]) := hc k _ (by simp [ints, hx])
        have HD := Lib.hid (drop_cons hx)
        have HN : Hid ((ws[b] < ws[k] → bestF (ws.drop (k + 1)) (k + 1) (k, ws[k]) = bestW ws) ∧ (¬ ws[b] < ws[k] → bestF (ws.drop (k + 1)) (k + 1) (b, ws[b]) = bestW ws)) := Lib.hid (by
          have := HR.out
          rw [HD.out] at this
          simp only [bestF] at this
          exact ⟨fun h => by rw [if_pos h] at this; exact this, fun h => by rw [if_neg h] at this; exact this⟩)
        clear HD HR hc
        generalize hxk : ws[k] = x at *
        generalize hyb : ws[b] = y at *
        have HXK := Lib.hid hxk
        have HYB := Lib.hid hyb
        clear hxk hyb
        by_cases hless : y < x
        · go_wp2
          go_round
          case rel => exact ⟨k, k + 1, hx, by omega, by go_num, rfl, by rw [HXK.out]; exact HN.out.1 hless⟩
          case measure => simp [intOf]; omega
        · go_wp2
          go_round
          case rel => exact ⟨b, k + 1, hbl, by omega, by go_num, rfl, by rw [HYB.out]; exact HN.out.2 hless⟩
          case measure => simp [intOf]; omega
      · have HE := Lib.hid (drop_end (xs := ws) (k := k) (by rw [HX.out]; omega))
        have hend := HR.out
        rw [HE.out] at hend
        simp only [bestF] at hend
        have HEN := Lib.hid hend
        clear hend hc
        generalize ws[b] = y at *
        go_wp2
        go_quiet (fail)
        go_wp2
        go_ret3
        exact ⟨by first | exact ret_iib (by rw [← HEN.out]) (by rw [← HEN.out]) | (rw [← HEN.out]; rfl), below_toN HB2.out _⟩

set_option maxHeartbeats 2000000 in
theorem implBestPaid_any (a b c d : Int) (A : Option Addr) (n cc : Nat) (l : List S3) (B : Option Addr) (m mc : Nat) (ms : List Int) (w : World) (hn : n ≤ 1000000000) (h : Reads w 3 A n (rows3 l)) (hnc : n ≤ cc) (hm : m ≤ 1000000000) (hr : Reads w 1 B m (ints ms)) (hmc : m ≤ mc) :
    Calls Tryd.prog 28 #[.agg #[.int .i64 a, .int .i64 b, .int .i64 c, .int .i64 d], .slice A n cc, .slice B m mc] w fun e w' => e = .returned (.tuple #[.int .i64 (bestR a b c d l ms).1, .int .i64 (bestR a b c d l ms).2.1, .bool (bestR a b c d l ms).2.2]) ∧ Below w.heap.size w w' := by
  have SG := Lib.hid (fun W (hW : Below w.heap.size w W) => areShifts_any A n cc l W hn hnc (h.below hW))
  have am := fun W (hW : Below w.heap.size w W) => areAllMessages_any B m mc ms W hm (hr.below hW)
  cases h3 : (decide (ms.length = 30) && allB 0 1000 ms) with
  | false =>
    rw [h3] at am
    have AM := Lib.hid am
    have H3 := Lib.hid h3
    clear am h3
    cases h1 : payB a b c d with
    | false =>
      have hres : bestR a b c d l ms = (0, 0, false) := by simp [bestR, allAsk, h1]
      rw [hres]
      clear hres h hr
      go_enter Tryd.func28, Tryd.ntmps28
      go_wp2_with (first | (go_at_call 19; refine (isPay_any a b c d _).mono ?_; rintro e w1 ⟨rfl, hb1⟩; have HBX := Lib.hid ((Box4.new w 29 (.int .i64 a) (.int .i64 b) (.int .i64 c) (.int .i64 d)).below hb1 (by simp)); have HB1 := Lib.hid (((Below.refl _ _).alloc (Nat.le_refl _) _).trans (hb1.mono (by simp))); clear hb1) | (go_at_call 34; refine (SG.out _ HB1.out).mono ?_; rintro e w2 ⟨rfl, hb2⟩; have HBX2 := Lib.hid (HBX.out.below hb2 HBX.out.lt); have HB2 := Lib.hid (below_then HB1.out hb2); clear hb2) | (go_at_call 35; refine (AM.out _ HB2.out).mono ?_; rintro e w' ⟨rfl, rfl⟩))
      go_ret3
      exact ⟨rfl, HB1.out⟩
    | true =>
      cases h2 : goodShifts l with
      | false =>
        have hres : bestR a b c d l ms = (0, 0, false) := by simp [bestR, allAsk, h1, h2]
        rw [hres]
        clear hres h hr
        go_enter Tryd.func28, Tryd.ntmps28
        go_wp2_with (first | (go_at_call 19; refine (isPay_any a b c d _).mono ?_; rintro e w1 ⟨rfl, hb1⟩; have HBX := Lib.hid ((Box4.new w 29 (.int .i64 a) (.int .i64 b) (.int .i64 c) (.int .i64 d)).below hb1 (by simp)); have HB1 := Lib.hid (((Below.refl _ _).alloc (Nat.le_refl _) _).trans (hb1.mono (by simp))); clear hb1) | (go_at_call 34; refine (SG.out _ HB1.out).mono ?_; rintro e w2 ⟨rfl, hb2⟩; have HBX2 := Lib.hid (HBX.out.below hb2 HBX.out.lt); have HB2 := Lib.hid (below_then HB1.out hb2); clear hb2) | (go_at_call 35; refine (AM.out _ HB2.out).mono ?_; rintro e w' ⟨rfl, rfl⟩))
        go_ret3
        exact ⟨rfl, HB2.out⟩
      | true =>
        have hres : bestR a b c d l ms = (0, 0, false) := by unfold bestR allAsk; rw [H3.out]; simp
        rw [hres]
        clear hres h hr
        go_enter Tryd.func28, Tryd.ntmps28
        go_wp2_with (first | (go_at_call 19; refine (isPay_any a b c d _).mono ?_; rintro e w1 ⟨rfl, hb1⟩; have HBX := Lib.hid ((Box4.new w 29 (.int .i64 a) (.int .i64 b) (.int .i64 c) (.int .i64 d)).below hb1 (by simp)); have HB1 := Lib.hid (((Below.refl _ _).alloc (Nat.le_refl _) _).trans (hb1.mono (by simp))); clear hb1) | (go_at_call 34; refine (SG.out _ HB1.out).mono ?_; rintro e w2 ⟨rfl, hb2⟩; have HBX2 := Lib.hid (HBX.out.below hb2 HBX.out.lt); have HB2 := Lib.hid (below_then HB1.out hb2); clear hb2) | (go_at_call 35; refine (AM.out _ HB2.out).mono ?_; rintro e w' ⟨rfl, rfl⟩))
        go_ret3
        exact ⟨rfl, HB2.out⟩
  | true =>
    rw [h3] at am
    have AM := Lib.hid am
    have H3 := Lib.hid h3
    clear am h3
    cases h1 : payB a b c d with
    | false =>
      have hres : bestR a b c d l ms = (0, 0, false) := by simp [bestR, allAsk, h1]
      rw [hres]
      clear hres h hr
      go_enter Tryd.func28, Tryd.ntmps28
      go_wp2_with (first | (go_at_call 19; refine (isPay_any a b c d _).mono ?_; rintro e w1 ⟨rfl, hb1⟩; have HBX := Lib.hid ((Box4.new w 29 (.int .i64 a) (.int .i64 b) (.int .i64 c) (.int .i64 d)).below hb1 (by simp)); have HB1 := Lib.hid (((Below.refl _ _).alloc (Nat.le_refl _) _).trans (hb1.mono (by simp))); clear hb1) | (go_at_call 34; refine (SG.out _ HB1.out).mono ?_; rintro e w2 ⟨rfl, hb2⟩; have HBX2 := Lib.hid (HBX.out.below hb2 HBX.out.lt); have HB2 := Lib.hid (below_then HB1.out hb2); clear hb2) | (go_at_call 35; refine (AM.out _ HB2.out).mono ?_; rintro e w' ⟨rfl, rfl⟩))
      go_ret3
      exact ⟨rfl, HB1.out⟩
    | true =>
      cases h2 : goodShifts l with
      | false =>
        have hres : bestR a b c d l ms = (0, 0, false) := by simp [bestR, allAsk, h1, h2]
        rw [hres]
        clear hres h hr
        go_enter Tryd.func28, Tryd.ntmps28
        go_wp2_with (first | (go_at_call 19; refine (isPay_any a b c d _).mono ?_; rintro e w1 ⟨rfl, hb1⟩; have HBX := Lib.hid ((Box4.new w 29 (.int .i64 a) (.int .i64 b) (.int .i64 c) (.int .i64 d)).below hb1 (by simp)); have HB1 := Lib.hid (((Below.refl _ _).alloc (Nat.le_refl _) _).trans (hb1.mono (by simp))); clear hb1) | (go_at_call 34; refine (SG.out _ HB1.out).mono ?_; rintro e w2 ⟨rfl, hb2⟩; have HBX2 := Lib.hid (HBX.out.below hb2 HBX.out.lt); have HB2 := Lib.hid (below_then HB1.out hb2); clear hb2) | (go_at_call 35; refine (AM.out _ HB2.out).mono ?_; rintro e w' ⟨rfl, rfl⟩))
        go_ret3
        exact ⟨rfl, HB2.out⟩
      | true =>
        have hask : allAsk a b c d l ms = true := by unfold allAsk; rw [H3.out, h1, h2]; rfl
        have hmx : ms.length = m := by simpa using hr.1
        obtain ⟨hp, hg, h30, hms⟩ := allAsk_of hask
        rw [hmx] at h30
        have hms' := allB_true.1 hms
        have hres : bestR a b c d l ms = (((bestW (wagesF a b c d l ms 0)).1 : Int) + 1, (bestW (wagesF a b c d l ms 0)).2, true) := by simp [bestR, hask]
        rw [hres]
        have CW := Lib.hid (fun (k : Nat) (hk : k < m) (x : Int) (hx : 0 ≤ x ∧ x ≤ 1000) W (hW : Below w.heap.size w W) => wageOfI_any a b c d A n cc l ((k + 1 : Nat) : Int) x W hp hg (op_in hk h30) hx hnc (h.below hW))
        have CV := Lib.hid (fun (k : Nat) (x : Int) (hx : 0 ≤ x ∧ x ≤ 1000) => wage_bd (op := ((k + 1 : Nat) : Int)) hp hg hx)
        have HM := Lib.hid hms'
        have HX := Lib.hid hmx
        have HRR := Lib.hid hr
        have hm30 : m ≤ 30 := by omega
        have hm1 : 1 ≤ m := by omega
        have hpos : 0 < (wagesF a b c d l ms 0).length := by simp [hmx]; omega
        have HT := Lib.hid (bestW_start hpos)
        have HDW := Lib.hid (fun k => drop_wagesF a b c d l ms 0 k)
        have HLW := Lib.hid (show (wagesF a b c d l ms 0).length = m by simp [hmx])
        clear hres hr h hask hms hms' h30 hmx hp hg
        generalize wagesF a b c d l ms 0 = ws at *
        have H1 := Lib.hid h1
        have H2 := Lib.hid h2
        go_enter Tryd.func28, Tryd.ntmps28
        go_wp2_with (first | (go_at_call 19; refine (isPay_any a b c d _).mono ?_; rintro e w1 ⟨rfl, hb1⟩; have HBX := Lib.hid ((Box4.new w 29 (.int .i64 a) (.int .i64 b) (.int .i64 c) (.int .i64 d)).below hb1 (by simp)); have HB1 := Lib.hid (((Below.refl _ _).alloc (Nat.le_refl _) _).trans (hb1.mono (by simp))); clear hb1) | (go_at_call 34; refine (SG.out _ HB1.out).mono ?_; rintro e w2 ⟨rfl, hb2⟩; have HBX2 := Lib.hid (HBX.out.below hb2 HBX.out.lt); have HB2 := Lib.hid (below_then HB1.out hb2); clear hb2) | (go_at_call 35; refine (AM.out _ HB2.out).mono ?_; rintro e w' ⟨rfl, rfl⟩))
        go_loopw [9, 10, 29] (fun s t i wr => ∃ b1 k : Nat, ∃ y : Int, k ≤ m ∧ i = .int .i64 k ∧ (k = 0 ∧ s = .int .i64 0 ∧ t = .int .i64 (-1) ∨ 0 < k ∧ s = .int .i64 ((b1 : Int) + 1) ∧ t = .int .i64 y ∧ 0 ≤ y ∧ y ≤ 1000000000 ∧ b1 ≤ 30 ∧ bestF (ws.drop k) k (b1, y) = bestW ws) ∧ Below w.heap.size w wr ∧ Box4 wr w.heap.size 29 (.int .i64 a) (.int .i64 b) (.int .i64 c) (.int .i64 d)) (fun _ _ i _ => m - (intOf i).toNat)
        case atStart => exact ⟨0, 0, 0, by omega, rfl, .inl ⟨rfl, rfl, rfl⟩, HB2.out, HBX2.out⟩
        case round =>
          obtain ⟨b0, k, y, hk, rfl, hrel, hb, hbx⟩ := hrel
          have HBL := Lib.hid hb; clear hb
          obtain ⟨k0, k1, k2, k3⟩ := hbx.cells
          have HBX := Lib.hid hbx; clear hbx
          by_cases hlt : k < m
          · obtain ⟨ad, rfl, hc⟩ := (HRR.out.below HBL.out).2 (by omega)
            have hxk : k < ms.length := by rw [HX.out]; exact hlt
            have hxw : k < ws.length := by rw [HLW.out]; exact hlt
            have hcell : wr.cell? (ad.add k) = some (.int .i64 ms[k]) := hc k _ (by simp [ints, hxk])
            have CWK := Lib.hid (CW.out k hlt ms[k] (HM.out ms[k] (List.getElem_mem hxk)) wr HBL.out)
            have hv := CV.out k ms[k] (HM.out ms[k] (List.getElem_mem hxk))
            have ek : ((k + 1 : Nat) : Int) = (k : Int) + 1 := by omega
            rw [ek] at CWK hv
            have hwk : ws[k] = wage a b c d l ((k : Int) + 1) ms[k] := by
              have h1 := HDW.out k
              rw [drop_cons hxw, drop_cons hxk] at h1
              simp only [wagesF, Nat.zero_add] at h1
              injection h1
            have HD := Lib.hid (drop_cons hxw)
            rw [hwk] at HD
            have HWK := Lib.hid hwk
            clear hc hwk
            generalize ms[k] = x at *
            generalize wage a b c d l ((k : Int) + 1) x = v at *
            rcases hrel with ⟨hk0, rfl, rfl⟩ | ⟨hk0, rfl, rfl, hy0, hy1, hb30, hrel⟩
            · have HNX : Hid (bestF (ws.drop (k + 1)) (k + 1) (k, v) = bestW ws) := Lib.hid (by
                subst hk0
                have := HT.out
                have h0 := HWK.out
                have e1 : bestF (v :: ws.drop (0 + 1)) 0 (0, v) = bestF (ws.drop (0 + 1)) (0 + 1) (0, v) := by simp [bestF]
                have e2 := HD.out
                rw [List.drop_zero] at e2
                rw [← e2] at e1
                rw [h0] at this
                exact e1.symm.trans this)
              clear hk0
              go_wp2_with (go_at_call 36; refine (CWK.out).mono ?_; rintro e w3 ⟨rfl, hb3⟩; have HB3 := Lib.hid hb3; clear hb3)
              go_roundw
              case rel => exact ⟨k, k + 1, v, by omega, by go_num, .inr ⟨by omega, rfl, rfl, by omega, by omega, by omega, HNX.out⟩, HBL.out.trans (HB3.out.mono HBL.out.size), HBX.out.below HB3.out HBX.out.lt⟩
              case measure => simp [intOf]; omega
            · have HN : Hid ((y < v → bestF (ws.drop (k + 1)) (k + 1) (k, v) = bestW ws) ∧ (¬ y < v → bestF (ws.drop (k + 1)) (k + 1) (b0, y) = bestW ws)) := Lib.hid (by
                rw [HD.out] at hrel
                simp only [bestF] at hrel
                exact ⟨fun h => by rw [if_pos h] at hrel; exact hrel, fun h => by rw [if_neg h] at hrel; exact hrel⟩)
              clear hrel
              by_cases hless : y < v
              · go_wp2_with (go_at_call 36; refine (CWK.out).mono ?_; rintro e w3 ⟨rfl, hb3⟩; have HB3 := Lib.hid hb3; clear hb3)
                go_roundw
                case rel => exact ⟨k, k + 1, v, by omega, by go_num, .inr ⟨by omega, rfl, rfl, by omega, by omega, by omega, HN.out.1 hless⟩, HBL.out.trans (HB3.out.mono HBL.out.size), HBX.out.below HB3.out HBX.out.lt⟩
                case measure => simp [intOf]; omega
              · go_wp2_with (go_at_call 36; refine (CWK.out).mono ?_; rintro e w3 ⟨rfl, hb3⟩; have HB3 := Lib.hid hb3; clear hb3)
                go_roundw
                case rel => exact ⟨b0, k + 1, y, by omega, by go_num, .inr ⟨by omega, rfl, rfl, by omega, by omega, by omega, HN.out.2 hless⟩, HBL.out.trans (HB3.out.mono HBL.out.size), HBX.out.below HB3.out HBX.out.lt⟩
                case measure => simp [intOf]; omega
          · have HE := Lib.hid (drop_end (xs := ws) (k := k) (by rw [HLW.out]; omega))
            rcases hrel with ⟨hk0, rfl, rfl⟩ | ⟨hk0, rfl, rfl, hy0, hy1, hb30, hrel⟩
            · omega
            · rw [HE.out] at hrel
              simp only [bestF] at hrel
              have HEN := Lib.hid hrel
              clear hrel
              go_wp2
              go_ret3
              exact ⟨ret_iib (by rw [← HEN.out]) (by rw [← HEN.out]), HBL.out⟩
end Go.Proofs.YtiofgoppgdgbaaaDoor
