/- Contracts of BestPaid of both packages, and the law over them. No conditions. -/
import Derived.Test.YtiofgoppgdgbaaaSh12
namespace Go.Proofs.Ytiofgoppgdgbaaa
set_option linter.unusedSimpArgs false
set_option linter.unusedVariables false
open Go.RowKit

def bestF : List Int → Nat → Nat × Int → Nat × Int
  | [], _, b => b
  | x :: r, k, b => if b.2 < x then bestF r (k + 1) (k, x) else bestF r (k + 1) b
def bestW : List Int → Nat × Int
  | [] => (0, 0)
  | x :: r => bestF r 1 (0, x)
def bestR (a b c d : Int) (l : List S3) (ms : List Int) : Int × Int × Bool := if allAsk a b c d l ms = true then (((bestW (wagesF a b c d l ms 0)).1 : Int) + 1, (bestW (wagesF a b c d l ms 0)).2, true) else (0, 0, false)
theorem bestW_start {l : List Int} (h : 0 < l.length) : bestF l 0 (0, l[0]) = bestW l := by
  cases l with
  | nil => simp at h
  | cons g r => simp [bestF, bestW]
theorem bestW_neg {l : List Int} (h : 0 < l.length) (hp : 0 ≤ l[0]) : bestF (l.drop 1) 1 (0, l[0]) = bestW l := by
  cases l with
  | nil => simp at h
  | cons g r => rfl
theorem ret_iib {a b c d : Int} {x : Bool} (h : a = b) (h' : c = d) : Ending.returned (.tuple #[.int .i64 a, .int .i64 c, .bool x]) = .returned (.tuple #[.int .i64 b, .int .i64 d, .bool x]) := by rw [h, h']
theorem drop_wagesF (a b c d : Int) (l : List S3) (ms : List Int) : ∀ j k, (wagesF a b c d l ms j).drop k = wagesF a b c d l (ms.drop k) (j + k) := by
  induction ms with
  | nil => intro j k; cases k <;> simp [wagesF]
  | cons x r ih =>
    intro j k
    cases k with
    | zero => rfl
    | succ k =>
      simp only [wagesF, List.drop_succ_cons]
      rw [ih]
      congr 1
      omega

set_option maxHeartbeats 1000000 in
theorem specBestPaid_any (a b c d : Int) (A : Option Addr) (n cc : Nat) (l : List S3) (B : Option Addr) (m mc : Nat) (ms : List Int) (w : World) (hn : n ≤ 1000000000) (h : Reads w 3 A n (rows3 l)) (hnc : n ≤ cc) (hm : m ≤ 1000000000) (hr : Reads w 1 B m (ints ms)) (hmc : m ≤ mc) :
    Calls Try.prog 33 #[.agg #[.int .i64 a, .int .i64 b, .int .i64 c, .int .i64 d], .slice A n cc, .slice B m mc] w fun e w' => e = .returned (.tuple #[.int .i64 (bestR a b c d l ms).1, .int .i64 (bestR a b c d l ms).2.1, .bool (bestR a b c d l ms).2.2]) ∧ Below w.heap.size w w' := by
  have hmx : ms.length = m := by simpa using hr.1
  have ca := fun W (hW : Below w.heap.size w W) => wgAll_any a b c d A n cc l B m mc ms W hn (h.below hW) hnc hm (hr.below hW)
  cases hask : allAsk a b c d l ms with
  | false =>
    simp only [hask] at ca
    have hres : bestR a b c d l ms = (0, 0, false) := by simp [bestR, hask]
    rw [hres]
    have CA := Lib.hid ca
    clear ca hres h hask hr hmx
    go_enter Try.func33, Try.ntmps33
    go_wp2_with (go_at_call 66; refine (CA.out _ ((Below.refl _ _).alloc (Nat.le_refl _) _)).mono ?_; rintro e w1 ⟨rfl, hb1⟩; obtain ⟨k0, k1, k2, k3⟩ := box4 hb1; have HB1 := Lib.hid (((Below.refl _ _).alloc (Nat.le_refl _) _).trans (hb1.mono (by simp))); clear hb1)
    go_ret3
    exact ⟨rfl, HB1.out⟩
  | true =>
    simp only [hask] at ca
    have CA := Lib.hid ca
    obtain ⟨hp, hg, h30, hms⟩ := allAsk_of hask
    have hres : bestR a b c d l ms = (((bestW (wagesF a b c d l ms 0)).1 : Int) + 1, (bestW (wagesF a b c d l ms 0)).2, true) := by simp [bestR, hask]
    rw [hres]
    have hlw : (wagesF a b c d l ms 0).length = m := by simp [hmx]
    have hbd := wagesF_bd hp hg (allB_true.1 hms) 0
    have CW := Lib.hid (fun W (hW : Below w.heap.size w W) => wgWages_any a b c d A n cc l B m mc ms W (h.below hW) hnc (hr.below hW) hask)
    generalize wagesF a b c d l ms 0 = ws at *
    rw [hmx] at h30
    have hpos : 0 < ws.length := by omega
    have HT := Lib.hid (bestW_start (l := ws) hpos)
    have HX := Lib.hid hlw
    have hm30 : m ≤ 30 := by omega
    have hm1 : 1 ≤ m := by omega
    clear ca hres h hask hr hmx hp hg h30 hms hlw hbd
    go_enter Try.func33, Try.ntmps33
    go_wp2_with (first | (go_at_call 66; refine (CA.out _ ((Below.refl _ _).alloc (Nat.le_refl _) _)).mono ?_; rintro e w1 ⟨rfl, hb1⟩; obtain ⟨k0, k1, k2, k3⟩ := box4 hb1; have HB1 := Lib.hid (((Below.refl _ _).alloc (Nat.le_refl _) _).trans (hb1.mono (by simp))); clear hb1) | (go_at_call 67; refine (CW.out _ HB1.out).mono ?_; rintro e w2 ⟨A2, c2, rfl, hown, hb2⟩; have HR2 := Lib.hid (Reads.of_own hown); have HB2 := Lib.hid (below_then HB1.out hb2); clear hown hb2))
    go_loop [10, 24] (fun s i => ∃ b k : Nat, ∃ (hb : b < ws.length), k ≤ m ∧ i = .int .i64 k ∧ s = .int .i64 b ∧ bestF (ws.drop k) k (b, ws[b]) = bestW ws) (fun _ i => m - (intOf i).toNat)
    case atStart => exact ⟨0, 0, hpos, by omega, rfl, rfl, HT.out⟩
    case round =>
      obtain ⟨b, k, hbl, hk, rfl, rfl, hrel⟩ := hrel
      have HR := Lib.hid hrel; clear hrel
      have hbn : b < m := by rw [HX.out] at hbl; exact hbl
      obtain ⟨ad, rfl, hc⟩ := HR2.out.2 (by omega)
      have hcb : w2.cell? (ad.add b) = some (.int .i64 ws[b]) := hc b _ (by simp [ints, hbl])
      by_cases hlt : k < m
      · have hx : k < ws.length := by rw [HX.out]; exact hlt
        have hck : w2.cell? (ad.add k) = some (.int .i64 ws[k]) := hc k _ (by simp [ints, hx])
        have HD := Lib.hid (drop_cons hx)
        have HN : Hid ((ws[b] < ws[k] → bestF (ws.drop (k + 1)) (k + 1) (k, ws[k]) = bestW ws) ∧ (¬ ws[b] < ws[k] → bestF (ws.drop (k + 1)) (k + 1) (b, ws[b]) = bestW ws)) := Lib.hid (by
          have := HR.out
          rw [HD.out] at this
          simp only [bestF] at this
          exact ⟨fun h => by rw [if_pos h] at this; exact this, fun h => by rw [if_neg h] at this; exact this⟩)
        clear HD HR hc
        generalize hxk : ws[k] = x at *
        generalize hyb : ws[b] = y at *
        have HXK := Lib.hid hxk
        have HYB := Lib.hid hyb
        clear hxk hyb
        by_cases hless : y < x
        · go_wp2
          go_round
          case rel => exact ⟨k, k + 1, hx, by omega, by go_num, rfl, by rw [HXK.out]; exact HN.out.1 hless⟩
          case measure => simp [intOf]; omega
        · go_wp2
          go_round
          case rel => exact ⟨b, k + 1, hbl, by omega, by go_num, rfl, by rw [HYB.out]; exact HN.out.2 hless⟩
          case measure => simp [intOf]; omega
      · have HE := Lib.hid (drop_end (xs := ws) (k := k) (by rw [HX.out]; omega))
        have hend := HR.out
        rw [HE.out] at hend
        simp only [bestF] at hend
        have HEN := Lib.hid hend
        clear hend hc
        generalize ws[b] = y at *
        go_wp2
        go_quiet (fail)
        go_wp2
        go_ret3
        exact ⟨by first | exact ret_iib (by rw [← HEN.out]) (by rw [← HEN.out]) | (rw [← HEN.out]; rfl), below_toN HB2.out _⟩

set_option maxHeartbeats 2000000 in
theorem implBestPaid_any (a b c d : Int) (A : Option Addr) (n cc : Nat) (l : List S3) (B : Option Addr) (m mc : Nat) (ms : List Int) (w : World) (hn : n ≤ 1000000000) (h : Reads w 3 A n (rows3 l)) (hnc : n ≤ cc) (hm : m ≤ 1000000000) (hr : Reads w 1 B m (ints ms)) (hmc : m ≤ mc) :
    Calls Try.prog 35 #[.agg #[.int .i64 a, .int .i64 b, .int .i64 c, .int .i64 d], .slice A n cc, .slice B m mc] w fun e w' => e = .returned (.tuple #[.int .i64 (bestR a b c d l ms).1, .int .i64 (bestR a b c d l ms).2.1, .bool (bestR a b c d l ms).2.2]) ∧ Below w.heap.size w w' := by
  have SG := Lib.hid (fun W (hW : Below w.heap.size w W) => areShifts_any A n cc l W hn hnc (h.below hW))
  have am := fun W (hW : Below w.heap.size w W) => areAllMessages_any B m mc ms W hm (hr.below hW)
  cases h3 : (decide (ms.length = 30) && allB 0 1000 ms) with
  | false =>
    rw [h3] at am
    have AM := Lib.hid am
    have H3 := Lib.hid h3
    clear am h3
    cases h1 : payB a b c d with
    | false =>
      have hres : bestR a b c d l ms = (0, 0, false) := by simp [bestR, allAsk, h1]
      rw [hres]
      clear hres h hr
      go_enter Try.func35, Try.ntmps35
      go_wp2_with (first | (go_at_call 15; refine (isPay_any a b c d _).mono ?_; rintro e w1 ⟨rfl, hb1⟩; have HBX := Lib.hid ((Box4.new w 25 (.int .i64 a) (.int .i64 b) (.int .i64 c) (.int .i64 d)).below hb1 (by simp)); have HB1 := Lib.hid (((Below.refl _ _).alloc (Nat.le_refl _) _).trans (hb1.mono (by simp))); clear hb1) | (go_at_call 54; refine (SG.out _ HB1.out).mono ?_; rintro e w2 ⟨rfl, hb2⟩; have HBX2 := Lib.hid (HBX.out.below hb2 HBX.out.lt); have HB2 := Lib.hid (below_then HB1.out hb2); clear hb2) | (go_at_call 68; refine (AM.out _ HB2.out).mono ?_; rintro e w' ⟨rfl, rfl⟩))
      go_ret3
      exact ⟨rfl, HB1.out⟩
    | true =>
      cases h2 : goodShifts l with
      | false =>
        have hres : bestR a b c d l ms = (0, 0, false) := by simp [bestR, allAsk, h1, h2]
        rw [hres]
        clear hres h hr
        go_enter Try.func35, Try.ntmps35
        go_wp2_with (first | (go_at_call 15; refine (isPay_any a b c d _).mono ?_; rintro e w1 ⟨rfl, hb1⟩; have HBX := Lib.hid ((Box4.new w 25 (.int .i64 a) (.int .i64 b) (.int .i64 c) (.int .i64 d)).below hb1 (by simp)); have HB1 := Lib.hid (((Below.refl _ _).alloc (Nat.le_refl _) _).trans (hb1.mono (by simp))); clear hb1) | (go_at_call 54; refine (SG.out _ HB1.out).mono ?_; rintro e w2 ⟨rfl, hb2⟩; have HBX2 := Lib.hid (HBX.out.below hb2 HBX.out.lt); have HB2 := Lib.hid (below_then HB1.out hb2); clear hb2) | (go_at_call 68; refine (AM.out _ HB2.out).mono ?_; rintro e w' ⟨rfl, rfl⟩))
        go_ret3
        exact ⟨rfl, HB2.out⟩
      | true =>
        have hres : bestR a b c d l ms = (0, 0, false) := by unfold bestR allAsk; rw [H3.out]; simp
        rw [hres]
        clear hres h hr
        go_enter Try.func35, Try.ntmps35
        go_wp2_with (first | (go_at_call 15; refine (isPay_any a b c d _).mono ?_; rintro e w1 ⟨rfl, hb1⟩; have HBX := Lib.hid ((Box4.new w 25 (.int .i64 a) (.int .i64 b) (.int .i64 c) (.int .i64 d)).below hb1 (by simp)); have HB1 := Lib.hid (((Below.refl _ _).alloc (Nat.le_refl _) _).trans (hb1.mono (by simp))); clear hb1) | (go_at_call 54; refine (SG.out _ HB1.out).mono ?_; rintro e w2 ⟨rfl, hb2⟩; have HBX2 := Lib.hid (HBX.out.below hb2 HBX.out.lt); have HB2 := Lib.hid (below_then HB1.out hb2); clear hb2) | (go_at_call 68; refine (AM.out _ HB2.out).mono ?_; rintro e w' ⟨rfl, rfl⟩))
        go_ret3
        exact ⟨rfl, HB2.out⟩
  | true =>
    rw [h3] at am
    have AM := Lib.hid am
    have H3 := Lib.hid h3
    clear am h3
    cases h1 : payB a b c d with
    | false =>
      have hres : bestR a b c d l ms = (0, 0, false) := by simp [bestR, allAsk, h1]
      rw [hres]
      clear hres h hr
      go_enter Try.func35, Try.ntmps35
      go_wp2_with (first | (go_at_call 15; refine (isPay_any a b c d _).mono ?_; rintro e w1 ⟨rfl, hb1⟩; have HBX := Lib.hid ((Box4.new w 25 (.int .i64 a) (.int .i64 b) (.int .i64 c) (.int .i64 d)).below hb1 (by simp)); have HB1 := Lib.hid (((Below.refl _ _).alloc (Nat.le_refl _) _).trans (hb1.mono (by simp))); clear hb1) | (go_at_call 54; refine (SG.out _ HB1.out).mono ?_; rintro e w2 ⟨rfl, hb2⟩; have HBX2 := Lib.hid (HBX.out.below hb2 HBX.out.lt); have HB2 := Lib.hid (below_then HB1.out hb2); clear hb2) | (go_at_call 68; refine (AM.out _ HB2.out).mono ?_; rintro e w' ⟨rfl, rfl⟩))
      go_ret3
      exact ⟨rfl, HB1.out⟩
    | true =>
      cases h2 : goodShifts l with
      | false =>
        have hres : bestR a b c d l ms = (0, 0, false) := by simp [bestR, allAsk, h1, h2]
        rw [hres]
        clear hres h hr
        go_enter Try.func35, Try.ntmps35
        go_wp2_with (first | (go_at_call 15; refine (isPay_any a b c d _).mono ?_; rintro e w1 ⟨rfl, hb1⟩; have HBX := Lib.hid ((Box4.new w 25 (.int .i64 a) (.int .i64 b) (.int .i64 c) (.int .i64 d)).below hb1 (by simp)); have HB1 := Lib.hid (((Below.refl _ _).alloc (Nat.le_refl _) _).trans (hb1.mono (by simp))); clear hb1) | (go_at_call 54; refine (SG.out _ HB1.out).mono ?_; rintro e w2 ⟨rfl, hb2⟩; have HBX2 := Lib.hid (HBX.out.below hb2 HBX.out.lt); have HB2 := Lib.hid (below_then HB1.out hb2); clear hb2) | (go_at_call 68; refine (AM.out _ HB2.out).mono ?_; rintro e w' ⟨rfl, rfl⟩))
        go_ret3
        exact ⟨rfl, HB2.out⟩
      | true =>
        have hask : allAsk a b c d l ms = true := by unfold allAsk; rw [H3.out, h1, h2]; rfl
        have hmx : ms.length = m := by simpa using hr.1
        obtain ⟨hp, hg, h30, hms⟩ := allAsk_of hask
        rw [hmx] at h30
        have hms' := allB_true.1 hms
        have hres : bestR a b c d l ms = (((bestW (wagesF a b c d l ms 0)).1 : Int) + 1, (bestW (wagesF a b c d l ms 0)).2, true) := by simp [bestR, hask]
        rw [hres]
        have CW := Lib.hid (fun (k : Nat) (hk : k < m) (x : Int) (hx : 0 ≤ x ∧ x ≤ 1000) W (hW : Below w.heap.size w W) => wageOfI_any a b c d A n cc l ((k + 1 : Nat) : Int) x W hp hg (op_in hk h30) hx hnc (h.below hW))
        have CV := Lib.hid (fun (k : Nat) (x : Int) (hx : 0 ≤ x ∧ x ≤ 1000) => wage_bd (op := ((k + 1 : Nat) : Int)) hp hg hx)
        have HM := Lib.hid hms'
        have HX := Lib.hid hmx
        have HRR := Lib.hid hr
        have hm30 : m ≤ 30 := by omega
        have hm1 : 1 ≤ m := by omega
        have hpos : 0 < (wagesF a b c d l ms 0).length := by simp [hmx]; omega
        have HT := Lib.hid (bestW_start hpos)
        have HDW := Lib.hid (fun k => drop_wagesF a b c d l ms 0 k)
        have HLW := Lib.hid (show (wagesF a b c d l ms 0).length = m by simp [hmx])
        clear hres hr h hask hms hms' h30 hmx hp hg
        generalize wagesF a b c d l ms 0 = ws at *
        have H1 := Lib.hid h1
        have H2 := Lib.hid h2
        go_enter Try.func35, Try.ntmps35
        go_wp2_with (first | (go_at_call 15; refine (isPay_any a b c d _).mono ?_; rintro e w1 ⟨rfl, hb1⟩; have HBX := Lib.hid ((Box4.new w 25 (.int .i64 a) (.int .i64 b) (.int .i64 c) (.int .i64 d)).below hb1 (by simp)); have HB1 := Lib.hid (((Below.refl _ _).alloc (Nat.le_refl _) _).trans (hb1.mono (by simp))); clear hb1) | (go_at_call 54; refine (SG.out _ HB1.out).mono ?_; rintro e w2 ⟨rfl, hb2⟩; have HBX2 := Lib.hid (HBX.out.below hb2 HBX.out.lt); have HB2 := Lib.hid (below_then HB1.out hb2); clear hb2) | (go_at_call 68; refine (AM.out _ HB2.out).mono ?_; rintro e w' ⟨rfl, rfl⟩))
        go_loopw [9, 10, 29] (fun s t i wr => ∃ b1 k : Nat, ∃ y : Int, k ≤ m ∧ i = .int .i64 k ∧ (k = 0 ∧ s = .int .i64 0 ∧ t = .int .i64 (-1) ∨ 0 < k ∧ s = .int .i64 ((b1 : Int) + 1) ∧ t = .int .i64 y ∧ 0 ≤ y ∧ y ≤ 1000000000 ∧ b1 ≤ 30 ∧ bestF (ws.drop k) k (b1, y) = bestW ws) ∧ Below w.heap.size w wr ∧ Box4 wr w.heap.size 25 (.int .i64 a) (.int .i64 b) (.int .i64 c) (.int .i64 d)) (fun _ _ i _ => m - (intOf i).toNat)
        case atStart => exact ⟨0, 0, 0, by omega, rfl, .inl ⟨rfl, rfl, rfl⟩, HB2.out, HBX2.out⟩
        case round =>
          obtain ⟨b0, k, y, hk, rfl, hrel, hb, hbx⟩ := hrel
          have HBL := Lib.hid hb; clear hb
          obtain ⟨k0, k1, k2, k3⟩ := hbx.cells
          have HBX := Lib.hid hbx; clear hbx
          by_cases hlt : k < m
          · obtain ⟨ad, rfl, hc⟩ := (HRR.out.below HBL.out).2 (by omega)
            have hxk : k < ms.length := by rw [HX.out]; exact hlt
            have hxw : k < ws.length := by rw [HLW.out]; exact hlt
            have hcell : wr.cell? (ad.add k) = some (.int .i64 ms[k]) := hc k _ (by simp [ints, hxk])
            have CWK := Lib.hid (CW.out k hlt ms[k] (HM.out ms[k] (List.getElem_mem hxk)) wr HBL.out)
            have hv := CV.out k ms[k] (HM.out ms[k] (List.getElem_mem hxk))
            have ek : ((k + 1 : Nat) : Int) = (k : Int) + 1 := by omega
            rw [ek] at CWK hv
            have hwk : ws[k] = wage a b c d l ((k : Int) + 1) ms[k] := by
              have h1 := HDW.out k
              rw [drop_cons hxw, drop_cons hxk] at h1
              simp only [wagesF, Nat.zero_add] at h1
              injection h1
            have HD := Lib.hid (drop_cons hxw)
            rw [hwk] at HD
            have HWK := Lib.hid hwk
            clear hc hwk
            generalize ms[k] = x at *
            generalize wage a b c d l ((k : Int) + 1) x = v at *
            rcases hrel with ⟨hk0, rfl, rfl⟩ | ⟨hk0, rfl, rfl, hy0, hy1, hb30, hrel⟩
            · have HNX : Hid (bestF (ws.drop (k + 1)) (k + 1) (k, v) = bestW ws) := Lib.hid (by
                subst hk0
                have := HT.out
                have h0 := HWK.out
                have e1 : bestF (v :: ws.drop (0 + 1)) 0 (0, v) = bestF (ws.drop (0 + 1)) (0 + 1) (0, v) := by simp [bestF]
                have e2 := HD.out
                rw [List.drop_zero] at e2
                rw [← e2] at e1
                rw [h0] at this
                exact e1.symm.trans this)
              clear hk0
              go_wp2_with (go_at_call 58; refine (CWK.out).mono ?_; rintro e w3 ⟨rfl, hb3⟩; have HB3 := Lib.hid hb3; clear hb3)
              go_roundw
              case rel => exact ⟨k, k + 1, v, by omega, by go_num, .inr ⟨by omega, rfl, rfl, by omega, by omega, by omega, HNX.out⟩, HBL.out.trans (HB3.out.mono HBL.out.size), HBX.out.below HB3.out HBX.out.lt⟩
              case measure => simp [intOf]; omega
            · have HN : Hid ((y < v → bestF (ws.drop (k + 1)) (k + 1) (k, v) = bestW ws) ∧ (¬ y < v → bestF (ws.drop (k + 1)) (k + 1) (b0, y) = bestW ws)) := Lib.hid (by
                rw [HD.out] at hrel
                simp only [bestF] at hrel
                exact ⟨fun h => by rw [if_pos h] at hrel; exact hrel, fun h => by rw [if_neg h] at hrel; exact hrel⟩)
              clear hrel
              by_cases hless : y < v
              · go_wp2_with (go_at_call 58; refine (CWK.out).mono ?_; rintro e w3 ⟨rfl, hb3⟩; have HB3 := Lib.hid hb3; clear hb3)
                go_roundw
                case rel => exact ⟨k, k + 1, v, by omega, by go_num, .inr ⟨by omega, rfl, rfl, by omega, by omega, by omega, HN.out.1 hless⟩, HBL.out.trans (HB3.out.mono HBL.out.size), HBX.out.below HB3.out HBX.out.lt⟩
                case measure => simp [intOf]; omega
              · go_wp2_with (go_at_call 58; refine (CWK.out).mono ?_; rintro e w3 ⟨rfl, hb3⟩; have HB3 := Lib.hid hb3; clear hb3)
                go_roundw
                case rel => exact ⟨b0, k + 1, y, by omega, by go_num, .inr ⟨by omega, rfl, rfl, by omega, by omega, by omega, HN.out.2 hless⟩, HBL.out.trans (HB3.out.mono HBL.out.size), HBX.out.below HB3.out HBX.out.lt⟩
                case measure => simp [intOf]; omega
          · have HE := Lib.hid (drop_end (xs := ws) (k := k) (by rw [HLW.out]; omega))
            rcases hrel with ⟨hk0, rfl, rfl⟩ | ⟨hk0, rfl, rfl, hy0, hy1, hb30, hrel⟩
            · omega
            · rw [HE.out] at hrel
              simp only [bestF] at hrel
              have HEN := Lib.hid hrel
              clear hrel
              go_wp2
              go_ret3
              exact ⟨ret_iib (by rw [← HEN.out]) (by rw [← HEN.out]), HBL.out⟩
set_option maxHeartbeats 4000000 in
set_option maxRecDepth 100000 in
theorem law_FnExactBestPaid (w : World) {v0 v1 v2 : Value} (h0 : IsAgg4 v0) (h1 : IsRows3 w v1) (h2 : IsInts w v2) :
    Calls Try.prog 9 #[v0, v1, v2] w fun e w' => e = .returned (.bool true) ∧ Below w.heap.size w w' := by
  obtain ⟨a0, b0, c0, d0, rfl, _⟩ := h0
  obtain ⟨A1, n1, c1, xs1, rfl, hnc1, hcm1, _, hr1, _⟩ := h1
  obtain ⟨A2, n2, c2, xs2, rfl, _, _, hr2, _⟩ := h2
  have HR1 := Lib.hid ((hr1.alloc (.cells #[.int .i64 a0, .int .i64 b0, .int .i64 c0, .int .i64 d0] 23))); clear hr1
  have HR2 := Lib.hid ((hr2.alloc (.cells #[.int .i64 a0, .int .i64 b0, .int .i64 c0, .int .i64 d0] 23))); clear hr2
  by_cases hn2 : n2 ≤ 1048576
  rotate_left
  · go_enter Try.func9, Try.ntmps9
    go_wp2
    go_ret
    exact ⟨rfl, ((Below.refl _ _).alloc (by first | exact Nat.le_refl _ | (simp; done) | (simp; omega)) _)⟩
  by_cases hn1 : n1 ≤ 1048576
  rotate_left
  · go_enter Try.func9, Try.ntmps9
    go_wp2_with fail
    refine (szShiftS_big A1 n1 c1 1048576 _ (by omega) (by omega) (by omega)).mono ?_
    rintro e w' ⟨rfl, rfl⟩
    go_wp2_with fail
    go_ret
    exact ⟨rfl, ((Below.refl _ _).alloc (by first | exact Nat.le_refl _ | (simp; done) | (simp; omega)) _)⟩
  obtain ⟨S0, hS0⟩ : ∃ S0, S0 = (w.alloc (.cells #[.int .i64 a0, .int .i64 b0, .int .i64 c0, .int .i64 d0] 23)) := ⟨_, rfl⟩
  have KB0 : Hid (∀ W, Below S0.heap.size S0 W → W.cell? ⟨w.heap.size, 0, none⟩ = some (.int .i64 a0) ∧ W.cell? ⟨w.heap.size, 1, none⟩ = some (.int .i64 b0) ∧ W.cell? ⟨w.heap.size, 2, none⟩ = some (.int .i64 c0) ∧ W.cell? ⟨w.heap.size, 3, none⟩ = some (.int .i64 d0)) := Lib.hid (by
    intro W hW; subst hS0; exact box4 hW)
  have HS0 := Lib.hid hS0
  have BW0 : Hid (Below w.heap.size w S0 ∧ w.heap.size ≤ S0.heap.size) := Lib.hid (by subst hS0; exact ⟨((Below.refl _ _).alloc (by first | exact Nat.le_refl _ | (simp; done) | (simp; omega)) _), by simp; try omega⟩)
  rw [← hS0] at HR1
  rw [← hS0] at HR2
  clear hS0
  go_enter Try.func9, Try.ntmps9
  go_wp2_with fail
  refine (szShiftS_ok A1 n1 c1 1048576 _ (by omega) (by omega)).mono ?_
  rintro e w' ⟨rfl, rfl⟩
  have BB0 : Hid (Below S0.heap.size S0 S0) := Lib.hid (Below.refl _ _)
  try rw [← HS0.out]
  obtain ⟨ka0, kb0, kc0, kd0⟩ := KB0.out S0 BB0.out
  go_wp2_with fail
  try rw [← HS0.out]
  clear ka0 kb0 kc0 kd0
  refine (toPay_any a0 b0 c0 d0 S0).mono ?_
  rintro e w1 ⟨rfl, hb⟩
  have B0 := Lib.hid hb; clear hb
  have Z0 := Lib.hid (B0.out.size)
  have BB1 := Lib.hid (BB0.out.trans (B0.out.mono BB0.out.size))
  obtain ⟨ka0, kb0, kc0, kd0⟩ := KB0.out w1 BB1.out
  go_wp2_with fail
  clear ka0 kb0 kc0 kd0
  refine (toShiftS_any A1 n1 c1 xs1 w1 (by omega) (HR1.out.below BB1.out)).mono ?_
  rintro e w2 ⟨As1, cs1, rfl, hown, hb⟩
  have Os1_2 := Lib.hid hown; clear hown
  have Ls1 := Lib.hid (own_lt Os1_2.out)
  have B1 := Lib.hid hb; clear hb
  have Z1 := Lib.hid (B1.out.size)
  have BB2 := Lib.hid (BB1.out.trans (B1.out.mono BB1.out.size))
  obtain ⟨ka0, kb0, kc0, kd0⟩ := KB0.out w2 BB2.out
  go_wp2_with fail
  clear ka0 kb0 kc0 kd0
  refine (toIntS_any A2 n2 c2 xs2 w2 (by omega) (HR2.out.below BB2.out)).mono ?_
  rintro e w3 ⟨As2, cs2, rfl, hown, hb⟩
  have Os2_3 := Lib.hid hown; clear hown
  have Ls2 := Lib.hid (own_lt Os2_3.out)
  have B2 := Lib.hid hb; clear hb
  have Z2 := Lib.hid (B2.out.size)
  have BB3 := Lib.hid (BB2.out.trans (B2.out.mono BB2.out.size))
  have Os1_3 := Lib.hid (own_below Os1_2.out B2.out)
  obtain ⟨ka0, kb0, kc0, kd0⟩ := KB0.out w3 BB3.out
  go_wp2_with fail
  clear ka0 kb0 kc0 kd0
  refine (specBestPaid_any a0 b0 c0 d0 As1 n1 cs1 xs1 As2 n2 cs2 xs2 w3 (by omega) (Reads.of_own Os1_3.out) (own_cap Os1_3.out) (by omega) (Reads.of_own Os2_3.out) (own_cap Os2_3.out)).mono ?_
  rintro e w4 ⟨rfl, hb⟩
  have B3 := Lib.hid hb; clear hb
  have Z3 := Lib.hid (B3.out.size)
  have BB4 := Lib.hid (BB3.out.trans (B3.out.mono BB3.out.size))
  have Os1_4 := Lib.hid (own_below Os1_3.out B3.out)
  have Os2_4 := Lib.hid (own_below Os2_3.out B3.out)
  obtain ⟨ka0, kb0, kc0, kd0⟩ := KB0.out w4 BB4.out
  go_wp2_with fail
  clear ka0 kb0 kc0 kd0
  refine (toShiftS_any A1 n1 c1 xs1 w4 (by omega) (HR1.out.below BB4.out)).mono ?_
  rintro e w5 ⟨Ax1, cx1, rfl, hown, hb⟩
  have Ox1_5 := Lib.hid hown; clear hown
  have Lx1 := Lib.hid (own_lt Ox1_5.out)
  have B4 := Lib.hid hb; clear hb
  have Z4 := Lib.hid (B4.out.size)
  have BB5 := Lib.hid (BB4.out.trans (B4.out.mono BB4.out.size))
  obtain ⟨ka0, kb0, kc0, kd0⟩ := KB0.out w5 BB5.out
  go_wp2_with fail
  clear ka0 kb0 kc0 kd0
  refine (toIntS_any A2 n2 c2 xs2 w5 (by omega) (HR2.out.below BB5.out)).mono ?_
  rintro e w6 ⟨Ax2, cx2, rfl, hown, hb⟩
  have Ox2_6 := Lib.hid hown; clear hown
  have Lx2 := Lib.hid (own_lt Ox2_6.out)
  have B5 := Lib.hid hb; clear hb
  have Z5 := Lib.hid (B5.out.size)
  have BB6 := Lib.hid (BB5.out.trans (B5.out.mono BB5.out.size))
  have Ox1_6 := Lib.hid (own_below Ox1_5.out B5.out)
  obtain ⟨ka0, kb0, kc0, kd0⟩ := KB0.out w6 BB6.out
  go_wp2_with fail
  clear ka0 kb0 kc0 kd0
  refine (toPay_any a0 b0 c0 d0 w6).mono ?_
  rintro e w7 ⟨rfl, hb⟩
  have B6 := Lib.hid hb; clear hb
  have Z6 := Lib.hid (B6.out.size)
  have BB7 := Lib.hid (BB6.out.trans (B6.out.mono BB6.out.size))
  have Ox1_7 := Lib.hid (own_below Ox1_6.out B6.out)
  have Ox2_7 := Lib.hid (own_below Ox2_6.out B6.out)
  obtain ⟨ka0, kb0, kc0, kd0⟩ := KB0.out w7 BB7.out
  go_wp2_with fail
  clear ka0 kb0 kc0 kd0
  refine (implBestPaid_any a0 b0 c0 d0 Ax1 n1 cx1 xs1 Ax2 n2 cx2 xs2 w7 (by omega) (Reads.of_own Ox1_7.out) (own_cap Ox1_7.out) (by omega) (Reads.of_own Ox2_7.out) (own_cap Ox2_7.out)).mono ?_
  rintro e w8 ⟨rfl, hb⟩
  have B7 := Lib.hid hb; clear hb
  have Z7 := Lib.hid (B7.out.size)
  have BB8 := Lib.hid (BB7.out.trans (B7.out.mono BB7.out.size))
  have Ox1_8 := Lib.hid (own_below Ox1_7.out B7.out)
  have Ox2_8 := Lib.hid (own_below Ox2_7.out B7.out)
  obtain ⟨ka0, kb0, kc0, kd0⟩ := KB0.out w8 BB8.out
  go_wp2_with fail
  clear ka0 kb0 kc0 kd0
  refine (toShiftS_any A1 n1 c1 xs1 w8 (by omega) (HR1.out.below BB8.out)).mono ?_
  rintro e w9 ⟨At1, ct1, rfl, hown, hb⟩
  have Ot1_9 := Lib.hid hown; clear hown
  have Lt1 := Lib.hid (own_lt Ot1_9.out)
  have B8 := Lib.hid hb; clear hb
  have Z8 := Lib.hid (B8.out.size)
  have BB9 := Lib.hid (BB8.out.trans (B8.out.mono BB8.out.size))
  have Ox1_9 := Lib.hid (own_below Ox1_8.out B8.out)
  have Ox2_9 := Lib.hid (own_below Ox2_8.out B8.out)
  obtain ⟨ka0, kb0, kc0, kd0⟩ := KB0.out w9 BB9.out
  go_wp2_with fail
  clear ka0 kb0 kc0 kd0
  refine (eqShiftS_any Ax1 At1 n1 cx1 ct1 xs1 w9 (by omega) (Reads.of_own Ox1_9.out) (Reads.of_own Ot1_9.out)).mono ?_
  rintro e w10 ⟨rfl, hb⟩
  have B9 := Lib.hid hb; clear hb
  have Z9 := Lib.hid (B9.out.size)
  have BB10 := Lib.hid (BB9.out.trans (B9.out.mono BB9.out.size))
  have Ox1_10 := Lib.hid (own_below Ox1_9.out B9.out)
  have Ox2_10 := Lib.hid (own_below Ox2_9.out B9.out)
  have Ot1_10 := Lib.hid (own_below Ot1_9.out B9.out)
  obtain ⟨ka0, kb0, kc0, kd0⟩ := KB0.out w10 BB10.out
  go_wp2_with fail
  clear ka0 kb0 kc0 kd0
  refine (toIntS_any A2 n2 c2 xs2 w10 (by omega) (HR2.out.below BB10.out)).mono ?_
  rintro e w11 ⟨At2, ct2, rfl, hown, hb⟩
  have Ot2_11 := Lib.hid hown; clear hown
  have Lt2 := Lib.hid (own_lt Ot2_11.out)
  have B10 := Lib.hid hb; clear hb
  have Z10 := Lib.hid (B10.out.size)
  have BB11 := Lib.hid (BB10.out.trans (B10.out.mono BB10.out.size))
  have Ox1_11 := Lib.hid (own_below Ox1_10.out B10.out)
  have Ox2_11 := Lib.hid (own_below Ox2_10.out B10.out)
  obtain ⟨ka0, kb0, kc0, kd0⟩ := KB0.out w11 BB11.out
  go_wp2_with fail
  clear ka0 kb0 kc0 kd0
  refine (eqIntS_any Ax2 At2 n2 cx2 ct2 xs2 w11 (by omega) (Reads.of_own Ox2_11.out) (Reads.of_own Ot2_11.out)).mono ?_
  rintro e w12 ⟨rfl, hb⟩
  replace hb := below_of_quiet (B := w11.heap.size) hb
  have B11 := Lib.hid hb; clear hb
  have Z11 := Lib.hid (B11.out.size)
  have BB12 := Lib.hid (BB11.out.trans (B11.out.mono BB11.out.size))
  have Ox1_12 := Lib.hid (own_below Ox1_11.out B11.out)
  have Ox2_12 := Lib.hid (own_below Ox2_11.out B11.out)
  have Ot2_12 := Lib.hid (own_below Ot2_11.out B11.out)
  go_wp2_with fail
  go_ret
  exact ⟨rfl, BW0.out.1.trans (BB12.out.mono BW0.out.2)⟩

end Go.Proofs.Ytiofgoppgdgbaaa
