/- Lemmas and contracts of this claim, several texts in one: LostCount of both packages. The law of filled logs: plain. The laws' tests of logs, gaps and lists: what is the same is found so. FitsBetween of the implementation. FitsBetween of the implementation, every input. No conditions. -/
import Derived.Test.YtcjmlakmigfkfaaZFilled12
import Derived.Test.YtcjmlakmigfkfaaZFilled6
import Derived.Test.YtcjmlakmigfkfaaZFilled3
namespace Go.Proofs.Ytcjmlakmigfkfaa
set_option linter.unusedSimpArgs false
set_option linter.unusedVariables false
open Go.RowKit

/-- How many pairs a rest lacks. -/
def lackN (R : List EntryT) : List (EntryT × EntryT) → Nat
  | [] => 0
  | p :: r => (if lackE R p.1 = true then 1 else 0) + lackN R r
def lostR (L M R : List EntryT) : Int × Bool := if (goodE L && (goodE M && goodE R)) = true then ((lackN R (togE M L) : Int), true) else (0, false)
theorem lackN_le (R : List EntryT) : ∀ P, lackN R P ≤ P.length := by
  intro P
  induction P with
  | nil => exact Nat.le_refl _
  | cons p r ih =>
    simp only [lackN, List.length_cons]
    split <;> omega

set_option maxHeartbeats 4000000 in
set_option maxRecDepth 100000 in
theorem implLostCount_any (A : Option Addr) (n c : Nat) (L : List EntryT) (B : Option Addr) (m d : Nat) (M : List EntryT) (C : Option Addr) (o q : Nat) (R : List EntryT) (w : World) (hn : n ≤ 1000000000) (hl : ∀ x ∈ L, lenE 1000000000 x) (h : Reads2 w 5 A n (rowsE L)) (hc : n ≤ c) (hm : m ≤ 1000000000) (hl' : ∀ x ∈ M, lenE 1000000000 x) (h' : Reads2 w 5 B m (rowsE M)) (hd : m ≤ d) (ho : o ≤ 1000000000) (hl'' : ∀ x ∈ R, lenE 1000000000 x) (h'' : Reads2 w 5 C o (rowsE R)) (hq : o ≤ q) :
    Calls Try.prog 36 #[.slice A n c, .slice B m d, .slice C o q] w fun e w' => e = .returned (.tuple #[.int .i64 (lostR L M R).1, .bool (lostR L M R).2]) ∧ Below w.heap.size w w' := by
  have c1 := fun W (hW : Below w.heap.size w W) => isLog_any A n c L W hn hc hl (h.below hW)
  have c2 := fun W (hW : Below w.heap.size w W) => isLog_any B m d M W hm hd hl' (h'.below hW)
  have c3 := fun W (hW : Below w.heap.size w W) => isLog_any C o q R W ho hq hl'' (h''.below hW)
  cases g1 : goodE L with
  | false =>
    have hr : lostR L M R = (0, false) := by simp [lostR, g1]
    rw [hr]
    simp only [g1] at c1
    have C1 := Lib.hid c1
    clear c1 c2 c3 hr h h' h'' hl hl' hl'' g1
    go_enter Try.func36, Try.ntmps36
    go_wp2_with fail
    refine (C1.out _ (Below.refl _ _)).mono ?_
    rintro e w1 ⟨rfl, hb⟩
    have HB1 := Lib.hid (hb)
    clear hb
    go_wp2
    go_ret2
    exact ⟨rfl, HB1.out⟩
  | true =>
    cases g2 : goodE M with
    | false =>
      have hr : lostR L M R = (0, false) := by simp [lostR, g2]
      rw [hr]
      simp only [g1] at c1
      simp only [g2] at c2
      have C1 := Lib.hid c1
      have C2 := Lib.hid c2
      clear c1 c2 c3 hr h h' h'' hl hl' hl'' g1 g2
      go_enter Try.func36, Try.ntmps36
      go_wp2_with fail
      refine (C1.out _ (Below.refl _ _)).mono ?_
      rintro e w1 ⟨rfl, hb⟩
      have HB1 := Lib.hid (hb)
      clear hb
      go_wp2_with fail
      refine (C2.out _ HB1.out).mono ?_
      rintro e w2 ⟨rfl, hb⟩
      have HB2 := Lib.hid (HB1.out.trans (hb.mono HB1.out.size))
      clear hb
      go_wp2
      go_ret2
      exact ⟨rfl, HB2.out⟩
    | true =>
      cases g3 : goodE R with
      | false =>
        have hr : lostR L M R = (0, false) := by simp [lostR, g3]
        rw [hr]
        simp only [g1] at c1
        simp only [g2] at c2
        simp only [g3] at c3
        have C1 := Lib.hid c1
        have C2 := Lib.hid c2
        have C3 := Lib.hid c3
        clear c1 c2 c3 hr h h' h'' hl hl' hl'' g1 g2 g3
        go_enter Try.func36, Try.ntmps36
        go_wp2_with fail
        refine (C1.out _ (Below.refl _ _)).mono ?_
        rintro e w1 ⟨rfl, hb⟩
        have HB1 := Lib.hid (hb)
        clear hb
        go_wp2_with fail
        refine (C2.out _ HB1.out).mono ?_
        rintro e w2 ⟨rfl, hb⟩
        have HB2 := Lib.hid (HB1.out.trans (hb.mono HB1.out.size))
        clear hb
        go_wp2_with fail
        refine (C3.out _ HB2.out).mono ?_
        rintro e w3 ⟨rfl, hb⟩
        have HB3 := Lib.hid (HB2.out.trans (hb.mono HB2.out.size))
        clear hb
        go_wp2
        go_ret2
        exact ⟨rfl, HB3.out⟩
      | true =>
        have hr : lostR L M R = ((lackN R (togE M L) : Int), true) := by simp [lostR, g1, g2, g3]
        rw [hr]
        have gL := goodE_all g1
        have gM := goodE_all g2
        have HX : L.length = n := by have := h.len; rw [length_rowsE] at this; omega
        have HY : M.length = m := by have := h'.len; rw [length_rowsE] at this; omega
        have hn30 : n ≤ 30 := by rw [← HX]; exact gL.2
        have hm30 : m ≤ 30 := by rw [← HY]; exact gM.2
        have HLE := Lib.hid gL.1
        have HME := Lib.hid gM.1
        simp only [g1] at c1
        simp only [g2] at c2
        simp only [g3] at c3
        have C1 := Lib.hid c1
        have C2 := Lib.hid c2
        have C3 := Lib.hid c3
        have H := Lib.hid h
        have H' := Lib.hid h'
        have H'' := Lib.hid h''
        have CT := Lib.hid (fun W (hW : Below w.heap.size w W) => together_any A n c L B m d M W (by omega) (by omega) (H.out.below hW) (H'.out.below hW))
        have hN : cntE M L ≤ 30 := by have := togE_len M L; have := gL.2; unfold cntE; omega
        have HPL : Hid ((togE M L).length = cntE M L) := Lib.hid rfl
        clear c1 c2 c3 hr h h' h'' hl hl' hl'' g1 g2 g3 gL gM HX HY
        go_enter Try.func36, Try.ntmps36
        go_wp2_with fail
        refine (C1.out _ (Below.refl _ _)).mono ?_
        rintro e w1 ⟨rfl, hb⟩
        have HB1 := Lib.hid (hb)
        clear hb
        go_wp2_with fail
        refine (C2.out _ HB1.out).mono ?_
        rintro e w2 ⟨rfl, hb⟩
        have HB2 := Lib.hid (HB1.out.trans (hb.mono HB1.out.size))
        clear hb
        go_wp2_with fail
        refine (C3.out _ HB2.out).mono ?_
        rintro e w3 ⟨rfl, hb⟩
        have HB3 := Lib.hid (HB2.out.trans (hb.mono HB2.out.size))
        clear hb
        clear C1 C2 C3 HB1 HB2
        go_wp2_with fail
        refine (CT.out _ HB3.out).mono ?_
        rintro e w4 ⟨P1, p1, rfl, hr3, hb⟩
        have HR3 := Lib.hid hr3
        have HB4 := Lib.hid (HB3.out.trans (hb.mono HB3.out.size))
        clear hr3 hb CT
        go_wp2
        go_loopw [8, 28] (fun nv kv wr => ∃ k s : Nat, k ≤ cntE M L ∧ kv = .int .i64 k ∧ nv = .int .i64 s ∧ s ≤ k ∧ s + lackN R ((togE M L).drop k) = lackN R (togE M L) ∧ Below w4.heap.size w4 wr) (fun _ kv _ => cntE M L - (intOf kv).toNat)
        case atStart => exact ⟨0, 0, Nat.zero_le _, rfl, rfl, Nat.le_refl _, by simp, Below.refl _ _⟩
        case round =>
          obtain ⟨k, s, hk, rfl, rfl, hsk, hrc, hb⟩ := hrel
          have HRC := Lib.hid hrc; have HB := Lib.hid hb
          clear hrc hb
          by_cases hlt : k < cntE M L
          · have hx : k < (togE M L).length := by rw [HPL.out]; exact hlt
            have HD := Lib.hid (drop_cons hx)
            obtain ⟨ad, A3, c3, A4, c4, B3, d3, B4, d4, rfl, ⟨k0, k1, k2, k3, k4, k5, k6, k7, k8, k9⟩, _, _, _, _⟩ := rowsP_at (HR3.out.below HB.out) hx
            have HLK : Hid (lackN R ((togE M L).drop k) = (if lackE R (togE M L)[k].1 = true then 1 else 0) + lackN R ((togE M L).drop (k + 1))) := Lib.hid (by rw [HD.out]; rfl)
            generalize (togE M L)[k] = x at *
            obtain ⟨⟨t, mm, p, l, l'⟩, ⟨yt, ym, yp, yl, yl'⟩⟩ := x
            simp only at k0 k1 k2 k3 k4 k5 k6 k7 k8 k9 HLK
            have hla : lackE R (t, mm, p, l, l') = decide (idxP (isE mm p) R 0 < 0) := rfl
            rw [hla] at HLK
            clear hla
            have HWA : Hid (Below wr.heap.size wr (wr.alloc (.cells #[.int .i64 t, .int .i64 mm, .int .i64 p, .slice A3 l.length c3, .slice A4 l'.length c4, .int .i64 yt, .int .i64 ym, .int .i64 yp, .slice B3 yl.length d3, .slice B4 yl'.length d4] 85))) := Lib.hid ((Below.refl _ _).alloc (Nat.le_refl _) _)
            have CF := Lib.hid (entryIndex_any C o q R mm p (wr.alloc (.cells #[.int .i64 t, .int .i64 mm, .int .i64 p, .slice A3 l.length c3, .slice A4 l'.length c4, .int .i64 yt, .int .i64 ym, .int .i64 yp, .slice B3 yl.length d3, .slice B4 yl'.length d4] 85)) ho (H''.out.below (HB4.out.trans ((HB.out.trans (HWA.out.mono HB.out.size)).mono HB4.out.size))))
            generalize idxP (isE mm p) R 0 = ix at *
            go_wp2_with fail
            refine (CF.out).mono ?_
            rintro e w5 ⟨rfl, hb5⟩
            have HB5 := Lib.hid (HB.out.trans ((HWA.out.trans (hb5.mono (by simp))).mono HB.out.size))
            clear k0 k1 k2 k3 k4 k5 k6 k7 k8 k9 hb5 CF
            by_cases hix : ix < 0
            · have HN : Hid (lackN R ((togE M L).drop k) = 1 + lackN R ((togE M L).drop (k + 1))) := Lib.hid (by rw [HLK.out]; simp [hix])
              go_wp2
              go_roundw
              case rel => exact ⟨k + 1, s + 1, by omega, by go_num, by go_num, by omega, by have h1 := HRC.out; have h2 := HN.out; omega, HB5.out⟩
              case measure => simp [intOf]; omega
            · have HN : Hid (lackN R ((togE M L).drop k) = lackN R ((togE M L).drop (k + 1))) := Lib.hid (by rw [HLK.out]; simp [hix])
              go_wp2
              go_roundw
              case rel => exact ⟨k + 1, s, by omega, by go_num, rfl, by omega, by have h1 := HRC.out; have h2 := HN.out; omega, HB5.out⟩
              case measure => simp [intOf]; omega
          · have HE := Lib.hid (drop_end (xs := togE M L) (k := k) (by rw [HPL.out]; omega))
            have hs : s = lackN R (togE M L) := by have := HRC.out; rw [HE.out] at this; simpa [lackN] using this
            have HS := Lib.hid hs
            clear hs
            go_wp2
            go_ret2
            exact ⟨by rw [HS.out]; rfl, HB4.out.trans (HB.out.mono HB4.out.size)⟩

set_option maxHeartbeats 4000000 in
set_option maxRecDepth 100000 in
theorem specLostCount_any (A : Option Addr) (n c : Nat) (L : List EntryT) (B : Option Addr) (m d : Nat) (M : List EntryT) (C : Option Addr) (o q : Nat) (R : List EntryT) (w : World) (hn : n ≤ 1000000000) (hl : ∀ x ∈ L, lenE 1000000000 x) (h : Reads2 w 5 A n (rowsE L)) (hc : n ≤ c) (hm : m ≤ 1000000000) (hl' : ∀ x ∈ M, lenE 1000000000 x) (h' : Reads2 w 5 B m (rowsE M)) (hd : m ≤ d) (ho : o ≤ 1000000000) (hl'' : ∀ x ∈ R, lenE 1000000000 x) (h'' : Reads2 w 5 C o (rowsE R)) (hq : o ≤ q) :
    Calls Try.prog 37 #[.slice A n c, .slice B m d, .slice C o q] w fun e w' => e = .returned (.tuple #[.int .i64 (lostR L M R).1, .bool (lostR L M R).2]) ∧ Below w.heap.size w w' := by
  have c1 := fun W (hW : Below w.heap.size w W) => lgGood_any A n c L W hn hl (h.below hW)
  have c2 := fun W (hW : Below w.heap.size w W) => lgGood_any B m d M W hm hl' (h'.below hW)
  have c3 := fun W (hW : Below w.heap.size w W) => lgGood_any C o q R W ho hl'' (h''.below hW)
  cases g1 : goodE L with
  | false =>
    have hr : lostR L M R = (0, false) := by simp [lostR, g1]
    rw [hr]
    simp only [g1] at c1
    have C1 := Lib.hid c1
    clear c1 c2 c3 hr h h' h'' hl hl' hl'' g1
    go_enter Try.func37, Try.ntmps37
    go_wp2_with fail
    refine (C1.out _ (Below.refl _ _)).mono ?_
    rintro e w1 ⟨rfl, hb⟩
    have HB1 := Lib.hid (hb)
    clear hb
    go_wp2
    go_ret2
    exact ⟨rfl, HB1.out⟩
  | true =>
    cases g2 : goodE M with
    | false =>
      have hr : lostR L M R = (0, false) := by simp [lostR, g2]
      rw [hr]
      simp only [g1] at c1
      simp only [g2] at c2
      have C1 := Lib.hid c1
      have C2 := Lib.hid c2
      clear c1 c2 c3 hr h h' h'' hl hl' hl'' g1 g2
      go_enter Try.func37, Try.ntmps37
      go_wp2_with fail
      refine (C1.out _ (Below.refl _ _)).mono ?_
      rintro e w1 ⟨rfl, hb⟩
      have HB1 := Lib.hid (hb)
      clear hb
      go_wp2_with fail
      refine (C2.out _ HB1.out).mono ?_
      rintro e w2 ⟨rfl, hb⟩
      have HB2 := Lib.hid (HB1.out.trans (hb.mono HB1.out.size))
      clear hb
      go_wp2
      go_ret2
      exact ⟨rfl, HB2.out⟩
    | true =>
      cases g3 : goodE R with
      | false =>
        have hr : lostR L M R = (0, false) := by simp [lostR, g3]
        rw [hr]
        simp only [g1] at c1
        simp only [g2] at c2
        simp only [g3] at c3
        have C1 := Lib.hid c1
        have C2 := Lib.hid c2
        have C3 := Lib.hid c3
        clear c1 c2 c3 hr h h' h'' hl hl' hl'' g1 g2 g3
        go_enter Try.func37, Try.ntmps37
        go_wp2_with fail
        refine (C1.out _ (Below.refl _ _)).mono ?_
        rintro e w1 ⟨rfl, hb⟩
        have HB1 := Lib.hid (hb)
        clear hb
        go_wp2_with fail
        refine (C2.out _ HB1.out).mono ?_
        rintro e w2 ⟨rfl, hb⟩
        have HB2 := Lib.hid (HB1.out.trans (hb.mono HB1.out.size))
        clear hb
        go_wp2_with fail
        refine (C3.out _ HB2.out).mono ?_
        rintro e w3 ⟨rfl, hb⟩
        have HB3 := Lib.hid (HB2.out.trans (hb.mono HB2.out.size))
        clear hb
        go_wp2
        go_ret2
        exact ⟨rfl, HB3.out⟩
      | true =>
        have hr : lostR L M R = ((lackN R (togE M L) : Int), true) := by simp [lostR, g1, g2, g3]
        rw [hr]
        have gL := goodE_all g1
        have gM := goodE_all g2
        have HX : L.length = n := by have := h.len; rw [length_rowsE] at this; omega
        have HY : M.length = m := by have := h'.len; rw [length_rowsE] at this; omega
        have hn30 : n ≤ 30 := by rw [← HX]; exact gL.2
        have hm30 : m ≤ 30 := by rw [← HY]; exact gM.2
        have HLE := Lib.hid gL.1
        have HME := Lib.hid gM.1
        simp only [g1] at c1
        simp only [g2] at c2
        simp only [g3] at c3
        have C1 := Lib.hid c1
        have C2 := Lib.hid c2
        have C3 := Lib.hid c3
        have H := Lib.hid h
        have H' := Lib.hid h'
        have H'' := Lib.hid h''
        have CT := Lib.hid (fun W (hW : Below w.heap.size w W) => rbGaps_any A n c L B m d M 0 0 W (by omega) (by omega) HLE.out HME.out (by omega) (by omega) (H.out.below hW) (H'.out.below hW))
        have hN : cntE M L ≤ 30 := by have := togE_len M L; have := gL.2; unfold cntE; omega
        have HPL : Hid ((togE M L).length = cntE M L) := Lib.hid rfl
        clear c1 c2 c3 hr h h' h'' hl hl' hl'' g1 g2 g3 gL gM HX HY
        go_enter Try.func37, Try.ntmps37
        go_wp2_with fail
        refine (C1.out _ (Below.refl _ _)).mono ?_
        rintro e w1 ⟨rfl, hb⟩
        have HB1 := Lib.hid (hb)
        clear hb
        go_wp2_with fail
        refine (C2.out _ HB1.out).mono ?_
        rintro e w2 ⟨rfl, hb⟩
        have HB2 := Lib.hid (HB1.out.trans (hb.mono HB1.out.size))
        clear hb
        go_wp2_with fail
        refine (C3.out _ HB2.out).mono ?_
        rintro e w3 ⟨rfl, hb⟩
        have HB3 := Lib.hid (HB2.out.trans (hb.mono HB2.out.size))
        clear hb
        clear C1 C2 C3 HB1 HB2
        go_wp2_with fail
        refine (CT.out _ HB3.out).mono ?_
        rintro e w4 ⟨P1, p1, P2, p2, hs0, rfl, hr3, hb⟩
        have HR3 := Lib.hid (Reads.of_own hr3.one)
        have HB4 := Lib.hid (HB3.out.trans (hb.mono HB3.out.size))
        clear hr3 hb CT
        go_wp2
        go_loopw [10, 34] (fun nv kv wr => ∃ k s : Nat, k ≤ cntE M L ∧ kv = .int .i64 k ∧ nv = .int .i64 s ∧ s ≤ k ∧ s + lackN R ((togE M L).drop k) = lackN R (togE M L) ∧ Below w4.heap.size w4 wr) (fun _ kv _ => cntE M L - (intOf kv).toNat)
        case atStart => exact ⟨0, 0, Nat.zero_le _, rfl, rfl, Nat.le_refl _, by simp, Below.refl _ _⟩
        case round =>
          obtain ⟨k, s, hk, rfl, rfl, hsk, hrc, hb⟩ := hrel
          have HRC := Lib.hid hrc; have HB := Lib.hid hb
          clear hrc hb
          by_cases hlt : k < cntE M L
          · have hx : k < (togE M L).length := by rw [HPL.out]; exact hlt
            have HD := Lib.hid (drop_cons hx)
            obtain ⟨ga, rfl, k0, k1, k2, k3⟩ := rows4_at (HR3.out.below HB.out) hlt (gapsE_len M 0 0 L)
            have HLK : Hid (lackN R ((togE M L).drop k) = (if lackE R (togE M L)[k].1 = true then 1 else 0) + lackN R ((togE M L).drop (k + 1))) := Lib.hid (by rw [HD.out]; rfl)
            have hge : (gapsE M 0 0 L)[k]'(by rw [gapsE_len]; exact hlt) = ((togE M L)[k].1.2.1, (togE M L)[k].1.2.2.1, (togE M L)[k].1.1 + 0, (togE M L)[k].2.1 - 0) := by simp only [gapsE, List.getElem_map, gapOf]
            simp only [hge] at k0 k1 k2 k3
            clear hge
            generalize (togE M L)[k] = x at *
            obtain ⟨⟨t, mm, p, l, l'⟩, ⟨yt, ym, yp, yl, yl'⟩⟩ := x
            simp only at k0 k1 k2 k3 HLK
            obtain ⟨lw, hlw⟩ : ∃ lw, lw = t + 0 := ⟨_, rfl⟩
            obtain ⟨hw, hhw⟩ : ∃ hw, hw = yt - 0 := ⟨_, rfl⟩
            rw [← hlw] at k2
            rw [← hhw] at k3
            clear hlw hhw
            have hla : lackE R (t, mm, p, l, l') = decide (idxP (isE mm p) R 0 < 0) := rfl
            rw [hla] at HLK
            clear hla
            have HWA : Hid (Below wr.heap.size wr (wr.alloc (.cells #[.int .i64 mm, .int .i64 p, .int .i64 lw, .int .i64 hw] 62))) := Lib.hid ((Below.refl _ _).alloc (Nat.le_refl _) _)
            have CF := Lib.hid (lgFind_any C o q R mm p (wr.alloc (.cells #[.int .i64 mm, .int .i64 p, .int .i64 lw, .int .i64 hw] 62)) ho (H''.out.below (HB4.out.trans ((HB.out.trans (HWA.out.mono HB.out.size)).mono HB4.out.size))))
            generalize idxP (isE mm p) R 0 = ix at *
            go_wp2_with fail
            refine (CF.out).mono ?_
            rintro e w5 ⟨rfl, hb5⟩
            have HB5 := Lib.hid (HB.out.trans ((HWA.out.trans (hb5.mono (by simp))).mono HB.out.size))
            clear k0 k1 k2 k3 hb5 CF
            by_cases hix : ix < 0
            · have HN : Hid (lackN R ((togE M L).drop k) = 1 + lackN R ((togE M L).drop (k + 1))) := Lib.hid (by rw [HLK.out]; simp [hix])
              go_wp2
              go_roundw
              case rel => exact ⟨k + 1, s + 1, by omega, by go_num, by go_num, by omega, by have h1 := HRC.out; have h2 := HN.out; omega, HB5.out⟩
              case measure => simp [intOf]; omega
            · have HN : Hid (lackN R ((togE M L).drop k) = lackN R ((togE M L).drop (k + 1))) := Lib.hid (by rw [HLK.out]; simp [hix])
              go_wp2
              go_roundw
              case rel => exact ⟨k + 1, s, by omega, by go_num, rfl, by omega, by have h1 := HRC.out; have h2 := HN.out; omega, HB5.out⟩
              case measure => simp [intOf]; omega
          · have HE := Lib.hid (drop_end (xs := togE M L) (k := k) (by rw [HPL.out]; omega))
            have hs : s = lackN R (togE M L) := by have := HRC.out; rw [HE.out] at this; simpa [lackN] using this
            have HS := Lib.hid hs
            clear hs
            go_wp2
            go_ret2
            exact ⟨by rw [HS.out]; rfl, HB4.out.trans (HB.out.mono HB4.out.size)⟩

end Go.Proofs.Ytcjmlakmigfkfaa

namespace Go.Proofs.Ytcjmlakmigfkfaa
set_option linter.unusedSimpArgs false
set_option linter.unusedVariables false
open Go.RowKit

theorem idxP_in {α : Type} {p : α → Bool} : ∀ {L : List α} {i : Int}, 0 ≤ i → (∃ x ∈ L, p x = true) → 0 ≤ idxP p L i := by
  intro L
  induction L with
  | nil => intro i _ h; obtain ⟨x, hx, _⟩ := h; cases hx
  | cons y r ih =>
    intro i hi h
    unfold idxP
    by_cases hy : p y = true
    · rw [if_pos hy]; exact hi
    · rw [if_neg hy]
      refine ih (by omega) ?_
      obtain ⟨x, hx, hp⟩ := h
      rcases List.mem_cons.1 hx with rfl | hx
      · exact absurd hp hy
      · exact ⟨x, hx, hp⟩
theorem idxP_out {α : Type} {p : α → Bool} : ∀ {L : List α} {i : Int}, 0 ≤ i → 0 ≤ idxP p L i → ∃ x ∈ L, p x = true := by
  intro L
  induction L with
  | nil => intro i _ h; unfold idxP at h; omega
  | cons y r ih =>
    intro i hi h
    unfold idxP at h
    by_cases hy : p y = true
    · exact ⟨y, by simp, hy⟩
    · rw [if_neg hy] at h
      obtain ⟨x, hx, hp⟩ := ih (by omega) h
      exact ⟨x, by simp [hx], hp⟩
theorem isE_self (x : EntryT) : isE x.2.1 x.2.2.1 x = true := by simp [isE]
theorem fill_facts (R L M : List EntryT) (a b : Int) (h : (fillR R L M a b).2 = true) :
    goodE R = true ∧ askE L M a b = true ∧ goodE (fillR R L M a b).1 = true ∧ R.length ≤ (fillR R L M a b).1.length ∧ ∀ x ∈ R ++ rebE a b (togE M L), 0 ≤ idxP (isE x.2.1 x.2.2.1) (fillR R L M a b).1 0 := by
  unfold fillR at h ⊢
  by_cases hg : (goodE R && askE L M a b) = true
  · rw [if_pos hg] at h ⊢
    have hgg := hg
    simp only [Bool.and_eq_true] at hgg
    unfold joinLR at h ⊢
    by_cases h1 : (goodE R && goodE (lostE R (rebE a b (togE M L)))) = true
    · rw [if_pos h1] at h ⊢
      by_cases h2 : goodE (joinE R (lostE R (rebE a b (togE M L)))) = true
      · rw [if_pos h2] at h ⊢
        refine ⟨hgg.1, hgg.2, h2, by rw [joinE_len]; omega, fun x hx => ?_⟩
        have inR : ∀ y, y ∈ R → y ∈ joinE R (lostE R (rebE a b (togE M L))) := fun y hy => joinE_mem.2 (.inl hy)
        rcases List.mem_append.1 hx with hx | hx
        · exact idxP_in (Int.le_refl _) ⟨x, inR x hx, isE_self x⟩
        · by_cases hl : lackE R x = true
          · exact idxP_in (Int.le_refl _) ⟨x, joinE_mem.2 (.inr (List.mem_filter.2 ⟨hx, hl⟩)), isE_self x⟩
          · unfold lackE at hl
            rw [decide_eq_true_eq] at hl
            obtain ⟨y, hy, hp⟩ := idxP_out (Int.le_refl _) (by omega : 0 ≤ idxP (isE x.2.1 x.2.2.1) R 0)
            exact idxP_in (Int.le_refl _) ⟨y, inR y hy, hp⟩
      · rw [if_neg h2] at h; cases h
    · rw [if_neg h1] at h; cases h
  · rw [if_neg hg] at h; cases h
theorem lack_self {L : List EntryT} {x : EntryT} (h : x ∈ L) : lackE L x = false := by
  unfold lackE
  rw [decide_eq_false_iff_not]
  have := idxP_in (p := isE x.2.1 x.2.2.1) (L := L) (Int.le_refl 0) ⟨x, h, isE_self x⟩
  omega
theorem lackN_none {L : List EntryT} : ∀ {P : List (EntryT × EntryT)}, (∀ p ∈ P, p.1 ∈ L) → lackN L P = 0 := by
  intro P
  induction P with
  | nil => intro _; rfl
  | cons p r ih =>
    intro h
    simp only [lackN, lack_self (h p (by simp)), ih (fun q hq => h q (by simp [hq]))]
    simp
theorem lackN_nil : ∀ P : List (EntryT × EntryT), lackN [] P = P.length := by
  intro P
  induction P with
  | nil => rfl
  | cons p r ih =>
    have : lackE [] p.1 = true := by simp [lackE, idxP]
    simp only [lackN, this, ih, List.length_cons]
    simp; omega
theorem goodE_nil : goodE [] = true := rfl
theorem lost_facts (L M R : List EntryT) (h : (lostR L M R).2 = true) :
    (goodE L && goodE M) = true ∧ lostR L M L = (0, true) ∧ lostR L M [] = (((timeR L M 0 0).1.length : Int), true) ∧ (timeR L M 0 0).2 = true ∧ (lostR L M R).1 ≤ ((timeR L M 0 0).1.length : Int) := by
  unfold lostR at h ⊢
  by_cases hg : (goodE L && (goodE M && goodE R)) = true
  · simp only [Bool.and_eq_true] at hg
    obtain ⟨h1, h2, h3⟩ := hg
    have ha : askE L M 0 0 = true := by unfold askE; rw [h1, h2]; rfl
    have ht : timeR L M 0 0 = (gapsE M 0 0 L, true) := by unfold timeR; rw [if_pos ha]
    have hl : (gapsE M 0 0 L).length = (togE M L).length := by simp [gapsE]
    rw [ht]
    simp only [h1, h2, h3, goodE_nil, Bool.and_self, if_true]
    refine ⟨trivial, ?_, ?_, trivial, ?_⟩
    · rw [lackN_none (fun p hp => (togE_mem p hp).1)]; rfl
    · rw [lackN_nil, hl]
    · rw [hl]; have := lackN_le R (togE M L); omega
  · rw [if_neg hg] at h; cases h
theorem fill_reb (R L M : List EntryT) (a b : Int) (h : askE L M a b = true) : rebR L M a b = (rebE a b (togE M L), true) := by
  unfold rebR; rw [if_pos h]
end Go.Proofs.Ytcjmlakmigfkfaa

namespace Go.Proofs.Ytcjmlakmigfkfaa
set_option linter.unusedSimpArgs false
set_option linter.unusedVariables false
open Go.RowKit

theorem sameInts_self (A B : Option Addr) (n c c' : Nat) (l : List Int) (w : World) (hn : n ≤ 1000000000) (h : Reads w 1 A n (ints l)) (h' : Reads w 1 B n (ints l)) :
    Calls Try.prog 81 #[.slice A n c, .slice B n c'] w fun e w' => e = .returned (.bool true) ∧ Quiet w w' := by
  have := sameInts_any A n c l B n c' l w hn hn h h'
  simpa [sameB] using this
set_option maxHeartbeats 1000000 in
theorem sameLists_same (A B : Option Addr) (n c c' : Nat) (L : List (List Int)) (w : World) (hn : n ≤ 1000000000) (hl : ∀ l ∈ L, l.length ≤ 1000000000) (h : Reads2 w 1 A n (rowsIntss L)) (h' : Reads2 w 1 B n (rowsIntss L)) :
    Calls Try.prog 44 #[.slice A n c, .slice B n c'] w fun e w' => e = .returned (.bool true) ∧ Below w.heap.size w w' := by
  have HX := Lib.hid (show L.length = n by have := h.len; simpa using this)
  have HL := Lib.hid hl
  have H := Lib.hid h
  have H' := Lib.hid h'
  clear h h' hl
  go_enter Try.func44, Try.ntmps44
  go_wp2
  go_loopw [13] (fun i wr => ∃ k : Nat, k ≤ n ∧ i = .int .i64 k ∧ Below w.heap.size w wr) (fun i _ => n - (intOf i).toNat)
  case atStart => exact ⟨0, Nat.zero_le _, rfl, Below.refl _ _⟩
  case round =>
    obtain ⟨k, hk, rfl, hb⟩ := hrel
    have HB := Lib.hid hb; clear hb
    by_cases hlt : k < n
    · have hx : k < L.length := by rw [HX.out]; exact hlt
      obtain ⟨ad, Ai, ci, rfl, kc, _, _, hr⟩ := (H.out.below HB.out).row (rowsIntss_get hx)
      obtain ⟨ad', Bi, di, rfl, jc, _, _, hr'⟩ := (H'.out.below HB.out).row (rowsIntss_get hx)
      have HR := Lib.hid hr; clear hr
      have HR' := Lib.hid hr'; clear hr'
      have HXL := Lib.hid (HL.out L[k] (List.getElem_mem hx))
      generalize L[k] = l at *
      simp only [length_ints] at kc jc HR HR'
      go_wp2
      go_region_with (go_at_call 81; refine (sameInts_self Ai Bi l.length ci di l _ (by have := HXL.out; omega) HR.out.drew HR'.out.drew).mono ?_; rintro e w1 ⟨rfl, hq1⟩; have HB1 := Lib.hid (below_of_quiet (B := wr.heap.size) hq1); clear hq1)
      all_goals
        go_wp2
        go_roundw
        case rel => exact ⟨k + 1, by omega, by go_num, HB.out.drew.trans (HB1.out.mono HB.out.size)⟩
        case measure => simp [intOf]; omega
    · go_wp2
      go_ret
      exact ⟨rfl, HB.out⟩
set_option maxHeartbeats 40000000 in
set_option maxRecDepth 1000000 in
theorem pSameLog_same (A B : Option Addr) (n c c' : Nat) (L : List EntryT) (w : World) (hn : n ≤ 1000000000) (hl : ∀ x ∈ L, lenE 1000000000 x) (h : Reads2 w 5 A n (rowsE L)) (h' : Reads2 w 5 B n (rowsE L)) :
    Calls Try.prog 32 #[.slice A n c, .slice B n c'] w fun e w' => e = .returned (.bool true) ∧ Below w.heap.size w w' := by
  have HX := Lib.hid (show L.length = n by have := h.len; rw [length_rowsE] at this; omega)
  have HL := Lib.hid hl
  have H := Lib.hid h
  have H' := Lib.hid h'
  clear h h' hl
  go_enter Try.func32, Try.ntmps32
  go_wp2
  go_loopw [13] (fun i wr => ∃ k : Nat, k ≤ n ∧ i = .int .i64 k ∧ Below w.heap.size w wr) (fun i _ => n - (intOf i).toNat)
  case atStart => exact ⟨0, Nat.zero_le _, rfl, Below.refl _ _⟩
  case round =>
    obtain ⟨k, hk, rfl, hb⟩ := hrel
    have HB := Lib.hid hb; clear hb
    by_cases hlt : k < n
    · have hx : k < L.length := by rw [HX.out]; exact hlt
      obtain ⟨ad, A3, c3, A4, c4, rfl, k0, k1, k2, k3, k4, r3, r4⟩ := rowsE_at (H.out.below HB.out) hx
      obtain ⟨bd, B3, d3, B4, d4, rfl, j0, j1, j2, j3, j4, s3, s4⟩ := rowsE_at (H'.out.below HB.out) hx
      have HXL := Lib.hid (HL.out L[k] (List.getElem_mem hx))
      generalize L[k] = x at *
      obtain ⟨t, m, p, l, l'⟩ := x
      simp only at k0 k1 k2 k3 k4 r3 r4 j0 j1 j2 j3 j4 s3 s4
      have hx3 : l.length ≤ 1000000000 := by have := HXL.out; unfold lenE at this; exact this.1
      have hx4 : l'.length ≤ 1000000000 := by have := HXL.out; unfold lenE at this; exact this.2
      have CS3 := fun V : InB wr => sameInts_self A3 B3 l.length c3 d3 l V.1 hx3 (r3.below V.2) (s3.below V.2)
      have CS4 := fun V : InB wr => sameInts_self A4 B4 l'.length c4 d4 l' V.1 hx4 (r4.below V.2) (s4.below V.2)
      have HC3 := Lib.hid CS3; have HC4 := Lib.hid CS4
      have a0 := fun V : InB wr => V.cell k0
      have a1 := fun V : InB wr => V.cell k1
      have a2 := fun V : InB wr => V.cell k2
      have a3 := fun V : InB wr => V.cell k3
      have a4 := fun V : InB wr => V.cell k4
      have b0 := fun V : InB wr => V.cell j0
      have b1 := fun V : InB wr => V.cell j1
      have b2 := fun V : InB wr => V.cell j2
      have b3 := fun V : InB wr => V.cell j3
      have b4 := fun V : InB wr => V.cell j4
      clear CS3 CS4 r3 r4 s3 s4 k0 k1 k2 k3 k4 j0 j1 j2 j3 j4
      have hkz : (k : Int) < (n : Int) := by omega
      have hk0 : (0 : Int) ≤ (k : Int) := by omega
      have g0 : (t != t) = false := by simp
      have g1 : (m != m) = false := by simp
      have g2 : (p != p) = false := by simp
      go_wp2
      obtain ⟨ws, hws⟩ : ∃ ws, ws = wr := ⟨_, rfl⟩
      subst hws
      simp only [List.append]
      refine wp_region_below ws (by kernel_rfl) (by kernel_rfl) (by first | assumption | exact Below.refl _ _) ?_
      repeat (go_big_quiet_step (first | (go_at_call_of 81 (Value.slice A3 l.length c3); exact bel_quiet (HC3.out _)) | (go_at_call_of 81 (Value.slice A4 l'.length c4); exact bel_quiet (HC4.out _))))
      refine wpQuiet_nil ?_
      intro wb hw'
      obtain ⟨⟨wb', hB⟩, hwb⟩ := hw'
      simp only at hwb
      subst hwb
      try simp only at hB ⊢
      all_goals
        clear a0 a1 a2 a3 a4 b0 b1 b2 b3 b4
        have HB2 := Lib.hid (HB.out.trans (hB.mono HB.out.size))
        clear hB
        go_wp2
        go_roundw
        case rel => exact ⟨k + 1, by omega, by go_num, HB2.out⟩
        case measure => simp [intOf]; omega
    · go_wp2
      go_ret
      exact ⟨rfl, HB.out⟩
set_option maxHeartbeats 2000000 in
set_option maxRecDepth 100000 in
theorem pSameGaps_same (A B : Option Addr) (n c c' : Nat) (L : List G4T) (w : World) (hn : n ≤ 1000000000) (h : Reads w 4 A n (rows4 L)) (h' : Reads w 4 B n (rows4 L)) :
    Calls Try.prog 38 #[.slice A n c, .slice B n c'] w fun e w' => e = .returned (.bool true) ∧ Below w.heap.size w w' := by
  have HX := Lib.hid (show L.length = n by have := h.1; rw [length_rows4] at this; omega)
  have H := Lib.hid h
  have H' := Lib.hid h'
  clear h h'
  go_enter Try.func38, Try.ntmps38
  go_wp2
  go_loopw [13] (fun i wr => ∃ k : Nat, k ≤ n ∧ i = .int .i64 k ∧ Below w.heap.size w wr) (fun i _ => n - (intOf i).toNat)
  case atStart => exact ⟨0, Nat.zero_le _, rfl, Below.refl _ _⟩
  case round =>
    obtain ⟨k, hk, rfl, hb⟩ := hrel
    have HB := Lib.hid hb; clear hb
    by_cases hlt : k < n
    · have hx : k < L.length := by rw [HX.out]; exact hlt
      obtain ⟨ad, rfl, k0, k1, k2, k3⟩ := rows4_at (H.out.below HB.out) hlt HX.out
      obtain ⟨bd, rfl, j0, j1, j2, j3⟩ := rows4_at (H'.out.below HB.out) hlt HX.out
      generalize L[k] = x at *
      obtain ⟨xa, xb, xc, xd⟩ := x
      simp only at k0 k1 k2 k3 j0 j1 j2 j3
      have hkz : (k : Int) < (n : Int) := by omega
      have hk0 : (0 : Int) ≤ (k : Int) := by omega
      go_wp2
      go_quiet (fail)
      obtain ⟨wq, hwq⟩ : ∃ wq, wq = wr.drewN nq := ⟨_, rfl⟩
      have HB2 : Hid (Below w.heap.size w wq) := Lib.hid (by rw [hwq]; exact below_toN HB.out nq)
      rw [← hwq]
      clear hwq k0 k1 k2 k3 j0 j1 j2 j3
      go_wp2
      go_roundw
      case rel => exact ⟨k + 1, by omega, by go_num, HB2.out⟩
      case measure => simp [intOf]; omega
    · go_wp2
      go_ret
      exact ⟨rfl, HB.out⟩
end Go.Proofs.Ytcjmlakmigfkfaa

namespace Go.Proofs.Ytcjmlakmigfkfaa
set_option linter.unusedSimpArgs false
set_option linter.unusedVariables false
open Go.RowKit

def fit1 (T : List EntryT) (a b : Int) (p : EntryT × EntryT) : Bool :=
  if findE T p.1 < 0 then false else inB (T.getD (findE T p.1).toNat zE).1 (p.1.1 + a) (p.2.1 - b) && (sameB (T.getD (findE T p.1).toNat zE).2.2.2.1 p.1.2.2.2.2 && sameB (T.getD (findE T p.1).toNat zE).2.2.2.2 p.2.2.2.2.1)
def fitA (T : List EntryT) (a b : Int) : List (EntryT × EntryT) → Bool
  | [] => true
  | p :: r => fit1 T a b p && fitA T a b r
def fitsR (T L M : List EntryT) (a b : Int) : Bool × Bool := if (goodE T && askE L M a b) = true then ((fitA T a b (togE M L) && decide ((togE M L).length = T.length)), true) else (false, false)

set_option maxHeartbeats 8000000 in
set_option maxRecDepth 1000000 in
theorem implFitsBetween_any (A0 : Option Addr) (n0 c0 : Nat) (T : List EntryT) (A : Option Addr) (n c : Nat) (L : List EntryT) (B : Option Addr) (m d : Nat) (M : List EntryT) (a b : Int) (w : World) (hn0 : n0 ≤ 1000000000) (hl0 : ∀ x ∈ T, lenE 1000000000 x) (h0 : Reads2 w 5 A0 n0 (rowsE T)) (hc0 : n0 ≤ c0) (hn : n ≤ 1000000000) (hl : ∀ x ∈ L, lenE 1000000000 x) (h : Reads2 w 5 A n (rowsE L)) (hc : n ≤ c) (hm : m ≤ 1000000000) (hl' : ∀ x ∈ M, lenE 1000000000 x) (h' : Reads2 w 5 B m (rowsE M)) (hd : m ≤ d) (hgT : goodE T = true) (hgA : askE L M a b = true) :
    Calls Try.prog 40 #[.slice A0 n0 c0, .slice A n c, .slice B m d, .int .i64 a, .int .i64 b] w fun e w' => e = .returned (.tuple #[.bool (fitA T a b (togE M L) && decide ((togE M L).length = T.length)), .bool true]) ∧ Below w.heap.size w w' := by
  have c1 := fun W (hW : Below w.heap.size w W) => isLog_any A0 n0 c0 T W hn0 hc0 hl0 (h0.below hW)
  have c2 := fun W (hW : Below w.heap.size w W) => gapAsked_any A n c L B m d M a b W hn hl (h.below hW) hc hd hm hl' (h'.below hW)
  simp only [hgT] at c1
  simp only [hgA] at c2
  have C1 := Lib.hid c1
  have C2 := Lib.hid c2
  obtain ⟨hgL, hgM, hab, hbb⟩ := askE_true hgA
  have gL := goodE_all hgL
  have gM := goodE_all hgM
  have gT := goodE_all hgT
  have HX : L.length = n := by have := h.len; rw [length_rowsE] at this; omega
  have HY : M.length = m := by have := h'.len; rw [length_rowsE] at this; omega
  have HZ := Lib.hid (show T.length = n0 by have := h0.len; rw [length_rowsE] at this; omega)
  have hn30 : n ≤ 30 := by rw [← HX]; exact gL.2
  have hm30 : m ≤ 30 := by rw [← HY]; exact gM.2
  have ht30 : n0 ≤ 30 := by rw [← HZ.out]; exact gT.2
  have HLT := Lib.hid (fun x (hx : x ∈ T) => entB_len (gT.1 x hx))
  have HTT : Hid (∀ p ∈ togE M L, ((0 ≤ p.1.1 ∧ p.1.1 ≤ 10000) ∧ 0 ≤ p.2.1 ∧ p.2.1 ≤ 10000) ∧ p.1.2.2.2.2.length ≤ 8 ∧ p.2.2.2.2.1.length ≤ 8) := Lib.hid (fun p hp => by
    have hm := togE_mem p hp
    have e1 := entB_len (gL.1 _ hm.1)
    have e2 := entB_len (gM.1 _ hm.2)
    exact ⟨⟨entB_time (gL.1 _ hm.1), entB_time (gM.1 _ hm.2)⟩, by omega, by omega⟩)
  have H := Lib.hid h
  have H' := Lib.hid h'
  have H0 := Lib.hid h0
  have CT := Lib.hid (fun W (hW : Below w.heap.size w W) => together_any A n c L B m d M W (by omega) (by omega) (H.out.below hW) (H'.out.below hW))
  have hN : cntE M L ≤ 30 := by have := togE_len M L; have := gL.2; unfold cntE; omega
  have HPL : Hid ((togE M L).length = cntE M L) := Lib.hid rfl
  clear c1 c2 h h' h0 hl hl' hl0 hgT hgA hgL hgM gL gM gT HX HY
  go_enter Try.func40, Try.ntmps40
  go_wp2_with fail
  refine (C1.out _ (Below.refl _ _)).mono ?_
  rintro e w1 ⟨rfl, hb⟩
  have HB1 := Lib.hid hb
  clear hb
  go_wp2_with fail
  refine (C2.out _ HB1.out).mono ?_
  rintro e w2 ⟨rfl, hb⟩
  have HB2 := Lib.hid (HB1.out.trans (hb.mono HB1.out.size))
  clear hb C1 C2 HB1
  go_wp2_with fail
  refine (CT.out _ HB2.out).mono ?_
  rintro e w4 ⟨P1, p1, rfl, hr3, hb⟩
  have HR3 := Lib.hid hr3
  have HB4 := Lib.hid (HB2.out.trans (hb.mono HB2.out.size))
  clear hr3 hb CT
  go_wp2
  go_loopw [12, 33] (fun nv kv wr => ∃ k : Nat, k ≤ cntE M L ∧ kv = .int .i64 k ∧ nv = .int .i64 k ∧ (fitA T a b ((togE M L).drop k) && decide ((togE M L).length = T.length)) = (fitA T a b (togE M L) && decide ((togE M L).length = T.length)) ∧ Below w4.heap.size w4 wr) (fun _ kv _ => cntE M L - (intOf kv).toNat)
  case atStart => exact ⟨0, Nat.zero_le _, rfl, rfl, rfl, Below.refl _ _⟩
  case round =>
    obtain ⟨k, hk, rfl, rfl, hrc, hb⟩ := hrel
    have HRC := Lib.hid hrc; have HB := Lib.hid hb
    clear hrc hb
    by_cases hlt : k < cntE M L
    · have hx : k < (togE M L).length := by rw [HPL.out]; exact hlt
      have HD := Lib.hid (drop_cons hx)
      obtain ⟨ad, A3, c3, A4, c4, B3, d3, B4, d4, rfl, ⟨k0, k1, k2, k3, k4, k5, k6, k7, k8, k9⟩, _, hra, hrb, _⟩ := rowsP_at (HR3.out.below HB.out) hx
      have htt := HTT.out (togE M L)[k] (List.getElem_mem hx)
      have HLK : Hid (fitA T a b ((togE M L).drop k) = (fit1 T a b (togE M L)[k] && fitA T a b ((togE M L).drop (k + 1)))) := Lib.hid (by rw [HD.out]; rfl)
      have hfc := findE_cases T (togE M L)[k].1
      generalize (togE M L)[k] = x at *
      obtain ⟨⟨t, mm, p, l, l'⟩, ⟨yt, ym, yp, yl, yl'⟩⟩ := x
      simp only at k0 k1 k2 k3 k4 k5 k6 k7 k8 k9 hra hrb htt
      have HWA : Hid (Below wr.heap.size wr (wr.alloc (.cells #[.int .i64 t, .int .i64 mm, .int .i64 p, .slice A3 l.length c3, .slice A4 l'.length c4, .int .i64 yt, .int .i64 ym, .int .i64 yp, .slice B3 yl.length d3, .slice B4 yl'.length d4] 85))) := Lib.hid ((Below.refl _ _).alloc (Nat.le_refl _) _)
      have CF := entryIndex_any A0 n0 c0 T mm p (wr.alloc (.cells #[.int .i64 t, .int .i64 mm, .int .i64 p, .slice A3 l.length c3, .slice A4 l'.length c4, .int .i64 yt, .int .i64 ym, .int .i64 yp, .slice B3 yl.length d3, .slice B4 yl'.length d4] 85)) hn0 (H0.out.below (HB4.out.trans ((HB.out.trans (HWA.out.mono HB.out.size)).mono HB4.out.size)))
      have hfe : idxP (isE mm p) T 0 = findE T (t, mm, p, l, l') := rfl
      rw [hfe] at CF
      have HFI : Hid (fit1 T a b ((t, mm, p, l, l'), (yt, ym, yp, yl, yl')) = if findE T (t, mm, p, l, l') < 0 then false else inB (T.getD (findE T (t, mm, p, l, l')).toNat zE).1 (t + a) (yt - b) && (sameB (T.getD (findE T (t, mm, p, l, l')).toNat zE).2.2.2.1 l' && sameB (T.getD (findE T (t, mm, p, l, l')).toNat zE).2.2.2.2 yl)) := Lib.hid rfl
      have HCF := Lib.hid CF
      clear CF hfe
      generalize findE T (t, mm, p, l, l') = ix at *
      go_wp2_with fail
      refine (HCF.out).mono ?_
      rintro e ws ⟨rfl, hb5⟩
      have HBX := Lib.hid (box_after hb5 (by simp) (heap_alloc_new wr (.cells #[.int .i64 t, .int .i64 mm, .int .i64 p, .slice A3 l.length c3, .slice A4 l'.length c4, .int .i64 yt, .int .i64 ym, .int .i64 yp, .slice B3 yl.length d3, .slice B4 yl'.length d4] 85)))
      have HWS := Lib.hid (HWA.out.trans (hb5.mono (by simp)))
      clear k0 k1 k2 k3 k4 k5 k6 k7 k8 k9 hb5 HCF
      rcases hfc with hix | ⟨j, hix, hj⟩
      · subst hix
        have HFA : Hid ((fitA T a b (togE M L) && decide ((togE M L).length = T.length)) = false) := Lib.hid (by rw [← HRC.out, HLK.out, HFI.out]; simp)
        have g0 : decide ((-1 : Int) < 0) = true := rfl
        go_wp2
        try simp only [List.append]
        refine wp_region_below ws (by kernel_rfl) (by kernel_rfl) (by first | assumption | exact Below.refl _ _) ?_
        repeat (go_big_quiet_step (first | (go_at_call 83; exact bel_same (HBX.out _)) | (go_at_call_of 65 (Value.slice E3 el.length e3); exact bel_quiet (HBX.out _)) | (go_at_call_of 65 (Value.slice E4 el'.length e4); exact bel_quiet (HBX.out _))))
        refine wpQuiet_nil ?_
        intro wb hw'
        obtain ⟨⟨wb', hB⟩, hwb⟩ := hw'
        simp only at hwb
        subst hwb
        try simp only at hB ⊢
        all_goals
          have HBF := Lib.hid (HB4.out.trans ((HB.out.trans ((HWS.out.trans (hB.mono HWS.out.size)).mono HB.out.size)).mono HB4.out.size))
          clear hB
          go_wp2
          go_ret2
          exact ⟨by first | (rw [HFA.out]; done) | (rw [HFA.out]; rfl) | (simp [HFA.out]; done), HBF.out⟩
      · subst hix
        have HBW := Lib.hid (HB4.out.trans ((HB.out.trans (HWS.out.mono HB.out.size)).mono HB4.out.size))
        obtain ⟨td, E3, e3, E4, e4, rfl, s0, _, _, s3, s4, tr3, tr4⟩ := rowsE_at (H0.out.below HBW.out) hj
        have htl := HLT.out T[j] (List.getElem_mem hj)
        have hjn : (j : Int) < (n0 : Int) := by have := HZ.out; omega
        have hgd : T.getD ((j : Int)).toNat zE = T[j] := by rw [Int.toNat_natCast, List.getD_eq_getElem?_getD, List.getElem?_eq_getElem hj]; rfl
        rw [hgd, if_neg (by omega)] at HFI
        clear hgd
        generalize T[j] = y at *
        obtain ⟨et, em, ep, el, el'⟩ := y
        simp only at s0 s3 s4 tr3 tr4 htl HFI
        have CW := fun V : InB ws => within_any et (t + a) (yt - b) V.1
        have C3 := fun V : InB ws => slicesEqual_any E3 el.length e3 el A4 l'.length c4 l' V.1 (by omega) (by omega) (tr3.below V.2) ((hra.below HWS.out).below V.2)
        have C4 := fun V : InB ws => slicesEqual_any E4 el'.length e4 el' B3 yl.length d3 yl V.1 (by omega) (by omega) (tr4.below V.2) ((hrb.below HWS.out).below V.2)
        obtain ⟨b1, hb1⟩ : ∃ b1, b1 = inB et (t + a) (yt - b) := ⟨_, rfl⟩
        obtain ⟨b2, hb2⟩ : ∃ b2, b2 = sameB el l' := ⟨_, rfl⟩
        obtain ⟨b3, hb3⟩ : ∃ b3, b3 = sameB el' yl := ⟨_, rfl⟩
        rw [← hb1] at CW
        simp only [← hb2] at C3
        simp only [← hb3] at C4
        rw [← hb1, ← hb2, ← hb3] at HFI
        have HCW := Lib.hid CW; have HC3 := Lib.hid C3; have HC4 := Lib.hid C4
        clear CW C3 C4 hb1 hb2 hb3 tr3 tr4 hra hrb htl
        have x0 := (box_at HBX.out (j := 0) rfl).1
        have x4 := (box_at HBX.out (j := 4) rfl).1
        have x5 := (box_at HBX.out (j := 5) rfl).1
        have x8 := (box_at HBX.out (j := 8) rfl).1
        have v0 := fun V : InB ws => V.cell s0
        have v3 := fun V : InB ws => V.cell s3
        have v4 := fun V : InB ws => V.cell s4
        have u0 := fun V : InB ws => V.cell x0
        have u4 := fun V : InB ws => V.cell x4
        have u5 := fun V : InB ws => V.cell x5
        have u8 := fun V : InB ws => V.cell x8
        clear s0 s3 s4 x0 x4 x5 x8
        have g0 : decide ((j : Int) < 0) = false := decide_eq_false (by omega)
        have g1 : IntKind.i64.wrap (t + a) = t + a := IntWalk.i64_in _ (by omega)
        have g2 : IntKind.i64.wrap (yt - b) = yt - b := IntWalk.i64_in _ (by omega)
        have hj0 : (0 : Int) ≤ (j : Int) := by omega
        cases b1 with
        | false =>
          go_wp2
          try simp only [List.append]
          refine wp_region_below ws (by kernel_rfl) (by kernel_rfl) (by first | assumption | exact Below.refl _ _) ?_
          repeat (go_big_quiet_step (first | (go_at_call 83; exact bel_same (HCW.out _)) | (go_at_call_of 65 (Value.slice E3 el.length e3); exact bel_quiet (HC3.out _)) | (go_at_call_of 65 (Value.slice E4 el'.length e4); exact bel_quiet (HC4.out _))))
          refine wpQuiet_nil ?_
          intro wb hw'
          obtain ⟨⟨wb', hB⟩, hwb⟩ := hw'
          simp only at hwb
          subst hwb
          try simp only at hB ⊢
          all_goals
            clear v0 v3 v4 u0 u4 u5 u8 g0 g1 g2
            have HFA : Hid ((fitA T a b (togE M L) && decide ((togE M L).length = T.length)) = false) := Lib.hid (by rw [← HRC.out, HLK.out, HFI.out]; simp)
            have HBF := Lib.hid (HB4.out.trans ((HB.out.trans ((HWS.out.trans (hB.mono HWS.out.size)).mono HB.out.size)).mono HB4.out.size))
            clear hB
            go_wp2
            go_ret2
            exact ⟨by first | (rw [HFA.out]; done) | (rw [HFA.out]; rfl) | (simp [HFA.out]; done), HBF.out⟩
        | true =>
          cases b2 with
          | false =>
            go_wp2
            try simp only [List.append]
            refine wp_region_below ws (by kernel_rfl) (by kernel_rfl) (by first | assumption | exact Below.refl _ _) ?_
            repeat (go_big_quiet_step (first | (go_at_call 83; exact bel_same (HCW.out _)) | (go_at_call_of 65 (Value.slice E3 el.length e3); exact bel_quiet (HC3.out _)) | (go_at_call_of 65 (Value.slice E4 el'.length e4); exact bel_quiet (HC4.out _))))
            refine wpQuiet_nil ?_
            intro wb hw'
            obtain ⟨⟨wb', hB⟩, hwb⟩ := hw'
            simp only at hwb
            subst hwb
            try simp only at hB ⊢
            all_goals
              clear v0 v3 v4 u0 u4 u5 u8 g0 g1 g2
              have HFA : Hid ((fitA T a b (togE M L) && decide ((togE M L).length = T.length)) = false) := Lib.hid (by rw [← HRC.out, HLK.out, HFI.out]; simp)
              have HBF := Lib.hid (HB4.out.trans ((HB.out.trans ((HWS.out.trans (hB.mono HWS.out.size)).mono HB.out.size)).mono HB4.out.size))
              clear hB
              go_wp2
              go_ret2
              exact ⟨by first | (rw [HFA.out]; done) | (rw [HFA.out]; rfl) | (simp [HFA.out]; done), HBF.out⟩
          | true =>
            cases b3 with
            | false =>
              go_wp2
              try simp only [List.append]
              refine wp_region_below ws (by kernel_rfl) (by kernel_rfl) (by first | assumption | exact Below.refl _ _) ?_
              repeat (go_big_quiet_step (first | (go_at_call 83; exact bel_same (HCW.out _)) | (go_at_call_of 65 (Value.slice E3 el.length e3); exact bel_quiet (HC3.out _)) | (go_at_call_of 65 (Value.slice E4 el'.length e4); exact bel_quiet (HC4.out _))))
              refine wpQuiet_nil ?_
              intro wb hw'
              obtain ⟨⟨wb', hB⟩, hwb⟩ := hw'
              simp only at hwb
              subst hwb
              try simp only at hB ⊢
              all_goals
                clear v0 v3 v4 u0 u4 u5 u8 g0 g1 g2
                have HFA : Hid ((fitA T a b (togE M L) && decide ((togE M L).length = T.length)) = false) := Lib.hid (by rw [← HRC.out, HLK.out, HFI.out]; simp)
                have HBF := Lib.hid (HB4.out.trans ((HB.out.trans ((HWS.out.trans (hB.mono HWS.out.size)).mono HB.out.size)).mono HB4.out.size))
                clear hB
                go_wp2
                go_ret2
                exact ⟨by first | (rw [HFA.out]; done) | (rw [HFA.out]; rfl) | (simp [HFA.out]; done), HBF.out⟩
            | true =>
              go_wp2
              try simp only [List.append]
              refine wp_region_below ws (by kernel_rfl) (by kernel_rfl) (by first | assumption | exact Below.refl _ _) ?_
              repeat (go_big_quiet_step (first | (go_at_call 83; exact bel_same (HCW.out _)) | (go_at_call_of 65 (Value.slice E3 el.length e3); exact bel_quiet (HC3.out _)) | (go_at_call_of 65 (Value.slice E4 el'.length e4); exact bel_quiet (HC4.out _))))
              refine wpQuiet_nil ?_
              intro wb hw'
              obtain ⟨⟨wb', hB⟩, hwb⟩ := hw'
              simp only at hwb
              subst hwb
              try simp only at hB ⊢
              all_goals
                clear v0 v3 v4 u0 u4 u5 u8 g0 g1 g2
                have HB5 := Lib.hid (HB.out.trans ((HWS.out.trans (hB.mono HWS.out.size)).mono HB.out.size))
                clear hB
                go_wp2
                go_roundw
                case rel => exact ⟨k + 1, by omega, by go_num, by go_num, by rw [← HRC.out, HLK.out, HFI.out]; simp, HB5.out⟩
                case measure => simp [intOf]; omega
    · have HE := Lib.hid (drop_end (xs := togE M L) (k := k) (by rw [HPL.out]; omega))
      have hkN : k = cntE M L := by omega
      have hfa := HRC.out
      rw [HE.out] at hfa
      have HFA : Hid ((fitA T a b (togE M L) && decide ((togE M L).length = T.length)) = decide (k = n0)) := Lib.hid (by
        rw [← hfa, HPL.out, HZ.out, hkN]
        rfl)
      have HBF := Lib.hid (HB4.out.trans (HB.out.mono HB4.out.size))
      clear hfa hkN
      by_cases hkn : k = n0
      · have hke : ((k : Int) == (n0 : Int)) = true := by rw [beq_iff_eq]; omega
        have HF2 : Hid ((fitA T a b (togE M L) && decide ((togE M L).length = T.length)) = true) := Lib.hid (by rw [HFA.out]; simp [hkn])
        clear hkn
        go_wp2
        go_ret2
        exact ⟨by first | (rw [HF2.out]; done) | (rw [HF2.out]; rfl) | (simp [HF2.out]; done), HBF.out⟩
      · have hke : ((k : Int) == (n0 : Int)) = false := by rw [beq_eq_false_iff_ne]; omega
        have HF2 : Hid ((fitA T a b (togE M L) && decide ((togE M L).length = T.length)) = false) := Lib.hid (by rw [HFA.out]; simp [hkn])
        clear hkn
        go_wp2
        go_ret2
        exact ⟨by first | (rw [HF2.out]; done) | (rw [HF2.out]; rfl) | (simp [HF2.out]; done), HBF.out⟩

end Go.Proofs.Ytcjmlakmigfkfaa

namespace Go.Proofs.Ytcjmlakmigfkfaa
set_option linter.unusedSimpArgs false
set_option linter.unusedVariables false
open Go.RowKit

theorem implFits_any (A0 : Option Addr) (n0 c0 : Nat) (T : List EntryT) (A : Option Addr) (n c : Nat) (L : List EntryT) (B : Option Addr) (m d : Nat) (M : List EntryT) (a b : Int) (w : World) (hn0 : n0 ≤ 1000000000) (hl0 : ∀ x ∈ T, lenE 1000000000 x) (h0 : Reads2 w 5 A0 n0 (rowsE T)) (hc0 : n0 ≤ c0) (hn : n ≤ 1000000000) (hl : ∀ x ∈ L, lenE 1000000000 x) (h : Reads2 w 5 A n (rowsE L)) (hc : n ≤ c) (hm : m ≤ 1000000000) (hl' : ∀ x ∈ M, lenE 1000000000 x) (h' : Reads2 w 5 B m (rowsE M)) (hd : m ≤ d) :
    Calls Try.prog 40 #[.slice A0 n0 c0, .slice A n c, .slice B m d, .int .i64 a, .int .i64 b] w fun e w' => e = .returned (.tuple #[.bool (fitsR T L M a b).1, .bool (fitsR T L M a b).2]) ∧ Below w.heap.size w w' := by
  have c1 := fun W (hW : Below w.heap.size w W) => isLog_any A0 n0 c0 T W hn0 hc0 hl0 (h0.below hW)
  have c2 := fun W (hW : Below w.heap.size w W) => gapAsked_any A n c L B m d M a b W hn hl (h.below hW) hc hd hm hl' (h'.below hW)
  cases hgT : goodE T with
  | false =>
    have hr : fitsR T L M a b = (false, false) := by simp [fitsR, hgT]
    rw [hr]
    simp only [hgT] at c1
    have C1 := Lib.hid c1
    clear c1 c2 hr h h' h0 hl hl' hl0 hgT
    go_enter Try.func40, Try.ntmps40
    go_wp2_with fail
    refine (C1.out _ (Below.refl _ _)).mono ?_
    rintro e w1 ⟨rfl, hb⟩
    have HB1 := Lib.hid hb
    clear hb
    go_wp2
    go_ret2
    exact ⟨rfl, HB1.out⟩
  | true =>
    cases hgA : askE L M a b with
    | false =>
      have hr : fitsR T L M a b = (false, false) := by simp [fitsR, hgA]
      rw [hr]
      simp only [hgT] at c1
      simp only [hgA] at c2
      have C1 := Lib.hid c1
      have C2 := Lib.hid c2
      clear c1 c2 hr h h' h0 hl hl' hl0 hgT hgA
      go_enter Try.func40, Try.ntmps40
      go_wp2_with fail
      refine (C1.out _ (Below.refl _ _)).mono ?_
      rintro e w1 ⟨rfl, hb⟩
      have HB1 := Lib.hid hb
      clear hb
      go_wp2_with fail
      refine (C2.out _ HB1.out).mono ?_
      rintro e w2 ⟨rfl, hb⟩
      have HB2 := Lib.hid (HB1.out.trans (hb.mono HB1.out.size))
      clear hb
      go_wp2
      go_ret2
      exact ⟨rfl, HB2.out⟩
    | true =>
      have hr : fitsR T L M a b = ((fitA T a b (togE M L) && decide ((togE M L).length = T.length)), true) := by simp [fitsR, hgA, hgT]
      rw [hr]
      exact implFitsBetween_any A0 n0 c0 T A n c L B m d M a b w hn0 hl0 h0 hc0 hn hl h hc hm hl' h' hd hgT hgA
end Go.Proofs.Ytcjmlakmigfkfaa
