/- LostCount of both packages. No conditions. -/
import Derived.Test.YtcjmlakmigfkfaaOnly
namespace Go.Proofs.Ytcjmlakmigfkfaa
set_option linter.unusedSimpArgs false
set_option linter.unusedVariables false
open Go.RowKit

/-- How many pairs a rest lacks. -/
def lackN (R : List EntryT) : List (EntryT × EntryT) → Nat
  | [] => 0
  | p :: r => (if lackE R p.1 = true then 1 else 0) + lackN R r
def lostR (L M R : List EntryT) : Int × Bool := if (goodE L && (goodE M && goodE R)) = true then ((lackN R (togE M L) : Int), true) else (0, false)
theorem lackN_le (R : List EntryT) : ∀ P, lackN R P ≤ P.length := by
  intro P
  induction P with
  | nil => exact Nat.le_refl _
  | cons p r ih =>
    simp only [lackN, List.length_cons]
    split <;> omega

set_option maxHeartbeats 4000000 in
set_option maxRecDepth 100000 in
theorem implLostCount_any (A : Option Addr) (n c : Nat) (L : List EntryT) (B : Option Addr) (m d : Nat) (M : List EntryT) (C : Option Addr) (o q : Nat) (R : List EntryT) (w : World) (hn : n ≤ 1000000000) (hl : ∀ x ∈ L, lenE 1000000000 x) (h : Reads2 w 5 A n (rowsE L)) (hc : n ≤ c) (hm : m ≤ 1000000000) (hl' : ∀ x ∈ M, lenE 1000000000 x) (h' : Reads2 w 5 B m (rowsE M)) (hd : m ≤ d) (ho : o ≤ 1000000000) (hl'' : ∀ x ∈ R, lenE 1000000000 x) (h'' : Reads2 w 5 C o (rowsE R)) (hq : o ≤ q) :
    Calls Try.prog 36 #[.slice A n c, .slice B m d, .slice C o q] w fun e w' => e = .returned (.tuple #[.int .i64 (lostR L M R).1, .bool (lostR L M R).2]) ∧ Below w.heap.size w w' := by
  have c1 := fun W (hW : Below w.heap.size w W) => isLog_any A n c L W hn hc hl (h.below hW)
  have c2 := fun W (hW : Below w.heap.size w W) => isLog_any B m d M W hm hd hl' (h'.below hW)
  have c3 := fun W (hW : Below w.heap.size w W) => isLog_any C o q R W ho hq hl'' (h''.below hW)
  cases g1 : goodE L with
  | false =>
    have hr : lostR L M R = (0, false) := by simp [lostR, g1]
    rw [hr]
    simp only [g1] at c1
    have C1 := Lib.hid c1
    clear c1 c2 c3 hr h h' h'' hl hl' hl'' g1
    go_enter Try.func36, Try.ntmps36
    go_wp2_with fail
    refine (C1.out _ (Below.refl _ _)).mono ?_
    rintro e w1 ⟨rfl, hb⟩
    have HB1 := Lib.hid (hb)
    clear hb
    go_wp2
    go_ret2
    exact ⟨rfl, HB1.out⟩
  | true =>
    cases g2 : goodE M with
    | false =>
      have hr : lostR L M R = (0, false) := by simp [lostR, g2]
      rw [hr]
      simp only [g1] at c1
      simp only [g2] at c2
      have C1 := Lib.hid c1
      have C2 := Lib.hid c2
      clear c1 c2 c3 hr h h' h'' hl hl' hl'' g1 g2
      go_enter Try.func36, Try.ntmps36
      go_wp2_with fail
      refine (C1.out _ (Below.refl _ _)).mono ?_
      rintro e w1 ⟨rfl, hb⟩
      have HB1 := Lib.hid (hb)
      clear hb
      go_wp2_with fail
      refine (C2.out _ HB1.out).mono ?_
      rintro e w2 ⟨rfl, hb⟩
      have HB2 := Lib.hid (HB1.out.trans (hb.mono HB1.out.size))
      clear hb
      go_wp2
      go_ret2
      exact ⟨rfl, HB2.out⟩
    | true =>
      cases g3 : goodE R with
      | false =>
        have hr : lostR L M R = (0, false) := by simp [lostR, g3]
        rw [hr]
        simp only [g1] at c1
        simp only [g2] at c2
        simp only [g3] at c3
        have C1 := Lib.hid c1
        have C2 := Lib.hid c2
        have C3 := Lib.hid c3
        clear c1 c2 c3 hr h h' h'' hl hl' hl'' g1 g2 g3
        go_enter Try.func36, Try.ntmps36
        go_wp2_with fail
        refine (C1.out _ (Below.refl _ _)).mono ?_
        rintro e w1 ⟨rfl, hb⟩
        have HB1 := Lib.hid (hb)
        clear hb
        go_wp2_with fail
        refine (C2.out _ HB1.out).mono ?_
        rintro e w2 ⟨rfl, hb⟩
        have HB2 := Lib.hid (HB1.out.trans (hb.mono HB1.out.size))
        clear hb
        go_wp2_with fail
        refine (C3.out _ HB2.out).mono ?_
        rintro e w3 ⟨rfl, hb⟩
        have HB3 := Lib.hid (HB2.out.trans (hb.mono HB2.out.size))
        clear hb
        go_wp2
        go_ret2
        exact ⟨rfl, HB3.out⟩
      | true =>
        have hr : lostR L M R = ((lackN R (togE M L) : Int), true) := by simp [lostR, g1, g2, g3]
        rw [hr]
        have gL := goodE_all g1
        have gM := goodE_all g2
        have HX : L.length = n := by have := h.len; rw [length_rowsE] at this; omega
        have HY : M.length = m := by have := h'.len; rw [length_rowsE] at this; omega
        have hn30 : n ≤ 30 := by rw [← HX]; exact gL.2
        have hm30 : m ≤ 30 := by rw [← HY]; exact gM.2
        have HLE := Lib.hid gL.1
        have HME := Lib.hid gM.1
        simp only [g1] at c1
        simp only [g2] at c2
        simp only [g3] at c3
        have C1 := Lib.hid c1
        have C2 := Lib.hid c2
        have C3 := Lib.hid c3
        have H := Lib.hid h
        have H' := Lib.hid h'
        have H'' := Lib.hid h''
        have CT := Lib.hid (fun W (hW : Below w.heap.size w W) => together_any A n c L B m d M W (by omega) (by omega) (H.out.below hW) (H'.out.below hW))
        have hN : cntE M L ≤ 30 := by have := togE_len M L; have := gL.2; unfold cntE; omega
        have HPL : Hid ((togE M L).length = cntE M L) := Lib.hid rfl
        clear c1 c2 c3 hr h h' h'' hl hl' hl'' g1 g2 g3 gL gM HX HY
        go_enter Try.func36, Try.ntmps36
        go_wp2_with fail
        refine (C1.out _ (Below.refl _ _)).mono ?_
        rintro e w1 ⟨rfl, hb⟩
        have HB1 := Lib.hid (hb)
        clear hb
        go_wp2_with fail
        refine (C2.out _ HB1.out).mono ?_
        rintro e w2 ⟨rfl, hb⟩
        have HB2 := Lib.hid (HB1.out.trans (hb.mono HB1.out.size))
        clear hb
        go_wp2_with fail
        refine (C3.out _ HB2.out).mono ?_
        rintro e w3 ⟨rfl, hb⟩
        have HB3 := Lib.hid (HB2.out.trans (hb.mono HB2.out.size))
        clear hb
        clear C1 C2 C3 HB1 HB2
        go_wp2_with fail
        refine (CT.out _ HB3.out).mono ?_
        rintro e w4 ⟨P1, p1, rfl, hr3, hb⟩
        have HR3 := Lib.hid hr3
        have HB4 := Lib.hid (HB3.out.trans (hb.mono HB3.out.size))
        clear hr3 hb CT
        go_wp2
        go_loopw [8, 28] (fun nv kv wr => ∃ k s : Nat, k ≤ cntE M L ∧ kv = .int .i64 k ∧ nv = .int .i64 s ∧ s ≤ k ∧ s + lackN R ((togE M L).drop k) = lackN R (togE M L) ∧ Below w4.heap.size w4 wr) (fun _ kv _ => cntE M L - (intOf kv).toNat)
        case atStart => exact ⟨0, 0, Nat.zero_le _, rfl, rfl, Nat.le_refl _, by simp, Below.refl _ _⟩
        case round =>
          obtain ⟨k, s, hk, rfl, rfl, hsk, hrc, hb⟩ := hrel
          have HRC := Lib.hid hrc; have HB := Lib.hid hb
          clear hrc hb
          by_cases hlt : k < cntE M L
          · have hx : k < (togE M L).length := by rw [HPL.out]; exact hlt
            have HD := Lib.hid (drop_cons hx)
            obtain ⟨ad, A3, c3, A4, c4, B3, d3, B4, d4, rfl, ⟨k0, k1, k2, k3, k4, k5, k6, k7, k8, k9⟩, _, _, _, _⟩ := rowsP_at (HR3.out.below HB.out) hx
            have HLK : Hid (lackN R ((togE M L).drop k) = (if lackE R (togE M L)[k].1 = true then 1 else 0) + lackN R ((togE M L).drop (k + 1))) := Lib.hid (by rw [HD.out]; rfl)
            generalize (togE M L)[k] = x at *
            obtain ⟨⟨t, mm, p, l, l'⟩, ⟨yt, ym, yp, yl, yl'⟩⟩ := x
            simp only at k0 k1 k2 k3 k4 k5 k6 k7 k8 k9 HLK
            have hla : lackE R (t, mm, p, l, l') = decide (idxP (isE mm p) R 0 < 0) := rfl
            rw [hla] at HLK
            clear hla
            have HWA : Hid (Below wr.heap.size wr (wr.alloc (.cells #[.int .i64 t, .int .i64 mm, .int .i64 p, .slice A3 l.length c3, .slice A4 l'.length c4, .int .i64 yt, .int .i64 ym, .int .i64 yp, .slice B3 yl.length d3, .slice B4 yl'.length d4] 85))) := Lib.hid ((Below.refl _ _).alloc (Nat.le_refl _) _)
            have CF := Lib.hid (entryIndex_any C o q R mm p (wr.alloc (.cells #[.int .i64 t, .int .i64 mm, .int .i64 p, .slice A3 l.length c3, .slice A4 l'.length c4, .int .i64 yt, .int .i64 ym, .int .i64 yp, .slice B3 yl.length d3, .slice B4 yl'.length d4] 85)) ho (H''.out.below (HB4.out.trans ((HB.out.trans (HWA.out.mono HB.out.size)).mono HB4.out.size))))
            generalize idxP (isE mm p) R 0 = ix at *
            go_wp2_with fail
            refine (CF.out).mono ?_
            rintro e w5 ⟨rfl, hb5⟩
            have HB5 := Lib.hid (HB.out.trans ((HWA.out.trans (hb5.mono (by simp))).mono HB.out.size))
            clear k0 k1 k2 k3 k4 k5 k6 k7 k8 k9 hb5 CF
            by_cases hix : ix < 0
            · have HN : Hid (lackN R ((togE M L).drop k) = 1 + lackN R ((togE M L).drop (k + 1))) := Lib.hid (by rw [HLK.out]; simp [hix])
              go_wp2
              go_roundw
              case rel => exact ⟨k + 1, s + 1, by omega, by go_num, by go_num, by omega, by have h1 := HRC.out; have h2 := HN.out; omega, HB5.out⟩
              case measure => simp [intOf]; omega
            · have HN : Hid (lackN R ((togE M L).drop k) = lackN R ((togE M L).drop (k + 1))) := Lib.hid (by rw [HLK.out]; simp [hix])
              go_wp2
              go_roundw
              case rel => exact ⟨k + 1, s, by omega, by go_num, rfl, by omega, by have h1 := HRC.out; have h2 := HN.out; omega, HB5.out⟩
              case measure => simp [intOf]; omega
          · have HE := Lib.hid (drop_end (xs := togE M L) (k := k) (by rw [HPL.out]; omega))
            have hs : s = lackN R (togE M L) := by have := HRC.out; rw [HE.out] at this; simpa [lackN] using this
            have HS := Lib.hid hs
            clear hs
            go_wp2
            go_ret2
            exact ⟨by rw [HS.out]; rfl, HB4.out.trans (HB.out.mono HB4.out.size)⟩

set_option maxHeartbeats 4000000 in
set_option maxRecDepth 100000 in
theorem specLostCount_any (A : Option Addr) (n c : Nat) (L : List EntryT) (B : Option Addr) (m d : Nat) (M : List EntryT) (C : Option Addr) (o q : Nat) (R : List EntryT) (w : World) (hn : n ≤ 1000000000) (hl : ∀ x ∈ L, lenE 1000000000 x) (h : Reads2 w 5 A n (rowsE L)) (hc : n ≤ c) (hm : m ≤ 1000000000) (hl' : ∀ x ∈ M, lenE 1000000000 x) (h' : Reads2 w 5 B m (rowsE M)) (hd : m ≤ d) (ho : o ≤ 1000000000) (hl'' : ∀ x ∈ R, lenE 1000000000 x) (h'' : Reads2 w 5 C o (rowsE R)) (hq : o ≤ q) :
    Calls Try.prog 37 #[.slice A n c, .slice B m d, .slice C o q] w fun e w' => e = .returned (.tuple #[.int .i64 (lostR L M R).1, .bool (lostR L M R).2]) ∧ Below w.heap.size w w' := by
  have c1 := fun W (hW : Below w.heap.size w W) => lgGood_any A n c L W hn hl (h.below hW)
  have c2 := fun W (hW : Below w.heap.size w W) => lgGood_any B m d M W hm hl' (h'.below hW)
  have c3 := fun W (hW : Below w.heap.size w W) => lgGood_any C o q R W ho hl'' (h''.below hW)
  cases g1 : goodE L with
  | false =>
    have hr : lostR L M R = (0, false) := by simp [lostR, g1]
    rw [hr]
    simp only [g1] at c1
    have C1 := Lib.hid c1
    clear c1 c2 c3 hr h h' h'' hl hl' hl'' g1
    go_enter Try.func37, Try.ntmps37
    go_wp2_with fail
    refine (C1.out _ (Below.refl _ _)).mono ?_
    rintro e w1 ⟨rfl, hb⟩
    have HB1 := Lib.hid (hb)
    clear hb
    go_wp2
    go_ret2
    exact ⟨rfl, HB1.out⟩
  | true =>
    cases g2 : goodE M with
    | false =>
      have hr : lostR L M R = (0, false) := by simp [lostR, g2]
      rw [hr]
      simp only [g1] at c1
      simp only [g2] at c2
      have C1 := Lib.hid c1
      have C2 := Lib.hid c2
      clear c1 c2 c3 hr h h' h'' hl hl' hl'' g1 g2
      go_enter Try.func37, Try.ntmps37
      go_wp2_with fail
      refine (C1.out _ (Below.refl _ _)).mono ?_
      rintro e w1 ⟨rfl, hb⟩
      have HB1 := Lib.hid (hb)
      clear hb
      go_wp2_with fail
      refine (C2.out _ HB1.out).mono ?_
      rintro e w2 ⟨rfl, hb⟩
      have HB2 := Lib.hid (HB1.out.trans (hb.mono HB1.out.size))
      clear hb
      go_wp2
      go_ret2
      exact ⟨rfl, HB2.out⟩
    | true =>
      cases g3 : goodE R with
      | false =>
        have hr : lostR L M R = (0, false) := by simp [lostR, g3]
        rw [hr]
        simp only [g1] at c1
        simp only [g2] at c2
        simp only [g3] at c3
        have C1 := Lib.hid c1
        have C2 := Lib.hid c2
        have C3 := Lib.hid c3
        clear c1 c2 c3 hr h h' h'' hl hl' hl'' g1 g2 g3
        go_enter Try.func37, Try.ntmps37
        go_wp2_with fail
        refine (C1.out _ (Below.refl _ _)).mono ?_
        rintro e w1 ⟨rfl, hb⟩
        have HB1 := Lib.hid (hb)
        clear hb
        go_wp2_with fail
        refine (C2.out _ HB1.out).mono ?_
        rintro e w2 ⟨rfl, hb⟩
        have HB2 := Lib.hid (HB1.out.trans (hb.mono HB1.out.size))
        clear hb
        go_wp2_with fail
        refine (C3.out _ HB2.out).mono ?_
        rintro e w3 ⟨rfl, hb⟩
        have HB3 := Lib.hid (HB2.out.trans (hb.mono HB2.out.size))
        clear hb
        go_wp2
        go_ret2
        exact ⟨rfl, HB3.out⟩
      | true =>
        have hr : lostR L M R = ((lackN R (togE M L) : Int), true) := by simp [lostR, g1, g2, g3]
        rw [hr]
        have gL := goodE_all g1
        have gM := goodE_all g2
        have HX : L.length = n := by have := h.len; rw [length_rowsE] at this; omega
        have HY : M.length = m := by have := h'.len; rw [length_rowsE] at this; omega
        have hn30 : n ≤ 30 := by rw [← HX]; exact gL.2
        have hm30 : m ≤ 30 := by rw [← HY]; exact gM.2
        have HLE := Lib.hid gL.1
        have HME := Lib.hid gM.1
        simp only [g1] at c1
        simp only [g2] at c2
        simp only [g3] at c3
        have C1 := Lib.hid c1
        have C2 := Lib.hid c2
        have C3 := Lib.hid c3
        have H := Lib.hid h
        have H' := Lib.hid h'
        have H'' := Lib.hid h''
        have CT := Lib.hid (fun W (hW : Below w.heap.size w W) => rbGaps_any A n c L B m d M 0 0 W (by omega) (by omega) HLE.out HME.out (by omega) (by omega) (H.out.below hW) (H'.out.below hW))
        have hN : cntE M L ≤ 30 := by have := togE_len M L; have := gL.2; unfold cntE; omega
        have HPL : Hid ((togE M L).length = cntE M L) := Lib.hid rfl
        clear c1 c2 c3 hr h h' h'' hl hl' hl'' g1 g2 g3 gL gM HX HY
        go_enter Try.func37, Try.ntmps37
        go_wp2_with fail
        refine (C1.out _ (Below.refl _ _)).mono ?_
        rintro e w1 ⟨rfl, hb⟩
        have HB1 := Lib.hid (hb)
        clear hb
        go_wp2_with fail
        refine (C2.out _ HB1.out).mono ?_
        rintro e w2 ⟨rfl, hb⟩
        have HB2 := Lib.hid (HB1.out.trans (hb.mono HB1.out.size))
        clear hb
        go_wp2_with fail
        refine (C3.out _ HB2.out).mono ?_
        rintro e w3 ⟨rfl, hb⟩
        have HB3 := Lib.hid (HB2.out.trans (hb.mono HB2.out.size))
        clear hb
        clear C1 C2 C3 HB1 HB2
        go_wp2_with fail
        refine (CT.out _ HB3.out).mono ?_
        rintro e w4 ⟨P1, p1, P2, p2, hs0, rfl, hr3, hb⟩
        have HR3 := Lib.hid (Reads.of_own hr3.one)
        have HB4 := Lib.hid (HB3.out.trans (hb.mono HB3.out.size))
        clear hr3 hb CT
        go_wp2
        go_loopw [10, 34] (fun nv kv wr => ∃ k s : Nat, k ≤ cntE M L ∧ kv = .int .i64 k ∧ nv = .int .i64 s ∧ s ≤ k ∧ s + lackN R ((togE M L).drop k) = lackN R (togE M L) ∧ Below w4.heap.size w4 wr) (fun _ kv _ => cntE M L - (intOf kv).toNat)
        case atStart => exact ⟨0, 0, Nat.zero_le _, rfl, rfl, Nat.le_refl _, by simp, Below.refl _ _⟩
        case round =>
          obtain ⟨k, s, hk, rfl, rfl, hsk, hrc, hb⟩ := hrel
          have HRC := Lib.hid hrc; have HB := Lib.hid hb
          clear hrc hb
          by_cases hlt : k < cntE M L
          · have hx : k < (togE M L).length := by rw [HPL.out]; exact hlt
            have HD := Lib.hid (drop_cons hx)
            obtain ⟨ga, rfl, k0, k1, k2, k3⟩ := rows4_at (HR3.out.below HB.out) hlt (gapsE_len M 0 0 L)
            have HLK : Hid (lackN R ((togE M L).drop k) = (if lackE R (togE M L)[k].1 = true then 1 else 0) + lackN R ((togE M L).drop (k + 1))) := Lib.hid (by rw [HD.out]; rfl)
            have hge : (gapsE M 0 0 L)[k]'(by rw [gapsE_len]; exact hlt) = ((togE M L)[k].1.2.1, (togE M L)[k].1.2.2.1, (togE M L)[k].1.1 + 0, (togE M L)[k].2.1 - 0) := by simp only [gapsE, List.getElem_map, gapOf]
            simp only [hge] at k0 k1 k2 k3
            clear hge
            generalize (togE M L)[k] = x at *
            obtain ⟨⟨t, mm, p, l, l'⟩, ⟨yt, ym, yp, yl, yl'⟩⟩ := x
            simp only at k0 k1 k2 k3 HLK
            obtain ⟨lw, hlw⟩ : ∃ lw, lw = t + 0 := ⟨_, rfl⟩
            obtain ⟨hw, hhw⟩ : ∃ hw, hw = yt - 0 := ⟨_, rfl⟩
            rw [← hlw] at k2
            rw [← hhw] at k3
            clear hlw hhw
            have hla : lackE R (t, mm, p, l, l') = decide (idxP (isE mm p) R 0 < 0) := rfl
            rw [hla] at HLK
            clear hla
            have HWA : Hid (Below wr.heap.size wr (wr.alloc (.cells #[.int .i64 mm, .int .i64 p, .int .i64 lw, .int .i64 hw] 62))) := Lib.hid ((Below.refl _ _).alloc (Nat.le_refl _) _)
            have CF := Lib.hid (lgFind_any C o q R mm p (wr.alloc (.cells #[.int .i64 mm, .int .i64 p, .int .i64 lw, .int .i64 hw] 62)) ho (H''.out.below (HB4.out.trans ((HB.out.trans (HWA.out.mono HB.out.size)).mono HB4.out.size))))
            generalize idxP (isE mm p) R 0 = ix at *
            go_wp2_with fail
            refine (CF.out).mono ?_
            rintro e w5 ⟨rfl, hb5⟩
            have HB5 := Lib.hid (HB.out.trans ((HWA.out.trans (hb5.mono (by simp))).mono HB.out.size))
            clear k0 k1 k2 k3 hb5 CF
            by_cases hix : ix < 0
            · have HN : Hid (lackN R ((togE M L).drop k) = 1 + lackN R ((togE M L).drop (k + 1))) := Lib.hid (by rw [HLK.out]; simp [hix])
              go_wp2
              go_roundw
              case rel => exact ⟨k + 1, s + 1, by omega, by go_num, by go_num, by omega, by have h1 := HRC.out; have h2 := HN.out; omega, HB5.out⟩
              case measure => simp [intOf]; omega
            · have HN : Hid (lackN R ((togE M L).drop k) = lackN R ((togE M L).drop (k + 1))) := Lib.hid (by rw [HLK.out]; simp [hix])
              go_wp2
              go_roundw
              case rel => exact ⟨k + 1, s, by omega, by go_num, rfl, by omega, by have h1 := HRC.out; have h2 := HN.out; omega, HB5.out⟩
              case measure => simp [intOf]; omega
          · have HE := Lib.hid (drop_end (xs := togE M L) (k := k) (by rw [HPL.out]; omega))
            have hs : s = lackN R (togE M L) := by have := HRC.out; rw [HE.out] at this; simpa [lackN] using this
            have HS := Lib.hid hs
            clear hs
            go_wp2
            go_ret2
            exact ⟨by rw [HS.out]; rfl, HB4.out.trans (HB.out.mono HB4.out.size)⟩

end Go.Proofs.Ytcjmlakmigfkfaa
