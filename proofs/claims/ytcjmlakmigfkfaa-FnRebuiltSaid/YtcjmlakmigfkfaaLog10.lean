/- Contracts of TimeGaps of both packages. No conditions. -/
import Derived.Test.YtcjmlakmigfkfaaLog9
namespace Go.Proofs.Ytcjmlakmigfkfaa
set_option linter.unusedSimpArgs false
set_option linter.unusedVariables false
open Go.RowKit

def timeR (L M : List EntryT) (a b : Int) : List G4T × Bool := if askE L M a b = true then (gapsE M a b L, true) else ([], false)
theorem askE_true {L M : List EntryT} {a b : Int} (h : askE L M a b = true) : goodE L = true ∧ goodE M = true ∧ (0 ≤ a ∧ a ≤ 60) ∧ 0 ≤ b ∧ b ≤ 60 := by
  unfold askE at h
  simp only [Bool.and_eq_true] at h
  exact ⟨h.1, h.2.1, inB_true.1 h.2.2.1, inB_true.1 h.2.2.2⟩
theorem gapsE_len (M : List EntryT) (a b : Int) (L : List EntryT) : (gapsE M a b L).length = cntE M L := by simp [gapsE, cntE]
theorem timeR_len (L M : List EntryT) (a b : Int) : (timeR L M a b).1.length ≤ 30 := by
  unfold timeR
  split
  · rename_i h
    have h1 := (goodE_all (askE_true h).1).2
    have h2 := togE_len M L
    simp only [gapsE_len]
    unfold cntE
    omega
  · simp

/-- An element of a slice of pairs, read. -/
theorem rowsP_at {w : World} {A : Option Addr} {n i : Nat} {L : List (EntryT × EntryT)} (h : Reads2 w 10 A n (rowsP L)) (hi : i < L.length) :
    ∃ ad A3 c3 A4 c4 B3 d3 B4 d4, A = some ad ∧ (w.cell? (ad.add (i * 10)) = some (.int .i64 L[i].1.1) ∧ w.cell? ⟨(ad.add (i * 10)).block, (ad.add (i * 10)).off + 1, none⟩ = some (.int .i64 L[i].1.2.1) ∧ w.cell? ⟨(ad.add (i * 10)).block, (ad.add (i * 10)).off + 2, none⟩ = some (.int .i64 L[i].1.2.2.1) ∧ w.cell? ⟨(ad.add (i * 10)).block, (ad.add (i * 10)).off + 3, none⟩ = some (.slice A3 L[i].1.2.2.2.1.length c3) ∧ w.cell? ⟨(ad.add (i * 10)).block, (ad.add (i * 10)).off + 4, none⟩ = some (.slice A4 L[i].1.2.2.2.2.length c4) ∧ w.cell? ⟨(ad.add (i * 10)).block, (ad.add (i * 10)).off + 5, none⟩ = some (.int .i64 L[i].2.1) ∧ w.cell? ⟨(ad.add (i * 10)).block, (ad.add (i * 10)).off + 6, none⟩ = some (.int .i64 L[i].2.2.1) ∧ w.cell? ⟨(ad.add (i * 10)).block, (ad.add (i * 10)).off + 7, none⟩ = some (.int .i64 L[i].2.2.2.1) ∧ w.cell? ⟨(ad.add (i * 10)).block, (ad.add (i * 10)).off + 8, none⟩ = some (.slice B3 L[i].2.2.2.2.1.length d3) ∧ w.cell? ⟨(ad.add (i * 10)).block, (ad.add (i * 10)).off + 9, none⟩ = some (.slice B4 L[i].2.2.2.2.2.length d4)) ∧
      Reads w 1 A3 L[i].1.2.2.2.1.length (ints L[i].1.2.2.2.1) ∧ Reads w 1 A4 L[i].1.2.2.2.2.length (ints L[i].1.2.2.2.2) ∧ Reads w 1 B3 L[i].2.2.2.2.1.length (ints L[i].2.2.2.2.1) ∧ Reads w 1 B4 L[i].2.2.2.2.2.length (ints L[i].2.2.2.2.2) := by
  obtain ⟨ad0, e0, k0⟩ := h.plain (j := i * 10 + 0) (u := .int .i64 L[i].1.1) (by rw [rowsP_get hi (by omega)]; rfl)
  obtain ⟨ad1, e1, k1⟩ := h.plain (j := i * 10 + 1) (u := .int .i64 L[i].1.2.1) (by rw [rowsP_get hi (by omega)]; rfl)
  obtain ⟨ad2, e2, k2⟩ := h.plain (j := i * 10 + 2) (u := .int .i64 L[i].1.2.2.1) (by rw [rowsP_get hi (by omega)]; rfl)
  obtain ⟨ad3, A3, c3, e3, k3, _, _, r3⟩ := h.row (j := i * 10 + 3) (l := ints L[i].1.2.2.2.1) (by rw [rowsP_get hi (by omega)]; rfl)
  obtain ⟨ad4, A4, c4, e4, k4, _, _, r4⟩ := h.row (j := i * 10 + 4) (l := ints L[i].1.2.2.2.2) (by rw [rowsP_get hi (by omega)]; rfl)
  obtain ⟨ad5, e5, k5⟩ := h.plain (j := i * 10 + 5) (u := .int .i64 L[i].2.1) (by rw [rowsP_get hi (by omega)]; rfl)
  obtain ⟨ad6, e6, k6⟩ := h.plain (j := i * 10 + 6) (u := .int .i64 L[i].2.2.1) (by rw [rowsP_get hi (by omega)]; rfl)
  obtain ⟨ad7, e7, k7⟩ := h.plain (j := i * 10 + 7) (u := .int .i64 L[i].2.2.2.1) (by rw [rowsP_get hi (by omega)]; rfl)
  obtain ⟨ad8, B3, d3, e8, k8, _, _, r8⟩ := h.row (j := i * 10 + 8) (l := ints L[i].2.2.2.2.1) (by rw [rowsP_get hi (by omega)]; rfl)
  obtain ⟨ad9, B4, d4, e9, k9, _, _, r9⟩ := h.row (j := i * 10 + 9) (l := ints L[i].2.2.2.2.2) (by rw [rowsP_get hi (by omega)]; rfl)
  subst e0
  injection e1 with e1
  subst e1
  injection e2 with e2
  subst e2
  injection e3 with e3
  subst e3
  injection e4 with e4
  subst e4
  injection e5 with e5
  subst e5
  injection e6 with e6
  subst e6
  injection e7 with e7
  subst e7
  injection e8 with e8
  subst e8
  injection e9 with e9
  subst e9
  simp only [length_ints] at k3 k4 k8 k9 r3 r4 r8 r9
  refine ⟨ad0, A3, c3, A4, c4, B3, d3, B4, d4, rfl, ⟨k0, ?_, ?_, ?_, ?_, ?_, ?_, ?_, ?_, ?_⟩, r3, r4, r8, r9⟩
  · rw [← add_pos_ (by omega)]; exact k1
  · rw [← add_pos_ (by omega)]; exact k2
  · rw [← add_pos_ (by omega)]; exact k3
  · rw [← add_pos_ (by omega)]; exact k4
  · rw [← add_pos_ (by omega)]; exact k5
  · rw [← add_pos_ (by omega)]; exact k6
  · rw [← add_pos_ (by omega)]; exact k7
  · rw [← add_pos_ (by omega)]; exact k8
  · rw [← add_pos_ (by omega)]; exact k9

set_option maxHeartbeats 4000000 in
set_option maxRecDepth 100000 in
theorem implTimeGaps_any (A : Option Addr) (n c : Nat) (L : List EntryT) (B : Option Addr) (m d : Nat) (M : List EntryT) (a b : Int) (w : World) (hn : n ≤ 1000000000) (hl : ∀ x ∈ L, lenE 1000000000 x) (h : Reads2 w 5 A n (rowsE L)) (hc : n ≤ c) (hm : m ≤ 1000000000) (hl' : ∀ x ∈ M, lenE 1000000000 x) (h' : Reads2 w 5 B m (rowsE M)) (hd : m ≤ d) :
    Calls Try.prog 21 #[.slice A n c, .slice B m d, .int .i64 a, .int .i64 b] w (Made2 w 62 4 (timeR L M a b).1.length (rows4 (timeR L M a b).1) (timeR L M a b).2) := by
  have c1 := gapAsked_any A n c L B m d M a b w hn hl h hc hd hm hl' h'
  have HX := Lib.hid (show L.length = n by have := h.len; rw [length_rowsE] at this; omega)
  have HY := Lib.hid (show M.length = m by have := h'.len; rw [length_rowsE] at this; omega)
  cases hk : askE L M a b with
  | false =>
    rw [hk] at c1
    have C1 := Lib.hid c1
    have hr : timeR L M a b = ([], false) := by simp [timeR, hk]
    rw [hr]
    clear c1 hr h h' hl hl' hk
    go_enter Try.func21, Try.ntmps21
    go_wp2_with (go_at_call 71; refine (C1.out).mono ?_; rintro e w1 ⟨rfl, hb⟩; have HB := Lib.hid hb; clear hb)
    go_ret2
    exact ⟨none, 0, rfl, own_start, HB.out⟩
  | true =>
    rw [hk] at c1
    have C1 := Lib.hid c1
    have hr : timeR L M a b = (gapsE M a b L, true) := by simp [timeR, hk]
    rw [hr]
    obtain ⟨hgL, hgM, hab, hbb⟩ := askE_true hk
    have gL := goodE_all hgL
    have gM := goodE_all hgM
    have C2 := Lib.hid (fun W (hW : Below w.heap.size w W) => together_any A n c L B m d M W (by have := gL.2; rw [HX.out] at this; omega) (by have := gM.2; rw [HY.out] at this; omega) (h.below hW) (h'.below hW))
    have HTT : Hid (∀ p ∈ togE M L, (0 ≤ p.1.1 ∧ p.1.1 ≤ 10000) ∧ 0 ≤ p.2.1 ∧ p.2.1 ≤ 10000) := Lib.hid (fun p hp => ⟨entB_time (gL.1 _ (togE_mem p hp).1), entB_time (gM.1 _ (togE_mem p hp).2)⟩)
    have hN : cntE M L ≤ 30 := by have := togE_len M L; have := gL.2; unfold cntE; omega
    have HGL := Lib.hid (gapsE_len M a b L)
    have HGD : Hid (gapsE M a b L = (togE M L).map (gapOf a b)) := Lib.hid rfl
    simp only [gapsE_len]
    clear c1 hr h h' hl hl' hk hgL hgM gL gM
    have HPL : Hid ((togE M L).length = cntE M L) := Lib.hid rfl
    generalize togE M L = P at *
    generalize cntE M L = N at *
    generalize gapsE M a b L = G at *
    generalize hlo : w.heap.size = lo at *
    go_enter Try.func21, Try.ntmps21
    go_wp2_with (first | (go_at_call 71; refine (C1.out).mono ?_; rintro e w1 ⟨rfl, hb⟩; have HB0 := Lib.hid hb; clear hb) | (go_at_call 64; refine (C2.out _ HB0.out).mono ?_; rintro e w2 ⟨P1, p1, rfl, hr2, hb2⟩; have HR2 := Lib.hid hr2; have HB2 := Lib.hid hb2; clear hr2 hb2))
    have HW2 : Hid (Below lo w w2) := Lib.hid (HB0.out.trans (HB2.out.mono (by have := HB0.out.size; omega)))
    clear HB0 HB2 C1 C2
    generalize hg2 : w2.heap.size = g2 at *
    go_loopw [10, 23] (fun o i wr => ∃ k : Nat, ∃ A1 c1, k ≤ N ∧ i = .int .i64 k ∧ o = .slice A1 k c1 ∧ wr.ownsRow g2 62 4 (.slice A1 k c1) k (rows4 (G.take k)) ∧ Below g2 w2 wr) (fun _ i _ => N - (intOf i).toNat)
    case atStart => exact ⟨0, none, 0, Nat.zero_le _, rfl, rfl, World.ownsRow_nil _ _ _ _, Below.refl _ _⟩
    case round =>
      obtain ⟨k, A1, c1, hk, rfl, rfl, hown, hb⟩ := hrel
      have HO := Lib.hid hown; have HB := Lib.hid hb
      clear hown hb
      have HLO : Hid (g2 ≤ wr.heap.size) := Lib.hid (by have h1 := HB.out.size; omega)
      have HRD := Lib.hid (HR2.out.below (by rw [hg2]; exact HB.out))
      by_cases hlt : k < N
      · have hx : k < P.length := by rw [HPL.out]; exact hlt
        obtain ⟨ad, A3, c3, A4, c4, B3, d3, B4, d4, rfl, ⟨k0, k1, k2, k3, k4, k5, k6, k7, k8, k9⟩, _, _, _, _⟩ := rowsP_at HRD.out hx
        have htt := HTT.out P[k] (List.getElem_mem hx)
        have HGT : Hid (G.take (k + 1) = G.take k ++ [gapOf a b P[k]]) := Lib.hid (by
          have hgl : k < G.length := by rw [HGL.out]; exact hlt
          rw [List.take_succ_eq_append_getElem hgl]
          simp [HGD.out])
        generalize P[k] = x at *
        obtain ⟨⟨t, mm, p, l, l'⟩, ⟨yt, ym, yp, yl, yl'⟩⟩ := x
        simp only [gapOf] at k0 k1 k2 k3 k4 k5 k6 k7 k8 k9 htt HGT
        obtain ⟨ht, hyt⟩ := htt
        have HWB : Hid (Below wr.heap.size wr ((wr.alloc (.cells #[.int .i64 t, .int .i64 mm, .int .i64 p, .slice A3 l.length c3, .slice A4 l'.length c4, .int .i64 yt, .int .i64 ym, .int .i64 yp, .slice B3 yl.length d3, .slice B4 yl'.length d4] 85)).alloc (.cells #[.int .i64 mm, .int .i64 p, .int .i64 (t + a), .int .i64 (yt - b)] 62))) := Lib.hid (((Below.refl _ _).alloc (Nat.le_refl _) _).alloc (by simp) _)
        go_wp2_with (at_builtin; refine wpList_pushL _ rfl (.tmp 27) (.tmp 45) 34 rfl g2 62 (.agg #[.int .i64 0, .int .i64 0, .int .i64 0, .int .i64 0]) 4 32 infoGap rfl (by omega) Try.underlying34 A1 k c1 (rows4 (G.take k)) rfl (own_below HO.out (HWB.out)) (some ⟨wr.heap.size + 1, 0, none⟩) 1 1 [.int .i64 mm, .int .i64 p, .int .i64 (t + a), .int .i64 (yt - b)] rfl (by have h := reads_litk (wr.alloc (.cells #[.int .i64 t, .int .i64 mm, .int .i64 p, .slice A3 l.length c3, .slice A4 l'.length c4, .int .i64 yt, .int .i64 ym, .int .i64 yp, .slice B3 yl.length d3, .slice B4 yl'.length d4] 85)) [.int .i64 mm, .int .i64 p, .int .i64 (t + a), .int .i64 (yt - b)] 62 (n := 1) (k := 4) rfl; simp only [World.size_alloc] at h; exact h) (by simp [Value.oneCell']) (by omega) (by omega) (by have := HLO.out; simp; omega) ?_; intro A1' c1' w4 hown4 hg4 hb4 hloc4)
        have HO4 := Lib.hid hown4
        have HB4 : Hid (Below g2 w2 w4) := Lib.hid ((HB.out.trans (HWB.out.mono HLO.out)).trans hb4)
        clear hown4 hg4 hb4 hloc4
        go_roundw
        case rel =>
          refine ⟨k + 1, A1', c1', by omega, by go_num, rfl, ?_, HB4.out⟩
          have e1 : rows4 (G.take (k + 1)) = rows4 (G.take k) ++ [.int .i64 mm, .int .i64 p, .int .i64 (t + a), .int .i64 (yt - b)] := by rw [HGT.out]; simp [rows4, cells4]
          rw [e1]
          exact HO4.out
        case measure => simp [intOf]; omega
      · obtain rfl : k = N := by omega
        have e : G.take k = G := List.take_of_length_le (by rw [HGL.out]; exact Nat.le_refl _)
        rw [e] at HO
        go_wp2
        go_ret2
        subst hlo hg2
        exact ⟨A1, c1, rfl, own_mono HO.out HW2.out.size, HW2.out.trans (HB.out.mono HW2.out.size)⟩
set_option maxHeartbeats 1000000 in
set_option maxRecDepth 100000 in
theorem specTimeGaps_any (A : Option Addr) (n c : Nat) (L : List EntryT) (B : Option Addr) (m d : Nat) (M : List EntryT) (a b : Int) (w : World) (hn : n ≤ 1000000000) (hl : ∀ x ∈ L, lenE 1000000000 x) (h : Reads2 w 5 A n (rowsE L)) (hc : n ≤ c) (hm : m ≤ 1000000000) (hl' : ∀ x ∈ M, lenE 1000000000 x) (h' : Reads2 w 5 B m (rowsE M)) (hd : m ≤ d) :
    Calls Try.prog 20 #[.slice A n c, .slice B m d, .int .i64 a, .int .i64 b] w (Made2 w 62 4 (timeR L M a b).1.length (rows4 (timeR L M a b).1) (timeR L M a b).2) := by
  have c1 := rbGood_any A n c L B m d M a b w hn hl h hm hl' h'
  have HX := Lib.hid (show L.length = n by have := h.len; rw [length_rowsE] at this; omega)
  have HY := Lib.hid (show M.length = m by have := h'.len; rw [length_rowsE] at this; omega)
  cases hk : askE L M a b with
  | false =>
    rw [hk] at c1
    have C1 := Lib.hid c1
    have hr : timeR L M a b = ([], false) := by simp [timeR, hk]
    rw [hr]
    clear c1 hr h h' hl hl' hk
    go_enter Try.func20, Try.ntmps20
    go_wp2_with (go_at_call 70; refine (C1.out).mono ?_; rintro e w1 ⟨rfl, hb⟩; have HB := Lib.hid hb; clear hb)
    go_ret2
    exact ⟨none, 0, rfl, own_start, HB.out⟩
  | true =>
    rw [hk] at c1
    have C1 := Lib.hid c1
    have hr : timeR L M a b = (gapsE M a b L, true) := by simp [timeR, hk]
    rw [hr]
    obtain ⟨hgL, hgM, hab, hbb⟩ := askE_true hk
    have gL := goodE_all hgL
    have gM := goodE_all hgM
    have C2 := Lib.hid (fun W (hW : Below w.heap.size w W) => rbGaps_any A n c L B m d M a b W (by have := gL.2; rw [HX.out] at this; omega) (by have := gM.2; rw [HY.out] at this; omega) gL.1 gM.1 hab hbb (h.below hW) (h'.below hW))
    simp only [gapsE_len]
    clear c1 hr h h' hl hl' hk hgL hgM gL gM
    go_enter Try.func20, Try.ntmps20
    go_wp2_with (first | (go_at_call 70; refine (C1.out).mono ?_; rintro e w1 ⟨rfl, hb⟩; have HB0 := Lib.hid hb; clear hb) | (go_at_call 61; refine (C2.out _ HB0.out).mono ?_; rintro e w2 ⟨A1, p1, A2, p2, hs, rfl, hr2, hb2⟩; have HR2 := Lib.hid hr2; have HB2 := Lib.hid hb2; clear hr2 hb2))
    go_ret2
    exact ⟨A1, p1, rfl, own_mono HR2.out.one HB0.out.size, HB0.out.trans (HB2.out.mono HB0.out.size)⟩

end Go.Proofs.Ytcjmlakmigfkfaa
