/- Lemmas and contracts of this claim, several texts in one: Contracts of TimeGaps of both packages. Are two lists of integers alike? Contracts of both packages' tests. When a list of entries is a log; the lost log is one. Plain. Contracts of the two functions that copy a slice of integers. An entry appended to entries of the call's own; lgOwn and lgIf of the spec. No conditions. -/
import Derived.Test.YtcjmlakmigfkfaaZFilled5
import Derived.Test.YtcjmlakmigfkfaaZFilled1
namespace Go.Proofs.Ytcjmlakmigfkfaa
set_option linter.unusedSimpArgs false
set_option linter.unusedVariables false
open Go.RowKit

def timeR (L M : List EntryT) (a b : Int) : List G4T × Bool := if askE L M a b = true then (gapsE M a b L, true) else ([], false)
theorem askE_true {L M : List EntryT} {a b : Int} (h : askE L M a b = true) : goodE L = true ∧ goodE M = true ∧ (0 ≤ a ∧ a ≤ 60) ∧ 0 ≤ b ∧ b ≤ 60 := by
  unfold askE at h
  simp only [Bool.and_eq_true] at h
  exact ⟨h.1, h.2.1, inB_true.1 h.2.2.1, inB_true.1 h.2.2.2⟩
theorem gapsE_len (M : List EntryT) (a b : Int) (L : List EntryT) : (gapsE M a b L).length = cntE M L := by simp [gapsE, cntE]
theorem timeR_len (L M : List EntryT) (a b : Int) : (timeR L M a b).1.length ≤ 30 := by
  unfold timeR
  split
  · rename_i h
    have h1 := (goodE_all (askE_true h).1).2
    have h2 := togE_len M L
    simp only [gapsE_len]
    unfold cntE
    omega
  · simp

/-- An element of a slice of pairs, read. -/
theorem rowsP_at {w : World} {A : Option Addr} {n i : Nat} {L : List (EntryT × EntryT)} (h : Reads2 w 10 A n (rowsP L)) (hi : i < L.length) :
    ∃ ad A3 c3 A4 c4 B3 d3 B4 d4, A = some ad ∧ (w.cell? (ad.add (i * 10)) = some (.int .i64 L[i].1.1) ∧ w.cell? ⟨(ad.add (i * 10)).block, (ad.add (i * 10)).off + 1, none⟩ = some (.int .i64 L[i].1.2.1) ∧ w.cell? ⟨(ad.add (i * 10)).block, (ad.add (i * 10)).off + 2, none⟩ = some (.int .i64 L[i].1.2.2.1) ∧ w.cell? ⟨(ad.add (i * 10)).block, (ad.add (i * 10)).off + 3, none⟩ = some (.slice A3 L[i].1.2.2.2.1.length c3) ∧ w.cell? ⟨(ad.add (i * 10)).block, (ad.add (i * 10)).off + 4, none⟩ = some (.slice A4 L[i].1.2.2.2.2.length c4) ∧ w.cell? ⟨(ad.add (i * 10)).block, (ad.add (i * 10)).off + 5, none⟩ = some (.int .i64 L[i].2.1) ∧ w.cell? ⟨(ad.add (i * 10)).block, (ad.add (i * 10)).off + 6, none⟩ = some (.int .i64 L[i].2.2.1) ∧ w.cell? ⟨(ad.add (i * 10)).block, (ad.add (i * 10)).off + 7, none⟩ = some (.int .i64 L[i].2.2.2.1) ∧ w.cell? ⟨(ad.add (i * 10)).block, (ad.add (i * 10)).off + 8, none⟩ = some (.slice B3 L[i].2.2.2.2.1.length d3) ∧ w.cell? ⟨(ad.add (i * 10)).block, (ad.add (i * 10)).off + 9, none⟩ = some (.slice B4 L[i].2.2.2.2.2.length d4)) ∧
      Reads w 1 A3 L[i].1.2.2.2.1.length (ints L[i].1.2.2.2.1) ∧ Reads w 1 A4 L[i].1.2.2.2.2.length (ints L[i].1.2.2.2.2) ∧ Reads w 1 B3 L[i].2.2.2.2.1.length (ints L[i].2.2.2.2.1) ∧ Reads w 1 B4 L[i].2.2.2.2.2.length (ints L[i].2.2.2.2.2) := by
  obtain ⟨ad0, e0, k0⟩ := h.plain (j := i * 10 + 0) (u := .int .i64 L[i].1.1) (by rw [rowsP_get hi (by omega)]; rfl)
  obtain ⟨ad1, e1, k1⟩ := h.plain (j := i * 10 + 1) (u := .int .i64 L[i].1.2.1) (by rw [rowsP_get hi (by omega)]; rfl)
  obtain ⟨ad2, e2, k2⟩ := h.plain (j := i * 10 + 2) (u := .int .i64 L[i].1.2.2.1) (by rw [rowsP_get hi (by omega)]; rfl)
  obtain ⟨ad3, A3, c3, e3, k3, _, _, r3⟩ := h.row (j := i * 10 + 3) (l := ints L[i].1.2.2.2.1) (by rw [rowsP_get hi (by omega)]; rfl)
  obtain ⟨ad4, A4, c4, e4, k4, _, _, r4⟩ := h.row (j := i * 10 + 4) (l := ints L[i].1.2.2.2.2) (by rw [rowsP_get hi (by omega)]; rfl)
  obtain ⟨ad5, e5, k5⟩ := h.plain (j := i * 10 + 5) (u := .int .i64 L[i].2.1) (by rw [rowsP_get hi (by omega)]; rfl)
  obtain ⟨ad6, e6, k6⟩ := h.plain (j := i * 10 + 6) (u := .int .i64 L[i].2.2.1) (by rw [rowsP_get hi (by omega)]; rfl)
  obtain ⟨ad7, e7, k7⟩ := h.plain (j := i * 10 + 7) (u := .int .i64 L[i].2.2.2.1) (by rw [rowsP_get hi (by omega)]; rfl)
  obtain ⟨ad8, B3, d3, e8, k8, _, _, r8⟩ := h.row (j := i * 10 + 8) (l := ints L[i].2.2.2.2.1) (by rw [rowsP_get hi (by omega)]; rfl)
  obtain ⟨ad9, B4, d4, e9, k9, _, _, r9⟩ := h.row (j := i * 10 + 9) (l := ints L[i].2.2.2.2.2) (by rw [rowsP_get hi (by omega)]; rfl)
  subst e0
  injection e1 with e1
  subst e1
  injection e2 with e2
  subst e2
  injection e3 with e3
  subst e3
  injection e4 with e4
  subst e4
  injection e5 with e5
  subst e5
  injection e6 with e6
  subst e6
  injection e7 with e7
  subst e7
  injection e8 with e8
  subst e8
  injection e9 with e9
  subst e9
  simp only [length_ints] at k3 k4 k8 k9 r3 r4 r8 r9
  refine ⟨ad0, A3, c3, A4, c4, B3, d3, B4, d4, rfl, ⟨k0, ?_, ?_, ?_, ?_, ?_, ?_, ?_, ?_, ?_⟩, r3, r4, r8, r9⟩
  · rw [← add_pos_ (by omega)]; exact k1
  · rw [← add_pos_ (by omega)]; exact k2
  · rw [← add_pos_ (by omega)]; exact k3
  · rw [← add_pos_ (by omega)]; exact k4
  · rw [← add_pos_ (by omega)]; exact k5
  · rw [← add_pos_ (by omega)]; exact k6
  · rw [← add_pos_ (by omega)]; exact k7
  · rw [← add_pos_ (by omega)]; exact k8
  · rw [← add_pos_ (by omega)]; exact k9

set_option maxHeartbeats 4000000 in
set_option maxRecDepth 100000 in
theorem implTimeGaps_any (A : Option Addr) (n c : Nat) (L : List EntryT) (B : Option Addr) (m d : Nat) (M : List EntryT) (a b : Int) (w : World) (hn : n ≤ 1000000000) (hl : ∀ x ∈ L, lenE 1000000000 x) (h : Reads2 w 5 A n (rowsE L)) (hc : n ≤ c) (hm : m ≤ 1000000000) (hl' : ∀ x ∈ M, lenE 1000000000 x) (h' : Reads2 w 5 B m (rowsE M)) (hd : m ≤ d) :
    Calls Try.prog 21 #[.slice A n c, .slice B m d, .int .i64 a, .int .i64 b] w (Made2 w 62 4 (timeR L M a b).1.length (rows4 (timeR L M a b).1) (timeR L M a b).2) := by
  have c1 := gapAsked_any A n c L B m d M a b w hn hl h hc hd hm hl' h'
  have HX := Lib.hid (show L.length = n by have := h.len; rw [length_rowsE] at this; omega)
  have HY := Lib.hid (show M.length = m by have := h'.len; rw [length_rowsE] at this; omega)
  cases hk : askE L M a b with
  | false =>
    rw [hk] at c1
    have C1 := Lib.hid c1
    have hr : timeR L M a b = ([], false) := by simp [timeR, hk]
    rw [hr]
    clear c1 hr h h' hl hl' hk
    go_enter Try.func21, Try.ntmps21
    go_wp2_with (go_at_call 71; refine (C1.out).mono ?_; rintro e w1 ⟨rfl, hb⟩; have HB := Lib.hid hb; clear hb)
    go_ret2
    exact ⟨none, 0, rfl, own_start, HB.out⟩
  | true =>
    rw [hk] at c1
    have C1 := Lib.hid c1
    have hr : timeR L M a b = (gapsE M a b L, true) := by simp [timeR, hk]
    rw [hr]
    obtain ⟨hgL, hgM, hab, hbb⟩ := askE_true hk
    have gL := goodE_all hgL
    have gM := goodE_all hgM
    have C2 := Lib.hid (fun W (hW : Below w.heap.size w W) => together_any A n c L B m d M W (by have := gL.2; rw [HX.out] at this; omega) (by have := gM.2; rw [HY.out] at this; omega) (h.below hW) (h'.below hW))
    have HTT : Hid (∀ p ∈ togE M L, (0 ≤ p.1.1 ∧ p.1.1 ≤ 10000) ∧ 0 ≤ p.2.1 ∧ p.2.1 ≤ 10000) := Lib.hid (fun p hp => ⟨entB_time (gL.1 _ (togE_mem p hp).1), entB_time (gM.1 _ (togE_mem p hp).2)⟩)
    have hN : cntE M L ≤ 30 := by have := togE_len M L; have := gL.2; unfold cntE; omega
    have HGL := Lib.hid (gapsE_len M a b L)
    have HGD : Hid (gapsE M a b L = (togE M L).map (gapOf a b)) := Lib.hid rfl
    simp only [gapsE_len]
    clear c1 hr h h' hl hl' hk hgL hgM gL gM
    have HPL : Hid ((togE M L).length = cntE M L) := Lib.hid rfl
    generalize togE M L = P at *
    generalize cntE M L = N at *
    generalize gapsE M a b L = G at *
    generalize hlo : w.heap.size = lo at *
    go_enter Try.func21, Try.ntmps21
    go_wp2_with (first | (go_at_call 71; refine (C1.out).mono ?_; rintro e w1 ⟨rfl, hb⟩; have HB0 := Lib.hid hb; clear hb) | (go_at_call 64; refine (C2.out _ HB0.out).mono ?_; rintro e w2 ⟨P1, p1, rfl, hr2, hb2⟩; have HR2 := Lib.hid hr2; have HB2 := Lib.hid hb2; clear hr2 hb2))
    have HW2 : Hid (Below lo w w2) := Lib.hid (HB0.out.trans (HB2.out.mono (by have := HB0.out.size; omega)))
    clear HB0 HB2 C1 C2
    generalize hg2 : w2.heap.size = g2 at *
    go_loopw [10, 23] (fun o i wr => ∃ k : Nat, ∃ A1 c1, k ≤ N ∧ i = .int .i64 k ∧ o = .slice A1 k c1 ∧ wr.ownsRow g2 62 4 (.slice A1 k c1) k (rows4 (G.take k)) ∧ Below g2 w2 wr) (fun _ i _ => N - (intOf i).toNat)
    case atStart => exact ⟨0, none, 0, Nat.zero_le _, rfl, rfl, World.ownsRow_nil _ _ _ _, Below.refl _ _⟩
    case round =>
      obtain ⟨k, A1, c1, hk, rfl, rfl, hown, hb⟩ := hrel
      have HO := Lib.hid hown; have HB := Lib.hid hb
      clear hown hb
      have HLO : Hid (g2 ≤ wr.heap.size) := Lib.hid (by have h1 := HB.out.size; omega)
      have HRD := Lib.hid (HR2.out.below (by rw [hg2]; exact HB.out))
      by_cases hlt : k < N
      · have hx : k < P.length := by rw [HPL.out]; exact hlt
        obtain ⟨ad, A3, c3, A4, c4, B3, d3, B4, d4, rfl, ⟨k0, k1, k2, k3, k4, k5, k6, k7, k8, k9⟩, _, _, _, _⟩ := rowsP_at HRD.out hx
        have htt := HTT.out P[k] (List.getElem_mem hx)
        have HGT : Hid (G.take (k + 1) = G.take k ++ [gapOf a b P[k]]) := Lib.hid (by
          have hgl : k < G.length := by rw [HGL.out]; exact hlt
          rw [List.take_succ_eq_append_getElem hgl]
          simp [HGD.out])
        generalize P[k] = x at *
        obtain ⟨⟨t, mm, p, l, l'⟩, ⟨yt, ym, yp, yl, yl'⟩⟩ := x
        simp only [gapOf] at k0 k1 k2 k3 k4 k5 k6 k7 k8 k9 htt HGT
        obtain ⟨ht, hyt⟩ := htt
        have HWB : Hid (Below wr.heap.size wr ((wr.alloc (.cells #[.int .i64 t, .int .i64 mm, .int .i64 p, .slice A3 l.length c3, .slice A4 l'.length c4, .int .i64 yt, .int .i64 ym, .int .i64 yp, .slice B3 yl.length d3, .slice B4 yl'.length d4] 85)).alloc (.cells #[.int .i64 mm, .int .i64 p, .int .i64 (t + a), .int .i64 (yt - b)] 62))) := Lib.hid (((Below.refl _ _).alloc (Nat.le_refl _) _).alloc (by simp) _)
        go_wp2_with (at_builtin; refine wpList_pushL _ rfl (.tmp 27) (.tmp 45) 34 rfl g2 62 (.agg #[.int .i64 0, .int .i64 0, .int .i64 0, .int .i64 0]) 4 32 infoGap rfl (by omega) Try.underlying34 A1 k c1 (rows4 (G.take k)) rfl (own_below HO.out (HWB.out)) (some ⟨wr.heap.size + 1, 0, none⟩) 1 1 [.int .i64 mm, .int .i64 p, .int .i64 (t + a), .int .i64 (yt - b)] rfl (by have h := reads_litk (wr.alloc (.cells #[.int .i64 t, .int .i64 mm, .int .i64 p, .slice A3 l.length c3, .slice A4 l'.length c4, .int .i64 yt, .int .i64 ym, .int .i64 yp, .slice B3 yl.length d3, .slice B4 yl'.length d4] 85)) [.int .i64 mm, .int .i64 p, .int .i64 (t + a), .int .i64 (yt - b)] 62 (n := 1) (k := 4) rfl; simp only [World.size_alloc] at h; exact h) (by simp [Value.oneCell']) (by omega) (by omega) (by have := HLO.out; simp; omega) ?_; intro A1' c1' w4 hown4 hg4 hb4 hloc4)
        have HO4 := Lib.hid hown4
        have HB4 : Hid (Below g2 w2 w4) := Lib.hid ((HB.out.trans (HWB.out.mono HLO.out)).trans hb4)
        clear hown4 hg4 hb4 hloc4
        go_roundw
        case rel =>
          refine ⟨k + 1, A1', c1', by omega, by go_num, rfl, ?_, HB4.out⟩
          have e1 : rows4 (G.take (k + 1)) = rows4 (G.take k) ++ [.int .i64 mm, .int .i64 p, .int .i64 (t + a), .int .i64 (yt - b)] := by rw [HGT.out]; simp [rows4, cells4]
          rw [e1]
          exact HO4.out
        case measure => simp [intOf]; omega
      · obtain rfl : k = N := by omega
        have e : G.take k = G := List.take_of_length_le (by rw [HGL.out]; exact Nat.le_refl _)
        rw [e] at HO
        go_wp2
        go_ret2
        subst hlo hg2
        exact ⟨A1, c1, rfl, own_mono HO.out HW2.out.size, HW2.out.trans (HB.out.mono HW2.out.size)⟩
set_option maxHeartbeats 1000000 in
set_option maxRecDepth 100000 in
theorem specTimeGaps_any (A : Option Addr) (n c : Nat) (L : List EntryT) (B : Option Addr) (m d : Nat) (M : List EntryT) (a b : Int) (w : World) (hn : n ≤ 1000000000) (hl : ∀ x ∈ L, lenE 1000000000 x) (h : Reads2 w 5 A n (rowsE L)) (hc : n ≤ c) (hm : m ≤ 1000000000) (hl' : ∀ x ∈ M, lenE 1000000000 x) (h' : Reads2 w 5 B m (rowsE M)) (hd : m ≤ d) :
    Calls Try.prog 20 #[.slice A n c, .slice B m d, .int .i64 a, .int .i64 b] w (Made2 w 62 4 (timeR L M a b).1.length (rows4 (timeR L M a b).1) (timeR L M a b).2) := by
  have c1 := rbGood_any A n c L B m d M a b w hn hl h hm hl' h'
  have HX := Lib.hid (show L.length = n by have := h.len; rw [length_rowsE] at this; omega)
  have HY := Lib.hid (show M.length = m by have := h'.len; rw [length_rowsE] at this; omega)
  cases hk : askE L M a b with
  | false =>
    rw [hk] at c1
    have C1 := Lib.hid c1
    have hr : timeR L M a b = ([], false) := by simp [timeR, hk]
    rw [hr]
    clear c1 hr h h' hl hl' hk
    go_enter Try.func20, Try.ntmps20
    go_wp2_with (go_at_call 70; refine (C1.out).mono ?_; rintro e w1 ⟨rfl, hb⟩; have HB := Lib.hid hb; clear hb)
    go_ret2
    exact ⟨none, 0, rfl, own_start, HB.out⟩
  | true =>
    rw [hk] at c1
    have C1 := Lib.hid c1
    have hr : timeR L M a b = (gapsE M a b L, true) := by simp [timeR, hk]
    rw [hr]
    obtain ⟨hgL, hgM, hab, hbb⟩ := askE_true hk
    have gL := goodE_all hgL
    have gM := goodE_all hgM
    have C2 := Lib.hid (fun W (hW : Below w.heap.size w W) => rbGaps_any A n c L B m d M a b W (by have := gL.2; rw [HX.out] at this; omega) (by have := gM.2; rw [HY.out] at this; omega) gL.1 gM.1 hab hbb (h.below hW) (h'.below hW))
    simp only [gapsE_len]
    clear c1 hr h h' hl hl' hk hgL hgM gL gM
    go_enter Try.func20, Try.ntmps20
    go_wp2_with (first | (go_at_call 70; refine (C1.out).mono ?_; rintro e w1 ⟨rfl, hb⟩; have HB0 := Lib.hid hb; clear hb) | (go_at_call 61; refine (C2.out _ HB0.out).mono ?_; rintro e w2 ⟨A1, p1, A2, p2, hs, rfl, hr2, hb2⟩; have HR2 := Lib.hid hr2; have HB2 := Lib.hid hb2; clear hr2 hb2))
    go_ret2
    exact ⟨A1, p1, rfl, own_mono HR2.out.one HB0.out.size, HB0.out.trans (HB2.out.mono HB0.out.size)⟩

end Go.Proofs.Ytcjmlakmigfkfaa

namespace Go.Proofs.Ytcjmlakmigfkfaa
set_option linter.unusedSimpArgs false
set_option linter.unusedVariables false
open Go.RowKit

def sameB (l l' : List Int) : Bool := decide (l = l')
theorem quiet_then {w w' : World} (h : Quiet w w') (m : Nat) : Quiet w (w'.drewN m) := by
  obtain ⟨n, rfl⟩ := h
  refine ⟨n + m, ?_⟩
  simp [World.drewN, Nat.add_assoc]
theorem drop_eq_iff {l l' : List Int} {k : Nat} (h : k < l.length) (h' : k < l'.length) : (l.drop k = l'.drop k) ↔ (l[k] = l'[k] ∧ l.drop (k + 1) = l'.drop (k + 1)) := by
  rw [List.drop_eq_getElem_cons h, List.drop_eq_getElem_cons h', List.cons.injEq]

set_option maxHeartbeats 1000000 in
theorem l1Same_any (A : Option Addr) (n c : Nat) (l : List Int) (B : Option Addr) (m d : Nat) (l' : List Int) (w : World) (hn : n ≤ 1000000000) (hm : m ≤ 1000000000) (h : Reads w 1 A n (ints l)) (h' : Reads w 1 B m (ints l')) :
    Calls Try.prog 62 #[.slice A n c, .slice B m d] w fun e w' => e = .returned (.bool (sameB l l')) ∧ Quiet w w' := by
  have HX := Lib.hid (show l.length = n by have := h.1; simpa using this)
  have HY := Lib.hid (show l'.length = m by have := h'.1; simpa using this)
  have H := Lib.hid h
  have H' := Lib.hid h'
  clear h h'
  by_cases hnm : n = m
  rotate_left
  · have hr : sameB l l' = false := by
      unfold sameB
      rw [decide_eq_false_iff_not]
      rintro rfl
      exact hnm (HX.out.symm.trans HY.out)
    rw [hr]
    have hne : ((n : Int) == (m : Int)) = false := by rw [beq_eq_false_iff_ne]; omega
    clear hr
    go_enter Try.func62, Try.ntmps62
    go_wp2
    go_ret
    exact ⟨rfl, Quiet.refl⟩
  subst hnm
  go_enter Try.func62, Try.ntmps62
  go_wp2
  go_loopw [13] (fun i wr => ∃ k : Nat, k ≤ n ∧ i = .int .i64 k ∧ (l.drop k = l'.drop k ↔ l = l') ∧ Quiet w wr) (fun i _ => n - (intOf i).toNat)
  case atStart => exact ⟨0, Nat.zero_le _, rfl, by simp, Quiet.refl⟩
  case round =>
    obtain ⟨k, hk, rfl, hrel, q, rfl⟩ := hrel
    have HR := Lib.hid hrel; clear hrel
    by_cases hlt : k < n
    · have hx : k < l.length := by rw [HX.out]; exact hlt
      have hy : k < l'.length := by rw [HY.out]; exact hlt
      have HE := Lib.hid (drop_eq_iff hx hy)
      obtain ⟨ad, u, rfl, hu, c0⟩ := (H.out.drewN q).at_ hlt
      obtain ⟨bd, v, rfl, hv, c1⟩ := (H'.out.drewN q).at_ hlt
      have e0 : u = .int .i64 l[k] := by simp [ints, hx] at hu; exact hu.symm
      have e1 : v = .int .i64 l'[k] := by simp [ints, hy] at hv; exact hv.symm
      subst e0; subst e1
      clear hu hv
      generalize l[k] = x at *
      generalize l'[k] = y at *
      have hi0 : (0 : Int) ≤ (k : Int) := by omega
      have hi1 : (k : Int) < (n : Int) := by omega
      obtain ⟨wo, hwo⟩ : ∃ wo, wo = w.drewN q := ⟨_, rfl⟩
      rw [← hwo] at c0 c1 ⊢
      have HWO : Hid (Quiet w wo) := Lib.hid ⟨q, hwo⟩
      clear hwo
      cases hxy : (x == y) with
      | true =>
        have hxy' : x = y := by simpa using hxy
        have HN : Hid (l.drop (k + 1) = l'.drop (k + 1) ↔ l = l') := Lib.hid (by rw [← HR.out, HE.out]; simp [hxy'])
        clear hxy'
        go_wp2
        go_quiet (fail)
        go_wp2
        go_roundw
        case rel => exact ⟨k + 1, by omega, by go_num, HN.out, quiet_then HWO.out _⟩
        case measure => simp [intOf]; omega
      | false =>
        have hxy' : ¬ x = y := by simpa using hxy
        have HN : Hid (sameB l l' = false) := Lib.hid (by unfold sameB; rw [decide_eq_false_iff_not, ← HR.out, HE.out]; simp [hxy'])
        clear hxy'
        go_wp2
        go_quiet (fail)
        go_wp2
        go_ret
        exact ⟨ret_bool HN.out.symm, quiet_then HWO.out _⟩
    · have hr : sameB l l' = true := by
        unfold sameB
        rw [decide_eq_true_eq, ← HR.out, List.drop_eq_nil_of_le (by rw [HX.out]; omega), List.drop_eq_nil_of_le (by rw [HY.out]; omega)]
      have HN := Lib.hid hr; clear hr
      go_wp2
      go_ret
      exact ⟨ret_bool HN.out.symm, ⟨q, rfl⟩⟩

set_option maxHeartbeats 1000000 in
theorem slicesEqual_any (A : Option Addr) (n c : Nat) (l : List Int) (B : Option Addr) (m d : Nat) (l' : List Int) (w : World) (hn : n ≤ 1000000000) (hm : m ≤ 1000000000) (h : Reads w 1 A n (ints l)) (h' : Reads w 1 B m (ints l')) :
    Calls Try.prog 65 #[.slice A n c, .slice B m d] w fun e w' => e = .returned (.bool (sameB l l')) ∧ Quiet w w' := by
  have HX := Lib.hid (show l.length = n by have := h.1; simpa using this)
  have HY := Lib.hid (show l'.length = m by have := h'.1; simpa using this)
  have H := Lib.hid h
  have H' := Lib.hid h'
  clear h h'
  by_cases hnm : n = m
  rotate_left
  · have hr : sameB l l' = false := by
      unfold sameB
      rw [decide_eq_false_iff_not]
      rintro rfl
      exact hnm (HX.out.symm.trans HY.out)
    rw [hr]
    have hne : ((n : Int) == (m : Int)) = false := by rw [beq_eq_false_iff_ne]; omega
    clear hr
    go_enter Try.func65, Try.ntmps65
    go_wp2
    go_ret
    exact ⟨rfl, Quiet.refl⟩
  subst hnm
  go_enter Try.func65, Try.ntmps65
  go_wp2
  go_loopw [13] (fun i wr => ∃ k : Nat, k ≤ n ∧ i = .int .i64 k ∧ (l.drop k = l'.drop k ↔ l = l') ∧ Quiet w wr) (fun i _ => n - (intOf i).toNat)
  case atStart => exact ⟨0, Nat.zero_le _, rfl, by simp, Quiet.refl⟩
  case round =>
    obtain ⟨k, hk, rfl, hrel, q, rfl⟩ := hrel
    have HR := Lib.hid hrel; clear hrel
    by_cases hlt : k < n
    · have hx : k < l.length := by rw [HX.out]; exact hlt
      have hy : k < l'.length := by rw [HY.out]; exact hlt
      have HE := Lib.hid (drop_eq_iff hx hy)
      obtain ⟨ad, u, rfl, hu, c0⟩ := (H.out.drewN q).at_ hlt
      obtain ⟨bd, v, rfl, hv, c1⟩ := (H'.out.drewN q).at_ hlt
      have e0 : u = .int .i64 l[k] := by simp [ints, hx] at hu; exact hu.symm
      have e1 : v = .int .i64 l'[k] := by simp [ints, hy] at hv; exact hv.symm
      subst e0; subst e1
      clear hu hv
      generalize l[k] = x at *
      generalize l'[k] = y at *
      have hi0 : (0 : Int) ≤ (k : Int) := by omega
      have hi1 : (k : Int) < (n : Int) := by omega
      obtain ⟨wo, hwo⟩ : ∃ wo, wo = w.drewN q := ⟨_, rfl⟩
      rw [← hwo] at c0 c1 ⊢
      have HWO : Hid (Quiet w wo) := Lib.hid ⟨q, hwo⟩
      clear hwo
      cases hxy : (x == y) with
      | true =>
        have hxy' : x = y := by simpa using hxy
        have HN : Hid (l.drop (k + 1) = l'.drop (k + 1) ↔ l = l') := Lib.hid (by rw [← HR.out, HE.out]; simp [hxy'])
        clear hxy'
        go_wp2
        go_quiet (fail)
        go_wp2
        go_roundw
        case rel => exact ⟨k + 1, by omega, by go_num, HN.out, quiet_then HWO.out _⟩
        case measure => simp [intOf]; omega
      | false =>
        have hxy' : ¬ x = y := by simpa using hxy
        have HN : Hid (sameB l l' = false) := Lib.hid (by unfold sameB; rw [decide_eq_false_iff_not, ← HR.out, HE.out]; simp [hxy'])
        clear hxy'
        go_wp2
        go_quiet (fail)
        go_wp2
        go_ret
        exact ⟨ret_bool HN.out.symm, quiet_then HWO.out _⟩
    · have hr : sameB l l' = true := by
        unfold sameB
        rw [decide_eq_true_eq, ← HR.out, List.drop_eq_nil_of_le (by rw [HX.out]; omega), List.drop_eq_nil_of_le (by rw [HY.out]; omega)]
      have HN := Lib.hid hr; clear hr
      go_wp2
      go_ret
      exact ⟨ret_bool HN.out.symm, ⟨q, rfl⟩⟩

set_option maxHeartbeats 1000000 in
theorem sameInts_any (A : Option Addr) (n c : Nat) (l : List Int) (B : Option Addr) (m d : Nat) (l' : List Int) (w : World) (hn : n ≤ 1000000000) (hm : m ≤ 1000000000) (h : Reads w 1 A n (ints l)) (h' : Reads w 1 B m (ints l')) :
    Calls Try.prog 81 #[.slice A n c, .slice B m d] w fun e w' => e = .returned (.bool (sameB l l')) ∧ Quiet w w' := by
  have HX := Lib.hid (show l.length = n by have := h.1; simpa using this)
  have HY := Lib.hid (show l'.length = m by have := h'.1; simpa using this)
  have H := Lib.hid h
  have H' := Lib.hid h'
  clear h h'
  by_cases hnm : n = m
  rotate_left
  · have hr : sameB l l' = false := by
      unfold sameB
      rw [decide_eq_false_iff_not]
      rintro rfl
      exact hnm (HX.out.symm.trans HY.out)
    rw [hr]
    have hne : ((n : Int) == (m : Int)) = false := by rw [beq_eq_false_iff_ne]; omega
    clear hr
    go_enter Try.func81, Try.ntmps81
    go_wp2
    go_ret
    exact ⟨rfl, Quiet.refl⟩
  subst hnm
  go_enter Try.func81, Try.ntmps81
  go_wp2
  go_loopw [13] (fun i wr => ∃ k : Nat, k ≤ n ∧ i = .int .i64 k ∧ (l.drop k = l'.drop k ↔ l = l') ∧ Quiet w wr) (fun i _ => n - (intOf i).toNat)
  case atStart => exact ⟨0, Nat.zero_le _, rfl, by simp, Quiet.refl⟩
  case round =>
    obtain ⟨k, hk, rfl, hrel, q, rfl⟩ := hrel
    have HR := Lib.hid hrel; clear hrel
    by_cases hlt : k < n
    · have hx : k < l.length := by rw [HX.out]; exact hlt
      have hy : k < l'.length := by rw [HY.out]; exact hlt
      have HE := Lib.hid (drop_eq_iff hx hy)
      obtain ⟨ad, u, rfl, hu, c0⟩ := (H.out.drewN q).at_ hlt
      obtain ⟨bd, v, rfl, hv, c1⟩ := (H'.out.drewN q).at_ hlt
      have e0 : u = .int .i64 l[k] := by simp [ints, hx] at hu; exact hu.symm
      have e1 : v = .int .i64 l'[k] := by simp [ints, hy] at hv; exact hv.symm
      subst e0; subst e1
      clear hu hv
      generalize l[k] = x at *
      generalize l'[k] = y at *
      have hi0 : (0 : Int) ≤ (k : Int) := by omega
      have hi1 : (k : Int) < (n : Int) := by omega
      obtain ⟨wo, hwo⟩ : ∃ wo, wo = w.drewN q := ⟨_, rfl⟩
      rw [← hwo] at c0 c1 ⊢
      have HWO : Hid (Quiet w wo) := Lib.hid ⟨q, hwo⟩
      clear hwo
      cases hxy : (x == y) with
      | true =>
        have hxy' : x = y := by simpa using hxy
        have HN : Hid (l.drop (k + 1) = l'.drop (k + 1) ↔ l = l') := Lib.hid (by rw [← HR.out, HE.out]; simp [hxy'])
        clear hxy'
        go_wp2
        go_quiet (fail)
        go_wp2
        go_roundw
        case rel => exact ⟨k + 1, by omega, by go_num, HN.out, quiet_then HWO.out _⟩
        case measure => simp [intOf]; omega
      | false =>
        have hxy' : ¬ x = y := by simpa using hxy
        have HN : Hid (sameB l l' = false) := Lib.hid (by unfold sameB; rw [decide_eq_false_iff_not, ← HR.out, HE.out]; simp [hxy'])
        clear hxy'
        go_wp2
        go_quiet (fail)
        go_wp2
        go_ret
        exact ⟨ret_bool HN.out.symm, quiet_then HWO.out _⟩
    · have hr : sameB l l' = true := by
        unfold sameB
        rw [decide_eq_true_eq, ← HR.out, List.drop_eq_nil_of_le (by rw [HX.out]; omega), List.drop_eq_nil_of_le (by rw [HY.out]; omega)]
      have HN := Lib.hid hr; clear hr
      go_wp2
      go_ret
      exact ⟨ret_bool HN.out.symm, ⟨q, rfl⟩⟩


end Go.Proofs.Ytcjmlakmigfkfaa

namespace Go.Proofs.Ytcjmlakmigfkfaa
set_option linter.unusedSimpArgs false
set_option linter.unusedVariables false
open Go.RowKit

theorem idxP_none {α : Type} {p : α → Bool} {L : List α} : ∀ (i : Int), (∀ x ∈ L, p x = false) → idxP p L i = -1 := by
  induction L with
  | nil => intro i _; rfl
  | cons x r ih =>
    intro i h
    have h1 := h x (by simp)
    simp only [idxP, h1]
    exact ih _ (fun y hy => h y (by simp [hy]))
theorem idxP_neg {α : Type} {p : α → Bool} {L : List α} : ∀ (i : Int), 0 ≤ i → idxP p L i < 0 → ∀ x ∈ L, p x = false := by
  induction L with
  | nil => intro i _ _ x hx; cases hx
  | cons y r ih =>
    intro i hi h x hx
    cases hy : p y with
    | true => simp only [idxP, hy, if_true] at h; omega
    | false =>
      simp only [idxP, hy] at h
      rcases List.mem_cons.1 hx with rfl | hx
      · exact hy
      · exact ih (i + 1) (by omega) h x hx
def ordE (x y : EntryT) : Prop := x.1 ≤ y.1 ∧ ¬ (x.2.1 = y.2.1 ∧ x.2.2.1 = y.2.2.1)
theorem goE_at {W : List EntryT} : ∀ {i : Nat}, goE W (prevE W i) i (W.drop i) = true → ∀ j, (hj : j < W.length) → i ≤ j → okE W (prevE W j) j W[j] = true := by
  intro i h j hj hij
  by_cases hi : i < W.length
  · rw [List.drop_eq_getElem_cons hi] at h
    unfold goE at h
    by_cases ho : okE W (prevE W i) i W[i] = true
    · rw [if_pos ho, ← prevE_succ hi] at h
      by_cases he : i = j
      · subst he; exact ho
      · exact goE_at h j hj (by omega)
    · rw [if_neg ho] at h; cases h
  · omega
termination_by i => W.length - i
theorem goodE_ord {L : List EntryT} (h : goodE L = true) : L.Pairwise ordE := by
  unfold goodE at h
  simp only [Bool.and_eq_true] at h
  have hat := goE_at (W := L) (i := 0) (by simpa [prevE] using h.1)
  have hok : ∀ j, (hj : j < L.length) → (idxP (isE L[j].2.1 L[j].2.2.1) L 0 = (j : Int)) ∧ ∀ i, (hi : i + 1 = j) → (L[i]'(by omega)).1 ≤ L[j].1 := by
    intro j hj
    have h1 := hat j hj (Nat.zero_le _)
    unfold okE at h1
    simp only [Bool.and_eq_true, decide_eq_true_eq] at h1
    refine ⟨h1.2.1, fun i hi => ?_⟩
    subst hi
    have h2 := h1.2.2
    rw [prevE_succ (by omega : i < L.length)] at h2
    simpa using h2
  have hsort : ∀ d i, (hd : i + d < L.length) → (L[i]'(by omega)).1 ≤ (L[i + d]'hd).1 := by
    intro d
    induction d with
    | zero => intro i hd; simp
    | succ d ih =>
      intro i hd
      have h1 := ih i (by omega)
      have h2 := (hok (i + d + 1) (by omega)).2 (i + d) rfl
      simp only [Nat.add_assoc] at h2 ⊢
      omega
  rw [List.pairwise_iff_getElem]
  intro i j hi hj hij
  refine ⟨?_, fun hkey => ?_⟩
  · have := hsort (j - i) i (by omega)
    have e : i + (j - i) = j := by omega
    simp only [e] at this
    exact this
  · have h1 := (hok j hj).1
    have h2 := (idxP_take (p := isE L[j].2.1 L[j].2.2.1) (L := L) 0 hj (by simp [isE]) (by omega)).1 (by rw [h1]; simp)
    have h3 := idxP_neg 0 (by omega) h2 L[i] (by rw [List.mem_take_iff_getElem]; exact ⟨i, by omega, rfl⟩)
    simp [isE, hkey.1, hkey.2] at h3
theorem goE_of {W : List EntryT} (hE : ∀ x ∈ W, entB x = true) (hO : W.Pairwise ordE) : ∀ i, goE W (prevE W i) i (W.drop i) = true := by
  intro i
  by_cases hi : i < W.length
  · have ih := goE_of hE hO (i + 1)
    rw [List.drop_eq_getElem_cons hi]
    unfold goE
    have hP := List.pairwise_iff_getElem.1 hO
    have ho : okE W (prevE W i) i W[i] = true := by
      unfold okE
      simp only [Bool.and_eq_true, decide_eq_true_eq]
      refine ⟨hE _ (List.getElem_mem hi), ?_, ?_⟩
      · have h2 := (idxP_take (p := isE W[i].2.1 W[i].2.2.1) (L := W) 0 hi (by simp [isE]) (by omega)).2 (by
          rw [idxP_none 0 (fun x hx => ?_)]
          · omega
          · obtain ⟨j, hj, rfl⟩ := List.mem_take_iff_getElem.1 hx
            have := (hP j i (by omega) hi (by omega)).2
            cases hb : isE W[i].2.1 W[i].2.2.1 W[j] with
            | false => rfl
            | true => simp [isE] at hb; exact absurd ⟨hb.1, hb.2⟩ this)
        simpa using h2
      · cases i with
        | zero => simp [prevE]
        | succ i =>
          rw [prevE_succ (by omega : i < W.length)]
          simp only [decide_eq_true_eq]
          exact (hP i (i + 1) (by omega) hi (by omega)).1
    rw [if_pos ho, ← prevE_succ hi]
    exact ih
  · rw [List.drop_eq_nil_of_le (by omega)]; rfl
termination_by i => W.length - i
theorem goodE_of {L : List EntryT} (hE : ∀ x ∈ L, entB x = true) (hO : L.Pairwise ordE) (hn : L.length ≤ 30) : goodE L = true := by
  unfold goodE
  simp only [Bool.and_eq_true, decide_eq_true_eq]
  exact ⟨by simpa [prevE] using goE_of hE hO 0, hn⟩
/-- The lost log. -/
def rebOf (a b : Int) (p : EntryT × EntryT) : EntryT := (p.1.1 + a, p.1.2.1, p.1.2.2.1, p.1.2.2.2.2, p.2.2.2.2.1)
def openG (a b : Int) (p : EntryT × EntryT) : Bool := decide (p.1.1 + a ≤ p.2.1 - b)
def rebE (a b : Int) : List (EntryT × EntryT) → List EntryT
  | [] => []
  | p :: r => if openG a b p = true then rebOf a b p :: rebE a b r else rebE a b r
theorem rebE_eq (a b : Int) (P : List (EntryT × EntryT)) : rebE a b P = (P.filter (openG a b)).map (rebOf a b) := by
  induction P with
  | nil => rfl
  | cons p r ih =>
    unfold rebE
    by_cases h : openG a b p = true
    · simp [h, ih]
    · simp [h, ih]
theorem togE_fst (M L : List EntryT) : ((togE M L).map Prod.fst).Sublist L := by
  induction L with
  | nil => simp [togE]
  | cons x r ih =>
    unfold togE
    split
    · exact ih.cons _
    · exact ih.cons_cons _
def rebR (L M : List EntryT) (a b : Int) : List EntryT × Bool := if askE L M a b = true then (rebE a b (togE M L), true) else ([], false)
theorem rebE_good {L M : List EntryT} {a b : Int} (h : askE L M a b = true) : goodE (rebE a b (togE M L)) = true := by
  obtain ⟨hL, hM, ha, hb⟩ := askE_true h
  have gL := goodE_all hL
  have gM := goodE_all hM
  have oL := goodE_ord hL
  have hmem : ∀ x ∈ rebE a b (togE M L), ∃ p ∈ togE M L, openG a b p = true ∧ x = rebOf a b p := by
    intro x hx
    rw [rebE_eq] at hx
    obtain ⟨p, hp, rfl⟩ := List.mem_map.1 hx
    obtain ⟨hp1, hp2⟩ := List.mem_filter.1 hp
    exact ⟨p, hp1, hp2, rfl⟩
  refine goodE_of (fun x hx => ?_) ?_ ?_
  · obtain ⟨p, hp, ho, rfl⟩ := hmem x hx
    have hpm := togE_mem p hp
    have e1 := gL.1 _ hpm.1
    have e2 := gM.1 _ hpm.2
    have t1 := entB_time e1
    have t2 := entB_time e2
    unfold openG at ho
    rw [decide_eq_true_eq] at ho
    unfold entB at e1 e2
    simp only [Bool.and_eq_true] at e1 e2
    unfold entB rebOf
    simp only [Bool.and_eq_true]
    exact ⟨inB_true.2 ⟨by omega, by omega⟩, e1.2.1, e1.2.2.1, e1.2.2.2.2, e2.2.2.2.1⟩
  · rw [rebE_eq, List.pairwise_map]
    have hs : ((togE M L).map Prod.fst).Pairwise ordE := oL.sublist (togE_fst M L)
    rw [List.pairwise_map] at hs
    refine (hs.sublist List.filter_sublist).imp ?_
    intro p q hpq
    unfold ordE at hpq ⊢
    unfold rebOf
    exact ⟨by simp only; omega, hpq.2⟩
  · have h1 := togE_len M L
    have h2 := List.length_filter_le (openG a b) (togE M L)
    rw [rebE_eq]
    simp
    omega
theorem rebR_len (L M : List EntryT) (a b : Int) : (rebR L M a b).1.length ≤ 30 := by
  unfold rebR
  split
  · rename_i h
    exact (goodE_all (rebE_good h)).2
  · simp
/-- Each list of an entry is short. -/
theorem entB_len {x : EntryT} (h : entB x = true) : x.2.2.2.1.length ≤ 8 ∧ x.2.2.2.2.length ≤ 8 := by
  unfold entB sigB at h
  simp only [Bool.and_eq_true] at h
  have h1 := inB_true.1 h.2.2.2.1.1
  have h2 := inB_true.1 h.2.2.2.2.1
  omega
theorem totE_short {L : List EntryT} (h : ∀ x ∈ L, x.2.2.2.1.length ≤ 8 ∧ x.2.2.2.2.length ≤ 8) : totE L ≤ L.length * 16 := by
  induction L with
  | nil => simp [totE]
  | cons x r ih =>
    have h1 := ih (fun y hy => h y (by simp [hy]))
    have h2 := h x (by simp)
    simp only [totE, List.length_cons]
    omega
theorem rebR_all (L M : List EntryT) (a b : Int) : ∀ x ∈ (rebR L M a b).1, x.2.2.2.1.length ≤ 8 ∧ x.2.2.2.2.length ≤ 8 := by
  unfold rebR
  split
  · rename_i h
    exact fun x hx => entB_len ((goodE_all (rebE_good h)).1 x hx)
  · simp
theorem rebR_tot (L M : List EntryT) (a b : Int) : totE (rebR L M a b).1 ≤ 480 := by
  have h1 := totE_short (rebR_all L M a b)
  have h2 := rebR_len L M a b
  omega
end Go.Proofs.Ytcjmlakmigfkfaa

namespace Go.Proofs.Ytcjmlakmigfkfaa
set_option linter.unusedSimpArgs false
set_option linter.unusedVariables false
open Go.RowKit

theorem one_ints (l : List Int) : ∀ u ∈ ints l, u.oneCell' = true := by
  intro u hu
  obtain ⟨x, _, rfl⟩ := List.mem_map.1 hu
  rfl
theorem one_bools (l : List Bool) : ∀ u ∈ bools l, u.oneCell' = true := by
  intro u hu
  obtain ⟨x, _, rfl⟩ := List.mem_map.1 hu
  rfl
theorem l1Own_any (A : Option Addr) (n c : Nat) (xs : List Int) (w : World) (hn : n ≤ 1000000000) (h : Reads w 1 A n (ints xs)) :
    Calls Try.prog 109 #[.slice A n c] w (Made w 3 1 n (ints xs)) := by
  go_enter Try.func109, Try.ntmps109
  go_wp2_with (at_builtin; refine wpList_push _ rfl (.tmp 3) (.tmp 4) 49 rfl w.heap.size 3 (.int .i64 0) 1 8 infoInt rfl (by omega) Try.underlying49 (some ⟨w.heap.size, 0, none⟩) 0 0 [] rfl (World.ownsRow_made w #[] 0 (Nat.le_refl _) (by unfold maxLen; omega) rfl) A n c (ints xs) rfl (h.alloc _) (one_ints xs) (by omega) (by omega) (by simp) ?_; intro A' c' w1 hown1 hg1 hb1)
  go_ret
  rw [Nat.zero_add, List.nil_append] at hown1
  exact ⟨A', c', by simp, hown1, ((Below.refl _ _).alloc (Nat.le_refl _) _).trans hb1⟩
set_option maxRecDepth 100000 in
theorem clone_any (A : Option Addr) (n c : Nat) (xs : List Int) (w : World) (hn : n ≤ 1000000000) (h : Reads w 1 A n (ints xs)) :
    Calls Try.prog 98 #[.slice A n c] w (Made w 3 1 n (ints xs)) := by
  rcases A with _ | ad
  · have hn0 : n = 0 := by
      rcases Nat.eq_zero_or_pos n with h0 | h0
      · exact h0
      · obtain ⟨_, h, _⟩ := h.2 h0
        cases h
    subst hn0
    have hx : ints xs = [] := List.eq_nil_of_length_eq_zero (by simpa using h.1)
    have HX := Lib.hid hx; clear hx h
    have hnil := fun (w : World) (n c n' c' : Nat) => Lib.run_eql_slice_nil (P := Try.prog) w 49 3 none n c n' c' Try.underlying49
    go_enter Try.func98, Try.ntmps98
    go_wp2
    go_ret
    exact ⟨none, 0, rfl, by rw [HX.out]; exact own_start, Below.refl _ _⟩
  · have hnil := fun (w : World) (n c n' c' : Nat) => Lib.run_eql_slice_nil (P := Try.prog) w 49 3 (some ad) n c n' c' Try.underlying49
    go_enter Try.func98, Try.ntmps98
    go_wp2_with (at_builtin; refine wpList_push _ rfl (.tmp 5) (.tmp 6) 49 rfl w.heap.size 3 (.int .i64 0) 1 8 infoInt rfl (by omega) Try.underlying49 (some ⟨w.heap.size, 0, none⟩) 0 0 [] rfl (World.ownsRow_made w #[] 0 (Nat.le_refl _) (by unfold maxLen; omega) rfl) (some ad) n c (ints xs) rfl (h.alloc _) (one_ints xs) (by omega) (by omega) (by simp) ?_; intro A' c' w1 hown1 hg1 hb1)
    go_ret
    rw [Nat.zero_add, List.nil_append] at hown1
    exact ⟨A', c', by simp, hown1, ((Below.refl _ _).alloc (Nat.le_refl _) _).trans hb1⟩
end Go.Proofs.Ytcjmlakmigfkfaa

namespace Go.Proofs.Ytcjmlakmigfkfaa
set_option linter.unusedSimpArgs false
set_option linter.unusedVariables false
open Go.RowKit

theorem Own2.push_entry {w w' : World} {lo hi n n' c c' b3 b4 q3 q4 m3 m4 : Nat} {T : TypeId} {A A' Q3 Q4 : Option Addr} {cs : List Cel} {hs : List Value} {t m p : Int} {l l' : List Int} (h : Own2 w lo hi T 3 5 A n c cs hs) (hh : hi ≤ w.heap.size)
    (h3 : w.ownsRow b3 3 1 (.slice Q3 m3 q3) m3 (ints l)) (h4 : w.ownsRow b4 3 1 (.slice Q4 m4 q4) m4 (ints l')) (e3 : m3 = l.length) (e4 : m4 = l'.length) (hb3 : hi ≤ b3) (hb4 : hi ≤ b4) (hl3 : lo ≤ b3) (hl4 : lo ≤ b4) (hap : Go.Proofs.Ytcjmlakmigfkfaa.apart (.slice Q3 m3 q3) (.slice Q4 m4 q4))
    (hg : w.grownBy w' (Value.slice A n c).ownBlock) (hr : w'.ownsRow lo T 5 (.slice A' n' c') n' (hs ++ [.int .i64 t, .int .i64 m, .int .i64 p, .slice Q3 m3 q3, .slice Q4 m4 q4]))
    (hloc : (Value.slice A' n' c').ownBlock = (Value.slice A n c).ownBlock ∨ (Value.slice A' n' c').ownBlock = some w.heap.size) :
    Own2 w' lo w'.heap.size T 3 5 A' n' c' (cs ++ celEntry (t, m, p, l, l')) (hs ++ [.int .i64 t, .int .i64 m, .int .i64 p, .slice Q3 m3 q3, .slice Q4 m4 q4]) := by
  subst e3 e4
  refine h.push hg hr hloc hh rfl (fun q u x hu hx => ?_) (fun q u hu b hb => ?_) (fun q q' u v hne hu hv => ?_)
  · match q with
    | 0 => simp [celEntry] at hu hx; subst hu; subst hx; rfl
    | 1 => simp [celEntry] at hu hx; subst hu; subst hx; rfl
    | 2 => simp [celEntry] at hu hx; subst hu; subst hx; rfl
    | 3 => simp [celEntry] at hu hx; subst hu; subst hx; exact ⟨Q3, q3, by simp, by simpa using own_mono h3 hl3⟩
    | 4 => simp [celEntry] at hu hx; subst hu; subst hx; exact ⟨Q4, q4, by simp, by simpa using own_mono h4 hl4⟩
    | q + 5 => simp at hu
  · match q with
    | 0 => simp at hu; subst hu; cases hb
    | 1 => simp at hu; subst hu; cases hb
    | 2 => simp at hu; subst hu; cases hb
    | 3 => simp at hu; subst hu; have := h3.lt b hb; omega
    | 4 => simp at hu; subst hu; have := h4.lt b hb; omega
    | q + 5 => simp at hu
  · match q, q' with
    | 0, _ => simp at hu; subst hu; exact .inl rfl
    | 1, _ => simp at hu; subst hu; exact .inl rfl
    | 2, _ => simp at hu; subst hu; exact .inl rfl
    | 3, 0 => simp at hv; subst hv; exact apart_symm (.inl rfl)
    | 3, 1 => simp at hv; subst hv; exact apart_symm (.inl rfl)
    | 3, 2 => simp at hv; subst hv; exact apart_symm (.inl rfl)
    | 3, 3 => exact absurd rfl hne
    | 3, 4 => simp at hu hv; subst hu; subst hv; exact hap
    | 3, q' + 5 => simp at hv
    | 4, 0 => simp at hv; subst hv; exact apart_symm (.inl rfl)
    | 4, 1 => simp at hv; subst hv; exact apart_symm (.inl rfl)
    | 4, 2 => simp at hv; subst hv; exact apart_symm (.inl rfl)
    | 4, 3 => simp at hu hv; subst hu; subst hv; exact apart_symm hap
    | 4, 4 => exact absurd rfl hne
    | 4, q' + 5 => simp at hv
    | q + 5, _ => simp at hu

set_option maxHeartbeats 4000000 in
set_option maxRecDepth 100000 in
theorem lgOwn_any (A : Option Addr) (n c : Nat) (L : List EntryT) (w : World) (hn : n ≤ 1000000000) (hl : ∀ x ∈ L, lenE 1000000000 x) (h : Reads2 w 5 A n (rowsE L)) :
    Calls Try.prog 113 #[.slice A n c] w (Made3 w 51 3 5 n (rowsE L)) := by
  have HX := Lib.hid (show L.length = n by have := h.len; rw [length_rowsE] at this; omega)
  have HL := Lib.hid hl
  have H := Lib.hid h
  clear h hl
  generalize hlo : w.heap.size = lo at *
  go_enter Try.func113, Try.ntmps113
  go_wp2
  go_loopw [3, 8] (fun o i wr => ∃ k : Nat, ∃ O1 o1 hs, k ≤ n ∧ i = .int .i64 k ∧ o = .slice O1 k o1 ∧ Own2 wr lo wr.heap.size 51 3 5 O1 k o1 (rowsE (L.take k)) hs ∧ Below lo w wr) (fun _ i _ => n - (intOf i).toNat)
  case atStart => exact ⟨0, none, 0, [], Nat.zero_le _, rfl, rfl, own2_nil _ _, Below.refl _ _⟩
  case round =>
    obtain ⟨k, O1, o1, hs, hk, rfl, rfl, hown, hb⟩ := hrel
    have HO := Lib.hid hown; have HB := Lib.hid hb
    clear hown hb
    have HLO : Hid (lo ≤ wr.heap.size) := Lib.hid (by rw [← hlo]; exact HB.out.size)
    by_cases hlt : k < n
    · have hx : k < L.length := by rw [HX.out]; exact hlt
      have HTK : Hid (L.take (k + 1) = L.take k ++ [L[k]]) := Lib.hid (List.take_succ_eq_append_getElem hx)
      obtain ⟨ad, A3, c3, A4, c4, rfl, k0, k1, k2, k3, k4, hr3, hr4⟩ := rowsE_at (H.out.below (by rw [hlo]; exact HB.out)) hx
      have HXL := Lib.hid (HL.out L[k] (List.getElem_mem hx))
      generalize L[k] = x at *
      obtain ⟨t, m, p, l, l'⟩ := x
      simp only at k0 k1 k2 k3 k4 hr3 hr4
      have hx3 : l.length ≤ 1000000000 := by have := HXL.out; unfold lenE at this; exact this.1
      have hx4 : l'.length ≤ 1000000000 := by have := HXL.out; unfold lenE at this; exact this.2
      have HR3 := Lib.hid hr3; have HR4 := Lib.hid hr4
      clear hr3 hr4
      have HW1 : Hid (Below wr.heap.size wr (wr.alloc (.cells #[.int .i64 t, .int .i64 m, .int .i64 p, .slice A3 l.length c3, .slice A4 l'.length c4] 51))) := Lib.hid ((Below.refl _ _).alloc (Nat.le_refl _) _)
      have HW1z : Hid ((wr.alloc (.cells #[.int .i64 t, .int .i64 m, .int .i64 p, .slice A3 l.length c3, .slice A4 l'.length c4] 51)).heap.size = wr.heap.size + 1) := Lib.hid (by simp)
      go_wp2_with fail
      refine (l1Own_any A3 l.length c3 l _ hx3 (HR3.out.alloc _)).mono ?_
      rintro e wa ⟨Q3, q3, rfl, ho3, hba⟩
      have HBA := Lib.hid hba; have HO3 := Lib.hid ho3
      have hgb : wr.heap.size < (wr.alloc (.cells #[.int .i64 t, .int .i64 m, .int .i64 p, .slice A3 l.length c3, .slice A4 l'.length c4] 51)).heap.size := by simp
      have hbx : wa.heap[wr.heap.size]? = some (.cells #[.int .i64 t, .int .i64 m, .int .i64 p, .slice A3 l.length c3, .slice A4 l'.length c4] 51) := box_after hba hgb (heap_alloc_new wr _)
      obtain ⟨x0, f0⟩ := box_at hbx (j := 0) rfl
      obtain ⟨x1, f1⟩ := box_at hbx (j := 1) rfl
      obtain ⟨x2, f2⟩ := box_at hbx (j := 2) rfl
      obtain ⟨x3, f3⟩ := box_at hbx (j := 3) rfl
      obtain ⟨x4, f4⟩ := box_at hbx (j := 4) rfl
      have HBX := Lib.hid hbx
      have HGA : Hid (wr.heap.size < wa.heap.size) := Lib.hid (by have := HBA.out.size; omega)
      clear hba ho3 hgb hbx k0 k1 k2 k3 k4
      have HRB : Hid (Reads (wa.setCell ⟨wr.heap.size, 3, none⟩ (.slice Q3 l.length q3)) 1 A4 l'.length (ints l')) := Lib.hid (HR4.out.keep (fun q hq => by
        have h1 : wa.cell? q = wr.cell? q := ((HW1.out.trans (HBA.out.mono HW1.out.size)).cell hq)
        rw [← h1]
        exact World.cell?_of_block (Below.heap_setCell wa ⟨wr.heap.size, 3, none⟩ _ _ (by simp; omega))))
      go_wp2_with fail
      refine (l1Own_any A4 l'.length c4 l' (wa.setCell ⟨wr.heap.size, 3, none⟩ (.slice Q3 l.length q3)) hx4 HRB.out).mono ?_
      rintro e wb ⟨Q4, q4, rfl, ho4, hbb⟩
      have hz3 : (wa.setCell ⟨wr.heap.size, 3, none⟩ (.slice Q3 l.length q3)).heap.size = wa.heap.size := by simp
      rw [hz3] at ho4 hbb
      have HBB := Lib.hid hbb; have HO4 := Lib.hid ho4
      have hbx : wb.heap[wr.heap.size]? = some (.cells #[.int .i64 t, .int .i64 m, .int .i64 p, .slice Q3 l.length q3, .slice A4 l'.length c4] 51) := box_after hbb HGA.out (box_set HBX.out)
      clear x0 x1 x2 x3 x4 f0 f1 f2 f3 f4
      obtain ⟨x0, f0⟩ := box_at hbx (j := 0) rfl
      obtain ⟨x1, f1⟩ := box_at hbx (j := 1) rfl
      obtain ⟨x2, f2⟩ := box_at hbx (j := 2) rfl
      obtain ⟨x3, f3⟩ := box_at hbx (j := 3) rfl
      obtain ⟨x4, f4⟩ := box_at hbx (j := 4) rfl
      clear hbb ho4 hbx hz3
      have HGB : Hid (wa.heap.size ≤ wb.heap.size) := Lib.hid (by have h1 := HBB.out.size; simpa using h1)
      have HLB : Hid (lo ≤ wb.heap.size) := Lib.hid (by have h1 := HGB.out; have h2 := HGA.out; have h3 := HLO.out; omega)
      -- the state behind the last store
      have ow := (HO.out.below (HW1.out.trans (HBA.out.mono HW1.out.size)) (Nat.le_refl _))
      have hnot : ∀ q, owns2 O1 k o1 hs q → q ≠ wr.heap.size := fun q hq => by have := HO.out.lt hq; omega
      have ow3 : Own2 (wa.setCell ⟨wr.heap.size, 3, none⟩ (.slice Q3 l.length q3)) lo wr.heap.size 51 3 5 O1 k o1 (rowsE (L.take k)) hs := ow.setOther (fun hq => hnot _ hq rfl)
      have owb := ow3.below (w' := wb) (by simpa using HBB.out) (by have := HGA.out; simp; omega)
      have ow4 : Own2 (wb.setCell ⟨wr.heap.size, 4, none⟩ (.slice Q4 l'.length q4)) lo wr.heap.size 51 3 5 O1 k o1 (rowsE (L.take k)) hs := owb.setOther (fun hq => hnot _ hq rfl)
      have ow6 : Own2 ((wb.setCell ⟨wr.heap.size, 4, none⟩ (.slice Q4 l'.length q4)).alloc (.cells #[.int .i64 t, .int .i64 m, .int .i64 p, .slice Q3 l.length q3, .slice Q4 l'.length q4] 51)) lo wr.heap.size 51 3 5 O1 k o1 (rowsE (L.take k)) hs := ow4.below ((Below.refl _ _).alloc (Nat.le_refl _) _) (by have := HGB.out; have := HGA.out; simp; omega)
      have HO6 := Lib.hid ow6
      have r3 : ((wb.setCell ⟨wr.heap.size, 4, none⟩ (.slice Q4 l'.length q4)).alloc (.cells #[.int .i64 t, .int .i64 m, .int .i64 p, .slice Q3 l.length q3, .slice Q4 l'.length q4] 51)).ownsRow (wr.heap.size + 1) 3 1 (.slice Q3 l.length q3) l.length (ints l) := own_below (own_setCell (b := wr.heap.size) (i := 4) (u := .slice Q4 l'.length q4) (own_below' (own_setCell (b := wr.heap.size) (i := 3) (u := .slice Q3 l.length q3) (by have := HO3.out; rwa [HW1z.out] at this) (by omega)) HBB.out (by simp)) (by omega)) ((Below.refl _ _).alloc (Nat.le_refl _) _)
      have r4 : ((wb.setCell ⟨wr.heap.size, 4, none⟩ (.slice Q4 l'.length q4)).alloc (.cells #[.int .i64 t, .int .i64 m, .int .i64 p, .slice Q3 l.length q3, .slice Q4 l'.length q4] 51)).ownsRow wa.heap.size 3 1 (.slice Q4 l'.length q4) l'.length (ints l') := own_below (own_setCell (b := wr.heap.size) (i := 4) (u := .slice Q4 l'.length q4) HO4.out HGA.out) ((Below.refl _ _).alloc (Nat.le_refl _) _)
      have hap : apart (.slice Q3 l.length q3) (.slice Q4 l'.length q4) := apart_of_lt (b := wa.heap.size) (fun q hq => (HO3.out.lt q hq).2) (fun q hq => (HO4.out.lt q hq).1)
      have HP3 := Lib.hid r3; have HP4 := Lib.hid r4; have HAP := Lib.hid hap
      have HB6 : Hid (Below lo w ((wb.setCell ⟨wr.heap.size, 4, none⟩ (.slice Q4 l'.length q4)).alloc (.cells #[.int .i64 t, .int .i64 m, .int .i64 p, .slice Q3 l.length q3, .slice Q4 l'.length q4] 51))) := Lib.hid ((((((HB.out.trans (HW1.out.mono HLO.out)).trans (HBA.out.mono (by have := HLO.out; simp; omega))).setCell (p := ⟨wr.heap.size, 3, none⟩) HLO.out _).trans (HBB.out.mono (by have := HGA.out; have := HLO.out; omega))).setCell (p := ⟨wr.heap.size, 4, none⟩) HLO.out _).alloc (by have := HLB.out; simp; omega) _)
      clear ow hnot ow3 owb ow4 ow6 r3 r4 hap
      go_wp2_with (at_builtin; refine wpList_pushL _ rfl (.tmp 20) (.tmp 22) 27 rfl lo 51 _ 5 72 infoEntry rfl (by omega) Try.underlying27 O1 k o1 hs rfl (HO6.out.row) (some ⟨wb.heap.size, 0, none⟩) 1 1 [.int .i64 t, .int .i64 m, .int .i64 p, .slice Q3 l.length q3, .slice Q4 l'.length q4] rfl (by have h := reads_litk (wb.setCell ⟨wr.heap.size, 4, none⟩ (.slice Q4 l'.length q4)) [.int .i64 t, .int .i64 m, .int .i64 p, .slice Q3 l.length q3, .slice Q4 l'.length q4] 51 (n := 1) (k := 5) rfl; simpa using h) (by simp [Value.oneCell']) (by omega) (by omega) (by have := HLB.out; simp; omega) ?_; intro O2 o2 w7 hown7 hg7 hb7 hloc7)
      have HO7 := Lib.hid (HO6.out.push_entry (by have := HGB.out; have := HGA.out; simp; omega) HP3.out HP4.out rfl rfl (by omega) (by have := HGA.out; omega) (by have := HLO.out; omega) (by have := HGA.out; have := HLO.out; omega) HAP.out hg7 hown7 hloc7)
      have HB7 := Lib.hid (HB6.out.trans hb7)
      clear hown7 hg7 hb7 hloc7
      go_roundw
      case rel =>
        refine ⟨k + 1, O2, o2, hs ++ [.int .i64 t, .int .i64 m, .int .i64 p, .slice Q3 l.length q3, .slice Q4 l'.length q4], by omega, by go_num, rfl, ?_, HB7.out⟩
        have e1 : rowsE (L.take (k + 1)) = rowsE (L.take k) ++ celEntry (t, m, p, l, l') := by rw [HTK.out]; simp [rowsE]
        rw [e1]
        exact HO7.out
      case measure => simp [intOf]; omega
    · obtain rfl : k = n := by omega
      have e : L.take k = L := List.take_of_length_le (by rw [HX.out]; exact Nat.le_refl _)
      rw [e] at HO
      go_wp2
      go_ret
      subst hlo
      exact ⟨O1, o1, hs, rfl, HO.out, HB.out⟩
theorem lgIf_any (A : Option Addr) (n c : Nat) (L : List EntryT) (w : World) (hn : n ≤ 1000000000) (hl : ∀ x ∈ L, lenE 1000000000 x) (hg : goodE L = true) (h : Reads2 w 5 A n (rowsE L)) :
    Calls Try.prog 97 #[.slice A n c] w (Made4 w 51 3 5 n (rowsE L) true) := by
  have c1 := lgGood_any A n c L w hn hl h
  rw [hg] at c1
  have C1 := Lib.hid c1
  have C2 := Lib.hid (fun W (hW : Below w.heap.size w W) => lgOwn_any A n c L W hn hl (h.below hW))
  clear c1 h hl hg
  go_enter Try.func97, Try.ntmps97
  go_wp2_with (first | (go_at_call 60; refine (C1.out).mono ?_; rintro e w1 ⟨rfl, hb1⟩; have HB1 := Lib.hid hb1; clear hb1) | (go_at_call 113; refine (C2.out _ HB1.out).mono ?_; rintro e w2 ⟨O1, o1, hs, rfl, ho, hb2⟩; have HO := Lib.hid ho; have HB2 := Lib.hid hb2; clear ho hb2))
  go_ret2
  exact ⟨O1, o1, hs, rfl, HO.out.mono_lo HB1.out.size, HB1.out.trans (HB2.out.mono HB1.out.size)⟩

end Go.Proofs.Ytcjmlakmigfkfaa
