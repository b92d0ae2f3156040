/- Lemmas and contracts of this claim, several texts in one: Entries that lack in a log. FillLog of both packages. OnlyBefore and OnlyBehind of both packages. No conditions. -/
import Derived.Test.YtcjmlakmigfkfaaZFilled4
import Derived.Test.YtcjmlakmigfkfaaZFilled10
import Derived.Test.YtcjmlakmigfkfaaZFilled11
namespace Go.Proofs.Ytcjmlakmigfkfaa
set_option linter.unusedSimpArgs false
set_option linter.unusedVariables false
open Go.RowKit

/-- Is an entry lacking in a rest? -/
def lackE (R : List EntryT) (x : EntryT) : Bool := decide (idxP (isE x.2.1 x.2.2.1) R 0 < 0)
def lostE (R X : List EntryT) : List EntryT := X.filter (lackE R)
theorem lostE_len (R X : List EntryT) : (lostE R X).length ≤ X.length := List.length_filter_le _ _
theorem bel_cellY {w w' : World} {p : Addr} {u : Value} (hb : Below w.heap.size w w') (h : w.cell? p = some u) : w'.cell? p = some u := (hb.cell (World.block_lt_of_cell? w _ h)).trans h
end Go.Proofs.Ytcjmlakmigfkfaa

namespace Go.Proofs.Ytcjmlakmigfkfaa
set_option linter.unusedSimpArgs false
set_option linter.unusedVariables false
open Go.RowKit

def fillR (R L M : List EntryT) (a b : Int) : List EntryT × Bool := if (goodE R && askE L M a b) = true then joinLR R (lostE R (rebE a b (togE M L))) else ([], false)

set_option maxHeartbeats 4000000 in
set_option maxRecDepth 100000 in
theorem implFillLog_any (A0 : Option Addr) (n0 c0 : Nat) (R : List EntryT) (A : Option Addr) (n c : Nat) (L : List EntryT) (B : Option Addr) (m d : Nat) (M : List EntryT) (a b : Int) (w : World) (hn0 : n0 ≤ 1000000000) (hl0 : ∀ x ∈ R, lenE 1000000000 x) (h0 : Reads2 w 5 A0 n0 (rowsE R)) (hc0 : n0 ≤ c0) (hn : n ≤ 1000000000) (hl : ∀ x ∈ L, lenE 1000000000 x) (h : Reads2 w 5 A n (rowsE L)) (hc : n ≤ c) (hm : m ≤ 1000000000) (hl' : ∀ x ∈ M, lenE 1000000000 x) (h' : Reads2 w 5 B m (rowsE M)) (hd : m ≤ d) :
    Calls Try.prog 29 #[.slice A0 n0 c0, .slice A n c, .slice B m d, .int .i64 a, .int .i64 b] w (Made4 w 51 3 5 (fillR R L M a b).1.length (rowsE (fillR R L M a b).1) (fillR R L M a b).2) := by
  have c1 := fun W (hW : Below w.heap.size w W) => isLog_any A0 n0 c0 R W hn0 hc0 hl0 (h0.below hW)
  have c2 := fun W (hW : Below w.heap.size w W) => gapAsked_any A n c L B m d M a b W hn hl (h.below hW) hc hd hm hl' (h'.below hW)
  cases hgR : goodE R with
  | false =>
    have hr : fillR R L M a b = ([], false) := by simp [fillR, hgR]
    rw [hr]
    simp only [hgR] at c1
    have C1 := Lib.hid c1
    clear c1 c2 hr h h' hl hl' h0 hl0 hgR
    go_enter Try.func29, Try.ntmps29
    go_wp2_with fail
    refine (C1.out _ (Below.refl _ _)).mono ?_
    rintro e w1 ⟨rfl, hb⟩
    have HB1 := Lib.hid (hb)
    clear hb
    go_wp2
    go_ret2
    exact ⟨none, 0, [], rfl, own2_nil _ _, HB1.out⟩
  | true =>
    cases hgA : askE L M a b with
    | false =>
      have hr : fillR R L M a b = ([], false) := by simp [fillR, hgA]
      rw [hr]
      simp only [hgR] at c1
      simp only [hgA] at c2
      have C1 := Lib.hid c1
      have C2 := Lib.hid c2
      clear c1 c2 hr h h' hl hl' h0 hl0 hgR hgA
      go_enter Try.func29, Try.ntmps29
      go_wp2_with fail
      refine (C1.out _ (Below.refl _ _)).mono ?_
      rintro e w1 ⟨rfl, hb⟩
      have HB1 := Lib.hid (hb)
      clear hb
      go_wp2_with fail
      refine (C2.out _ HB1.out).mono ?_
      rintro e w2 ⟨rfl, hb⟩
      have HB2 := Lib.hid (HB1.out.trans (hb.mono HB1.out.size))
      clear hb
      go_wp2
      go_ret2
      exact ⟨none, 0, [], rfl, own2_nil _ _, HB2.out⟩
    | true =>
      have hr : fillR R L M a b = joinLR R (lostE R (rebE a b (togE M L))) := by simp [fillR, hgA, hgR]
      rw [hr]
      simp only [hgR] at c1
      simp only [hgA] at c2
      have C1 := Lib.hid c1
      have C2 := Lib.hid c2
      have HRR : rebR L M a b = (rebE a b (togE M L), true) := by simp [rebR, hgA]
      have hx30 := rebR_len L M a b
      have hxl := rebR_all L M a b
      rw [HRR] at hx30 hxl
      simp only at hx30 hxl
      have HXL := Lib.hid hxl
      have HA := Lib.hid hgA
      have H := Lib.hid h
      have H' := Lib.hid h'
      have H0 := Lib.hid h0
      have HL0 := Lib.hid hl0
      clear c1 c2 hr h h' hl hl' h0 hl0 hgR hgA HRR hxl
      have C3 := Lib.hid (fun W (hW : Below w.heap.size w W) => rebuilt_any A n c L B m d M a b W HA.out (H.out.below hW) (H'.out.below hW))
      generalize rebE a b (togE M L) = X at *
      go_enter Try.func29, Try.ntmps29
      go_wp2_with fail
      refine (C1.out _ (Below.refl _ _)).mono ?_
      rintro e w1 ⟨rfl, hb⟩
      have HB1 := Lib.hid (hb)
      clear hb
      go_wp2_with fail
      refine (C2.out _ HB1.out).mono ?_
      rintro e w2 ⟨rfl, hb⟩
      have HB2 := Lib.hid (HB1.out.trans (hb.mono HB1.out.size))
      clear hb
      clear C1 C2 HB1
      go_wp2_with fail
      refine (C3.out _ HB2.out).mono ?_
      rintro e w3 ⟨AX, cX, hsX, rfl, ho, hb⟩
      have HRX := Lib.hid (Reads2.of_own ho)
      have HB3 := Lib.hid (HB2.out.trans (hb.mono HB2.out.size))
      clear ho hb C3 HB2
      go_wp2
      go_loopw [12, 32] (fun ov kv wr => ∃ k g : Nat, ∃ O o1 C hs, k ≤ X.length ∧ kv = .int .i64 k ∧ ov = .slice O g o1 ∧ g ≤ k ∧ C ++ lostE R (X.drop k) = lostE R X ∧ Shd w3 wr w3.heap.size O g o1 C hs ∧ Below w3.heap.size w3 wr) (fun _ kv _ => X.length - (intOf kv).toNat)
      case atStart => exact ⟨0, 0, none, 0, [], [], Nat.zero_le _, rfl, rfl, Nat.zero_le _, rfl, Shd.nil, Below.refl _ _⟩
      case round =>
        obtain ⟨k, g, O, o1, C, hs, hk, rfl, rfl, hgk, hrc, hown, hb⟩ := hrel
        have HRC := Lib.hid hrc; have HO := Lib.hid hown; have HB := Lib.hid hb
        clear hrc hown hb
        have HLO : Hid (w3.heap.size ≤ wr.heap.size) := Lib.hid HB.out.size
        by_cases hlt : k < X.length
        · have HD := Lib.hid (drop_cons hlt)
          obtain ⟨ad, A3, c3, A4, c4, rfl, ⟨k0, k1, k2, k3, k4⟩, r3, r4⟩ := rowsE_at2 HRX.out hlt
          have HR3 := Lib.hid r3; have HR4 := Lib.hid r4
          clear r3 r4
          replace k0 := bel_cell0 HB.out k0; replace k1 := bel_cell0 HB.out k1; replace k2 := bel_cell0 HB.out k2; replace k3 := bel_cell0 HB.out k3; replace k4 := bel_cell0 HB.out k4
          have HLK : Hid (lostE R (X.drop k) = if lackE R X[k] = true then X[k] :: lostE R (X.drop (k + 1)) else lostE R (X.drop (k + 1))) := Lib.hid (by rw [HD.out]; unfold lostE; rw [List.filter_cons])
          generalize X[k] = x at *
          obtain ⟨t, mm, p, l, l'⟩ := x
          simp only at k0 k1 k2 k3 k4 HR3 HR4
          have hla : lackE R (t, mm, p, l, l') = decide (idxP (isE mm p) R 0 < 0) := rfl
          rw [hla] at HLK
          clear hla
          have HWA : Hid (Below wr.heap.size wr (wr.alloc (.cells #[.int .i64 t, .int .i64 mm, .int .i64 p, .slice A3 l.length c3, .slice A4 l'.length c4] 51))) := Lib.hid ((Below.refl _ _).alloc (Nat.le_refl _) _)
          have CF := Lib.hid (entryIndex_any A0 n0 c0 R mm p (wr.alloc (.cells #[.int .i64 t, .int .i64 mm, .int .i64 p, .slice A3 l.length c3, .slice A4 l'.length c4] 51)) hn0 (H0.out.below (HB3.out.trans ((HB.out.trans (HWA.out.mono HB.out.size)).mono HB3.out.size))))
          generalize idxP (isE mm p) R 0 = ix at *
          go_wp2_with fail
          refine (CF.out).mono ?_
          rintro e w4 ⟨rfl, hb4⟩
          have HB4 := Lib.hid hb4
          have HBX := Lib.hid (box_after hb4 (by simp) (heap_alloc_new wr (.cells #[.int .i64 t, .int .i64 mm, .int .i64 p, .slice A3 l.length c3, .slice A4 l'.length c4] 51)))
          have HWB := Lib.hid (HWA.out.trans (hb4.mono (by simp)))
          clear k0 k1 k2 k3 k4 hb4 CF
          have HO4 := Lib.hid (HO.out.below HWB.out)
          have HB5 := Lib.hid (HB.out.trans (HWB.out.mono HB.out.size))
          have HL5 : Hid (w3.heap.size ≤ w4.heap.size) := Lib.hid HB5.out.size
          by_cases hix : ix < 0
          · have HN : Hid (lostE R (X.drop k) = (t, mm, p, l, l') :: lostE R (X.drop (k + 1))) := Lib.hid (by rw [HLK.out]; simp [hix])
            obtain ⟨x0, _⟩ := box_at HBX.out (j := 0) rfl
            obtain ⟨x1, _⟩ := box_at HBX.out (j := 1) rfl
            obtain ⟨x2, _⟩ := box_at HBX.out (j := 2) rfl
            obtain ⟨x3, _⟩ := box_at HBX.out (j := 3) rfl
            obtain ⟨x4, _⟩ := box_at HBX.out (j := 4) rfl
            go_wp2_with (at_builtin; refine wpList_pushL _ rfl (.tmp 43) (.tmp 45) 27 rfl w3.heap.size 51 _ 5 72 infoEntry rfl (by omega) Try.underlying27 O g o1 hs rfl (own_below HO4.out.row ((Below.refl _ _).alloc (Nat.le_refl _) _)) (some ⟨w4.heap.size, 0, none⟩) 1 1 [.int .i64 t, .int .i64 mm, .int .i64 p, .slice A3 l.length c3, .slice A4 l'.length c4] rfl (reads_litk _ _ _ rfl) (by simp [Value.oneCell']) (by omega) (by omega) (by have := HL5.out; simp; omega) ?_; intro O2 o2 w7 hown7 hg7 hb7 hloc7)
            clear x0 x1 x2 x3 x4
            have HO7 := Lib.hid (HO4.out.push (N := [(t, mm, p, l, l')]) hown7 rfl (one_entry HR3.out HR4.out))
            have HB7 : Hid (Below w3.heap.size w3 w7) := Lib.hid ((HB5.out.alloc HL5.out _).trans hb7)
            clear hown7 hg7 hb7 hloc7
            go_roundw
            case rel => exact ⟨k + 1, g + 1, O2, o2, C ++ [(t, mm, p, l, l')], hs ++ [.int .i64 t, .int .i64 mm, .int .i64 p, .slice A3 l.length c3, .slice A4 l'.length c4], by omega, by go_num, rfl, by omega, by rw [← HRC.out, HN.out]; simp, HO7.out, HB7.out⟩
            case measure => simp [intOf]; omega
          · have HN : Hid (lostE R (X.drop k) = lostE R (X.drop (k + 1))) := Lib.hid (by rw [HLK.out]; simp [hix])
            go_wp2
            go_roundw
            case rel => exact ⟨k + 1, g, O, o1, C, hs, by omega, by go_num, rfl, by omega, by rw [← HN.out]; exact HRC.out, HO4.out, HB5.out⟩
            case measure => simp [intOf]; omega
        · obtain rfl : k = X.length := by omega
          have hC := HRC.out
          rw [List.drop_length] at hC
          have hC2 : C = lostE R X := by simpa [lostE] using hC
          subst hC2
          have HLX : Hid (∀ x ∈ lostE R X, lenE 1000000000 x) := Lib.hid (fun x hx => by
            have := HXL.out x (List.mem_filter.1 (show x ∈ X.filter (lackE R) from hx)).1
            unfold lenE
            omega)
          clear hC HRC
          have HBZ := Lib.hid (HB3.out.trans (HB.out.mono HB3.out.size))
          have CJ := Lib.hid (implJoinLogs_any A0 n0 c0 R O g o1 (lostE R X) wr hn0 HL0.out (H0.out.below HBZ.out) hc0 (by omega) HLX.out (HO.out.reads HB.out) (own_cap HO.out.row))
          generalize joinLR R (lostE R X) = J at *
          go_wp2_with fail
          refine (CJ.out).mono ?_
          rintro e w8 ⟨O3, o3, hs3, rfl, ho, hb8⟩
          have HO8 := Lib.hid (ho.mono_lo HBZ.out.size)
          have HB8 := Lib.hid (HBZ.out.trans (hb8.mono HBZ.out.size))
          clear ho hb8
          go_wp2
          go_ret2
          exact ⟨O3, o3, hs3, rfl, HO8.out, HB8.out⟩

set_option maxHeartbeats 4000000 in
set_option maxRecDepth 100000 in
theorem specFillLog_any (A0 : Option Addr) (n0 c0 : Nat) (R : List EntryT) (A : Option Addr) (n c : Nat) (L : List EntryT) (B : Option Addr) (m d : Nat) (M : List EntryT) (a b : Int) (w : World) (hn0 : n0 ≤ 1000000000) (hl0 : ∀ x ∈ R, lenE 1000000000 x) (h0 : Reads2 w 5 A0 n0 (rowsE R)) (hc0 : n0 ≤ c0) (hn : n ≤ 1000000000) (hl : ∀ x ∈ L, lenE 1000000000 x) (h : Reads2 w 5 A n (rowsE L)) (hc : n ≤ c) (hm : m ≤ 1000000000) (hl' : ∀ x ∈ M, lenE 1000000000 x) (h' : Reads2 w 5 B m (rowsE M)) (hd : m ≤ d) :
    Calls Try.prog 28 #[.slice A0 n0 c0, .slice A n c, .slice B m d, .int .i64 a, .int .i64 b] w (Made4 w 51 3 5 (fillR R L M a b).1.length (rowsE (fillR R L M a b).1) (fillR R L M a b).2) := by
  have c1 := fun W (hW : Below w.heap.size w W) => lgGood_any A0 n0 c0 R W hn0 hl0 (h0.below hW)
  have c2 := fun W (hW : Below w.heap.size w W) => rbGood_any A n c L B m d M a b W hn hl (h.below hW) hm hl' (h'.below hW)
  cases hgR : goodE R with
  | false =>
    have hr : fillR R L M a b = ([], false) := by simp [fillR, hgR]
    rw [hr]
    simp only [hgR] at c1
    have C1 := Lib.hid c1
    clear c1 c2 hr h h' hl hl' h0 hl0 hgR
    go_enter Try.func28, Try.ntmps28
    go_wp2_with fail
    refine (C1.out _ (Below.refl _ _)).mono ?_
    rintro e w1 ⟨rfl, hb⟩
    have HB1 := Lib.hid (hb)
    clear hb
    go_wp2
    go_ret2
    exact ⟨none, 0, [], rfl, own2_nil _ _, HB1.out⟩
  | true =>
    cases hgA : askE L M a b with
    | false =>
      have hr : fillR R L M a b = ([], false) := by simp [fillR, hgA]
      rw [hr]
      simp only [hgR] at c1
      simp only [hgA] at c2
      have C1 := Lib.hid c1
      have C2 := Lib.hid c2
      clear c1 c2 hr h h' hl hl' h0 hl0 hgR hgA
      go_enter Try.func28, Try.ntmps28
      go_wp2_with fail
      refine (C1.out _ (Below.refl _ _)).mono ?_
      rintro e w1 ⟨rfl, hb⟩
      have HB1 := Lib.hid (hb)
      clear hb
      go_wp2_with fail
      refine (C2.out _ HB1.out).mono ?_
      rintro e w2 ⟨rfl, hb⟩
      have HB2 := Lib.hid (HB1.out.trans (hb.mono HB1.out.size))
      clear hb
      go_wp2
      go_ret2
      exact ⟨none, 0, [], rfl, own2_nil _ _, HB2.out⟩
    | true =>
      have hr : fillR R L M a b = joinLR R (lostE R (rebE a b (togE M L))) := by simp [fillR, hgA, hgR]
      rw [hr]
      simp only [hgR] at c1
      simp only [hgA] at c2
      have C1 := Lib.hid c1
      have C2 := Lib.hid c2
      have HRR : rebR L M a b = (rebE a b (togE M L), true) := by simp [rebR, hgA]
      have hx30 := rebR_len L M a b
      have hxl := rebR_all L M a b
      rw [HRR] at hx30 hxl
      simp only at hx30 hxl
      have HXL := Lib.hid hxl
      have HA := Lib.hid hgA
      have H := Lib.hid h
      have H' := Lib.hid h'
      have H0 := Lib.hid h0
      have HL0 := Lib.hid hl0
      clear c1 c2 hr h h' hl hl' h0 hl0 hgR hgA HRR hxl
      have C3 := Lib.hid (fun W (hW : Below w.heap.size w W) => rbLog_any A n c L B m d M a b W HA.out (H.out.below hW) (H'.out.below hW))
      generalize rebE a b (togE M L) = X at *
      go_enter Try.func28, Try.ntmps28
      go_wp2_with fail
      refine (C1.out _ (Below.refl _ _)).mono ?_
      rintro e w1 ⟨rfl, hb⟩
      have HB1 := Lib.hid (hb)
      clear hb
      go_wp2_with fail
      refine (C2.out _ HB1.out).mono ?_
      rintro e w2 ⟨rfl, hb⟩
      have HB2 := Lib.hid (HB1.out.trans (hb.mono HB1.out.size))
      clear hb
      clear C1 C2 HB1
      go_wp2_with fail
      refine (C3.out _ HB2.out).mono ?_
      rintro e w3 ⟨AX, cX, hsX, rfl, ho, hb⟩
      have HRX := Lib.hid (Reads2.of_own ho)
      have HB3 := Lib.hid (HB2.out.trans (hb.mono HB2.out.size))
      clear ho hb C3 HB2
      go_wp2
      go_loopw [14, 38] (fun ov kv wr => ∃ k g : Nat, ∃ O o1 C hs, k ≤ X.length ∧ kv = .int .i64 k ∧ ov = .slice O g o1 ∧ g ≤ k ∧ C ++ lostE R (X.drop k) = lostE R X ∧ Shd w3 wr w3.heap.size O g o1 C hs ∧ Below w3.heap.size w3 wr) (fun _ kv _ => X.length - (intOf kv).toNat)
      case atStart => exact ⟨0, 0, none, 0, [], [], Nat.zero_le _, rfl, rfl, Nat.zero_le _, rfl, Shd.nil, Below.refl _ _⟩
      case round =>
        obtain ⟨k, g, O, o1, C, hs, hk, rfl, rfl, hgk, hrc, hown, hb⟩ := hrel
        have HRC := Lib.hid hrc; have HO := Lib.hid hown; have HB := Lib.hid hb
        clear hrc hown hb
        have HLO : Hid (w3.heap.size ≤ wr.heap.size) := Lib.hid HB.out.size
        by_cases hlt : k < X.length
        · have HD := Lib.hid (drop_cons hlt)
          obtain ⟨ad, A3, c3, A4, c4, rfl, ⟨k0, k1, k2, k3, k4⟩, r3, r4⟩ := rowsE_at2 HRX.out hlt
          have HR3 := Lib.hid r3; have HR4 := Lib.hid r4
          clear r3 r4
          replace k0 := bel_cell0 HB.out k0; replace k1 := bel_cell0 HB.out k1; replace k2 := bel_cell0 HB.out k2; replace k3 := bel_cell0 HB.out k3; replace k4 := bel_cell0 HB.out k4
          have HLK : Hid (lostE R (X.drop k) = if lackE R X[k] = true then X[k] :: lostE R (X.drop (k + 1)) else lostE R (X.drop (k + 1))) := Lib.hid (by rw [HD.out]; unfold lostE; rw [List.filter_cons])
          generalize X[k] = x at *
          obtain ⟨t, mm, p, l, l'⟩ := x
          simp only at k0 k1 k2 k3 k4 HR3 HR4
          have hla : lackE R (t, mm, p, l, l') = decide (idxP (isE mm p) R 0 < 0) := rfl
          rw [hla] at HLK
          clear hla
          have HWA : Hid (Below wr.heap.size wr (wr.alloc (.cells #[.int .i64 t, .int .i64 mm, .int .i64 p, .slice A3 l.length c3, .slice A4 l'.length c4] 51))) := Lib.hid ((Below.refl _ _).alloc (Nat.le_refl _) _)
          have CF := Lib.hid (lgFind_any A0 n0 c0 R mm p (wr.alloc (.cells #[.int .i64 t, .int .i64 mm, .int .i64 p, .slice A3 l.length c3, .slice A4 l'.length c4] 51)) hn0 (H0.out.below (HB3.out.trans ((HB.out.trans (HWA.out.mono HB.out.size)).mono HB3.out.size))))
          generalize idxP (isE mm p) R 0 = ix at *
          go_wp2_with fail
          refine (CF.out).mono ?_
          rintro e w4 ⟨rfl, hb4⟩
          have HB4 := Lib.hid hb4
          have HBX := Lib.hid (box_after hb4 (by simp) (heap_alloc_new wr (.cells #[.int .i64 t, .int .i64 mm, .int .i64 p, .slice A3 l.length c3, .slice A4 l'.length c4] 51)))
          have HWB := Lib.hid (HWA.out.trans (hb4.mono (by simp)))
          clear k0 k1 k2 k3 k4 hb4 CF
          have HO4 := Lib.hid (HO.out.below HWB.out)
          have HB5 := Lib.hid (HB.out.trans (HWB.out.mono HB.out.size))
          have HL5 : Hid (w3.heap.size ≤ w4.heap.size) := Lib.hid HB5.out.size
          by_cases hix : ix < 0
          · have HN : Hid (lostE R (X.drop k) = (t, mm, p, l, l') :: lostE R (X.drop (k + 1))) := Lib.hid (by rw [HLK.out]; simp [hix])
            obtain ⟨x0, _⟩ := box_at HBX.out (j := 0) rfl
            obtain ⟨x1, _⟩ := box_at HBX.out (j := 1) rfl
            obtain ⟨x2, _⟩ := box_at HBX.out (j := 2) rfl
            obtain ⟨x3, _⟩ := box_at HBX.out (j := 3) rfl
            obtain ⟨x4, _⟩ := box_at HBX.out (j := 4) rfl
            go_wp2_with (at_builtin; refine wpList_pushL _ rfl (.tmp 49) (.tmp 51) 27 rfl w3.heap.size 51 _ 5 72 infoEntry rfl (by omega) Try.underlying27 O g o1 hs rfl (own_below HO4.out.row ((Below.refl _ _).alloc (Nat.le_refl _) _)) (some ⟨w4.heap.size, 0, none⟩) 1 1 [.int .i64 t, .int .i64 mm, .int .i64 p, .slice A3 l.length c3, .slice A4 l'.length c4] rfl (reads_litk _ _ _ rfl) (by simp [Value.oneCell']) (by omega) (by omega) (by have := HL5.out; simp; omega) ?_; intro O2 o2 w7 hown7 hg7 hb7 hloc7)
            clear x0 x1 x2 x3 x4
            have HO7 := Lib.hid (HO4.out.push (N := [(t, mm, p, l, l')]) hown7 rfl (one_entry HR3.out HR4.out))
            have HB7 : Hid (Below w3.heap.size w3 w7) := Lib.hid ((HB5.out.alloc HL5.out _).trans hb7)
            clear hown7 hg7 hb7 hloc7
            go_roundw
            case rel => exact ⟨k + 1, g + 1, O2, o2, C ++ [(t, mm, p, l, l')], hs ++ [.int .i64 t, .int .i64 mm, .int .i64 p, .slice A3 l.length c3, .slice A4 l'.length c4], by omega, by go_num, rfl, by omega, by rw [← HRC.out, HN.out]; simp, HO7.out, HB7.out⟩
            case measure => simp [intOf]; omega
          · have HN : Hid (lostE R (X.drop k) = lostE R (X.drop (k + 1))) := Lib.hid (by rw [HLK.out]; simp [hix])
            go_wp2
            go_roundw
            case rel => exact ⟨k + 1, g, O, o1, C, hs, by omega, by go_num, rfl, by omega, by rw [← HN.out]; exact HRC.out, HO4.out, HB5.out⟩
            case measure => simp [intOf]; omega
        · obtain rfl : k = X.length := by omega
          have hC := HRC.out
          rw [List.drop_length] at hC
          have hC2 : C = lostE R X := by simpa [lostE] using hC
          subst hC2
          have HLX : Hid (∀ x ∈ lostE R X, lenE 1000000000 x) := Lib.hid (fun x hx => by
            have := HXL.out x (List.mem_filter.1 (show x ∈ X.filter (lackE R) from hx)).1
            unfold lenE
            omega)
          clear hC HRC
          have HBZ := Lib.hid (HB3.out.trans (HB.out.mono HB3.out.size))
          have CJ := Lib.hid (specJoinLogs_any A0 n0 c0 R O g o1 (lostE R X) wr hn0 HL0.out (H0.out.below HBZ.out) hc0 (by omega) HLX.out (HO.out.reads HB.out))
          generalize joinLR R (lostE R X) = J at *
          go_wp2_with fail
          refine (CJ.out).mono ?_
          rintro e w8 ⟨O3, o3, hs3, rfl, ho, hb8⟩
          have HO8 := Lib.hid (ho.mono_lo HBZ.out.size)
          have HB8 := Lib.hid (HBZ.out.trans (hb8.mono HBZ.out.size))
          clear ho hb8
          go_wp2
          go_ret2
          exact ⟨O3, o3, hs3, rfl, HO8.out, HB8.out⟩

end Go.Proofs.Ytcjmlakmigfkfaa

namespace Go.Proofs.Ytcjmlakmigfkfaa
set_option linter.unusedSimpArgs false
set_option linter.unusedVariables false
open Go.RowKit

def onlyE (M L : List EntryT) : List (List Int) := (L.filter (lackE M)).map fun x => [x.2.1, x.2.2.1]
def onlyR (L M : List EntryT) : List (List Int) × Bool := if (goodE L && goodE M) = true then (onlyE M L, true) else ([], false)
/-- OnlyBehind tests its arguments in order and asks the other way round. -/
def behR (L M : List EntryT) : List (List Int) × Bool := if (goodE L && goodE M) = true then (onlyE L M, true) else ([], false)
theorem onlyE_len (M L : List EntryT) : (onlyE M L).length ≤ L.length := by unfold onlyE; rw [List.length_map]; exact List.length_filter_le _ _
theorem onlyE_two (M L : List EntryT) : ∀ l ∈ onlyE M L, l.length = 2 := by
  intro l hl
  obtain ⟨x, _, rfl⟩ := List.mem_map.1 hl
  rfl

set_option maxHeartbeats 4000000 in
set_option maxRecDepth 100000 in
theorem implOnly0_any (A : Option Addr) (n c : Nat) (L : List EntryT) (B : Option Addr) (m d : Nat) (M : List EntryT) (w : World) (hn : n ≤ 1000) (h : Reads2 w 5 A n (rowsE L)) (hm : m ≤ 1000000000) (h' : Reads2 w 5 B m (rowsE M)) :
    Calls Try.prog 86 #[.slice A n c, .slice B m d] w (Made3 w 49 3 1 (onlyE M L).length (rowsIntss (onlyE M L))) := by
  have HX := Lib.hid (show L.length = n by have := h.len; rw [length_rowsE] at this; omega)
  have H := Lib.hid h
  have H' := Lib.hid h'
  clear h h'
  go_enter Try.func86, Try.ntmps86
  go_wp2
  go_loopw [5, 10] (fun ov kv wr => ∃ k g : Nat, ∃ O1 o1 C hs, k ≤ n ∧ kv = .int .i64 k ∧ ov = .slice O1 g o1 ∧ g ≤ k ∧ C.length = g ∧ C ++ onlyE M (L.drop k) = onlyE M L ∧ Own2 wr w.heap.size wr.heap.size 49 3 1 O1 g o1 (rowsIntss C) hs ∧ Below w.heap.size w wr) (fun _ kv _ => n - (intOf kv).toNat)
  case atStart => exact ⟨0, 0, none, 0, [], [], Nat.zero_le _, rfl, rfl, Nat.le_refl _, rfl, rfl, own2_nil _ _, Below.refl _ _⟩
  case round =>
    obtain ⟨k, g, O1, o1, C, hs, hk, rfl, rfl, hgk, hlc, hrc, hown, hb⟩ := hrel
    have HLC := Lib.hid hlc; have HRC := Lib.hid hrc; have HO := Lib.hid hown; have HB := Lib.hid hb
    clear hlc hrc hown hb
    by_cases hlt : k < n
    · have hx : k < L.length := by rw [HX.out]; exact hlt
      have HD := Lib.hid (drop_cons hx)
      obtain ⟨ad, A3, c3, A4, c4, rfl, ⟨k0, k1, k2, k3, k4⟩, _, _⟩ := rowsE_at2 H.out hx
      replace k0 := bel_cellY HB.out k0; replace k1 := bel_cellY HB.out k1; replace k2 := bel_cellY HB.out k2; replace k3 := bel_cellY HB.out k3; replace k4 := bel_cellY HB.out k4
      have HLK : Hid (onlyE M (L.drop k) = if lackE M L[k] = true then [L[k].2.1, L[k].2.2.1] :: onlyE M (L.drop (k + 1)) else onlyE M (L.drop (k + 1))) := Lib.hid (by
        rw [HD.out]
        unfold onlyE
        rw [List.filter_cons]
        split <;> rfl)
      generalize L[k] = x at *
      obtain ⟨t, mm, p, l, l'⟩ := x
      simp only at k0 k1 k2 k3 k4 HLK
      have hla : lackE M (t, mm, p, l, l') = decide (idxP (isE mm p) M 0 < 0) := rfl
      rw [hla] at HLK
      clear hla
      have HWA : Hid (Below wr.heap.size wr (wr.alloc (.cells #[.int .i64 t, .int .i64 mm, .int .i64 p, .slice A3 l.length c3, .slice A4 l'.length c4] 51))) := Lib.hid ((Below.refl _ _).alloc (Nat.le_refl _) _)
      have CF := Lib.hid (entryIndex_any B m d M mm p (wr.alloc (.cells #[.int .i64 t, .int .i64 mm, .int .i64 p, .slice A3 l.length c3, .slice A4 l'.length c4] 51)) hm (H'.out.below (HB.out.trans (HWA.out.mono HB.out.size))))
      generalize idxP (isE mm p) M 0 = ix at *
      go_wp2_with fail
      refine (CF.out).mono ?_
      rintro e wb ⟨rfl, hb4⟩
      have HBX := Lib.hid (box_after hb4 (by simp) (heap_alloc_new wr (.cells #[.int .i64 t, .int .i64 mm, .int .i64 p, .slice A3 l.length c3, .slice A4 l'.length c4] 51)))
      have HWB := Lib.hid (HWA.out.trans (hb4.mono (by simp)))
      clear k0 k1 k2 k3 k4 hb4 CF
      have HOB := Lib.hid ((HO.out.below HWB.out (Nat.le_refl _)).mono_hi HWB.out.size)
      have HBW := Lib.hid (HB.out.trans (HWB.out.mono HB.out.size))
      have HLB : Hid (w.heap.size ≤ wb.heap.size) := Lib.hid HBW.out.size
      by_cases hix : ix < 0
      · have HN : Hid (onlyE M (L.drop k) = [mm, p] :: onlyE M (L.drop (k + 1))) := Lib.hid (by rw [HLK.out]; simp [hix])
        obtain ⟨x1, _⟩ := box_at HBX.out (j := 1) rfl
        obtain ⟨x2, _⟩ := box_at HBX.out (j := 2) rfl
        go_wp2_with (at_builtin; refine wpList_pushL _ rfl (.tmp 21) (.tmp 27) 24 rfl w.heap.size 49 (.slice none 0 0) 1 24 infoInts rfl (by omega) Try.underlying24 O1 g o1 hs rfl ((HOB.out.below (((Below.refl _ _).alloc (Nat.le_refl _) _).alloc (by simp) _) (Nat.le_refl _)).row) (some ⟨wb.heap.size + 1, 0, none⟩) 1 1 [.slice (some ⟨wb.heap.size, 0, none⟩) 2 2] rfl (by have h := reads_new (wb.alloc (.cells #[.int .i64 mm, .int .i64 p] 3)) (.slice (some ⟨wb.heap.size, 0, none⟩) 2 2) 49; simp only [World.size_alloc] at h; exact h) (by simp [Value.oneCell']) (by omega) (by omega) (by have := HLB.out; simp; omega) ?_; intro O2 o2 w7 hown7 hg7 hb7 hloc7)
        clear x1 x2
        have HO7 := Lib.hid (HOB.out.push_row (l := ints [mm, p]) rfl HLB.out (by simp) (by simpa [ints] using hg7) hown7 (by simpa [ints] using hloc7))
        have HB7 : Hid (Below w.heap.size w w7) := Lib.hid ((HBW.out.trans (((Below.refl _ _).alloc HLB.out _).alloc (by have := HLB.out; simp; omega) _)).trans hb7)
        clear hown7 hg7 hb7 hloc7
        go_roundw
        case rel =>
          refine ⟨k + 1, g + 1, O2, o2, C ++ [[mm, p]], _, by omega, by go_num, rfl, by omega, by simp [HLC.out], ?_, by simpa [rowsIntss] using HO7.out, HB7.out⟩
          rw [← HRC.out, HN.out]; simp
        case measure => simp [intOf]; omega
      · have HN : Hid (onlyE M (L.drop k) = onlyE M (L.drop (k + 1))) := Lib.hid (by rw [HLK.out]; simp [hix])
        go_wp2
        go_roundw
        case rel => exact ⟨k + 1, g, O1, o1, C, hs, by omega, by go_num, rfl, by omega, HLC.out, by rw [← HN.out]; exact HRC.out, HOB.out, HBW.out⟩
        case measure => simp [intOf]; omega
    · have HE := Lib.hid (drop_end (xs := L) (k := k) (by rw [HX.out]; omega))
      have hC : C = onlyE M L := by have := HRC.out; rw [HE.out] at this; simpa [onlyE] using this
      subst hC
      have hg : g = (onlyE M L).length := HLC.out.symm
      subst hg
      go_wp2
      go_ret
      exact ⟨O1, o1, hs, rfl, HO.out, HB.out⟩

set_option maxHeartbeats 1000000 in
theorem implOnlyBefore_any (A : Option Addr) (n c : Nat) (L : List EntryT) (B : Option Addr) (m d : Nat) (M : List EntryT) (w : World) (hn : n ≤ 1000000000) (hl : ∀ x ∈ L, lenE 1000000000 x) (h : Reads2 w 5 A n (rowsE L)) (hc : n ≤ c) (hm : m ≤ 1000000000) (hl' : ∀ x ∈ M, lenE 1000000000 x) (h' : Reads2 w 5 B m (rowsE M)) (hd : m ≤ d) :
    Calls Try.prog 46 #[.slice A n c, .slice B m d] w (Made4 w 49 3 1 (onlyR L M).1.length (rowsIntss (onlyR L M).1) (onlyR L M).2) := by
  have c1 := fun W (hW : Below w.heap.size w W) => isLog_any A n c L W hn hc hl (h.below hW)
  have c2 := fun W (hW : Below w.heap.size w W) => isLog_any B m d M W hm hd hl' (h'.below hW)
  cases hgL : goodE L with
  | false =>
    have hr : onlyR L M = ([], false) := by simp [onlyR, hgL]
    rw [hr]
    simp only [hgL] at c1
    have C1 := Lib.hid c1
    clear c1 c2 hr h h' hl hl' hgL
    go_enter Try.func46, Try.ntmps46
    go_wp2_with fail
    refine (C1.out _ (Below.refl _ _)).mono ?_
    rintro e w1 ⟨rfl, hb⟩
    have HB1 := Lib.hid hb
    clear hb
    go_wp2
    go_ret2
    exact ⟨none, 0, [], rfl, own2_nil _ _, HB1.out⟩
  | true =>
    cases hgM : goodE M with
    | false =>
      have hr : onlyR L M = ([], false) := by simp [onlyR, hgM]
      rw [hr]
      simp only [hgL] at c1
      simp only [hgM] at c2
      have C1 := Lib.hid c1
      have C2 := Lib.hid c2
      clear c1 c2 hr h h' hl hl' hgL hgM
      go_enter Try.func46, Try.ntmps46
      go_wp2_with fail
      refine (C1.out _ (Below.refl _ _)).mono ?_
      rintro e w1 ⟨rfl, hb⟩
      have HB1 := Lib.hid hb
      clear hb
      go_wp2_with fail
      refine (C2.out _ HB1.out).mono ?_
      rintro e w2 ⟨rfl, hb⟩
      have HB2 := Lib.hid (HB1.out.trans (hb.mono HB1.out.size))
      clear hb
      go_wp2
      go_ret2
      exact ⟨none, 0, [], rfl, own2_nil _ _, HB2.out⟩
    | true =>
      have hr : onlyR L M = (onlyE M L, true) := by simp [onlyR, hgL, hgM]
      rw [hr]
      have gL := goodE_all hgL
      have gM := goodE_all hgM
      simp only [hgL] at c1
      simp only [hgM] at c2
      have C1 := Lib.hid c1
      have C2 := Lib.hid c2
      have HX := Lib.hid (show L.length = n by have := h.len; rw [length_rowsE] at this; omega)
      have HY := Lib.hid (show M.length = m by have := h'.len; rw [length_rowsE] at this; omega)
      have H := Lib.hid h
      have H' := Lib.hid h'
      clear c1 c2 hr h h' hl hl' hgL hgM
      go_enter Try.func46, Try.ntmps46
      go_wp2_with fail
      refine (C1.out _ (Below.refl _ _)).mono ?_
      rintro e w1 ⟨rfl, hb⟩
      have HB1 := Lib.hid hb
      clear hb
      go_wp2_with fail
      refine (C2.out _ HB1.out).mono ?_
      rintro e w2 ⟨rfl, hb⟩
      have HB2 := Lib.hid (HB1.out.trans (hb.mono HB1.out.size))
      clear hb
      go_wp2_with fail
      refine (implOnly0_any A n c L B m d M w2 (by have := gL.2; rw [HX.out] at this; omega) (H.out.below HB2.out) (by omega) (H'.out.below HB2.out)).mono ?_
      rintro e w3 ⟨O3, o3, hs3, rfl, ho, hb⟩
      have HO3 := Lib.hid (ho.mono_lo HB2.out.size)
      have HB3 := Lib.hid (HB2.out.trans (hb.mono HB2.out.size))
      clear ho hb
      go_wp2
      go_ret2
      exact ⟨O3, o3, hs3, rfl, HO3.out, HB3.out⟩

set_option maxHeartbeats 1000000 in
theorem implOnlyBehind_any (A : Option Addr) (n c : Nat) (L : List EntryT) (B : Option Addr) (m d : Nat) (M : List EntryT) (w : World) (hn : n ≤ 1000000000) (hl : ∀ x ∈ L, lenE 1000000000 x) (h : Reads2 w 5 A n (rowsE L)) (hc : n ≤ c) (hm : m ≤ 1000000000) (hl' : ∀ x ∈ M, lenE 1000000000 x) (h' : Reads2 w 5 B m (rowsE M)) (hd : m ≤ d) :
    Calls Try.prog 48 #[.slice A n c, .slice B m d] w (Made4 w 49 3 1 (behR L M).1.length (rowsIntss (behR L M).1) (behR L M).2) := by
  have c1 := fun W (hW : Below w.heap.size w W) => isLog_any A n c L W hn hc hl (h.below hW)
  have c2 := fun W (hW : Below w.heap.size w W) => isLog_any B m d M W hm hd hl' (h'.below hW)
  cases hgL : goodE L with
  | false =>
    have hr : behR L M = ([], false) := by simp [behR, hgL]
    rw [hr]
    simp only [hgL] at c1
    have C1 := Lib.hid c1
    clear c1 c2 hr h h' hl hl' hgL
    go_enter Try.func48, Try.ntmps48
    go_wp2_with fail
    refine (C1.out _ (Below.refl _ _)).mono ?_
    rintro e w1 ⟨rfl, hb⟩
    have HB1 := Lib.hid hb
    clear hb
    go_wp2
    go_ret2
    exact ⟨none, 0, [], rfl, own2_nil _ _, HB1.out⟩
  | true =>
    cases hgM : goodE M with
    | false =>
      have hr : behR L M = ([], false) := by simp [behR, hgM]
      rw [hr]
      simp only [hgL] at c1
      simp only [hgM] at c2
      have C1 := Lib.hid c1
      have C2 := Lib.hid c2
      clear c1 c2 hr h h' hl hl' hgL hgM
      go_enter Try.func48, Try.ntmps48
      go_wp2_with fail
      refine (C1.out _ (Below.refl _ _)).mono ?_
      rintro e w1 ⟨rfl, hb⟩
      have HB1 := Lib.hid hb
      clear hb
      go_wp2_with fail
      refine (C2.out _ HB1.out).mono ?_
      rintro e w2 ⟨rfl, hb⟩
      have HB2 := Lib.hid (HB1.out.trans (hb.mono HB1.out.size))
      clear hb
      go_wp2
      go_ret2
      exact ⟨none, 0, [], rfl, own2_nil _ _, HB2.out⟩
    | true =>
      have hr : behR L M = (onlyE L M, true) := by simp [behR, hgL, hgM]
      rw [hr]
      have gL := goodE_all hgL
      have gM := goodE_all hgM
      simp only [hgL] at c1
      simp only [hgM] at c2
      have C1 := Lib.hid c1
      have C2 := Lib.hid c2
      have HX := Lib.hid (show L.length = n by have := h.len; rw [length_rowsE] at this; omega)
      have HY := Lib.hid (show M.length = m by have := h'.len; rw [length_rowsE] at this; omega)
      have H := Lib.hid h
      have H' := Lib.hid h'
      clear c1 c2 hr h h' hl hl' hgL hgM
      go_enter Try.func48, Try.ntmps48
      go_wp2_with fail
      refine (C1.out _ (Below.refl _ _)).mono ?_
      rintro e w1 ⟨rfl, hb⟩
      have HB1 := Lib.hid hb
      clear hb
      go_wp2_with fail
      refine (C2.out _ HB1.out).mono ?_
      rintro e w2 ⟨rfl, hb⟩
      have HB2 := Lib.hid (HB1.out.trans (hb.mono HB1.out.size))
      clear hb
      go_wp2_with fail
      refine (implOnly0_any B m d M A n c L w2 (by have := gM.2; rw [HY.out] at this; omega) (H'.out.below HB2.out) (by omega) (H.out.below HB2.out)).mono ?_
      rintro e w3 ⟨O3, o3, hs3, rfl, ho, hb⟩
      have HO3 := Lib.hid (ho.mono_lo HB2.out.size)
      have HB3 := Lib.hid (HB2.out.trans (hb.mono HB2.out.size))
      clear ho hb
      go_wp2
      go_ret2
      exact ⟨O3, o3, hs3, rfl, HO3.out, HB3.out⟩

set_option maxHeartbeats 4000000 in
set_option maxRecDepth 100000 in
theorem specOnly0_any (A : Option Addr) (n c : Nat) (L : List EntryT) (B : Option Addr) (m d : Nat) (M : List EntryT) (w : World) (hn : n ≤ 1000) (h : Reads2 w 5 A n (rowsE L)) (hm : m ≤ 1000000000) (h' : Reads2 w 5 B m (rowsE M)) :
    Calls Try.prog 87 #[.slice A n c, .slice B m d] w (Made3 w 49 3 1 (onlyE M L).length (rowsIntss (onlyE M L))) := by
  have HX := Lib.hid (show L.length = n by have := h.len; rw [length_rowsE] at this; omega)
  have H := Lib.hid h
  have H' := Lib.hid h'
  clear h h'
  go_enter Try.func87, Try.ntmps87
  go_wp2
  go_loopw [5, 10] (fun ov kv wr => ∃ k g : Nat, ∃ O1 o1 C hs, k ≤ n ∧ kv = .int .i64 k ∧ ov = .slice O1 g o1 ∧ g ≤ k ∧ C.length = g ∧ C ++ onlyE M (L.drop k) = onlyE M L ∧ Own2 wr w.heap.size wr.heap.size 49 3 1 O1 g o1 (rowsIntss C) hs ∧ Below w.heap.size w wr) (fun _ kv _ => n - (intOf kv).toNat)
  case atStart => exact ⟨0, 0, none, 0, [], [], Nat.zero_le _, rfl, rfl, Nat.le_refl _, rfl, rfl, own2_nil _ _, Below.refl _ _⟩
  case round =>
    obtain ⟨k, g, O1, o1, C, hs, hk, rfl, rfl, hgk, hlc, hrc, hown, hb⟩ := hrel
    have HLC := Lib.hid hlc; have HRC := Lib.hid hrc; have HO := Lib.hid hown; have HB := Lib.hid hb
    clear hlc hrc hown hb
    by_cases hlt : k < n
    · have hx : k < L.length := by rw [HX.out]; exact hlt
      have HD := Lib.hid (drop_cons hx)
      obtain ⟨ad, A3, c3, A4, c4, rfl, ⟨k0, k1, k2, k3, k4⟩, _, _⟩ := rowsE_at2 H.out hx
      replace k0 := bel_cellY HB.out k0; replace k1 := bel_cellY HB.out k1; replace k2 := bel_cellY HB.out k2; replace k3 := bel_cellY HB.out k3; replace k4 := bel_cellY HB.out k4
      have HLK : Hid (onlyE M (L.drop k) = if lackE M L[k] = true then [L[k].2.1, L[k].2.2.1] :: onlyE M (L.drop (k + 1)) else onlyE M (L.drop (k + 1))) := Lib.hid (by
        rw [HD.out]
        unfold onlyE
        rw [List.filter_cons]
        split <;> rfl)
      generalize L[k] = x at *
      obtain ⟨t, mm, p, l, l'⟩ := x
      simp only at k0 k1 k2 k3 k4 HLK
      have hla : lackE M (t, mm, p, l, l') = decide (idxP (isE mm p) M 0 < 0) := rfl
      rw [hla] at HLK
      clear hla
      have HWA : Hid (Below wr.heap.size wr (wr.alloc (.cells #[.int .i64 t, .int .i64 mm, .int .i64 p, .slice A3 l.length c3, .slice A4 l'.length c4] 51))) := Lib.hid ((Below.refl _ _).alloc (Nat.le_refl _) _)
      have CF := Lib.hid (lgFind_any B m d M mm p (wr.alloc (.cells #[.int .i64 t, .int .i64 mm, .int .i64 p, .slice A3 l.length c3, .slice A4 l'.length c4] 51)) hm (H'.out.below (HB.out.trans (HWA.out.mono HB.out.size))))
      generalize idxP (isE mm p) M 0 = ix at *
      go_wp2_with fail
      refine (CF.out).mono ?_
      rintro e wb ⟨rfl, hb4⟩
      have HBX := Lib.hid (box_after hb4 (by simp) (heap_alloc_new wr (.cells #[.int .i64 t, .int .i64 mm, .int .i64 p, .slice A3 l.length c3, .slice A4 l'.length c4] 51)))
      have HWB := Lib.hid (HWA.out.trans (hb4.mono (by simp)))
      clear k0 k1 k2 k3 k4 hb4 CF
      have HOB := Lib.hid ((HO.out.below HWB.out (Nat.le_refl _)).mono_hi HWB.out.size)
      have HBW := Lib.hid (HB.out.trans (HWB.out.mono HB.out.size))
      have HLB : Hid (w.heap.size ≤ wb.heap.size) := Lib.hid HBW.out.size
      by_cases hix : ix < 0
      · have HN : Hid (onlyE M (L.drop k) = [mm, p] :: onlyE M (L.drop (k + 1))) := Lib.hid (by rw [HLK.out]; simp [hix])
        obtain ⟨x1, _⟩ := box_at HBX.out (j := 1) rfl
        obtain ⟨x2, _⟩ := box_at HBX.out (j := 2) rfl
        go_wp2_with (at_builtin; refine wpList_pushL _ rfl (.tmp 21) (.tmp 27) 24 rfl w.heap.size 49 (.slice none 0 0) 1 24 infoInts rfl (by omega) Try.underlying24 O1 g o1 hs rfl ((HOB.out.below (((Below.refl _ _).alloc (Nat.le_refl _) _).alloc (by simp) _) (Nat.le_refl _)).row) (some ⟨wb.heap.size + 1, 0, none⟩) 1 1 [.slice (some ⟨wb.heap.size, 0, none⟩) 2 2] rfl (by have h := reads_new (wb.alloc (.cells #[.int .i64 mm, .int .i64 p] 3)) (.slice (some ⟨wb.heap.size, 0, none⟩) 2 2) 49; simp only [World.size_alloc] at h; exact h) (by simp [Value.oneCell']) (by omega) (by omega) (by have := HLB.out; simp; omega) ?_; intro O2 o2 w7 hown7 hg7 hb7 hloc7)
        clear x1 x2
        have HO7 := Lib.hid (HOB.out.push_row (l := ints [mm, p]) rfl HLB.out (by simp) (by simpa [ints] using hg7) hown7 (by simpa [ints] using hloc7))
        have HB7 : Hid (Below w.heap.size w w7) := Lib.hid ((HBW.out.trans (((Below.refl _ _).alloc HLB.out _).alloc (by have := HLB.out; simp; omega) _)).trans hb7)
        clear hown7 hg7 hb7 hloc7
        go_roundw
        case rel =>
          refine ⟨k + 1, g + 1, O2, o2, C ++ [[mm, p]], _, by omega, by go_num, rfl, by omega, by simp [HLC.out], ?_, by simpa [rowsIntss] using HO7.out, HB7.out⟩
          rw [← HRC.out, HN.out]; simp
        case measure => simp [intOf]; omega
      · have HN : Hid (onlyE M (L.drop k) = onlyE M (L.drop (k + 1))) := Lib.hid (by rw [HLK.out]; simp [hix])
        go_wp2
        go_roundw
        case rel => exact ⟨k + 1, g, O1, o1, C, hs, by omega, by go_num, rfl, by omega, HLC.out, by rw [← HN.out]; exact HRC.out, HOB.out, HBW.out⟩
        case measure => simp [intOf]; omega
    · have HE := Lib.hid (drop_end (xs := L) (k := k) (by rw [HX.out]; omega))
      have hC : C = onlyE M L := by have := HRC.out; rw [HE.out] at this; simpa [onlyE] using this
      subst hC
      have hg : g = (onlyE M L).length := HLC.out.symm
      subst hg
      go_wp2
      go_ret
      exact ⟨O1, o1, hs, rfl, HO.out, HB.out⟩

set_option maxHeartbeats 1000000 in
theorem specOnlyBefore_any (A : Option Addr) (n c : Nat) (L : List EntryT) (B : Option Addr) (m d : Nat) (M : List EntryT) (w : World) (hn : n ≤ 1000000000) (hl : ∀ x ∈ L, lenE 1000000000 x) (h : Reads2 w 5 A n (rowsE L)) (hc : n ≤ c) (hm : m ≤ 1000000000) (hl' : ∀ x ∈ M, lenE 1000000000 x) (h' : Reads2 w 5 B m (rowsE M)) (hd : m ≤ d) :
    Calls Try.prog 47 #[.slice A n c, .slice B m d] w (Made4 w 49 3 1 (onlyR L M).1.length (rowsIntss (onlyR L M).1) (onlyR L M).2) := by
  have c1 := fun W (hW : Below w.heap.size w W) => lgGood_any A n c L W hn hl (h.below hW)
  have c2 := fun W (hW : Below w.heap.size w W) => lgGood_any B m d M W hm hl' (h'.below hW)
  cases hgL : goodE L with
  | false =>
    have hr : onlyR L M = ([], false) := by simp [onlyR, hgL]
    rw [hr]
    simp only [hgL] at c1
    have C1 := Lib.hid c1
    clear c1 c2 hr h h' hl hl' hgL
    go_enter Try.func47, Try.ntmps47
    go_wp2_with fail
    refine (C1.out _ (Below.refl _ _)).mono ?_
    rintro e w1 ⟨rfl, hb⟩
    have HB1 := Lib.hid hb
    clear hb
    go_wp2
    go_ret2
    exact ⟨none, 0, [], rfl, own2_nil _ _, HB1.out⟩
  | true =>
    cases hgM : goodE M with
    | false =>
      have hr : onlyR L M = ([], false) := by simp [onlyR, hgM]
      rw [hr]
      simp only [hgL] at c1
      simp only [hgM] at c2
      have C1 := Lib.hid c1
      have C2 := Lib.hid c2
      clear c1 c2 hr h h' hl hl' hgL hgM
      go_enter Try.func47, Try.ntmps47
      go_wp2_with fail
      refine (C1.out _ (Below.refl _ _)).mono ?_
      rintro e w1 ⟨rfl, hb⟩
      have HB1 := Lib.hid hb
      clear hb
      go_wp2_with fail
      refine (C2.out _ HB1.out).mono ?_
      rintro e w2 ⟨rfl, hb⟩
      have HB2 := Lib.hid (HB1.out.trans (hb.mono HB1.out.size))
      clear hb
      go_wp2
      go_ret2
      exact ⟨none, 0, [], rfl, own2_nil _ _, HB2.out⟩
    | true =>
      have hr : onlyR L M = (onlyE M L, true) := by simp [onlyR, hgL, hgM]
      rw [hr]
      have gL := goodE_all hgL
      have gM := goodE_all hgM
      simp only [hgL] at c1
      simp only [hgM] at c2
      have C1 := Lib.hid c1
      have C2 := Lib.hid c2
      have HX := Lib.hid (show L.length = n by have := h.len; rw [length_rowsE] at this; omega)
      have HY := Lib.hid (show M.length = m by have := h'.len; rw [length_rowsE] at this; omega)
      have H := Lib.hid h
      have H' := Lib.hid h'
      clear c1 c2 hr h h' hl hl' hgL hgM
      go_enter Try.func47, Try.ntmps47
      go_wp2_with fail
      refine (C1.out _ (Below.refl _ _)).mono ?_
      rintro e w1 ⟨rfl, hb⟩
      have HB1 := Lib.hid hb
      clear hb
      go_wp2_with fail
      refine (C2.out _ HB1.out).mono ?_
      rintro e w2 ⟨rfl, hb⟩
      have HB2 := Lib.hid (HB1.out.trans (hb.mono HB1.out.size))
      clear hb
      go_wp2_with fail
      refine (specOnly0_any A n c L B m d M w2 (by have := gL.2; rw [HX.out] at this; omega) (H.out.below HB2.out) (by omega) (H'.out.below HB2.out)).mono ?_
      rintro e w3 ⟨O3, o3, hs3, rfl, ho, hb⟩
      have HO3 := Lib.hid (ho.mono_lo HB2.out.size)
      have HB3 := Lib.hid (HB2.out.trans (hb.mono HB2.out.size))
      clear ho hb
      go_wp2
      go_ret2
      exact ⟨O3, o3, hs3, rfl, HO3.out, HB3.out⟩

set_option maxHeartbeats 1000000 in
theorem specOnlyBehind_any (A : Option Addr) (n c : Nat) (L : List EntryT) (B : Option Addr) (m d : Nat) (M : List EntryT) (w : World) (hn : n ≤ 1000000000) (hl : ∀ x ∈ L, lenE 1000000000 x) (h : Reads2 w 5 A n (rowsE L)) (hc : n ≤ c) (hm : m ≤ 1000000000) (hl' : ∀ x ∈ M, lenE 1000000000 x) (h' : Reads2 w 5 B m (rowsE M)) (hd : m ≤ d) :
    Calls Try.prog 49 #[.slice A n c, .slice B m d] w (Made4 w 49 3 1 (behR L M).1.length (rowsIntss (behR L M).1) (behR L M).2) := by
  have c1 := fun W (hW : Below w.heap.size w W) => lgGood_any A n c L W hn hl (h.below hW)
  have c2 := fun W (hW : Below w.heap.size w W) => lgGood_any B m d M W hm hl' (h'.below hW)
  cases hgL : goodE L with
  | false =>
    have hr : behR L M = ([], false) := by simp [behR, hgL]
    rw [hr]
    simp only [hgL] at c1
    have C1 := Lib.hid c1
    clear c1 c2 hr h h' hl hl' hgL
    go_enter Try.func49, Try.ntmps49
    go_wp2_with fail
    refine (C1.out _ (Below.refl _ _)).mono ?_
    rintro e w1 ⟨rfl, hb⟩
    have HB1 := Lib.hid hb
    clear hb
    go_wp2
    go_ret2
    exact ⟨none, 0, [], rfl, own2_nil _ _, HB1.out⟩
  | true =>
    cases hgM : goodE M with
    | false =>
      have hr : behR L M = ([], false) := by simp [behR, hgM]
      rw [hr]
      simp only [hgL] at c1
      simp only [hgM] at c2
      have C1 := Lib.hid c1
      have C2 := Lib.hid c2
      clear c1 c2 hr h h' hl hl' hgL hgM
      go_enter Try.func49, Try.ntmps49
      go_wp2_with fail
      refine (C1.out _ (Below.refl _ _)).mono ?_
      rintro e w1 ⟨rfl, hb⟩
      have HB1 := Lib.hid hb
      clear hb
      go_wp2_with fail
      refine (C2.out _ HB1.out).mono ?_
      rintro e w2 ⟨rfl, hb⟩
      have HB2 := Lib.hid (HB1.out.trans (hb.mono HB1.out.size))
      clear hb
      go_wp2
      go_ret2
      exact ⟨none, 0, [], rfl, own2_nil _ _, HB2.out⟩
    | true =>
      have hr : behR L M = (onlyE L M, true) := by simp [behR, hgL, hgM]
      rw [hr]
      have gL := goodE_all hgL
      have gM := goodE_all hgM
      simp only [hgL] at c1
      simp only [hgM] at c2
      have C1 := Lib.hid c1
      have C2 := Lib.hid c2
      have HX := Lib.hid (show L.length = n by have := h.len; rw [length_rowsE] at this; omega)
      have HY := Lib.hid (show M.length = m by have := h'.len; rw [length_rowsE] at this; omega)
      have H := Lib.hid h
      have H' := Lib.hid h'
      clear c1 c2 hr h h' hl hl' hgL hgM
      go_enter Try.func49, Try.ntmps49
      go_wp2_with fail
      refine (C1.out _ (Below.refl _ _)).mono ?_
      rintro e w1 ⟨rfl, hb⟩
      have HB1 := Lib.hid hb
      clear hb
      go_wp2_with fail
      refine (C2.out _ HB1.out).mono ?_
      rintro e w2 ⟨rfl, hb⟩
      have HB2 := Lib.hid (HB1.out.trans (hb.mono HB1.out.size))
      clear hb
      go_wp2_with fail
      refine (specOnly0_any B m d M A n c L w2 (by have := gM.2; rw [HY.out] at this; omega) (H'.out.below HB2.out) (by omega) (H.out.below HB2.out)).mono ?_
      rintro e w3 ⟨O3, o3, hs3, rfl, ho, hb⟩
      have HO3 := Lib.hid (ho.mono_lo HB2.out.size)
      have HB3 := Lib.hid (HB2.out.trans (hb.mono HB2.out.size))
      clear ho hb
      go_wp2
      go_ret2
      exact ⟨O3, o3, hs3, rfl, HO3.out, HB3.out⟩

end Go.Proofs.Ytcjmlakmigfkfaa
