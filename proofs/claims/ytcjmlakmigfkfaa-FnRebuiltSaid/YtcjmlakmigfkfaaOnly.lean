/- OnlyBefore and OnlyBehind of both packages. No conditions. -/
import Derived.Test.YtcjmlakmigfkfaaLack
import Derived.Test.YtcjmlakmigfkfaaLog15
import Derived.Test.YtcjmlakmigfkfaaLog11
namespace Go.Proofs.Ytcjmlakmigfkfaa
set_option linter.unusedSimpArgs false
set_option linter.unusedVariables false
open Go.RowKit

def onlyE (M L : List EntryT) : List (List Int) := (L.filter (lackE M)).map fun x => [x.2.1, x.2.2.1]
def onlyR (L M : List EntryT) : List (List Int) × Bool := if (goodE L && goodE M) = true then (onlyE M L, true) else ([], false)
/-- OnlyBehind tests its arguments in order and asks the other way round. -/
def behR (L M : List EntryT) : List (List Int) × Bool := if (goodE L && goodE M) = true then (onlyE L M, true) else ([], false)
theorem onlyE_len (M L : List EntryT) : (onlyE M L).length ≤ L.length := by unfold onlyE; rw [List.length_map]; exact List.length_filter_le _ _
theorem onlyE_two (M L : List EntryT) : ∀ l ∈ onlyE M L, l.length = 2 := by
  intro l hl
  obtain ⟨x, _, rfl⟩ := List.mem_map.1 hl
  rfl

set_option maxHeartbeats 4000000 in
set_option maxRecDepth 100000 in
theorem implOnly0_any (A : Option Addr) (n c : Nat) (L : List EntryT) (B : Option Addr) (m d : Nat) (M : List EntryT) (w : World) (hn : n ≤ 1000) (h : Reads2 w 5 A n (rowsE L)) (hm : m ≤ 1000000000) (h' : Reads2 w 5 B m (rowsE M)) :
    Calls Try.prog 86 #[.slice A n c, .slice B m d] w (Made3 w 49 3 1 (onlyE M L).length (rowsIntss (onlyE M L))) := by
  have HX := Lib.hid (show L.length = n by have := h.len; rw [length_rowsE] at this; omega)
  have H := Lib.hid h
  have H' := Lib.hid h'
  clear h h'
  go_enter Try.func86, Try.ntmps86
  go_wp2
  go_loopw [5, 10] (fun ov kv wr => ∃ k g : Nat, ∃ O1 o1 C hs, k ≤ n ∧ kv = .int .i64 k ∧ ov = .slice O1 g o1 ∧ g ≤ k ∧ C.length = g ∧ C ++ onlyE M (L.drop k) = onlyE M L ∧ Own2 wr w.heap.size wr.heap.size 49 3 1 O1 g o1 (rowsIntss C) hs ∧ Below w.heap.size w wr) (fun _ kv _ => n - (intOf kv).toNat)
  case atStart => exact ⟨0, 0, none, 0, [], [], Nat.zero_le _, rfl, rfl, Nat.le_refl _, rfl, rfl, own2_nil _ _, Below.refl _ _⟩
  case round =>
    obtain ⟨k, g, O1, o1, C, hs, hk, rfl, rfl, hgk, hlc, hrc, hown, hb⟩ := hrel
    have HLC := Lib.hid hlc; have HRC := Lib.hid hrc; have HO := Lib.hid hown; have HB := Lib.hid hb
    clear hlc hrc hown hb
    by_cases hlt : k < n
    · have hx : k < L.length := by rw [HX.out]; exact hlt
      have HD := Lib.hid (drop_cons hx)
      obtain ⟨ad, A3, c3, A4, c4, rfl, ⟨k0, k1, k2, k3, k4⟩, _, _⟩ := rowsE_at2 H.out hx
      replace k0 := bel_cellY HB.out k0; replace k1 := bel_cellY HB.out k1; replace k2 := bel_cellY HB.out k2; replace k3 := bel_cellY HB.out k3; replace k4 := bel_cellY HB.out k4
      have HLK : Hid (onlyE M (L.drop k) = if lackE M L[k] = true then [L[k].2.1, L[k].2.2.1] :: onlyE M (L.drop (k + 1)) else onlyE M (L.drop (k + 1))) := Lib.hid (by
        rw [HD.out]
        unfold onlyE
        rw [List.filter_cons]
        split <;> rfl)
      generalize L[k] = x at *
      obtain ⟨t, mm, p, l, l'⟩ := x
      simp only at k0 k1 k2 k3 k4 HLK
      have hla : lackE M (t, mm, p, l, l') = decide (idxP (isE mm p) M 0 < 0) := rfl
      rw [hla] at HLK
      clear hla
      have HWA : Hid (Below wr.heap.size wr (wr.alloc (.cells #[.int .i64 t, .int .i64 mm, .int .i64 p, .slice A3 l.length c3, .slice A4 l'.length c4] 51))) := Lib.hid ((Below.refl _ _).alloc (Nat.le_refl _) _)
      have CF := Lib.hid (entryIndex_any B m d M mm p (wr.alloc (.cells #[.int .i64 t, .int .i64 mm, .int .i64 p, .slice A3 l.length c3, .slice A4 l'.length c4] 51)) hm (H'.out.below (HB.out.trans (HWA.out.mono HB.out.size))))
      generalize idxP (isE mm p) M 0 = ix at *
      go_wp2_with fail
      refine (CF.out).mono ?_
      rintro e wb ⟨rfl, hb4⟩
      have HBX := Lib.hid (box_after hb4 (by simp) (heap_alloc_new wr (.cells #[.int .i64 t, .int .i64 mm, .int .i64 p, .slice A3 l.length c3, .slice A4 l'.length c4] 51)))
      have HWB := Lib.hid (HWA.out.trans (hb4.mono (by simp)))
      clear k0 k1 k2 k3 k4 hb4 CF
      have HOB := Lib.hid ((HO.out.below HWB.out (Nat.le_refl _)).mono_hi HWB.out.size)
      have HBW := Lib.hid (HB.out.trans (HWB.out.mono HB.out.size))
      have HLB : Hid (w.heap.size ≤ wb.heap.size) := Lib.hid HBW.out.size
      by_cases hix : ix < 0
      · have HN : Hid (onlyE M (L.drop k) = [mm, p] :: onlyE M (L.drop (k + 1))) := Lib.hid (by rw [HLK.out]; simp [hix])
        obtain ⟨x1, _⟩ := box_at HBX.out (j := 1) rfl
        obtain ⟨x2, _⟩ := box_at HBX.out (j := 2) rfl
        go_wp2_with (at_builtin; refine wpList_pushL _ rfl (.tmp 21) (.tmp 27) 24 rfl w.heap.size 49 (.slice none 0 0) 1 24 infoInts rfl (by omega) Try.underlying24 O1 g o1 hs rfl ((HOB.out.below (((Below.refl _ _).alloc (Nat.le_refl _) _).alloc (by simp) _) (Nat.le_refl _)).row) (some ⟨wb.heap.size + 1, 0, none⟩) 1 1 [.slice (some ⟨wb.heap.size, 0, none⟩) 2 2] rfl (by have h := reads_new (wb.alloc (.cells #[.int .i64 mm, .int .i64 p] 3)) (.slice (some ⟨wb.heap.size, 0, none⟩) 2 2) 49; simp only [World.size_alloc] at h; exact h) (by simp [Value.oneCell']) (by omega) (by omega) (by have := HLB.out; simp; omega) ?_; intro O2 o2 w7 hown7 hg7 hb7 hloc7)
        clear x1 x2
        have HO7 := Lib.hid (HOB.out.push_row (l := ints [mm, p]) rfl HLB.out (by simp) (by simpa [ints] using hg7) hown7 (by simpa [ints] using hloc7))
        have HB7 : Hid (Below w.heap.size w w7) := Lib.hid ((HBW.out.trans (((Below.refl _ _).alloc HLB.out _).alloc (by have := HLB.out; simp; omega) _)).trans hb7)
        clear hown7 hg7 hb7 hloc7
        go_roundw
        case rel =>
          refine ⟨k + 1, g + 1, O2, o2, C ++ [[mm, p]], _, by omega, by go_num, rfl, by omega, by simp [HLC.out], ?_, by simpa [rowsIntss] using HO7.out, HB7.out⟩
          rw [← HRC.out, HN.out]; simp
        case measure => simp [intOf]; omega
      · have HN : Hid (onlyE M (L.drop k) = onlyE M (L.drop (k + 1))) := Lib.hid (by rw [HLK.out]; simp [hix])
        go_wp2
        go_roundw
        case rel => exact ⟨k + 1, g, O1, o1, C, hs, by omega, by go_num, rfl, by omega, HLC.out, by rw [← HN.out]; exact HRC.out, HOB.out, HBW.out⟩
        case measure => simp [intOf]; omega
    · have HE := Lib.hid (drop_end (xs := L) (k := k) (by rw [HX.out]; omega))
      have hC : C = onlyE M L := by have := HRC.out; rw [HE.out] at this; simpa [onlyE] using this
      subst hC
      have hg : g = (onlyE M L).length := HLC.out.symm
      subst hg
      go_wp2
      go_ret
      exact ⟨O1, o1, hs, rfl, HO.out, HB.out⟩

set_option maxHeartbeats 1000000 in
theorem implOnlyBefore_any (A : Option Addr) (n c : Nat) (L : List EntryT) (B : Option Addr) (m d : Nat) (M : List EntryT) (w : World) (hn : n ≤ 1000000000) (hl : ∀ x ∈ L, lenE 1000000000 x) (h : Reads2 w 5 A n (rowsE L)) (hc : n ≤ c) (hm : m ≤ 1000000000) (hl' : ∀ x ∈ M, lenE 1000000000 x) (h' : Reads2 w 5 B m (rowsE M)) (hd : m ≤ d) :
    Calls Try.prog 46 #[.slice A n c, .slice B m d] w (Made4 w 49 3 1 (onlyR L M).1.length (rowsIntss (onlyR L M).1) (onlyR L M).2) := by
  have c1 := fun W (hW : Below w.heap.size w W) => isLog_any A n c L W hn hc hl (h.below hW)
  have c2 := fun W (hW : Below w.heap.size w W) => isLog_any B m d M W hm hd hl' (h'.below hW)
  cases hgL : goodE L with
  | false =>
    have hr : onlyR L M = ([], false) := by simp [onlyR, hgL]
    rw [hr]
    simp only [hgL] at c1
    have C1 := Lib.hid c1
    clear c1 c2 hr h h' hl hl' hgL
    go_enter Try.func46, Try.ntmps46
    go_wp2_with fail
    refine (C1.out _ (Below.refl _ _)).mono ?_
    rintro e w1 ⟨rfl, hb⟩
    have HB1 := Lib.hid hb
    clear hb
    go_wp2
    go_ret2
    exact ⟨none, 0, [], rfl, own2_nil _ _, HB1.out⟩
  | true =>
    cases hgM : goodE M with
    | false =>
      have hr : onlyR L M = ([], false) := by simp [onlyR, hgM]
      rw [hr]
      simp only [hgL] at c1
      simp only [hgM] at c2
      have C1 := Lib.hid c1
      have C2 := Lib.hid c2
      clear c1 c2 hr h h' hl hl' hgL hgM
      go_enter Try.func46, Try.ntmps46
      go_wp2_with fail
      refine (C1.out _ (Below.refl _ _)).mono ?_
      rintro e w1 ⟨rfl, hb⟩
      have HB1 := Lib.hid hb
      clear hb
      go_wp2_with fail
      refine (C2.out _ HB1.out).mono ?_
      rintro e w2 ⟨rfl, hb⟩
      have HB2 := Lib.hid (HB1.out.trans (hb.mono HB1.out.size))
      clear hb
      go_wp2
      go_ret2
      exact ⟨none, 0, [], rfl, own2_nil _ _, HB2.out⟩
    | true =>
      have hr : onlyR L M = (onlyE M L, true) := by simp [onlyR, hgL, hgM]
      rw [hr]
      have gL := goodE_all hgL
      have gM := goodE_all hgM
      simp only [hgL] at c1
      simp only [hgM] at c2
      have C1 := Lib.hid c1
      have C2 := Lib.hid c2
      have HX := Lib.hid (show L.length = n by have := h.len; rw [length_rowsE] at this; omega)
      have HY := Lib.hid (show M.length = m by have := h'.len; rw [length_rowsE] at this; omega)
      have H := Lib.hid h
      have H' := Lib.hid h'
      clear c1 c2 hr h h' hl hl' hgL hgM
      go_enter Try.func46, Try.ntmps46
      go_wp2_with fail
      refine (C1.out _ (Below.refl _ _)).mono ?_
      rintro e w1 ⟨rfl, hb⟩
      have HB1 := Lib.hid hb
      clear hb
      go_wp2_with fail
      refine (C2.out _ HB1.out).mono ?_
      rintro e w2 ⟨rfl, hb⟩
      have HB2 := Lib.hid (HB1.out.trans (hb.mono HB1.out.size))
      clear hb
      go_wp2_with fail
      refine (implOnly0_any A n c L B m d M w2 (by have := gL.2; rw [HX.out] at this; omega) (H.out.below HB2.out) (by omega) (H'.out.below HB2.out)).mono ?_
      rintro e w3 ⟨O3, o3, hs3, rfl, ho, hb⟩
      have HO3 := Lib.hid (ho.mono_lo HB2.out.size)
      have HB3 := Lib.hid (HB2.out.trans (hb.mono HB2.out.size))
      clear ho hb
      go_wp2
      go_ret2
      exact ⟨O3, o3, hs3, rfl, HO3.out, HB3.out⟩

set_option maxHeartbeats 1000000 in
theorem implOnlyBehind_any (A : Option Addr) (n c : Nat) (L : List EntryT) (B : Option Addr) (m d : Nat) (M : List EntryT) (w : World) (hn : n ≤ 1000000000) (hl : ∀ x ∈ L, lenE 1000000000 x) (h : Reads2 w 5 A n (rowsE L)) (hc : n ≤ c) (hm : m ≤ 1000000000) (hl' : ∀ x ∈ M, lenE 1000000000 x) (h' : Reads2 w 5 B m (rowsE M)) (hd : m ≤ d) :
    Calls Try.prog 48 #[.slice A n c, .slice B m d] w (Made4 w 49 3 1 (behR L M).1.length (rowsIntss (behR L M).1) (behR L M).2) := by
  have c1 := fun W (hW : Below w.heap.size w W) => isLog_any A n c L W hn hc hl (h.below hW)
  have c2 := fun W (hW : Below w.heap.size w W) => isLog_any B m d M W hm hd hl' (h'.below hW)
  cases hgL : goodE L with
  | false =>
    have hr : behR L M = ([], false) := by simp [behR, hgL]
    rw [hr]
    simp only [hgL] at c1
    have C1 := Lib.hid c1
    clear c1 c2 hr h h' hl hl' hgL
    go_enter Try.func48, Try.ntmps48
    go_wp2_with fail
    refine (C1.out _ (Below.refl _ _)).mono ?_
    rintro e w1 ⟨rfl, hb⟩
    have HB1 := Lib.hid hb
    clear hb
    go_wp2
    go_ret2
    exact ⟨none, 0, [], rfl, own2_nil _ _, HB1.out⟩
  | true =>
    cases hgM : goodE M with
    | false =>
      have hr : behR L M = ([], false) := by simp [behR, hgM]
      rw [hr]
      simp only [hgL] at c1
      simp only [hgM] at c2
      have C1 := Lib.hid c1
      have C2 := Lib.hid c2
      clear c1 c2 hr h h' hl hl' hgL hgM
      go_enter Try.func48, Try.ntmps48
      go_wp2_with fail
      refine (C1.out _ (Below.refl _ _)).mono ?_
      rintro e w1 ⟨rfl, hb⟩
      have HB1 := Lib.hid hb
      clear hb
      go_wp2_with fail
      refine (C2.out _ HB1.out).mono ?_
      rintro e w2 ⟨rfl, hb⟩
      have HB2 := Lib.hid (HB1.out.trans (hb.mono HB1.out.size))
      clear hb
      go_wp2
      go_ret2
      exact ⟨none, 0, [], rfl, own2_nil _ _, HB2.out⟩
    | true =>
      have hr : behR L M = (onlyE L M, true) := by simp [behR, hgL, hgM]
      rw [hr]
      have gL := goodE_all hgL
      have gM := goodE_all hgM
      simp only [hgL] at c1
      simp only [hgM] at c2
      have C1 := Lib.hid c1
      have C2 := Lib.hid c2
      have HX := Lib.hid (show L.length = n by have := h.len; rw [length_rowsE] at this; omega)
      have HY := Lib.hid (show M.length = m by have := h'.len; rw [length_rowsE] at this; omega)
      have H := Lib.hid h
      have H' := Lib.hid h'
      clear c1 c2 hr h h' hl hl' hgL hgM
      go_enter Try.func48, Try.ntmps48
      go_wp2_with fail
      refine (C1.out _ (Below.refl _ _)).mono ?_
      rintro e w1 ⟨rfl, hb⟩
      have HB1 := Lib.hid hb
      clear hb
      go_wp2_with fail
      refine (C2.out _ HB1.out).mono ?_
      rintro e w2 ⟨rfl, hb⟩
      have HB2 := Lib.hid (HB1.out.trans (hb.mono HB1.out.size))
      clear hb
      go_wp2_with fail
      refine (implOnly0_any B m d M A n c L w2 (by have := gM.2; rw [HY.out] at this; omega) (H'.out.below HB2.out) (by omega) (H.out.below HB2.out)).mono ?_
      rintro e w3 ⟨O3, o3, hs3, rfl, ho, hb⟩
      have HO3 := Lib.hid (ho.mono_lo HB2.out.size)
      have HB3 := Lib.hid (HB2.out.trans (hb.mono HB2.out.size))
      clear ho hb
      go_wp2
      go_ret2
      exact ⟨O3, o3, hs3, rfl, HO3.out, HB3.out⟩

set_option maxHeartbeats 4000000 in
set_option maxRecDepth 100000 in
theorem specOnly0_any (A : Option Addr) (n c : Nat) (L : List EntryT) (B : Option Addr) (m d : Nat) (M : List EntryT) (w : World) (hn : n ≤ 1000) (h : Reads2 w 5 A n (rowsE L)) (hm : m ≤ 1000000000) (h' : Reads2 w 5 B m (rowsE M)) :
    Calls Try.prog 87 #[.slice A n c, .slice B m d] w (Made3 w 49 3 1 (onlyE M L).length (rowsIntss (onlyE M L))) := by
  have HX := Lib.hid (show L.length = n by have := h.len; rw [length_rowsE] at this; omega)
  have H := Lib.hid h
  have H' := Lib.hid h'
  clear h h'
  go_enter Try.func87, Try.ntmps87
  go_wp2
  go_loopw [5, 10] (fun ov kv wr => ∃ k g : Nat, ∃ O1 o1 C hs, k ≤ n ∧ kv = .int .i64 k ∧ ov = .slice O1 g o1 ∧ g ≤ k ∧ C.length = g ∧ C ++ onlyE M (L.drop k) = onlyE M L ∧ Own2 wr w.heap.size wr.heap.size 49 3 1 O1 g o1 (rowsIntss C) hs ∧ Below w.heap.size w wr) (fun _ kv _ => n - (intOf kv).toNat)
  case atStart => exact ⟨0, 0, none, 0, [], [], Nat.zero_le _, rfl, rfl, Nat.le_refl _, rfl, rfl, own2_nil _ _, Below.refl _ _⟩
  case round =>
    obtain ⟨k, g, O1, o1, C, hs, hk, rfl, rfl, hgk, hlc, hrc, hown, hb⟩ := hrel
    have HLC := Lib.hid hlc; have HRC := Lib.hid hrc; have HO := Lib.hid hown; have HB := Lib.hid hb
    clear hlc hrc hown hb
    by_cases hlt : k < n
    · have hx : k < L.length := by rw [HX.out]; exact hlt
      have HD := Lib.hid (drop_cons hx)
      obtain ⟨ad, A3, c3, A4, c4, rfl, ⟨k0, k1, k2, k3, k4⟩, _, _⟩ := rowsE_at2 H.out hx
      replace k0 := bel_cellY HB.out k0; replace k1 := bel_cellY HB.out k1; replace k2 := bel_cellY HB.out k2; replace k3 := bel_cellY HB.out k3; replace k4 := bel_cellY HB.out k4
      have HLK : Hid (onlyE M (L.drop k) = if lackE M L[k] = true then [L[k].2.1, L[k].2.2.1] :: onlyE M (L.drop (k + 1)) else onlyE M (L.drop (k + 1))) := Lib.hid (by
        rw [HD.out]
        unfold onlyE
        rw [List.filter_cons]
        split <;> rfl)
      generalize L[k] = x at *
      obtain ⟨t, mm, p, l, l'⟩ := x
      simp only at k0 k1 k2 k3 k4 HLK
      have hla : lackE M (t, mm, p, l, l') = decide (idxP (isE mm p) M 0 < 0) := rfl
      rw [hla] at HLK
      clear hla
      have HWA : Hid (Below wr.heap.size wr (wr.alloc (.cells #[.int .i64 t, .int .i64 mm, .int .i64 p, .slice A3 l.length c3, .slice A4 l'.length c4] 51))) := Lib.hid ((Below.refl _ _).alloc (Nat.le_refl _) _)
      have CF := Lib.hid (lgFind_any B m d M mm p (wr.alloc (.cells #[.int .i64 t, .int .i64 mm, .int .i64 p, .slice A3 l.length c3, .slice A4 l'.length c4] 51)) hm (H'.out.below (HB.out.trans (HWA.out.mono HB.out.size))))
      generalize idxP (isE mm p) M 0 = ix at *
      go_wp2_with fail
      refine (CF.out).mono ?_
      rintro e wb ⟨rfl, hb4⟩
      have HBX := Lib.hid (box_after hb4 (by simp) (heap_alloc_new wr (.cells #[.int .i64 t, .int .i64 mm, .int .i64 p, .slice A3 l.length c3, .slice A4 l'.length c4] 51)))
      have HWB := Lib.hid (HWA.out.trans (hb4.mono (by simp)))
      clear k0 k1 k2 k3 k4 hb4 CF
      have HOB := Lib.hid ((HO.out.below HWB.out (Nat.le_refl _)).mono_hi HWB.out.size)
      have HBW := Lib.hid (HB.out.trans (HWB.out.mono HB.out.size))
      have HLB : Hid (w.heap.size ≤ wb.heap.size) := Lib.hid HBW.out.size
      by_cases hix : ix < 0
      · have HN : Hid (onlyE M (L.drop k) = [mm, p] :: onlyE M (L.drop (k + 1))) := Lib.hid (by rw [HLK.out]; simp [hix])
        obtain ⟨x1, _⟩ := box_at HBX.out (j := 1) rfl
        obtain ⟨x2, _⟩ := box_at HBX.out (j := 2) rfl
        go_wp2_with (at_builtin; refine wpList_pushL _ rfl (.tmp 21) (.tmp 27) 24 rfl w.heap.size 49 (.slice none 0 0) 1 24 infoInts rfl (by omega) Try.underlying24 O1 g o1 hs rfl ((HOB.out.below (((Below.refl _ _).alloc (Nat.le_refl _) _).alloc (by simp) _) (Nat.le_refl _)).row) (some ⟨wb.heap.size + 1, 0, none⟩) 1 1 [.slice (some ⟨wb.heap.size, 0, none⟩) 2 2] rfl (by have h := reads_new (wb.alloc (.cells #[.int .i64 mm, .int .i64 p] 3)) (.slice (some ⟨wb.heap.size, 0, none⟩) 2 2) 49; simp only [World.size_alloc] at h; exact h) (by simp [Value.oneCell']) (by omega) (by omega) (by have := HLB.out; simp; omega) ?_; intro O2 o2 w7 hown7 hg7 hb7 hloc7)
        clear x1 x2
        have HO7 := Lib.hid (HOB.out.push_row (l := ints [mm, p]) rfl HLB.out (by simp) (by simpa [ints] using hg7) hown7 (by simpa [ints] using hloc7))
        have HB7 : Hid (Below w.heap.size w w7) := Lib.hid ((HBW.out.trans (((Below.refl _ _).alloc HLB.out _).alloc (by have := HLB.out; simp; omega) _)).trans hb7)
        clear hown7 hg7 hb7 hloc7
        go_roundw
        case rel =>
          refine ⟨k + 1, g + 1, O2, o2, C ++ [[mm, p]], _, by omega, by go_num, rfl, by omega, by simp [HLC.out], ?_, by simpa [rowsIntss] using HO7.out, HB7.out⟩
          rw [← HRC.out, HN.out]; simp
        case measure => simp [intOf]; omega
      · have HN : Hid (onlyE M (L.drop k) = onlyE M (L.drop (k + 1))) := Lib.hid (by rw [HLK.out]; simp [hix])
        go_wp2
        go_roundw
        case rel => exact ⟨k + 1, g, O1, o1, C, hs, by omega, by go_num, rfl, by omega, HLC.out, by rw [← HN.out]; exact HRC.out, HOB.out, HBW.out⟩
        case measure => simp [intOf]; omega
    · have HE := Lib.hid (drop_end (xs := L) (k := k) (by rw [HX.out]; omega))
      have hC : C = onlyE M L := by have := HRC.out; rw [HE.out] at this; simpa [onlyE] using this
      subst hC
      have hg : g = (onlyE M L).length := HLC.out.symm
      subst hg
      go_wp2
      go_ret
      exact ⟨O1, o1, hs, rfl, HO.out, HB.out⟩

set_option maxHeartbeats 1000000 in
theorem specOnlyBefore_any (A : Option Addr) (n c : Nat) (L : List EntryT) (B : Option Addr) (m d : Nat) (M : List EntryT) (w : World) (hn : n ≤ 1000000000) (hl : ∀ x ∈ L, lenE 1000000000 x) (h : Reads2 w 5 A n (rowsE L)) (hc : n ≤ c) (hm : m ≤ 1000000000) (hl' : ∀ x ∈ M, lenE 1000000000 x) (h' : Reads2 w 5 B m (rowsE M)) (hd : m ≤ d) :
    Calls Try.prog 47 #[.slice A n c, .slice B m d] w (Made4 w 49 3 1 (onlyR L M).1.length (rowsIntss (onlyR L M).1) (onlyR L M).2) := by
  have c1 := fun W (hW : Below w.heap.size w W) => lgGood_any A n c L W hn hl (h.below hW)
  have c2 := fun W (hW : Below w.heap.size w W) => lgGood_any B m d M W hm hl' (h'.below hW)
  cases hgL : goodE L with
  | false =>
    have hr : onlyR L M = ([], false) := by simp [onlyR, hgL]
    rw [hr]
    simp only [hgL] at c1
    have C1 := Lib.hid c1
    clear c1 c2 hr h h' hl hl' hgL
    go_enter Try.func47, Try.ntmps47
    go_wp2_with fail
    refine (C1.out _ (Below.refl _ _)).mono ?_
    rintro e w1 ⟨rfl, hb⟩
    have HB1 := Lib.hid hb
    clear hb
    go_wp2
    go_ret2
    exact ⟨none, 0, [], rfl, own2_nil _ _, HB1.out⟩
  | true =>
    cases hgM : goodE M with
    | false =>
      have hr : onlyR L M = ([], false) := by simp [onlyR, hgM]
      rw [hr]
      simp only [hgL] at c1
      simp only [hgM] at c2
      have C1 := Lib.hid c1
      have C2 := Lib.hid c2
      clear c1 c2 hr h h' hl hl' hgL hgM
      go_enter Try.func47, Try.ntmps47
      go_wp2_with fail
      refine (C1.out _ (Below.refl _ _)).mono ?_
      rintro e w1 ⟨rfl, hb⟩
      have HB1 := Lib.hid hb
      clear hb
      go_wp2_with fail
      refine (C2.out _ HB1.out).mono ?_
      rintro e w2 ⟨rfl, hb⟩
      have HB2 := Lib.hid (HB1.out.trans (hb.mono HB1.out.size))
      clear hb
      go_wp2
      go_ret2
      exact ⟨none, 0, [], rfl, own2_nil _ _, HB2.out⟩
    | true =>
      have hr : onlyR L M = (onlyE M L, true) := by simp [onlyR, hgL, hgM]
      rw [hr]
      have gL := goodE_all hgL
      have gM := goodE_all hgM
      simp only [hgL] at c1
      simp only [hgM] at c2
      have C1 := Lib.hid c1
      have C2 := Lib.hid c2
      have HX := Lib.hid (show L.length = n by have := h.len; rw [length_rowsE] at this; omega)
      have HY := Lib.hid (show M.length = m by have := h'.len; rw [length_rowsE] at this; omega)
      have H := Lib.hid h
      have H' := Lib.hid h'
      clear c1 c2 hr h h' hl hl' hgL hgM
      go_enter Try.func47, Try.ntmps47
      go_wp2_with fail
      refine (C1.out _ (Below.refl _ _)).mono ?_
      rintro e w1 ⟨rfl, hb⟩
      have HB1 := Lib.hid hb
      clear hb
      go_wp2_with fail
      refine (C2.out _ HB1.out).mono ?_
      rintro e w2 ⟨rfl, hb⟩
      have HB2 := Lib.hid (HB1.out.trans (hb.mono HB1.out.size))
      clear hb
      go_wp2_with fail
      refine (specOnly0_any A n c L B m d M w2 (by have := gL.2; rw [HX.out] at this; omega) (H.out.below HB2.out) (by omega) (H'.out.below HB2.out)).mono ?_
      rintro e w3 ⟨O3, o3, hs3, rfl, ho, hb⟩
      have HO3 := Lib.hid (ho.mono_lo HB2.out.size)
      have HB3 := Lib.hid (HB2.out.trans (hb.mono HB2.out.size))
      clear ho hb
      go_wp2
      go_ret2
      exact ⟨O3, o3, hs3, rfl, HO3.out, HB3.out⟩

set_option maxHeartbeats 1000000 in
theorem specOnlyBehind_any (A : Option Addr) (n c : Nat) (L : List EntryT) (B : Option Addr) (m d : Nat) (M : List EntryT) (w : World) (hn : n ≤ 1000000000) (hl : ∀ x ∈ L, lenE 1000000000 x) (h : Reads2 w 5 A n (rowsE L)) (hc : n ≤ c) (hm : m ≤ 1000000000) (hl' : ∀ x ∈ M, lenE 1000000000 x) (h' : Reads2 w 5 B m (rowsE M)) (hd : m ≤ d) :
    Calls Try.prog 49 #[.slice A n c, .slice B m d] w (Made4 w 49 3 1 (behR L M).1.length (rowsIntss (behR L M).1) (behR L M).2) := by
  have c1 := fun W (hW : Below w.heap.size w W) => lgGood_any A n c L W hn hl (h.below hW)
  have c2 := fun W (hW : Below w.heap.size w W) => lgGood_any B m d M W hm hl' (h'.below hW)
  cases hgL : goodE L with
  | false =>
    have hr : behR L M = ([], false) := by simp [behR, hgL]
    rw [hr]
    simp only [hgL] at c1
    have C1 := Lib.hid c1
    clear c1 c2 hr h h' hl hl' hgL
    go_enter Try.func49, Try.ntmps49
    go_wp2_with fail
    refine (C1.out _ (Below.refl _ _)).mono ?_
    rintro e w1 ⟨rfl, hb⟩
    have HB1 := Lib.hid hb
    clear hb
    go_wp2
    go_ret2
    exact ⟨none, 0, [], rfl, own2_nil _ _, HB1.out⟩
  | true =>
    cases hgM : goodE M with
    | false =>
      have hr : behR L M = ([], false) := by simp [behR, hgM]
      rw [hr]
      simp only [hgL] at c1
      simp only [hgM] at c2
      have C1 := Lib.hid c1
      have C2 := Lib.hid c2
      clear c1 c2 hr h h' hl hl' hgL hgM
      go_enter Try.func49, Try.ntmps49
      go_wp2_with fail
      refine (C1.out _ (Below.refl _ _)).mono ?_
      rintro e w1 ⟨rfl, hb⟩
      have HB1 := Lib.hid hb
      clear hb
      go_wp2_with fail
      refine (C2.out _ HB1.out).mono ?_
      rintro e w2 ⟨rfl, hb⟩
      have HB2 := Lib.hid (HB1.out.trans (hb.mono HB1.out.size))
      clear hb
      go_wp2
      go_ret2
      exact ⟨none, 0, [], rfl, own2_nil _ _, HB2.out⟩
    | true =>
      have hr : behR L M = (onlyE L M, true) := by simp [behR, hgL, hgM]
      rw [hr]
      have gL := goodE_all hgL
      have gM := goodE_all hgM
      simp only [hgL] at c1
      simp only [hgM] at c2
      have C1 := Lib.hid c1
      have C2 := Lib.hid c2
      have HX := Lib.hid (show L.length = n by have := h.len; rw [length_rowsE] at this; omega)
      have HY := Lib.hid (show M.length = m by have := h'.len; rw [length_rowsE] at this; omega)
      have H := Lib.hid h
      have H' := Lib.hid h'
      clear c1 c2 hr h h' hl hl' hgL hgM
      go_enter Try.func49, Try.ntmps49
      go_wp2_with fail
      refine (C1.out _ (Below.refl _ _)).mono ?_
      rintro e w1 ⟨rfl, hb⟩
      have HB1 := Lib.hid hb
      clear hb
      go_wp2_with fail
      refine (C2.out _ HB1.out).mono ?_
      rintro e w2 ⟨rfl, hb⟩
      have HB2 := Lib.hid (HB1.out.trans (hb.mono HB1.out.size))
      clear hb
      go_wp2_with fail
      refine (specOnly0_any B m d M A n c L w2 (by have := gM.2; rw [HY.out] at this; omega) (H'.out.below HB2.out) (by omega) (H.out.below HB2.out)).mono ?_
      rintro e w3 ⟨O3, o3, hs3, rfl, ho, hb⟩
      have HO3 := Lib.hid (ho.mono_lo HB2.out.size)
      have HB3 := Lib.hid (HB2.out.trans (hb.mono HB2.out.size))
      clear ho hb
      go_wp2
      go_ret2
      exact ⟨O3, o3, hs3, rfl, HO3.out, HB3.out⟩

end Go.Proofs.Ytcjmlakmigfkfaa
