/- ChangedEntries and FindEntry of the implementation, on logs. No conditions. -/
import Derived.Test.YtcjmlakmigfkfaaSamL
namespace Go.Proofs.Ytcjmlakmigfkfaa
set_option linter.unusedSimpArgs false
set_option linter.unusedVariables false
open Go.RowKit

def chI : List EntryT → Nat → List Int
  | [], _ => []
  | x :: r, i => if sameB x.2.2.2.1 x.2.2.2.2 = true then chI r (i + 1) else (i : Int) :: chI r (i + 1)
theorem chI_len (L : List EntryT) : ∀ i, (chI L i).length ≤ L.length := by
  induction L with
  | nil => intro i; simp [chI]
  | cons x r ih =>
    intro i
    have := ih (i + 1)
    simp only [chI]
    split <;> simp <;> omega

set_option maxHeartbeats 4000000 in
set_option maxRecDepth 100000 in
theorem changedEntries_good (A : Option Addr) (n c : Nat) (L : List EntryT) (w : World) (hg : goodE L = true) (hc : n ≤ c) (h : Reads2 w 5 A n (rowsE L)) :
    Calls Try.prog 43 #[.slice A n c] w (Made2 w 3 1 (chI L 0).length (ints (chI L 0)) true) := by
  have HX := Lib.hid (show L.length = n by have := h.len; rw [length_rowsE] at this; omega)
  have gL := goodE_all hg
  have hn30 : n ≤ 30 := by have := gL.2; rw [HX.out] at this; exact this
  have HLE := Lib.hid (fun x (hx : x ∈ L) => entB_len (gL.1 x hx))
  have c1 := isLog_any A n c L w (by omega) hc (fun x hx => by have := entB_len (gL.1 x hx); unfold lenE; omega) h
  rw [hg] at c1
  have C1 := Lib.hid c1
  have H := Lib.hid h
  clear c1 h hg gL
  go_enter Try.func43, Try.ntmps43
  go_wp2_with fail
  refine (C1.out).mono ?_
  rintro e w1 ⟨rfl, hb⟩
  have HB1 := Lib.hid hb
  clear hb C1
  go_wp2
  go_loopw [4, 12] (fun ov kv wr => ∃ k g : Nat, ∃ O o1 C, k ≤ n ∧ kv = .int .i64 k ∧ ov = .slice O g o1 ∧ g ≤ k ∧ List.length C = g ∧ C ++ chI (L.drop k) k = chI L 0 ∧ wr.ownsRow w.heap.size 3 1 (.slice O g o1) g (ints C) ∧ Below w.heap.size w wr) (fun _ kv _ => n - (intOf kv).toNat)
  case atStart => exact ⟨0, 0, none, 0, [], Nat.zero_le _, rfl, rfl, Nat.le_refl _, rfl, rfl, own_start, HB1.out⟩
  case round =>
    obtain ⟨k, g, O, o1, C, hk, rfl, rfl, hgk, hlc, hrc, hown, hb⟩ := hrel
    have HLC := Lib.hid hlc; have HRC := Lib.hid hrc; have HO := Lib.hid hown; have HB := Lib.hid hb
    clear hlc hrc hown hb
    by_cases hlt : k < n
    · have hx : k < L.length := by rw [HX.out]; exact hlt
      have HD := Lib.hid (drop_cons hx)
      obtain ⟨ad, A3, c3, A4, c4, rfl, k0, k1, k2, k3, k4, r3, r4⟩ := rowsE_at (H.out.below HB.out) hx
      have HXL := Lib.hid (HLE.out L[k] (List.getElem_mem hx))
      have HCG : Hid (chI (L.drop k) k = if sameB L[k].2.2.2.1 L[k].2.2.2.2 = true then chI (L.drop (k + 1)) (k + 1) else (k : Int) :: chI (L.drop (k + 1)) (k + 1)) := Lib.hid (by rw [HD.out]; rfl)
      generalize L[k] = x at *
      obtain ⟨t, mm, p, l, l'⟩ := x
      simp only at k0 k1 k2 k3 k4 r3 r4 HCG
      have CS := slicesEqual_any A3 l.length c3 l A4 l'.length c4 l' (wr.alloc (.cells #[.int .i64 t, .int .i64 mm, .int .i64 p, .slice A3 l.length c3, .slice A4 l'.length c4] 51)) (by have := HXL.out.1; simp only at this; omega) (by have := HXL.out.2; simp only at this; omega) (r3.alloc _) (r4.alloc _)
      clear r3 r4
      obtain ⟨bb, hbb⟩ : ∃ bb, bb = sameB l l' := ⟨_, rfl⟩
      rw [← hbb] at CS HCG
      have HCS := Lib.hid CS
      clear CS hbb
      go_wp2_with fail
      refine (HCS.out).mono ?_
      rintro e wb ⟨rfl, hq⟩
      have hB := below_of_quiet (B := (wr.alloc (.cells #[.int .i64 t, .int .i64 mm, .int .i64 p, .slice A3 l.length c3, .slice A4 l'.length c4] 51)).heap.size) hq
      have HBB := Lib.hid (((Below.refl _ _).alloc (Nat.le_refl _) (.cells #[.int .i64 t, .int .i64 mm, .int .i64 p, .slice A3 l.length c3, .slice A4 l'.length c4] 51)).trans (hB.mono (by simp)))
      clear hq hB k0 k1 k2 k3 k4
      have HOB := Lib.hid (own_below HO.out HBB.out)
      have HBW := Lib.hid (HB.out.trans (HBB.out.mono HB.out.size))
      have HLB : Hid (w.heap.size ≤ wb.heap.size) := Lib.hid HBW.out.size
      cases bb with
      | true =>
        have HSK : Hid (chI (L.drop k) k = chI (L.drop (k + 1)) (k + 1)) := Lib.hid (by rw [HCG.out]; simp)
        go_wp2
        go_roundw
        case rel => exact ⟨k + 1, g, O, o1, C, by omega, by go_num, rfl, by omega, HLC.out, by rw [← HSK.out]; exact HRC.out, HOB.out, HBW.out⟩
        case measure => simp [intOf]; omega
      | false =>
        have HSK : Hid (chI (L.drop k) k = (k : Int) :: chI (L.drop (k + 1)) (k + 1)) := Lib.hid (by rw [HCG.out]; simp)
        go_wp2_with (at_builtin; refine wpList_push _ rfl (.tmp 23) (.tmp 25) 49 rfl w.heap.size 3 (.int .i64 0) 1 8 infoInt rfl (by omega) Try.underlying49 O g o1 (ints C) rfl (HOB.out.alloc _) (some ⟨wb.heap.size, 0, none⟩) 1 1 [.int .i64 k] rfl (reads_new _ _ _) (by simp [Value.oneCell']) (by omega) (by omega) (by have := HLB.out; simp; omega) ?_; intro O2 o2 w7 hown7 hg7 hb7)
        have HO7 : Hid (w7.ownsRow w.heap.size 3 1 (.slice O2 (g + 1) o2) (g + 1) (ints (C ++ [(k : Int)]))) := Lib.hid (by simpa [ints] using hown7)
        have HB7 : Hid (Below w.heap.size w w7) := Lib.hid ((HBW.out.alloc HLB.out _).trans hb7)
        clear hown7 hg7 hb7
        go_roundw
        case rel => exact ⟨k + 1, g + 1, O2, o2, C ++ [(k : Int)], by omega, by go_num, rfl, by omega, by simp [HLC.out], by rw [← HRC.out, HSK.out]; simp, HO7.out, HB7.out⟩
        case measure => simp [intOf]; omega
    · obtain rfl : k = n := by omega
      have HE := Lib.hid (drop_end (xs := L) (k := k) (by rw [HX.out]; omega))
      have hC : C = chI L 0 := by have := HRC.out; rw [HE.out] at this; simpa [chI] using this
      subst hC
      have hg : g = (chI L 0).length := HLC.out.symm
      subst hg
      go_wp2
      go_ret2
      exact ⟨O, o1, rfl, HO.out, HB.out⟩

theorem findEntry_good (A : Option Addr) (n c : Nat) (L : List EntryT) (m p : Int) (w : World) (hg : goodE L = true) (hc : n ≤ c) (h : Reads2 w 5 A n (rowsE L)) (hf : 0 ≤ idxP (isE m p) L 0) :
    Calls Try.prog 34 #[.slice A n c, .int .i64 m, .int .i64 p] w fun e w' => e = .returned (.tuple #[.int .i64 (idxP (isE m p) L 0), .bool true]) ∧ Below w.heap.size w w' := by
  have HX := Lib.hid (show L.length = n by have := h.len; rw [length_rowsE] at this; omega)
  have gL := goodE_all hg
  have hn30 : n ≤ 30 := by have := gL.2; rw [HX.out] at this; exact this
  have c1 := isLog_any A n c L w (by omega) hc (fun x hx => by have := entB_len (gL.1 x hx); unfold lenE; omega) h
  rw [hg] at c1
  have C1 := Lib.hid c1
  have C2 := Lib.hid (fun W (hW : Below w.heap.size w W) => entryIndex_any A n c L m p W (by omega) (h.below hW))
  generalize idxP (isE m p) L 0 = ix at *
  clear c1 h hg gL
  go_enter Try.func34, Try.ntmps34
  go_wp2_with fail
  refine (C1.out).mono ?_
  rintro e w1 ⟨rfl, hb⟩
  have HB1 := Lib.hid hb
  clear hb C1
  go_wp2_with fail
  refine (C2.out _ HB1.out).mono ?_
  rintro e w2 ⟨rfl, hb⟩
  have HB2 := Lib.hid (HB1.out.trans (hb.mono HB1.out.size))
  clear hb C2
  go_wp2
  go_ret2
  exact ⟨rfl, HB2.out⟩
end Go.Proofs.Ytcjmlakmigfkfaa
