/- Lemmas and contracts of this claim, several texts in one: Contracts of ChangedBetween of both packages. rbLog and RebuildLog of the spec. rebuilt and RebuildLog of the implementation. No conditions. -/
import Derived.Test.YtcjmlakmigfkfaaZFilled6
namespace Go.Proofs.Ytcjmlakmigfkfaa
set_option linter.unusedSimpArgs false
set_option linter.unusedVariables false
open Go.RowKit

def chgE : List (EntryT × EntryT) → List (List Int)
  | [] => []
  | p :: r => if sameB p.1.2.2.2.2 p.2.2.2.2.1 = true then chgE r else [p.1.2.1, p.1.2.2.1] :: chgE r
def chgR (L M : List EntryT) : List (List Int) × Bool := if (goodE L && goodE M) = true then (chgE (togE M L), true) else ([], false)
theorem chgE_bd : ∀ P : List (EntryT × EntryT), (chgE P).length ≤ P.length ∧ ∀ l ∈ chgE P, l.length = 2 := by
  intro P
  induction P with
  | nil => simp [chgE]
  | cons p r ih =>
    unfold chgE
    split
    · exact ⟨by simp only [List.length_cons]; omega, ih.2⟩
    · refine ⟨by simp only [List.length_cons]; omega, fun l hl => ?_⟩
      rcases List.mem_cons.1 hl with rfl | hl
      · rfl
      · exact ih.2 l hl
theorem chgR_bd (L M : List EntryT) : (chgR L M).1.length ≤ 30 ∧ ∀ l ∈ (chgR L M).1, l.length = 2 := by
  unfold chgR
  split
  · rename_i h
    simp only [Bool.and_eq_true] at h
    have h1 := (goodE_all h.1).2
    have h2 := togE_len M L
    have h3 := chgE_bd (togE M L)
    exact ⟨by simp only; omega, h3.2⟩
  · simp
theorem tot_two {C : List (List Int)} (h : ∀ l ∈ C, l.length = 2) : tot (C.map ints) = C.length * 2 := by
  induction C with
  | nil => simp [tot]
  | cons x r ih =>
    have h1 := ih (fun l hl => h l (by simp [hl]))
    have h2 := h x (by simp)
    simp only [tot, List.map_cons, List.sum_cons, length_ints, List.length_cons] at h1 ⊢
    omega
theorem chgR_tot (L M : List EntryT) : tot ((chgR L M).1.map ints) ≤ 60 := by
  have h := chgR_bd L M
  rw [tot_two h.2]
  omega
/-- The k-th pair and its indices. -/
theorem ix_at {M L : List EntryT} {k : Nat} (hk : k < (togE M L).length) : ∃ i j, ∃ (hi : i < L.length) (hj : j < M.length), (ixE M 0 L)[k]? = some (i, j) ∧ (togE M L)[k] = (L[i], M[j]) := by
  have hk' : k < (ixE M 0 L).length := by rw [← length_togE]; exact hk
  have hb := ixE_bd (ixE M 0 L)[k] (List.getElem_mem hk')
  have h1 : (togE M L)[k]? = some (L.getD (ixE M 0 L)[k].1 zE, M.getD (ixE M 0 L)[k].2 zE) := by
    rw [togE_ix0, List.getElem?_map, List.getElem?_eq_getElem hk']
    rfl
  rw [List.getElem?_eq_getElem hk] at h1
  injection h1 with h1
  have hi : (ixE M 0 L)[k].1 < L.length := by omega
  refine ⟨(ixE M 0 L)[k].1, (ixE M 0 L)[k].2, hi, hb.2, List.getElem?_eq_getElem hk', ?_⟩
  rw [h1]
  simp [List.getD, List.getElem?_eq_getElem hi, List.getElem?_eq_getElem hb.2]
/-- The k-th list of two, read: its header and its two cells. -/
theorem ixL_at {w : World} {A : Option Addr} {n k i j : Nat} {l : List (Nat × Nat)} (h : Reads2 w 1 A n (rowsIntss (ixL l))) (hk : l[k]? = some (i, j)) :
    ∃ pa qa cq, A = some pa ∧ w.cell? (pa.add k) = some (.slice (some qa) 2 cq) ∧ w.cell? qa = some (.int .i64 (i : Int)) ∧ w.cell? ⟨qa.block, qa.off + 1, none⟩ = some (.int .i64 (j : Int)) := by
  have hkl : k < l.length := (List.getElem?_eq_some_iff.1 hk).1
  have hx : (rowsIntss (ixL l))[k]? = some (.inr (ints [(i : Int), (j : Int)])) := by
    rw [rowsIntss_get (by simpa [ixL] using hkl)]
    have : (ixL l)[k]? = some [(i : Int), (j : Int)] := by simp [ixL, hk]
    have h2 := List.getElem?_eq_getElem (l := ixL l) (i := k) (by simpa [ixL] using hkl)
    rw [h2] at this
    injection this with this
    rw [this]
  obtain ⟨pa, Ai, cq, e, hc, _, _, hr⟩ := h.row hx
  obtain ⟨qa, e2, hq⟩ := hr.2 (by simp)
  subst e2
  have h0 := hq 0 (.int .i64 (i : Int)) (by simp [ints])
  have h1 := hq 1 (.int .i64 (j : Int)) (by simp [ints])
  have e0 : qa.add 0 = qa := by simp [Addr.add]
  rw [e0] at h0
  have e1 : qa.add 1 = ⟨qa.block, qa.off + 1, none⟩ := by unfold Addr.add; rw [if_neg (by omega)]
  rw [e1] at h1
  exact ⟨pa, qa, cq, e, by simpa using hc, h0, h1⟩

set_option maxHeartbeats 4000000 in
set_option maxRecDepth 100000 in
theorem specChangedBetween_any (A : Option Addr) (n c : Nat) (L : List EntryT) (B : Option Addr) (m d : Nat) (M : List EntryT) (w : World) (hn : n ≤ 1000000000) (hl : ∀ x ∈ L, lenE 1000000000 x) (h : Reads2 w 5 A n (rowsE L)) (hc : n ≤ c) (hm : m ≤ 1000000000) (hl' : ∀ x ∈ M, lenE 1000000000 x) (h' : Reads2 w 5 B m (rowsE M)) (hd : m ≤ d) :
    Calls Try.prog 12 #[.slice A n c, .slice B m d] w (Made4 w 49 3 1 (chgR L M).1.length (rowsIntss (chgR L M).1) (chgR L M).2) := by
  have C1 := Lib.hid (lgGood_any A n c L w hn hl h)
  have C2 := Lib.hid (fun W (hW : Below w.heap.size w W) => lgGood_any B m d M W hm hl' (h'.below hW))
  cases h1 : goodE L with
  | false =>
    have hr : chgR L M = ([], false) := by simp [chgR, h1]
    rw [hr]
    simp only [h1] at C1
    
    clear hr h h' hl hl'
    go_enter Try.func12, Try.ntmps12
    go_wp2_with (first | (go_at_call_of 60 (Value.slice A n c); refine (C1.out).mono ?_; rintro e w1 ⟨rfl, hb1⟩; have HB1 := Lib.hid hb1; clear hb1) | (go_at_call_of 60 (Value.slice B m d); refine (C2.out _ HB1.out).mono ?_; rintro e w2 ⟨rfl, hb2⟩; have HB2 := Lib.hid (HB1.out.trans (hb2.mono HB1.out.size)); clear hb2))
    go_ret2
    exact ⟨none, 0, [], rfl, own2_nil _ _, HB1.out⟩
  | true =>
    cases h2 : goodE M with
    | false =>
      have hr : chgR L M = ([], false) := by simp [chgR, h2]
      rw [hr]
      simp only [h1] at C1
      simp only [h2] at C2
      clear hr h h' hl hl'
      go_enter Try.func12, Try.ntmps12
      go_wp2_with (first | (go_at_call_of 60 (Value.slice A n c); refine (C1.out).mono ?_; rintro e w1 ⟨rfl, hb1⟩; have HB1 := Lib.hid hb1; clear hb1) | (go_at_call_of 60 (Value.slice B m d); refine (C2.out _ HB1.out).mono ?_; rintro e w2 ⟨rfl, hb2⟩; have HB2 := Lib.hid (HB1.out.trans (hb2.mono HB1.out.size)); clear hb2))
      go_ret2
      exact ⟨none, 0, [], rfl, own2_nil _ _, HB2.out⟩
    | true =>
      have hr : chgR L M = (chgE (togE M L), true) := by simp [chgR, h1, h2]
      rw [hr]
      have gL := goodE_all h1
      have gM := goodE_all h2
      have HLE := Lib.hid hl
      have HME := Lib.hid hl'
      simp only [h1] at C1
      simp only [h2] at C2
      have HX := Lib.hid (show L.length = n by have := h.len; rw [length_rowsE] at this; omega)
      have HY := Lib.hid (show M.length = m by have := h'.len; rw [length_rowsE] at this; omega)
      have C3 := Lib.hid (fun W (hW : Below w.heap.size w W) => rbGaps_any A n c L B m d M 0 0 W (by have := gL.2; rw [HX.out] at this; omega) (by have := gM.2; rw [HY.out] at this; omega) gL.1 gM.1 (by omega) (by omega) (h.below hW) (h'.below hW))
      have H := Lib.hid h
      have H' := Lib.hid h'
      have hN : cntE M L ≤ 30 := by have := togE_len M L; have := gL.2; unfold cntE; omega
      have HPL : Hid ((togE M L).length = cntE M L) := Lib.hid rfl
      clear hr h h' hl hl' gL gM h1 h2
      go_enter Try.func12, Try.ntmps12
      go_wp2_with (first | (go_at_call_of 60 (Value.slice A n c); refine (C1.out).mono ?_; rintro e w1 ⟨rfl, hb1⟩; have HB1 := Lib.hid hb1; clear hb1) | (go_at_call_of 60 (Value.slice B m d); refine (C2.out _ HB1.out).mono ?_; rintro e w2 ⟨rfl, hb2⟩; have HB2 := Lib.hid (HB1.out.trans (hb2.mono HB1.out.size)); clear hb2) | (go_at_call 61; refine (C3.out _ HB2.out).mono ?_; rintro e w3 ⟨P1, p1, P2, p2, hs0, rfl, hr3, hb3⟩; have HR3 := Lib.hid (Reads.of_own hr3.one); have HR4 := Lib.hid (Reads2.of_own hr3.two); have HW3 := Lib.hid (HB2.out.trans (hb3.mono HB2.out.size)); clear hr3 hb3))
      generalize hg3 : w3.heap.size = g3 at *
      go_loopw [8, 27] (fun o i wr => ∃ k g : Nat, ∃ O1 o1 C hs, k ≤ cntE M L ∧ i = .int .i64 k ∧ o = .slice O1 g o1 ∧ g ≤ k ∧ C.length = g ∧ C ++ chgE ((togE M L).drop k) = chgE (togE M L) ∧ Own2 wr g3 wr.heap.size 49 3 1 O1 g o1 (rowsIntss C) hs ∧ Below g3 w3 wr) (fun _ i _ => cntE M L - (intOf i).toNat)
      case atStart => exact ⟨0, 0, none, 0, [], [], Nat.zero_le _, rfl, rfl, Nat.le_refl _, rfl, rfl, own2_nil _ _, Below.refl _ _⟩
      case round =>
        obtain ⟨k, g, O1, o1, C, hs, hk, rfl, rfl, hgk, hlc, hrc, hown, hb⟩ := hrel
        have HLC := Lib.hid hlc; have HRC := Lib.hid hrc; have HO := Lib.hid hown; have HB := Lib.hid hb
        clear hlc hrc hown hb
        have HLO : Hid (g3 ≤ wr.heap.size) := Lib.hid (by have h1 := HB.out.size; omega)
        have HWB : Hid (Below w.heap.size w wr) := Lib.hid (HW3.out.trans (HB.out.mono (by rw [← hg3]; exact HW3.out.size)))
        by_cases hlt : k < cntE M L
        · have hx : k < (togE M L).length := by rw [HPL.out]; exact hlt
          have HD := Lib.hid (drop_cons hx)
          obtain ⟨i, j, hi, hj, hix, hxy⟩ := ix_at hx
          obtain ⟨ga, rfl, k0, k1, k2, k3⟩ := rows4_at (HR3.out.below (by rw [hg3]; exact HB.out)) hlt (gapsE_len M 0 0 L)
          obtain ⟨pa, qa, cq, rfl, j0, j1, j2⟩ := ixL_at (HR4.out.below (by rw [hg3]; exact HB.out)) hix
          obtain ⟨ad, A3, c3, A4, c4, rfl, _, _, _, _, k4, _, hra⟩ := rowsE_at (H.out.below HWB.out) hi
          obtain ⟨bd, B3, d3, B4, d4, rfl, _, _, _, k5, _, hrb, _⟩ := rowsE_at (H'.out.below HWB.out) hj
          have HCG : Hid (chgE ((togE M L).drop k) = if sameB L[i].2.2.2.2 M[j].2.2.2.1 = true then chgE ((togE M L).drop (k + 1)) else [L[i].2.1, L[i].2.2.1] :: chgE ((togE M L).drop (k + 1))) := Lib.hid (by rw [HD.out, hxy]; rfl)
          have hge : (gapsE M 0 0 L)[k]'(by rw [gapsE_len]; exact hlt) = (L[i].2.1, L[i].2.2.1, L[i].1 + 0, M[j].1 - 0) := by simp only [gapsE, List.getElem_map, hxy, gapOf]
          simp only [hge] at k0 k1 k2 k3
          have HLP1 := Lib.hid (HLE.out _ (List.getElem_mem hi))
          have HLP2 := Lib.hid (HME.out _ (List.getElem_mem hj))
          have him : (i : Int) < (n : Int) := by rw [HX.out] at hi; omega
          have hjm : (j : Int) < (m : Int) := by rw [HY.out] at hj; omega
          have hi0 : (0 : Int) ≤ (i : Int) := by omega
          have hj0 : (0 : Int) ≤ (j : Int) := by omega
          have hkN : (k : Int) < (cntE M L : Int) := by omega
          have hk0 : (0 : Int) ≤ (k : Int) := by omega
          clear hix hxy hge
          generalize L[i] = x at *
          generalize M[j] = y at *
          obtain ⟨xt, xm, xp, xl, l'⟩ := x
          obtain ⟨yt, ym, yp, yl, yl'⟩ := y
          simp only at k0 k1 k2 k3 k4 k5 hra hrb HCG
          obtain ⟨lw, hlw⟩ : ∃ lw, lw = xt + 0 := ⟨_, rfl⟩
          obtain ⟨hw, hhw⟩ : ∃ hw, hw = yt - 0 := ⟨_, rfl⟩
          rw [← hlw] at k2
          rw [← hhw] at k3
          clear hlw hhw
          have hS : Below wr.heap.size wr (wr.alloc (.cells #[.int .i64 xm, .int .i64 xp, .int .i64 lw, .int .i64 hw] 62)) := (Below.refl _ _).alloc (Nat.le_refl _) _
          have CS := fun V : InB (wr.alloc (.cells #[.int .i64 xm, .int .i64 xp, .int .i64 lw, .int .i64 hw] 62)) => l1Same_any A4 l'.length c4 l' B3 yl.length d3 yl V.1 (by have := HLP1.out; unfold lenE at this; exact this.2) (by have := HLP2.out; unfold lenE at this; exact this.1) ((hra.alloc _).below V.2) ((hrb.alloc _).below V.2)
          clear hra hrb
          obtain ⟨bb, hbb⟩ : ∃ bb, bb = sameB l' yl := ⟨_, rfl⟩
          rw [← hbb] at CS HCG
          have HCS := Lib.hid CS
          clear CS hbb
          have s0 := fun V : InB (wr.alloc (.cells #[.int .i64 xm, .int .i64 xp, .int .i64 lw, .int .i64 hw] 62)) => V.cell (alloc_cell (.cells #[.int .i64 xm, .int .i64 xp, .int .i64 lw, .int .i64 hw] 62) j0)
          have s1 := fun V : InB (wr.alloc (.cells #[.int .i64 xm, .int .i64 xp, .int .i64 lw, .int .i64 hw] 62)) => V.cell (alloc_cell (.cells #[.int .i64 xm, .int .i64 xp, .int .i64 lw, .int .i64 hw] 62) j1)
          have s2 := fun V : InB (wr.alloc (.cells #[.int .i64 xm, .int .i64 xp, .int .i64 lw, .int .i64 hw] 62)) => V.cell (alloc_cell (.cells #[.int .i64 xm, .int .i64 xp, .int .i64 lw, .int .i64 hw] 62) j2)
          have s3 := fun V : InB (wr.alloc (.cells #[.int .i64 xm, .int .i64 xp, .int .i64 lw, .int .i64 hw] 62)) => V.cell (alloc_cell (.cells #[.int .i64 xm, .int .i64 xp, .int .i64 lw, .int .i64 hw] 62) k4)
          have s4 := fun V : InB (wr.alloc (.cells #[.int .i64 xm, .int .i64 xp, .int .i64 lw, .int .i64 hw] 62)) => V.cell (alloc_cell (.cells #[.int .i64 xm, .int .i64 xp, .int .i64 lw, .int .i64 hw] 62) k5)
          clear j0 j1 j2 k4 k5 hS
          cases bb with
          | true =>
            have HSK : Hid (chgE ((togE M L).drop k) = chgE ((togE M L).drop (k + 1))) := Lib.hid (by rw [HCG.out]; simp)
            go_wp2
            clear k0 k1 k2 k3
            have HWSB : Hid (Below wr.heap.size wr (wr.alloc (.cells #[.int .i64 xm, .int .i64 xp, .int .i64 lw, .int .i64 hw] 62))) := Lib.hid ((Below.refl _ _).alloc (Nat.le_refl _) _)
            have HWS0 : Hid ((wr.alloc (.cells #[.int .i64 xm, .int .i64 xp, .int .i64 lw, .int .i64 hw] 62)).cell? ⟨wr.heap.size, 0, none⟩ = some (.int .i64 xm) ∧ (wr.alloc (.cells #[.int .i64 xm, .int .i64 xp, .int .i64 lw, .int .i64 hw] 62)).cell? ⟨wr.heap.size, 1, none⟩ = some (.int .i64 xp) ∧ wr.heap.size < (wr.alloc (.cells #[.int .i64 xm, .int .i64 xp, .int .i64 lw, .int .i64 hw] 62)).heap.size) := Lib.hid ⟨by simp, by simp, by simp⟩
            generalize hws : (wr.alloc (.cells #[.int .i64 xm, .int .i64 xp, .int .i64 lw, .int .i64 hw] 62)) = ws at *
            refine wp_region_below ws (by kernel_rfl) (by kernel_rfl) (by first | assumption | exact Below.refl _ _) ?_
            repeat (go_big_quiet_step ((go_at_call 62; exact bel_quiet (HCS.out _))))
            refine wpQuiet_nil ?_
            intro wb hw'
            obtain ⟨⟨wb', hB⟩, hwb⟩ := hw'
            simp only at hwb
            subst hwb
            try simp only at hB ⊢
            all_goals
              clear s0 s1 s2 s3 s4 him hjm hi0 hj0 hkN hk0
              have x0 := (hB.cell (p := ⟨wr.heap.size, 0, none⟩) HWS0.out.2.2).trans HWS0.out.1
              have x1 := (hB.cell (p := ⟨wr.heap.size, 1, none⟩) HWS0.out.2.2).trans HWS0.out.2.1
              have HBB := Lib.hid (HWSB.out.trans (hB.mono HWSB.out.size))
              clear hB
              have HOB := Lib.hid ((HO.out.below HBB.out (Nat.le_refl _)).mono_hi HBB.out.size)
              have HBW : Hid (Below g3 w3 wb) := Lib.hid (HB.out.trans (HBB.out.mono HLO.out))
              have HLB : Hid (g3 ≤ wb.heap.size) := Lib.hid (by have h1 := HBB.out.size; have h2 := HLO.out; omega)
              go_wp2
              go_roundw
              case rel => exact ⟨k + 1, g, O1, o1, C, hs, by omega, by go_num, rfl, by omega, HLC.out, by rw [← HSK.out]; exact HRC.out, HOB.out, HBW.out⟩
              case measure => simp [intOf]; omega
          | false =>
            have HSK : Hid (chgE ((togE M L).drop k) = [xm, xp] :: chgE ((togE M L).drop (k + 1))) := Lib.hid (by rw [HCG.out]; simp)
            go_wp2
            clear k0 k1 k2 k3
            have HWSB : Hid (Below wr.heap.size wr (wr.alloc (.cells #[.int .i64 xm, .int .i64 xp, .int .i64 lw, .int .i64 hw] 62))) := Lib.hid ((Below.refl _ _).alloc (Nat.le_refl _) _)
            have HWS0 : Hid ((wr.alloc (.cells #[.int .i64 xm, .int .i64 xp, .int .i64 lw, .int .i64 hw] 62)).cell? ⟨wr.heap.size, 0, none⟩ = some (.int .i64 xm) ∧ (wr.alloc (.cells #[.int .i64 xm, .int .i64 xp, .int .i64 lw, .int .i64 hw] 62)).cell? ⟨wr.heap.size, 1, none⟩ = some (.int .i64 xp) ∧ wr.heap.size < (wr.alloc (.cells #[.int .i64 xm, .int .i64 xp, .int .i64 lw, .int .i64 hw] 62)).heap.size) := Lib.hid ⟨by simp, by simp, by simp⟩
            generalize hws : (wr.alloc (.cells #[.int .i64 xm, .int .i64 xp, .int .i64 lw, .int .i64 hw] 62)) = ws at *
            refine wp_region_below ws (by kernel_rfl) (by kernel_rfl) (by first | assumption | exact Below.refl _ _) ?_
            repeat (go_big_quiet_step ((go_at_call 62; exact bel_quiet (HCS.out _))))
            refine wpQuiet_nil ?_
            intro wb hw'
            obtain ⟨⟨wb', hB⟩, hwb⟩ := hw'
            simp only at hwb
            subst hwb
            try simp only at hB ⊢
            all_goals
              clear s0 s1 s2 s3 s4 him hjm hi0 hj0 hkN hk0
              have x0 := (hB.cell (p := ⟨wr.heap.size, 0, none⟩) HWS0.out.2.2).trans HWS0.out.1
              have x1 := (hB.cell (p := ⟨wr.heap.size, 1, none⟩) HWS0.out.2.2).trans HWS0.out.2.1
              have HBB := Lib.hid (HWSB.out.trans (hB.mono HWSB.out.size))
              clear hB
              have HOB := Lib.hid ((HO.out.below HBB.out (Nat.le_refl _)).mono_hi HBB.out.size)
              have HBW : Hid (Below g3 w3 wb) := Lib.hid (HB.out.trans (HBB.out.mono HLO.out))
              have HLB : Hid (g3 ≤ wb.heap.size) := Lib.hid (by have h1 := HBB.out.size; have h2 := HLO.out; omega)
              go_wp2_with (at_builtin; refine wpList_pushL _ rfl (.tmp 54) (.tmp 60) 24 rfl g3 49 (.slice none 0 0) 1 24 infoInts rfl (by omega) Try.underlying24 O1 g o1 hs rfl ((HOB.out.below (((Below.refl _ _).alloc (Nat.le_refl _) _).alloc (by simp) _) (Nat.le_refl _)).row) (some ⟨wb.heap.size + 1, 0, none⟩) 1 1 [.slice (some ⟨wb.heap.size, 0, none⟩) 2 2] rfl (by have h := reads_new (wb.alloc (.cells #[.int .i64 xm, .int .i64 xp] 3)) (.slice (some ⟨wb.heap.size, 0, none⟩) 2 2) 49; simp only [World.size_alloc] at h; exact h) (by simp [Value.oneCell']) (by omega) (by omega) (by have := HLB.out; simp; omega) ?_; intro O2 o2 w7 hown7 hg7 hb7 hloc7)
              have HO7 := Lib.hid (HOB.out.push_row (l := ints [xm, xp]) rfl HLB.out (by simp) (by simpa [ints] using hg7) hown7 (by simpa [ints] using hloc7))
              have HB7 : Hid (Below g3 w3 w7) := Lib.hid ((HBW.out.trans (((Below.refl _ _).alloc HLB.out _).alloc (by have := HLB.out; simp; omega) _)).trans hb7)
              clear hown7 hg7 hb7 hloc7
              go_roundw
              case rel =>
                refine ⟨k + 1, g + 1, O2, o2, C ++ [[xm, xp]], _, by omega, by go_num, rfl, by omega, by simp [HLC.out], ?_, by simpa [rowsIntss] using HO7.out, HB7.out⟩
                rw [← HRC.out, HSK.out]; simp
              case measure => simp [intOf]; omega
        · have HE := Lib.hid (drop_end (xs := togE M L) (k := k) (by rw [HPL.out]; omega))
          have hC : C = chgE (togE M L) := by have := HRC.out; rw [HE.out] at this; simpa [chgE] using this
          subst hC
          have hg : g = (chgE (togE M L)).length := HLC.out.symm
          subst hg
          go_wp2
          go_ret2
          subst hg3
          exact ⟨O1, o1, hs, rfl, HO.out.mono_lo HW3.out.size, HWB.out⟩

set_option maxHeartbeats 4000000 in
set_option maxRecDepth 100000 in
theorem implChangedBetween_any (A : Option Addr) (n c : Nat) (L : List EntryT) (B : Option Addr) (m d : Nat) (M : List EntryT) (w : World) (hn : n ≤ 1000000000) (hl : ∀ x ∈ L, lenE 1000000000 x) (h : Reads2 w 5 A n (rowsE L)) (hc : n ≤ c) (hm : m ≤ 1000000000) (hl' : ∀ x ∈ M, lenE 1000000000 x) (h' : Reads2 w 5 B m (rowsE M)) (hd : m ≤ d) :
    Calls Try.prog 14 #[.slice A n c, .slice B m d] w (Made4 w 49 3 1 (chgR L M).1.length (rowsIntss (chgR L M).1) (chgR L M).2) := by
  have C1 := Lib.hid (isLog_any A n c L w hn hc hl h)
  have C2 := Lib.hid (fun W (hW : Below w.heap.size w W) => isLog_any B m d M W hm hd hl' (h'.below hW))
  cases h1 : goodE L with
  | false =>
    have hr : chgR L M = ([], false) := by simp [chgR, h1]
    rw [hr]
    simp only [h1] at C1
    
    clear hr h h' hl hl'
    go_enter Try.func14, Try.ntmps14
    go_wp2_with (first | (go_at_call_of 33 (Value.slice A n c); refine (C1.out).mono ?_; rintro e w1 ⟨rfl, hb1⟩; have HB1 := Lib.hid hb1; clear hb1) | (go_at_call_of 33 (Value.slice B m d); refine (C2.out _ HB1.out).mono ?_; rintro e w2 ⟨rfl, hb2⟩; have HB2 := Lib.hid (HB1.out.trans (hb2.mono HB1.out.size)); clear hb2))
    go_ret2
    exact ⟨none, 0, [], rfl, own2_nil _ _, HB1.out⟩
  | true =>
    cases h2 : goodE M with
    | false =>
      have hr : chgR L M = ([], false) := by simp [chgR, h2]
      rw [hr]
      simp only [h1] at C1
      simp only [h2] at C2
      clear hr h h' hl hl'
      go_enter Try.func14, Try.ntmps14
      go_wp2_with (first | (go_at_call_of 33 (Value.slice A n c); refine (C1.out).mono ?_; rintro e w1 ⟨rfl, hb1⟩; have HB1 := Lib.hid hb1; clear hb1) | (go_at_call_of 33 (Value.slice B m d); refine (C2.out _ HB1.out).mono ?_; rintro e w2 ⟨rfl, hb2⟩; have HB2 := Lib.hid (HB1.out.trans (hb2.mono HB1.out.size)); clear hb2))
      go_ret2
      exact ⟨none, 0, [], rfl, own2_nil _ _, HB2.out⟩
    | true =>
      have hr : chgR L M = (chgE (togE M L), true) := by simp [chgR, h1, h2]
      rw [hr]
      have gL := goodE_all h1
      have gM := goodE_all h2
      have HLE := Lib.hid hl
      have HME := Lib.hid hl'
      simp only [h1] at C1
      simp only [h2] at C2
      have HX := Lib.hid (show L.length = n by have := h.len; rw [length_rowsE] at this; omega)
      have HY := Lib.hid (show M.length = m by have := h'.len; rw [length_rowsE] at this; omega)
      have C3 := Lib.hid (fun W (hW : Below w.heap.size w W) => together_any A n c L B m d M W (by have := gL.2; rw [HX.out] at this; omega) (by have := gM.2; rw [HY.out] at this; omega) (h.below hW) (h'.below hW))
      have H := Lib.hid h
      have H' := Lib.hid h'
      have hN : cntE M L ≤ 30 := by have := togE_len M L; have := gL.2; unfold cntE; omega
      have HPL : Hid ((togE M L).length = cntE M L) := Lib.hid rfl
      clear hr h h' hl hl' gL gM h1 h2
      go_enter Try.func14, Try.ntmps14
      go_wp2_with (first | (go_at_call_of 33 (Value.slice A n c); refine (C1.out).mono ?_; rintro e w1 ⟨rfl, hb1⟩; have HB1 := Lib.hid hb1; clear hb1) | (go_at_call_of 33 (Value.slice B m d); refine (C2.out _ HB1.out).mono ?_; rintro e w2 ⟨rfl, hb2⟩; have HB2 := Lib.hid (HB1.out.trans (hb2.mono HB1.out.size)); clear hb2) | (go_at_call 64; refine (C3.out _ HB2.out).mono ?_; rintro e w3 ⟨P1, p1, rfl, hr3, hb3⟩; have HR3 := Lib.hid hr3; have HW3 := Lib.hid (HB2.out.trans (hb3.mono HB2.out.size)); clear hr3 hb3))
      generalize hg3 : w3.heap.size = g3 at *
      go_loopw [6, 21] (fun o i wr => ∃ k g : Nat, ∃ O1 o1 C hs, k ≤ cntE M L ∧ i = .int .i64 k ∧ o = .slice O1 g o1 ∧ g ≤ k ∧ C.length = g ∧ C ++ chgE ((togE M L).drop k) = chgE (togE M L) ∧ Own2 wr g3 wr.heap.size 49 3 1 O1 g o1 (rowsIntss C) hs ∧ Below g3 w3 wr) (fun _ i _ => cntE M L - (intOf i).toNat)
      case atStart => exact ⟨0, 0, none, 0, [], [], Nat.zero_le _, rfl, rfl, Nat.le_refl _, rfl, rfl, own2_nil _ _, Below.refl _ _⟩
      case round =>
        obtain ⟨k, g, O1, o1, C, hs, hk, rfl, rfl, hgk, hlc, hrc, hown, hb⟩ := hrel
        have HLC := Lib.hid hlc; have HRC := Lib.hid hrc; have HO := Lib.hid hown; have HB := Lib.hid hb
        clear hlc hrc hown hb
        have HLO : Hid (g3 ≤ wr.heap.size) := Lib.hid (by have h1 := HB.out.size; omega)
        have HWB : Hid (Below w.heap.size w wr) := Lib.hid (HW3.out.trans (HB.out.mono (by rw [← hg3]; exact HW3.out.size)))
        by_cases hlt : k < cntE M L
        · have hx : k < (togE M L).length := by rw [HPL.out]; exact hlt
          have HD := Lib.hid (drop_cons hx)
          obtain ⟨ad, A3, c3, A4, c4, B3, d3, B4, d4, rfl, ⟨k0, k1, k2, k3, k4, k5, k6, k7, k8, k9⟩, _, hra, hrb, _⟩ := rowsP_at (HR3.out.below (by rw [hg3]; exact HB.out)) hx
          have HCG : Hid (chgE ((togE M L).drop k) = if sameB (togE M L)[k].1.2.2.2.2 (togE M L)[k].2.2.2.2.1 = true then chgE ((togE M L).drop (k + 1)) else [(togE M L)[k].1.2.1, (togE M L)[k].1.2.2.1] :: chgE ((togE M L).drop (k + 1))) := Lib.hid (by rw [HD.out]; rfl)
          have HLP1 := Lib.hid (HLE.out _ (togE_mem _ (List.getElem_mem hx)).1)
          have HLP2 := Lib.hid (HME.out _ (togE_mem _ (List.getElem_mem hx)).2)
          generalize (togE M L)[k] = x at *
          obtain ⟨⟨t, mm, p, l, l'⟩, ⟨yt, ym, yp, yl, yl'⟩⟩ := x
          simp only at k0 k1 k2 k3 k4 k5 k6 k7 k8 k9 hra hrb HCG
          have CS := slicesEqual_any A4 l'.length c4 l' B3 yl.length d3 yl (wr.alloc (.cells #[.int .i64 t, .int .i64 mm, .int .i64 p, .slice A3 l.length c3, .slice A4 l'.length c4, .int .i64 yt, .int .i64 ym, .int .i64 yp, .slice B3 yl.length d3, .slice B4 yl'.length d4] 85)) (by have := HLP1.out; unfold lenE at this; exact this.2) (by have := HLP2.out; unfold lenE at this; exact this.1) (hra.alloc _) (hrb.alloc _)
          clear hra hrb
          obtain ⟨bb, hbb⟩ : ∃ bb, bb = sameB l' yl := ⟨_, rfl⟩
          rw [← hbb] at CS HCG
          have HCS := Lib.hid CS
          clear CS hbb
          cases bb with
          | true =>
            have HSK : Hid (chgE ((togE M L).drop k) = chgE ((togE M L).drop (k + 1))) := Lib.hid (by rw [HCG.out]; simp)
            go_wp2_with fail
            refine (HCS.out).mono ?_
            rintro e wb ⟨rfl, hq⟩
            have hB := below_of_quiet (B := (wr.alloc (.cells #[.int .i64 t, .int .i64 mm, .int .i64 p, .slice A3 l.length c3, .slice A4 l'.length c4, .int .i64 yt, .int .i64 ym, .int .i64 yp, .slice B3 yl.length d3, .slice B4 yl'.length d4] 85)).heap.size) hq
            have x0 := (hB.cell (p := ⟨wr.heap.size, 1, none⟩) (by simp)).trans (show _ = some (.int .i64 mm) by simp)
            have x1 := (hB.cell (p := ⟨wr.heap.size, 2, none⟩) (by simp)).trans (show _ = some (.int .i64 p) by simp)
            have HBB := Lib.hid (((Below.refl _ _).alloc (Nat.le_refl _) (.cells #[.int .i64 t, .int .i64 mm, .int .i64 p, .slice A3 l.length c3, .slice A4 l'.length c4, .int .i64 yt, .int .i64 ym, .int .i64 yp, .slice B3 yl.length d3, .slice B4 yl'.length d4] 85)).trans (hB.mono (by simp)))
            clear hq hB k0 k1 k2 k3 k4 k5 k6 k7 k8 k9
            all_goals
              have HOB := Lib.hid ((HO.out.below HBB.out (Nat.le_refl _)).mono_hi HBB.out.size)
              have HBW : Hid (Below g3 w3 wb) := Lib.hid (HB.out.trans (HBB.out.mono HLO.out))
              have HLB : Hid (g3 ≤ wb.heap.size) := Lib.hid (by have h1 := HBB.out.size; have h2 := HLO.out; omega)
              go_wp2
              go_roundw
              case rel => exact ⟨k + 1, g, O1, o1, C, hs, by omega, by go_num, rfl, by omega, HLC.out, by rw [← HSK.out]; exact HRC.out, HOB.out, HBW.out⟩
              case measure => simp [intOf]; omega
          | false =>
            have HSK : Hid (chgE ((togE M L).drop k) = [mm, p] :: chgE ((togE M L).drop (k + 1))) := Lib.hid (by rw [HCG.out]; simp)
            go_wp2_with fail
            refine (HCS.out).mono ?_
            rintro e wb ⟨rfl, hq⟩
            have hB := below_of_quiet (B := (wr.alloc (.cells #[.int .i64 t, .int .i64 mm, .int .i64 p, .slice A3 l.length c3, .slice A4 l'.length c4, .int .i64 yt, .int .i64 ym, .int .i64 yp, .slice B3 yl.length d3, .slice B4 yl'.length d4] 85)).heap.size) hq
            have x0 := (hB.cell (p := ⟨wr.heap.size, 1, none⟩) (by simp)).trans (show _ = some (.int .i64 mm) by simp)
            have x1 := (hB.cell (p := ⟨wr.heap.size, 2, none⟩) (by simp)).trans (show _ = some (.int .i64 p) by simp)
            have HBB := Lib.hid (((Below.refl _ _).alloc (Nat.le_refl _) (.cells #[.int .i64 t, .int .i64 mm, .int .i64 p, .slice A3 l.length c3, .slice A4 l'.length c4, .int .i64 yt, .int .i64 ym, .int .i64 yp, .slice B3 yl.length d3, .slice B4 yl'.length d4] 85)).trans (hB.mono (by simp)))
            clear hq hB k0 k1 k2 k3 k4 k5 k6 k7 k8 k9
            all_goals
              have HOB := Lib.hid ((HO.out.below HBB.out (Nat.le_refl _)).mono_hi HBB.out.size)
              have HBW : Hid (Below g3 w3 wb) := Lib.hid (HB.out.trans (HBB.out.mono HLO.out))
              have HLB : Hid (g3 ≤ wb.heap.size) := Lib.hid (by have h1 := HBB.out.size; have h2 := HLO.out; omega)
              go_wp2_with (at_builtin; refine wpList_pushL _ rfl (.tmp 33) (.tmp 41) 24 rfl g3 49 (.slice none 0 0) 1 24 infoInts rfl (by omega) Try.underlying24 O1 g o1 hs rfl ((HOB.out.below (((Below.refl _ _).alloc (Nat.le_refl _) _).alloc (by simp) _) (Nat.le_refl _)).row) (some ⟨wb.heap.size + 1, 0, none⟩) 1 1 [.slice (some ⟨wb.heap.size, 0, none⟩) 2 2] rfl (by have h := reads_new (wb.alloc (.cells #[.int .i64 mm, .int .i64 p] 3)) (.slice (some ⟨wb.heap.size, 0, none⟩) 2 2) 49; simp only [World.size_alloc] at h; exact h) (by simp [Value.oneCell']) (by omega) (by omega) (by have := HLB.out; simp; omega) ?_; intro O2 o2 w7 hown7 hg7 hb7 hloc7)
              have HO7 := Lib.hid (HOB.out.push_row (l := ints [mm, p]) rfl HLB.out (by simp) (by simpa [ints] using hg7) hown7 (by simpa [ints] using hloc7))
              have HB7 : Hid (Below g3 w3 w7) := Lib.hid ((HBW.out.trans (((Below.refl _ _).alloc HLB.out _).alloc (by have := HLB.out; simp; omega) _)).trans hb7)
              clear hown7 hg7 hb7 hloc7
              go_roundw
              case rel =>
                refine ⟨k + 1, g + 1, O2, o2, C ++ [[mm, p]], _, by omega, by go_num, rfl, by omega, by simp [HLC.out], ?_, by simpa [rowsIntss] using HO7.out, HB7.out⟩
                rw [← HRC.out, HSK.out]; simp
              case measure => simp [intOf]; omega
        · have HE := Lib.hid (drop_end (xs := togE M L) (k := k) (by rw [HPL.out]; omega))
          have hC : C = chgE (togE M L) := by have := HRC.out; rw [HE.out] at this; simpa [chgE] using this
          subst hC
          have hg : g = (chgE (togE M L)).length := HLC.out.symm
          subst hg
          go_wp2
          go_ret2
          subst hg3
          exact ⟨O1, o1, hs, rfl, HO.out.mono_lo HW3.out.size, HWB.out⟩

end Go.Proofs.Ytcjmlakmigfkfaa

namespace Go.Proofs.Ytcjmlakmigfkfaa
set_option linter.unusedSimpArgs false
set_option linter.unusedVariables false
open Go.RowKit


set_option maxHeartbeats 4000000 in
set_option maxRecDepth 100000 in
theorem rbLog_any (A : Option Addr) (n c : Nat) (L : List EntryT) (B : Option Addr) (m d : Nat) (M : List EntryT) (a b : Int) (w : World) (hk : askE L M a b = true) (h : Reads2 w 5 A n (rowsE L)) (h' : Reads2 w 5 B m (rowsE M)) :
    Calls Try.prog 73 #[.slice A n c, .slice B m d, .int .i64 a, .int .i64 b] w (Made4 w 51 3 5 (rebE a b (togE M L)).length (rowsE (rebE a b (togE M L))) true) := by
  have HX := Lib.hid (show L.length = n by have := h.len; rw [length_rowsE] at this; omega)
  have HY := Lib.hid (show M.length = m by have := h'.len; rw [length_rowsE] at this; omega)
  obtain ⟨hgL, hgM, hab, hbb⟩ := askE_true hk
  have gL := goodE_all hgL
  have gM := goodE_all hgM
  have gR := rebE_good hk
  have HLR : Hid (∀ x ∈ rebE a b (togE M L), lenE 1000000000 x) := Lib.hid (fun x hx => by have := entB_len ((goodE_all gR).1 x hx); unfold lenE; omega)
  have HNR : Hid ((rebE a b (togE M L)).length ≤ 30) := Lib.hid (goodE_all gR).2
  have HGR := Lib.hid gR
  have C3 := Lib.hid (rbGaps_any A n c L B m d M a b w (by have := gL.2; rw [HX.out] at this; omega) (by have := gM.2; rw [HY.out] at this; omega) gL.1 gM.1 hab hbb h h')
  have H := Lib.hid h
  have H' := Lib.hid h'
  have hN : cntE M L ≤ 30 := by have := togE_len M L; have := gL.2; unfold cntE; omega
  have HPL : Hid ((togE M L).length = cntE M L) := Lib.hid rfl
  clear h h' hgL hgM gL gM gR hk
  go_enter Try.func73, Try.ntmps73
  go_wp2_with (go_at_call 61; refine (C3.out).mono ?_; rintro e w3 ⟨P1, p1, P2, p2, hs0, rfl, hr3, hb3⟩; have HR3 := Lib.hid (Reads.of_own hr3.one); have HR4 := Lib.hid (Reads2.of_own hr3.two); have HW3 := Lib.hid hb3; clear hr3 hb3)
  generalize hg3 : w3.heap.size = g3 at *
  have C4 : Hid (∀ (O1 : Option Addr) (o1 : Nat) (W : World), Below g3 w3 W → Reads2 W 5 O1 (rebE a b (togE M L)).length (rowsE (rebE a b (togE M L))) → Calls Try.prog 97 #[.slice O1 (rebE a b (togE M L)).length o1] W (Made4 W 51 3 5 (rebE a b (togE M L)).length (rowsE (rebE a b (togE M L))) true)) := Lib.hid (fun O1 o1 W _ hR => lgIf_any O1 _ o1 _ W (by have := HNR.out; omega) HLR.out HGR.out hR)
  go_loopw [12, 25] (fun o i wr => ∃ k g : Nat, ∃ O1 o1 C hs, k ≤ cntE M L ∧ i = .int .i64 k ∧ o = .slice O1 g o1 ∧ g ≤ k ∧ C.length = g ∧ C ++ rebE a b ((togE M L).drop k) = rebE a b (togE M L) ∧ wr.ownsRow g3 51 5 (.slice O1 g o1) g hs ∧ (∀ (j : Nat) (u : Value) (x : Cel), hs[j]? = some u → (rowsE C)[j]? = some x → readsC w3 u x) ∧ Below g3 w3 wr) (fun _ i _ => cntE M L - (intOf i).toNat)
  case atStart => exact ⟨0, 0, none, 0, [], [], Nat.zero_le _, rfl, rfl, Nat.le_refl _, rfl, rfl, World.ownsRow_nil _ _ _ _, fun j u x hu => by simp at hu, Below.refl _ _⟩
  case round =>
    obtain ⟨k, g, O1, o1, C, hs, hk, rfl, rfl, hgk, hlc, hrc, hown, hcel, hb⟩ := hrel
    have HLC := Lib.hid hlc; have HRC := Lib.hid hrc; have HO := Lib.hid hown; have HB := Lib.hid hb; have HC := Lib.hid hcel
    clear hlc hrc hown hb hcel
    have HLO : Hid (g3 ≤ wr.heap.size) := Lib.hid (by have h1 := HB.out.size; omega)
    have HWB : Hid (Below w.heap.size w wr) := Lib.hid (HW3.out.trans (HB.out.mono (by rw [← hg3]; exact HW3.out.size)))
    by_cases hlt : k < cntE M L
    · have hx : k < (togE M L).length := by rw [HPL.out]; exact hlt
      have HD := Lib.hid (drop_cons hx)
      obtain ⟨i, j, hi, hj, hix, hxy⟩ := ix_at hx
      have HR3' := HR3.out
      have HR4' := HR4.out
      obtain ⟨ga, e0, k0', k1', k2', k3'⟩ := rows4_at HR3' hlt (gapsE_len M a b L)
      obtain ⟨pa, qa, cq, e1, j0', j1', j2'⟩ := ixL_at HR4' hix
      subst e0
      subst e1
      have up : ∀ (p : Addr) (u : Value), w3.cell? p = some u → wr.cell? p = some u ∧ p.block < g3 := fun p u hu => by
        have := World.block_lt_of_cell? w3 _ hu
        rw [hg3] at this
        exact ⟨(HB.out.cell this).trans hu, this⟩
      have upw : ∀ (p : Addr) (u : Value), w.cell? p = some u → wr.cell? p = some u ∧ p.block < g3 := fun p u hu => by
        have := World.block_lt_of_cell? w _ hu
        have h2 := HW3.out.size
        exact ⟨(HWB.out.cell this).trans hu, by omega⟩
      obtain ⟨ad, A3, c3, A4, c4, rfl, ⟨_, _, _, _, k4'⟩, _, r4⟩ := rowsE_at2 H.out hi
      obtain ⟨bd, B3, d3, B4, d4, rfl, ⟨_, _, _, k5', _⟩, r5, _⟩ := rowsE_at2 H'.out hj
      obtain ⟨k0, _⟩ := up _ _ k0'
      obtain ⟨k1, _⟩ := up _ _ k1'
      obtain ⟨k2, _⟩ := up _ _ k2'
      obtain ⟨k3, _⟩ := up _ _ k3'
      obtain ⟨j0, hl0⟩ := up _ _ j0'
      obtain ⟨j1, hl1⟩ := up _ _ j1'
      obtain ⟨j2, hl2⟩ := up _ _ j2'
      obtain ⟨k4, hl4⟩ := upw _ _ k4'
      obtain ⟨k5, hl5⟩ := upw _ _ k5'
      have HRA := Lib.hid (readsC_keep (w' := w3) r4 (fun q hq => HW3.out.cell hq))
      have HRB := Lib.hid (readsC_keep (w' := w3) r5 (fun q hq => HW3.out.cell hq))
      clear k0' k1' k2' k3' j0' j1' j2' k4' k5' r4 r5 up upw HR3' HR4'
      have HRE : Hid (rebE a b ((togE M L).drop k) = if openG a b (L[i], M[j]) = true then rebOf a b (L[i], M[j]) :: rebE a b ((togE M L).drop (k + 1)) else rebE a b ((togE M L).drop (k + 1))) := Lib.hid (by rw [HD.out, hxy]; rfl)
      have hge : (gapsE M a b L)[k]'(by rw [gapsE_len]; exact hlt) = (L[i].2.1, L[i].2.2.1, L[i].1 + a, M[j].1 - b) := by simp only [gapsE, List.getElem_map, hxy, gapOf]
      simp only [hge] at k0 k1 k2 k3
      have him : (i : Int) < (n : Int) := by rw [HX.out] at hi; omega
      have hjm : (j : Int) < (m : Int) := by rw [HY.out] at hj; omega
      have hi0 : (0 : Int) ≤ (i : Int) := by omega
      have hj0 : (0 : Int) ≤ (j : Int) := by omega
      have hkN : (k : Int) < (cntE M L : Int) := by omega
      have hk0 : (0 : Int) ≤ (k : Int) := by omega
      clear hix hxy hge
      generalize L[i] = x at *
      generalize M[j] = y at *
      obtain ⟨xt, xm, xp, xl, l'⟩ := x
      obtain ⟨yt, ym, yp, yl, yl'⟩ := y
      simp only at k0 k1 k2 k3 k4 k5 HRA HRB
      have hop : openG a b ((xt, xm, xp, xl, l'), (yt, ym, yp, yl, yl')) = decide (xt + a ≤ yt - b) := rfl
      have hro : rebOf a b ((xt, xm, xp, xl, l'), (yt, ym, yp, yl, yl')) = (xt + a, xm, xp, l', yl) := rfl
      rw [hop, hro] at HRE
      obtain ⟨lw, hlw⟩ : ∃ lw, lw = xt + a := ⟨_, rfl⟩
      obtain ⟨hw, hhw⟩ : ∃ hw, hw = yt - b := ⟨_, rfl⟩
      rw [← hlw] at k2 HRE
      rw [← hhw] at k3 HRE
      clear hlw hhw hop hro
      have HWS : Hid (Below wr.heap.size wr (wr.alloc (.cells #[.int .i64 xm, .int .i64 xp, .int .i64 lw, .int .i64 hw] 62))) := Lib.hid ((Below.refl _ _).alloc (Nat.le_refl _) _)
      by_cases hle : lw ≤ hw
      · have HSK : Hid (rebE a b ((togE M L).drop k) = (lw, xm, xp, l', yl) :: rebE a b ((togE M L).drop (k + 1))) := Lib.hid (by rw [HRE.out]; simp [hle])
        have nb : (Value.slice O1 g o1).ownBlock ≠ some wr.heap.size := own_ne_of_lt HO.out (.inr (Nat.le_refl _))
        have n0 : (Value.slice O1 g o1).ownBlock ≠ some (pa.add k).block := own_ne_of_lt HO.out (.inl hl0)
        have n1 : (Value.slice O1 g o1).ownBlock ≠ some qa.block := own_ne_of_lt HO.out (.inl hl1)
        have n4 : (Value.slice O1 g o1).ownBlock ≠ some (ad.add (i * 5)).block := own_ne_of_lt HO.out (.inl hl4)
        have n5 : (Value.slice O1 g o1).ownBlock ≠ some (bd.add (j * 5)).block := own_ne_of_lt HO.out (.inl hl5)
        have HWX : Hid (Below wr.heap.size wr ((wr.alloc (.cells #[.int .i64 xm, .int .i64 xp, .int .i64 lw, .int .i64 hw] 62)).drew.alloc (.cells #[.int .i64 lw, .int .i64 xm, .int .i64 xp, .slice A4 l'.length c4, .slice B3 yl.length d3] 51))) := Lib.hid (((Below.refl _ _).alloc (Nat.le_refl _) _).drew.alloc (by simp) _)
        clear hl0 hl1 hl2 hl4 hl5
        have b0 := alloc_cell (.cells #[.int .i64 xm, .int .i64 xp, .int .i64 lw, .int .i64 hw] 62) j0
        have b1 := alloc_cell (.cells #[.int .i64 xm, .int .i64 xp, .int .i64 lw, .int .i64 hw] 62) j1
        have b2 := alloc_cell (.cells #[.int .i64 xm, .int .i64 xp, .int .i64 lw, .int .i64 hw] 62) j2
        have b4 := alloc_cell (.cells #[.int .i64 xm, .int .i64 xp, .int .i64 lw, .int .i64 hw] 62) k4
        have b5 := alloc_cell (.cells #[.int .i64 xm, .int .i64 xp, .int .i64 lw, .int .i64 hw] 62) k5
        have x0 : (wr.alloc (.cells #[.int .i64 xm, .int .i64 xp, .int .i64 lw, .int .i64 hw] 62)).cell? ⟨wr.heap.size, 0, none⟩ = some (.int .i64 xm) := by simp
        have x1 : (wr.alloc (.cells #[.int .i64 xm, .int .i64 xp, .int .i64 lw, .int .i64 hw] 62)).cell? ⟨wr.heap.size, 1, none⟩ = some (.int .i64 xp) := by simp
        have x2 : (wr.alloc (.cells #[.int .i64 xm, .int .i64 xp, .int .i64 lw, .int .i64 hw] 62)).cell? ⟨wr.heap.size, 2, none⟩ = some (.int .i64 lw) := by simp
        go_wp2
        go_region_held3 (fun w' => w'.cell? ⟨wr.heap.size, 0, none⟩ = some (.int .i64 xm) ∧ w'.cell? ⟨wr.heap.size, 1, none⟩ = some (.int .i64 xp) ∧ w'.cell? ⟨wr.heap.size, 2, none⟩ = some (.int .i64 lw) ∧ w'.cell? (pa.add k) = some (.slice (some qa) 2 cq) ∧ w'.cell? qa = some (.int .i64 (i : Int)) ∧ w'.cell? ⟨qa.block, qa.off + 1, none⟩ = some (.int .i64 (j : Int)) ∧ w'.cell? ⟨(ad.add (i * 5)).block, (ad.add (i * 5)).off + 4, none⟩ = some (.slice A4 l'.length c4) ∧ w'.cell? ⟨(bd.add (j * 5)).block, (bd.add (j * 5)).off + 3, none⟩ = some (.slice B3 yl.length d3))
          (first | (go_split_ands; refine ⟨?_, ?_, ?_, ?_, ?_, ?_, ?_, ?_⟩ <;> first | assumption | (simp; done) | (refine alloc_cell _ ?_; assumption) | (refine grown_cell hg4 ?_ (alloc_cell _ ?_) <;> assumption)) | fail)
          ((refine step_pushL _ (by rfl) (.tmp 35) (.tmp 63) 27 (by rfl) g3 51 _ 5 72 infoEntry rfl (by omega) Try.underlying27 O1 g o1 hs (by rfl) (own_below HO.out HWX.out) (some ⟨wr.heap.size + 1, 0, none⟩) 1 1 [.int .i64 lw, .int .i64 xm, .int .i64 xp, .slice A4 l'.length c4, .slice B3 yl.length d3] (by rfl) (by have h := reads_litk (wr.alloc (.cells #[.int .i64 xm, .int .i64 xp, .int .i64 lw, .int .i64 hw] 62)).drew [.int .i64 lw, .int .i64 xm, .int .i64 xp, .slice A4 l'.length c4, .slice B3 yl.length d3] 51 (n := 1) (k := 5) rfl; have e : (wr.alloc (.cells #[.int .i64 xm, .int .i64 xp, .int .i64 lw, .int .i64 hw] 62)).drew.heap.size = wr.heap.size + 1 := World.size_alloc _ _; rw [e] at h; exact h) (by simp [Value.oneCell']) (by omega) (by omega) (by have := HLO.out; simp; omega) ?_; intro O2 o2 w4 hown4 hg4 hb4 hloc4))
        clear x0 x1 x2 b0 b1 b2 b4 b5 j0 j1 j2 k0 k1 k2 k3 k4 k5 nb n0 n1 n4 n5
        have HO4 := Lib.hid hown4
        have HB4 : Hid (Below g3 w3 w4) := Lib.hid ((HB.out.trans (HWS.out.mono HLO.out)).trans ((((Below.refl _ _).drew.alloc (by have := HLO.out; simp; omega) _)).trans hb4))
        clear hown4 hg4 hb4 hloc4
        have HCN : Hid (∀ (q : Nat) (u : Value) (x : Cel), (hs ++ [.int .i64 lw, .int .i64 xm, .int .i64 xp, .slice A4 l'.length c4, .slice B3 yl.length d3])[q]? = some u → (rowsE (C ++ [(lw, xm, xp, l', yl)]))[q]? = some x → readsC w3 u x) := Lib.hid (by
          intro q u x hu hx
          have e1 : rowsE (C ++ [(lw, xm, xp, l', yl)]) = rowsE C ++ celEntry (lw, xm, xp, l', yl) := by simp [rowsE]
          rw [e1] at hx
          have hl : (rowsE C).length = hs.length := by rw [length_rowsE, HLC.out, HO.out.1]
          rcases append_cases hu with ⟨hq, hu⟩ | ⟨hq, hu⟩ <;> rcases append_cases hx with ⟨hq', hx⟩ | ⟨hq', hx⟩
          · exact HC.out q u x hu hx
          · omega
          · omega
          · rw [hl] at hx
            generalize q - hs.length = r at hu hx
            match r with
            | 0 => simp [celEntry] at hu hx; subst hu; subst hx; rfl
            | 1 => simp [celEntry] at hu hx; subst hu; subst hx; rfl
            | 2 => simp [celEntry] at hu hx; subst hu; subst hx; rfl
            | 3 => simp [celEntry] at hu hx; subst hu; subst hx; exact HRA.out
            | 4 => simp [celEntry] at hu hx; subst hu; subst hx; exact HRB.out
            | r + 5 => simp at hu)
        go_wp2
        go_roundw
        case rel =>
          refine ⟨k + 1, g + 1, O2, o2, C ++ [(lw, xm, xp, l', yl)], hs ++ [.int .i64 lw, .int .i64 xm, .int .i64 xp, .slice A4 l'.length c4, .slice B3 yl.length d3], by omega, by go_num, rfl, by omega, by simp [HLC.out], ?_, HO4.out, HCN.out, HB4.out⟩
          rw [← HRC.out, HSK.out]; simp
        case measure => simp [intOf]; omega
      · have HSK : Hid (rebE a b ((togE M L).drop k) = rebE a b ((togE M L).drop (k + 1))) := Lib.hid (by rw [HRE.out]; simp [hle])
        go_wp2
        go_roundw
        case rel => exact ⟨k + 1, g, O1, o1, C, hs, by omega, by go_num, rfl, by omega, HLC.out, by rw [← HSK.out]; exact HRC.out, own_below HO.out HWS.out, HC.out, HB.out.trans (HWS.out.mono HLO.out)⟩
        case measure => simp [intOf]; omega
    · have HE := Lib.hid (drop_end (xs := togE M L) (k := k) (by rw [HPL.out]; omega))
      have hC : C = rebE a b (togE M L) := by have := HRC.out; rw [HE.out] at this; simpa [rebE] using this
      subst hC
      have hg : g = (rebE a b (togE M L)).length := HLC.out.symm
      subst hg
      have HRD : Hid (Reads2 wr 5 O1 (rebE a b (togE M L)).length (rowsE (rebE a b (togE M L)))) := Lib.hid ⟨hs, .of_own HO.out, by rw [length_rowsE, HO.out.1], fun j u x hu hx => readsC_keep (HC.out j u x hu hx) (fun q hq => HB.out.cell (by omega))⟩
      go_wp2_with (go_at_call 97; refine (C4.out O1 o1 wr HB.out HRD.out).mono ?_; rintro e w5 ⟨Q1, q1, hs5, rfl, ho5, hb5⟩; have HO5 := Lib.hid ho5; have HB5 := Lib.hid hb5; clear ho5 hb5)
      go_ret2
      exact ⟨Q1, q1, hs5, rfl, HO5.out.mono_lo HWB.out.size, HWB.out.trans (HB5.out.mono HWB.out.size)⟩
set_option maxHeartbeats 1000000 in
set_option maxRecDepth 100000 in
theorem specRebuildLog_any (A : Option Addr) (n c : Nat) (L : List EntryT) (B : Option Addr) (m d : Nat) (M : List EntryT) (a b : Int) (w : World) (hn : n ≤ 1000000000) (hl : ∀ x ∈ L, lenE 1000000000 x) (h : Reads2 w 5 A n (rowsE L)) (hc : n ≤ c) (hm : m ≤ 1000000000) (hl' : ∀ x ∈ M, lenE 1000000000 x) (h' : Reads2 w 5 B m (rowsE M)) (hd : m ≤ d) :
    Calls Try.prog 25 #[.slice A n c, .slice B m d, .int .i64 a, .int .i64 b] w (Made4 w 51 3 5 (rebR L M a b).1.length (rowsE (rebR L M a b).1) (rebR L M a b).2) := by
  have c1 := rbGood_any A n c L B m d M a b w hn hl h hm hl' h'
  cases hk : askE L M a b with
  | false =>
    rw [hk] at c1
    have C1 := Lib.hid c1
    have hr : rebR L M a b = ([], false) := by simp [rebR, hk]
    rw [hr]
    clear c1 hr h h' hl hl' hk
    go_enter Try.func25, Try.ntmps25
    go_wp2_with (go_at_call 70; refine (C1.out).mono ?_; rintro e w1 ⟨rfl, hb⟩; have HB := Lib.hid hb; clear hb)
    go_ret2
    exact ⟨none, 0, [], rfl, own2_nil _ _, HB.out⟩
  | true =>
    rw [hk] at c1
    have C1 := Lib.hid c1
    have hr : rebR L M a b = (rebE a b (togE M L), true) := by simp [rebR, hk]
    rw [hr]
    have C2 := Lib.hid (fun W (hW : Below w.heap.size w W) => rbLog_any A n c L B m d M a b W hk (h.below hW) (h'.below hW))
    clear c1 hr h h' hl hl' hk
    go_enter Try.func25, Try.ntmps25
    go_wp2_with (first | (go_at_call 70; refine (C1.out).mono ?_; rintro e w1 ⟨rfl, hb⟩; have HB0 := Lib.hid hb; clear hb) | (go_at_call 73; refine (C2.out _ HB0.out).mono ?_; rintro e w2 ⟨Q1, q1, hs, rfl, ho, hb2⟩; have HO2 := Lib.hid ho; have HB2 := Lib.hid hb2; clear ho hb2))
    go_ret2
    exact ⟨Q1, q1, hs, rfl, HO2.out.mono_lo HB0.out.size, HB0.out.trans (HB2.out.mono HB0.out.size)⟩

end Go.Proofs.Ytcjmlakmigfkfaa

namespace Go.Proofs.Ytcjmlakmigfkfaa
set_option linter.unusedSimpArgs false
set_option linter.unusedVariables false
open Go.RowKit

theorem bel_cell {w w' : World} {p : Addr} {u : Value} (hb : Below w.heap.size w w') (h : w.cell? p = some u) : w'.cell? p = some u := (hb.cell (World.block_lt_of_cell? w _ h)).trans h

set_option maxHeartbeats 4000000 in
set_option maxRecDepth 100000 in
theorem rebuilt_any (A : Option Addr) (n c : Nat) (L : List EntryT) (B : Option Addr) (m d : Nat) (M : List EntryT) (a b : Int) (w : World) (hk : askE L M a b = true) (h : Reads2 w 5 A n (rowsE L)) (h' : Reads2 w 5 B m (rowsE M)) :
    Calls Try.prog 74 #[.slice A n c, .slice B m d, .int .i64 a, .int .i64 b] w (Made3 w 51 3 5 (rebE a b (togE M L)).length (rowsE (rebE a b (togE M L)))) := by
  have HX := Lib.hid (show L.length = n by have := h.len; rw [length_rowsE] at this; omega)
  have HY := Lib.hid (show M.length = m by have := h'.len; rw [length_rowsE] at this; omega)
  obtain ⟨hgL, hgM, hab, hbb⟩ := askE_true hk
  have gL := goodE_all hgL
  have gM := goodE_all hgM
  have C3 := Lib.hid (together_any A n c L B m d M w (by have := gL.2; rw [HX.out] at this; omega) (by have := gM.2; rw [HY.out] at this; omega) h h')
  have hN : cntE M L ≤ 30 := by have := togE_len M L; have := gL.2; unfold cntE; omega
  have HTT : Hid (∀ p ∈ togE M L, ((0 ≤ p.1.1 ∧ p.1.1 ≤ 10000) ∧ 0 ≤ p.2.1 ∧ p.2.1 ≤ 10000) ∧ p.1.2.2.2.2.length ≤ 1000000000 ∧ p.2.2.2.2.1.length ≤ 1000000000) := Lib.hid (fun p hp => by
    have hm := togE_mem p hp
    have e1 := entB_len (gL.1 _ hm.1)
    have e2 := entB_len (gM.1 _ hm.2)
    exact ⟨⟨entB_time (gL.1 _ hm.1), entB_time (gM.1 _ hm.2)⟩, by omega, by omega⟩)
  have HPL : Hid ((togE M L).length = cntE M L) := Lib.hid rfl
  clear h h' hgL hgM gL gM hk
  generalize togE M L = P at *
  generalize cntE M L = N at *
  go_enter Try.func74, Try.ntmps74
  go_wp2_with (go_at_call 64; refine (C3.out).mono ?_; rintro e w3 ⟨P1, p1, rfl, hr3, hb3⟩; have HR3 := Lib.hid hr3; have HW3 := Lib.hid hb3; clear hr3 hb3)
  generalize hg3 : w3.heap.size = g3 at *
  go_loopw [9, 16] (fun o i wr => ∃ k g : Nat, ∃ O1 o1 C hs, k ≤ N ∧ i = .int .i64 k ∧ o = .slice O1 g o1 ∧ g ≤ k ∧ C.length = g ∧ C ++ rebE a b (P.drop k) = rebE a b P ∧ Own2 wr g3 wr.heap.size 51 3 5 O1 g o1 (rowsE C) hs ∧ Below g3 w3 wr) (fun _ i _ => N - (intOf i).toNat)
  case atStart => exact ⟨0, 0, none, 0, [], [], Nat.zero_le _, rfl, rfl, Nat.le_refl _, rfl, rfl, own2_nil _ _, Below.refl _ _⟩
  case round =>
    obtain ⟨k, g, O1, o1, C, hs, hk, rfl, rfl, hgk, hlc, hrc, hown, hb⟩ := hrel
    have HLC := Lib.hid hlc; have HRC := Lib.hid hrc; have HO := Lib.hid hown; have HB := Lib.hid hb
    clear hlc hrc hown hb
    have HLO : Hid (g3 ≤ wr.heap.size) := Lib.hid (by have h1 := HB.out.size; omega)
    by_cases hlt : k < N
    · have hx : k < P.length := by rw [HPL.out]; exact hlt
      have HD := Lib.hid (drop_cons hx)
      obtain ⟨ad, A3, c3, A4, c4, B3, d3, B4, d4, rfl, ⟨k0, k1, k2, k3, k4, k5, k6, k7, k8, k9⟩, _, hra, hrb, _⟩ := rowsP_at (HR3.out.below (by rw [hg3]; exact HB.out)) hx
      have htt := HTT.out P[k] (List.getElem_mem hx)
      have HRE : Hid (rebE a b (P.drop k) = if openG a b P[k] = true then rebOf a b P[k] :: rebE a b (P.drop (k + 1)) else rebE a b (P.drop (k + 1))) := Lib.hid (by rw [HD.out]; rfl)
      generalize P[k] = x at *
      obtain ⟨⟨t, mm, p, l, l'⟩, ⟨yt, ym, yp, yl, yl'⟩⟩ := x
      simp only at k0 k1 k2 k3 k4 k5 k6 k7 k8 k9 htt hra hrb
      have hop : openG a b ((t, mm, p, l, l'), (yt, ym, yp, yl, yl')) = decide (t + a ≤ yt - b) := rfl
      have hro : rebOf a b ((t, mm, p, l, l'), (yt, ym, yp, yl, yl')) = (t + a, mm, p, l', yl) := rfl
      rw [hop, hro] at HRE
      clear hop hro
      obtain ⟨⟨ht, hyt⟩, hx4, hx5⟩ := htt
      have HRA := Lib.hid hra; have HRB := Lib.hid hrb
      clear hra hrb
      have HWS : Hid (Below wr.heap.size wr (wr.alloc (.cells #[.int .i64 t, .int .i64 mm, .int .i64 p, .slice A3 l.length c3, .slice A4 l'.length c4, .int .i64 yt, .int .i64 ym, .int .i64 yp, .slice B3 yl.length d3, .slice B4 yl'.length d4] 85))) := Lib.hid ((Below.refl _ _).alloc (Nat.le_refl _) _)
      by_cases hle : t + a ≤ yt - b
      · have HSK : Hid (rebE a b (P.drop k) = (t + a, mm, p, l', yl) :: rebE a b (P.drop (k + 1))) := Lib.hid (by rw [HRE.out]; simp [hle])
        have HWD : Hid (Below wr.heap.size wr (wr.alloc (.cells #[.int .i64 t, .int .i64 mm, .int .i64 p, .slice A3 l.length c3, .slice A4 l'.length c4, .int .i64 yt, .int .i64 ym, .int .i64 yp, .slice B3 yl.length d3, .slice B4 yl'.length d4] 85)).drew) := Lib.hid HWS.out.drew
        have HWZ : Hid (wr.heap.size ≤ (wr.alloc (.cells #[.int .i64 t, .int .i64 mm, .int .i64 p, .slice A3 l.length c3, .slice A4 l'.length c4, .int .i64 yt, .int .i64 ym, .int .i64 yp, .slice B3 yl.length d3, .slice B4 yl'.length d4] 85)).drew.heap.size) := Lib.hid HWD.out.size
        have HWY : Hid (wr.heap.size < (wr.alloc (.cells #[.int .i64 t, .int .i64 mm, .int .i64 p, .slice A3 l.length c3, .slice A4 l'.length c4, .int .i64 yt, .int .i64 ym, .int .i64 yp, .slice B3 yl.length d3, .slice B4 yl'.length d4] 85)).drew.heap.size) := Lib.hid (by have e : (wr.alloc (.cells #[.int .i64 t, .int .i64 mm, .int .i64 p, .slice A3 l.length c3, .slice A4 l'.length c4, .int .i64 yt, .int .i64 ym, .int .i64 yp, .slice B3 yl.length d3, .slice B4 yl'.length d4] 85)).drew.heap.size = wr.heap.size + 1 := World.size_alloc _ _; omega)
        have nb : (Value.slice O1 g o1).ownBlock ≠ some wr.heap.size := own_ne_of_lt HO.out.row (.inr (Nat.le_refl _))
        have hs1 : IntKind.i64.wrap (t + a) = t + a := IntWalk.i64_in _ (by omega)
        have x0 : (wr.alloc (.cells #[.int .i64 t, .int .i64 mm, .int .i64 p, .slice A3 l.length c3, .slice A4 l'.length c4, .int .i64 yt, .int .i64 ym, .int .i64 yp, .slice B3 yl.length d3, .slice B4 yl'.length d4] 85)).cell? ⟨wr.heap.size, 0, none⟩ = some (.int .i64 t) := by simp
        have x1 : (wr.alloc (.cells #[.int .i64 t, .int .i64 mm, .int .i64 p, .slice A3 l.length c3, .slice A4 l'.length c4, .int .i64 yt, .int .i64 ym, .int .i64 yp, .slice B3 yl.length d3, .slice B4 yl'.length d4] 85)).cell? ⟨wr.heap.size, 1, none⟩ = some (.int .i64 mm) := by simp
        have x2 : (wr.alloc (.cells #[.int .i64 t, .int .i64 mm, .int .i64 p, .slice A3 l.length c3, .slice A4 l'.length c4, .int .i64 yt, .int .i64 ym, .int .i64 yp, .slice B3 yl.length d3, .slice B4 yl'.length d4] 85)).cell? ⟨wr.heap.size, 2, none⟩ = some (.int .i64 p) := by simp
        have x4 : (wr.alloc (.cells #[.int .i64 t, .int .i64 mm, .int .i64 p, .slice A3 l.length c3, .slice A4 l'.length c4, .int .i64 yt, .int .i64 ym, .int .i64 yp, .slice B3 yl.length d3, .slice B4 yl'.length d4] 85)).cell? ⟨wr.heap.size, 4, none⟩ = some (.slice A4 l'.length c4) := by simp
        have x8 : (wr.alloc (.cells #[.int .i64 t, .int .i64 mm, .int .i64 p, .slice A3 l.length c3, .slice A4 l'.length c4, .int .i64 yt, .int .i64 ym, .int .i64 yp, .slice B3 yl.length d3, .slice B4 yl'.length d4] 85)).cell? ⟨wr.heap.size, 8, none⟩ = some (.slice B3 yl.length d3) := by simp
        go_wp2
        clear k0 k1 k2 k3 k4 k5 k6 k7 k8 k9
        go_region_held3 (fun w' => w'.cell? ⟨wr.heap.size, 0, none⟩ = some (.int .i64 t) ∧ w'.cell? ⟨wr.heap.size, 1, none⟩ = some (.int .i64 mm) ∧ w'.cell? ⟨wr.heap.size, 2, none⟩ = some (.int .i64 p) ∧ w'.cell? ⟨wr.heap.size, 4, none⟩ = some (.slice A4 l'.length c4) ∧ w'.cell? ⟨wr.heap.size, 8, none⟩ = some (.slice B3 yl.length d3))
          (first | (go_split_ands; refine ⟨?_, ?_, ?_, ?_, ?_⟩ <;> first | assumption | (simp; done) | (exact bel_cell hbb (by assumption)) | (exact bel_cell hba (by assumption)) | (refine alloc_cell _ ?_; assumption) | (refine grown_cell hg4 ?_ (alloc_cell _ ?_) <;> assumption) | (refine grown_cell hg4 ?_ ?_ <;> assumption)) | fail)
          (first | (go_at_call_of 98 (Value.slice A4 l'.length c4); refine (clone_any A4 l'.length c4 l' _ hx4 ((HRA.out.alloc _).drew)).mono ?_; rintro e wa ⟨Q3, q3, rfl, hoa, hba⟩) | (go_at_call_of 98 (Value.slice B3 yl.length d3); refine (clone_any B3 yl.length d3 yl _ hx5 (((HRB.out.alloc _).drew).below hba)).mono ?_; rintro e wb ⟨Q4, q4, rfl, hob, hbb⟩) | (refine step_pushL _ (by rfl) (.tmp 31) (.tmp 52) 27 (by rfl) g3 51 _ 5 72 infoEntry rfl (by omega) Try.underlying27 O1 g o1 hs (by rfl) (own_below (own_below HO.out.row (HWD.out.trans ((hba.mono HWZ.out).trans (hbb.mono (Nat.le_trans HWZ.out hba.size))))) ((Below.refl _ _).alloc (Nat.le_refl _) _)) (some ⟨wb.heap.size, 0, none⟩) 1 1 [.int .i64 (t + a), .int .i64 mm, .int .i64 p, .slice Q3 l'.length q3, .slice Q4 yl.length q4] (by rfl) (reads_litk _ _ _ rfl) (by simp [Value.oneCell']) (by omega) (by omega) (by have h1 := HLO.out; have h2 := HWZ.out; have h3 := hba.size; have h4 := hbb.size; simp; omega) ?_; intro O2 o2 w4 hown4 hg4 hb4 hloc4))
        have HOA := Lib.hid hoa; have HOB := Lib.hid hob; have HBA := Lib.hid hba; have HBB := Lib.hid hbb
        have hsa := hba.size
        have hsb := hbb.size
        have hz := HWZ.out
        have HOW := Lib.hid (HO.out.below ((HWD.out.trans ((hba.mono HWZ.out).trans (hbb.mono (Nat.le_trans HWZ.out hba.size)))).alloc (by omega) (.cells #[.int .i64 (t + a), .int .i64 mm, .int .i64 p, .slice Q3 l'.length q3, .slice Q4 yl.length q4] 51)) (Nat.le_refl _))
        have hap : apart (.slice Q3 l'.length q3) (.slice Q4 yl.length q4) := apart_of_lt (b := wa.heap.size) (fun q hq => (hoa.lt q hq).2) (fun q hq => (hob.lt q hq).1)
        have HO4 := Lib.hid (HOW.out.push_entry (by simp; omega) (own_below (own_below hoa hbb) ((Below.refl _ _).alloc (Nat.le_refl _) (.cells #[.int .i64 (t + a), .int .i64 mm, .int .i64 p, .slice Q3 l'.length q3, .slice Q4 yl.length q4] 51))) (own_below hob ((Below.refl _ _).alloc (Nat.le_refl _) (.cells #[.int .i64 (t + a), .int .i64 mm, .int .i64 p, .slice Q3 l'.length q3, .slice Q4 yl.length q4] 51))) rfl rfl (by omega) (by omega) (by have := HLO.out; omega) (by have := HLO.out; omega) hap hg4 hown4 hloc4)
        have HB4 : Hid (Below g3 w3 w4) := Lib.hid ((HB.out.trans (((HWD.out.trans ((hba.mono HWZ.out).trans (hbb.mono (Nat.le_trans HWZ.out hba.size)))).alloc (by omega) (.cells #[.int .i64 (t + a), .int .i64 mm, .int .i64 p, .slice Q3 l'.length q3, .slice Q4 yl.length q4] 51)).mono HLO.out)).trans hb4)
        clear x0 x1 x2 x4 x8 hs1 nb hoa hob hba hbb hsa hsb hz hap hown4 hg4 hb4 hloc4
        go_wp2
        go_roundw
        case rel =>
          refine ⟨k + 1, g + 1, O2, o2, C ++ [(t + a, mm, p, l', yl)], hs ++ [.int .i64 (t + a), .int .i64 mm, .int .i64 p, .slice Q3 l'.length q3, .slice Q4 yl.length q4], by omega, by go_num, rfl, by omega, by simp [HLC.out], ?_, ?_, HB4.out⟩
          · rw [← HRC.out, HSK.out]; simp
          · have e1 : rowsE (C ++ [(t + a, mm, p, l', yl)]) = rowsE C ++ celEntry (t + a, mm, p, l', yl) := by simp [rowsE]
            rw [e1]
            exact HO4.out
        case measure => simp [intOf]; omega
      · have HSK : Hid (rebE a b (P.drop k) = rebE a b (P.drop (k + 1))) := Lib.hid (by rw [HRE.out]; simp [hle])
        go_wp2
        go_roundw
        case rel => exact ⟨k + 1, g, O1, o1, C, hs, by omega, by go_num, rfl, by omega, HLC.out, by rw [← HSK.out]; exact HRC.out, (HO.out.below HWS.out (Nat.le_refl _)).mono_hi HWS.out.size, HB.out.trans (HWS.out.mono HLO.out)⟩
        case measure => simp [intOf]; omega
    · have HE := Lib.hid (drop_end (xs := P) (k := k) (by rw [HPL.out]; omega))
      have hC : C = rebE a b P := by have := HRC.out; rw [HE.out] at this; simpa [rebE] using this
      subst hC
      have hg : g = (rebE a b P).length := HLC.out.symm
      subst hg
      go_wp2
      go_ret
      subst hg3
      exact ⟨O1, o1, hs, rfl, HO.out.mono_lo HW3.out.size, HW3.out.trans (HB.out.mono HW3.out.size)⟩
set_option maxHeartbeats 1000000 in
set_option maxRecDepth 100000 in
theorem implRebuildLog_any (A : Option Addr) (n c : Nat) (L : List EntryT) (B : Option Addr) (m d : Nat) (M : List EntryT) (a b : Int) (w : World) (hn : n ≤ 1000000000) (hl : ∀ x ∈ L, lenE 1000000000 x) (h : Reads2 w 5 A n (rowsE L)) (hc : n ≤ c) (hm : m ≤ 1000000000) (hl' : ∀ x ∈ M, lenE 1000000000 x) (h' : Reads2 w 5 B m (rowsE M)) (hd : m ≤ d) :
    Calls Try.prog 26 #[.slice A n c, .slice B m d, .int .i64 a, .int .i64 b] w (Made4 w 51 3 5 (rebR L M a b).1.length (rowsE (rebR L M a b).1) (rebR L M a b).2) := by
  have c1 := gapAsked_any A n c L B m d M a b w hn hl h hc hd hm hl' h'
  cases hk : askE L M a b with
  | false =>
    rw [hk] at c1
    have C1 := Lib.hid c1
    have hr : rebR L M a b = ([], false) := by simp [rebR, hk]
    rw [hr]
    clear c1 hr h h' hl hl' hk
    go_enter Try.func26, Try.ntmps26
    go_wp2_with (go_at_call 71; refine (C1.out).mono ?_; rintro e w1 ⟨rfl, hb⟩; have HB := Lib.hid hb; clear hb)
    go_ret2
    exact ⟨none, 0, [], rfl, own2_nil _ _, HB.out⟩
  | true =>
    rw [hk] at c1
    have C1 := Lib.hid c1
    have hr : rebR L M a b = (rebE a b (togE M L), true) := by simp [rebR, hk]
    rw [hr]
    have C2 := Lib.hid (fun W (hW : Below w.heap.size w W) => rebuilt_any A n c L B m d M a b W hk (h.below hW) (h'.below hW))
    clear c1 hr h h' hl hl' hk
    go_enter Try.func26, Try.ntmps26
    go_wp2_with (first | (go_at_call 71; refine (C1.out).mono ?_; rintro e w1 ⟨rfl, hb⟩; have HB0 := Lib.hid hb; clear hb) | (go_at_call 74; refine (C2.out _ HB0.out).mono ?_; rintro e w2 ⟨Q1, q1, hs, rfl, ho, hb2⟩; have HO2 := Lib.hid ho; have HB2 := Lib.hid hb2; clear ho hb2))
    go_ret2
    exact ⟨Q1, q1, hs, rfl, HO2.out.mono_lo HB0.out.size, HB0.out.trans (HB2.out.mono HB0.out.size)⟩

end Go.Proofs.Ytcjmlakmigfkfaa
