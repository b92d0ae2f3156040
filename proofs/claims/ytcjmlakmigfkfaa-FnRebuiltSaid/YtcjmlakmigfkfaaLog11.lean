/- Contracts of ChangedBetween of both packages. No conditions. -/
import Derived.Test.YtcjmlakmigfkfaaLog10
import Derived.Test.YtcjmlakmigfkfaaSame
namespace Go.Proofs.Ytcjmlakmigfkfaa
set_option linter.unusedSimpArgs false
set_option linter.unusedVariables false
open Go.RowKit

def chgE : List (EntryT × EntryT) → List (List Int)
  | [] => []
  | p :: r => if sameB p.1.2.2.2.2 p.2.2.2.2.1 = true then chgE r else [p.1.2.1, p.1.2.2.1] :: chgE r
def chgR (L M : List EntryT) : List (List Int) × Bool := if (goodE L && goodE M) = true then (chgE (togE M L), true) else ([], false)
theorem chgE_bd : ∀ P : List (EntryT × EntryT), (chgE P).length ≤ P.length ∧ ∀ l ∈ chgE P, l.length = 2 := by
  intro P
  induction P with
  | nil => simp [chgE]
  | cons p r ih =>
    unfold chgE
    split
    · exact ⟨by simp only [List.length_cons]; omega, ih.2⟩
    · refine ⟨by simp only [List.length_cons]; omega, fun l hl => ?_⟩
      rcases List.mem_cons.1 hl with rfl | hl
      · rfl
      · exact ih.2 l hl
theorem chgR_bd (L M : List EntryT) : (chgR L M).1.length ≤ 30 ∧ ∀ l ∈ (chgR L M).1, l.length = 2 := by
  unfold chgR
  split
  · rename_i h
    simp only [Bool.and_eq_true] at h
    have h1 := (goodE_all h.1).2
    have h2 := togE_len M L
    have h3 := chgE_bd (togE M L)
    exact ⟨by simp only; omega, h3.2⟩
  · simp
theorem tot_two {C : List (List Int)} (h : ∀ l ∈ C, l.length = 2) : tot (C.map ints) = C.length * 2 := by
  induction C with
  | nil => simp [tot]
  | cons x r ih =>
    have h1 := ih (fun l hl => h l (by simp [hl]))
    have h2 := h x (by simp)
    simp only [tot, List.map_cons, List.sum_cons, length_ints, List.length_cons] at h1 ⊢
    omega
theorem chgR_tot (L M : List EntryT) : tot ((chgR L M).1.map ints) ≤ 60 := by
  have h := chgR_bd L M
  rw [tot_two h.2]
  omega
/-- The k-th pair and its indices. -/
theorem ix_at {M L : List EntryT} {k : Nat} (hk : k < (togE M L).length) : ∃ i j, ∃ (hi : i < L.length) (hj : j < M.length), (ixE M 0 L)[k]? = some (i, j) ∧ (togE M L)[k] = (L[i], M[j]) := by
  have hk' : k < (ixE M 0 L).length := by rw [← length_togE]; exact hk
  have hb := ixE_bd (ixE M 0 L)[k] (List.getElem_mem hk')
  have h1 : (togE M L)[k]? = some (L.getD (ixE M 0 L)[k].1 zE, M.getD (ixE M 0 L)[k].2 zE) := by
    rw [togE_ix0, List.getElem?_map, List.getElem?_eq_getElem hk']
    rfl
  rw [List.getElem?_eq_getElem hk] at h1
  injection h1 with h1
  have hi : (ixE M 0 L)[k].1 < L.length := by omega
  refine ⟨(ixE M 0 L)[k].1, (ixE M 0 L)[k].2, hi, hb.2, List.getElem?_eq_getElem hk', ?_⟩
  rw [h1]
  simp [List.getD, List.getElem?_eq_getElem hi, List.getElem?_eq_getElem hb.2]
/-- The k-th list of two, read: its header and its two cells. -/
theorem ixL_at {w : World} {A : Option Addr} {n k i j : Nat} {l : List (Nat × Nat)} (h : Reads2 w 1 A n (rowsIntss (ixL l))) (hk : l[k]? = some (i, j)) :
    ∃ pa qa cq, A = some pa ∧ w.cell? (pa.add k) = some (.slice (some qa) 2 cq) ∧ w.cell? qa = some (.int .i64 (i : Int)) ∧ w.cell? ⟨qa.block, qa.off + 1, none⟩ = some (.int .i64 (j : Int)) := by
  have hkl : k < l.length := (List.getElem?_eq_some_iff.1 hk).1
  have hx : (rowsIntss (ixL l))[k]? = some (.inr (ints [(i : Int), (j : Int)])) := by
    rw [rowsIntss_get (by simpa [ixL] using hkl)]
    have : (ixL l)[k]? = some [(i : Int), (j : Int)] := by simp [ixL, hk]
    have h2 := List.getElem?_eq_getElem (l := ixL l) (i := k) (by simpa [ixL] using hkl)
    rw [h2] at this
    injection this with this
    rw [this]
  obtain ⟨pa, Ai, cq, e, hc, _, _, hr⟩ := h.row hx
  obtain ⟨qa, e2, hq⟩ := hr.2 (by simp)
  subst e2
  have h0 := hq 0 (.int .i64 (i : Int)) (by simp [ints])
  have h1 := hq 1 (.int .i64 (j : Int)) (by simp [ints])
  have e0 : qa.add 0 = qa := by simp [Addr.add]
  rw [e0] at h0
  have e1 : qa.add 1 = ⟨qa.block, qa.off + 1, none⟩ := by unfold Addr.add; rw [if_neg (by omega)]
  rw [e1] at h1
  exact ⟨pa, qa, cq, e, by simpa using hc, h0, h1⟩

set_option maxHeartbeats 4000000 in
set_option maxRecDepth 100000 in
theorem specChangedBetween_any (A : Option Addr) (n c : Nat) (L : List EntryT) (B : Option Addr) (m d : Nat) (M : List EntryT) (w : World) (hn : n ≤ 1000000000) (hl : ∀ x ∈ L, lenE 1000000000 x) (h : Reads2 w 5 A n (rowsE L)) (hc : n ≤ c) (hm : m ≤ 1000000000) (hl' : ∀ x ∈ M, lenE 1000000000 x) (h' : Reads2 w 5 B m (rowsE M)) (hd : m ≤ d) :
    Calls Try.prog 12 #[.slice A n c, .slice B m d] w (Made4 w 49 3 1 (chgR L M).1.length (rowsIntss (chgR L M).1) (chgR L M).2) := by
  have C1 := Lib.hid (lgGood_any A n c L w hn hl h)
  have C2 := Lib.hid (fun W (hW : Below w.heap.size w W) => lgGood_any B m d M W hm hl' (h'.below hW))
  cases h1 : goodE L with
  | false =>
    have hr : chgR L M = ([], false) := by simp [chgR, h1]
    rw [hr]
    simp only [h1] at C1
    
    clear hr h h' hl hl'
    go_enter Try.func12, Try.ntmps12
    go_wp2_with (first | (go_at_call_of 60 (Value.slice A n c); refine (C1.out).mono ?_; rintro e w1 ⟨rfl, hb1⟩; have HB1 := Lib.hid hb1; clear hb1) | (go_at_call_of 60 (Value.slice B m d); refine (C2.out _ HB1.out).mono ?_; rintro e w2 ⟨rfl, hb2⟩; have HB2 := Lib.hid (HB1.out.trans (hb2.mono HB1.out.size)); clear hb2))
    go_ret2
    exact ⟨none, 0, [], rfl, own2_nil _ _, HB1.out⟩
  | true =>
    cases h2 : goodE M with
    | false =>
      have hr : chgR L M = ([], false) := by simp [chgR, h2]
      rw [hr]
      simp only [h1] at C1
      simp only [h2] at C2
      clear hr h h' hl hl'
      go_enter Try.func12, Try.ntmps12
      go_wp2_with (first | (go_at_call_of 60 (Value.slice A n c); refine (C1.out).mono ?_; rintro e w1 ⟨rfl, hb1⟩; have HB1 := Lib.hid hb1; clear hb1) | (go_at_call_of 60 (Value.slice B m d); refine (C2.out _ HB1.out).mono ?_; rintro e w2 ⟨rfl, hb2⟩; have HB2 := Lib.hid (HB1.out.trans (hb2.mono HB1.out.size)); clear hb2))
      go_ret2
      exact ⟨none, 0, [], rfl, own2_nil _ _, HB2.out⟩
    | true =>
      have hr : chgR L M = (chgE (togE M L), true) := by simp [chgR, h1, h2]
      rw [hr]
      have gL := goodE_all h1
      have gM := goodE_all h2
      have HLE := Lib.hid hl
      have HME := Lib.hid hl'
      simp only [h1] at C1
      simp only [h2] at C2
      have HX := Lib.hid (show L.length = n by have := h.len; rw [length_rowsE] at this; omega)
      have HY := Lib.hid (show M.length = m by have := h'.len; rw [length_rowsE] at this; omega)
      have C3 := Lib.hid (fun W (hW : Below w.heap.size w W) => rbGaps_any A n c L B m d M 0 0 W (by have := gL.2; rw [HX.out] at this; omega) (by have := gM.2; rw [HY.out] at this; omega) gL.1 gM.1 (by omega) (by omega) (h.below hW) (h'.below hW))
      have H := Lib.hid h
      have H' := Lib.hid h'
      have hN : cntE M L ≤ 30 := by have := togE_len M L; have := gL.2; unfold cntE; omega
      have HPL : Hid ((togE M L).length = cntE M L) := Lib.hid rfl
      clear hr h h' hl hl' gL gM h1 h2
      go_enter Try.func12, Try.ntmps12
      go_wp2_with (first | (go_at_call_of 60 (Value.slice A n c); refine (C1.out).mono ?_; rintro e w1 ⟨rfl, hb1⟩; have HB1 := Lib.hid hb1; clear hb1) | (go_at_call_of 60 (Value.slice B m d); refine (C2.out _ HB1.out).mono ?_; rintro e w2 ⟨rfl, hb2⟩; have HB2 := Lib.hid (HB1.out.trans (hb2.mono HB1.out.size)); clear hb2) | (go_at_call 61; refine (C3.out _ HB2.out).mono ?_; rintro e w3 ⟨P1, p1, P2, p2, hs0, rfl, hr3, hb3⟩; have HR3 := Lib.hid (Reads.of_own hr3.one); have HR4 := Lib.hid (Reads2.of_own hr3.two); have HW3 := Lib.hid (HB2.out.trans (hb3.mono HB2.out.size)); clear hr3 hb3))
      generalize hg3 : w3.heap.size = g3 at *
      go_loopw [8, 27] (fun o i wr => ∃ k g : Nat, ∃ O1 o1 C hs, k ≤ cntE M L ∧ i = .int .i64 k ∧ o = .slice O1 g o1 ∧ g ≤ k ∧ C.length = g ∧ C ++ chgE ((togE M L).drop k) = chgE (togE M L) ∧ Own2 wr g3 wr.heap.size 49 3 1 O1 g o1 (rowsIntss C) hs ∧ Below g3 w3 wr) (fun _ i _ => cntE M L - (intOf i).toNat)
      case atStart => exact ⟨0, 0, none, 0, [], [], Nat.zero_le _, rfl, rfl, Nat.le_refl _, rfl, rfl, own2_nil _ _, Below.refl _ _⟩
      case round =>
        obtain ⟨k, g, O1, o1, C, hs, hk, rfl, rfl, hgk, hlc, hrc, hown, hb⟩ := hrel
        have HLC := Lib.hid hlc; have HRC := Lib.hid hrc; have HO := Lib.hid hown; have HB := Lib.hid hb
        clear hlc hrc hown hb
        have HLO : Hid (g3 ≤ wr.heap.size) := Lib.hid (by have h1 := HB.out.size; omega)
        have HWB : Hid (Below w.heap.size w wr) := Lib.hid (HW3.out.trans (HB.out.mono (by rw [← hg3]; exact HW3.out.size)))
        by_cases hlt : k < cntE M L
        · have hx : k < (togE M L).length := by rw [HPL.out]; exact hlt
          have HD := Lib.hid (drop_cons hx)
          obtain ⟨i, j, hi, hj, hix, hxy⟩ := ix_at hx
          obtain ⟨ga, rfl, k0, k1, k2, k3⟩ := rows4_at (HR3.out.below (by rw [hg3]; exact HB.out)) hlt (gapsE_len M 0 0 L)
          obtain ⟨pa, qa, cq, rfl, j0, j1, j2⟩ := ixL_at (HR4.out.below (by rw [hg3]; exact HB.out)) hix
          obtain ⟨ad, A3, c3, A4, c4, rfl, _, _, _, _, k4, _, hra⟩ := rowsE_at (H.out.below HWB.out) hi
          obtain ⟨bd, B3, d3, B4, d4, rfl, _, _, _, k5, _, hrb, _⟩ := rowsE_at (H'.out.below HWB.out) hj
          have HCG : Hid (chgE ((togE M L).drop k) = if sameB L[i].2.2.2.2 M[j].2.2.2.1 = true then chgE ((togE M L).drop (k + 1)) else [L[i].2.1, L[i].2.2.1] :: chgE ((togE M L).drop (k + 1))) := Lib.hid (by rw [HD.out, hxy]; rfl)
          have hge : (gapsE M 0 0 L)[k]'(by rw [gapsE_len]; exact hlt) = (L[i].2.1, L[i].2.2.1, L[i].1 + 0, M[j].1 - 0) := by simp only [gapsE, List.getElem_map, hxy, gapOf]
          simp only [hge] at k0 k1 k2 k3
          have HLP1 := Lib.hid (HLE.out _ (List.getElem_mem hi))
          have HLP2 := Lib.hid (HME.out _ (List.getElem_mem hj))
          have him : (i : Int) < (n : Int) := by rw [HX.out] at hi; omega
          have hjm : (j : Int) < (m : Int) := by rw [HY.out] at hj; omega
          have hi0 : (0 : Int) ≤ (i : Int) := by omega
          have hj0 : (0 : Int) ≤ (j : Int) := by omega
          have hkN : (k : Int) < (cntE M L : Int) := by omega
          have hk0 : (0 : Int) ≤ (k : Int) := by omega
          clear hix hxy hge
          generalize L[i] = x at *
          generalize M[j] = y at *
          obtain ⟨xt, xm, xp, xl, l'⟩ := x
          obtain ⟨yt, ym, yp, yl, yl'⟩ := y
          simp only at k0 k1 k2 k3 k4 k5 hra hrb HCG
          obtain ⟨lw, hlw⟩ : ∃ lw, lw = xt + 0 := ⟨_, rfl⟩
          obtain ⟨hw, hhw⟩ : ∃ hw, hw = yt - 0 := ⟨_, rfl⟩
          rw [← hlw] at k2
          rw [← hhw] at k3
          clear hlw hhw
          have hS : Below wr.heap.size wr (wr.alloc (.cells #[.int .i64 xm, .int .i64 xp, .int .i64 lw, .int .i64 hw] 62)) := (Below.refl _ _).alloc (Nat.le_refl _) _
          have CS := fun V : InB (wr.alloc (.cells #[.int .i64 xm, .int .i64 xp, .int .i64 lw, .int .i64 hw] 62)) => l1Same_any A4 l'.length c4 l' B3 yl.length d3 yl V.1 (by have := HLP1.out; unfold lenE at this; exact this.2) (by have := HLP2.out; unfold lenE at this; exact this.1) ((hra.alloc _).below V.2) ((hrb.alloc _).below V.2)
          clear hra hrb
          obtain ⟨bb, hbb⟩ : ∃ bb, bb = sameB l' yl := ⟨_, rfl⟩
          rw [← hbb] at CS HCG
          have HCS := Lib.hid CS
          clear CS hbb
          have s0 := fun V : InB (wr.alloc (.cells #[.int .i64 xm, .int .i64 xp, .int .i64 lw, .int .i64 hw] 62)) => V.cell (alloc_cell (.cells #[.int .i64 xm, .int .i64 xp, .int .i64 lw, .int .i64 hw] 62) j0)
          have s1 := fun V : InB (wr.alloc (.cells #[.int .i64 xm, .int .i64 xp, .int .i64 lw, .int .i64 hw] 62)) => V.cell (alloc_cell (.cells #[.int .i64 xm, .int .i64 xp, .int .i64 lw, .int .i64 hw] 62) j1)
          have s2 := fun V : InB (wr.alloc (.cells #[.int .i64 xm, .int .i64 xp, .int .i64 lw, .int .i64 hw] 62)) => V.cell (alloc_cell (.cells #[.int .i64 xm, .int .i64 xp, .int .i64 lw, .int .i64 hw] 62) j2)
          have s3 := fun V : InB (wr.alloc (.cells #[.int .i64 xm, .int .i64 xp, .int .i64 lw, .int .i64 hw] 62)) => V.cell (alloc_cell (.cells #[.int .i64 xm, .int .i64 xp, .int .i64 lw, .int .i64 hw] 62) k4)
          have s4 := fun V : InB (wr.alloc (.cells #[.int .i64 xm, .int .i64 xp, .int .i64 lw, .int .i64 hw] 62)) => V.cell (alloc_cell (.cells #[.int .i64 xm, .int .i64 xp, .int .i64 lw, .int .i64 hw] 62) k5)
          clear j0 j1 j2 k4 k5 hS
          cases bb with
          | true =>
            have HSK : Hid (chgE ((togE M L).drop k) = chgE ((togE M L).drop (k + 1))) := Lib.hid (by rw [HCG.out]; simp)
            go_wp2
            clear k0 k1 k2 k3
            have HWSB : Hid (Below wr.heap.size wr (wr.alloc (.cells #[.int .i64 xm, .int .i64 xp, .int .i64 lw, .int .i64 hw] 62))) := Lib.hid ((Below.refl _ _).alloc (Nat.le_refl _) _)
            have HWS0 : Hid ((wr.alloc (.cells #[.int .i64 xm, .int .i64 xp, .int .i64 lw, .int .i64 hw] 62)).cell? ⟨wr.heap.size, 0, none⟩ = some (.int .i64 xm) ∧ (wr.alloc (.cells #[.int .i64 xm, .int .i64 xp, .int .i64 lw, .int .i64 hw] 62)).cell? ⟨wr.heap.size, 1, none⟩ = some (.int .i64 xp) ∧ wr.heap.size < (wr.alloc (.cells #[.int .i64 xm, .int .i64 xp, .int .i64 lw, .int .i64 hw] 62)).heap.size) := Lib.hid ⟨by simp, by simp, by simp⟩
            generalize hws : (wr.alloc (.cells #[.int .i64 xm, .int .i64 xp, .int .i64 lw, .int .i64 hw] 62)) = ws at *
            refine wp_region_below ws (by kernel_rfl) (by kernel_rfl) (by first | assumption | exact Below.refl _ _) ?_
            repeat (go_big_quiet_step ((go_at_call 62; exact bel_quiet (HCS.out _))))
            refine wpQuiet_nil ?_
            intro wb hw'
            obtain ⟨⟨wb', hB⟩, hwb⟩ := hw'
            simp only at hwb
            subst hwb
            try simp only at hB ⊢
            all_goals
              clear s0 s1 s2 s3 s4 him hjm hi0 hj0 hkN hk0
              have x0 := (hB.cell (p := ⟨wr.heap.size, 0, none⟩) HWS0.out.2.2).trans HWS0.out.1
              have x1 := (hB.cell (p := ⟨wr.heap.size, 1, none⟩) HWS0.out.2.2).trans HWS0.out.2.1
              have HBB := Lib.hid (HWSB.out.trans (hB.mono HWSB.out.size))
              clear hB
              have HOB := Lib.hid ((HO.out.below HBB.out (Nat.le_refl _)).mono_hi HBB.out.size)
              have HBW : Hid (Below g3 w3 wb) := Lib.hid (HB.out.trans (HBB.out.mono HLO.out))
              have HLB : Hid (g3 ≤ wb.heap.size) := Lib.hid (by have h1 := HBB.out.size; have h2 := HLO.out; omega)
              go_wp2
              go_roundw
              case rel => exact ⟨k + 1, g, O1, o1, C, hs, by omega, by go_num, rfl, by omega, HLC.out, by rw [← HSK.out]; exact HRC.out, HOB.out, HBW.out⟩
              case measure => simp [intOf]; omega
          | false =>
            have HSK : Hid (chgE ((togE M L).drop k) = [xm, xp] :: chgE ((togE M L).drop (k + 1))) := Lib.hid (by rw [HCG.out]; simp)
            go_wp2
            clear k0 k1 k2 k3
            have HWSB : Hid (Below wr.heap.size wr (wr.alloc (.cells #[.int .i64 xm, .int .i64 xp, .int .i64 lw, .int .i64 hw] 62))) := Lib.hid ((Below.refl _ _).alloc (Nat.le_refl _) _)
            have HWS0 : Hid ((wr.alloc (.cells #[.int .i64 xm, .int .i64 xp, .int .i64 lw, .int .i64 hw] 62)).cell? ⟨wr.heap.size, 0, none⟩ = some (.int .i64 xm) ∧ (wr.alloc (.cells #[.int .i64 xm, .int .i64 xp, .int .i64 lw, .int .i64 hw] 62)).cell? ⟨wr.heap.size, 1, none⟩ = some (.int .i64 xp) ∧ wr.heap.size < (wr.alloc (.cells #[.int .i64 xm, .int .i64 xp, .int .i64 lw, .int .i64 hw] 62)).heap.size) := Lib.hid ⟨by simp, by simp, by simp⟩
            generalize hws : (wr.alloc (.cells #[.int .i64 xm, .int .i64 xp, .int .i64 lw, .int .i64 hw] 62)) = ws at *
            refine wp_region_below ws (by kernel_rfl) (by kernel_rfl) (by first | assumption | exact Below.refl _ _) ?_
            repeat (go_big_quiet_step ((go_at_call 62; exact bel_quiet (HCS.out _))))
            refine wpQuiet_nil ?_
            intro wb hw'
            obtain ⟨⟨wb', hB⟩, hwb⟩ := hw'
            simp only at hwb
            subst hwb
            try simp only at hB ⊢
            all_goals
              clear s0 s1 s2 s3 s4 him hjm hi0 hj0 hkN hk0
              have x0 := (hB.cell (p := ⟨wr.heap.size, 0, none⟩) HWS0.out.2.2).trans HWS0.out.1
              have x1 := (hB.cell (p := ⟨wr.heap.size, 1, none⟩) HWS0.out.2.2).trans HWS0.out.2.1
              have HBB := Lib.hid (HWSB.out.trans (hB.mono HWSB.out.size))
              clear hB
              have HOB := Lib.hid ((HO.out.below HBB.out (Nat.le_refl _)).mono_hi HBB.out.size)
              have HBW : Hid (Below g3 w3 wb) := Lib.hid (HB.out.trans (HBB.out.mono HLO.out))
              have HLB : Hid (g3 ≤ wb.heap.size) := Lib.hid (by have h1 := HBB.out.size; have h2 := HLO.out; omega)
              go_wp2_with (at_builtin; refine wpList_pushL _ rfl (.tmp 54) (.tmp 60) 24 rfl g3 49 (.slice none 0 0) 1 24 infoInts rfl (by omega) Try.underlying24 O1 g o1 hs rfl ((HOB.out.below (((Below.refl _ _).alloc (Nat.le_refl _) _).alloc (by simp) _) (Nat.le_refl _)).row) (some ⟨wb.heap.size + 1, 0, none⟩) 1 1 [.slice (some ⟨wb.heap.size, 0, none⟩) 2 2] rfl (by have h := reads_new (wb.alloc (.cells #[.int .i64 xm, .int .i64 xp] 3)) (.slice (some ⟨wb.heap.size, 0, none⟩) 2 2) 49; simp only [World.size_alloc] at h; exact h) (by simp [Value.oneCell']) (by omega) (by omega) (by have := HLB.out; simp; omega) ?_; intro O2 o2 w7 hown7 hg7 hb7 hloc7)
              have HO7 := Lib.hid (HOB.out.push_row (l := ints [xm, xp]) rfl HLB.out (by simp) (by simpa [ints] using hg7) hown7 (by simpa [ints] using hloc7))
              have HB7 : Hid (Below g3 w3 w7) := Lib.hid ((HBW.out.trans (((Below.refl _ _).alloc HLB.out _).alloc (by have := HLB.out; simp; omega) _)).trans hb7)
              clear hown7 hg7 hb7 hloc7
              go_roundw
              case rel =>
                refine ⟨k + 1, g + 1, O2, o2, C ++ [[xm, xp]], _, by omega, by go_num, rfl, by omega, by simp [HLC.out], ?_, by simpa [rowsIntss] using HO7.out, HB7.out⟩
                rw [← HRC.out, HSK.out]; simp
              case measure => simp [intOf]; omega
        · have HE := Lib.hid (drop_end (xs := togE M L) (k := k) (by rw [HPL.out]; omega))
          have hC : C = chgE (togE M L) := by have := HRC.out; rw [HE.out] at this; simpa [chgE] using this
          subst hC
          have hg : g = (chgE (togE M L)).length := HLC.out.symm
          subst hg
          go_wp2
          go_ret2
          subst hg3
          exact ⟨O1, o1, hs, rfl, HO.out.mono_lo HW3.out.size, HWB.out⟩

set_option maxHeartbeats 4000000 in
set_option maxRecDepth 100000 in
theorem implChangedBetween_any (A : Option Addr) (n c : Nat) (L : List EntryT) (B : Option Addr) (m d : Nat) (M : List EntryT) (w : World) (hn : n ≤ 1000000000) (hl : ∀ x ∈ L, lenE 1000000000 x) (h : Reads2 w 5 A n (rowsE L)) (hc : n ≤ c) (hm : m ≤ 1000000000) (hl' : ∀ x ∈ M, lenE 1000000000 x) (h' : Reads2 w 5 B m (rowsE M)) (hd : m ≤ d) :
    Calls Try.prog 14 #[.slice A n c, .slice B m d] w (Made4 w 49 3 1 (chgR L M).1.length (rowsIntss (chgR L M).1) (chgR L M).2) := by
  have C1 := Lib.hid (isLog_any A n c L w hn hc hl h)
  have C2 := Lib.hid (fun W (hW : Below w.heap.size w W) => isLog_any B m d M W hm hd hl' (h'.below hW))
  cases h1 : goodE L with
  | false =>
    have hr : chgR L M = ([], false) := by simp [chgR, h1]
    rw [hr]
    simp only [h1] at C1
    
    clear hr h h' hl hl'
    go_enter Try.func14, Try.ntmps14
    go_wp2_with (first | (go_at_call_of 33 (Value.slice A n c); refine (C1.out).mono ?_; rintro e w1 ⟨rfl, hb1⟩; have HB1 := Lib.hid hb1; clear hb1) | (go_at_call_of 33 (Value.slice B m d); refine (C2.out _ HB1.out).mono ?_; rintro e w2 ⟨rfl, hb2⟩; have HB2 := Lib.hid (HB1.out.trans (hb2.mono HB1.out.size)); clear hb2))
    go_ret2
    exact ⟨none, 0, [], rfl, own2_nil _ _, HB1.out⟩
  | true =>
    cases h2 : goodE M with
    | false =>
      have hr : chgR L M = ([], false) := by simp [chgR, h2]
      rw [hr]
      simp only [h1] at C1
      simp only [h2] at C2
      clear hr h h' hl hl'
      go_enter Try.func14, Try.ntmps14
      go_wp2_with (first | (go_at_call_of 33 (Value.slice A n c); refine (C1.out).mono ?_; rintro e w1 ⟨rfl, hb1⟩; have HB1 := Lib.hid hb1; clear hb1) | (go_at_call_of 33 (Value.slice B m d); refine (C2.out _ HB1.out).mono ?_; rintro e w2 ⟨rfl, hb2⟩; have HB2 := Lib.hid (HB1.out.trans (hb2.mono HB1.out.size)); clear hb2))
      go_ret2
      exact ⟨none, 0, [], rfl, own2_nil _ _, HB2.out⟩
    | true =>
      have hr : chgR L M = (chgE (togE M L), true) := by simp [chgR, h1, h2]
      rw [hr]
      have gL := goodE_all h1
      have gM := goodE_all h2
      have HLE := Lib.hid hl
      have HME := Lib.hid hl'
      simp only [h1] at C1
      simp only [h2] at C2
      have HX := Lib.hid (show L.length = n by have := h.len; rw [length_rowsE] at this; omega)
      have HY := Lib.hid (show M.length = m by have := h'.len; rw [length_rowsE] at this; omega)
      have C3 := Lib.hid (fun W (hW : Below w.heap.size w W) => together_any A n c L B m d M W (by have := gL.2; rw [HX.out] at this; omega) (by have := gM.2; rw [HY.out] at this; omega) (h.below hW) (h'.below hW))
      have H := Lib.hid h
      have H' := Lib.hid h'
      have hN : cntE M L ≤ 30 := by have := togE_len M L; have := gL.2; unfold cntE; omega
      have HPL : Hid ((togE M L).length = cntE M L) := Lib.hid rfl
      clear hr h h' hl hl' gL gM h1 h2
      go_enter Try.func14, Try.ntmps14
      go_wp2_with (first | (go_at_call_of 33 (Value.slice A n c); refine (C1.out).mono ?_; rintro e w1 ⟨rfl, hb1⟩; have HB1 := Lib.hid hb1; clear hb1) | (go_at_call_of 33 (Value.slice B m d); refine (C2.out _ HB1.out).mono ?_; rintro e w2 ⟨rfl, hb2⟩; have HB2 := Lib.hid (HB1.out.trans (hb2.mono HB1.out.size)); clear hb2) | (go_at_call 64; refine (C3.out _ HB2.out).mono ?_; rintro e w3 ⟨P1, p1, rfl, hr3, hb3⟩; have HR3 := Lib.hid hr3; have HW3 := Lib.hid (HB2.out.trans (hb3.mono HB2.out.size)); clear hr3 hb3))
      generalize hg3 : w3.heap.size = g3 at *
      go_loopw [6, 21] (fun o i wr => ∃ k g : Nat, ∃ O1 o1 C hs, k ≤ cntE M L ∧ i = .int .i64 k ∧ o = .slice O1 g o1 ∧ g ≤ k ∧ C.length = g ∧ C ++ chgE ((togE M L).drop k) = chgE (togE M L) ∧ Own2 wr g3 wr.heap.size 49 3 1 O1 g o1 (rowsIntss C) hs ∧ Below g3 w3 wr) (fun _ i _ => cntE M L - (intOf i).toNat)
      case atStart => exact ⟨0, 0, none, 0, [], [], Nat.zero_le _, rfl, rfl, Nat.le_refl _, rfl, rfl, own2_nil _ _, Below.refl _ _⟩
      case round =>
        obtain ⟨k, g, O1, o1, C, hs, hk, rfl, rfl, hgk, hlc, hrc, hown, hb⟩ := hrel
        have HLC := Lib.hid hlc; have HRC := Lib.hid hrc; have HO := Lib.hid hown; have HB := Lib.hid hb
        clear hlc hrc hown hb
        have HLO : Hid (g3 ≤ wr.heap.size) := Lib.hid (by have h1 := HB.out.size; omega)
        have HWB : Hid (Below w.heap.size w wr) := Lib.hid (HW3.out.trans (HB.out.mono (by rw [← hg3]; exact HW3.out.size)))
        by_cases hlt : k < cntE M L
        · have hx : k < (togE M L).length := by rw [HPL.out]; exact hlt
          have HD := Lib.hid (drop_cons hx)
          obtain ⟨ad, A3, c3, A4, c4, B3, d3, B4, d4, rfl, ⟨k0, k1, k2, k3, k4, k5, k6, k7, k8, k9⟩, _, hra, hrb, _⟩ := rowsP_at (HR3.out.below (by rw [hg3]; exact HB.out)) hx
          have HCG : Hid (chgE ((togE M L).drop k) = if sameB (togE M L)[k].1.2.2.2.2 (togE M L)[k].2.2.2.2.1 = true then chgE ((togE M L).drop (k + 1)) else [(togE M L)[k].1.2.1, (togE M L)[k].1.2.2.1] :: chgE ((togE M L).drop (k + 1))) := Lib.hid (by rw [HD.out]; rfl)
          have HLP1 := Lib.hid (HLE.out _ (togE_mem _ (List.getElem_mem hx)).1)
          have HLP2 := Lib.hid (HME.out _ (togE_mem _ (List.getElem_mem hx)).2)
          generalize (togE M L)[k] = x at *
          obtain ⟨⟨t, mm, p, l, l'⟩, ⟨yt, ym, yp, yl, yl'⟩⟩ := x
          simp only at k0 k1 k2 k3 k4 k5 k6 k7 k8 k9 hra hrb HCG
          have CS := slicesEqual_any A4 l'.length c4 l' B3 yl.length d3 yl (wr.alloc (.cells #[.int .i64 t, .int .i64 mm, .int .i64 p, .slice A3 l.length c3, .slice A4 l'.length c4, .int .i64 yt, .int .i64 ym, .int .i64 yp, .slice B3 yl.length d3, .slice B4 yl'.length d4] 85)) (by have := HLP1.out; unfold lenE at this; exact this.2) (by have := HLP2.out; unfold lenE at this; exact this.1) (hra.alloc _) (hrb.alloc _)
          clear hra hrb
          obtain ⟨bb, hbb⟩ : ∃ bb, bb = sameB l' yl := ⟨_, rfl⟩
          rw [← hbb] at CS HCG
          have HCS := Lib.hid CS
          clear CS hbb
          cases bb with
          | true =>
            have HSK : Hid (chgE ((togE M L).drop k) = chgE ((togE M L).drop (k + 1))) := Lib.hid (by rw [HCG.out]; simp)
            go_wp2_with fail
            refine (HCS.out).mono ?_
            rintro e wb ⟨rfl, hq⟩
            have hB := below_of_quiet (B := (wr.alloc (.cells #[.int .i64 t, .int .i64 mm, .int .i64 p, .slice A3 l.length c3, .slice A4 l'.length c4, .int .i64 yt, .int .i64 ym, .int .i64 yp, .slice B3 yl.length d3, .slice B4 yl'.length d4] 85)).heap.size) hq
            have x0 := (hB.cell (p := ⟨wr.heap.size, 1, none⟩) (by simp)).trans (show _ = some (.int .i64 mm) by simp)
            have x1 := (hB.cell (p := ⟨wr.heap.size, 2, none⟩) (by simp)).trans (show _ = some (.int .i64 p) by simp)
            have HBB := Lib.hid (((Below.refl _ _).alloc (Nat.le_refl _) (.cells #[.int .i64 t, .int .i64 mm, .int .i64 p, .slice A3 l.length c3, .slice A4 l'.length c4, .int .i64 yt, .int .i64 ym, .int .i64 yp, .slice B3 yl.length d3, .slice B4 yl'.length d4] 85)).trans (hB.mono (by simp)))
            clear hq hB k0 k1 k2 k3 k4 k5 k6 k7 k8 k9
            all_goals
              have HOB := Lib.hid ((HO.out.below HBB.out (Nat.le_refl _)).mono_hi HBB.out.size)
              have HBW : Hid (Below g3 w3 wb) := Lib.hid (HB.out.trans (HBB.out.mono HLO.out))
              have HLB : Hid (g3 ≤ wb.heap.size) := Lib.hid (by have h1 := HBB.out.size; have h2 := HLO.out; omega)
              go_wp2
              go_roundw
              case rel => exact ⟨k + 1, g, O1, o1, C, hs, by omega, by go_num, rfl, by omega, HLC.out, by rw [← HSK.out]; exact HRC.out, HOB.out, HBW.out⟩
              case measure => simp [intOf]; omega
          | false =>
            have HSK : Hid (chgE ((togE M L).drop k) = [mm, p] :: chgE ((togE M L).drop (k + 1))) := Lib.hid (by rw [HCG.out]; simp)
            go_wp2_with fail
            refine (HCS.out).mono ?_
            rintro e wb ⟨rfl, hq⟩
            have hB := below_of_quiet (B := (wr.alloc (.cells #[.int .i64 t, .int .i64 mm, .int .i64 p, .slice A3 l.length c3, .slice A4 l'.length c4, .int .i64 yt, .int .i64 ym, .int .i64 yp, .slice B3 yl.length d3, .slice B4 yl'.length d4] 85)).heap.size) hq
            have x0 := (hB.cell (p := ⟨wr.heap.size, 1, none⟩) (by simp)).trans (show _ = some (.int .i64 mm) by simp)
            have x1 := (hB.cell (p := ⟨wr.heap.size, 2, none⟩) (by simp)).trans (show _ = some (.int .i64 p) by simp)
            have HBB := Lib.hid (((Below.refl _ _).alloc (Nat.le_refl _) (.cells #[.int .i64 t, .int .i64 mm, .int .i64 p, .slice A3 l.length c3, .slice A4 l'.length c4, .int .i64 yt, .int .i64 ym, .int .i64 yp, .slice B3 yl.length d3, .slice B4 yl'.length d4] 85)).trans (hB.mono (by simp)))
            clear hq hB k0 k1 k2 k3 k4 k5 k6 k7 k8 k9
            all_goals
              have HOB := Lib.hid ((HO.out.below HBB.out (Nat.le_refl _)).mono_hi HBB.out.size)
              have HBW : Hid (Below g3 w3 wb) := Lib.hid (HB.out.trans (HBB.out.mono HLO.out))
              have HLB : Hid (g3 ≤ wb.heap.size) := Lib.hid (by have h1 := HBB.out.size; have h2 := HLO.out; omega)
              go_wp2_with (at_builtin; refine wpList_pushL _ rfl (.tmp 33) (.tmp 41) 24 rfl g3 49 (.slice none 0 0) 1 24 infoInts rfl (by omega) Try.underlying24 O1 g o1 hs rfl ((HOB.out.below (((Below.refl _ _).alloc (Nat.le_refl _) _).alloc (by simp) _) (Nat.le_refl _)).row) (some ⟨wb.heap.size + 1, 0, none⟩) 1 1 [.slice (some ⟨wb.heap.size, 0, none⟩) 2 2] rfl (by have h := reads_new (wb.alloc (.cells #[.int .i64 mm, .int .i64 p] 3)) (.slice (some ⟨wb.heap.size, 0, none⟩) 2 2) 49; simp only [World.size_alloc] at h; exact h) (by simp [Value.oneCell']) (by omega) (by omega) (by have := HLB.out; simp; omega) ?_; intro O2 o2 w7 hown7 hg7 hb7 hloc7)
              have HO7 := Lib.hid (HOB.out.push_row (l := ints [mm, p]) rfl HLB.out (by simp) (by simpa [ints] using hg7) hown7 (by simpa [ints] using hloc7))
              have HB7 : Hid (Below g3 w3 w7) := Lib.hid ((HBW.out.trans (((Below.refl _ _).alloc HLB.out _).alloc (by have := HLB.out; simp; omega) _)).trans hb7)
              clear hown7 hg7 hb7 hloc7
              go_roundw
              case rel =>
                refine ⟨k + 1, g + 1, O2, o2, C ++ [[mm, p]], _, by omega, by go_num, rfl, by omega, by simp [HLC.out], ?_, by simpa [rowsIntss] using HO7.out, HB7.out⟩
                rw [← HRC.out, HSK.out]; simp
              case measure => simp [intOf]; omega
        · have HE := Lib.hid (drop_end (xs := togE M L) (k := k) (by rw [HPL.out]; omega))
          have hC : C = chgE (togE M L) := by have := HRC.out; rw [HE.out] at this; simpa [chgE] using this
          subst hC
          have hg : g = (chgE (togE M L)).length := HLC.out.symm
          subst hg
          go_wp2
          go_ret2
          subst hg3
          exact ⟨O1, o1, hs, rfl, HO.out.mono_lo HW3.out.size, HWB.out⟩

end Go.Proofs.Ytcjmlakmigfkfaa
