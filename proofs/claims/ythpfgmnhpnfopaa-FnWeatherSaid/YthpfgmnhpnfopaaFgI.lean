/- Contract of FogsBySlots of the program. No conditions. -/
import Derived.Test.YthpfgmnhpnfopaaFgB
import Derived.Test.YthpfgmnhpnfopaaNetI
namespace Go.Proofs.Ythpfgmnhpnfopaa
set_option linter.unusedSimpArgs false
set_option linter.unusedVariables false
open Go.RowKit

def prevB (l : List Bool) (j : Nat) : Bool := if j = 0 then false else l.getD (j - 1) false
theorem prevB_succ {l : List Bool} {j : Nat} (h : j < l.length) : prevB l (j + 1) = l[j] := by simp [prevB, List.getD_eq_getElem?_getD, h]
/-- What the last fog tells of the slot before: p. -/
def Lst (i j : Nat) (p : Bool) (F : List S3) : Prop :=
  (∀ G x, F = G ++ [x] → (x.1 < (i : Int) ∨ (x.1 = (i : Int) ∧ x.2.2 ≤ (j : Int) * 500)) ∧ ((x.1 = (i : Int) ∧ x.2.2 = (j : Int) * 500) ↔ p = true)) ∧ (p = true → F ≠ [])
theorem Lst.nil (i j : Nat) : Lst i j false [] := ⟨fun G x h => by have := congrArg List.length h; simp at this, fun h => by cases h⟩
theorem snoc_inj {G G' : List S3} {x y : S3} (h : G ++ [x] = G' ++ [y]) : x = y := by
  have := congrArg List.getLast? h
  simpa using this
theorem Lst.fogT {i j : Nat} {F : List S3} (h : Lst i j true F) : ∃ G x, F = G ++ [x] ∧ x.1 = (i : Int) ∧ x.2.2 = (j : Int) * 500 ∧ stepF i j F = G ++ [(x.1, x.2.1, x.2.2 + 500)] ∧ Lst i (j + 1) true (G ++ [(x.1, x.2.1, x.2.2 + 500)]) := by
  rcases snoc_or_nil F with rfl | ⟨G, x, rfl⟩
  · exact absurd rfl (h.2 rfl)
  · have h1 := (h.1 G x rfl).2.2 rfl
    refine ⟨G, x, rfl, h1.1, h1.2, by rw [stepF_snoc, if_pos h1], fun G' y hy => ?_, fun _ => by simp⟩
    have e := snoc_inj hy
    subst e
    have h12 := h1.2
    exact ⟨.inr ⟨h1.1, by simp only; push_cast; omega⟩, ⟨fun _ => rfl, fun _ => ⟨h1.1, by simp only; push_cast; omega⟩⟩⟩
theorem Lst.fogF {i j : Nat} {F : List S3} (h : Lst i j false F) : stepF i j F = F ++ [((i : Int), (j : Int) * 500, ((j : Int) + 1) * 500)] ∧ Lst i (j + 1) true (F ++ [((i : Int), (j : Int) * 500, ((j : Int) + 1) * 500)]) := by
  constructor
  · rcases snoc_or_nil F with rfl | ⟨G, x, rfl⟩
    · exact stepF_nil i j
    · rw [stepF_snoc, if_neg (fun h' => by have := (h.1 G x rfl).2.1 h'; cases this)]
  · refine ⟨fun G' y hy => ?_, fun _ => by simp⟩
    have e := snoc_inj hy
    subst e
    exact ⟨.inr ⟨rfl, by simp only; push_cast; omega⟩, ⟨fun _ => rfl, fun _ => ⟨rfl, by simp only; push_cast; omega⟩⟩⟩
theorem Lst.none {i j : Nat} {p : Bool} {F : List S3} (h : Lst i j p F) : Lst i (j + 1) false F :=
  ⟨fun G x hx => by
    have h1 := (h.1 G x hx).1
    refine ⟨?_, ⟨fun h2 => ?_, fun h2 => by cases h2⟩⟩
    · rcases h1 with h1 | ⟨h1, h2⟩
      · exact .inl h1
      · exact .inr ⟨h1, by push_cast; omega⟩
    · have h3 := h2.2
      push_cast at h3
      rcases h1 with h1 | ⟨_, h4⟩
      · have := h2.1; omega
      · omega, fun h => by cases h⟩
theorem Lst.next {i j : Nat} {p : Bool} {F : List S3} (h : Lst i j p F) : Lst (i + 1) 0 false F :=
  ⟨fun G x hx => by
    have h1 := (h.1 G x hx).1
    have h2 : x.1 < ((i + 1 : Nat) : Int) := by push_cast; rcases h1 with h1 | h1 <;> omega
    exact ⟨.inl h2, ⟨fun h3 => by have := h3.1; omega, fun h3 => by cases h3⟩⟩, fun h => by cases h⟩

set_option maxHeartbeats 8000000 in
set_option maxRecDepth 100000 in
theorem implFogsBySlots_any (At Ak A : Option Addr) (nT cT nK cK n c : Nat) (T K : List S3) (B : List (List Bool)) (w : World) (hT : nT ≤ 1000000000) (hK : nK ≤ 1000000000) (hn : n ≤ 1000000000) (hl : ∀ l ∈ B, l.length ≤ 1000000000) (ht : Reads w 3 At nT (rows3 T)) (hk : Reads w 3 Ak nK (rows3 K)) (h : Reads2 w 1 A n (rowsBoolss B)) :
    Calls Try.prog 57 #[.agg #[.slice At nT cT, .slice Ak nK cK], .slice A n c] w (Made2 w 110 3 (fogsR T K B).1.length (rows3 (fogsR T K B).1) (fogsR T K B).2) := by
  have HX := Lib.hid (show B.length = n by have := h.len; simpa using this)
  have HXK := Lib.hid (show K.length = nK by have := hk.1; rw [length_rows3] at this; omega)
  have cn := isNet_any At Ak nT cT nK cK T K (w.alloc (.cells #[.slice At nT cT, .slice Ak nK cK] 68)) hT hK (ht.alloc _) (hk.alloc _)
  have H := Lib.hid h
  have HZ : Hid (∀ W, Below (w.alloc (.cells #[.slice At nT cT, .slice Ak nK cK] 68)).heap.size (w.alloc (.cells #[.slice At nT cT, .slice Ak nK cK] 68)) W → Below w.heap.size w W) := Lib.hid (fun W hW => ((Below.refl _ _).alloc (Nat.le_refl _) _).trans (hW.mono (by simp)))
  clear h
  cases h1 : netB T K with
  | false =>
    rw [h1] at cn
    have CN := Lib.hid cn
    have hr : fogsR T K B = ([], false) := by unfold fogsR; rw [if_neg (fun h => by rw [h1] at h; cases h.1)]
    rw [hr]
    clear hr cn h1 ht hk hl
    go_enter Try.func57, Try.ntmps57
    go_wp2_with (go_at_call 98; refine (CN.out).mono ?_; rintro e w1 ⟨rfl, hb⟩; have b1' := hb.cell (p := ⟨w.heap.size, 1, none⟩) (by simp) |>.trans (show (w.alloc (.cells #[.slice At nT cT, .slice Ak nK cK] 68)).cell? ⟨w.heap.size, 1, none⟩ = some (.slice Ak nK cK) by simp); have HB1 := Lib.hid hb; clear hb)
    go_ret2
    exact ⟨none, 0, rfl, World.ownsRow_nil _ _ _ _, HZ.out _ HB1.out⟩
  | true =>
    rw [h1] at cn
    have CN := Lib.hid cn
    clear cn ht hk
    have hk40 : nK ≤ 40 := by have := netB_len h1; rw [HXK.out] at this; exact this
    by_cases hnk : n = nK
    rotate_left
    · have hr : fogsR T K B = ([], false) := by unfold fogsR; rw [if_neg (fun h => hnk (by rw [← HX.out, ← HXK.out]; exact h.2.1))]
      rw [hr]
      have hne : ((n : Int) != (nK : Int)) = true := by rw [bne_iff_ne]; omega
      clear hr h1 hl hnk
      go_enter Try.func57, Try.ntmps57
      go_wp2_with (go_at_call 98; refine (CN.out).mono ?_; rintro e w1 ⟨rfl, hb⟩; have b1' := hb.cell (p := ⟨w.heap.size, 1, none⟩) (by simp) |>.trans (show (w.alloc (.cells #[.slice At nT cT, .slice Ak nK cK] 68)).cell? ⟨w.heap.size, 1, none⟩ = some (.slice Ak nK cK) by simp); have HB1 := Lib.hid hb; clear hb)
      go_ret2
      exact ⟨none, 0, rfl, World.ownsRow_nil _ _ _ _, HZ.out _ HB1.out⟩
    have hne : ((n : Int) != (nK : Int)) = false := by rw [bne_eq_false_iff_eq]; omega
    have HNK := Lib.hid hnk
    have HL := Lib.hid hl
    have HNB := Lib.hid h1
    have hn40 : n ≤ 40 := by omega
    clear hnk h1 hl
    obtain ⟨lo, hlo⟩ : ∃ lo, lo = w.heap.size := ⟨_, rfl⟩
    have HLOE := Lib.hid hlo
    clear hlo
    go_enter Try.func57, Try.ntmps57
    go_wp2_with (go_at_call 98; refine (CN.out).mono ?_; rintro e w1 ⟨rfl, hb⟩; have b1' := hb.cell (p := ⟨w.heap.size, 1, none⟩) (by simp) |>.trans (show (w.alloc (.cells #[.slice At nT cT, .slice Ak nK cK] 68)).cell? ⟨w.heap.size, 1, none⟩ = some (.slice Ak nK cK) by simp); have HB1 := Lib.hid hb; clear hb)
    clear hne b1'
    have HBW : Hid (Below w.heap.size w w1) := Lib.hid (HZ.out _ HB1.out)
    have HBL0 : Hid (Below lo w w1) := Lib.hid (by rw [HLOE.out]; exact HBW.out)
    go_loopw [6, 24] (fun v i wr => ∃ k : Nat, ∃ F A1 c1, k ≤ n ∧ i = .int .i64 k ∧ v = .slice A1 (List.length F) c1 ∧ F.length ≤ 1000 * k ∧ fogsF k (B.drop k) F = fogsF 0 B [] ∧ (okRows (headN B) (B.drop k) = okRows (headN B) B ∧ Lst k 0 false F) ∧ wr.ownsRow lo 110 3 (.slice A1 F.length c1) F.length (rows3 F) ∧ Below lo w wr) (fun _ i _ => n - (intOf i).toNat)
    case atStart => exact ⟨0, [], none, 0, Nat.zero_le _, rfl, rfl, by simp, rfl, ⟨rfl, Lst.nil _ _⟩, World.ownsRow_nil _ _ _ _, HBL0.out⟩
    case round =>
      obtain ⟨i, F, A1, c1, hk, rfl, rfl, hfl, hrel, ⟨hrk, hls⟩, hown, hb⟩ := hrel
      have HRO := Lib.hid hrel; have HRK := Lib.hid hrk; have HLS := Lib.hid hls; have HO := Lib.hid hown; have HB := Lib.hid hb
      clear hrel hrk hls hown hb
      obtain ⟨wo, rfl⟩ : ∃ wo, wo = wr := ⟨_, rfl⟩
      have HBW : Hid (Below w.heap.size w wo) := Lib.hid (by have h5 := HB.out; rw [HLOE.out] at h5; exact h5)
      by_cases hlt : i < n
      · have hx : i < B.length := by rw [HX.out]; exact hlt
        have hx0 : 0 < B.length := by omega
        obtain ⟨ad, Ai, ci, rfl, kcw, _, _, hr⟩ := H.out.row (rowsBoolss_get hx)
        obtain ⟨_, A0, c0, e, kc0w, _, _, _⟩ := H.out.row (rowsBoolss_get hx0)
        injection e with e
        subst e
        rw [show ad.add 0 = ad from by simp [Addr.add]] at kc0w
        have kc := (HBW.out.cell (World.block_lt_of_cell? w _ kcw)).trans kcw
        have kc0 := (HBW.out.cell (World.block_lt_of_cell? w _ kc0w)).trans kc0w
        clear kcw kc0w
        have HRR := Lib.hid hr; clear hr
        have hl1 := HL.out B[i] (List.getElem_mem hx)
        have HDO := Lib.hid (drop_cons hx)
        obtain ⟨m, hm⟩ : ∃ m, headN B = m := ⟨_, rfl⟩
        have hm0 : (bools B[0]).length = m := by rw [length_bools, ← headN_get hx0]; exact hm
        rw [hm0] at kc0
        rw [hm] at HRK
        have HM := Lib.hid hm
        clear hm hm0
        generalize B[i] = l at *
        simp only [length_bools] at kc HRR
        by_cases hl20 : l.length ≤ 20
        rotate_left
        · have HF : Hid (okRows m B = false) := Lib.hid (by rw [← HRK.out, HDO.out]; simp [okRows, hl20])
          have HFR : Hid (fogsR T K B = ([], false)) := Lib.hid (by unfold fogsR; rw [if_neg (fun h => by have h2 := h.2.2.1; rw [HM.out, HF.out] at h2; cases h2)])
          go_wp2
          go_ret2
          rw [HFR.out]
          exact ⟨none, 0, rfl, World.ownsRow_nil _ _ _ _, HBW.out⟩
        by_cases hlm : l.length = m
        rotate_left
        · have hbe : ((l.length : Int) != (m : Int)) = true := by rw [bne_iff_ne]; omega
          have HF : Hid (okRows m B = false) := Lib.hid (by rw [← HRK.out, HDO.out]; simp [okRows, hlm])
          have HFR : Hid (fogsR T K B = ([], false)) := Lib.hid (by unfold fogsR; rw [if_neg (fun h => by have h2 := h.2.2.1; rw [HM.out, HF.out] at h2; cases h2)])
          clear hlm
          go_wp2
          go_ret2
          rw [HFR.out]
          exact ⟨none, 0, rfl, World.ownsRow_nil _ _ _ _, HBW.out⟩
        have hbe : ((l.length : Int) != (m : Int)) = false := by rw [bne_eq_false_iff_eq]; omega
        have HT : Hid (okRows m (B.drop (i + 1)) = okRows m B) := Lib.hid (by rw [← HRK.out, HDO.out]; simp [okRows, hl20, hlm]; try (intro h; omega))
        obtain ⟨R0, hR0⟩ : ∃ R0, R0 = rowF i 0 l F := ⟨_, rfl⟩
        have HR0 := Lib.hid hR0
        have HR0' := HR0
        have HRO0 := HRO
        clear hR0 hlm HRK
        have HBO := HB
        go_wp2
        clear kc kc0 hbe
        go_loopw [6, 43] (fun v q wr => ∃ j : Nat, ∃ F A1 c1, j ≤ l.length ∧ q = .int .i64 j ∧ v = .slice A1 (List.length F) c1 ∧ F.length ≤ 1000 * i + j ∧ rowF i j (l.drop j) F = R0 ∧ Lst i j (prevB l j) F ∧ wr.ownsRow lo 110 3 (.slice A1 F.length c1) F.length (rows3 F) ∧ Below lo w wr) (fun _ q _ => l.length - (intOf q).toNat)
        case atStart => exact ⟨0, F, A1, c1, Nat.zero_le _, rfl, rfl, by omega, HR0.out.symm, HLS.out, HO.out, HBO.out⟩
        case round =>
          obtain ⟨j, F, A1, c1, hj, rfl, rfl, hfl, hrel, hls, hown, hb⟩ := hrel
          have HR := Lib.hid hrel; have HLS := Lib.hid hls; have HO := Lib.hid hown; have HB := Lib.hid hb
          clear hrel hls hown hb HR0 HRO
          obtain ⟨wi, rfl⟩ : ∃ wi, wi = wr := ⟨_, rfl⟩
          have HLO : Hid (lo ≤ wi.heap.size) := Lib.hid (by have := HB.out.size; have := HLOE.out; omega)
          have HBW : Hid (Below w.heap.size w wi) := Lib.hid (by have h5 := HB.out; rw [HLOE.out] at h5; exact h5)
          by_cases hlt2 : j < l.length
          · obtain ⟨bd, u, rfl, hu, k0⟩ := (HRR.out.below HBW.out).at_ hlt2
            have e0 : u = .bool l[j] := by simp [bools, hlt2] at hu; exact hu.symm
            subst e0
            have HD := Lib.hid (drop_cons hlt2)
            have HPB := Lib.hid (prevB_succ hlt2)
            clear hu
            cases hlj : l[j] with
            | false =>
              rw [hlj] at k0 HD HPB
              clear hlj
              go_wp2
              go_roundw
              case rel => exact ⟨j + 1, F, A1, c1, by omega, by go_num, rfl, by omega, by rw [← HR.out, HD.out]; rfl, by rw [HPB.out]; exact HLS.out.none, HO.out, HB.out⟩
              case measure => simp [intOf]; omega
            | true =>
              rw [hlj] at k0 HD HPB
              clear hlj
              by_cases hjp : 0 < j
              rotate_left
              · have hp0 : prevB l j = false := by unfold prevB; rw [if_pos (by omega)]
                rw [hp0] at HLS
                clear hp0
                have hf := HLS.out.fogF
                have HN := Lib.hid hf.1
                have HLN := Lib.hid hf.2
                clear hf HLS
                go_wp2_with (at_builtin; refine wpList_push _ rfl (.tmp 48) (.tmp 56) 62 rfl lo 110 _ 3 24 infoFog rfl (by omega) Try.underlying62 A1 F.length c1 (rows3 F) rfl (own_below HO.out ((Below.refl _ _).alloc (Nat.le_refl _) _)) (some ⟨wi.heap.size, 0, none⟩) 1 1 [.int .i64 (i : Int), .int .i64 ((j : Int) * 500), .int .i64 (((j : Int) + 1) * 500)] rfl (reads_litk _ _ _ rfl) (by simp [Value.oneCell']) (by omega) (by omega) (by have := HLO.out; simp; omega) ?_; intro A5 c5 w5 hown5 hg5 hb5)
                have HFL : Hid ((F ++ [((i : Int), (j : Int) * 500, ((j : Int) + 1) * 500)]).length = F.length + 1) := Lib.hid (by first | (simp; done) | (have := HMG.out; simp; omega))
                have HO5 : Hid (w5.ownsRow lo 110 3 (.slice A5 (F ++ [((i : Int), (j : Int) * 500, ((j : Int) + 1) * 500)]).length c5) (F ++ [((i : Int), (j : Int) * 500, ((j : Int) + 1) * 500)]).length (rows3 (F ++ [((i : Int), (j : Int) * 500, ((j : Int) + 1) * 500)]))) := Lib.hid (by rw [HFL.out]; simpa [rows3, cells3] using hown5)
                have HB5 : Hid (Below lo w w5) := Lib.hid (HB.out.trans (((Below.refl _ _).alloc HLO.out _).trans hb5))
                clear hown5 hg5 hb5
                go_roundw
                case rel => exact ⟨j + 1, F ++ [((i : Int), (j : Int) * 500, ((j : Int) + 1) * 500)], A5, c5, by omega, by go_num, by rw [HFL.out], by rw [HFL.out]; omega, by rw [← HR.out, HD.out]; simp only [rowF, if_true]; rw [HN.out], by rw [HPB.out]; exact HLN.out, HO5.out, HB5.out⟩
                case measure => simp [intOf]; omega
              · obtain ⟨j2, hj2⟩ : ∃ j2, j2 + 1 = j := ⟨j - 1, by omega⟩
                have hj3 : j2 < l.length := by omega
                obtain ⟨_, u, e, hu, k1⟩ := (HRR.out.below HBW.out).at_ hj3
                injection e with e
                subst e
                have e0 : u = .bool l[j2] := by simp [bools, hj3] at hu; exact hu.symm
                subst e0
                have hpb : prevB l j = l[j2] := by subst hj2; exact prevB_succ hj3
                rw [hpb] at HLS
                have hje : (j : Int) - 1 = (j2 : Int) := by omega
                clear hu hpb hj2
                cases hlj : l[j2] with
                | false =>
                  rw [hlj] at k1 HLS
                  clear hlj
                  have hf := HLS.out.fogF
                  have HN := Lib.hid hf.1
                  have HLN := Lib.hid hf.2
                  clear hf HLS
                  go_wp2_with (at_builtin; refine wpList_push _ rfl (.tmp 48) (.tmp 56) 62 rfl lo 110 _ 3 24 infoFog rfl (by omega) Try.underlying62 A1 F.length c1 (rows3 F) rfl (own_below HO.out ((Below.refl _ _).alloc (Nat.le_refl _) _)) (some ⟨wi.heap.size, 0, none⟩) 1 1 [.int .i64 (i : Int), .int .i64 ((j : Int) * 500), .int .i64 (((j : Int) + 1) * 500)] rfl (reads_litk _ _ _ rfl) (by simp [Value.oneCell']) (by omega) (by omega) (by have := HLO.out; simp; omega) ?_; intro A5 c5 w5 hown5 hg5 hb5)
                  have HFL : Hid ((F ++ [((i : Int), (j : Int) * 500, ((j : Int) + 1) * 500)]).length = F.length + 1) := Lib.hid (by first | (simp; done) | (have := HMG.out; simp; omega))
                  have HO5 : Hid (w5.ownsRow lo 110 3 (.slice A5 (F ++ [((i : Int), (j : Int) * 500, ((j : Int) + 1) * 500)]).length c5) (F ++ [((i : Int), (j : Int) * 500, ((j : Int) + 1) * 500)]).length (rows3 (F ++ [((i : Int), (j : Int) * 500, ((j : Int) + 1) * 500)]))) := Lib.hid (by rw [HFL.out]; simpa [rows3, cells3] using hown5)
                  have HB5 : Hid (Below lo w w5) := Lib.hid (HB.out.trans (((Below.refl _ _).alloc HLO.out _).trans hb5))
                  clear hown5 hg5 hb5
                  go_roundw
                  case rel => exact ⟨j + 1, F ++ [((i : Int), (j : Int) * 500, ((j : Int) + 1) * 500)], A5, c5, by omega, by go_num, by rw [HFL.out], by rw [HFL.out]; omega, by rw [← HR.out, HD.out]; simp only [rowF, if_true]; rw [HN.out], by rw [HPB.out]; exact HLN.out, HO5.out, HB5.out⟩
                  case measure => simp [intOf]; omega
                | true =>
                  rw [hlj] at k1 HLS
                  clear hlj
                  obtain ⟨G, ⟨xa, xb, xc⟩, hF, h1, h2, hst, hln⟩ := HLS.out.fogT
                  subst hF
                  have HST := Lib.hid hst; have HLN := Lib.hid hln
                  have hxb : 0 ≤ xc ∧ xc ≤ 500000 := by simp only at h2; omega
                  clear HLS hst hln h1 h2
                  obtain ⟨m2, hm2⟩ : ∃ m2, G.length = m2 := ⟨_, rfl⟩
                  have hml : (G ++ [(xa, xb, xc)]).length = m2 + 1 := by simp [hm2]
                  have HO' := HO
                  have HMG := Lib.hid hm2
                  rw [hml] at HO' hfl
                  obtain ⟨g, rfl, hg⟩ := own3_at HO'.out (by omega)
                  have hc := rows3_cells G xa xb xc
                  rw [hm2] at hc
                  have c2 : wi.cell? ⟨g, m2 * 3 + 2, none⟩ = some (.int .i64 xc) := (HO'.out.cellAt _ (by omega)).trans hc.2
                  have f2 : wi.frozen? ⟨g, m2 * 3 + 2, none⟩ = false := HO'.out.frozenAt _
                  have hs := (HO'.out.stored (m2 * 3 + 2) (.int .i64 (xc + 500))).1
                  rw [← HMG.out, rows3_last] at hs
                  have HS := Lib.hid hs
                  have HBS : Hid (Below lo w (wi.setCell ⟨g, m2 * 3 + 2, none⟩ (.int .i64 (xc + 500)))) := Lib.hid (HB.out.setCell hg _)
                  rw [hml]
                  clear hc hm2 hml hs
                  go_wp2
                  go_roundw
                  case rel => exact ⟨j + 1, G ++ [(xa, xb, xc + 500)], some ⟨g, 0, none⟩, c1, by omega, by go_num, by simp [HMG.out], by simp [HMG.out]; omega, by rw [← HR.out, HD.out]; simp only [rowF, if_true]; rw [HST.out], by rw [HPB.out]; exact HLN.out, by have h9 := HS.out; simpa [HMG.out] using h9, HBS.out⟩
                  case measure => simp [intOf]; omega
          · obtain rfl : j = l.length := by omega
            have hF : F = R0 := by have := HR.out; rw [drop_end (Nat.le_refl _)] at this; exact this
            subst hF
            go_wp2
            go_roundw
            case rel => exact ⟨i + 1, F, A1, c1, by omega, by go_num, rfl, by omega, by rw [← HRO0.out, HDO.out]; simp only [fogsF]; rw [← HR0'.out], ⟨by rw [HM.out]; exact HT.out, HLS.out.next⟩, HO.out, HB.out⟩
            case measure => simp [intOf]; omega
      · have HOK : Hid (okRows (headN B) B = true) := Lib.hid (by rw [← HRK.out, drop_end (by rw [HX.out]; omega)]; rfl)
        have hF : F = fogsF 0 B [] := by rw [← HRO.out, drop_end (by rw [HX.out]; omega)]; rfl
        have HFR : Hid (fogsR T K B = if (fogsF 0 B []).length ≤ 60 then (fogsF 0 B [], true) else ([], false)) := Lib.hid (by
          unfold fogsR
          have e : B.length = K.length := by rw [HX.out, HXK.out]; exact HNK.out
          by_cases h : (fogsF 0 B []).length ≤ 60
          · rw [if_pos ⟨HNB.out, e, HOK.out, h⟩, if_pos h]
          · rw [if_neg (fun h' => h h'.2.2.2), if_neg h])
        rw [← hF] at HFR
        have hl9 : F.length ≤ 1000 * 40 := by omega
        clear hF HOK HRK HLS HRO
        by_cases h60 : F.length ≤ 60
        · go_wp2
          go_ret2
          rw [HFR.out, if_pos h60]
          have e := HLOE.out
          subst e
          exact ⟨A1, c1, rfl, HO.out, HB.out⟩
        · go_wp2
          go_ret2
          rw [HFR.out, if_neg h60]
          exact ⟨none, 0, rfl, World.ownsRow_nil _ _ _ _, HBW.out⟩

end Go.Proofs.Ythpfgmnhpnfopaa
