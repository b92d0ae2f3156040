/- Contract of FogsBySlots of the spec. No conditions. -/
import Derived.Test.YthpfgmnhpnfopaaFgs
namespace Go.Proofs.Ythpfgmnhpnfopaa
set_option linter.unusedSimpArgs false
set_option linter.unusedVariables false
open Go.RowKit

def okRows (m : Nat) : List (List Bool) → Bool
  | [] => true
  | l :: r => if (decide (l.length ≤ 20) && decide (l.length = m)) = true then okRows m r else false
theorem okRows_len {m : Nat} {B : List (List Bool)} (h : okRows m B = true) : ∀ l ∈ B, l.length ≤ 20 := by
  induction B with
  | nil => intro l hl; cases hl
  | cons a r ih =>
    intro l hl
    unfold okRows at h
    split at h
    · rename_i h1
      simp only [Bool.and_eq_true, decide_eq_true_eq] at h1
      rcases List.mem_cons.1 hl with rfl | hl
      · exact h1.1
      · exact ih h l hl
    · cases h
def headN (B : List (List Bool)) : Nat := match B with | [] => 0 | l :: _ => l.length
def fogsR (T K : List S3) (B : List (List Bool)) : List S3 × Bool :=
  if netB T K = true ∧ B.length = K.length ∧ okRows (headN B) B = true ∧ (fogsF 0 B []).length ≤ 60 then (fogsF 0 B [], true) else ([], false)
theorem fogsR_len (T K : List S3) (B : List (List Bool)) : (fogsR T K B).1.length ≤ 60 := by
  unfold fogsR
  split
  · rename_i h; exact h.2.2.2
  · simp
theorem netB_len {T K : List S3} (h : netB T K = true) : K.length ≤ 40 := by
  unfold netB at h
  simp only [Bool.and_eq_true, decide_eq_true_eq] at h
  exact h.2.2.2
theorem headN_get {B : List (List Bool)} (h : 0 < B.length) : headN B = B[0].length := by
  cases B with
  | nil => simp at h
  | cons l r => rfl

set_option maxHeartbeats 4000000 in
set_option maxRecDepth 100000 in
theorem specFogsBySlots_any (At Ak A : Option Addr) (nT cT nK cK n c : Nat) (T K : List S3) (B : List (List Bool)) (w : World) (hT : nT ≤ 1000000000) (hK : nK ≤ 1000000000) (hn : n ≤ 1000000000) (hl : ∀ l ∈ B, l.length ≤ 1000000000) (ht : Reads w 3 At nT (rows3 T)) (hk : Reads w 3 Ak nK (rows3 K)) (h : Reads2 w 1 A n (rowsBoolss B)) :
    Calls Try.prog 55 #[.agg #[.slice At nT cT, .slice Ak nK cK], .slice A n c] w (Made2 w 110 3 (fogsR T K B).1.length (rows3 (fogsR T K B).1) (fogsR T K B).2) := by
  have HX := Lib.hid (show B.length = n by have := h.len; simpa using this)
  have HXK := Lib.hid (show K.length = nK by have := hk.1; rw [length_rows3] at this; omega)
  have cn := neGood_any At Ak nT cT nK cK T K (w.alloc (.cells #[.slice At nT cT, .slice Ak nK cK] 68)) hT hK (ht.alloc _) (hk.alloc _)
  have H := Lib.hid h
  have HZ : Hid (∀ W, Below (w.alloc (.cells #[.slice At nT cT, .slice Ak nK cK] 68)).heap.size (w.alloc (.cells #[.slice At nT cT, .slice Ak nK cK] 68)) W → Below w.heap.size w W) := Lib.hid (fun W hW => ((Below.refl _ _).alloc (Nat.le_refl _) _).trans (hW.mono (by simp)))
  clear h
  cases h1 : netB T K with
  | false =>
    rw [h1] at cn
    have CN := Lib.hid cn
    have hr : fogsR T K B = ([], false) := by unfold fogsR; rw [if_neg (fun h => by rw [h1] at h; cases h.1)]
    rw [hr]
    clear hr cn h1 ht hk hl
    go_enter Try.func55, Try.ntmps55
    go_wp2_with (go_at_call 94; refine (CN.out).mono ?_; rintro e w1 ⟨rfl, hb⟩; have b1' := hb.cell (p := ⟨w.heap.size, 1, none⟩) (by simp) |>.trans (show (w.alloc (.cells #[.slice At nT cT, .slice Ak nK cK] 68)).cell? ⟨w.heap.size, 1, none⟩ = some (.slice Ak nK cK) by simp); have HB1 := Lib.hid hb; clear hb)
    go_ret2
    exact ⟨none, 0, rfl, World.ownsRow_nil _ _ _ _, HZ.out _ HB1.out⟩
  | true =>
    rw [h1] at cn
    have CN := Lib.hid cn
    clear cn ht hk
    have hk40 : nK ≤ 40 := by have := netB_len h1; rw [HXK.out] at this; exact this
    by_cases hnk : n = nK
    rotate_left
    · have hr : fogsR T K B = ([], false) := by unfold fogsR; rw [if_neg (fun h => hnk (by rw [← HX.out, ← HXK.out]; exact h.2.1))]
      rw [hr]
      have hne : ((n : Int) != (nK : Int)) = true := by rw [bne_iff_ne]; omega
      clear hr h1 hl hnk
      go_enter Try.func55, Try.ntmps55
      go_wp2_with (go_at_call 94; refine (CN.out).mono ?_; rintro e w1 ⟨rfl, hb⟩; have b1' := hb.cell (p := ⟨w.heap.size, 1, none⟩) (by simp) |>.trans (show (w.alloc (.cells #[.slice At nT cT, .slice Ak nK cK] 68)).cell? ⟨w.heap.size, 1, none⟩ = some (.slice Ak nK cK) by simp); have HB1 := Lib.hid hb; clear hb)
      go_ret2
      exact ⟨none, 0, rfl, World.ownsRow_nil _ _ _ _, HZ.out _ HB1.out⟩
    have hne : ((n : Int) != (nK : Int)) = false := by rw [bne_eq_false_iff_eq]; omega
    have HNK := Lib.hid hnk
    have HL := Lib.hid hl
    have HN := Lib.hid h1
    clear hnk h1 hl
    go_enter Try.func55, Try.ntmps55
    go_wp2_with (go_at_call 94; refine (CN.out).mono ?_; rintro e w1 ⟨rfl, hb⟩; have b1' := hb.cell (p := ⟨w.heap.size, 1, none⟩) (by simp) |>.trans (show (w.alloc (.cells #[.slice At nT cT, .slice Ak nK cK] 68)).cell? ⟨w.heap.size, 1, none⟩ = some (.slice Ak nK cK) by simp); have HB1 := Lib.hid hb; clear hb)
    clear hne
    have HBW : Hid (Below w.heap.size w w1) := Lib.hid (HZ.out _ HB1.out)
    go_loop [21] (fun i => ∃ k : Nat, k ≤ n ∧ i = .int .i64 k ∧ okRows (headN B) (B.drop k) = okRows (headN B) B) (fun i => n - (intOf i).toNat)
    case atStart => exact ⟨0, Nat.zero_le _, rfl, rfl⟩
    case round =>
      obtain ⟨k, hk, rfl, hrel⟩ := hrel
      have HR := Lib.hid hrel; clear hrel
      by_cases hlt : k < n
      · have hx : k < B.length := by rw [HX.out]; exact hlt
        have hx0 : 0 < B.length := by omega
        obtain ⟨ad, Ai, ci, rfl, kc, _, _, _⟩ := (H.out.below HBW.out).row (rowsBoolss_get hx)
        obtain ⟨_, A0, c0, e, kc0, _, _, _⟩ := (H.out.below HBW.out).row (rowsBoolss_get hx0)
        injection e with e
        subst e
        rw [show ad.add 0 = ad from by simp [Addr.add]] at kc0
        have hl1 := HL.out B[k] (List.getElem_mem hx)
        have HD := Lib.hid (drop_cons hx)
        obtain ⟨m, hm⟩ : ∃ m, headN B = m := ⟨_, rfl⟩
        have hm0 : (bools B[0]).length = m := by rw [length_bools, ← headN_get hx0]; exact hm
        rw [hm0] at kc0
        rw [hm] at HR
        have HM := Lib.hid hm
        clear hm hm0
        generalize B[k] = l at *
        simp only [length_bools] at kc
        by_cases hl20 : l.length ≤ 20
        · by_cases hlm : l.length = m
          · have hbe : ((l.length : Int) != (m : Int)) = false := by rw [bne_eq_false_iff_eq]; omega
            have HT : Hid (okRows m (B.drop (k + 1)) = okRows m B) := Lib.hid (by rw [← HR.out, HD.out]; simp [okRows, hl20, hlm]; try (intro h; omega))
            clear hlm
            go_wp2
            go_round
            case rel => exact ⟨k + 1, by omega, by go_num, by rw [HM.out]; exact HT.out⟩
            case measure => simp [intOf]; omega
          · have hbe : ((l.length : Int) != (m : Int)) = true := by rw [bne_iff_ne]; omega
            have HF : Hid (okRows m B = false) := Lib.hid (by rw [← HR.out, HD.out]; simp [okRows, hlm])
            have HFR : Hid (fogsR T K B = ([], false)) := Lib.hid (by unfold fogsR; rw [if_neg (fun h => by have h2 := h.2.2.1; rw [HM.out, HF.out] at h2; cases h2)])
            clear hlm
            go_wp2
            go_ret2
            rw [HFR.out]
            exact ⟨none, 0, rfl, World.ownsRow_nil _ _ _ _, HBW.out⟩
        · have HF : Hid (okRows m B = false) := Lib.hid (by rw [← HR.out, HD.out]; simp [okRows, hl20])
          have HFR : Hid (fogsR T K B = ([], false)) := Lib.hid (by unfold fogsR; rw [if_neg (fun h => by have h2 := h.2.2.1; rw [HM.out, HF.out] at h2; cases h2)])
          go_wp2
          go_ret2
          rw [HFR.out]
          exact ⟨none, 0, rfl, World.ownsRow_nil _ _ _ _, HBW.out⟩
      · have HOK : Hid (okRows (headN B) B = true) := Lib.hid (by rw [← HR.out, drop_end (by rw [HX.out]; omega)]; rfl)
        have hn40 : n ≤ 40 := by have := HNK.out; omega
        have CW := Lib.hid (fun W (hW : Below w.heap.size w W) => weFogs_any A n c B W (by omega) (fun l hl' => by have := okRows_len HOK.out l hl'; omega) (H.out.below hW))
        have HFR : Hid (fogsR T K B = if (fogsF 0 B []).length ≤ 60 then (fogsF 0 B [], true) else ([], false)) := Lib.hid (by
          unfold fogsR
          have e : B.length = K.length := by rw [HX.out, HXK.out]; exact HNK.out
          by_cases h : (fogsF 0 B []).length ≤ 60
          · rw [if_pos ⟨HN.out, e, HOK.out, h⟩, if_pos h]
          · rw [if_neg (fun h' => h h'.2.2.2), if_neg h])
        generalize fogsF 0 B [] = F at *
        clear HR HN HNK HOK
        go_wp2_with fail
        refine (CW.out _ HBW.out).mono ?_
        rintro e w2 ⟨A1, c1, rfl, ho, hb⟩
        have HB2 := Lib.hid hb
        clear ho hb
        by_cases h60 : F.length ≤ 60
        · go_wp2_with fail
          refine (CW.out _ (HBW.out.trans (HB2.out.mono HBW.out.size))).mono ?_
          rintro e w3 ⟨A2, c2, rfl, ho, hb⟩
          have HO := Lib.hid ho; have HB3 := Lib.hid hb
          clear ho hb
          go_wp2
          go_ret2
          rw [HFR.out, if_pos h60]
          exact ⟨A2, c2, rfl, own_mono HO.out (Nat.le_trans HBW.out.size HB2.out.size), (HBW.out.trans (HB2.out.mono HBW.out.size)).trans (HB3.out.mono (Nat.le_trans HBW.out.size HB2.out.size))⟩
        · go_wp2
          go_ret2
          rw [HFR.out, if_neg h60]
          exact ⟨none, 0, rfl, World.ownsRow_nil _ _ _ _, HBW.out.trans (HB2.out.mono HBW.out.size)⟩

end Go.Proofs.Ythpfgmnhpnfopaa
