/- Contracts of FogsByKey of both packages. No conditions. -/
import Derived.Test.YthpfgmnhpnfopaaFgI
import Derived.Test.YthpfgmnhpnfopaaWe3
import Derived.Test.YthpfgmnhpnfopaaOwnP
import Derived.Test.YthpfgmnhpnfopaaNesh
namespace Go.Proofs.Ythpfgmnhpnfopaa
set_option linter.unusedSimpArgs false
set_option linter.unusedVariables false
open Go.RowKit Go.ChangeShapes Go.WideShapes Go.Deep

/-- A row that a call has just made is appended. -/
theorem Own2.push_made {w w1 w' : World} {lo n c c' : Nat} {e ei eb : TypeId} {A A' Ai : Option Addr} {cs : List Cel} {hs : List Value} {l : List Value} {m ci : Nat} (h : Own2 w lo w.heap.size e ei 1 A n c cs hs) (hm : m = l.length) (hlo : lo ≤ w.heap.size)
    (hb : Below w.heap.size w w1) (ho : w1.ownsRow w.heap.size ei 1 (.slice Ai m ci) m l)
    (hg : (w1.alloc (.cells #[.slice Ai m ci] eb)).grownBy w' (Value.slice A n c).ownBlock) (hr : w'.ownsRow lo e 1 (.slice A' (n + 1) c') (n + 1) (hs ++ [.slice Ai m ci]))
    (hloc : (Value.slice A' (n + 1) c').ownBlock = (Value.slice A n c).ownBlock ∨ (Value.slice A' (n + 1) c').ownBlock = some (w1.alloc (.cells #[.slice Ai m ci] eb)).heap.size) :
    Own2 w' lo w'.heap.size e ei 1 A' (n + 1) c' (cs ++ [.inr l]) (hs ++ [.slice Ai m ci]) := by
  subst hm
  have hz := hb.size
  have hb2 : Below w.heap.size w (w1.alloc (.cells #[.slice Ai l.length ci] eb)) := hb.alloc hz _
  have hoc := own_below ho ((Below.refl _ _).alloc (Nat.le_refl _) (.cells #[.slice Ai l.length ci] eb))
  refine (h.below hb2 (Nat.le_refl _)).push hg hr hloc (by simp; omega) rfl (fun q u x hu hx => ?_) (fun q u hu b hb' => ?_) (fun q q' u v hne hu hv => ?_)
  · cases q with
    | succ q => simp at hu
    | zero =>
      simp at hu hx
      subst hu; subst hx
      exact ownC_mono (x := .inr l) ⟨_, _, rfl, hoc⟩ hlo
  · cases q with
    | succ q => simp at hu
    | zero =>
      simp at hu
      subst hu
      have h1 := ho.lt b hb'
      exact ⟨by omega, h1.1, by simp; omega⟩
  · cases q with
    | succ q => simp at hu
    | zero =>
      cases q' with
      | zero => exact absurd rfl hne
      | succ q' => simp at hv
def rowsK (key : Int) (k s : Nat) : List (List Bool) := (List.range k).map fun i : Nat => slotsL key (i : Int) s
@[simp] theorem length_rowsK (key : Int) (k s : Nat) : (rowsK key k s).length = k := by simp [rowsK]
theorem rowsK_succ (key : Int) (k s : Nat) : rowsK key (k + 1) s = rowsK key k s ++ [slotsL key (k : Int) s] := by simp [rowsK, List.range_succ]
theorem rowsK_get {key : Int} {k s i : Nat} (h : i < k) : (rowsBoolss (rowsK key k s))[i]? = some (.inr (bools (slotsL key (i : Int) s))) := by simp [rowsBoolss, rowsK, h]
theorem rowsK_len (key : Int) (k s : Nat) : ∀ l ∈ rowsK key k s, l.length = s := by
  intro l hl
  obtain ⟨i, _, rfl⟩ := List.mem_map.1 hl
  simp
theorem okRows_all {m : Nat} {B : List (List Bool)} (h : ∀ l ∈ B, l.length ≤ 20 ∧ l.length = m) : okRows m B = true := by
  induction B with
  | nil => rfl
  | cons a r ih =>
    unfold okRows
    rw [if_pos (by have := h a (by simp); simp [this.1, this.2]; have := this.2; omega)]
    exact ih fun l hl => h l (by simp [hl])
theorem okRows_rowsK {key : Int} {k s : Nat} (hs : s ≤ 20) : okRows (headN (rowsK key k s)) (rowsK key k s) = true := by
  refine okRows_all fun l hl => ?_
  have h := rowsK_len key k s l hl
  refine ⟨by omega, ?_⟩
  have h0 : 0 < (rowsK key k s).length := List.length_pos_iff.2 (by intro e; rw [e] at hl; cases hl)
  rw [headN_get h0, rowsK_len key k s _ (List.getElem_mem h0), h]
def fogsK (T K : List S3) (key slots : Int) : List S3 × Bool :=
  if netB T K = true ∧ inB key 0 1000000000 = true ∧ inB slots 0 20 = true then fogsR T K (rowsK key K.length slots.toNat) else ([], false)
theorem fogsK_len (T K : List S3) (key slots : Int) : (fogsK T K key slots).1.length ≤ 60 := by
  unfold fogsK
  split
  · exact fogsR_len _ _ _
  · simp

set_option maxHeartbeats 4000000 in
set_option maxRecDepth 100000 in
theorem specFogsByKey_any (At Ak : Option Addr) (nT cT nK cK : Nat) (T K : List S3) (key slots : Int) (w : World) (hT : nT ≤ 1000000000) (hK : nK ≤ 1000000000) (ht : Reads w 3 At nT (rows3 T)) (hk : Reads w 3 Ak nK (rows3 K)) :
    Calls Try.prog 46 #[.agg #[.slice At nT cT, .slice Ak nK cK], .int .i64 key, .int .i64 slots] w (Made2 w 110 3 (fogsK T K key slots).1.length (rows3 (fogsK T K key slots).1) (fogsK T K key slots).2) := by
  have HXK := Lib.hid (show K.length = nK by have := hk.1; rw [length_rows3] at this; omega)
  have CN := Lib.hid (neGood_any At Ak nT cT nK cK T K (w.alloc (.cells #[.slice At nT cT, .slice Ak nK cK] 68)) hT hK (ht.alloc _) (hk.alloc _))
  have HT := Lib.hid ht; have HKR := Lib.hid hk
  have HZ : Hid (∀ W, Below (w.alloc (.cells #[.slice At nT cT, .slice Ak nK cK] 68)).heap.size (w.alloc (.cells #[.slice At nT cT, .slice Ak nK cK] 68)) W → Below w.heap.size w W) := Lib.hid (fun W hW => ((Below.refl _ _).alloc (Nat.le_refl _) _).trans (hW.mono (by simp)))
  have HC : Hid (∀ W, Below (w.alloc (.cells #[.slice At nT cT, .slice Ak nK cK] 68)).heap.size (w.alloc (.cells #[.slice At nT cT, .slice Ak nK cK] 68)) W → W.cell? ⟨w.heap.size, 0, none⟩ = some (.slice At nT cT) ∧ W.cell? ⟨w.heap.size, 1, none⟩ = some (.slice Ak nK cK)) := Lib.hid (fun W hW => ⟨(hW.cell (by simp)).trans (by simp), (hW.cell (by simp)).trans (by simp)⟩)
  clear ht hk
  cases h1 : netB T K <;> cases h2 : inB key 0 1000000000 <;> cases h3 : inB slots 0 20
  case true.true.true =>
    have HKEY := Lib.hid (inB_true.1 h2)
    obtain ⟨s, hs⟩ : ∃ s : Nat, slots = (s : Int) := ⟨slots.toNat, by have := inB_true.1 h3; omega⟩
    subst hs
    have hs20 : s ≤ 20 := by have := (inB_true.1 h3).2; omega
    have HFR1 : Hid (fogsK T K key s = fogsR T K (rowsK key nK s)) := Lib.hid (by unfold fogsK; rw [if_pos ⟨h1, h2, h3⟩, HXK.out]; rfl)
    have HNB := Lib.hid h1
    have hk40 : nK ≤ 40 := by have := netB_len h1; rw [HXK.out] at this; exact this
    rw [h1] at CN
    clear h1
    obtain ⟨lo, hlo⟩ : ∃ lo, lo = w.heap.size := ⟨_, rfl⟩
    have HLOE := Lib.hid hlo
    clear hlo
    go_enter Try.func46, Try.ntmps46
    go_wp2_with (first | (go_at_call 94; refine (CN.out).mono ?_; rintro e w1 ⟨rfl, hb⟩; obtain ⟨b0', b1'⟩ := HC.out _ hb; have HB1 := Lib.hid hb; clear hb) | (go_at_call 74; refine (weKey_any _ _).mono ?_; rintro e w' ⟨rfl, rfl⟩) | (go_at_call 75; refine (l1In_any _ _ _ _).mono ?_; rintro e w' ⟨rfl, rfl⟩) | fail)
    have HBL0 : Hid (Below lo w w1) := Lib.hid (by rw [HLOE.out]; exact HZ.out _ HB1.out)
    clear b0' b1'
    go_loopw [8, 26] (fun v i wr => ∃ k : Nat, ∃ A c hs, k ≤ nK ∧ i = .int .i64 k ∧ v = .slice A k c ∧ Own2 wr lo wr.heap.size 28 4 1 A k c (rowsBoolss (rowsK key k s)) hs ∧ Below lo w wr) (fun _ i _ => nK - (intOf i).toNat)
    case atStart => exact ⟨0, none, 0, [], Nat.zero_le _, rfl, rfl, own2_nil _ _, HBL0.out⟩
    case round =>
      obtain ⟨k, A, c, hs, hk, rfl, rfl, hown, hb⟩ := hrel
      have HO := Lib.hid hown; have HB := Lib.hid hb
      clear hown hb
      have HLO : Hid (lo ≤ wr.heap.size) := Lib.hid (by have := HB.out.size; have := HLOE.out; omega)
      by_cases hlt : k < nK
      · have c1 := fun W => weSlots_any key (k : Int) s W HKEY.out ⟨by omega, by omega⟩ (by omega)
        have C1 := Lib.hid c1
        have HS := Lib.hid (rowsK_succ key k s)
        have HLL : Hid ((bools (slotsL key (k : Int) s)).length = s) := Lib.hid (by simp)
        clear c1
        go_wp2_with (first | (go_at_call 87; refine (C1.out _).mono ?_; rintro e w2 ⟨Ai, ci, rfl, hown, hb⟩; have HO1 := Lib.hid hown; have HB2 := Lib.hid hb; have hz2 := HB2.out.size; clear hown hb) | (at_builtin; refine wpList_pushL _ rfl (.tmp 29) (.tmp 34) 75 rfl lo 28 (.slice none 0 0) 1 24 infoBools rfl (by omega) Try.underlying75 A k c hs rfl (own_below HO.out.row (HB2.out.alloc hz2 _)) (some ⟨w2.heap.size, 0, none⟩) 1 1 [.slice Ai s ci] rfl (reads_litk w2 [.slice Ai s ci] _ rfl) (by simp [Value.oneCell']) (by omega) (by omega) (by have := HLO.out; simp; omega) ?_; intro A5 c5 w5 hown5 hg5 hb5 hl5))
        have hn := HO.out.push_made HLL.out.symm HLO.out HB2.out HO1.out hg5 hown5 hl5
        have HN := Lib.hid hn
        have HB5 : Hid (Below lo w w5) := Lib.hid (HB.out.trans (((HB2.out.mono HLO.out).alloc (by have := HLO.out; omega) _).trans hb5))
        clear hn hown5 hg5 hb5 hl5
        go_roundw
        case rel => exact ⟨k + 1, A5, c5, _, by omega, by go_num, rfl, by rw [HS.out, rowsBoolss_append]; exact HN.out, HB5.out⟩
        case measure => simp [intOf]; omega
      · obtain rfl : k = nK := by omega
        have HBW : Hid (Below w.heap.size w wr) := Lib.hid (by have h5 := HB.out; rw [HLOE.out] at h5; exact h5)
        have HRD := Lib.hid (Reads2.of_own HO.out)
        have CW := Lib.hid (fun W (hW : Below wr.heap.size wr W) => weFogs_any A k c (rowsK key k s) W (by omega) (fun l hl' => by have := rowsK_len key k s l hl'; omega) (HRD.out.below hW))
        have HFR2 : Hid (fogsR T K (rowsK key k s) = if (fogsF 0 (rowsK key k s) []).length ≤ 60 then (fogsF 0 (rowsK key k s) [], true) else ([], false)) := Lib.hid (by
          unfold fogsR
          by_cases h : (fogsF 0 (rowsK key k s) []).length ≤ 60
          · rw [if_pos ⟨HNB.out, by rw [length_rowsK]; exact HXK.out.symm, okRows_rowsK hs20, h⟩, if_pos h]
          · rw [if_neg (fun h' => h h'.2.2.2), if_neg h])
        have HFR : Hid (fogsK T K key s = if (fogsF 0 (rowsK key k s) []).length ≤ 60 then (fogsF 0 (rowsK key k s) [], true) else ([], false)) := Lib.hid (HFR1.out.trans HFR2.out)
        clear HFR1 HFR2 HRD
        generalize fogsF 0 (rowsK key k s) [] = F at *
        go_wp2_with fail
        refine (CW.out _ (Below.refl _ _)).mono ?_
        rintro e w2 ⟨A1, c1, rfl, ho, hb⟩
        have HB2 := Lib.hid hb
        clear ho hb
        by_cases h60 : F.length ≤ 60
        · go_wp2_with fail
          refine (CW.out _ HB2.out).mono ?_
          rintro e w3 ⟨A2, c2, rfl, ho, hb⟩
          have HO3 := Lib.hid ho; have HB3 := Lib.hid hb
          clear ho hb
          go_wp2
          go_ret2
          rw [HFR.out, if_pos h60]
          exact ⟨A2, c2, rfl, own_mono HO3.out (Nat.le_trans HBW.out.size HB2.out.size), (HBW.out.trans (HB2.out.mono HBW.out.size)).trans (HB3.out.mono (Nat.le_trans HBW.out.size HB2.out.size))⟩
        · go_wp2
          go_ret2
          rw [HFR.out, if_neg h60]
          exact ⟨none, 0, rfl, World.ownsRow_nil _ _ _ _, HBW.out.trans (HB2.out.mono HBW.out.size)⟩
  all_goals
    have hr : fogsK T K key slots = ([], false) := by simp [fogsK, h1, h2, h3]
    rw [hr]
    rw [h1] at CN
    clear hr h1
    go_enter Try.func46, Try.ntmps46
    go_wp2_with (first | (go_at_call 94; refine (CN.out).mono ?_; rintro e w1 ⟨rfl, hb⟩; obtain ⟨b0', b1'⟩ := HC.out _ hb; have HB1 := Lib.hid hb; clear hb) | (go_at_call 74; refine (weKey_any _ _).mono ?_; rintro e w' ⟨rfl, rfl⟩) | (go_at_call 75; refine (l1In_any _ _ _ _).mono ?_; rintro e w' ⟨rfl, rfl⟩) | fail)
    go_ret2
    exact ⟨none, 0, rfl, World.ownsRow_nil _ _ _ _, HZ.out _ HB1.out⟩

set_option maxHeartbeats 4000000 in
set_option maxRecDepth 100000 in
theorem implFogsByKey_any (At Ak : Option Addr) (nT cT nK cK : Nat) (T K : List S3) (key slots : Int) (w : World) (hT : nT ≤ 1000000000) (hK : nK ≤ 1000000000) (ht : Reads w 3 At nT (rows3 T)) (hk : Reads w 3 Ak nK (rows3 K)) :
    Calls Try.prog 48 #[.agg #[.slice At nT cT, .slice Ak nK cK], .int .i64 key, .int .i64 slots] w (Made2 w 110 3 (fogsK T K key slots).1.length (rows3 (fogsK T K key slots).1) (fogsK T K key slots).2) := by
  have HXK := Lib.hid (show K.length = nK by have := hk.1; rw [length_rows3] at this; omega)
  have CN := Lib.hid (isNet_any At Ak nT cT nK cK T K (w.alloc (.cells #[.slice At nT cT, .slice Ak nK cK] 68)) hT hK (ht.alloc _) (hk.alloc _))
  have HT := Lib.hid ht; have HKR := Lib.hid hk
  have HZ : Hid (∀ W, Below (w.alloc (.cells #[.slice At nT cT, .slice Ak nK cK] 68)).heap.size (w.alloc (.cells #[.slice At nT cT, .slice Ak nK cK] 68)) W → Below w.heap.size w W) := Lib.hid (fun W hW => ((Below.refl _ _).alloc (Nat.le_refl _) _).trans (hW.mono (by simp)))
  have HC : Hid (∀ W, Below (w.alloc (.cells #[.slice At nT cT, .slice Ak nK cK] 68)).heap.size (w.alloc (.cells #[.slice At nT cT, .slice Ak nK cK] 68)) W → W.cell? ⟨w.heap.size, 0, none⟩ = some (.slice At nT cT) ∧ W.cell? ⟨w.heap.size, 1, none⟩ = some (.slice Ak nK cK)) := Lib.hid (fun W hW => ⟨(hW.cell (by simp)).trans (by simp), (hW.cell (by simp)).trans (by simp)⟩)
  clear ht hk
  cases h1 : netB T K <;> cases h2 : inB key 0 1000000000 <;> cases h3 : inB slots 0 20
  case true.true.true =>
    have HKEY := Lib.hid (inB_true.1 h2)
    obtain ⟨s, hs⟩ : ∃ s : Nat, slots = (s : Int) := ⟨slots.toNat, by have := inB_true.1 h3; omega⟩
    subst hs
    have hs20 : s ≤ 20 := by have := (inB_true.1 h3).2; omega
    have HFR1 : Hid (fogsK T K key s = fogsR T K (rowsK key nK s)) := Lib.hid (by unfold fogsK; rw [if_pos ⟨h1, h2, h3⟩, HXK.out]; rfl)
    have HNB := Lib.hid h1
    have hk40 : nK ≤ 40 := by have := netB_len h1; rw [HXK.out] at this; exact this
    rw [h1] at CN
    clear h1
    go_enter Try.func48, Try.ntmps48
    go_wp2_with (first | (go_at_call 98; refine (CN.out).mono ?_; rintro e w1 ⟨rfl, hb⟩; obtain ⟨b0', b1'⟩ := HC.out _ hb; have HB1 := Lib.hid hb; clear hb) | (go_at_call 72; refine (within_any _ _ _ _).mono ?_; rintro e w' ⟨rfl, rfl⟩) | (at_make; refine wpList_mk _ rfl (.tmp 25) (.tmp 25) 75 rfl w1.heap.size 28 (.slice none 0 0) _ infoBools rfl Try.underlying75 _ _ _ _ nK rfl rfl rfl rfl (by omega) (by omega) (Nat.le_refl _) ?_; intro w2 hown2 hb2 hz2))
    clear b0' b1'
    obtain ⟨L', hL'⟩ : ∃ L', L' = rowsBoolss (rowsK key nK s) := ⟨_, rfl⟩
    have HLL : Hid (L'.length = nK) := Lib.hid (by rw [hL']; simp)
    have HLG : Hid (∀ k, k < nK → L'[k]? = some (.inr (bools (slotsL key (k : Int) s)))) := Lib.hid (fun k hk => by rw [hL']; exact rowsK_get hk)
    have HLE := Lib.hid hL'
    clear hL'
    have hown3 : Own2 w2 w1.heap.size w2.heap.size 28 4 1 (some ⟨w1.heap.size, 0, none⟩) nK nK (L'.take 0 ++ List.replicate (nK - 0) (.inr [])) (List.replicate nK (.slice none 0 0)) := by simpa using own2_made (ei := 4) hown2 hz2
    have HS0 := Lib.hid (And.intro hown3 (And.intro hb2 hz2))
    clear hown2 hown3 hb2 hz2
    generalize hg : w1.heap.size = g at *
    have HGE := Lib.hid hg
    clear hg
    go_loopw [29] (fun i wr => ∃ k hs, k ≤ nK ∧ i = .int .i64 (k : Nat) ∧ Own2 wr g wr.heap.size 28 4 1 (some ⟨g, 0, none⟩) nK nK (L'.take k ++ List.replicate (nK - k) (.inr [])) hs ∧ Below g w1 wr ∧ g < wr.heap.size) (fun i _ => nK - (intOf i).toNat)
    case atStart => exact ⟨0, _, Nat.zero_le _, rfl, HS0.out.1, HS0.out.2.1, HS0.out.2.2⟩
    case round =>
      obtain ⟨k, hs, hk, rfl, hown, hb, hgz⟩ := hrel
      clear HS0
      have HO := Lib.hid hown; clear hown
      have HB := Lib.hid hb; clear hb
      by_cases hlt : k < nK
      · have c1 := fun W => drawnSlots_any key (k : Int) s W HKEY.out ⟨by omega, by omega⟩ (by omega)
        have C1 := Lib.hid c1
        clear c1
        have HG := Lib.hid (HLG.out k hlt)
        have HSL : Hid ((bools (slotsL key (k : Int) s)).length = s) := Lib.hid (by simp)
        have hst : ∀ W, Below wr.heap.size wr W → (∃ o0, W.cell? ⟨g, k, none⟩ = some o0) ∧ W.frozen? ⟨g, k, none⟩ = false := by
          intro W hW
          have ho := HO.out.below hW (Nat.le_refl _)
          obtain ⟨g', A0, c0, e0, _, h1, h2, _⟩ := ho.at_ (mid_get HLL.out hlt)
          injection e0 with e0
          injection e0 with e0
          subst e0
          exact ⟨⟨_, h1⟩, h2⟩
        have HST := Lib.hid hst; clear hst
        go_wp2_with (go_at_call 88; refine (C1.out _).mono ?_; rintro e w3 ⟨A1, c1, rfl, hown1, hb1⟩; obtain ⟨⟨o0, c0⟩, f0⟩ := HST.out w3 hb1; have HB1 := Lib.hid hb1; clear hb1; have HO1 := Lib.hid hown1; clear hown1)
        obtain ⟨hs', HN⟩ := own2_next HLL.out hlt (HO.out.below HB1.out (Nat.le_refl _)) HG.out s HSL.out.symm HO1.out (Nat.le_refl _) (by omega) HB1.out.size (own_lt HO1.out)
        have HN := Lib.hid HN
        go_roundw
        case rel => exact ⟨k + 1, hs', by omega, by go_num, by simpa using HN.out, (HB.out.trans (HB1.out.mono (by omega))).setCell (Nat.le_refl _) _, by have := HB1.out.size; simp; omega⟩
        case measure => simp [intOf]; omega
      · have hkn : k = nK := by omega
        subst hkn
        have ho := HO.out
        rw [mid_end HLL.out, HLE.out] at ho
        have HRD := Lib.hid (Reads2.of_own ho)
        have HBN : Hid (Below (w.alloc (.cells #[.slice At nT cT, .slice Ak k cK] 68)).heap.size (w.alloc (.cells #[.slice At nT cT, .slice Ak k cK] 68)) wr) := Lib.hid (HB1.out.trans (HB.out.mono (by rw [← HGE.out]; exact HB1.out.size)))
        have HBW : Hid (Below w.heap.size w wr) := Lib.hid (HZ.out _ HBN.out)
        obtain ⟨b0', b1'⟩ := HC.out _ HBN.out
        have CW := Lib.hid (implFogsBySlots_any At Ak (some ⟨g, 0, none⟩) nT cT k cK k k T K (rowsK key k s) wr (by omega) (by omega) (by omega) (fun l hl' => by have := rowsK_len key k s l hl'; omega) (HT.out.below HBW.out) (HKR.out.below HBW.out) HRD.out)
        clear ho
        go_wp2_with fail
        refine (CW.out).mono ?_
        rintro e w2 ⟨A1, c1, rfl, ho, hb⟩
        have HO3 := Lib.hid ho; have HB3 := Lib.hid hb
        clear ho hb
        go_wp2
        go_ret2
        rw [HFR1.out]
        exact ⟨A1, c1, rfl, own_mono HO3.out HBW.out.size, HBW.out.trans (HB3.out.mono HBW.out.size)⟩
  all_goals
    have hr : fogsK T K key slots = ([], false) := by simp [fogsK, h1, h2, h3]
    rw [hr]
    rw [h1] at CN
    clear hr h1
    go_enter Try.func48, Try.ntmps48
    go_wp2_with (first | (go_at_call 98; refine (CN.out).mono ?_; rintro e w1 ⟨rfl, hb⟩; obtain ⟨b0', b1'⟩ := HC.out _ hb; have HB1 := Lib.hid hb; clear hb) | (go_at_call 72; refine (within_any _ _ _ _).mono ?_; rintro e w' ⟨rfl, rfl⟩) | fail)
    go_ret2
    exact ⟨none, 0, rfl, World.ownsRow_nil _ _ _ _, HZ.out _ HB1.out⟩

end Go.Proofs.Ythpfgmnhpnfopaa
