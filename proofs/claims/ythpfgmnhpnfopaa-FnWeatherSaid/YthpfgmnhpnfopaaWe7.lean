/- Contracts of HitCounts of both packages, and the law over them. No conditions. -/
import Derived.Test.YthpfgmnhpnfopaaWe4
namespace Go.Proofs.Ythpfgmnhpnfopaa
set_option linter.unusedSimpArgs false
set_option linter.unusedVariables false
open Go.RowKit

def hitAt (least p : Int) (f : Bool) : Nat := (if p < least then 2 else 0) + (if f = true then 0 else 1)
theorem hitAt_lt (least p : Int) (f : Bool) : hitAt least p f < 4 := by unfold hitAt; split <;> split <;> omega
def bump (l : List Int) (i : Nat) : List Int := l.set i (l.getD i 0 + 1)
@[simp] theorem length_bump (l : List Int) (i : Nat) : (bump l i).length = l.length := by simp [bump]
def hits (least : Int) : List Int → List Int → List Bool → List Int
  | acc, p :: ps, f :: fs => hits least (bump acc (hitAt least p f)) ps fs
  | acc, _, _ => acc
@[simp] theorem length_hits (least : Int) (acc ps : List Int) (fs : List Bool) : (hits least acc ps fs).length = acc.length := by
  induction ps generalizing acc fs with
  | nil => simp [hits]
  | cons p ps ih => cases fs with
    | nil => simp [hits]
    | cons f fs => simp [hits, ih]
def hitCountsR (xs : List Int) (fs : List Bool) (least : Int) : List Int × Bool := if goodF xs fs = true ∧ inB least 0 100 = true then (hits least [0, 0, 0, 0] xs fs, true) else ([], false)
theorem hitCountsR_bd (xs : List Int) (fs : List Bool) (least : Int) : (hitCountsR xs fs least).1.length ≤ 4 := by
  unfold hitCountsR
  split <;> simp
theorem bump_bd {l : List Int} {i : Nat} {k : Int} (hk : 0 ≤ k) (h : ∀ x ∈ l, 0 ≤ x ∧ x ≤ k) : ∀ x ∈ bump l i, 0 ≤ x ∧ x ≤ k + 1 := by
  intro x hx
  rcases List.mem_or_eq_of_mem_set hx with hx | rfl
  · have := h x hx; omega
  · by_cases hi : i < l.length
    · have := h l[i] (List.getElem_mem hi)
      have e : l.getD i 0 = l[i] := by simp [hi]
      omega
    · have e : l.getD i 0 = 0 := by simp [List.getElem?_eq_none (Nat.le_of_not_lt hi)]
      omega

set_option maxHeartbeats 4000000 in
theorem specHitCounts_any (A : Option Addr) (n c : Nat) (xs : List Int) (B : Option Addr) (m c' : Nat) (fs : List Bool) (least : Int) (w : World) (hn : n ≤ 1000000000) (h : Reads w 1 A n (ints xs)) (hm : m ≤ 1000000000) (h' : Reads w 1 B m (bools fs)) :
    Calls Try.prog 35 #[.slice A n c, .slice B m c', .int .i64 least] w (Made2 w 3 1 (hitCountsR xs fs least).1.length (ints (hitCountsR xs fs least).1) (hitCountsR xs fs least).2) := by
  have c1 := weGood_any A B n m c c' xs fs w hn hm h h'
  cases hg : goodF xs fs with
  | false =>
    rw [hg] at c1
    have hr : hitCountsR xs fs least = ([], false) := by simp [hitCountsR, hg]
    rw [hr]
    have C1 := Lib.hid c1
    clear c1 hr h h' hg
    go_enter Try.func35, Try.ntmps35
    go_wp2_with (go_at_call 85; refine (C1.out).mono ?_; rintro e w' ⟨rfl, rfl⟩)
    go_ret2
    exact ⟨none, 0, rfl, own_start, Below.refl _ _⟩
  | true =>
    rw [hg] at c1
    have C1 := Lib.hid c1
    clear c1
    cases hin : inB least 0 100 with
    | false =>
      have hr : hitCountsR xs fs least = ([], false) := by simp [hitCountsR, hin]
      rw [hr]
      clear hr h h' hg
      go_enter Try.func35, Try.ntmps35
      go_wp2_with (first | (go_at_call 85; refine (C1.out).mono ?_; rintro e w' ⟨rfl, rfl⟩) | (go_at_call 75; refine (l1In_any _ _ _ _).mono ?_; rintro e w' ⟨rfl, rfl⟩))
      go_ret2
      exact ⟨none, 0, rfl, own_start, Below.refl _ _⟩
    | true =>
      have hr : hitCountsR xs fs least = (hits least [0, 0, 0, 0] xs fs, true) := by simp [hitCountsR, hg, hin]
      rw [hr]
      obtain ⟨h1, h2, h3⟩ := goodF_true.1 hg
      have hlx : xs.length = n := by simpa using h.1
      have hlf : fs.length = m := by simpa using h'.1
      obtain rfl : m = n := by omega
      have hl4 : (hits least [0, 0, 0, 0] xs fs).length = 4 := by simp
      rw [hl4]
      have hm20 : m ≤ 20 := by omega
      have HX := Lib.hid hlx
      have HF := Lib.hid hlf
      clear hr hg h1 h2 h3 hlx hlf hl4
      have H := Lib.hid h
      have H' := Lib.hid h'
      clear h h'
      have hlit : (4 : Int) = ((4 : Nat) : Int) := rfl
      go_enter Try.func35, Try.ntmps35
      go_wp2_with (first | (go_at_call 85; refine (C1.out).mono ?_; rintro e w' ⟨rfl, rfl⟩) | (go_at_call 75; refine (l1In_any _ _ _ _).mono ?_; rintro e w' ⟨rfl, rfl⟩) | (at_make; refine wpList_mk _ rfl (.const (.int .i64 4)) (.const (.int .i64 4)) 33 rfl w.heap.size 3 (.int .i64 0) _ infoInt rfl Try.underlying33 _ _ _ _ 4 rfl rfl rfl rfl (by omega) (by omega) (by first | exact Nat.le_refl _ | omega | (simp; omega)) ?_; intro w1 hown1 hb1 hz1))
      have hown1' : w1.ownsRow w.heap.size 3 1 (.slice (some ⟨w.heap.size, 0, none⟩) 4 4) 4 (ints [0, 0, 0, 0]) := by simpa [ints, List.replicate] using hown1
      have HO1 := Lib.hid (And.intro hown1' hb1)
      clear hown1 hown1' hb1 hz1 hlit
      generalize hg : w.heap.size = g at *
      go_loopw [24] (fun i wr => ∃ k : Nat, ∃ acc : List Int, k ≤ m ∧ i = .int .i64 k ∧ acc.length = 4 ∧ (∀ x ∈ acc, 0 ≤ x ∧ x ≤ (k : Int)) ∧ hits least acc (xs.drop k) (fs.drop k) = hits least [0, 0, 0, 0] xs fs ∧ wr.ownsRow g 3 1 (.slice (some ⟨g, 0, none⟩) 4 4) 4 (ints acc) ∧ Below g w wr) (fun i _ => m - (intOf i).toNat)
      case atStart => exact ⟨0, [0, 0, 0, 0], Nat.zero_le _, rfl, rfl, by simp, by simp, HO1.out.1, HO1.out.2⟩
      case round =>
        obtain ⟨k, acc, hk, rfl, hl4, hbd, hrel, hown, hb⟩ := hrel
        have HL4 := Lib.hid hl4
        have HBD := Lib.hid hbd
        have HR := Lib.hid hrel
        have HO := Lib.hid hown
        have HB := Lib.hid hb
        clear HO1 hl4 hbd hrel hown hb
        by_cases hlt : k < m
        · obtain ⟨ad, rfl, hc⟩ := (H.out.keep (w' := wr) (fun p hp => HB.out.cell (by omega))).2 (by omega)
          obtain ⟨ad', rfl, hc'⟩ := (H'.out.keep (w' := wr) (fun p hp => HB.out.cell (by omega))).2 (by omega)
          have hxk : k < xs.length := by rw [HX.out]; exact hlt
          have hfk : k < fs.length := by rw [HF.out]; exact hlt
          have hcell : wr.cell? (ad.add k) = some (.int .i64 xs[k]) := hc k _ (by simp [ints, hxk])
          have hcell' : wr.cell? (ad'.add k) = some (.bool fs[k]) := hc' k (.bool fs[k]) (by simp [bools, hfk])
          have HT : Hid (hits least acc (xs.drop k) (fs.drop k) = hits least (bump acc (hitAt least xs[k] fs[k])) (xs.drop (k + 1)) (fs.drop (k + 1))) := by rw [drop_cons hxk, drop_cons hfk]; exact Lib.hid rfl
          clear hc hc'
          generalize xs[k] = x at hcell HT
          generalize fs[k] = f at hcell' HT
          have hfin : ∀ i, i < 4 → hitAt least x f = i → ∃ q : Int, 0 ≤ q ∧ q ≤ (k : Int) ∧ wr.cell? ⟨g, i, none⟩ = some (.int .i64 q) ∧ wr.frozen? ⟨g, i, none⟩ = false ∧
              (wr.setCell ⟨g, i, none⟩ (.int .i64 (q + 1))).ownsRow g 3 1 (.slice (some ⟨g, 0, none⟩) 4 4) 4 (ints (bump acc i)) := by
            intro i hi _
            have hia : i < acc.length := by rw [HL4.out]; exact hi
            refine ⟨acc[i], (HBD.out _ (List.getElem_mem hia)).1, (HBD.out _ (List.getElem_mem hia)).2, ?_, HO.out.frozenAt i, ?_⟩
            · rw [HO.out.cellAt i (by omega)]
              simp [ints, hia]
            · have := (HO.out.stored i (.int .i64 (acc[i] + 1))).1
              have e : (ints acc).set i (.int .i64 (acc[i] + 1)) = ints (bump acc i) := by simp [ints, bump, List.map_set, hia]
              rw [e] at this
              exact this
          have HFI := Lib.hid hfin
          have hend : ∀ i, hitAt least x f = i → ∀ q : Int, (wr.setCell ⟨g, i, none⟩ (.int .i64 (q + 1))).ownsRow g 3 1 (.slice (some ⟨g, 0, none⟩) 4 4) 4 (ints (bump acc i)) →
              (∃ k_1 : Nat, ∃ acc : List Int, k_1 ≤ m ∧ Value.int .i64 ((k : Int) + 1) = Value.int .i64 (k_1 : Int) ∧ acc.length = 4 ∧ (∀ x ∈ acc, 0 ≤ x ∧ x ≤ (k_1 : Int)) ∧ hits least acc (xs.drop k_1) (fs.drop k_1) = hits least [0, 0, 0, 0] xs fs ∧ (wr.setCell ⟨g, i, none⟩ (.int .i64 (q + 1))).ownsRow g 3 1 (.slice (some ⟨g, 0, none⟩) 4 4) 4 (ints acc) ∧ Below g w (wr.setCell ⟨g, i, none⟩ (.int .i64 (q + 1)))) := by
            intro i hi q ho
            refine ⟨k + 1, bump acc i, by omega, by go_num, by simp [HL4.out], ?_, ?_, ho, HB.out.setCell (p := ⟨g, i, none⟩) (Nat.le_refl _) _⟩
            · intro y hy
              have := bump_bd (by omega) HBD.out y hy
              omega
            · rw [← HR.out, HT.out, hi]
          have HE := Lib.hid hend
          clear hfin hend
          by_cases hp : x < least
          · cases f with
            | true =>
              have hat : hitAt least x true = 2 := by simp [hitAt, hp]
              obtain ⟨q, hq1, hq2, hcq, hfz, hset⟩ := HFI.out 2 (by omega) hat
              have HE2 := Lib.hid (HE.out 2 hat q hset)
              clear hset hat
              go_wp2
              go_roundw
              case rel => exact HE2.out
              case measure => simp [intOf]; omega
            | false =>
              have hat : hitAt least x false = 3 := by simp [hitAt, hp]
              obtain ⟨q, hq1, hq2, hcq, hfz, hset⟩ := HFI.out 3 (by omega) hat
              have HE2 := Lib.hid (HE.out 3 hat q hset)
              clear hset hat
              go_wp2
              go_roundw
              case rel => exact HE2.out
              case measure => simp [intOf]; omega
          · cases f with
            | true =>
              have hat : hitAt least x true = 0 := by simp [hitAt, hp]
              obtain ⟨q, hq1, hq2, hcq, hfz, hset⟩ := HFI.out 0 (by omega) hat
              have HE2 := Lib.hid (HE.out 0 hat q hset)
              clear hset hat
              go_wp2
              go_roundw
              case rel => exact HE2.out
              case measure => simp [intOf]; omega
            | false =>
              have hat : hitAt least x false = 1 := by simp [hitAt, hp]
              obtain ⟨q, hq1, hq2, hcq, hfz, hset⟩ := HFI.out 1 (by omega) hat
              have HE2 := Lib.hid (HE.out 1 hat q hset)
              clear hset hat
              go_wp2
              go_roundw
              case rel => exact HE2.out
              case measure => simp [intOf]; omega
        · obtain rfl : k = m := by omega
          have HE := Lib.hid (drop_end (xs := xs) (k := k) (by rw [HX.out]; omega))
          go_wp2
          go_ret2
          subst hg
          refine ⟨_, _, rfl, ?_, HB.out⟩
          rw [← HR.out, HE.out]
          exact HO.out

set_option maxHeartbeats 4000000 in
theorem implHitCounts_any (A : Option Addr) (n c : Nat) (xs : List Int) (B : Option Addr) (m c' : Nat) (fs : List Bool) (least : Int) (w : World) (hn : n ≤ 1000000000) (h : Reads w 1 A n (ints xs)) (hm : m ≤ 1000000000) (h' : Reads w 1 B m (bools fs)) :
    Calls Try.prog 36 #[.slice A n c, .slice B m c', .int .i64 least] w (Made2 w 3 1 (hitCountsR xs fs least).1.length (ints (hitCountsR xs fs least).1) (hitCountsR xs fs least).2) := by
  have c1 := isForecast_any A B n m c c' xs fs w hn hm h h'
  cases hg : goodF xs fs with
  | false =>
    rw [hg] at c1
    have hr : hitCountsR xs fs least = ([], false) := by simp [hitCountsR, hg]
    rw [hr]
    have C1 := Lib.hid c1
    clear c1 hr h h' hg
    go_enter Try.func36, Try.ntmps36
    go_wp2_with (go_at_call 86; refine (C1.out).mono ?_; rintro e w' ⟨rfl, rfl⟩)
    go_ret2
    exact ⟨none, 0, rfl, own_start, Below.refl _ _⟩
  | true =>
    rw [hg] at c1
    have C1 := Lib.hid c1
    clear c1
    cases hin : inB least 0 100 with
    | false =>
      have hr : hitCountsR xs fs least = ([], false) := by simp [hitCountsR, hin]
      rw [hr]
      clear hr h h' hg
      go_enter Try.func36, Try.ntmps36
      go_wp2_with (first | (go_at_call 86; refine (C1.out).mono ?_; rintro e w' ⟨rfl, rfl⟩) | (go_at_call 72; refine (within_any _ _ _ _).mono ?_; rintro e w' ⟨rfl, rfl⟩))
      go_ret2
      exact ⟨none, 0, rfl, own_start, Below.refl _ _⟩
    | true =>
      have hr : hitCountsR xs fs least = (hits least [0, 0, 0, 0] xs fs, true) := by simp [hitCountsR, hg, hin]
      rw [hr]
      obtain ⟨h1, h2, h3⟩ := goodF_true.1 hg
      have hlx : xs.length = n := by simpa using h.1
      have hlf : fs.length = m := by simpa using h'.1
      obtain rfl : m = n := by omega
      have hl4 : (hits least [0, 0, 0, 0] xs fs).length = 4 := by simp
      rw [hl4]
      have hm20 : m ≤ 20 := by omega
      have HX := Lib.hid hlx
      have HF := Lib.hid hlf
      clear hr hg h1 h2 h3 hlx hlf hl4
      have H := Lib.hid h
      have H' := Lib.hid h'
      clear h h'
      have hlit : (4 : Int) = ((4 : Nat) : Int) := rfl
      go_enter Try.func36, Try.ntmps36
      go_wp2_with (first | (go_at_call 86; refine (C1.out).mono ?_; rintro e w' ⟨rfl, rfl⟩) | (go_at_call 72; refine (within_any _ _ _ _).mono ?_; rintro e w' ⟨rfl, rfl⟩) | (at_make; refine wpList_mk _ rfl (.const (.int .i64 4)) (.const (.int .i64 4)) 33 rfl w.heap.size 3 (.int .i64 0) _ infoInt rfl Try.underlying33 _ _ _ _ 4 rfl rfl rfl rfl (by omega) (by omega) (by first | exact Nat.le_refl _ | omega | (simp; omega)) ?_; intro w1 hown1 hb1 hz1))
      have hown1' : w1.ownsRow w.heap.size 3 1 (.slice (some ⟨w.heap.size, 0, none⟩) 4 4) 4 (ints [0, 0, 0, 0]) := by simpa [ints, List.replicate] using hown1
      have HO1 := Lib.hid (And.intro hown1' hb1)
      clear hown1 hown1' hb1 hz1 hlit
      generalize hg : w.heap.size = g at *
      go_loopw [24] (fun i wr => ∃ k : Nat, ∃ acc : List Int, k ≤ m ∧ i = .int .i64 k ∧ acc.length = 4 ∧ (∀ x ∈ acc, 0 ≤ x ∧ x ≤ (k : Int)) ∧ hits least acc (xs.drop k) (fs.drop k) = hits least [0, 0, 0, 0] xs fs ∧ wr.ownsRow g 3 1 (.slice (some ⟨g, 0, none⟩) 4 4) 4 (ints acc) ∧ Below g w wr) (fun i _ => m - (intOf i).toNat)
      case atStart => exact ⟨0, [0, 0, 0, 0], Nat.zero_le _, rfl, rfl, by simp, by simp, HO1.out.1, HO1.out.2⟩
      case round =>
        obtain ⟨k, acc, hk, rfl, hl4, hbd, hrel, hown, hb⟩ := hrel
        have HL4 := Lib.hid hl4
        have HBD := Lib.hid hbd
        have HR := Lib.hid hrel
        have HO := Lib.hid hown
        have HB := Lib.hid hb
        clear HO1 hl4 hbd hrel hown hb
        by_cases hlt : k < m
        · obtain ⟨ad, rfl, hc⟩ := (H.out.keep (w' := wr) (fun p hp => HB.out.cell (by omega))).2 (by omega)
          obtain ⟨ad', rfl, hc'⟩ := (H'.out.keep (w' := wr) (fun p hp => HB.out.cell (by omega))).2 (by omega)
          have hxk : k < xs.length := by rw [HX.out]; exact hlt
          have hfk : k < fs.length := by rw [HF.out]; exact hlt
          have hcell : wr.cell? (ad.add k) = some (.int .i64 xs[k]) := hc k _ (by simp [ints, hxk])
          have hcell' : wr.cell? (ad'.add k) = some (.bool fs[k]) := hc' k (.bool fs[k]) (by simp [bools, hfk])
          have HT : Hid (hits least acc (xs.drop k) (fs.drop k) = hits least (bump acc (hitAt least xs[k] fs[k])) (xs.drop (k + 1)) (fs.drop (k + 1))) := by rw [drop_cons hxk, drop_cons hfk]; exact Lib.hid rfl
          clear hc hc'
          generalize xs[k] = x at hcell HT
          generalize fs[k] = f at hcell' HT
          have hfin : ∀ i, i < 4 → hitAt least x f = i → ∃ q : Int, 0 ≤ q ∧ q ≤ (k : Int) ∧ wr.cell? ⟨g, i, none⟩ = some (.int .i64 q) ∧ wr.frozen? ⟨g, i, none⟩ = false ∧
              (wr.setCell ⟨g, i, none⟩ (.int .i64 (q + 1))).ownsRow g 3 1 (.slice (some ⟨g, 0, none⟩) 4 4) 4 (ints (bump acc i)) := by
            intro i hi _
            have hia : i < acc.length := by rw [HL4.out]; exact hi
            refine ⟨acc[i], (HBD.out _ (List.getElem_mem hia)).1, (HBD.out _ (List.getElem_mem hia)).2, ?_, HO.out.frozenAt i, ?_⟩
            · rw [HO.out.cellAt i (by omega)]
              simp [ints, hia]
            · have := (HO.out.stored i (.int .i64 (acc[i] + 1))).1
              have e : (ints acc).set i (.int .i64 (acc[i] + 1)) = ints (bump acc i) := by simp [ints, bump, List.map_set, hia]
              rw [e] at this
              exact this
          have HFI := Lib.hid hfin
          have hend : ∀ i, hitAt least x f = i → ∀ q : Int, (wr.setCell ⟨g, i, none⟩ (.int .i64 (q + 1))).ownsRow g 3 1 (.slice (some ⟨g, 0, none⟩) 4 4) 4 (ints (bump acc i)) →
              (∃ k_1 : Nat, ∃ acc : List Int, k_1 ≤ m ∧ Value.int .i64 ((k : Int) + 1) = Value.int .i64 (k_1 : Int) ∧ acc.length = 4 ∧ (∀ x ∈ acc, 0 ≤ x ∧ x ≤ (k_1 : Int)) ∧ hits least acc (xs.drop k_1) (fs.drop k_1) = hits least [0, 0, 0, 0] xs fs ∧ (wr.setCell ⟨g, i, none⟩ (.int .i64 (q + 1))).ownsRow g 3 1 (.slice (some ⟨g, 0, none⟩) 4 4) 4 (ints acc) ∧ Below g w (wr.setCell ⟨g, i, none⟩ (.int .i64 (q + 1)))) := by
            intro i hi q ho
            refine ⟨k + 1, bump acc i, by omega, by go_num, by simp [HL4.out], ?_, ?_, ho, HB.out.setCell (p := ⟨g, i, none⟩) (Nat.le_refl _) _⟩
            · intro y hy
              have := bump_bd (by omega) HBD.out y hy
              omega
            · rw [← HR.out, HT.out, hi]
          have HE := Lib.hid hend
          clear hfin hend
          by_cases hp : x < least
          · cases f with
            | true =>
              have hat : hitAt least x true = 2 := by simp [hitAt, hp]
              obtain ⟨q, hq1, hq2, hcq, hfz, hset⟩ := HFI.out 2 (by omega) hat
              have HE2 := Lib.hid (HE.out 2 hat q hset)
              clear hset hat
              go_wp2
              go_roundw
              case rel => exact HE2.out
              case measure => simp [intOf]; omega
            | false =>
              have hat : hitAt least x false = 3 := by simp [hitAt, hp]
              obtain ⟨q, hq1, hq2, hcq, hfz, hset⟩ := HFI.out 3 (by omega) hat
              have HE2 := Lib.hid (HE.out 3 hat q hset)
              clear hset hat
              go_wp2
              go_roundw
              case rel => exact HE2.out
              case measure => simp [intOf]; omega
          · cases f with
            | true =>
              have hat : hitAt least x true = 0 := by simp [hitAt, hp]
              obtain ⟨q, hq1, hq2, hcq, hfz, hset⟩ := HFI.out 0 (by omega) hat
              have HE2 := Lib.hid (HE.out 0 hat q hset)
              clear hset hat
              go_wp2
              go_roundw
              case rel => exact HE2.out
              case measure => simp [intOf]; omega
            | false =>
              have hat : hitAt least x false = 1 := by simp [hitAt, hp]
              obtain ⟨q, hq1, hq2, hcq, hfz, hset⟩ := HFI.out 1 (by omega) hat
              have HE2 := Lib.hid (HE.out 1 hat q hset)
              clear hset hat
              go_wp2
              go_roundw
              case rel => exact HE2.out
              case measure => simp [intOf]; omega
        · obtain rfl : k = m := by omega
          have HE := Lib.hid (drop_end (xs := xs) (k := k) (by rw [HX.out]; omega))
          go_wp2
          go_ret2
          subst hg
          refine ⟨_, _, rfl, ?_, HB.out⟩
          rw [← HR.out, HE.out]
          exact HO.out
set_option maxHeartbeats 2000000 in
set_option maxRecDepth 100000 in
theorem law_FnExactHitCounts (w : World) {v0 v1 v2 : Value} (h0 : IsInts w v0) (h1 : IsBools w v1) (h2 : IsInt v2) :
    Calls Try.prog 10 #[v0, v1, v2] w fun e w' => e = .returned (.bool true) ∧ Below w.heap.size w w' := by
  obtain ⟨A0, n0, c0, xs0, rfl, _, _, hr0, _⟩ := h0
  obtain ⟨A1, n1, c1, xs1, rfl, _, _, hr1⟩ := h1
  obtain ⟨a2, rfl, _⟩ := h2
  have HR0 := Lib.hid hr0; clear hr0
  have HR1 := Lib.hid hr1; clear hr1
  by_cases hn0 : n0 ≤ 1048576
  rotate_left
  · go_enter Try.func10, Try.ntmps10
    go_wp2
    go_ret
    exact ⟨rfl, Below.refl _ _⟩
  by_cases hn1 : n1 ≤ 1048576
  rotate_left
  · go_enter Try.func10, Try.ntmps10
    go_wp2
    go_ret
    exact ⟨rfl, Below.refl _ _⟩
  go_enter Try.func10, Try.ntmps10
  have BB0 : Hid (Below w.heap.size w w) := Lib.hid (Below.refl _ _)
  go_wp2_with fail
  refine (toIntS_any A0 n0 c0 xs0 w (by omega) (HR0.out.below BB0.out)).mono ?_
  rintro e w1 ⟨As0, cs0, rfl, hown, hb⟩
  have Os0_1 := Lib.hid hown; clear hown
  have Ls0 := Lib.hid (own_lt Os0_1.out)
  have B0 := Lib.hid hb; clear hb
  have Z0 := Lib.hid (B0.out.size)
  have BB1 := Lib.hid (below_then BB0.out B0.out)
  go_wp2_with fail
  refine (toBoolS_any A1 n1 c1 xs1 w1 (by omega) (HR1.out.below BB1.out)).mono ?_
  rintro e w2 ⟨As1, cs1, rfl, hown, hb⟩
  have Os1_2 := Lib.hid hown; clear hown
  have Ls1 := Lib.hid (own_lt Os1_2.out)
  have B1 := Lib.hid hb; clear hb
  have Z1 := Lib.hid (B1.out.size)
  have BB2 := Lib.hid (BB1.out.trans (B1.out.mono BB1.out.size))
  have Os0_2 := Lib.hid (own_below Os0_1.out B1.out)
  go_wp2_with fail
  refine (specHitCounts_any As0 n0 cs0 xs0 As1 n1 cs1 xs1 a2 w2 (by omega) (Reads.of_own Os0_2.out) (by omega) (Reads.of_own Os1_2.out)).mono ?_
  rintro e w3 ⟨Aw, cw, rfl, hown, hb⟩
  have Ow_3 := Lib.hid hown; clear hown
  have Lw := Lib.hid (own_lt Ow_3.out)
  have B2 := Lib.hid hb; clear hb
  have Z2 := Lib.hid (B2.out.size)
  have BB3 := Lib.hid (BB2.out.trans (B2.out.mono BB2.out.size))
  have Os0_3 := Lib.hid (own_below Os0_2.out B2.out)
  have Os1_3 := Lib.hid (own_below Os1_2.out B2.out)
  go_wp2_with fail
  refine (toIntS_any A0 n0 c0 xs0 w3 (by omega) (HR0.out.below BB3.out)).mono ?_
  rintro e w4 ⟨Ax0, cx0, rfl, hown, hb⟩
  have Ox0_4 := Lib.hid hown; clear hown
  have Lx0 := Lib.hid (own_lt Ox0_4.out)
  have B3 := Lib.hid hb; clear hb
  have Z3 := Lib.hid (B3.out.size)
  have BB4 := Lib.hid (BB3.out.trans (B3.out.mono BB3.out.size))
  have Ow_4 := Lib.hid (own_below Ow_3.out B3.out)
  go_wp2_with fail
  refine (toBoolS_any A1 n1 c1 xs1 w4 (by omega) (HR1.out.below BB4.out)).mono ?_
  rintro e w5 ⟨Ax1, cx1, rfl, hown, hb⟩
  have Ox1_5 := Lib.hid hown; clear hown
  have Lx1 := Lib.hid (own_lt Ox1_5.out)
  have B4 := Lib.hid hb; clear hb
  have Z4 := Lib.hid (B4.out.size)
  have BB5 := Lib.hid (BB4.out.trans (B4.out.mono BB4.out.size))
  have Ow_5 := Lib.hid (own_below Ow_4.out B4.out)
  have Ox0_5 := Lib.hid (own_below Ox0_4.out B4.out)
  go_wp2_with fail
  refine (implHitCounts_any Ax0 n0 cx0 xs0 Ax1 n1 cx1 xs1 a2 w5 (by omega) (Reads.of_own Ox0_5.out) (by omega) (Reads.of_own Ox1_5.out)).mono ?_
  rintro e w6 ⟨Ag, cg, rfl, hown, hb⟩
  have Og_6 := Lib.hid hown; clear hown
  have Lg := Lib.hid (own_lt Og_6.out)
  have B5 := Lib.hid hb; clear hb
  have Z5 := Lib.hid (B5.out.size)
  have BB6 := Lib.hid (BB5.out.trans (B5.out.mono BB5.out.size))
  have Ow_6 := Lib.hid (own_below Ow_5.out B5.out)
  have Ox0_6 := Lib.hid (own_below Ox0_5.out B5.out)
  have Ox1_6 := Lib.hid (own_below Ox1_5.out B5.out)
  go_wp2_with fail
  refine (eqIntS_any Ag Aw ((hitCountsR xs0 xs1 a2).1).length cg cw (hitCountsR xs0 xs1 a2).1 w6 (by (have := hitCountsR_bd xs0 xs1 a2; omega)) (Reads.of_own Og_6.out) (Reads.of_own Ow_6.out)).mono ?_
  rintro e w7 ⟨rfl, hb⟩
  replace hb := below_of_quiet (B := w6.heap.size) hb
  have B6 := Lib.hid hb; clear hb
  have Z6 := Lib.hid (B6.out.size)
  have BB7 := Lib.hid (BB6.out.trans (B6.out.mono BB6.out.size))
  have Ow_7 := Lib.hid (own_below Ow_6.out B6.out)
  have Ox0_7 := Lib.hid (own_below Ox0_6.out B6.out)
  have Ox1_7 := Lib.hid (own_below Ox1_6.out B6.out)
  have Og_7 := Lib.hid (own_below Og_6.out B6.out)
  go_wp2_with fail
  refine (toIntS_any A0 n0 c0 xs0 w7 (by omega) (HR0.out.below BB7.out)).mono ?_
  rintro e w8 ⟨At0, ct0, rfl, hown, hb⟩
  have Ot0_8 := Lib.hid hown; clear hown
  have Lt0 := Lib.hid (own_lt Ot0_8.out)
  have B7 := Lib.hid hb; clear hb
  have Z7 := Lib.hid (B7.out.size)
  have BB8 := Lib.hid (BB7.out.trans (B7.out.mono BB7.out.size))
  have Ow_8 := Lib.hid (own_below Ow_7.out B7.out)
  have Ox0_8 := Lib.hid (own_below Ox0_7.out B7.out)
  have Ox1_8 := Lib.hid (own_below Ox1_7.out B7.out)
  have Og_8 := Lib.hid (own_below Og_7.out B7.out)
  go_wp2_with fail
  refine (eqIntS_any Ax0 At0 n0 cx0 ct0 xs0 w8 (by omega) (Reads.of_own Ox0_8.out) (Reads.of_own Ot0_8.out)).mono ?_
  rintro e w9 ⟨rfl, hb⟩
  replace hb := below_of_quiet (B := w8.heap.size) hb
  have B8 := Lib.hid hb; clear hb
  have Z8 := Lib.hid (B8.out.size)
  have BB9 := Lib.hid (BB8.out.trans (B8.out.mono BB8.out.size))
  have Ow_9 := Lib.hid (own_below Ow_8.out B8.out)
  have Ox0_9 := Lib.hid (own_below Ox0_8.out B8.out)
  have Ox1_9 := Lib.hid (own_below Ox1_8.out B8.out)
  have Og_9 := Lib.hid (own_below Og_8.out B8.out)
  have Ot0_9 := Lib.hid (own_below Ot0_8.out B8.out)
  go_wp2_with fail
  refine (toBoolS_any A1 n1 c1 xs1 w9 (by omega) (HR1.out.below BB9.out)).mono ?_
  rintro e w10 ⟨At1, ct1, rfl, hown, hb⟩
  have Ot1_10 := Lib.hid hown; clear hown
  have Lt1 := Lib.hid (own_lt Ot1_10.out)
  have B9 := Lib.hid hb; clear hb
  have Z9 := Lib.hid (B9.out.size)
  have BB10 := Lib.hid (BB9.out.trans (B9.out.mono BB9.out.size))
  have Ow_10 := Lib.hid (own_below Ow_9.out B9.out)
  have Ox0_10 := Lib.hid (own_below Ox0_9.out B9.out)
  have Ox1_10 := Lib.hid (own_below Ox1_9.out B9.out)
  have Og_10 := Lib.hid (own_below Og_9.out B9.out)
  go_wp2_with fail
  refine (eqBoolS_any Ax1 At1 n1 cx1 ct1 xs1 w10 (by omega) (Reads.of_own Ox1_10.out) (Reads.of_own Ot1_10.out)).mono ?_
  rintro e w11 ⟨rfl, hb⟩
  replace hb := below_of_quiet (B := w10.heap.size) hb
  have B10 := Lib.hid hb; clear hb
  have Z10 := Lib.hid (B10.out.size)
  have BB11 := Lib.hid (BB10.out.trans (B10.out.mono BB10.out.size))
  have Ow_11 := Lib.hid (own_below Ow_10.out B10.out)
  have Ox0_11 := Lib.hid (own_below Ox0_10.out B10.out)
  have Ox1_11 := Lib.hid (own_below Ox1_10.out B10.out)
  have Og_11 := Lib.hid (own_below Og_10.out B10.out)
  have Ot1_11 := Lib.hid (own_below Ot1_10.out B10.out)
  go_wp2_with fail
  refine (markIntS_any Ax0 n0 cx0 (1) _ _ w11 (by omega) Ox0_11.out).mono ?_
  rintro e w12 ⟨rfl, hown, hg⟩
  have G11 := Lib.hid hg; clear hg
  have Ox0_12 := Lib.hid hown; clear hown
  have Z11 := Lib.hid G11.out.size
  have BB12 := Lib.hid (below_mark BB11.out Ox0_11.out G11.out (by have := Z0.out; have := Z1.out; have := Z2.out; omega) BB11.out.size)
  have Ow_12 := Lib.hid (kept_earlier Ow_11.out Lw.out Ox0_11.out G11.out (by  omega))
  have Ox1_12 := Lib.hid (kept_later Ox1_11.out G11.out Lx0.out (by  omega))
  have Og_12 := Lib.hid (kept_later Og_11.out G11.out Lx0.out (by have := Z4.out; omega))
  go_wp2_with fail
  refine (markBoolS_any Ax1 n1 cx1 (1 + n0) _ _ w12 (by omega) Ox1_12.out).mono ?_
  rintro e w13 ⟨rfl, hown, hg⟩
  have G12 := Lib.hid hg; clear hg
  have Ox1_13 := Lib.hid hown; clear hown
  have Z12 := Lib.hid G12.out.size
  have BB13 := Lib.hid (below_mark BB12.out Ox1_12.out G12.out (by have := Z0.out; have := Z1.out; have := Z2.out; have := Z3.out; omega) BB12.out.size)
  have Ow_13 := Lib.hid (kept_earlier Ow_12.out Lw.out Ox1_12.out G12.out (by have := Z3.out; omega))
  have Ox0_13 := Lib.hid (kept_earlier Ox0_12.out Lx0.out Ox1_12.out G12.out (by  omega))
  have Og_13 := Lib.hid (kept_later Og_12.out G12.out Lx1.out (by  omega))
  go_wp2_with fail
  refine (eqIntS_any Ag Aw ((hitCountsR xs0 xs1 a2).1).length cg cw (hitCountsR xs0 xs1 a2).1 w13 (by (have := hitCountsR_bd xs0 xs1 a2; omega)) (Reads.of_own Og_13.out) (Reads.of_own Ow_13.out)).mono ?_
  rintro e w14 ⟨rfl, hb⟩
  replace hb := below_of_quiet (B := w13.heap.size) hb
  have B13 := Lib.hid hb; clear hb
  have Z13 := Lib.hid (B13.out.size)
  have BB14 := Lib.hid (BB13.out.trans (B13.out.mono BB13.out.size))
  have Ow_14 := Lib.hid (own_below Ow_13.out B13.out)
  have Ox0_14 := Lib.hid (own_below Ox0_13.out B13.out)
  have Ox1_14 := Lib.hid (own_below Ox1_13.out B13.out)
  have Og_14 := Lib.hid (own_below Og_13.out B13.out)
  go_wp2_with fail
  refine (markIntS_any Ag ((hitCountsR xs0 xs1 a2).1).length cg (1) _ _ w14 (by (have := hitCountsR_bd xs0 xs1 a2; omega)) Og_14.out).mono ?_
  rintro e w15 ⟨rfl, hown, hg⟩
  have G14 := Lib.hid hg; clear hg
  have Og_15 := Lib.hid hown; clear hown
  have Z14 := Lib.hid G14.out.size
  have BB15 := Lib.hid (below_mark BB14.out Og_14.out G14.out (by have := Z0.out; have := Z1.out; have := Z2.out; have := Z3.out; have := Z4.out; omega) BB14.out.size)
  have Ow_15 := Lib.hid (kept_earlier Ow_14.out Lw.out Og_14.out G14.out (by have := Z3.out; have := Z4.out; omega))
  go_wp2_with fail
  refine (heldIntS_any Ag ((hitCountsR xs0 xs1 a2).1).length cg (1) w15 (by (have := hitCountsR_bd xs0 xs1 a2; omega)) (Reads.of_own Og_15.out)).mono ?_
  rintro e w16 ⟨rfl, hb⟩
  subst hb
  go_wp2_with fail
  refine (toIntS_any A0 n0 c0 xs0 w15 (by omega) (HR0.out.below BB15.out)).mono ?_
  rintro e w16 ⟨Ay0, cy0, rfl, hown, hb⟩
  have Oy0_16 := Lib.hid hown; clear hown
  have Ly0 := Lib.hid (own_lt Oy0_16.out)
  have B15 := Lib.hid hb; clear hb
  have Z15 := Lib.hid (B15.out.size)
  have BB16 := Lib.hid (BB15.out.trans (B15.out.mono BB15.out.size))
  have Ow_16 := Lib.hid (own_below Ow_15.out B15.out)
  have Og_16 := Lib.hid (own_below Og_15.out B15.out)
  go_wp2_with fail
  refine (toBoolS_any A1 n1 c1 xs1 w16 (by omega) (HR1.out.below BB16.out)).mono ?_
  rintro e w17 ⟨Ay1, cy1, rfl, hown, hb⟩
  have Oy1_17 := Lib.hid hown; clear hown
  have Ly1 := Lib.hid (own_lt Oy1_17.out)
  have B16 := Lib.hid hb; clear hb
  have Z16 := Lib.hid (B16.out.size)
  have BB17 := Lib.hid (BB16.out.trans (B16.out.mono BB16.out.size))
  have Ow_17 := Lib.hid (own_below Ow_16.out B16.out)
  have Og_17 := Lib.hid (own_below Og_16.out B16.out)
  have Oy0_17 := Lib.hid (own_below Oy0_16.out B16.out)
  go_wp2_with fail
  refine (implHitCounts_any Ay0 n0 cy0 xs0 Ay1 n1 cy1 xs1 a2 w17 (by omega) (Reads.of_own Oy0_17.out) (by omega) (Reads.of_own Oy1_17.out)).mono ?_
  rintro e w18 ⟨Ah, ch, rfl, hown, hb⟩
  have Oh_18 := Lib.hid hown; clear hown
  have Lh := Lib.hid (own_lt Oh_18.out)
  have B17 := Lib.hid hb; clear hb
  have Z17 := Lib.hid (B17.out.size)
  have BB18 := Lib.hid (BB17.out.trans (B17.out.mono BB17.out.size))
  have Ow_18 := Lib.hid (own_below Ow_17.out B17.out)
  have Og_18 := Lib.hid (own_below Og_17.out B17.out)
  have Oy0_18 := Lib.hid (own_below Oy0_17.out B17.out)
  have Oy1_18 := Lib.hid (own_below Oy1_17.out B17.out)
  go_wp2_with fail
  refine (eqIntS_any Ah Aw ((hitCountsR xs0 xs1 a2).1).length ch cw (hitCountsR xs0 xs1 a2).1 w18 (by (have := hitCountsR_bd xs0 xs1 a2; omega)) (Reads.of_own Oh_18.out) (Reads.of_own Ow_18.out)).mono ?_
  rintro e w19 ⟨rfl, hb⟩
  replace hb := below_of_quiet (B := w18.heap.size) hb
  have B18 := Lib.hid hb; clear hb
  have Z18 := Lib.hid (B18.out.size)
  have BB19 := Lib.hid (BB18.out.trans (B18.out.mono BB18.out.size))
  have Ow_19 := Lib.hid (own_below Ow_18.out B18.out)
  have Og_19 := Lib.hid (own_below Og_18.out B18.out)
  have Oh_19 := Lib.hid (own_below Oh_18.out B18.out)
  go_wp2_with fail
  refine (heldIntS_any Ag ((hitCountsR xs0 xs1 a2).1).length cg (1) w19 (by (have := hitCountsR_bd xs0 xs1 a2; omega)) (Reads.of_own Og_19.out)).mono ?_
  rintro e w20 ⟨rfl, hb⟩
  subst hb
  go_wp2_with fail
  go_ret
  exact ⟨rfl, BB19.out⟩

end Go.Proofs.Ythpfgmnhpnfopaa
