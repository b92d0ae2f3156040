/- Contracts of FogDrawn and SlotsOf of both packages, and of what they call. No conditions. -/
import Derived.Test.YthpfgmnhpnfopaaWe
namespace Go.Proofs.Ythpfgmnhpnfopaa
set_option linter.unusedSimpArgs false
set_option linter.unusedVariables false
open Go.RowKit

def drawn (key link slot : Int) : Bool := decide (mix [key, link, slot] % 100 < chance slot)
def slotsL (key link : Int) (n : Nat) : List Bool := (List.range n).map fun (i : Nat) => drawn key link (i : Int)
theorem slotsL_succ (key link : Int) (n : Nat) : slotsL key link (n + 1) = slotsL key link n ++ [drawn key link (n : Int)] := by simp [slotsL, List.range_succ]
@[simp] theorem length_slotsL (key link : Int) (n : Nat) : (slotsL key link n).length = n := by simp [slotsL]
def fogDrawnR (key link slot : Int) : Bool × Bool := if inB key 0 1000000000 = true ∧ inB link 0 39 = true ∧ inB slot 0 19 = true then (drawn key link slot, true) else (false, false)
def slotsR (key link slots : Int) : List Bool × Bool := if inB key 0 1000000000 = true ∧ inB link 0 39 = true ∧ inB slots 0 20 = true then (slotsL key link slots.toNat, true) else ([], false)

theorem weKey_any (a : Int) (w : World) : Calls Try.prog 74 #[.int .i64 a] w fun e w' => e = .returned (.bool (inB a 0 1000000000)) ∧ w = w' := by
  go_enter Try.func74, Try.ntmps74
  go_wp2_with (go_at_call 75; refine (l1In_any _ _ _ _).mono ?_; rintro e w' ⟨rfl, rfl⟩)
  go_ret
  exact ⟨rfl, rfl⟩
theorem weSlot_any (a : Int) (w : World) : Calls Try.prog 70 #[.int .i64 a] w fun e w' => e = .returned (.bool (inB a 0 19)) ∧ w = w' := by
  go_enter Try.func70, Try.ntmps70
  go_wp2_with (go_at_call 75; refine (l1In_any _ _ _ _).mono ?_; rintro e w' ⟨rfl, rfl⟩)
  go_ret
  exact ⟨rfl, rfl⟩

theorem weDrawn_any (key link slot : Int) (w : World) (h1 : 0 ≤ key ∧ key ≤ 1000000000) (h2 : 0 ≤ link ∧ link ≤ 1000000000) (h3 : 0 ≤ slot ∧ slot ≤ 1000000000) :
    Calls Try.prog 76 #[.int .i64 key, .int .i64 link, .int .i64 slot] w fun e w' => e = .returned (.bool (drawn key link slot)) ∧ Below w.heap.size w w' := by
  have c1 := weMix_any (some ⟨w.heap.size, 0, none⟩) 3 3 [key, link, slot] _ (by omega) (reads_lit w (ints [key, link, slot]) 3) (by simp; omega)
  have hm := mix_bd [key, link, slot] (by simp)
  have hD : drawn key link slot = decide (mix [key, link, slot] % 100 < chance slot) := rfl
  have HD := Lib.hid hD
  clear hD
  generalize mix [key, link, slot] = m at c1 hm HD
  have C1 := Lib.hid c1; clear c1
  go_enter Try.func76, Try.ntmps76
  go_wp2_with (first | (go_at_call 81; refine (C1.out).mono ?_; rintro e w1 ⟨rfl, hb⟩) | (go_at_call 71; refine (weChance_any _ _ h3.1).mono ?_; rintro e w' ⟨rfl, rfl⟩))
  go_ret
  exact ⟨ret_bool HD.out.symm, ((Below.refl _ _).alloc (Nat.le_refl _) _).trans (hb.mono (by simp))⟩

theorem fogDrawn_any (key link slot : Int) (w : World) (h1 : 0 ≤ key ∧ key ≤ 1000000000) (h2 : 0 ≤ link ∧ link ≤ 1000000000) (h3 : 0 ≤ slot ∧ slot ≤ 1000000000) :
    Calls Try.prog 77 #[.int .i64 key, .int .i64 link, .int .i64 slot] w fun e w' => e = .returned (.bool (drawn key link slot)) ∧ Below w.heap.size w w' := by
  have c1 := fogMix_any (some ⟨w.heap.size, 0, none⟩) 3 3 [key, link, slot] _ (by omega) (reads_lit w (ints [key, link, slot]) 3) (by simp; omega)
  have hm := mix_bd [key, link, slot] (by simp)
  have hD : drawn key link slot = decide (mix [key, link, slot] % 100 < chance slot) := rfl
  have HD := Lib.hid hD
  clear hD
  generalize mix [key, link, slot] = m at c1 hm HD
  have C1 := Lib.hid c1; clear c1
  go_enter Try.func77, Try.ntmps77
  go_wp2_with (first | (go_at_call 83; refine (C1.out).mono ?_; rintro e w1 ⟨rfl, hb⟩) | (go_at_call 73; refine (fogChance_any _ _ h3.1).mono ?_; rintro e w' ⟨rfl, rfl⟩))
  go_ret
  exact ⟨ret_bool HD.out.symm, ((Below.refl _ _).alloc (Nat.le_refl _) _).trans (hb.mono (by simp))⟩

theorem specFogDrawn_any (key link slot : Int) (w : World) :
    Calls Try.prog 17 #[.int .i64 key, .int .i64 link, .int .i64 slot] w fun e w' => e = .returned (.tuple #[.bool (fogDrawnR key link slot).1, .bool (fogDrawnR key link slot).2]) ∧ Below w.heap.size w w' := by
  cases h1 : inB key 0 1000000000 <;> cases h2 : inB link 0 39 <;> cases h3 : inB slot 0 19
  case true.true.true =>
    have hr : fogDrawnR key link slot = (drawn key link slot, true) := by simp [fogDrawnR, h1, h2, h3]
    rw [hr]
    have H := Lib.hid (And.intro (inB_true.1 h1) (And.intro (inB_true.1 h2) (inB_true.1 h3)))
    clear hr
    go_enter Try.func17, Try.ntmps17
    go_wp2_with (first | (go_at_call 74; refine (weKey_any _ _).mono ?_; rintro e w' ⟨rfl, rfl⟩) | (go_at_call 75; refine (l1In_any _ _ _ _).mono ?_; rintro e w' ⟨rfl, rfl⟩) | (go_at_call 70; refine (weSlot_any _ _).mono ?_; rintro e w' ⟨rfl, rfl⟩) | (go_at_call 76; refine (weDrawn_any _ _ _ _ H.out.1 ⟨H.out.2.1.1, by have := H.out.2.1.2; omega⟩ ⟨H.out.2.2.1, by have := H.out.2.2.2; omega⟩).mono ?_; rintro e w' ⟨rfl, hb⟩))
    go_ret2
    exact ⟨rfl, hb⟩
  all_goals
    have hr : fogDrawnR key link slot = (false, false) := by simp [fogDrawnR, h1, h2, h3]
    rw [hr]
    clear hr
    go_enter Try.func17, Try.ntmps17
    go_wp2_with (first | (go_at_call 74; refine (weKey_any _ _).mono ?_; rintro e w' ⟨rfl, rfl⟩) | (go_at_call 75; refine (l1In_any _ _ _ _).mono ?_; rintro e w' ⟨rfl, rfl⟩) | (go_at_call 70; refine (weSlot_any _ _).mono ?_; rintro e w' ⟨rfl, rfl⟩))
    go_ret2
    exact ⟨rfl, Below.refl _ _⟩

theorem implFogDrawn_any (key link slot : Int) (w : World) :
    Calls Try.prog 18 #[.int .i64 key, .int .i64 link, .int .i64 slot] w fun e w' => e = .returned (.tuple #[.bool (fogDrawnR key link slot).1, .bool (fogDrawnR key link slot).2]) ∧ Below w.heap.size w w' := by
  cases h1 : inB key 0 1000000000 <;> cases h2 : inB link 0 39 <;> cases h3 : inB slot 0 19
  case true.true.true =>
    have hr : fogDrawnR key link slot = (drawn key link slot, true) := by simp [fogDrawnR, h1, h2, h3]
    rw [hr]
    have H := Lib.hid (And.intro (inB_true.1 h1) (And.intro (inB_true.1 h2) (inB_true.1 h3)))
    clear hr
    go_enter Try.func18, Try.ntmps18
    go_wp2_with (first | (go_at_call 72; refine (within_any _ _ _ _).mono ?_; rintro e w' ⟨rfl, rfl⟩) | (go_at_call 72; refine (within_any _ _ _ _).mono ?_; rintro e w' ⟨rfl, rfl⟩) | (go_at_call 72; refine (within_any _ _ _ _).mono ?_; rintro e w' ⟨rfl, rfl⟩) | (go_at_call 77; refine (fogDrawn_any _ _ _ _ H.out.1 ⟨H.out.2.1.1, by have := H.out.2.1.2; omega⟩ ⟨H.out.2.2.1, by have := H.out.2.2.2; omega⟩).mono ?_; rintro e w' ⟨rfl, hb⟩))
    go_ret2
    exact ⟨rfl, hb⟩
  all_goals
    have hr : fogDrawnR key link slot = (false, false) := by simp [fogDrawnR, h1, h2, h3]
    rw [hr]
    clear hr
    go_enter Try.func18, Try.ntmps18
    go_wp2_with (first | (go_at_call 72; refine (within_any _ _ _ _).mono ?_; rintro e w' ⟨rfl, rfl⟩) | (go_at_call 72; refine (within_any _ _ _ _).mono ?_; rintro e w' ⟨rfl, rfl⟩) | (go_at_call 72; refine (within_any _ _ _ _).mono ?_; rintro e w' ⟨rfl, rfl⟩))
    go_ret2
    exact ⟨rfl, Below.refl _ _⟩


set_option maxHeartbeats 1000000 in
theorem weSlots_any (key link : Int) (n : Nat) (w : World) (h1 : 0 ≤ key ∧ key ≤ 1000000000) (h2 : 0 ≤ link ∧ link ≤ 1000000000) (hn : n ≤ 1000000) :
    Calls Try.prog 87 #[.int .i64 key, .int .i64 link, .int .i64 n] w (Made w 4 1 n (bools (slotsL key link n))) := by
  have H1 := Lib.hid h1
  have H2 := Lib.hid h2
  clear h1 h2
  go_enter Try.func87, Try.ntmps87
  go_wp2
  go_loopw [7, 8] (fun v i wr => ∃ k : Nat, ∃ A c, k ≤ n ∧ i = .int .i64 k ∧ v = .slice A k c ∧ wr.ownsRow w.heap.size 4 1 (.slice A k c) k (bools (slotsL key link k)) ∧ Below w.heap.size w wr) (fun _ i _ => n - (intOf i).toNat)
  case atStart => exact ⟨0, none, 0, Nat.zero_le _, rfl, rfl, own_start, Below.refl _ _⟩
  case round =>
    obtain ⟨k, A, c, hk, rfl, rfl, hown, hb⟩ := hrel
    have hz := hb.size
    have HB := Lib.hid hb; clear hb
    by_cases hlt : k < n
    · have c1 := fun W => weDrawn_any key link (k : Int) W H1.out H2.out ⟨by omega, by omega⟩
      have C1 := Lib.hid c1
      have HS := Lib.hid (slotsL_succ key link k)
      have HO := Lib.hid hown
      clear c1 hown
      generalize drawn key link (k : Int) = u at *
      go_wp2_with (first | (go_at_call 76; refine (C1.out _).mono ?_; rintro e w1 ⟨rfl, hbd⟩; have hz1 := hbd.size; have hown := own_below HO.out hbd; have HBD := Lib.hid hbd; clear hbd) | (at_builtin; refine wpList_push _ rfl (.tmp 14) (.tmp 19) 28 rfl w.heap.size 4 (.bool false) 1 1 infoBool rfl (by omega) Try.underlying28 A k c (bools (slotsL key link k)) rfl (hown.alloc _) (some ⟨w1.heap.size, 0, none⟩) 1 1 [.bool u] rfl (reads_new _ _ _) (by simp [Value.oneCell']) (by omega) (by omega) (by simp; omega) ?_; intro A' c' w2 hown1 hg1 hb1))
      go_roundw
      case rel =>
        refine ⟨k + 1, A', c', by omega, by go_num, rfl, ?_, HB.out.trans ((HBD.out.mono hz).trans (((Below.refl _ _).alloc (by omega) _).trans hb1))⟩
        rw [HS.out]
        simpa [bools] using hown1
      case measure => simp [intOf]; try omega
    · obtain rfl : k = n := by omega
      go_wp2
      go_ret
      exact ⟨A, c, rfl, hown, HB.out⟩
set_option maxHeartbeats 1000000 in
theorem drawnSlots_any (key link : Int) (n : Nat) (w : World) (h1 : 0 ≤ key ∧ key ≤ 1000000000) (h2 : 0 ≤ link ∧ link ≤ 1000000000) (hn : n ≤ 1000000) :
    Calls Try.prog 88 #[.int .i64 key, .int .i64 link, .int .i64 n] w (Made w 4 1 n (bools (slotsL key link n))) := by
  have H1 := Lib.hid h1
  have H2 := Lib.hid h2
  clear h1 h2
  have hl : (bools (slotsL key link n)).length = n := by simp
  have HL := Lib.hid hl; clear hl
  go_enter Try.func88, Try.ntmps88
  go_wp2_with (at_make; refine wpList_mk _ rfl (.tmp 9) (.tmp 9) 28 rfl w.heap.size 4 (.bool false) _ infoBool rfl Try.underlying28 _ _ _ _ n rfl rfl rfl rfl (by omega) (by omega) (by first | exact Nat.le_refl _ | omega | (simp; omega)) ?_; intro w1 hown1 hb1 hz1)
  rw [← mid_start (l := bools (slotsL key link n))] at hown1
  have HS0 := Lib.hid (And.intro hown1 hb1)
  clear hown1 hb1 hz1
  generalize hg : w.heap.size = g at *
  go_loopw [13] (fun i wr => ∃ k : Nat, k ≤ n ∧ i = .int .i64 k ∧ wr.ownsRow g 4 1 (.slice (some ⟨g, 0, none⟩) n n) n ((bools (slotsL key link n)).take k ++ List.replicate (n - k) (.bool false)) ∧ Below g w wr ∧ g ≤ wr.heap.size) (fun i _ => n - (intOf i).toNat)
  case atStart => exact ⟨0, Nat.zero_le _, rfl, HS0.out.1, HS0.out.2, by have := HS0.out.2.size; omega⟩
  case round =>
    obtain ⟨k, hk, rfl, hown, hb, hgz⟩ := hrel
    have HB := Lib.hid hb; clear hb
    by_cases hlt : k < n
    · have c1 := fun W => fogDrawn_any key link (k : Int) W H1.out H2.out ⟨by omega, by omega⟩
      have C1 := Lib.hid c1
      have hx : (bools (slotsL key link n))[k]? = some (.bool (drawn key link (k : Int))) := by simp [bools, slotsL, hlt]
      have HX := Lib.hid hx
      have HO := Lib.hid hown
      clear c1 hown hx
      generalize drawn key link (k : Int) = u at *
      have hst : ∀ W, Below wr.heap.size wr W → W.cell? ⟨g, k, none⟩ = some (.bool false) ∧ W.frozen? ⟨g, k, none⟩ = false := by
        intro W hW
        have ho := own_below HO.out hW
        refine ⟨?_, ho.frozenAt k⟩
        rw [ho.cellAt k (by omega)]
        exact mid_get HL.out hlt
      have HST := Lib.hid hst
      clear hst
      go_wp2_with (go_at_call 77; refine (C1.out _).mono ?_; rintro e w1 ⟨rfl, hbd⟩; obtain ⟨hcell, hfz⟩ := HST.out w1 hbd; have HBD := Lib.hid hbd; clear hbd)
      go_roundw
      case rel =>
        have ho := (own_below HO.out HBD.out).stored k (.bool u)
        refine ⟨k + 1, by omega, by go_num, ?_, (HB.out.trans (HBD.out.mono hgz)).setCell (p := ⟨g, k, none⟩) (Nat.le_refl _) _, ?_⟩
        · have h1 := ho.1
          rw [mid_set HL.out hlt HX.out] at h1
          exact h1
        · have := HBD.out.size
          simp
          omega
      case measure => simp [intOf]; omega
    · obtain rfl : k = n := by omega
      rw [mid_end HL.out] at hown
      have HO := Lib.hid hown
      clear hown
      go_wp2
      go_ret
      subst hg
      exact ⟨_, _, rfl, HO.out, HB.out⟩

set_option maxHeartbeats 1000000 in
theorem specSlotsOf_any (key link slots : Int) (w : World) :
    Calls Try.prog 31 #[.int .i64 key, .int .i64 link, .int .i64 slots] w (Made2 w 4 1 (slotsR key link slots).1.length (bools (slotsR key link slots).1) (slotsR key link slots).2) := by
  cases h1 : inB key 0 1000000000 <;> cases h2 : inB link 0 39 <;> cases h3 : inB slots 0 20
  case true.true.true =>
    have hr : slotsR key link slots = (slotsL key link slots.toNat, true) := by simp [slotsR, h1, h2, h3]
    obtain ⟨n, hn⟩ : ∃ n : Nat, slots = (n : Int) := ⟨slots.toNat, by have := inB_true.1 h3; omega⟩
    subst hn
    rw [hr]
    have hl : (slotsL key link (n : Int).toNat).length = n := by simp
    simp only [Int.toNat_natCast] at hl ⊢
    rw [hl]
    have C1 := Lib.hid (fun W => weSlots_any key link n W (inB_true.1 h1) ⟨(inB_true.1 h2).1, by have := (inB_true.1 h2).2; omega⟩ (by have := (inB_true.1 h3).2; omega))
    clear hr hl
    go_enter Try.func31, Try.ntmps31
    go_wp2_with (first | (go_at_call 74; refine (weKey_any _ _).mono ?_; rintro e w' ⟨rfl, rfl⟩) | (go_at_call 75; refine (l1In_any _ _ _ _).mono ?_; rintro e w' ⟨rfl, rfl⟩) | (go_at_call 87; refine (C1.out _).mono ?_; rintro e w1 ⟨A1, c1, rfl, hown, hb⟩))
    go_ret2
    exact ⟨A1, c1, rfl, hown, hb⟩
  all_goals
    have hr : slotsR key link slots = ([], false) := by simp [slotsR, h1, h2, h3]
    rw [hr]
    clear hr
    go_enter Try.func31, Try.ntmps31
    go_wp2_with (first | (go_at_call 74; refine (weKey_any _ _).mono ?_; rintro e w' ⟨rfl, rfl⟩) | (go_at_call 75; refine (l1In_any _ _ _ _).mono ?_; rintro e w' ⟨rfl, rfl⟩))
    go_ret2
    exact ⟨none, 0, rfl, own_start, Below.refl _ _⟩

set_option maxHeartbeats 1000000 in
theorem implSlotsOf_any (key link slots : Int) (w : World) :
    Calls Try.prog 32 #[.int .i64 key, .int .i64 link, .int .i64 slots] w (Made2 w 4 1 (slotsR key link slots).1.length (bools (slotsR key link slots).1) (slotsR key link slots).2) := by
  cases h1 : inB key 0 1000000000 <;> cases h2 : inB link 0 39 <;> cases h3 : inB slots 0 20
  case true.true.true =>
    have hr : slotsR key link slots = (slotsL key link slots.toNat, true) := by simp [slotsR, h1, h2, h3]
    obtain ⟨n, hn⟩ : ∃ n : Nat, slots = (n : Int) := ⟨slots.toNat, by have := inB_true.1 h3; omega⟩
    subst hn
    rw [hr]
    have hl : (slotsL key link (n : Int).toNat).length = n := by simp
    simp only [Int.toNat_natCast] at hl ⊢
    rw [hl]
    have C1 := Lib.hid (fun W => drawnSlots_any key link n W (inB_true.1 h1) ⟨(inB_true.1 h2).1, by have := (inB_true.1 h2).2; omega⟩ (by have := (inB_true.1 h3).2; omega))
    clear hr hl
    go_enter Try.func32, Try.ntmps32
    go_wp2_with (first | (go_at_call 72; refine (within_any _ _ _ _).mono ?_; rintro e w' ⟨rfl, rfl⟩) | (go_at_call 72; refine (within_any _ _ _ _).mono ?_; rintro e w' ⟨rfl, rfl⟩) | (go_at_call 88; refine (C1.out _).mono ?_; rintro e w1 ⟨A1, c1, rfl, hown, hb⟩))
    go_ret2
    exact ⟨A1, c1, rfl, hown, hb⟩
  all_goals
    have hr : slotsR key link slots = ([], false) := by simp [slotsR, h1, h2, h3]
    rw [hr]
    clear hr
    go_enter Try.func32, Try.ntmps32
    go_wp2_with (first | (go_at_call 72; refine (within_any _ _ _ _).mono ?_; rintro e w' ⟨rfl, rfl⟩) | (go_at_call 72; refine (within_any _ _ _ _).mono ?_; rintro e w' ⟨rfl, rfl⟩))
    go_ret2
    exact ⟨none, 0, rfl, own_start, Below.refl _ _⟩

theorem slotsR_bd (key link slots : Int) : (slotsR key link slots).1.length ≤ 20 := by
  unfold slotsR
  split
  · rename_i h
    have := inB_true.1 h.2.2
    simp
    omega
  · simp
set_option maxHeartbeats 2000000 in
set_option maxRecDepth 100000 in
theorem law_FnExactSlotsOf (w : World) {v0 v1 v2 : Value} (h0 : IsInt v0) (h1 : IsInt v1) (h2 : IsInt v2) :
    Calls Try.prog 9 #[v0, v1, v2] w fun e w' => e = .returned (.bool true) ∧ Below w.heap.size w w' := by
  obtain ⟨a0, rfl, _⟩ := h0
  obtain ⟨a1, rfl, _⟩ := h1
  obtain ⟨a2, rfl, _⟩ := h2
  go_enter Try.func9, Try.ntmps9
  have BB0 : Hid (Below w.heap.size w w) := Lib.hid (Below.refl _ _)
  go_wp2_with fail
  refine (specSlotsOf_any a0 a1 a2 w ).mono ?_
  rintro e w1 ⟨Aw, cw, rfl, hown, hb⟩
  have Ow_1 := Lib.hid hown; clear hown
  have Lw := Lib.hid (own_lt Ow_1.out)
  have B0 := Lib.hid hb; clear hb
  have Z0 := Lib.hid (B0.out.size)
  have BB1 := Lib.hid (below_then BB0.out B0.out)
  go_wp2_with fail
  refine (implSlotsOf_any a0 a1 a2 w1 ).mono ?_
  rintro e w2 ⟨Ag, cg, rfl, hown, hb⟩
  have Og_2 := Lib.hid hown; clear hown
  have Lg := Lib.hid (own_lt Og_2.out)
  have B1 := Lib.hid hb; clear hb
  have Z1 := Lib.hid (B1.out.size)
  have BB2 := Lib.hid (BB1.out.trans (B1.out.mono BB1.out.size))
  have Ow_2 := Lib.hid (own_below Ow_1.out B1.out)
  go_wp2_with fail
  refine (eqBoolS_any Ag Aw ((slotsR a0 a1 a2).1).length cg cw (slotsR a0 a1 a2).1 w2 (by (have := slotsR_bd a0 a1 a2; omega)) (Reads.of_own Og_2.out) (Reads.of_own Ow_2.out)).mono ?_
  rintro e w3 ⟨rfl, hb⟩
  replace hb := below_of_quiet (B := w2.heap.size) hb
  have B2 := Lib.hid hb; clear hb
  have Z2 := Lib.hid (B2.out.size)
  have BB3 := Lib.hid (BB2.out.trans (B2.out.mono BB2.out.size))
  have Ow_3 := Lib.hid (own_below Ow_2.out B2.out)
  have Og_3 := Lib.hid (own_below Og_2.out B2.out)
  go_wp2_with fail
  refine (markBoolS_any Ag ((slotsR a0 a1 a2).1).length cg (1) _ _ w3 (by (have := slotsR_bd a0 a1 a2; omega)) Og_3.out).mono ?_
  rintro e w4 ⟨rfl, hown, hg⟩
  have G3 := Lib.hid hg; clear hg
  have Og_4 := Lib.hid hown; clear hown
  have Z3 := Lib.hid G3.out.size
  have BB4 := Lib.hid (below_mark BB3.out Og_3.out G3.out (by have := Z0.out; omega) BB3.out.size)
  have Ow_4 := Lib.hid (kept_earlier Ow_3.out Lw.out Og_3.out G3.out (by  omega))
  go_wp2_with fail
  refine (heldBoolS_any Ag ((slotsR a0 a1 a2).1).length cg (1) w4 (by (have := slotsR_bd a0 a1 a2; omega)) (Reads.of_own Og_4.out)).mono ?_
  rintro e w5 ⟨rfl, hb⟩
  subst hb
  go_wp2_with fail
  refine (implSlotsOf_any a0 a1 a2 w4 ).mono ?_
  rintro e w5 ⟨Ah, ch, rfl, hown, hb⟩
  have Oh_5 := Lib.hid hown; clear hown
  have Lh := Lib.hid (own_lt Oh_5.out)
  have B4 := Lib.hid hb; clear hb
  have Z4 := Lib.hid (B4.out.size)
  have BB5 := Lib.hid (BB4.out.trans (B4.out.mono BB4.out.size))
  have Ow_5 := Lib.hid (own_below Ow_4.out B4.out)
  have Og_5 := Lib.hid (own_below Og_4.out B4.out)
  go_wp2_with fail
  refine (eqBoolS_any Ah Aw ((slotsR a0 a1 a2).1).length ch cw (slotsR a0 a1 a2).1 w5 (by (have := slotsR_bd a0 a1 a2; omega)) (Reads.of_own Oh_5.out) (Reads.of_own Ow_5.out)).mono ?_
  rintro e w6 ⟨rfl, hb⟩
  replace hb := below_of_quiet (B := w5.heap.size) hb
  have B5 := Lib.hid hb; clear hb
  have Z5 := Lib.hid (B5.out.size)
  have BB6 := Lib.hid (BB5.out.trans (B5.out.mono BB5.out.size))
  have Ow_6 := Lib.hid (own_below Ow_5.out B5.out)
  have Og_6 := Lib.hid (own_below Og_5.out B5.out)
  have Oh_6 := Lib.hid (own_below Oh_5.out B5.out)
  go_wp2_with fail
  refine (heldBoolS_any Ag ((slotsR a0 a1 a2).1).length cg (1) w6 (by (have := slotsR_bd a0 a1 a2; omega)) (Reads.of_own Og_6.out)).mono ?_
  rintro e w7 ⟨rfl, hb⟩
  subst hb
  go_wp2_with fail
  go_ret
  exact ⟨rfl, BB6.out⟩

set_option maxHeartbeats 400000 in
theorem law_FnExactFogDrawn (w : World) {v0 v1 v2 : Value} (h0 : IsInt v0) (h1 : IsInt v1) (h2 : IsInt v2) :
    Calls Try.prog 4 #[v0, v1, v2] w fun e w' => e = .returned (.bool true) ∧ Below w.heap.size w w' := by
  obtain ⟨a, rfl, _⟩ := h0
  obtain ⟨b, rfl, _⟩ := h1
  obtain ⟨c, rfl, _⟩ := h2
  go_enter Try.func4, Try.ntmps4
  go_wp2_with fail
  refine (specFogDrawn_any a b c w).mono ?_
  rintro e w1 ⟨rfl, hb1⟩
  have H1 := Lib.hid hb1; clear hb1
  go_wp2_with fail
  refine (implFogDrawn_any a b c w1).mono ?_
  rintro e w2 ⟨rfl, hb2⟩
  have H2 := Lib.hid (below_then H1.out hb2); clear hb2
  go_wp2_with fail
  go_ret
  exact ⟨rfl, H2.out⟩
end Go.Proofs.Ythpfgmnhpnfopaa
