/- Contracts of the tests on ranges, and of the laws' own helpers on slices of integers and of booleans. No conditions. -/
import Derived.Test.YthpfgmnhpnfopaaProg
import Derived.Test.YthpfgmnhpnfopaaLib
namespace Go.Proofs.Ythpfgmnhpnfopaa
set_option linter.unusedSimpArgs false
set_option linter.unusedVariables false
open Go.RowKit

theorem infoInt : (Try.prog.info? 3).map (fun i => (i.zero, i.size, i.bytes)) = some (some (.int .i64 0), 1, 8) := by kernel_rfl
theorem infoBool : (Try.prog.info? 4).map (fun i => (i.zero, i.size, i.bytes)) = some (some (.bool false), 1, 1) := by kernel_rfl

def inB (a b c : Int) : Bool := decide (b ≤ a) && decide (a ≤ c)
theorem inB_true {a b c : Int} : inB a b c = true ↔ b ≤ a ∧ a ≤ c := by simp [inB]
theorem inB_false {a b c : Int} : inB a b c = false ↔ ¬ (b ≤ a ∧ a ≤ c) := by simp [inB]
def allB (lo hi : Int) : List Int → Bool
  | [] => true
  | x :: r => if inB x lo hi then allB lo hi r else false
theorem allB_true {lo hi : Int} {l : List Int} : allB lo hi l = true ↔ ∀ x ∈ l, lo ≤ x ∧ x ≤ hi := by
  induction l with
  | nil => simp [allB]
  | cons a r ih =>
    by_cases h : inB a lo hi = true
    · simp [allB, h, ih, inB_true.1 h]
    · have h' := inB_false.1 (by simpa using h)
      simp [allB, h]
      intro h1 h2
      exact absurd ⟨h1, h2⟩ h'

def marksInt (K n : Nat) : List Value := (List.range n).map fun i => .int .i64 ((K + i : Nat) : Int)
def marksBool (K n : Nat) : List Value := (List.range n).map fun i => .bool (((K + i : Nat) : Int) % 3 == 0)
theorem drop_cons {α : Type} {xs : List α} {k : Nat} (h : k < xs.length) : xs.drop k = xs[k] :: xs.drop (k + 1) := List.drop_eq_getElem_cons h
theorem drop_end {α : Type} {xs : List α} {k : Nat} (h : xs.length ≤ k) : xs.drop k = [] := List.drop_eq_nil_of_le h

theorem l1In_any (a b c : Int) (w : World) :
    Calls Try.prog 75 #[.int .i64 a, .int .i64 b, .int .i64 c] w fun e w' => e = .returned (.bool (inB a b c)) ∧ w = w' := by
  by_cases h1 : b ≤ a
  · go_enter Try.func75, Try.ntmps75
    go_wp2
    go_ret
    exact ⟨by simp [inB, h1], rfl⟩
  · go_enter Try.func75, Try.ntmps75
    go_wp2
    go_ret
    exact ⟨by simp [inB]; omega, rfl⟩
theorem within_any (a b c : Int) (w : World) :
    Calls Try.prog 72 #[.int .i64 a, .int .i64 b, .int .i64 c] w fun e w' => e = .returned (.bool (inB a b c)) ∧ w = w' := by
  by_cases h1 : b ≤ a
  · go_enter Try.func72, Try.ntmps72
    go_wp2
    go_ret
    exact ⟨by simp [inB, h1], rfl⟩
  · go_enter Try.func72, Try.ntmps72
    go_wp2
    go_ret
    exact ⟨by simp [inB]; omega, rfl⟩
theorem l1All_any (A : Option Addr) (n c : Nat) (xs : List Int) (lo hi : Int) (w : World) (hn : n ≤ 9223372036854775807) (h : Reads w 1 A n (ints xs)) :
    Calls Try.prog 80 #[.slice A n c, .int .i64 lo, .int .i64 hi] w fun e w' => e = .returned (.bool (allB lo hi xs)) ∧ w = w' := by
  have hlen : xs.length = n := by simpa using h.1
  have H := Lib.hid hlen; clear hlen
  go_enter Try.func80, Try.ntmps80
  go_wp2
  go_loop [11] (fun i => ∃ k : Nat, k ≤ n ∧ i = .int .i64 k ∧ allB lo hi (xs.drop k) = allB lo hi xs) (fun i => n - (intOf i).toNat)
  case atStart => exact ⟨0, Nat.zero_le _, rfl, rfl⟩
  case round =>
    obtain ⟨k, hk, rfl, hrel⟩ := hrel
    have HR := Lib.hid hrel; clear hrel
    by_cases hlt : k < n
    · obtain ⟨ad, rfl, hc⟩ := h.2 (by omega)
      have hx : k < xs.length := by rw [H.out]; exact hlt
      have hcell : w.cell? (ad.add k) = some (.int .i64 xs[k]) := hc k _ (by simp [ints, hx])
      have HD := Lib.hid (drop_cons hx)
      generalize xs[k] = x at hcell HD
      clear hc h
      go_wp2_with (go_at_call 75; refine (l1In_any _ _ _ _).mono ?_; rintro e w' ⟨rfl, rfl⟩)
      · have ht : (!inB x lo hi) = true := by assumption
        go_ret
        refine ⟨?_, rfl⟩
        rw [← HR.out, HD.out]
        simp at ht
        simp [allB, ht]
      · have ht : (!inB x lo hi) = false := by assumption
        go_round
        case rel =>
          refine ⟨k + 1, by omega, by go_num, ?_⟩
          rw [← HR.out, HD.out]
          simp at ht
          simp [allB, ht]
        case measure => simp [intOf]; omega
    · have HE := Lib.hid (drop_end (xs := xs) (k := k) (by rw [H.out]; omega))
      clear h
      go_wp2
      go_ret
      refine ⟨?_, rfl⟩
      rw [← HR.out, HE.out]
      rfl
theorem allWithin_any (A : Option Addr) (n c : Nat) (xs : List Int) (lo hi : Int) (w : World) (hn : n ≤ 9223372036854775807) (h : Reads w 1 A n (ints xs)) :
    Calls Try.prog 82 #[.slice A n c, .int .i64 lo, .int .i64 hi] w fun e w' => e = .returned (.bool (allB lo hi xs)) ∧ w = w' := by
  have hlen : xs.length = n := by simpa using h.1
  have H := Lib.hid hlen; clear hlen
  go_enter Try.func82, Try.ntmps82
  go_wp2
  go_loop [11] (fun i => ∃ k : Nat, k ≤ n ∧ i = .int .i64 k ∧ allB lo hi (xs.drop k) = allB lo hi xs) (fun i => n - (intOf i).toNat)
  case atStart => exact ⟨0, Nat.zero_le _, rfl, rfl⟩
  case round =>
    obtain ⟨k, hk, rfl, hrel⟩ := hrel
    have HR := Lib.hid hrel; clear hrel
    by_cases hlt : k < n
    · obtain ⟨ad, rfl, hc⟩ := h.2 (by omega)
      have hx : k < xs.length := by rw [H.out]; exact hlt
      have hcell : w.cell? (ad.add k) = some (.int .i64 xs[k]) := hc k _ (by simp [ints, hx])
      have HD := Lib.hid (drop_cons hx)
      generalize xs[k] = x at hcell HD
      clear hc h
      go_wp2_with (go_at_call 72; refine (within_any _ _ _ _).mono ?_; rintro e w' ⟨rfl, rfl⟩)
      · have ht : (!inB x lo hi) = true := by assumption
        go_ret
        refine ⟨?_, rfl⟩
        rw [← HR.out, HD.out]
        simp at ht
        simp [allB, ht]
      · have ht : (!inB x lo hi) = false := by assumption
        go_round
        case rel =>
          refine ⟨k + 1, by omega, by go_num, ?_⟩
          rw [← HR.out, HD.out]
          simp at ht
          simp [allB, ht]
        case measure => simp [intOf]; omega
    · have HE := Lib.hid (drop_end (xs := xs) (k := k) (by rw [H.out]; omega))
      clear h
      go_wp2
      go_ret
      refine ⟨?_, rfl⟩
      rw [← HR.out, HE.out]
      rfl
theorem toIntS_any (A : Option Addr) (n c : Nat) (xs : List Int) (w : World) (hn : n ≤ 1000000000) (h : Reads w 1 A n (ints xs)) :
    Calls Try.prog 24 #[.slice A n c] w (Made w 3 1 n (ints xs)) := by
  have hlen : xs.length = n := by simpa using h.1
  have H := Lib.hid hlen; clear hlen
  go_enter Try.func24, Try.ntmps24
  go_wp2_with (at_make; refine wpList_mk _ rfl (.tmp 6) (.tmp 6) 33 rfl w.heap.size 3 (.int .i64 0) _ infoInt rfl Try.underlying33 _ _ _ _ n rfl rfl rfl rfl (by omega) (by omega) (Nat.le_refl _) ?_; intro w1 hown1 hb1 hz1)
  have hown1' : w1.ownsRow w.heap.size 3 1 (.slice (some ⟨w.heap.size, 0, none⟩) n n) n ((ints xs).take 0 ++ List.replicate (n - 0) (.int .i64 0)) := by simpa using hown1
  generalize hg : w.heap.size = g at *
  go_loopw [4] (fun i wr => ∃ k : Nat, k ≤ n ∧ i = .int .i64 k ∧ wr.ownsRow g 3 1 (.slice (some ⟨g, 0, none⟩) n n) n ((ints xs).take k ++ List.replicate (n - k) (.int .i64 0)) ∧ Below g w wr) (fun i _ => n - (intOf i).toNat)
  case atStart => exact ⟨0, Nat.zero_le _, rfl, hown1', hb1⟩
  case round =>
    obtain ⟨k, hk, rfl, hown, hb⟩ := hrel
    clear hown1 hown1' hb1 hz1
    by_cases hlt : k < n
    · have hr := h.keep (w' := wr) (fun p hp => hb.cell (by omega))
      obtain ⟨ad, rfl, hc⟩ := hr.2 (by omega)
      have hx : k < xs.length := by rw [H.out]; exact hlt
      have hcell : wr.cell? (ad.add k) = some (.int .i64 xs[k]) := hc k _ (by simp [ints, hx])
      have hold : wr.cell? ⟨g, k, none⟩ = some (.int .i64 0) := by
        rw [hown.cellAt k (by omega)]
        exact mid_get (by simp [H.out]) hlt
      have hfz : wr.frozen? ⟨g, k, none⟩ = false := hown.frozenAt k
      have hs := (hown.stored k (.int .i64 xs[k])).1
      have e1 : ((ints xs).take k ++ List.replicate (n - k) (.int .i64 0 : Value)).set k (.int .i64 xs[k]) = (ints xs).take (k + 1) ++ List.replicate (n - (k + 1)) (.int .i64 0) := mid_set (by simp [H.out]) hlt (by simp [ints, hx])
      rw [e1] at hs
      have hbs := hb.setCell (p := ⟨g, k, none⟩) (Nat.le_refl _) (.int .i64 xs[k])
      have HS := Lib.hid hs
      have HB := Lib.hid hbs
      clear hs hbs e1 hc hr h hown hb
      generalize xs[k] = x at *
      go_wp2
      go_roundw
      case rel => exact ⟨k + 1, by omega, by go_num, HS.out, HB.out⟩
      case measure => simp [intOf]; omega
    · have ek : k = n := by omega
      subst ek
      rw [mid_end (by simp [H.out])] at hown
      have HO := Lib.hid hown
      clear hown h
      go_wp2
      go_ret
      subst hg
      exact ⟨_, _, rfl, HO.out, hb⟩
theorem eqIntS_any (A B : Option Addr) (n c c' : Nat) (xs : List Int) (w : World) (hn : n ≤ 1000000000000) (h : Reads w 1 A n (ints xs)) (h' : Reads w 1 B n (ints xs)) :
    Calls Try.prog 26 #[.slice A n c, .slice B n c'] w fun e w' => e = .returned (.bool true) ∧ Quiet w w' := by
  have hlen : xs.length = n := by simpa using h.1
  have H := Lib.hid hlen; clear hlen
  go_enter Try.func26, Try.ntmps26
  go_wp2
  go_loopw [5] (fun i wr => ∃ k m : Nat, k ≤ n ∧ i = .int .i64 k ∧ wr = w.drewN m) (fun i _ => n - (intOf i).toNat)
  case atStart => exact ⟨0, 0, Nat.zero_le _, rfl, rfl⟩
  case round =>
    obtain ⟨k, m, hk, rfl, rfl⟩ := hrel
    by_cases hlt : k < n
    · obtain ⟨ad, rfl, hc⟩ := h.2 (by omega)
      obtain ⟨ad', rfl, hc'⟩ := h'.2 (by omega)
      have hx : k < xs.length := by rw [H.out]; exact hlt
      have hcell : w.cell? (ad.add k) = some (.int .i64 xs[k]) := hc k _ (by simp [ints, hx])
      have hcell' : w.cell? (ad'.add k) = some (.int .i64 xs[k]) := hc' k _ (by simp [ints, hx])
      clear hc hc' h h'
      generalize xs[k] = x at *
      go_wp2
      go_quiet (fail)
      go_wp2
      go_roundw
      case rel => exact ⟨k + 1, _, by omega, by go_num, rfl⟩
      case measure => simp [intOf]; omega
    · clear h h'
      go_wp2
      go_ret
      exact ⟨rfl, m, rfl⟩
theorem markIntS_any (A : Option Addr) (n c K base : Nat) (xs : List Value) (w : World) (hn : n + K ≤ 1000000000000) (h : w.ownsRow base 3 1 (.slice A n c) n xs) :
    Calls Try.prog 37 #[.slice A n c, .int .i64 K] w fun e w' => e = .returned (.int .i64 ((K + n : Nat) : Int)) ∧ w'.ownsRow base 3 1 (.slice A n c) n (marksInt K n) ∧ w.grownBy w' (Value.slice A n c).ownBlock := by
  have hlen : xs.length = n := by simpa using h.1
  have H := Lib.hid hlen; clear hlen
  have hml : (marksInt K n).length = n := by simp [marksInt]
  have HM := Lib.hid hml; clear hml
  go_enter Try.func37, Try.ntmps37
  go_wp2
  go_loopw [1, 5] (fun q i wr => ∃ k : Nat, k ≤ n ∧ i = .int .i64 k ∧ q = .int .i64 ((K + k : Nat) : Int) ∧ wr.ownsRow base 3 1 (.slice A n c) n ((marksInt K n).take k ++ xs.drop k) ∧ w.grownBy wr (Value.slice A n c).ownBlock) (fun _ i _ => n - (intOf i).toNat)
  case atStart => exact ⟨0, Nat.zero_le _, rfl, rfl, h, World.grownBy.refl _ _⟩
  case round =>
    obtain ⟨k, hk, rfl, rfl, hown, hg⟩ := hrel
    clear h
    by_cases hlt : k < n
    · obtain ⟨g, rfl⟩ : ∃ g, A = some ⟨g, 0, none⟩ := by
        rcases hown.2 with ⟨_, h0⟩ | ⟨g, cap, cur, hv, _⟩
        · omega
        · injection hv with e; exact ⟨g, e⟩
      have hxk : k < xs.length := by rw [H.out]; exact hlt
      have hold : wr.cell? ⟨g, k, none⟩ = some xs[k] := by
        rw [hown.cellAt k (by omega), two_get HM.out H.out hlt, List.getElem?_eq_getElem hxk]
      have hfz : wr.frozen? ⟨g, k, none⟩ = false := hown.frozenAt k
      have hs := (hown.stored k (.int .i64 ((K + k : Nat) : Int))).1
      rw [two_set HM.out H.out hlt (by simp [marksInt, hlt])] at hs
      have hbs := grown_set (i := k) hg (.int .i64 ((K + k : Nat) : Int))
      have HS := Lib.hid hs
      have HB := Lib.hid hbs
      clear hs hbs hown hg
      generalize xs[k] = u at *
      have ek : ((K + k : Nat) : Int) = (K : Int) + (k : Int) := by omega
      rw [ek] at HS HB ⊢
      have ek' : (K : Int) + (k : Int) + 1 = ((K + (k + 1) : Nat) : Int) := by omega
      have EK := Lib.hid ek'; clear ek ek'
      go_wp2
      go_roundw
      case rel => exact ⟨k + 1, by omega, by go_num, by rw [EK.out], HS.out, HB.out⟩
      case measure => simp [intOf]; omega
    · have ek : k = n := by omega
      subst ek
      rw [two_end HM.out H.out] at hown
      go_wp2
      go_ret
      exact ⟨rfl, hown, hg⟩
theorem heldIntS_any (A : Option Addr) (n c K : Nat) (w : World) (hn : n + K ≤ 1000000000000) (h : Reads w 1 A n (marksInt K n)) :
    Calls Try.prog 38 #[.slice A n c, .int .i64 K] w fun e w' => e = .returned (.int .i64 ((K + n : Nat) : Int)) ∧ w = w' := by
  go_enter Try.func38, Try.ntmps38
  go_wp2
  go_loop [1, 5] (fun q i => ∃ k : Nat, k ≤ n ∧ i = .int .i64 k ∧ q = .int .i64 ((K + k : Nat) : Int)) (fun _ i => n - (intOf i).toNat)
  case atStart => exact ⟨0, Nat.zero_le _, rfl, rfl⟩
  case round =>
    obtain ⟨k, hk, rfl, rfl⟩ := hrel
    by_cases hlt : k < n
    · obtain ⟨ad, rfl, hc⟩ := h.2 (by omega)
      have hcell : w.cell? (ad.add k) = some (.int .i64 ((K + k : Nat) : Int)) := hc k _ (by simp [marksInt, hlt])
      clear hc h
      have ek : ((K + k : Nat) : Int) = (K : Int) + (k : Int) := by omega
      rw [ek] at hcell ⊢
      have ek' : (K : Int) + (k : Int) + 1 = ((K + (k + 1) : Nat) : Int) := by omega
      have EK := Lib.hid ek'; clear ek ek'
      go_wp2
      go_round
      case rel => exact ⟨k + 1, by omega, by go_num, by rw [EK.out]⟩
      case measure => simp [intOf]; omega
    · have ek : k = n := by omega
      subst ek
      clear h
      go_wp2
      go_ret
      exact ⟨rfl, rfl⟩
theorem toBoolS_any (A : Option Addr) (n c : Nat) (xs : List Bool) (w : World) (hn : n ≤ 1000000000) (h : Reads w 1 A n (bools xs)) :
    Calls Try.prog 20 #[.slice A n c] w (Made w 4 1 n (bools xs)) := by
  have hlen : xs.length = n := by simpa using h.1
  have H := Lib.hid hlen; clear hlen
  go_enter Try.func20, Try.ntmps20
  go_wp2_with (at_make; refine wpList_mk _ rfl (.tmp 6) (.tmp 6) 28 rfl w.heap.size 4 (.bool false) _ infoBool rfl Try.underlying28 _ _ _ _ n rfl rfl rfl rfl (by omega) (by omega) (Nat.le_refl _) ?_; intro w1 hown1 hb1 hz1)
  have hown1' : w1.ownsRow w.heap.size 4 1 (.slice (some ⟨w.heap.size, 0, none⟩) n n) n ((bools xs).take 0 ++ List.replicate (n - 0) (.bool false)) := by simpa using hown1
  generalize hg : w.heap.size = g at *
  go_loopw [4] (fun i wr => ∃ k : Nat, k ≤ n ∧ i = .int .i64 k ∧ wr.ownsRow g 4 1 (.slice (some ⟨g, 0, none⟩) n n) n ((bools xs).take k ++ List.replicate (n - k) (.bool false)) ∧ Below g w wr) (fun i _ => n - (intOf i).toNat)
  case atStart => exact ⟨0, Nat.zero_le _, rfl, hown1', hb1⟩
  case round =>
    obtain ⟨k, hk, rfl, hown, hb⟩ := hrel
    clear hown1 hown1' hb1 hz1
    by_cases hlt : k < n
    · have hr := h.keep (w' := wr) (fun p hp => hb.cell (by omega))
      obtain ⟨ad, rfl, hc⟩ := hr.2 (by omega)
      have hx : k < xs.length := by rw [H.out]; exact hlt
      have hcell : wr.cell? (ad.add k) = some (.bool xs[k]) := hc k _ (by simp [bools, hx])
      have hold : wr.cell? ⟨g, k, none⟩ = some (.bool false) := by
        rw [hown.cellAt k (by omega)]
        exact mid_get (by simp [H.out]) hlt
      have hfz : wr.frozen? ⟨g, k, none⟩ = false := hown.frozenAt k
      have hs := (hown.stored k (.bool xs[k])).1
      have e1 : ((bools xs).take k ++ List.replicate (n - k) (.bool false : Value)).set k (.bool xs[k]) = (bools xs).take (k + 1) ++ List.replicate (n - (k + 1)) (.bool false) := mid_set (by simp [H.out]) hlt (by simp [bools, hx])
      rw [e1] at hs
      have hbs := hb.setCell (p := ⟨g, k, none⟩) (Nat.le_refl _) (.bool xs[k])
      have HS := Lib.hid hs
      have HB := Lib.hid hbs
      clear hs hbs e1 hc hr h hown hb
      generalize xs[k] = x at *
      go_wp2
      go_roundw
      case rel => exact ⟨k + 1, by omega, by go_num, HS.out, HB.out⟩
      case measure => simp [intOf]; omega
    · have ek : k = n := by omega
      subst ek
      rw [mid_end (by simp [H.out])] at hown
      have HO := Lib.hid hown
      clear hown h
      go_wp2
      go_ret
      subst hg
      exact ⟨_, _, rfl, HO.out, hb⟩
theorem eqBoolS_any (A B : Option Addr) (n c c' : Nat) (xs : List Bool) (w : World) (hn : n ≤ 1000000000000) (h : Reads w 1 A n (bools xs)) (h' : Reads w 1 B n (bools xs)) :
    Calls Try.prog 22 #[.slice A n c, .slice B n c'] w fun e w' => e = .returned (.bool true) ∧ Quiet w w' := by
  have hlen : xs.length = n := by simpa using h.1
  have H := Lib.hid hlen; clear hlen
  go_enter Try.func22, Try.ntmps22
  go_wp2
  go_loopw [5] (fun i wr => ∃ k m : Nat, k ≤ n ∧ i = .int .i64 k ∧ wr = w.drewN m) (fun i _ => n - (intOf i).toNat)
  case atStart => exact ⟨0, 0, Nat.zero_le _, rfl, rfl⟩
  case round =>
    obtain ⟨k, m, hk, rfl, rfl⟩ := hrel
    by_cases hlt : k < n
    · obtain ⟨ad, rfl, hc⟩ := h.2 (by omega)
      obtain ⟨ad', rfl, hc'⟩ := h'.2 (by omega)
      have hx : k < xs.length := by rw [H.out]; exact hlt
      have hcell : w.cell? (ad.add k) = some (.bool xs[k]) := hc k _ (by simp [bools, hx])
      have hcell' : w.cell? (ad'.add k) = some (.bool xs[k]) := hc' k _ (by simp [bools, hx])
      clear hc hc' h h'
      generalize xs[k] = x at *
      go_wp2
      go_quiet (fail)
      go_wp2
      go_roundw
      case rel => exact ⟨k + 1, _, by omega, by go_num, rfl⟩
      case measure => simp [intOf]; omega
    · clear h h'
      go_wp2
      go_ret
      exact ⟨rfl, m, rfl⟩
theorem markBoolS_any (A : Option Addr) (n c K base : Nat) (xs : List Value) (w : World) (hn : n + K ≤ 1000000000000) (h : w.ownsRow base 4 1 (.slice A n c) n xs) :
    Calls Try.prog 33 #[.slice A n c, .int .i64 K] w fun e w' => e = .returned (.int .i64 ((K + n : Nat) : Int)) ∧ w'.ownsRow base 4 1 (.slice A n c) n (marksBool K n) ∧ w.grownBy w' (Value.slice A n c).ownBlock := by
  have hlen : xs.length = n := by simpa using h.1
  have H := Lib.hid hlen; clear hlen
  have hml : (marksBool K n).length = n := by simp [marksBool]
  have HM := Lib.hid hml; clear hml
  go_enter Try.func33, Try.ntmps33
  go_wp2
  go_loopw [1, 5] (fun q i wr => ∃ k : Nat, k ≤ n ∧ i = .int .i64 k ∧ q = .int .i64 ((K + k : Nat) : Int) ∧ wr.ownsRow base 4 1 (.slice A n c) n ((marksBool K n).take k ++ xs.drop k) ∧ w.grownBy wr (Value.slice A n c).ownBlock) (fun _ i _ => n - (intOf i).toNat)
  case atStart => exact ⟨0, Nat.zero_le _, rfl, rfl, h, World.grownBy.refl _ _⟩
  case round =>
    obtain ⟨k, hk, rfl, rfl, hown, hg⟩ := hrel
    clear h
    by_cases hlt : k < n
    · obtain ⟨g, rfl⟩ : ∃ g, A = some ⟨g, 0, none⟩ := by
        rcases hown.2 with ⟨_, h0⟩ | ⟨g, cap, cur, hv, _⟩
        · omega
        · injection hv with e; exact ⟨g, e⟩
      have hxk : k < xs.length := by rw [H.out]; exact hlt
      have hold : wr.cell? ⟨g, k, none⟩ = some xs[k] := by
        rw [hown.cellAt k (by omega), two_get HM.out H.out hlt, List.getElem?_eq_getElem hxk]
      have hfz : wr.frozen? ⟨g, k, none⟩ = false := hown.frozenAt k
      have hs := (hown.stored k (.bool (((K + k : Nat) : Int) % 3 == 0))).1
      rw [two_set HM.out H.out hlt (by simp [marksBool, hlt])] at hs
      have hbs := grown_set (i := k) hg (.bool (((K + k : Nat) : Int) % 3 == 0))
      have HS := Lib.hid hs
      have HB := Lib.hid hbs
      clear hs hbs hown hg
      generalize xs[k] = u at *
      have ek : ((K + k : Nat) : Int) = (K : Int) + (k : Int) := by omega
      rw [ek] at HS HB ⊢
      have ek' : (K : Int) + (k : Int) + 1 = ((K + (k + 1) : Nat) : Int) := by omega
      have EK := Lib.hid ek'; clear ek ek'
      go_wp2
      go_roundw
      case rel => exact ⟨k + 1, by omega, by go_num, by rw [EK.out], HS.out, HB.out⟩
      case measure => simp [intOf]; omega
    · have ek : k = n := by omega
      subst ek
      rw [two_end HM.out H.out] at hown
      go_wp2
      go_ret
      exact ⟨rfl, hown, hg⟩
theorem heldBoolS_any (A : Option Addr) (n c K : Nat) (w : World) (hn : n + K ≤ 1000000000000) (h : Reads w 1 A n (marksBool K n)) :
    Calls Try.prog 34 #[.slice A n c, .int .i64 K] w fun e w' => e = .returned (.int .i64 ((K + n : Nat) : Int)) ∧ w = w' := by
  go_enter Try.func34, Try.ntmps34
  go_wp2
  go_loop [1, 5] (fun q i => ∃ k : Nat, k ≤ n ∧ i = .int .i64 k ∧ q = .int .i64 ((K + k : Nat) : Int)) (fun _ i => n - (intOf i).toNat)
  case atStart => exact ⟨0, Nat.zero_le _, rfl, rfl⟩
  case round =>
    obtain ⟨k, hk, rfl, rfl⟩ := hrel
    by_cases hlt : k < n
    · obtain ⟨ad, rfl, hc⟩ := h.2 (by omega)
      have hcell : w.cell? (ad.add k) = some (.bool (((K + k : Nat) : Int) % 3 == 0)) := hc k _ (by simp [marksBool, hlt])
      clear hc h
      have ek : ((K + k : Nat) : Int) = (K : Int) + (k : Int) := by omega
      rw [ek] at hcell ⊢
      have ek' : (K : Int) + (k : Int) + 1 = ((K + (k + 1) : Nat) : Int) := by omega
      have EK := Lib.hid ek'; clear ek ek'
      go_wp2
      go_round
      case rel => exact ⟨k + 1, by omega, by go_num, by rw [EK.out]⟩
      case measure => simp [intOf]; omega
    · have ek : k = n := by omega
      subst ek
      clear h
      go_wp2
      go_ret
      exact ⟨rfl, rfl⟩

end Go.Proofs.Ythpfgmnhpnfopaa
