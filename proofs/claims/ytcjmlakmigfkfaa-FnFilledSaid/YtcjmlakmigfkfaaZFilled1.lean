/- Lemmas and contracts of this claim, several texts in one: Contracts of the tests on ranges, and of the laws' own helpers on slices of integers and of booleans. Slices whose cells may be slices in turn: read, owned, kept, written. Speaks of no function. Contracts of the laws' own helpers on slices of slices. No conditions. -/
import Derived.Test.YtcjmlakmigfkfaaProg
import Derived.Maps.AppendAt
import Derived.Test.YtcjmlakmigfkfaaLib
namespace Go.Proofs.Ytcjmlakmigfkfaa
set_option linter.unusedSimpArgs false
set_option linter.unusedVariables false
open Go.RowKit

theorem infoInt : (Try.prog.info? 3).map (fun i => (i.zero, i.size, i.bytes)) = some (some (.int .i64 0), 1, 8) := by kernel_rfl
theorem infoBool : (Try.prog.info? 4).map (fun i => (i.zero, i.size, i.bytes)) = some (some (.bool false), 1, 1) := by kernel_rfl

def inB (a b c : Int) : Bool := decide (b ≤ a) && decide (a ≤ c)
theorem inB_true {a b c : Int} : inB a b c = true ↔ b ≤ a ∧ a ≤ c := by simp [inB]
theorem inB_false {a b c : Int} : inB a b c = false ↔ ¬ (b ≤ a ∧ a ≤ c) := by simp [inB]
def allB (lo hi : Int) : List Int → Bool
  | [] => true
  | x :: r => if inB x lo hi then allB lo hi r else false
theorem allB_true {lo hi : Int} {l : List Int} : allB lo hi l = true ↔ ∀ x ∈ l, lo ≤ x ∧ x ≤ hi := by
  induction l with
  | nil => simp [allB]
  | cons a r ih =>
    by_cases h : inB a lo hi = true
    · simp [allB, h, ih, inB_true.1 h]
    · have h' := inB_false.1 (by simpa using h)
      simp [allB, h]
      intro h1 h2
      exact absurd ⟨h1, h2⟩ h'

def marksInt (K n : Nat) : List Value := (List.range n).map fun i => .int .i64 ((K + i : Nat) : Int)
def marksBool (K n : Nat) : List Value := (List.range n).map fun i => .bool (((K + i : Nat) : Int) % 3 == 0)
theorem drop_cons {α : Type} {xs : List α} {k : Nat} (h : k < xs.length) : xs.drop k = xs[k] :: xs.drop (k + 1) := List.drop_eq_getElem_cons h
theorem drop_end {α : Type} {xs : List α} {k : Nat} (h : xs.length ≤ k) : xs.drop k = [] := List.drop_eq_nil_of_le h

theorem l1In_any (a b c : Int) (w : World) :
    Calls Try.prog 84 #[.int .i64 a, .int .i64 b, .int .i64 c] w fun e w' => e = .returned (.bool (inB a b c)) ∧ w = w' := by
  by_cases h1 : b ≤ a
  · go_enter Try.func84, Try.ntmps84
    go_wp2
    go_ret
    exact ⟨by simp [inB, h1], rfl⟩
  · go_enter Try.func84, Try.ntmps84
    go_wp2
    go_ret
    exact ⟨by simp [inB]; omega, rfl⟩
theorem within_any (a b c : Int) (w : World) :
    Calls Try.prog 83 #[.int .i64 a, .int .i64 b, .int .i64 c] w fun e w' => e = .returned (.bool (inB a b c)) ∧ w = w' := by
  by_cases h1 : b ≤ a
  · go_enter Try.func83, Try.ntmps83
    go_wp2
    go_ret
    exact ⟨by simp [inB, h1], rfl⟩
  · go_enter Try.func83, Try.ntmps83
    go_wp2
    go_ret
    exact ⟨by simp [inB]; omega, rfl⟩
theorem l1All_any (A : Option Addr) (n c : Nat) (xs : List Int) (lo hi : Int) (w : World) (hn : n ≤ 9223372036854775807) (h : Reads w 1 A n (ints xs)) :
    Calls Try.prog 119 #[.slice A n c, .int .i64 lo, .int .i64 hi] w fun e w' => e = .returned (.bool (allB lo hi xs)) ∧ w = w' := by
  have hlen : xs.length = n := by simpa using h.1
  have H := Lib.hid hlen; clear hlen
  go_enter Try.func119, Try.ntmps119
  go_wp2
  go_loop [11] (fun i => ∃ k : Nat, k ≤ n ∧ i = .int .i64 k ∧ allB lo hi (xs.drop k) = allB lo hi xs) (fun i => n - (intOf i).toNat)
  case atStart => exact ⟨0, Nat.zero_le _, rfl, rfl⟩
  case round =>
    obtain ⟨k, hk, rfl, hrel⟩ := hrel
    have HR := Lib.hid hrel; clear hrel
    by_cases hlt : k < n
    · obtain ⟨ad, rfl, hc⟩ := h.2 (by omega)
      have hx : k < xs.length := by rw [H.out]; exact hlt
      have hcell : w.cell? (ad.add k) = some (.int .i64 xs[k]) := hc k _ (by simp [ints, hx])
      have HD := Lib.hid (drop_cons hx)
      generalize xs[k] = x at hcell HD
      clear hc h
      go_wp2_with (go_at_call 84; refine (l1In_any _ _ _ _).mono ?_; rintro e w' ⟨rfl, rfl⟩)
      · have ht : (!inB x lo hi) = true := by assumption
        go_ret
        refine ⟨?_, rfl⟩
        rw [← HR.out, HD.out]
        simp at ht
        simp [allB, ht]
      · have ht : (!inB x lo hi) = false := by assumption
        go_round
        case rel =>
          refine ⟨k + 1, by omega, by go_num, ?_⟩
          rw [← HR.out, HD.out]
          simp at ht
          simp [allB, ht]
        case measure => simp [intOf]; omega
    · have HE := Lib.hid (drop_end (xs := xs) (k := k) (by rw [H.out]; omega))
      clear h
      go_wp2
      go_ret
      refine ⟨?_, rfl⟩
      rw [← HR.out, HE.out]
      rfl
theorem allWithin_any (A : Option Addr) (n c : Nat) (xs : List Int) (lo hi : Int) (w : World) (hn : n ≤ 9223372036854775807) (h : Reads w 1 A n (ints xs)) :
    Calls Try.prog 91 #[.slice A n c, .int .i64 lo, .int .i64 hi] w fun e w' => e = .returned (.bool (allB lo hi xs)) ∧ w = w' := by
  have hlen : xs.length = n := by simpa using h.1
  have H := Lib.hid hlen; clear hlen
  go_enter Try.func91, Try.ntmps91
  go_wp2
  go_loop [11] (fun i => ∃ k : Nat, k ≤ n ∧ i = .int .i64 k ∧ allB lo hi (xs.drop k) = allB lo hi xs) (fun i => n - (intOf i).toNat)
  case atStart => exact ⟨0, Nat.zero_le _, rfl, rfl⟩
  case round =>
    obtain ⟨k, hk, rfl, hrel⟩ := hrel
    have HR := Lib.hid hrel; clear hrel
    by_cases hlt : k < n
    · obtain ⟨ad, rfl, hc⟩ := h.2 (by omega)
      have hx : k < xs.length := by rw [H.out]; exact hlt
      have hcell : w.cell? (ad.add k) = some (.int .i64 xs[k]) := hc k _ (by simp [ints, hx])
      have HD := Lib.hid (drop_cons hx)
      generalize xs[k] = x at hcell HD
      clear hc h
      go_wp2_with (go_at_call 83; refine (within_any _ _ _ _).mono ?_; rintro e w' ⟨rfl, rfl⟩)
      · have ht : (!inB x lo hi) = true := by assumption
        go_ret
        refine ⟨?_, rfl⟩
        rw [← HR.out, HD.out]
        simp at ht
        simp [allB, ht]
      · have ht : (!inB x lo hi) = false := by assumption
        go_round
        case rel =>
          refine ⟨k + 1, by omega, by go_num, ?_⟩
          rw [← HR.out, HD.out]
          simp at ht
          simp [allB, ht]
        case measure => simp [intOf]; omega
    · have HE := Lib.hid (drop_end (xs := xs) (k := k) (by rw [H.out]; omega))
      clear h
      go_wp2
      go_ret
      refine ⟨?_, rfl⟩
      rw [← HR.out, HE.out]
      rfl
theorem toIntS_any (A : Option Addr) (n c : Nat) (xs : List Int) (w : World) (hn : n ≤ 1000000000) (h : Reads w 1 A n (ints xs)) :
    Calls Try.prog 96 #[.slice A n c] w (Made w 3 1 n (ints xs)) := by
  have hlen : xs.length = n := by simpa using h.1
  have H := Lib.hid hlen; clear hlen
  go_enter Try.func96, Try.ntmps96
  go_wp2_with (at_make; refine wpList_mk _ rfl (.tmp 6) (.tmp 6) 49 rfl w.heap.size 3 (.int .i64 0) _ infoInt rfl Try.underlying49 _ _ _ _ n rfl rfl rfl rfl (by omega) (by omega) (Nat.le_refl _) ?_; intro w1 hown1 hb1 hz1)
  have hown1' : w1.ownsRow w.heap.size 3 1 (.slice (some ⟨w.heap.size, 0, none⟩) n n) n ((ints xs).take 0 ++ List.replicate (n - 0) (.int .i64 0)) := by simpa using hown1
  generalize hg : w.heap.size = g at *
  go_loopw [4] (fun i wr => ∃ k : Nat, k ≤ n ∧ i = .int .i64 k ∧ wr.ownsRow g 3 1 (.slice (some ⟨g, 0, none⟩) n n) n ((ints xs).take k ++ List.replicate (n - k) (.int .i64 0)) ∧ Below g w wr) (fun i _ => n - (intOf i).toNat)
  case atStart => exact ⟨0, Nat.zero_le _, rfl, hown1', hb1⟩
  case round =>
    obtain ⟨k, hk, rfl, hown, hb⟩ := hrel
    clear hown1 hown1' hb1 hz1
    by_cases hlt : k < n
    · have hr := h.keep (w' := wr) (fun p hp => hb.cell (by omega))
      obtain ⟨ad, rfl, hc⟩ := hr.2 (by omega)
      have hx : k < xs.length := by rw [H.out]; exact hlt
      have hcell : wr.cell? (ad.add k) = some (.int .i64 xs[k]) := hc k _ (by simp [ints, hx])
      have hold : wr.cell? ⟨g, k, none⟩ = some (.int .i64 0) := by
        rw [hown.cellAt k (by omega)]
        exact mid_get (by simp [H.out]) hlt
      have hfz : wr.frozen? ⟨g, k, none⟩ = false := hown.frozenAt k
      have hs := (hown.stored k (.int .i64 xs[k])).1
      have e1 : ((ints xs).take k ++ List.replicate (n - k) (.int .i64 0 : Value)).set k (.int .i64 xs[k]) = (ints xs).take (k + 1) ++ List.replicate (n - (k + 1)) (.int .i64 0) := mid_set (by simp [H.out]) hlt (by simp [ints, hx])
      rw [e1] at hs
      have hbs := hb.setCell (p := ⟨g, k, none⟩) (Nat.le_refl _) (.int .i64 xs[k])
      have HS := Lib.hid hs
      have HB := Lib.hid hbs
      clear hs hbs e1 hc hr h hown hb
      generalize xs[k] = x at *
      go_wp2
      go_roundw
      case rel => exact ⟨k + 1, by omega, by go_num, HS.out, HB.out⟩
      case measure => simp [intOf]; omega
    · have ek : k = n := by omega
      subst ek
      rw [mid_end (by simp [H.out])] at hown
      have HO := Lib.hid hown
      clear hown h
      go_wp2
      go_ret
      subst hg
      exact ⟨_, _, rfl, HO.out, hb⟩
theorem eqIntS_any (A B : Option Addr) (n c c' : Nat) (xs : List Int) (w : World) (hn : n ≤ 1000000000000) (h : Reads w 1 A n (ints xs)) (h' : Reads w 1 B n (ints xs)) :
    Calls Try.prog 66 #[.slice A n c, .slice B n c'] w fun e w' => e = .returned (.bool true) ∧ Quiet w w' := by
  have hlen : xs.length = n := by simpa using h.1
  have H := Lib.hid hlen; clear hlen
  go_enter Try.func66, Try.ntmps66
  go_wp2
  go_loopw [5] (fun i wr => ∃ k m : Nat, k ≤ n ∧ i = .int .i64 k ∧ wr = w.drewN m) (fun i _ => n - (intOf i).toNat)
  case atStart => exact ⟨0, 0, Nat.zero_le _, rfl, rfl⟩
  case round =>
    obtain ⟨k, m, hk, rfl, rfl⟩ := hrel
    by_cases hlt : k < n
    · obtain ⟨ad, rfl, hc⟩ := h.2 (by omega)
      obtain ⟨ad', rfl, hc'⟩ := h'.2 (by omega)
      have hx : k < xs.length := by rw [H.out]; exact hlt
      have hcell : w.cell? (ad.add k) = some (.int .i64 xs[k]) := hc k _ (by simp [ints, hx])
      have hcell' : w.cell? (ad'.add k) = some (.int .i64 xs[k]) := hc' k _ (by simp [ints, hx])
      clear hc hc' h h'
      generalize xs[k] = x at *
      go_wp2
      go_quiet (fail)
      go_wp2
      go_roundw
      case rel => exact ⟨k + 1, _, by omega, by go_num, rfl⟩
      case measure => simp [intOf]; omega
    · clear h h'
      go_wp2
      go_ret
      exact ⟨rfl, m, rfl⟩
theorem markIntS_any (A : Option Addr) (n c K base : Nat) (xs : List Value) (w : World) (hn : n + K ≤ 1000000000000) (h : w.ownsRow base 3 1 (.slice A n c) n xs) :
    Calls Try.prog 68 #[.slice A n c, .int .i64 K] w fun e w' => e = .returned (.int .i64 ((K + n : Nat) : Int)) ∧ w'.ownsRow base 3 1 (.slice A n c) n (marksInt K n) ∧ w.grownBy w' (Value.slice A n c).ownBlock := by
  have hlen : xs.length = n := by simpa using h.1
  have H := Lib.hid hlen; clear hlen
  have hml : (marksInt K n).length = n := by simp [marksInt]
  have HM := Lib.hid hml; clear hml
  go_enter Try.func68, Try.ntmps68
  go_wp2
  go_loopw [1, 5] (fun q i wr => ∃ k : Nat, k ≤ n ∧ i = .int .i64 k ∧ q = .int .i64 ((K + k : Nat) : Int) ∧ wr.ownsRow base 3 1 (.slice A n c) n ((marksInt K n).take k ++ xs.drop k) ∧ w.grownBy wr (Value.slice A n c).ownBlock) (fun _ i _ => n - (intOf i).toNat)
  case atStart => exact ⟨0, Nat.zero_le _, rfl, rfl, h, World.grownBy.refl _ _⟩
  case round =>
    obtain ⟨k, hk, rfl, rfl, hown, hg⟩ := hrel
    clear h
    by_cases hlt : k < n
    · obtain ⟨g, rfl⟩ : ∃ g, A = some ⟨g, 0, none⟩ := by
        rcases hown.2 with ⟨_, h0⟩ | ⟨g, cap, cur, hv, _⟩
        · omega
        · injection hv with e; exact ⟨g, e⟩
      have hxk : k < xs.length := by rw [H.out]; exact hlt
      have hold : wr.cell? ⟨g, k, none⟩ = some xs[k] := by
        rw [hown.cellAt k (by omega), two_get HM.out H.out hlt, List.getElem?_eq_getElem hxk]
      have hfz : wr.frozen? ⟨g, k, none⟩ = false := hown.frozenAt k
      have hs := (hown.stored k (.int .i64 ((K + k : Nat) : Int))).1
      rw [two_set HM.out H.out hlt (by simp [marksInt, hlt])] at hs
      have hbs := grown_set (i := k) hg (.int .i64 ((K + k : Nat) : Int))
      have HS := Lib.hid hs
      have HB := Lib.hid hbs
      clear hs hbs hown hg
      generalize xs[k] = u at *
      have ek : ((K + k : Nat) : Int) = (K : Int) + (k : Int) := by omega
      rw [ek] at HS HB ⊢
      have ek' : (K : Int) + (k : Int) + 1 = ((K + (k + 1) : Nat) : Int) := by omega
      have EK := Lib.hid ek'; clear ek ek'
      go_wp2
      go_roundw
      case rel => exact ⟨k + 1, by omega, by go_num, by rw [EK.out], HS.out, HB.out⟩
      case measure => simp [intOf]; omega
    · have ek : k = n := by omega
      subst ek
      rw [two_end HM.out H.out] at hown
      go_wp2
      go_ret
      exact ⟨rfl, hown, hg⟩
theorem heldIntS_any (A : Option Addr) (n c K : Nat) (w : World) (hn : n + K ≤ 1000000000000) (h : Reads w 1 A n (marksInt K n)) :
    Calls Try.prog 69 #[.slice A n c, .int .i64 K] w fun e w' => e = .returned (.int .i64 ((K + n : Nat) : Int)) ∧ w = w' := by
  go_enter Try.func69, Try.ntmps69
  go_wp2
  go_loop [1, 5] (fun q i => ∃ k : Nat, k ≤ n ∧ i = .int .i64 k ∧ q = .int .i64 ((K + k : Nat) : Int)) (fun _ i => n - (intOf i).toNat)
  case atStart => exact ⟨0, Nat.zero_le _, rfl, rfl⟩
  case round =>
    obtain ⟨k, hk, rfl, rfl⟩ := hrel
    by_cases hlt : k < n
    · obtain ⟨ad, rfl, hc⟩ := h.2 (by omega)
      have hcell : w.cell? (ad.add k) = some (.int .i64 ((K + k : Nat) : Int)) := hc k _ (by simp [marksInt, hlt])
      clear hc h
      have ek : ((K + k : Nat) : Int) = (K : Int) + (k : Int) := by omega
      rw [ek] at hcell ⊢
      have ek' : (K : Int) + (k : Int) + 1 = ((K + (k + 1) : Nat) : Int) := by omega
      have EK := Lib.hid ek'; clear ek ek'
      go_wp2
      go_round
      case rel => exact ⟨k + 1, by omega, by go_num, by rw [EK.out]⟩
      case measure => simp [intOf]; omega
    · have ek : k = n := by omega
      subst ek
      clear h
      go_wp2
      go_ret
      exact ⟨rfl, rfl⟩

end Go.Proofs.Ytcjmlakmigfkfaa

namespace Go.Proofs.Ytcjmlakmigfkfaa
set_option linter.unusedSimpArgs false
set_option linter.unusedVariables false
open Go.RowKit Go.ChangeShapes Go.WideShapes Go.Deep

/-- A cell: a plain value, or a slice with these contents. -/
abbrev Cel := Value ⊕ List Value
def readsC (w : World) (u : Value) : Cel → Prop
  | .inl v => u = v
  | .inr l => ∃ A c, u = .slice A l.length c ∧ l.length ≤ c ∧ c ≤ 9223372036854775807 ∧ Reads w 1 A l.length l
def Reads2 (w : World) (k : Nat) (A : Option Addr) (n : Nat) (cs : List Cel) : Prop :=
  ∃ hs, Reads w k A n hs ∧ cs.length = hs.length ∧ ∀ (j : Nat) (u : Value) (c : Cel), hs[j]? = some u → cs[j]? = some c → readsC w u c
def ownC (w : World) (base : Nat) (e : TypeId) (u : Value) : Cel → Prop
  | .inl v => u = v
  | .inr l => ∃ A c, u = .slice A l.length c ∧ w.ownsRow base e 1 u l.length l
def apart (u v : Value) : Prop := u.ownBlock = none ∨ u.ownBlock ≠ v.ownBlock
/-- Blocks in [lo, hi) alone may have turned. -/
structure Turned (lo hi : Nat) (w w' : World) : Prop where
  os : w'.os = w.os
  tape : w'.tape = w.tape
  output : w'.output = w.output
  size : w.heap.size ≤ w'.heap.size
  block : ∀ q, q < w.heap.size → ¬ (lo ≤ q ∧ q < hi) → w'.heap[q]? = w.heap[q]?
/-- A slice of the call's own, its cells' slices of the call's own too, no two in one block. -/
structure Own2 (w : World) (lo hi : Nat) (e ei : TypeId) (k : Nat) (A : Option Addr) (n c : Nat) (cs : List Cel) (hs : List Value) : Prop where
  row : w.ownsRow lo e k (.slice A n c) n hs
  len : cs.length = hs.length
  cell : ∀ (j : Nat) (u : Value) (x : Cel), hs[j]? = some u → cs[j]? = some x → ownC w lo ei u x
  apart : ∀ (i j : Nat) (u v : Value), i ≠ j → hs[i]? = some u → hs[j]? = some v → apart u v
  out : ∀ (j : Nat) (u : Value), hs[j]? = some u → Go.Proofs.Ytcjmlakmigfkfaa.apart u (.slice A n c)
  bound : blockLt (.slice A n c) hi
  bounds : ∀ (j : Nat) (u : Value), hs[j]? = some u → ∀ q, u.ownBlock = some q → lo ≤ q ∧ q < hi

section
variable {w w' : World} {lo hi lo' hi' k n c : Nat} {e ei : TypeId} {A : Option Addr} {cs : List Cel} {hs : List Value} {xs : List Value} {v : Value}
theorem apart_int (kd : IntKind) (a : Int) (v : Value) : apart (.int kd a) v := .inl rfl
theorem apart_nil (n c : Nat) (v : Value) : apart (.slice none n c) v := .inl rfl
theorem apart_symm {u v : Value} (h : apart u v) : apart v u := by
  rcases h with h | h
  · cases hv : v.ownBlock with
    | none => exact .inl hv
    | some q => exact .inr (by rw [h, hv]; simp)
  · by_cases hv : v.ownBlock = none
    · exact .inl hv
    · exact .inr (fun e => h e.symm)
theorem Turned.refl : Turned lo hi w w := ⟨rfl, rfl, rfl, Nat.le_refl _, fun _ _ _ => rfl⟩
theorem Turned.trans {w'' : World} (h : Turned lo hi w w') (h' : Turned lo hi w' w'') : Turned lo hi w w'' :=
  ⟨h'.os.trans h.os, h'.tape.trans h.tape, h'.output.trans h.output, Nat.le_trans h.size h'.size, fun q hq hn => (h'.block q (Nat.lt_of_lt_of_le hq h.size) hn).trans (h.block q hq hn)⟩
theorem Turned.mono (h : Turned lo hi w w') (h1 : lo' ≤ lo) (h2 : hi ≤ hi') : Turned lo' hi' w w' :=
  ⟨h.os, h.tape, h.output, h.size, fun q hq hn => h.block q hq (fun hh => hn ⟨by omega, by omega⟩)⟩
theorem Turned.of_below (h : Below w.heap.size w w') : Turned lo hi w w' := ⟨h.os, h.tape, h.output, h.size, fun q hq _ => h.block q hq⟩
theorem Turned.of_grown (hg : w.grownBy w' v.ownBlock) (hb : ∀ q, v.ownBlock = some q → lo ≤ q ∧ q < hi) : Turned lo hi w w' :=
  ⟨hg.os, hg.tape, hg.output, hg.size, fun q hq hn => hg.block q hq (fun e => hn (hb q e.symm))⟩
theorem Turned.of_mark {base : Nat} (hg : w.grownBy w' v.ownBlock) (h : w.ownsRow base e k v n xs) (hb : blockLt v hi) : Turned base hi w w' :=
  .of_grown hg (fun q hq => ⟨(h.lt q hq).1, hb q hq⟩)
theorem below_turned {w0 : World} {B : Nat} (hb : Below B w0 w) (h : Turned lo hi w w') (hB : B ≤ lo) (hB' : B ≤ w.heap.size) : Below B w0 w' :=
  hb.trans ⟨h.os, h.tape, h.output, h.size, fun q hq => h.block q (by omega) (fun hh => by omega)⟩
/-- A row is kept where its block is. -/
theorem row_same {base : Nat} (h : w.ownsRow base e k v n xs) (hk : ∀ q, v.ownBlock = some q → w'.heap[q]? = w.heap[q]?) : w'.ownsRow base e k v n xs := by
  refine ⟨h.1, ?_⟩
  rcases h.2 with hn | ⟨g, cap, cur, rfl, hb, hgg, rest⟩
  · exact .inl hn
  · exact .inr ⟨g, cap, cur, rfl, hb, by rw [hk g rfl]; exact hgg, rest⟩
theorem row_turned_after {base b : Nat} (h : w.ownsRow base e k v n xs) (ht : Turned lo hi w w') (hb : blockLt v b) (hd : b ≤ lo) : w'.ownsRow base e k v n xs :=
  row_same h fun q hq => ht.block q (h.lt q hq).2 (fun hh => by have := hb q hq; omega)
theorem row_turned_before {base : Nat} (h : w.ownsRow base e k v n xs) (ht : Turned lo hi w w') (hd : hi ≤ base) : w'.ownsRow base e k v n xs :=
  row_same h fun q hq => ht.block q (h.lt q hq).2 (fun hh => by have := (h.lt q hq).1; omega)
theorem ownC_same {base : Nat} {u : Value} {x : Cel} (h : ownC w base ei u x) (hk : ∀ q, u.ownBlock = some q → w'.heap[q]? = w.heap[q]?) : ownC w' base ei u x := by
  cases x with
  | inl _ => exact h
  | inr l => obtain ⟨A, c, rfl, ho⟩ := h; exact ⟨A, c, rfl, row_same ho hk⟩
theorem Own2.same (h : Own2 w lo hi e ei k A n c cs hs) (hk : ∀ q, lo ≤ q → q < hi → w'.heap[q]? = w.heap[q]?) : Own2 w' lo hi e ei k A n c cs hs :=
  ⟨row_same h.row fun q hq => hk q (h.row.lt q hq).1 (h.bound q hq), h.len, fun j u x hu hx => ownC_same (h.cell j u x hu hx) fun q hq => hk q (h.bounds j u hu q hq).1 (h.bounds j u hu q hq).2, h.apart, h.out, h.bound, h.bounds⟩
theorem Own2.below (h : Own2 w lo hi e ei k A n c cs hs) (hb : Below w.heap.size w w') (hh : hi ≤ w.heap.size) : Own2 w' lo hi e ei k A n c cs hs :=
  h.same fun q _ hq => hb.block q (by omega)
theorem Own2.turned_after (h : Own2 w lo hi e ei k A n c cs hs) (ht : Turned lo' hi' w w') (hh : hi ≤ w.heap.size) (hd : hi ≤ lo') : Own2 w' lo hi e ei k A n c cs hs :=
  h.same fun q _ hq => ht.block q (by omega) (fun hx => by omega)
theorem Own2.turned_before (h : Own2 w lo hi e ei k A n c cs hs) (ht : Turned lo' hi' w w') (hh : hi ≤ w.heap.size) (hd : hi' ≤ lo) : Own2 w' lo hi e ei k A n c cs hs :=
  h.same fun q _ hq => ht.block q (by omega) (fun hx => by omega)
theorem Own2.mono_hi (h : Own2 w lo hi e ei k A n c cs hs) (hh : hi ≤ hi') : Own2 w lo hi' e ei k A n c cs hs :=
  ⟨h.row, h.len, h.cell, h.apart, h.out, fun q hq => Nat.lt_of_lt_of_le (h.bound q hq) hh, fun j u hu q hq => ⟨(h.bounds j u hu q hq).1, Nat.lt_of_lt_of_le (h.bounds j u hu q hq).2 hh⟩⟩
theorem ownC_mono {base base' : Nat} {u : Value} {x : Cel} (h : ownC w base ei u x) (hb : base' ≤ base) : ownC w base' ei u x := by
  cases x with
  | inl _ => exact h
  | inr l => obtain ⟨A, c, rfl, ho⟩ := h; exact ⟨A, c, rfl, own_mono ho hb⟩
theorem Own2.mono_lo (h : Own2 w lo hi e ei k A n c cs hs) (hh : lo' ≤ lo) : Own2 w lo' hi e ei k A n c cs hs :=
  ⟨own_mono h.row hh, h.len, fun j u x hu hx => ownC_mono (h.cell j u x hu hx) hh, h.apart, h.out, h.bound, fun j u hu q hq => ⟨Nat.le_trans hh (h.bounds j u hu q hq).1, (h.bounds j u hu q hq).2⟩⟩
theorem readsC_of_own {base : Nat} {u : Value} {x : Cel} (h : ownC w base ei u x) : readsC w u x := by
  cases x with
  | inl _ => exact h
  | inr l =>
    obtain ⟨A, c, rfl, ho⟩ := h
    refine ⟨A, c, rfl, own_cap ho, ?_, .of_own ho⟩
    rcases ho.2 with ⟨hv, h0⟩ | ⟨g, cap, cur, hv, _, _, hnc, hm, _⟩
    · injection hv with _ _ h3; omega
    · injection hv with _ _ h3; unfold maxLen at hm; omega
theorem Reads2.of_own (h : Own2 w lo hi e ei k A n c cs hs) : Reads2 w k A n cs :=
  ⟨hs, .of_own h.row, h.len, fun j u x hu hx => readsC_of_own (h.cell j u x hu hx)⟩
theorem readsC_keep {u : Value} {x : Cel} (h : readsC w u x) (hk : ∀ p : Addr, p.block < w.heap.size → w'.cell? p = w.cell? p) : readsC w' u x := by
  cases x with
  | inl _ => exact h
  | inr l => obtain ⟨A, c, hu, h1, h2, h3⟩ := h; exact ⟨A, c, hu, h1, h2, h3.keep hk⟩
theorem Reads2.keep (h : Reads2 w k A n cs) (hk : ∀ p : Addr, p.block < w.heap.size → w'.cell? p = w.cell? p) : Reads2 w' k A n cs := by
  obtain ⟨hs, h1, h2, h3⟩ := h
  exact ⟨hs, h1.keep hk, h2, fun j u x hu hx => readsC_keep (h3 j u x hu hx) hk⟩
theorem Reads2.below (h : Reads2 w k A n cs) (hb : Below w.heap.size w w') : Reads2 w' k A n cs := h.keep fun _ hp => hb.cell hp
theorem Reads2.alloc (h : Reads2 w k A n cs) (o : Obj) : Reads2 (w.alloc o) k A n cs := h.keep fun p hp => World.cell?_alloc_lt w o p (by omega)
theorem Reads2.len (h : Reads2 w k A n cs) : cs.length = n * k := by
  obtain ⟨hs, h1, h2, _⟩ := h
  rw [h2, h1.1]
/-- A cell that is a slice, read. -/
theorem Reads2.row {j : Nat} {l : List Value} (h : Reads2 w k A n cs) (hx : cs[j]? = some (.inr l)) : ∃ ad Ai ci, A = some ad ∧ w.cell? (ad.add j) = some (.slice Ai l.length ci) ∧ l.length ≤ ci ∧ ci ≤ 9223372036854775807 ∧ Reads w 1 Ai l.length l := by
  obtain ⟨hs, h1, h2, h3⟩ := h
  have hj : j < hs.length := by rw [← h2]; exact (List.getElem?_eq_some_iff.1 hx).1
  have hn : 0 < n := by
    rcases Nat.eq_zero_or_pos n with h0 | h0
    · subst h0; have := h1.1; simp at this; subst this; simp at hj
    · exact h0
  obtain ⟨ad, e, hc⟩ := h1.2 hn
  obtain ⟨Ai, ci, hu, r1, r2, r3⟩ := h3 j hs[j] (.inr l) (List.getElem?_eq_getElem hj) hx
  exact ⟨ad, Ai, ci, e, by rw [hc j _ (List.getElem?_eq_getElem hj), hu], r1, r2, r3⟩
/-- A plain cell, read. -/
theorem Reads2.plain {j : Nat} {u : Value} (h : Reads2 w k A n cs) (hx : cs[j]? = some (.inl u)) : ∃ ad, A = some ad ∧ w.cell? (ad.add j) = some u := by
  obtain ⟨hs, h1, h2, h3⟩ := h
  have hj : j < hs.length := by rw [← h2]; exact (List.getElem?_eq_some_iff.1 hx).1
  have hn : 0 < n := by
    rcases Nat.eq_zero_or_pos n with h0 | h0
    · subst h0; have := h1.1; simp at this; subst this; simp at hj
    · exact h0
  obtain ⟨ad, e, hc⟩ := h1.2 hn
  exact ⟨ad, e, by rw [hc j _ (List.getElem?_eq_getElem hj)]; exact congrArg some (h3 j hs[j] (.inl u) (List.getElem?_eq_getElem hj) hx)⟩
theorem Reads2.nil : Reads2 w k A 0 [] := ⟨[], .nil, rfl, fun j u c h => by simp at h⟩
/-- A cell of an owned one that is a slice. -/
theorem Own2.at_ {j : Nat} {l : List Value} (h : Own2 w lo hi e ei k A n c cs hs) (hx : cs[j]? = some (.inr l)) : ∃ g Ai ci, A = some ⟨g, 0, none⟩ ∧ hs[j]? = some (.slice Ai l.length ci) ∧ w.cell? ⟨g, j, none⟩ = some (.slice Ai l.length ci) ∧ w.frozen? ⟨g, j, none⟩ = false ∧ w.ownsRow lo ei 1 (.slice Ai l.length ci) l.length l := by
  have hj : j < hs.length := by rw [← h.len]; exact (List.getElem?_eq_some_iff.1 hx).1
  obtain ⟨Ai, ci, hu, ho⟩ := h.cell j hs[j] (.inr l) (List.getElem?_eq_getElem hj) hx
  rcases h.row.2 with ⟨hv, h0⟩ | ⟨g, cap, cur, hv, _⟩
  · subst h0
    have := h.row.1
    simp at this
    subst this
    simp at hj
  · have hA : A = some ⟨g, 0, none⟩ := by injection hv
    subst hA
    rw [hu] at ho
    refine ⟨g, Ai, ci, rfl, by rw [List.getElem?_eq_getElem hj, hu], ?_, h.row.frozenAt j, ho⟩
    rw [h.row.cellAt j (by rw [← h.row.1]; exact hj), List.getElem?_eq_getElem hj, hu]
theorem set_cases {α : Type} {l : List α} {i j : Nat} {x v : α} (h : (l.set j x)[i]? = some v) : (i = j ∧ v = x) ∨ (i ≠ j ∧ l[i]? = some v) := by
  by_cases hij : i = j
  · subst hij
    have hl : i < (l.set i x).length := (List.getElem?_eq_some_iff.1 h).1
    rw [List.getElem?_set_self (by simpa using hl)] at h
    injection h with h
    exact .inl ⟨rfl, h.symm⟩
  · rw [List.getElem?_set_ne (Ne.symm hij)] at h
    exact .inr ⟨hij, h⟩
/-- The contents of one of the slices are written, in place. -/
theorem Own2.wrote {j : Nat} {u : Value} {l l' : List Value} (h : Own2 w lo hi e ei k A n c cs hs) (hx : cs[j]? = some (.inr l)) (hu : hs[j]? = some u) (hg : w.grownBy w' u.ownBlock) (hh : hi ≤ w.heap.size) (hl : l'.length = l.length) (ho : w'.ownsRow lo ei 1 u l'.length l') :
    Own2 w' lo hi e ei k A n c (cs.set j (.inr l')) hs := by
  have key : ∀ q, lo ≤ q → q < hi → some q ≠ u.ownBlock → w'.heap[q]? = w.heap[q]? := fun q _ hq hne => hg.block q (by omega) hne
  have hjc : j < cs.length := (List.getElem?_eq_some_iff.1 hx).1
  refine ⟨row_same h.row fun q hq => key q (h.row.lt q hq).1 (h.bound q hq) (fun e' => ?_), by simp [h.len], fun i v x hv hxi => ?_, h.apart, h.out, h.bound, h.bounds⟩
  · rcases h.out j u hu with h1 | h1
    · rw [h1] at e'; cases e'
    · exact h1 (by rw [← e', hq])
  · rcases set_cases hxi with ⟨rfl, rfl⟩ | ⟨hij, hxi⟩
    · rw [hu] at hv
      injection hv with hv
      subst hv
      obtain ⟨Ai, ci, hu', _⟩ := h.cell i u (.inr l) hu hx
      exact ⟨Ai, ci, by rw [hu', hl], ho⟩
    · refine ownC_same (h.cell i v x hv hxi) fun q hq => ?_
      have hb := h.bounds i v hv q hq
      refine key q hb.1 hb.2 (fun e' => ?_)
      rcases h.apart i j v u hij hv hu with h1 | h1
      · rw [h1] at hq; cases hq
      · exact h1 (by rw [hq, e'])
theorem getElem?_set_ne' {α : Type} {l : List α} {i j : Nat} {x : α} (h : i ≠ j) : (l.set i x)[j]? = l[j]? := by rw [List.getElem?_set, if_neg h]
/-- A cell is stored: its value is plain, or a slice of the call's own in a block of its own. -/
theorem Own2.put {g j : Nat} {u : Value} {x : Cel} {hi2 : Nat} (h : Own2 w lo hi e ei k (some ⟨g, 0, none⟩) n c cs hs) (hj : j < hs.length) (hx : ownC w lo ei u x) (hh : hi ≤ hi2)
    (hf : ∀ q, u.ownBlock = some q → lo ≤ q ∧ q < hi2 ∧ q ≠ g ∧ ∀ i v, i ≠ j → hs[i]? = some v → v.ownBlock ≠ some q) :
    Own2 (w.setCell ⟨g, j, none⟩ u) lo hi2 e ei k (some ⟨g, 0, none⟩) n c (cs.set j x) (hs.set j u) := by
  have hrow := (h.row.stored j u).1
  have key : ∀ q, q ≠ g → (w.setCell ⟨g, j, none⟩ u).heap[q]? = w.heap[q]? := fun q hq => Below.heap_setCell w ⟨g, j, none⟩ u q hq
  have hset : ∀ i v, (hs.set j u)[i]? = some v → (i = j ∧ v = u) ∨ (i ≠ j ∧ hs[i]? = some v) := fun i v hv => set_cases hv
  have hug : ∀ q, u.ownBlock = some q → q ≠ g := fun q hq => (hf q hq).2.2.1
  refine ⟨hrow, by simp [h.len], fun i v y hv hy => ?_, fun i i' v v' hne hv hv' => ?_, fun i v hv => ?_, fun q hq => Nat.lt_of_lt_of_le (h.bound q hq) hh, fun i v hv q hq => ?_⟩
  · rcases hset i v hv with ⟨rfl, rfl⟩ | ⟨hne, hv'⟩
    · rw [List.getElem?_set, if_pos rfl, if_pos (by rw [h.len]; exact hj)] at hy
      injection hy with hy
      subst hy
      exact ownC_same hx fun q hq => key q (hug q hq)
    · rw [getElem?_set_ne' (Ne.symm hne)] at hy
      refine ownC_same (h.cell i v y hv' hy) fun q hq => key q ?_
      rcases h.out i v hv' with h1 | h1
      · rw [h1] at hq; cases hq
      · intro e; subst e; exact h1 (by rw [hq]; rfl)
  · rcases hset i v hv with ⟨rfl, rfl⟩ | ⟨h1, hv1⟩ <;> rcases hset i' v' hv' with ⟨rfl, rfl⟩ | ⟨h2, hv2⟩
    · exact absurd rfl hne
    · cases hq : v.ownBlock with
      | none => exact .inl hq
      | some q => exact .inr (by rw [hq]; exact fun e => (hf q hq).2.2.2 i' v' h2 hv2 e.symm)
    · refine apart_symm ?_
      cases hq : v'.ownBlock with
      | none => exact .inl hq
      | some q => exact .inr (by rw [hq]; exact fun e => (hf q hq).2.2.2 i v h1 hv1 e.symm)
    · exact h.apart i i' v v' hne hv1 hv2
  · rcases hset i v hv with ⟨rfl, rfl⟩ | ⟨h1, hv1⟩
    · cases hq : v.ownBlock with
      | none => exact .inl hq
      | some q => exact .inr (by rw [hq]; intro e; injection e with e; exact hug q hq e)
    · exact h.out i v hv1
  · rcases hset i v hv with ⟨rfl, rfl⟩ | ⟨h1, hv1⟩
    · exact ⟨(hf q hq).1, (hf q hq).2.1⟩
    · exact ⟨(h.bounds i v hv1 q hq).1, Nat.lt_of_lt_of_le (h.bounds i v hv1 q hq).2 hh⟩
/-- .. a plain value. -/
theorem Own2.put_plain {g j : Nat} {u : Value} (h : Own2 w lo hi e ei k (some ⟨g, 0, none⟩) n c cs hs) (hj : j < hs.length) (hu : u.ownBlock = none) :
    Own2 (w.setCell ⟨g, j, none⟩ u) lo hi e ei k (some ⟨g, 0, none⟩) n c (cs.set j (.inl u)) (hs.set j u) :=
  h.put hj rfl (Nat.le_refl _) (fun q hq => by rw [hu] at hq; cases hq)
/-- .. a slice in new memory. -/
theorem Own2.put_new {g j : Nat} {Ai : Option Addr} {ci : Nat} {l : List Value} {base hi2 : Nat} (h : Own2 w lo hi e ei k (some ⟨g, 0, none⟩) n c cs hs) (hj : j < hs.length) (ho : w.ownsRow base ei 1 (.slice Ai l.length ci) l.length l) (hb : hi ≤ base) (hlo : lo ≤ base) (hh : hi ≤ hi2) (h2 : blockLt (.slice Ai l.length ci) hi2) :
    Own2 (w.setCell ⟨g, j, none⟩ (.slice Ai l.length ci)) lo hi2 e ei k (some ⟨g, 0, none⟩) n c (cs.set j (.inr l)) (hs.set j (.slice Ai l.length ci)) := by
  refine h.put hj ⟨Ai, ci, rfl, own_mono ho hlo⟩ hh (fun q hq => ?_)
  have h1 := (ho.lt q hq).1
  have hg := h.bound g rfl
  refine ⟨by omega, h2 q hq, by omega, fun i v _ hv e => ?_⟩
  have := (h.bounds i v hv q e).2
  omega
/-- The contents of one of the slices are written, and its header is stored anew (an append): in its own block, or in a new one. -/
theorem Own2.regrown {g j : Nat} {u v' : Value} {Ai : Option Addr} {ci hi2 : Nat} {l l' : List Value} (h : Own2 w lo hi e ei k (some ⟨g, 0, none⟩) n c cs hs) (hx : cs[j]? = some (.inr l)) (hu : hs[j]? = some u) (hg : w.grownBy w' u.ownBlock) (hh : hi ≤ w.heap.size) (hv' : v' = .slice Ai l'.length ci)
    (ho : w'.ownsRow lo ei 1 v' l'.length l') (hloc : v'.ownBlock = u.ownBlock ∨ ∃ q, v'.ownBlock = some q ∧ hi ≤ q) (h2 : hi ≤ hi2) (hb2 : blockLt v' hi2) :
    Own2 (w'.setCell ⟨g, j, none⟩ v') lo hi2 e ei k (some ⟨g, 0, none⟩) n c (cs.set j (.inr l')) (hs.set j v') := by
  have key : ∀ q, lo ≤ q → q < hi → some q ≠ u.ownBlock → w'.heap[q]? = w.heap[q]? := fun q _ hq hne => hg.block q (by omega) hne
  have hjh : j < hs.length := (List.getElem?_eq_some_iff.1 hu).1
  have hjc : j < cs.length := by rw [h.len]; exact hjh
  have hug : some g ≠ u.ownBlock := by
    intro e'
    rcases h.out j u hu with h1 | h1
    · rw [h1] at e'; cases e'
    · exact h1 (by rw [← e']; rfl)
  -- first: everything but the cell j
  have h0 : Own2 w' lo hi e ei k (some ⟨g, 0, none⟩) n c (cs.set j (.inl u)) hs := by
    refine ⟨row_same h.row fun q hq => ?_, by simp [h.len], fun i v x hv hxi => ?_, h.apart, h.out, h.bound, h.bounds⟩
    · have : q = g := by simpa [Value.ownBlock] using hq.symm
      subst this
      exact key q (h.row.lt q rfl).1 (h.bound q rfl) hug
    · rcases set_cases hxi with ⟨rfl, rfl⟩ | ⟨hij, hxi⟩
      · rw [hu] at hv
        injection hv with hv
        exact hv.symm
      · refine ownC_same (h.cell i v x hv hxi) fun q hq => ?_
        have hb := h.bounds i v hv q hq
        refine key q hb.1 hb.2 (fun e' => ?_)
        rcases h.apart i j v u hij hv hu with h1 | h1
        · rw [h1] at hq; cases hq
        · exact h1 (by rw [hq, e'])
  have h3 := h0.put (hi2 := hi2) (x := .inr l') (u := v') hjh ⟨Ai, ci, hv', ho⟩ h2 (fun q hq => by
    refine ⟨(ho.lt q hq).1, hb2 q hq, ?_, fun i v hne hv e' => ?_⟩
    · intro e'
      subst e'
      rcases hloc with h1 | ⟨q', h1, h4⟩
      · exact hug (by rw [← h1, hq])
      · rw [hq] at h1; injection h1 with h1; have := h.bound q rfl; omega
    · rcases hloc with h1 | ⟨q', h1, h4⟩
      · rcases h.apart i j v u hne hv hu with h5 | h5
        · rw [h5] at e'; cases e'
        · exact h5 (by rw [e', ← h1, hq])
      · rw [hq] at h1; injection h1 with h1; have := (h.bounds i v hv q e').2; omega)
  simpa using h3
end

/-! Opened arguments. -/
section
variable {H : Type} {enc : TypeId × Value → H} {P : Program} {w : World} {base b0 : Nat} {spare : Nat → Bool} {held : Bool} {r : Reach} {t e e2 : TypeId} {v : Value} {d : DataW H} {p : List MemPlace}
/-- As rows_of, of a slice that lies in a cell. -/
theorem rows_open {C : Type} (cellsf : C → List Value) (Pel : C → Prop) (k : Nat) {fuel : Nat} {cs0 : List Value} {x0 : DataW H × List MemPlace} (ht : P.underlying t = some (.slice e)) (hC : P.cellsOf e = k)
    (hel : ∀ m cs x, cs.length = k → DataW.trod enc P w base spare held m e cs = some x → ∃ c, cs = cellsf c ∧ Pel c)
    (hf : DataW.trod enc P w base spare held fuel t cs0 = some x0) :
    ∃ A n c l, cs0 = [.slice A n c] ∧ n ≤ c ∧ c ≤ 9223372036854775807 ∧ List.length l = n ∧ Reads w k A n (l.flatMap cellsf) ∧ ∀ x ∈ l, Pel x := by
  rcases open_slice ht hf with ⟨hcs, _⟩ | ⟨ad, len, cap, m, n, D, Pl, hcs, hb, hl, hm, hmm, hx, hi⟩
  · exact ⟨none, 0, 0, [], hcs, Nat.le_refl _, by omega, rfl, Reads.nil, by simp⟩
  · have hlm : len ≤ m := by rw [hmm]; split <;> omega
    have hall : ∀ i, i < len → ∃ c : C, Pel c ∧ (cellsf c).length = k ∧ ∀ j u, (cellsf c)[j]? = some u → w.cell? (ad.add (i * k + j)) = some u := by
      intro i hil
      obtain ⟨cs', hc, htr⟩ := hi i (by omega)
      rw [hC] at hc
      obtain ⟨_, hlen, hcell⟩ := World.cells?_some hc
      obtain ⟨c, rfl, hp⟩ := hel _ _ _ hlen htr
      refine ⟨c, hp, hlen, fun j u hu => ?_⟩
      have hj : j < k := by rw [← hlen]; exact (List.getElem?_eq_some_iff.1 hu).1
      rw [← hu, ← hcell j hj, ← Go.Deep.add_add]
    have hex : ∀ q, q ≤ len → ∃ l : List C, l.length = q ∧ (l.flatMap cellsf).length = q * k ∧ (∀ x ∈ l, Pel x) ∧ ∀ j u, (l.flatMap cellsf)[j]? = some u → w.cell? (ad.add j) = some u := by
      intro q
      induction q with
      | zero => intro _; exact ⟨[], rfl, by simp, by simp, by simp⟩
      | succ q ih =>
        intro hq
        obtain ⟨l, hl1, hl2, hl3, hl4⟩ := ih (by omega)
        obtain ⟨c, hp, hlen, hcell⟩ := hall q (by omega)
        refine ⟨l ++ [c], by simp [hl1], by simp [hl2, hlen, Nat.add_mul], ?_, ?_⟩
        · intro x hx'
          rcases List.mem_append.1 hx' with hx' | hx'
          · exact hl3 x hx'
          · simp at hx'; subst hx'; exact hp
        · intro j u hu
          simp only [List.flatMap_append, List.flatMap_cons, List.flatMap_nil, List.append_nil] at hu
          rw [List.getElem?_append] at hu
          split at hu
          · exact hl4 j u hu
          · rename_i hge
            have := hcell _ u hu
            rw [hl2] at this hge
            rw [show j = q * k + (j - q * k) from by omega]
            exact this
    obtain ⟨l, hl1, hl2, hl3, hl4⟩ := hex len (Nat.le_refl _)
    exact ⟨some ad, len, cap, l, hcs, hl, by simpa [maxLen] using hm, hl1, ⟨hl2, fun _ => ⟨ad, rfl, hl4⟩⟩, hl3⟩
/-- A slice of integers that lies in a cell. -/
theorem ints_open {fuel : Nat} {cs0 : List Value} {x0 : DataW H × List MemPlace} (ht : P.underlying t = some (.slice e)) (he : P.underlying e = some (.int .i64)) (hC : P.cellsOf e = 1)
    (hf : DataW.trod enc P w base spare held fuel t cs0 = some x0) : ∃ A c, ∃ l : List Int, cs0 = [.slice A l.length c] ∧ readsC w (.slice A l.length c) (.inr (ints l)) ∧ ∀ x ∈ l, inI64 x := by
  obtain ⟨A, n, c, l, hv, h1, h2, h3, h4, h5⟩ := rows_open (fun x : Int => [.int .i64 x]) inI64 1 ht hC (fun m cs x _ htr => by
    obtain ⟨a, rfl, _, wf⟩ := DataW.trod_int he htr
    exact ⟨a, rfl, inI64_of wf⟩) hf
  rw [flatMap_one] at h4
  subst h3
  exact ⟨A, c, l, hv, ⟨A, c, by simp, by simpa using h1, h2, by simpa [ints] using h4⟩, h5⟩
theorem bools_open {fuel : Nat} {cs0 : List Value} {x0 : DataW H × List MemPlace} (ht : P.underlying t = some (.slice e)) (he : P.underlying e = some .bool) (hC : P.cellsOf e = 1)
    (hf : DataW.trod enc P w base spare held fuel t cs0 = some x0) : ∃ A c, ∃ l : List Bool, cs0 = [.slice A l.length c] ∧ readsC w (.slice A l.length c) (.inr (bools l)) := by
  obtain ⟨A, n, c, l, hv, h1, h2, h3, h4, h5⟩ := rows_open (fun x : Bool => [.bool x]) (fun _ => True) 1 ht hC (fun m cs x _ htr => by
    obtain ⟨a, rfl, _⟩ := DataW.trod_bool he htr
    exact ⟨a, rfl, trivial⟩) hf
  rw [flatMap_one] at h4
  subst h3
  exact ⟨A, c, l, hv, ⟨A, c, by simp, by simpa using h1, h2, by simpa [bools] using h4⟩⟩
/-- Headers and contents, one by one, make a slice of slices. -/
theorem reads2_of {C : Type} {k : Nat} {A : Option Addr} {n : Nat} {l : List C} (cellsf : C → List Value) (cel : C → List Cel) (hlen : ∀ c ∈ l, (cel c).length = k ∧ (cellsf c).length = k)
    (hr : Reads w k A n (l.flatMap cellsf)) (h : ∀ c ∈ l, ∀ (j : Nat) (u : Value) (x : Cel), (cellsf c)[j]? = some u → (cel c)[j]? = some x → readsC w u x) : Reads2 w k A n (l.flatMap cel) := by
  refine ⟨_, hr, ?_, ?_⟩
  · clear hr h
    induction l with
    | nil => rfl
    | cons c r ih =>
      have h1 := hlen c (by simp)
      have h2 := ih (fun c' hc' => hlen c' (by simp [hc']))
      simp only [List.flatMap_cons, List.length_append]
      omega
  · clear hr
    induction l with
    | nil => intro j u x hu; simp at hu
    | cons c r ih =>
      intro j u x hu hx
      have h1 := hlen c (by simp)
      simp only [List.flatMap_cons] at hu hx
      rw [List.getElem?_append] at hu hx
      rw [h1.2] at hu
      rw [h1.1] at hx
      split at hu
      · rename_i hj
        rw [if_pos hj] at hx
        exact h c (by simp) j u x hu hx
      · rename_i hj
        rw [if_neg hj] at hx
        exact ih (fun c' hc' => hlen c' (by simp [hc'])) (fun c' hc' => h c' (by simp [hc'])) _ u x hu hx
end

def rowsIntss (L : List (List Int)) : List Cel := (L.map ints).map .inr
@[simp] theorem length_rowsIntss (L : List (List Int)) : (rowsIntss L).length = L.length := by simp [rowsIntss]
theorem rowsIntss_get {L : List (List Int)} {k : Nat} (hk : k < L.length) : (rowsIntss L)[k]? = some (.inr (ints L[k])) := by simp [rowsIntss, hk]
theorem rowsIntss_append (L M : List (List Int)) : rowsIntss (L ++ M) = rowsIntss L ++ rowsIntss M := by simp [rowsIntss]
theorem rowsIntss_flat (L : List (List Int)) : rowsIntss L = L.flatMap (fun l => [.inr (ints l)]) := by simp [rowsIntss, flatMap_one]
def IsIntss (w : World) (v : Value) : Prop := ∃ A n c, ∃ L : List (List Int), v = .slice A n c ∧ n ≤ c ∧ c ≤ 9223372036854775807 ∧ L.length = n ∧ Reads2 w 1 A n (rowsIntss L) ∧ ∀ l ∈ L, l.length ≤ 9223372036854775807 ∧ ∀ x ∈ l, inI64 x
theorem isIntss_of {H : Type} {enc : TypeId × Value → H} {P : Program} {w : World} {base b0 : Nat} {spare : Nat → Bool} {held : Bool} {r : Reach} {t e e2 : TypeId} {v : Value} {d : DataW H} {p : List MemPlace}
    (ht : P.underlying t = some (.slice e)) (he : P.underlying e = some (.slice e2)) (he2 : P.underlying e2 = some (.int .i64)) (hC : P.cellsOf e = 1) (hC2 : P.cellsOf e2 = 1)
    (hval : Value.okWide P w r b0 t v) (h : DataW.Trod enc P w base spare held t v d p) : IsIntss w v := by
  obtain ⟨A, n, c, l, hv, h1, h2, h3, h4, h5⟩ := rows_of (fun x : Value × List Int => [x.1]) (fun x => readsC w x.1 (.inr (ints x.2)) ∧ ∀ y ∈ x.2, inI64 y) 1 ht hC (fun m cs x _ htr => by
    obtain ⟨A, c, l, rfl, q1, q2⟩ := ints_open he he2 hC2 htr
    exact ⟨(_, l), rfl, ⟨q1, q2⟩⟩) hval h
  have hr := reads2_of (fun x : Value × List Int => [x.1]) (fun x => [.inr (ints x.2)]) (fun _ _ => ⟨rfl, rfl⟩) h4 (fun y hy j u x hu hx => by
    cases j with
    | succ j => simp at hu
    | zero =>
      simp at hu hx
      subst hu; subst hx
      exact (h5 y hy).1)
  refine ⟨A, n, c, l.map (·.2), hv, h1, h2, by simpa using h3, by simpa [rowsIntss_flat, List.flatMap_map] using hr, fun x hx => ?_⟩
  obtain ⟨y, hy, rfl⟩ := List.mem_map.1 hx
  obtain ⟨B, cb, _, hc1, hc2, _⟩ := (h5 y hy).1
  exact ⟨by simp at hc1; omega, (h5 y hy).2⟩

def rowsBoolss (L : List (List Bool)) : List Cel := (L.map bools).map .inr
@[simp] theorem length_rowsBoolss (L : List (List Bool)) : (rowsBoolss L).length = L.length := by simp [rowsBoolss]
theorem rowsBoolss_get {L : List (List Bool)} {k : Nat} (hk : k < L.length) : (rowsBoolss L)[k]? = some (.inr (bools L[k])) := by simp [rowsBoolss, hk]
theorem rowsBoolss_append (L M : List (List Bool)) : rowsBoolss (L ++ M) = rowsBoolss L ++ rowsBoolss M := by simp [rowsBoolss]
theorem rowsBoolss_flat (L : List (List Bool)) : rowsBoolss L = L.flatMap (fun l => [.inr (bools l)]) := by simp [rowsBoolss, flatMap_one]
def IsBoolss (w : World) (v : Value) : Prop := ∃ A n c, ∃ L : List (List Bool), v = .slice A n c ∧ n ≤ c ∧ c ≤ 9223372036854775807 ∧ L.length = n ∧ Reads2 w 1 A n (rowsBoolss L) ∧ ∀ l ∈ L, l.length ≤ 9223372036854775807
theorem isBoolss_of {H : Type} {enc : TypeId × Value → H} {P : Program} {w : World} {base b0 : Nat} {spare : Nat → Bool} {held : Bool} {r : Reach} {t e e2 : TypeId} {v : Value} {d : DataW H} {p : List MemPlace}
    (ht : P.underlying t = some (.slice e)) (he : P.underlying e = some (.slice e2)) (he2 : P.underlying e2 = some .bool) (hC : P.cellsOf e = 1) (hC2 : P.cellsOf e2 = 1)
    (hval : Value.okWide P w r b0 t v) (h : DataW.Trod enc P w base spare held t v d p) : IsBoolss w v := by
  obtain ⟨A, n, c, l, hv, h1, h2, h3, h4, h5⟩ := rows_of (fun x : Value × List Bool => [x.1]) (fun x => readsC w x.1 (.inr (bools x.2))) 1 ht hC (fun m cs x _ htr => by
    obtain ⟨A, c, l, rfl, q1⟩ := bools_open he he2 hC2 htr
    exact ⟨(_, l), rfl, q1⟩) hval h
  have hr := reads2_of (fun x : Value × List Bool => [x.1]) (fun x => [.inr (bools x.2)]) (fun _ _ => ⟨rfl, rfl⟩) h4 (fun y hy j u x hu hx => by
    cases j with
    | succ j => simp at hu
    | zero =>
      simp at hu hx
      subst hu; subst hx
      exact h5 y hy)
  refine ⟨A, n, c, l.map (·.2), hv, h1, h2, by simpa using h3, by simpa [rowsBoolss_flat, List.flatMap_map] using hr, fun x hx => ?_⟩
  obtain ⟨y, hy, rfl⟩ := List.mem_map.1 hx
  obtain ⟨B, cb, _, hc1, hc2, _⟩ := h5 y hy
  exact by simp at hc1; omega

end Go.Proofs.Ytcjmlakmigfkfaa

namespace Go.Proofs.Ytcjmlakmigfkfaa
set_option linter.unusedSimpArgs false
set_option linter.unusedVariables false
open Go.RowKit

/-- A slice of new memory whose cells are slices in new memory. -/
def Made3 (w : World) (e ei : TypeId) (k n : Nat) (cs : List Cel) (en : Ending) (w' : World) : Prop :=
  ∃ A c hs, en = .returned (.slice A n c) ∧ Own2 w' w.heap.size w'.heap.size e ei k A n c cs hs ∧ Below w.heap.size w w'
/-- The same with a bool. -/
def Made4 (w : World) (e ei : TypeId) (k n : Nat) (cs : List Cel) (b : Bool) (en : Ending) (w' : World) : Prop :=
  ∃ A c hs, en = .returned (.tuple #[.slice A n c, .bool b]) ∧ Own2 w' w.heap.size w'.heap.size e ei k A n c cs hs ∧ Below w.heap.size w w'
theorem own2_made {w : World} {lo hi g n c : Nat} {e ei : TypeId} (h : w.ownsRow lo e 1 (.slice (some ⟨g, 0, none⟩) n c) n (List.replicate n (.slice none 0 0))) (hb : g < hi) :
    Own2 w lo hi e ei 1 (some ⟨g, 0, none⟩) n c (List.replicate n (.inr [])) (List.replicate n (.slice none 0 0)) := by
  have hz : ∀ (j : Nat) (u : Value), (List.replicate n (Value.slice none 0 0))[j]? = some u → u = .slice none 0 0 := by
    intro j u hu
    rw [List.getElem?_replicate] at hu
    split at hu
    · injection hu with hu; exact hu.symm
    · cases hu
  refine ⟨h, by simp, fun j u x hu hx => ?_, fun i j u v _ hu _ => ?_, fun j u hu => ?_, ?_, fun j u hu q hq => ?_⟩
  · rw [List.getElem?_replicate] at hx
    split at hx
    · injection hx with hx
      subst hx
      rw [hz j u hu]
      exact ⟨none, 0, rfl, World.ownsRow_nil _ _ _ _⟩
    · cases hx
  · rw [hz i u hu]; exact .inl rfl
  · rw [hz j u hu]; exact .inl rfl
  · intro q hq
    simp [Value.ownBlock] at hq
    omega
  · rw [hz j u hu] at hq; cases hq
theorem own2_next {w : World} {lo hi hi2 g n c k base : Nat} {e ei : TypeId} {L' : List Cel} {z : Cel} {hs : List Value} {Ai : Option Addr} {ci : Nat} {l : List Value}
    (hL : L'.length = n) (hk : k < n) (h : Own2 w lo hi e ei 1 (some ⟨g, 0, none⟩) n c (L'.take k ++ List.replicate (n - k) z) hs) (hx : L'[k]? = some (.inr l)) (m : Nat) (hm : m = l.length) (ho : w.ownsRow base ei 1 (.slice Ai m ci) m l) (hb : hi ≤ base) (hlo : lo ≤ base) (hh : hi ≤ hi2) (h2 : blockLt (.slice Ai m ci) hi2) :
    ∃ hs', Own2 (w.setCell ⟨g, k, none⟩ (.slice Ai m ci)) lo hi2 e ei 1 (some ⟨g, 0, none⟩) n c (L'.take (k + 1) ++ List.replicate (n - (k + 1)) z) hs' := by
  subst hm
  have hj : k < hs.length := by have := h.row.1; omega
  have := h.put_new hj ho hb hlo hh h2
  rw [mid_set hL hk hx] at this
  exact ⟨_, this⟩
def tot (X : List (List Value)) : Nat := (X.map List.length).sum
theorem tot_take_succ {X : List (List Value)} {k : Nat} (h : k < X.length) : tot (X.take (k + 1)) = tot (X.take k) + X[k].length := by
  unfold tot
  rw [List.take_succ_eq_append_getElem h, List.map_append, List.sum_append]
  rfl
theorem tot_take_le (X : List (List Value)) (k : Nat) : tot (X.take k) ≤ tot X := by
  have : tot X = tot (X.take k) + tot (X.drop k) := by
    unfold tot
    rw [← List.sum_append, ← List.map_append, List.take_append_drop]
  omega
theorem mem_tot {X : List (List Value)} {l : List Value} (h : l ∈ X) : l.length ≤ tot X := by
  induction X with
  | nil => cases h
  | cons a r ih =>
    simp only [tot, List.map_cons, List.sum_cons]
    rcases List.mem_cons.1 h with rfl | h
    · omega
    · have := ih h
      unfold tot at this
      omega
theorem tot_all {X : List (List Value)} {k : Nat} (h : X.length ≤ k) : tot (X.take k) = tot X := by rw [List.take_of_length_le h]

theorem infoInts : (Try.prog.info? 49).map (fun i => (i.zero, i.size, i.bytes)) = some (some (.slice none 0 0), 1, 24) := by kernel_rfl
def marksCInt (K : Nat) : List (List Value) → List Cel
  | [] => []
  | l :: r => .inr (marksInt K l.length) :: marksCInt (K + l.length) r
@[simp] theorem length_marksCInt (K : Nat) (X : List (List Value)) : (marksCInt K X).length = X.length := by
  induction X generalizing K with
  | nil => rfl
  | cons a r ih => simp [marksCInt, ih]
theorem marksCInt_get {K : Nat} {X : List (List Value)} {j : Nat} (hj : j < X.length) : (marksCInt K X)[j]? = some (.inr (marksInt (K + tot (X.take j)) X[j].length)) := by
  induction X generalizing K j with
  | nil => simp at hj
  | cons a r ih =>
    cases j with
    | zero => simp [marksCInt, tot]
    | succ j =>
      have := ih (K := K + a.length) (j := j) (by simpa using hj)
      simp only [marksCInt, List.getElem?_cons_succ, this, List.take_succ_cons, List.getElem_cons_succ, tot, List.map_cons, List.sum_cons]
      simp [Nat.add_assoc]
set_option maxHeartbeats 1000000 in
theorem eqIntSS_any (A B : Option Addr) (n c c' : Nat) (L : List (List Int)) (w : World) (hn : n ≤ 1000000000000) (hl : ∀ l ∈ L, l.length ≤ 1000000000) (h : Reads2 w 1 A n (rowsIntss L)) (h' : Reads2 w 1 B n (rowsIntss L)) :
    Calls Try.prog 15 #[.slice A n c, .slice B n c'] w fun e w' => e = .returned (.bool true) ∧ Below w.heap.size w w' := by
  have HX := Lib.hid (show L.length = n by have := h.len; simpa using this)
  have HL := Lib.hid hl
  have H := Lib.hid h
  have H' := Lib.hid h'
  clear h h' hl
  go_enter Try.func15, Try.ntmps15
  go_wp2
  go_loopw [5] (fun i wr => ∃ k : Nat, k ≤ n ∧ i = .int .i64 k ∧ Below w.heap.size w wr) (fun i _ => n - (intOf i).toNat)
  case atStart => exact ⟨0, Nat.zero_le _, rfl, Below.refl _ _⟩
  case round =>
    obtain ⟨k, hk, rfl, hb⟩ := hrel
    have HB := Lib.hid hb; clear hb
    by_cases hlt : k < n
    · have hx : k < L.length := by rw [HX.out]; exact hlt
      obtain ⟨ad, Ai, ci, rfl, kc, _, _, hr⟩ := (H.out.below HB.out).row (rowsIntss_get hx)
      obtain ⟨ad', Bi, di, rfl, jc, _, _, hr'⟩ := (H'.out.below HB.out).row (rowsIntss_get hx)
      have HR := Lib.hid hr; clear hr
      have HR' := Lib.hid hr'; clear hr'
      have HXL := Lib.hid (HL.out L[k] (List.getElem_mem hx))
      generalize L[k] = l at *
      simp only [length_ints] at kc jc HR HR'
      go_wp2
      go_region_with (go_at_call 66; refine (eqIntS_any Ai Bi l.length ci di l _ (by have := HXL.out; omega) HR.out.drew HR'.out.drew).mono ?_; rintro e w1 ⟨rfl, hq1⟩; have HB1 := Lib.hid (below_of_quiet (B := wr.heap.size) hq1); clear hq1)
      all_goals
        go_wp2
        go_roundw
        case rel => exact ⟨k + 1, by omega, by go_num, HB.out.drew.trans (HB1.out.mono HB.out.size)⟩
        case measure => simp [intOf]; omega
    · go_wp2
      go_ret
      exact ⟨rfl, HB.out⟩
set_option maxHeartbeats 1000000 in
theorem markIntSS_any (A : Option Addr) (n c K lo hi : Nat) (X : List (List Value)) (hs : List Value) (w : World) (hn : n ≤ 1000000000) (hK : K + tot X ≤ 1000000000000) (hh : hi ≤ w.heap.size) (h : Own2 w lo hi 49 3 1 A n c (X.map .inr) hs) :
    Calls Try.prog 18 #[.slice A n c, .int .i64 K] w fun e w' => e = .returned (.int .i64 ((K + tot X : Nat) : Int)) ∧ Own2 w' lo hi 49 3 1 A n c (marksCInt K X) hs ∧ Turned lo hi w w' := by
  have HX := Lib.hid (show X.length = n by have h1 := h.row.1; have h2 := h.len; simp at h2; omega)
  have H := Lib.hid h
  clear h
  go_enter Try.func18, Try.ntmps18
  go_wp2
  go_loopw [1, 5] (fun q i wr => ∃ k : Nat, k ≤ n ∧ i = .int .i64 k ∧ q = .int .i64 ((K + tot (X.take k) : Nat) : Int) ∧ Own2 wr lo hi 49 3 1 A n c ((marksCInt K X).take k ++ (X.map .inr).drop k) hs ∧ Turned lo hi w wr) (fun _ i _ => n - (intOf i).toNat)
  case atStart => exact ⟨0, Nat.zero_le _, rfl, rfl, by simpa using H.out, Turned.refl⟩
  case round =>
    obtain ⟨k, hk, rfl, rfl, hown, hg⟩ := hrel
    clear H
    have HG := Lib.hid hg; clear hg
    have hhr : hi ≤ wr.heap.size := by have := HG.out.size; omega
    by_cases hlt : k < n
    · have hx : k < X.length := by rw [HX.out]; exact hlt
      have hc : ((marksCInt K X).take k ++ (X.map Sum.inr).drop k)[k]? = some (.inr X[k]) := by
        rw [two_get (n := n) (by simp [HX.out]) (by simp [HX.out]) hlt]
        simp [hx]
      have HM := Lib.hid (marksCInt_get (K := K) hx)
      have HT := Lib.hid (tot_take_succ hx)
      have HTT := Lib.hid (tot_take_le X (k + 1))
      have HC := Lib.hid hc; clear hc
      generalize X[k] = l at *
      obtain ⟨g, Ai, ci, rfl, hu, kc, _, hro⟩ := hown.at_ HC.out
      have HU := Lib.hid hu; clear hu
      have HRO := Lib.hid hro; clear hro
      have HO := Lib.hid hown; clear hown
      go_wp2_with (go_at_call 68; refine (markIntS_any Ai l.length ci (K + tot (X.take k)) lo l _ (by have := HTT.out; have := HT.out; omega) HRO.out).mono ?_; rintro e w1 ⟨rfl, hown1, hg1⟩; have HG1 := Lib.hid hg1; clear hg1; have HO1 := Lib.hid hown1; clear hown1)
      have hw := HO.out.wrote HC.out HU.out HG1.out hhr (l' := marksInt (K + tot (X.take k)) l.length) (by simp [marksInt]) (by simpa [marksInt] using HO1.out)
      rw [two_set (n := n) (by simp [HX.out]) (by simp [HX.out]) hlt HM.out] at hw
      have HW := Lib.hid hw
      clear hw
      have hT : Turned lo hi wr w1 := Turned.of_grown HG1.out (fun q hq => HO.out.bounds k _ HU.out q hq)
      have HTU := Lib.hid (HG.out.trans hT)
      clear hT
      go_roundw
      case rel => exact ⟨k + 1, by omega, by go_num, by have h := HT.out; congr 1; omega, HW.out, HTU.out⟩
      case measure => simp [intOf]; omega
    · obtain rfl : k = n := by omega
      rw [two_end (n := k) (by simp [HX.out]) (by simp [HX.out])] at hown
      have HO := Lib.hid hown; clear hown
      have HT := Lib.hid (tot_all (X := X) (k := k) (by simp [HX.out]))
      go_wp2
      go_ret
      exact ⟨ret_int (by have := HT.out; omega), HO.out, HG.out⟩
set_option maxHeartbeats 1000000 in
theorem heldIntSS_any (A : Option Addr) (n c K : Nat) (X : List (List Value)) (w : World) (hn : n ≤ 1000000000) (hK : K + tot X ≤ 1000000000000) (h : Reads2 w 1 A n (marksCInt K X)) :
    Calls Try.prog 19 #[.slice A n c, .int .i64 K] w fun e w' => e = .returned (.int .i64 ((K + tot X : Nat) : Int)) ∧ w = w' := by
  have HX := Lib.hid (show X.length = n by have := h.len; simpa using this)
  have H := Lib.hid h
  clear h
  go_enter Try.func19, Try.ntmps19
  go_wp2
  go_loop [1, 5] (fun q i => ∃ k : Nat, k ≤ n ∧ i = .int .i64 k ∧ q = .int .i64 ((K + tot (X.take k) : Nat) : Int)) (fun _ i => n - (intOf i).toNat)
  case atStart => exact ⟨0, Nat.zero_le _, rfl, rfl⟩
  case round =>
    obtain ⟨k, hk, rfl, rfl⟩ := hrel
    by_cases hlt : k < n
    · have hx : k < X.length := by rw [HX.out]; exact hlt
      have HT := Lib.hid (tot_take_succ hx)
      have HTT := Lib.hid (tot_take_le X (k + 1))
      obtain ⟨ad, Ai, ci, rfl, kc, _, _, hr⟩ := H.out.row (marksCInt_get hx)
      have HR := Lib.hid hr; clear hr
      generalize X[k] = l at *
      have hml : (marksInt (K + tot (X.take k)) l.length).length = l.length := by simp [marksInt]
      rw [hml] at kc HR
      clear hml
      go_wp2_with (go_at_call 69; refine (heldIntS_any Ai l.length ci (K + tot (X.take k)) _ (by have := HTT.out; have := HT.out; omega) HR.out).mono ?_; rintro e w' ⟨rfl, rfl⟩)
      go_round
      case rel => exact ⟨k + 1, by omega, by go_num, by have h := HT.out; congr 1; omega⟩
      case measure => simp [intOf]; omega
    · obtain rfl : k = n := by omega
      have HT := Lib.hid (tot_all (X := X) (k := k) (by simp [HX.out]))
      go_wp2
      go_ret
      exact ⟨ret_int (by have := HT.out; omega), rfl⟩

def marksCBool (K : Nat) : List (List Value) → List Cel
  | [] => []
  | l :: r => .inr (marksBool K l.length) :: marksCBool (K + l.length) r
@[simp] theorem length_marksCBool (K : Nat) (X : List (List Value)) : (marksCBool K X).length = X.length := by
  induction X generalizing K with
  | nil => rfl
  | cons a r ih => simp [marksCBool, ih]
theorem marksCBool_get {K : Nat} {X : List (List Value)} {j : Nat} (hj : j < X.length) : (marksCBool K X)[j]? = some (.inr (marksBool (K + tot (X.take j)) X[j].length)) := by
  induction X generalizing K j with
  | nil => simp at hj
  | cons a r ih =>
    cases j with
    | zero => simp [marksCBool, tot]
    | succ j =>
      have := ih (K := K + a.length) (j := j) (by simpa using hj)
      simp only [marksCBool, List.getElem?_cons_succ, this, List.take_succ_cons, List.getElem_cons_succ, tot, List.map_cons, List.sum_cons]
      simp [Nat.add_assoc]

end Go.Proofs.Ytcjmlakmigfkfaa
