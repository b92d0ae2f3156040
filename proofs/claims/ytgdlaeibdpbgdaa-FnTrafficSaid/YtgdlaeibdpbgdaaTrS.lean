/- Contract of SharesOf of the spec. No conditions. -/
import Derived.Test.YtgdlaeibdpbgdaaTr1
import Derived.Test.YtgdlaeibdpbgdaaRise
import Derived.Test.YtgdlaeibdpbgdaaNest
import Derived.Test.YtgdlaeibdpbgdaaShare
namespace Go.Proofs.Ytgdlaeibdpbgdaa
set_option linter.unusedSimpArgs false
set_option linter.unusedVariables false
open Go.RowKit

theorem take_full {α : Type} {l : List α} {n : Nat} (h : l.length = n) : l.take n = l := List.take_of_length_le (by omega)
theorem ints_set (S : List Int) (b : Nat) (v : Int) : (ints S).set b (.int .i64 v) = ints (S.set b v) := by simp [ints, List.map_set]
theorem row_setOther {w : World} {base g g' i k n c : Nat} {e : TypeId} {u : Value} {xs : List Value} (h : w.ownsRow base e k (.slice (some ⟨g, 0, none⟩) n c) n xs) (hg : g ≠ g') : (w.setCell ⟨g', i, none⟩ u).ownsRow base e k (.slice (some ⟨g, 0, none⟩) n c) n xs :=
  row_same h fun q hq => Below.heap_setCell _ _ _ _ (by
    have : q = g := by simpa [Value.ownBlock] using hq.symm
    subst this
    exact hg)
theorem own_setCell {w : World} {base b i k n : Nat} {e : TypeId} {v u : Value} {xs : List Value} (h : w.ownsRow base e k v n xs) (hb : b < base) : (w.setCell ⟨b, i, none⟩ u).ownsRow base e k v n xs :=
  row_same h fun q hq => Below.heap_setCell _ _ _ _ (by have := (h.lt q hq).1; simp; omega)
/-- A row in a block below stays. -/
theorem own_belowAt {w w' : World} {base g k n c B : Nat} {e : TypeId} {xs : List Value} (h : w.ownsRow base e k (.slice (some ⟨g, 0, none⟩) n c) n xs) (hg : g < B) (hb : Below B w w') : w'.ownsRow base e k (.slice (some ⟨g, 0, none⟩) n c) n xs :=
  row_same h fun q hq => hb.block q (by
    have : q = g := by simpa [Value.ownBlock] using hq.symm
    omega)
theorem rests_nonneg {p s : Int} (hs : 0 < s) (ns : List Int) : ∀ x ∈ rests p s ns, 0 ≤ x := by
  intro x hx
  simp only [rests, List.mem_map] at hx
  obtain ⟨n, _, rfl⟩ := hx
  exact Int.emod_nonneg _ (by omega)
theorem sumL_sumI (l : List Int) : sumL l = sumI l := by
  induction l with
  | nil => rfl
  | cons x r ih => simp only [sumL, sumI, ih]
theorem below_drew {B : Nat} {w w' : World} (h : Below B w w') : Below B w w'.drew := ⟨h.os, h.tape, h.output, h.size, h.block⟩
def sharesR (xs : List Int) (p : Int) : List Int × Bool := if inB (xs.length : Int) 1 20 = true ∧ allB 0 12000 xs = true ∧ inB p 1 1000 = true ∧ sumI xs ≠ 0 then (sharesOf p xs, true) else ([], false)
theorem sharesR_len (xs : List Int) (p : Int) : (sharesR xs p).1.length ≤ 20 := by
  unfold sharesR
  split
  · rename_i h
    have := inB_true.1 h.1
    simp
    omega
  · simp
/-- The served ones, as a list of places. -/
def Served (n : Nat) (D R : List Int) : Prop := ∀ (i : Nat) (x : Int), i < n → R[i]? = some x → hasB D (i : Int) = decide (x < 0)
theorem Served.start {n : Nat} {R : List Int} (h : ∀ x ∈ R, 0 ≤ x) : Served n [] R := fun i x _ hx => by
  have := h x (List.mem_of_getElem? hx)
  have e : ¬ x < 0 := by omega
  simp [hasB, e]
theorem Served.step {n b : Nat} {D R : List Int} (h : Served n D R) (hb : b < R.length) : Served n (D ++ [(b : Int)]) (R.set b (-1)) := by
  intro i x hi hx
  by_cases e : b = i
  · subst e
    rw [List.getElem?_set_self hb] at hx
    injection hx with hx
    subst hx
    simp [hasB]
  · rw [List.getElem?_set_ne e] at hx
    have h1 := h i x hi hx
    have h2 : ¬ (b : Int) = (i : Int) := by omega
    unfold hasB at h1 ⊢
    rw [List.any_append, h1]
    simp [h2]
end Go.Proofs.Ytgdlaeibdpbgdaa
