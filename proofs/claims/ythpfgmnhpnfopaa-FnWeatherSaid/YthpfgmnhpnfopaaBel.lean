/- A region that draws its order, only reads, and calls functions that make memory but always answer alike: one walk, in the class of the worlds that leave what was there alone. Speaks of no function. No conditions. -/
import Derived.Test.YthpfgmnhpnfopaaLib
namespace Go.Proofs.Ythpfgmnhpnfopaa
set_option linter.unusedSimpArgs false
set_option linter.unusedVariables false
open Go.RowKit

/-- The worlds that leave alone what S holds. -/
def InB (S : World) : Type := {V : World // Below S.heap.size S V}
instance (S : World) : Nonempty (InB S) := ⟨⟨S, Below.refl _ _⟩⟩
theorem wp_region_below {P : Program} {id : Nat} {Q : Exit → Act → World → Prop} {a : Act} {w : World} {l : List Oper} (S : World) (hm : P.follows .mixedOrders = true) (hB : Region.lexB .any l.toArray = true) (hw : Below S.heap.size S w)
    (h : wpQuiet P l.toArray (fun w' => ∃ V : InB S, w' = V.1) (fun a' => ∀ w', (∃ V : InB S, w' = V.1) → Q .normal a' w') l a) : (Code.region id l.toArray true).wp P Q a w :=
  wp_region_quiet (C := fun w' => ∃ V : InB S, w' = V.1) hm hB ⟨⟨_, hw.drew⟩, rfl⟩ (by simpa using h)
theorem bel_of {P : Program} {f : FuncId} {args : Array Value} {S : World} {V : InB S} {v : Value} (h : Calls P f args V.1 fun e w' => e = .returned v ∧ Below V.1.heap.size V.1 w') : Calls P f args V.1 fun e w'' => e = .returned v ∧ ∃ V' : InB S, w'' = V'.1 :=
  h.mono fun _ w' ⟨he, hb⟩ => ⟨he, ⟨w', V.2.trans (hb.mono V.2.size)⟩, rfl⟩
theorem bel_same {P : Program} {f : FuncId} {args : Array Value} {S : World} {V : InB S} {v : Value} (h : Calls P f args V.1 fun e w' => e = .returned v ∧ V.1 = w') : Calls P f args V.1 fun e w'' => e = .returned v ∧ ∃ V' : InB S, w'' = V'.1 :=
  h.mono fun _ _ ⟨he, hb⟩ => ⟨he, V, hb.symm⟩
theorem bel_quiet {P : Program} {f : FuncId} {args : Array Value} {S : World} {V : InB S} {v : Value} (h : Calls P f args V.1 fun e w' => e = .returned v ∧ Quiet V.1 w') : Calls P f args V.1 fun e w'' => e = .returned v ∧ ∃ V' : InB S, w'' = V'.1 :=
  bel_of (h.mono fun _ _ ⟨he, hq⟩ => ⟨he, below_of_quiet hq⟩)
theorem InB.cell {S : World} (V : InB S) {p : Addr} {u : Value} (h : S.cell? p = some u) : V.1.cell? p = some u := (V.2.cell (World.block_lt_of_cell? S p h)).trans h
theorem InB.reads {S : World} (V : InB S) {k n : Nat} {A : Option Addr} {xs : List Value} (h : Reads S k A n xs) : Reads V.1 k A n xs := h.below V.2
end Go.Proofs.Ythpfgmnhpnfopaa
