/-
  No cell of these rows narrows 'for every input' (looked for: loops, veiled, ifaces, maps, wideKeys, modest, calm, conditions, laid).
  DERIVED. THE GIVEN ROWS OF THIS SEAT. 8 by the template 'for every input the law returns true; each argument reads behind the call as it read before'; 0 by the template 'total and deterministic' (their statements: YtcjmlakmigfkfaaTotals.lean).
  GIVEN WITH THE SEED: the statements are not yours to turn. If you find one false, say at which input.
  Laid BY PROGRAM, IN A SANDBOX (cutbox-rows.mjs): the forced cells as the released guide's own fill.sh prints them over the translation 7da876639a11d8be… (all of the seat's roots in one cut). By AI agents, Wed Nov 11 2026. No macro, syntax, notation, axiom, sorry.
-/
import Derived.Test.YtcjmlakmigfkfaaChecked
import GoSem.Claim
import GoSem.ClaimJoined
import GoSem.ClaimMapViews
import Derived.JoinedTies
import Derived.KernelRfl
namespace Go.Proofs.Ytcjmlakmigfkfaa
/- THE CELL 'sum', in the pinned program and in every row, IS THE sha256 OF THE DUMP (.gsa) THAT YtcjmlakmigfkfaaProg.lean LOADS. Nothing in Lean hashes anything: it is a label: what it is worth is what the hold of that sum in a sandbox is worth. -/
noncomputable def Try.pinned : Pinned := { name := "ytcjmlakmigfkfaa", sum := "7da876639a11d8be5a0639987cf72ce4f68895a55b6c3ef60f9db51664fee073", checked := Try.checked }
namespace Rows
def none {H : Type} : Left H := { results := [], args := [] }

/-- 'laws.FnExactChangedBetween': WHATEVER THE INPUT: true; the input reads as it did. -/
def fnExactChangedBetweenSpec : ChangeSpec := { name := "fnExactChangedBetween", fn := fun _ => fun
  | [d1, d2] => { results := [.lit (.bool true)], args := [d1, d2] }
  | _ => none }
def fnExactChangedBetweenRow : OpenClaim := { program := "ytcjmlakmigfkfaa", sum := "7da876639a11d8be5a0639987cf72ce4f68895a55b6c3ef60f9db51664fee073", func := "loop.example/g00940/laws.FnExactChangedBetween", spec := "fnExactChangedBetween", unfollowed := true, recurses := true, apart := false }
def FnExactChangedBetweenSaid : Prop := fnExactChangedBetweenRow.holds Try.pinned (OpenSpec.ofChange fnExactChangedBetweenSpec)

/-- ITS FALSE NEIGHBOUR: 'it returns false'. Refute it at one input. -/
def fnExactChangedBetweenWrong : ChangeSpec := { name := "fnExactChangedBetween", fn := fun _ => fun
  | [d1, d2] => { results := [.lit (.bool false)], args := [d1, d2] }
  | _ => none }
def FnExactChangedBetweenWrongFalsely : Prop := fnExactChangedBetweenRow.holds Try.pinned (OpenSpec.ofChange fnExactChangedBetweenWrong)

/-- 'laws.FnExactTimeGaps': WHATEVER THE INPUT: true; the input reads as it did. -/
def fnExactTimeGapsSpec : ChangeSpec := { name := "fnExactTimeGaps", fn := fun _ => fun
  | [d1, d2, d3, d4] => { results := [.lit (.bool true)], args := [d1, d2, d3, d4] }
  | _ => none }
def fnExactTimeGapsRow : OpenClaim := { program := "ytcjmlakmigfkfaa", sum := "7da876639a11d8be5a0639987cf72ce4f68895a55b6c3ef60f9db51664fee073", func := "loop.example/g00940/laws.FnExactTimeGaps", spec := "fnExactTimeGaps", unfollowed := true, recurses := true, apart := false }
def FnExactTimeGapsSaid : Prop := fnExactTimeGapsRow.holds Try.pinned (OpenSpec.ofChange fnExactTimeGapsSpec)

/-- ITS FALSE NEIGHBOUR: 'it returns false'. Refute it at one input. -/
def fnExactTimeGapsWrong : ChangeSpec := { name := "fnExactTimeGaps", fn := fun _ => fun
  | [d1, d2, d3, d4] => { results := [.lit (.bool false)], args := [d1, d2, d3, d4] }
  | _ => none }
def FnExactTimeGapsWrongFalsely : Prop := fnExactTimeGapsRow.holds Try.pinned (OpenSpec.ofChange fnExactTimeGapsWrong)

/-- 'laws.FnExactRebuildLog': WHATEVER THE INPUT: true; the input reads as it did. -/
def fnExactRebuildLogSpec : ChangeSpec := { name := "fnExactRebuildLog", fn := fun _ => fun
  | [d1, d2, d3, d4] => { results := [.lit (.bool true)], args := [d1, d2, d3, d4] }
  | _ => none }
def fnExactRebuildLogRow : OpenClaim := { program := "ytcjmlakmigfkfaa", sum := "7da876639a11d8be5a0639987cf72ce4f68895a55b6c3ef60f9db51664fee073", func := "loop.example/g00940/laws.FnExactRebuildLog", spec := "fnExactRebuildLog", unfollowed := true, recurses := true, apart := false }
def FnExactRebuildLogSaid : Prop := fnExactRebuildLogRow.holds Try.pinned (OpenSpec.ofChange fnExactRebuildLogSpec)

/-- ITS FALSE NEIGHBOUR: 'it returns false'. Refute it at one input. -/
def fnExactRebuildLogWrong : ChangeSpec := { name := "fnExactRebuildLog", fn := fun _ => fun
  | [d1, d2, d3, d4] => { results := [.lit (.bool false)], args := [d1, d2, d3, d4] }
  | _ => none }
def FnExactRebuildLogWrongFalsely : Prop := fnExactRebuildLogRow.holds Try.pinned (OpenSpec.ofChange fnExactRebuildLogWrong)

/-- 'laws.FnExactFillLog': WHATEVER THE INPUT: true; the input reads as it did. -/
def fnExactFillLogSpec : ChangeSpec := { name := "fnExactFillLog", fn := fun _ => fun
  | [d1, d2, d3, d4, d5] => { results := [.lit (.bool true)], args := [d1, d2, d3, d4, d5] }
  | _ => none }
def fnExactFillLogRow : OpenClaim := { program := "ytcjmlakmigfkfaa", sum := "7da876639a11d8be5a0639987cf72ce4f68895a55b6c3ef60f9db51664fee073", func := "loop.example/g00940/laws.FnExactFillLog", spec := "fnExactFillLog", unfollowed := true, recurses := true, apart := false }
def FnExactFillLogSaid : Prop := fnExactFillLogRow.holds Try.pinned (OpenSpec.ofChange fnExactFillLogSpec)

/-- ITS FALSE NEIGHBOUR: 'it returns false'. Refute it at one input. -/
def fnExactFillLogWrong : ChangeSpec := { name := "fnExactFillLog", fn := fun _ => fun
  | [d1, d2, d3, d4, d5] => { results := [.lit (.bool false)], args := [d1, d2, d3, d4, d5] }
  | _ => none }
def FnExactFillLogWrongFalsely : Prop := fnExactFillLogRow.holds Try.pinned (OpenSpec.ofChange fnExactFillLogWrong)

/-- 'laws.FnFilled': WHATEVER THE INPUT: true; the input reads as it did. -/
def fnFilledSpec : ChangeSpec := { name := "fnFilled", fn := fun _ => fun
  | [d1, d2] => { results := [.lit (.bool true)], args := [d1, d2] }
  | _ => none }
def fnFilledRow : OpenClaim := { program := "ytcjmlakmigfkfaa", sum := "7da876639a11d8be5a0639987cf72ce4f68895a55b6c3ef60f9db51664fee073", func := "loop.example/g00940/laws.FnFilled", spec := "fnFilled", unfollowed := true, recurses := true, apart := false }
def FnFilledSaid : Prop := fnFilledRow.holds Try.pinned (OpenSpec.ofChange fnFilledSpec)

/-- ITS FALSE NEIGHBOUR: 'it returns false'. Refute it at one input. -/
def fnFilledWrong : ChangeSpec := { name := "fnFilled", fn := fun _ => fun
  | [d1, d2] => { results := [.lit (.bool false)], args := [d1, d2] }
  | _ => none }
def FnFilledWrongFalsely : Prop := fnFilledRow.holds Try.pinned (OpenSpec.ofChange fnFilledWrong)

/-- 'laws.FnRebuilt': WHATEVER THE INPUT: true; the input reads as it did. -/
def fnRebuiltSpec : ChangeSpec := { name := "fnRebuilt", fn := fun _ => fun
  | [d1, d2] => { results := [.lit (.bool true)], args := [d1, d2] }
  | _ => none }
def fnRebuiltRow : OpenClaim := { program := "ytcjmlakmigfkfaa", sum := "7da876639a11d8be5a0639987cf72ce4f68895a55b6c3ef60f9db51664fee073", func := "loop.example/g00940/laws.FnRebuilt", spec := "fnRebuilt", unfollowed := true, recurses := true, apart := false }
def FnRebuiltSaid : Prop := fnRebuiltRow.holds Try.pinned (OpenSpec.ofChange fnRebuiltSpec)

/-- ITS FALSE NEIGHBOUR: 'it returns false'. Refute it at one input. -/
def fnRebuiltWrong : ChangeSpec := { name := "fnRebuilt", fn := fun _ => fun
  | [d1, d2] => { results := [.lit (.bool false)], args := [d1, d2] }
  | _ => none }
def FnRebuiltWrongFalsely : Prop := fnRebuiltRow.holds Try.pinned (OpenSpec.ofChange fnRebuiltWrong)

/-- 'laws.FnExactAreTickets': WHATEVER THE INPUT: true; the input reads as it did. -/
def fnExactAreTicketsSpec : ChangeSpec := { name := "fnExactAreTickets", fn := fun _ => fun
  | [d] => { results := [.lit (.bool true)], args := [d] }
  | _ => none }
def fnExactAreTicketsRow : OpenClaim := { program := "ytcjmlakmigfkfaa", sum := "7da876639a11d8be5a0639987cf72ce4f68895a55b6c3ef60f9db51664fee073", func := "loop.example/g00940/laws.FnExactAreTickets", spec := "fnExactAreTickets", apart := false }
def FnExactAreTicketsSaid : Prop := fnExactAreTicketsRow.holds Try.pinned (OpenSpec.ofChange fnExactAreTicketsSpec)

/-- ITS FALSE NEIGHBOUR: 'it returns false'. Refute it at one input. -/
def fnExactAreTicketsWrong : ChangeSpec := { name := "fnExactAreTickets", fn := fun _ => fun
  | [d] => { results := [.lit (.bool false)], args := [d] }
  | _ => none }
def FnExactAreTicketsWrongFalsely : Prop := fnExactAreTicketsRow.holds Try.pinned (OpenSpec.ofChange fnExactAreTicketsWrong)

/-- 'laws.FnExactCountStates': WHATEVER THE INPUT: true; the input reads as it did. -/
def fnExactCountStatesSpec : ChangeSpec := { name := "fnExactCountStates", fn := fun _ => fun
  | [d] => { results := [.lit (.bool true)], args := [d] }
  | _ => none }
def fnExactCountStatesRow : OpenClaim := { program := "ytcjmlakmigfkfaa", sum := "7da876639a11d8be5a0639987cf72ce4f68895a55b6c3ef60f9db51664fee073", func := "loop.example/g00940/laws.FnExactCountStates", spec := "fnExactCountStates", apart := false }
def FnExactCountStatesSaid : Prop := fnExactCountStatesRow.holds Try.pinned (OpenSpec.ofChange fnExactCountStatesSpec)

/-- ITS FALSE NEIGHBOUR: 'it returns false'. Refute it at one input. -/
def fnExactCountStatesWrong : ChangeSpec := { name := "fnExactCountStates", fn := fun _ => fun
  | [d] => { results := [.lit (.bool false)], args := [d] }
  | _ => none }
def FnExactCountStatesWrongFalsely : Prop := fnExactCountStatesRow.holds Try.pinned (OpenSpec.ofChange fnExactCountStatesWrong)

/- THE SECOND FORM. 'bulk': how many values and letters a reading holds, each counted each time it is reached (what is shared counts as often as it is met; a slice's spare places count too). A statement '..UptoSaid' is the law's where the arguments, and the package variables that the reading takes, are together of bulk at most 1048576: NARROWER than '..Said'. Prove '..Said' where nothing that the law and all that it calls make is longer than what came in: it says more and counts as full. Else prove '..UptoSaid'. A law counts once. -/
mutual
def uptoBulk {H : Type} : DataW H → Nat
  | .lit (.string bytes) => bytes.length + 1
  | .lit _ => 1
  | .nil => 1
  | .ptr d => uptoBulk d + 1
  | .slice elems spare => uptoBulkAll elems + uptoBulkAll spare + 1
  | .agg parts => uptoBulkAll parts + 1
  | .iface _ d => uptoBulk d + 1
  | .map entries => uptoBulkEntries entries + 1
  | .held _ => 1
def uptoBulkAll {H : Type} : List (DataW H) → Nat
  | [] => 0
  | d :: r => uptoBulk d + uptoBulkAll r
def uptoBulkEntries {H : Type} : List (Lit × DataW H) → Nat
  | [] => 0
  | x :: r => uptoBulkEntry x + uptoBulkEntries r
def uptoBulkEntry {H : Type} : Lit × DataW H → Nat
  | (.string bytes, d) => bytes.length + uptoBulk d + 1
  | (_, d) => uptoBulk d + 1
 end
def uptoSmall : (H : Type) → List (DataW H) → Bool := fun _ ds => decide (uptoBulkAll ds ≤ 1048576)
def OpenSpec.upto (s : _root_.Go.ChangeSpec) : _root_.Go.OpenSpec := { _root_.Go.OpenSpec.ofChange s with cond := some uptoSmall }

/-- 'laws.FnExactChangedBetween', WHERE WHAT IT READS IS OF BULK AT MOST 1048576: true; the input reads as it did. -/
def fnExactChangedBetweenUptoRow : OpenClaim := { program := "ytcjmlakmigfkfaa", sum := "7da876639a11d8be5a0639987cf72ce4f68895a55b6c3ef60f9db51664fee073", func := "loop.example/g00940/laws.FnExactChangedBetween", spec := "fnExactChangedBetween", unfollowed := true, recurses := true, apart := false, narrowed := true }
def FnExactChangedBetweenUptoSaid : Prop := fnExactChangedBetweenUptoRow.holds Try.pinned (OpenSpec.upto fnExactChangedBetweenSpec)

/-- 'laws.FnExactTimeGaps', WHERE WHAT IT READS IS OF BULK AT MOST 1048576: true; the input reads as it did. -/
def fnExactTimeGapsUptoRow : OpenClaim := { program := "ytcjmlakmigfkfaa", sum := "7da876639a11d8be5a0639987cf72ce4f68895a55b6c3ef60f9db51664fee073", func := "loop.example/g00940/laws.FnExactTimeGaps", spec := "fnExactTimeGaps", unfollowed := true, recurses := true, apart := false, narrowed := true }
def FnExactTimeGapsUptoSaid : Prop := fnExactTimeGapsUptoRow.holds Try.pinned (OpenSpec.upto fnExactTimeGapsSpec)

/-- 'laws.FnExactRebuildLog', WHERE WHAT IT READS IS OF BULK AT MOST 1048576: true; the input reads as it did. -/
def fnExactRebuildLogUptoRow : OpenClaim := { program := "ytcjmlakmigfkfaa", sum := "7da876639a11d8be5a0639987cf72ce4f68895a55b6c3ef60f9db51664fee073", func := "loop.example/g00940/laws.FnExactRebuildLog", spec := "fnExactRebuildLog", unfollowed := true, recurses := true, apart := false, narrowed := true }
def FnExactRebuildLogUptoSaid : Prop := fnExactRebuildLogUptoRow.holds Try.pinned (OpenSpec.upto fnExactRebuildLogSpec)

/-- 'laws.FnExactFillLog', WHERE WHAT IT READS IS OF BULK AT MOST 1048576: true; the input reads as it did. -/
def fnExactFillLogUptoRow : OpenClaim := { program := "ytcjmlakmigfkfaa", sum := "7da876639a11d8be5a0639987cf72ce4f68895a55b6c3ef60f9db51664fee073", func := "loop.example/g00940/laws.FnExactFillLog", spec := "fnExactFillLog", unfollowed := true, recurses := true, apart := false, narrowed := true }
def FnExactFillLogUptoSaid : Prop := fnExactFillLogUptoRow.holds Try.pinned (OpenSpec.upto fnExactFillLogSpec)

/-- 'laws.FnFilled', WHERE WHAT IT READS IS OF BULK AT MOST 1048576: true; the input reads as it did. -/
def fnFilledUptoRow : OpenClaim := { program := "ytcjmlakmigfkfaa", sum := "7da876639a11d8be5a0639987cf72ce4f68895a55b6c3ef60f9db51664fee073", func := "loop.example/g00940/laws.FnFilled", spec := "fnFilled", unfollowed := true, recurses := true, apart := false, narrowed := true }
def FnFilledUptoSaid : Prop := fnFilledUptoRow.holds Try.pinned (OpenSpec.upto fnFilledSpec)

/-- 'laws.FnRebuilt', WHERE WHAT IT READS IS OF BULK AT MOST 1048576: true; the input reads as it did. -/
def fnRebuiltUptoRow : OpenClaim := { program := "ytcjmlakmigfkfaa", sum := "7da876639a11d8be5a0639987cf72ce4f68895a55b6c3ef60f9db51664fee073", func := "loop.example/g00940/laws.FnRebuilt", spec := "fnRebuilt", unfollowed := true, recurses := true, apart := false, narrowed := true }
def FnRebuiltUptoSaid : Prop := fnRebuiltUptoRow.holds Try.pinned (OpenSpec.upto fnRebuiltSpec)

/-- 'laws.FnExactAreTickets', WHERE WHAT IT READS IS OF BULK AT MOST 1048576: true; the input reads as it did. -/
def fnExactAreTicketsUptoRow : OpenClaim := { program := "ytcjmlakmigfkfaa", sum := "7da876639a11d8be5a0639987cf72ce4f68895a55b6c3ef60f9db51664fee073", func := "loop.example/g00940/laws.FnExactAreTickets", spec := "fnExactAreTickets", apart := false, narrowed := true }
def FnExactAreTicketsUptoSaid : Prop := fnExactAreTicketsUptoRow.holds Try.pinned (OpenSpec.upto fnExactAreTicketsSpec)

/-- 'laws.FnExactCountStates', WHERE WHAT IT READS IS OF BULK AT MOST 1048576: true; the input reads as it did. -/
def fnExactCountStatesUptoRow : OpenClaim := { program := "ytcjmlakmigfkfaa", sum := "7da876639a11d8be5a0639987cf72ce4f68895a55b6c3ef60f9db51664fee073", func := "loop.example/g00940/laws.FnExactCountStates", spec := "fnExactCountStates", apart := false, narrowed := true }
def FnExactCountStatesUptoSaid : Prop := fnExactCountStatesUptoRow.holds Try.pinned (OpenSpec.upto fnExactCountStatesSpec)

end Rows
end Go.Proofs.Ytcjmlakmigfkfaa
