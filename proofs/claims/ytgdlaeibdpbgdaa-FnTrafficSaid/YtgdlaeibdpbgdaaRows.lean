/-
  No cell of these rows narrows 'for every input' (looked for: loops, veiled, ifaces, maps, wideKeys, modest, calm, conditions, laid).
  DERIVED. THE GIVEN ROWS OF THIS SEAT. 12 by the template 'for every input the law returns true; each argument reads behind the call as it read before'; 0 by the template 'total and deterministic' (their statements: YtgdlaeibdpbgdaaTotals.lean).
  GIVEN WITH THE SEED: the statements are not yours to turn. If you find one false, say at which input.
  Laid BY PROGRAM, IN A SANDBOX (cutbox-rows.mjs): the forced cells as the released guide's own fill.sh prints them over the translation a4417968f0479e50… (all of the seat's roots in one cut). By AI agents, Wed Nov 11 2026. No macro, syntax, notation, axiom, sorry.
-/
import Derived.Test.YtgdlaeibdpbgdaaChecked
import GoSem.Claim
import GoSem.ClaimJoined
import GoSem.ClaimMapViews
import Derived.JoinedTies
import Derived.KernelRfl
namespace Go.Proofs.Ytgdlaeibdpbgdaa
/- THE CELL 'sum', in the pinned program and in every row, IS THE sha256 OF THE DUMP (.gsa) THAT YtgdlaeibdpbgdaaProg.lean LOADS. Nothing in Lean hashes anything: it is a label: what it is worth is what the hold of that sum in a sandbox is worth. -/
noncomputable def Try.pinned : Pinned := { name := "ytgdlaeibdpbgdaa", sum := "a4417968f0479e50d49864f87eb0085698f66df44a2613310f817c10fac063f5", checked := Try.checked }
namespace Rows
def none {H : Type} : Left H := { results := [], args := [] }

/-- 'laws.FnExactBusyWindow': WHATEVER THE INPUT: true; the input reads as it did. -/
def fnExactBusyWindowSpec : ChangeSpec := { name := "fnExactBusyWindow", fn := fun _ => fun
  | [d1, d2] => { results := [.lit (.bool true)], args := [d1, d2] }
  | _ => none }
def fnExactBusyWindowRow : OpenClaim := { program := "ytgdlaeibdpbgdaa", sum := "a4417968f0479e50d49864f87eb0085698f66df44a2613310f817c10fac063f5", func := "loop.example/g00940/laws.FnExactBusyWindow", spec := "fnExactBusyWindow", apart := false }
def FnExactBusyWindowSaid : Prop := fnExactBusyWindowRow.holds Try.pinned (OpenSpec.ofChange fnExactBusyWindowSpec)

/-- ITS FALSE NEIGHBOUR: 'it returns false'. Refute it at one input. -/
def fnExactBusyWindowWrong : ChangeSpec := { name := "fnExactBusyWindow", fn := fun _ => fun
  | [d1, d2] => { results := [.lit (.bool false)], args := [d1, d2] }
  | _ => none }
def FnExactBusyWindowWrongFalsely : Prop := fnExactBusyWindowRow.holds Try.pinned (OpenSpec.ofChange fnExactBusyWindowWrong)

/-- 'laws.FnExactHoursToClear': WHATEVER THE INPUT: true; the input reads as it did. -/
def fnExactHoursToClearSpec : ChangeSpec := { name := "fnExactHoursToClear", fn := fun _ => fun
  | [d1, d2] => { results := [.lit (.bool true)], args := [d1, d2] }
  | _ => none }
def fnExactHoursToClearRow : OpenClaim := { program := "ytgdlaeibdpbgdaa", sum := "a4417968f0479e50d49864f87eb0085698f66df44a2613310f817c10fac063f5", func := "loop.example/g00940/laws.FnExactHoursToClear", spec := "fnExactHoursToClear", apart := false }
def FnExactHoursToClearSaid : Prop := fnExactHoursToClearRow.holds Try.pinned (OpenSpec.ofChange fnExactHoursToClearSpec)

/-- ITS FALSE NEIGHBOUR: 'it returns false'. Refute it at one input. -/
def fnExactHoursToClearWrong : ChangeSpec := { name := "fnExactHoursToClear", fn := fun _ => fun
  | [d1, d2] => { results := [.lit (.bool false)], args := [d1, d2] }
  | _ => none }
def FnExactHoursToClearWrongFalsely : Prop := fnExactHoursToClearRow.holds Try.pinned (OpenSpec.ofChange fnExactHoursToClearWrong)

/-- 'laws.FnExactLeastCapacity': WHATEVER THE INPUT: true; the input reads as it did. -/
def fnExactLeastCapacitySpec : ChangeSpec := { name := "fnExactLeastCapacity", fn := fun _ => fun
  | [d1, d2] => { results := [.lit (.bool true)], args := [d1, d2] }
  | _ => none }
def fnExactLeastCapacityRow : OpenClaim := { program := "ytgdlaeibdpbgdaa", sum := "a4417968f0479e50d49864f87eb0085698f66df44a2613310f817c10fac063f5", func := "loop.example/g00940/laws.FnExactLeastCapacity", spec := "fnExactLeastCapacity", unfollowed := true, recurses := true, apart := false }
def FnExactLeastCapacitySaid : Prop := fnExactLeastCapacityRow.holds Try.pinned (OpenSpec.ofChange fnExactLeastCapacitySpec)

/-- ITS FALSE NEIGHBOUR: 'it returns false'. Refute it at one input. -/
def fnExactLeastCapacityWrong : ChangeSpec := { name := "fnExactLeastCapacity", fn := fun _ => fun
  | [d1, d2] => { results := [.lit (.bool false)], args := [d1, d2] }
  | _ => none }
def FnExactLeastCapacityWrongFalsely : Prop := fnExactLeastCapacityRow.holds Try.pinned (OpenSpec.ofChange fnExactLeastCapacityWrong)

/-- 'laws.FnExactWaitingAfter': WHATEVER THE INPUT: true; the input reads as it did. -/
def fnExactWaitingAfterSpec : ChangeSpec := { name := "fnExactWaitingAfter", fn := fun _ => fun
  | [d1, d2] => { results := [.lit (.bool true)], args := [d1, d2] }
  | _ => none }
def fnExactWaitingAfterRow : OpenClaim := { program := "ytgdlaeibdpbgdaa", sum := "a4417968f0479e50d49864f87eb0085698f66df44a2613310f817c10fac063f5", func := "loop.example/g00940/laws.FnExactWaitingAfter", spec := "fnExactWaitingAfter", apart := false }
def FnExactWaitingAfterSaid : Prop := fnExactWaitingAfterRow.holds Try.pinned (OpenSpec.ofChange fnExactWaitingAfterSpec)

/-- ITS FALSE NEIGHBOUR: 'it returns false'. Refute it at one input. -/
def fnExactWaitingAfterWrong : ChangeSpec := { name := "fnExactWaitingAfter", fn := fun _ => fun
  | [d1, d2] => { results := [.lit (.bool false)], args := [d1, d2] }
  | _ => none }
def FnExactWaitingAfterWrongFalsely : Prop := fnExactWaitingAfterRow.holds Try.pinned (OpenSpec.ofChange fnExactWaitingAfterWrong)

/-- 'laws.FnExactSentInHours': WHATEVER THE INPUT: true; the input reads as it did. -/
def fnExactSentInHoursSpec : ChangeSpec := { name := "fnExactSentInHours", fn := fun _ => fun
  | [d1, d2] => { results := [.lit (.bool true)], args := [d1, d2] }
  | _ => none }
def fnExactSentInHoursRow : OpenClaim := { program := "ytgdlaeibdpbgdaa", sum := "a4417968f0479e50d49864f87eb0085698f66df44a2613310f817c10fac063f5", func := "loop.example/g00940/laws.FnExactSentInHours", spec := "fnExactSentInHours", apart := false }
def FnExactSentInHoursSaid : Prop := fnExactSentInHoursRow.holds Try.pinned (OpenSpec.ofChange fnExactSentInHoursSpec)

/-- ITS FALSE NEIGHBOUR: 'it returns false'. Refute it at one input. -/
def fnExactSentInHoursWrong : ChangeSpec := { name := "fnExactSentInHours", fn := fun _ => fun
  | [d1, d2] => { results := [.lit (.bool false)], args := [d1, d2] }
  | _ => none }
def FnExactSentInHoursWrongFalsely : Prop := fnExactSentInHoursRow.holds Try.pinned (OpenSpec.ofChange fnExactSentInHoursWrong)

/-- 'laws.FnExactDelayOf': WHATEVER THE INPUT: true; the input reads as it did. -/
def fnExactDelayOfSpec : ChangeSpec := { name := "fnExactDelayOf", fn := fun _ => fun
  | [d1, d2, d3] => { results := [.lit (.bool true)], args := [d1, d2, d3] }
  | _ => none }
def fnExactDelayOfRow : OpenClaim := { program := "ytgdlaeibdpbgdaa", sum := "a4417968f0479e50d49864f87eb0085698f66df44a2613310f817c10fac063f5", func := "loop.example/g00940/laws.FnExactDelayOf", spec := "fnExactDelayOf", apart := false }
def FnExactDelayOfSaid : Prop := fnExactDelayOfRow.holds Try.pinned (OpenSpec.ofChange fnExactDelayOfSpec)

/-- ITS FALSE NEIGHBOUR: 'it returns false'. Refute it at one input. -/
def fnExactDelayOfWrong : ChangeSpec := { name := "fnExactDelayOf", fn := fun _ => fun
  | [d1, d2, d3] => { results := [.lit (.bool false)], args := [d1, d2, d3] }
  | _ => none }
def FnExactDelayOfWrongFalsely : Prop := fnExactDelayOfRow.holds Try.pinned (OpenSpec.ofChange fnExactDelayOfWrong)

/-- 'laws.FnExactWorstDelay': WHATEVER THE INPUT: true; the input reads as it did. -/
def fnExactWorstDelaySpec : ChangeSpec := { name := "fnExactWorstDelay", fn := fun _ => fun
  | [d1, d2] => { results := [.lit (.bool true)], args := [d1, d2] }
  | _ => none }
def fnExactWorstDelayRow : OpenClaim := { program := "ytgdlaeibdpbgdaa", sum := "a4417968f0479e50d49864f87eb0085698f66df44a2613310f817c10fac063f5", func := "loop.example/g00940/laws.FnExactWorstDelay", spec := "fnExactWorstDelay", apart := false }
def FnExactWorstDelaySaid : Prop := fnExactWorstDelayRow.holds Try.pinned (OpenSpec.ofChange fnExactWorstDelaySpec)

/-- ITS FALSE NEIGHBOUR: 'it returns false'. Refute it at one input. -/
def fnExactWorstDelayWrong : ChangeSpec := { name := "fnExactWorstDelay", fn := fun _ => fun
  | [d1, d2] => { results := [.lit (.bool false)], args := [d1, d2] }
  | _ => none }
def FnExactWorstDelayWrongFalsely : Prop := fnExactWorstDelayRow.holds Try.pinned (OpenSpec.ofChange fnExactWorstDelayWrong)

/-- 'laws.FnExactMostWaiting': WHATEVER THE INPUT: true; the input reads as it did. -/
def fnExactMostWaitingSpec : ChangeSpec := { name := "fnExactMostWaiting", fn := fun _ => fun
  | [d1, d2] => { results := [.lit (.bool true)], args := [d1, d2] }
  | _ => none }
def fnExactMostWaitingRow : OpenClaim := { program := "ytgdlaeibdpbgdaa", sum := "a4417968f0479e50d49864f87eb0085698f66df44a2613310f817c10fac063f5", func := "loop.example/g00940/laws.FnExactMostWaiting", spec := "fnExactMostWaiting", apart := false }
def FnExactMostWaitingSaid : Prop := fnExactMostWaitingRow.holds Try.pinned (OpenSpec.ofChange fnExactMostWaitingSpec)

/-- ITS FALSE NEIGHBOUR: 'it returns false'. Refute it at one input. -/
def fnExactMostWaitingWrong : ChangeSpec := { name := "fnExactMostWaiting", fn := fun _ => fun
  | [d1, d2] => { results := [.lit (.bool false)], args := [d1, d2] }
  | _ => none }
def FnExactMostWaitingWrongFalsely : Prop := fnExactMostWaitingRow.holds Try.pinned (OpenSpec.ofChange fnExactMostWaitingWrong)

/-- 'laws.FnExactMeanDelay': WHATEVER THE INPUT: true; the input reads as it did. -/
def fnExactMeanDelaySpec : ChangeSpec := { name := "fnExactMeanDelay", fn := fun _ => fun
  | [d1, d2] => { results := [.lit (.bool true)], args := [d1, d2] }
  | _ => none }
def fnExactMeanDelayRow : OpenClaim := { program := "ytgdlaeibdpbgdaa", sum := "a4417968f0479e50d49864f87eb0085698f66df44a2613310f817c10fac063f5", func := "loop.example/g00940/laws.FnExactMeanDelay", spec := "fnExactMeanDelay", apart := false }
def FnExactMeanDelaySaid : Prop := fnExactMeanDelayRow.holds Try.pinned (OpenSpec.ofChange fnExactMeanDelaySpec)

/-- ITS FALSE NEIGHBOUR: 'it returns false'. Refute it at one input. -/
def fnExactMeanDelayWrong : ChangeSpec := { name := "fnExactMeanDelay", fn := fun _ => fun
  | [d1, d2] => { results := [.lit (.bool false)], args := [d1, d2] }
  | _ => none }
def FnExactMeanDelayWrongFalsely : Prop := fnExactMeanDelayRow.holds Try.pinned (OpenSpec.ofChange fnExactMeanDelayWrong)

/-- 'laws.FnExactSharesOf': WHATEVER THE INPUT: true; the input reads as it did. -/
def fnExactSharesOfSpec : ChangeSpec := { name := "fnExactSharesOf", fn := fun _ => fun
  | [d1, d2] => { results := [.lit (.bool true)], args := [d1, d2] }
  | _ => none }
def fnExactSharesOfRow : OpenClaim := { program := "ytgdlaeibdpbgdaa", sum := "a4417968f0479e50d49864f87eb0085698f66df44a2613310f817c10fac063f5", func := "loop.example/g00940/laws.FnExactSharesOf", spec := "fnExactSharesOf", apart := false }
def FnExactSharesOfSaid : Prop := fnExactSharesOfRow.holds Try.pinned (OpenSpec.ofChange fnExactSharesOfSpec)

/-- ITS FALSE NEIGHBOUR: 'it returns false'. Refute it at one input. -/
def fnExactSharesOfWrong : ChangeSpec := { name := "fnExactSharesOf", fn := fun _ => fun
  | [d1, d2] => { results := [.lit (.bool false)], args := [d1, d2] }
  | _ => none }
def FnExactSharesOfWrongFalsely : Prop := fnExactSharesOfRow.holds Try.pinned (OpenSpec.ofChange fnExactSharesOfWrong)

/-- 'laws.FnDelays': WHATEVER THE INPUT: true; the input reads as it did. -/
def fnDelaysSpec : ChangeSpec := { name := "fnDelays", fn := fun _ => fun
  | [d1, d2] => { results := [.lit (.bool true)], args := [d1, d2] }
  | _ => none }
def fnDelaysRow : OpenClaim := { program := "ytgdlaeibdpbgdaa", sum := "a4417968f0479e50d49864f87eb0085698f66df44a2613310f817c10fac063f5", func := "loop.example/g00940/laws.FnDelays", spec := "fnDelays", apart := false }
def FnDelaysSaid : Prop := fnDelaysRow.holds Try.pinned (OpenSpec.ofChange fnDelaysSpec)

/-- ITS FALSE NEIGHBOUR: 'it returns false'. Refute it at one input. -/
def fnDelaysWrong : ChangeSpec := { name := "fnDelays", fn := fun _ => fun
  | [d1, d2] => { results := [.lit (.bool false)], args := [d1, d2] }
  | _ => none }
def FnDelaysWrongFalsely : Prop := fnDelaysRow.holds Try.pinned (OpenSpec.ofChange fnDelaysWrong)

/-- 'laws.FnTraffic': WHATEVER THE INPUT: true; the input reads as it did. -/
def fnTrafficSpec : ChangeSpec := { name := "fnTraffic", fn := fun _ => fun
  | [d1, d2] => { results := [.lit (.bool true)], args := [d1, d2] }
  | _ => none }
def fnTrafficRow : OpenClaim := { program := "ytgdlaeibdpbgdaa", sum := "a4417968f0479e50d49864f87eb0085698f66df44a2613310f817c10fac063f5", func := "loop.example/g00940/laws.FnTraffic", spec := "fnTraffic", unfollowed := true, recurses := true, apart := false }
def FnTrafficSaid : Prop := fnTrafficRow.holds Try.pinned (OpenSpec.ofChange fnTrafficSpec)

/-- ITS FALSE NEIGHBOUR: 'it returns false'. Refute it at one input. -/
def fnTrafficWrong : ChangeSpec := { name := "fnTraffic", fn := fun _ => fun
  | [d1, d2] => { results := [.lit (.bool false)], args := [d1, d2] }
  | _ => none }
def FnTrafficWrongFalsely : Prop := fnTrafficRow.holds Try.pinned (OpenSpec.ofChange fnTrafficWrong)

/- THE SECOND FORM. 'bulk': how many values and letters a reading holds, each counted each time it is reached (what is shared counts as often as it is met; a slice's spare places count too). A statement '..UptoSaid' is the law's where the arguments, and the package variables that the reading takes, are together of bulk at most 1048576: NARROWER than '..Said'. Prove '..Said' where nothing that the law and all that it calls make is longer than what came in: it says more and counts as full. Else prove '..UptoSaid'. A law counts once. -/
mutual
def uptoBulk {H : Type} : DataW H → Nat
  | .lit (.string bytes) => bytes.length + 1
  | .lit _ => 1
  | .nil => 1
  | .ptr d => uptoBulk d + 1
  | .slice elems spare => uptoBulkAll elems + uptoBulkAll spare + 1
  | .agg parts => uptoBulkAll parts + 1
  | .iface _ d => uptoBulk d + 1
  | .map entries => uptoBulkEntries entries + 1
  | .held _ => 1
def uptoBulkAll {H : Type} : List (DataW H) → Nat
  | [] => 0
  | d :: r => uptoBulk d + uptoBulkAll r
def uptoBulkEntries {H : Type} : List (Lit × DataW H) → Nat
  | [] => 0
  | x :: r => uptoBulkEntry x + uptoBulkEntries r
def uptoBulkEntry {H : Type} : Lit × DataW H → Nat
  | (.string bytes, d) => bytes.length + uptoBulk d + 1
  | (_, d) => uptoBulk d + 1
 end
def uptoSmall : (H : Type) → List (DataW H) → Bool := fun _ ds => decide (uptoBulkAll ds ≤ 1048576)
def OpenSpec.upto (s : _root_.Go.ChangeSpec) : _root_.Go.OpenSpec := { _root_.Go.OpenSpec.ofChange s with cond := some uptoSmall }

/-- 'laws.FnExactBusyWindow', WHERE WHAT IT READS IS OF BULK AT MOST 1048576: true; the input reads as it did. -/
def fnExactBusyWindowUptoRow : OpenClaim := { program := "ytgdlaeibdpbgdaa", sum := "a4417968f0479e50d49864f87eb0085698f66df44a2613310f817c10fac063f5", func := "loop.example/g00940/laws.FnExactBusyWindow", spec := "fnExactBusyWindow", apart := false, narrowed := true }
def FnExactBusyWindowUptoSaid : Prop := fnExactBusyWindowUptoRow.holds Try.pinned (OpenSpec.upto fnExactBusyWindowSpec)

/-- 'laws.FnExactHoursToClear', WHERE WHAT IT READS IS OF BULK AT MOST 1048576: true; the input reads as it did. -/
def fnExactHoursToClearUptoRow : OpenClaim := { program := "ytgdlaeibdpbgdaa", sum := "a4417968f0479e50d49864f87eb0085698f66df44a2613310f817c10fac063f5", func := "loop.example/g00940/laws.FnExactHoursToClear", spec := "fnExactHoursToClear", apart := false, narrowed := true }
def FnExactHoursToClearUptoSaid : Prop := fnExactHoursToClearUptoRow.holds Try.pinned (OpenSpec.upto fnExactHoursToClearSpec)

/-- 'laws.FnExactLeastCapacity', WHERE WHAT IT READS IS OF BULK AT MOST 1048576: true; the input reads as it did. -/
def fnExactLeastCapacityUptoRow : OpenClaim := { program := "ytgdlaeibdpbgdaa", sum := "a4417968f0479e50d49864f87eb0085698f66df44a2613310f817c10fac063f5", func := "loop.example/g00940/laws.FnExactLeastCapacity", spec := "fnExactLeastCapacity", unfollowed := true, recurses := true, apart := false, narrowed := true }
def FnExactLeastCapacityUptoSaid : Prop := fnExactLeastCapacityUptoRow.holds Try.pinned (OpenSpec.upto fnExactLeastCapacitySpec)

/-- 'laws.FnExactWaitingAfter', WHERE WHAT IT READS IS OF BULK AT MOST 1048576: true; the input reads as it did. -/
def fnExactWaitingAfterUptoRow : OpenClaim := { program := "ytgdlaeibdpbgdaa", sum := "a4417968f0479e50d49864f87eb0085698f66df44a2613310f817c10fac063f5", func := "loop.example/g00940/laws.FnExactWaitingAfter", spec := "fnExactWaitingAfter", apart := false, narrowed := true }
def FnExactWaitingAfterUptoSaid : Prop := fnExactWaitingAfterUptoRow.holds Try.pinned (OpenSpec.upto fnExactWaitingAfterSpec)

/-- 'laws.FnExactSentInHours', WHERE WHAT IT READS IS OF BULK AT MOST 1048576: true; the input reads as it did. -/
def fnExactSentInHoursUptoRow : OpenClaim := { program := "ytgdlaeibdpbgdaa", sum := "a4417968f0479e50d49864f87eb0085698f66df44a2613310f817c10fac063f5", func := "loop.example/g00940/laws.FnExactSentInHours", spec := "fnExactSentInHours", apart := false, narrowed := true }
def FnExactSentInHoursUptoSaid : Prop := fnExactSentInHoursUptoRow.holds Try.pinned (OpenSpec.upto fnExactSentInHoursSpec)

/-- 'laws.FnExactDelayOf', WHERE WHAT IT READS IS OF BULK AT MOST 1048576: true; the input reads as it did. -/
def fnExactDelayOfUptoRow : OpenClaim := { program := "ytgdlaeibdpbgdaa", sum := "a4417968f0479e50d49864f87eb0085698f66df44a2613310f817c10fac063f5", func := "loop.example/g00940/laws.FnExactDelayOf", spec := "fnExactDelayOf", apart := false, narrowed := true }
def FnExactDelayOfUptoSaid : Prop := fnExactDelayOfUptoRow.holds Try.pinned (OpenSpec.upto fnExactDelayOfSpec)

/-- 'laws.FnExactWorstDelay', WHERE WHAT IT READS IS OF BULK AT MOST 1048576: true; the input reads as it did. -/
def fnExactWorstDelayUptoRow : OpenClaim := { program := "ytgdlaeibdpbgdaa", sum := "a4417968f0479e50d49864f87eb0085698f66df44a2613310f817c10fac063f5", func := "loop.example/g00940/laws.FnExactWorstDelay", spec := "fnExactWorstDelay", apart := false, narrowed := true }
def FnExactWorstDelayUptoSaid : Prop := fnExactWorstDelayUptoRow.holds Try.pinned (OpenSpec.upto fnExactWorstDelaySpec)

/-- 'laws.FnExactMostWaiting', WHERE WHAT IT READS IS OF BULK AT MOST 1048576: true; the input reads as it did. -/
def fnExactMostWaitingUptoRow : OpenClaim := { program := "ytgdlaeibdpbgdaa", sum := "a4417968f0479e50d49864f87eb0085698f66df44a2613310f817c10fac063f5", func := "loop.example/g00940/laws.FnExactMostWaiting", spec := "fnExactMostWaiting", apart := false, narrowed := true }
def FnExactMostWaitingUptoSaid : Prop := fnExactMostWaitingUptoRow.holds Try.pinned (OpenSpec.upto fnExactMostWaitingSpec)

/-- 'laws.FnExactMeanDelay', WHERE WHAT IT READS IS OF BULK AT MOST 1048576: true; the input reads as it did. -/
def fnExactMeanDelayUptoRow : OpenClaim := { program := "ytgdlaeibdpbgdaa", sum := "a4417968f0479e50d49864f87eb0085698f66df44a2613310f817c10fac063f5", func := "loop.example/g00940/laws.FnExactMeanDelay", spec := "fnExactMeanDelay", apart := false, narrowed := true }
def FnExactMeanDelayUptoSaid : Prop := fnExactMeanDelayUptoRow.holds Try.pinned (OpenSpec.upto fnExactMeanDelaySpec)

/-- 'laws.FnExactSharesOf', WHERE WHAT IT READS IS OF BULK AT MOST 1048576: true; the input reads as it did. -/
def fnExactSharesOfUptoRow : OpenClaim := { program := "ytgdlaeibdpbgdaa", sum := "a4417968f0479e50d49864f87eb0085698f66df44a2613310f817c10fac063f5", func := "loop.example/g00940/laws.FnExactSharesOf", spec := "fnExactSharesOf", apart := false, narrowed := true }
def FnExactSharesOfUptoSaid : Prop := fnExactSharesOfUptoRow.holds Try.pinned (OpenSpec.upto fnExactSharesOfSpec)

/-- 'laws.FnDelays', WHERE WHAT IT READS IS OF BULK AT MOST 1048576: true; the input reads as it did. -/
def fnDelaysUptoRow : OpenClaim := { program := "ytgdlaeibdpbgdaa", sum := "a4417968f0479e50d49864f87eb0085698f66df44a2613310f817c10fac063f5", func := "loop.example/g00940/laws.FnDelays", spec := "fnDelays", apart := false, narrowed := true }
def FnDelaysUptoSaid : Prop := fnDelaysUptoRow.holds Try.pinned (OpenSpec.upto fnDelaysSpec)

/-- 'laws.FnTraffic', WHERE WHAT IT READS IS OF BULK AT MOST 1048576: true; the input reads as it did. -/
def fnTrafficUptoRow : OpenClaim := { program := "ytgdlaeibdpbgdaa", sum := "a4417968f0479e50d49864f87eb0085698f66df44a2613310f817c10fac063f5", func := "loop.example/g00940/laws.FnTraffic", spec := "fnTraffic", unfollowed := true, recurses := true, apart := false, narrowed := true }
def FnTrafficUptoSaid : Prop := fnTrafficUptoRow.holds Try.pinned (OpenSpec.upto fnTrafficSpec)

end Rows
end Go.Proofs.Ytgdlaeibdpbgdaa
