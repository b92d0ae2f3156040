/-
  No cell of these rows narrows 'for every input' (looked for: loops, veiled, ifaces, maps, wideKeys, modest, calm, conditions, laid).
  DERIVED. THE GIVEN ROWS OF THIS SEAT. 12 by the template 'for every input the law returns true; each argument reads behind the call as it read before'; 0 by the template 'total and deterministic' (their statements: YtjibdabedagghaaTotals.lean).
  GIVEN WITH THE SEED: the statements are not yours to turn. If you find one false, say at which input.
  Laid BY PROGRAM, IN A SANDBOX (cutbox-rows.mjs): the forced cells as the released guide's own fill.sh prints them over the translation eeba53a8ffcecb1e… (all of the seat's roots in one cut). By AI agents, Wed Nov 11 2026. No macro, syntax, notation, axiom, sorry.
-/
import Derived.Test.YtjibdabedagghaaChecked
import GoSem.Claim
import GoSem.ClaimJoined
import GoSem.ClaimMapViews
import Derived.JoinedTies
import Derived.KernelRfl
namespace Go.Proofs.Ytjibdabedagghaa
/- THE CELL 'sum', in the pinned program and in every row, IS THE sha256 OF THE DUMP (.gsa) THAT YtjibdabedagghaaProg.lean LOADS. Nothing in Lean hashes anything: it is a label: what it is worth is what the hold of that sum in a sandbox is worth. -/
noncomputable def Try.pinned : Pinned := { name := "ytjibdabedagghaa", sum := "eeba53a8ffcecb1ed67d0aafc6c1f8d0f400c02a0d680bc9ae20e7b6e47ccac9", checked := Try.checked }
namespace Rows
def none {H : Type} : Left H := { results := [], args := [] }

/-- 'laws.FnExactDaysLeft': WHATEVER THE INPUT: true; the input reads as it did. -/
def fnExactDaysLeftSpec : ChangeSpec := { name := "fnExactDaysLeft", fn := fun _ => fun
  | [d] => { results := [.lit (.bool true)], args := [d] }
  | _ => none }
def fnExactDaysLeftRow : OpenClaim := { program := "ytjibdabedagghaa", sum := "eeba53a8ffcecb1ed67d0aafc6c1f8d0f400c02a0d680bc9ae20e7b6e47ccac9", func := "loop.example/g00940/laws.FnExactDaysLeft", spec := "fnExactDaysLeft", plainKeys := false, apart := false }
def FnExactDaysLeftSaid : Prop := fnExactDaysLeftRow.holds Try.pinned (OpenSpec.ofChange fnExactDaysLeftSpec)

/-- ITS FALSE NEIGHBOUR: 'it returns false'. Refute it at one input. -/
def fnExactDaysLeftWrong : ChangeSpec := { name := "fnExactDaysLeft", fn := fun _ => fun
  | [d] => { results := [.lit (.bool false)], args := [d] }
  | _ => none }
def FnExactDaysLeftWrongFalsely : Prop := fnExactDaysLeftRow.holds Try.pinned (OpenSpec.ofChange fnExactDaysLeftWrong)

/-- 'laws.FnExactAreGears': WHATEVER THE INPUT: true; the input reads as it did. -/
def fnExactAreGearsSpec : ChangeSpec := { name := "fnExactAreGears", fn := fun _ => fun
  | [d] => { results := [.lit (.bool true)], args := [d] }
  | _ => none }
def fnExactAreGearsRow : OpenClaim := { program := "ytjibdabedagghaa", sum := "eeba53a8ffcecb1ed67d0aafc6c1f8d0f400c02a0d680bc9ae20e7b6e47ccac9", func := "loop.example/g00940/laws.FnExactAreGears", spec := "fnExactAreGears", unfollowed := true, recurses := true, plainKeys := false, apart := false }
def FnExactAreGearsSaid : Prop := fnExactAreGearsRow.holds Try.pinned (OpenSpec.ofChange fnExactAreGearsSpec)

/-- ITS FALSE NEIGHBOUR: 'it returns false'. Refute it at one input. -/
def fnExactAreGearsWrong : ChangeSpec := { name := "fnExactAreGears", fn := fun _ => fun
  | [d] => { results := [.lit (.bool false)], args := [d] }
  | _ => none }
def FnExactAreGearsWrongFalsely : Prop := fnExactAreGearsRow.holds Try.pinned (OpenSpec.ofChange fnExactAreGearsWrong)

/-- 'laws.FnExactFirstToFail': WHATEVER THE INPUT: true; the input reads as it did. -/
def fnExactFirstToFailSpec : ChangeSpec := { name := "fnExactFirstToFail", fn := fun _ => fun
  | [d] => { results := [.lit (.bool true)], args := [d] }
  | _ => none }
def fnExactFirstToFailRow : OpenClaim := { program := "ytjibdabedagghaa", sum := "eeba53a8ffcecb1ed67d0aafc6c1f8d0f400c02a0d680bc9ae20e7b6e47ccac9", func := "loop.example/g00940/laws.FnExactFirstToFail", spec := "fnExactFirstToFail", unfollowed := true, recurses := true, plainKeys := false, apart := false }
def FnExactFirstToFailSaid : Prop := fnExactFirstToFailRow.holds Try.pinned (OpenSpec.ofChange fnExactFirstToFailSpec)

/-- ITS FALSE NEIGHBOUR: 'it returns false'. Refute it at one input. -/
def fnExactFirstToFailWrong : ChangeSpec := { name := "fnExactFirstToFail", fn := fun _ => fun
  | [d] => { results := [.lit (.bool false)], args := [d] }
  | _ => none }
def FnExactFirstToFailWrongFalsely : Prop := fnExactFirstToFailRow.holds Try.pinned (OpenSpec.ofChange fnExactFirstToFailWrong)

/-- 'laws.FnExactWearOn': WHATEVER THE INPUT: true; the input reads as it did. -/
def fnExactWearOnSpec : ChangeSpec := { name := "fnExactWearOn", fn := fun _ => fun
  | [d1, d2, d3] => { results := [.lit (.bool true)], args := [d1, d2, d3] }
  | _ => none }
def fnExactWearOnRow : OpenClaim := { program := "ytjibdabedagghaa", sum := "eeba53a8ffcecb1ed67d0aafc6c1f8d0f400c02a0d680bc9ae20e7b6e47ccac9", func := "loop.example/g00940/laws.FnExactWearOn", spec := "fnExactWearOn", plainKeys := false, apart := false }
def FnExactWearOnSaid : Prop := fnExactWearOnRow.holds Try.pinned (OpenSpec.ofChange fnExactWearOnSpec)

/-- ITS FALSE NEIGHBOUR: 'it returns false'. Refute it at one input. -/
def fnExactWearOnWrong : ChangeSpec := { name := "fnExactWearOn", fn := fun _ => fun
  | [d1, d2, d3] => { results := [.lit (.bool false)], args := [d1, d2, d3] }
  | _ => none }
def FnExactWearOnWrongFalsely : Prop := fnExactWearOnRow.holds Try.pinned (OpenSpec.ofChange fnExactWearOnWrong)

/-- 'laws.FnExactRepairsOf': WHATEVER THE INPUT: true; the input reads as it did. -/
def fnExactRepairsOfSpec : ChangeSpec := { name := "fnExactRepairsOf", fn := fun _ => fun
  | [d1, d2] => { results := [.lit (.bool true)], args := [d1, d2] }
  | _ => none }
def fnExactRepairsOfRow : OpenClaim := { program := "ytjibdabedagghaa", sum := "eeba53a8ffcecb1ed67d0aafc6c1f8d0f400c02a0d680bc9ae20e7b6e47ccac9", func := "loop.example/g00940/laws.FnExactRepairsOf", spec := "fnExactRepairsOf", unfollowed := true, recurses := true, plainKeys := false, apart := false }
def FnExactRepairsOfSaid : Prop := fnExactRepairsOfRow.holds Try.pinned (OpenSpec.ofChange fnExactRepairsOfSpec)

/-- ITS FALSE NEIGHBOUR: 'it returns false'. Refute it at one input. -/
def fnExactRepairsOfWrong : ChangeSpec := { name := "fnExactRepairsOf", fn := fun _ => fun
  | [d1, d2] => { results := [.lit (.bool false)], args := [d1, d2] }
  | _ => none }
def FnExactRepairsOfWrongFalsely : Prop := fnExactRepairsOfRow.holds Try.pinned (OpenSpec.ofChange fnExactRepairsOfWrong)

/-- 'laws.FnExactLatePlan': WHATEVER THE INPUT: true; the input reads as it did. -/
def fnExactLatePlanSpec : ChangeSpec := { name := "fnExactLatePlan", fn := fun _ => fun
  | [d1, d2] => { results := [.lit (.bool true)], args := [d1, d2] }
  | _ => none }
def fnExactLatePlanRow : OpenClaim := { program := "ytjibdabedagghaa", sum := "eeba53a8ffcecb1ed67d0aafc6c1f8d0f400c02a0d680bc9ae20e7b6e47ccac9", func := "loop.example/g00940/laws.FnExactLatePlan", spec := "fnExactLatePlan", unfollowed := true, recurses := true, plainKeys := false, apart := false }
def FnExactLatePlanSaid : Prop := fnExactLatePlanRow.holds Try.pinned (OpenSpec.ofChange fnExactLatePlanSpec)

/-- ITS FALSE NEIGHBOUR: 'it returns false'. Refute it at one input. -/
def fnExactLatePlanWrong : ChangeSpec := { name := "fnExactLatePlan", fn := fun _ => fun
  | [d1, d2] => { results := [.lit (.bool false)], args := [d1, d2] }
  | _ => none }
def FnExactLatePlanWrongFalsely : Prop := fnExactLatePlanRow.holds Try.pinned (OpenSpec.ofChange fnExactLatePlanWrong)

/-- 'laws.FnExactLeastPlanCost': WHATEVER THE INPUT: true; the input reads as it did. -/
def fnExactLeastPlanCostSpec : ChangeSpec := { name := "fnExactLeastPlanCost", fn := fun _ => fun
  | [d1, d2, d3] => { results := [.lit (.bool true)], args := [d1, d2, d3] }
  | _ => none }
def fnExactLeastPlanCostRow : OpenClaim := { program := "ytjibdabedagghaa", sum := "eeba53a8ffcecb1ed67d0aafc6c1f8d0f400c02a0d680bc9ae20e7b6e47ccac9", func := "loop.example/g00940/laws.FnExactLeastPlanCost", spec := "fnExactLeastPlanCost", unfollowed := true, recurses := true, plainKeys := false, apart := false }
def FnExactLeastPlanCostSaid : Prop := fnExactLeastPlanCostRow.holds Try.pinned (OpenSpec.ofChange fnExactLeastPlanCostSpec)

/-- ITS FALSE NEIGHBOUR: 'it returns false'. Refute it at one input. -/
def fnExactLeastPlanCostWrong : ChangeSpec := { name := "fnExactLeastPlanCost", fn := fun _ => fun
  | [d1, d2, d3] => { results := [.lit (.bool false)], args := [d1, d2, d3] }
  | _ => none }
def FnExactLeastPlanCostWrongFalsely : Prop := fnExactLeastPlanCostRow.holds Try.pinned (OpenSpec.ofChange fnExactLeastPlanCostWrong)

/-- 'laws.FnExactPlanCost': WHATEVER THE INPUT: true; the input reads as it did. -/
def fnExactPlanCostSpec : ChangeSpec := { name := "fnExactPlanCost", fn := fun _ => fun
  | [d1, d2, d3] => { results := [.lit (.bool true)], args := [d1, d2, d3] }
  | _ => none }
def fnExactPlanCostRow : OpenClaim := { program := "ytjibdabedagghaa", sum := "eeba53a8ffcecb1ed67d0aafc6c1f8d0f400c02a0d680bc9ae20e7b6e47ccac9", func := "loop.example/g00940/laws.FnExactPlanCost", spec := "fnExactPlanCost", unfollowed := true, recurses := true, plainKeys := false, apart := false }
def FnExactPlanCostSaid : Prop := fnExactPlanCostRow.holds Try.pinned (OpenSpec.ofChange fnExactPlanCostSpec)

/-- ITS FALSE NEIGHBOUR: 'it returns false'. Refute it at one input. -/
def fnExactPlanCostWrong : ChangeSpec := { name := "fnExactPlanCost", fn := fun _ => fun
  | [d1, d2, d3] => { results := [.lit (.bool false)], args := [d1, d2, d3] }
  | _ => none }
def FnExactPlanCostWrongFalsely : Prop := fnExactPlanCostRow.holds Try.pinned (OpenSpec.ofChange fnExactPlanCostWrong)

/-- 'laws.FnExactIsRepairPlan': WHATEVER THE INPUT: true; the input reads as it did. -/
def fnExactIsRepairPlanSpec : ChangeSpec := { name := "fnExactIsRepairPlan", fn := fun _ => fun
  | [d1, d2, d3] => { results := [.lit (.bool true)], args := [d1, d2, d3] }
  | _ => none }
def fnExactIsRepairPlanRow : OpenClaim := { program := "ytjibdabedagghaa", sum := "eeba53a8ffcecb1ed67d0aafc6c1f8d0f400c02a0d680bc9ae20e7b6e47ccac9", func := "loop.example/g00940/laws.FnExactIsRepairPlan", spec := "fnExactIsRepairPlan", unfollowed := true, recurses := true, plainKeys := false, apart := false }
def FnExactIsRepairPlanSaid : Prop := fnExactIsRepairPlanRow.holds Try.pinned (OpenSpec.ofChange fnExactIsRepairPlanSpec)

/-- ITS FALSE NEIGHBOUR: 'it returns false'. Refute it at one input. -/
def fnExactIsRepairPlanWrong : ChangeSpec := { name := "fnExactIsRepairPlan", fn := fun _ => fun
  | [d1, d2, d3] => { results := [.lit (.bool false)], args := [d1, d2, d3] }
  | _ => none }
def FnExactIsRepairPlanWrongFalsely : Prop := fnExactIsRepairPlanRow.holds Try.pinned (OpenSpec.ofChange fnExactIsRepairPlanWrong)

/-- 'laws.FnExactJoinDays': WHATEVER THE INPUT: true; the input reads as it did. -/
def fnExactJoinDaysSpec : ChangeSpec := { name := "fnExactJoinDays", fn := fun _ => fun
  | [d1, d2, d3] => { results := [.lit (.bool true)], args := [d1, d2, d3] }
  | _ => none }
def fnExactJoinDaysRow : OpenClaim := { program := "ytjibdabedagghaa", sum := "eeba53a8ffcecb1ed67d0aafc6c1f8d0f400c02a0d680bc9ae20e7b6e47ccac9", func := "loop.example/g00940/laws.FnExactJoinDays", spec := "fnExactJoinDays", unfollowed := true, recurses := true, plainKeys := false, apart := false }
def FnExactJoinDaysSaid : Prop := fnExactJoinDaysRow.holds Try.pinned (OpenSpec.ofChange fnExactJoinDaysSpec)

/-- ITS FALSE NEIGHBOUR: 'it returns false'. Refute it at one input. -/
def fnExactJoinDaysWrong : ChangeSpec := { name := "fnExactJoinDays", fn := fun _ => fun
  | [d1, d2, d3] => { results := [.lit (.bool false)], args := [d1, d2, d3] }
  | _ => none }
def FnExactJoinDaysWrongFalsely : Prop := fnExactJoinDaysRow.holds Try.pinned (OpenSpec.ofChange fnExactJoinDaysWrong)

/-- 'laws.FnRepairPlans': WHATEVER THE INPUT: true; the input reads as it did. -/
def fnRepairPlansSpec : ChangeSpec := { name := "fnRepairPlans", fn := fun _ => fun
  | [d1, d2] => { results := [.lit (.bool true)], args := [d1, d2] }
  | _ => none }
def fnRepairPlansRow : OpenClaim := { program := "ytjibdabedagghaa", sum := "eeba53a8ffcecb1ed67d0aafc6c1f8d0f400c02a0d680bc9ae20e7b6e47ccac9", func := "loop.example/g00940/laws.FnRepairPlans", spec := "fnRepairPlans", unfollowed := true, recurses := true, plainKeys := false, apart := false }
def FnRepairPlansSaid : Prop := fnRepairPlansRow.holds Try.pinned (OpenSpec.ofChange fnRepairPlansSpec)

/-- ITS FALSE NEIGHBOUR: 'it returns false'. Refute it at one input. -/
def fnRepairPlansWrong : ChangeSpec := { name := "fnRepairPlans", fn := fun _ => fun
  | [d1, d2] => { results := [.lit (.bool false)], args := [d1, d2] }
  | _ => none }
def FnRepairPlansWrongFalsely : Prop := fnRepairPlansRow.holds Try.pinned (OpenSpec.ofChange fnRepairPlansWrong)

/-- 'laws.FnWear': WHATEVER THE INPUT: true; the input reads as it did. -/
def fnWearSpec : ChangeSpec := { name := "fnWear", fn := fun _ => fun
  | [d1, d2] => { results := [.lit (.bool true)], args := [d1, d2] }
  | _ => none }
def fnWearRow : OpenClaim := { program := "ytjibdabedagghaa", sum := "eeba53a8ffcecb1ed67d0aafc6c1f8d0f400c02a0d680bc9ae20e7b6e47ccac9", func := "loop.example/g00940/laws.FnWear", spec := "fnWear", unfollowed := true, recurses := true, plainKeys := false, apart := false }
def FnWearSaid : Prop := fnWearRow.holds Try.pinned (OpenSpec.ofChange fnWearSpec)

/-- ITS FALSE NEIGHBOUR: 'it returns false'. Refute it at one input. -/
def fnWearWrong : ChangeSpec := { name := "fnWear", fn := fun _ => fun
  | [d1, d2] => { results := [.lit (.bool false)], args := [d1, d2] }
  | _ => none }
def FnWearWrongFalsely : Prop := fnWearRow.holds Try.pinned (OpenSpec.ofChange fnWearWrong)

/- THE SECOND FORM. 'bulk': how many values and letters a reading holds, each counted each time it is reached (what is shared counts as often as it is met; a slice's spare places count too). A statement '..UptoSaid' is the law's where the arguments, and the package variables that the reading takes, are together of bulk at most 1048576: NARROWER than '..Said'. Prove '..Said' where nothing that the law and all that it calls make is longer than what came in: it says more and counts as full. Else prove '..UptoSaid'. A law counts once. -/
mutual
def uptoBulk {H : Type} : DataW H → Nat
  | .lit (.string bytes) => bytes.length + 1
  | .lit _ => 1
  | .nil => 1
  | .ptr d => uptoBulk d + 1
  | .slice elems spare => uptoBulkAll elems + uptoBulkAll spare + 1
  | .agg parts => uptoBulkAll parts + 1
  | .iface _ d => uptoBulk d + 1
  | .map entries => uptoBulkEntries entries + 1
  | .held _ => 1
def uptoBulkAll {H : Type} : List (DataW H) → Nat
  | [] => 0
  | d :: r => uptoBulk d + uptoBulkAll r
def uptoBulkEntries {H : Type} : List (Lit × DataW H) → Nat
  | [] => 0
  | x :: r => uptoBulkEntry x + uptoBulkEntries r
def uptoBulkEntry {H : Type} : Lit × DataW H → Nat
  | (.string bytes, d) => bytes.length + uptoBulk d + 1
  | (_, d) => uptoBulk d + 1
 end
def uptoSmall : (H : Type) → List (DataW H) → Bool := fun _ ds => decide (uptoBulkAll ds ≤ 1048576)
def OpenSpec.upto (s : _root_.Go.ChangeSpec) : _root_.Go.OpenSpec := { _root_.Go.OpenSpec.ofChange s with cond := some uptoSmall }

/-- 'laws.FnExactDaysLeft', WHERE WHAT IT READS IS OF BULK AT MOST 1048576: true; the input reads as it did. -/
def fnExactDaysLeftUptoRow : OpenClaim := { program := "ytjibdabedagghaa", sum := "eeba53a8ffcecb1ed67d0aafc6c1f8d0f400c02a0d680bc9ae20e7b6e47ccac9", func := "loop.example/g00940/laws.FnExactDaysLeft", spec := "fnExactDaysLeft", plainKeys := false, apart := false, narrowed := true }
def FnExactDaysLeftUptoSaid : Prop := fnExactDaysLeftUptoRow.holds Try.pinned (OpenSpec.upto fnExactDaysLeftSpec)

/-- 'laws.FnExactAreGears', WHERE WHAT IT READS IS OF BULK AT MOST 1048576: true; the input reads as it did. -/
def fnExactAreGearsUptoRow : OpenClaim := { program := "ytjibdabedagghaa", sum := "eeba53a8ffcecb1ed67d0aafc6c1f8d0f400c02a0d680bc9ae20e7b6e47ccac9", func := "loop.example/g00940/laws.FnExactAreGears", spec := "fnExactAreGears", unfollowed := true, recurses := true, plainKeys := false, apart := false, narrowed := true }
def FnExactAreGearsUptoSaid : Prop := fnExactAreGearsUptoRow.holds Try.pinned (OpenSpec.upto fnExactAreGearsSpec)

/-- 'laws.FnExactFirstToFail', WHERE WHAT IT READS IS OF BULK AT MOST 1048576: true; the input reads as it did. -/
def fnExactFirstToFailUptoRow : OpenClaim := { program := "ytjibdabedagghaa", sum := "eeba53a8ffcecb1ed67d0aafc6c1f8d0f400c02a0d680bc9ae20e7b6e47ccac9", func := "loop.example/g00940/laws.FnExactFirstToFail", spec := "fnExactFirstToFail", unfollowed := true, recurses := true, plainKeys := false, apart := false, narrowed := true }
def FnExactFirstToFailUptoSaid : Prop := fnExactFirstToFailUptoRow.holds Try.pinned (OpenSpec.upto fnExactFirstToFailSpec)

/-- 'laws.FnExactWearOn', WHERE WHAT IT READS IS OF BULK AT MOST 1048576: true; the input reads as it did. -/
def fnExactWearOnUptoRow : OpenClaim := { program := "ytjibdabedagghaa", sum := "eeba53a8ffcecb1ed67d0aafc6c1f8d0f400c02a0d680bc9ae20e7b6e47ccac9", func := "loop.example/g00940/laws.FnExactWearOn", spec := "fnExactWearOn", plainKeys := false, apart := false, narrowed := true }
def FnExactWearOnUptoSaid : Prop := fnExactWearOnUptoRow.holds Try.pinned (OpenSpec.upto fnExactWearOnSpec)

/-- 'laws.FnExactRepairsOf', WHERE WHAT IT READS IS OF BULK AT MOST 1048576: true; the input reads as it did. -/
def fnExactRepairsOfUptoRow : OpenClaim := { program := "ytjibdabedagghaa", sum := "eeba53a8ffcecb1ed67d0aafc6c1f8d0f400c02a0d680bc9ae20e7b6e47ccac9", func := "loop.example/g00940/laws.FnExactRepairsOf", spec := "fnExactRepairsOf", unfollowed := true, recurses := true, plainKeys := false, apart := false, narrowed := true }
def FnExactRepairsOfUptoSaid : Prop := fnExactRepairsOfUptoRow.holds Try.pinned (OpenSpec.upto fnExactRepairsOfSpec)

/-- 'laws.FnExactLatePlan', WHERE WHAT IT READS IS OF BULK AT MOST 1048576: true; the input reads as it did. -/
def fnExactLatePlanUptoRow : OpenClaim := { program := "ytjibdabedagghaa", sum := "eeba53a8ffcecb1ed67d0aafc6c1f8d0f400c02a0d680bc9ae20e7b6e47ccac9", func := "loop.example/g00940/laws.FnExactLatePlan", spec := "fnExactLatePlan", unfollowed := true, recurses := true, plainKeys := false, apart := false, narrowed := true }
def FnExactLatePlanUptoSaid : Prop := fnExactLatePlanUptoRow.holds Try.pinned (OpenSpec.upto fnExactLatePlanSpec)

/-- 'laws.FnExactLeastPlanCost', WHERE WHAT IT READS IS OF BULK AT MOST 1048576: true; the input reads as it did. -/
def fnExactLeastPlanCostUptoRow : OpenClaim := { program := "ytjibdabedagghaa", sum := "eeba53a8ffcecb1ed67d0aafc6c1f8d0f400c02a0d680bc9ae20e7b6e47ccac9", func := "loop.example/g00940/laws.FnExactLeastPlanCost", spec := "fnExactLeastPlanCost", unfollowed := true, recurses := true, plainKeys := false, apart := false, narrowed := true }
def FnExactLeastPlanCostUptoSaid : Prop := fnExactLeastPlanCostUptoRow.holds Try.pinned (OpenSpec.upto fnExactLeastPlanCostSpec)

/-- 'laws.FnExactPlanCost', WHERE WHAT IT READS IS OF BULK AT MOST 1048576: true; the input reads as it did. -/
def fnExactPlanCostUptoRow : OpenClaim := { program := "ytjibdabedagghaa", sum := "eeba53a8ffcecb1ed67d0aafc6c1f8d0f400c02a0d680bc9ae20e7b6e47ccac9", func := "loop.example/g00940/laws.FnExactPlanCost", spec := "fnExactPlanCost", unfollowed := true, recurses := true, plainKeys := false, apart := false, narrowed := true }
def FnExactPlanCostUptoSaid : Prop := fnExactPlanCostUptoRow.holds Try.pinned (OpenSpec.upto fnExactPlanCostSpec)

/-- 'laws.FnExactIsRepairPlan', WHERE WHAT IT READS IS OF BULK AT MOST 1048576: true; the input reads as it did. -/
def fnExactIsRepairPlanUptoRow : OpenClaim := { program := "ytjibdabedagghaa", sum := "eeba53a8ffcecb1ed67d0aafc6c1f8d0f400c02a0d680bc9ae20e7b6e47ccac9", func := "loop.example/g00940/laws.FnExactIsRepairPlan", spec := "fnExactIsRepairPlan", unfollowed := true, recurses := true, plainKeys := false, apart := false, narrowed := true }
def FnExactIsRepairPlanUptoSaid : Prop := fnExactIsRepairPlanUptoRow.holds Try.pinned (OpenSpec.upto fnExactIsRepairPlanSpec)

/-- 'laws.FnExactJoinDays', WHERE WHAT IT READS IS OF BULK AT MOST 1048576: true; the input reads as it did. -/
def fnExactJoinDaysUptoRow : OpenClaim := { program := "ytjibdabedagghaa", sum := "eeba53a8ffcecb1ed67d0aafc6c1f8d0f400c02a0d680bc9ae20e7b6e47ccac9", func := "loop.example/g00940/laws.FnExactJoinDays", spec := "fnExactJoinDays", unfollowed := true, recurses := true, plainKeys := false, apart := false, narrowed := true }
def FnExactJoinDaysUptoSaid : Prop := fnExactJoinDaysUptoRow.holds Try.pinned (OpenSpec.upto fnExactJoinDaysSpec)

/-- 'laws.FnRepairPlans', WHERE WHAT IT READS IS OF BULK AT MOST 1048576: true; the input reads as it did. -/
def fnRepairPlansUptoRow : OpenClaim := { program := "ytjibdabedagghaa", sum := "eeba53a8ffcecb1ed67d0aafc6c1f8d0f400c02a0d680bc9ae20e7b6e47ccac9", func := "loop.example/g00940/laws.FnRepairPlans", spec := "fnRepairPlans", unfollowed := true, recurses := true, plainKeys := false, apart := false, narrowed := true }
def FnRepairPlansUptoSaid : Prop := fnRepairPlansUptoRow.holds Try.pinned (OpenSpec.upto fnRepairPlansSpec)

/-- 'laws.FnWear', WHERE WHAT IT READS IS OF BULK AT MOST 1048576: true; the input reads as it did. -/
def fnWearUptoRow : OpenClaim := { program := "ytjibdabedagghaa", sum := "eeba53a8ffcecb1ed67d0aafc6c1f8d0f400c02a0d680bc9ae20e7b6e47ccac9", func := "loop.example/g00940/laws.FnWear", spec := "fnWear", unfollowed := true, recurses := true, plainKeys := false, apart := false, narrowed := true }
def FnWearUptoSaid : Prop := fnWearUptoRow.holds Try.pinned (OpenSpec.upto fnWearSpec)

end Rows
end Go.Proofs.Ytjibdabedagghaa
