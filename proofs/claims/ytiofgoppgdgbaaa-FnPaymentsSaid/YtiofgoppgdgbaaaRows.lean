/-
  No cell of these rows narrows 'for every input' (looked for: loops, veiled, ifaces, maps, wideKeys, modest, calm, conditions, laid).
  DERIVED. THE GIVEN ROWS OF THIS SEAT. 10 by the template 'for every input the law returns true; each argument reads behind the call as it read before'; 0 by the template 'total and deterministic' (their statements: YtiofgoppgdgbaaaTotals.lean).
  GIVEN WITH THE SEED: the statements are not yours to turn. If you find one false, say at which input.
  Laid BY PROGRAM, IN A SANDBOX (cutbox-rows.mjs): the forced cells as the released guide's own fill.sh prints them over the translation d101ebcc386da0e2… (all of the seat's roots in one cut). By AI agents, Wed Nov 11 2026. No macro, syntax, notation, axiom, sorry.
-/
import Derived.Test.YtiofgoppgdgbaaaChecked
import GoSem.Claim
import GoSem.ClaimJoined
import GoSem.ClaimMapViews
import Derived.JoinedTies
import Derived.KernelRfl
namespace Go.Proofs.Ytiofgoppgdgbaaa
/- THE CELL 'sum', in the pinned program and in every row, IS THE sha256 OF THE DUMP (.gsa) THAT YtiofgoppgdgbaaaProg.lean LOADS. Nothing in Lean hashes anything: it is a label: what it is worth is what the hold of that sum in a sandbox is worth. -/
noncomputable def Try.pinned : Pinned := { name := "ytiofgoppgdgbaaa", sum := "d101ebcc386da0e21f4894d8bea58a20d44abf4cf92ef405d733b0791a492c55", checked := Try.checked }
namespace Rows
def none {H : Type} : Left H := { results := [], args := [] }

/-- 'laws.FnExactIsPay': WHATEVER THE INPUT: true; the input reads as it did. -/
def fnExactIsPaySpec : ChangeSpec := { name := "fnExactIsPay", fn := fun _ => fun
  | [d] => { results := [.lit (.bool true)], args := [d] }
  | _ => none }
def fnExactIsPayRow : OpenClaim := { program := "ytiofgoppgdgbaaa", sum := "d101ebcc386da0e21f4894d8bea58a20d44abf4cf92ef405d733b0791a492c55", func := "loop.example/g00940/laws.FnExactIsPay", spec := "fnExactIsPay", apart := false }
def FnExactIsPaySaid : Prop := fnExactIsPayRow.holds Try.pinned (OpenSpec.ofChange fnExactIsPaySpec)

/-- ITS FALSE NEIGHBOUR: 'it returns false'. Refute it at one input. -/
def fnExactIsPayWrong : ChangeSpec := { name := "fnExactIsPay", fn := fun _ => fun
  | [d] => { results := [.lit (.bool false)], args := [d] }
  | _ => none }
def FnExactIsPayWrongFalsely : Prop := fnExactIsPayRow.holds Try.pinned (OpenSpec.ofChange fnExactIsPayWrong)

/-- 'laws.FnExactNightExtra': WHATEVER THE INPUT: true; the input reads as it did. -/
def fnExactNightExtraSpec : ChangeSpec := { name := "fnExactNightExtra", fn := fun _ => fun
  | [d1, d2, d3] => { results := [.lit (.bool true)], args := [d1, d2, d3] }
  | _ => none }
def fnExactNightExtraRow : OpenClaim := { program := "ytiofgoppgdgbaaa", sum := "d101ebcc386da0e21f4894d8bea58a20d44abf4cf92ef405d733b0791a492c55", func := "loop.example/g00940/laws.FnExactNightExtra", spec := "fnExactNightExtra", unfollowed := true, recurses := true, apart := false }
def FnExactNightExtraSaid : Prop := fnExactNightExtraRow.holds Try.pinned (OpenSpec.ofChange fnExactNightExtraSpec)

/-- ITS FALSE NEIGHBOUR: 'it returns false'. Refute it at one input. -/
def fnExactNightExtraWrong : ChangeSpec := { name := "fnExactNightExtra", fn := fun _ => fun
  | [d1, d2, d3] => { results := [.lit (.bool false)], args := [d1, d2, d3] }
  | _ => none }
def FnExactNightExtraWrongFalsely : Prop := fnExactNightExtraRow.holds Try.pinned (OpenSpec.ofChange fnExactNightExtraWrong)

/-- 'laws.FnExactWageOf': WHATEVER THE INPUT: true; the input reads as it did. -/
def fnExactWageOfSpec : ChangeSpec := { name := "fnExactWageOf", fn := fun _ => fun
  | [d1, d2, d3, d4] => { results := [.lit (.bool true)], args := [d1, d2, d3, d4] }
  | _ => none }
def fnExactWageOfRow : OpenClaim := { program := "ytiofgoppgdgbaaa", sum := "d101ebcc386da0e21f4894d8bea58a20d44abf4cf92ef405d733b0791a492c55", func := "loop.example/g00940/laws.FnExactWageOf", spec := "fnExactWageOf", unfollowed := true, recurses := true, apart := false }
def FnExactWageOfSaid : Prop := fnExactWageOfRow.holds Try.pinned (OpenSpec.ofChange fnExactWageOfSpec)

/-- ITS FALSE NEIGHBOUR: 'it returns false'. Refute it at one input. -/
def fnExactWageOfWrong : ChangeSpec := { name := "fnExactWageOf", fn := fun _ => fun
  | [d1, d2, d3, d4] => { results := [.lit (.bool false)], args := [d1, d2, d3, d4] }
  | _ => none }
def FnExactWageOfWrongFalsely : Prop := fnExactWageOfRow.holds Try.pinned (OpenSpec.ofChange fnExactWageOfWrong)

/-- 'laws.FnExactHourFor': WHATEVER THE INPUT: true; the input reads as it did. -/
def fnExactHourForSpec : ChangeSpec := { name := "fnExactHourFor", fn := fun _ => fun
  | [d1, d2, d3, d4, d5] => { results := [.lit (.bool true)], args := [d1, d2, d3, d4, d5] }
  | _ => none }
def fnExactHourForRow : OpenClaim := { program := "ytiofgoppgdgbaaa", sum := "d101ebcc386da0e21f4894d8bea58a20d44abf4cf92ef405d733b0791a492c55", func := "loop.example/g00940/laws.FnExactHourFor", spec := "fnExactHourFor", unfollowed := true, recurses := true, apart := false }
def FnExactHourForSaid : Prop := fnExactHourForRow.holds Try.pinned (OpenSpec.ofChange fnExactHourForSpec)

/-- ITS FALSE NEIGHBOUR: 'it returns false'. Refute it at one input. -/
def fnExactHourForWrong : ChangeSpec := { name := "fnExactHourFor", fn := fun _ => fun
  | [d1, d2, d3, d4, d5] => { results := [.lit (.bool false)], args := [d1, d2, d3, d4, d5] }
  | _ => none }
def FnExactHourForWrongFalsely : Prop := fnExactHourForRow.holds Try.pinned (OpenSpec.ofChange fnExactHourForWrong)

/-- 'laws.FnExactWagePerHour': WHATEVER THE INPUT: true; the input reads as it did. -/
def fnExactWagePerHourSpec : ChangeSpec := { name := "fnExactWagePerHour", fn := fun _ => fun
  | [d1, d2, d3, d4] => { results := [.lit (.bool true)], args := [d1, d2, d3, d4] }
  | _ => none }
def fnExactWagePerHourRow : OpenClaim := { program := "ytiofgoppgdgbaaa", sum := "d101ebcc386da0e21f4894d8bea58a20d44abf4cf92ef405d733b0791a492c55", func := "loop.example/g00940/laws.FnExactWagePerHour", spec := "fnExactWagePerHour", unfollowed := true, recurses := true, apart := false }
def FnExactWagePerHourSaid : Prop := fnExactWagePerHourRow.holds Try.pinned (OpenSpec.ofChange fnExactWagePerHourSpec)

/-- ITS FALSE NEIGHBOUR: 'it returns false'. Refute it at one input. -/
def fnExactWagePerHourWrong : ChangeSpec := { name := "fnExactWagePerHour", fn := fun _ => fun
  | [d1, d2, d3, d4] => { results := [.lit (.bool false)], args := [d1, d2, d3, d4] }
  | _ => none }
def FnExactWagePerHourWrongFalsely : Prop := fnExactWagePerHourRow.holds Try.pinned (OpenSpec.ofChange fnExactWagePerHourWrong)

/-- 'laws.FnExactShareByHours': WHATEVER THE INPUT: true; the input reads as it did. -/
def fnExactShareByHoursSpec : ChangeSpec := { name := "fnExactShareByHours", fn := fun _ => fun
  | [d1, d2] => { results := [.lit (.bool true)], args := [d1, d2] }
  | _ => none }
def fnExactShareByHoursRow : OpenClaim := { program := "ytiofgoppgdgbaaa", sum := "d101ebcc386da0e21f4894d8bea58a20d44abf4cf92ef405d733b0791a492c55", func := "loop.example/g00940/laws.FnExactShareByHours", spec := "fnExactShareByHours", unfollowed := true, recurses := true, apart := false }
def FnExactShareByHoursSaid : Prop := fnExactShareByHoursRow.holds Try.pinned (OpenSpec.ofChange fnExactShareByHoursSpec)

/-- ITS FALSE NEIGHBOUR: 'it returns false'. Refute it at one input. -/
def fnExactShareByHoursWrong : ChangeSpec := { name := "fnExactShareByHours", fn := fun _ => fun
  | [d1, d2] => { results := [.lit (.bool false)], args := [d1, d2] }
  | _ => none }
def FnExactShareByHoursWrongFalsely : Prop := fnExactShareByHoursRow.holds Try.pinned (OpenSpec.ofChange fnExactShareByHoursWrong)

/-- 'laws.FnExactBestPaid': WHATEVER THE INPUT: true; the input reads as it did. -/
def fnExactBestPaidSpec : ChangeSpec := { name := "fnExactBestPaid", fn := fun _ => fun
  | [d1, d2, d3] => { results := [.lit (.bool true)], args := [d1, d2, d3] }
  | _ => none }
def fnExactBestPaidRow : OpenClaim := { program := "ytiofgoppgdgbaaa", sum := "d101ebcc386da0e21f4894d8bea58a20d44abf4cf92ef405d733b0791a492c55", func := "loop.example/g00940/laws.FnExactBestPaid", spec := "fnExactBestPaid", unfollowed := true, recurses := true, apart := false }
def FnExactBestPaidSaid : Prop := fnExactBestPaidRow.holds Try.pinned (OpenSpec.ofChange fnExactBestPaidSpec)

/-- ITS FALSE NEIGHBOUR: 'it returns false'. Refute it at one input. -/
def fnExactBestPaidWrong : ChangeSpec := { name := "fnExactBestPaid", fn := fun _ => fun
  | [d1, d2, d3] => { results := [.lit (.bool false)], args := [d1, d2, d3] }
  | _ => none }
def FnExactBestPaidWrongFalsely : Prop := fnExactBestPaidRow.holds Try.pinned (OpenSpec.ofChange fnExactBestPaidWrong)

/-- 'laws.FnExactWageBill': WHATEVER THE INPUT: true; the input reads as it did. -/
def fnExactWageBillSpec : ChangeSpec := { name := "fnExactWageBill", fn := fun _ => fun
  | [d1, d2, d3] => { results := [.lit (.bool true)], args := [d1, d2, d3] }
  | _ => none }
def fnExactWageBillRow : OpenClaim := { program := "ytiofgoppgdgbaaa", sum := "d101ebcc386da0e21f4894d8bea58a20d44abf4cf92ef405d733b0791a492c55", func := "loop.example/g00940/laws.FnExactWageBill", spec := "fnExactWageBill", unfollowed := true, recurses := true, apart := false }
def FnExactWageBillSaid : Prop := fnExactWageBillRow.holds Try.pinned (OpenSpec.ofChange fnExactWageBillSpec)

/-- ITS FALSE NEIGHBOUR: 'it returns false'. Refute it at one input. -/
def fnExactWageBillWrong : ChangeSpec := { name := "fnExactWageBill", fn := fun _ => fun
  | [d1, d2, d3] => { results := [.lit (.bool false)], args := [d1, d2, d3] }
  | _ => none }
def FnExactWageBillWrongFalsely : Prop := fnExactWageBillRow.holds Try.pinned (OpenSpec.ofChange fnExactWageBillWrong)

/-- 'laws.FnExactCheaperPay': WHATEVER THE INPUT: true; the input reads as it did. -/
def fnExactCheaperPaySpec : ChangeSpec := { name := "fnExactCheaperPay", fn := fun _ => fun
  | [d1, d2, d3, d4] => { results := [.lit (.bool true)], args := [d1, d2, d3, d4] }
  | _ => none }
def fnExactCheaperPayRow : OpenClaim := { program := "ytiofgoppgdgbaaa", sum := "d101ebcc386da0e21f4894d8bea58a20d44abf4cf92ef405d733b0791a492c55", func := "loop.example/g00940/laws.FnExactCheaperPay", spec := "fnExactCheaperPay", unfollowed := true, recurses := true, apart := false }
def FnExactCheaperPaySaid : Prop := fnExactCheaperPayRow.holds Try.pinned (OpenSpec.ofChange fnExactCheaperPaySpec)

/-- ITS FALSE NEIGHBOUR: 'it returns false'. Refute it at one input. -/
def fnExactCheaperPayWrong : ChangeSpec := { name := "fnExactCheaperPay", fn := fun _ => fun
  | [d1, d2, d3, d4] => { results := [.lit (.bool false)], args := [d1, d2, d3, d4] }
  | _ => none }
def FnExactCheaperPayWrongFalsely : Prop := fnExactCheaperPayRow.holds Try.pinned (OpenSpec.ofChange fnExactCheaperPayWrong)

/-- 'laws.FnPayments': WHATEVER THE INPUT: true; the input reads as it did. -/
def fnPaymentsSpec : ChangeSpec := { name := "fnPayments", fn := fun _ => fun
  | [d1, d2] => { results := [.lit (.bool true)], args := [d1, d2] }
  | _ => none }
def fnPaymentsRow : OpenClaim := { program := "ytiofgoppgdgbaaa", sum := "d101ebcc386da0e21f4894d8bea58a20d44abf4cf92ef405d733b0791a492c55", func := "loop.example/g00940/laws.FnPayments", spec := "fnPayments", unfollowed := true, recurses := true, apart := false }
def FnPaymentsSaid : Prop := fnPaymentsRow.holds Try.pinned (OpenSpec.ofChange fnPaymentsSpec)

/-- ITS FALSE NEIGHBOUR: 'it returns false'. Refute it at one input. -/
def fnPaymentsWrong : ChangeSpec := { name := "fnPayments", fn := fun _ => fun
  | [d1, d2] => { results := [.lit (.bool false)], args := [d1, d2] }
  | _ => none }
def FnPaymentsWrongFalsely : Prop := fnPaymentsRow.holds Try.pinned (OpenSpec.ofChange fnPaymentsWrong)

/- THE SECOND FORM. 'bulk': how many values and letters a reading holds, each counted each time it is reached (what is shared counts as often as it is met; a slice's spare places count too). A statement '..UptoSaid' is the law's where the arguments, and the package variables that the reading takes, are together of bulk at most 1048576: NARROWER than '..Said'. Prove '..Said' where nothing that the law and all that it calls make is longer than what came in: it says more and counts as full. Else prove '..UptoSaid'. A law counts once. -/
mutual
def uptoBulk {H : Type} : DataW H → Nat
  | .lit (.string bytes) => bytes.length + 1
  | .lit _ => 1
  | .nil => 1
  | .ptr d => uptoBulk d + 1
  | .slice elems spare => uptoBulkAll elems + uptoBulkAll spare + 1
  | .agg parts => uptoBulkAll parts + 1
  | .iface _ d => uptoBulk d + 1
  | .map entries => uptoBulkEntries entries + 1
  | .held _ => 1
def uptoBulkAll {H : Type} : List (DataW H) → Nat
  | [] => 0
  | d :: r => uptoBulk d + uptoBulkAll r
def uptoBulkEntries {H : Type} : List (Lit × DataW H) → Nat
  | [] => 0
  | x :: r => uptoBulkEntry x + uptoBulkEntries r
def uptoBulkEntry {H : Type} : Lit × DataW H → Nat
  | (.string bytes, d) => bytes.length + uptoBulk d + 1
  | (_, d) => uptoBulk d + 1
 end
def uptoSmall : (H : Type) → List (DataW H) → Bool := fun _ ds => decide (uptoBulkAll ds ≤ 1048576)
def OpenSpec.upto (s : _root_.Go.ChangeSpec) : _root_.Go.OpenSpec := { _root_.Go.OpenSpec.ofChange s with cond := some uptoSmall }

/-- 'laws.FnExactIsPay', WHERE WHAT IT READS IS OF BULK AT MOST 1048576: true; the input reads as it did. -/
def fnExactIsPayUptoRow : OpenClaim := { program := "ytiofgoppgdgbaaa", sum := "d101ebcc386da0e21f4894d8bea58a20d44abf4cf92ef405d733b0791a492c55", func := "loop.example/g00940/laws.FnExactIsPay", spec := "fnExactIsPay", apart := false, narrowed := true }
def FnExactIsPayUptoSaid : Prop := fnExactIsPayUptoRow.holds Try.pinned (OpenSpec.upto fnExactIsPaySpec)

/-- 'laws.FnExactNightExtra', WHERE WHAT IT READS IS OF BULK AT MOST 1048576: true; the input reads as it did. -/
def fnExactNightExtraUptoRow : OpenClaim := { program := "ytiofgoppgdgbaaa", sum := "d101ebcc386da0e21f4894d8bea58a20d44abf4cf92ef405d733b0791a492c55", func := "loop.example/g00940/laws.FnExactNightExtra", spec := "fnExactNightExtra", unfollowed := true, recurses := true, apart := false, narrowed := true }
def FnExactNightExtraUptoSaid : Prop := fnExactNightExtraUptoRow.holds Try.pinned (OpenSpec.upto fnExactNightExtraSpec)

/-- 'laws.FnExactWageOf', WHERE WHAT IT READS IS OF BULK AT MOST 1048576: true; the input reads as it did. -/
def fnExactWageOfUptoRow : OpenClaim := { program := "ytiofgoppgdgbaaa", sum := "d101ebcc386da0e21f4894d8bea58a20d44abf4cf92ef405d733b0791a492c55", func := "loop.example/g00940/laws.FnExactWageOf", spec := "fnExactWageOf", unfollowed := true, recurses := true, apart := false, narrowed := true }
def FnExactWageOfUptoSaid : Prop := fnExactWageOfUptoRow.holds Try.pinned (OpenSpec.upto fnExactWageOfSpec)

/-- 'laws.FnExactHourFor', WHERE WHAT IT READS IS OF BULK AT MOST 1048576: true; the input reads as it did. -/
def fnExactHourForUptoRow : OpenClaim := { program := "ytiofgoppgdgbaaa", sum := "d101ebcc386da0e21f4894d8bea58a20d44abf4cf92ef405d733b0791a492c55", func := "loop.example/g00940/laws.FnExactHourFor", spec := "fnExactHourFor", unfollowed := true, recurses := true, apart := false, narrowed := true }
def FnExactHourForUptoSaid : Prop := fnExactHourForUptoRow.holds Try.pinned (OpenSpec.upto fnExactHourForSpec)

/-- 'laws.FnExactWagePerHour', WHERE WHAT IT READS IS OF BULK AT MOST 1048576: true; the input reads as it did. -/
def fnExactWagePerHourUptoRow : OpenClaim := { program := "ytiofgoppgdgbaaa", sum := "d101ebcc386da0e21f4894d8bea58a20d44abf4cf92ef405d733b0791a492c55", func := "loop.example/g00940/laws.FnExactWagePerHour", spec := "fnExactWagePerHour", unfollowed := true, recurses := true, apart := false, narrowed := true }
def FnExactWagePerHourUptoSaid : Prop := fnExactWagePerHourUptoRow.holds Try.pinned (OpenSpec.upto fnExactWagePerHourSpec)

/-- 'laws.FnExactShareByHours', WHERE WHAT IT READS IS OF BULK AT MOST 1048576: true; the input reads as it did. -/
def fnExactShareByHoursUptoRow : OpenClaim := { program := "ytiofgoppgdgbaaa", sum := "d101ebcc386da0e21f4894d8bea58a20d44abf4cf92ef405d733b0791a492c55", func := "loop.example/g00940/laws.FnExactShareByHours", spec := "fnExactShareByHours", unfollowed := true, recurses := true, apart := false, narrowed := true }
def FnExactShareByHoursUptoSaid : Prop := fnExactShareByHoursUptoRow.holds Try.pinned (OpenSpec.upto fnExactShareByHoursSpec)

/-- 'laws.FnExactBestPaid', WHERE WHAT IT READS IS OF BULK AT MOST 1048576: true; the input reads as it did. -/
def fnExactBestPaidUptoRow : OpenClaim := { program := "ytiofgoppgdgbaaa", sum := "d101ebcc386da0e21f4894d8bea58a20d44abf4cf92ef405d733b0791a492c55", func := "loop.example/g00940/laws.FnExactBestPaid", spec := "fnExactBestPaid", unfollowed := true, recurses := true, apart := false, narrowed := true }
def FnExactBestPaidUptoSaid : Prop := fnExactBestPaidUptoRow.holds Try.pinned (OpenSpec.upto fnExactBestPaidSpec)

/-- 'laws.FnExactWageBill', WHERE WHAT IT READS IS OF BULK AT MOST 1048576: true; the input reads as it did. -/
def fnExactWageBillUptoRow : OpenClaim := { program := "ytiofgoppgdgbaaa", sum := "d101ebcc386da0e21f4894d8bea58a20d44abf4cf92ef405d733b0791a492c55", func := "loop.example/g00940/laws.FnExactWageBill", spec := "fnExactWageBill", unfollowed := true, recurses := true, apart := false, narrowed := true }
def FnExactWageBillUptoSaid : Prop := fnExactWageBillUptoRow.holds Try.pinned (OpenSpec.upto fnExactWageBillSpec)

/-- 'laws.FnExactCheaperPay', WHERE WHAT IT READS IS OF BULK AT MOST 1048576: true; the input reads as it did. -/
def fnExactCheaperPayUptoRow : OpenClaim := { program := "ytiofgoppgdgbaaa", sum := "d101ebcc386da0e21f4894d8bea58a20d44abf4cf92ef405d733b0791a492c55", func := "loop.example/g00940/laws.FnExactCheaperPay", spec := "fnExactCheaperPay", unfollowed := true, recurses := true, apart := false, narrowed := true }
def FnExactCheaperPayUptoSaid : Prop := fnExactCheaperPayUptoRow.holds Try.pinned (OpenSpec.upto fnExactCheaperPaySpec)

/-- 'laws.FnPayments', WHERE WHAT IT READS IS OF BULK AT MOST 1048576: true; the input reads as it did. -/
def fnPaymentsUptoRow : OpenClaim := { program := "ytiofgoppgdgbaaa", sum := "d101ebcc386da0e21f4894d8bea58a20d44abf4cf92ef405d733b0791a492c55", func := "loop.example/g00940/laws.FnPayments", spec := "fnPayments", unfollowed := true, recurses := true, apart := false, narrowed := true }
def FnPaymentsUptoSaid : Prop := fnPaymentsUptoRow.holds Try.pinned (OpenSpec.upto fnPaymentsSpec)

end Rows
end Go.Proofs.Ytiofgoppgdgbaaa
