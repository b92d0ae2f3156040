/-
  No cell of these rows narrows 'for every input' (looked for: loops, veiled, ifaces, maps, wideKeys, modest, calm, conditions, laid).
  DERIVED. THE GIVEN ROWS OF THIS SEAT. 12 by the template 'for every input the law returns true; each argument reads behind the call as it read before'; 0 by the template 'total and deterministic' (their statements: YthpfgmnhpnfopaaTotals.lean).
  GIVEN WITH THE SEED: the statements are not yours to turn. If you find one false, say at which input.
  Laid BY PROGRAM, IN A SANDBOX (cutbox-rows.mjs): the forced cells as the released guide's own fill.sh prints them over the translation 142b103a5608a744… (all of the seat's roots in one cut). By AI agents, Wed Nov 11 2026. No macro, syntax, notation, axiom, sorry.
-/
import Derived.Test.YthpfgmnhpnfopaaChecked
import GoSem.Claim
import GoSem.ClaimJoined
import GoSem.ClaimMapViews
import Derived.JoinedTies
import Derived.KernelRfl
namespace Go.Proofs.Ythpfgmnhpnfopaa
/- THE CELL 'sum', in the pinned program and in every row, IS THE sha256 OF THE DUMP (.gsa) THAT YthpfgmnhpnfopaaProg.lean LOADS. Nothing in Lean hashes anything: it is a label: what it is worth is what the hold of that sum in a sandbox is worth. -/
noncomputable def Try.pinned : Pinned := { name := "ythpfgmnhpnfopaa", sum := "142b103a5608a74417629b80b0b523994dd8613db7edfc40f2355bb3c9c994f5", checked := Try.checked }
namespace Rows
def none {H : Type} : Left H := { results := [], args := [] }

/-- 'laws.FnExactFogChance': WHATEVER THE INPUT: true; the input reads as it did. -/
def fnExactFogChanceSpec : ChangeSpec := { name := "fnExactFogChance", fn := fun _ => fun
  | [d] => { results := [.lit (.bool true)], args := [d] }
  | _ => none }
def fnExactFogChanceRow : OpenClaim := { program := "ythpfgmnhpnfopaa", sum := "142b103a5608a74417629b80b0b523994dd8613db7edfc40f2355bb3c9c994f5", func := "loop.example/g00940/laws.FnExactFogChance", spec := "fnExactFogChance", apart := false }
def FnExactFogChanceSaid : Prop := fnExactFogChanceRow.holds Try.pinned (OpenSpec.ofChange fnExactFogChanceSpec)

/-- ITS FALSE NEIGHBOUR: 'it returns false'. Refute it at one input. -/
def fnExactFogChanceWrong : ChangeSpec := { name := "fnExactFogChance", fn := fun _ => fun
  | [d] => { results := [.lit (.bool false)], args := [d] }
  | _ => none }
def FnExactFogChanceWrongFalsely : Prop := fnExactFogChanceRow.holds Try.pinned (OpenSpec.ofChange fnExactFogChanceWrong)

/-- 'laws.FnExactFogDrawn': WHATEVER THE INPUT: true; the input reads as it did. -/
def fnExactFogDrawnSpec : ChangeSpec := { name := "fnExactFogDrawn", fn := fun _ => fun
  | [d1, d2, d3] => { results := [.lit (.bool true)], args := [d1, d2, d3] }
  | _ => none }
def fnExactFogDrawnRow : OpenClaim := { program := "ythpfgmnhpnfopaa", sum := "142b103a5608a74417629b80b0b523994dd8613db7edfc40f2355bb3c9c994f5", func := "loop.example/g00940/laws.FnExactFogDrawn", spec := "fnExactFogDrawn", apart := false }
def FnExactFogDrawnSaid : Prop := fnExactFogDrawnRow.holds Try.pinned (OpenSpec.ofChange fnExactFogDrawnSpec)

/-- ITS FALSE NEIGHBOUR: 'it returns false'. Refute it at one input. -/
def fnExactFogDrawnWrong : ChangeSpec := { name := "fnExactFogDrawn", fn := fun _ => fun
  | [d1, d2, d3] => { results := [.lit (.bool false)], args := [d1, d2, d3] }
  | _ => none }
def FnExactFogDrawnWrongFalsely : Prop := fnExactFogDrawnRow.holds Try.pinned (OpenSpec.ofChange fnExactFogDrawnWrong)

/-- 'laws.FnExactStayLoss': WHATEVER THE INPUT: true; the input reads as it did. -/
def fnExactStayLossSpec : ChangeSpec := { name := "fnExactStayLoss", fn := fun _ => fun
  | [d] => { results := [.lit (.bool true)], args := [d] }
  | _ => none }
def fnExactStayLossRow : OpenClaim := { program := "ythpfgmnhpnfopaa", sum := "142b103a5608a74417629b80b0b523994dd8613db7edfc40f2355bb3c9c994f5", func := "loop.example/g00940/laws.FnExactStayLoss", spec := "fnExactStayLoss", apart := false }
def FnExactStayLossSaid : Prop := fnExactStayLossRow.holds Try.pinned (OpenSpec.ofChange fnExactStayLossSpec)

/-- ITS FALSE NEIGHBOUR: 'it returns false'. Refute it at one input. -/
def fnExactStayLossWrong : ChangeSpec := { name := "fnExactStayLoss", fn := fun _ => fun
  | [d] => { results := [.lit (.bool false)], args := [d] }
  | _ => none }
def FnExactStayLossWrongFalsely : Prop := fnExactStayLossRow.holds Try.pinned (OpenSpec.ofChange fnExactStayLossWrong)

/-- 'laws.FnExactFogMix': WHATEVER THE INPUT: true; the input reads as it did. -/
def fnExactFogMixSpec : ChangeSpec := { name := "fnExactFogMix", fn := fun _ => fun
  | [d] => { results := [.lit (.bool true)], args := [d] }
  | _ => none }
def fnExactFogMixRow : OpenClaim := { program := "ythpfgmnhpnfopaa", sum := "142b103a5608a74417629b80b0b523994dd8613db7edfc40f2355bb3c9c994f5", func := "loop.example/g00940/laws.FnExactFogMix", spec := "fnExactFogMix", apart := false }
def FnExactFogMixSaid : Prop := fnExactFogMixRow.holds Try.pinned (OpenSpec.ofChange fnExactFogMixSpec)

/-- ITS FALSE NEIGHBOUR: 'it returns false'. Refute it at one input. -/
def fnExactFogMixWrong : ChangeSpec := { name := "fnExactFogMix", fn := fun _ => fun
  | [d] => { results := [.lit (.bool false)], args := [d] }
  | _ => none }
def FnExactFogMixWrongFalsely : Prop := fnExactFogMixRow.holds Try.pinned (OpenSpec.ofChange fnExactFogMixWrong)

/-- 'laws.FnExactBestConstant': WHATEVER THE INPUT: true; the input reads as it did. -/
def fnExactBestConstantSpec : ChangeSpec := { name := "fnExactBestConstant", fn := fun _ => fun
  | [d] => { results := [.lit (.bool true)], args := [d] }
  | _ => none }
def fnExactBestConstantRow : OpenClaim := { program := "ythpfgmnhpnfopaa", sum := "142b103a5608a74417629b80b0b523994dd8613db7edfc40f2355bb3c9c994f5", func := "loop.example/g00940/laws.FnExactBestConstant", spec := "fnExactBestConstant", apart := false }
def FnExactBestConstantSaid : Prop := fnExactBestConstantRow.holds Try.pinned (OpenSpec.ofChange fnExactBestConstantSpec)

/-- ITS FALSE NEIGHBOUR: 'it returns false'. Refute it at one input. -/
def fnExactBestConstantWrong : ChangeSpec := { name := "fnExactBestConstant", fn := fun _ => fun
  | [d] => { results := [.lit (.bool false)], args := [d] }
  | _ => none }
def FnExactBestConstantWrongFalsely : Prop := fnExactBestConstantRow.holds Try.pinned (OpenSpec.ofChange fnExactBestConstantWrong)

/-- 'laws.FnExactForecastLoss': WHATEVER THE INPUT: true; the input reads as it did. -/
def fnExactForecastLossSpec : ChangeSpec := { name := "fnExactForecastLoss", fn := fun _ => fun
  | [d1, d2] => { results := [.lit (.bool true)], args := [d1, d2] }
  | _ => none }
def fnExactForecastLossRow : OpenClaim := { program := "ythpfgmnhpnfopaa", sum := "142b103a5608a74417629b80b0b523994dd8613db7edfc40f2355bb3c9c994f5", func := "loop.example/g00940/laws.FnExactForecastLoss", spec := "fnExactForecastLoss", apart := false }
def FnExactForecastLossSaid : Prop := fnExactForecastLossRow.holds Try.pinned (OpenSpec.ofChange fnExactForecastLossSpec)

/-- ITS FALSE NEIGHBOUR: 'it returns false'. Refute it at one input. -/
def fnExactForecastLossWrong : ChangeSpec := { name := "fnExactForecastLoss", fn := fun _ => fun
  | [d1, d2] => { results := [.lit (.bool false)], args := [d1, d2] }
  | _ => none }
def FnExactForecastLossWrongFalsely : Prop := fnExactForecastLossRow.holds Try.pinned (OpenSpec.ofChange fnExactForecastLossWrong)

/-- 'laws.FnExactSlotsOf': WHATEVER THE INPUT: true; the input reads as it did. -/
def fnExactSlotsOfSpec : ChangeSpec := { name := "fnExactSlotsOf", fn := fun _ => fun
  | [d1, d2, d3] => { results := [.lit (.bool true)], args := [d1, d2, d3] }
  | _ => none }
def fnExactSlotsOfRow : OpenClaim := { program := "ythpfgmnhpnfopaa", sum := "142b103a5608a74417629b80b0b523994dd8613db7edfc40f2355bb3c9c994f5", func := "loop.example/g00940/laws.FnExactSlotsOf", spec := "fnExactSlotsOf", apart := false }
def FnExactSlotsOfSaid : Prop := fnExactSlotsOfRow.holds Try.pinned (OpenSpec.ofChange fnExactSlotsOfSpec)

/-- ITS FALSE NEIGHBOUR: 'it returns false'. Refute it at one input. -/
def fnExactSlotsOfWrong : ChangeSpec := { name := "fnExactSlotsOf", fn := fun _ => fun
  | [d1, d2, d3] => { results := [.lit (.bool false)], args := [d1, d2, d3] }
  | _ => none }
def FnExactSlotsOfWrongFalsely : Prop := fnExactSlotsOfRow.holds Try.pinned (OpenSpec.ofChange fnExactSlotsOfWrong)

/-- 'laws.FnExactHitCounts': WHATEVER THE INPUT: true; the input reads as it did. -/
def fnExactHitCountsSpec : ChangeSpec := { name := "fnExactHitCounts", fn := fun _ => fun
  | [d1, d2, d3] => { results := [.lit (.bool true)], args := [d1, d2, d3] }
  | _ => none }
def fnExactHitCountsRow : OpenClaim := { program := "ythpfgmnhpnfopaa", sum := "142b103a5608a74417629b80b0b523994dd8613db7edfc40f2355bb3c9c994f5", func := "loop.example/g00940/laws.FnExactHitCounts", spec := "fnExactHitCounts", apart := false }
def FnExactHitCountsSaid : Prop := fnExactHitCountsRow.holds Try.pinned (OpenSpec.ofChange fnExactHitCountsSpec)

/-- ITS FALSE NEIGHBOUR: 'it returns false'. Refute it at one input. -/
def fnExactHitCountsWrong : ChangeSpec := { name := "fnExactHitCounts", fn := fun _ => fun
  | [d1, d2, d3] => { results := [.lit (.bool false)], args := [d1, d2, d3] }
  | _ => none }
def FnExactHitCountsWrongFalsely : Prop := fnExactHitCountsRow.holds Try.pinned (OpenSpec.ofChange fnExactHitCountsWrong)

/-- 'laws.FnForecasts': WHATEVER THE INPUT: true; the input reads as it did. -/
def fnForecastsSpec : ChangeSpec := { name := "fnForecasts", fn := fun _ => fun
  | [d1, d2] => { results := [.lit (.bool true)], args := [d1, d2] }
  | _ => none }
def fnForecastsRow : OpenClaim := { program := "ythpfgmnhpnfopaa", sum := "142b103a5608a74417629b80b0b523994dd8613db7edfc40f2355bb3c9c994f5", func := "loop.example/g00940/laws.FnForecasts", spec := "fnForecasts", apart := false }
def FnForecastsSaid : Prop := fnForecastsRow.holds Try.pinned (OpenSpec.ofChange fnForecastsSpec)

/-- ITS FALSE NEIGHBOUR: 'it returns false'. Refute it at one input. -/
def fnForecastsWrong : ChangeSpec := { name := "fnForecasts", fn := fun _ => fun
  | [d1, d2] => { results := [.lit (.bool false)], args := [d1, d2] }
  | _ => none }
def FnForecastsWrongFalsely : Prop := fnForecastsRow.holds Try.pinned (OpenSpec.ofChange fnForecastsWrong)

/-- 'laws.FnExactFogsByKey': WHATEVER THE INPUT: true; the input reads as it did. -/
def fnExactFogsByKeySpec : ChangeSpec := { name := "fnExactFogsByKey", fn := fun _ => fun
  | [d1, d2, d3] => { results := [.lit (.bool true)], args := [d1, d2, d3] }
  | _ => none }
def fnExactFogsByKeyRow : OpenClaim := { program := "ythpfgmnhpnfopaa", sum := "142b103a5608a74417629b80b0b523994dd8613db7edfc40f2355bb3c9c994f5", func := "loop.example/g00940/laws.FnExactFogsByKey", spec := "fnExactFogsByKey", apart := false }
def FnExactFogsByKeySaid : Prop := fnExactFogsByKeyRow.holds Try.pinned (OpenSpec.ofChange fnExactFogsByKeySpec)

/-- ITS FALSE NEIGHBOUR: 'it returns false'. Refute it at one input. -/
def fnExactFogsByKeyWrong : ChangeSpec := { name := "fnExactFogsByKey", fn := fun _ => fun
  | [d1, d2, d3] => { results := [.lit (.bool false)], args := [d1, d2, d3] }
  | _ => none }
def FnExactFogsByKeyWrongFalsely : Prop := fnExactFogsByKeyRow.holds Try.pinned (OpenSpec.ofChange fnExactFogsByKeyWrong)

/-- 'laws.FnExactFogsBySlots': WHATEVER THE INPUT: true; the input reads as it did. -/
def fnExactFogsBySlotsSpec : ChangeSpec := { name := "fnExactFogsBySlots", fn := fun _ => fun
  | [d1, d2] => { results := [.lit (.bool true)], args := [d1, d2] }
  | _ => none }
def fnExactFogsBySlotsRow : OpenClaim := { program := "ythpfgmnhpnfopaa", sum := "142b103a5608a74417629b80b0b523994dd8613db7edfc40f2355bb3c9c994f5", func := "loop.example/g00940/laws.FnExactFogsBySlots", spec := "fnExactFogsBySlots", apart := false }
def FnExactFogsBySlotsSaid : Prop := fnExactFogsBySlotsRow.holds Try.pinned (OpenSpec.ofChange fnExactFogsBySlotsSpec)

/-- ITS FALSE NEIGHBOUR: 'it returns false'. Refute it at one input. -/
def fnExactFogsBySlotsWrong : ChangeSpec := { name := "fnExactFogsBySlots", fn := fun _ => fun
  | [d1, d2] => { results := [.lit (.bool false)], args := [d1, d2] }
  | _ => none }
def FnExactFogsBySlotsWrongFalsely : Prop := fnExactFogsBySlotsRow.holds Try.pinned (OpenSpec.ofChange fnExactFogsBySlotsWrong)

/-- 'laws.FnWeather': WHATEVER THE INPUT: true; the input reads as it did. -/
def fnWeatherSpec : ChangeSpec := { name := "fnWeather", fn := fun _ => fun
  | [d1, d2] => { results := [.lit (.bool true)], args := [d1, d2] }
  | _ => none }
def fnWeatherRow : OpenClaim := { program := "ythpfgmnhpnfopaa", sum := "142b103a5608a74417629b80b0b523994dd8613db7edfc40f2355bb3c9c994f5", func := "loop.example/g00940/laws.FnWeather", spec := "fnWeather", apart := false }
def FnWeatherSaid : Prop := fnWeatherRow.holds Try.pinned (OpenSpec.ofChange fnWeatherSpec)

/-- ITS FALSE NEIGHBOUR: 'it returns false'. Refute it at one input. -/
def fnWeatherWrong : ChangeSpec := { name := "fnWeather", fn := fun _ => fun
  | [d1, d2] => { results := [.lit (.bool false)], args := [d1, d2] }
  | _ => none }
def FnWeatherWrongFalsely : Prop := fnWeatherRow.holds Try.pinned (OpenSpec.ofChange fnWeatherWrong)

/- THE SECOND FORM. 'bulk': how many values and letters a reading holds, each counted each time it is reached (what is shared counts as often as it is met; a slice's spare places count too). A statement '..UptoSaid' is the law's where the arguments, and the package variables that the reading takes, are together of bulk at most 1048576: NARROWER than '..Said'. Prove '..Said' where nothing that the law and all that it calls make is longer than what came in: it says more and counts as full. Else prove '..UptoSaid'. A law counts once. -/
mutual
def uptoBulk {H : Type} : DataW H → Nat
  | .lit (.string bytes) => bytes.length + 1
  | .lit _ => 1
  | .nil => 1
  | .ptr d => uptoBulk d + 1
  | .slice elems spare => uptoBulkAll elems + uptoBulkAll spare + 1
  | .agg parts => uptoBulkAll parts + 1
  | .iface _ d => uptoBulk d + 1
  | .map entries => uptoBulkEntries entries + 1
  | .held _ => 1
def uptoBulkAll {H : Type} : List (DataW H) → Nat
  | [] => 0
  | d :: r => uptoBulk d + uptoBulkAll r
def uptoBulkEntries {H : Type} : List (Lit × DataW H) → Nat
  | [] => 0
  | x :: r => uptoBulkEntry x + uptoBulkEntries r
def uptoBulkEntry {H : Type} : Lit × DataW H → Nat
  | (.string bytes, d) => bytes.length + uptoBulk d + 1
  | (_, d) => uptoBulk d + 1
 end
def uptoSmall : (H : Type) → List (DataW H) → Bool := fun _ ds => decide (uptoBulkAll ds ≤ 1048576)
def OpenSpec.upto (s : _root_.Go.ChangeSpec) : _root_.Go.OpenSpec := { _root_.Go.OpenSpec.ofChange s with cond := some uptoSmall }

/-- 'laws.FnExactFogChance', WHERE WHAT IT READS IS OF BULK AT MOST 1048576: true; the input reads as it did. -/
def fnExactFogChanceUptoRow : OpenClaim := { program := "ythpfgmnhpnfopaa", sum := "142b103a5608a74417629b80b0b523994dd8613db7edfc40f2355bb3c9c994f5", func := "loop.example/g00940/laws.FnExactFogChance", spec := "fnExactFogChance", apart := false, narrowed := true }
def FnExactFogChanceUptoSaid : Prop := fnExactFogChanceUptoRow.holds Try.pinned (OpenSpec.upto fnExactFogChanceSpec)

/-- 'laws.FnExactFogDrawn', WHERE WHAT IT READS IS OF BULK AT MOST 1048576: true; the input reads as it did. -/
def fnExactFogDrawnUptoRow : OpenClaim := { program := "ythpfgmnhpnfopaa", sum := "142b103a5608a74417629b80b0b523994dd8613db7edfc40f2355bb3c9c994f5", func := "loop.example/g00940/laws.FnExactFogDrawn", spec := "fnExactFogDrawn", apart := false, narrowed := true }
def FnExactFogDrawnUptoSaid : Prop := fnExactFogDrawnUptoRow.holds Try.pinned (OpenSpec.upto fnExactFogDrawnSpec)

/-- 'laws.FnExactStayLoss', WHERE WHAT IT READS IS OF BULK AT MOST 1048576: true; the input reads as it did. -/
def fnExactStayLossUptoRow : OpenClaim := { program := "ythpfgmnhpnfopaa", sum := "142b103a5608a74417629b80b0b523994dd8613db7edfc40f2355bb3c9c994f5", func := "loop.example/g00940/laws.FnExactStayLoss", spec := "fnExactStayLoss", apart := false, narrowed := true }
def FnExactStayLossUptoSaid : Prop := fnExactStayLossUptoRow.holds Try.pinned (OpenSpec.upto fnExactStayLossSpec)

/-- 'laws.FnExactFogMix', WHERE WHAT IT READS IS OF BULK AT MOST 1048576: true; the input reads as it did. -/
def fnExactFogMixUptoRow : OpenClaim := { program := "ythpfgmnhpnfopaa", sum := "142b103a5608a74417629b80b0b523994dd8613db7edfc40f2355bb3c9c994f5", func := "loop.example/g00940/laws.FnExactFogMix", spec := "fnExactFogMix", apart := false, narrowed := true }
def FnExactFogMixUptoSaid : Prop := fnExactFogMixUptoRow.holds Try.pinned (OpenSpec.upto fnExactFogMixSpec)

/-- 'laws.FnExactBestConstant', WHERE WHAT IT READS IS OF BULK AT MOST 1048576: true; the input reads as it did. -/
def fnExactBestConstantUptoRow : OpenClaim := { program := "ythpfgmnhpnfopaa", sum := "142b103a5608a74417629b80b0b523994dd8613db7edfc40f2355bb3c9c994f5", func := "loop.example/g00940/laws.FnExactBestConstant", spec := "fnExactBestConstant", apart := false, narrowed := true }
def FnExactBestConstantUptoSaid : Prop := fnExactBestConstantUptoRow.holds Try.pinned (OpenSpec.upto fnExactBestConstantSpec)

/-- 'laws.FnExactForecastLoss', WHERE WHAT IT READS IS OF BULK AT MOST 1048576: true; the input reads as it did. -/
def fnExactForecastLossUptoRow : OpenClaim := { program := "ythpfgmnhpnfopaa", sum := "142b103a5608a74417629b80b0b523994dd8613db7edfc40f2355bb3c9c994f5", func := "loop.example/g00940/laws.FnExactForecastLoss", spec := "fnExactForecastLoss", apart := false, narrowed := true }
def FnExactForecastLossUptoSaid : Prop := fnExactForecastLossUptoRow.holds Try.pinned (OpenSpec.upto fnExactForecastLossSpec)

/-- 'laws.FnExactSlotsOf', WHERE WHAT IT READS IS OF BULK AT MOST 1048576: true; the input reads as it did. -/
def fnExactSlotsOfUptoRow : OpenClaim := { program := "ythpfgmnhpnfopaa", sum := "142b103a5608a74417629b80b0b523994dd8613db7edfc40f2355bb3c9c994f5", func := "loop.example/g00940/laws.FnExactSlotsOf", spec := "fnExactSlotsOf", apart := false, narrowed := true }
def FnExactSlotsOfUptoSaid : Prop := fnExactSlotsOfUptoRow.holds Try.pinned (OpenSpec.upto fnExactSlotsOfSpec)

/-- 'laws.FnExactHitCounts', WHERE WHAT IT READS IS OF BULK AT MOST 1048576: true; the input reads as it did. -/
def fnExactHitCountsUptoRow : OpenClaim := { program := "ythpfgmnhpnfopaa", sum := "142b103a5608a74417629b80b0b523994dd8613db7edfc40f2355bb3c9c994f5", func := "loop.example/g00940/laws.FnExactHitCounts", spec := "fnExactHitCounts", apart := false, narrowed := true }
def FnExactHitCountsUptoSaid : Prop := fnExactHitCountsUptoRow.holds Try.pinned (OpenSpec.upto fnExactHitCountsSpec)

/-- 'laws.FnForecasts', WHERE WHAT IT READS IS OF BULK AT MOST 1048576: true; the input reads as it did. -/
def fnForecastsUptoRow : OpenClaim := { program := "ythpfgmnhpnfopaa", sum := "142b103a5608a74417629b80b0b523994dd8613db7edfc40f2355bb3c9c994f5", func := "loop.example/g00940/laws.FnForecasts", spec := "fnForecasts", apart := false, narrowed := true }
def FnForecastsUptoSaid : Prop := fnForecastsUptoRow.holds Try.pinned (OpenSpec.upto fnForecastsSpec)

/-- 'laws.FnExactFogsByKey', WHERE WHAT IT READS IS OF BULK AT MOST 1048576: true; the input reads as it did. -/
def fnExactFogsByKeyUptoRow : OpenClaim := { program := "ythpfgmnhpnfopaa", sum := "142b103a5608a74417629b80b0b523994dd8613db7edfc40f2355bb3c9c994f5", func := "loop.example/g00940/laws.FnExactFogsByKey", spec := "fnExactFogsByKey", apart := false, narrowed := true }
def FnExactFogsByKeyUptoSaid : Prop := fnExactFogsByKeyUptoRow.holds Try.pinned (OpenSpec.upto fnExactFogsByKeySpec)

/-- 'laws.FnExactFogsBySlots', WHERE WHAT IT READS IS OF BULK AT MOST 1048576: true; the input reads as it did. -/
def fnExactFogsBySlotsUptoRow : OpenClaim := { program := "ythpfgmnhpnfopaa", sum := "142b103a5608a74417629b80b0b523994dd8613db7edfc40f2355bb3c9c994f5", func := "loop.example/g00940/laws.FnExactFogsBySlots", spec := "fnExactFogsBySlots", apart := false, narrowed := true }
def FnExactFogsBySlotsUptoSaid : Prop := fnExactFogsBySlotsUptoRow.holds Try.pinned (OpenSpec.upto fnExactFogsBySlotsSpec)

/-- 'laws.FnWeather', WHERE WHAT IT READS IS OF BULK AT MOST 1048576: true; the input reads as it did. -/
def fnWeatherUptoRow : OpenClaim := { program := "ythpfgmnhpnfopaa", sum := "142b103a5608a74417629b80b0b523994dd8613db7edfc40f2355bb3c9c994f5", func := "loop.example/g00940/laws.FnWeather", spec := "fnWeather", apart := false, narrowed := true }
def FnWeatherUptoSaid : Prop := fnWeatherUptoRow.holds Try.pinned (OpenSpec.upto fnWeatherSpec)

end Rows
end Go.Proofs.Ythpfgmnhpnfopaa
