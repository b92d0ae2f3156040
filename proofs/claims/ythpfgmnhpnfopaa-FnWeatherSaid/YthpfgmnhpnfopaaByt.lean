/- A slice of bytes among the arguments, opened. Speaks of no function. No conditions. -/
import Derived.Test.YthpfgmnhpnfopaaLib
namespace Go.Proofs.Ythpfgmnhpnfopaa
set_option linter.unusedSimpArgs false
set_option linter.unusedVariables false
open Go.RowKit Go.ChangeShapes Go.WideShapes Go.Deep
section
variable {H : Type} {enc : TypeId × Value → H} {P : Program} {w : World} {base b0 : Nat} {spare : Nat → Bool} {held : Bool} {r : Reach} {t e : TypeId} {v : Value} {d : DataW H} {p : List MemPlace}
theorem isBytes_of (ht : P.underlying t = some (.slice e)) (he : P.underlying e = some (.int .u8)) (hC : P.cellsOf e = 1)
    (hval : Value.okWide P w r b0 t v) (h : DataW.Trod enc P w base spare held t v d p) : IsBytes w v := by
  obtain ⟨A, n, c, l, hv, h1, h2, _, h3, h4⟩ := rows_of (fun x : Int => [.int .u8 x]) (fun x => 0 ≤ x ∧ x ≤ 255) 1 ht hC (fun m cs x _ htr => by
    obtain ⟨a, rfl, _, wf⟩ := DataW.trod_int he htr
    exact ⟨a, rfl, by have := bounds_u8 wf; omega⟩) hval h
  exact ⟨A, n, c, l, hv, h1, h2, by rw [flatMap_one] at h3; exact h3, h4⟩
end
end Go.Proofs.Ythpfgmnhpnfopaa
