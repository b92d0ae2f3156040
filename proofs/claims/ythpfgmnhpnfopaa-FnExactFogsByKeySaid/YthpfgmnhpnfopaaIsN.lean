/- When is an argument a net, and an opened argument is one. Speaks of no function. No conditions. -/
import Derived.Test.YthpfgmnhpnfopaaNest
namespace Go.Proofs.Ythpfgmnhpnfopaa
set_option linter.unusedSimpArgs false
set_option linter.unusedVariables false
open Go.RowKit Go.ChangeShapes Go.WideShapes Go.Deep

def IsNet (w : World) (v : Value) : Prop := ∃ At nT cT Ak nK cK, ∃ T K : List (Int × Int × Int), v = .agg #[.slice At nT cT, .slice Ak nK cK] ∧ nT ≤ cT ∧ cT ≤ 9223372036854775807 ∧ nK ≤ cK ∧ cK ≤ 9223372036854775807 ∧ Reads w 3 At nT (rows3 T) ∧ Reads w 3 Ak nK (rows3 K)
section
variable {H : Type} {enc : TypeId × Value → H} {P : Program} {w : World} {base b0 : Nat} {spare : Nat → Bool} {held : Bool} {r : Reach} {t e : TypeId} {v : Value} {d : DataW H} {p : List MemPlace}
/-- A slice of structs of three integers that lies in a cell. -/
theorem rows3_open {u : TypeId} {f0 f1 f2 : Field} {fuel : Nat} {cs0 : List Value} {x0 : DataW H × List MemPlace} (ht : P.underlying t = some (.slice e)) (hs : P.underlying e = some (.struct #[f0, f1, f2])) (he : P.underlying u = some (.int .i64)) (hC : P.cellsOf e = 3) (hone : oneCellFields P #[f0, f1, f2] = true)
    (hf : f0.type = u ∧ f1.type = u ∧ f2.type = u) (h : DataW.trod enc P w base spare held fuel t cs0 = some x0) : ∃ A n c l, cs0 = [.slice A n c] ∧ n ≤ c ∧ c ≤ 9223372036854775807 ∧ List.length l = n ∧ Reads w 3 A n (rows3 l) := by
  obtain ⟨A, n, c, l, hv, h1, h2, h3, h4, h5⟩ := rows_open cells3 in3 3 ht hC (fun m cs x hl htr => by
    match cs, hl with
    | [c0, c1, c2], _ =>
      obtain ⟨xs, q, _, hx, _, hlen, hg⟩ := DataW.trod_struct hs htr
      obtain ⟨o0, k0⟩ := hone_of hone 0 f0 rfl
      obtain ⟨o1, k1⟩ := hone_of hone 1 f1 rfl
      obtain ⟨o2, k2⟩ := hone_of hone 2 f2 rfl
      match xs, hlen with
      | [y0, y1, y2], _ =>
        have t0 : DataW.trod enc P w base spare held q f0.type [c0] = some y0 := by simpa [o0, k0] using hg 0 f0 rfl
        have t1 : DataW.trod enc P w base spare held q f1.type [c1] = some y1 := by simpa [o1, k1] using hg 1 f1 rfl
        have t2 : DataW.trod enc P w base spare held q f2.type [c2] = some y2 := by simpa [o2, k2] using hg 2 f2 rfl
        rw [hf.1] at t0
        rw [hf.2.1] at t1
        rw [hf.2.2] at t2
        obtain ⟨a0, e0, _, w0⟩ := DataW.trod_int he t0
        obtain ⟨a1, e1, _, w1⟩ := DataW.trod_int he t1
        obtain ⟨a2, e2, _, w2⟩ := DataW.trod_int he t2
        injection e0 with e0
        injection e1 with e1
        injection e2 with e2
        subst e0
        subst e1
        subst e2
        exact ⟨(a0, a1, a2), rfl, inI64_of w0, inI64_of w1, inI64_of w2⟩) h
  exact ⟨A, n, c, l, hv, h1, h2, h3, h4⟩
theorem isNet_of {tT eT tK eK u : TypeId} {f0 f1 g0 g1 g2 k0 k1 k2 : Field} (hs : P.underlying t = some (.struct #[f0, f1])) (hC : P.cellsOf t = 2) (hone : oneCellFields P #[f0, f1] = true)
    (hT : P.underlying tT = some (.slice eT)) (hsT : P.underlying eT = some (.struct #[g0, g1, g2])) (hCT : P.cellsOf eT = 3) (honeT : oneCellFields P #[g0, g1, g2] = true)
    (hK : P.underlying tK = some (.slice eK)) (hsK : P.underlying eK = some (.struct #[k0, k1, k2])) (hCK : P.cellsOf eK = 3) (honeK : oneCellFields P #[k0, k1, k2] = true) (hu : P.underlying u = some (.int .i64))
    (hf : f0.type = tT ∧ f1.type = tK) (hg : g0.type = u ∧ g1.type = u ∧ g2.type = u) (hk : k0.type = u ∧ k1.type = u ∧ k2.type = u)
    (hval : Value.okWide P w r b0 t v) (h : DataW.Trod enc P w base spare held t v d p) : IsNet w v := by
  obtain ⟨v0, v1, y0, y1, n, rfl, _, _, t0, t1⟩ := Go.Joins.open_agg2 hs hone hC hval h
  rw [hf.1] at t0
  rw [hf.2] at t1
  obtain ⟨At, nT, cT, T, e0, a1, a2, _, a4⟩ := rows3_open hT hsT hu hCT honeT hg t0
  obtain ⟨Ak, nK, cK, Kl, e1, b1, b2, _, b4⟩ := rows3_open hK hsK hu hCK honeK hk t1
  injection e0 with e0
  injection e1 with e1
  subst e0
  subst e1
  exact ⟨At, nT, cT, Ak, nK, cK, T, Kl, rfl, a1, a2, b1, b2, a4, b4⟩
end
end Go.Proofs.Ythpfgmnhpnfopaa
