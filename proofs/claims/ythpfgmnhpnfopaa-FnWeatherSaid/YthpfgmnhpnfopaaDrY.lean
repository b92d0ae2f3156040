/- Rows of bools that are drawn. No conditions. -/
import Derived.Test.YthpfgmnhpnfopaaFgK
namespace Go.Proofs.Ythpfgmnhpnfopaa
set_option linter.unusedSimpArgs false
set_option linter.unusedVariables false
open Go.RowKit Go.ChangeShapes Go.WideShapes Go.Deep
/-- A row that lies above all others is appended. -/
theorem Own2.push_mid {w1 w' : World} {lo hi n c c' : Nat} {e ei eb : TypeId} {A A' Ai : Option Addr} {cs : List Cel} {hs : List Value} {l : List Value} {m ci : Nat} (h : Own2 w1 lo hi e ei 1 A n c cs hs) (hm : m = l.length) (hlo : lo ≤ hi) (hh : hi ≤ w1.heap.size)
    (ho : w1.ownsRow hi ei 1 (.slice Ai m ci) m l)
    (hg : (w1.alloc (.cells #[.slice Ai m ci] eb)).grownBy w' (Value.slice A n c).ownBlock) (hr : w'.ownsRow lo e 1 (.slice A' (n + 1) c') (n + 1) (hs ++ [.slice Ai m ci]))
    (hloc : (Value.slice A' (n + 1) c').ownBlock = (Value.slice A n c).ownBlock ∨ (Value.slice A' (n + 1) c').ownBlock = some (w1.alloc (.cells #[.slice Ai m ci] eb)).heap.size) :
    Own2 w' lo w'.heap.size e ei 1 A' (n + 1) c' (cs ++ [.inr l]) (hs ++ [.slice Ai m ci]) := by
  subst hm
  have hb2 : Below w1.heap.size w1 (w1.alloc (.cells #[.slice Ai l.length ci] eb)) := (Below.refl _ _).alloc (Nat.le_refl _) _
  have hoc := own_below ho hb2
  refine (h.below hb2 hh).push hg hr hloc (by simp; omega) rfl (fun q u x hu hx => ?_) (fun q u hu b hb' => ?_) (fun q q' u v hne hu hv => ?_)
  · cases q with
    | succ q => simp at hu
    | zero =>
      simp at hu hx
      subst hu; subst hx
      exact ownC_mono (x := .inr l) ⟨_, _, rfl, hoc⟩ hlo
  · cases q with
    | succ q => simp at hu
    | zero =>
      simp at hu
      subst hu
      have h1 := ho.lt b hb'
      exact ⟨by omega, h1.1, by simp; omega⟩
  · cases q with
    | succ q => simp at hu
    | zero =>
      cases q' with
      | zero => exact absurd rfl hne
      | succ q' => simp at hv
theorem Reads2.rest {w : World} {g n : Nat} {cs : List Cel} (h : Reads2 w 1 (some ⟨g, 0, none⟩) n cs) (hn : 0 < n) : Reads2 w 1 (some ⟨g, 1, none⟩) (n - 1) (cs.drop 1) := by
  obtain ⟨hs, h1, h2, h3⟩ := h
  have hl : hs.length = n := by simpa using h1.1
  refine ⟨hs.drop 1, ⟨by simp; omega, fun _ => ⟨_, rfl, fun j u hu => ?_⟩⟩, by simp [h2], fun j u c hu hc => h3 (j + 1) u c (by simpa using hu) (by simpa using hc)⟩
  obtain ⟨ad, e, hc⟩ := h1.2 hn
  injection e with e
  subst e
  have := hc (j + 1) u (by simpa using hu)
  rw [show (⟨g, 0, none⟩ : Addr).add (j + 1) = (⟨g, 1, none⟩ : Addr).add j from by
    cases j with
    | zero => simp [Addr.add]
    | succ j => simp [Addr.add] <;> omega] at this
  exact this
theorem rowsBoolss_drop (L : List (List Bool)) : (rowsBoolss L).drop 1 = rowsBoolss (L.drop 1) := by simp [rowsBoolss, List.map_drop]
theorem rowsBoolss_set (L : List (List Bool)) (j : Nat) (l : List Bool) : (rowsBoolss L).set j (.inr (bools l)) = rowsBoolss (L.set j l) := by simp [rowsBoolss, List.map_set]
end Go.Proofs.Ythpfgmnhpnfopaa
