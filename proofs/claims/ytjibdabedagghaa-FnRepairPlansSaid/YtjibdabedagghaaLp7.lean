/- Keys that are arrays of three integers. No conditions. -/
import Derived.Test.YtjibdabedagghaaLp6
import Derived.Maps.RangeWalk
import Derived.Maps.OwnSet
import Derived.Maps.Ext
import Derived.WideKeyPair
import Derived.DeepKeys4
namespace Go.Proofs.Ytjibdabedagghaa
set_option linter.unusedSimpArgs false
set_option linter.unusedVariables false
open Go.RowKit
open Go.WideMaps (ArrKey KeyLaw)
open Go.Maps (Keyed)

theorem laidOutK : laidOutB Try.prog = true := by kernel_rfl
theorem rowK : (95 : TypeId) < Try.prog.types.size := of_decide_eq_true (by kernel_rfl)
theorem wideK : (match Try.prog.underlying 95 with | some (.array _ _) | some (.struct _) => true | _ => false) = true := by rw [Try.underlying95]
set_option maxRecDepth 100000 in
theorem lawK : KeyLaw Try.prog 95 := deep_law_laid laidOutK (m := 2) (by omega) rowK (by kernel_rfl) wideK
theorem keyedK : Keyed Try.prog 95 := Keyed.of_law lawK
theorem arrK : ArrKey Try.prog 95 3 3 := ⟨Try.underlying95, by kernel_rfl, by kernel_rfl, by kernel_rfl⟩
theorem size_of_lt {n t : Nat} (h : t < n) : ∃ m, n = m + 1 := by
  cases n with
  | zero => omega
  | succ m => exact ⟨m, rfl⟩
theorem sizeK : ∃ m, Try.prog.types.size = m + 1 := size_of_lt rowK
theorem zeroK (w : World) : (zeroValue 3).run Try.prog w = .ok (.int .i64 0) w := by kernel_rfl
/-- What a key reads as. -/
def kT (a b c : Int) : Lit := .string (keyBytes [.int .i64 a, .int .i64 b, .int .i64 c])
set_option maxRecDepth 100000 in
theorem keyTri {a b c : Int} (wa : (Lit.int .i64 a).wf = true) (wb : (Lit.int .i64 b).wf = true) (wc : (Lit.int .i64 c).wf = true) : keyOf Try.prog 95 (.agg #[.int .i64 a, .int .i64 b, .int .i64 c]) = some (kT a b c) := by
  have hsz := sizeK
  have hkt := arrK.keyType hsz
  obtain ⟨m, hm⟩ := hsz
  unfold keyOf
  simp only [arrK.hu]
  rw [if_pos (by simp [hkt, Value.formed, arrK.hu, arrK.size]), hm]
  unfold Program.keyLits
  simp only [arrK.hu, Value.cells]
  rw [if_pos (by rw [arrK.size]; rfl), show List.range 3 = [0, 1, 2] from rfl, List.mapM_cons, List.mapM_cons, List.mapM_cons, List.mapM_nil]
  simp [arrK.one, Program.keyLits, Try.underlying3, wa, wb, wc, kT]
theorem kT_inj {a b c a' b' c' : Int} (wa : (Lit.int .i64 a).wf = true) (wb : (Lit.int .i64 b).wf = true) (wc : (Lit.int .i64 c).wf = true) (wa' : (Lit.int .i64 a').wf = true) (wb' : (Lit.int .i64 b').wf = true) (wc' : (Lit.int .i64 c').wf = true) (h : kT a b c = kT a' b' c') : a = a' ∧ b = b' ∧ c = c' := by
  have h1 := keyTri wa wb wc
  have h2 := keyTri wa' wb' wc'
  rw [h] at h1
  have h3 := keyedK.inj h1 h2
  simp at h3
  exact h3
set_option maxRecDepth 100000 in
theorem keyOneK {m : Nat} {x : Value} {L : List Lit} (h : Try.prog.keyLits (m + 1) 3 [x] = some L) : ∃ a : Int, x = .int .i64 a ∧ L = [.int .i64 a] ∧ (Lit.int .i64 a).wf = true := by
  unfold Program.keyLits at h
  simp only [Try.underlying3] at h
  cases x <;> simp at h
  obtain ⟨⟨rfl, hw⟩, rfl⟩ := h
  exact ⟨_, rfl, rfl, hw⟩
theorem three_of {α : Type} {l : List α} (h : l.length = 3) : ∃ a b c, l = [a, b, c] := by
  match l, h with
  | [a, b, c], _ => exact ⟨a, b, c, rfl⟩
set_option maxRecDepth 100000 in
theorem keyTri_inv {key : Value} {kl : Lit} (h : keyOf Try.prog 95 key = some kl) : ∃ a b c : Int, key = .agg #[.int .i64 a, .int .i64 b, .int .i64 c] ∧ kl = kT a b c ∧ (Lit.int .i64 a).wf = true ∧ (Lit.int .i64 b).wf = true ∧ (Lit.int .i64 c).wf = true := by
  obtain ⟨xs, L, rfl, h1, rfl⟩ := keyOf_top wideK h
  have hsz := sizeK
  obtain ⟨m, hm⟩ := hsz
  rw [hm] at h1
  unfold Program.keyLits at h1
  simp only [arrK.hu] at h1
  split at h1
  · next hl =>
    simp only [Option.map_eq_some_iff] at h1
    rw [show List.range 3 = [0, 1, 2] from rfl, List.mapM_cons, List.mapM_cons, List.mapM_cons, List.mapM_nil] at h1
    obtain ⟨LL, h1, rfl⟩ := h1
    rw [arrK.size] at hl
    obtain ⟨x0, x1, x2, hx⟩ := three_of hl
    rw [hx, arrK.one] at h1
    simp only [bind, Option.bind_eq_some_iff, pure, Option.some.injEq] at h1
    obtain ⟨y0, h0, _, ⟨y1, h1, _, ⟨y2, h2, _, rfl, rfl⟩, rfl⟩, rfl⟩ := h1
    obtain ⟨a, rfl, rfl, wa⟩ := keyOneK h0
    obtain ⟨b, rfl, rfl, wb⟩ := keyOneK h1
    obtain ⟨c, rfl, rfl, wc⟩ := keyOneK h2
    refine ⟨a, b, c, ?_, rfl, wa, wb, wc⟩
    congr 1
    apply Array.ext'
    exact hx
  · cases h1
end Go.Proofs.Ytjibdabedagghaa
