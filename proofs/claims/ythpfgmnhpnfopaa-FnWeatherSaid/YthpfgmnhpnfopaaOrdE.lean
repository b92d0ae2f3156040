/- A region that draws its order: loads may be taken first although the region's last operation writes their cells. Speaks of no function. No conditions. -/
import Derived.Test.YthpfgmnhpnfopaaLib
import Derived.OrdersHeld
import Derived.StillTail
namespace Go.Proofs.Ythpfgmnhpnfopaa
set_option linter.unusedSimpArgs false
set_option linter.unusedVariables false
open Go.RowKit

section
variable {P : Program} {ops : Array Oper} {Q : Exit → Act → World → Prop} {md : Region.Mode} {S : World → Prop} {z : Nat}
/-- Every order ends in Q; S holds behind every operation but number z. -/
def EndsE (P : Program) (md : Region.Mode) (ops : Array Oper) (Q : Exit → Act → World → Prop) (S : World → Prop) (z : Nat) : Nat → Array Bool → Act → World → Prop
  | 0, bs, a, w => Region.ready md ops bs = [] ∧ Q .normal a w
  | f + 1, bs, a, w => (Region.ready md ops bs = [] → Q .normal a w) ∧ ∀ i ∈ Region.ready md ops bs, wpOp P ops Q i (fun a' w' => (i ≠ z → S w') ∧ EndsE P md ops Q S z f (bs.setIfInBounds i true) a' w') a w
theorem EndsE.any : ∀ (f : Nat) (bs : Array Bool) (a : Act) (w : World), EndsE P md ops Q S z f bs a w → wpAny P md ops Q f bs a w := by
  intro f
  induction f with
  | zero => exact fun _ _ _ h => h
  | succ f ih => exact fun bs a w h => ⟨h.1, fun i hi => wpOp_mono (fun a' w' h' => ih _ a' w' h'.2) (h.2 i hi)⟩
theorem waits_out {i j : Nat} {bs : Array Bool} (hw : Region.waitsFor md ops j i = true) (hi : i ∈ Region.ready md ops bs) (hj : j ∈ Region.ready md ops bs) : False := by
  obtain ⟨oj, hoj, e, he, hb, hon⟩ := Region.waitsFor_spec hw
  obtain ⟨_, oj', hoj', hall⟩ := mem_ready.1 hj
  have heq : oj' = oj := Option.some.inj (hoj'.symm.trans hoj)
  subst heq
  have h1 := hall e he hb
  rw [hon] at h1
  have h0 := (mem_ready.1 hi).1
  by_cases hlt : i < bs.size
  · simp [hlt] at h0 h1
    rw [h0] at h1
    cases h1
  · simp [Array.getElem?_eq_none (by omega : bs.size ≤ i)] at h1
theorem EndsE.take_all {i : Nat} {oi : Oper} {v : Value} (hi : ops[i]? = some oi) (hsel : ∀ (j : Nat) (o : Oper) cs b, ops[j]? = some o → o.op ≠ .select cs b) (hQ : ∀ c a w, Q (.panic c) (a.put oi.dst v) w → Q (.panic c) a w) (hz : Region.waitsFor md ops z i = true) (hiz : i ≠ z) :
    ∀ (f : Nat) (bs : Array Bool) (a : Act) (w : World), (∀ j oj, ops[j]? = some oj → j ≠ i → bs.getD j true = false → (∀ e ∈ oj.after, Region.binds md e = true → e.on ≠ i) → oi.apart ops oj = true) → i ∈ Region.ready md ops bs → YieldsIf P ops S oi v a → S w →
      EndsE P md ops Q S z f (bs.setIfInBounds i true) (a.put oi.dst v) w → EndsE P md ops Q S z (f + 1) bs a w := by
  intro f
  induction f with
  | zero =>
    intro bs a w _ hr hy hS H
    refine ⟨(fun h => by rw [h] at hr; cases hr), fun j hj => ?_⟩
    by_cases hji : j = i
    · subst hji
      exact hy.wpOp hi hS ⟨fun _ => hS, H⟩
    · have h := ready_mono hj hji
      rw [H.1] at h
      cases h
  | succ f ih =>
    intro bs a w hfree hr hy hS H
    refine ⟨(fun h => by rw [h] at hr; cases hr), fun j hj => ?_⟩
    by_cases hji : j = i
    · subst hji
      exact hy.wpOp hi hS ⟨fun _ => hS, H⟩
    · have hjz : j ≠ z := by
        rintro rfl
        exact waits_out hz hr hj
      obtain ⟨hun, oj, hoj, _⟩ := mem_ready.1 hj
      have hno : ∀ e ∈ oj.after, Region.binds md e = true → e.on ≠ i := fun e he hb heq => by
        have hw : Region.waitsFor md ops j i = true := by
          unfold Region.waitsFor
          rw [hoj]
          exact Array.any_eq_true'.2 ⟨e, he, by simp [hb, heq]⟩
        exact waits_out hw hr hj
      have h2 := wpOp_putIf hoj (hfree j oj hoj hji hun hno) (fun cs b => hsel i oi cs b hi) (fun cs b => hsel j oj cs b hoj) hQ hy (H.2 j (ready_mono hj hji))
      refine wpOp_mono (fun a' w' h3 => ⟨h3.2.1, ih _ a' w' (fun k ok hk hki hunk hnok => hfree k ok hk hki ?_ hnok) (ready_mono hr (Ne.symm hji)) h3.1 (h3.2.1 hjz) ?_⟩) h2
      · by_cases hjk : j = k
        · subst hjk; exact hun
        · rw [getD_set_ne true hjk] at hunk; exact hunk
      · rw [Array.setIfInBounds_comm _ _ hji]
        exact h3.2.2
theorem EndsE.take {i : Nat} {oi : Oper} {v : Value} {f : Nat} {bs : Array Bool} {a : Act} {w : World} (hi : ops[i]? = some oi) (hs : Region.noSelect ops = true) (hf : Region.free md ops bs i = true) (hr : (Region.ready md ops bs).contains i = true)
    (hQ : ∀ c a w, Q (.panic c) (a.put oi.dst v) w → Q (.panic c) a w) (hz : (Region.waitsFor md ops z i && !(i == z)) = true) (hy : YieldsIf P ops S oi v a) (hS : S w)
    (h : EndsE P md ops Q S z f (bs.setIfInBounds i true) (a.put oi.dst v) w) : EndsE P md ops Q S z (f + 1) bs a w := by
  simp only [Bool.and_eq_true, Bool.not_eq_true', beq_eq_false_iff_ne] at hz
  exact EndsE.take_all hi (Region.noSelect_spec hs) hQ hz.1 hz.2 f bs a w (Region.free_spec hi hf) (by simpa using hr) hy hS h
/-- One of those that may come up, and the others. -/
def WaysE (P : Program) (md : Region.Mode) (ops : Array Oper) (Q : Exit → Act → World → Prop) (S : World → Prop) (z f : Nat) (bs : Array Bool) (a : Act) (w : World) (rs : List Nat) : Prop :=
  ∀ i ∈ rs, wpOp P ops Q i (fun a' w' => (i ≠ z → S w') ∧ EndsE P md ops Q S z f (bs.setIfInBounds i true) a' w') a w
theorem WaysE.nil {f : Nat} {bs : Array Bool} {a : Act} {w : World} : WaysE P md ops Q S z f bs a w [] := fun _ h => by cases h
theorem WaysE.cons {f : Nat} {bs : Array Bool} {a : Act} {w : World} {i : Nat} {o : Oper} {rs : List Nat} (ho : ops[i]? = some o)
    (h : ∀ K : Act → World → Prop, Hid (∀ a w, (i ≠ z → S w) → EndsE P md ops Q S z f (bs.setIfInBounds i true) a w → K a w) → if Region.wanted o (yielded ops a.tmps) = true then Oper.wp P o a w K Q else K (a.put o.dst undef) w)
    (hs : WaysE P md ops Q S z f bs a w rs) : WaysE P md ops Q S z f bs a w (i :: rs) := fun j hj => by
  rcases List.mem_cons.1 hj with rfl | hj
  · exact wpOp_step ho (fun K hK => h K (Lib.hid fun a w h1 h2 => hK a w ⟨h1, h2⟩))
  · exact hs j hj
theorem EndsE.ready {rs : List Nat} {f : Nat} {bs : Array Bool} {a : Act} {w : World} (hr : Region.ready md ops bs = rs) (hne : rs ≠ []) (h : WaysE P md ops Q S z f bs a w rs) : EndsE P md ops Q S z (f + 1) bs a w :=
  ⟨fun h0 => absurd (hr ▸ h0) hne, hr ▸ h⟩
theorem EndsE.done {bs : Array Bool} {a : Act} {w : World} (hr : Region.ready md ops bs = []) (h : Q .normal a w) : ∀ f, EndsE P md ops Q S z f bs a w
  | 0 => ⟨hr, h⟩
  | _ + 1 => ⟨fun _ => h, by rw [hr]; simp⟩
theorem region_E (S : World → Prop) (z : Nat) {id : Nat} {a : Act} {w : World} (hm : P.follows .mixedOrders = true) (h : EndsE P .any ops Q S z ops.size (Array.replicate ops.size false) a w.drew) : (Code.region id ops true).wp P Q a w :=
  wp_region_any hm (EndsE.any _ _ _ _ h)
end
end Go.Proofs.Ythpfgmnhpnfopaa
