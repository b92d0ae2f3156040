/- The program's forward costs: plain half. No conditions. -/
import Derived.Test.YtjibdabedagghaaLp7
namespace Go.Proofs.Ytjibdabedagghaa
set_option linter.unusedSimpArgs false
set_option linter.unusedVariables false
open Go.RowKit

theorem stepW_at : ∀ (l : List G4) (ws : List Int) (s k : Nat) (hk : k < l.length) (hw : k < ws.length), (stepW l ws s)[k]? = some ((if s / 2 ^ k % 2 = 1 then 0 else ws[k]) + l[k].2.1) := by
  intro l
  induction l with
  | nil => intro ws s k hk; simp at hk
  | cons g r ih =>
    intro ws s k hk hw
    cases ws with
    | nil => simp at hw
    | cons x xs =>
      cases k with
      | zero => simp [stepW]
      | succ k =>
        have h2 := ih xs (s / 2) k (by simpa using hk) (by simpa using hw)
        simp only [stepW, List.getElem?_cons_succ, List.getElem_cons_succ]
        rw [h2, Nat.div_div_eq_div_mul, Nat.pow_succ, Nat.mul_comm 2]
theorem stepW_end : ∀ (l : List G4) (ws : List Int) (s : Nat), (stepW l ws s).drop l.length = ws.drop l.length := by
  intro l
  induction l with
  | nil => intro ws s; cases ws <;> simp [stepW]
  | cons g r ih =>
    intro ws s
    cases ws with
    | nil => simp [stepW]
    | cons x xs => simpa [stepW] using ih xs (s / 2)
theorem fails_atW (l : List G4) (ws : List Int) (s k : Nat) (hw : k < ws.length) (hk : k < l.length) :
    failsW (l.drop k) (ws.drop k) (s / 2 ^ k) = (decide (l[k].2.2.1 < (if s / 2 ^ k % 2 = 1 then 0 else ws[k]) + l[k].2.1) || failsW (l.drop (k + 1)) (ws.drop (k + 1)) (s / 2 ^ (k + 1))) := by
  rw [List.drop_eq_getElem_cons hk, List.drop_eq_getElem_cons hw]
  simp only [failsW, half_pow]
theorem stepW_take (l : List G4) (ws : List Int) (s : Nat) (h : l.length ≤ ws.length) : (stepW l ws s).take l.length ++ ws.drop l.length = stepW l ws s := by
  rw [← stepW_end l ws s, List.take_append_drop]
theorem stepW_bd : ∀ (l : List G4) (ws : List Int) (s : Nat) (m : Int), goodG l → 0 ≤ m → (∀ x ∈ ws, 0 ≤ x ∧ x ≤ m) → ∀ x ∈ stepW l ws s, 0 ≤ x ∧ x ≤ m + 100 := by
  intro l
  induction l with
  | nil => intro ws s m _ _ h x hx; cases ws <;> simp [stepW] at hx; have := h x (by simpa using hx); omega
  | cons g r ih =>
    intro ws s m hg hm h x hx
    obtain ⟨h1, h2⟩ := goodG_cons hg
    cases ws with
    | nil => simp [stepW] at hx
    | cons y ys =>
      simp only [stepW, List.mem_cons] at hx
      rcases hx with rfl | hx
      · have := h y (by simp)
        split <;> omega
      · exact ih ys (s / 2) m h2 hm (fun z hz => h z (by simp [hz])) x hx
/-- What a map of costs says of a key. -/
def Says {H : Type} (D : DataW H) (k : List Int) (v : Int) : Prop := ∃ a b c, k = [a, b, c] ∧ ((Lit.int .i64 a).wf = true ∧ (Lit.int .i64 b).wf = true ∧ (Lit.int .i64 c).wf = true) ∧ Maps.has D (kT a b c) = true ∧ ∀ zd, D.atKey (kT a b c) zd = .lit (.int .i64 v)
/-- All that the map says is no better than V; all wears and costs are small. -/
def Sound {H : Type} (l : List G4) (trip : Int) (rem : Nat) (V B M : Int) (D : DataW H) : Prop := ∀ k v, Says D k v → (∀ x ∈ k, 0 ≤ x ∧ x ≤ M) ∧ 0 ≤ v ∧ v ≤ B ∧ V ≤ v + leastW l trip rem k
/-- One key bears V itself. -/
def Tight {H : Type} (l : List G4) (trip : Int) (rem : Nat) (V : Int) (D : DataW H) : Prop := ∃ k v, Says D k v ∧ v + leastW l trip rem k = V
/-- A way out of an entry is no better than V. -/
theorem way_sound {l : List G4} {trip : Int} {rem : Nat} {V v : Int} {k : List Int} {s : Nat} (hg : goodG l) (ht : 0 ≤ trip ∧ trip ≤ 1000) (hs : s < 2 ^ l.length) (hf : failsW l k s = false) (h : V ≤ v + leastW l trip (rem + 1) k) : V ≤ v + setC l trip s + leastW l trip rem (stepW l k s) := by
  have := (leastW_way hg ht rem k).2 s hs hf
  omega
theorem way_tight {l : List G4} {trip : Int} {rem : Nat} {V v : Int} {k : List Int} (hg : goodG l) (ht : 0 ≤ trip ∧ trip ≤ 1000) (h : v + leastW l trip (rem + 1) k = V) : ∃ s, s < 2 ^ l.length ∧ failsW l k s = false ∧ v + setC l trip s + leastW l trip rem (stepW l k s) = V := by
  obtain ⟨s, h1, h2, h3⟩ := (leastW_way hg ht rem k).1
  exact ⟨s, h1, h2, by omega⟩
theorem keyLitK (a b c : Int) : WideAt.IsKeyLit (kT a b c) := trivial
section
variable {H : Type} {D : DataW H} {a b c v v' V B M : Int} {k : List Int} {l : List G4} {trip : Int} {rem : Nat}
theorem says_fun (h : Says D k v) (h' : Says D k v') : v = v' := by
  obtain ⟨a, b, c, rfl, _, _, h1⟩ := h
  obtain ⟨a', b', c', e, _, _, h2⟩ := h'
  injection e with e1 e
  injection e with e2 e
  injection e with e3 e
  subst e1; subst e2; subst e3
  have h3 := (h1 .nil).symm.trans (h2 .nil)
  injection h3 with h3
  injection h3
theorem says_put_same (hD : Maps.IsMap D) (wa : (Lit.int .i64 a).wf = true) (wb : (Lit.int .i64 b).wf = true) (wc : (Lit.int .i64 c).wf = true) : Says (D.put (kT a b c) (.lit (.int .i64 v))) [a, b, c] v :=
  ⟨a, b, c, rfl, ⟨wa, wb, wc⟩, Maps.has_put_same hD (keyLitK a b c) _, fun zd => Maps.atKey_put_same hD (keyLitK a b c) _ zd⟩
theorem says_put_other (wa : (Lit.int .i64 a).wf = true) (wb : (Lit.int .i64 b).wf = true) (wc : (Lit.int .i64 c).wf = true) (hk : k ≠ [a, b, c]) (h : Says D k v') : Says (D.put (kT a b c) (.lit (.int .i64 v))) k v' := by
  obtain ⟨a', b', c', rfl, ⟨wa', wb', wc'⟩, h1, h2⟩ := h
  have hne : kT a' b' c' ≠ kT a b c := fun e => by
    obtain ⟨rfl, rfl, rfl⟩ := kT_inj wa' wb' wc' wa wb wc e
    exact hk rfl
  exact ⟨a', b', c', rfl, ⟨wa', wb', wc'⟩, by rw [Maps.has_put_other hne]; exact h1, fun zd => by rw [Maps.atKey_put_other hne]; exact h2 zd⟩
theorem says_put_inv (hD : Maps.IsMap D) (wa : (Lit.int .i64 a).wf = true) (wb : (Lit.int .i64 b).wf = true) (wc : (Lit.int .i64 c).wf = true) (h : Says (D.put (kT a b c) (.lit (.int .i64 v))) k v') : (k = [a, b, c] ∧ v' = v) ∨ (k ≠ [a, b, c] ∧ Says D k v') := by
  by_cases hk : k = [a, b, c]
  · subst hk
    exact .inl ⟨rfl, says_fun h (says_put_same hD wa wb wc)⟩
  · obtain ⟨a', b', c', rfl, ⟨wa', wb', wc'⟩, h1, h2⟩ := h
    have hne : kT a' b' c' ≠ kT a b c := fun e => by
      obtain ⟨rfl, rfl, rfl⟩ := kT_inj wa' wb' wc' wa wb wc e
      exact hk rfl
    rw [Maps.has_put_other hne] at h1
    exact .inr ⟨hk, a', b', c', rfl, ⟨wa', wb', wc'⟩, h1, fun zd => by have := h2 zd; rwa [Maps.atKey_put_other hne] at this⟩
theorem sound_put (hD : Maps.IsMap D) (wa : (Lit.int .i64 a).wf = true) (wb : (Lit.int .i64 b).wf = true) (wc : (Lit.int .i64 c).wf = true) (h : Sound l trip rem V B M D) (hx : ∀ x ∈ [a, b, c], 0 ≤ x ∧ x ≤ M) (h0 : 0 ≤ v ∧ v ≤ B) (hV : V ≤ v + leastW l trip rem [a, b, c]) : Sound l trip rem V B M (D.put (kT a b c) (.lit (.int .i64 v))) := by
  intro k v' hs
  rcases says_put_inv hD wa wb wc hs with ⟨rfl, rfl⟩ | ⟨_, hs⟩
  · exact ⟨hx, h0.1, h0.2, hV⟩
  · exact h k v' hs
theorem tight_new (hD : Maps.IsMap D) (wa : (Lit.int .i64 a).wf = true) (wb : (Lit.int .i64 b).wf = true) (wc : (Lit.int .i64 c).wf = true) (hV : v + leastW l trip rem [a, b, c] = V) : Tight l trip rem V (D.put (kT a b c) (.lit (.int .i64 v))) := ⟨_, v, says_put_same hD wa wb wc, hV⟩
theorem tight_put (hD : Maps.IsMap D) (wa : (Lit.int .i64 a).wf = true) (wb : (Lit.int .i64 b).wf = true) (wc : (Lit.int .i64 c).wf = true) (h : Tight l trip rem V D) (hV : V ≤ v + leastW l trip rem [a, b, c]) (hold : ∀ u, Says D [a, b, c] u → v < u) : Tight l trip rem V (D.put (kT a b c) (.lit (.int .i64 v))) := by
  obtain ⟨k, u, hs, he⟩ := h
  by_cases hk : k = [a, b, c]
  · subst hk
    have := hold u hs
    omega
  · exact ⟨k, u, says_put_other wa wb wc hk hs, he⟩
theorem tight_old (h : Sound l trip rem V B M D) (hs : Says D k v') (hle : v' ≤ v) (hV : v + leastW l trip rem k = V) : Tight l trip rem V D := ⟨k, v', hs, by have := (h k v' hs).2.2.2; omega⟩
end
end Go.Proofs.Ytjibdabedagghaa
