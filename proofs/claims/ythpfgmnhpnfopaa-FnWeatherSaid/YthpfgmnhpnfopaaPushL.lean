/- An append to a row of the call's own, with the place of the new row; slices of slices of the call's own beside boxes. Speaks of no function. No conditions. -/
import Derived.Test.YthpfgmnhpnfopaaNest
namespace Go.Proofs.Ythpfgmnhpnfopaa
set_option linter.unusedSimpArgs false
set_option linter.unusedVariables false
open Go.RowKit Go.ChangeShapes Go.WideShapes Go.Deep

section
variable {P : Program} {ops : Array Oper} {rest : List Oper} {o : Oper} {a : Act} {Q : Exit → Act → World → Prop}
theorem run_pushL (w : World) (base : Nat) (t ty e : TypeId) (z : Value) (k bytes : Nat) (hinfo : (P.info? e).map (fun i => (i.zero, i.size, i.bytes)) = some (some z, k, bytes)) (hzs : z.cells.size = k) (hk : 0 < k) (ht : P.underlying t = some (.slice e))
    (A : Option Addr) (n c : Nat) (xs : List Value) (hown : w.ownsRow base e k (.slice A n c) n xs)
    (A2 : Option Addr) (m c2 : Nat) (news : List Value) (hr : Reads w k A2 m news) (h1 : ∀ u ∈ news, u.oneCell' = true)
    (h63 : n + m ≤ 1000000000000) (hby : bytes ≤ 100) (hbase : base ≤ w.heap.size) :
    ∃ A' c' w', (Builtin.append_ #[t, t] ty #[.slice A n c, .slice A2 m c2]).run P w = .ok (.slice A' (n + m) c') w' ∧ w'.ownsRow base e k (.slice A' (n + m) c') (n + m) (xs ++ news) ∧ w.grownBy w' (Value.slice A n c).ownBlock ∧ Below base w w' ∧
      ((Value.slice A' (n + m) c').ownBlock = (Value.slice A n c).ownBlock ∨ (Value.slice A' (n + m) c').ownBlock = some w.heap.size) := by
  obtain ⟨i, hi, hz, hsz, hbs⟩ := info_parts hinfo
  have hb : (n + m) * bytes ≤ 140737488355328 := by
    have := Nat.mul_le_mul h63 hby
    omega
  rcases A2 with _ | ad
  · have hm : m = 0 := by
      rcases Nat.eq_zero_or_pos m with h0 | h0
      · exact h0
      · obtain ⟨_, h, _⟩ := hr.2 h0
        cases h
    subst hm
    have hn : news = [] := List.eq_nil_of_length_eq_zero (by simpa using hr.1)
    subst hn
    exact ⟨A, c, w, run_append_nil_src w base t ty e i k ht hi _ n xs hown c2, by simpa using hown, World.grownBy.refl _ _, Below.refl _ _, .inl rfl⟩
  · have hcell : ∀ j u, news[j]? = some u → w.cell? (ad.add j) = some u := by
      intro j u hu
      rcases Nat.eq_zero_or_pos m with h0 | h0
      · subst h0
        have hn : news = [] := List.eq_nil_of_length_eq_zero (by simpa using hr.1)
        subst hn
        simp at hu
      · obtain ⟨ad', h, hc⟩ := hr.2 h0
        injection h with h
        subst h
        exact hc j u hu
    obtain ⟨v', w', hrun, hown', hg, _, hloc⟩ := run_append_own_at (P := P) w base t ty e i z k bytes ht hi hz hsz hbs hzs hk _ n xs hown ad m c2 news hr.1 hcell h1 (by unfold maxLen; omega) hb hbase
    have hgb : Below base w w' := ⟨hg.os, hg.tape, hg.output, hg.size, fun q hq => hg.block q (by omega) (fun hk' => by have := hown.lt q hk'.symm; omega)⟩
    rcases hown'.2 with ⟨hv, h0⟩ | ⟨g, cap, cur, hv, rest⟩
    · subst hv
      have h00 : n + m = 0 := h0
      rw [h00] at hown' ⊢
      exact ⟨none, 0, w', hrun, hown', hg, hgb, hloc⟩
    · subst hv
      exact ⟨_, _, _, hrun, hown', hg, hgb, hloc⟩
/-- As wpList_push, with the place of the new row: the old block, or the next one. -/
theorem wpList_pushL (w : World) (hgd : o.guard = none) (s x : Operand) (t : TypeId)
    (ho : o.op = .call { callee := .builtin .append, args := #[s, x], argTypes := #[t, t] })
    (base : Nat) (e : TypeId) (z : Value) (k bytes : Nat) (hinfo : (P.info? e).map (fun i => (i.zero, i.size, i.bytes)) = some (some z, k, bytes)) (hzs : z.cells.size = k) (hk : 0 < k) (ht : P.underlying t = some (.slice e))
    (A : Option Addr) (n c : Nat) (xs : List Value) (hs : a.eval s = .slice A n c) (hown : w.ownsRow base e k (.slice A n c) n xs)
    (A2 : Option Addr) (m c2 : Nat) (news : List Value) (hx : a.eval x = .slice A2 m c2) (hr : Reads w k A2 m news) (h1 : ∀ u ∈ news, u.oneCell' = true)
    (h63 : n + m ≤ 1000000000000) (hby : bytes ≤ 100) (hbase : base ≤ w.heap.size)
    (h : ∀ A' c' w', w'.ownsRow base e k (.slice A' (n + m) c') (n + m) (xs ++ news) → w.grownBy w' (Value.slice A n c).ownBlock → Below base w w' → ((Value.slice A' (n + m) c').ownBlock = (Value.slice A n c).ownBlock ∨ (Value.slice A' (n + m) c').ownBlock = some w.heap.size) → wpList P ops Q rest (a.put o.dst (.slice A' (n + m) c')) w') :
    wpList P ops Q (o :: rest) a w := by
  refine wpList_plain hgd fun K hK => ?_
  obtain ⟨A', c', w', hrun, r1, r2, r3, r4⟩ := run_pushL (P := P) w base t o.type e z k bytes hinfo hzs hk ht A n c xs hown A2 m c2 news hr h1 h63 hby hbase
  unfold Oper.wp execOp
  simp only [ho, resolve, invoke, builtin, Sem.run_bind, Sem.run_pure, Result.andThen_ok, List.map_toArray, List.map_cons, List.map_nil, hs, hx, hrun]
  exact hK _ _ (h A' c' w' r1 r2 r3 r4)
end
theorem own2_nil {w : World} {e ei : TypeId} {k : Nat} (lo hi : Nat) : Own2 w lo hi e ei k none 0 0 [] [] :=
  ⟨World.ownsRow_nil _ _ _ _, rfl, fun j u x h _ => by simp at h, fun i j u v _ h _ => by simp at h, fun j u h => by simp at h, fun q hq => by simp [Value.ownBlock] at hq, fun j u h => by simp at h⟩
/-- The block q is one of the slice of slices. -/
def owns2 (A : Option Addr) (n c : Nat) (hs : List Value) (q : Nat) : Prop := (Value.slice A n c).ownBlock = some q ∨ ∃ (j : Nat) (u : Value), hs[j]? = some u ∧ u.ownBlock = some q
section
variable {w w' : World} {lo hi k n c : Nat} {e ei : TypeId} {A : Option Addr} {cs : List Cel} {hs : List Value}
theorem Own2.same' (h : Own2 w lo hi e ei k A n c cs hs) (hk : ∀ q, owns2 A n c hs q → w'.heap[q]? = w.heap[q]?) : Own2 w' lo hi e ei k A n c cs hs :=
  ⟨row_same h.row fun q hq => hk q (.inl hq), h.len, fun j u x hu hx => ownC_same (h.cell j u x hu hx) fun q hq => hk q (.inr ⟨j, u, hu, hq⟩), h.apart, h.out, h.bound, h.bounds⟩
theorem Own2.lt (h : Own2 w lo hi e ei k A n c cs hs) {q : Nat} (hq : owns2 A n c hs q) : lo ≤ q ∧ q < hi := by
  rcases hq with hq | ⟨j, u, hu, hq⟩
  · exact ⟨(h.row.lt q hq).1, h.bound q hq⟩
  · exact h.bounds j u hu q hq
/-- A cell is stored in a block that is none of the slice of slices. -/
theorem Own2.setOther (h : Own2 w lo hi e ei k A n c cs hs) {g i : Nat} {u : Value} (hg : ¬ owns2 A n c hs g) : Own2 (w.setCell ⟨g, i, none⟩ u) lo hi e ei k A n c cs hs :=
  h.same' fun q hq => Below.heap_setCell w ⟨g, i, none⟩ u q (fun e => by subst e; exact hg hq)
/-- The outer row stands while one of the inner ones grows. -/
theorem Own2.outer (h : Own2 w lo hi e ei k A n c cs hs) {g i j : Nat} {u : Value} (hA : A = some ⟨g, 0, none⟩) (hu : hs[j]? = some u) (hg : w.grownBy w' u.ownBlock) (hi' : i < hs.length) : (∃ o, w'.cell? ⟨g, i, none⟩ = some o) ∧ w'.frozen? ⟨g, i, none⟩ = false := by
  subst hA
  have hne : some g ≠ u.ownBlock := by
    intro e'
    rcases h.out j u hu with h1 | h1
    · rw [h1] at e'; cases e'
    · exact h1 (by rw [← e']; rfl)
  have hb := hg.block g (h.row.lt g rfl).2 hne
  refine ⟨⟨hs[i], ?_⟩, ?_⟩
  · rw [World.cell?_of_block (a := ⟨g, i, none⟩) hb, h.row.cellAt i (by rw [← h.row.1]; exact hi')]
    exact List.getElem?_eq_getElem hi'
  · rw [World.frozen?_of_block (a := ⟨g, i, none⟩) hb]
    exact h.row.frozenAt i
theorem owns2_set {j q : Nat} {v' : Value} (h : owns2 A n c (hs.set j v') q) : owns2 A n c hs q ∨ v'.ownBlock = some q := by
  rcases h with h | ⟨i, u, hu, hq⟩
  · exact .inl (.inl h)
  · rcases set_cases hu with ⟨_, rfl⟩ | ⟨_, hu⟩
    · exact .inr hq
    · exact .inl (.inr ⟨i, u, hu, hq⟩)
end
theorem box4_push {w w1 : World} {gb g0 i : Nat} {t : TypeId} {v0 v1 v2 v3 u : Value} {row : Option Nat} (hB : Box4 w gb t v0 v1 v2 v3) (hg : w.grownBy w1 row) (hne : some gb ≠ row) (h0 : gb ≠ g0) : Box4 (w1.setCell ⟨g0, i, none⟩ u) gb t v0 v1 v2 v3 := by
  unfold Box4
  rw [Below.heap_setCell w1 ⟨g0, i, none⟩ u gb h0, hg.block gb hB.lt hne]
  exact hB
theorem box4_fin {W : World} {gb : Nat} {t : TypeId} {v0 v1 v2 v3 : Value} (hB : Box4 W gb t v0 v1 v2 v3) : ∀ W', Below W.heap.size W W' → (W'.cell? ⟨gb, 0, none⟩ = some v0 ∧ W'.cell? ⟨gb, 1, none⟩ = some v1 ∧ W'.cell? ⟨gb, 2, none⟩ = some v2 ∧ W'.cell? ⟨gb, 3, none⟩ = some v3) ∧ W'.frozen? ⟨gb, 0, none⟩ = false ∧ W'.frozen? ⟨gb, 1, none⟩ = false ∧ W'.frozen? ⟨gb, 2, none⟩ = false ∧ W'.frozen? ⟨gb, 3, none⟩ = false :=
  fun _ hW => ⟨(hB.below hW hB.lt).cells, (hB.below hW hB.lt).frozen⟩
/-- Up to t the one, from t on the other. -/
def mixL (f g : Nat → List Int) (d t : Nat) : List (List Int) := (List.range d).map fun i => if i < t then g i else f i
section
variable {f g : Nat → List Int} {d t : Nat}
@[simp] theorem length_mixL : (mixL f g d t).length = d := by simp [mixL]
theorem mixL_zero : mixL f g d 0 = (List.range d).map f := by simp [mixL]
theorem mixL_full : mixL f g d d = (List.range d).map g := by
  unfold mixL
  refine List.map_congr_left fun i hi => ?_
  rw [if_pos (by simpa using hi)]
theorem mixL_get (h : t < d) : (mixL f g d t)[t]? = some (f t) := by simp [mixL, h]
theorem mixL_set (h : t < d) : (mixL f g d t).set t (g t) = mixL f g d (t + 1) := by
  refine List.ext_getElem? fun i => ?_
  by_cases hi : t = i
  · subst hi
    rw [List.getElem?_set_self (by simpa using h)]
    simp [mixL, h]
  · rw [List.getElem?_set_ne hi]
    unfold mixL
    simp only [List.getElem?_map]
    by_cases hid : i < d
    · simp only [List.getElem?_range hid, Option.map_some]
      congr 1
      by_cases h1 : i < t
      · rw [if_pos h1, if_pos (by omega)]
      · rw [if_neg h1, if_neg (by omega)]
    · rw [List.getElem?_eq_none (by simpa using hid)]; rfl
theorem mixL_skip (h : t < d) (he : f t = g t) : mixL f g d t = mixL f g d (t + 1) := by
  rw [← mixL_set h, ← he]
  refine List.ext_getElem? fun i => ?_
  by_cases hi : t = i
  · subst hi
    rw [List.getElem?_set_self (by simpa using h), mixL_get h]
  · rw [List.getElem?_set_ne hi]
end
theorem rowsIntss_set (L : List (List Int)) (t : Nat) (l : List Int) : (rowsIntss L).set t (.inr (ints l)) = rowsIntss (L.set t l) := by simp [rowsIntss, List.map_set]
end Go.Proofs.Ythpfgmnhpnfopaa
