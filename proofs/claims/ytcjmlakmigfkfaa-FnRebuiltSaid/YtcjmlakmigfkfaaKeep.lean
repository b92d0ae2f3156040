/- An append to a row of the call's own: the old slice is still the call's own behind it. Speaks of no function. No conditions. -/
import Derived.Test.YtcjmlakmigfkfaaOwnP
namespace Go.Proofs.Ytcjmlakmigfkfaa
set_option linter.unusedSimpArgs false
set_option linter.unusedVariables false
open Go.RowKit Go.ChangeShapes Go.WideShapes Go.Deep

section
variable {P : Program} {ops : Array Oper} {rest : List Oper} {o : Oper} {a : Act} {Q : Exit → Act → World → Prop}
/-- As run_pushB: something is appended; the old slice owns what it owned. -/
theorem run_pushK (w : World) (base : Nat) (t ty e : TypeId) (z : Value) (k bytes : Nat) (hinfo : (P.info? e).map (fun i => (i.zero, i.size, i.bytes)) = some (some z, k, bytes)) (hzs : z.cells.size = k) (hk : 0 < k) (ht : P.underlying t = some (.slice e))
    (A : Option Addr) (n c : Nat) (xs : List Value) (hown : w.ownsRow base e k (.slice A n c) n xs)
    (A2 : Option Addr) (m c2 : Nat) (news : List Value) (hr : Reads w k A2 m news) (h1 : ∀ u ∈ news, u.oneCell' = true) (hm : 0 < m)
    (h63 : n + m ≤ 1000000000000) (hb : (n + m) * bytes ≤ 140737488355328) (hbase : base ≤ w.heap.size) :
    ∃ A' c' w', (Builtin.append_ #[t, t] ty #[.slice A n c, .slice A2 m c2]).run P w = .ok (.slice A' (n + m) c') w' ∧ w'.ownsRow base e k (.slice A' (n + m) c') (n + m) (xs ++ news) ∧ w.grownBy w' (Value.slice A n c).ownBlock ∧ Below base w w' ∧
      ((Value.slice A' (n + m) c').ownBlock = (Value.slice A n c).ownBlock ∨ (Value.slice A' (n + m) c').ownBlock = some w.heap.size) ∧ w'.ownsRow base e k (.slice A n c) n xs := by
  obtain ⟨A', c', w', hrun, q1, q2, q3, q4⟩ := run_pushB (P := P) w base t ty e z k bytes hinfo hzs hk ht A n c xs hown A2 m c2 news hr h1 h63 hb hbase
  refine ⟨A', c', w', hrun, q1, q2, q3, q4, ?_⟩
  obtain ⟨ad, rfl, hcell⟩ := hr.2 hm
  obtain ⟨i, hi, hz, hsz, hbs⟩ := info_parts hinfo
  subst hsz
  subst hbs
  rcases hown.2 with ⟨hv, h0⟩ | ⟨g, cap, cur, hv, hbg, hg, hnc, hcm, hcs, htake⟩
  · exact ⟨hown.1, .inl ⟨hv, h0⟩⟩
  · injection hv with e1 e2 e3
    subst e1
    subst e3
    by_cases hroom : n + m ≤ c
    · have hfit : n * i.size + news.length ≤ cur.size := by rw [hr.1, hcs, ← Nat.add_mul]; exact Nat.mul_le_mul_right _ hroom
      have hr' := run_append_room (P := P) w t ty e i ht hi g n c cur hg ad m c2 news hr.1 hcell h1 hroom hfit
      rw [hr'] at hrun
      injection hrun with _ hw
      subst hw
      refine ⟨hown.1, .inr ⟨g, c, _, rfl, hbg, setRow_heap w g cur _ e _ hg, hnc, hcm, ?_, ?_⟩⟩
      · simp only [List.size_toArray, List.length_append, List.length_take, List.length_drop, Array.length_toList]
        omega
      · rw [htake, List.append_assoc, ← hown.1]
        exact List.take_left
    · have holds : ∀ j u, xs[j]? = some u → w.cell? ((⟨g, 0, none⟩ : Addr).add j) = some u := hown.cells (g := g) rfl
      have hr' := run_append_grow (P := P) w t ty e i z ht hi hz ⟨g, 0, none⟩ n c xs hown.1 holds ad m c2 news hr.1 hcell (by omega) (by omega) (growslice_fits (by omega) hb)
      rw [hr'] at hrun
      injection hrun with _ hw
      subst hw
      exact own_below hown ((Below.refl _ _).drew.alloc (Nat.le_refl _) _)
theorem wpList_pushK (w : World) (hgd : o.guard = none) (s x : Operand) (t : TypeId)
    (ho : o.op = .call { callee := .builtin .append, args := #[s, x], argTypes := #[t, t] })
    (base : Nat) (e : TypeId) (z : Value) (k bytes : Nat) (hinfo : (P.info? e).map (fun i => (i.zero, i.size, i.bytes)) = some (some z, k, bytes)) (hzs : z.cells.size = k) (hk : 0 < k) (ht : P.underlying t = some (.slice e))
    (A : Option Addr) (n c : Nat) (xs : List Value) (hs : a.eval s = .slice A n c) (hown : w.ownsRow base e k (.slice A n c) n xs)
    (A2 : Option Addr) (m c2 : Nat) (news : List Value) (hx : a.eval x = .slice A2 m c2) (hr : Reads w k A2 m news) (h1 : ∀ u ∈ news, u.oneCell' = true) (hm : 0 < m)
    (h63 : n + m ≤ 1000000000000) (hb : (n + m) * bytes ≤ 140737488355328) (hbase : base ≤ w.heap.size)
    (h : ∀ A' c' w', w'.ownsRow base e k (.slice A' (n + m) c') (n + m) (xs ++ news) → w.grownBy w' (Value.slice A n c).ownBlock → Below base w w' → ((Value.slice A' (n + m) c').ownBlock = (Value.slice A n c).ownBlock ∨ (Value.slice A' (n + m) c').ownBlock = some w.heap.size) → w'.ownsRow base e k (.slice A n c) n xs → wpList P ops Q rest (a.put o.dst (.slice A' (n + m) c')) w') :
    wpList P ops Q (o :: rest) a w := by
  refine wpList_plain hgd fun K hK => ?_
  obtain ⟨A', c', w', hrun, r1, r2, r3, r4, r5⟩ := run_pushK (P := P) w base t o.type e z k bytes hinfo hzs hk ht A n c xs hown A2 m c2 news hr h1 hm h63 hb hbase
  unfold Oper.wp execOp
  simp only [ho, resolve, invoke, builtin, Sem.run_bind, Sem.run_pure, Result.andThen_ok, List.map_toArray, List.map_cons, List.map_nil, hs, hx, hrun]
  exact hK _ _ (h A' c' w' r1 r2 r3 r4 r5)
end
end Go.Proofs.Ytcjmlakmigfkfaa
