/- Lemmas of this claim that speak of no function: slices that read as lists, opened arguments, appends and makes on rows of the call's own. No conditions. -/
import Derived.WalkKit
import Derived.WalkSpells
import Derived.WalkLawsBesides
import Derived.Lib.Hide
import Derived.Deep.QuietTactic
import Derived.BigQuiet
import Derived.LoopTactic
import Derived.ProofKit
import Derived.OpenShut
import Derived.ShutString
import Derived.ChangeOld
import Derived.Deep.Slices
import Derived.Deep.Draws
import Derived.Deep.RegionWith
import Derived.Lib.SmallJoins
import Derived.Handy
import Derived.Deep.DeepCutAuto
import Derived.Laws.AppendOwnNone
namespace Go.Proofs.Ythpfgmnhpnfopaa
set_option linter.unusedSimpArgs false
set_option linter.unusedVariables false
open Go.RowKit Go.ChangeShapes Go.WideShapes Go.Deep

theorem flatMap_one {α β : Type} (f : α → β) (l : List α) : l.flatMap (fun x => [f x]) = l.map f := by
  induction l with
  | nil => rfl
  | cons a l ih => simp [ih]
theorem mid_get {α : Type} {l : List α} {n k : Nat} {z : α} (hl : l.length = n) (h : k < n) : (l.take k ++ List.replicate (n - k) z)[k]? = some z := by
  have ht : (l.take k).length = k := by simp; omega
  rw [List.getElem?_append_right (by omega), ht, Nat.sub_self, List.getElem?_replicate, if_pos (by omega)]
theorem mid_set {α : Type} {l : List α} {n k : Nat} {z x : α} (hl : l.length = n) (h : k < n) (hx : l[k]? = some x) : (l.take k ++ List.replicate (n - k) z).set k x = l.take (k + 1) ++ List.replicate (n - (k + 1)) z := by
  have ht : (l.take k).length = k := by simp; omega
  have hk : k < l.length := by omega
  have e : l[k] = x := by rw [List.getElem?_eq_getElem hk] at hx; injection hx
  rw [List.set_append_right _ _ (by omega), ht, Nat.sub_self, show n - k = (n - (k + 1)) + 1 from by omega, List.replicate_succ, List.set_cons_zero, List.take_succ_eq_append_getElem hk, e]
  simp
theorem mid_skip {α : Type} {l : List α} {n k : Nat} {z : α} (hl : l.length = n) (h : k < n) (hx : l[k]? = some z) : l.take k ++ List.replicate (n - k) z = l.take (k + 1) ++ List.replicate (n - (k + 1)) z := by
  have hk : k < l.length := by omega
  have e : l[k] = z := by rw [List.getElem?_eq_getElem hk] at hx; injection hx
  rw [show n - k = (n - (k + 1)) + 1 from by omega, List.replicate_succ, List.take_succ_eq_append_getElem hk, e]
  simp
theorem drop_head {α : Type} {L R : List α} {k : Nat} {y : α} (h : L.drop k = y :: R) : L[k]? = some y ∧ L.drop (k + 1) = R ∧ L.take (k + 1) = L.take k ++ [y] ∧ k < L.length := by
  have hk : k < L.length := by
    rcases Nat.lt_or_ge k L.length with h1 | h1
    · exact h1
    · rw [List.drop_eq_nil_of_le h1] at h; cases h
  have h2 := List.drop_eq_getElem_cons hk
  rw [h] at h2
  injection h2 with h3 h4
  subst h3
  refine ⟨List.getElem?_eq_getElem hk, h4.symm, List.take_succ_eq_append_getElem hk, hk⟩
theorem mid_start {α : Type} {l : List α} {n : Nat} {z : α} : l.take 0 ++ List.replicate (n - 0) z = List.replicate n z := by simp
theorem mid_end {α : Type} {l : List α} {n : Nat} {z : α} (hl : l.length = n) : l.take n ++ List.replicate (n - n) z = l := by simp [← hl]
theorem two_get {α : Type} {l m : List α} {n k : Nat} (hl : l.length = n) (hm : m.length = n) (h : k < n) : (l.take k ++ m.drop k)[k]? = m[k]? := by
  have ht : (l.take k).length = k := by simp; omega
  rw [List.getElem?_append_right (by omega), ht, Nat.sub_self, List.getElem?_drop, Nat.add_zero]
theorem two_set {α : Type} {l m : List α} {n k : Nat} {x : α} (hl : l.length = n) (hm : m.length = n) (h : k < n) (hx : l[k]? = some x) : (l.take k ++ m.drop k).set k x = l.take (k + 1) ++ m.drop (k + 1) := by
  have ht : (l.take k).length = k := by simp; omega
  have hk : k < l.length := by omega
  have hk' : k < m.length := by omega
  have e : l[k] = x := by rw [List.getElem?_eq_getElem hk] at hx; injection hx
  rw [List.set_append_right _ _ (by omega), ht, Nat.sub_self, List.drop_eq_getElem_cons hk', List.set_cons_zero, List.take_succ_eq_append_getElem hk, e]
  simp
theorem two_end {α : Type} {l m : List α} {n : Nat} (hl : l.length = n) (hm : m.length = n) : l.take n ++ m.drop n = l := by
  rw [List.take_of_length_le (by omega), List.drop_of_length_le (by omega), List.append_nil]
theorem block_of_add (a : Addr) (n : Nat) : (a.add n).block = a.block := by unfold Addr.add; split <;> rfl
theorem add_of_add (a : Addr) (i j : Nat) : (a.add i).add j = a.add (i + j) := by
  unfold Addr.add
  by_cases hi : i = 0 <;> by_cases hj : j = 0 <;> simp [hi, hj, Nat.add_assoc]

/-- The slice at A of n elements of k cells each reads as the cells xs. -/
def Reads (w : World) (k : Nat) (A : Option Addr) (n : Nat) (xs : List Value) : Prop :=
  xs.length = n * k ∧ (0 < n → ∃ ad, A = some ad ∧ ∀ j u, xs[j]? = some u → w.cell? (ad.add j) = some u)

/-- A result: nothing that was there has turned. -/
def Quiet (w w' : World) : Prop := ∃ n, w' = w.drewN n

section
variable {w w' : World} {k n : Nat} {A : Option Addr} {xs : List Value}
theorem Reads.nil : Reads w k A 0 [] := ⟨by simp, fun h => absurd h (by omega)⟩
theorem Reads.at_ {i : Nat} (h : Reads w 1 A n xs) (hi : i < n) : ∃ ad u, A = some ad ∧ xs[i]? = some u ∧ w.cell? (ad.add i) = some u := by
  obtain ⟨ad, e, hc⟩ := h.2 (by omega)
  have hl : i < xs.length := by have := h.1; omega
  exact ⟨ad, xs[i], e, List.getElem?_eq_getElem hl, hc i _ (List.getElem?_eq_getElem hl)⟩
theorem Reads.keep (h : Reads w k A n xs) (hk : ∀ p : Addr, p.block < w.heap.size → w'.cell? p = w.cell? p) : Reads w' k A n xs :=
  ⟨h.1, fun hn => by
    obtain ⟨ad, e, hc⟩ := h.2 hn
    exact ⟨ad, e, fun j u hu => (hk _ (World.block_lt_of_cell? w _ (hc j u hu))).trans (hc j u hu)⟩⟩
theorem Reads.below (h : Reads w k A n xs) (hb : Below w.heap.size w w') : Reads w' k A n xs := h.keep fun _ hp => hb.cell hp
theorem Reads.drew (h : Reads w k A n xs) : Reads w.drew k A n xs := h
theorem Reads.drewN (h : Reads w k A n xs) (m : Nat) : Reads (w.drewN m) k A n xs := h
theorem Reads.alloc (h : Reads w k A n xs) (o : Obj) : Reads (w.alloc o) k A n xs := h.keep fun p hp => World.cell?_alloc_lt w o p (by omega)
theorem Reads.cut (h : Reads w k A n xs) {m cap : Nat} (hm : m ≤ n) (hc : n ≤ cap) :
    Reads w k (if cap = m then A else A.map (·.add (m * k))) (n - m) (xs.drop (m * k)) := by
  refine ⟨by rw [List.length_drop, h.1, Nat.sub_mul], fun hn => ?_⟩
  obtain ⟨ad, rfl, hcell⟩ := h.2 (by omega)
  rw [if_neg (by omega)]
  refine ⟨ad.add (m * k), rfl, fun j u hu => ?_⟩
  rw [add_of_add]
  exact hcell _ u (by rw [← hu, List.getElem?_drop])
theorem Reads.take (h : Reads w k A n xs) {m : Nat} (hm : m ≤ n) : Reads w k A m (xs.take (m * k)) := by
  refine ⟨by rw [List.length_take, h.1]; exact Nat.min_eq_left (Nat.mul_le_mul_right _ hm), fun hn => ?_⟩
  obtain ⟨ad, rfl, hcell⟩ := h.2 (by omega)
  refine ⟨ad, rfl, fun j u hu => ?_⟩
  rw [List.getElem?_take] at hu
  split at hu
  · exact hcell j u hu
  · cases hu
theorem Reads.of_own {base : Nat} {e : TypeId} {c : Nat} (h : w.ownsRow base e k (.slice A n c) n xs) : Reads w k A n xs := by
  refine ⟨h.1, fun hn => ?_⟩
  rcases h.2 with ⟨hv, h0⟩ | ⟨g, cap, cur, hv, hg, hh, r⟩
  · omega
  · have hA : A = some ⟨g, 0, none⟩ := by injection hv
    subst hA
    exact ⟨_, rfl, World.ownsRow.cells h rfl⟩
theorem below_toN {B : Nat} (h : Below B w w') (m : Nat) : Below B w (w'.drewN m) := ⟨h.os, h.tape, h.output, h.size, h.block⟩
theorem below_of_quiet {B : Nat} (h : Quiet w w') : Below B w w' := by obtain ⟨m, rfl⟩ := h; exact below_toN (Below.refl B w) m
theorem Quiet.refl : Quiet w w := ⟨0, rfl⟩
theorem Quiet.of_eq (h : w = w') : Quiet w w' := ⟨0, h.symm⟩
theorem Quiet.drewN (m : Nat) : Quiet w (w.drewN m) := ⟨m, rfl⟩
theorem below_then {w1 w2 : World} (h : Below w.heap.size w w1) (h' : Below w1.heap.size w1 w2) : Below w.heap.size w w2 := h.trans (h'.mono h.size)
theorem grown_set {g i : Nat} (h : w.grownBy w' (some g)) (u : Value) : w.grownBy (w'.setCell ⟨g, i, none⟩ u) (some g) :=
  ⟨h.os, h.tape, h.output, by simpa [World.setCell] using h.size, fun q hq hne => (Below.heap_setCell w' _ u q (by
    rintro rfl
    exact hne rfl)).trans (h.block q hq hne)⟩
theorem grown_below {row : Option Nat} {B : Nat} (h : w.grownBy w' row) (hB : B ≤ w.heap.size) (hr : ∀ q, row = some q → B ≤ q) : Below B w w' :=
  ⟨h.os, h.tape, h.output, h.size, fun q hq => h.block q (by omega) (fun e => by have := hr q e.symm; omega)⟩
theorem reads_grown {row : Option Nat} {base : Nat} (h : Reads w k A n xs) (hA : ∀ ad, A = some ad → ad.block < base) (hg : w.grownBy w' row) (hr : ∀ q, row = some q → base ≤ q) : Reads w' k A n xs :=
  ⟨h.1, fun hn => by
    obtain ⟨ad, e, hc⟩ := h.2 hn
    refine ⟨ad, e, fun j u hu => ?_⟩
    have hb := hA ad e
    have hlt := World.block_lt_of_cell? w _ (hc j u hu)
    rw [← hc j u hu]
    refine World.cell?_of_block (hg.block _ hlt (fun e' => ?_))
    have := hr _ e'.symm
    rw [block_of_add] at this
    omega⟩
theorem own_below {base : Nat} {e : TypeId} {v : Value} (h : w.ownsRow base e k v n xs) (hb : Below w.heap.size w w') : w'.ownsRow base e k v n xs := by
  refine ⟨h.1, ?_⟩
  rcases h.2 with hn | ⟨g, cap, cur, rfl, hb', hgg, rest⟩
  · exact .inl hn
  · exact .inr ⟨g, cap, cur, rfl, hb', by rw [hb.block g (Array.getElem?_eq_some_iff.1 hgg).1]; exact hgg, rest⟩
theorem own_cap {base c : Nat} {e : TypeId} (h : w.ownsRow base e k (.slice A n c) n xs) : n ≤ c := by
  rcases h.2 with ⟨hv, h0⟩ | ⟨g, cap, cur, hv, _, _, hnc, _⟩
  · omega
  · injection hv with _ _ h3
    omega
theorem own_mono {base base' : Nat} {e : TypeId} {v : Value} (h : w.ownsRow base e k v n xs) (hb : base' ≤ base) : w.ownsRow base' e k v n xs := by
  refine ⟨h.1, ?_⟩
  rcases h.2 with hn | ⟨g, cap, cur, rfl, hb', rest⟩
  · exact .inl hn
  · exact .inr ⟨g, cap, cur, rfl, by omega, rest⟩
end

/-- A slice of new memory that holds the cells xs; all that was there is as it was. -/
def Made (w : World) (e : TypeId) (k n : Nat) (xs : List Value) (en : Ending) (w' : World) : Prop :=
  ∃ A c, en = .returned (.slice A n c) ∧ w'.ownsRow w.heap.size e k (.slice A n c) n xs ∧ Below w.heap.size w w'

/-- The same with a second result, a bool. -/
def Made2 (w : World) (e : TypeId) (k n : Nat) (xs : List Value) (b : Bool) (en : Ending) (w' : World) : Prop :=
  ∃ A c, en = .returned (.tuple #[.slice A n c, .bool b]) ∧ w'.ownsRow w.heap.size e k (.slice A n c) n xs ∧ Below w.heap.size w w'
def blockLt (v : Value) (hi : Nat) : Prop := ∀ q, v.ownBlock = some q → q < hi
theorem own_lt {w : World} {base k n : Nat} {e : TypeId} {v : Value} {xs : List Value} (h : w.ownsRow base e k v n xs) : blockLt v w.heap.size := fun q hq => (h.lt q hq).2
/-- A row is kept while another row, made earlier, is written. -/
theorem kept_later {w w' : World} {base k n : Nat} {e : TypeId} {v v' : Value} {xs : List Value} {hi : Nat} (h : w.ownsRow base e k v n xs) (hg : w.grownBy w' v'.ownBlock) (hv : blockLt v' hi) (hb : hi ≤ base) : w'.ownsRow base e k v n xs := by
  refine h.kept hg ?_
  cases hq : v.ownBlock with
  | none => exact .inl rfl
  | some q =>
    refine .inr fun he => ?_
    have h1 := (h.lt q hq).1
    have h2 := hv q he.symm
    omega
/-- A row is kept while another row, made later, is written. -/
theorem kept_earlier {w w' : World} {base base' k n k' n' : Nat} {e e' : TypeId} {v v' : Value} {xs xs' : List Value} {hi : Nat} (h : w.ownsRow base e k v n xs) (hv : blockLt v hi) (h' : w.ownsRow base' e' k' v' n' xs') (hg : w.grownBy w' v'.ownBlock) (hb : hi ≤ base') : w'.ownsRow base e k v n xs := by
  refine h.kept hg ?_
  cases hq : v.ownBlock with
  | none => exact .inl rfl
  | some q =>
    refine .inr fun he => ?_
    have h1 := hv q hq
    have h2 := (h'.lt q he.symm).1
    omega
theorem below_mark {w w0 w' : World} {base k n : Nat} {e : TypeId} {v : Value} {xs : List Value} {B : Nat} (hb : Below B w0 w) (h : w.ownsRow base e k v n xs) (hg : w.grownBy w' v.ownBlock) (hB : B ≤ base) (hB' : B ≤ w.heap.size) : Below B w0 w' :=
  hb.trans ⟨hg.os, hg.tape, hg.output, hg.size, fun q hq => hg.block q (by omega) (fun hk' => by have := (h.lt q hk'.symm).1; omega)⟩

theorem ret_int {k : IntKind} {a b : Int} (h : a = b) : Ending.returned (.int k a) = .returned (.int k b) := by rw [h]
theorem ret_int2 {k l : IntKind} {a b c d : Int} (h : a = c) (h' : b = d) : Ending.returned (.tuple #[.int k a, .int l b]) = .returned (.tuple #[.int k c, .int l d]) := by rw [h, h']
theorem ret_int2b {k l : IntKind} {a b c d : Int} {x : Bool} (h : a = c) (h' : b = d) : Ending.returned (.tuple #[.int k a, .int l b, .bool x]) = .returned (.tuple #[.int k c, .int l d, .bool x]) := by rw [h, h']
theorem quo_in (a b : Nat) (ha : a ≤ 1000000000000) : wrap64 ((a : Int) / (b : Int)) = (a : Int) / (b : Int) := by
  have h1 : (a : Int) / (b : Int) = ((a / b : Nat) : Int) := by simp
  have h2 := Nat.div_le_self a b
  rw [h1]
  generalize a / b = q at *
  exact IntWalk.wrap64_in _ ⟨by omega, by omega⟩
theorem ret_bool {a b : Bool} (h : a = b) : Ending.returned (.bool a) = .returned (.bool b) := by rw [h]
/-! Integers -/
def inI64 (a : Int) : Prop := -9223372036854775808 ≤ a ∧ a ≤ 9223372036854775807
def IsInt (v : Value) : Prop := ∃ a, v = .int .i64 a ∧ inI64 a
def IsBool (v : Value) : Prop := ∃ a, v = .bool a
def ints (l : List Int) : List Value := l.map (.int .i64)
def bools (l : List Bool) : List Value := l.map .bool
@[simp] theorem length_ints (l : List Int) : (ints l).length = l.length := by simp [ints]
@[simp] theorem length_bools (l : List Bool) : (bools l).length = l.length := by simp [bools]
def IsInts (w : World) (v : Value) : Prop := ∃ A n c l, v = .slice A n c ∧ n ≤ c ∧ c ≤ 9223372036854775807 ∧ Reads w 1 A n (ints l) ∧ ∀ x ∈ l, inI64 x
def IsBools (w : World) (v : Value) : Prop := ∃ A n c l, v = .slice A n c ∧ n ≤ c ∧ c ≤ 9223372036854775807 ∧ Reads w 1 A n (bools l)
def IsBytes (w : World) (v : Value) : Prop := ∃ A n c, ∃ l : List Int, v = .slice A n c ∧ n ≤ c ∧ c ≤ 9223372036854775807 ∧ Reads w 1 A n (l.map (.int .u8)) ∧ ∀ x ∈ l, 0 ≤ x ∧ x ≤ 255

theorem inI64_of {a : Int} (h : (Lit.int .i64 a).wf = true) : inI64 a := by
  have := bounds_i64 h
  unfold inI64
  omega

section
variable {H : Type} {enc : TypeId × Value → H} {P : Program} {w : World} {base b0 : Nat} {spare : Nat → Bool} {held : Bool} {r : Reach} {t e : TypeId} {v : Value} {d : DataW H} {p : List MemPlace}
theorem isInt_of (ht : P.underlying t = some (.int .i64)) (hval : Value.okWide P w r b0 t v) (h : DataW.Trod enc P w base spare held t v d p) : IsInt v := by
  obtain ⟨a, rfl, rfl, rfl, wf⟩ := open_int ht hval h
  exact ⟨a, rfl, inI64_of wf⟩
theorem isBool_of (ht : P.underlying t = some .bool) (hval : Value.okWide P w r b0 t v) (h : DataW.Trod enc P w base spare held t v d p) : IsBool v := by
  obtain ⟨a, rfl, rfl, rfl⟩ := open_bool ht hval h
  exact ⟨a, rfl⟩

/-- A slice whose elements take k cells each, of whatever make: its cells one after the other. -/
theorem rows_of {C : Type} (cellsf : C → List Value) (Pel : C → Prop) (k : Nat) (ht : P.underlying t = some (.slice e)) (hC : P.cellsOf e = k)
    (hel : ∀ m cs x, cs.length = k → DataW.trod enc P w base spare held m e cs = some x → ∃ c, cs = cellsf c ∧ Pel c)
    (hval : Value.okWide P w r b0 t v) (h : DataW.Trod enc P w base spare held t v d p) :
    ∃ A n c l, v = .slice A n c ∧ n ≤ c ∧ c ≤ 9223372036854775807 ∧ List.length l = n ∧ Reads w k A n (l.flatMap cellsf) ∧ ∀ x ∈ l, Pel x := by
  obtain ⟨a, len, cap, rfl⟩ := okWide_slice ht hval
  obtain ⟨fuel, hf⟩ := h
  rcases open_slice ht hf with ⟨hcs, _⟩ | ⟨ad, len', cap', m, n, D, Pl, hcs, hb, hl, hm, hmm, hx, hi⟩
  · simp [Value.cells] at hcs
    obtain ⟨rfl, rfl, rfl⟩ := hcs
    exact ⟨none, 0, 0, [], rfl, Nat.le_refl _, by omega, rfl, Reads.nil, by simp⟩
  · simp [Value.cells] at hcs
    obtain ⟨rfl, rfl, rfl⟩ := hcs
    have hlm : len ≤ m := by rw [hmm]; split <;> omega
    have hall : ∀ i, i < len → ∃ c : C, Pel c ∧ (cellsf c).length = k ∧ ∀ j u, (cellsf c)[j]? = some u → w.cell? (ad.add (i * k + j)) = some u := by
      intro i hil
      obtain ⟨cs', hc, htr⟩ := hi i (by omega)
      rw [hC] at hc
      obtain ⟨_, hlen, hcell⟩ := World.cells?_some hc
      obtain ⟨c, rfl, hp⟩ := hel _ _ _ hlen htr
      refine ⟨c, hp, hlen, fun j u hu => ?_⟩
      have hj : j < k := by rw [← hlen]; exact (List.getElem?_eq_some_iff.1 hu).1
      rw [← hu, ← hcell j hj, ← Go.Deep.add_add]
    have hex : ∀ q, q ≤ len → ∃ l : List C, l.length = q ∧ (l.flatMap cellsf).length = q * k ∧ (∀ x ∈ l, Pel x) ∧ ∀ j u, (l.flatMap cellsf)[j]? = some u → w.cell? (ad.add j) = some u := by
      intro q
      induction q with
      | zero => intro _; exact ⟨[], rfl, by simp, by simp, by simp⟩
      | succ q ih =>
        intro hq
        obtain ⟨l, hl1, hl2, hl3, hl4⟩ := ih (by omega)
        obtain ⟨c, hp, hlen, hcell⟩ := hall q (by omega)
        refine ⟨l ++ [c], by simp [hl1], by simp [hl2, hlen, Nat.add_mul], ?_, ?_⟩
        · intro x hx'
          rcases List.mem_append.1 hx' with hx' | hx'
          · exact hl3 x hx'
          · simp at hx'; subst hx'; exact hp
        · intro j u hu
          simp only [List.flatMap_append, List.flatMap_cons, List.flatMap_nil, List.append_nil] at hu
          rw [List.getElem?_append] at hu
          split at hu
          · exact hl4 j u hu
          · rename_i hge
            have := hcell _ u hu
            rw [hl2] at this hge
            rw [show j = q * k + (j - q * k) from by omega]
            exact this
    obtain ⟨l, hl1, hl2, hl3, hl4⟩ := hex len (Nat.le_refl _)
    refine ⟨some ad, len, cap, l, rfl, hl, by simpa [maxLen] using hm, hl1, ⟨hl2, fun _ => ⟨ad, rfl, hl4⟩⟩, hl3⟩

theorem isInts_of (ht : P.underlying t = some (.slice e)) (he : P.underlying e = some (.int .i64)) (hC : P.cellsOf e = 1)
    (hval : Value.okWide P w r b0 t v) (h : DataW.Trod enc P w base spare held t v d p) : IsInts w v := by
  obtain ⟨A, n, c, l, hv, h1, h2, _, h3, h4⟩ := rows_of (fun x : Int => [.int .i64 x]) inI64 1 ht hC (fun m cs x _ htr => by
    obtain ⟨a, rfl, _, wf⟩ := DataW.trod_int he htr
    exact ⟨a, rfl, inI64_of wf⟩) hval h
  exact ⟨A, n, c, l, hv, h1, h2, by rw [flatMap_one] at h3; exact h3, h4⟩
theorem isBools_of (ht : P.underlying t = some (.slice e)) (he : P.underlying e = some .bool) (hC : P.cellsOf e = 1)
    (hval : Value.okWide P w r b0 t v) (h : DataW.Trod enc P w base spare held t v d p) : IsBools w v := by
  obtain ⟨A, n, c, l, hv, h1, h2, _, h3, h4⟩ := rows_of (fun x : Bool => [.bool x]) (fun _ => True) 1 ht hC (fun m cs x _ htr => by
    obtain ⟨a, rfl, _⟩ := DataW.trod_bool he htr
    exact ⟨a, rfl, trivial⟩) hval h
  exact ⟨A, n, c, l, hv, h1, h2, by rw [flatMap_one] at h3; exact h3⟩
end


def IsAgg3 (v : Value) : Prop := ∃ a0 a1 a2 : Int, v = .agg #[.int .i64 a0, .int .i64 a1, .int .i64 a2] ∧ inI64 a0 ∧ inI64 a1 ∧ inI64 a2
/-- A slice of structs of 3 integers. -/
def cells3 (x : Int × Int × Int) : List Value := [.int .i64 x.1, .int .i64 x.2.1, .int .i64 x.2.2]
def in3 (x : Int × Int × Int) : Prop := inI64 x.1 ∧ inI64 x.2.1 ∧ inI64 x.2.2
def rows3 (l : List (Int × Int × Int)) : List Value := l.flatMap cells3
def IsRows3 (w : World) (v : Value) : Prop := ∃ A n c l, v = .slice A n c ∧ n ≤ c ∧ c ≤ 9223372036854775807 ∧ List.length l = n ∧ Reads w 3 A n (rows3 l) ∧ ∀ x ∈ l, in3 x
section
variable {H : Type} {enc : TypeId × Value → H} {P : Program} {w : World} {base b0 : Nat} {spare : Nat → Bool} {held : Bool} {r : Reach} {t e : TypeId} {v : Value} {d : DataW H} {p : List MemPlace}
theorem isAgg3_of {f0 f1 f2 : Field} (hs : P.underlying t = some (.struct #[f0, f1, f2])) (he : P.underlying e = some (.int .i64)) (hC : P.cellsOf t = 3) (hone : oneCellFields P #[f0, f1, f2] = true)
    (hf : f0.type = e ∧ f1.type = e ∧ f2.type = e) (hval : Value.okWide P w r b0 t v) (h : DataW.Trod enc P w base spare held t v d p) : IsAgg3 v := by
  obtain ⟨v0, v1, v2, y0, y1, y2, n, rfl, _, _, t0, t1, t2⟩ := Go.Joins.open_agg3 hs hone hC hval h
  rw [hf.1] at t0
  obtain ⟨a0, e0, _, w0⟩ := DataW.trod_int he t0
  injection e0 with e0
  subst e0
  rw [hf.2.1] at t1
  obtain ⟨a1, e1, _, w1⟩ := DataW.trod_int he t1
  injection e1 with e1
  subst e1
  rw [hf.2.2] at t2
  obtain ⟨a2, e2, _, w2⟩ := DataW.trod_int he t2
  injection e2 with e2
  subst e2
  exact ⟨a0, a1, a2, rfl, inI64_of w0, inI64_of w1, inI64_of w2⟩
theorem isRows3_of {u : TypeId} {f0 f1 f2 : Field} (ht : P.underlying t = some (.slice e)) (hs : P.underlying e = some (.struct #[f0, f1, f2])) (he : P.underlying u = some (.int .i64)) (hC : P.cellsOf e = 3) (hone : oneCellFields P #[f0, f1, f2] = true)
    (hf : f0.type = u ∧ f1.type = u ∧ f2.type = u) (hval : Value.okWide P w r b0 t v) (h : DataW.Trod enc P w base spare held t v d p) : IsRows3 w v := by
  obtain ⟨A, n, c, l, hv, h1, h2, h3, h4, h5⟩ := rows_of cells3 in3 3 ht hC (fun m cs x hl htr => by
    match cs, hl with
    | [c0, c1, c2], _ =>
      obtain ⟨xs, q, _, hx, _, hlen, hg⟩ := DataW.trod_struct hs htr
      obtain ⟨o0, k0⟩ := hone_of hone 0 f0 rfl
      obtain ⟨o1, k1⟩ := hone_of hone 1 f1 rfl
      obtain ⟨o2, k2⟩ := hone_of hone 2 f2 rfl
      match xs, hlen with
      | [y0, y1, y2], _ =>
        have t0 : DataW.trod enc P w base spare held q f0.type [c0] = some y0 := by simpa [o0, k0] using hg 0 f0 rfl
        have t1 : DataW.trod enc P w base spare held q f1.type [c1] = some y1 := by simpa [o1, k1] using hg 1 f1 rfl
        have t2 : DataW.trod enc P w base spare held q f2.type [c2] = some y2 := by simpa [o2, k2] using hg 2 f2 rfl
        rw [hf.1] at t0
        obtain ⟨a0, e0, _, w0⟩ := DataW.trod_int he t0
        injection e0 with e0
        subst e0
        rw [hf.2.1] at t1
        obtain ⟨a1, e1, _, w1⟩ := DataW.trod_int he t1
        injection e1 with e1
        subst e1
        rw [hf.2.2] at t2
        obtain ⟨a2, e2, _, w2⟩ := DataW.trod_int he t2
        injection e2 with e2
        subst e2
        exact ⟨(a0, a1, a2), rfl, inI64_of w0, inI64_of w1, inI64_of w2⟩) hval h
  exact ⟨A, n, c, l, hv, h1, h2, h3, h4, h5⟩
end
theorem rows3_get {l : List (Int × Int × Int)} {k : Nat} (hk : k < l.length) : (rows3 l)[k * 3]? = some (.int .i64 l[k].1) ∧ (rows3 l)[k * 3 + 1]? = some (.int .i64 l[k].2.1) ∧ (rows3 l)[k * 3 + 2]? = some (.int .i64 l[k].2.2) := by
  induction l generalizing k with
  | nil => simp at hk
  | cons x r ih =>
    cases k with
    | zero => simp [rows3, cells3]
    | succ k =>
      have h := ih (k := k) (by simpa using hk)
      have e : ∀ j, (rows3 (x :: r))[(k + 1) * 3 + j]? = (rows3 r)[k * 3 + j]? := by
        intro j
        have : (k + 1) * 3 + j = (cells3 x).length + (k * 3 + j) := by simp [cells3]; omega
        rw [this]
        simp only [rows3, List.flatMap_cons]
        rw [List.getElem?_append_right (by omega)]
        simp
      have e0 := e 0
      simp only [Nat.add_zero] at e0
      simp only [List.getElem_cons_succ]
      exact ⟨e0.trans h.1, (e 1).trans h.2.1, (e 2).trans h.2.2⟩
theorem length_rows3 (l : List (Int × Int × Int)) : (rows3 l).length = l.length * 3 := by
  induction l with
  | nil => rfl
  | cons x r ih => simp only [rows3, List.flatMap_cons, List.length_append, List.length_cons] at ih ⊢; rw [ih]; simp [cells3]; omega
theorem one_rows3 (l : List (Int × Int × Int)) : ∀ u ∈ rows3 l, u.oneCell' = true := by
  intro u hu
  obtain ⟨x, _, hx⟩ := List.mem_flatMap.1 hu
  simp only [cells3, List.mem_cons, List.not_mem_nil, or_false] at hx
  rcases hx with rfl | rfl | rfl <;> rfl
/-- An element of a slice of structs of integers: its cells as the walk spells their addresses. -/
theorem rows3_at {w : World} {A : Option Addr} {n k : Nat} {l : List (Int × Int × Int)} (h : Reads w 3 A n (rows3 l)) (hk : k < n) (hl : l.length = n) :
    ∃ ad, A = some ad ∧ w.cell? (ad.add (k * 3)) = some (.int .i64 (l[k]'(by omega)).1) ∧ w.cell? ⟨(ad.add (k * 3)).block, (ad.add (k * 3)).off + 1, none⟩ = some (.int .i64 (l[k]'(by omega)).2.1) ∧ w.cell? ⟨(ad.add (k * 3)).block, (ad.add (k * 3)).off + 2, none⟩ = some (.int .i64 (l[k]'(by omega)).2.2) := by
  obtain ⟨ad, e, hc⟩ := h.2 (by omega)
  obtain ⟨g0, g1, g2⟩ := rows3_get (l := l) (k := k) (by omega)
  have f : ∀ j, 0 < j → ad.add (k * 3 + j) = ⟨(ad.add (k * 3)).block, (ad.add (k * 3)).off + j, none⟩ := by
    intro j hj
    rw [← add_of_add]
    generalize ad.add (k * 3) = p
    unfold Addr.add
    rw [if_neg (by omega)]
  refine ⟨ad, e, hc _ _ g0,  ?_, ?_⟩
  · rw [← f 1 (by omega)]; exact hc _ _ g1
  · rw [← f 2 (by omega)]; exact hc _ _ g2
/-- Stores into an element of a row of the call's own. -/
theorem own_set3 {w : World} {base g n c q : Nat} {e : TypeId} {l m : List Value} {x0 x1 x2 : Value} (hl : l.length = n * 3) (hm : m.length = n * 3) (hq : q < n)
    (h : w.ownsRow base e 3 (.slice (some ⟨g, 0, none⟩) n c) n (l.take (q * 3) ++ m.drop (q * 3))) (g0 : l[q * 3]? = some x0) (g1 : l[q * 3 + 1]? = some x1) (g2 : l[q * 3 + 2]? = some x2) :
    (((w.setCell ⟨g, q * 3, none⟩ x0).setCell ⟨g, q * 3 + 1, none⟩ x1).setCell ⟨g, q * 3 + 2, none⟩ x2).ownsRow base e 3 (.slice (some ⟨g, 0, none⟩) n c) n (l.take ((q + 1) * 3) ++ m.drop ((q + 1) * 3)) := by
  have h0 := h
  have h1 := (h0.stored (q * 3) x0).1
  rw [two_set hl hm (by omega) g0] at h1
  have h2 := (h1.stored (q * 3 + 1) x1).1
  rw [two_set hl hm (by omega) g1] at h2
  have h3 := (h2.stored (q * 3 + 2) x2).1
  rw [two_set hl hm (by omega) g2] at h3
  have e : (q + 1) * 3 = q * 3 + 2 + 1 := by omega
  rw [e]
  exact h3
/-- A box of cells reads as it was made while nothing that was there turns. -/
theorem box3 {w w1 : World} {v0 v1 v2 : Value} {t : TypeId} (hb : Below (w.alloc (.cells #[v0, v1, v2] t)).heap.size (w.alloc (.cells #[v0, v1, v2] t)) w1) :
    w1.cell? ⟨w.heap.size, 0, none⟩ = some v0 ∧ w1.cell? ⟨w.heap.size, 1, none⟩ = some v1 ∧ w1.cell? ⟨w.heap.size, 2, none⟩ = some v2 := by
  have h := fun i => (hb.cell (p := ⟨w.heap.size, i, none⟩) (by simp)).trans (cell_of_row _ w.heap.size i #[v0, v1, v2] t (0, 0) (heap_alloc_new w _))
  exact ⟨h 0, h 1, h 2⟩
/-- A block that is just these cells. -/
def Box3 (w : World) (g : Nat) (t : TypeId) (v0 v1 v2 : Value) : Prop := w.heap[g]? = some (.cells #[v0, v1, v2] t (0, 0))
section
variable {w w' : World} {g B : Nat} {t : TypeId} {v0 v1 v2 : Value}
theorem Box3.new (w : World) (t : TypeId) (v0 v1 v2 : Value) : Box3 (w.alloc (.cells #[v0, v1, v2] t)) w.heap.size t v0 v1 v2 := heap_alloc_new w _
theorem Box3.cells (h : Box3 w g t v0 v1 v2) : w.cell? ⟨g, 0, none⟩ = some v0 ∧ w.cell? ⟨g, 1, none⟩ = some v1 ∧ w.cell? ⟨g, 2, none⟩ = some v2 :=
  ⟨cell_of_row w g 0 _ t (0, 0) h, cell_of_row w g 1 _ t (0, 0) h, cell_of_row w g 2 _ t (0, 0) h⟩
theorem Box3.frozen (h : Box3 w g t v0 v1 v2) : w.frozen? ⟨g, 0, none⟩ = false ∧ w.frozen? ⟨g, 1, none⟩ = false ∧ w.frozen? ⟨g, 2, none⟩ = false := by
  unfold Box3 at h
  simp [World.frozen?, h]
theorem Box3.lt (h : Box3 w g t v0 v1 v2) : g < w.heap.size := (Array.getElem?_eq_some_iff.1 h).1
theorem Box3.below (h : Box3 w g t v0 v1 v2) (hb : Below B w w') (hg : g < B) : Box3 w' g t v0 v1 v2 := (hb.block g hg).trans h
theorem Box3.set3 (h : Box3 w g t v0 v1 v2) (u0 u1 u2 : Value) :
    Box3 (((w.setCell ⟨g, 0, none⟩ u0).setCell ⟨g, 1, none⟩ u1).setCell ⟨g, 2, none⟩ u2) g t u0 u1 u2 := by
  unfold Box3 at h ⊢
  simp [World.setCell, Array.getElem?_modify, h]
end

def IsAgg4 (v : Value) : Prop := ∃ a0 a1 a2 a3 : Int, v = .agg #[.int .i64 a0, .int .i64 a1, .int .i64 a2, .int .i64 a3] ∧ inI64 a0 ∧ inI64 a1 ∧ inI64 a2 ∧ inI64 a3
/-- A slice of structs of 4 integers. -/
def cells4 (x : Int × Int × Int × Int) : List Value := [.int .i64 x.1, .int .i64 x.2.1, .int .i64 x.2.2.1, .int .i64 x.2.2.2]
def in4 (x : Int × Int × Int × Int) : Prop := inI64 x.1 ∧ inI64 x.2.1 ∧ inI64 x.2.2.1 ∧ inI64 x.2.2.2
def rows4 (l : List (Int × Int × Int × Int)) : List Value := l.flatMap cells4
def IsRows4 (w : World) (v : Value) : Prop := ∃ A n c l, v = .slice A n c ∧ n ≤ c ∧ c ≤ 9223372036854775807 ∧ List.length l = n ∧ Reads w 4 A n (rows4 l) ∧ ∀ x ∈ l, in4 x
section
variable {H : Type} {enc : TypeId × Value → H} {P : Program} {w : World} {base b0 : Nat} {spare : Nat → Bool} {held : Bool} {r : Reach} {t e : TypeId} {v : Value} {d : DataW H} {p : List MemPlace}
theorem isAgg4_of {f0 f1 f2 f3 : Field} (hs : P.underlying t = some (.struct #[f0, f1, f2, f3])) (he : P.underlying e = some (.int .i64)) (hC : P.cellsOf t = 4) (hone : oneCellFields P #[f0, f1, f2, f3] = true)
    (hf : f0.type = e ∧ f1.type = e ∧ f2.type = e ∧ f3.type = e) (hval : Value.okWide P w r b0 t v) (h : DataW.Trod enc P w base spare held t v d p) : IsAgg4 v := by
  obtain ⟨v0, v1, v2, v3, y0, y1, y2, y3, n, rfl, _, _, t0, t1, t2, t3⟩ := Go.Joins.open_agg4 hs hone hC hval h
  rw [hf.1] at t0
  obtain ⟨a0, e0, _, w0⟩ := DataW.trod_int he t0
  injection e0 with e0
  subst e0
  rw [hf.2.1] at t1
  obtain ⟨a1, e1, _, w1⟩ := DataW.trod_int he t1
  injection e1 with e1
  subst e1
  rw [hf.2.2.1] at t2
  obtain ⟨a2, e2, _, w2⟩ := DataW.trod_int he t2
  injection e2 with e2
  subst e2
  rw [hf.2.2.2] at t3
  obtain ⟨a3, e3, _, w3⟩ := DataW.trod_int he t3
  injection e3 with e3
  subst e3
  exact ⟨a0, a1, a2, a3, rfl, inI64_of w0, inI64_of w1, inI64_of w2, inI64_of w3⟩
theorem isRows4_of {u : TypeId} {f0 f1 f2 f3 : Field} (ht : P.underlying t = some (.slice e)) (hs : P.underlying e = some (.struct #[f0, f1, f2, f3])) (he : P.underlying u = some (.int .i64)) (hC : P.cellsOf e = 4) (hone : oneCellFields P #[f0, f1, f2, f3] = true)
    (hf : f0.type = u ∧ f1.type = u ∧ f2.type = u ∧ f3.type = u) (hval : Value.okWide P w r b0 t v) (h : DataW.Trod enc P w base spare held t v d p) : IsRows4 w v := by
  obtain ⟨A, n, c, l, hv, h1, h2, h3, h4, h5⟩ := rows_of cells4 in4 4 ht hC (fun m cs x hl htr => by
    match cs, hl with
    | [c0, c1, c2, c3], _ =>
      obtain ⟨xs, q, _, hx, _, hlen, hg⟩ := DataW.trod_struct hs htr
      obtain ⟨o0, k0⟩ := hone_of hone 0 f0 rfl
      obtain ⟨o1, k1⟩ := hone_of hone 1 f1 rfl
      obtain ⟨o2, k2⟩ := hone_of hone 2 f2 rfl
      obtain ⟨o3, k3⟩ := hone_of hone 3 f3 rfl
      match xs, hlen with
      | [y0, y1, y2, y3], _ =>
        have t0 : DataW.trod enc P w base spare held q f0.type [c0] = some y0 := by simpa [o0, k0] using hg 0 f0 rfl
        have t1 : DataW.trod enc P w base spare held q f1.type [c1] = some y1 := by simpa [o1, k1] using hg 1 f1 rfl
        have t2 : DataW.trod enc P w base spare held q f2.type [c2] = some y2 := by simpa [o2, k2] using hg 2 f2 rfl
        have t3 : DataW.trod enc P w base spare held q f3.type [c3] = some y3 := by simpa [o3, k3] using hg 3 f3 rfl
        rw [hf.1] at t0
        obtain ⟨a0, e0, _, w0⟩ := DataW.trod_int he t0
        injection e0 with e0
        subst e0
        rw [hf.2.1] at t1
        obtain ⟨a1, e1, _, w1⟩ := DataW.trod_int he t1
        injection e1 with e1
        subst e1
        rw [hf.2.2.1] at t2
        obtain ⟨a2, e2, _, w2⟩ := DataW.trod_int he t2
        injection e2 with e2
        subst e2
        rw [hf.2.2.2] at t3
        obtain ⟨a3, e3, _, w3⟩ := DataW.trod_int he t3
        injection e3 with e3
        subst e3
        exact ⟨(a0, a1, a2, a3), rfl, inI64_of w0, inI64_of w1, inI64_of w2, inI64_of w3⟩) hval h
  exact ⟨A, n, c, l, hv, h1, h2, h3, h4, h5⟩
end
theorem rows4_get {l : List (Int × Int × Int × Int)} {k : Nat} (hk : k < l.length) : (rows4 l)[k * 4]? = some (.int .i64 l[k].1) ∧ (rows4 l)[k * 4 + 1]? = some (.int .i64 l[k].2.1) ∧ (rows4 l)[k * 4 + 2]? = some (.int .i64 l[k].2.2.1) ∧ (rows4 l)[k * 4 + 3]? = some (.int .i64 l[k].2.2.2) := by
  induction l generalizing k with
  | nil => simp at hk
  | cons x r ih =>
    cases k with
    | zero => simp [rows4, cells4]
    | succ k =>
      have h := ih (k := k) (by simpa using hk)
      have e : ∀ j, (rows4 (x :: r))[(k + 1) * 4 + j]? = (rows4 r)[k * 4 + j]? := by
        intro j
        have : (k + 1) * 4 + j = (cells4 x).length + (k * 4 + j) := by simp [cells4]; omega
        rw [this]
        simp only [rows4, List.flatMap_cons]
        rw [List.getElem?_append_right (by omega)]
        simp
      have e0 := e 0
      simp only [Nat.add_zero] at e0
      simp only [List.getElem_cons_succ]
      exact ⟨e0.trans h.1, (e 1).trans h.2.1, (e 2).trans h.2.2.1, (e 3).trans h.2.2.2⟩
theorem length_rows4 (l : List (Int × Int × Int × Int)) : (rows4 l).length = l.length * 4 := by
  induction l with
  | nil => rfl
  | cons x r ih => simp only [rows4, List.flatMap_cons, List.length_append, List.length_cons] at ih ⊢; rw [ih]; simp [cells4]; omega
theorem one_rows4 (l : List (Int × Int × Int × Int)) : ∀ u ∈ rows4 l, u.oneCell' = true := by
  intro u hu
  obtain ⟨x, _, hx⟩ := List.mem_flatMap.1 hu
  simp only [cells4, List.mem_cons, List.not_mem_nil, or_false] at hx
  rcases hx with rfl | rfl | rfl | rfl <;> rfl
/-- An element of a slice of structs of integers: its cells as the walk spells their addresses. -/
theorem rows4_at {w : World} {A : Option Addr} {n k : Nat} {l : List (Int × Int × Int × Int)} (h : Reads w 4 A n (rows4 l)) (hk : k < n) (hl : l.length = n) :
    ∃ ad, A = some ad ∧ w.cell? (ad.add (k * 4)) = some (.int .i64 (l[k]'(by omega)).1) ∧ w.cell? ⟨(ad.add (k * 4)).block, (ad.add (k * 4)).off + 1, none⟩ = some (.int .i64 (l[k]'(by omega)).2.1) ∧ w.cell? ⟨(ad.add (k * 4)).block, (ad.add (k * 4)).off + 2, none⟩ = some (.int .i64 (l[k]'(by omega)).2.2.1) ∧ w.cell? ⟨(ad.add (k * 4)).block, (ad.add (k * 4)).off + 3, none⟩ = some (.int .i64 (l[k]'(by omega)).2.2.2) := by
  obtain ⟨ad, e, hc⟩ := h.2 (by omega)
  obtain ⟨g0, g1, g2, g3⟩ := rows4_get (l := l) (k := k) (by omega)
  have f : ∀ j, 0 < j → ad.add (k * 4 + j) = ⟨(ad.add (k * 4)).block, (ad.add (k * 4)).off + j, none⟩ := by
    intro j hj
    rw [← add_of_add]
    generalize ad.add (k * 4) = p
    unfold Addr.add
    rw [if_neg (by omega)]
  refine ⟨ad, e, hc _ _ g0,  ?_, ?_, ?_⟩
  · rw [← f 1 (by omega)]; exact hc _ _ g1
  · rw [← f 2 (by omega)]; exact hc _ _ g2
  · rw [← f 3 (by omega)]; exact hc _ _ g3
/-- Stores into an element of a row of the call's own. -/
theorem own_set4 {w : World} {base g n c q : Nat} {e : TypeId} {l m : List Value} {x0 x1 x2 x3 : Value} (hl : l.length = n * 4) (hm : m.length = n * 4) (hq : q < n)
    (h : w.ownsRow base e 4 (.slice (some ⟨g, 0, none⟩) n c) n (l.take (q * 4) ++ m.drop (q * 4))) (g0 : l[q * 4]? = some x0) (g1 : l[q * 4 + 1]? = some x1) (g2 : l[q * 4 + 2]? = some x2) (g3 : l[q * 4 + 3]? = some x3) :
    ((((w.setCell ⟨g, q * 4, none⟩ x0).setCell ⟨g, q * 4 + 1, none⟩ x1).setCell ⟨g, q * 4 + 2, none⟩ x2).setCell ⟨g, q * 4 + 3, none⟩ x3).ownsRow base e 4 (.slice (some ⟨g, 0, none⟩) n c) n (l.take ((q + 1) * 4) ++ m.drop ((q + 1) * 4)) := by
  have h0 := h
  have h1 := (h0.stored (q * 4) x0).1
  rw [two_set hl hm (by omega) g0] at h1
  have h2 := (h1.stored (q * 4 + 1) x1).1
  rw [two_set hl hm (by omega) g1] at h2
  have h3 := (h2.stored (q * 4 + 2) x2).1
  rw [two_set hl hm (by omega) g2] at h3
  have h4 := (h3.stored (q * 4 + 3) x3).1
  rw [two_set hl hm (by omega) g3] at h4
  have e : (q + 1) * 4 = q * 4 + 3 + 1 := by omega
  rw [e]
  exact h4
/-- A box of cells reads as it was made while nothing that was there turns. -/
theorem box4 {w w1 : World} {v0 v1 v2 v3 : Value} {t : TypeId} (hb : Below (w.alloc (.cells #[v0, v1, v2, v3] t)).heap.size (w.alloc (.cells #[v0, v1, v2, v3] t)) w1) :
    w1.cell? ⟨w.heap.size, 0, none⟩ = some v0 ∧ w1.cell? ⟨w.heap.size, 1, none⟩ = some v1 ∧ w1.cell? ⟨w.heap.size, 2, none⟩ = some v2 ∧ w1.cell? ⟨w.heap.size, 3, none⟩ = some v3 := by
  have h := fun i => (hb.cell (p := ⟨w.heap.size, i, none⟩) (by simp)).trans (cell_of_row _ w.heap.size i #[v0, v1, v2, v3] t (0, 0) (heap_alloc_new w _))
  exact ⟨h 0, h 1, h 2, h 3⟩
/-- A block that is just these cells. -/
def Box4 (w : World) (g : Nat) (t : TypeId) (v0 v1 v2 v3 : Value) : Prop := w.heap[g]? = some (.cells #[v0, v1, v2, v3] t (0, 0))
section
variable {w w' : World} {g B : Nat} {t : TypeId} {v0 v1 v2 v3 : Value}
theorem Box4.new (w : World) (t : TypeId) (v0 v1 v2 v3 : Value) : Box4 (w.alloc (.cells #[v0, v1, v2, v3] t)) w.heap.size t v0 v1 v2 v3 := heap_alloc_new w _
theorem Box4.cells (h : Box4 w g t v0 v1 v2 v3) : w.cell? ⟨g, 0, none⟩ = some v0 ∧ w.cell? ⟨g, 1, none⟩ = some v1 ∧ w.cell? ⟨g, 2, none⟩ = some v2 ∧ w.cell? ⟨g, 3, none⟩ = some v3 :=
  ⟨cell_of_row w g 0 _ t (0, 0) h, cell_of_row w g 1 _ t (0, 0) h, cell_of_row w g 2 _ t (0, 0) h, cell_of_row w g 3 _ t (0, 0) h⟩
theorem Box4.frozen (h : Box4 w g t v0 v1 v2 v3) : w.frozen? ⟨g, 0, none⟩ = false ∧ w.frozen? ⟨g, 1, none⟩ = false ∧ w.frozen? ⟨g, 2, none⟩ = false ∧ w.frozen? ⟨g, 3, none⟩ = false := by
  unfold Box4 at h
  simp [World.frozen?, h]
theorem Box4.lt (h : Box4 w g t v0 v1 v2 v3) : g < w.heap.size := (Array.getElem?_eq_some_iff.1 h).1
theorem Box4.below (h : Box4 w g t v0 v1 v2 v3) (hb : Below B w w') (hg : g < B) : Box4 w' g t v0 v1 v2 v3 := (hb.block g hg).trans h
theorem Box4.set4 (h : Box4 w g t v0 v1 v2 v3) (u0 u1 u2 u3 : Value) :
    Box4 ((((w.setCell ⟨g, 0, none⟩ u0).setCell ⟨g, 1, none⟩ u1).setCell ⟨g, 2, none⟩ u2).setCell ⟨g, 3, none⟩ u3) g t u0 u1 u2 u3 := by
  unfold Box4 at h ⊢
  simp [World.setCell, Array.getElem?_modify, h]
end

section
variable {P : Program} {ops : Array Oper} {rest : List Oper} {o : Oper} {a : Act} {Q : Exit → Act → World → Prop}
theorem run_append_nil_src (w : World) (base : Nat) (t ty e : TypeId) (i : TypeInfo) (size : Nat) (ht : P.underlying t = some (.slice e)) (hi : P.info? e = some i)
    (v : Value) (n : Nat) (xs : List Value) (hown : w.ownsRow base e size v n xs) (c : Nat) : (Builtin.append_ #[t, t] ty #[v, .slice none 0 c]).run P w = .ok v w := by
  rcases hown.2 with ⟨rfl, rfl⟩ | ⟨g, cap, cur, rfl, _, _, hnc, _⟩
  · simp [Builtin.append_, run_underlying ht, sizeOf, typeInfo, hi, Builtin.lenOf, Builtin.firstCells]
  · simp [Builtin.append_, run_underlying ht, sizeOf, typeInfo, hi, Builtin.lenOf, Builtin.firstCells, hnc, storeCells]

theorem run_push (w : World) (base : Nat) (t ty e : TypeId) (z : Value) (k bytes : Nat) (hinfo : (P.info? e).map (fun i => (i.zero, i.size, i.bytes)) = some (some z, k, bytes)) (hzs : z.cells.size = k) (hk : 0 < k) (ht : P.underlying t = some (.slice e))
    (A : Option Addr) (n c : Nat) (xs : List Value) (hown : w.ownsRow base e k (.slice A n c) n xs)
    (A2 : Option Addr) (m c2 : Nat) (news : List Value) (hr : Reads w k A2 m news) (h1 : ∀ u ∈ news, u.oneCell' = true)
    (h63 : n + m ≤ 1000000000000) (hby : bytes ≤ 100) (hbase : base ≤ w.heap.size) :
    ∃ A' c' w', (Builtin.append_ #[t, t] ty #[.slice A n c, .slice A2 m c2]).run P w = .ok (.slice A' (n + m) c') w' ∧ w'.ownsRow base e k (.slice A' (n + m) c') (n + m) (xs ++ news) ∧ w.grownBy w' (Value.slice A n c).ownBlock ∧ Below base w w' := by
  obtain ⟨i, hi, hz, hsz, hbs⟩ := info_parts hinfo
  have hb : (n + m) * bytes ≤ 140737488355328 := by
    have := Nat.mul_le_mul h63 hby
    omega
  rcases A2 with _ | ad
  · have hm : m = 0 := by
      rcases Nat.eq_zero_or_pos m with h0 | h0
      · exact h0
      · obtain ⟨_, h, _⟩ := hr.2 h0
        cases h
    subst hm
    have hn : news = [] := List.eq_nil_of_length_eq_zero (by simpa using hr.1)
    subst hn
    exact ⟨A, c, w, run_append_nil_src w base t ty e i k ht hi _ n xs hown c2, by simpa using hown, World.grownBy.refl _ _, Below.refl _ _⟩
  · have hcell : ∀ j u, news[j]? = some u → w.cell? (ad.add j) = some u := by
      intro j u hu
      rcases Nat.eq_zero_or_pos m with h0 | h0
      · subst h0
        have hn : news = [] := List.eq_nil_of_length_eq_zero (by simpa using hr.1)
        subst hn
        simp at hu
      · obtain ⟨ad', h, hc⟩ := hr.2 h0
        injection h with h
        subst h
        exact hc j u hu
    obtain ⟨v', w', hrun, hown', hg, _⟩ := run_append_own (P := P) w base t ty e i z k bytes ht hi hz hsz hbs hzs hk _ n xs hown ad m c2 news hr.1 hcell h1 (by unfold maxLen; omega) hb hbase
    have hgb : Below base w w' := ⟨hg.os, hg.tape, hg.output, hg.size, fun q hq => hg.block q (by omega) (fun hk' => by have := hown.lt q hk'.symm; omega)⟩
    rcases hown'.2 with ⟨hv, h0⟩ | ⟨g, cap, cur, hv, rest⟩
    · subst hv
      have h00 : n + m = 0 := h0
      rw [h00] at hown' ⊢
      exact ⟨none, 0, w', hrun, hown', hg, hgb⟩
    · subst hv
      exact ⟨_, _, _, hrun, hown', hg, hgb⟩

/-- append of news to a row of the call's own. -/
theorem wpList_push (w : World) (hgd : o.guard = none) (s x : Operand) (t : TypeId)
    (ho : o.op = .call { callee := .builtin .append, args := #[s, x], argTypes := #[t, t] })
    (base : Nat) (e : TypeId) (z : Value) (k bytes : Nat) (hinfo : (P.info? e).map (fun i => (i.zero, i.size, i.bytes)) = some (some z, k, bytes)) (hzs : z.cells.size = k) (hk : 0 < k) (ht : P.underlying t = some (.slice e))
    (A : Option Addr) (n c : Nat) (xs : List Value) (hs : a.eval s = .slice A n c) (hown : w.ownsRow base e k (.slice A n c) n xs)
    (A2 : Option Addr) (m c2 : Nat) (news : List Value) (hx : a.eval x = .slice A2 m c2) (hr : Reads w k A2 m news) (h1 : ∀ u ∈ news, u.oneCell' = true)
    (h63 : n + m ≤ 1000000000000) (hby : bytes ≤ 100) (hbase : base ≤ w.heap.size)
    (h : ∀ A' c' w', w'.ownsRow base e k (.slice A' (n + m) c') (n + m) (xs ++ news) → w.grownBy w' (Value.slice A n c).ownBlock → Below base w w' → wpList P ops Q rest (a.put o.dst (.slice A' (n + m) c')) w') :
    wpList P ops Q (o :: rest) a w := by
  refine wpList_plain hgd fun K hK => ?_
  obtain ⟨A', c', w', hrun, r1, r2, r3⟩ := run_push (P := P) w base t o.type e z k bytes hinfo hzs hk ht A n c xs hown A2 m c2 news hr h1 h63 hby hbase
  unfold Oper.wp execOp
  simp only [ho, resolve, invoke, builtin, Sem.run_bind, Sem.run_pure, Result.andThen_ok, List.map_toArray, List.map_cons, List.map_nil, hs, hx, hrun]
  exact hK _ _ (h A' c' w' r1 r2 r3)

/-- A slice of one cell that has just been built. -/
theorem reads_new (w : World) (u : Value) (e : TypeId) : Reads (w.alloc (.cells #[u] e)) 1 (some ⟨w.heap.size, 0, none⟩) 1 [u] :=
  ⟨rfl, fun _ => ⟨_, rfl, cell_one_new _ _ _⟩⟩
/-- A slice whose cells have just been built. -/
theorem reads_lit (w : World) (cs : List Value) (e : TypeId) : Reads (w.alloc (.cells cs.toArray e)) 1 (some ⟨w.heap.size, 0, none⟩) cs.length cs := by
  refine ⟨by simp, fun _ => ⟨_, rfl, fun j u hu => ?_⟩⟩
  have hadd : (⟨w.heap.size, 0, none⟩ : Addr).add j = ⟨w.heap.size, j, none⟩ := by unfold Addr.add; split <;> simp_all
  rw [hadd, cell_of_row _ _ j cs.toArray e (0, 0) (heap_alloc_new w _)]
  simpa using hu
theorem own_built (w : World) (cs : List Value) (e : TypeId) (h : cs.length ≤ 1000000) {base : Nat} (hb : base ≤ w.heap.size) : (w.alloc (.cells cs.toArray e)).ownsRow base e 1 (.slice (some ⟨w.heap.size, 0, none⟩) cs.length cs.length) cs.length cs := by
  have := World.ownsRow_lit (base := base) (e := e) (size := 1) w cs.toArray cs.length hb (by unfold maxLen; omega) (by simp)
  simpa using this
theorem own_start {w : World} {base k : Nat} {e : TypeId} : w.ownsRow base e k (.slice none 0 0) 0 [] := World.ownsRow_nil _ _ _ _

/-- make([]T, n), T of k cells. -/
theorem wpList_mkN (w : World) (hgd : o.guard = none) (l c : Operand) (t : TypeId) (hop : o.op = Op.makeSlice t l c)
    (base : Nat) (e : TypeId) (z : Value) (k bytes : Nat) (hinfo : (P.info? e).map (fun i => (i.zero, i.size, i.bytes)) = some (some z, k, bytes)) (ht : P.underlying t = some (.slice e))
    (kl kc : IntKind) (L C : Int) (n : Nat) (hl : a.eval l = .int kl L) (hc : a.eval c = .int kc C) (hL : L = (n : Int)) (hC : C = (n : Int)) (hn : n ≤ 1000000000000) (hby : bytes ≤ 100) (hbase : base ≤ w.heap.size)
    (hK : ∀ w' old, old.length = n * k → w'.ownsRow base e k (.slice (some ⟨w.heap.size, 0, none⟩) n n) n old → Below w.heap.size w w' → w.heap.size < w'.heap.size → wpList P ops Q rest (a.put o.dst (.slice (some ⟨w.heap.size, 0, none⟩) n n)) w') :
    wpList P ops Q (o :: rest) a w := by
  obtain ⟨i, hi, hz, hsz, hbs⟩ := info_parts hinfo
  have hb : i.bytes * n ≤ 281474976710656 := by
    have := Nat.mul_le_mul hby hn
    rw [hbs]
    omega
  refine wpList_make_full w hgd l c t hop base e i z k ht hi hz hsz kl kc L C n hl hc hL hC hb (by unfold maxLen; omega) hbase ?_
  intro w' hown hg
  refine hK w' _ hown.1 hown ⟨hg.os, hg.tape, hg.output, hg.size, fun q hq => hg.block q hq (by simp)⟩ ?_
  have := hown.lt w.heap.size rfl
  exact this.2

/-- make([]T, n), T of one cell. -/
theorem wpList_mk (w : World) (hgd : o.guard = none) (l c : Operand) (t : TypeId) (hop : o.op = Op.makeSlice t l c)
    (base : Nat) (e : TypeId) (z : Value) (bytes : Nat) (hinfo : (P.info? e).map (fun i => (i.zero, i.size, i.bytes)) = some (some z, 1, bytes)) (hz1 : z.cells = #[z]) (ht : P.underlying t = some (.slice e))
    (kl kc : IntKind) (L C : Int) (n : Nat) (hl : a.eval l = .int kl L) (hc : a.eval c = .int kc C) (hL : L = (n : Int)) (hC : C = (n : Int)) (hn : n ≤ 1000000000000) (hby : bytes ≤ 100) (hbase : base ≤ w.heap.size)
    (hK : ∀ w', w'.ownsRow base e 1 (.slice (some ⟨w.heap.size, 0, none⟩) n n) n (List.replicate n z) → Below w.heap.size w w' → w.heap.size < w'.heap.size → wpList P ops Q rest (a.put o.dst (.slice (some ⟨w.heap.size, 0, none⟩) n n)) w') :
    wpList P ops Q (o :: rest) a w := by
  obtain ⟨i, hi, hz, hsz, hbs⟩ := info_parts hinfo
  have hb : i.bytes * n ≤ 281474976710656 := by
    have := Nat.mul_le_mul hby hn
    rw [hbs]
    omega
  refine wpList_make_full w hgd l c t hop base e i z 1 ht hi hz hsz kl kc L C n hl hc hL hC hb (by unfold maxLen; omega) hbase ?_
  intro w' hown hg
  rw [hz1, toList_madeCells_one, Nat.mul_one] at hown
  refine hK w' hown ⟨hg.os, hg.tape, hg.output, hg.size, fun q hq => hg.block q hq (by simp)⟩ ?_
  have := hown.lt w.heap.size rfl
  exact this.2
end
end Go.Proofs.Ythpfgmnhpnfopaa
