/- The drawing cursor of the spec: contracts of next, pick, one, among. No conditions. -/
import Derived.Test.YthpfgmnhpnfopaaCom
import Derived.Test.YthpfgmnhpnfopaaNest
import Derived.Laws.Bits64b
namespace Go.Proofs.Ythpfgmnhpnfopaa
set_option linter.unusedSimpArgs false
set_option linter.unusedVariables false
open Go.RowKit

def bytesV (l : List Int) : List Value := l.map (.int .u8)
/-- The cursor in the block g: at most k bytes are drawn; its bytes lie in older blocks. -/
def Cur (w : World) (g k : Nat) : Prop := ∃ A n c l, ∃ p : Nat, ∃ s : Int, Box3 w g 100 (.slice A n c) (.int .i64 p) (.int .u64 s) ∧ Reads w 1 A n (bytesV l) ∧ (0 < n → ∀ ad, A = some ad → ad.block < g) ∧ n ≤ 9223372036854775807 ∧ (∀ x ∈ l, 0 ≤ x ∧ x ≤ 255) ∧ p ≤ k
section
variable {w w' : World} {g k k' : Nat}
theorem Cur.mono (h : Cur w g k) (hk : k ≤ k') : Cur w g k' := by
  obtain ⟨A, n, c, l, p, s, h1, h2, h3, h4, h5, h6⟩ := h
  exact ⟨A, n, c, l, p, s, h1, h2, h3, h4, h5, by omega⟩
theorem Cur.lt (h : Cur w g k) : g < w.heap.size := by
  obtain ⟨A, n, c, l, p, s, h1, _⟩ := h
  exact h1.lt
theorem Cur.same (h : Cur w g k) (hb : ∀ q, q ≤ g → w'.heap[q]? = w.heap[q]?) : Cur w' g k := by
  obtain ⟨A, n, c, l, p, s, h1, h2, h3, h4, h5, h6⟩ := h
  refine ⟨A, n, c, l, p, s, (hb g (Nat.le_refl _)).trans h1, ⟨h2.1, fun hn => ?_⟩, h3, h4, h5, h6⟩
  obtain ⟨ad, e, hc⟩ := h2.2 hn
  refine ⟨ad, e, fun j u hu => ?_⟩
  have hb' := h3 hn ad e
  rw [← hc j u hu]
  exact World.cell?_of_block (hb _ (by rw [block_of_add]; omega))
theorem Cur.below (h : Cur w g k) (hb : Below w.heap.size w w') : Cur w' g k := h.same fun q hq => hb.block q (by have := h.lt; omega)
theorem Cur.turned {lo hi : Nat} (h : Cur w g k) (ht : Turned lo hi w w') (hl : g < lo) : Cur w' g k := h.same fun q hq => ht.block q (by have := h.lt; omega) (by omega)
end
theorem Cur.below' {w w' : World} {g k B : Nat} (h : Cur w g k) (hb : Below B w w') (hg : g < B) : Cur w' g k := h.same fun q hq => hb.block q (by omega)
/-- A cursor that has just been made. -/
theorem Cur.new {w : World} {A : Option Addr} {n c : Nat} {l : List Int} (h : Reads w 1 A n (bytesV l)) (hn : n ≤ 9223372036854775807) (hl : ∀ x ∈ l, 0 ≤ x ∧ x ≤ 255) : Cur (w.alloc (.cells #[.slice A n c, .int .i64 0, .int .u64 0] 100)) w.heap.size 0 := by
  refine ⟨A, n, c, l, 0, 0, Box3.new w _ _ _ _, h.alloc _, fun h0 ad e => ?_, hn, hl, Nat.le_refl _⟩
  obtain ⟨ad', e', hc⟩ := h.2 h0
  rw [e] at e'
  injection e' with e'
  subst e'
  have hl0 : 0 < (bytesV l).length := by rw [h.1]; omega
  have := World.block_lt_of_cell? w _ (hc 0 _ (List.getElem?_eq_getElem hl0))
  rw [block_of_add] at this
  exact this
/-- What a drawing call does to the world: the cursor's block and new ones alone. -/
abbrev Drew (g : Nat) (w w' : World) : Prop := Turned g (g + 1) w w'
theorem Drew.of_below {g : Nat} {w w' : World} (h : Below w.heap.size w w') : Drew g w w' := Turned.of_below h
theorem Drew.own {g base k n : Nat} {w w' : World} {e : TypeId} {v : Value} {xs : List Value} (h : Drew g w w') (ho : w.ownsRow base e k v n xs) (hb : g < base) : w'.ownsRow base e k v n xs := row_turned_before ho h (by omega)
theorem Drew.below {g B : Nat} {w0 w w' : World} (h : Drew g w w') (hb : Below B w0 w) (hB : B ≤ g) (hB' : B ≤ w.heap.size) : Below B w0 w' := below_turned hb h hB hB'
theorem Drew.cellOf {g k p : Nat} {w w' : World} {u : Value} (h : Drew g w w') (hc : w.cell? ⟨p, k, none⟩ = some u) (hp : p ≠ g) : w'.cell? ⟨p, k, none⟩ = some u := by
  rw [← hc]
  exact World.cell?_of_block (h.block _ (World.block_lt_of_cell? w _ hc) (by simp; omega))
theorem Cur.drewN {w : World} {g k : Nat} (h : Cur w g k) (m : Nat) : Cur (w.drewN m) g k := h
theorem Turned.drewN {lo hi : Nat} {w w' : World} (h : Turned lo hi w w') (m : Nat) : Turned lo hi w (w'.drewN m) := ⟨h.os, h.tape, h.output, h.size, h.block⟩
theorem Turned.setCell {lo hi g i : Nat} {w w' : World} {u : Value} (h : Turned lo hi w w') (hg : lo ≤ g ∧ g < hi) : Turned lo hi w (w'.setCell ⟨g, i, none⟩ u) :=
  ⟨h.os, h.tape, h.output, by simpa [World.setCell] using h.size, fun q hq hne => (Below.heap_setCell w' ⟨g, i, none⟩ u q (by rintro rfl; exact hne hg)).trans (h.block q hq hne)⟩
theorem Cur.step {w : World} {g k n c p : Nat} {A : Option Addr} {l : List Int} {s s' x : Int} (hb : Box3 w g 100 (.slice A n c) (.int .i64 p) (.int .u64 s)) (hr : Reads w 1 A n (bytesV l)) (hA : 0 < n → ∀ ad, A = some ad → ad.block < g) (hn : n ≤ 9223372036854775807) (hl : ∀ x ∈ l, 0 ≤ x ∧ x ≤ 255) (hp : p ≤ k) (hx : x = (p : Int) + 1) :
    Cur ((w.setCell ⟨g, 1, none⟩ (.int .i64 x)).setCell ⟨g, 2, none⟩ (.int .u64 s')) g (k + 1) := by
  subst hx
  refine ⟨A, n, c, l, p + 1, s', ?_, ⟨hr.1, fun h0 => ?_⟩, hA, hn, hl, by omega⟩
  · unfold Box3 at hb ⊢
    simp [World.setCell, Array.getElem?_modify, hb]
  · obtain ⟨ad, e, hc⟩ := hr.2 h0
    refine ⟨ad, e, fun j u hu => ?_⟩
    have h1 := hA h0 ad e
    rw [← hc j u hu]
    have hne : (ad.add j).block ≠ g := by rw [block_of_add]; omega
    exact (World.cell?_of_block (Below.heap_setCell _ ⟨g, 2, none⟩ _ _ hne)).trans (World.cell?_of_block (Below.heap_setCell _ ⟨g, 1, none⟩ _ _ hne))
theorem and255 (E : Int) (h0 : 0 ≤ E) (h1 : E ≤ 18446744073709551615) : ∃ x : Nat, bits BinOp.and IntKind.u64 E 255 = (x : Int) ∧ x ≤ 255 := by
  have h := bits_and_u64_nat E.toNat 255 (by omega) (by omega)
  rw [Int.toNat_of_nonneg h0] at h
  exact ⟨_, h, Nat.and_le_right⟩
theorem seed255 (y : Int) : ∃ x : Nat, wrap64 (bits BinOp.and IntKind.u64 (IntKind.u64.wrap y / 1099511627776) 255) = (x : Int) ∧ x ≤ 255 := by
  obtain ⟨x, hx, hx'⟩ := and255 (IntKind.u64.wrap y / 1099511627776) (by rw [IntKind.wrap_u64]; omega) (by rw [IntKind.wrap_u64]; omega)
  exact ⟨x, by rw [hx]; exact IntWalk.wrap64_in _ ⟨by omega, by omega⟩, hx'⟩
set_option maxHeartbeats 1000000 in
set_option maxRecDepth 100000 in
theorem next_any (g k : Nat) (w : World) (hk : k ≤ 1000000000000) (h : Cur w g k) :
    Calls Try.prog 121 #[.pointer (some ⟨g, 0, none⟩)] w fun e w' => ∃ x : Nat, e = .returned (.int .i64 (x : Int)) ∧ x ≤ 255 ∧ Cur w' g (k + 1) ∧ Drew g w w' := by
  obtain ⟨A, n, c, l, p, s, hb, hr, hA, hn, hl, hp⟩ := h
  obtain ⟨k0, k1, k2⟩ := hb.cells
  obtain ⟨f0, f1, f2⟩ := hb.frozen
  have HB := Lib.hid hb
  have HR := Lib.hid hr
  have HA := Lib.hid hA
  have HL := Lib.hid hl
  clear hb hr hA hl
  by_cases hlt : p < n
  · obtain ⟨ad, u, rfl, hu, hc⟩ := HR.out.at_ hlt
    have hlp : p < l.length := by have := HR.out.1; simp [bytesV] at this; omega
    have hb := HL.out l[p] (List.getElem_mem hlp)
    have e : u = .int .u8 l[p] := by simp [bytesV, hlp] at hu; exact hu.symm
    subst e
    clear hu
    generalize l[p] = b at *
    obtain ⟨b, rfl⟩ : ∃ b' : Nat, b = (b' : Int) := ⟨b.toNat, by omega⟩
    have h1 : (0 : Int) ≤ (p : Int) := by omega
    have h2 : (p : Int) < (n : Int) := by omega
    go_enter Try.func121, Try.ntmps121
    go_wp2
    go_quiet (fail)
    go_wp2
    go_quiet (fail)
    go_wp2
    go_quiet (fail)
    go_wp2
    go_ret
    exact ⟨b, rfl, by omega, Cur.drewN (Cur.step (w := w.drewN _) HB.out HR.out HA.out hn HL.out hp rfl) _, Turned.drewN (((Turned.refl.drewN _).setCell ⟨Nat.le_refl _, by omega⟩).setCell ⟨Nat.le_refl _, by omega⟩) _⟩
  · obtain ⟨x, hx, hx'⟩ := seed255 (IntKind.u64.wrap (IntKind.u64.wrap (s * 6364136223846793005)) + 1442695040888963407)
    have HX := Lib.hid hx
    clear hx
    go_enter Try.func121, Try.ntmps121
    go_wp2
    go_quiet (fail)
    go_wp2
    go_quiet (fail)
    go_wp2
    go_ret
    exact ⟨x, ret_int HX.out, hx', Cur.drewN (Cur.step (w := w.drewN _) HB.out HR.out HA.out hn HL.out hp rfl) _, Turned.drewN (((Turned.refl.drewN _).setCell ⟨Nat.le_refl _, by omega⟩).setCell ⟨Nat.le_refl _, by omega⟩) _⟩
theorem reads_drew {g n : Nat} {B : Option Addr} {xs : List Value} {w w' : World} (h : Reads w 1 B n xs) (hB : ∀ ad, B = some ad → ad.block ≠ g) (hd : Drew g w w') : Reads w' 1 B n xs :=
  ⟨h.1, fun h0 => by
    obtain ⟨ad, e, hc⟩ := h.2 h0
    refine ⟨ad, e, fun j u hu => ?_⟩
    have h1 := hB ad e
    have h2 := World.block_lt_of_cell? w _ (hc j u hu)
    rw [← hc j u hu]
    exact World.cell?_of_block (hd.block _ h2 (by rw [block_of_add]; omega))⟩
set_option maxHeartbeats 1000000 in
theorem pick_any (g k : Nat) (n : Int) (w : World) (hk : k ≤ 100000000000) (hn : n ≤ 1000000000) (h : Cur w g k) :
    Calls Try.prog 107 #[.pointer (some ⟨g, 0, none⟩), .int .i64 n] w fun e w' => ∃ x : Nat, e = .returned (.int .i64 (x : Int)) ∧ (x = 0 ∨ (x : Int) < n) ∧ x ≤ 65535 ∧ Cur w' g (k + 2) ∧ Drew g w w' := by
  have H := Lib.hid h
  clear h
  by_cases h1 : n ≤ 1
  · go_enter Try.func107, Try.ntmps107
    go_wp2
    go_ret
    exact ⟨0, rfl, .inl rfl, by omega, H.out.mono (by omega), Turned.refl⟩
  · obtain ⟨m, rfl⟩ : ∃ m : Nat, n = (m : Int) := ⟨n.toNat, by omega⟩
    by_cases h2 : (m : Int) ≤ 200
    · go_enter Try.func107, Try.ntmps107
      go_wp2_with fail
      refine (next_any g k w (by omega) H.out).mono ?_
      rintro e w1 ⟨x, rfl, hx, hc, hd⟩
      have HC := Lib.hid hc; have HD := Lib.hid hd
      clear hc hd
      go_wp2
      go_ret
      have hm : x % m < m := Nat.mod_lt _ (by omega)
      have hx2 := Nat.mod_le x m
      exact ⟨x % m, by simp, .inr (by omega), by omega, HC.out.mono (by omega), HD.out⟩
    · go_enter Try.func107, Try.ntmps107
      go_wp2_with fail
      refine (next_any g k w (by omega) H.out).mono ?_
      rintro e w1 ⟨x, rfl, hx, hc, hd⟩
      have HC := Lib.hid hc; have HD := Lib.hid hd
      clear hc hd
      go_wp2_with fail
      refine (next_any g (k + 1) w1 (by omega) HC.out).mono ?_
      rintro e w2 ⟨y, rfl, hy, hc, hd⟩
      have HC := Lib.hid hc; have HD := Lib.hid (HD.out.trans hd)
      clear hc hd
      go_wp2
      go_ret
      have hm : (x * 256 + y) % m < m := Nat.mod_lt _ (by omega)
      have hx2 := Nat.mod_le (x * 256 + y) m
      exact ⟨(x * 256 + y) % m, by simp, .inr (by omega), by omega, HC.out, HD.out⟩
theorem one_any (g k : Nat) (n : Int) (w : World) (hk : k ≤ 100000000000) (hn : n ≤ 1000000000) (h : Cur w g k) :
    Calls Try.prog 106 #[.pointer (some ⟨g, 0, none⟩), .int .i64 n] w fun e w' => ∃ b : Bool, e = .returned (.bool b) ∧ Cur w' g (k + 2) ∧ Drew g w w' := by
  go_enter Try.func106, Try.ntmps106
  go_wp2_with fail
  refine (pick_any g k n w hk hn h).mono ?_
  rintro e w1 ⟨x, rfl, _, _, hc, hd⟩
  have HC := Lib.hid hc; have HD := Lib.hid hd
  clear hc hd
  go_wp2
  go_ret
  exact ⟨_, rfl, HC.out, HD.out⟩
set_option maxHeartbeats 1000000 in
theorem among_any (g k : Nat) (B : Option Addr) (m d : Nat) (L : List Int) (w : World) (hk : k ≤ 100000000000) (hm : m ≤ 1000) (h0 : 0 < m) (h : Cur w g k) (hr : Reads w 1 B m (ints L)) (hB : ∀ ad, B = some ad → ad.block ≠ g) :
    Calls Try.prog 90 #[.pointer (some ⟨g, 0, none⟩), .slice B m d] w fun e w' => ∃ x ∈ L, e = .returned (.int .i64 x) ∧ Cur w' g (k + 2) ∧ Drew g w w' := by
  go_enter Try.func90, Try.ntmps90
  go_wp2_with fail
  refine (pick_any g k m w hk (by omega) h).mono ?_
  rintro e w1 ⟨x, rfl, hx, _, hc, hd⟩
  have hxm : x < m := by omega
  obtain ⟨ad, u, rfl, hu, hcell⟩ := (reads_drew hr hB hd).at_ hxm
  have hxl : x < L.length := by have := hr.1; simp at this; omega
  have e : u = .int .i64 L[x] := by simp [ints, hxl] at hu; exact hu.symm
  subst e
  have HM := Lib.hid (List.getElem_mem hxl)
  generalize L[x] = v at *
  have HC := Lib.hid hc; have HD := Lib.hid hd
  clear hc hd hr hB h hu hx
  go_wp2
  go_ret
  exact ⟨v, HM.out, rfl, HC.out, HD.out⟩
/-- .. a list that has just been built. -/
theorem amongLit_any (g k : Nat) (L : List Int) (e : TypeId) (w : World) (b m : Nat) (hb : b = w.heap.size) (hm' : m = L.length) (hk : k ≤ 100000000000) (hm : m ≤ 1000) (h0 : 0 < m) (h : Cur w g k) :
    Calls Try.prog 90 #[.pointer (some ⟨g, 0, none⟩), .slice (some ⟨b, 0, none⟩) m m] (w.alloc (.cells (ints L).toArray e)) fun en w' => ∃ x ∈ L, en = .returned (.int .i64 x) ∧ Cur w' g (k + 2) ∧ Drew g w w' := by
  subst hb hm'
  have hB : Below w.heap.size w (w.alloc (.cells (ints L).toArray e)) := (Below.refl _ _).alloc (Nat.le_refl _) _
  refine (among_any g k (some ⟨w.heap.size, 0, none⟩) L.length L.length L _ hk hm h0 (h.below hB) (by have := reads_lit w (ints L) e; simpa using this) (fun ad e' => by injection e' with e'; subst e'; have := h.lt; simp; omega)).mono ?_
  rintro en w' ⟨x, hx, he, hc, hd⟩
  exact ⟨x, hx, he, hc, (Drew.of_below hB).trans hd⟩
theorem Drew.then_below {g : Nat} {w wr w' : World} (h : Drew g w wr) (hb : Below w.heap.size wr w') : Drew g w w' :=
  ⟨hb.os.trans h.os, hb.tape.trans h.tape, hb.output.trans h.output, Nat.le_trans h.size hb.size, fun q hq hne => (hb.block q hq).trans (h.block q hq hne)⟩
theorem Drew.all {g : Nat} {w w' : World} (h : Drew g w w') (hg : w.heap.size ≤ g) : Below w.heap.size w w' := ⟨h.os, h.tape, h.output, h.size, fun q hq => h.block q hq (by omega)⟩
theorem Drew.allB {g B : Nat} {w w' : World} (h : Drew g w w') (hg : B ≤ g) (hB : B ≤ w.heap.size) : Below B w w' := ⟨h.os, h.tape, h.output, h.size, fun q hq => h.block q (by omega) (by omega)⟩
end Go.Proofs.Ythpfgmnhpnfopaa
