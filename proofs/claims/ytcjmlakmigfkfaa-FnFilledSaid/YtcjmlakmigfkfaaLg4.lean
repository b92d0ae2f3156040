/- The spec's drawings of logs: between. No conditions. -/
import Derived.Test.YtcjmlakmigfkfaaZFilled15
namespace Go.Proofs.Ytcjmlakmigfkfaa
set_option linter.unusedSimpArgs false
set_option linter.unusedVariables false
open Go.RowKit

theorem l1Most_any (a b : Int) (w : World) : Calls Try.prog 108 #[.int .i64 a, .int .i64 b] w fun e w' => e = .returned (.int .i64 (max a b)) ∧ w = w' := by
  by_cases h : b < a
  · go_enter Try.func108, Try.ntmps108
    go_wp2
    go_ret
    exact ⟨ret_int (by omega), rfl⟩
  · go_enter Try.func108, Try.ntmps108
    go_wp2
    go_ret
    exact ⟨ret_int (by omega), rfl⟩
theorem l1Most_ex (a b : Int) (w : World) : Calls Try.prog 108 #[.int .i64 a, .int .i64 b] w fun e w' => ∃ x : Int, e = .returned (.int .i64 x) ∧ w = w' :=
  (l1Most_any a b w).mono fun e w' h => ⟨_, h.1, h.2⟩
theorem results_tmp4 {fn : Func} {t u v x : Tmp} (h : fn.results = #[.tmp t, .tmp u, .tmp v, .tmp x]) (tmps : Array Value) (P : Program) (w : World) :
    (results fn tmps).run P w = .ok (.tuple #[tmps.getD t undef, tmps.getD u undef, tmps.getD v undef, tmps.getD x undef]) w := by
  simp [results, h]
theorem results_tmp5 {fn : Func} {t u v x y : Tmp} (h : fn.results = #[.tmp t, .tmp u, .tmp v, .tmp x, .tmp y]) (tmps : Array Value) (P : Program) (w : World) :
    (results fn tmps).run P w = .ok (.tuple #[tmps.getD t undef, tmps.getD u undef, tmps.getD v undef, tmps.getD x undef, tmps.getD y undef]) w := by
  simp [results, h]
/-- An entry of short lists. -/
def shE (x : EntryT) : Prop := x.2.2.2.1.length ≤ 10 ∧ x.2.2.2.2.length ≤ 10
theorem shE_of {x : EntryT} (h : dwE x) : shE x := h.2
theorem shE_len {x : EntryT} (h : shE x) : lenE 1000000000 x := by
  obtain ⟨h1, h2⟩ := h
  unfold lenE
  omega
theorem shE_snoc {L : List EntryT} {x : EntryT} (h : ∀ y ∈ L, shE y) (hx : shE x) : ∀ y ∈ L ++ [x], shE y := fun y hy => by
  rcases List.mem_append.1 hy with hy | hy
  · exact h y hy
  · simp at hy; subst hy; exact hx
section
variable {w w0 : World} {b B : Nat} {t : TypeId} {v0 v1 v2 v3 v4 u0 u1 u2 u3 u4 : Value}
theorem below5 (h : Below B w0 w) (hB : B ≤ b) : Below B w0 (((((w.setCell ⟨b, 0, none⟩ v0).setCell ⟨b, 1, none⟩ v1).setCell ⟨b, 2, none⟩ v2).setCell ⟨b, 3, none⟩ v3).setCell ⟨b, 4, none⟩ v4) :=
  ((((h.setCell (p := ⟨b, 0, none⟩) hB _).setCell (p := ⟨b, 1, none⟩) hB _).setCell (p := ⟨b, 2, none⟩) hB _).setCell (p := ⟨b, 3, none⟩) hB _).setCell (p := ⟨b, 4, none⟩) hB _
theorem putL5 (h : w.heap[b]? = some (.cells #[u0, u1, u2, u3, u4] t (0, 0))) : (((((w.setCell ⟨b, 0, none⟩ v0).setCell ⟨b, 1, none⟩ v1).setCell ⟨b, 2, none⟩ v2).setCell ⟨b, 3, none⟩ v3).setCell ⟨b, 4, none⟩ v4).heap[b]? = some (.cells #[v0, v1, v2, v3, v4] t (0, 0)) := by
  simp [World.setCell, Array.getElem?_modify, h]
theorem box5_S (h : w.heap[b]? = some (.cells #[u0, u1, u2, u3, u4] t (0, 0))) : w.cell? ⟨b, 0, none⟩ = some u0 ∧ w.cell? ⟨b, 1, none⟩ = some u1 ∧ w.cell? ⟨b, 2, none⟩ = some u2 ∧ w.cell? ⟨b, 3, none⟩ = some u3 ∧ w.cell? ⟨b, 4, none⟩ = some u4 :=
  ⟨(box_at h (j := 0) rfl).1, (box_at h (j := 1) rfl).1, (box_at h (j := 2) rfl).1, (box_at h (j := 3) rfl).1, (box_at h (j := 4) rfl).1⟩
theorem box5_F (h : w.heap[b]? = some (.cells #[u0, u1, u2, u3, u4] t (0, 0))) : w.frozen? ⟨b, 0, none⟩ = false ∧ w.frozen? ⟨b, 1, none⟩ = false ∧ w.frozen? ⟨b, 2, none⟩ = false ∧ w.frozen? ⟨b, 3, none⟩ = false ∧ w.frozen? ⟨b, 4, none⟩ = false :=
  ⟨(box_at h (j := 0) rfl).2, (box_at h (j := 1) rfl).2, (box_at h (j := 2) rfl).2, (box_at h (j := 3) rfl).2, (box_at h (j := 4) rfl).2⟩
end
theorem box_alloc {w : World} {b : Nat} {o x : Obj} (h : w.heap[b]? = some x) : (w.alloc o).heap[b]? = some x :=
  (heap_alloc_old w o (Array.getElem?_eq_some_iff.1 h).1).trans h
/-- A block that has been made ahead of time. -/
structure NB (b : Nat) (w : World) (v : Nat) : Prop where
  cells : w.heap[v]? = some (.cells #[.int .i64 0, .int .i64 0, .int .i64 0, .slice none 0 0, .slice none 0 0] 51 (0, 0))
  lt : b < v
theorem NB.new {b : Nat} (w : World) (h : b < w.heap.size) : NB b (w.alloc (.cells #[.int .i64 0, .int .i64 0, .int .i64 0, .slice none 0 0, .slice none 0 0] 51)) w.heap.size := ⟨heap_alloc_new w _, h⟩
theorem NB.at_lt {b v : Nat} {w : World} (h : NB b w v) : v < w.heap.size := (Array.getElem?_eq_some_iff.1 h.cells).1
theorem NB.below {b v : Nat} {w w' : World} (h : NB b w v) (hb : Below w.heap.size w w') : NB b w' v := ⟨(hb.block v h.at_lt).trans h.cells, h.lt⟩
theorem NB.tick {b v : Nat} {w : World} (h : NB b w v) (n : Nat) : NB b (w.drewN n) v := ⟨h.cells, h.lt⟩
theorem NB.drew {b v g : Nat} {w w' : World} (h : NB b w v) (hd : Drew g w w') (hg : g < b) : NB b w' v := ⟨(hd.block v h.at_lt (by have := h.lt; omega)).trans h.cells, h.lt⟩
theorem own5 {w : World} {b base k n : Nat} {e : TypeId} {v v0 v1 v2 v3 v4 : Value} {xs : List Value} (h : w.ownsRow base e k v n xs) (hb : v.ownBlock ≠ some b) : (((((w.setCell ⟨b, 0, none⟩ v0).setCell ⟨b, 1, none⟩ v1).setCell ⟨b, 2, none⟩ v2).setCell ⟨b, 3, none⟩ v3).setCell ⟨b, 4, none⟩ v4).ownsRow base e k v n xs :=
  own_set (own_set (own_set (own_set (own_set h hb) hb) hb) hb) hb
/-- The new box takes its values. -/
theorem fin5 {X wr wz : World} {b bb v g K : Nat} {r3 r4 v0 v1 v2 v3 v4 : Value} {m3 m4 : Nat} {x3 x4 : List Value} {o : Obj} (hN : NB bb X v) (hb : X.heap[b]? = some o) (hbb : b ≤ bb) (h3 : X.ownsRow (bb + 1) 3 1 r3 m3 x3) (h4 : X.ownsRow (bb + 1) 3 1 r4 m4 x4) (n3 : r3.ownBlock ≠ some v) (n4 : r4.ownBlock ≠ some v) (hc : Cur X g K) (hg : g < b) (hd : Drew g wr X) (hwr : wr.heap.size ≤ bb + 1)
    (hw : (((((X.setCell ⟨v, 0, none⟩ v0).setCell ⟨v, 1, none⟩ v1).setCell ⟨v, 2, none⟩ v2).setCell ⟨v, 3, none⟩ v3).setCell ⟨v, 4, none⟩ v4) = wz) :
    wz.heap[v]? = some (.cells #[v0, v1, v2, v3, v4] 51 (0, 0)) ∧ wz.heap[b]? = some o ∧ wz.ownsRow (bb + 1) 3 1 r3 m3 x3 ∧ wz.ownsRow (bb + 1) 3 1 r4 m4 x4 ∧ bb < v ∧ v < wz.heap.size ∧ Cur wz g K ∧ Drew g wr wz := by
  subst hw
  have hv := hN.lt
  have hB : Below v X (((((X.setCell ⟨v, 0, none⟩ v0).setCell ⟨v, 1, none⟩ v1).setCell ⟨v, 2, none⟩ v2).setCell ⟨v, 3, none⟩ v3).setCell ⟨v, 4, none⟩ v4) := below5 (Below.refl _ _) (Nat.le_refl _)
  exact ⟨putL5 hN.cells, (hB.block b (by omega)).trans hb, own5 h3 n3, own5 h4 n4, hv, Nat.lt_of_lt_of_le hN.at_lt (below5 (Below.refl 0 X) (Nat.zero_le _)).size, hc.below' hB (by omega), Drew.then_below hd (below5 (Below.refl _ _) (by omega))⟩
theorem own_ne_new {w : World} {base k n : Nat} {e : TypeId} {v : Value} {xs : List Value} (h : w.ownsRow base e k v n xs) : v.ownBlock ≠ some w.heap.size := fun e' => by have := (h.lt _ e').2; omega
theorem LogR.one {w : World} {lo n : Nat} {A : Option Addr} {L : List EntryT} {hs : List Value} (h : LogR w lo A n L hs) : ∀ u ∈ hs, u.oneCell' = true := by
  intro u hu
  obtain ⟨i, hi, rfl⟩ := List.getElem_of_mem hu
  have hl : (rowsE L).length = hs.length := by rw [length_rowsE, h.len, h.row.1]
  have hlt : i < (rowsE L).length := by omega
  have hi5 : i / 5 < L.length := by rw [length_rowsE] at hlt; omega
  have hc := (h.cell i hs[i] (rowsE L)[i] (List.getElem?_eq_getElem hi) (List.getElem?_eq_getElem hlt)).now
  have hx : (rowsE L)[i]? = (celEntry L[i / 5])[i % 5]? := by
    have h1 := rowsE_get hi5 (show i % 5 < 5 by omega)
    rw [← h1, show i / 5 * 5 + i % 5 = i by omega]
  rw [List.getElem?_eq_getElem hlt] at hx
  generalize (rowsE L)[i] = x at hc hx
  generalize i % 5 = r at hx
  match r with
  | 0 => simp [celEntry] at hx; subst hx; exact congrArg Value.oneCell' (show hs[i] = _ from hc)
  | 1 => simp [celEntry] at hx; subst hx; exact congrArg Value.oneCell' (show hs[i] = _ from hc)
  | 2 => simp [celEntry] at hx; subst hx; exact congrArg Value.oneCell' (show hs[i] = _ from hc)
  | 3 => simp [celEntry] at hx; subst hx; obtain ⟨A1, c1, e, _⟩ := hc; rw [e]; rfl
  | 4 => simp [celEntry] at hx; subst hx; obtain ⟨A1, c1, e, _⟩ := hc; rw [e]; rfl
  | r + 5 => simp [celEntry] at hx
/-- A longer copy of a log that is read. -/
theorem LogR.snoc {w : World} {lo base n n' c' : Nat} {A A' : Option Addr} {L : List EntryT} {hs us : List Value} {x : EntryT} (h : LogR w lo A n L hs) (hr : w.ownsRow base 51 5 (.slice A' n' c') n' (hs ++ us)) (hn : n' = n + 1) (hb : lo ≤ base) (hx : stE w lo none us x) : LogR w lo A' n' (L ++ [x]) (hs ++ us) := by
  have e1 : rowsE (L ++ [x]) = rowsE L ++ celEntry x := by simp [rowsE]
  have hl : (rowsE L).length = hs.length := by rw [length_rowsE, h.len, h.row.1]
  refine ⟨.of_own hr, fun h0 ad e => ?_, by simp [h.len, hn], fun j u y hu hy => ?_⟩
  · rcases hr.2 with ⟨_, h1⟩ | ⟨g, cap, cur, hv, hb', _⟩
    · omega
    · injection hv with e1 _ _
      rw [e] at e1
      injection e1 with e1
      subst e1
      exact Nat.le_trans hb hb'
  · rw [e1] at hy
    rcases append_cases hu with ⟨hj, hu⟩ | ⟨hj, hu⟩ <;> rcases append_cases hy with ⟨hj', hy⟩ | ⟨hj', hy⟩
    · exact h.cell j u y hu hy
    · omega
    · omega
    · rw [hl] at hy
      exact hx.2 _ u y hu hy
theorem reads_grownF {w w' : World} {k n : Nat} {A : Option Addr} {xs : List Value} {row : Option Nat} (h : Reads w k A n xs) (hg : w.grownBy w' row) (hne : ∀ ad, A = some ad → row ≠ some ad.block) : Reads w' k A n xs :=
  ⟨h.1, fun hn => by
    obtain ⟨ad, e, hc⟩ := h.2 hn
    exact ⟨ad, e, fun j u hu => grown_cell hg (by rw [block_of_add]; exact hne ad e) (hc j u hu)⟩⟩
/-- A slice in a cell, read from now on. -/
theorem LogR.at_ {w : World} {lo n i : Nat} {A : Option Addr} {L : List EntryT} {hs : List Value} (h : LogR w lo A n L hs) (hi : i < L.length) :
    ∃ ad A3 c3 A4 c4, A = some ad ∧ (w.cell? (ad.add (i * 5)) = some (.int .i64 L[i].1) ∧ w.cell? ⟨(ad.add (i * 5)).block, (ad.add (i * 5)).off + 1, none⟩ = some (.int .i64 L[i].2.1) ∧ w.cell? ⟨(ad.add (i * 5)).block, (ad.add (i * 5)).off + 2, none⟩ = some (.int .i64 L[i].2.2.1) ∧ w.cell? ⟨(ad.add (i * 5)).block, (ad.add (i * 5)).off + 3, none⟩ = some (.slice A3 L[i].2.2.2.1.length c3) ∧ w.cell? ⟨(ad.add (i * 5)).block, (ad.add (i * 5)).off + 4, none⟩ = some (.slice A4 L[i].2.2.2.2.length c4)) ∧
      (∀ w', Keeps lo w w' → Reads w' 1 A3 L[i].2.2.2.1.length (ints L[i].2.2.2.1)) ∧ ∀ w', Keeps lo w w' → Reads w' 1 A4 L[i].2.2.2.2.length (ints L[i].2.2.2.2) := by
  obtain ⟨ad, A3, c3, A4, c4, rfl, k0, k1, k2, k3, k4, r3, r4⟩ := rowsE_at h.reads hi
  have hln := h.len
  have hl5 : hs.length = n * 5 := h.row.1
  obtain ⟨ad', e, hc⟩ := h.row.2 (by omega)
  injection e with e
  subst e
  have key : ∀ j (hj : 0 < j) (hj5 : j < 5) (B : Option Addr) (l : List Int) (c : Nat), w.cell? ⟨(ad.add (i * 5)).block, (ad.add (i * 5)).off + j, none⟩ = some (.slice B l.length c) → (rowsE L)[i * 5 + j]? = some (.inr (ints l)) → ∀ w', Keeps lo w w' → Reads w' 1 B l.length (ints l) := by
    intro j hj hj5 B l c hk hr w' hw
    have hlt : i * 5 + j < hs.length := by omega
    have h1 := hc (i * 5 + j) hs[i * 5 + j] (List.getElem?_eq_getElem hlt)
    rw [add_pos_ hj, hk] at h1
    injection h1 with h1
    have h2 := h.cell (i * 5 + j) _ _ (List.getElem?_eq_getElem hlt) hr w' (fun q h3 h4 _ => hw.block q h3 h4)
    rw [← h1] at h2
    obtain ⟨A1, c1, e, _, _, hr'⟩ := h2
    injection e with e1 e2 e3
    subst e1
    simpa using hr'
  exact ⟨ad, A3, c3, A4, c4, rfl, ⟨k0, k1, k2, k3, k4⟩, key 3 (by omega) (by omega) A3 _ c3 k3 (by rw [rowsE_get hi (by omega)]; rfl), key 4 (by omega) (by omega) A4 _ c4 k4 (by rw [rowsE_get hi (by omega)]; rfl)⟩

set_option maxHeartbeats 8000000 in
set_option maxRecDepth 100000 in
theorem between_any (g k : Nat) (w : World) (hk : k ≤ 400000) (h : Cur w g k) :
    Calls Try.prog 79 #[.pointer (some ⟨g, 0, none⟩)] w fun e w' => ∃ A n c L hs A1 n1 c1 L1 hs1 A2 n2 c2 L2 hs2, ∃ ar le : Int, e = .returned (.tuple #[.slice A n c, .slice A1 n1 c1, .slice A2 n2 c2, .int .i64 ar, .int .i64 le]) ∧ (n ≤ c ∧ n ≤ 31) ∧ (n1 ≤ c1 ∧ n1 ≤ 31) ∧ (n2 ≤ c2 ∧ n2 ≤ 31) ∧ (-1 ≤ ar ∧ ar ≤ 61) ∧ (-1 ≤ le ∧ le ≤ 61) ∧ LogR w' w.heap.size A n L hs ∧ LogR w' w.heap.size A1 n1 L1 hs1 ∧ LogR w' w.heap.size A2 n2 L2 hs2 ∧ (∀ x ∈ L, shE x) ∧ (∀ x ∈ L1, shE x) ∧ (∀ x ∈ L2, shE x) ∧ Cur w' g (k + 20000) ∧ Drew g w w' := by
  have HGW : Hid (g < w.heap.size) := Lib.hid h.lt
  have HC := Lib.hid h
  clear h
  generalize hlo : w.heap.size = lo at *
  go_enter Try.func79, Try.ntmps79
  go_wp2_with fail
  refine (log_any g k w (by omega) HC.out).mono ?_
  rintro e w1 ⟨A, n, c, L, hs, rfl, hnc, hn31, hl, hok, hc, hd⟩
  rw [hlo] at hl
  have HL := Lib.hid hl.toR; have HNC := Lib.hid hnc; have HOK := Lib.hid hok
  have HD := Lib.hid hd
  replace HC := Lib.hid hc
  clear hl hnc hok hc hd
  go_wp2_with fail
  refine (pick_any g _ 6 _ (by omega) (by omega) HC.out).mono ?_
  rintro e w2 ⟨ar, rfl, har, har', hc, hd⟩
  replace HC := Lib.hid hc; replace HD := Lib.hid (HD.out.trans hd)
  replace HL := Lib.hid (HL.out.keep (Keeps.of_drew hd HGW.out))
  clear hc hd
  go_wp2_with fail
  refine (pick_any g _ 6 _ (by omega) (by omega) HC.out).mono ?_
  rintro e w3 ⟨le, rfl, hle, hle', hc, hd⟩
  replace HC := Lib.hid hc; replace HD := Lib.hid (HD.out.trans hd)
  replace HL := Lib.hid (HL.out.keep (Keeps.of_drew hd HGW.out))
  clear hc hd
  go_wp2_with fail
  refine (one_any g _ 16 _ (by omega) (by omega) HC.out).mono ?_
  rintro e w4 ⟨b1, rfl, hc, hd⟩
  replace HC := Lib.hid hc; replace HD := Lib.hid (HD.out.trans hd)
  replace HL := Lib.hid (HL.out.keep (Keeps.of_drew hd HGW.out))
  clear hc hd
  obtain ⟨a0, ha0⟩ : ∃ a0 : Int, a0 = (ar : Int) := ⟨_, rfl⟩
  obtain ⟨e0, he0⟩ : ∃ e0 : Int, e0 = (le : Int) := ⟨_, rfl⟩
  have ha1 : -1 ≤ a0 ∧ a0 ≤ 61 := by omega
  have he1 : -1 ≤ e0 ∧ e0 ≤ 61 := by omega
  rw [← ha0, ← he0]
  clear har har' hle hle' ha0 he0
  go_upto_if 25 with fail
  go_cut [8] from 26 to 28 (fun v wx => ∃ a : Int, v = .int .i64 a ∧ (-1 ≤ a ∧ a ≤ 61) ∧ LogR wx lo A n L hs ∧ Cur wx g (k + 12100) ∧ Drew g w wx)
  case first =>
    cases b1 with
    | false =>
      go_wp2_with fail
      go_meet
      case rel => exact ⟨_, rfl, by omega, HL.out, HC.out.mono (by omega), HD.out⟩
    | true =>
      go_wp2_with fail
      refine (amongLit_any g _ [60, 61, -1] 3 _ _ _ rfl rfl (by omega) (by simp) (by simp) HC.out).mono ?_
      rintro e w9 ⟨z, hz, rfl, hc, hd⟩
      replace HC := Lib.hid hc; replace HD := Lib.hid (HD.out.trans hd)
      replace HL := Lib.hid (HL.out.keep (Keeps.of_drew hd HGW.out))
      clear hc hd
      have hz2 : -1 ≤ z ∧ z ≤ 61 := by simp at hz; omega
      clear hz
      go_wp2_with fail
      go_meet
      case rel => exact ⟨_, rfl, hz2, HL.out, HC.out.mono (by omega), HD.out⟩
  case rest =>
  clear HL HC HD

  obtain ⟨av, rfl, hav, hl, hc, hd⟩ := hcut
  have HL := Lib.hid hl; have HC := Lib.hid hc; have HD := Lib.hid hd; have HAV := Lib.hid hav
  clear hl hc hd
  go_wp2_with fail
  refine (one_any g _ 16 _ (by omega) (by omega) HC.out).mono ?_
  rintro e w5 ⟨b1, rfl, hc, hd⟩
  replace HC := Lib.hid hc; replace HD := Lib.hid (HD.out.trans hd)
  replace HL := Lib.hid (HL.out.keep (Keeps.of_drew hd HGW.out))
  clear hc hd
  go_upto_if 30 with fail
  go_cut [9] from 31 to 33 (fun v wx => ∃ a : Int, v = .int .i64 a ∧ (-1 ≤ a ∧ a ≤ 61) ∧ LogR wx lo A n L hs ∧ Cur wx g (k + 12200) ∧ Drew g w wx)
  case first =>
    cases b1 with
    | false =>
      go_wp2_with fail
      go_meet
      case rel => exact ⟨_, rfl, by omega, HL.out, HC.out.mono (by omega), HD.out⟩
    | true =>
      go_wp2_with fail
      refine (amongLit_any g _ [60, 61, -1] 3 _ _ _ rfl rfl (by omega) (by simp) (by simp) HC.out).mono ?_
      rintro e w9 ⟨z, hz, rfl, hc, hd⟩
      replace HC := Lib.hid hc; replace HD := Lib.hid (HD.out.trans hd)
      replace HL := Lib.hid (HL.out.keep (Keeps.of_drew hd HGW.out))
      clear hc hd
      have hz2 : -1 ≤ z ∧ z ≤ 61 := by simp at hz; omega
      clear hz
      go_wp2_with fail
      go_meet
      case rel => exact ⟨_, rfl, hz2, HL.out, HC.out.mono (by omega), HD.out⟩
  case rest =>
  clear HL HC HD

  obtain ⟨ev, rfl, hev, hl, hc, hd⟩ := hcut
  have HL := Lib.hid hl; have HC := Lib.hid hc; have HD := Lib.hid hd; have HEV := Lib.hid hev
  clear hl hc hd
  go_wp2
  go_loopw [10, 11, 36] (fun bv hv i wr => ∃ q A1 n1 c1 L1 hs1 A2 n2 c2 L2 hs2, q ≤ n ∧ i = .int .i64 (q : Nat) ∧ bv = .slice A1 n1 c1 ∧ hv = .slice A2 n2 c2 ∧ (n1 ≤ c1 ∧ n1 ≤ q) ∧ (n2 ≤ c2 ∧ n2 ≤ q) ∧ LogR wr lo A n L hs ∧ LogR wr lo A1 n1 L1 hs1 ∧ LogR wr lo A2 n2 L2 hs2 ∧ (∀ x ∈ L1, shE x) ∧ (∀ x ∈ L2, shE x) ∧ Cur wr g (k + 13000 + 20 * q) ∧ Drew g w wr) (fun _ _ i _ => n - (intOf i).toNat)
  case atStart => exact ⟨0, none, 0, 0, [], [], none, 0, 0, [], [], Nat.zero_le _, rfl, rfl, rfl, ⟨Nat.le_refl _, Nat.le_refl _⟩, ⟨Nat.le_refl _, Nat.le_refl _⟩, HL.out, LogR.nil _ _ 0, LogR.nil _ _ 0, fun x hx => by simp at hx, fun x hx => by simp at hx, HC.out.mono (by omega), HD.out⟩
  case round =>
    obtain ⟨q, A1, n1, c1, L1, hs1, A2, n2, c2, L2, hs2, hq, rfl, rfl, rfl, hn1, hn2, hl, hl1, hl2, hs1', hs2', hc, hd⟩ := hrel
    clear HL HC HD
    have HL := Lib.hid hl; have HL1 := Lib.hid hl1; have HL2 := Lib.hid hl2; have HS1 := Lib.hid hs1'; have HS2 := Lib.hid hs2'; have HC := Lib.hid hc; have HD := Lib.hid hd
    clear hl hl1 hl2 hs1' hs2' hc hd
    have HLO : Hid (lo ≤ wr.heap.size) := Lib.hid (by have := HD.out.size; omega)
    by_cases hlt : q < n
    · have hx : q < L.length := by rw [HL.out.len]; exact hlt
      have hqn : (q : Int) < (n : Int) := by omega
      have hxi : (0 : Int) ≤ (q : Int) := by omega
      obtain ⟨ad, A3, c3, A4, c4, rfl, ⟨k0, k1, k2, k3, k4⟩, r3, r4⟩ := HL.out.at_ hx
      have HXE := Lib.hid (HOK.out L[q] (List.getElem_mem hx))
      generalize L[q] = x at *
      obtain ⟨t, m, p, l3, l4⟩ := x
      simp only at k0 k1 k2 k3 k4 r3 r4
      have HR3 := Lib.hid r3; have HR4 := Lib.hid r4
      clear r3 r4
      obtain ⟨ht, hl3, hl4⟩ := HXE.out
      simp only at ht hl3 hl4
      by_cases h3 : l3.length = 0
      · have hb3 : ((l3.length : Int) == 0) = true := by rw [beq_iff_eq]; omega
        go_wp2
        go_roundw
        case rel => exact ⟨q + 1, A1, n1, c1, L1, hs1, A2, n2, c2, L2, hs2, by omega, by go_num, rfl, rfl, ⟨hn1.1, by omega⟩, ⟨hn2.1, by omega⟩, HL.out.keep (Keeps.alloc _ _ _), HL1.out.keep (Keeps.alloc _ _ _), HL2.out.keep (Keeps.alloc _ _ _), HS1.out, HS2.out, (HC.out.below ((Below.refl _ _).alloc (Nat.le_refl _) _)).mono (by omega), HD.out.trans (Drew.of_below ((Below.refl _ _).alloc (Nat.le_refl _) _))⟩
        case measure => first | (simp [intOf]; done) | (simp [intOf]; omega)
      · have hb3 : ((l3.length : Int) == 0) = false := by rw [beq_eq_false_iff_ne]; omega
        by_cases h4 : l4.length = 0
        · have hb4 : ((l4.length : Int) == 0) = true := by rw [beq_iff_eq]; omega
          go_wp2
          go_roundw
          case rel => exact ⟨q + 1, A1, n1, c1, L1, hs1, A2, n2, c2, L2, hs2, by omega, by go_num, rfl, rfl, ⟨hn1.1, by omega⟩, ⟨hn2.1, by omega⟩, HL.out.keep (Keeps.alloc _ _ _), HL1.out.keep (Keeps.alloc _ _ _), HL2.out.keep (Keeps.alloc _ _ _), HS1.out, HS2.out, (HC.out.below ((Below.refl _ _).alloc (Nat.le_refl _) _)).mono (by omega), HD.out.trans (Drew.of_below ((Below.refl _ _).alloc (Nat.le_refl _) _))⟩
          case measure => first | (simp [intOf]; done) | (simp [intOf]; omega)
        · have hb4 : ((l4.length : Int) == 0) = false := by rw [beq_eq_false_iff_ne]; omega
          go_upto_region 12 with fail
          obtain ⟨wa, hwa⟩ : ∃ wa, wa = wr.alloc (.cells #[.int .i64 t, .int .i64 m, .int .i64 p, .slice A3 l3.length c3, .slice A4 l4.length c4] 51) := ⟨_, rfl⟩
          rw [← hwa]
          obtain ⟨b, hb⟩ : ∃ b, b = wr.heap.size := ⟨_, rfl⟩
          have HBX : Hid (wa.heap[b]? = some (.cells #[.int .i64 t, .int .i64 m, .int .i64 p, .slice A3 l3.length c3, .slice A4 l4.length c4] 51 (0, 0))) := Lib.hid (by rw [hwa, hb]; exact heap_alloc_new wr _)
          obtain ⟨bb, hbb⟩ : ∃ bb, bb = b := ⟨_, rfl⟩
          have HZA : Hid (wa.heap.size = bb + 1) := Lib.hid (by rw [hbb, hwa, hb]; exact World.size_alloc _ _)
          have HBA : Hid (Below wr.heap.size wr wa) := Lib.hid (by rw [hwa]; exact (Below.refl _ _).alloc (Nat.le_refl _) _)
          have HGB : Hid (g < b ∧ b ≤ bb ∧ lo ≤ b) := Lib.hid (by have := HGW.out; have := HLO.out; omega)
          have HCA := Lib.hid (HC.out.below HBA.out); have HDA : Hid (Drew g wr wa) := Lib.hid (Drew.of_below HBA.out)
          have HBE : Hid (wr.heap.size ≤ bb + 1) := Lib.hid (by omega)
          rw [← hb]
          have hbb2 : g < b ∧ b ≤ bb ∧ lo ≤ b ∧ bb + 1 = wa.heap.size := by have := HGW.out; have := HLO.out; have := HZA.out; omega
          clear hwa hb hbb k0 k1 k2 k3 k4
          go_cut [14] from 50 to 68 (fun v wx => ∃ b14, ∃ t' : Int, ∃ B3 d3 B4 d4, v = .pointer (some ⟨b14, 0, none⟩) ∧ wx.heap[b14]? = some (.cells #[.int .i64 t', .int .i64 m, .int .i64 p, .slice B3 l3.length d3, .slice B4 l3.length d4] 51 (0, 0)) ∧ wx.heap[b]? = some (.cells #[.int .i64 t, .int .i64 m, .int .i64 p, .slice A3 l3.length c3, .slice A4 l4.length c4] 51 (0, 0)) ∧ wx.ownsRow (bb + 1) 3 1 (.slice B3 l3.length d3) l3.length (ints l3) ∧ wx.ownsRow (bb + 1) 3 1 (.slice B4 l3.length d4) l3.length (ints l3) ∧ bb < b14 ∧ b14 < wx.heap.size ∧ Cur wx g (k + 13000 + 20 * q + 2) ∧ Drew g wr wx)
          case first =>
            obtain ⟨t1, ht1⟩ : ∃ t1, t1 = t - av := ⟨_, rfl⟩
            have e1 : t - av = t1 := ht1.symm
            have g1 : -200000 ≤ t1 ∧ t1 ≤ 200000 := by have := HAV.out; omega
            have v1 : IntKind.i64.wrap (t - av) = t1 := by rw [e1]; exact IntWalk.i64_in _ ⟨by omega, by omega⟩
            clear ht1
            obtain ⟨k0, k1, k2, k3, k4⟩ := box5_S HBX.out
            go_wp2
            have KD := fun o => box5_S (show (wa.alloc o).drew.heap[b]? = some _ from box_alloc HBX.out)
            go_region_held3 (fun W => W.cell? ⟨b, 0, none⟩ = some (.int .i64 t) ∧ W.cell? ⟨b, 1, none⟩ = some (.int .i64 m) ∧ W.cell? ⟨b, 2, none⟩ = some (.int .i64 p) ∧ W.cell? ⟨b, 3, none⟩ = some (.slice A3 l3.length c3) ∧ W.cell? ⟨b, 4, none⟩ = some (.slice A4 l4.length c4)) (first | (refine ⟨?_, ?_, ?_, ?_, ?_⟩ <;> assumption) | with_reducible exact KD _ | with_reducible exact box5_S HBX5.out | with_reducible exact box5_S HBX6.out | with_reducible exact box5_S HBX7.out | with_reducible exact box5_S HBX8.out | with_reducible exact box5_S HBX9.out | with_reducible exact box5_S (box_alloc HBX5.out) | with_reducible exact box5_S (box_alloc HBX6.out) | with_reducible exact box5_S (box_alloc HBX7.out) | fail) (first | (go_at_call 106; refine (pick_any g (k + 13000 + 20 * q) 3 _ (by omega) (by omega) (by first | exact HCA.out.drewN 1 | exact (HCA.out.below ((Below.refl _ _).alloc (Nat.le_refl _) _)).drewN 1)).mono ?_; rintro e w5 ⟨x5, rfl, hx5, hx5', hc, hd⟩; have HC5 := Lib.hid hc; have HD5 : Hid (Drew g wr w5) := Lib.hid (by first | exact (HDA.out.drewN 1).trans hd | exact ((HDA.out.trans (Drew.of_below ((Below.refl _ _).alloc (Nat.le_refl _) _))).drewN 1).trans hd | exact (((HDA.out.trans (Drew.of_below ((Below.refl _ _).alloc (Nat.le_refl _) _))).trans (Drew.of_below ((Below.refl _ _).alloc (Nat.le_refl _) _))).drewN 1).trans hd); have HBX5 : Hid (w5.heap[b]? = some (.cells #[.int .i64 t, .int .i64 m, .int .i64 p, .slice A3 l3.length c3, .slice A4 l4.length c4] 51 (0, 0))) := Lib.hid (by first | exact (hd.block b (by have := HZA.out; have := HGB.out; show b < wa.heap.size; omega) (by have := HGB.out; omega)).trans HBX.out | exact (hd.block b (by have := HZA.out; have := HGB.out; show b < (wa.alloc _).heap.size; simp; omega) (by have := HGB.out; omega)).trans (box_alloc HBX.out) | exact (hd.block b (by have := HZA.out; have := HGB.out; show b < ((wa.alloc _).alloc _).heap.size; simp; omega) (by have := HGB.out; omega)).trans (box_alloc (box_alloc HBX.out))); have HZ5 : Hid (bb + 1 ≤ w5.heap.size) := Lib.hid (by have := HZA.out; have h9 := hd.size; first | (have h8 : wa.heap.size ≤ w5.heap.size := h9; omega) | (have h8 : (wa.alloc _).heap.size ≤ w5.heap.size := h9; simp at h8; omega) | (have h8 : ((wa.alloc _).alloc _).heap.size ≤ w5.heap.size := h9; simp at h8; omega)); (try (have h2 := ((NB.new (b := bb) wa (by have := HZA.out; omega)).tick 1).drew hd (by have := HGB.out; omega); obtain ⟨v, hv⟩ : ∃ v, wa.heap.size = v := ⟨_, rfl⟩; rw [hv] at h2; have HV := Lib.hid h2)); obtain ⟨t2, ht2⟩ : ∃ t2, t2 = t1 - (x5 : Int) := ⟨_, rfl⟩; have e2 : t1 - (x5 : Int) = t2 := ht2.symm; have v2 : IntKind.i64.wrap (t1 - (x5 : Int)) = t2 := (by rw [e2]; exact IntWalk.i64_in _ ⟨by omega, by omega⟩); clear ht2 hc hd hx5 hx5') | (go_at_call 108; refine (l1Most_ex 0 _ _).mono ?_; rintro e w' ⟨t3, rfl, rfl⟩) | (go_at_call 109; have hq := HO3; refine (l1Own_any A3 l3.length c3 l3 _ (by omega) (by first | exact HR3.out _ (Keeps.of_drew HD6.out HGW.out) | exact HR3.out _ ((Keeps.of_drew HD6.out HGW.out).trans (Keeps.alloc _ _ _)))).mono ?_; rintro e w7 ⟨B4, d4, rfl, ho7, hb7⟩; have HB7 : Hid (Below w6.heap.size w6 w7) := Lib.hid (by first | exact hb7 | exact ((Below.refl _ _).alloc (Nat.le_refl _) _).trans (hb7.mono (by simp))); have HO4 : Hid (w7.ownsRow (bb + 1) 3 1 (.slice B4 l3.length d4) l3.length (ints l3)) := Lib.hid (own_mono ho7 (by have h0 := HZ6.out; first | exact h0 | (simp; omega))); have HCX := Lib.hid (HC6.out.below HB7.out); have HDX := Lib.hid (HD6.out.trans (Drew.of_below HB7.out)); have HBX7 := Lib.hid ((HB7.out.block b (by have := HZ6.out; have := HGB.out; omega)).trans HBX6.out); have HO3 := Lib.hid (own_below HO3.out HB7.out); (try (have HN4 := Lib.hid (own_nb ho7 HV.out.at_lt); have HV := Lib.hid (HV.out.below HB7.out))); (try (have h2 := (NB.new (b := bb) w6 (by have := HZ6.out; omega)).below hb7; have HN4 := Lib.hid (own_nb ho7 (show w6.heap.size < _ from by simp)); have HN3 := Lib.hid (own_ne_new (w := w6) HO36.out); obtain ⟨v, hv⟩ : ∃ v, w6.heap.size = v := ⟨_, rfl⟩; rw [hv] at h2 HN3 HN4; have HV := Lib.hid h2)); first | (have hq := HV; have HBX8 := HBX7; obtain ⟨n0, n1, n2, n3, n4⟩ := box5_S HV.out.cells; obtain ⟨f0, f1, f2, f3, f4⟩ := box5_F HV.out.cells; obtain ⟨wz, hwz⟩ : ∃ wz, (((((w7.setCell ⟨v, 0, none⟩ (.int .i64 t3)).setCell ⟨v, 1, none⟩ (.int .i64 m)).setCell ⟨v, 2, none⟩ (.int .i64 p)).setCell ⟨v, 3, none⟩ (.slice B3 l3.length d3)).setCell ⟨v, 4, none⟩ (.slice B4 l3.length d4)) = wz := ⟨_, rfl⟩; have HF := Lib.hid (fin5 HV.out HBX8.out HGB.out.2.1 HO3.out HO4.out HN3.out HN4.out HCX.out HGB.out.1 HDX.out HBE.out hwz); have HBX9 := Lib.hid HF.out.2.1) | (obtain ⟨v, hv⟩ : ∃ v, w7.heap.size = v := ⟨_, rfl⟩; have HN3 := Lib.hid (own_ne_new HO3.out); have HN4 := Lib.hid (own_ne_new HO4.out); rw [hv] at HN3 HN4; obtain ⟨w8, hw8⟩ : ∃ w8, w7.alloc (.cells #[.int .i64 0, .int .i64 0, .int .i64 0, .slice none 0 0, .slice none 0 0] 51) = w8 := ⟨_, rfl⟩; have HB8 : Hid (Below w7.heap.size w7 w8) := Lib.hid (by rw [← hw8]; exact ((Below.refl _ _).alloc (Nat.le_refl _) _)); have HV : Hid (NB bb w8 v) := Lib.hid (by rw [← hw8, ← hv]; exact NB.new w7 (by have := HZ6.out; have := HB7.out.size; omega)); have HBX8 := Lib.hid ((HB8.out.block b (by have := HZ6.out; have := HGB.out; have := HB7.out.size; omega)).trans HBX7.out); have HO3 := Lib.hid (own_below HO3.out HB8.out); have HO4 := Lib.hid (own_below HO4.out HB8.out); have HCX := Lib.hid (HCX.out.below HB8.out); have HDX := Lib.hid (HDX.out.trans (Drew.of_below HB8.out)); obtain ⟨n0, n1, n2, n3, n4⟩ := box5_S HV.out.cells; obtain ⟨f0, f1, f2, f3, f4⟩ := box5_F HV.out.cells; obtain ⟨wz, hwz⟩ : ∃ wz, (((((w8.setCell ⟨v, 0, none⟩ (.int .i64 t3)).setCell ⟨v, 1, none⟩ (.int .i64 m)).setCell ⟨v, 2, none⟩ (.int .i64 p)).setCell ⟨v, 3, none⟩ (.slice B3 l3.length d3)).setCell ⟨v, 4, none⟩ (.slice B4 l3.length d4)) = wz := ⟨_, rfl⟩; have HF := Lib.hid (fin5 HV.out HBX8.out HGB.out.2.1 HO3.out HO4.out HN3.out HN4.out HCX.out HGB.out.1 HDX.out HBE.out hwz); have HBX9 := Lib.hid HF.out.2.1)) | (go_at_call 109; (fail_if_success (have hq := HO3)); refine (l1Own_any A3 l3.length c3 l3 _ (by omega) (by first | exact HR3.out _ (Keeps.of_drew HD5.out HGW.out) | exact HR3.out _ ((Keeps.of_drew HD5.out HGW.out).trans (Keeps.alloc _ _ _)))).mono ?_; rintro e w6 ⟨B3, d3, rfl, ho6, hb6⟩; have HB6 : Hid (Below w5.heap.size w5 w6) := Lib.hid (by first | exact hb6 | exact ((Below.refl _ _).alloc (Nat.le_refl _) _).trans (hb6.mono (by simp))); have HO3 : Hid (w6.ownsRow (bb + 1) 3 1 (.slice B3 l3.length d3) l3.length (ints l3)) := Lib.hid (own_mono ho6 (by have h0 := HZ5.out; first | exact h0 | (simp; omega))); have HO36 := HO3; have HC6 := Lib.hid (HC5.out.below HB6.out); have HD6 := Lib.hid (HD5.out.trans (Drew.of_below HB6.out)); have HBX6 := Lib.hid ((HB6.out.block b (by have := HZ5.out; have := HGB.out; omega)).trans HBX5.out); have HZ6 : Hid (bb + 1 ≤ w6.heap.size) := Lib.hid (by have := HZ5.out; have := HB6.out.size; omega); (try (have HN3 := Lib.hid (own_nb ho6 HV.out.at_lt); have HV := Lib.hid (HV.out.below HB6.out))); (try (have h2 := (NB.new (b := bb) w5 (by have := HZ5.out; omega)).below hb6; have HN3 := Lib.hid (own_nb ho6 (show w5.heap.size < _ from by simp)); obtain ⟨v, hv⟩ : ∃ v, w5.heap.size = v := ⟨_, rfl⟩; rw [hv] at h2 HN3; have HV := Lib.hid h2))) | fail)
            all_goals
              clear v1 e1
              go_wp2_with fail
              go_meet
              case rel => exact ⟨v, t3, B3, d3, B4, d4, rfl, HF.out.1, HF.out.2.1, HF.out.2.2.1, HF.out.2.2.2.1, HF.out.2.2.2.2.1, HF.out.2.2.2.2.2.1, HF.out.2.2.2.2.2.2.1, HF.out.2.2.2.2.2.2.2⟩
          case rest =>
          clear HBX HZA HBA HGB HBE HCA HDA HC
          obtain ⟨b14, t14, B3, d3, B4, d4, rfl, hN, hX, ho3, ho4, hlt1, hlt2, hc, hd⟩ := hcut
          obtain ⟨wa, rfl⟩ : ∃ wa, wa = wc := ⟨_, rfl⟩
          have HN14 := Lib.hid hN; have HBX := Lib.hid hX; have HO14 := Lib.hid (own_mono ho3 (show lo ≤ bb + 1 by omega)); have HP14 := Lib.hid (own_mono ho4 (show lo ≤ bb + 1 by omega)); have HCA := Lib.hid hc; have HDW := Lib.hid hd
          have HL14 : Hid (bb < b14 ∧ b14 < wa.heap.size ∧ lo ≤ b14) := Lib.hid (by omega)
          have HR4W : Hid (∀ w', Keeps lo wa w' → Reads w' 1 A4 l4.length (ints l4)) := Lib.hid (fun w' hk => HR4.out w' ((Keeps.of_drew HDW.out HGW.out).trans hk))
          have HBB := Lib.hid hbb2
          clear hN hX ho3 ho4 hlt1 hlt2 hc hd hbb2
          obtain ⟨bb, hbb⟩ : ∃ bb', bb' + 1 = wa.heap.size := ⟨wa.heap.size - 1, by have := HL14.out; omega⟩
          have HZA : Hid (wa.heap.size = bb + 1) := Lib.hid hbb.symm
          have HGB : Hid (g < b ∧ b ≤ bb ∧ lo ≤ b) := Lib.hid (by have := HBB.out; have := HL14.out; omega)
          have HBE : Hid (wa.heap.size ≤ bb + 1) := Lib.hid (by omega)
          have HDA : Hid (Drew g wa wa) := Lib.hid Turned.refl
          clear hbb
          go_upto_region 13 with fail
          go_cut [15] from 69 to 87 (fun v wx => ∃ b15, ∃ t' : Int, ∃ E3 e3 E4 e4, v = .pointer (some ⟨b15, 0, none⟩) ∧ wx.heap[b15]? = some (.cells #[.int .i64 t', .int .i64 m, .int .i64 p, .slice E3 l4.length e3, .slice E4 l4.length e4] 51 (0, 0)) ∧ wx.ownsRow (bb + 1) 3 1 (.slice E3 l4.length e3) l4.length (ints l4) ∧ wx.ownsRow (bb + 1) 3 1 (.slice E4 l4.length e4) l4.length (ints l4) ∧ bb < b15 ∧ b15 < wx.heap.size ∧ Cur wx g (k + 13000 + 20 * q + 4) ∧ Drew g wa wx)
          case first =>
            obtain ⟨t1, ht1⟩ : ∃ t1, t1 = t + ev := ⟨_, rfl⟩
            have e1 : t + ev = t1 := ht1.symm
            have g1 : -200000 ≤ t1 ∧ t1 ≤ 200000 := by have := HEV.out; omega
            have v1 : IntKind.i64.wrap t1 = t1 := IntWalk.i64_in _ ⟨by omega, by omega⟩
            clear ht1
            obtain ⟨k0, k1, k2, k3, k4⟩ := box5_S HBX.out
            have HRL1 : Hid (Reads (wa.alloc (.cells (ints [0, 0, 2, 20]).toArray 3)) 1 (some ⟨wa.heap.size, 0, none⟩) 4 (ints [0, 0, 2, 20])) := Lib.hid (by simpa using reads_lit wa (ints [0, 0, 2, 20]) 3)
            have HRL2 : Hid (∀ o, Reads ((wa.alloc o).alloc (.cells (ints [0, 0, 2, 20]).toArray 3)) 1 (some ⟨wa.heap.size + 1, 0, none⟩) 4 (ints [0, 0, 2, 20])) := Lib.hid (fun o => by have h := reads_lit (wa.alloc o) (ints [0, 0, 2, 20]) 3; rw [World.size_alloc] at h; simpa using h)
            have HRL3 : Hid (∀ o, Reads ((wa.alloc (.cells (ints [0, 0, 2, 20]).toArray 3)).alloc o) 1 (some ⟨wa.heap.size, 0, none⟩) 4 (ints [0, 0, 2, 20])) := Lib.hid (fun o => HRL1.out.alloc o)
            go_wp2
            have KD := fun o => box5_S (show (wa.alloc o).drew.heap[b]? = some _ from box_alloc HBX.out)
            have KD2 := fun o o' => box5_S (show ((wa.alloc o).alloc o').drew.heap[b]? = some _ from box_alloc (box_alloc HBX.out))
            go_region_held3 (fun W => W.cell? ⟨b, 0, none⟩ = some (.int .i64 t) ∧ W.cell? ⟨b, 1, none⟩ = some (.int .i64 m) ∧ W.cell? ⟨b, 2, none⟩ = some (.int .i64 p) ∧ W.cell? ⟨b, 3, none⟩ = some (.slice A3 l3.length c3) ∧ W.cell? ⟨b, 4, none⟩ = some (.slice A4 l4.length c4)) (first | (refine ⟨?_, ?_, ?_, ?_, ?_⟩ <;> assumption) | with_reducible exact KD _ | with_reducible exact box5_S HBX5.out | with_reducible exact box5_S HBX6.out | with_reducible exact box5_S HBX7.out | with_reducible exact box5_S HBX8.out | with_reducible exact box5_S HBX9.out | with_reducible exact box5_S (box_alloc HBX5.out) | with_reducible exact box5_S (box_alloc HBX6.out) | with_reducible exact box5_S (box_alloc HBX7.out) | with_reducible exact KD2 _ _ | fail) (first | (go_at_call 107; refine (among_any g (k + 13000 + 20 * q + 2) _ 4 _ [0, 0, 2, 20] _ (by omega) (by omega) (by omega) (by first | exact (HCA.out.below ((Below.refl _ _).alloc (Nat.le_refl _) _)).drewN 1 | exact ((HCA.out.below ((Below.refl _ _).alloc (Nat.le_refl _) _)).below ((Below.refl _ _).alloc (Nat.le_refl _) _)).drewN 1) (by first | exact HRL1.out | exact HRL2.out _ | exact HRL3.out _) (by intro ad e; injection e with e; subst e; have := HGB.out; have := HZA.out; simp; omega)).mono ?_; rintro e w5 ⟨z5, hz5, rfl, hc, hd⟩; have HC5 := Lib.hid hc; have HD5 : Hid (Drew g wa w5) := Lib.hid (by first | exact (HDA.out.drewN 1).trans hd | exact ((HDA.out.trans (Drew.of_below ((Below.refl _ _).alloc (Nat.le_refl _) _))).drewN 1).trans hd | exact (((HDA.out.trans (Drew.of_below ((Below.refl _ _).alloc (Nat.le_refl _) _))).trans (Drew.of_below ((Below.refl _ _).alloc (Nat.le_refl _) _))).drewN 1).trans hd); have HBX5 : Hid (w5.heap[b]? = some (.cells #[.int .i64 t, .int .i64 m, .int .i64 p, .slice A3 l3.length c3, .slice A4 l4.length c4] 51 (0, 0))) := Lib.hid (by first | exact (hd.block b (by have := HZA.out; have := HGB.out; show b < wa.heap.size; omega) (by have := HGB.out; omega)).trans HBX.out | exact (hd.block b (by have := HZA.out; have := HGB.out; show b < (wa.alloc _).heap.size; simp; omega) (by have := HGB.out; omega)).trans (box_alloc HBX.out) | exact (hd.block b (by have := HZA.out; have := HGB.out; show b < ((wa.alloc _).alloc _).heap.size; simp; omega) (by have := HGB.out; omega)).trans (box_alloc (box_alloc HBX.out))); have HZ5 : Hid (bb + 1 ≤ w5.heap.size) := Lib.hid (by have := HZA.out; have h9 := hd.size; first | (have h8 : wa.heap.size ≤ w5.heap.size := h9; omega) | (have h8 : (wa.alloc _).heap.size ≤ w5.heap.size := h9; simp at h8; omega) | (have h8 : ((wa.alloc _).alloc _).heap.size ≤ w5.heap.size := h9; simp at h8; omega)); (try (have h2 := (((NB.new (b := bb) wa (by have := HZA.out; omega)).below ((Below.refl _ _).alloc (Nat.le_refl _) _)).tick 1).drew hd (by have := HGB.out; omega); obtain ⟨v, hv⟩ : ∃ v, wa.heap.size = v := ⟨_, rfl⟩; rw [hv] at h2; have HV := Lib.hid h2)); (try (have h2 := ((NB.new (b := bb) (wa.alloc (.cells (ints [0, 0, 2, 20]).toArray 3)) (by have := HZA.out; simp; omega)).tick 1).drew hd (by have := HGB.out; omega); obtain ⟨v, hv⟩ : ∃ v, wa.heap.size + 1 = v := ⟨_, rfl⟩; have hs : (wa.alloc (.cells (ints [0, 0, 2, 20]).toArray 3)).heap.size = wa.heap.size + 1 := World.size_alloc _ _; rw [hs, hv] at h2; clear hs; have HV := Lib.hid h2)); have hz6 : 0 ≤ z5 ∧ z5 ≤ 20 := (by simp at hz5; omega); obtain ⟨t2, ht2⟩ : ∃ t2, t2 = t1 + z5 := ⟨_, rfl⟩; have e2 : t1 + z5 = t2 := ht2.symm; have v2 : IntKind.i64.wrap t2 = t2 := (IntWalk.i64_in _ ⟨by omega, by omega⟩); clear ht2 hc hd hz5 hz6) | (go_at_call 109; have hq := HO3; refine (l1Own_any A4 l4.length c4 l4 _ (by omega) (by first | exact HR4W.out _ (Keeps.of_drew HD6.out HGW.out) | exact HR4W.out _ ((Keeps.of_drew HD6.out HGW.out).trans (Keeps.alloc _ _ _)))).mono ?_; rintro e w7 ⟨B4, d4, rfl, ho7, hb7⟩; have HB7 : Hid (Below w6.heap.size w6 w7) := Lib.hid (by first | exact hb7 | exact ((Below.refl _ _).alloc (Nat.le_refl _) _).trans (hb7.mono (by simp))); have HO4 : Hid (w7.ownsRow (bb + 1) 3 1 (.slice B4 l4.length d4) l4.length (ints l4)) := Lib.hid (own_mono ho7 (by have h0 := HZ6.out; first | exact h0 | (simp; omega))); have HCX := Lib.hid (HC6.out.below HB7.out); have HDX := Lib.hid (HD6.out.trans (Drew.of_below HB7.out)); have HBX7 := Lib.hid ((HB7.out.block b (by have := HZ6.out; have := HGB.out; omega)).trans HBX6.out); have HO3 := Lib.hid (own_below HO3.out HB7.out); (try (have HN4 := Lib.hid (own_nb ho7 HV.out.at_lt); have HV := Lib.hid (HV.out.below HB7.out))); (try (have h2 := (NB.new (b := bb) w6 (by have := HZ6.out; omega)).below hb7; have HN4 := Lib.hid (own_nb ho7 (show w6.heap.size < _ from by simp)); have HN3 := Lib.hid (own_ne_new (w := w6) HO36.out); obtain ⟨v, hv⟩ : ∃ v, w6.heap.size = v := ⟨_, rfl⟩; rw [hv] at h2 HN3 HN4; have HV := Lib.hid h2)); first | (have hq := HV; have HBX8 := HBX7; obtain ⟨n0, n1, n2, n3, n4⟩ := box5_S HV.out.cells; obtain ⟨f0, f1, f2, f3, f4⟩ := box5_F HV.out.cells; obtain ⟨wz, hwz⟩ : ∃ wz, (((((w7.setCell ⟨v, 0, none⟩ (.int .i64 t2)).setCell ⟨v, 1, none⟩ (.int .i64 m)).setCell ⟨v, 2, none⟩ (.int .i64 p)).setCell ⟨v, 3, none⟩ (.slice B3 l4.length d3)).setCell ⟨v, 4, none⟩ (.slice B4 l4.length d4)) = wz := ⟨_, rfl⟩; have HF := Lib.hid (fin5 HV.out HBX8.out HGB.out.2.1 HO3.out HO4.out HN3.out HN4.out HCX.out HGB.out.1 HDX.out HBE.out hwz); have HBX9 := Lib.hid HF.out.2.1) | (obtain ⟨v, hv⟩ : ∃ v, w7.heap.size = v := ⟨_, rfl⟩; have HN3 := Lib.hid (own_ne_new HO3.out); have HN4 := Lib.hid (own_ne_new HO4.out); rw [hv] at HN3 HN4; obtain ⟨w8, hw8⟩ : ∃ w8, w7.alloc (.cells #[.int .i64 0, .int .i64 0, .int .i64 0, .slice none 0 0, .slice none 0 0] 51) = w8 := ⟨_, rfl⟩; have HB8 : Hid (Below w7.heap.size w7 w8) := Lib.hid (by rw [← hw8]; exact ((Below.refl _ _).alloc (Nat.le_refl _) _)); have HV : Hid (NB bb w8 v) := Lib.hid (by rw [← hw8, ← hv]; exact NB.new w7 (by have := HZ6.out; have := HB7.out.size; omega)); have HBX8 := Lib.hid ((HB8.out.block b (by have := HZ6.out; have := HGB.out; have := HB7.out.size; omega)).trans HBX7.out); have HO3 := Lib.hid (own_below HO3.out HB8.out); have HO4 := Lib.hid (own_below HO4.out HB8.out); have HCX := Lib.hid (HCX.out.below HB8.out); have HDX := Lib.hid (HDX.out.trans (Drew.of_below HB8.out)); obtain ⟨n0, n1, n2, n3, n4⟩ := box5_S HV.out.cells; obtain ⟨f0, f1, f2, f3, f4⟩ := box5_F HV.out.cells; obtain ⟨wz, hwz⟩ : ∃ wz, (((((w8.setCell ⟨v, 0, none⟩ (.int .i64 t2)).setCell ⟨v, 1, none⟩ (.int .i64 m)).setCell ⟨v, 2, none⟩ (.int .i64 p)).setCell ⟨v, 3, none⟩ (.slice B3 l4.length d3)).setCell ⟨v, 4, none⟩ (.slice B4 l4.length d4)) = wz := ⟨_, rfl⟩; have HF := Lib.hid (fin5 HV.out HBX8.out HGB.out.2.1 HO3.out HO4.out HN3.out HN4.out HCX.out HGB.out.1 HDX.out HBE.out hwz); have HBX9 := Lib.hid HF.out.2.1)) | (go_at_call 109; (fail_if_success (have hq := HO3)); refine (l1Own_any A4 l4.length c4 l4 _ (by omega) (by first | exact HR4W.out _ (Keeps.of_drew HD5.out HGW.out) | exact HR4W.out _ ((Keeps.of_drew HD5.out HGW.out).trans (Keeps.alloc _ _ _)))).mono ?_; rintro e w6 ⟨B3, d3, rfl, ho6, hb6⟩; have HB6 : Hid (Below w5.heap.size w5 w6) := Lib.hid (by first | exact hb6 | exact ((Below.refl _ _).alloc (Nat.le_refl _) _).trans (hb6.mono (by simp))); have HO3 : Hid (w6.ownsRow (bb + 1) 3 1 (.slice B3 l4.length d3) l4.length (ints l4)) := Lib.hid (own_mono ho6 (by have h0 := HZ5.out; first | exact h0 | (simp; omega))); have HO36 := HO3; have HC6 := Lib.hid (HC5.out.below HB6.out); have HD6 := Lib.hid (HD5.out.trans (Drew.of_below HB6.out)); have HBX6 := Lib.hid ((HB6.out.block b (by have := HZ5.out; have := HGB.out; omega)).trans HBX5.out); have HZ6 : Hid (bb + 1 ≤ w6.heap.size) := Lib.hid (by have := HZ5.out; have := HB6.out.size; omega); (try (have HN3 := Lib.hid (own_nb ho6 HV.out.at_lt); have HV := Lib.hid (HV.out.below HB6.out))); (try (have h2 := (NB.new (b := bb) w5 (by have := HZ5.out; omega)).below hb6; have HN3 := Lib.hid (own_nb ho6 (show w5.heap.size < _ from by simp)); obtain ⟨v, hv⟩ : ∃ v, w5.heap.size = v := ⟨_, rfl⟩; rw [hv] at h2 HN3; have HV := Lib.hid h2))) | fail)
            all_goals
              clear v1 e1
              go_wp2_with fail
              go_meet
              case rel => exact ⟨v, t2, B3, d3, B4, d4, rfl, HF.out.1, HF.out.2.2.1, HF.out.2.2.2.1, HF.out.2.2.2.2.1, HF.out.2.2.2.2.2.1, HF.out.2.2.2.2.2.2.1, HF.out.2.2.2.2.2.2.2⟩
          case rest =>
          have hz9 : bb + 1 = wa.heap.size := HZA.out.symm
          clear HBX HZA HGB HBE HDA HCA
          obtain ⟨b15, t15, E3, e3, E4, e4, rfl, hN, ho3, ho4, hlt1, hlt2, hc, hd⟩ := hcut
          obtain ⟨wb, rfl⟩ : ∃ wb, wb = wc := ⟨_, rfl⟩
          have HL15 : Hid (lo ≤ b15 ∧ b15 < wb.heap.size ∧ b14 < wb.heap.size) := Lib.hid (by have := HL14.out; have := hd.size; omega)
          have HN15 := Lib.hid hN; have HO15 := Lib.hid (own_mono ho3 (show lo ≤ bb + 1 by have := HL14.out; omega)); have HP15 := Lib.hid (own_mono ho4 (show lo ≤ bb + 1 by have := HL14.out; omega))
          replace HN14 := Lib.hid ((hd.block b14 HL14.out.2.1 (by have := HL14.out; have := HGW.out; omega)).trans HN14.out)
          replace HO14 := Lib.hid (hd.own HO14.out HGW.out); replace HP14 := Lib.hid (hd.own HP14.out HGW.out)
          replace HDW := Lib.hid (HDW.out.trans hd); have HC := Lib.hid hc
          clear hN ho3 ho4 hlt1 hlt2 hc hd HR4W HBB hz9
          have HSN : Hid (shE (t14, m, p, l3, l3)) := Lib.hid ⟨hl3, hl3⟩
          have HSO : Hid (shE (t15, m, p, l4, l4)) := Lib.hid ⟨hl4, hl4⟩
          replace HL1 := Lib.hid (HL1.out.keep (Keeps.of_drew HDW.out HGW.out)); replace HL2 := Lib.hid (HL2.out.keep (Keeps.of_drew HDW.out HGW.out))
          have hn31' : n1 ≤ 31 := by omega
          have HRT : Hid (∀ W, Below wb.heap.size wb W → Reads W 5 A1 n1 hs1) := Lib.hid (fun W hW => HL1.out.row.below hW)
          have HONE := Lib.hid HL1.out.one
          go_upto_region 14 with fail
          go_cut [16] from 88 to 93 (fun v wx => ∃ A' c', v = .slice A' (n1 + 1) c' ∧ wx.ownsRow wb.heap.size 51 5 (.slice A' (n1 + 1) c') (n1 + 1) (hs1 ++ [.int .i64 t14, .int .i64 m, .int .i64 p, .slice B3 l3.length d3, .slice B4 l3.length d4]) ∧ Below wb.heap.size wb wx)
          case first =>
            have HBEL0 : Hid (Below wb.heap.size wb ((wb.alloc (.cells #[] 51)).alloc (.cells #[.int .i64 t14, .int .i64 m, .int .i64 p, .slice B3 l3.length d3, .slice B4 l3.length d4] 51)).drew) := Lib.hid (((Below.refl _ _).alloc (Nat.le_refl _) _).alloc (by simp) _).drew
            have HOW0 : Hid (((wb.alloc (.cells #[] 51)).alloc (.cells #[.int .i64 t14, .int .i64 m, .int .i64 p, .slice B3 l3.length d3, .slice B4 l3.length d4] 51)).drew.ownsRow wb.heap.size 51 5 (.slice (some ⟨wb.heap.size, 0, none⟩) 0 0) 0 []) := Lib.hid (own_below (World.ownsRow_made wb #[] 0 (Nat.le_refl _) (by unfold maxLen; omega) rfl) ((Below.refl _ _).alloc (Nat.le_refl _) _).drew)
            have HRW0 : Hid (Reads ((wb.alloc (.cells #[] 51)).alloc (.cells #[.int .i64 t14, .int .i64 m, .int .i64 p, .slice B3 l3.length d3, .slice B4 l3.length d4] 51)).drew 5 (some ⟨wb.heap.size + 1, 0, none⟩) 1 [.int .i64 t14, .int .i64 m, .int .i64 p, .slice B3 l3.length d3, .slice B4 l3.length d4]) := Lib.hid (by have h9 := reads_litk (wb.alloc (.cells #[] 51)) [.int .i64 t14, .int .i64 m, .int .i64 p, .slice B3 l3.length d3, .slice B4 l3.length d4] 51 (n := 1) (k := 5) rfl; rw [World.size_alloc] at h9; exact h9)
            have HBELA : Hid (Below wb.heap.size wb (wb.alloc (.cells #[] 51)).drew) := Lib.hid ((Below.refl _ _).alloc (Nat.le_refl _) _).drew
            have HOWA : Hid ((wb.alloc (.cells #[] 51)).drew.ownsRow wb.heap.size 51 5 (.slice (some ⟨wb.heap.size, 0, none⟩) 0 0) 0 []) := Lib.hid (own_below (World.ownsRow_made wb #[] 0 (Nat.le_refl _) (by unfold maxLen; omega) rfl) (Below.refl _ _).drew)
            have HBELC : Hid (Below wb.heap.size wb ((wb.alloc (.cells #[.int .i64 t14, .int .i64 m, .int .i64 p, .slice B3 l3.length d3, .slice B4 l3.length d4] 51)).alloc (.cells #[] 51)).drew) := Lib.hid (((Below.refl _ _).alloc (Nat.le_refl _) _).alloc (by simp) _).drew
            have HOWC : Hid (((wb.alloc (.cells #[.int .i64 t14, .int .i64 m, .int .i64 p, .slice B3 l3.length d3, .slice B4 l3.length d4] 51)).alloc (.cells #[] 51)).drew.ownsRow wb.heap.size 51 5 (.slice (some ⟨wb.heap.size + 1, 0, none⟩) 0 0) 0 []) := Lib.hid (by have h9 := show ((wb.alloc (.cells #[.int .i64 t14, .int .i64 m, .int .i64 p, .slice B3 l3.length d3, .slice B4 l3.length d4] 51)).alloc (.cells #[] 51)).ownsRow (wb.alloc (.cells #[.int .i64 t14, .int .i64 m, .int .i64 p, .slice B3 l3.length d3, .slice B4 l3.length d4] 51)).heap.size 51 5 (.slice (some ⟨(wb.alloc (.cells #[.int .i64 t14, .int .i64 m, .int .i64 p, .slice B3 l3.length d3, .slice B4 l3.length d4] 51)).heap.size, 0, none⟩) 0 0) 0 [] from World.ownsRow_made _ #[] 0 (Nat.le_refl _) (by unfold maxLen; omega) rfl; rw [World.size_alloc] at h9; exact own_below (own_mono h9 (Nat.le_succ _)) (Below.refl _ _).drew)
            have HRWC : Hid (Reads ((wb.alloc (.cells #[.int .i64 t14, .int .i64 m, .int .i64 p, .slice B3 l3.length d3, .slice B4 l3.length d4] 51)).alloc (.cells #[] 51)).drew 5 (some ⟨wb.heap.size, 0, none⟩) 1 [.int .i64 t14, .int .i64 m, .int .i64 p, .slice B3 l3.length d3, .slice B4 l3.length d4]) := Lib.hid ((reads_litk wb [.int .i64 t14, .int .i64 m, .int .i64 p, .slice B3 l3.length d3, .slice B4 l3.length d4] 51 (n := 1) (k := 5) rfl).alloc _)
            have HKB := Lib.hid (fun W (hW : Below wb.heap.size wb W) => box5_S ((hW.block b14 (by have := HL15.out; omega)).trans HN14.out))
            obtain ⟨x0, x1, x2, x3, x4⟩ := HKB.out wb (Below.refl _ _)
            go_wp2
            go_region_held3 (fun W => W.cell? ⟨b14, 0, none⟩ = some (.int .i64 t14) ∧ W.cell? ⟨b14, 1, none⟩ = some (.int .i64 m) ∧ W.cell? ⟨b14, 2, none⟩ = some (.int .i64 p) ∧ W.cell? ⟨b14, 3, none⟩ = some (.slice B3 l3.length d3) ∧ W.cell? ⟨b14, 4, none⟩ = some (.slice B4 l3.length d4)) (first | exact HKB.out _ (by first | assumption | exact (Below.refl _ _).drew | exact ((Below.refl _ _).alloc (Nat.le_refl _) _).drew | exact HBEL0.out | exact HBELC.out | exact (hA.alloc hA.size _) | exact hB) | fail) (first | ((refine step_pushL _ (by rfl) (.tmp 88) (.tmp 89) 27 (by rfl) wb.heap.size 51 _ 5 72 infoEntry rfl (by omega) Try.underlying27 (some ⟨wb.heap.size, 0, none⟩) 0 0 [] (by rfl) HOWA.out A1 n1 c1 hs1 (by rfl) (HRT.out _ HBELA.out) HONE.out (by omega) (by omega) HBELA.out.size ?_); intro QA qa wp hown1 hg1 hb1 hl1; rw [Nat.zero_add, List.nil_append] at hown1; rw [Nat.zero_add]; have hA := HBELA.out.trans hb1) | ((refine step_pushL _ (by rfl) (.tmp 88) (.tmp 89) 27 (by rfl) wb.heap.size 51 _ 5 72 infoEntry rfl (by omega) Try.underlying27 (some ⟨wb.heap.size, 0, none⟩) 0 0 [] (by rfl) HOW0.out A1 n1 c1 hs1 (by rfl) (HRT.out _ HBEL0.out) HONE.out (by omega) (by omega) HBEL0.out.size ?_); intro QA qa wp hown1 hg1 hb1 hl1; rw [Nat.zero_add, List.nil_append] at hown1; rw [Nat.zero_add]; have hA := HBEL0.out.trans hb1; have hrx := reads_grownF HRW0.out hg1 (fun ad e => by injection e with e; subst e; simp [Value.ownBlock])) | ((refine step_pushL _ (by rfl) (.tmp 88) (.tmp 89) 27 (by rfl) wb.heap.size 51 _ 5 72 infoEntry rfl (by omega) Try.underlying27 (some ⟨wb.heap.size + 1, 0, none⟩) 0 0 [] (by rfl) HOWC.out A1 n1 c1 hs1 (by rfl) (HRT.out _ HBELC.out) HONE.out (by omega) (by omega) HBELC.out.size ?_); intro QA qa wp hown1 hg1 hb1 hl1; rw [Nat.zero_add, List.nil_append] at hown1; rw [Nat.zero_add]; have hA := HBELC.out.trans hb1; have hrx := reads_grownF HRWC.out hg1 (fun ad e => by injection e with e; subst e; simp [Value.ownBlock])) | ((refine step_pushL _ (by rfl) (.tmp 90) (.tmp 92) 27 (by rfl) wb.heap.size 51 _ 5 72 infoEntry rfl (by omega) Try.underlying27 QA n1 qa hs1 (by rfl) (own_below hown1 ((Below.refl _ _).alloc (Nat.le_refl _) _)) (some ⟨wp.heap.size, 0, none⟩) 1 1 [.int .i64 t14, .int .i64 m, .int .i64 p, .slice B3 l3.length d3, .slice B4 l3.length d4] (by rfl) (reads_litk _ _ _ rfl) (by simp [Value.oneCell']) (by omega) (by omega) (by have := hA.size; simp; omega) ?_); intro RA ra wq hown2 hg2 hb2 hl2; have hB := (hA.alloc hA.size _).trans hb2) | ((refine step_pushL _ (by rfl) (.tmp 90) (.tmp 92) 27 (by rfl) wb.heap.size 51 _ 5 72 infoEntry rfl (by omega) Try.underlying27 QA n1 qa hs1 (by rfl) hown1 (some ⟨wb.heap.size + 1, 0, none⟩) 1 1 [.int .i64 t14, .int .i64 m, .int .i64 p, .slice B3 l3.length d3, .slice B4 l3.length d4] (by rfl) hrx (by simp [Value.oneCell']) (by omega) (by omega) hA.size ?_); intro RA ra wq hown2 hg2 hb2 hl2; have hB := hA.trans hb2) | ((refine step_pushL _ (by rfl) (.tmp 90) (.tmp 92) 27 (by rfl) wb.heap.size 51 _ 5 72 infoEntry rfl (by omega) Try.underlying27 QA n1 qa hs1 (by rfl) hown1 (some ⟨wb.heap.size, 0, none⟩) 1 1 [.int .i64 t14, .int .i64 m, .int .i64 p, .slice B3 l3.length d3, .slice B4 l3.length d4] (by rfl) hrx (by simp [Value.oneCell']) (by omega) (by omega) hA.size ?_); intro RA ra wq hown2 hg2 hb2 hl2; have hB := hA.trans hb2) | fail)
            all_goals
              clear x0 x1 x2 x3 x4
              go_wp2_with fail
              go_meet
              case rel => exact ⟨RA, ra, rfl, hown2, hB⟩
          case rest =>
          clear HRT HONE
          obtain ⟨NA, na, rfl, hown, hb⟩ := hcut
          have HNX : Hid (LogR wc lo NA (n1 + 1) (L1 ++ [(t14, m, p, l3, l3)]) (hs1 ++ [.int .i64 t14, .int .i64 m, .int .i64 p, .slice B3 l3.length d3, .slice B4 l3.length d4])) := Lib.hid ((HL1.out.keep (Keeps.of_below hb)).snoc hown rfl (by have := HL15.out; omega) ((stE.own (w := wb) HO14.out HP14.out (Nat.le_refl _) (Nat.le_refl _) (fun q' e => by cases e) (fun q' e => by cases e)).keep (Keeps.of_below hb)))
          have HNC : Hid (n1 + 1 ≤ na) := Lib.hid (own_cap hown)
          have HXB : Hid (Below wb.heap.size wb wc) := Lib.hid hb
          have HCX := Lib.hid (HC.out.below hb)
          clear hown hb
          go_upto_region 15 with fail
          go_cut [100] from 94 to 99 (fun v wx => ∃ bo, v = .bool bo ∧ Cur wx g (k + 13000 + 20 * q + 6) ∧ Drew g wc wx)
          case first =>
            go_wp2_with fail
            refine (one_any g _ 12 _ (by omega) (by omega) HCX.out).mono ?_
            rintro e w5 ⟨b7, rfl, hc, hd⟩
            have HC5 := Lib.hid hc; have HD5 := Lib.hid hd
            clear hc hd
            cases b7 with
            | true =>
              go_wp2_with fail
              go_meet
              case rel => exact ⟨_, rfl, HC5.out, HD5.out⟩
            | false =>
              have CG := Lib.hid (lgGood_any NA (n1 + 1) na (L1 ++ [(t14, m, p, l3, l3)]) w5 (by omega) (fun y hy => shE_len (shE_snoc HS1.out HSN.out y hy)) (HNX.out.keep (Keeps.of_drew HD5.out HGW.out)).reads)
              go_wp2_with fail
              refine (CG.out).mono ?_
              rintro e w6 ⟨rfl, hb6⟩
              have HB6 := Lib.hid hb6
              clear hb6
              go_wp2_with fail
              go_meet
              case rel => exact ⟨_, rfl, HC5.out.below HB6.out, HD5.out.trans (Drew.of_below HB6.out)⟩
          case rest =>
          obtain ⟨bo, rfl, hc, hd⟩ := hcut
          have HDB := Lib.hid ((Drew.of_below (g := g) HXB.out).trans hd)
          replace HNX := Lib.hid (HNX.out.keep (Keeps.of_drew hd HGW.out))
          replace HL1 := Lib.hid (HL1.out.keep (Keeps.of_drew HDB.out HGW.out)); replace HL2 := Lib.hid (HL2.out.keep (Keeps.of_drew HDB.out HGW.out))
          replace HDW := Lib.hid (HDW.out.trans HDB.out); replace HC := Lib.hid hc
          replace HN15 := Lib.hid ((HDB.out.block b15 HL15.out.2.1 (by have := HL15.out; have := HGW.out; omega)).trans HN15.out)
          replace HO15 := Lib.hid (Drew.own HDB.out HO15.out HGW.out); replace HP15 := Lib.hid (Drew.own HDB.out HP15.out HGW.out)
          replace HL15 : Hid (lo ≤ b15 ∧ b15 < wc.heap.size ∧ b14 < wc.heap.size) := Lib.hid (by have := HL15.out; have := HDB.out.size; omega)
          clear hc hd HXB HCX HDB
          obtain ⟨wd, rfl⟩ : ∃ wd, wd = wc := ⟨_, rfl⟩
          go_upto_if 100 with fail
          go_cut [10] from 101 to 101 (fun v wx => ∃ A' n' c' L' hs', v = .slice A' n' c' ∧ (n' ≤ c' ∧ n' ≤ q + 1) ∧ LogR wx lo A' n' L' hs' ∧ (∀ x ∈ L', shE x) ∧ wx = wd)
          case first =>
            cases bo with
            | false =>
              go_wp2_with fail
              go_meet
              case rel => exact ⟨A1, n1, c1, L1, hs1, rfl, ⟨hn1.1, by omega⟩, HL1.out, HS1.out, rfl⟩
            | true =>
              go_wp2_with fail
              go_meet
              case rel => exact ⟨NA, n1 + 1, na, _, _, rfl, ⟨HNC.out, by omega⟩, HNX.out, shE_snoc HS1.out HSN.out, rfl⟩
          case rest =>
          clear HL1 HS1 hn1 HNX HNC
          obtain ⟨A1, n1, c1, L1, hs1, rfl, hn1, hl, hsx, hwx⟩ := hcut
          subst hwx
          have HL1 := Lib.hid hl; have HS1 := Lib.hid hsx
          clear hl hsx

          obtain ⟨wb, rfl⟩ : ∃ wb, wb = wc := ⟨_, rfl⟩
          replace HSN := HSO
          clear HSO
          have hn31' : n2 ≤ 31 := by omega
          have HRT : Hid (∀ W, Below wb.heap.size wb W → Reads W 5 A2 n2 hs2) := Lib.hid (fun W hW => HL2.out.row.below hW)
          have HONE := Lib.hid HL2.out.one
          go_upto_region 17 with fail
          go_cut [17] from 102 to 107 (fun v wx => ∃ A' c', v = .slice A' (n2 + 1) c' ∧ wx.ownsRow wb.heap.size 51 5 (.slice A' (n2 + 1) c') (n2 + 1) (hs2 ++ [.int .i64 t15, .int .i64 m, .int .i64 p, .slice E3 l4.length e3, .slice E4 l4.length e4]) ∧ Below wb.heap.size wb wx)
          case first =>
            have HBEL0 : Hid (Below wb.heap.size wb ((wb.alloc (.cells #[] 51)).alloc (.cells #[.int .i64 t15, .int .i64 m, .int .i64 p, .slice E3 l4.length e3, .slice E4 l4.length e4] 51)).drew) := Lib.hid (((Below.refl _ _).alloc (Nat.le_refl _) _).alloc (by simp) _).drew
            have HOW0 : Hid (((wb.alloc (.cells #[] 51)).alloc (.cells #[.int .i64 t15, .int .i64 m, .int .i64 p, .slice E3 l4.length e3, .slice E4 l4.length e4] 51)).drew.ownsRow wb.heap.size 51 5 (.slice (some ⟨wb.heap.size, 0, none⟩) 0 0) 0 []) := Lib.hid (own_below (World.ownsRow_made wb #[] 0 (Nat.le_refl _) (by unfold maxLen; omega) rfl) ((Below.refl _ _).alloc (Nat.le_refl _) _).drew)
            have HRW0 : Hid (Reads ((wb.alloc (.cells #[] 51)).alloc (.cells #[.int .i64 t15, .int .i64 m, .int .i64 p, .slice E3 l4.length e3, .slice E4 l4.length e4] 51)).drew 5 (some ⟨wb.heap.size + 1, 0, none⟩) 1 [.int .i64 t15, .int .i64 m, .int .i64 p, .slice E3 l4.length e3, .slice E4 l4.length e4]) := Lib.hid (by have h9 := reads_litk (wb.alloc (.cells #[] 51)) [.int .i64 t15, .int .i64 m, .int .i64 p, .slice E3 l4.length e3, .slice E4 l4.length e4] 51 (n := 1) (k := 5) rfl; rw [World.size_alloc] at h9; exact h9)
            have HBELA : Hid (Below wb.heap.size wb (wb.alloc (.cells #[] 51)).drew) := Lib.hid ((Below.refl _ _).alloc (Nat.le_refl _) _).drew
            have HOWA : Hid ((wb.alloc (.cells #[] 51)).drew.ownsRow wb.heap.size 51 5 (.slice (some ⟨wb.heap.size, 0, none⟩) 0 0) 0 []) := Lib.hid (own_below (World.ownsRow_made wb #[] 0 (Nat.le_refl _) (by unfold maxLen; omega) rfl) (Below.refl _ _).drew)
            have HBELC : Hid (Below wb.heap.size wb ((wb.alloc (.cells #[.int .i64 t15, .int .i64 m, .int .i64 p, .slice E3 l4.length e3, .slice E4 l4.length e4] 51)).alloc (.cells #[] 51)).drew) := Lib.hid (((Below.refl _ _).alloc (Nat.le_refl _) _).alloc (by simp) _).drew
            have HOWC : Hid (((wb.alloc (.cells #[.int .i64 t15, .int .i64 m, .int .i64 p, .slice E3 l4.length e3, .slice E4 l4.length e4] 51)).alloc (.cells #[] 51)).drew.ownsRow wb.heap.size 51 5 (.slice (some ⟨wb.heap.size + 1, 0, none⟩) 0 0) 0 []) := Lib.hid (by have h9 := show ((wb.alloc (.cells #[.int .i64 t15, .int .i64 m, .int .i64 p, .slice E3 l4.length e3, .slice E4 l4.length e4] 51)).alloc (.cells #[] 51)).ownsRow (wb.alloc (.cells #[.int .i64 t15, .int .i64 m, .int .i64 p, .slice E3 l4.length e3, .slice E4 l4.length e4] 51)).heap.size 51 5 (.slice (some ⟨(wb.alloc (.cells #[.int .i64 t15, .int .i64 m, .int .i64 p, .slice E3 l4.length e3, .slice E4 l4.length e4] 51)).heap.size, 0, none⟩) 0 0) 0 [] from World.ownsRow_made _ #[] 0 (Nat.le_refl _) (by unfold maxLen; omega) rfl; rw [World.size_alloc] at h9; exact own_below (own_mono h9 (Nat.le_succ _)) (Below.refl _ _).drew)
            have HRWC : Hid (Reads ((wb.alloc (.cells #[.int .i64 t15, .int .i64 m, .int .i64 p, .slice E3 l4.length e3, .slice E4 l4.length e4] 51)).alloc (.cells #[] 51)).drew 5 (some ⟨wb.heap.size, 0, none⟩) 1 [.int .i64 t15, .int .i64 m, .int .i64 p, .slice E3 l4.length e3, .slice E4 l4.length e4]) := Lib.hid ((reads_litk wb [.int .i64 t15, .int .i64 m, .int .i64 p, .slice E3 l4.length e3, .slice E4 l4.length e4] 51 (n := 1) (k := 5) rfl).alloc _)
            have HKB := Lib.hid (fun W (hW : Below wb.heap.size wb W) => box5_S ((hW.block b15 (by have := HL15.out; omega)).trans HN15.out))
            obtain ⟨x0, x1, x2, x3, x4⟩ := HKB.out wb (Below.refl _ _)
            go_wp2
            go_region_held3 (fun W => W.cell? ⟨b15, 0, none⟩ = some (.int .i64 t15) ∧ W.cell? ⟨b15, 1, none⟩ = some (.int .i64 m) ∧ W.cell? ⟨b15, 2, none⟩ = some (.int .i64 p) ∧ W.cell? ⟨b15, 3, none⟩ = some (.slice E3 l4.length e3) ∧ W.cell? ⟨b15, 4, none⟩ = some (.slice E4 l4.length e4)) (first | exact HKB.out _ (by first | assumption | exact (Below.refl _ _).drew | exact ((Below.refl _ _).alloc (Nat.le_refl _) _).drew | exact HBEL0.out | exact HBELC.out | exact (hA.alloc hA.size _) | exact hB) | fail) (first | ((refine step_pushL _ (by rfl) (.tmp 102) (.tmp 103) 27 (by rfl) wb.heap.size 51 _ 5 72 infoEntry rfl (by omega) Try.underlying27 (some ⟨wb.heap.size, 0, none⟩) 0 0 [] (by rfl) HOWA.out A2 n2 c2 hs2 (by rfl) (HRT.out _ HBELA.out) HONE.out (by omega) (by omega) HBELA.out.size ?_); intro QA qa wp hown1 hg1 hb1 hl1; rw [Nat.zero_add, List.nil_append] at hown1; rw [Nat.zero_add]; have hA := HBELA.out.trans hb1) | ((refine step_pushL _ (by rfl) (.tmp 102) (.tmp 103) 27 (by rfl) wb.heap.size 51 _ 5 72 infoEntry rfl (by omega) Try.underlying27 (some ⟨wb.heap.size, 0, none⟩) 0 0 [] (by rfl) HOW0.out A2 n2 c2 hs2 (by rfl) (HRT.out _ HBEL0.out) HONE.out (by omega) (by omega) HBEL0.out.size ?_); intro QA qa wp hown1 hg1 hb1 hl1; rw [Nat.zero_add, List.nil_append] at hown1; rw [Nat.zero_add]; have hA := HBEL0.out.trans hb1; have hrx := reads_grownF HRW0.out hg1 (fun ad e => by injection e with e; subst e; simp [Value.ownBlock])) | ((refine step_pushL _ (by rfl) (.tmp 102) (.tmp 103) 27 (by rfl) wb.heap.size 51 _ 5 72 infoEntry rfl (by omega) Try.underlying27 (some ⟨wb.heap.size + 1, 0, none⟩) 0 0 [] (by rfl) HOWC.out A2 n2 c2 hs2 (by rfl) (HRT.out _ HBELC.out) HONE.out (by omega) (by omega) HBELC.out.size ?_); intro QA qa wp hown1 hg1 hb1 hl1; rw [Nat.zero_add, List.nil_append] at hown1; rw [Nat.zero_add]; have hA := HBELC.out.trans hb1; have hrx := reads_grownF HRWC.out hg1 (fun ad e => by injection e with e; subst e; simp [Value.ownBlock])) | ((refine step_pushL _ (by rfl) (.tmp 104) (.tmp 106) 27 (by rfl) wb.heap.size 51 _ 5 72 infoEntry rfl (by omega) Try.underlying27 QA n2 qa hs2 (by rfl) (own_below hown1 ((Below.refl _ _).alloc (Nat.le_refl _) _)) (some ⟨wp.heap.size, 0, none⟩) 1 1 [.int .i64 t15, .int .i64 m, .int .i64 p, .slice E3 l4.length e3, .slice E4 l4.length e4] (by rfl) (reads_litk _ _ _ rfl) (by simp [Value.oneCell']) (by omega) (by omega) (by have := hA.size; simp; omega) ?_); intro RA ra wq hown2 hg2 hb2 hl2; have hB := (hA.alloc hA.size _).trans hb2) | ((refine step_pushL _ (by rfl) (.tmp 104) (.tmp 106) 27 (by rfl) wb.heap.size 51 _ 5 72 infoEntry rfl (by omega) Try.underlying27 QA n2 qa hs2 (by rfl) hown1 (some ⟨wb.heap.size + 1, 0, none⟩) 1 1 [.int .i64 t15, .int .i64 m, .int .i64 p, .slice E3 l4.length e3, .slice E4 l4.length e4] (by rfl) hrx (by simp [Value.oneCell']) (by omega) (by omega) hA.size ?_); intro RA ra wq hown2 hg2 hb2 hl2; have hB := hA.trans hb2) | ((refine step_pushL _ (by rfl) (.tmp 104) (.tmp 106) 27 (by rfl) wb.heap.size 51 _ 5 72 infoEntry rfl (by omega) Try.underlying27 QA n2 qa hs2 (by rfl) hown1 (some ⟨wb.heap.size, 0, none⟩) 1 1 [.int .i64 t15, .int .i64 m, .int .i64 p, .slice E3 l4.length e3, .slice E4 l4.length e4] (by rfl) hrx (by simp [Value.oneCell']) (by omega) (by omega) hA.size ?_); intro RA ra wq hown2 hg2 hb2 hl2; have hB := hA.trans hb2) | fail)
            all_goals
              clear x0 x1 x2 x3 x4
              go_wp2_with fail
              go_meet
              case rel => exact ⟨RA, ra, rfl, hown2, hB⟩
          case rest =>
          clear HRT HONE
          obtain ⟨NA, na, rfl, hown, hb⟩ := hcut
          have HNX : Hid (LogR wc lo NA (n2 + 1) (L2 ++ [(t15, m, p, l4, l4)]) (hs2 ++ [.int .i64 t15, .int .i64 m, .int .i64 p, .slice E3 l4.length e3, .slice E4 l4.length e4])) := Lib.hid ((HL2.out.keep (Keeps.of_below hb)).snoc hown rfl (by have := HL15.out; omega) ((stE.own (w := wb) HO15.out HP15.out (Nat.le_refl _) (Nat.le_refl _) (fun q' e => by cases e) (fun q' e => by cases e)).keep (Keeps.of_below hb)))
          have HNC : Hid (n2 + 1 ≤ na) := Lib.hid (own_cap hown)
          have HXB : Hid (Below wb.heap.size wb wc) := Lib.hid hb
          have HCX := Lib.hid (HC.out.below hb)
          clear hown hb
          go_upto_region 18 with fail
          go_cut [114] from 108 to 113 (fun v wx => ∃ bo, v = .bool bo ∧ Cur wx g (k + 13000 + 20 * q + 8) ∧ Drew g wc wx)
          case first =>
            go_wp2_with fail
            refine (one_any g _ 12 _ (by omega) (by omega) HCX.out).mono ?_
            rintro e w5 ⟨b7, rfl, hc, hd⟩
            have HC5 := Lib.hid hc; have HD5 := Lib.hid hd
            clear hc hd
            cases b7 with
            | true =>
              go_wp2_with fail
              go_meet
              case rel => exact ⟨_, rfl, HC5.out, HD5.out⟩
            | false =>
              have CG := Lib.hid (lgGood_any NA (n2 + 1) na (L2 ++ [(t15, m, p, l4, l4)]) w5 (by omega) (fun y hy => shE_len (shE_snoc HS2.out HSN.out y hy)) (HNX.out.keep (Keeps.of_drew HD5.out HGW.out)).reads)
              go_wp2_with fail
              refine (CG.out).mono ?_
              rintro e w6 ⟨rfl, hb6⟩
              have HB6 := Lib.hid hb6
              clear hb6
              go_wp2_with fail
              go_meet
              case rel => exact ⟨_, rfl, HC5.out.below HB6.out, HD5.out.trans (Drew.of_below HB6.out)⟩
          case rest =>
          obtain ⟨bo, rfl, hc, hd⟩ := hcut
          have HDB := Lib.hid ((Drew.of_below (g := g) HXB.out).trans hd)
          replace HNX := Lib.hid (HNX.out.keep (Keeps.of_drew hd HGW.out))
          replace HL1 := Lib.hid (HL1.out.keep (Keeps.of_drew HDB.out HGW.out)); replace HL2 := Lib.hid (HL2.out.keep (Keeps.of_drew HDB.out HGW.out))
          replace HDW := Lib.hid (HDW.out.trans HDB.out); replace HC := Lib.hid hc
          skip
          clear hc hd HXB HCX HDB
          cases bo with
          | false =>
            go_wp2
            go_roundw
            case rel => exact ⟨q + 1, A1, n1, c1, L1, hs1, A2, n2, c2, L2, hs2, by omega, by go_num, rfl, rfl, hn1, ⟨hn2.1, by omega⟩, HL.out.keep (Keeps.of_drew HDW.out HGW.out), HL1.out, HL2.out, HS1.out, HS2.out, HC.out.mono (by omega), HD.out.trans HDW.out⟩
            case measure => first | (simp [intOf]; done) | (simp [intOf]; omega)
          | true =>
            go_wp2
            go_roundw
            case rel => exact ⟨q + 1, A1, n1, c1, L1, hs1, NA, n2 + 1, na, _, _, by omega, by go_num, rfl, rfl, hn1, ⟨HNC.out, by omega⟩, HL.out.keep (Keeps.of_drew HDW.out HGW.out), HL1.out, HNX.out, HS1.out, shE_snoc HS2.out HSN.out, HC.out.mono (by omega), HD.out.trans HDW.out⟩
            case measure => first | (simp [intOf]; done) | (simp [intOf]; omega)

    · have hqn : ¬ (q : Int) < (n : Int) := by omega
      go_wp2
      (try simp only [Exit.inBlock, Exit.then])
      refine bodyPost_ret (results_tmp5 rfl _ _ _) rfl ?_
      obtain rfl : q = n := by omega
      exact ⟨A, q, c, L, hs, A1, n1, c1, L1, hs1, A2, n2, c2, L2, hs2, av, ev, rfl, ⟨HNC.out, hn31⟩, ⟨hn1.1, by omega⟩, ⟨hn2.1, by omega⟩, HAV.out, HEV.out, HL.out, HL1.out, HL2.out, fun _ _ _ _ _ h => shE_of (HOK.out _ h), fun _ _ _ _ _ h => HS1.out _ h, fun _ _ _ _ _ h => HS2.out _ h, HC.out.mono (by omega), HD.out⟩

end Go.Proofs.Ytcjmlakmigfkfaa
