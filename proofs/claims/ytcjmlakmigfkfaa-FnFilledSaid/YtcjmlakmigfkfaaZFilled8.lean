/- Lemmas and contracts of this claim, several texts in one: Entries that share the arguments' memory; lgIf of the spec in full; JoinLogs of the spec. cloneLog of the implementation. The library's stable sort at entries: swapRangeCmpFunc, rotateCmpFunc. The library's stable sort at entries: rotateCmpFunc. No conditions. -/
import Derived.Shelf.SlSortCmp.KitK
import Derived.Sort.WalkB2
import Derived.Sort.WalkB12
import Derived.Deep.LoopGhost
import Derived.Test.YtcjmlakmigfkfaaZFilled6
import Derived.Test.YtcjmlakmigfkfaaZFilled7
import Derived.Test.YtcjmlakmigfkfaaZFilled3
import Derived.Test.YtcjmlakmigfkfaaZFilled1
namespace Go.Proofs.Ytcjmlakmigfkfaa
set_option linter.unusedSimpArgs false
set_option linter.unusedVariables false
open Go.RowKit

/-- A row of the call's own whose entries' slices lie in the memory of w. -/
structure Shd (w wr : World) (lo : Nat) (O : Option Addr) (n o : Nat) (M : List EntryT) (hs : List Value) : Prop where
  row : wr.ownsRow lo 51 5 (.slice O n o) n hs
  len : M.length = n
  cell : ∀ (j : Nat) (u : Value) (x : Cel), hs[j]? = some u → (rowsE M)[j]? = some x → readsC w u x
section
variable {w wr wr' : World} {lo n o n' o' : Nat} {O O' : Option Addr} {M N : List EntryT} {hs us : List Value}
theorem Shd.nil : Shd w wr lo none 0 0 [] [] := ⟨World.ownsRow_nil _ _ _ _, rfl, fun j u x hu => by simp at hu⟩
theorem Shd.below (h : Shd w wr lo O n o M hs) (hb : Below wr.heap.size wr wr') : Shd w wr' lo O n o M hs := ⟨own_below h.row hb, h.len, h.cell⟩
theorem Shd.hlen (h : Shd w wr lo O n o M hs) : hs.length = n * 5 := h.row.1
theorem Shd.reads (h : Shd w wr lo O n o M hs) (hb : Below w.heap.size w wr) : Reads2 wr 5 O n (rowsE M) :=
  ⟨hs, .of_own h.row, by rw [length_rowsE, h.len, h.row.1], fun j u x hu hx => readsC_keep (h.cell j u x hu hx) (fun _ hp => hb.cell hp)⟩
theorem Shd.push (h : Shd w wr lo O n o M hs) (hr : wr'.ownsRow lo 51 5 (.slice O' n' o') n' (hs ++ us)) (hn : n' = n + N.length)
    (hc : ∀ (j : Nat) (u : Value) (x : Cel), us[j]? = some u → (rowsE N)[j]? = some x → readsC w u x) : Shd w wr' lo O' n' o' (M ++ N) (hs ++ us) := by
  refine ⟨hr, by rw [List.length_append, h.len, hn], fun j u x hu hx => ?_⟩
  have e1 : rowsE (M ++ N) = rowsE M ++ rowsE N := by simp [rowsE]
  rw [e1] at hx
  have hl : (rowsE M).length = hs.length := by rw [length_rowsE, h.len, h.row.1]
  rcases append_cases hu with ⟨hq, hu⟩ | ⟨hq, hu⟩ <;> rcases append_cases hx with ⟨hq', hx⟩ | ⟨hq', hx⟩
  · exact h.cell j u x hu hx
  · omega
  · omega
  · rw [hl] at hx
    exact hc _ u x hu hx
theorem one_entry {w : World} {t m p : Int} {A3 A4 : Option Addr} {c3 c4 : Nat} {l l' : List Int} (h3 : readsC w (.slice A3 l.length c3) (.inr (ints l))) (h4 : readsC w (.slice A4 l'.length c4) (.inr (ints l'))) :
    ∀ (j : Nat) (u : Value) (x : Cel), [.int .i64 t, .int .i64 m, .int .i64 p, .slice A3 l.length c3, .slice A4 l'.length c4][j]? = some u → (rowsE [(t, m, p, l, l')])[j]? = some x → readsC w u x := by
  intro j u x hu hx
  have e : rowsE [(t, m, p, l, l')] = [.inl (.int .i64 t), .inl (.int .i64 m), .inl (.int .i64 p), .inr (ints l), .inr (ints l')] := rfl
  rw [e] at hx
  match j with
  | 0 => simp at hu hx; subst hu; subst hx; rfl
  | 1 => simp at hu hx; subst hu; subst hx; rfl
  | 2 => simp at hu hx; subst hu; subst hx; rfl
  | 3 => simp at hu hx; subst hu; subst hx; exact h3
  | 4 => simp at hu hx; subst hu; subst hx; exact h4
  | j + 5 => simp at hu
end
def ifR (L : List EntryT) : List EntryT × Bool := if goodE L = true then (L, true) else ([], false)
theorem lgIfG_any (A : Option Addr) (n c : Nat) (L : List EntryT) (w : World) (hn : n ≤ 1000000000) (hl : ∀ x ∈ L, lenE 1000000000 x) (h : Reads2 w 5 A n (rowsE L)) :
    Calls Try.prog 97 #[.slice A n c] w (Made4 w 51 3 5 (ifR L).1.length (rowsE (ifR L).1) (ifR L).2) := by
  have HX : L.length = n := by have := h.len; rw [length_rowsE] at this; omega
  cases hg : goodE L with
  | true =>
    have e : ifR L = (L, true) := by simp [ifR, hg]
    rw [e]
    have := lgIf_any A n c L w hn hl hg h
    rw [← HX] at this ⊢
    exact this
  | false =>
    have e : ifR L = ([], false) := by simp [ifR, hg]
    rw [e]
    have c1 := lgGood_any A n c L w hn hl h
    rw [hg] at c1
    have C1 := Lib.hid c1
    clear c1 h hl hg e HX
    go_enter Try.func97, Try.ntmps97
    go_wp2_with (go_at_call 60; refine (C1.out).mono ?_; rintro e w1 ⟨rfl, hb1⟩; have HB1 := Lib.hid hb1; clear hb1)
    go_ret2
    exact ⟨none, 0, [], rfl, own2_nil _ _, HB1.out⟩
theorem rowsE_drop (L : List EntryT) (k : Nat) : (rowsE L).drop (k * 5) = rowsE (L.drop k) := by
  induction L generalizing k with
  | nil => simp [rowsE]
  | cons x r ih =>
    cases k with
    | zero => simp [rowsE]
    | succ k =>
      have e : (k + 1) * 5 = k * 5 + 1 + 1 + 1 + 1 + 1 := by omega
      have := ih k
      simp only [rowsE, List.flatMap_cons, List.drop_succ_cons, celEntry] at this ⊢
      rw [e]
      simp [this]
theorem reads_from {w : World} {A : Option Addr} {n k i : Nat} {xs : List Value} (h : Reads w k A n xs) (hi : i ≤ n) : Reads w k (A.map (fun x => x.add (i * k))) (n - i) (xs.drop (i * k)) := by
  refine ⟨by rw [List.length_drop, h.1, Nat.sub_mul], fun h0 => ?_⟩
  obtain ⟨ad, rfl, hc⟩ := h.2 (by omega)
  refine ⟨_, rfl, fun j u hu => ?_⟩
  rw [List.getElem?_drop] at hu
  rw [add_of_add]
  exact hc _ u hu
theorem one_hsE {w : World} {L : List EntryT} {hs : List Value} (hl : (rowsE L).length = hs.length) (hc : ∀ (j : Nat) (u : Value) (x : Cel), hs[j]? = some u → (rowsE L)[j]? = some x → readsC w u x) : ∀ u ∈ hs, u.oneCell' = true := by
  intro u hu
  obtain ⟨j, hj, e⟩ := List.getElem_of_mem hu
  have hj' : j < (rowsE L).length := by rw [hl]; exact hj
  obtain ⟨x', hx'⟩ : ∃ x', (rowsE L)[j]? = some x' := ⟨_, List.getElem?_eq_getElem hj'⟩
  have h := hc j u x' (by rw [List.getElem?_eq_getElem hj, e]) hx'
  have hm := List.mem_of_getElem? hx'
  unfold rowsE at hm
  obtain ⟨x, _, hx⟩ := List.mem_flatMap.1 hm
  unfold celEntry at hx
  simp only [List.mem_cons, List.not_mem_nil, or_false] at hx
  rcases hx with hx | hx | hx | hx | hx <;> rw [hx] at h
  · subst h; rfl
  · subst h; rfl
  · subst h; rfl
  · obtain ⟨_, _, rfl, _⟩ := h; rfl
  · obtain ⟨_, _, rfl, _⟩ := h; rfl
theorem bel_cell0 {w w' : World} {p : Addr} {u : Value} (hb : Below w.heap.size w w') (h : w.cell? p = some u) : w'.cell? p = some u := (hb.cell (World.block_lt_of_cell? w _ h)).trans h
theorem joinE_low {x : EntryT} {r M : List EntryT} (h : ∀ y ∈ M.head?, x.1 ≤ y.1) : joinE (x :: r) M = x :: joinE r M := by
  cases M with
  | nil => simp [joinE]
  | cons y q =>
    have := h y (by simp)
    unfold joinE
    rw [List.cons_merge_cons, if_pos (by simp [leE, this])]
theorem joinE_high {x y : EntryT} {r q : List EntryT} (h : ¬ x.1 ≤ y.1) : joinE (x :: r) (y :: q) = y :: joinE (x :: r) q := by
  unfold joinE
  rw [List.cons_merge_cons, if_neg (by simp [leE]; omega)]
theorem joinE_nill (M : List EntryT) : joinE [] M = M := by simp [joinE]

set_option maxHeartbeats 4000000 in
set_option maxRecDepth 100000 in
theorem specJoinLogs_any (A : Option Addr) (n c : Nat) (L : List EntryT) (B : Option Addr) (m d : Nat) (M : List EntryT) (w : World) (hn : n ≤ 1000000000) (hl : ∀ x ∈ L, lenE 1000000000 x) (h : Reads2 w 5 A n (rowsE L)) (hc : n ≤ c) (hm : m ≤ 1000000000) (hl' : ∀ x ∈ M, lenE 1000000000 x) (h' : Reads2 w 5 B m (rowsE M)) :
    Calls Try.prog 76 #[.slice A n c, .slice B m d] w (Made4 w 51 3 5 (joinLR L M).1.length (rowsE (joinLR L M).1) (joinLR L M).2) := by
  have HX := Lib.hid (show L.length = n by have := h.len; rw [length_rowsE] at this; omega)
  have HY := Lib.hid (show M.length = m by have := h'.len; rw [length_rowsE] at this; omega)
  have c1 := fun W (hW : Below w.heap.size w W) => lgGood_any A n c L W hn hl (h.below hW)
  have c2 := fun W (hW : Below w.heap.size w W) => lgGood_any B m d M W hm hl' (h'.below hW)
  cases hgL : goodE L with
  | false =>
    have hr : joinLR L M = ([], false) := by simp [joinLR, hgL]
    rw [hr]
    simp only [hgL] at c1
    have C1 := Lib.hid c1
    clear c1 c2 hr h h' hl hl' hgL
    go_enter Try.func76, Try.ntmps76
    go_wp2_with (go_at_call 60; refine (C1.out _ (Below.refl _ _)).mono ?_; rintro e w1 ⟨rfl, hb1⟩; have HB1 := Lib.hid hb1; clear hb1)
    go_ret2
    exact ⟨none, 0, [], rfl, own2_nil _ _, HB1.out⟩
  | true =>
    cases hgM : goodE M with
    | false =>
      have hr : joinLR L M = ([], false) := by simp [joinLR, hgM]
      rw [hr]
      simp only [hgL] at c1
      simp only [hgM] at c2
      have C1 := Lib.hid c1
      have C2 := Lib.hid c2
      clear c1 c2 hr h h' hl hl' hgL hgM
      go_enter Try.func76, Try.ntmps76
      go_wp2_with fail
      refine (C1.out _ (Below.refl _ _)).mono ?_
      rintro e w1 ⟨rfl, hb1⟩
      have HB1 := Lib.hid hb1
      clear hb1
      go_wp2_with fail
      refine (C2.out _ HB1.out).mono ?_
      rintro e w2 ⟨rfl, hb2⟩
      have HB2 := Lib.hid (HB1.out.trans (hb2.mono HB1.out.size))
      clear hb2
      go_wp2
      go_ret2
      exact ⟨none, 0, [], rfl, own2_nil _ _, HB2.out⟩
    | true =>
      have hr : joinLR L M = ifR (joinE L M) := by simp [joinLR, hgM, hgL, ifR]
      rw [hr]
      simp only [hgL] at c1
      simp only [hgM] at c2
      have C1 := Lib.hid c1
      have C2 := Lib.hid c2
      have hn30 : n ≤ 30 := by rw [← HX.out]; exact (goodE_all hgL).2
      have hm30 : m ≤ 30 := by rw [← HY.out]; exact (goodE_all hgM).2
      have HLJ : Hid (∀ x ∈ joinE L M, lenE 1000000000 x) := Lib.hid (fun x hx => by rcases joinE_mem.1 hx with hx | hx; exact hl x hx; exact hl' x hx)
      have HLN : Hid ((joinE L M).length = n + m) := Lib.hid (by rw [joinE_len, HX.out, HY.out])
      have H := Lib.hid h
      have H' := Lib.hid h'
      clear c1 c2 hr h h' hl hl' hgL hgM
      go_enter Try.func76, Try.ntmps76
      go_wp2_with fail
      refine (C1.out _ (Below.refl _ _)).mono ?_
      rintro e w1 ⟨rfl, hb1⟩
      have HB1 := Lib.hid hb1
      clear hb1
      go_wp2_with fail
      refine (C2.out _ HB1.out).mono ?_
      rintro e w2 ⟨rfl, hb2⟩
      have HB2 := Lib.hid (HB1.out.trans (hb2.mono HB1.out.size))
      clear hb2 HB1 C1 C2
      go_wp2
      go_loopw [6, 7, 20] (fun ov iv kv wr => ∃ k i g : Nat, ∃ O o1 C hs, k ≤ m ∧ i ≤ n ∧ kv = .int .i64 k ∧ iv = .int .i64 i ∧ ov = .slice O g o1 ∧ g ≤ i + k ∧ C ++ joinE (L.drop i) (M.drop k) = joinE L M ∧ Shd w wr w.heap.size O g o1 C hs ∧ Below w.heap.size w wr) (fun _ _ kv _ => m - (intOf kv).toNat)
      case atStart => exact ⟨0, 0, 0, none, 0, [], [], Nat.zero_le _, Nat.zero_le _, rfl, rfl, rfl, Nat.zero_le _, rfl, Shd.nil, HB2.out⟩
      case round =>
        obtain ⟨k, i, g, O, o1, C, hs, hk, hi, rfl, rfl, rfl, hgk, hrc, hown, hb⟩ := hrel
        have HRC := Lib.hid hrc; have HO := Lib.hid hown; have HB := Lib.hid hb
        clear hrc hown hb HB2
        have HLO : Hid (w.heap.size ≤ wr.heap.size) := Lib.hid HB.out.size
        by_cases hlt : k < m
        · have hy : k < M.length := by rw [HY.out]; exact hlt
          have HD := Lib.hid (drop_cons hy)
          obtain ⟨bd, B3, d3, B4, d4, rfl, ⟨j0, j1, j2, j3, j4⟩, r3, r4⟩ := rowsE_at2 H'.out hy
          have HS3 := Lib.hid r3; have HS4 := Lib.hid r4
          clear r3 r4
          replace j0 := (HB.out.cell (World.block_lt_of_cell? w _ j0)).trans j0
          replace j1 := (HB.out.cell (World.block_lt_of_cell? w _ j1)).trans j1
          replace j2 := (HB.out.cell (World.block_lt_of_cell? w _ j2)).trans j2
          replace j3 := (HB.out.cell (World.block_lt_of_cell? w _ j3)).trans j3
          replace j4 := (HB.out.cell (World.block_lt_of_cell? w _ j4)).trans j4
          generalize M[k] = y at *
          obtain ⟨yt, ym, yp, yl, yl'⟩ := y
          simp only at j0 j1 j2 j3 j4 HS3 HS4
          rw [HD.out] at HRC
          obtain ⟨wo, rfl⟩ : ∃ wo, wo = wr := ⟨_, rfl⟩
          go_wp2
          clear j0 j1 j2 j3 j4
          have HWA : Hid (RowKit.Below wo.heap.size wo (wo.alloc (.cells #[.int .i64 yt, .int .i64 ym, .int .i64 yp, .slice B3 yl.length d3, .slice B4 yl'.length d4] 51))) := Lib.hid ((Below.refl _ _).alloc (Nat.le_refl _) _)
          go_loopw [6, 7] (fun ov iv wr => ∃ i2 g : Nat, ∃ O o1 C hs, i2 ≤ n ∧ iv = .int .i64 i2 ∧ ov = .slice O g o1 ∧ g ≤ i2 + k ∧ C ++ joinE (L.drop i2) ((yt, ym, yp, yl, yl') :: M.drop (k + 1)) = joinE L M ∧ Shd w wr w.heap.size O g o1 C hs ∧ Below w.heap.size w wr ∧ (Value.slice O g o1).ownBlock ≠ some wo.heap.size ∧ wr.heap[wo.heap.size]? = some (.cells #[.int .i64 yt, .int .i64 ym, .int .i64 yp, .slice B3 yl.length d3, .slice B4 yl'.length d4] 51) ∧ wo.heap.size < wr.heap.size) (fun _ iv _ => n - (intOf iv).toNat)
          case atStart => exact ⟨i, g, O, o1, C, hs, hi, rfl, rfl, hgk, HRC.out, HO.out.below HWA.out, HB.out.trans (HWA.out.mono HB.out.size), own_ne_of_lt HO.out.row (.inr (Nat.le_refl _)), heap_alloc_new wo _, by simp⟩
          case round =>
            clear HRC HO HB HLO HWA hgk hi
            obtain ⟨i2, g, O, o1, C, hs, hi, rfl, rfl, hgk, hrc, hown, hb, hnb, hbx, hlx⟩ := hrel
            have HRC := Lib.hid hrc; have HO := Lib.hid hown; have HB := Lib.hid hb; have HNB := Lib.hid hnb; have HBX := Lib.hid hbx; have HLX := Lib.hid hlx
            clear hrc hown hb hnb hbx hlx
            have b0 := (box_at HBX.out (j := 0) rfl).1
            by_cases hin : i2 < n
            · have hx : i2 < L.length := by rw [HX.out]; exact hin
              have HDL := Lib.hid (drop_cons hx)
              obtain ⟨ad, A3, c3, A4, c4, rfl, ⟨k0, k1, k2, k3, k4⟩, r3, r4⟩ := rowsE_at2 H.out hx
              have HR3 := Lib.hid r3; have HR4 := Lib.hid r4
              clear r3 r4
              replace k0 := (HB.out.cell (World.block_lt_of_cell? w _ k0)).trans k0
              replace k1 := (HB.out.cell (World.block_lt_of_cell? w _ k1)).trans k1
              replace k2 := (HB.out.cell (World.block_lt_of_cell? w _ k2)).trans k2
              replace k3 := (HB.out.cell (World.block_lt_of_cell? w _ k3)).trans k3
              replace k4 := (HB.out.cell (World.block_lt_of_cell? w _ k4)).trans k4
              generalize L[i2] = x at *
              obtain ⟨t, mm, p, l, l'⟩ := x
              simp only at k0 k1 k2 k3 k4 HR3 HR4
              have hiz : (i2 : Int) < (n : Int) := by omega
              have hid1 : decide ((i2 : Int) < (n : Int)) = true := decide_eq_true hiz
              by_cases hle : t ≤ yt
              · have hid2 : decide (t ≤ yt) = true := decide_eq_true hle
                have HNX : Hid (joinE (L.drop i2) ((yt, ym, yp, yl, yl') :: M.drop (k + 1)) = (t, mm, p, l, l') :: joinE (L.drop (i2 + 1)) ((yt, ym, yp, yl, yl') :: M.drop (k + 1))) := Lib.hid (by rw [HDL.out, joinE_low (fun z hz => by simp at hz; subst hz; exact hle)])
                have hii : (0 : Int) ≤ (i2 : Int) := by omega
                go_wp2
                go_quiet (fail)
                obtain ⟨wq, hwq⟩ : ∃ wq, wq = wr.drewN nq := ⟨_, rfl⟩
                have HQB : Hid (RowKit.Below wr.heap.size wr wq) := Lib.hid (by rw [hwq]; exact below_toN (Below.refl _ _) nq)
                have HQZ : Hid (wq.heap = wr.heap) := Lib.hid (by rw [hwq]; rfl)
                rw [← hwq]
                clear hwq
                replace HO := Lib.hid (HO.out.below HQB.out)
                replace HB := Lib.hid (HB.out.trans (HQB.out.mono HB.out.size))
                replace HBX : Hid (wq.heap[wo.heap.size]? = some (.cells #[.int .i64 yt, .int .i64 ym, .int .i64 yp, .slice B3 yl.length d3, .slice B4 yl'.length d4] 51)) := Lib.hid (by rw [HQZ.out]; exact HBX.out)
                have q0 := bel_cell0 HQB.out k0; have q1 := bel_cell0 HQB.out k1; have q2 := bel_cell0 HQB.out k2; have q3 := bel_cell0 HQB.out k3; have q4 := bel_cell0 HQB.out k4
                clear k0 k1 k2 k3 k4 b0
                have HLO : Hid (w.heap.size ≤ wq.heap.size) := Lib.hid HB.out.size
                go_wp2_with (at_builtin; refine wpList_pushL _ rfl (.tmp 38) (.tmp 43) 27 rfl w.heap.size 51 _ 5 72 infoEntry rfl (by omega) Try.underlying27 O g o1 hs rfl (own_below HO.out.row ((Below.refl _ _).alloc (Nat.le_refl _) _)) (some ⟨wq.heap.size, 0, none⟩) 1 1 [.int .i64 t, .int .i64 mm, .int .i64 p, .slice A3 l.length c3, .slice A4 l'.length c4] rfl (reads_litk _ _ _ rfl) (by simp [Value.oneCell']) (by omega) (by omega) (by have := HLO.out; simp; omega) ?_; intro O2 o2 w7 hown7 hg7 hb7 hloc7)
                clear q0 q1 q2 q3 q4
                have HO7 := Lib.hid (HO.out.push (N := [(t, mm, p, l, l')]) hown7 rfl (one_entry HR3.out HR4.out))
                have HB7 : Hid (Below w.heap.size w w7) := Lib.hid ((HB.out.alloc HLO.out _).trans hb7)
                have hzq : wq.heap.size = wr.heap.size := by rw [HQZ.out]
                have hx7 : w7.heap[wo.heap.size]? = some (.cells #[.int .i64 yt, .int .i64 ym, .int .i64 yp, .slice B3 yl.length d3, .slice B4 yl'.length d4] 51) := by
                  refine (hg7.block _ (by have := HLX.out; rw [World.size_alloc]; omega) (fun e => HNB.out e.symm)).trans ?_
                  exact box_after (B := wq.heap.size) ((Below.refl _ _).alloc (Nat.le_refl _) _) (by have := HLX.out; omega) HBX.out
                have hn7 : (Value.slice O2 (g + 1) o2).ownBlock ≠ some wo.heap.size := by
                  rcases hloc7 with e | e
                  · rw [e]; exact HNB.out
                  · rw [e]; have := HLX.out; simp; omega
                have hl7 : wo.heap.size < w7.heap.size := by have h1 := hg7.size; have := HLX.out; rw [World.size_alloc] at h1; omega
                have HX7 := Lib.hid hx7; have HN7 := Lib.hid hn7; have HL7 := Lib.hid hl7
                clear hown7 hg7 hb7 hloc7 hzq hx7 hn7 hl7
                go_roundw
                case rel => exact ⟨i2 + 1, g + 1, O2, o2, C ++ [(t, mm, p, l, l')], hs ++ [.int .i64 t, .int .i64 mm, .int .i64 p, .slice A3 l.length c3, .slice A4 l'.length c4], by omega, by go_num, rfl, by omega, by rw [← HRC.out, HNX.out]; simp, HO7.out, HB7.out, HN7.out, HX7.out, HL7.out⟩
                case measure => simp [intOf]; omega
              · have hid2 : decide (t ≤ yt) = false := decide_eq_false hle
                clear k1 k2 k3 k4
                have hii : (0 : Int) ≤ (i2 : Int) := by omega
                go_wp2
                go_quiet (fail)
                obtain ⟨wq, hwq⟩ : ∃ wq, wq = wr.drewN nq := ⟨_, rfl⟩
                have HQB : Hid (RowKit.Below wr.heap.size wr wq) := Lib.hid (by rw [hwq]; exact below_toN (Below.refl _ _) nq)
                have HQZ : Hid (wq.heap = wr.heap) := Lib.hid (by rw [hwq]; rfl)
                rw [← hwq]
                clear hwq
                replace HO := Lib.hid (HO.out.below HQB.out)
                replace HB := Lib.hid (HB.out.trans (HQB.out.mono HB.out.size))
                replace HBX : Hid (wq.heap[wo.heap.size]? = some (.cells #[.int .i64 yt, .int .i64 ym, .int .i64 yp, .slice B3 yl.length d3, .slice B4 yl'.length d4] 51)) := Lib.hid (by rw [HQZ.out]; exact HBX.out)
                clear k0 b0
                have HNY : Hid (joinE (L.drop i2) ((yt, ym, yp, yl, yl') :: M.drop (k + 1)) = (yt, ym, yp, yl, yl') :: joinE (L.drop i2) (M.drop (k + 1))) := Lib.hid (by rw [HDL.out, joinE_high (x := (t, mm, p, l, l')) (y := (yt, ym, yp, yl, yl')) (by show ¬ t ≤ yt; omega)])
                obtain ⟨⟨b0, _⟩, ⟨b1, _⟩, ⟨b2, _⟩, ⟨b3, _⟩, ⟨b4, _⟩⟩ := And.intro (box_at HBX.out (j := 0) rfl) (And.intro (box_at HBX.out (j := 1) rfl) (And.intro (box_at HBX.out (j := 2) rfl) (And.intro (box_at HBX.out (j := 3) rfl) (box_at HBX.out (j := 4) rfl))))
                have HLO : Hid (w.heap.size ≤ wq.heap.size) := Lib.hid HB.out.size
                go_wp2_with (at_builtin; refine wpList_pushL _ rfl (.tmp 47) (.tmp 49) 27 rfl w.heap.size 51 _ 5 72 infoEntry rfl (by omega) Try.underlying27 O g o1 hs rfl (own_below HO.out.row ((Below.refl _ _).alloc (Nat.le_refl _) _)) (some ⟨wq.heap.size, 0, none⟩) 1 1 [.int .i64 yt, .int .i64 ym, .int .i64 yp, .slice B3 yl.length d3, .slice B4 yl'.length d4] rfl (reads_litk _ _ _ rfl) (by simp [Value.oneCell']) (by omega) (by omega) (by have := HLO.out; simp; omega) ?_; intro O2 o2 w7 hown7 hg7 hb7 hloc7)
                clear b0 b1 b2 b3 b4
                have HO7 := Lib.hid (HO.out.push (N := [(yt, ym, yp, yl, yl')]) hown7 rfl (one_entry HS3.out HS4.out))
                have HB7 : Hid (Below w.heap.size w w7) := Lib.hid ((HB.out.alloc HLO.out _).trans hb7)
                clear hown7 hg7 hb7 hloc7
                go_roundw
                case rel => exact ⟨k + 1, i2, g + 1, O2, o2, C ++ [(yt, ym, yp, yl, yl')], hs ++ [.int .i64 yt, .int .i64 ym, .int .i64 yp, .slice B3 yl.length d3, .slice B4 yl'.length d4], by omega, by omega, by go_num, rfl, rfl, by omega, by rw [← HRC.out, HNY.out]; simp, HO7.out, HB7.out⟩
                case measure => simp [intOf]; omega
            · obtain rfl : i2 = n := by omega
              have hid1 : decide ((i2 : Int) < (i2 : Int)) = false := decide_eq_false (by omega)
              have hii : (0 : Int) ≤ (i2 : Int) := by omega
              go_wp2
              go_quiet (fail)
              obtain ⟨wq, hwq⟩ : ∃ wq, wq = wr.drewN nq := ⟨_, rfl⟩
              have HQB : Hid (RowKit.Below wr.heap.size wr wq) := Lib.hid (by rw [hwq]; exact below_toN (Below.refl _ _) nq)
              have HQZ : Hid (wq.heap = wr.heap) := Lib.hid (by rw [hwq]; rfl)
              rw [← hwq]
              clear hwq
              replace HO := Lib.hid (HO.out.below HQB.out)
              replace HB := Lib.hid (HB.out.trans (HQB.out.mono HB.out.size))
              replace HBX : Hid (wq.heap[wo.heap.size]? = some (.cells #[.int .i64 yt, .int .i64 ym, .int .i64 yp, .slice B3 yl.length d3, .slice B4 yl'.length d4] 51)) := Lib.hid (by rw [HQZ.out]; exact HBX.out)
              clear b0
              have HNY : Hid (joinE (L.drop i2) ((yt, ym, yp, yl, yl') :: M.drop (k + 1)) = (yt, ym, yp, yl, yl') :: joinE (L.drop i2) (M.drop (k + 1))) := Lib.hid (by rw [List.drop_eq_nil_of_le (by rw [HX.out]; exact Nat.le_refl _), joinE_nill, joinE_nill])
              obtain ⟨⟨b0, _⟩, ⟨b1, _⟩, ⟨b2, _⟩, ⟨b3, _⟩, ⟨b4, _⟩⟩ := And.intro (box_at HBX.out (j := 0) rfl) (And.intro (box_at HBX.out (j := 1) rfl) (And.intro (box_at HBX.out (j := 2) rfl) (And.intro (box_at HBX.out (j := 3) rfl) (box_at HBX.out (j := 4) rfl))))
              have HLO : Hid (w.heap.size ≤ wq.heap.size) := Lib.hid HB.out.size
              go_wp2_with (at_builtin; refine wpList_pushL _ rfl (.tmp 47) (.tmp 49) 27 rfl w.heap.size 51 _ 5 72 infoEntry rfl (by omega) Try.underlying27 O g o1 hs rfl (own_below HO.out.row ((Below.refl _ _).alloc (Nat.le_refl _) _)) (some ⟨wq.heap.size, 0, none⟩) 1 1 [.int .i64 yt, .int .i64 ym, .int .i64 yp, .slice B3 yl.length d3, .slice B4 yl'.length d4] rfl (reads_litk _ _ _ rfl) (by simp [Value.oneCell']) (by omega) (by omega) (by have := HLO.out; simp; omega) ?_; intro O2 o2 w7 hown7 hg7 hb7 hloc7)
              clear b0 b1 b2 b3 b4
              have HO7 := Lib.hid (HO.out.push (N := [(yt, ym, yp, yl, yl')]) hown7 rfl (one_entry HS3.out HS4.out))
              have HB7 : Hid (Below w.heap.size w w7) := Lib.hid ((HB.out.alloc HLO.out _).trans hb7)
              clear hown7 hg7 hb7 hloc7
              go_roundw
              case rel => exact ⟨k + 1, i2, g + 1, O2, o2, C ++ [(yt, ym, yp, yl, yl')], hs ++ [.int .i64 yt, .int .i64 ym, .int .i64 yp, .slice B3 yl.length d3, .slice B4 yl'.length d4], by omega, by omega, by go_num, rfl, rfl, by omega, by rw [← HRC.out, HNY.out]; simp, HO7.out, HB7.out⟩
              case measure => simp [intOf]; omega
        · obtain rfl : k = m := by omega
          have e1 : M.drop k = [] := List.drop_eq_nil_of_le (by rw [HY.out]; exact Nat.le_refl _)
          have hrf := HRC.out
          rw [e1, joinE_nil] at hrf
          have HRF := Lib.hid hrf
          clear hrf e1 HRC
          have hiz : (i : Int) ≤ (n : Int) := by omega
          have hizc : (n : Int) ≤ (c : Int) := by omega
          obtain ⟨hsL, hrL, hlL, hcL⟩ := H.out
          have HRL : Hid (Reads wr 5 (if c = i then A else Option.map (fun x => x.add (i * 5)) A) (n - i) (hsL.drop (i * 5))) := Lib.hid (by
            split
            · next hci =>
              refine ⟨?_, fun h0 => by omega⟩
              rw [List.length_drop, hrL.1]
              omega
            · exact reads_from (hrL.below HB.out) hi)
          have HON : Hid (∀ u ∈ hsL.drop (i * 5), u.oneCell' = true) := Lib.hid (fun u hu => one_hsE hlL hcL u (List.mem_of_mem_drop hu))
          have HCN : Hid (∀ (j : Nat) (u : Value) (x : Cel), (hsL.drop (i * 5))[j]? = some u → (rowsE (L.drop i))[j]? = some x → readsC w u x) := Lib.hid (fun j u x hu hx => by
            rw [List.getElem?_drop] at hu
            rw [← rowsE_drop, List.getElem?_drop] at hx
            exact hcL _ u x hu hx)
          clear hrL hlL hcL
          go_wp2_with (first | (at_builtin; refine wpList_pushL _ rfl (.tmp 52) (.tmp 55) 27 rfl w.heap.size 51 _ 5 72 infoEntry rfl (by omega) Try.underlying27 O g o1 hs rfl HO.out.row (if c = i then A else Option.map (fun x => x.add (i * 5)) A) (n - i) (c - i) (hsL.drop (i * 5)) (by first | rfl | (simp; done) | (simp [go_sem]; done)) HRL.out HON.out (by omega) (by omega) HLO.out ?_; intro O2 o2 w7 hown7 hg7 hb7 hloc7; have ho7 := HO.out.push (N := L.drop i) hown7 (by rw [List.length_drop, HX.out]) HCN.out; rw [HRF.out] at ho7; have HO7 := Lib.hid ho7; have HB7 : Hid (Below w.heap.size w w7) := Lib.hid (HB.out.trans hb7); clear ho7 hown7 hg7 hb7 hloc7 HRL HON HCN) | (go_at_call 97; refine (lgIfG_any O2 (g + (n - i)) o2 (joinE L M) w7 (by omega) HLJ.out (HO7.out.reads HB7.out)).mono ?_; rintro e w8 ⟨O3, o3, hs3, rfl, ho, hb8⟩; have HO8 := Lib.hid (ho.mono_lo HB7.out.size); have HB8 := Lib.hid (HB7.out.trans (hb8.mono HB7.out.size)); clear ho hb8))
          all_goals
            go_ret2
            exact ⟨O3, o3, hs3, rfl, HO8.out, HB8.out⟩

end Go.Proofs.Ytcjmlakmigfkfaa

namespace Go.Proofs.Ytcjmlakmigfkfaa
set_option linter.unusedSimpArgs false
set_option linter.unusedVariables false
open Go.RowKit

set_option maxHeartbeats 1000000 in
/-- An entry of two fresh slices is written into its place. -/
theorem Own2.set_entry {w1 : World} {g b n q b3 b4 d3 d4 : Nat} {B3 B4 : Option Addr} {L : List EntryT} {old hs : List Value} {a0 a1 a2 : Int} {l3 l4 : List Int}
    (P0 : Own2 w1 g b 51 3 5 (some ⟨g, 0, none⟩) n n ((rowsE L).take (q * 5) ++ (old.map Sum.inl).drop (q * 5)) hs) (hgz : g < b) (hbz : b ≤ w1.heap.size) (hq : q < n) (hL : L.length = n) (hold : old.length = n * 5)
    (HG : ∀ j, j < 5 → (rowsE L)[q * 5 + j]? = (celEntry (a0, a1, a2, l3, l4))[j]?) (Q3_0 : w1.ownsRow b3 3 1 (.slice B3 l3.length d3) l3.length (ints l3)) (h3 : b ≤ b3) (Q4_0 : w1.ownsRow b4 3 1 (.slice B4 l4.length d4) l4.length (ints l4)) (h4 : b ≤ b4) (HAP : Go.Proofs.Ytcjmlakmigfkfaa.apart (.slice B3 l3.length d3) (.slice B4 l4.length d4)) :
    Own2 (((((w1.setCell ⟨g, q * 5, none⟩ (.int .i64 a0)).setCell ⟨g, q * 5 + 1, none⟩ (.int .i64 a1)).setCell ⟨g, q * 5 + 2, none⟩ (.int .i64 a2)).setCell ⟨g, q * 5 + 3, none⟩ (.slice B3 l3.length d3)).setCell ⟨g, q * 5 + 4, none⟩ (.slice B4 l4.length d4)) g w1.heap.size 51 3 5 (some ⟨g, 0, none⟩) n n ((rowsE L).take ((q + 1) * 5) ++ (old.map Sum.inl).drop ((q + 1) * 5))
      (((((hs.set (q * 5) (.int .i64 a0)).set (q * 5 + 1) (.int .i64 a1)).set (q * 5 + 2) (.int .i64 a2)).set (q * 5 + 3) (.slice B3 l3.length d3)).set (q * 5 + 4) (.slice B4 l4.length d4)) := by
  have N0 : hs.length = n * 5 := P0.row.1
  have D0' : ∀ (i : Nat) (v : Value), hs[i]? = some v → ∀ q, v.ownBlock = some q → q < b := fun i v hv q hq => (P0.bounds i v hv q hq).2
  have P1 := P0.put_plain (j := q * 5) (u := .int .i64 a0) (by rw [N0]; omega) rfl
  have D1' : ∀ (i : Nat) (v : Value), (hs.set (q * 5) (.int .i64 a0))[i]? = some v → ∀ q, v.ownBlock = some q → q < b := fun i v hv => by
    rcases set_cases hv with ⟨_, rfl⟩ | ⟨_, hv⟩
    · exact fun q hq => by cases hq
    · exact D0' i v hv
  have Q3_1 := own_setCell (b := g) (i := q * 5) (u := .int .i64 a0) Q3_0 (by omega)
  have Q4_1 := own_setCell (b := g) (i := q * 5) (u := .int .i64 a0) Q4_0 (by omega)
  have N1 : (hs.set (q * 5) (.int .i64 a0)).length = n * 5 := by simp [N0]
  have P2 := P1.put_plain (j := q * 5 + 1) (u := .int .i64 a1) (by rw [N1]; omega) rfl
  have D2' : ∀ (i : Nat) (v : Value), ((hs.set (q * 5) (.int .i64 a0)).set (q * 5 + 1) (.int .i64 a1))[i]? = some v → ∀ q, v.ownBlock = some q → q < b := fun i v hv => by
    rcases set_cases hv with ⟨_, rfl⟩ | ⟨_, hv⟩
    · exact fun q hq => by cases hq
    · exact D1' i v hv
  have Q3_2 := own_setCell (b := g) (i := q * 5 + 1) (u := .int .i64 a1) Q3_1 (by omega)
  have Q4_2 := own_setCell (b := g) (i := q * 5 + 1) (u := .int .i64 a1) Q4_1 (by omega)
  have N2 : ((hs.set (q * 5) (.int .i64 a0)).set (q * 5 + 1) (.int .i64 a1)).length = n * 5 := by simp [N0]
  have P3 := P2.put_plain (j := q * 5 + 2) (u := .int .i64 a2) (by rw [N2]; omega) rfl
  have D3' : ∀ (i : Nat) (v : Value), (((hs.set (q * 5) (.int .i64 a0)).set (q * 5 + 1) (.int .i64 a1)).set (q * 5 + 2) (.int .i64 a2))[i]? = some v → ∀ q, v.ownBlock = some q → q < b := fun i v hv => by
    rcases set_cases hv with ⟨_, rfl⟩ | ⟨_, hv⟩
    · exact fun q hq => by cases hq
    · exact D2' i v hv
  have Q3_3 := own_setCell (b := g) (i := q * 5 + 2) (u := .int .i64 a2) Q3_2 (by omega)
  have Q4_3 := own_setCell (b := g) (i := q * 5 + 2) (u := .int .i64 a2) Q4_2 (by omega)
  have N3 : (((hs.set (q * 5) (.int .i64 a0)).set (q * 5 + 1) (.int .i64 a1)).set (q * 5 + 2) (.int .i64 a2)).length = n * 5 := by simp [N0]
  have P4 := P3.put_apart (hi2 := w1.heap.size) (l := ints l3) (j := q * 5 + 3) (by rw [N3]; omega) l3.length (by simp) Q3_3 (by omega) (by omega) hbz (own_lt Q3_0) (fun i v _ hv => apart_of_lt (D3' i v hv) (fun q hq => Nat.le_trans h3 (Q3_3.lt q hq).1))
  have D4' : ∀ (i : Nat) (v : Value), ((((hs.set (q * 5) (.int .i64 a0)).set (q * 5 + 1) (.int .i64 a1)).set (q * 5 + 2) (.int .i64 a2)).set (q * 5 + 3) (.slice B3 l3.length d3))[i]? = some v → (∀ q, v.ownBlock = some q → q < b) ∨ v = .slice B3 l3.length d3 := fun i v hv => by
    rcases set_cases hv with ⟨_, rfl⟩ | ⟨_, hv⟩
    · exact .inr rfl
    · exact .inl (D3' i v hv)
  have Q4_4 := own_setCell (b := g) (i := q * 5 + 3) (u := .slice B3 l3.length d3) Q4_3 (by omega)
  have N4 : ((((hs.set (q * 5) (.int .i64 a0)).set (q * 5 + 1) (.int .i64 a1)).set (q * 5 + 2) (.int .i64 a2)).set (q * 5 + 3) (.slice B3 l3.length d3)).length = n * 5 := by simp [N0]
  have P5 := P4.put_apart (hi2 := w1.heap.size) (l := ints l4) (j := q * 5 + 4) (by rw [N4]; omega) l4.length (by simp) Q4_4 (by omega) (by omega) (Nat.le_refl _) (own_lt Q4_0) (fun i v _ hv => by
      rcases D4' i v hv with h | rfl
      · exact apart_of_lt h (fun q hq => Nat.le_trans h4 (Q4_4.lt q hq).1)
      · exact HAP)
  have N5 : (((((hs.set (q * 5) (.int .i64 a0)).set (q * 5 + 1) (.int .i64 a1)).set (q * 5 + 2) (.int .i64 a2)).set (q * 5 + 3) (.slice B3 l3.length d3)).set (q * 5 + 4) (.slice B4 l4.length d4)).length = n * 5 := by simp [N0]
  clear P0 P1 P2 P3 P4 D0' D1' D2' D3' D4'
  have T0 : (rowsE L)[q * 5]? = some (.inl (.int .i64 a0)) := by have h := HG 0 (by omega); simpa [celEntry] using h
  have T1 : (rowsE L)[q * 5 + 1]? = some (.inl (.int .i64 a1)) := by have h := HG 1 (by omega); simpa [celEntry] using h
  have T2 : (rowsE L)[q * 5 + 2]? = some (.inl (.int .i64 a2)) := by have h := HG 2 (by omega); simpa [celEntry] using h
  have T3 : (rowsE L)[q * 5 + 3]? = some (.inr (ints l3)) := by have h := HG 3 (by omega); simpa [celEntry] using h
  have T4 : (rowsE L)[q * 5 + 4]? = some (.inr (ints l4)) := by have h := HG 4 (by omega); simpa [celEntry] using h
  rw [two_set (n := n * 5) (by simp [hL]) (by simp [hold]) (by omega) T0, two_set (n := n * 5) (by simp [hL]) (by simp [hold]) (by omega) T1, two_set (n := n * 5) (by simp [hL]) (by simp [hold]) (by omega) T2, two_set (n := n * 5) (by simp [hL]) (by simp [hold]) (by omega) T3, two_set (n := n * 5) (by simp [hL]) (by simp [hold]) (by omega) T4] at P5
  rw [show q * 5 + 4 + 1 = (q + 1) * 5 by omega] at P5
  exact P5

set_option maxHeartbeats 4000000 in
set_option maxRecDepth 100000 in
theorem cloneLog_any (A : Option Addr) (n c : Nat) (L : List EntryT) (w : World) (hn : n ≤ 1000000000) (hl : ∀ x ∈ L, lenE 1000000000 x) (h : Reads2 w 5 A n (rowsE L)) :
    Calls Try.prog 101 #[.slice A n c] w fun e w' => ∃ g c' hs, e = .returned (.slice (some ⟨g, 0, none⟩) n c') ∧ Own2 w' w.heap.size w'.heap.size 51 3 5 (some ⟨g, 0, none⟩) n c' (rowsE L) hs ∧ Below w.heap.size w w' := by
  have HX := Lib.hid (show L.length = n by have := h.len; rw [length_rowsE] at this; omega)
  have HL := Lib.hid hl
  have H := Lib.hid h
  clear h hl
  go_enter Try.func101, Try.ntmps101
  go_wp2_with (at_make; refine wpList_mkP _ rfl (.tmp 7) (.tmp 7) 27 rfl w.heap.size 51 _ 5 _ infoEntry (by decide) Try.underlying27 (fun u => u.ownBlock = none) (by simp [Value.cells, Value.ownBlock]) _ _ _ _ n rfl rfl rfl rfl (by omega) (by omega) (Nat.le_refl _) ?_; intro w1 old hol hall hown1 hb1 hz1)
  have hown2 : Own2 w1 w.heap.size w1.heap.size 51 3 5 (some ⟨w.heap.size, 0, none⟩) n n ((rowsE L).take (0 * 5) ++ (old.map Sum.inl).drop (0 * 5)) old := by simpa using own2_plain (ei := 3) hown1 hz1 hall
  have HS0 := Lib.hid (And.intro hown2 (And.intro hb1 hz1))
  have HOL := Lib.hid hol
  clear hown1 hown2 hb1 hz1 hol hall
  generalize hg : w.heap.size = g at *
  go_loopw [11] (fun i wr => ∃ q hs, q ≤ n ∧ i = .int .i64 (q : Nat) ∧ Own2 wr g wr.heap.size 51 3 5 (some ⟨g, 0, none⟩) n n ((rowsE L).take (q * 5) ++ (old.map Sum.inl).drop (q * 5)) hs ∧ Below g w wr ∧ g < wr.heap.size) (fun i _ => n - (intOf i).toNat)
  case atStart => exact ⟨0, _, Nat.zero_le _, rfl, HS0.out.1, HS0.out.2.1, HS0.out.2.2⟩
  case round =>
    obtain ⟨q, hs, hk, rfl, hown, hb, hgz⟩ := hrel
    clear HS0
    have HO := Lib.hid hown; clear hown
    have HB := Lib.hid hb; clear hb
    have HGZ := Lib.hid hgz; clear hgz
    by_cases hlt : q < n
    · have hx : q < L.length := by rw [HX.out]; exact hlt
      obtain ⟨ad, A3, c3, A4, c4, rfl, k0, k1, k2, k3, k4, r3, r4⟩ := rowsE_at (H.out.keep (w' := wr) (fun p hp => HB.out.cell (by omega))) hx
      have HXL := Lib.hid (HL.out L[q] (List.getElem_mem hx))
      have HG : Hid (∀ j, j < 5 → (rowsE L)[q * 5 + j]? = (celEntry L[q])[j]?) := Lib.hid (fun j hj => rowsE_get hx hj)
      generalize L[q] = x at *
      obtain ⟨a0, a1, a2, l3, l4⟩ := x
      simp only at k0 k1 k2 k3 k4 r3 r4
      have HR3 := Lib.hid r3; clear r3
      have HR4 := Lib.hid r4; clear r4
      have hx3 : l3.length ≤ 1000000000 := by have := HXL.out; unfold lenE at this; exact this.1
      have hx4 : l4.length ≤ 1000000000 := by have := HXL.out; unfold lenE at this; exact this.2
      have HWS : Hid (Below wr.heap.size wr (wr.alloc (.cells #[.int .i64 a0, .int .i64 a1, .int .i64 a2, .slice A3 l3.length c3, .slice A4 l4.length c4] 51))) := Lib.hid ((Below.refl _ _).alloc (Nat.le_refl _) _)
      go_wp2_with fail
      clear k0 k1 k2 k3 k4
      obtain ⟨wx, hwx⟩ : ∃ wx, wx = wr.alloc (.cells #[.int .i64 a0, .int .i64 a1, .int .i64 a2, .slice A3 l3.length c3, .slice A4 l4.length c4] 51) := ⟨_, rfl⟩
      have HWX : Hid (Below wr.heap.size wr wx ∧ wx.heap.size = wr.heap.size + 1 ∧ wx.heap[wr.heap.size]? = some (.cells #[.int .i64 a0, .int .i64 a1, .int .i64 a2, .slice A3 l3.length c3, .slice A4 l4.length c4] 51)) := Lib.hid (by rw [hwx]; exact ⟨HWS.out, by simp, heap_alloc_new wr _⟩)
      rw [← hwx]
      clear hwx
      have x3 := box_at HWX.out.2.2 (j := 3) rfl
      have x4 := box_at HWX.out.2.2 (j := 4) rfl
      obtain ⟨x3, f3⟩ := x3
      obtain ⟨x4, f4⟩ := x4
      have HLX : Hid (wr.heap.size < wx.drew.heap.size) := Lib.hid (by have := HWX.out.2.1; show wr.heap.size < wx.heap.size; omega)
      have HWD : Hid (Below wr.heap.size wr wx.drew) := Lib.hid HWX.out.1.drew
      go_region_with (first | (go_at_call_of 98 (Value.slice A3 l3.length c3); refine (clone_any A3 l3.length c3 l3 wx.drew hx3 (HR3.out.below HWD.out)).mono ?_; rintro e wa ⟨Q3, q3, rfl, hoa, hba⟩; have HBA := Lib.hid (box_after hba HLX.out HWX.out.2.2); obtain ⟨y3, g3⟩ := box_at HBA.out (j := 3) rfl; obtain ⟨y4, g4⟩ := box_at HBA.out (j := 4) rfl; have HLA := Lib.hid (Nat.lt_of_lt_of_le HLX.out hba.size)) | (go_at_call_of 98 (Value.slice A4 l4.length c4); refine (clone_any A4 l4.length c4 l4 wa hx4 ((HR4.out.below HWD.out).below hba)).mono ?_; rintro e wb ⟨Q4, q4, rfl, hob, hbb⟩; have HBB := Lib.hid (box_after hbb HLA.out HBA.out); obtain ⟨z3, t3⟩ := box_at HBB.out (j := 3) rfl; obtain ⟨z4, t4⟩ := box_at HBB.out (j := 4) rfl))
      all_goals
        clear x3 x4 f3 f4 y3 y4 g3 g4 z3 z4 t3 t4
        have h1 := box_set (j := 3) (u := .slice Q3 l3.length q3) HBB.out
        have h2 := box_set (j := 4) (u := .slice Q4 l4.length q4) h1
        obtain ⟨wz, hwz⟩ : ∃ wz, wz = (wb.setCell ⟨wr.heap.size, 3, none⟩ (.slice Q3 l3.length q3)).setCell ⟨wr.heap.size, 4, none⟩ (.slice Q4 l4.length q4) := ⟨_, rfl⟩
        rw [← hwz] at h2 ⊢
        have hz : wz.heap.size = wb.heap.size := by rw [hwz]; simp
        have hsa := hba.size
        have hsb := hbb.size
        have hlx := HLX.out
        have hBz : Below wr.heap.size wr wz := by
          rw [hwz]
          exact (((HWD.out.trans (hba.mono (by omega))).trans (hbb.mono (by omega))).setCell (p := ⟨wr.heap.size, 3, none⟩) (Nat.le_refl _) _).setCell (p := ⟨wr.heap.size, 4, none⟩) (Nat.le_refl _) _
        have r3 : wz.ownsRow wx.drew.heap.size 3 1 (.slice Q3 l3.length q3) l3.length (ints l3) := by
          rw [hwz]
          exact own_setCell (b := wr.heap.size) (i := 4) (u := .slice Q4 l4.length q4) (own_setCell (b := wr.heap.size) (i := 3) (u := .slice Q3 l3.length q3) (own_below hoa hbb) hlx) hlx
        have r4 : wz.ownsRow wa.heap.size 3 1 (.slice Q4 l4.length q4) l4.length (ints l4) := by
          rw [hwz]
          exact own_setCell (b := wr.heap.size) (i := 4) (u := .slice Q4 l4.length q4) (own_setCell (b := wr.heap.size) (i := 3) (u := .slice Q3 l3.length q3) hob HLA.out) HLA.out
        have hap : apart (.slice Q3 l3.length q3) (.slice Q4 l4.length q4) := apart_of_lt (b := wa.heap.size) (fun q hq => (hoa.lt q hq).2) (fun q hq => (hob.lt q hq).1)
        have P0 := HO.out.below hBz (Nat.le_refl _)
        have HN := Lib.hid (Own2.set_entry P0 HGZ.out hBz.size hlt HX.out HOL.out HG.out r3 (by omega) r4 (by omega) hap)
        have hol : hs.length = n * 5 := P0.row.1
        have fc : ∀ j, q * 5 + j < n * 5 → ∃ o, wz.cell? ⟨g, q * 5 + j, none⟩ = some o := fun j hj => ⟨_, by rw [P0.row.cellAt _ (by omega)]; exact List.getElem?_eq_getElem (by rw [hol]; exact hj)⟩
        have hst : (∃ o0 o1 o2 o3 o4, wz.cell? ⟨g, q * 5, none⟩ = some o0 ∧ wz.cell? ⟨g, q * 5 + 1, none⟩ = some o1 ∧ wz.cell? ⟨g, q * 5 + 2, none⟩ = some o2 ∧ wz.cell? ⟨g, q * 5 + 3, none⟩ = some o3 ∧ wz.cell? ⟨g, q * 5 + 4, none⟩ = some o4) ∧ wz.frozen? ⟨g, q * 5, none⟩ = false ∧ wz.frozen? ⟨g, q * 5 + 1, none⟩ = false ∧ wz.frozen? ⟨g, q * 5 + 2, none⟩ = false ∧ wz.frozen? ⟨g, q * 5 + 3, none⟩ = false ∧ wz.frozen? ⟨g, q * 5 + 4, none⟩ = false := by
          obtain ⟨o0, e0⟩ := fc 0 (by omega)
          obtain ⟨o1, e1⟩ := fc 1 (by omega)
          obtain ⟨o2, e2⟩ := fc 2 (by omega)
          obtain ⟨o3, e3⟩ := fc 3 (by omega)
          obtain ⟨o4, e4⟩ := fc 4 (by omega)
          exact ⟨⟨o0, o1, o2, o3, o4, e0, e1, e2, e3, e4⟩, P0.row.frozenAt _, P0.row.frozenAt _, P0.row.frozenAt _, P0.row.frozenAt _, P0.row.frozenAt _⟩
        obtain ⟨⟨o0, o1, o2, o3, o4, e0, e1, e2, e3, e4⟩, p0, p1, p2, p3, p4⟩ := hst
        have hbx : wz.heap[wr.heap.size]? = some (.cells #[.int .i64 a0, .int .i64 a1, .int .i64 a2, .slice Q3 l3.length q3, .slice Q4 l4.length q4] 51) := by simpa using h2
        have HBX := Lib.hid hbx
        have HBZ := Lib.hid (HB.out.trans (hBz.mono (Nat.le_of_lt HGZ.out)))
        have HZ2 : Hid (g < wz.heap.size) := Lib.hid (by have := HGZ.out; omega)
        clear hwz hz hsa hsb hlx hBz r3 r4 hap P0 hol fc h1 h2 hbx hoa hob hba hbb HBA HBB HLA
        obtain ⟨v0, _⟩ := box_at HBX.out (j := 0) rfl
        obtain ⟨v1, _⟩ := box_at HBX.out (j := 1) rfl
        obtain ⟨v2, _⟩ := box_at HBX.out (j := 2) rfl
        obtain ⟨v3, _⟩ := box_at HBX.out (j := 3) rfl
        obtain ⟨v4, _⟩ := box_at HBX.out (j := 4) rfl
        have hqn : (q : Int) < (n : Int) := by omega
        go_wp2
        go_roundw
        case rel => exact ⟨q + 1, _, by omega, by go_num, by simpa using HN.out, ((((((HBZ.out).setCell (p := ⟨g, q * 5, none⟩) (Nat.le_refl _) _).setCell (p := ⟨g, q * 5 + 1, none⟩) (Nat.le_refl _) _).setCell (p := ⟨g, q * 5 + 2, none⟩) (Nat.le_refl _) _).setCell (p := ⟨g, q * 5 + 3, none⟩) (Nat.le_refl _) _).setCell (p := ⟨g, q * 5 + 4, none⟩) (Nat.le_refl _) _), by have := HZ2.out; simpa using this⟩
        case measure => simp [intOf]; omega
    · obtain rfl : q = n := by omega
      have ho := HO.out
      rw [two_end (by simp [HX.out]) (by simp [HOL.out])] at ho
      have HO2 := Lib.hid ho
      clear ho
      go_wp2
      go_ret
      subst hg
      exact ⟨_, _, _, rfl, HO2.out, HB.out⟩

end Go.Proofs.Ytcjmlakmigfkfaa

namespace Go.Proofs.Ytcjmlakmigfkfaa
set_option linter.unusedSimpArgs false
set_option linter.unusedVariables false
open Go.Shelf Go.RowKit Go.Lib Go.Sort

/-- An entry's header: three numbers and two slices. -/
structure EntV where
  t : Int
  m : Int
  p : Int
  A3 : Option Addr
  n3 : Nat
  c3 : Nat
  A4 : Option Addr
  n4 : Nat
  c4 : Nat
def encV (F : Nat → EntV) (x : Nat) : List Value := [.int .i64 (F x).t, .int .i64 (F x).m, .int .i64 (F x).p, .slice (F x).A3 (F x).n3 (F x).c3, .slice (F x).A4 (F x).n4 (F x).c4]
theorem SWK.five {F : Nat → EntV} {w0 W : World} {blk off : Nat} {dk d0 : Array Nat} (h : SWK (encV F) 5 w0 blk off dk W) (R : RowK (encV F) 5 w0 blk off d0) (hs : dk.size = d0.size) (i : Nat) (hi : i < dk.size) :
    ∃ t m p A3 n3 c3 A4 n4 c4, encV F dk[i]! = [.int .i64 t, .int .i64 m, .int .i64 p, .slice A3 n3 c3, .slice A4 n4 c4] ∧ F dk[i]! = ⟨t, m, p, A3, n3, c3, A4, n4, c4⟩ ∧ (W.cell? ⟨blk, off + i * 5, none⟩ = some (.int .i64 t) ∧ W.cell? ⟨blk, off + i * 5 + 1, none⟩ = some (.int .i64 m) ∧ W.cell? ⟨blk, off + i * 5 + 2, none⟩ = some (.int .i64 p) ∧ W.cell? ⟨blk, off + i * 5 + 3, none⟩ = some (.slice A3 n3 c3) ∧ W.cell? ⟨blk, off + i * 5 + 4, none⟩ = some (.slice A4 n4 c4)) ∧
      (W.frozen? ⟨blk, off + i * 5, none⟩ = false ∧ W.frozen? ⟨blk, off + i * 5 + 1, none⟩ = false ∧ W.frozen? ⟨blk, off + i * 5 + 2, none⟩ = false ∧ W.frozen? ⟨blk, off + i * 5 + 3, none⟩ = false ∧ W.frozen? ⟨blk, off + i * 5 + 4, none⟩ = false) := by
  have hH := h.holds R.hblk R.hH hs
  have q0 := hH.cell (c := 0) hi (by omega)
  have q1 := hH.cell (c := 1) hi (by omega)
  have q2 := hH.cell (c := 2) hi (by omega)
  have q3 := hH.cell (c := 3) hi (by omega)
  have q4 := hH.cell (c := 4) hi (by omega)
  exact ⟨_, _, _, _, _, _, _, _, _, rfl, rfl, ⟨q0.1, q1.1, q2.1, q3.1, q4.1⟩, ⟨q0.2, q1.2, q2.2, q3.2, q4.2⟩⟩
def put5 (W : World) (b o : Nat) (v0 v1 v2 v3 v4 : Value) : World := ((((W.setCell ⟨b, o, none⟩ v0).setCell ⟨b, o + 1, none⟩ v1).setCell ⟨b, o + 2, none⟩ v2).setCell ⟨b, o + 3, none⟩ v3).setCell ⟨b, o + 4, none⟩ v4
theorem setCell_drew5 (W : World) (a : Addr) (v : Value) : W.drew.setCell a v = (W.setCell a v).drew := by
  simp only [World.drew, World.setCell]
theorem put5_cells (W : World) (b o : Nat) (v0 v1 v2 v3 v4 : Value) : put5 W b o v0 v1 v2 v3 v4 = W.setCells b o [v0, v1, v2, v3, v4] := rfl
theorem SWK.swap5 {F : Nat → EntV} {w0 W : World} {blk off : Nat} {dk d0 : Array Nat} (h : SWK (encV F) 5 w0 blk off dk W) (R : RowK (encV F) 5 w0 blk off d0) (i j : Nat) (hi : i < dk.size) (hj : j < dk.size) {v0 v1 v2 v3 v4 u0 u1 u2 u3 u4 : Value} (ev : encV F dk[i]! = [v0, v1, v2, v3, v4]) (eu : encV F dk[j]! = [u0, u1, u2, u3, u4]) :
    SWK (encV F) 5 w0 blk off (swp dk i j) (put5 (put5 W blk (off + i * 5) u0 u1 u2 u3 u4) blk (off + j * 5) v0 v1 v2 v3 v4).drew := by
  have := h.swapped R i j hi hj
  rw [ev, eu, ← put5_cells, ← put5_cells] at this
  simp only [put5, setCell_drew5] at this ⊢
  exact this


set_option maxHeartbeats 4000000 in
set_option maxRecDepth 1000000 in
theorem swapRange_any (F : Nat → EntV) (g : Nat) (cb : Array Value) (blk off cap a b n : Nat) (d0 d : Array Nat) (w0 w : World) (R : RowK (encV F) 5 w0 blk off d0) (hs : d0.size = d.size) (S : SWK (encV F) 5 w0 blk off d w) (hab : a + n ≤ b) (hb : b + n ≤ d.size) (hsz : d.size ≤ 1000) :
    Calls Try.prog 124 #[.slice (some ⟨blk, off, none⟩) d.size cap, .int .i64 a, .int .i64 b, .int .i64 n, .func (.func g) #[] cb] w fun e w' => e = .returned (.tuple #[]) ∧ SWK (encV F) 5 w0 blk off (swapRangeP a b n d) w' := by
  have S0 : Aside (SWK (encV F) 5 w0 blk off d w) := S
  clear S
  have mixed : Try.prog.follows .mixedOrders = true := by kernel_rfl
  go_enter Try.func124, Try.ntmps124
  go_wp2
  go_loopg [10] n (fun kx s wr => ∃ (i : Nat) (dk : Array Nat), s = .int .i64 i ∧ i ≤ n ∧ n - i ≤ kx ∧ dk.size = d.size ∧ Aside (SWK (encV F) 5 w0 blk off dk wr) ∧ dk = swapRangeP a b i d)
  case atStart => exact ⟨0, d, rfl, by omega, by omega, rfl, S0, rfl⟩
  case round =>
    clear S0
    obtain ⟨i, dk, rfl, hi, hkx, hds, S1, hdk⟩ := hrel
    have HDK := Lib.hid hdk
    clear hdk
    by_cases hlt : i < n
    · have hlz : (i : Int) < (n : Int) := by omega
      go_wp2_with fail
      obtain ⟨I, hI⟩ : ∃ I, I = a + i := ⟨_, rfl⟩
      obtain ⟨J, hJ⟩ : ∃ J, J = b + i := ⟨_, rfl⟩
      have eI : (a : Int) + (i : Int) = ((I : Nat) : Int) := by omega
      have eJ : (b : Int) + (i : Int) = ((J : Nat) : Int) := by omega
      have lI : I < dk.size := by omega
      have lJ : J < dk.size := by omega
      have HI := Lib.hid hI
      have HJ := Lib.hid hJ
      have HDS := Lib.hid hds
      have HD0 : Hid (dk.size = d0.size) := Lib.hid (by omega)
      have lI' : I < d.size := by omega
      have lJ' : J < d.size := by omega
      clear hI hJ hds
      have ea : ((I : Nat) : Int).toNat = I := by omega
      have pa : (0 : Int) ≤ ((I : Nat) : Int) := by omega
      have ba : ((I : Nat) : Int) < (d.size : Int) := by omega
      have ra : IntKind.i64.wrap ((I : Nat) : Int) = ((I : Nat) : Int) := by rw [IntKind.wrap_i64]; omega
      have ec : ((J : Nat) : Int).toNat = J := by omega
      have pc : (0 : Int) ≤ ((J : Nat) : Int) := by omega
      have bc : ((J : Nat) : Int) < (d.size : Int) := by omega
      have rc : IntKind.i64.wrap ((J : Nat) : Int) = ((J : Nat) : Int) := by rw [IntKind.wrap_i64]; omega
      obtain ⟨vt, vm, vp, vA, vn, vc, vB, vk, vd, ev, _, ⟨c0, c1, c2, c3, c4⟩, f0, f1, f2, f3, f4⟩ := SWK.five S1.out R HD0.out I (by omega)
      obtain ⟨ut, um, up, uA, un, uc, uB, uk, ud, eu, _, ⟨b0, b1, b2, b3, b4⟩, g0, g1, g2, g3, g4⟩ := SWK.five S1.out R HD0.out J (by omega)
      have S2 : Aside _ := SWK.swap5 S1.out R I J (by omega) (by omega) ev eu
      obtain ⟨w2, hw2⟩ : ∃ w2, w2 = World.drew (put5 (put5 wr blk (off + I * 5) (.int .i64 ut) (.int .i64 um) (.int .i64 up) (.slice uA un uc) (.slice uB uk ud)) blk (off + J * 5) (.int .i64 vt) (.int .i64 vm) (.int .i64 vp) (.slice vA vn vc) (.slice vB vk vd)) := ⟨_, rfl⟩
      rw [← hw2] at S2
      unfold put5 at hw2
      have HW2 := Lib.hid hw2
      clear S1 ev eu hw2
      go_wp2_with fail
      go_big_region_o
      rw [← HW2.out]
      clear HW2 c0 c1 c2 c3 c4 f0 f1 f2 f3 f4 b0 b1 b2 b3 b4 g0 g1 g2 g3 g4
      go_wp2
      go_roundg (n - (i + 1))
      case measure => omega
      case rel => exact ⟨i + 1, swp dk I J, by go_num, by omega, by omega, by rw [size_swp]; exact HDS.out, S2, by rw [HDK.out, HI.out, HJ.out]; rfl⟩
    · have e : i = n := by omega
      subst e
      have hlz : ¬ (i : Int) < (i : Int) := by omega
      go_wp2
      go_end0
      refine ⟨rfl, ?_⟩
      rw [← HDK.out]
      exact S1.out

end Go.Proofs.Ytcjmlakmigfkfaa

namespace Go.Proofs.Ytcjmlakmigfkfaa
set_option linter.unusedSimpArgs false
set_option linter.unusedVariables false
open Go.Shelf Go.RowKit Go.Lib Go.Sort

theorem size_rotP (m : Nat) : ∀ (f i j : Nat) (d : Array Nat), (rotP m f i j d).size = d.size := by
  intro f
  induction f with
  | zero => intro i j d; rfl
  | succ f ih =>
    intro i j d
    simp only [rotP]
    split
    · exact size_swapRangeP _ _ _ _
    · split
      · rw [ih, size_swapRangeP]
      · rw [ih, size_swapRangeP]

set_option maxHeartbeats 4000000 in
set_option maxRecDepth 1000000 in
theorem rotate_any (F : Nat → EntV) (g : Nat) (cb : Array Value) (blk off cap a m b : Nat) (d0 d : Array Nat) (w0 w : World) (R : RowK (encV F) 5 w0 blk off d0) (hs : d0.size = d.size) (S : SWK (encV F) 5 w0 blk off d w) (ham : a < m) (hmb : m < b) (hb : b ≤ d.size) (hsz : d.size ≤ 1000) :
    Calls Try.prog 123 #[.slice (some ⟨blk, off, none⟩) d.size cap, .int .i64 a, .int .i64 m, .int .i64 b, .func (.func g) #[] cb] w fun e w' => e = .returned (.tuple #[]) ∧ SWK (encV F) 5 w0 blk off (rotP m (b - a) (m - a) (b - m) d) w' := by
  have S0 : Aside (SWK (encV F) 5 w0 blk off d w) := S
  clear S
  have e1 : (m : Int) - (a : Int) = ((m - a : Nat) : Int) := by omega
  have e2 : (b : Int) - (m : Int) = ((b - m : Nat) : Int) := by omega
  go_enter Try.func123, Try.ntmps123
  go_wp2
  clear e1 e2
  go_loopg [10, 11] (b - a) (fun kx s t wr => ∃ (i j f : Nat) (dk : Array Nat), s = .int .i64 i ∧ t = .int .i64 j ∧ 0 < i ∧ 0 < j ∧ i ≤ m ∧ m + j ≤ d.size ∧ i + j ≤ f ∧ i + j ≤ kx ∧ dk.size = d.size ∧ Aside (SWK (encV F) 5 w0 blk off dk wr) ∧ rotP m f i j dk = rotP m (b - a) (m - a) (b - m) d)
  case atStart => exact ⟨m - a, b - m, b - a, d, rfl, rfl, by omega, by omega, by omega, by omega, by omega, by omega, rfl, S0, rfl⟩
  case round =>
    clear S0
    obtain ⟨i, j, f, dk, rfl, rfl, hi, hj, him, hmj, hf, hkx, hds, S1, heq⟩ := hrel
    obtain ⟨f, rfl⟩ : ∃ q, f = q + 1 := ⟨f - 1, by omega⟩
    rw [rotP] at heq
    obtain ⟨P, hP⟩ : ∃ P, P = m - i := ⟨_, rfl⟩
    have eP : (m : Int) - (i : Int) = (P : Int) := by omega
    have hPi : P + i = m := by omega
    by_cases hij : i = j
    · subst hij
      rw [if_pos rfl, ← hP] at heq
      have HEQ := Lib.hid heq
      clear heq hP
      have hbe : (((i : Nat) : Int) != ((i : Nat) : Int)) = false := by simp
      have C := swapRange_any F g cb blk off cap P m i d0 dk w0 wr R (by omega) S1.out (by omega) (by omega) (by omega)
      rw [hds] at C
      have HC := Lib.hid C
      have HDS := Lib.hid hds
      clear C S1 hds
      go_wp2_with fail
      refine (HC.out).mono ?_
      rintro e w2 ⟨rfl, hS⟩
      have S2 : Aside _ := hS
      clear hS HC
      go_wp2
      go_end0
      exact ⟨rfl, by rw [← HEQ.out]; exact S2.out⟩
    · rw [if_neg hij, ← hP] at heq
      have hbe : (((i : Nat) : Int) != ((j : Nat) : Int)) = true := by rw [bne_iff_ne]; omega
      by_cases hji : j < i
      · rw [if_pos hji] at heq
        have HEQ := Lib.hid heq
        clear heq hP
        have hlz : (j : Int) < (i : Int) := by omega
        have e3 : (i : Int) - (j : Int) = ((i - j : Nat) : Int) := by omega
        have C := swapRange_any F g cb blk off cap P m j d0 dk w0 wr R (by omega) S1.out (by omega) (by omega) (by omega)
        rw [hds] at C
        have HC := Lib.hid C
        have HDS := Lib.hid hds
        clear C S1 hds
        go_wp2_with fail
        refine (HC.out).mono ?_
        rintro e w2 ⟨rfl, hS⟩
        have S2 : Aside _ := hS
        clear hS HC
        go_wp2
        go_roundg i
        case measure => omega
        case rel => exact ⟨i - j, j, f, swapRangeP P m j dk, by first | rfl | (congr 1; omega) | go_num, rfl, by omega, by omega, by omega, by omega, by omega, by omega, by rw [size_swapRangeP]; exact HDS.out, S2, HEQ.out⟩
      · rw [if_neg hji] at heq
        obtain ⟨K, hK⟩ : ∃ K, K = m + j - i := ⟨_, rfl⟩
        rw [← hK] at heq
        have HEQ := Lib.hid heq
        have eK : (m : Int) + (j : Int) - (i : Int) = (K : Int) := by omega
        have hKi : K + i = m + j := by omega
        clear heq hP hK
        have hlz : ¬ (j : Int) < (i : Int) := by omega
        have e3 : (j : Int) - (i : Int) = ((j - i : Nat) : Int) := by omega
        have C := swapRange_any F g cb blk off cap P K i d0 dk w0 wr R (by omega) S1.out (by omega) (by omega) (by omega)
        rw [hds] at C
        have HC := Lib.hid C
        have HDS := Lib.hid hds
        clear C S1 hds
        go_wp2_with fail
        refine (HC.out).mono ?_
        rintro e w2 ⟨rfl, hS⟩
        have S2 : Aside _ := hS
        clear hS HC
        go_wp2
        go_roundg j
        case measure => omega
        case rel => exact ⟨i, j - i, f, swapRangeP P K i dk, rfl, by first | rfl | (congr 1; omega) | go_num, by omega, by omega, by omega, by omega, by omega, by omega, by rw [size_swapRangeP]; exact HDS.out, S2, HEQ.out⟩

end Go.Proofs.Ytcjmlakmigfkfaa
