/- Entries that share the arguments' memory; lgIf of the spec in full; JoinLogs of the spec. No conditions. -/
import Derived.Test.YtcjmlakmigfkfaaLog13
import Derived.Test.YtcjmlakmigfkfaaStb8
namespace Go.Proofs.Ytcjmlakmigfkfaa
set_option linter.unusedSimpArgs false
set_option linter.unusedVariables false
open Go.RowKit

/-- A row of the call's own whose entries' slices lie in the memory of w. -/
structure Shd (w wr : World) (lo : Nat) (O : Option Addr) (n o : Nat) (M : List EntryT) (hs : List Value) : Prop where
  row : wr.ownsRow lo 51 5 (.slice O n o) n hs
  len : M.length = n
  cell : ∀ (j : Nat) (u : Value) (x : Cel), hs[j]? = some u → (rowsE M)[j]? = some x → readsC w u x
section
variable {w wr wr' : World} {lo n o n' o' : Nat} {O O' : Option Addr} {M N : List EntryT} {hs us : List Value}
theorem Shd.nil : Shd w wr lo none 0 0 [] [] := ⟨World.ownsRow_nil _ _ _ _, rfl, fun j u x hu => by simp at hu⟩
theorem Shd.below (h : Shd w wr lo O n o M hs) (hb : Below wr.heap.size wr wr') : Shd w wr' lo O n o M hs := ⟨own_below h.row hb, h.len, h.cell⟩
theorem Shd.hlen (h : Shd w wr lo O n o M hs) : hs.length = n * 5 := h.row.1
theorem Shd.reads (h : Shd w wr lo O n o M hs) (hb : Below w.heap.size w wr) : Reads2 wr 5 O n (rowsE M) :=
  ⟨hs, .of_own h.row, by rw [length_rowsE, h.len, h.row.1], fun j u x hu hx => readsC_keep (h.cell j u x hu hx) (fun _ hp => hb.cell hp)⟩
theorem Shd.push (h : Shd w wr lo O n o M hs) (hr : wr'.ownsRow lo 51 5 (.slice O' n' o') n' (hs ++ us)) (hn : n' = n + N.length)
    (hc : ∀ (j : Nat) (u : Value) (x : Cel), us[j]? = some u → (rowsE N)[j]? = some x → readsC w u x) : Shd w wr' lo O' n' o' (M ++ N) (hs ++ us) := by
  refine ⟨hr, by rw [List.length_append, h.len, hn], fun j u x hu hx => ?_⟩
  have e1 : rowsE (M ++ N) = rowsE M ++ rowsE N := by simp [rowsE]
  rw [e1] at hx
  have hl : (rowsE M).length = hs.length := by rw [length_rowsE, h.len, h.row.1]
  rcases append_cases hu with ⟨hq, hu⟩ | ⟨hq, hu⟩ <;> rcases append_cases hx with ⟨hq', hx⟩ | ⟨hq', hx⟩
  · exact h.cell j u x hu hx
  · omega
  · omega
  · rw [hl] at hx
    exact hc _ u x hu hx
theorem one_entry {w : World} {t m p : Int} {A3 A4 : Option Addr} {c3 c4 : Nat} {l l' : List Int} (h3 : readsC w (.slice A3 l.length c3) (.inr (ints l))) (h4 : readsC w (.slice A4 l'.length c4) (.inr (ints l'))) :
    ∀ (j : Nat) (u : Value) (x : Cel), [.int .i64 t, .int .i64 m, .int .i64 p, .slice A3 l.length c3, .slice A4 l'.length c4][j]? = some u → (rowsE [(t, m, p, l, l')])[j]? = some x → readsC w u x := by
  intro j u x hu hx
  have e : rowsE [(t, m, p, l, l')] = [.inl (.int .i64 t), .inl (.int .i64 m), .inl (.int .i64 p), .inr (ints l), .inr (ints l')] := rfl
  rw [e] at hx
  match j with
  | 0 => simp at hu hx; subst hu; subst hx; rfl
  | 1 => simp at hu hx; subst hu; subst hx; rfl
  | 2 => simp at hu hx; subst hu; subst hx; rfl
  | 3 => simp at hu hx; subst hu; subst hx; exact h3
  | 4 => simp at hu hx; subst hu; subst hx; exact h4
  | j + 5 => simp at hu
end
def ifR (L : List EntryT) : List EntryT × Bool := if goodE L = true then (L, true) else ([], false)
theorem lgIfG_any (A : Option Addr) (n c : Nat) (L : List EntryT) (w : World) (hn : n ≤ 1000000000) (hl : ∀ x ∈ L, lenE 1000000000 x) (h : Reads2 w 5 A n (rowsE L)) :
    Calls Try.prog 97 #[.slice A n c] w (Made4 w 51 3 5 (ifR L).1.length (rowsE (ifR L).1) (ifR L).2) := by
  have HX : L.length = n := by have := h.len; rw [length_rowsE] at this; omega
  cases hg : goodE L with
  | true =>
    have e : ifR L = (L, true) := by simp [ifR, hg]
    rw [e]
    have := lgIf_any A n c L w hn hl hg h
    rw [← HX] at this ⊢
    exact this
  | false =>
    have e : ifR L = ([], false) := by simp [ifR, hg]
    rw [e]
    have c1 := lgGood_any A n c L w hn hl h
    rw [hg] at c1
    have C1 := Lib.hid c1
    clear c1 h hl hg e HX
    go_enter Try.func97, Try.ntmps97
    go_wp2_with (go_at_call 60; refine (C1.out).mono ?_; rintro e w1 ⟨rfl, hb1⟩; have HB1 := Lib.hid hb1; clear hb1)
    go_ret2
    exact ⟨none, 0, [], rfl, own2_nil _ _, HB1.out⟩
theorem rowsE_drop (L : List EntryT) (k : Nat) : (rowsE L).drop (k * 5) = rowsE (L.drop k) := by
  induction L generalizing k with
  | nil => simp [rowsE]
  | cons x r ih =>
    cases k with
    | zero => simp [rowsE]
    | succ k =>
      have e : (k + 1) * 5 = k * 5 + 1 + 1 + 1 + 1 + 1 := by omega
      have := ih k
      simp only [rowsE, List.flatMap_cons, List.drop_succ_cons, celEntry] at this ⊢
      rw [e]
      simp [this]
theorem reads_from {w : World} {A : Option Addr} {n k i : Nat} {xs : List Value} (h : Reads w k A n xs) (hi : i ≤ n) : Reads w k (A.map (fun x => x.add (i * k))) (n - i) (xs.drop (i * k)) := by
  refine ⟨by rw [List.length_drop, h.1, Nat.sub_mul], fun h0 => ?_⟩
  obtain ⟨ad, rfl, hc⟩ := h.2 (by omega)
  refine ⟨_, rfl, fun j u hu => ?_⟩
  rw [List.getElem?_drop] at hu
  rw [add_of_add]
  exact hc _ u hu
theorem one_hsE {w : World} {L : List EntryT} {hs : List Value} (hl : (rowsE L).length = hs.length) (hc : ∀ (j : Nat) (u : Value) (x : Cel), hs[j]? = some u → (rowsE L)[j]? = some x → readsC w u x) : ∀ u ∈ hs, u.oneCell' = true := by
  intro u hu
  obtain ⟨j, hj, e⟩ := List.getElem_of_mem hu
  have hj' : j < (rowsE L).length := by rw [hl]; exact hj
  obtain ⟨x', hx'⟩ : ∃ x', (rowsE L)[j]? = some x' := ⟨_, List.getElem?_eq_getElem hj'⟩
  have h := hc j u x' (by rw [List.getElem?_eq_getElem hj, e]) hx'
  have hm := List.mem_of_getElem? hx'
  unfold rowsE at hm
  obtain ⟨x, _, hx⟩ := List.mem_flatMap.1 hm
  unfold celEntry at hx
  simp only [List.mem_cons, List.not_mem_nil, or_false] at hx
  rcases hx with hx | hx | hx | hx | hx <;> rw [hx] at h
  · subst h; rfl
  · subst h; rfl
  · subst h; rfl
  · obtain ⟨_, _, rfl, _⟩ := h; rfl
  · obtain ⟨_, _, rfl, _⟩ := h; rfl
theorem bel_cell0 {w w' : World} {p : Addr} {u : Value} (hb : Below w.heap.size w w') (h : w.cell? p = some u) : w'.cell? p = some u := (hb.cell (World.block_lt_of_cell? w _ h)).trans h
theorem joinE_low {x : EntryT} {r M : List EntryT} (h : ∀ y ∈ M.head?, x.1 ≤ y.1) : joinE (x :: r) M = x :: joinE r M := by
  cases M with
  | nil => simp [joinE]
  | cons y q =>
    have := h y (by simp)
    unfold joinE
    rw [List.cons_merge_cons, if_pos (by simp [leE, this])]
theorem joinE_high {x y : EntryT} {r q : List EntryT} (h : ¬ x.1 ≤ y.1) : joinE (x :: r) (y :: q) = y :: joinE (x :: r) q := by
  unfold joinE
  rw [List.cons_merge_cons, if_neg (by simp [leE]; omega)]
theorem joinE_nill (M : List EntryT) : joinE [] M = M := by simp [joinE]

set_option maxHeartbeats 4000000 in
set_option maxRecDepth 100000 in
theorem specJoinLogs_any (A : Option Addr) (n c : Nat) (L : List EntryT) (B : Option Addr) (m d : Nat) (M : List EntryT) (w : World) (hn : n ≤ 1000000000) (hl : ∀ x ∈ L, lenE 1000000000 x) (h : Reads2 w 5 A n (rowsE L)) (hc : n ≤ c) (hm : m ≤ 1000000000) (hl' : ∀ x ∈ M, lenE 1000000000 x) (h' : Reads2 w 5 B m (rowsE M)) :
    Calls Try.prog 76 #[.slice A n c, .slice B m d] w (Made4 w 51 3 5 (joinLR L M).1.length (rowsE (joinLR L M).1) (joinLR L M).2) := by
  have HX := Lib.hid (show L.length = n by have := h.len; rw [length_rowsE] at this; omega)
  have HY := Lib.hid (show M.length = m by have := h'.len; rw [length_rowsE] at this; omega)
  have c1 := fun W (hW : Below w.heap.size w W) => lgGood_any A n c L W hn hl (h.below hW)
  have c2 := fun W (hW : Below w.heap.size w W) => lgGood_any B m d M W hm hl' (h'.below hW)
  cases hgL : goodE L with
  | false =>
    have hr : joinLR L M = ([], false) := by simp [joinLR, hgL]
    rw [hr]
    simp only [hgL] at c1
    have C1 := Lib.hid c1
    clear c1 c2 hr h h' hl hl' hgL
    go_enter Try.func76, Try.ntmps76
    go_wp2_with (go_at_call 60; refine (C1.out _ (Below.refl _ _)).mono ?_; rintro e w1 ⟨rfl, hb1⟩; have HB1 := Lib.hid hb1; clear hb1)
    go_ret2
    exact ⟨none, 0, [], rfl, own2_nil _ _, HB1.out⟩
  | true =>
    cases hgM : goodE M with
    | false =>
      have hr : joinLR L M = ([], false) := by simp [joinLR, hgM]
      rw [hr]
      simp only [hgL] at c1
      simp only [hgM] at c2
      have C1 := Lib.hid c1
      have C2 := Lib.hid c2
      clear c1 c2 hr h h' hl hl' hgL hgM
      go_enter Try.func76, Try.ntmps76
      go_wp2_with fail
      refine (C1.out _ (Below.refl _ _)).mono ?_
      rintro e w1 ⟨rfl, hb1⟩
      have HB1 := Lib.hid hb1
      clear hb1
      go_wp2_with fail
      refine (C2.out _ HB1.out).mono ?_
      rintro e w2 ⟨rfl, hb2⟩
      have HB2 := Lib.hid (HB1.out.trans (hb2.mono HB1.out.size))
      clear hb2
      go_wp2
      go_ret2
      exact ⟨none, 0, [], rfl, own2_nil _ _, HB2.out⟩
    | true =>
      have hr : joinLR L M = ifR (joinE L M) := by simp [joinLR, hgM, hgL, ifR]
      rw [hr]
      simp only [hgL] at c1
      simp only [hgM] at c2
      have C1 := Lib.hid c1
      have C2 := Lib.hid c2
      have hn30 : n ≤ 30 := by rw [← HX.out]; exact (goodE_all hgL).2
      have hm30 : m ≤ 30 := by rw [← HY.out]; exact (goodE_all hgM).2
      have HLJ : Hid (∀ x ∈ joinE L M, lenE 1000000000 x) := Lib.hid (fun x hx => by rcases joinE_mem.1 hx with hx | hx; exact hl x hx; exact hl' x hx)
      have HLN : Hid ((joinE L M).length = n + m) := Lib.hid (by rw [joinE_len, HX.out, HY.out])
      have H := Lib.hid h
      have H' := Lib.hid h'
      clear c1 c2 hr h h' hl hl' hgL hgM
      go_enter Try.func76, Try.ntmps76
      go_wp2_with fail
      refine (C1.out _ (Below.refl _ _)).mono ?_
      rintro e w1 ⟨rfl, hb1⟩
      have HB1 := Lib.hid hb1
      clear hb1
      go_wp2_with fail
      refine (C2.out _ HB1.out).mono ?_
      rintro e w2 ⟨rfl, hb2⟩
      have HB2 := Lib.hid (HB1.out.trans (hb2.mono HB1.out.size))
      clear hb2 HB1 C1 C2
      go_wp2
      go_loopw [6, 7, 20] (fun ov iv kv wr => ∃ k i g : Nat, ∃ O o1 C hs, k ≤ m ∧ i ≤ n ∧ kv = .int .i64 k ∧ iv = .int .i64 i ∧ ov = .slice O g o1 ∧ g ≤ i + k ∧ C ++ joinE (L.drop i) (M.drop k) = joinE L M ∧ Shd w wr w.heap.size O g o1 C hs ∧ Below w.heap.size w wr) (fun _ _ kv _ => m - (intOf kv).toNat)
      case atStart => exact ⟨0, 0, 0, none, 0, [], [], Nat.zero_le _, Nat.zero_le _, rfl, rfl, rfl, Nat.zero_le _, rfl, Shd.nil, HB2.out⟩
      case round =>
        obtain ⟨k, i, g, O, o1, C, hs, hk, hi, rfl, rfl, rfl, hgk, hrc, hown, hb⟩ := hrel
        have HRC := Lib.hid hrc; have HO := Lib.hid hown; have HB := Lib.hid hb
        clear hrc hown hb HB2
        have HLO : Hid (w.heap.size ≤ wr.heap.size) := Lib.hid HB.out.size
        by_cases hlt : k < m
        · have hy : k < M.length := by rw [HY.out]; exact hlt
          have HD := Lib.hid (drop_cons hy)
          obtain ⟨bd, B3, d3, B4, d4, rfl, ⟨j0, j1, j2, j3, j4⟩, r3, r4⟩ := rowsE_at2 H'.out hy
          have HS3 := Lib.hid r3; have HS4 := Lib.hid r4
          clear r3 r4
          replace j0 := (HB.out.cell (World.block_lt_of_cell? w _ j0)).trans j0
          replace j1 := (HB.out.cell (World.block_lt_of_cell? w _ j1)).trans j1
          replace j2 := (HB.out.cell (World.block_lt_of_cell? w _ j2)).trans j2
          replace j3 := (HB.out.cell (World.block_lt_of_cell? w _ j3)).trans j3
          replace j4 := (HB.out.cell (World.block_lt_of_cell? w _ j4)).trans j4
          generalize M[k] = y at *
          obtain ⟨yt, ym, yp, yl, yl'⟩ := y
          simp only at j0 j1 j2 j3 j4 HS3 HS4
          rw [HD.out] at HRC
          obtain ⟨wo, rfl⟩ : ∃ wo, wo = wr := ⟨_, rfl⟩
          go_wp2
          clear j0 j1 j2 j3 j4
          have HWA : Hid (RowKit.Below wo.heap.size wo (wo.alloc (.cells #[.int .i64 yt, .int .i64 ym, .int .i64 yp, .slice B3 yl.length d3, .slice B4 yl'.length d4] 51))) := Lib.hid ((Below.refl _ _).alloc (Nat.le_refl _) _)
          go_loopw [6, 7] (fun ov iv wr => ∃ i2 g : Nat, ∃ O o1 C hs, i2 ≤ n ∧ iv = .int .i64 i2 ∧ ov = .slice O g o1 ∧ g ≤ i2 + k ∧ C ++ joinE (L.drop i2) ((yt, ym, yp, yl, yl') :: M.drop (k + 1)) = joinE L M ∧ Shd w wr w.heap.size O g o1 C hs ∧ Below w.heap.size w wr ∧ (Value.slice O g o1).ownBlock ≠ some wo.heap.size ∧ wr.heap[wo.heap.size]? = some (.cells #[.int .i64 yt, .int .i64 ym, .int .i64 yp, .slice B3 yl.length d3, .slice B4 yl'.length d4] 51) ∧ wo.heap.size < wr.heap.size) (fun _ iv _ => n - (intOf iv).toNat)
          case atStart => exact ⟨i, g, O, o1, C, hs, hi, rfl, rfl, hgk, HRC.out, HO.out.below HWA.out, HB.out.trans (HWA.out.mono HB.out.size), own_ne_of_lt HO.out.row (.inr (Nat.le_refl _)), heap_alloc_new wo _, by simp⟩
          case round =>
            clear HRC HO HB HLO HWA hgk hi
            obtain ⟨i2, g, O, o1, C, hs, hi, rfl, rfl, hgk, hrc, hown, hb, hnb, hbx, hlx⟩ := hrel
            have HRC := Lib.hid hrc; have HO := Lib.hid hown; have HB := Lib.hid hb; have HNB := Lib.hid hnb; have HBX := Lib.hid hbx; have HLX := Lib.hid hlx
            clear hrc hown hb hnb hbx hlx
            have b0 := (box_at HBX.out (j := 0) rfl).1
            by_cases hin : i2 < n
            · have hx : i2 < L.length := by rw [HX.out]; exact hin
              have HDL := Lib.hid (drop_cons hx)
              obtain ⟨ad, A3, c3, A4, c4, rfl, ⟨k0, k1, k2, k3, k4⟩, r3, r4⟩ := rowsE_at2 H.out hx
              have HR3 := Lib.hid r3; have HR4 := Lib.hid r4
              clear r3 r4
              replace k0 := (HB.out.cell (World.block_lt_of_cell? w _ k0)).trans k0
              replace k1 := (HB.out.cell (World.block_lt_of_cell? w _ k1)).trans k1
              replace k2 := (HB.out.cell (World.block_lt_of_cell? w _ k2)).trans k2
              replace k3 := (HB.out.cell (World.block_lt_of_cell? w _ k3)).trans k3
              replace k4 := (HB.out.cell (World.block_lt_of_cell? w _ k4)).trans k4
              generalize L[i2] = x at *
              obtain ⟨t, mm, p, l, l'⟩ := x
              simp only at k0 k1 k2 k3 k4 HR3 HR4
              have hiz : (i2 : Int) < (n : Int) := by omega
              have hid1 : decide ((i2 : Int) < (n : Int)) = true := decide_eq_true hiz
              by_cases hle : t ≤ yt
              · have hid2 : decide (t ≤ yt) = true := decide_eq_true hle
                have HNX : Hid (joinE (L.drop i2) ((yt, ym, yp, yl, yl') :: M.drop (k + 1)) = (t, mm, p, l, l') :: joinE (L.drop (i2 + 1)) ((yt, ym, yp, yl, yl') :: M.drop (k + 1))) := Lib.hid (by rw [HDL.out, joinE_low (fun z hz => by simp at hz; subst hz; exact hle)])
                have hii : (0 : Int) ≤ (i2 : Int) := by omega
                go_wp2
                go_quiet (fail)
                obtain ⟨wq, hwq⟩ : ∃ wq, wq = wr.drewN nq := ⟨_, rfl⟩
                have HQB : Hid (RowKit.Below wr.heap.size wr wq) := Lib.hid (by rw [hwq]; exact below_toN (Below.refl _ _) nq)
                have HQZ : Hid (wq.heap = wr.heap) := Lib.hid (by rw [hwq]; rfl)
                rw [← hwq]
                clear hwq
                replace HO := Lib.hid (HO.out.below HQB.out)
                replace HB := Lib.hid (HB.out.trans (HQB.out.mono HB.out.size))
                replace HBX : Hid (wq.heap[wo.heap.size]? = some (.cells #[.int .i64 yt, .int .i64 ym, .int .i64 yp, .slice B3 yl.length d3, .slice B4 yl'.length d4] 51)) := Lib.hid (by rw [HQZ.out]; exact HBX.out)
                have q0 := bel_cell0 HQB.out k0; have q1 := bel_cell0 HQB.out k1; have q2 := bel_cell0 HQB.out k2; have q3 := bel_cell0 HQB.out k3; have q4 := bel_cell0 HQB.out k4
                clear k0 k1 k2 k3 k4 b0
                have HLO : Hid (w.heap.size ≤ wq.heap.size) := Lib.hid HB.out.size
                go_wp2_with (at_builtin; refine wpList_pushL _ rfl (.tmp 38) (.tmp 43) 27 rfl w.heap.size 51 _ 5 72 infoEntry rfl (by omega) Try.underlying27 O g o1 hs rfl (own_below HO.out.row ((Below.refl _ _).alloc (Nat.le_refl _) _)) (some ⟨wq.heap.size, 0, none⟩) 1 1 [.int .i64 t, .int .i64 mm, .int .i64 p, .slice A3 l.length c3, .slice A4 l'.length c4] rfl (reads_litk _ _ _ rfl) (by simp [Value.oneCell']) (by omega) (by omega) (by have := HLO.out; simp; omega) ?_; intro O2 o2 w7 hown7 hg7 hb7 hloc7)
                clear q0 q1 q2 q3 q4
                have HO7 := Lib.hid (HO.out.push (N := [(t, mm, p, l, l')]) hown7 rfl (one_entry HR3.out HR4.out))
                have HB7 : Hid (Below w.heap.size w w7) := Lib.hid ((HB.out.alloc HLO.out _).trans hb7)
                have hzq : wq.heap.size = wr.heap.size := by rw [HQZ.out]
                have hx7 : w7.heap[wo.heap.size]? = some (.cells #[.int .i64 yt, .int .i64 ym, .int .i64 yp, .slice B3 yl.length d3, .slice B4 yl'.length d4] 51) := by
                  refine (hg7.block _ (by have := HLX.out; rw [World.size_alloc]; omega) (fun e => HNB.out e.symm)).trans ?_
                  exact box_after (B := wq.heap.size) ((Below.refl _ _).alloc (Nat.le_refl _) _) (by have := HLX.out; omega) HBX.out
                have hn7 : (Value.slice O2 (g + 1) o2).ownBlock ≠ some wo.heap.size := by
                  rcases hloc7 with e | e
                  · rw [e]; exact HNB.out
                  · rw [e]; have := HLX.out; simp; omega
                have hl7 : wo.heap.size < w7.heap.size := by have h1 := hg7.size; have := HLX.out; rw [World.size_alloc] at h1; omega
                have HX7 := Lib.hid hx7; have HN7 := Lib.hid hn7; have HL7 := Lib.hid hl7
                clear hown7 hg7 hb7 hloc7 hzq hx7 hn7 hl7
                go_roundw
                case rel => exact ⟨i2 + 1, g + 1, O2, o2, C ++ [(t, mm, p, l, l')], hs ++ [.int .i64 t, .int .i64 mm, .int .i64 p, .slice A3 l.length c3, .slice A4 l'.length c4], by omega, by go_num, rfl, by omega, by rw [← HRC.out, HNX.out]; simp, HO7.out, HB7.out, HN7.out, HX7.out, HL7.out⟩
                case measure => simp [intOf]; omega
              · have hid2 : decide (t ≤ yt) = false := decide_eq_false hle
                clear k1 k2 k3 k4
                have hii : (0 : Int) ≤ (i2 : Int) := by omega
                go_wp2
                go_quiet (fail)
                obtain ⟨wq, hwq⟩ : ∃ wq, wq = wr.drewN nq := ⟨_, rfl⟩
                have HQB : Hid (RowKit.Below wr.heap.size wr wq) := Lib.hid (by rw [hwq]; exact below_toN (Below.refl _ _) nq)
                have HQZ : Hid (wq.heap = wr.heap) := Lib.hid (by rw [hwq]; rfl)
                rw [← hwq]
                clear hwq
                replace HO := Lib.hid (HO.out.below HQB.out)
                replace HB := Lib.hid (HB.out.trans (HQB.out.mono HB.out.size))
                replace HBX : Hid (wq.heap[wo.heap.size]? = some (.cells #[.int .i64 yt, .int .i64 ym, .int .i64 yp, .slice B3 yl.length d3, .slice B4 yl'.length d4] 51)) := Lib.hid (by rw [HQZ.out]; exact HBX.out)
                clear k0 b0
                have HNY : Hid (joinE (L.drop i2) ((yt, ym, yp, yl, yl') :: M.drop (k + 1)) = (yt, ym, yp, yl, yl') :: joinE (L.drop i2) (M.drop (k + 1))) := Lib.hid (by rw [HDL.out, joinE_high (x := (t, mm, p, l, l')) (y := (yt, ym, yp, yl, yl')) (by show ¬ t ≤ yt; omega)])
                obtain ⟨⟨b0, _⟩, ⟨b1, _⟩, ⟨b2, _⟩, ⟨b3, _⟩, ⟨b4, _⟩⟩ := And.intro (box_at HBX.out (j := 0) rfl) (And.intro (box_at HBX.out (j := 1) rfl) (And.intro (box_at HBX.out (j := 2) rfl) (And.intro (box_at HBX.out (j := 3) rfl) (box_at HBX.out (j := 4) rfl))))
                have HLO : Hid (w.heap.size ≤ wq.heap.size) := Lib.hid HB.out.size
                go_wp2_with (at_builtin; refine wpList_pushL _ rfl (.tmp 47) (.tmp 49) 27 rfl w.heap.size 51 _ 5 72 infoEntry rfl (by omega) Try.underlying27 O g o1 hs rfl (own_below HO.out.row ((Below.refl _ _).alloc (Nat.le_refl _) _)) (some ⟨wq.heap.size, 0, none⟩) 1 1 [.int .i64 yt, .int .i64 ym, .int .i64 yp, .slice B3 yl.length d3, .slice B4 yl'.length d4] rfl (reads_litk _ _ _ rfl) (by simp [Value.oneCell']) (by omega) (by omega) (by have := HLO.out; simp; omega) ?_; intro O2 o2 w7 hown7 hg7 hb7 hloc7)
                clear b0 b1 b2 b3 b4
                have HO7 := Lib.hid (HO.out.push (N := [(yt, ym, yp, yl, yl')]) hown7 rfl (one_entry HS3.out HS4.out))
                have HB7 : Hid (Below w.heap.size w w7) := Lib.hid ((HB.out.alloc HLO.out _).trans hb7)
                clear hown7 hg7 hb7 hloc7
                go_roundw
                case rel => exact ⟨k + 1, i2, g + 1, O2, o2, C ++ [(yt, ym, yp, yl, yl')], hs ++ [.int .i64 yt, .int .i64 ym, .int .i64 yp, .slice B3 yl.length d3, .slice B4 yl'.length d4], by omega, by omega, by go_num, rfl, rfl, by omega, by rw [← HRC.out, HNY.out]; simp, HO7.out, HB7.out⟩
                case measure => simp [intOf]; omega
            · obtain rfl : i2 = n := by omega
              have hid1 : decide ((i2 : Int) < (i2 : Int)) = false := decide_eq_false (by omega)
              have hii : (0 : Int) ≤ (i2 : Int) := by omega
              go_wp2
              go_quiet (fail)
              obtain ⟨wq, hwq⟩ : ∃ wq, wq = wr.drewN nq := ⟨_, rfl⟩
              have HQB : Hid (RowKit.Below wr.heap.size wr wq) := Lib.hid (by rw [hwq]; exact below_toN (Below.refl _ _) nq)
              have HQZ : Hid (wq.heap = wr.heap) := Lib.hid (by rw [hwq]; rfl)
              rw [← hwq]
              clear hwq
              replace HO := Lib.hid (HO.out.below HQB.out)
              replace HB := Lib.hid (HB.out.trans (HQB.out.mono HB.out.size))
              replace HBX : Hid (wq.heap[wo.heap.size]? = some (.cells #[.int .i64 yt, .int .i64 ym, .int .i64 yp, .slice B3 yl.length d3, .slice B4 yl'.length d4] 51)) := Lib.hid (by rw [HQZ.out]; exact HBX.out)
              clear b0
              have HNY : Hid (joinE (L.drop i2) ((yt, ym, yp, yl, yl') :: M.drop (k + 1)) = (yt, ym, yp, yl, yl') :: joinE (L.drop i2) (M.drop (k + 1))) := Lib.hid (by rw [List.drop_eq_nil_of_le (by rw [HX.out]; exact Nat.le_refl _), joinE_nill, joinE_nill])
              obtain ⟨⟨b0, _⟩, ⟨b1, _⟩, ⟨b2, _⟩, ⟨b3, _⟩, ⟨b4, _⟩⟩ := And.intro (box_at HBX.out (j := 0) rfl) (And.intro (box_at HBX.out (j := 1) rfl) (And.intro (box_at HBX.out (j := 2) rfl) (And.intro (box_at HBX.out (j := 3) rfl) (box_at HBX.out (j := 4) rfl))))
              have HLO : Hid (w.heap.size ≤ wq.heap.size) := Lib.hid HB.out.size
              go_wp2_with (at_builtin; refine wpList_pushL _ rfl (.tmp 47) (.tmp 49) 27 rfl w.heap.size 51 _ 5 72 infoEntry rfl (by omega) Try.underlying27 O g o1 hs rfl (own_below HO.out.row ((Below.refl _ _).alloc (Nat.le_refl _) _)) (some ⟨wq.heap.size, 0, none⟩) 1 1 [.int .i64 yt, .int .i64 ym, .int .i64 yp, .slice B3 yl.length d3, .slice B4 yl'.length d4] rfl (reads_litk _ _ _ rfl) (by simp [Value.oneCell']) (by omega) (by omega) (by have := HLO.out; simp; omega) ?_; intro O2 o2 w7 hown7 hg7 hb7 hloc7)
              clear b0 b1 b2 b3 b4
              have HO7 := Lib.hid (HO.out.push (N := [(yt, ym, yp, yl, yl')]) hown7 rfl (one_entry HS3.out HS4.out))
              have HB7 : Hid (Below w.heap.size w w7) := Lib.hid ((HB.out.alloc HLO.out _).trans hb7)
              clear hown7 hg7 hb7 hloc7
              go_roundw
              case rel => exact ⟨k + 1, i2, g + 1, O2, o2, C ++ [(yt, ym, yp, yl, yl')], hs ++ [.int .i64 yt, .int .i64 ym, .int .i64 yp, .slice B3 yl.length d3, .slice B4 yl'.length d4], by omega, by omega, by go_num, rfl, rfl, by omega, by rw [← HRC.out, HNY.out]; simp, HO7.out, HB7.out⟩
              case measure => simp [intOf]; omega
        · obtain rfl : k = m := by omega
          have e1 : M.drop k = [] := List.drop_eq_nil_of_le (by rw [HY.out]; exact Nat.le_refl _)
          have hrf := HRC.out
          rw [e1, joinE_nil] at hrf
          have HRF := Lib.hid hrf
          clear hrf e1 HRC
          have hiz : (i : Int) ≤ (n : Int) := by omega
          have hizc : (n : Int) ≤ (c : Int) := by omega
          obtain ⟨hsL, hrL, hlL, hcL⟩ := H.out
          have HRL : Hid (Reads wr 5 (if c = i then A else Option.map (fun x => x.add (i * 5)) A) (n - i) (hsL.drop (i * 5))) := Lib.hid (by
            split
            · next hci =>
              refine ⟨?_, fun h0 => by omega⟩
              rw [List.length_drop, hrL.1]
              omega
            · exact reads_from (hrL.below HB.out) hi)
          have HON : Hid (∀ u ∈ hsL.drop (i * 5), u.oneCell' = true) := Lib.hid (fun u hu => one_hsE hlL hcL u (List.mem_of_mem_drop hu))
          have HCN : Hid (∀ (j : Nat) (u : Value) (x : Cel), (hsL.drop (i * 5))[j]? = some u → (rowsE (L.drop i))[j]? = some x → readsC w u x) := Lib.hid (fun j u x hu hx => by
            rw [List.getElem?_drop] at hu
            rw [← rowsE_drop, List.getElem?_drop] at hx
            exact hcL _ u x hu hx)
          clear hrL hlL hcL
          go_wp2_with (first | (at_builtin; refine wpList_pushL _ rfl (.tmp 52) (.tmp 55) 27 rfl w.heap.size 51 _ 5 72 infoEntry rfl (by omega) Try.underlying27 O g o1 hs rfl HO.out.row (if c = i then A else Option.map (fun x => x.add (i * 5)) A) (n - i) (c - i) (hsL.drop (i * 5)) (by first | rfl | (simp; done) | (simp [go_sem]; done)) HRL.out HON.out (by omega) (by omega) HLO.out ?_; intro O2 o2 w7 hown7 hg7 hb7 hloc7; have ho7 := HO.out.push (N := L.drop i) hown7 (by rw [List.length_drop, HX.out]) HCN.out; rw [HRF.out] at ho7; have HO7 := Lib.hid ho7; have HB7 : Hid (Below w.heap.size w w7) := Lib.hid (HB.out.trans hb7); clear ho7 hown7 hg7 hb7 hloc7 HRL HON HCN) | (go_at_call 97; refine (lgIfG_any O2 (g + (n - i)) o2 (joinE L M) w7 (by omega) HLJ.out (HO7.out.reads HB7.out)).mono ?_; rintro e w8 ⟨O3, o3, hs3, rfl, ho, hb8⟩; have HO8 := Lib.hid (ho.mono_lo HB7.out.size); have HB8 := Lib.hid (HB7.out.trans (hb8.mono HB7.out.size)); clear ho hb8))
          all_goals
            go_ret2
            exact ⟨O3, o3, hs3, rfl, HO8.out, HB8.out⟩

end Go.Proofs.Ytcjmlakmigfkfaa
