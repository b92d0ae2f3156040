/- The spec's drawing for the law of wear on a day. No conditions. -/
import Derived.Test.YtjibdabedagghaaDrH
namespace Go.Proofs.Ytjibdabedagghaa
set_option linter.unusedSimpArgs false
set_option linter.unusedVariables false
open Go.RowKit


theorem own_setCell {w : World} {base b i k n : Nat} {e : TypeId} {v u : Value} {xs : List Value} (h : w.ownsRow base e k v n xs) (hb : b < base) : (w.setCell ⟨b, i, none⟩ u).ownsRow base e k v n xs :=
  row_same h fun q hq => Below.heap_setCell _ _ _ _ (by have := (h.lt q hq).1; simp; omega)
set_option maxHeartbeats 4000000 in
set_option maxRecDepth 100000 in
theorem drawWearOn_any (A : Option Addr) (n c : Nat) (l : List Int) (w : World) (hn : n ≤ 9223372036854775807) (hl : ∀ x ∈ l, 0 ≤ x ∧ x ≤ 255) (h : Reads w 1 A n (bytesV l)) :
    Calls Try.prog 57 #[.slice A n c] w fun e w' => ∃ ga gb gc gd : Int, ∃ B d ds, ∃ day : Int, e = .returned (.tuple #[.agg #[.int .i64 ga, .int .i64 gb, .int .i64 gc, .int .i64 gd], .slice B (List.length ds) d, .int .i64 day]) ∧ ds.length ≤ 32 ∧ smallL (-1) 31 ds ∧ (-1 ≤ day ∧ day ≤ 31) ∧ w'.ownsRow (w.heap.size + 1) 3 1 (.slice B ds.length d) ds.length (ints ds) ∧ Below w.heap.size w w' := by
  have HB0 : Hid (Below w.heap.size w ((w.alloc (.cells #[.int .i64 0, .int .i64 0, .int .i64 0, .int .i64 0] 26)).alloc (.cells #[.slice A n c, .int .i64 0, .int .u64 0] 104))) := Lib.hid (((Below.refl _ _).alloc (Nat.le_refl _) _).alloc (by simp) _)
  have HE0 : Hid ((w.alloc (.cells #[.int .i64 0, .int .i64 0, .int .i64 0, .int .i64 0] 26)).heap.size = w.heap.size + 1) := Lib.hid (by simp)
  have HE1 : Hid (((w.alloc (.cells #[.int .i64 0, .int .i64 0, .int .i64 0, .int .i64 0] 26)).alloc (.cells #[.slice A n c, .int .i64 0, .int .u64 0] 104)).heap.size = w.heap.size + 1 + 1) := Lib.hid (by simp)
  have hcn := Cur.new (c := c) (h.alloc (.cells #[.int .i64 0, .int .i64 0, .int .i64 0, .int .i64 0] 26)) hn hl
  rw [HE0.out] at hcn
  have HC0 := Lib.hid hcn
  have HB2 := Lib.hid (box4_bel (Box4.new w 26 (.int .i64 0) (.int .i64 0) (.int .i64 0) (.int .i64 0)) ((Below.refl _ _).alloc (Nat.le_refl _) (.cells #[.slice A n c, .int .i64 0, .int .u64 0] 104)))
  clear h hl hcn
  go_enter Try.func57, Try.ntmps57
  go_wp2
  go_loopw [6, 7] (fun o i wr => ∃ k : Nat, ∃ D q d ds, k ≤ 31 ∧ i = .int .i64 k ∧ o = .slice D q d ∧ List.length ds = q ∧ q ≤ k ∧ smallL (-1) 31 ds ∧ wr.ownsRow (w.heap.size + 1 + 1) 3 1 (.slice D q d) q (ints ds) ∧ Cur wr (w.heap.size + 1) (2 * k) ∧ Drew (w.heap.size + 1) ((w.alloc (.cells #[.int .i64 0, .int .i64 0, .int .i64 0, .int .i64 0] 26)).alloc (.cells #[.slice A n c, .int .i64 0, .int .u64 0] 104)) wr) (fun _ i _ => 31 - (intOf i).toNat)
  case atStart => exact ⟨0, none, 0, 0, [], by omega, rfl, rfl, rfl, Nat.le_refl _, fun y hy => (by cases hy), own_start, HC0.out, Turned.refl⟩
  case round =>
    obtain ⟨k, D, q, d, ds, hk, rfl, rfl, hlq, hqk, hsm, hown, hc, hd⟩ := hrel
    have HLQ := Lib.hid hlq; have HSM := Lib.hid hsm; have HO := Lib.hid hown; have HC := Lib.hid hc; have HD := Lib.hid hd
    clear hlq hsm hown hc hd
    by_cases hlt : k ≤ 30
    · go_wp2_with fail
      refine (one_any (w.heap.size + 1) _ 4 _ (by omega) (by omega) HC.out).mono ?_
      rintro e w5 ⟨b, rfl, hc, hd⟩
      have HO := Lib.hid (Drew.own hd HO.out (by omega)); have HC := Lib.hid hc; have HD := Lib.hid (HD.out.trans hd)
      clear hc hd
      have HZW : Hid (w.heap.size + 1 + 1 ≤ w5.heap.size) := Lib.hid (by rw [← HE1.out]; exact HD.out.size)
      cases b with
      | false =>
        go_wp2
        go_roundw
        case rel => exact ⟨k + 1, D, q, d, ds, by omega, by go_num, rfl, HLQ.out, by omega, HSM.out, HO.out, HC.out.mono (by omega), HD.out⟩
        case measure => simp [intOf]; omega
      | true =>
        go_wp2_with (at_builtin; refine wpList_push _ rfl (.tmp 17) (.tmp 19) 38 rfl (w.heap.size + 1 + 1) 3 (.int .i64 0) 1 8 infoInt rfl (by omega) Try.underlying38 D q d (ints ds) rfl (HO.out.alloc _) (some ⟨w5.heap.size, 0, none⟩) 1 1 [.int .i64 (k : Int)] rfl (reads_new _ _ _) (by simp [Value.oneCell']) (by omega) (by omega) (by have := HZW.out; simp; omega) ?_; intro D' d' w6 hown6 hg6 hb6)
        have hb7 : Below (w.heap.size + 1 + 1) w5 w6 := ((Below.refl _ _).alloc HZW.out _).trans hb6
        have HO6 := Lib.hid hown6; have HC6 := Lib.hid (HC.out.below' hb7 (by omega)); have HD6 := Lib.hid (Drew.then_below HD.out (by rw [HE1.out]; exact hb7))
        clear hown6 hg6 hb6 hb7
        go_roundw
        case rel => exact ⟨k + 1, D', q + 1, d', ds ++ [(k : Int)], by omega, by go_num, rfl, by simp [HLQ.out], by omega, HSM.out.snoc (by omega), by rw [← ints_snoc]; exact HO6.out, HC6.out.mono (by omega), HD6.out⟩
        case measure => simp [intOf]; omega
    · have HC := Lib.hid (HC.out.mono (k' := 62) (by omega))
      go_wp2_with fail
      refine (one_any (w.heap.size + 1) _ 16 _ (by omega) (by omega) HC.out).mono ?_
      rintro e w5 ⟨b, rfl, hc, hd⟩
      have HO := Lib.hid (Drew.own hd HO.out (by omega)); have HC := Lib.hid hc; have HD := Lib.hid (HD.out.trans hd)
      clear hc hd
      cases b with
      | false =>
        go_wp2_with fail
        refine (gear_any (w.heap.size + 1) _ _ (by omega) HC.out).mono ?_
        rintro e w11 ⟨ga, gb, gc, gd, rfl, hc, hd⟩
        have HO := Lib.hid (Drew.own hd HO.out (by omega)); have HC := Lib.hid hc; have HD := Lib.hid (HD.out.trans hd)
        clear hc hd
        go_wp2_with fail
        refine (amongLit_any (w.heap.size + 1) _ [31, -1] 3 _ _ _ rfl rfl (by omega) (by simp) (by simp) HC.out).mono ?_
        rintro e w12 ⟨x, hx, rfl, hc, hd⟩
        have hxb : -1 ≤ x ∧ x ≤ 31 := by simp at hx; omega
        have HO := Lib.hid (Drew.own hd HO.out (by omega)); have HC := Lib.hid hc; have HD := Lib.hid (HD.out.trans hd)
        clear hc hd hx
        go_wp2_with fail
        refine (amongLit_any (w.heap.size + 1) _ [0, 1, 5, 12, 30, x] 3 _ _ _ rfl rfl (by omega) (by simp) (by simp) HC.out).mono ?_
        rintro e w13 ⟨y, hy, rfl, hc, hd⟩
        have hyb : -1 ≤ y ∧ y ≤ 31 := by simp at hy; omega
        have HO := Lib.hid (Drew.own hd HO.out (by omega)); have HD := Lib.hid (HD.out.trans hd)
        clear hc hd hy
        have HB3 := Lib.hid (box4_drew HB2.out HD.out (by omega))
        obtain ⟨z0, z1, z2, z3⟩ := HB3.out.cells
        obtain ⟨y0, y1, y2, y3⟩ := HB3.out.frozen
        go_wp2
        obtain ⟨r0, r1, r2, r3⟩ := (box4_put3 (u := .int .i64 gd) (box4_put2 (u := .int .i64 gc) (box4_put1 (u := .int .i64 gb) (box4_put0 (u := .int .i64 ga) HB3.out)))).cells
        try simp only [Exit.inBlock, Exit.then]
        have HLQF := HLQ.out
        refine bodyPost_ret (v := .tuple #[.agg #[.int .i64 ga, .int .i64 gb, .int .i64 gc, .int .i64 gd], .slice D q d, .int .i64 y]) (by simp [results, Try.results57, go_sem, r0, r1, r2, r3]) rfl ?_
        rw [← HLQF]
        refine ⟨ga, gb, gc, gd, D, d, ds, y, rfl, by omega, HSM.out, hyb, ?_, ?_⟩
        · rw [HLQF]
          exact own_setCell (own_setCell (own_setCell (own_setCell (own_mono HO.out (base' := w.heap.size + 1) (by omega)) (by omega)) (by omega)) (by omega)) (by omega)
        · exact (HB0.out.trans (Drew.allB (B := w.heap.size) HD.out (by omega) (by have := HE1.out; omega))).trans (((((Below.refl w.heap.size w13).setCell (p := ⟨w.heap.size, 0, none⟩) (Nat.le_refl _) _).setCell (p := ⟨w.heap.size, 1, none⟩) (Nat.le_refl _) _).setCell (p := ⟨w.heap.size, 2, none⟩) (Nat.le_refl _) _).setCell (p := ⟨w.heap.size, 3, none⟩) (Nat.le_refl _) _)
      | true =>
        go_wp2_with fail
        refine (amongLit_any (w.heap.size + 1) _ [31, -1, 0] 3 _ _ _ rfl rfl (by omega) (by simp) (by simp) HC.out).mono ?_
        rintro e w9 ⟨v, hv, rfl, hc, hd⟩
        have hvb : -1 ≤ v ∧ v ≤ 31 := by simp at hv; omega
        have HO := Lib.hid (Drew.own hd HO.out (by omega)); have HC := Lib.hid hc; have HD := Lib.hid (HD.out.trans hd)
        clear hc hd hv
        have HZW : Hid (w.heap.size + 1 + 1 ≤ w9.heap.size) := Lib.hid (by rw [← HE1.out]; exact HD.out.size)
        go_wp2_with (first | (at_builtin; refine wpList_push _ rfl (.tmp 23) (.tmp 27) 38 rfl (w.heap.size + 1 + 1) 3 (.int .i64 0) 1 8 infoInt rfl (by omega) Try.underlying38 D q d (ints ds) rfl (HO.out.alloc _) (some ⟨w9.heap.size, 0, none⟩) 1 1 [.int .i64 v] rfl (reads_new _ _ _) (by simp [Value.oneCell']) (by omega) (by omega) (by have := HZW.out; simp; omega) ?_; intro D' d' w6 hown6 hg6 hb6) | fail)
        have hb7 : Below (w.heap.size + 1 + 1) w9 w6 := ((Below.refl _ _).alloc HZW.out _).trans hb6
        have HO6 := Lib.hid hown6; have HC6 := Lib.hid (HC.out.below' hb7 (by omega)); have HD6 := Lib.hid (Drew.then_below HD.out (by rw [HE1.out]; exact hb7))
        clear hown6 hg6 hb6 hb7
        have HLQ : Hid ((ds ++ [v]).length = q + 1) := Lib.hid (by simp [HLQ.out])
        have HSM := Lib.hid (HSM.out.snoc hvb)
        have HO : Hid (w6.ownsRow (w.heap.size + 1 + 1) 3 1 (.slice D' (q + 1) d') (q + 1) (ints (ds ++ [v]))) := Lib.hid (by rw [← ints_snoc]; exact HO6.out)
        have HC := HC6
        have HD := HD6
        clear HZW
        go_wp2_with fail
        refine (gear_any (w.heap.size + 1) _ _ (by omega) HC.out).mono ?_
        rintro e w11 ⟨ga, gb, gc, gd, rfl, hc, hd⟩
        have HO := Lib.hid (Drew.own hd HO.out (by omega)); have HC := Lib.hid hc; have HD := Lib.hid (HD.out.trans hd)
        clear hc hd
        go_wp2_with fail
        refine (amongLit_any (w.heap.size + 1) _ [31, -1] 3 _ _ _ rfl rfl (by omega) (by simp) (by simp) HC.out).mono ?_
        rintro e w12 ⟨x, hx, rfl, hc, hd⟩
        have hxb : -1 ≤ x ∧ x ≤ 31 := by simp at hx; omega
        have HO := Lib.hid (Drew.own hd HO.out (by omega)); have HC := Lib.hid hc; have HD := Lib.hid (HD.out.trans hd)
        clear hc hd hx
        go_wp2_with fail
        refine (amongLit_any (w.heap.size + 1) _ [0, 1, 5, 12, 30, x] 3 _ _ _ rfl rfl (by omega) (by simp) (by simp) HC.out).mono ?_
        rintro e w13 ⟨y, hy, rfl, hc, hd⟩
        have hyb : -1 ≤ y ∧ y ≤ 31 := by simp at hy; omega
        have HO := Lib.hid (Drew.own hd HO.out (by omega)); have HD := Lib.hid (HD.out.trans hd)
        clear hc hd hy
        have HB3 := Lib.hid (box4_drew HB2.out HD.out (by omega))
        obtain ⟨z0, z1, z2, z3⟩ := HB3.out.cells
        obtain ⟨y0, y1, y2, y3⟩ := HB3.out.frozen
        go_wp2
        obtain ⟨r0, r1, r2, r3⟩ := (box4_put3 (u := .int .i64 gd) (box4_put2 (u := .int .i64 gc) (box4_put1 (u := .int .i64 gb) (box4_put0 (u := .int .i64 ga) HB3.out)))).cells
        try simp only [Exit.inBlock, Exit.then]
        have HLQF := HLQ.out
        refine bodyPost_ret (v := .tuple #[.agg #[.int .i64 ga, .int .i64 gb, .int .i64 gc, .int .i64 gd], .slice D' (q + 1) d', .int .i64 y]) (by simp [results, Try.results57, go_sem, r0, r1, r2, r3]) rfl ?_
        rw [← HLQF]
        refine ⟨ga, gb, gc, gd, D', d', (ds ++ [v]), y, rfl, by omega, HSM.out, hyb, ?_, ?_⟩
        · rw [HLQF]
          exact own_setCell (own_setCell (own_setCell (own_setCell (own_mono HO.out (base' := w.heap.size + 1) (by omega)) (by omega)) (by omega)) (by omega)) (by omega)
        · exact (HB0.out.trans (Drew.allB (B := w.heap.size) HD.out (by omega) (by have := HE1.out; omega))).trans (((((Below.refl w.heap.size w13).setCell (p := ⟨w.heap.size, 0, none⟩) (Nat.le_refl _) _).setCell (p := ⟨w.heap.size, 1, none⟩) (Nat.le_refl _) _).setCell (p := ⟨w.heap.size, 2, none⟩) (Nat.le_refl _) _).setCell (p := ⟨w.heap.size, 3, none⟩) (Nat.le_refl _) _)

end Go.Proofs.Ytjibdabedagghaa
