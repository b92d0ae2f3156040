/- The spec's drawings of gears and for the laws of wear. No conditions. -/
import Derived.Test.YtjibdabedagghaaDrG
import Derived.Test.YtjibdabedagghaaHelp
namespace Go.Proofs.Ytjibdabedagghaa
set_option linter.unusedSimpArgs false
set_option linter.unusedVariables false
open Go.RowKit


set_option maxHeartbeats 2000000 in
set_option maxRecDepth 100000 in
theorem gears_any (g k : Nat) (w : World) (hk : k ≤ 1000000000) (h : Cur w g k) :
    Calls Try.prog 88 #[.pointer (some ⟨g, 0, none⟩)] w fun e w' => ∃ A c l, e = .returned (.slice A (List.length l) c) ∧ l.length ≤ 9 ∧ w'.ownsRow w.heap.size 26 4 (.slice A l.length c) l.length (rows4 l) ∧ Cur w' g (k + 400) ∧ Drew g w w' := by
  have HC := Lib.hid h
  have HD : Hid (Drew g w w) := Lib.hid Turned.refl
  have HGW : Hid (g < w.heap.size) := Lib.hid h.lt
  clear h
  go_enter Try.func88, Try.ntmps88
  go_wp2_with fail
  refine (pick_any g _ 4 _ (by omega) (by omega) HC.out).mono ?_
  rintro e w1 ⟨N, rfl, hN, _, hc, hd⟩
  have HC := Lib.hid hc; have HD := Lib.hid (HD.out.trans hd)
  clear hc hd
  go_wp2_with fail
  refine (one_any g _ 6 _ (by omega) (by omega) HC.out).mono ?_
  rintro e w2 ⟨b, rfl, hc, hd⟩
  have HC := Lib.hid hc; have HD := Lib.hid (HD.out.trans hd)
  clear hc hd
  cases b with
  | false =>
    have hNb : N ≤ 9 := by omega
    have HC := Lib.hid (HC.out.mono (k' := k + 10) (by omega))
    have HST : Hid (Drew g w _ ∧ Cur _ g (k + 10)) := Lib.hid ⟨HD.out, HC.out⟩
    clear HD HC
    go_wp2
    go_loopw [3] (fun o wr => ∃ A q c l, o = .slice A q c ∧ List.length l = q ∧ q ≤ N ∧ wr.ownsRow w.heap.size 26 4 (.slice A q c) q (rows4 l) ∧ Cur wr g (k + 10 + 40 * q) ∧ Drew g w wr) (fun o _ => N - lenV o)
    case atStart => exact ⟨none, 0, 0, [], rfl, rfl, Nat.zero_le _, World.ownsRow_nil _ _ _ _, HST.out.2, HST.out.1⟩
    case round =>
      obtain ⟨A, q, c, l, rfl, hlq, hq, hown, hc, hd⟩ := hrel
      clear HST
      have HLQ := Lib.hid hlq; have HO := Lib.hid hown; have HC := Lib.hid hc; have HD := Lib.hid hd
      clear hlq hown hc hd
      by_cases hlt : q < N
      · go_wp2_with fail
        refine (gear_any g _ _ (by omega) HC.out).mono ?_
        rintro e w5 ⟨ga, gb, gc, gd, rfl, hc, hd⟩
        have HO := Lib.hid (Drew.own hd HO.out HGW.out); have HC := Lib.hid hc; have HD := Lib.hid (HD.out.trans hd)
        clear hc hd
        have HZ : Hid (w.heap.size ≤ w5.heap.size) := Lib.hid HD.out.size
        go_wp2_with (at_builtin; refine wpList_push _ rfl (.tmp 16) (.tmp 19) 32 rfl w.heap.size 26 _ 4 32 infoGear rfl (by omega) Try.underlying32 A q c (rows4 l) rfl (own_below HO.out ((Below.refl _ _).alloc (Nat.le_refl _) _)) (some ⟨w5.heap.size, 0, none⟩) 1 1 [.int .i64 ga, .int .i64 gb, .int .i64 gc, .int .i64 gd] rfl (reads_litk _ _ _ rfl) (by simp [Value.oneCell']) (by omega) (by omega) (by have := HZ.out; simp; omega) ?_; intro A' c' w6 hown6 hg6 hb6)
        have hb7 : Below w.heap.size w5 w6 := ((Below.refl _ _).alloc HZ.out _).trans hb6
        have HO6 := Lib.hid hown6; have HC6 := Lib.hid (HC.out.below' hb7 HGW.out); have HD6 := Lib.hid (Drew.then_below HD.out hb7)
        clear hown6 hg6 hb6 hb7
        go_roundw
        case rel =>
          refine ⟨A', q + 1, c', l ++ [(ga, gb, gc, gd)], rfl, by simp [HLQ.out], by omega, ?_, HC6.out.mono (by omega), HD6.out⟩
          have e1 : rows4 (l ++ [(ga, gb, gc, gd)]) = rows4 l ++ [.int .i64 ga, .int .i64 gb, .int .i64 gc, .int .i64 gd] := by simp [rows4, cells4]
          rw [e1]
          exact HO6.out
        case measure => simp [lenV]; omega
      · obtain rfl : q = N := by omega
        have HC := Lib.hid (HC.out.mono (k' := k + 400) (by omega))
        go_wp2
        go_ret
        have HCF := HC; have HOF := HO; have HDF := HD
        have e1 := HLQ.out
        subst e1
        exact ⟨A, c, l, rfl, by omega, HOF.out, HCF.out.mono (by omega), HDF.out⟩
  | true =>
    go_wp2_with fail
    refine (amongLit_any g _ [4, 5, 8, 9] 3 _ _ _ rfl rfl (by omega) (by simp) (by simp) HC.out).mono ?_
    rintro e w3 ⟨y, hy, rfl, hc, hd⟩
    have hyb : 4 ≤ y ∧ y ≤ 9 := by simp at hy; omega
    have HC := Lib.hid hc; have HD := Lib.hid (HD.out.trans hd)
    clear hc hd hy hN
    obtain ⟨M, rfl⟩ : ∃ M : Nat, y = (M : Int) := ⟨y.toNat, by omega⟩
    have hMb : M ≤ 9 := by omega
    clear hyb
    have HC := Lib.hid (HC.out.mono (k' := k + 10) (by omega))
    have HST : Hid (Drew g w _ ∧ Cur _ g (k + 10)) := Lib.hid ⟨HD.out, HC.out⟩
    clear HD HC
    go_wp2
    go_loopw [3] (fun o wr => ∃ A q c l, o = .slice A q c ∧ List.length l = q ∧ q ≤ M ∧ wr.ownsRow w.heap.size 26 4 (.slice A q c) q (rows4 l) ∧ Cur wr g (k + 10 + 40 * q) ∧ Drew g w wr) (fun o _ => M - lenV o)
    case atStart => exact ⟨none, 0, 0, [], rfl, rfl, Nat.zero_le _, World.ownsRow_nil _ _ _ _, HST.out.2, HST.out.1⟩
    case round =>
      obtain ⟨A, q, c, l, rfl, hlq, hq, hown, hc, hd⟩ := hrel
      clear HST
      have HLQ := Lib.hid hlq; have HO := Lib.hid hown; have HC := Lib.hid hc; have HD := Lib.hid hd
      clear hlq hown hc hd
      by_cases hlt : q < M
      · go_wp2_with fail
        refine (gear_any g _ _ (by omega) HC.out).mono ?_
        rintro e w5 ⟨ga, gb, gc, gd, rfl, hc, hd⟩
        have HO := Lib.hid (Drew.own hd HO.out HGW.out); have HC := Lib.hid hc; have HD := Lib.hid (HD.out.trans hd)
        clear hc hd
        have HZ : Hid (w.heap.size ≤ w5.heap.size) := Lib.hid HD.out.size
        go_wp2_with (at_builtin; refine wpList_push _ rfl (.tmp 16) (.tmp 19) 32 rfl w.heap.size 26 _ 4 32 infoGear rfl (by omega) Try.underlying32 A q c (rows4 l) rfl (own_below HO.out ((Below.refl _ _).alloc (Nat.le_refl _) _)) (some ⟨w5.heap.size, 0, none⟩) 1 1 [.int .i64 ga, .int .i64 gb, .int .i64 gc, .int .i64 gd] rfl (reads_litk _ _ _ rfl) (by simp [Value.oneCell']) (by omega) (by omega) (by have := HZ.out; simp; omega) ?_; intro A' c' w6 hown6 hg6 hb6)
        have hb7 : Below w.heap.size w5 w6 := ((Below.refl _ _).alloc HZ.out _).trans hb6
        have HO6 := Lib.hid hown6; have HC6 := Lib.hid (HC.out.below' hb7 HGW.out); have HD6 := Lib.hid (Drew.then_below HD.out hb7)
        clear hown6 hg6 hb6 hb7
        go_roundw
        case rel =>
          refine ⟨A', q + 1, c', l ++ [(ga, gb, gc, gd)], rfl, by simp [HLQ.out], by omega, ?_, HC6.out.mono (by omega), HD6.out⟩
          have e1 : rows4 (l ++ [(ga, gb, gc, gd)]) = rows4 l ++ [.int .i64 ga, .int .i64 gb, .int .i64 gc, .int .i64 gd] := by simp [rows4, cells4]
          rw [e1]
          exact HO6.out
        case measure => simp [lenV]; omega
      · obtain rfl : q = M := by omega
        have HC := Lib.hid (HC.out.mono (k' := k + 400) (by omega))
        go_wp2
        go_ret
        have HCF := HC; have HOF := HO; have HDF := HD
        have e1 := HLQ.out
        subst e1
        exact ⟨A, c, l, rfl, by omega, HOF.out, HCF.out.mono (by omega), HDF.out⟩

set_option maxHeartbeats 1000000 in
theorem drawAreGears_any (A : Option Addr) (n c : Nat) (l : List Int) (w : World) (hn : n ≤ 9223372036854775807) (hl : ∀ x ∈ l, 0 ≤ x ∧ x ≤ 255) (h : Reads w 1 A n (bytesV l)) :
    Calls Try.prog 95 #[.slice A n c] w fun e w' => ∃ B d gs, e = .returned (.slice B (List.length gs) d) ∧ gs.length ≤ 9 ∧ w'.ownsRow w.heap.size 26 4 (.slice B gs.length d) gs.length (rows4 gs) ∧ Below w.heap.size w w' := by
  have HB0 : Hid (Below w.heap.size w (w.alloc (.cells #[.slice A n c, .int .i64 0, .int .u64 0] 104))) := Lib.hid ((Below.refl _ _).alloc (Nat.le_refl _) _)
  have HZ0 : Hid ((w.alloc (.cells #[.slice A n c, .int .i64 0, .int .u64 0] 104)).heap.size = w.heap.size + 1) := Lib.hid (by simp)
  have HC := Lib.hid (Cur.new (c := c) h hn hl)
  clear h hl
  go_enter Try.func95, Try.ntmps95
  go_wp2_with fail
  refine (gears_any w.heap.size 0 _ (by omega) HC.out).mono ?_
  rintro e w1 ⟨B, d, gs, rfl, hf, ho, _, hd⟩
  have HO := Lib.hid (own_mono ho (base' := w.heap.size) (by simp)); have HD := Lib.hid (hd.allB (Nat.le_refl w.heap.size) (by have := HZ0.out; omega))
  clear ho hd
  go_wp2
  go_ret
  exact ⟨B, d, gs, rfl, hf, HO.out, HB0.out.trans HD.out⟩
theorem drawFirstToFail_any (A : Option Addr) (n c : Nat) (l : List Int) (w : World) (hn : n ≤ 9223372036854775807) (hl : ∀ x ∈ l, 0 ≤ x ∧ x ≤ 255) (h : Reads w 1 A n (bytesV l)) :
    Calls Try.prog 58 #[.slice A n c] w fun e w' => ∃ B d gs, e = .returned (.slice B (List.length gs) d) ∧ gs.length ≤ 9 ∧ w'.ownsRow w.heap.size 26 4 (.slice B gs.length d) gs.length (rows4 gs) ∧ Below w.heap.size w w' := by
  go_enter Try.func58, Try.ntmps58
  go_wp2_with fail
  refine (drawAreGears_any A n c l w hn hl h).mono ?_
  rintro e w1 ⟨B, d, gs, rfl, hf, ho, hb⟩
  have HO := Lib.hid ho; have HB := Lib.hid hb
  clear ho hb
  go_wp2
  go_ret
  exact ⟨B, d, gs, rfl, hf, HO.out, HB.out⟩

set_option maxHeartbeats 1000000 in
set_option maxRecDepth 100000 in
theorem drawDaysLeft_any (A : Option Addr) (n c : Nat) (l : List Int) (w : World) (hn : n ≤ 9223372036854775807) (hl : ∀ x ∈ l, 0 ≤ x ∧ x ≤ 255) (h : Reads w 1 A n (bytesV l)) :
    Calls Try.prog 59 #[.slice A n c] w fun e w' => ∃ ga gb gc gd : Int, e = .returned (.agg #[.int .i64 ga, .int .i64 gb, .int .i64 gc, .int .i64 gd]) ∧ Below w.heap.size w w' := by
  have HZ : Hid (Below w.heap.size w (w.alloc (.cells #[.int .i64 0, .int .i64 0, .int .i64 0, .int .i64 0] 26))) := Lib.hid ((Below.refl _ _).alloc (Nat.le_refl _) _)
  have HB0 : Hid (Below w.heap.size w ((w.alloc (.cells #[.int .i64 0, .int .i64 0, .int .i64 0, .int .i64 0] 26)).alloc (.cells #[.slice A n c, .int .i64 0, .int .u64 0] 104))) := Lib.hid (((Below.refl _ _).alloc (Nat.le_refl _) _).alloc (by simp) _)
  have HE0 : Hid ((w.alloc (.cells #[.int .i64 0, .int .i64 0, .int .i64 0, .int .i64 0] 26)).heap.size = w.heap.size + 1) := Lib.hid (by simp)
  have HE1 : Hid (((w.alloc (.cells #[.int .i64 0, .int .i64 0, .int .i64 0, .int .i64 0] 26)).alloc (.cells #[.slice A n c, .int .i64 0, .int .u64 0] 104)).heap.size = w.heap.size + 1 + 1) := Lib.hid (by simp)
  have hcn := Cur.new (c := c) (h.alloc (.cells #[.int .i64 0, .int .i64 0, .int .i64 0, .int .i64 0] 26)) hn hl
  rw [HE0.out] at hcn
  have HC := Lib.hid hcn
  have HB2 := Lib.hid (box4_bel (Box4.new w 26 (.int .i64 0) (.int .i64 0) (.int .i64 0) (.int .i64 0)) ((Below.refl _ _).alloc (Nat.le_refl _) (.cells #[.slice A n c, .int .i64 0, .int .u64 0] 104)))
  clear h hl hcn
  go_enter Try.func59, Try.ntmps59
  go_wp2_with fail
  refine (gear_any (w.heap.size + 1) 0 _ (by omega) HC.out).mono ?_
  rintro e w1 ⟨ga, gb, gc, gd, rfl, _, hd⟩
  have HB2 := Lib.hid (box4_drew HB2.out hd (by omega))
  have HD := Lib.hid (hd.allB (B := w.heap.size) (by omega) (by have := HE1.out; omega))
  clear hd
  obtain ⟨z0, z1, z2, z3⟩ := HB2.out.cells
  obtain ⟨y0, y1, y2, y3⟩ := HB2.out.frozen
  go_wp2
  obtain ⟨r0, r1, r2, r3⟩ := (box4_put3 (u := .int .i64 gd) (box4_put2 (u := .int .i64 gc) (box4_put1 (u := .int .i64 gb) (box4_put0 (u := .int .i64 ga) HB2.out)))).cells
  try simp only [Exit.inBlock, Exit.then]
  refine bodyPost_ret (v := .agg #[.int .i64 ga, .int .i64 gb, .int .i64 gc, .int .i64 gd]) (by simp [results, Try.results59, go_sem, r0, r1, r2, r3]) rfl ?_
  exact ⟨ga, gb, gc, gd, rfl, (HB0.out.trans HD.out).trans (((((Below.refl w.heap.size w1).setCell (p := ⟨w.heap.size, 0, none⟩) (Nat.le_refl _) _).setCell (p := ⟨w.heap.size, 1, none⟩) (Nat.le_refl _) _).setCell (p := ⟨w.heap.size, 2, none⟩) (Nat.le_refl _) _).setCell (p := ⟨w.heap.size, 3, none⟩) (Nat.le_refl _) _)⟩

end Go.Proofs.Ytjibdabedagghaa
