/- Contracts of the laws' helpers on structs of integers and on slices of them. No conditions. -/
import Derived.Test.YthpfgmnhpnfopaaCom
namespace Go.Proofs.Ythpfgmnhpnfopaa
set_option linter.unusedSimpArgs false
set_option linter.unusedVariables false
open Go.RowKit





theorem infoFog : (Try.prog.info? 110).map (fun i => (i.zero, i.size, i.bytes)) = some (some (.agg #[.int .i64 0, .int .i64 0, .int .i64 0]), 3, 24) := by kernel_rfl
theorem eqFog_any (a0 a1 a2 : Int) (w : World) :
    Calls Try.prog 99 #[.agg #[.int .i64 a0, .int .i64 a1, .int .i64 a2], .agg #[.int .i64 a0, .int .i64 a1, .int .i64 a2]] w fun e w' => e = .returned (.bool true) ∧ Below w.heap.size w w' := by
  go_enter Try.func99, Try.ntmps99
  go_wp2
  go_ret
  exact ⟨rfl, by go_grown⟩
set_option maxHeartbeats 2000000 in
theorem eqFogS_any (A B : Option Addr) (n c c' : Nat) (l : List (Int × Int × Int)) (w : World) (hn : n ≤ 1000000000000) (h : Reads w 3 A n (rows3 l)) (h' : Reads w 3 B n (rows3 l)) :
    Calls Try.prog 49 #[.slice A n c, .slice B n c'] w fun e w' => e = .returned (.bool true) ∧ Below w.heap.size w w' := by
  have HX := Lib.hid (show l.length = n by have := h.1; rw [length_rows3] at this; omega)
  have H := Lib.hid h
  have H' := Lib.hid h'
  clear h h'
  go_enter Try.func49, Try.ntmps49
  go_wp2
  go_loopw [5] (fun i wr => ∃ k : Nat, k ≤ n ∧ i = .int .i64 k ∧ Below w.heap.size w wr) (fun i _ => n - (intOf i).toNat)
  case atStart => exact ⟨0, Nat.zero_le _, rfl, Below.refl _ _⟩
  case round =>
    obtain ⟨k, hk, rfl, hb⟩ := hrel
    have HB := Lib.hid hb; clear hb
    by_cases hlt : k < n
    · obtain ⟨ad, rfl, k0, k1, k2⟩ := rows3_at (H.out.below HB.out) hlt HX.out
      obtain ⟨ad', rfl, j0, j1, j2⟩ := rows3_at (H'.out.below HB.out) hlt HX.out
      have hx : k < l.length := by rw [HX.out]; exact hlt
      generalize l[k] = x at *
      obtain ⟨x0, x1, x2⟩ := x
      go_wp2
      go_region_with (go_at_call 99; refine (eqFog_any x0 x1 x2 _).mono ?_; rintro e w1 ⟨rfl, hb1⟩)
      all_goals
        have HB1 := Lib.hid hb1; clear hb1
        go_wp2
        go_roundw
        case rel => exact ⟨k + 1, by omega, by go_num, HB.out.drew.trans (HB1.out.mono HB.out.size)⟩
        case measure => simp [intOf]; omega
    · go_wp2
      go_ret
      exact ⟨rfl, HB.out⟩

theorem infoTower : (Try.prog.info? 121).map (fun i => (i.zero, i.size, i.bytes)) = some (some (.agg #[.int .i64 0, .int .i64 0, .int .i64 0]), 3, 24) := by kernel_rfl
theorem szTowerS_any (A : Option Addr) (n c : Nat) (left : Int) (w : World) (hn : n ≤ 9223372036854775807) (h1 : 0 ≤ left) (h2 : left ≤ 1000000000) :
    Calls Try.prog 92 #[.slice A n c, .int .i64 left] w fun e w' => e = .returned (.int .i64 (if left < (n : Int) then -1 else left - (n : Int))) ∧ w = w' := by
  by_cases hlt : left < (n : Int)
  · rw [if_pos hlt]
    go_enter Try.func92, Try.ntmps92
    go_wp2
    go_ret
    exact ⟨rfl, rfl⟩
  · rw [if_neg hlt]
    go_enter Try.func92, Try.ntmps92
    go_wp2
    go_ret
    exact ⟨rfl, rfl⟩
theorem szTowerS_ok (A : Option Addr) (n c : Nat) (left : Nat) (w : World) (h1 : n ≤ left) (h2 : left ≤ 1000000000) :
    Calls Try.prog 92 #[.slice A n c, .int .i64 left] w fun e w' => e = .returned (.int .i64 ((left : Int) - (n : Int))) ∧ w = w' := by
  have := szTowerS_any A n c left w (by omega) (by omega) (by omega)
  rw [if_neg (by omega)] at this
  exact this
theorem szTowerS_big (A : Option Addr) (n c : Nat) (left : Nat) (w : World) (h0 : n ≤ 9223372036854775807) (h1 : left < n) (h2 : left ≤ 1000000000) :
    Calls Try.prog 92 #[.slice A n c, .int .i64 left] w fun e w' => e = .returned (.int .i64 (-1)) ∧ w = w' := by
  have := szTowerS_any A n c left w (by omega) (by omega) (by omega)
  rw [if_pos (by omega)] at this
  exact this
theorem toTower_any (a0 a1 a2 : Int) (w : World) :
    Calls Try.prog 116 #[.agg #[.int .i64 a0, .int .i64 a1, .int .i64 a2]] w fun e w' => e = .returned (.agg #[.int .i64 a0, .int .i64 a1, .int .i64 a2]) ∧ Below w.heap.size w w' := by
  go_enter Try.func116, Try.ntmps116
  go_wp2
  go_returns
  exact ⟨rfl, by go_grown⟩
set_option maxHeartbeats 1000000 in
theorem toTowerS_any (A : Option Addr) (n c : Nat) (l : List (Int × Int × Int)) (w : World) (hn : n ≤ 1000000000) (h : Reads w 3 A n (rows3 l)) :
    Calls Try.prog 96 #[.slice A n c] w (Made w 121 3 n (rows3 l)) := by
  have HX := Lib.hid (show l.length = n by have := h.1; rw [length_rows3] at this; omega)
  have HRL := Lib.hid h.1
  have H := Lib.hid h; clear h
  go_enter Try.func96, Try.ntmps96
  go_wp2_with (at_make; refine wpList_mkN _ rfl (.tmp 6) (.tmp 6) 65 rfl w.heap.size 121 _ 3 _ infoTower Try.underlying65 _ _ _ _ n rfl rfl rfl rfl (by omega) (by omega) (Nat.le_refl _) ?_; intro w1 old hol hown1 hb1 hz1)
  have hown1' : w1.ownsRow w.heap.size 121 3 (.slice (some ⟨w.heap.size, 0, none⟩) n n) n ((rows3 l).take (0 * 3) ++ old.drop (0 * 3)) := by simpa using hown1
  have HS0 := Lib.hid (And.intro hown1' (And.intro hb1 hz1))
  have HOL := Lib.hid hol
  clear hown1 hown1' hb1 hz1 hol
  generalize hg : w.heap.size = g at *
  go_loopw [4] (fun i wr => ∃ k : Nat, k ≤ n ∧ i = .int .i64 k ∧ wr.ownsRow g 121 3 (.slice (some ⟨g, 0, none⟩) n n) n ((rows3 l).take (k * 3) ++ old.drop (k * 3)) ∧ Below g w wr ∧ g < wr.heap.size) (fun i _ => n - (intOf i).toNat)
  case atStart => exact ⟨0, Nat.zero_le _, rfl, HS0.out.1, HS0.out.2.1, HS0.out.2.2⟩
  case round =>
    obtain ⟨k, hk, rfl, hown, hb, hgz⟩ := hrel
    clear HS0
    have HO := Lib.hid hown; clear hown
    have HB := Lib.hid hb; clear hb
    by_cases hlt : k < n
    · obtain ⟨ad, rfl, k0, k1, k2⟩ := rows3_at (H.out.keep (w' := wr) (fun p hp => HB.out.cell (by omega))) hlt HX.out
      have hx : k < l.length := by rw [HX.out]; exact hlt
      have HG := Lib.hid (rows3_get hx)
      generalize l[k] = x at *
      obtain ⟨x0, x1, x2⟩ := x
      have hst : ∀ W, Below wr.heap.size wr W → (∃ o0 o1 o2, W.cell? ⟨g, k * 3, none⟩ = some o0 ∧ W.cell? ⟨g, k * 3 + 1, none⟩ = some o1 ∧ W.cell? ⟨g, k * 3 + 2, none⟩ = some o2) ∧ W.frozen? ⟨g, k * 3, none⟩ = false ∧ W.frozen? ⟨g, k * 3 + 1, none⟩ = false ∧ W.frozen? ⟨g, k * 3 + 2, none⟩ = false := by
        intro W hW
        have ho := own_below HO.out hW
        have hol : ((rows3 l).take (k * 3) ++ old.drop (k * 3)).length = n * 3 := ho.1
        have f : ∀ j, k * 3 + j < n * 3 → ∃ o, W.cell? ⟨g, k * 3 + j, none⟩ = some o := fun j hj => ⟨_, by rw [ho.cellAt _ (by omega)]; exact List.getElem?_eq_getElem (by rw [hol]; exact hj)⟩
        obtain ⟨o0, e0⟩ := f 0 (by omega)
        obtain ⟨o1, e1⟩ := f 1 (by omega)
        obtain ⟨o2, e2⟩ := f 2 (by omega)
        exact ⟨⟨o0, o1, o2, e0, e1, e2⟩, ho.frozenAt _, ho.frozenAt _, ho.frozenAt _⟩
      have HST := Lib.hid hst; clear hst
      go_wp2_with (go_at_call 116; refine (toTower_any x0 x1 x2 _).mono ?_; rintro e w1 ⟨rfl, hb1⟩; obtain ⟨⟨o0, o1, o2, c0, c1, c2⟩, f0, f1, f2⟩ := HST.out w1 hb1; have HB1 := Lib.hid hb1; clear hb1)
      go_roundw
      case rel => exact ⟨k + 1, by omega, by go_num, own_set3 HRL.out HOL.out hlt (own_below HO.out HB1.out) HG.out.1 HG.out.2.1 HG.out.2.2, ((((HB.out.trans (HB1.out.mono (by omega))).setCell (p := ⟨g, k * 3, none⟩) (Nat.le_refl _) _).setCell (p := ⟨g, k * 3 + 1, none⟩) (Nat.le_refl _) _).setCell (p := ⟨g, k * 3 + 2, none⟩) (Nat.le_refl _) _), by have := HB1.out.size; simp; omega⟩
      case measure => simp [intOf]; omega
    · obtain rfl : k = n := by omega
      have ho := HO.out
      rw [two_end HRL.out HOL.out] at ho
      have HO2 := Lib.hid ho
      clear ho
      go_wp2
      go_ret
      subst hg
      exact ⟨_, _, rfl, HO2.out, HB.out⟩
theorem eqTower_any (a0 a1 a2 : Int) (w : World) :
    Calls Try.prog 119 #[.agg #[.int .i64 a0, .int .i64 a1, .int .i64 a2], .agg #[.int .i64 a0, .int .i64 a1, .int .i64 a2]] w fun e w' => e = .returned (.bool true) ∧ Below w.heap.size w w' := by
  go_enter Try.func119, Try.ntmps119
  go_wp2
  go_ret
  exact ⟨rfl, by go_grown⟩
set_option maxHeartbeats 2000000 in
theorem eqTowerS_any (A B : Option Addr) (n c c' : Nat) (l : List (Int × Int × Int)) (w : World) (hn : n ≤ 1000000000000) (h : Reads w 3 A n (rows3 l)) (h' : Reads w 3 B n (rows3 l)) :
    Calls Try.prog 100 #[.slice A n c, .slice B n c'] w fun e w' => e = .returned (.bool true) ∧ Below w.heap.size w w' := by
  have HX := Lib.hid (show l.length = n by have := h.1; rw [length_rows3] at this; omega)
  have H := Lib.hid h
  have H' := Lib.hid h'
  clear h h'
  go_enter Try.func100, Try.ntmps100
  go_wp2
  go_loopw [5] (fun i wr => ∃ k : Nat, k ≤ n ∧ i = .int .i64 k ∧ Below w.heap.size w wr) (fun i _ => n - (intOf i).toNat)
  case atStart => exact ⟨0, Nat.zero_le _, rfl, Below.refl _ _⟩
  case round =>
    obtain ⟨k, hk, rfl, hb⟩ := hrel
    have HB := Lib.hid hb; clear hb
    by_cases hlt : k < n
    · obtain ⟨ad, rfl, k0, k1, k2⟩ := rows3_at (H.out.below HB.out) hlt HX.out
      obtain ⟨ad', rfl, j0, j1, j2⟩ := rows3_at (H'.out.below HB.out) hlt HX.out
      have hx : k < l.length := by rw [HX.out]; exact hlt
      generalize l[k] = x at *
      obtain ⟨x0, x1, x2⟩ := x
      go_wp2
      go_region_with (go_at_call 119; refine (eqTower_any x0 x1 x2 _).mono ?_; rintro e w1 ⟨rfl, hb1⟩)
      all_goals
        have HB1 := Lib.hid hb1; clear hb1
        go_wp2
        go_roundw
        case rel => exact ⟨k + 1, by omega, by go_num, HB.out.drew.trans (HB1.out.mono HB.out.size)⟩
        case measure => simp [intOf]; omega
    · go_wp2
      go_ret
      exact ⟨rfl, HB.out⟩

theorem infoLink : (Try.prog.info? 123).map (fun i => (i.zero, i.size, i.bytes)) = some (some (.agg #[.int .i64 0, .int .i64 0, .int .i64 0]), 3, 24) := by kernel_rfl
theorem szLinkS_any (A : Option Addr) (n c : Nat) (left : Int) (w : World) (hn : n ≤ 9223372036854775807) (h1 : 0 ≤ left) (h2 : left ≤ 1000000000) :
    Calls Try.prog 93 #[.slice A n c, .int .i64 left] w fun e w' => e = .returned (.int .i64 (if left < (n : Int) then -1 else left - (n : Int))) ∧ w = w' := by
  by_cases hlt : left < (n : Int)
  · rw [if_pos hlt]
    go_enter Try.func93, Try.ntmps93
    go_wp2
    go_ret
    exact ⟨rfl, rfl⟩
  · rw [if_neg hlt]
    go_enter Try.func93, Try.ntmps93
    go_wp2
    go_ret
    exact ⟨rfl, rfl⟩
theorem szLinkS_ok (A : Option Addr) (n c : Nat) (left : Nat) (w : World) (h1 : n ≤ left) (h2 : left ≤ 1000000000) :
    Calls Try.prog 93 #[.slice A n c, .int .i64 left] w fun e w' => e = .returned (.int .i64 ((left : Int) - (n : Int))) ∧ w = w' := by
  have := szLinkS_any A n c left w (by omega) (by omega) (by omega)
  rw [if_neg (by omega)] at this
  exact this
theorem szLinkS_big (A : Option Addr) (n c : Nat) (left : Nat) (w : World) (h0 : n ≤ 9223372036854775807) (h1 : left < n) (h2 : left ≤ 1000000000) :
    Calls Try.prog 93 #[.slice A n c, .int .i64 left] w fun e w' => e = .returned (.int .i64 (-1)) ∧ w = w' := by
  have := szLinkS_any A n c left w (by omega) (by omega) (by omega)
  rw [if_pos (by omega)] at this
  exact this
theorem toLink_any (a0 a1 a2 : Int) (w : World) :
    Calls Try.prog 117 #[.agg #[.int .i64 a0, .int .i64 a1, .int .i64 a2]] w fun e w' => e = .returned (.agg #[.int .i64 a0, .int .i64 a1, .int .i64 a2]) ∧ Below w.heap.size w w' := by
  go_enter Try.func117, Try.ntmps117
  go_wp2
  go_returns
  exact ⟨rfl, by go_grown⟩
set_option maxHeartbeats 1000000 in
theorem toLinkS_any (A : Option Addr) (n c : Nat) (l : List (Int × Int × Int)) (w : World) (hn : n ≤ 1000000000) (h : Reads w 3 A n (rows3 l)) :
    Calls Try.prog 97 #[.slice A n c] w (Made w 123 3 n (rows3 l)) := by
  have HX := Lib.hid (show l.length = n by have := h.1; rw [length_rows3] at this; omega)
  have HRL := Lib.hid h.1
  have H := Lib.hid h; clear h
  go_enter Try.func97, Try.ntmps97
  go_wp2_with (at_make; refine wpList_mkN _ rfl (.tmp 6) (.tmp 6) 66 rfl w.heap.size 123 _ 3 _ infoLink Try.underlying66 _ _ _ _ n rfl rfl rfl rfl (by omega) (by omega) (Nat.le_refl _) ?_; intro w1 old hol hown1 hb1 hz1)
  have hown1' : w1.ownsRow w.heap.size 123 3 (.slice (some ⟨w.heap.size, 0, none⟩) n n) n ((rows3 l).take (0 * 3) ++ old.drop (0 * 3)) := by simpa using hown1
  have HS0 := Lib.hid (And.intro hown1' (And.intro hb1 hz1))
  have HOL := Lib.hid hol
  clear hown1 hown1' hb1 hz1 hol
  generalize hg : w.heap.size = g at *
  go_loopw [4] (fun i wr => ∃ k : Nat, k ≤ n ∧ i = .int .i64 k ∧ wr.ownsRow g 123 3 (.slice (some ⟨g, 0, none⟩) n n) n ((rows3 l).take (k * 3) ++ old.drop (k * 3)) ∧ Below g w wr ∧ g < wr.heap.size) (fun i _ => n - (intOf i).toNat)
  case atStart => exact ⟨0, Nat.zero_le _, rfl, HS0.out.1, HS0.out.2.1, HS0.out.2.2⟩
  case round =>
    obtain ⟨k, hk, rfl, hown, hb, hgz⟩ := hrel
    clear HS0
    have HO := Lib.hid hown; clear hown
    have HB := Lib.hid hb; clear hb
    by_cases hlt : k < n
    · obtain ⟨ad, rfl, k0, k1, k2⟩ := rows3_at (H.out.keep (w' := wr) (fun p hp => HB.out.cell (by omega))) hlt HX.out
      have hx : k < l.length := by rw [HX.out]; exact hlt
      have HG := Lib.hid (rows3_get hx)
      generalize l[k] = x at *
      obtain ⟨x0, x1, x2⟩ := x
      have hst : ∀ W, Below wr.heap.size wr W → (∃ o0 o1 o2, W.cell? ⟨g, k * 3, none⟩ = some o0 ∧ W.cell? ⟨g, k * 3 + 1, none⟩ = some o1 ∧ W.cell? ⟨g, k * 3 + 2, none⟩ = some o2) ∧ W.frozen? ⟨g, k * 3, none⟩ = false ∧ W.frozen? ⟨g, k * 3 + 1, none⟩ = false ∧ W.frozen? ⟨g, k * 3 + 2, none⟩ = false := by
        intro W hW
        have ho := own_below HO.out hW
        have hol : ((rows3 l).take (k * 3) ++ old.drop (k * 3)).length = n * 3 := ho.1
        have f : ∀ j, k * 3 + j < n * 3 → ∃ o, W.cell? ⟨g, k * 3 + j, none⟩ = some o := fun j hj => ⟨_, by rw [ho.cellAt _ (by omega)]; exact List.getElem?_eq_getElem (by rw [hol]; exact hj)⟩
        obtain ⟨o0, e0⟩ := f 0 (by omega)
        obtain ⟨o1, e1⟩ := f 1 (by omega)
        obtain ⟨o2, e2⟩ := f 2 (by omega)
        exact ⟨⟨o0, o1, o2, e0, e1, e2⟩, ho.frozenAt _, ho.frozenAt _, ho.frozenAt _⟩
      have HST := Lib.hid hst; clear hst
      go_wp2_with (go_at_call 117; refine (toLink_any x0 x1 x2 _).mono ?_; rintro e w1 ⟨rfl, hb1⟩; obtain ⟨⟨o0, o1, o2, c0, c1, c2⟩, f0, f1, f2⟩ := HST.out w1 hb1; have HB1 := Lib.hid hb1; clear hb1)
      go_roundw
      case rel => exact ⟨k + 1, by omega, by go_num, own_set3 HRL.out HOL.out hlt (own_below HO.out HB1.out) HG.out.1 HG.out.2.1 HG.out.2.2, ((((HB.out.trans (HB1.out.mono (by omega))).setCell (p := ⟨g, k * 3, none⟩) (Nat.le_refl _) _).setCell (p := ⟨g, k * 3 + 1, none⟩) (Nat.le_refl _) _).setCell (p := ⟨g, k * 3 + 2, none⟩) (Nat.le_refl _) _), by have := HB1.out.size; simp; omega⟩
      case measure => simp [intOf]; omega
    · obtain rfl : k = n := by omega
      have ho := HO.out
      rw [two_end HRL.out HOL.out] at ho
      have HO2 := Lib.hid ho
      clear ho
      go_wp2
      go_ret
      subst hg
      exact ⟨_, _, rfl, HO2.out, HB.out⟩
theorem eqLink_any (a0 a1 a2 : Int) (w : World) :
    Calls Try.prog 120 #[.agg #[.int .i64 a0, .int .i64 a1, .int .i64 a2], .agg #[.int .i64 a0, .int .i64 a1, .int .i64 a2]] w fun e w' => e = .returned (.bool true) ∧ Below w.heap.size w w' := by
  go_enter Try.func120, Try.ntmps120
  go_wp2
  go_ret
  exact ⟨rfl, by go_grown⟩
set_option maxHeartbeats 2000000 in
theorem eqLinkS_any (A B : Option Addr) (n c c' : Nat) (l : List (Int × Int × Int)) (w : World) (hn : n ≤ 1000000000000) (h : Reads w 3 A n (rows3 l)) (h' : Reads w 3 B n (rows3 l)) :
    Calls Try.prog 101 #[.slice A n c, .slice B n c'] w fun e w' => e = .returned (.bool true) ∧ Below w.heap.size w w' := by
  have HX := Lib.hid (show l.length = n by have := h.1; rw [length_rows3] at this; omega)
  have H := Lib.hid h
  have H' := Lib.hid h'
  clear h h'
  go_enter Try.func101, Try.ntmps101
  go_wp2
  go_loopw [5] (fun i wr => ∃ k : Nat, k ≤ n ∧ i = .int .i64 k ∧ Below w.heap.size w wr) (fun i _ => n - (intOf i).toNat)
  case atStart => exact ⟨0, Nat.zero_le _, rfl, Below.refl _ _⟩
  case round =>
    obtain ⟨k, hk, rfl, hb⟩ := hrel
    have HB := Lib.hid hb; clear hb
    by_cases hlt : k < n
    · obtain ⟨ad, rfl, k0, k1, k2⟩ := rows3_at (H.out.below HB.out) hlt HX.out
      obtain ⟨ad', rfl, j0, j1, j2⟩ := rows3_at (H'.out.below HB.out) hlt HX.out
      have hx : k < l.length := by rw [HX.out]; exact hlt
      generalize l[k] = x at *
      obtain ⟨x0, x1, x2⟩ := x
      go_wp2
      go_region_with (go_at_call 120; refine (eqLink_any x0 x1 x2 _).mono ?_; rintro e w1 ⟨rfl, hb1⟩)
      all_goals
        have HB1 := Lib.hid hb1; clear hb1
        go_wp2
        go_roundw
        case rel => exact ⟨k + 1, by omega, by go_num, HB.out.drew.trans (HB1.out.mono HB.out.size)⟩
        case measure => simp [intOf]; omega
    · go_wp2
      go_ret
      exact ⟨rfl, HB.out⟩

end Go.Proofs.Ythpfgmnhpnfopaa
