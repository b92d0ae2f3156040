/- Contracts of the laws' helpers on nets: size, copy, comparison, marks. No conditions. -/
import Derived.Test.YthpfgmnhpnfopaaNet
import Derived.Test.YthpfgmnhpnfopaaMark
import Derived.Test.YthpfgmnhpnfopaaNest
namespace Go.Proofs.Ythpfgmnhpnfopaa
set_option linter.unusedSimpArgs false
set_option linter.unusedVariables false
open Go.RowKit

def Box2 (w : World) (g : Nat) (t : TypeId) (a b : Value) : Prop := w.heap[g]? = some (.cells #[a, b] t (0, 0))
section
variable {w w' : World} {g B : Nat} {t : TypeId} {a b u : Value}
theorem Box2.new (w : World) (t : TypeId) (a b : Value) : Box2 (w.alloc (.cells #[a, b] t)) w.heap.size t a b := heap_alloc_new w _
theorem Box2.cells (h : Box2 w g t a b) : w.cell? ⟨g, 0, none⟩ = some a ∧ w.cell? ⟨g, 1, none⟩ = some b := by
  unfold Box2 at h
  simp [World.cell?, h]
theorem Box2.frozen (h : Box2 w g t a b) : w.frozen? ⟨g, 0, none⟩ = false ∧ w.frozen? ⟨g, 1, none⟩ = false := by
  unfold Box2 at h
  simp [World.frozen?, h]
theorem Box2.lt (h : Box2 w g t a b) : g < w.heap.size := (Array.getElem?_eq_some_iff.1 h).1
theorem Box2.bel (h : Box2 w g t a b) (hb : Below w.heap.size w w') : Box2 w' g t a b := (hb.block g h.lt).trans h
theorem Box2.other {g' i : Nat} (h : Box2 w g t a b) (hg : g ≠ g') : Box2 (w.setCell ⟨g', i, none⟩ u) g t a b := (Below.heap_setCell w ⟨g', i, none⟩ u g hg).trans h
theorem Box2.put0 (h : Box2 w g t a b) : Box2 (w.setCell ⟨g, 0, none⟩ u) g t u b := by
  unfold Box2 at h ⊢
  simp [World.setCell, Array.getElem?_modify, h]
theorem Box2.put1 (h : Box2 w g t a b) : Box2 (w.setCell ⟨g, 1, none⟩ u) g t a u := by
  unfold Box2 at h ⊢
  simp [World.setCell, Array.getElem?_modify, h]
theorem own_set2 {base b i k n : Nat} {e : TypeId} {v u : Value} {xs : List Value} (h : w.ownsRow base e k v n xs) (hb : b < base) : (w.setCell ⟨b, i, none⟩ u).ownsRow base e k v n xs :=
  row_same h fun q hq => Below.heap_setCell _ _ _ _ (by have := (h.lt q hq).1; simp; omega)
end

theorem szNet_okI (At Ak : Option Addr) (nT cT nK cK : Nat) (left : Int) (w : World) (h0 : 0 ≤ left) (h2 : left ≤ 1000000000) (h1 : (nT : Int) + (nK : Int) ≤ left) :
    Calls Try.prog 45 #[.agg #[.slice At nT cT, .slice Ak nK cK], .int .i64 left] w fun e w' => e = .returned (.int .i64 (left - (nT : Int) - (nK : Int))) ∧ Below w.heap.size w w' := by
  go_enter Try.func45, Try.ntmps45
  go_wp2_with fail
  refine (szTowerS_okI At nT cT left _ h0 h2 (by omega) (by omega)).mono ?_
  rintro e w' ⟨rfl, rfl⟩
  go_wp2_with fail
  refine (szLinkS_okI Ak nK cK (left - (nT : Int)) _ (by omega) (by omega) (by omega) (by omega)).mono ?_
  rintro e w' ⟨rfl, rfl⟩
  go_wp2
  go_ret
  exact ⟨rfl, (Below.refl _ _).alloc (Nat.le_refl _) _⟩
theorem szNet_bigI (At Ak : Option Addr) (nT cT nK cK : Nat) (left : Int) (w : World) (h0 : 0 ≤ left) (h2 : left ≤ 1000000000) (h1 : left < (nT : Int) + (nK : Int)) (hT : nT ≤ 9223372036854775807) (hK : nK ≤ 9223372036854775807) :
    Calls Try.prog 45 #[.agg #[.slice At nT cT, .slice Ak nK cK], .int .i64 left] w fun e w' => e = .returned (.int .i64 (-1)) ∧ Below w.heap.size w w' := by
  by_cases hlt : left < (nT : Int)
  · go_enter Try.func45, Try.ntmps45
    go_wp2_with fail
    refine (szTowerS_bigI At nT cT left _ h0 h2 hlt hT).mono ?_
    rintro e w' ⟨rfl, rfl⟩
    go_wp2
    go_ret
    exact ⟨rfl, (Below.refl _ _).alloc (Nat.le_refl _) _⟩
  · go_enter Try.func45, Try.ntmps45
    go_wp2_with fail
    refine (szTowerS_okI At nT cT left _ h0 h2 (by omega) hT).mono ?_
    rintro e w' ⟨rfl, rfl⟩
    go_wp2_with fail
    refine (szLinkS_bigI Ak nK cK (left - (nT : Int)) _ (by omega) (by omega) (by omega) hK).mono ?_
    rintro e w' ⟨rfl, rfl⟩
    go_wp2
    go_ret
    exact ⟨rfl, (Below.refl _ _).alloc (Nat.le_refl _) _⟩
set_option maxHeartbeats 1000000 in
theorem eqNet_any (At Ak Bt Bk : Option Addr) (nT cT nK cK dT dK : Nat) (T K : List S3) (w : World) (hT : nT ≤ 1000000000) (hK : nK ≤ 1000000000) (h1 : Reads w 3 At nT (rows3 T)) (h2 : Reads w 3 Ak nK (rows3 K)) (h3 : Reads w 3 Bt nT (rows3 T)) (h4 : Reads w 3 Bk nK (rows3 K)) :
    Calls Try.prog 50 #[.agg #[.slice At nT cT, .slice Ak nK cK], .agg #[.slice Bt nT dT, .slice Bk nK dK]] w fun e w' => e = .returned (.bool true) ∧ Below w.heap.size w w' := by
  have HB0 : Hid (Below w.heap.size w ((w.alloc (.cells #[.slice At nT cT, .slice Ak nK cK] 68)).alloc (.cells #[.slice Bt nT dT, .slice Bk nK dK] 68))) := Lib.hid (((Below.refl _ _).alloc (Nat.le_refl _) _).alloc (by simp) _)
  have H1 := Lib.hid h1; have H2 := Lib.hid h2; have H3 := Lib.hid h3; have H4 := Lib.hid h4
  clear h1 h2 h3 h4
  go_enter Try.func50, Try.ntmps50
  go_wp2_with fail
  refine (eqTowerS_any At Bt nT cT dT T _ (by omega) (H1.out.below HB0.out) (H3.out.below HB0.out)).mono ?_
  rintro e w1 ⟨rfl, hb⟩
  have c0 := hb.cell (p := ⟨w.heap.size, 1, none⟩) (by first | (simp; done) | (simp; omega)) |>.trans (show ((w.alloc (.cells #[.slice At nT cT, .slice Ak nK cK] 68)).alloc (.cells #[.slice Bt nT dT, .slice Bk nK dK] 68)).cell? ⟨w.heap.size, 1, none⟩ = some (.slice Ak nK cK) by simp)
  have c1 := hb.cell (p := ⟨w.heap.size + 1, 1, none⟩) (by first | (simp; done) | (simp; omega)) |>.trans (show ((w.alloc (.cells #[.slice At nT cT, .slice Ak nK cK] 68)).alloc (.cells #[.slice Bt nT dT, .slice Bk nK dK] 68)).cell? ⟨w.heap.size + 1, 1, none⟩ = some (.slice Bk nK dK) by simp)
  have HB1 := Lib.hid (HB0.out.trans (hb.mono HB0.out.size))
  clear hb
  go_wp2_with fail
  refine (eqLinkS_any Ak Bk nK cK dK K _ (by omega) (H2.out.below HB1.out) (H4.out.below HB1.out)).mono ?_
  rintro e w2 ⟨rfl, hb⟩
  have HB2 := Lib.hid (HB1.out.trans (hb.mono HB1.out.size))
  clear hb c0 c1
  go_wp2
  go_ret
  exact ⟨rfl, HB2.out⟩
set_option maxHeartbeats 1000000 in
theorem markNet_any (At Ak : Option Addr) (nT cT nK cK Kv lo hi b1 b2 : Nat) (xs ys : List Value) (w : World) (hT : nT ≤ 1000000000) (hK : nK ≤ 1000000000) (hv : Kv ≤ 1000000000) (h1 : w.ownsRow b1 121 3 (.slice At nT cT) nT xs) (h2 : w.ownsRow b2 123 3 (.slice Ak nK cK) nK ys)
    (hl1 : lo ≤ b1) (hl2 : lo ≤ b2) (hh : hi ≤ w.heap.size) (hb1 : blockLt (.slice At nT cT) hi) (hb2 : blockLt (.slice Ak nK cK) hi) (hap : apart (.slice At nT cT) (.slice Ak nK cK)) :
    Calls Try.prog 51 #[.agg #[.slice At nT cT, .slice Ak nK cK], .int .i64 Kv] w fun e w' => e = .returned (.int .i64 ((Kv + nT * 3 + nK * 3 : Nat) : Int)) ∧ Turned lo hi w w' := by
  have HB0 : Hid (Below w.heap.size w (w.alloc (.cells #[.slice At nT cT, .slice Ak nK cK] 68))) := Lib.hid ((Below.refl _ _).alloc (Nat.le_refl _) _)
  have H1 := Lib.hid h1; have H2 := Lib.hid h2
  have HNE : Hid ((Value.slice At nT cT).ownBlock ≠ some w.heap.size) := Lib.hid (fun e => by have := hb1 _ e; omega)
  clear h1 h2
  go_enter Try.func51, Try.ntmps51
  go_wp2_with fail
  refine (markTowerS_any At nT cT Kv b1 xs _ (by omega) (own_below H1.out HB0.out)).mono ?_
  rintro e w1 ⟨rfl, _, hg⟩
  have c1 : w1.cell? ⟨w.heap.size, 1, none⟩ = some (.slice Ak nK cK) := by
    have h0 : (w.alloc (.cells #[.slice At nT cT, .slice Ak nK cK] 68)).cell? ⟨w.heap.size, 1, none⟩ = some (.slice Ak nK cK) := by simp
    rw [← h0]
    exact World.cell?_of_block (hg.block _ (by simp) (fun e => HNE.out e.symm))
  have hT1 : Turned lo hi w w1 := (Turned.of_below HB0.out).trans (Turned.of_grown hg (fun q hq => ⟨Nat.le_trans hl1 (H1.out.lt q hq).1, hb1 q hq⟩))
  have h21 : w1.ownsRow b2 123 3 (.slice Ak nK cK) nK ys := row_same (own_below H2.out HB0.out) (fun q hq => hg.block q (by have := hb2 q hq; simp; omega) (fun e' => by
    rcases hap with h5 | h5
    · rw [h5] at e'; cases e'
    · exact h5 (by rw [hq, e'])))
  have HT1 := Lib.hid hT1; have H21 := Lib.hid h21
  clear hg hT1 h21
  have ek : ((Kv + nT * 3 : Nat) : Int) = (Kv : Int) + (nT : Int) * 3 := by push_cast; rfl
  go_wp2_with fail
  refine (markLinkS_any Ak nK cK (Kv + nT * 3) b2 ys _ (by omega) H21.out).mono ?_
  rintro e w2 ⟨rfl, _, hg⟩
  have hT2 := HT1.out.trans (Turned.of_grown hg (fun q hq => ⟨Nat.le_trans hl2 (H21.out.lt q hq).1, hb2 q hq⟩))
  have HT2 := Lib.hid hT2
  clear hg hT2 c1
  go_wp2
  go_ret
  exact ⟨rfl, HT2.out⟩
set_option maxHeartbeats 2000000 in
set_option maxRecDepth 100000 in
theorem toNet_any (At Ak : Option Addr) (nT cT nK cK : Nat) (T K : List S3) (w : World) (hT : nT ≤ 1000000000) (hK : nK ≤ 1000000000) (h1 : Reads w 3 At nT (rows3 T)) (h2 : Reads w 3 Ak nK (rows3 K)) :
    Calls Try.prog 47 #[.agg #[.slice At nT cT, .slice Ak nK cK]] w fun e w' => ∃ A1 c1 A2 c2, e = .returned (.agg #[.slice A1 nT c1, .slice A2 nK c2]) ∧ w'.ownsRow w.heap.size 121 3 (.slice A1 nT c1) nT (rows3 T) ∧ w'.ownsRow w.heap.size 123 3 (.slice A2 nK c2) nK (rows3 K) ∧ apart (.slice A1 nT c1) (.slice A2 nK c2) ∧ Below w.heap.size w w' := by
  obtain ⟨s, hs⟩ : ∃ s, s = w.heap.size := ⟨_, rfl⟩
  have HS := Lib.hid hs
  have hB : Below w.heap.size w (((w.alloc (.cells #[.slice At nT cT, .slice Ak nK cK] 60)).alloc (.cells #[.slice none 0 0, .slice none 0 0] 68)).alloc (.cells #[.slice none 0 0, .slice none 0 0] 68)) := (((Below.refl _ _).alloc (Nat.le_refl _) _).alloc (by simp) _).alloc (by simp; omega) _
  have hL : Box2 (((w.alloc (.cells #[.slice At nT cT, .slice Ak nK cK] 60)).alloc (.cells #[.slice none 0 0, .slice none 0 0] 68)).alloc (.cells #[.slice none 0 0, .slice none 0 0] 68)) w.heap.size 60 (.slice At nT cT) (.slice Ak nK cK) := ((Box2.new w _ _ _).bel ((Below.refl _ _).alloc (Nat.le_refl _) _)).bel ((Below.refl _ _).alloc (Nat.le_refl _) _)
  have hR : Box2 (((w.alloc (.cells #[.slice At nT cT, .slice Ak nK cK] 60)).alloc (.cells #[.slice none 0 0, .slice none 0 0] 68)).alloc (.cells #[.slice none 0 0, .slice none 0 0] 68)) (w.heap.size + 1) 68 (.slice none 0 0) (.slice none 0 0) := by
    have := (Box2.new (w.alloc (.cells #[.slice At nT cT, .slice Ak nK cK] 60)) 68 (.slice none 0 0) (.slice none 0 0)).bel ((Below.refl _ _).alloc (Nat.le_refl _) (.cells #[.slice none 0 0, .slice none 0 0] 68))
    simpa using this
  have hO : Box2 (((w.alloc (.cells #[.slice At nT cT, .slice Ak nK cK] 60)).alloc (.cells #[.slice none 0 0, .slice none 0 0] 68)).alloc (.cells #[.slice none 0 0, .slice none 0 0] 68)) (w.heap.size + 1 + 1) 68 (.slice none 0 0) (.slice none 0 0) := by
    have := Box2.new ((w.alloc (.cells #[.slice At nT cT, .slice Ak nK cK] 60)).alloc (.cells #[.slice none 0 0, .slice none 0 0] 68)) 68 (.slice none 0 0) (.slice none 0 0)
    simpa using this
  have hsz : (((w.alloc (.cells #[.slice At nT cT, .slice Ak nK cK] 60)).alloc (.cells #[.slice none 0 0, .slice none 0 0] 68)).alloc (.cells #[.slice none 0 0, .slice none 0 0] 68)).heap.size = w.heap.size + 1 + 1 + 1 := by simp
  have HB := Lib.hid hB; have HL := Lib.hid hL; have HR := Lib.hid hR; have HO := Lib.hid hO; have HZ := Lib.hid hsz
  have H1 := Lib.hid h1; have H2 := Lib.hid h2
  clear hB hL hR hO hsz h1 h2 hs
  go_enter Try.func47, Try.ntmps47
  go_wp2_with fail
  generalize (((w.alloc (.cells #[.slice At nT cT, .slice Ak nK cK] 60)).alloc (.cells #[.slice none 0 0, .slice none 0 0] 68)).alloc (.cells #[.slice none 0 0, .slice none 0 0] 68)) = W3 at *
  refine (toTowerS_any At nT cT T W3 (by omega) (H1.out.below HB.out)).mono ?_
  rintro e w1 ⟨A1, c1, rfl, ho1, hb⟩
  have hL1 := HL.out.bel hb; have hR1 := HR.out.bel hb; have hO1 := HO.out.bel hb
  have HB1 := Lib.hid (HB.out.trans (hb.mono HB.out.size))
  have HZ1 : Hid (W3.heap.size ≤ w1.heap.size) := Lib.hid hb.size
  rw [HZ.out] at ho1
  have HA1 := Lib.hid ho1
  obtain ⟨x0, x1⟩ := hL1.cells
  obtain ⟨y0, y1⟩ := hO1.cells
  obtain ⟨z0, z1⟩ := hO1.frozen
  have l2 : Box2 (w1.setCell ⟨w.heap.size + 1 + 1, 0, none⟩ (.slice A1 nT c1)) w.heap.size 60 (.slice At nT cT) (.slice Ak nK cK) := hL1.other (by omega)
  have r2 : Box2 (w1.setCell ⟨w.heap.size + 1 + 1, 0, none⟩ (.slice A1 nT c1)) (w.heap.size + 1) 68 (.slice none 0 0) (.slice none 0 0) := hR1.other (by omega)
  have o2 : Box2 (w1.setCell ⟨w.heap.size + 1 + 1, 0, none⟩ (.slice A1 nT c1)) (w.heap.size + 1 + 1) 68 (.slice A1 nT c1) (.slice none 0 0) := hO1.put0
  have HB2 : Hid (Below w.heap.size w (w1.setCell ⟨w.heap.size + 1 + 1, 0, none⟩ (.slice A1 nT c1))) := Lib.hid (HB1.out.setCell (p := ⟨w.heap.size + 1 + 1, 0, none⟩) (by simp; omega) _)
  have HA2 : Hid ((w1.setCell ⟨w.heap.size + 1 + 1, 0, none⟩ (.slice A1 nT c1)).ownsRow (w.heap.size + 1 + 1 + 1) 121 3 (.slice A1 nT c1) nT (rows3 T)) := Lib.hid (own_set2 HA1.out (by omega))
  have HZ2 : Hid ((w1.setCell ⟨w.heap.size + 1 + 1, 0, none⟩ (.slice A1 nT c1)).heap.size = w1.heap.size) := Lib.hid (by simp [World.setCell])
  have q0 := l2.cells.2
  clear hb hL1 hR1 hO1 ho1
  go_wp2_with fail
  clear x0 x1 y0 y1 z0 z1 q0
  generalize w1.setCell ⟨w.heap.size + 1 + 1, 0, none⟩ (.slice A1 nT c1) = wa at *
  refine (toLinkS_any Ak nK cK K wa (by omega) (H2.out.below HB2.out)).mono ?_
  rintro e w2 ⟨A2, c2, rfl, ho2, hb⟩
  have r3 := r2.bel hb; have o3 := o2.bel hb
  have HB3 := Lib.hid (HB2.out.trans (hb.mono HB2.out.size))
  have HA3 := Lib.hid (own_below HA2.out hb)
  have HC3 := Lib.hid ho2
  obtain ⟨y0, y1⟩ := o3.cells
  obtain ⟨z0, z1⟩ := o3.frozen
  have r4 : Box2 (w2.setCell ⟨w.heap.size + 1 + 1, 1, none⟩ (.slice A2 nK c2)) (w.heap.size + 1) 68 (.slice none 0 0) (.slice none 0 0) := r3.other (by omega)
  have o4 : Box2 (w2.setCell ⟨w.heap.size + 1 + 1, 1, none⟩ (.slice A2 nK c2)) (w.heap.size + 1 + 1) 68 (.slice A1 nT c1) (.slice A2 nK c2) := o3.put1
  obtain ⟨p0, p1⟩ := o4.cells
  obtain ⟨t0, t1⟩ := r4.cells
  obtain ⟨v0, v1⟩ := r4.frozen
  have HR4 := Lib.hid r4
  have HSW : Hid (wa.heap.size = w1.heap.size) := HZ2
  clear hb r2 r3 o2 o3 l2 r4 o4 ho2
  go_wp2
  obtain ⟨f0, f1⟩ := (Box2.put1 (u := .slice A2 nK c2) (Box2.put0 (u := .slice A1 nT c1) HR4.out)).cells
  try simp only [Exit.inBlock, Exit.then]
  refine bodyPost_ret (v := .agg #[.slice A1 nT c1, .slice A2 nK c2]) (by simp [results, Try.results47, go_sem, f0, f1]) rfl ?_
  have hw1 : w.heap.size + 1 + 1 + 1 ≤ w1.heap.size := by have := HZ1.out; rw [HZ.out] at this; exact this
  have hC4 := own_set2 (b := w.heap.size + 1) (i := 1) (u := .slice A2 nK c2) (own_set2 (b := w.heap.size + 1) (i := 0) (u := .slice A1 nT c1) (own_set2 (b := w.heap.size + 1 + 1) (i := 1) (u := .slice A2 nK c2) HC3.out (by rw [HSW.out]; omega)) (by rw [HSW.out]; omega)) (by rw [HSW.out]; omega)
  have hA4 := own_set2 (b := w.heap.size + 1) (i := 1) (u := .slice A2 nK c2) (own_set2 (b := w.heap.size + 1) (i := 0) (u := .slice A1 nT c1) (own_set2 (b := w.heap.size + 1 + 1) (i := 1) (u := .slice A2 nK c2) HA3.out (by omega)) (by omega)) (by omega)
  refine ⟨A1, c1, A2, c2, rfl, own_mono hA4 (by omega), own_mono hC4 (by rw [HSW.out]; omega), ?_, ?_⟩
  · cases hq : (Value.slice A1 nT c1).ownBlock with
    | none => exact .inl hq
    | some q =>
      refine .inr (fun e' => ?_)
      have l1 := (HA1.out.lt q hq).2
      have l2 := (HC3.out.lt q (by rw [← e']; exact hq)).1
      rw [HSW.out] at l2
      omega
  · exact ((HB3.out.setCell (p := ⟨w.heap.size + 1 + 1, 1, none⟩) (by simp; omega) _).setCell (p := ⟨w.heap.size + 1, 0, none⟩) (by simp) _).setCell (p := ⟨w.heap.size + 1, 1, none⟩) (by simp) _

end Go.Proofs.Ythpfgmnhpnfopaa
