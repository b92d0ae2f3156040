/- Contracts of FirstToFail of both packages, and the law over them. No conditions. -/
import Derived.Test.YtjibdabedagghaaAreG
namespace Go.Proofs.Ytjibdabedagghaa
set_option linter.unusedSimpArgs false
set_option linter.unusedVariables false
open Go.RowKit

def leftG (g : G4) : Int := leftOf g.1 g.2.1 g.2.2.1
def ffail : List G4 → Nat → Nat × Int → Nat × Int
  | [], _, b => b
  | g :: r, k, b => if leftG g < b.2 then ffail r (k + 1) (k, leftG g) else ffail r (k + 1) b
def firstF : List G4 → Nat × Int
  | [] => (0, 0)
  | g :: r => ffail r 1 (0, leftG g)
def firstR (l : List G4) : Int × Int × Bool := if goodGears l = true ∧ l.length ≠ 0 then ((firstF l).1, (firstF l).2, true) else (0, 0, false)
theorem gearsB_all {l : List G4} : gearsB l = true ↔ ∀ g ∈ l, gearB g.1 g.2.1 g.2.2.1 g.2.2.2 = true := by
  induction l with
  | nil => simp [gearsB]
  | cons g r ih =>
    simp only [gearsB, List.mem_cons, forall_eq_or_imp]
    cases gearB g.1 g.2.1 g.2.2.1 g.2.2.2 <;> simp [ih]
theorem goodGears_true {l : List G4} : goodGears l = true ↔ (∀ g ∈ l, gearB g.1 g.2.1 g.2.2.1 g.2.2.2 = true) ∧ l.length ≤ 8 := by simp [goodGears, gearsB_all]
theorem rrLeft_acc {S w : World} (a b c d : Int) (hS : Below S.heap.size S w) (hb1 : 1 ≤ b) (ha : 0 ≤ a) (hac : a ≤ c) (hc : c ≤ 1000) :
    Calls Try.prog 61 #[.agg #[.int .i64 a, .int .i64 b, .int .i64 c, .int .i64 d]] w fun e w' => e = .returned (.int .i64 (leftOf a b c)) ∧ Below S.heap.size S w' :=
  (rrLeft_any a b c d w hb1 ha hac hc).mono fun _ _ ⟨he, hb⟩ => ⟨he, hS.trans (hb.mono hS.size)⟩
theorem firstF_start {l : List G4} (h : 0 < l.length) : ffail l 0 (0, leftG l[0]) = firstF l := by
  cases l with
  | nil => simp at h
  | cons g r => simp [ffail, firstF]
theorem firstF_one {l : List G4} (h : 0 < l.length) : ffail (l.drop 1) 1 (0, leftG l[0]) = firstF l := by
  cases l with
  | nil => simp at h
  | cons g r => rfl

set_option maxHeartbeats 4000000 in
theorem specFirst_any (A : Option Addr) (n c : Nat) (l : List G4) (w : World) (hn : n ≤ 1000000000) (h : Reads w 4 A n (rows4 l)) :
    Calls Try.prog 23 #[.slice A n c] w fun e w' => e = .returned (.tuple #[.int .i64 (firstR l).1, .int .i64 (firstR l).2.1, .bool (firstR l).2.2]) ∧ Below w.heap.size w w' := by
  have c1 := rrGood_any A n c l w hn h
  have hlx : l.length = n := by have := h.1; rw [length_rows4] at this; omega
  cases hg : goodGears l with
  | false =>
    rw [hg] at c1
    have hr : firstR l = (0, 0, false) := by simp [firstR, hg]
    rw [hr]
    have C1 := Lib.hid c1
    clear c1 hr h hg hlx
    go_enter Try.func23, Try.ntmps23
    go_wp2_with (go_at_call 63; refine (C1.out).mono ?_; rintro e w1 ⟨rfl, hb⟩)
    go_ret3
    exact ⟨rfl, hb⟩
  | true =>
    rw [hg] at c1
    have C1 := Lib.hid c1
    clear c1
    obtain ⟨hgl, hl8⟩ := goodGears_true.1 hg
    by_cases h0 : n = 0
    · have hr : firstR l = (0, 0, false) := by simp [firstR, hlx, h0]
      rw [hr]
      subst h0
      clear hr h hg hlx hgl hl8
      go_enter Try.func23, Try.ntmps23
      go_wp2_with (go_at_call 63; refine (C1.out).mono ?_; rintro e w1 ⟨rfl, hb⟩)
      go_ret3
      exact ⟨rfl, hb⟩
    · have hr : firstR l = (((firstF l).1 : Int), (firstF l).2, true) := by simp [firstR, hg, hlx, h0]
      rw [hr]
      have hne : ((n : Int) == 0) = false := by rw [beq_eq_false_iff_ne]; omega
      have HX := Lib.hid hlx
      have HG := Lib.hid hgl
      have H := Lib.hid h
      have hn1 : 1 ≤ n := by omega
      have hpos : 0 < l.length := by omega
      have HT := Lib.hid (firstF_start (l := l) hpos)
      have hn8 : n ≤ 8 := by omega
      clear hr h hg hlx hgl hl8 h0
      go_enter Try.func23, Try.ntmps23
      go_wp2_with (go_at_call 63; refine (C1.out).mono ?_; rintro e w1 ⟨rfl, hb⟩)
      have HB0 := Lib.hid hb; clear hb
      go_loopw [5, 18] (fun s i wr => ∃ b k : Nat, ∃ (hb : b < l.length), k ≤ n ∧ i = .int .i64 k ∧ s = .int .i64 b ∧ ffail (l.drop k) k (b, leftG l[b]) = firstF l ∧ Below w.heap.size w wr) (fun _ i _ => n - (intOf i).toNat)
      case atStart => exact ⟨0, 0, hpos, by omega, rfl, rfl, HT.out, HB0.out⟩
      case round =>
        obtain ⟨b, k, hbl, hk, rfl, rfl, hrel, hb⟩ := hrel
        have HR := Lib.hid hrel; clear hrel
        have HB := Lib.hid hb; clear hb
        have hbn : b < n := by rw [HX.out] at hbl; exact hbl
        have hgb := gearB_true.1 (HG.out l[b] (List.getElem_mem hbl))
        by_cases hlt : k < n
        · have hx : k < l.length := by rw [HX.out]; exact hlt
          have hgk := gearB_true.1 (HG.out l[k] (List.getElem_mem hx))
          obtain ⟨ad, rfl, k0, k1, k2, k3⟩ := rows4_at (H.out.below HB.out) hlt HX.out
          obtain ⟨_, e, j0, j1, j2, j3⟩ := rows4_at (H.out.below HB.out) hbn HX.out
          injection e with e
          subst e
          have HD := Lib.hid (drop_cons hx)
          have HN : Hid ((leftG l[k] < leftG l[b] → ffail (l.drop (k + 1)) (k + 1) (k, leftG l[k]) = firstF l) ∧ (¬ leftG l[k] < leftG l[b] → ffail (l.drop (k + 1)) (k + 1) (b, leftG l[b]) = firstF l)) := Lib.hid (by
            have := HR.out
            rw [HD.out] at this
            simp only [ffail] at this
            exact ⟨fun h => by rw [if_pos h] at this; exact this, fun h => by rw [if_neg h] at this; exact this⟩)
          clear HD HR
          generalize hxk : l[k] = x at *
          generalize hyb : l[b] = y at *
          have HXK := Lib.hid hxk
          have HYB := Lib.hid hyb
          clear hxk hyb
          obtain ⟨xa, xb, xc, xd⟩ := x
          obtain ⟨ya, yb, yc, yd⟩ := y
          obtain ⟨⟨hx1, _⟩, ⟨_, hx2⟩, ⟨hx3, hx4⟩, _⟩ := hgk
          obtain ⟨⟨hy1, _⟩, ⟨_, hy2⟩, ⟨hy3, hy4⟩, _⟩ := hgb
          simp only [leftG] at HN
          have hKK : ∀ W, Below (wr.alloc (.cells #[.int .i64 xa, .int .i64 xb, .int .i64 xc, .int .i64 xd] 26)).heap.size (wr.alloc (.cells #[.int .i64 xa, .int .i64 xb, .int .i64 xc, .int .i64 xd] 26)) W →
              (W.cell? ⟨wr.heap.size, 0, none⟩ = some (.int .i64 xa) ∧ W.cell? ⟨wr.heap.size, 1, none⟩ = some (.int .i64 xb) ∧ W.cell? ⟨wr.heap.size, 2, none⟩ = some (.int .i64 xc) ∧ W.cell? ⟨wr.heap.size, 3, none⟩ = some (.int .i64 xd)) ∧
              W.cell? (ad.add (b * 4)) = some (.int .i64 ya) ∧ W.cell? ⟨(ad.add (b * 4)).block, (ad.add (b * 4)).off + 1, none⟩ = some (.int .i64 yb) ∧ W.cell? ⟨(ad.add (b * 4)).block, (ad.add (b * 4)).off + 2, none⟩ = some (.int .i64 yc) ∧ W.cell? ⟨(ad.add (b * 4)).block, (ad.add (b * 4)).off + 3, none⟩ = some (.int .i64 yd) := by
            intro W hW
            have keep : ∀ p v, wr.cell? p = some v → W.cell? p = some v := fun p v hv => by
              have hlt := World.block_lt_of_cell? wr _ hv
              rw [hW.cell (by simp; omega), World.cell?_alloc_lt _ _ _ hlt]
              exact hv
            exact ⟨box4 hW, keep _ _ j0, keep _ _ j1, keep _ _ j2, keep _ _ j3⟩
          have KK := Lib.hid hKK
          clear hKK
          have hS : Below (wr.alloc (.cells #[.int .i64 xa, .int .i64 xb, .int .i64 xc, .int .i64 xd] 26)).heap.size (wr.alloc (.cells #[.int .i64 xa, .int .i64 xb, .int .i64 xc, .int .i64 xd] 26)) (wr.alloc (.cells #[.int .i64 xa, .int .i64 xb, .int .i64 xc, .int .i64 xd] 26)).drew := (Below.refl _ _).drew
          obtain ⟨_, s4, s5, s6, s7⟩ := KK.out _ (Below.refl _ _)
          clear j0 j1 j2 j3
          go_wp2
          go_region_with (go_at_call 61; refine (rrLeft_acc _ _ _ _ (by assumption) (by assumption) (by assumption) (by assumption) (by assumption)).mono ?_; rintro e W1 ⟨rfl, hS1⟩; obtain ⟨⟨m0, m1, m2, m3⟩, m4, m5, m6, m7⟩ := KK.out _ hS1)
          all_goals
            have HF := Lib.hid hS1
            clear hS1 hS
            have HE2 : Hid (Below w.heap.size w _) := Lib.hid (HB.out.trans (((Below.refl _ _).alloc HB.out.size _).trans (HF.out.mono (by have := HB.out.size; simp; omega))))
            by_cases hless : leftOf xa xb xc < leftOf ya yb yc
            · go_wp2
              go_roundw
              case rel => exact ⟨k, k + 1, hx, by omega, by go_num, rfl, by rw [HXK.out]; exact HN.out.1 hless, HE2.out⟩
              case measure => simp [intOf]; omega
            · go_wp2
              go_roundw
              case rel => exact ⟨b, k + 1, hbl, by omega, by go_num, rfl, by rw [HYB.out]; exact HN.out.2 (by omega), HE2.out⟩
              case measure => simp [intOf]; omega
        · obtain rfl : k = n := by omega
          have HE := Lib.hid (drop_end (xs := l) (k := k) (by rw [HX.out]; omega))
          have hend := HR.out
          rw [HE.out] at hend
          simp only [ffail] at hend
          have HEN := Lib.hid hend
          obtain ⟨ad, rfl, j0, j1, j2, j3⟩ := rows4_at (H.out.below HB.out) hbn HX.out
          clear hend
          generalize l[b] = y at *
          obtain ⟨ya, yb, yc, yd⟩ := y
          obtain ⟨⟨hy1, _⟩, ⟨_, hy2⟩, ⟨hy3, hy4⟩, _⟩ := hgb
          go_wp2_with (go_at_call 61; refine (rrLeft_any _ _ _ _ _ (by assumption) (by assumption) (by assumption) (by assumption)).mono ?_; rintro e W1 ⟨rfl, hS1⟩)
          go_ret3
          exact ⟨by rw [← HEN.out]; rfl, HB.out.trans (hS1.mono HB.out.size)⟩
set_option maxHeartbeats 4000000 in
theorem implFirst_any (A : Option Addr) (n c : Nat) (l : List G4) (w : World) (hn : n ≤ 1000000000) (h : Reads w 4 A n (rows4 l)) :
    Calls Try.prog 24 #[.slice A n c] w fun e w' => e = .returned (.tuple #[.int .i64 (firstR l).1, .int .i64 (firstR l).2.1, .bool (firstR l).2.2]) ∧ Below w.heap.size w w' := by
  have c1 := areGears_any A n c l w hn h
  have hlx : l.length = n := by have := h.1; rw [length_rows4] at this; omega
  cases hg : goodGears l with
  | false =>
    rw [hg] at c1
    have hr : firstR l = (0, 0, false) := by simp [firstR, hg]
    rw [hr]
    have C1 := Lib.hid c1
    clear c1 hr h hg hlx
    go_enter Try.func24, Try.ntmps24
    go_wp2_with (go_at_call 21; refine (C1.out).mono ?_; rintro e w1 ⟨rfl, hb⟩)
    go_ret3
    exact ⟨rfl, hb⟩
  | true =>
    rw [hg] at c1
    have C1 := Lib.hid c1
    clear c1
    obtain ⟨hgl, hl8⟩ := goodGears_true.1 hg
    by_cases h0 : n = 0
    · have hr : firstR l = (0, 0, false) := by simp [firstR, hlx, h0]
      rw [hr]
      subst h0
      clear hr h hg hlx hgl hl8
      go_enter Try.func24, Try.ntmps24
      go_wp2_with (go_at_call 21; refine (C1.out).mono ?_; rintro e w1 ⟨rfl, hb⟩)
      go_ret3
      exact ⟨rfl, hb⟩
    · have hr : firstR l = (((firstF l).1 : Int), (firstF l).2, true) := by simp [firstR, hg, hlx, h0]
      rw [hr]
      have hne : ((n : Int) == 0) = false := by rw [beq_eq_false_iff_ne]; omega
      have HX := Lib.hid hlx
      have HG := Lib.hid hgl
      have H := Lib.hid h
      have hn1 : 1 ≤ n := by omega
      have hpos : 0 < l.length := by omega
      have HT := Lib.hid (firstF_start (l := l) hpos)
      have hn8 : n ≤ 8 := by omega
      clear hr h hg hlx hgl hl8 h0
      go_enter Try.func24, Try.ntmps24
      go_wp2_with (go_at_call 21; refine (C1.out).mono ?_; rintro e w1 ⟨rfl, hb⟩)
      have HB0 := Lib.hid hb; clear hb
      go_loopw [5, 6, 20] (fun s t i wr => ∃ b k : Nat, ∃ d : Int, k ≤ n ∧ i = .int .i64 k ∧ s = .int .i64 b ∧ t = .int .i64 d ∧ (k = 0 ∨ ffail (l.drop k) k (b, d) = firstF l) ∧ Below w.heap.size w wr) (fun _ _ i _ => n - (intOf i).toNat)
      case atStart => exact ⟨0, 0, 0, by omega, rfl, rfl, rfl, .inl rfl, HB0.out⟩
      case round =>
        obtain ⟨b, k, d, hk, rfl, rfl, rfl, hrel, hb⟩ := hrel
        have HR := Lib.hid hrel; clear hrel
        have HB := Lib.hid hb; clear hb
        by_cases hlt : k < n
        · have hx : k < l.length := by rw [HX.out]; exact hlt
          have hgk := gearB_true.1 (HG.out l[k] (List.getElem_mem hx))
          obtain ⟨ad, rfl, k0, k1, k2, k3⟩ := rows4_at (H.out.below HB.out) hlt HX.out
          have HD := Lib.hid (drop_cons hx)
          have hN : (k = 0 ∨ leftG l[k] < d → ffail (l.drop (k + 1)) (k + 1) (k, leftG l[k]) = firstF l) ∧ (¬ (k = 0 ∨ leftG l[k] < d) → ffail (l.drop (k + 1)) (k + 1) (b, d) = firstF l) := by
            rcases HR.out with h0 | h0
            · subst h0
              have ht := firstF_one hpos
              exact ⟨fun _ => ht, fun h => absurd (.inl rfl) h⟩
            · rw [HD.out] at h0
              simp only [ffail] at h0
              by_cases hl : leftG l[k] < d
              · rw [if_pos hl] at h0
                exact ⟨fun _ => h0, fun h => absurd (.inr hl) h⟩
              · rw [if_neg hl] at h0
                refine ⟨fun h => ?_, fun _ => h0⟩
                rcases h with h | h
                · subst h
                  have ht := firstF_one hpos
                  exact ht
                · exact absurd h hl
          have HN := Lib.hid hN
          clear hN HD HR
          generalize l[k] = x at *
          obtain ⟨xa, xb, xc, xd⟩ := x
          dsimp only at k0 k1 k2 k3 hgk
          obtain ⟨⟨hx1, _⟩, ⟨_, hx2⟩, ⟨hx3, hx4⟩, _⟩ := hgk
          simp only [leftG, leftOf] at HN
          by_cases hk0 : k = 0
          · have hk0' : ((k : Int) == 0) = true := by rw [beq_iff_eq]; omega
            have HK0 := Lib.hid hk0
            clear hk0
            go_wp2
            go_roundw
            case rel => exact ⟨k, k + 1, _, by omega, by go_num, rfl, rfl, .inr (HN.out.1 (.inl HK0.out)), HB.out.trans ((Below.refl _ _).alloc HB.out.size _)⟩
            case measure => simp [intOf]; omega
          · have hk0' : ((k : Int) == 0) = false := by rw [beq_eq_false_iff_ne]; omega
            by_cases hless : (xc - xa) / xb < d
            · go_wp2
              go_roundw
              case rel => exact ⟨k, k + 1, _, by omega, by go_num, rfl, rfl, .inr (HN.out.1 (.inr hless)), HB.out.trans ((Below.refl _ _).alloc HB.out.size _)⟩
              case measure => simp [intOf]; omega
            · have hno : ¬ (k = 0 ∨ (xc - xa) / xb < d) := by omega
              have HNO := Lib.hid hno; clear hno
              go_wp2
              go_roundw
              case rel => exact ⟨b, k + 1, d, by omega, by go_num, rfl, rfl, .inr (HN.out.2 HNO.out), HB.out.trans ((Below.refl _ _).alloc HB.out.size _)⟩
              case measure => simp [intOf]; omega
        · obtain rfl : k = n := by omega
          have HE := Lib.hid (drop_end (xs := l) (k := k) (by rw [HX.out]; omega))
          have hend : (b, d) = firstF l := by
            rcases HR.out with h0 | h0
            · omega
            · rw [HE.out] at h0; exact h0
          have HEN := Lib.hid hend
          clear hend
          go_wp2
          go_ret3
          exact ⟨by rw [← HEN.out]; rfl, HB.out⟩
set_option maxHeartbeats 4000000 in
set_option maxRecDepth 100000 in
theorem law_FnExactFirstToFail (w : World) {v0 : Value} (h0 : IsRows4 w v0) :
    Calls Try.prog 5 #[v0] w fun e w' => e = .returned (.bool true) ∧ Below w.heap.size w w' := by
  obtain ⟨A0, n0, c0, xs0, rfl, hnc0, hcm0, _, hr0, _⟩ := h0
  have HR0 := Lib.hid (hr0); clear hr0
  by_cases hn0 : n0 ≤ 1048576
  rotate_left
  · go_enter Try.func5, Try.ntmps5
    go_wp2_with fail
    refine (szGearS_big A0 n0 c0 1048576 _ (by omega) (by omega) (by omega)).mono ?_
    rintro e w' ⟨rfl, rfl⟩
    go_wp2_with fail
    go_ret
    exact ⟨rfl, (Below.refl _ _)⟩
  obtain ⟨S0, hS0⟩ : ∃ S0, S0 = w := ⟨_, rfl⟩
  have HS0 := Lib.hid hS0
  have BW0 : Hid (Below w.heap.size w S0 ∧ w.heap.size ≤ S0.heap.size) := Lib.hid (by subst hS0; exact ⟨(Below.refl _ _), by simp; try omega⟩)
  rw [← hS0] at HR0
  clear hS0
  go_enter Try.func5, Try.ntmps5
  go_wp2_with fail
  refine (szGearS_ok A0 n0 c0 1048576 _ (by omega) (by omega)).mono ?_
  rintro e w' ⟨rfl, rfl⟩
  have BB0 : Hid (Below S0.heap.size S0 S0) := Lib.hid (Below.refl _ _)
  try rw [← HS0.out]
  go_wp2_with fail
  try rw [← HS0.out]
  refine (toGearS_any A0 n0 c0 xs0 S0 (by omega) (HR0.out.below BB0.out)).mono ?_
  rintro e w1 ⟨As0, cs0, rfl, hown, hb⟩
  have Os0_1 := Lib.hid hown; clear hown
  have Ls0 := Lib.hid (own_lt Os0_1.out)
  have B0 := Lib.hid hb; clear hb
  have Z0 := Lib.hid (B0.out.size)
  have BB1 := Lib.hid (BB0.out.trans (B0.out.mono BB0.out.size))
  go_wp2_with fail
  refine (specFirst_any As0 n0 cs0 xs0 w1 (by omega) (Reads.of_own Os0_1.out)).mono ?_
  rintro e w2 ⟨rfl, hb⟩
  have B1 := Lib.hid hb; clear hb
  have Z1 := Lib.hid (B1.out.size)
  have BB2 := Lib.hid (BB1.out.trans (B1.out.mono BB1.out.size))
  have Os0_2 := Lib.hid (own_below Os0_1.out B1.out)
  go_wp2_with fail
  refine (toGearS_any A0 n0 c0 xs0 w2 (by omega) (HR0.out.below BB2.out)).mono ?_
  rintro e w3 ⟨Ax0, cx0, rfl, hown, hb⟩
  have Ox0_3 := Lib.hid hown; clear hown
  have Lx0 := Lib.hid (own_lt Ox0_3.out)
  have B2 := Lib.hid hb; clear hb
  have Z2 := Lib.hid (B2.out.size)
  have BB3 := Lib.hid (BB2.out.trans (B2.out.mono BB2.out.size))
  go_wp2_with fail
  refine (implFirst_any Ax0 n0 cx0 xs0 w3 (by omega) (Reads.of_own Ox0_3.out)).mono ?_
  rintro e w4 ⟨rfl, hb⟩
  have B3 := Lib.hid hb; clear hb
  have Z3 := Lib.hid (B3.out.size)
  have BB4 := Lib.hid (BB3.out.trans (B3.out.mono BB3.out.size))
  have Ox0_4 := Lib.hid (own_below Ox0_3.out B3.out)
  go_wp2_with fail
  refine (toGearS_any A0 n0 c0 xs0 w4 (by omega) (HR0.out.below BB4.out)).mono ?_
  rintro e w5 ⟨At0, ct0, rfl, hown, hb⟩
  have Ot0_5 := Lib.hid hown; clear hown
  have Lt0 := Lib.hid (own_lt Ot0_5.out)
  have B4 := Lib.hid hb; clear hb
  have Z4 := Lib.hid (B4.out.size)
  have BB5 := Lib.hid (BB4.out.trans (B4.out.mono BB4.out.size))
  have Ox0_5 := Lib.hid (own_below Ox0_4.out B4.out)
  go_wp2_with fail
  refine (eqGearS_any Ax0 At0 n0 cx0 ct0 xs0 w5 (by omega) (Reads.of_own Ox0_5.out) (Reads.of_own Ot0_5.out)).mono ?_
  rintro e w6 ⟨rfl, hb⟩
  have B5 := Lib.hid hb; clear hb
  have Z5 := Lib.hid (B5.out.size)
  have BB6 := Lib.hid (BB5.out.trans (B5.out.mono BB5.out.size))
  have Ox0_6 := Lib.hid (own_below Ox0_5.out B5.out)
  have Ot0_6 := Lib.hid (own_below Ot0_5.out B5.out)
  go_wp2_with fail
  go_ret
  exact ⟨rfl, BW0.out.1.trans (BB6.out.mono BW0.out.2)⟩

end Go.Proofs.Ytjibdabedagghaa
