/- Contracts of LatePlan of both packages, and the law over them. No conditions. -/
import Derived.Test.YtjibdabedagghaaHold
import Derived.Test.YtjibdabedagghaaPushL
namespace Go.Proofs.Ytjibdabedagghaa
set_option linter.unusedSimpArgs false
set_option linter.unusedVariables false
open Go.RowKit

/-- The wear of a gear ahead of a day if it is repaired when it would fail. -/
def wearD (g : G4) : Nat → Int
  | 0 => g.1
  | t + 1 => (if g.2.2.1 < wearD g t + g.2.1 then 0 else wearD g t) + g.2.1
def repB (g : G4) (t : Nat) : Bool := decide (g.2.2.1 < wearD g t + g.2.1)
theorem wearD_bd {g : G4} (h : gearB g.1 g.2.1 g.2.2.1 g.2.2.2 = true) : ∀ t, 0 ≤ wearD g t ∧ wearD g t ≤ g.2.2.1 := by
  obtain ⟨⟨h1, h2⟩, ⟨h3, h4⟩, ⟨h5, h6⟩, _⟩ := gearB_true.1 h
  intro t
  induction t with
  | zero => simp only [wearD]; omega
  | succ t ih => simp only [wearD]; split <;> omega
def lateCol : List G4 → Int → Nat → List Int
  | [], _, _ => []
  | g :: r, i, t => (if repB g t = true then [i] else []) ++ lateCol r (i + 1) t
theorem lateCol_snoc (l : List G4) (g : G4) (t : Nat) : ∀ i, lateCol (l ++ [g]) i t = lateCol l i t ++ (if repB g t = true then [i + (l.length : Int)] else []) := by
  induction l with
  | nil => intro i; simp [lateCol]
  | cons x r ih =>
    intro i
    simp only [List.cons_append, lateCol, ih, List.length_cons, List.append_assoc]
    rw [show i + 1 + (r.length : Int) = i + ((r.length + 1 : Nat) : Int) by omega]
theorem lateCol_len (l : List G4) (t : Nat) : ∀ i, (lateCol l i t).length ≤ l.length := by
  induction l with
  | nil => intro i; simp [lateCol]
  | cons x r ih =>
    intro i
    have := ih (i + 1)
    simp only [lateCol, List.length_append, List.length_cons]
    split <;> simp <;> omega
def lateL (l : List G4) (d : Nat) : PL := (List.range d).map (lateCol l 0)
def lateR (l : List G4) (days : Int) : PL × Bool := if (goodGears l && inB days 0 30) = true then (lateL l days.toNat, true) else ([], false)
theorem lateR_bd (l : List G4) (days : Int) : (lateR l days).1.length ≤ 30 ∧ ∀ x ∈ (lateR l days).1, x.length ≤ 8 := by
  unfold lateR
  split
  · rename_i h
    simp only [Bool.and_eq_true] at h
    have h1 := inB_true.1 h.2
    have h2 := goodGears_true.1 h.1
    refine ⟨by simp [lateL]; omega, fun x hx => ?_⟩
    obtain ⟨t, _, rfl⟩ := List.mem_map.1 hx
    have := lateCol_len l t 0
    omega
  · simp
theorem tot_le {X : PL} {b : Nat} (h : ∀ x ∈ X, x.length ≤ b) : tot (X.map ints) ≤ b * X.length := by
  induction X with
  | nil => simp [tot]
  | cons x r ih =>
    have h1 := ih (fun y hy => h y (by simp [hy]))
    have h2 := h x (by simp)
    simp only [tot, List.map_cons, List.sum_cons, List.length_cons, length_ints] at h1 ⊢
    rw [Nat.mul_add]
    omega
theorem lateR_tot (l : List G4) (days : Int) : tot ((lateR l days).1.map ints) ≤ 240 := by
  have h := lateR_bd l days
  have := tot_le h.2
  omega

set_option maxHeartbeats 4000000 in
theorem specLatePlan_any (A : Option Addr) (n c : Nat) (l : List G4) (days : Int) (w : World) (hn : n ≤ 1000000000) (h : Reads w 4 A n (rows4 l)) :
    Calls Try.prog 37 #[.slice A n c, .int .i64 days] w (Made4 w 38 3 1 (lateR l days).1.length (rowsIntss (lateR l days).1) (lateR l days).2) := by
  have HX := Lib.hid (show l.length = n by have := h.1; rw [length_rows4] at this; omega)
  have CG := Lib.hid (fun W (hW : Below w.heap.size w W) => rrGood_any A n c l W hn (h.below hW))
  cases h1 : goodGears l with
  | false =>
    have hr : lateR l days = ([], false) := by simp [lateR, h1]
    rw [hr]
    simp only [h1] at CG
    clear hr h
    go_enter Try.func37, Try.ntmps37
    go_wp2_with (first | (go_at_call 63; refine (CG.out _ (Below.refl _ _)).mono ?_; rintro e w1 ⟨rfl, hb⟩; have HB := Lib.hid hb; clear hb) | (go_at_call 78; refine (rrDays_any _ _).mono ?_; rintro e w' ⟨rfl, rfl⟩))
    go_ret2
    exact ⟨none, 0, [], rfl, own2_nil _ _, HB.out⟩
  | true =>
    cases h2 : inB days 0 30 with
    | false =>
      have hr : lateR l days = ([], false) := by simp [lateR, h2]
      rw [hr]
      simp only [h1] at CG
      clear hr h
      go_enter Try.func37, Try.ntmps37
      go_wp2_with (first | (go_at_call 63; refine (CG.out _ (Below.refl _ _)).mono ?_; rintro e w1 ⟨rfl, hb⟩; have HB := Lib.hid hb; clear hb) | (go_at_call 78; refine (rrDays_any _ _).mono ?_; rintro e w' ⟨rfl, rfl⟩))
      go_ret2
      exact ⟨none, 0, [], rfl, own2_nil _ _, HB.out⟩
    | true =>
      obtain ⟨hd1, hd2⟩ := inB_true.1 h2
      obtain ⟨dn, rfl⟩ : ∃ dn : Nat, days = (dn : Int) := ⟨days.toNat, by omega⟩
      have hr : lateR l (dn : Int) = (lateL l dn, true) := by simp [lateR, h1, h2]
      rw [hr]
      have h8 := goodGears_true.1 h1
      have HGG := Lib.hid h8.1
      simp only [h1] at CG
      have H0 := Lib.hid h
      have HLL : Hid ((lateL l dn).length = dn) := Lib.hid (by simp [lateL])
      have hn8 : n ≤ 8 := by have := h8.2; rw [HX.out] at this; exact this
      clear hr h h8
      generalize hlo : w.heap.size = lo at *
      go_enter Try.func37, Try.ntmps37
      go_wp2_with (first | (go_at_call 63; refine (CG.out _ (Below.refl _ _)).mono ?_; rintro e w1 ⟨rfl, hb⟩; have HB := Lib.hid hb; clear hb) | (go_at_call 78; refine (rrDays_any _ _).mono ?_; rintro e w' ⟨rfl, rfl⟩) | (at_make; refine wpList_mk _ rfl (.tmp 19) (.tmp 19) 43 rfl lo 38 (.slice none 0 0) _ infoInts rfl Try.underlying43 _ _ _ _ dn rfl rfl rfl rfl (by omega) (by omega) (by have := HB.out.size; omega) ?_; intro w2 hown2 hb2 hz2))
      have HLW1 : Hid (lo ≤ w1.heap.size) := Lib.hid (by have := HB.out.size; omega)
      have HBW : Hid (Below lo w w2) := Lib.hid (by have h1 := HB.out; rw [hlo] at h1; exact h1.trans (hb2.mono HLW1.out))
      have hown3 := own2_made (ei := 3) hown2 hz2
      have HLG : Hid (lo ≤ w1.heap.size) := HLW1
      clear hb2 hown2
      generalize w1.heap.size = g0 at *
      have HS0 : Hid (∃ hs, Own2 w2 lo w2.heap.size 38 3 1 (some ⟨g0, 0, none⟩) dn dn (rowsIntss ((List.range dn).map (lateCol (l.take 0) 0))) hs) := Lib.hid ⟨_, by
        have e : rowsIntss ((List.range dn).map (lateCol (l.take 0) 0)) = List.replicate dn (.inr []) := by
          simp only [rowsIntss, List.take_zero, List.map_map]
          rw [show (Sum.inr ∘ ints ∘ lateCol [] 0 : Nat → Cel) = fun _ => .inr [] from funext fun _ => rfl]
          simp [List.map_const']
        rw [e]
        exact hown3⟩
      clear hown3 hz2 HB
      obtain ⟨hs0, hS0⟩ := HS0.out
      have HS1 := Lib.hid hS0
      clear hS0 HS0 CG
      go_loopw [23] (fun i wr => ∃ k : Nat, ∃ hs, k ≤ n ∧ i = .int .i64 k ∧ (Own2 wr lo wr.heap.size 38 3 1 (some ⟨g0, 0, none⟩) dn dn (rowsIntss ((List.range dn).map (lateCol (l.take k) 0))) hs) ∧ Below lo w wr) (fun i _ => n - (intOf i).toNat)
      case atStart => exact ⟨0, hs0, Nat.zero_le _, rfl, HS1.out, HBW.out⟩
      case round =>
        obtain ⟨k, hs0, hk, rfl, hown, hb⟩ := hrel
        have HOO := Lib.hid hown; clear hown
        have HBO := Lib.hid hb; clear hb
        obtain ⟨wo, rfl⟩ : ∃ wo, wo = wr := ⟨_, rfl⟩
        by_cases hlt : k < n
        · obtain ⟨ag, rfl, k0, k1, k2, k3⟩ := rows4_at (H0.out.keep (w' := wo) (fun p hp => HBO.out.cell (by omega))) hlt HX.out
          have hx : k < l.length := by rw [HX.out]; exact hlt
          have HTK : Hid (l.take (k + 1) = l.take k ++ [l[k]]) := Lib.hid (List.take_succ_eq_append_getElem hx)
          have HTL : Hid ((l.take k).length = k) := Lib.hid (by simp; omega)
          have hgk := HGG.out l[k] (List.getElem_mem hx)
          generalize l[k] = gx at *
          obtain ⟨a, b, c4, d4⟩ := gx
          have HWD := Lib.hid (wearD_bd hgk)
          obtain ⟨⟨hb1, hb2⟩, ⟨hc1, hc2⟩, ⟨ha1, ha2⟩, _⟩ := gearB_true.1 hgk
          simp only at hb1 hb2 hc1 hc2 ha1 ha2 k0 k1 k2 k3
          have HB4 := Lib.hid (Box4.new wo 26 (.int .i64 a) (.int .i64 b) (.int .i64 c4) (.int .i64 d4))
          have HLO0 : Hid (lo ≤ wo.heap.size) := Lib.hid (by have := HBO.out.size; omega)
          have HBS : Hid (Below lo w (wo.alloc (.cells #[.int .i64 a, .int .i64 b, .int .i64 c4, .int .i64 d4] 26))) := Lib.hid (HBO.out.trans (((Below.refl _ _).alloc (Nat.le_refl _) _).mono HLO0.out))
          have HFR0 : Hid (¬ owns2 (some ⟨g0, 0, none⟩) dn dn hs0 wo.heap.size) := Lib.hid (fun hq => by have := (HOO.out.lt hq).2; omega)
          have HO0 : Hid (Own2 (wo.alloc (.cells #[.int .i64 a, .int .i64 b, .int .i64 c4, .int .i64 d4] 26)) lo (wo.alloc (.cells #[.int .i64 a, .int .i64 b, .int .i64 c4, .int .i64 d4] 26)).heap.size 38 3 1 (some ⟨g0, 0, none⟩) dn dn (rowsIntss (mixL (lateCol (l.take k) 0) (lateCol (l.take (k + 1)) 0) dn 0)) hs0) := Lib.hid (by
            rw [mixL_zero]
            exact (HOO.out.below ((Below.refl _ _).alloc (Nat.le_refl _) _) (Nat.le_refl _)).mono_hi (by simp))
          have HNG : Hid (wo.heap.size ≠ g0) := Lib.hid (fun e => HFR0.out (.inl (by rw [e]; rfl)))
          have HLB : Hid (lo ≤ wo.heap.size) := HLO0
          clear hgk
          go_wp2
          clear k0 k1 k2 k3
          generalize (wo.alloc (.cells #[.int .i64 a, .int .i64 b, .int .i64 c4, .int .i64 d4] 26)) = ws at *
          generalize wo.heap.size = gb at *
          go_loopw [30] (fun i wr => ∃ t : Nat, ∃ hs, t ≤ dn ∧ i = .int .i64 t ∧ Box4 wr gb 26 (.int .i64 (wearD (a, b, c4, d4) t)) (.int .i64 b) (.int .i64 c4) (.int .i64 d4) ∧ (Own2 wr lo wr.heap.size 38 3 1 (some ⟨g0, 0, none⟩) dn dn (rowsIntss (mixL (lateCol (l.take k) 0) (lateCol (l.take (k + 1)) 0) dn t)) hs) ∧ ¬ owns2 (some ⟨g0, 0, none⟩) dn dn hs gb ∧ Below lo w wr) (fun i _ => dn - (intOf i).toNat)
          case atStart => exact ⟨0, hs0, Nat.zero_le _, rfl, HB4.out, HO0.out, HFR0.out, HBS.out⟩
          case round =>
            obtain ⟨t, hs, hj, rfl, hbox, hown, hfree, hbi⟩ := hrel
            have HBI := Lib.hid hbi; clear hbi
            have HBOX := Lib.hid hbox; clear hbox
            have HO := Lib.hid hown; clear hown
            have HFREE := Lib.hid hfree; clear hfree
            have HLO : Hid (lo ≤ wr.heap.size) := Lib.hid (by have := HBI.out.size; omega)
            obtain ⟨x0, x1, x2, x3⟩ := HBOX.out.cells
            by_cases hjt : t < dn
            · have hqb := HWD.out t
              have HW1 : Hid (wearD (a, b, c4, d4) (t + 1) = (if c4 < wearD (a, b, c4, d4) t + b then 0 else wearD (a, b, c4, d4) t) + b) := Lib.hid rfl
              have HRB : Hid (repB (a, b, c4, d4) t = decide (c4 < wearD (a, b, c4, d4) t + b)) := Lib.hid rfl
              have HLS : Hid (lateCol (l.take (k + 1)) 0 t = lateCol (l.take k) 0 t ++ (if repB (a, b, c4, d4) t = true then [(k : Int)] else [])) := Lib.hid (by rw [HTK.out, lateCol_snoc, HTL.out]; simp)
              have HFL0 := Lib.hid (lateCol_len (l.take k) t 0)
              generalize wearD (a, b, c4, d4) t = q at *
              by_cases hrep : c4 < q + b
              · have HREP : Hid (lateCol (l.take (k + 1)) 0 t = lateCol (l.take k) 0 t ++ [(k : Int)]) := Lib.hid (by rw [HLS.out, HRB.out]; simp [hrep])
                have HW2 : Hid (wearD (a, b, c4, d4) (t + 1) = b) := Lib.hid (by rw [HW1.out, if_pos hrep]; omega)
                have HHS : Hid (hs.length = dn) := Lib.hid (by have := HO.out.row.1; omega)
                have hC : (rowsIntss (mixL (lateCol (l.take k) 0) (lateCol (l.take (k + 1)) 0) dn t))[t]? = some (.inr (ints (lateCol (l.take k) 0 t))) := by
                  have h1 := mixL_get (f := lateCol (l.take k) 0) (g := lateCol (l.take (k + 1)) 0) hjt
                  simp only [rowsIntss, List.getElem?_map, h1]; rfl
                have HC := Lib.hid hC
                clear hC HW1 HRB HLS
                obtain ⟨g1, Ai, ci, e1, hu, kc, fz, hro⟩ := HO.out.at_ HC.out
                injection e1 with e1
                injection e1 with e1
                subst e1
                obtain ⟨fl, hfl⟩ : ∃ fl, (lateCol (l.take k) 0 t).length = fl := ⟨_, rfl⟩
                have HFL := Lib.hid hfl
                have hfl8 : fl ≤ 8 := by have := HFL0.out; rw [hfl, HTL.out] at this; omega
                rw [length_ints, hfl] at hu kc hro
                have HU := Lib.hid hu
                have HRO := Lib.hid hro
                have HNR : Hid (some gb ≠ (Value.slice Ai fl ci).ownBlock) := Lib.hid (fun e => HFREE.out (.inr ⟨t, _, HU.out, e.symm⟩))
                have HO5 : Hid (Own2 (wr.alloc (.cells #[.int .i64 (k : Int)] 3)) lo wr.heap.size 38 3 1 (some ⟨g0, 0, none⟩) dn dn (rowsIntss (mixL (lateCol (l.take k) 0) (lateCol (l.take (k + 1)) 0) dn t)) hs) := Lib.hid (HO.out.below ((Below.refl _ _).alloc (Nat.le_refl _) _) (Nat.le_refl _))
                clear hu hro hfl
                go_wp2_with (first | (at_builtin; refine wpList_pushL _ rfl (.tmp 47) (.tmp 49) 38 rfl lo 3 (.int .i64 0) 1 8 infoInt rfl (by omega) Try.underlying38 Ai fl ci (ints (lateCol (l.take k) 0 t)) rfl (HRO.out.alloc _) (some ⟨wr.heap.size, 0, none⟩) 1 1 [.int .i64 (k : Int)] rfl (reads_new _ _ _) (by simp [Value.oneCell']) (by omega) (by omega) (by have := HLO.out; simp; omega) ?_; intro A' c' w5 hown5 hg5 hb5 hloc5; obtain ⟨⟨ob, kb⟩, fb⟩ := HO5.out.outer rfl HU.out hg5 (i := t) (by rw [HHS.out]; exact hjt); have hB5 : Box4 (w5.setCell ⟨g0, t, none⟩ (.slice A' (fl + 1) c')) gb 26 (.int .i64 q) (.int .i64 b) (.int .i64 c4) (.int .i64 d4) := box4_push (HBOX.out.below ((Below.refl _ _).alloc (Nat.le_refl _) _) HBOX.out.lt) hg5 HNR.out HNG.out; have HB5 := Lib.hid hB5; clear hB5; have HOWN5 := Lib.hid hown5; clear hown5; have HG5 := Lib.hid hg5; clear hg5; have HBL5 := Lib.hid hb5; clear hb5; have HLOC5 := Lib.hid hloc5; clear hloc5; obtain ⟨⟨y0, y1, y2, y3⟩, f0, f1, f2, f3⟩ := box4_fin HB5.out _ (Below.refl _ _); have HFIN := Lib.hid (box4_fin HB5.out)) | (go_at_call 69; refine (rrAfter_any q b c4 d4 _ _ ⟨by omega, by omega⟩ ⟨by omega, by omega⟩).mono ?_; rintro e w3 ⟨rfl, hb3⟩; have HB3 := Lib.hid hb3; obtain ⟨⟨z0, z1, z2, z3⟩, e0, e1, e2, e3⟩ := HFIN.out _ hb3; clear hb3))
                obtain ⟨hs5, HN5⟩ : ∃ hs5, (Own2 (w5.setCell ⟨g0, t, none⟩ (.slice A' (fl + 1) c')) lo (w5.setCell ⟨g0, t, none⟩ (.slice A' (fl + 1) c')).heap.size 38 3 1 (some ⟨g0, 0, none⟩) dn dn (rowsIntss (mixL (lateCol (l.take k) 0) (lateCol (l.take (k + 1)) 0) dn (t + 1))) hs5) ∧ ¬ owns2 (some ⟨g0, 0, none⟩) dn dn hs5 gb := by
                  have hl' : (lateCol (l.take (k + 1)) 0 t).length = fl + 1 := by rw [HREP.out]; simp [HFL.out]
                  have e5 : (ints (lateCol (l.take (k + 1)) 0 t)).length = fl + 1 := by simp [hl']
                  have ho5 : w5.ownsRow lo 3 1 (.slice A' (fl + 1) c') (fl + 1) (ints (lateCol (l.take (k + 1)) 0 t)) := by rw [HREP.out]; simpa [ints] using HOWN5.out
                  have hnew := HO5.out.regrown (hi2 := w5.heap.size) (v' := .slice A' (fl + 1) c') (l' := ints (lateCol (l.take (k + 1)) 0 t)) (ci := c') (Ai := A') HC.out HU.out HG5.out (by simp) (by rw [e5]) (by rw [e5]; exact ho5) (HLOC5.out.elim .inl (fun h => .inr ⟨_, h, by simp⟩)) (by have := HG5.out.size; simp at this; omega) (own_lt HOWN5.out)
                  rw [rowsIntss_set, mixL_set hjt] at hnew
                  refine ⟨_, by simpa using hnew, fun hq => ?_⟩
                  rcases owns2_set hq with hq | hq
                  · exact HFREE.out hq
                  · rcases HLOC5.out with h | h
                    · exact HNR.out (by rw [← hq, h])
                    · rw [hq] at h; injection h with h; have := HBOX.out.lt; simp at h; omega
                have HN5 := Lib.hid HN5
                go_roundw
                case rel =>
                  refine ⟨t + 1, hs5, by omega, by go_num, ?_, ?_, HN5.out.2, ?_⟩
                  · rw [HW2.out]
                    simpa using (HB5.out.below HB3.out HB5.out.lt).set4 (.int .i64 b) (.int .i64 b) (.int .i64 c4) (.int .i64 d4)
                  · have h3 := (HN5.out.1.below HB3.out (by simp)).mono_hi HB3.out.size
                    simpa using ((((h3.setOther HN5.out.2).setOther HN5.out.2).setOther HN5.out.2).setOther HN5.out.2)
                  · exact ((((((((HBI.out.trans (((Below.refl _ _).alloc (Nat.le_refl _) _).mono (by have := HLO.out; omega))).trans HBL5.out).setCell (p := ⟨g0, t, none⟩) HLG.out _).trans (HB3.out.mono (by have := HLO.out; have := HG5.out.size; simp at this; simp; omega))).setCell (p := ⟨gb, 0, none⟩) HLB.out _).setCell (p := ⟨gb, 1, none⟩) HLB.out _).setCell (p := ⟨gb, 2, none⟩) HLB.out _).setCell (p := ⟨gb, 3, none⟩) HLB.out _)
                case measure => simp [intOf]; omega
              · have HREP : Hid (lateCol (l.take k) 0 t = lateCol (l.take (k + 1)) 0 t) := Lib.hid (by rw [HLS.out, HRB.out]; simp [hrep])
                have HW2 : Hid (wearD (a, b, c4, d4) (t + 1) = q + b) := Lib.hid (by rw [HW1.out, if_neg hrep])
                have HSK : Hid ((mixL (lateCol (l.take k) 0) (lateCol (l.take (k + 1)) 0) dn t) = (mixL (lateCol (l.take k) 0) (lateCol (l.take (k + 1)) 0) dn (t + 1))) := Lib.hid (mixL_skip hjt HREP.out)
                have HFIN := Lib.hid (box4_fin HBOX.out)
                clear HW1 HRB HLS
                go_wp2_with (go_at_call 69; refine (rrAfter_any q b c4 d4 _ _ ⟨by omega, by omega⟩ ⟨by omega, by omega⟩).mono ?_; rintro e w3 ⟨rfl, hb3⟩; have HB3 := Lib.hid hb3; obtain ⟨⟨z0, z1, z2, z3⟩, e0, e1, e2, e3⟩ := HFIN.out _ hb3; clear hb3)
                go_roundw
                case rel =>
                  refine ⟨t + 1, hs, by omega, by go_num, ?_, ?_, HFREE.out, ?_⟩
                  · rw [HW2.out]
                    simpa using (HBOX.out.below HB3.out HBOX.out.lt).set4 (.int .i64 (q + b)) (.int .i64 b) (.int .i64 c4) (.int .i64 d4)
                  · rw [← HSK.out]
                    have h3 := (HO.out.below HB3.out (by simp)).mono_hi HB3.out.size
                    simpa using ((((h3.setOther HFREE.out).setOther HFREE.out).setOther HFREE.out).setOther HFREE.out)
                  · exact (((((HBI.out.trans (HB3.out.mono HLO.out)).setCell (p := ⟨gb, 0, none⟩) HLB.out _).setCell (p := ⟨gb, 1, none⟩) HLB.out _).setCell (p := ⟨gb, 2, none⟩) HLB.out _).setCell (p := ⟨gb, 3, none⟩) HLB.out _)
                case measure => simp [intOf]; omega
            · obtain rfl : t = dn := by omega
              have ho := HO.out
              rw [mixL_full] at ho
              have HOF := Lib.hid ho
              clear ho
              go_wp2
              go_roundw
              case rel => exact ⟨k + 1, hs, by omega, by go_num, HOF.out, HBI.out⟩
              case measure => simp [intOf]; omega
        · have e : l.take k = l := List.take_of_length_le (by rw [HX.out]; omega)
          have ho := HOO.out
          rw [e] at ho
          have HOF := Lib.hid ho
          clear ho
          go_wp2
          go_ret2
          subst hlo
          refine ⟨some ⟨g0, 0, none⟩, dn, hs0, ?_, ?_, HBO.out⟩
          · rw [HLL.out]; rfl
          · rw [HLL.out]; exact HOF.out

set_option maxHeartbeats 4000000 in
theorem implLatePlan_any (A : Option Addr) (n c : Nat) (l : List G4) (days : Int) (w : World) (hn : n ≤ 1000000000) (h : Reads w 4 A n (rows4 l)) :
    Calls Try.prog 38 #[.slice A n c, .int .i64 days] w (Made4 w 38 3 1 (lateR l days).1.length (rowsIntss (lateR l days).1) (lateR l days).2) := by
  have HX := Lib.hid (show l.length = n by have := h.1; rw [length_rows4] at this; omega)
  have CG := Lib.hid (fun W (hW : Below w.heap.size w W) => areGears_any A n c l W hn (h.below hW))
  cases h1 : goodGears l with
  | false =>
    have hr : lateR l days = ([], false) := by simp [lateR, h1]
    rw [hr]
    simp only [h1] at CG
    clear hr h
    go_enter Try.func38, Try.ntmps38
    go_wp2_with (first | (go_at_call 21; refine (CG.out _ (Below.refl _ _)).mono ?_; rintro e w1 ⟨rfl, hb⟩; have HB := Lib.hid hb; clear hb) | (go_at_call 73; refine (within_any _ _ _ _).mono ?_; rintro e w' ⟨rfl, rfl⟩))
    go_ret2
    exact ⟨none, 0, [], rfl, own2_nil _ _, HB.out⟩
  | true =>
    cases h2 : inB days 0 30 with
    | false =>
      have hr : lateR l days = ([], false) := by simp [lateR, h2]
      rw [hr]
      simp only [h1] at CG
      clear hr h
      go_enter Try.func38, Try.ntmps38
      go_wp2_with (first | (go_at_call 21; refine (CG.out _ (Below.refl _ _)).mono ?_; rintro e w1 ⟨rfl, hb⟩; have HB := Lib.hid hb; clear hb) | (go_at_call 73; refine (within_any _ _ _ _).mono ?_; rintro e w' ⟨rfl, rfl⟩))
      go_ret2
      exact ⟨none, 0, [], rfl, own2_nil _ _, HB.out⟩
    | true =>
      obtain ⟨hd1, hd2⟩ := inB_true.1 h2
      obtain ⟨dn, rfl⟩ : ∃ dn : Nat, days = (dn : Int) := ⟨days.toNat, by omega⟩
      have hr : lateR l (dn : Int) = (lateL l dn, true) := by simp [lateR, h1, h2]
      rw [hr]
      have h8 := goodGears_true.1 h1
      have HGG := Lib.hid h8.1
      simp only [h1] at CG
      have H0 := Lib.hid h
      have HLL : Hid ((lateL l dn).length = dn) := Lib.hid (by simp [lateL])
      have hn8 : n ≤ 8 := by have := h8.2; rw [HX.out] at this; exact this
      clear hr h h8
      generalize hlo : w.heap.size = lo at *
      go_enter Try.func38, Try.ntmps38
      go_wp2_with (first | (go_at_call 21; refine (CG.out _ (Below.refl _ _)).mono ?_; rintro e w1 ⟨rfl, hb⟩; have HB := Lib.hid hb; clear hb) | (go_at_call 73; refine (within_any _ _ _ _).mono ?_; rintro e w' ⟨rfl, rfl⟩) | (at_make; refine wpList_mk _ rfl (.tmp 19) (.tmp 19) 43 rfl lo 38 (.slice none 0 0) _ infoInts rfl Try.underlying43 _ _ _ _ dn rfl rfl rfl rfl (by omega) (by omega) (by have := HB.out.size; omega) ?_; intro w2 hown2 hb2 hz2))
      have HLW1 : Hid (lo ≤ w1.heap.size) := Lib.hid (by have := HB.out.size; omega)
      have HBW : Hid (Below lo w w2) := Lib.hid (by have h1 := HB.out; rw [hlo] at h1; exact h1.trans (hb2.mono HLW1.out))
      have hown3 := own2_made (ei := 3) hown2 hz2
      have HLG : Hid (lo ≤ w1.heap.size) := HLW1
      clear hb2 hown2
      generalize w1.heap.size = g0 at *
      have HS0 : Hid (∃ hs, Own2 w2 lo w2.heap.size 38 3 1 (some ⟨g0, 0, none⟩) dn dn (rowsIntss ((List.range dn).map (lateCol (l.take 0) 0))) hs) := Lib.hid ⟨_, by
        have e : rowsIntss ((List.range dn).map (lateCol (l.take 0) 0)) = List.replicate dn (.inr []) := by
          simp only [rowsIntss, List.take_zero, List.map_map]
          rw [show (Sum.inr ∘ ints ∘ lateCol [] 0 : Nat → Cel) = fun _ => .inr [] from funext fun _ => rfl]
          simp [List.map_const']
        rw [e]
        exact hown3⟩
      clear hown3 hz2 HB
      obtain ⟨hs0, hS0⟩ := HS0.out
      have HS1 := Lib.hid hS0
      clear hS0 HS0 CG
      go_loopw [23] (fun i wr => ∃ k : Nat, ∃ hs, k ≤ n ∧ i = .int .i64 k ∧ (Own2 wr lo wr.heap.size 38 3 1 (some ⟨g0, 0, none⟩) dn dn (rowsIntss ((List.range dn).map (lateCol (l.take k) 0))) hs) ∧ Below lo w wr) (fun i _ => n - (intOf i).toNat)
      case atStart => exact ⟨0, hs0, Nat.zero_le _, rfl, HS1.out, HBW.out⟩
      case round =>
        obtain ⟨k, hs0, hk, rfl, hown, hb⟩ := hrel
        have HOO := Lib.hid hown; clear hown
        have HBO := Lib.hid hb; clear hb
        obtain ⟨wo, rfl⟩ : ∃ wo, wo = wr := ⟨_, rfl⟩
        by_cases hlt : k < n
        · obtain ⟨ag, rfl, k0, k1, k2, k3⟩ := rows4_at (H0.out.keep (w' := wo) (fun p hp => HBO.out.cell (by omega))) hlt HX.out
          have hx : k < l.length := by rw [HX.out]; exact hlt
          have HTK : Hid (l.take (k + 1) = l.take k ++ [l[k]]) := Lib.hid (List.take_succ_eq_append_getElem hx)
          have HTL : Hid ((l.take k).length = k) := Lib.hid (by simp; omega)
          have hgk := HGG.out l[k] (List.getElem_mem hx)
          generalize l[k] = gx at *
          obtain ⟨a, b, c4, d4⟩ := gx
          have HWD := Lib.hid (wearD_bd hgk)
          obtain ⟨⟨hb1, hb2⟩, ⟨hc1, hc2⟩, ⟨ha1, ha2⟩, _⟩ := gearB_true.1 hgk
          simp only at hb1 hb2 hc1 hc2 ha1 ha2 k0 k1 k2 k3
          have HB4 := Lib.hid (Box4.new wo 26 (.int .i64 a) (.int .i64 b) (.int .i64 c4) (.int .i64 d4))
          have HLO0 : Hid (lo ≤ wo.heap.size) := Lib.hid (by have := HBO.out.size; omega)
          have HBS : Hid (Below lo w (wo.alloc (.cells #[.int .i64 a, .int .i64 b, .int .i64 c4, .int .i64 d4] 26))) := Lib.hid (HBO.out.trans (((Below.refl _ _).alloc (Nat.le_refl _) _).mono HLO0.out))
          have HFR0 : Hid (¬ owns2 (some ⟨g0, 0, none⟩) dn dn hs0 wo.heap.size) := Lib.hid (fun hq => by have := (HOO.out.lt hq).2; omega)
          have HO0 : Hid (Own2 (wo.alloc (.cells #[.int .i64 a, .int .i64 b, .int .i64 c4, .int .i64 d4] 26)) lo (wo.alloc (.cells #[.int .i64 a, .int .i64 b, .int .i64 c4, .int .i64 d4] 26)).heap.size 38 3 1 (some ⟨g0, 0, none⟩) dn dn (rowsIntss (mixL (lateCol (l.take k) 0) (lateCol (l.take (k + 1)) 0) dn 0)) hs0) := Lib.hid (by
            rw [mixL_zero]
            exact (HOO.out.below ((Below.refl _ _).alloc (Nat.le_refl _) _) (Nat.le_refl _)).mono_hi (by simp))
          have HNG : Hid (wo.heap.size ≠ g0) := Lib.hid (fun e => HFR0.out (.inl (by rw [e]; rfl)))
          have HLB : Hid (lo ≤ wo.heap.size) := HLO0
          clear hgk
          go_wp2
          clear k0 k1 k2 k3
          generalize (wo.alloc (.cells #[.int .i64 a, .int .i64 b, .int .i64 c4, .int .i64 d4] 26)) = ws at *
          generalize wo.heap.size = gb at *
          go_loopw [9, 32] (fun s i wr => ∃ t : Nat, ∃ hs, t ≤ dn ∧ i = .int .i64 t ∧ s = .int .i64 (wearD (a, b, c4, d4) t) ∧ Box4 wr gb 26 (.int .i64 a) (.int .i64 b) (.int .i64 c4) (.int .i64 d4) ∧ (Own2 wr lo wr.heap.size 38 3 1 (some ⟨g0, 0, none⟩) dn dn (rowsIntss (mixL (lateCol (l.take k) 0) (lateCol (l.take (k + 1)) 0) dn t)) hs) ∧ ¬ owns2 (some ⟨g0, 0, none⟩) dn dn hs gb ∧ Below lo w wr) (fun _ i _ => dn - (intOf i).toNat)
          case atStart => exact ⟨0, hs0, Nat.zero_le _, rfl, rfl, HB4.out, HO0.out, HFR0.out, HBS.out⟩
          case round =>
            obtain ⟨t, hs, hj, rfl, rfl, hbox, hown, hfree, hbi⟩ := hrel
            have HBI := Lib.hid hbi; clear hbi
            have HBOX := Lib.hid hbox; clear hbox
            have HO := Lib.hid hown; clear hown
            have HFREE := Lib.hid hfree; clear hfree
            have HLO : Hid (lo ≤ wr.heap.size) := Lib.hid (by have := HBI.out.size; omega)
            obtain ⟨x0, x1, x2, x3⟩ := HBOX.out.cells
            by_cases hjt : t < dn
            · have hqb := HWD.out t
              have HW1 : Hid (wearD (a, b, c4, d4) (t + 1) = (if c4 < wearD (a, b, c4, d4) t + b then 0 else wearD (a, b, c4, d4) t) + b) := Lib.hid rfl
              have HRB : Hid (repB (a, b, c4, d4) t = decide (c4 < wearD (a, b, c4, d4) t + b)) := Lib.hid rfl
              have HLS : Hid (lateCol (l.take (k + 1)) 0 t = lateCol (l.take k) 0 t ++ (if repB (a, b, c4, d4) t = true then [(k : Int)] else [])) := Lib.hid (by rw [HTK.out, lateCol_snoc, HTL.out]; simp)
              have HFL0 := Lib.hid (lateCol_len (l.take k) t 0)
              generalize wearD (a, b, c4, d4) t = q at *
              by_cases hrep : c4 < q + b
              · have HREP : Hid (lateCol (l.take (k + 1)) 0 t = lateCol (l.take k) 0 t ++ [(k : Int)]) := Lib.hid (by rw [HLS.out, HRB.out]; simp [hrep])
                have HW2 : Hid (wearD (a, b, c4, d4) (t + 1) = b) := Lib.hid (by rw [HW1.out, if_pos hrep]; omega)
                have HHS : Hid (hs.length = dn) := Lib.hid (by have := HO.out.row.1; omega)
                have hC : (rowsIntss (mixL (lateCol (l.take k) 0) (lateCol (l.take (k + 1)) 0) dn t))[t]? = some (.inr (ints (lateCol (l.take k) 0 t))) := by
                  have h1 := mixL_get (f := lateCol (l.take k) 0) (g := lateCol (l.take (k + 1)) 0) hjt
                  simp only [rowsIntss, List.getElem?_map, h1]; rfl
                have HC := Lib.hid hC
                clear hC HW1 HRB HLS
                obtain ⟨g1, Ai, ci, e1, hu, kc, fz, hro⟩ := HO.out.at_ HC.out
                injection e1 with e1
                injection e1 with e1
                subst e1
                obtain ⟨fl, hfl⟩ : ∃ fl, (lateCol (l.take k) 0 t).length = fl := ⟨_, rfl⟩
                have HFL := Lib.hid hfl
                have hfl8 : fl ≤ 8 := by have := HFL0.out; rw [hfl, HTL.out] at this; omega
                rw [length_ints, hfl] at hu kc hro
                have HU := Lib.hid hu
                have HRO := Lib.hid hro
                have HNR : Hid (some gb ≠ (Value.slice Ai fl ci).ownBlock) := Lib.hid (fun e => HFREE.out (.inr ⟨t, _, HU.out, e.symm⟩))
                have HO5 : Hid (Own2 (wr.alloc (.cells #[.int .i64 (k : Int)] 3)) lo wr.heap.size 38 3 1 (some ⟨g0, 0, none⟩) dn dn (rowsIntss (mixL (lateCol (l.take k) 0) (lateCol (l.take (k + 1)) 0) dn t)) hs) := Lib.hid (HO.out.below ((Below.refl _ _).alloc (Nat.le_refl _) _) (Nat.le_refl _))
                clear hu hro hfl
                go_wp2_with (at_builtin; refine wpList_pushL _ rfl (.tmp 47) (.tmp 49) 38 rfl lo 3 (.int .i64 0) 1 8 infoInt rfl (by omega) Try.underlying38 Ai fl ci (ints (lateCol (l.take k) 0 t)) rfl (HRO.out.alloc _) (some ⟨wr.heap.size, 0, none⟩) 1 1 [.int .i64 (k : Int)] rfl (reads_new _ _ _) (by simp [Value.oneCell']) (by omega) (by omega) (by have := HLO.out; simp; omega) ?_; intro A' c' w5 hown5 hg5 hb5 hloc5; obtain ⟨⟨ob, kb⟩, fb⟩ := HO5.out.outer rfl HU.out hg5 (i := t) (by rw [HHS.out]; exact hjt); have hB5 : Box4 (w5.setCell ⟨g0, t, none⟩ (.slice A' (fl + 1) c')) gb 26 (.int .i64 a) (.int .i64 b) (.int .i64 c4) (.int .i64 d4) := box4_push (HBOX.out.below ((Below.refl _ _).alloc (Nat.le_refl _) _) HBOX.out.lt) hg5 HNR.out HNG.out; have HB5 := Lib.hid hB5; clear hB5; have HOWN5 := Lib.hid hown5; clear hown5; have HG5 := Lib.hid hg5; clear hg5; have HBL5 := Lib.hid hb5; clear hb5; have HLOC5 := Lib.hid hloc5; clear hloc5; obtain ⟨⟨y0, y1, y2, y3⟩, f0, f1, f2, f3⟩ := box4_fin HB5.out _ (Below.refl _ _); have HFIN := Lib.hid (box4_fin HB5.out))
                obtain ⟨hs5, HN5⟩ : ∃ hs5, (Own2 (w5.setCell ⟨g0, t, none⟩ (.slice A' (fl + 1) c')) lo (w5.setCell ⟨g0, t, none⟩ (.slice A' (fl + 1) c')).heap.size 38 3 1 (some ⟨g0, 0, none⟩) dn dn (rowsIntss (mixL (lateCol (l.take k) 0) (lateCol (l.take (k + 1)) 0) dn (t + 1))) hs5) ∧ ¬ owns2 (some ⟨g0, 0, none⟩) dn dn hs5 gb := by
                  have hl' : (lateCol (l.take (k + 1)) 0 t).length = fl + 1 := by rw [HREP.out]; simp [HFL.out]
                  have e5 : (ints (lateCol (l.take (k + 1)) 0 t)).length = fl + 1 := by simp [hl']
                  have ho5 : w5.ownsRow lo 3 1 (.slice A' (fl + 1) c') (fl + 1) (ints (lateCol (l.take (k + 1)) 0 t)) := by rw [HREP.out]; simpa [ints] using HOWN5.out
                  have hnew := HO5.out.regrown (hi2 := w5.heap.size) (v' := .slice A' (fl + 1) c') (l' := ints (lateCol (l.take (k + 1)) 0 t)) (ci := c') (Ai := A') HC.out HU.out HG5.out (by simp) (by rw [e5]) (by rw [e5]; exact ho5) (HLOC5.out.elim .inl (fun h => .inr ⟨_, h, by simp⟩)) (by have := HG5.out.size; simp at this; omega) (own_lt HOWN5.out)
                  rw [rowsIntss_set, mixL_set hjt] at hnew
                  refine ⟨_, by simpa using hnew, fun hq => ?_⟩
                  rcases owns2_set hq with hq | hq
                  · exact HFREE.out hq
                  · rcases HLOC5.out with h | h
                    · exact HNR.out (by rw [← hq, h])
                    · rw [hq] at h; injection h with h; have := HBOX.out.lt; simp at h; omega
                have HN5 := Lib.hid HN5
                go_roundw
                case rel => exact ⟨t + 1, hs5, by omega, by go_num, by first | (rw [HW2.out]; done) | (rw [HW2.out]; simp; done), by simpa using HB5.out, HN5.out.1, HN5.out.2, (((HBI.out.trans (((Below.refl _ _).alloc (Nat.le_refl _) _).mono (by have := HLO.out; omega))).trans HBL5.out).setCell (p := ⟨g0, t, none⟩) HLG.out _)⟩
                case measure => simp [intOf]; omega
              · have HREP : Hid (lateCol (l.take k) 0 t = lateCol (l.take (k + 1)) 0 t) := Lib.hid (by rw [HLS.out, HRB.out]; simp [hrep])
                have HW2 : Hid (wearD (a, b, c4, d4) (t + 1) = q + b) := Lib.hid (by rw [HW1.out, if_neg hrep])
                have HSK : Hid ((mixL (lateCol (l.take k) 0) (lateCol (l.take (k + 1)) 0) dn t) = (mixL (lateCol (l.take k) 0) (lateCol (l.take (k + 1)) 0) dn (t + 1))) := Lib.hid (mixL_skip hjt HREP.out)
                have HFIN := Lib.hid (box4_fin HBOX.out)
                clear HW1 HRB HLS
                go_wp2
                go_roundw
                case rel => exact ⟨t + 1, hs, by omega, by go_num, by rw [HW2.out], HBOX.out, by rw [← HSK.out]; exact HO.out, HFREE.out, HBI.out⟩
                case measure => simp [intOf]; omega
            · obtain rfl : t = dn := by omega
              have ho := HO.out
              rw [mixL_full] at ho
              have HOF := Lib.hid ho
              clear ho
              go_wp2
              go_roundw
              case rel => exact ⟨k + 1, hs, by omega, by go_num, HOF.out, HBI.out⟩
              case measure => simp [intOf]; omega
        · have e : l.take k = l := List.take_of_length_le (by rw [HX.out]; omega)
          have ho := HOO.out
          rw [e] at ho
          have HOF := Lib.hid ho
          clear ho
          go_wp2
          go_ret2
          subst hlo
          refine ⟨some ⟨g0, 0, none⟩, dn, hs0, ?_, ?_, HBO.out⟩
          · rw [HLL.out]; rfl
          · rw [HLL.out]; exact HOF.out
set_option maxHeartbeats 4000000 in
set_option maxRecDepth 100000 in
theorem law_FnExactLatePlan (w : World) {v0 v1 : Value} (h0 : IsRows4 w v0) (h1 : IsInt v1) :
    Calls Try.prog 8 #[v0, v1] w fun e w' => e = .returned (.bool true) ∧ Below w.heap.size w w' := by
  obtain ⟨A0, n0, c0, xs0, rfl, hnc0, hcm0, _, hr0, _⟩ := h0
  obtain ⟨a1, rfl, _⟩ := h1
  have HR0 := Lib.hid (hr0); clear hr0
  by_cases hz0 : n0 ≤ 1048576
  rotate_left
  · go_enter Try.func8, Try.ntmps8
    go_wp2_with fail
    refine (szGearS_bigI A0 n0 c0 _ _ (by omega) (by omega) (by omega) (by omega)).mono ?_
    rintro e w' ⟨rfl, rfl⟩
    go_wp2_with fail
    go_ret
    exact ⟨rfl, (Below.refl _ _)⟩
  obtain ⟨S0, hS0⟩ : ∃ S0, S0 = w := ⟨_, rfl⟩
  have HS0 := Lib.hid hS0
  have BW0 : Hid (Below w.heap.size w S0 ∧ w.heap.size ≤ S0.heap.size) := Lib.hid (by subst hS0; exact ⟨(Below.refl _ _), by simp; try omega⟩)
  rw [← hS0] at HR0
  clear hS0
  go_enter Try.func8, Try.ntmps8
  try rw [← HS0.out]
  go_wp2_with fail
  try rw [← HS0.out]
  refine (szGearS_okI A0 n0 c0 _ _ (by omega) (by omega) (by omega) (by omega)).mono ?_
  rintro e w' ⟨rfl, rfl⟩
  have BB0 : Hid (Below S0.heap.size S0 S0) := Lib.hid (Below.refl _ _)
  try rw [← HS0.out]
  go_wp2_with fail
  try rw [← HS0.out]
  refine (toGearS_any A0 n0 c0 xs0 S0 (by omega) (HR0.out.below BB0.out)).mono ?_
  rintro e w1 ⟨As0, cs0, rfl, hown, hb⟩
  have Os0_1 := Lib.hid hown; clear hown
  have Ls0 := Lib.hid (own_lt Os0_1.out)
  have B0 := Lib.hid hb; clear hb
  have Z0 := Lib.hid (B0.out.size)
  have BB1 := Lib.hid (BB0.out.trans (B0.out.mono BB0.out.size))
  go_wp2_with fail
  refine (specLatePlan_any As0 n0 cs0 xs0 a1 w1 (by omega) (Reads.of_own Os0_1.out)).mono ?_
  rintro e w2 ⟨Aw, cw, hsw, rfl, hown, hb⟩
  have Ow_2 := Lib.hid hown; clear hown
  have B1 := Lib.hid hb; clear hb
  have Z1 := Lib.hid (B1.out.size)
  have BB2 := Lib.hid (BB1.out.trans (B1.out.mono BB1.out.size))
  have Os0_2 := Lib.hid (own_below Os0_1.out B1.out)
  go_wp2_with fail
  refine (toGearS_any A0 n0 c0 xs0 w2 (by omega) (HR0.out.below BB2.out)).mono ?_
  rintro e w3 ⟨Ax0, cx0, rfl, hown, hb⟩
  have Ox0_3 := Lib.hid hown; clear hown
  have Lx0 := Lib.hid (own_lt Ox0_3.out)
  have B2 := Lib.hid hb; clear hb
  have Z2 := Lib.hid (B2.out.size)
  have BB3 := Lib.hid (BB2.out.trans (B2.out.mono BB2.out.size))
  have Ow_3 := Lib.hid (Ow_2.out.below B2.out (Nat.le_refl _))
  go_wp2_with fail
  refine (implLatePlan_any Ax0 n0 cx0 xs0 a1 w3 (by omega) (Reads.of_own Ox0_3.out)).mono ?_
  rintro e w4 ⟨Ag, cg, hsg, rfl, hown, hb⟩
  have Og_4 := Lib.hid hown; clear hown
  have B3 := Lib.hid hb; clear hb
  have Z3 := Lib.hid (B3.out.size)
  have BB4 := Lib.hid (BB3.out.trans (B3.out.mono BB3.out.size))
  have Ow_4 := Lib.hid (Ow_3.out.below B3.out (by have := Z2.out; omega))
  have Ox0_4 := Lib.hid (own_below Ox0_3.out B3.out)
  go_wp2_with fail
  refine (eqIntSS_any Ag Aw ((lateR xs0 a1).1).length cg cw (lateR xs0 a1).1 w4 (by (have := lateR_bd xs0 a1; have := lateR_tot xs0 a1; omega)) (fun x hx => by have := (lateR_bd xs0 a1).2 x hx; omega) (Reads2.of_own Og_4.out) (Reads2.of_own Ow_4.out)).mono ?_
  rintro e w5 ⟨rfl, hb⟩
  have B4 := Lib.hid hb; clear hb
  have Z4 := Lib.hid (B4.out.size)
  have BB5 := Lib.hid (BB4.out.trans (B4.out.mono BB4.out.size))
  have Ow_5 := Lib.hid (Ow_4.out.below B4.out (by have := Z2.out; have := Z3.out; omega))
  have Ox0_5 := Lib.hid (own_below Ox0_4.out B4.out)
  have Og_5 := Lib.hid (Og_4.out.below B4.out (Nat.le_refl _))
  go_wp2_with fail
  refine (toGearS_any A0 n0 c0 xs0 w5 (by omega) (HR0.out.below BB5.out)).mono ?_
  rintro e w6 ⟨At0, ct0, rfl, hown, hb⟩
  have Ot0_6 := Lib.hid hown; clear hown
  have Lt0 := Lib.hid (own_lt Ot0_6.out)
  have B5 := Lib.hid hb; clear hb
  have Z5 := Lib.hid (B5.out.size)
  have BB6 := Lib.hid (BB5.out.trans (B5.out.mono BB5.out.size))
  have Ow_6 := Lib.hid (Ow_5.out.below B5.out (by have := Z2.out; have := Z3.out; have := Z4.out; omega))
  have Ox0_6 := Lib.hid (own_below Ox0_5.out B5.out)
  have Og_6 := Lib.hid (Og_5.out.below B5.out (by have := Z4.out; omega))
  go_wp2_with fail
  refine (eqGearS_any Ax0 At0 n0 cx0 ct0 xs0 w6 (by omega)  (Reads.of_own Ox0_6.out) (Reads.of_own Ot0_6.out)).mono ?_
  rintro e w7 ⟨rfl, hb⟩
  have B6 := Lib.hid hb; clear hb
  have Z6 := Lib.hid (B6.out.size)
  have BB7 := Lib.hid (BB6.out.trans (B6.out.mono BB6.out.size))
  have Ow_7 := Lib.hid (Ow_6.out.below B6.out (by have := Z2.out; have := Z3.out; have := Z4.out; have := Z5.out; omega))
  have Ox0_7 := Lib.hid (own_below Ox0_6.out B6.out)
  have Og_7 := Lib.hid (Og_6.out.below B6.out (by have := Z4.out; have := Z5.out; omega))
  have Ot0_7 := Lib.hid (own_below Ot0_6.out B6.out)
  go_wp2_with fail
  refine (markGearS_any Ax0 n0 cx0 (1) _ _ w7 (by omega) Ox0_7.out).mono ?_
  rintro e w8 ⟨rfl, hown, hg⟩
  have hT := Turned.of_mark hg Ox0_7.out Lx0.out; clear hg
  have T7 := Lib.hid hT; clear hT
  have Ox0_8 := Lib.hid hown; clear hown
  have Z7 := Lib.hid T7.out.size
  have BB8 := Lib.hid (below_turned BB7.out T7.out (by have := Z0.out; have := Z1.out; omega) BB7.out.size)
  have Ow_8 := Lib.hid (Own2.turned_after Ow_7.out T7.out (by have := Z2.out; have := Z3.out; have := Z4.out; have := Z5.out; have := Z6.out; omega) (Nat.le_refl _))
  have Og_8 := Lib.hid (Own2.turned_before Og_7.out T7.out (by have := Z4.out; have := Z5.out; have := Z6.out; omega) (Nat.le_refl _))
  go_wp2_with fail
  refine (eqIntSS_any Ag Aw ((lateR xs0 a1).1).length cg cw (lateR xs0 a1).1 w8 (by (have := lateR_bd xs0 a1; have := lateR_tot xs0 a1; omega)) (fun x hx => by have := (lateR_bd xs0 a1).2 x hx; omega) (Reads2.of_own Og_8.out) (Reads2.of_own Ow_8.out)).mono ?_
  rintro e w9 ⟨rfl, hb⟩
  have B8 := Lib.hid hb; clear hb
  have Z8 := Lib.hid (B8.out.size)
  have BB9 := Lib.hid (BB8.out.trans (B8.out.mono BB8.out.size))
  have Ow_9 := Lib.hid (Ow_8.out.below B8.out (by have := Z2.out; have := Z3.out; have := Z4.out; have := Z5.out; have := Z6.out; have := Z7.out; omega))
  have Ox0_9 := Lib.hid (own_below Ox0_8.out B8.out)
  have Og_9 := Lib.hid (Og_8.out.below B8.out (by have := Z4.out; have := Z5.out; have := Z6.out; have := Z7.out; omega))
  go_wp2_with fail
  refine (markIntSS_any Ag ((lateR xs0 a1).1).length cg (1) w3.heap.size w4.heap.size ((lateR xs0 a1).1.map ints) hsg w9 (by (have := lateR_bd xs0 a1; have := lateR_tot xs0 a1; omega)) (by (have := lateR_bd xs0 a1; have := lateR_tot xs0 a1; omega)) (by have := Z4.out; have := Z5.out; have := Z6.out; have := Z7.out; have := Z8.out; omega) Og_9.out).mono ?_
  rintro e w10 ⟨rfl, hown, hT⟩
  have T9 := Lib.hid hT; clear hT
  have Og_10 := Lib.hid hown; clear hown
  have Z9 := Lib.hid T9.out.size
  have BB10 := Lib.hid (below_turned BB9.out T9.out (by have := Z0.out; have := Z1.out; have := Z2.out; omega) BB9.out.size)
  have Ow_10 := Lib.hid (Own2.turned_after Ow_9.out T9.out (by have := Z2.out; have := Z3.out; have := Z4.out; have := Z5.out; have := Z6.out; have := Z7.out; have := Z8.out; omega) (by have := Z2.out; omega))
  go_wp2_with fail
  refine (heldIntSS_any Ag ((lateR xs0 a1).1).length cg (1) ((lateR xs0 a1).1.map ints) w10 (by (have := lateR_bd xs0 a1; have := lateR_tot xs0 a1; omega)) (by (have := lateR_bd xs0 a1; have := lateR_tot xs0 a1; omega)) (Reads2.of_own Og_10.out)).mono ?_
  rintro e w11 ⟨rfl, hb⟩
  subst hb
  go_wp2_with fail
  refine (toGearS_any A0 n0 c0 xs0 w10 (by omega) (HR0.out.below BB10.out)).mono ?_
  rintro e w11 ⟨Ay0, cy0, rfl, hown, hb⟩
  have Oy0_11 := Lib.hid hown; clear hown
  have Ly0 := Lib.hid (own_lt Oy0_11.out)
  have B10 := Lib.hid hb; clear hb
  have Z10 := Lib.hid (B10.out.size)
  have BB11 := Lib.hid (BB10.out.trans (B10.out.mono BB10.out.size))
  have Ow_11 := Lib.hid (Ow_10.out.below B10.out (by have := Z2.out; have := Z3.out; have := Z4.out; have := Z5.out; have := Z6.out; have := Z7.out; have := Z8.out; have := Z9.out; omega))
  have Og_11 := Lib.hid (Og_10.out.below B10.out (by have := Z4.out; have := Z5.out; have := Z6.out; have := Z7.out; have := Z8.out; have := Z9.out; omega))
  go_wp2_with fail
  refine (implLatePlan_any Ay0 n0 cy0 xs0 a1 w11 (by omega) (Reads.of_own Oy0_11.out)).mono ?_
  rintro e w12 ⟨Ah, ch, hsh, rfl, hown, hb⟩
  have Oh_12 := Lib.hid hown; clear hown
  have B11 := Lib.hid hb; clear hb
  have Z11 := Lib.hid (B11.out.size)
  have BB12 := Lib.hid (BB11.out.trans (B11.out.mono BB11.out.size))
  have Ow_12 := Lib.hid (Ow_11.out.below B11.out (by have := Z2.out; have := Z3.out; have := Z4.out; have := Z5.out; have := Z6.out; have := Z7.out; have := Z8.out; have := Z9.out; have := Z10.out; omega))
  have Og_12 := Lib.hid (Og_11.out.below B11.out (by have := Z4.out; have := Z5.out; have := Z6.out; have := Z7.out; have := Z8.out; have := Z9.out; have := Z10.out; omega))
  have Oy0_12 := Lib.hid (own_below Oy0_11.out B11.out)
  go_wp2_with fail
  refine (eqIntSS_any Ah Aw ((lateR xs0 a1).1).length ch cw (lateR xs0 a1).1 w12 (by (have := lateR_bd xs0 a1; have := lateR_tot xs0 a1; omega)) (fun x hx => by have := (lateR_bd xs0 a1).2 x hx; omega) (Reads2.of_own Oh_12.out) (Reads2.of_own Ow_12.out)).mono ?_
  rintro e w13 ⟨rfl, hb⟩
  have B12 := Lib.hid hb; clear hb
  have Z12 := Lib.hid (B12.out.size)
  have BB13 := Lib.hid (BB12.out.trans (B12.out.mono BB12.out.size))
  have Ow_13 := Lib.hid (Ow_12.out.below B12.out (by have := Z2.out; have := Z3.out; have := Z4.out; have := Z5.out; have := Z6.out; have := Z7.out; have := Z8.out; have := Z9.out; have := Z10.out; have := Z11.out; omega))
  have Og_13 := Lib.hid (Og_12.out.below B12.out (by have := Z4.out; have := Z5.out; have := Z6.out; have := Z7.out; have := Z8.out; have := Z9.out; have := Z10.out; have := Z11.out; omega))
  have Oh_13 := Lib.hid (Oh_12.out.below B12.out (Nat.le_refl _))
  go_wp2_with fail
  refine (heldIntSS_any Ag ((lateR xs0 a1).1).length cg (1) ((lateR xs0 a1).1.map ints) w13 (by (have := lateR_bd xs0 a1; have := lateR_tot xs0 a1; omega)) (by (have := lateR_bd xs0 a1; have := lateR_tot xs0 a1; omega)) (Reads2.of_own Og_13.out)).mono ?_
  rintro e w14 ⟨rfl, hb⟩
  subst hb
  go_wp2_with fail
  go_ret
  first | exact ⟨rfl, BW0.out.1.trans (BB13.out.mono BW0.out.2)⟩ | exact ⟨rfl, BB13.out⟩

end Go.Proofs.Ytjibdabedagghaa
