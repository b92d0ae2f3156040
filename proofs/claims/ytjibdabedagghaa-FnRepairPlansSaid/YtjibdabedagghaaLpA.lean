/- Contract of the program's nextCosts. No conditions. -/
import Derived.Test.YtjibdabedagghaaLp9
import Derived.BigRegion
namespace Go.Proofs.Ytjibdabedagghaa
set_option linter.unusedSimpArgs false
set_option linter.unusedVariables false
open Go.RowKit Go.Maps

set_option maxHeartbeats 4000000 in
set_option maxRecDepth 100000 in
theorem nextCosts_any {H : Type} (A : Option Addr) (n c : Nat) (l : List G4) (trip : Int) (b m r : Nat) (D : DataW H) (V B M : Int) (w : World) (hn : n ≤ 3) (hgd : goodG l) (htr : 0 ≤ trip ∧ trip ≤ 1000) (hB : 0 ≤ B ∧ B ≤ 1000000) (hM : 0 ≤ M ∧ M ≤ 1000000) (hm : m ≤ 10000000000) (hl : l.length = n)
    (hown : w.ownsMap Try.prog 95 (plainElem Try.prog 3) b m D) (hsz : Maps.size D ≤ m) (hS : Sound l trip (r + 1) V B M D) (hT : Tight l trip (r + 1) V D) (h : Reads w 4 A n (rows4 l)) :
    Calls Try.prog 80 #[.slice A n c, .map (some b), .int .i64 trip] w fun e w' => ∃ D' : DataW H, e = .returned (.map (some w.heap.size)) ∧ w'.ownsMap Try.prog 95 (plainElem Try.prog 3) w.heap.size (8 * m) D' ∧ Sound l trip r V (B + 4000) (M + 100) D' ∧ Tight l trip r V D' ∧ Below w.heap.size w w' := by
  have hmm := @run_makeMap Try.prog
  have hbl := hown.lt
  have e1 : (w.alloc (.map #[] 0)).heap.size = w.heap.size + 1 := by simp
  have HOWN := Lib.hid hown; have HS := Lib.hid hS; have HT := Lib.hid hT; have H0 := Lib.hid h; have HGD := Lib.hid hgd; have HX := Lib.hid hl
  clear hown hS hT h hgd hl
  go_enter Try.func80, Try.ntmps80
  go_wp2_with (first
    | (at_range; refine wpList_range_own _ rfl _ 96 rfl 95 3 keyedK Try.underlying96 _ b m _ rfl (HOWN.out.alloc _) ?_; intro w0 hrg0 hg0 hs0)
    | go_in)
  go_frame
  rw [e1] at hrg0 hs0 ⊢
  obtain ⟨_, _, ⟨oa, ob, oc, rfl, ow, ohas, oat⟩, otight⟩ := HT.out
  rename_i ov
  have HOS := Lib.hid otight; have HOA := Lib.hid oat
  clear otight oat
  go_loopw [9] (fun _ wr => ∃ (left : Lit → Bool) (cnt mo : Nat) (Dout : DataW H), wr.ranges Try.prog 95 (plainElem Try.prog 3) b (w.heap.size + 1) m D left cnt ∧ cnt ≤ Maps.size D ∧ mo ≤ 8 * (Maps.size D - cnt) ∧
      wr.ownsMap Try.prog 95 (plainElem Try.prog 3) w.heap.size mo Dout ∧ Sound l trip r V (B + 4000) (M + 100) Dout ∧ (left (kL (oa, ob, oc)) = false → Tight l trip r V Dout) ∧ Below w.heap.size w wr)
    (fun _ wr => wr.rangeLeft b (w.heap.size + 1))
  case atStart =>
    exact ⟨_, _, 0, .map [], hrg0, Nat.le_refl _, Nat.zero_le _, (World.ownsMap_made _ _ _ _).kept hg0 (by simp), fun k v hk => (by obtain ⟨a, b, c, _, _, hh, _⟩ := hk; simp [Maps.has] at hh), fun hh => (by simp only [kL] at hh; rw [ohas] at hh; cases hh), ((Below.refl _ _).alloc (Nat.le_refl _) _).grown hg0 (by simp) (fun j hj => by cases hj)⟩
  case round =>
    obtain ⟨left, cnt, mo, Dout, hrg, hcs, hmo, hout, hso, hti, hb⟩ := hrel
    have HSO := Lib.hid hso; have HTI := Lib.hid hti; have HBW := Lib.hid hb; have HOUT := Lib.hid hout
    clear hso hti hb hout
    go_wp2_with (first
      | (at_next; refine wpList_next_ranges _ rfl _ rfl 95 keyedK (plainElem Try.prog 3) mkK (Value.int .i64) mkK_inv mkV_inv b (w.heap.size + 1) m _ _ _ rfl hrg ?_ ?_)
      | go_in)
    · intro hc0 hl0
      go_wp2
      go_ret
      exact ⟨Dout, rfl, HOUT.out.mono (by omega), HSO.out, HTI.out (hl0 _), HBW.out⟩
    · obtain ⟨wo, rfl⟩ : ∃ wo, wo = wr := ⟨_, rfl⟩
      intro xa xb xc cv kl yd yp w1 cnt1 hkey hlx hy hat hrg1 hlt hg1 hs1 hen
      obtain ⟨a', b', c', exk, rfl, wa, wb, wc⟩ := keyTri_inv hkey
      simp only [mkK] at exk hen
      simp at exk
      obtain ⟨rfl, rfl, rfl⟩ := exk
      obtain ⟨cv', ecv, hyd, wv⟩ := plainElem_int_inv Try.underlying3 hy
      injection ecv with _ ecv
      subst ecv
      have hat' : ∀ zd, D.atKey (kT xa xb xc) zd = .lit (.int .i64 cv) := fun zd => by rw [hat zd]; exact congrArg Prod.fst hyd
      have hsy : Says D [xa, xb, xc] cv := ⟨xa, xb, xc, rfl, ⟨wa, wb, wc⟩, has_of_at hat', hat'⟩
      obtain ⟨hxb, hcv0, hcv1, hsv⟩ := HS.out _ _ hsy
      have HSV := Lib.hid hsv; have HXB := Lib.hid hxb
      have HLK : Hid (kL (oa, ob, oc) = kL (xa, xb, xc) → cv + leastW l trip (r + 1) (k3 (xa, xb, xc)) = V) := Lib.hid (fun e => by
        obtain ⟨rfl, rfl, rfl⟩ := kT_inj ow.1 ow.2.1 ow.2.2 wa wb wc e
        have := says_fun hsy ⟨oa, ob, oc, rfl, ow, ohas, HOA.out⟩
        rw [this]
        exact HOS.out)
      clear hsy hat hat' hy hyd hkey ow ohas HOA HOS hxb hsv wa wb wc wv
      obtain ⟨P, hP⟩ : ∃ P : Nat, P = 2 ^ n := ⟨_, rfl⟩
      have hP8 : P ≤ 8 := by
        have h4 : n = 0 ∨ n = 1 ∨ n = 2 ∨ n = 3 := by omega
        rw [hP]
        rcases h4 with rfl | rfl | rfl | rfl <;> decide
      have hwp : wrap64 ((2 : Int) ^ n) = (P : Int) := by
        have e : (2 : Int) ^ n = (P : Int) := by rw [hP]; simp
        rw [e]
        exact IntWalk.wrap64_in _ (by omega)
      have HPP := Lib.hid hP
      clear hP
      have hn64 : (n : Int) ≤ 64 := by omega
      have hn0 : (0 : Int) ≤ (n : Int) := by omega
      have HSA : Hid (SetsAt H w w1 b m D left cnt cnt1 l trip r V (B + 4000) (M + 100) (oa, ob, oc) (xa, xb, xc) cv 0 mo Dout) := Lib.hid ⟨hrg1, by omega, HOUT.out.kept hg1 (by simp), HSO.out, fun hh => HTI.out (hh.elim id (fun h3 => by obtain ⟨_, s', h4, _⟩ := h3; omega)), HBW.out.grown hg1 HBW.out.size (fun j hj => by cases hj; exact Nat.le_succ _)⟩
      have HWO : Hid (w.heap.size < wo.heap.size) := Lib.hid (by have := hrg.lt; omega)
      have HCC : Hid (cnt1 < cnt ∧ cnt ≤ Maps.size D) := Lib.hid ⟨hlt, hcs⟩
      have HLE : Hid (cnt1 < wo.rangeLeft b (w.heap.size + 1) ∧ cnt1 ≤ Maps.size D) := Lib.hid ⟨by rw [hrg.left_eq]; exact hlt, by omega⟩
      obtain ⟨ws, hws⟩ : ∃ ws, ws = k3 (xa, xb, xc) := ⟨_, rfl⟩
      have HWS := Lib.hid hws
      clear hws hrg hcs hmo HSO HTI HBW HOUT hrg1 hlt hg1 hlx
      go_wp2
      clear hwp
      go_loopw [29] (fun i wr2 => ∃ (s mo2 : Nat) (Dout2 : DataW H), s ≤ P ∧ i = .int .i64 s ∧ SetsAt H w wr2 b m D left cnt cnt1 l trip r V (B + 4000) (M + 100) (oa, ob, oc) (xa, xb, xc) cv s mo2 Dout2 ∧
        wr2.heap[wo.heap.size]? = some (.cells #[.int .i64 xa, .int .i64 xb, .int .i64 xc] 95 (0, 0))) (fun i _ => P - (intOf i).toNat)
      case atStart => exact ⟨0, mo, Dout, Nat.zero_le _, rfl, HSA.out.far ((Below.refl _ _).alloc (Nat.le_refl _) _), by rw [← hs1]; exact heap_alloc_new w1 _⟩
      case round =>
        obtain ⟨wr2, rfl⟩ : ∃ wr2, wr2 = wr := ⟨_, rfl⟩
        obtain ⟨s, mo2, Dout2, hs, rfl, hsa, hkb⟩ := hrel
        have HSB := Lib.hid hsa; have HKB := Lib.hid hkb
        clear hsa HSA
        by_cases hlt2 : s < P
        · have z0 : wr2.cell? ⟨wo.heap.size, 0, none⟩ = some (Value.int .i64 xa) := by unfold World.cell?; simp [hkb]
          have z1 : wr2.cell? ⟨wo.heap.size, 1, none⟩ = some (Value.int .i64 xb) := by unfold World.cell?; simp [hkb]
          have z2 : wr2.cell? ⟨wo.heap.size, 2, none⟩ = some (Value.int .i64 xc) := by unfold World.cell?; simp [hkb]
          clear hkb
          by_cases hs0 : 0 < s
          · have HS0 := Lib.hid hs0
            go_wp2
            clear z0 z1 z2
            go_loopw [12, 13, 41] (fun t f i wr3 => ∃ k : Nat, ∃ q : Int, ∃ ff : Bool, k ≤ n ∧ i = .int .i64 k ∧ t = .int .i64 q ∧ f = .bool ff ∧ q + sumC (l.drop k) (s / 2 ^ k) = cv + setC l trip s ∧ (ff || failsW (l.drop k) (ws.drop k) (s / 2 ^ k)) = failsW l ws s ∧ 0 ≤ q ∧ q ≤ B + 1000 + 1000 * (k : Int) ∧
                wr3.heap[wr2.heap.size]? = some (.cells (ints (mixW l ws s k)).toArray 95 (0, 0)) ∧ Below wr2.heap.size wr2 wr3) (fun _ _ i _ => n - (intOf i).toNat)
            case atStart => exact ⟨0, cv + trip, false, Nat.zero_le _, rfl, rfl, rfl, by simp [setC, HS0.out]; try omega, by simp, by omega, by omega, by rw [mixW_zero, HWS.out]; exact heap_alloc_new wr2 _, (Below.refl _ _).alloc (Nat.le_refl _) _⟩
            case round =>
              obtain ⟨wr3, rfl⟩ : ∃ wr3, wr3 = wr := ⟨_, rfl⟩
              obtain ⟨k, q, ff, hk, rfl, rfl, rfl, hr1, hr2, hq0, hq1, hnow, hb3⟩ := hrel
              have HBZ : Hid (wr2.heap.size < wr3.heap.size) := Lib.hid (lt_of_box hnow)
              have HR1 := Lib.hid hr1; have HR2 := Lib.hid hr2; have HNOW := Lib.hid hnow; have HB3 := Lib.hid hb3
              clear hr1 hr2 hnow hb3
              have hbz : wr2.heap.size < wr3.heap.size := HBZ.out
              have HBX : Hid (Below w.heap.size w wr3) := Lib.hid (HSB.out.below.trans (HB3.out.mono HSB.out.below.size))
              by_cases hlt3 : k < n
              · have hxl : k < l.length := by rw [HX.out]; exact hlt3
                have hwl : ws.length = 3 := by rw [HWS.out]; rfl
                have hk3 : k < ws.length := by omega
                obtain ⟨ad, rfl, k0, k1, k2, k3'⟩ := rows4_at (H0.out.below HBX.out) hlt3 HX.out
                have hgk := HGD.out _ (List.getElem_mem hxl)
                have HMS := Lib.hid (mixW_set l ws s k hxl hk3)
                have HMX := Lib.hid (mixW_at l ws s k hk3)
                have HSU := Lib.hid (sum_at l s k hxl)
                have HFA := Lib.hid (fails_atW l ws s k hk3 hxl)
                have hxk : 0 ≤ ws[k] ∧ ws[k] ≤ M := HXB.out _ (by rw [show [xa, xb, xc] = ws from HWS.out.symm]; exact List.getElem_mem hk3)
                have c0 : wr3.cell? ⟨wr2.heap.size, k, none⟩ = some (Value.int .i64 ws[k]) := box_cell HNOW.out HMX.out
                have f0 : wr3.frozen? ⟨wr2.heap.size, k, none⟩ = false := box_frozen HNOW.out
                generalize ws[k] = xk at *
                generalize l[k] = gx at *
                obtain ⟨qa, qb, qc, qd⟩ := gx
                simp only at hgk k0 k1 k2 k3' HMS HSU HFA
                have hand0 := and_one (s / 2 ^ k) (Nat.le_trans (Nat.div_le_self _ _) (by omega))
                rw [show ((s / 2 ^ k : Nat) : Int) = (s : Int) / 2 ^ k from by simp] at hand0
                have hk0 : (0 : Int) ≤ (k : Int) := by omega
                have hk1 : (k : Int) < (n : Int) := by omega
                have hk64 : (k : Int) ≤ 64 := by omega
                have hk31 : (k : Int) < 3 := by omega
                by_cases hbit : s / 2 ^ k % 2 = 1
                · have hand : bits BinOp.and IntKind.i64 ((s : Int) / 2 ^ k) 1 = 1 := by rw [hand0, hbit]; rfl
                  clear hand0
                  have hXb : 0 ≤ qb ∧ qb ≤ M + 100 := by omega
                  have HSM : Hid ((mixW l ws s k).set k qb = mixW l ws s (k + 1)) := Lib.hid (HMS.out _ (by rw [if_pos hbit, Int.zero_add]))
                  have HS1 : Hid ((q + qd) + sumC (l.drop (k + 1)) (s / 2 ^ (k + 1)) = cv + setC l trip s) := Lib.hid (by
                    have h1 := HSU.out
                    rw [if_pos hbit] at h1
                    rw [← HR1.out, h1]
                    omega)
                  have HF1 : Hid ((ff || (decide (qc < qb) || failsW (l.drop (k + 1)) (ws.drop (k + 1)) (s / 2 ^ (k + 1)))) = failsW l ws s) := Lib.hid (by
                    have h1 := HFA.out
                    rw [if_pos hbit, Int.zero_add] at h1
                    rw [← HR2.out, h1])
                  have c1 : (wr3.alloc (.cells #[.int .i64 qa, .int .i64 qb, .int .i64 qc, .int .i64 qd] 26)).cell? ⟨wr2.heap.size, k, none⟩ = some (Value.int .i64 xk) := (World.cell?_alloc_lt _ _ _ hbz).trans c0
                  have f1 : (wr3.alloc (.cells #[.int .i64 qa, .int .i64 qb, .int .i64 qc, .int .i64 qd] 26)).frozen? ⟨wr2.heap.size, k, none⟩ = false := box_frozen (L := mixW l ws s k) (by rw [Below.heap_alloc _ _ _ hbz]; exact HNOW.out)
                  clear hbit
                  go_wp2
                  obtain ⟨wa, hwa⟩ : ∃ wa, wa = ((wr3.setCell ⟨wr2.heap.size, k, none⟩ (Value.int .i64 0)).alloc (.cells #[.int .i64 qa, .int .i64 qb, .int .i64 qc, .int .i64 qd] 26)) := ⟨_, rfl⟩
                  rw [← hwa]
                  have a1' : wa.cell? ⟨wr3.heap.size, 1, none⟩ = some (Value.int .i64 qb) := by rw [hwa]; exact new_cell1 (World.size_setCell _ _ _)
                  have a2' : wa.cell? ⟨wr3.heap.size, 2, none⟩ = some (Value.int .i64 qc) := by rw [hwa]; exact new_cell2 (World.size_setCell _ _ _)
                  have HNA : Hid (wa.heap[wr2.heap.size]? = some (.cells (ints ((mixW l ws s k).set k 0)).toArray 95 (0, 0))) := Lib.hid (by
                    rw [hwa]
                    rw [Below.heap_alloc _ _ _ (by first | exact hbz | (rw [World.size_setCell]; exact hbz))]
                    exact box_set HNOW.out)
                  have HBA : Hid (Below wr2.heap.size wr2 wa) := Lib.hid (by rw [hwa]; exact HB3.out.trans (((Below.refl _ _).setCell (p := ⟨wr2.heap.size, k, none⟩) (Nat.le_refl _) _).alloc (by rw [World.size_setCell]; exact HB3.out.size) _))
                  have HZA : Hid (wr2.heap.size < wr3.heap.size) := Lib.hid hbz
                  clear hwa c0 f0 c1 f1 k0 k1 k2 k3' hbz
                  have hcj : wa.cell? ⟨wr2.heap.size, k, none⟩ = some (Value.int .i64 0) := box_cell HNA.out (by rw [List.getElem?_set_self (by rw [length_mixW _ _ _ _ (Nat.le_of_lt hk3)]; exact hk3)])
                  have hfj : wa.frozen? ⟨wr2.heap.size, k, none⟩ = false := box_frozen HNA.out
                  have b1 := a1'
                  have b2 := a2'
                  clear a1' a2'
                  have hkt : ((k : Int)).toNat = k := by simp
                  have hw1 : IntKind.i64.wrap qb = qb := IntWalk.i64_in _ (by omega)
                  have hn3 := box_set (y := qb) (k := k) HNA.out
                  rw [List.set_set] at hn3
                  rw [HSM.out] at hn3
                  have HN3 := Lib.hid hn3
                  have HBS := Lib.hid (HBA.out.setCell (p := ⟨wr2.heap.size, k, none⟩) (Nat.le_refl _) (.int .i64 qb))
                  have hr1 : (wa.setCell ⟨wr2.heap.size, k, none⟩ (.int .i64 qb)).cell? ⟨wr2.heap.size, k, none⟩ = some (Value.int .i64 qb) := World.cell?_setCell_same' _ _ _ (by rw [hcj]; rfl)
                  have hr2 : (wa.setCell ⟨wr2.heap.size, k, none⟩ (.int .i64 qb)).cell? ⟨wr3.heap.size, 2, none⟩ = some (Value.int .i64 qc) := by rw [World.cell?_setCell_other _ _ _ _ (by have := HZA.out; simp; try omega)]; exact b2
                  clear hn3
                  go_region
                  generalize wa.setCell ⟨wr2.heap.size, k, none⟩ (.int .i64 qb) = wb at *
                  generalize hyv : qb = yv at *
                  have HYV := Lib.hid hyv
                  clear hcj hfj b1 b2 hw1 hyv
                  have HQB : Hid (0 ≤ (q + qd) ∧ (q + qd) ≤ B + 1000 + 1000 * ((k : Int) + 1)) := Lib.hid (by omega)
                  cases ff with
                  | true =>
                    go_wp2
                    go_quiet (fail)
                    go_wp2
                    go_roundw
                    case rel => exact ⟨k + 1, (q + qd), true, by omega, by go_num, rfl, rfl, HS1.out, (by have h1 := HF1.out; simpa using h1), HQB.out.1, HQB.out.2, HN3.out, below_toN HBS.out _⟩
                    case measure => simp [intOf]; omega
                  | false =>
                    go_wp2
                    go_quiet (fail)
                    go_wp2
                    go_roundw
                    case rel => exact ⟨k + 1, (q + qd), _, by omega, by go_num, rfl, rfl, HS1.out, (by have h1 := HF1.out; simpa using h1), HQB.out.1, HQB.out.2, HN3.out, below_toN HBS.out _⟩
                    case measure => simp [intOf]; omega
                · have hand : bits BinOp.and IntKind.i64 ((s : Int) / 2 ^ k) 1 = 0 := by rw [hand0, show s / 2 ^ k % 2 = 0 by omega]; rfl
                  clear hand0
                  have hXb : 0 ≤ (xk + qb) ∧ (xk + qb) ≤ M + 100 := by omega
                  have HSM : Hid ((mixW l ws s k).set k (xk + qb) = mixW l ws s (k + 1)) := Lib.hid (HMS.out _ (by rw [if_neg hbit]))
                  have HS1 : Hid (q + sumC (l.drop (k + 1)) (s / 2 ^ (k + 1)) = cv + setC l trip s) := Lib.hid (by
                    have h1 := HSU.out
                    rw [if_neg hbit] at h1
                    rw [← HR1.out, h1]
                    omega)
                  have HF1 : Hid ((ff || (decide (qc < (xk + qb)) || failsW (l.drop (k + 1)) (ws.drop (k + 1)) (s / 2 ^ (k + 1)))) = failsW l ws s) := Lib.hid (by
                    have h1 := HFA.out
                    rw [if_neg hbit] at h1
                    rw [← HR2.out, h1])
                  skip
                  clear hbit
                  go_wp2
                  obtain ⟨wa, hwa⟩ : ∃ wa, wa = (wr3.alloc (.cells #[.int .i64 qa, .int .i64 qb, .int .i64 qc, .int .i64 qd] 26)) := ⟨_, rfl⟩
                  rw [← hwa]
                  have a1' : wa.cell? ⟨wr3.heap.size, 1, none⟩ = some (Value.int .i64 qb) := by rw [hwa]; exact new_cell1 rfl
                  have a2' : wa.cell? ⟨wr3.heap.size, 2, none⟩ = some (Value.int .i64 qc) := by rw [hwa]; exact new_cell2 rfl
                  have HNA : Hid (wa.heap[wr2.heap.size]? = some (.cells (ints (mixW l ws s k)).toArray 95 (0, 0))) := Lib.hid (by
                    rw [hwa]
                    rw [Below.heap_alloc _ _ _ (by first | exact hbz | (rw [World.size_setCell]; exact hbz))]
                    exact HNOW.out)
                  have HBA : Hid (Below wr2.heap.size wr2 wa) := Lib.hid (by rw [hwa]; exact HB3.out.trans ((Below.refl _ _).alloc HB3.out.size _))
                  have HZA : Hid (wr2.heap.size < wr3.heap.size) := Lib.hid hbz
                  clear hwa c0 f0 k0 k1 k2 k3' hbz
                  have hcj : wa.cell? ⟨wr2.heap.size, k, none⟩ = some (Value.int .i64 xk) := box_cell HNA.out HMX.out
                  have hfj : wa.frozen? ⟨wr2.heap.size, k, none⟩ = false := box_frozen HNA.out
                  have b1 := a1'
                  have b2 := a2'
                  clear a1' a2'
                  have hkt : ((k : Int)).toNat = k := by simp
                  have hw1 : IntKind.i64.wrap (xk + qb) = (xk + qb) := IntWalk.i64_in _ (by omega)
                  have hn3 := box_set (y := (xk + qb)) (k := k) HNA.out
                  skip
                  rw [HSM.out] at hn3
                  have HN3 := Lib.hid hn3
                  have HBS := Lib.hid (HBA.out.setCell (p := ⟨wr2.heap.size, k, none⟩) (Nat.le_refl _) (.int .i64 (xk + qb)))
                  have hr1 : (wa.setCell ⟨wr2.heap.size, k, none⟩ (.int .i64 (xk + qb))).cell? ⟨wr2.heap.size, k, none⟩ = some (Value.int .i64 (xk + qb)) := World.cell?_setCell_same' _ _ _ (by rw [hcj]; rfl)
                  have hr2 : (wa.setCell ⟨wr2.heap.size, k, none⟩ (.int .i64 (xk + qb))).cell? ⟨wr3.heap.size, 2, none⟩ = some (Value.int .i64 qc) := by rw [World.cell?_setCell_other _ _ _ _ (by have := HZA.out; simp; try omega)]; exact b2
                  clear hn3
                  go_region
                  generalize wa.setCell ⟨wr2.heap.size, k, none⟩ (.int .i64 (xk + qb)) = wb at *
                  generalize hyv : (xk + qb) = yv at *
                  have HYV := Lib.hid hyv
                  clear hcj hfj b1 b2 hw1 hyv
                  have HQB : Hid (0 ≤ q ∧ q ≤ B + 1000 + 1000 * ((k : Int) + 1)) := Lib.hid (by omega)
                  cases ff with
                  | true =>
                    go_wp2
                    go_quiet (fail)
                    go_wp2
                    go_roundw
                    case rel => exact ⟨k + 1, q, true, by omega, by go_num, rfl, rfl, HS1.out, (by have h1 := HF1.out; simpa using h1), HQB.out.1, HQB.out.2, HN3.out, below_toN HBS.out _⟩
                    case measure => simp [intOf]; omega
                  | false =>
                    go_wp2
                    go_quiet (fail)
                    go_wp2
                    go_roundw
                    case rel => exact ⟨k + 1, q, _, by omega, by go_num, rfl, rfl, HS1.out, (by have h1 := HF1.out; simpa using h1), HQB.out.1, HQB.out.2, HN3.out, below_toN HBS.out _⟩
                    case measure => simp [intOf]; omega
              · obtain rfl : k = n := Nat.le_antisymm hk (Nat.le_of_not_lt hlt3)
                have HFF : Hid (ff = failsW l (k3 (xa, xb, xc)) s) := Lib.hid (by
                  have h1 := HR2.out
                  rw [show l.drop k = [] from List.drop_eq_nil_of_le (by rw [HX.out]; exact Nat.le_refl _)] at h1
                  rw [← HWS.out, ← h1]
                  simp [failsW])
                have HQQ : Hid (q = cv + setC l trip s) := Lib.hid (by
                  have h1 := HR1.out
                  rw [show l.drop k = [] from List.drop_eq_nil_of_le (by rw [HX.out]; exact Nat.le_refl _)] at h1
                  rw [← h1]
                  simp [sumC])
                obtain ⟨y, hy⟩ := step_three l (xa, xb, xc) s
                have HYY := Lib.hid hy
                have hyb : ∀ z ∈ k3 y, 0 ≤ z ∧ z ≤ M + 100 := by rw [← hy]; exact stepW_bd l _ s M HGD.out hM.1 HXB.out
                have HYB := Lib.hid hyb
                have hwf : (Lit.int .i64 y.1).wf = true ∧ (Lit.int .i64 y.2.1).wf = true ∧ (Lit.int .i64 y.2.2).wf = true := by
                  have h1 := hyb y.1 (by simp [k3])
                  have h2 := hyb y.2.1 (by simp [k3])
                  have h3 := hyb y.2.2 (by simp [k3])
                  exact ⟨wf_small (by omega), wf_small (by omega), wf_small (by omega)⟩
                have HWF := Lib.hid hwf
                have HN4 : Hid (wr3.heap[wr2.heap.size]? = some (.cells #[.int .i64 y.1, .int .i64 y.2.1, .int .i64 y.2.2] 95 (0, 0))) := Lib.hid (by
                  have h1 := HNOW.out
                  have h2 : mixW l ws s k = k3 y := by
                    have h3 := mixW_end l ws s (by rw [HX.out, HWS.out]; exact hn)
                    rw [HX.out] at h3
                    rw [h3, HWS.out, hy]
                  rw [h2] at h1
                  exact h1)
                have HS3 := Lib.hid (HSB.out.far HB3.out)
                have HK3 : Hid (wr3.heap[wo.heap.size]? = some (.cells #[.int .i64 xa, .int .i64 xb, .int .i64 xc] 95 (0, 0))) := Lib.hid (by rw [HB3.out.block _ (lt_of_box HKB.out)]; exact HKB.out)
                have hwq : (Lit.int .i64 q).wf = true := wf_small (by omega)
                have hqb : 0 ≤ q ∧ q ≤ B + 4000 := by omega
                have HQW := Lib.hid hwq
                have HQB := Lib.hid hqb
                have HVV : Hid (failsW l (k3 (xa, xb, xc)) s = false → V ≤ cv + setC l trip s + leastW l trip r (stepW l (k3 (xa, xb, xc)) s)) := Lib.hid (fun hf => way_sound HGD.out htr (by rw [HX.out, ← HPP.out]; exact hlt2) hf HSV.out)
                have hmo2 : mo2 < maxLen := by have h1 := HSB.out.hmo; unfold maxLen; omega
                have HMO2 := Lib.hid hmo2
                obtain ⟨y1, y2, y3⟩ := y
                have z0 : wr3.cell? ⟨wr2.heap.size, 0, none⟩ = some (Value.int .i64 y1) := by unfold World.cell?; simp [HN4.out]
                have z1 : wr3.cell? ⟨wr2.heap.size, 1, none⟩ = some (Value.int .i64 y2) := by unfold World.cell?; simp [HN4.out]
                have z2 : wr3.cell? ⟨wr2.heap.size, 2, none⟩ = some (Value.int .i64 y3) := by unfold World.cell?; simp [HN4.out]
                clear hwq hqb hmo2 hyb hwf hy HR1 HR2 hq0 hq1 hbz
                cases ff with
                | true =>
                  have HSK := Lib.hid (HS3.out.skip HFF.out.symm)
                  cases hhas : Maps.has Dout2 (kL (y1, y2, y3)) with
                  | true =>
                    go_wp2_with (first | (at_lookup; refine wpList_lookup_own_ok_int _ rfl _ _ 96 rfl 95 3 .i64 keyedK Try.underlying96 Try.underlying3 (zeroK _) w.heap.size mo2 Dout2 rfl HS3.out.own _ (kL (y1, y2, y3)) rfl (keyTri HWF.out.1 HWF.out.2.1 HWF.out.2.2) ?_; intro cL hat hwc; have HAT := Lib.hid hat; clear hat; rw [hhas]) | go_in)
                    go_roundw
                    case rel => exact ⟨s + 1, mo2, Dout2, hlt2, by go_num, HSK.out, HK3.out⟩
                    case measure => simp [intOf]; omega
                  | false =>
                    go_wp2_with (first | (at_lookup; refine wpList_lookup_own_ok_int _ rfl _ _ 96 rfl 95 3 .i64 keyedK Try.underlying96 Try.underlying3 (zeroK _) w.heap.size mo2 Dout2 rfl HS3.out.own _ (kL (y1, y2, y3)) rfl (keyTri HWF.out.1 HWF.out.2.1 HWF.out.2.2) ?_; intro cL hat hwc; have HAT := Lib.hid hat; clear hat; rw [hhas]) | go_in)
                    go_roundw
                    case rel => exact ⟨s + 1, mo2, Dout2, hlt2, by go_num, HSK.out, HK3.out⟩
                    case measure => simp [intOf]; omega
                | false =>
                  cases hhas : Maps.has Dout2 (kL (y1, y2, y3)) with
                  | false =>
                    go_wp2_with (first | (at_lookup; refine wpList_lookup_own_ok_int _ rfl _ _ 96 rfl 95 3 .i64 keyedK Try.underlying96 Try.underlying3 (zeroK _) w.heap.size mo2 Dout2 rfl HS3.out.own _ (kL (y1, y2, y3)) rfl (keyTri HWF.out.1 HWF.out.2.1 HWF.out.2.2) ?_; intro cL hat hwc; have HAT := Lib.hid hat; clear hat; rw [hhas]) | (at_mapUpdate; refine wpList_mapUpdate_own _ rfl _ _ _ 96 rfl 95 3 keyedK Try.underlying96 _ w.heap.size mo2 Dout2 rfl HS3.out.own HMO2.out _ _ (kL (y1, y2, y3)) rfl rfl (keyTri HWF.out.1 HWF.out.2.1 HWF.out.2.2) _ [] (plainElem_int Try.underlying3 HQW.out) ?_; intro w4 hown4 hg4; go_frame) | go_in)
                    have hp := HS3.out.put (y := (y1, y2, y3)) HYY.out HWF.out (by rw [← HQQ.out]; exact hown4) hg4 hbl HYB.out (by rw [← HQQ.out]; exact HQB.out) (HVV.out HFF.out.symm) (fun u hu => by rw [has_of_says hu] at hhas; cases hhas)
                    have hkb4 : w4.heap[wo.heap.size]? = some (.cells #[.int .i64 xa, .int .i64 xb, .int .i64 xc] 95 (0, 0)) := by
                      rw [hg4.block _ (lt_of_box HK3.out) (fun e => by have h1 := HWO.out; injection e with e; omega)]
                      exact HK3.out
                    go_roundw
                    case rel => exact ⟨s + 1, mo2 + 1, _, hlt2, by go_num, hp, hkb4⟩
                    case measure => simp [intOf]; omega
                  | true =>
                    go_wp2_with (first | (at_lookup; refine wpList_lookup_own_ok_int _ rfl _ _ 96 rfl 95 3 .i64 keyedK Try.underlying96 Try.underlying3 (zeroK _) w.heap.size mo2 Dout2 rfl HS3.out.own _ (kL (y1, y2, y3)) rfl (keyTri HWF.out.1 HWF.out.2.1 HWF.out.2.2) ?_; intro cL hat hwc; have HAT := Lib.hid hat; clear hat; rw [hhas]) | (at_mapUpdate; refine wpList_mapUpdate_own _ rfl _ _ _ 96 rfl 95 3 keyedK Try.underlying96 _ w.heap.size mo2 Dout2 rfl HS3.out.own HMO2.out _ _ (kL (y1, y2, y3)) rfl rfl (keyTri HWF.out.1 HWF.out.2.1 HWF.out.2.2) _ [] (plainElem_int Try.underlying3 HQW.out) ?_; intro w4 hown4 hg4; go_frame) | go_in)
                    · have hp := HS3.out.put (y := (y1, y2, y3)) HYY.out HWF.out (by rw [← HQQ.out]; exact hown4) hg4 hbl HYB.out (by rw [← HQQ.out]; exact HQB.out) (HVV.out HFF.out.symm) (fun u hu => by rw [says_fun hu (says_of HWF.out hhas HAT.out), ← HQQ.out]; assumption)
                      have hkb4 : w4.heap[wo.heap.size]? = some (.cells #[.int .i64 xa, .int .i64 xb, .int .i64 xc] 95 (0, 0)) := by
                        rw [hg4.block _ (lt_of_box HK3.out) (fun e => by have h1 := HWO.out; injection e with e; omega)]
                        exact HK3.out
                      go_roundw
                      case rel => exact ⟨s + 1, mo2 + 1, _, hlt2, by go_num, hp, hkb4⟩
                      case measure => simp [intOf]; omega
                    · have hk := HS3.out.keep (v := cL) (by rw [HYY.out]; exact says_of HWF.out hhas HAT.out) (by rw [← HQQ.out]; omega)
                      go_roundw
                      case rel => exact ⟨s + 1, mo2, Dout2, hlt2, by go_num, hk, HK3.out⟩
                      case measure => simp [intOf]; omega
          · have HS0 := Lib.hid hs0
            go_wp2
            clear z0 z1 z2
            go_loopw [12, 13, 41] (fun t f i wr3 => ∃ k : Nat, ∃ q : Int, ∃ ff : Bool, k ≤ n ∧ i = .int .i64 k ∧ t = .int .i64 q ∧ f = .bool ff ∧ q + sumC (l.drop k) (s / 2 ^ k) = cv + setC l trip s ∧ (ff || failsW (l.drop k) (ws.drop k) (s / 2 ^ k)) = failsW l ws s ∧ 0 ≤ q ∧ q ≤ B + 1000 + 1000 * (k : Int) ∧
                wr3.heap[wr2.heap.size]? = some (.cells (ints (mixW l ws s k)).toArray 95 (0, 0)) ∧ Below wr2.heap.size wr2 wr3) (fun _ _ i _ => n - (intOf i).toNat)
            case atStart => exact ⟨0, cv, false, Nat.zero_le _, rfl, rfl, rfl, by simp [setC, HS0.out]; try omega, by simp, by omega, by omega, by rw [mixW_zero, HWS.out]; exact heap_alloc_new wr2 _, (Below.refl _ _).alloc (Nat.le_refl _) _⟩
            case round =>
              obtain ⟨wr3, rfl⟩ : ∃ wr3, wr3 = wr := ⟨_, rfl⟩
              obtain ⟨k, q, ff, hk, rfl, rfl, rfl, hr1, hr2, hq0, hq1, hnow, hb3⟩ := hrel
              have HBZ : Hid (wr2.heap.size < wr3.heap.size) := Lib.hid (lt_of_box hnow)
              have HR1 := Lib.hid hr1; have HR2 := Lib.hid hr2; have HNOW := Lib.hid hnow; have HB3 := Lib.hid hb3
              clear hr1 hr2 hnow hb3
              have hbz : wr2.heap.size < wr3.heap.size := HBZ.out
              have HBX : Hid (Below w.heap.size w wr3) := Lib.hid (HSB.out.below.trans (HB3.out.mono HSB.out.below.size))
              by_cases hlt3 : k < n
              · have hxl : k < l.length := by rw [HX.out]; exact hlt3
                have hwl : ws.length = 3 := by rw [HWS.out]; rfl
                have hk3 : k < ws.length := by omega
                obtain ⟨ad, rfl, k0, k1, k2, k3'⟩ := rows4_at (H0.out.below HBX.out) hlt3 HX.out
                have hgk := HGD.out _ (List.getElem_mem hxl)
                have HMS := Lib.hid (mixW_set l ws s k hxl hk3)
                have HMX := Lib.hid (mixW_at l ws s k hk3)
                have HSU := Lib.hid (sum_at l s k hxl)
                have HFA := Lib.hid (fails_atW l ws s k hk3 hxl)
                have hxk : 0 ≤ ws[k] ∧ ws[k] ≤ M := HXB.out _ (by rw [show [xa, xb, xc] = ws from HWS.out.symm]; exact List.getElem_mem hk3)
                have c0 : wr3.cell? ⟨wr2.heap.size, k, none⟩ = some (Value.int .i64 ws[k]) := box_cell HNOW.out HMX.out
                have f0 : wr3.frozen? ⟨wr2.heap.size, k, none⟩ = false := box_frozen HNOW.out
                generalize ws[k] = xk at *
                generalize l[k] = gx at *
                obtain ⟨qa, qb, qc, qd⟩ := gx
                simp only at hgk k0 k1 k2 k3' HMS HSU HFA
                have hand0 := and_one (s / 2 ^ k) (Nat.le_trans (Nat.div_le_self _ _) (by omega))
                rw [show ((s / 2 ^ k : Nat) : Int) = (s : Int) / 2 ^ k from by simp] at hand0
                have hk0 : (0 : Int) ≤ (k : Int) := by omega
                have hk1 : (k : Int) < (n : Int) := by omega
                have hk64 : (k : Int) ≤ 64 := by omega
                have hk31 : (k : Int) < 3 := by omega
                by_cases hbit : s / 2 ^ k % 2 = 1
                · have hand : bits BinOp.and IntKind.i64 ((s : Int) / 2 ^ k) 1 = 1 := by rw [hand0, hbit]; rfl
                  clear hand0
                  have hXb : 0 ≤ qb ∧ qb ≤ M + 100 := by omega
                  have HSM : Hid ((mixW l ws s k).set k qb = mixW l ws s (k + 1)) := Lib.hid (HMS.out _ (by rw [if_pos hbit, Int.zero_add]))
                  have HS1 : Hid ((q + qd) + sumC (l.drop (k + 1)) (s / 2 ^ (k + 1)) = cv + setC l trip s) := Lib.hid (by
                    have h1 := HSU.out
                    rw [if_pos hbit] at h1
                    rw [← HR1.out, h1]
                    omega)
                  have HF1 : Hid ((ff || (decide (qc < qb) || failsW (l.drop (k + 1)) (ws.drop (k + 1)) (s / 2 ^ (k + 1)))) = failsW l ws s) := Lib.hid (by
                    have h1 := HFA.out
                    rw [if_pos hbit, Int.zero_add] at h1
                    rw [← HR2.out, h1])
                  have c1 : (wr3.alloc (.cells #[.int .i64 qa, .int .i64 qb, .int .i64 qc, .int .i64 qd] 26)).cell? ⟨wr2.heap.size, k, none⟩ = some (Value.int .i64 xk) := (World.cell?_alloc_lt _ _ _ hbz).trans c0
                  have f1 : (wr3.alloc (.cells #[.int .i64 qa, .int .i64 qb, .int .i64 qc, .int .i64 qd] 26)).frozen? ⟨wr2.heap.size, k, none⟩ = false := box_frozen (L := mixW l ws s k) (by rw [Below.heap_alloc _ _ _ hbz]; exact HNOW.out)
                  clear hbit
                  go_wp2
                  obtain ⟨wa, hwa⟩ : ∃ wa, wa = ((wr3.setCell ⟨wr2.heap.size, k, none⟩ (Value.int .i64 0)).alloc (.cells #[.int .i64 qa, .int .i64 qb, .int .i64 qc, .int .i64 qd] 26)) := ⟨_, rfl⟩
                  rw [← hwa]
                  have a1' : wa.cell? ⟨wr3.heap.size, 1, none⟩ = some (Value.int .i64 qb) := by rw [hwa]; exact new_cell1 (World.size_setCell _ _ _)
                  have a2' : wa.cell? ⟨wr3.heap.size, 2, none⟩ = some (Value.int .i64 qc) := by rw [hwa]; exact new_cell2 (World.size_setCell _ _ _)
                  have HNA : Hid (wa.heap[wr2.heap.size]? = some (.cells (ints ((mixW l ws s k).set k 0)).toArray 95 (0, 0))) := Lib.hid (by
                    rw [hwa]
                    rw [Below.heap_alloc _ _ _ (by first | exact hbz | (rw [World.size_setCell]; exact hbz))]
                    exact box_set HNOW.out)
                  have HBA : Hid (Below wr2.heap.size wr2 wa) := Lib.hid (by rw [hwa]; exact HB3.out.trans (((Below.refl _ _).setCell (p := ⟨wr2.heap.size, k, none⟩) (Nat.le_refl _) _).alloc (by rw [World.size_setCell]; exact HB3.out.size) _))
                  have HZA : Hid (wr2.heap.size < wr3.heap.size) := Lib.hid hbz
                  clear hwa c0 f0 c1 f1 k0 k1 k2 k3' hbz
                  have hcj : wa.cell? ⟨wr2.heap.size, k, none⟩ = some (Value.int .i64 0) := box_cell HNA.out (by rw [List.getElem?_set_self (by rw [length_mixW _ _ _ _ (Nat.le_of_lt hk3)]; exact hk3)])
                  have hfj : wa.frozen? ⟨wr2.heap.size, k, none⟩ = false := box_frozen HNA.out
                  have b1 := a1'
                  have b2 := a2'
                  clear a1' a2'
                  have hkt : ((k : Int)).toNat = k := by simp
                  have hw1 : IntKind.i64.wrap qb = qb := IntWalk.i64_in _ (by omega)
                  have hn3 := box_set (y := qb) (k := k) HNA.out
                  rw [List.set_set] at hn3
                  rw [HSM.out] at hn3
                  have HN3 := Lib.hid hn3
                  have HBS := Lib.hid (HBA.out.setCell (p := ⟨wr2.heap.size, k, none⟩) (Nat.le_refl _) (.int .i64 qb))
                  have hr1 : (wa.setCell ⟨wr2.heap.size, k, none⟩ (.int .i64 qb)).cell? ⟨wr2.heap.size, k, none⟩ = some (Value.int .i64 qb) := World.cell?_setCell_same' _ _ _ (by rw [hcj]; rfl)
                  have hr2 : (wa.setCell ⟨wr2.heap.size, k, none⟩ (.int .i64 qb)).cell? ⟨wr3.heap.size, 2, none⟩ = some (Value.int .i64 qc) := by rw [World.cell?_setCell_other _ _ _ _ (by have := HZA.out; simp; try omega)]; exact b2
                  clear hn3
                  go_region
                  generalize wa.setCell ⟨wr2.heap.size, k, none⟩ (.int .i64 qb) = wb at *
                  generalize hyv : qb = yv at *
                  have HYV := Lib.hid hyv
                  clear hcj hfj b1 b2 hw1 hyv
                  have HQB : Hid (0 ≤ (q + qd) ∧ (q + qd) ≤ B + 1000 + 1000 * ((k : Int) + 1)) := Lib.hid (by omega)
                  cases ff with
                  | true =>
                    go_wp2
                    go_quiet (fail)
                    go_wp2
                    go_roundw
                    case rel => exact ⟨k + 1, (q + qd), true, by omega, by go_num, rfl, rfl, HS1.out, (by have h1 := HF1.out; simpa using h1), HQB.out.1, HQB.out.2, HN3.out, below_toN HBS.out _⟩
                    case measure => simp [intOf]; omega
                  | false =>
                    go_wp2
                    go_quiet (fail)
                    go_wp2
                    go_roundw
                    case rel => exact ⟨k + 1, (q + qd), _, by omega, by go_num, rfl, rfl, HS1.out, (by have h1 := HF1.out; simpa using h1), HQB.out.1, HQB.out.2, HN3.out, below_toN HBS.out _⟩
                    case measure => simp [intOf]; omega
                · have hand : bits BinOp.and IntKind.i64 ((s : Int) / 2 ^ k) 1 = 0 := by rw [hand0, show s / 2 ^ k % 2 = 0 by omega]; rfl
                  clear hand0
                  have hXb : 0 ≤ (xk + qb) ∧ (xk + qb) ≤ M + 100 := by omega
                  have HSM : Hid ((mixW l ws s k).set k (xk + qb) = mixW l ws s (k + 1)) := Lib.hid (HMS.out _ (by rw [if_neg hbit]))
                  have HS1 : Hid (q + sumC (l.drop (k + 1)) (s / 2 ^ (k + 1)) = cv + setC l trip s) := Lib.hid (by
                    have h1 := HSU.out
                    rw [if_neg hbit] at h1
                    rw [← HR1.out, h1]
                    omega)
                  have HF1 : Hid ((ff || (decide (qc < (xk + qb)) || failsW (l.drop (k + 1)) (ws.drop (k + 1)) (s / 2 ^ (k + 1)))) = failsW l ws s) := Lib.hid (by
                    have h1 := HFA.out
                    rw [if_neg hbit] at h1
                    rw [← HR2.out, h1])
                  skip
                  clear hbit
                  go_wp2
                  obtain ⟨wa, hwa⟩ : ∃ wa, wa = (wr3.alloc (.cells #[.int .i64 qa, .int .i64 qb, .int .i64 qc, .int .i64 qd] 26)) := ⟨_, rfl⟩
                  rw [← hwa]
                  have a1' : wa.cell? ⟨wr3.heap.size, 1, none⟩ = some (Value.int .i64 qb) := by rw [hwa]; exact new_cell1 rfl
                  have a2' : wa.cell? ⟨wr3.heap.size, 2, none⟩ = some (Value.int .i64 qc) := by rw [hwa]; exact new_cell2 rfl
                  have HNA : Hid (wa.heap[wr2.heap.size]? = some (.cells (ints (mixW l ws s k)).toArray 95 (0, 0))) := Lib.hid (by
                    rw [hwa]
                    rw [Below.heap_alloc _ _ _ (by first | exact hbz | (rw [World.size_setCell]; exact hbz))]
                    exact HNOW.out)
                  have HBA : Hid (Below wr2.heap.size wr2 wa) := Lib.hid (by rw [hwa]; exact HB3.out.trans ((Below.refl _ _).alloc HB3.out.size _))
                  have HZA : Hid (wr2.heap.size < wr3.heap.size) := Lib.hid hbz
                  clear hwa c0 f0 k0 k1 k2 k3' hbz
                  have hcj : wa.cell? ⟨wr2.heap.size, k, none⟩ = some (Value.int .i64 xk) := box_cell HNA.out HMX.out
                  have hfj : wa.frozen? ⟨wr2.heap.size, k, none⟩ = false := box_frozen HNA.out
                  have b1 := a1'
                  have b2 := a2'
                  clear a1' a2'
                  have hkt : ((k : Int)).toNat = k := by simp
                  have hw1 : IntKind.i64.wrap (xk + qb) = (xk + qb) := IntWalk.i64_in _ (by omega)
                  have hn3 := box_set (y := (xk + qb)) (k := k) HNA.out
                  skip
                  rw [HSM.out] at hn3
                  have HN3 := Lib.hid hn3
                  have HBS := Lib.hid (HBA.out.setCell (p := ⟨wr2.heap.size, k, none⟩) (Nat.le_refl _) (.int .i64 (xk + qb)))
                  have hr1 : (wa.setCell ⟨wr2.heap.size, k, none⟩ (.int .i64 (xk + qb))).cell? ⟨wr2.heap.size, k, none⟩ = some (Value.int .i64 (xk + qb)) := World.cell?_setCell_same' _ _ _ (by rw [hcj]; rfl)
                  have hr2 : (wa.setCell ⟨wr2.heap.size, k, none⟩ (.int .i64 (xk + qb))).cell? ⟨wr3.heap.size, 2, none⟩ = some (Value.int .i64 qc) := by rw [World.cell?_setCell_other _ _ _ _ (by have := HZA.out; simp; try omega)]; exact b2
                  clear hn3
                  go_region
                  generalize wa.setCell ⟨wr2.heap.size, k, none⟩ (.int .i64 (xk + qb)) = wb at *
                  generalize hyv : (xk + qb) = yv at *
                  have HYV := Lib.hid hyv
                  clear hcj hfj b1 b2 hw1 hyv
                  have HQB : Hid (0 ≤ q ∧ q ≤ B + 1000 + 1000 * ((k : Int) + 1)) := Lib.hid (by omega)
                  cases ff with
                  | true =>
                    go_wp2
                    go_quiet (fail)
                    go_wp2
                    go_roundw
                    case rel => exact ⟨k + 1, q, true, by omega, by go_num, rfl, rfl, HS1.out, (by have h1 := HF1.out; simpa using h1), HQB.out.1, HQB.out.2, HN3.out, below_toN HBS.out _⟩
                    case measure => simp [intOf]; omega
                  | false =>
                    go_wp2
                    go_quiet (fail)
                    go_wp2
                    go_roundw
                    case rel => exact ⟨k + 1, q, _, by omega, by go_num, rfl, rfl, HS1.out, (by have h1 := HF1.out; simpa using h1), HQB.out.1, HQB.out.2, HN3.out, below_toN HBS.out _⟩
                    case measure => simp [intOf]; omega
              · obtain rfl : k = n := Nat.le_antisymm hk (Nat.le_of_not_lt hlt3)
                have HFF : Hid (ff = failsW l (k3 (xa, xb, xc)) s) := Lib.hid (by
                  have h1 := HR2.out
                  rw [show l.drop k = [] from List.drop_eq_nil_of_le (by rw [HX.out]; exact Nat.le_refl _)] at h1
                  rw [← HWS.out, ← h1]
                  simp [failsW])
                have HQQ : Hid (q = cv + setC l trip s) := Lib.hid (by
                  have h1 := HR1.out
                  rw [show l.drop k = [] from List.drop_eq_nil_of_le (by rw [HX.out]; exact Nat.le_refl _)] at h1
                  rw [← h1]
                  simp [sumC])
                obtain ⟨y, hy⟩ := step_three l (xa, xb, xc) s
                have HYY := Lib.hid hy
                have hyb : ∀ z ∈ k3 y, 0 ≤ z ∧ z ≤ M + 100 := by rw [← hy]; exact stepW_bd l _ s M HGD.out hM.1 HXB.out
                have HYB := Lib.hid hyb
                have hwf : (Lit.int .i64 y.1).wf = true ∧ (Lit.int .i64 y.2.1).wf = true ∧ (Lit.int .i64 y.2.2).wf = true := by
                  have h1 := hyb y.1 (by simp [k3])
                  have h2 := hyb y.2.1 (by simp [k3])
                  have h3 := hyb y.2.2 (by simp [k3])
                  exact ⟨wf_small (by omega), wf_small (by omega), wf_small (by omega)⟩
                have HWF := Lib.hid hwf
                have HN4 : Hid (wr3.heap[wr2.heap.size]? = some (.cells #[.int .i64 y.1, .int .i64 y.2.1, .int .i64 y.2.2] 95 (0, 0))) := Lib.hid (by
                  have h1 := HNOW.out
                  have h2 : mixW l ws s k = k3 y := by
                    have h3 := mixW_end l ws s (by rw [HX.out, HWS.out]; exact hn)
                    rw [HX.out] at h3
                    rw [h3, HWS.out, hy]
                  rw [h2] at h1
                  exact h1)
                have HS3 := Lib.hid (HSB.out.far HB3.out)
                have HK3 : Hid (wr3.heap[wo.heap.size]? = some (.cells #[.int .i64 xa, .int .i64 xb, .int .i64 xc] 95 (0, 0))) := Lib.hid (by rw [HB3.out.block _ (lt_of_box HKB.out)]; exact HKB.out)
                have hwq : (Lit.int .i64 q).wf = true := wf_small (by omega)
                have hqb : 0 ≤ q ∧ q ≤ B + 4000 := by omega
                have HQW := Lib.hid hwq
                have HQB := Lib.hid hqb
                have HVV : Hid (failsW l (k3 (xa, xb, xc)) s = false → V ≤ cv + setC l trip s + leastW l trip r (stepW l (k3 (xa, xb, xc)) s)) := Lib.hid (fun hf => way_sound HGD.out htr (by rw [HX.out, ← HPP.out]; exact hlt2) hf HSV.out)
                have hmo2 : mo2 < maxLen := by have h1 := HSB.out.hmo; unfold maxLen; omega
                have HMO2 := Lib.hid hmo2
                obtain ⟨y1, y2, y3⟩ := y
                have z0 : wr3.cell? ⟨wr2.heap.size, 0, none⟩ = some (Value.int .i64 y1) := by unfold World.cell?; simp [HN4.out]
                have z1 : wr3.cell? ⟨wr2.heap.size, 1, none⟩ = some (Value.int .i64 y2) := by unfold World.cell?; simp [HN4.out]
                have z2 : wr3.cell? ⟨wr2.heap.size, 2, none⟩ = some (Value.int .i64 y3) := by unfold World.cell?; simp [HN4.out]
                clear hwq hqb hmo2 hyb hwf hy HR1 HR2 hq0 hq1 hbz
                cases ff with
                | true =>
                  have HSK := Lib.hid (HS3.out.skip HFF.out.symm)
                  cases hhas : Maps.has Dout2 (kL (y1, y2, y3)) with
                  | true =>
                    go_wp2_with (first | (at_lookup; refine wpList_lookup_own_ok_int _ rfl _ _ 96 rfl 95 3 .i64 keyedK Try.underlying96 Try.underlying3 (zeroK _) w.heap.size mo2 Dout2 rfl HS3.out.own _ (kL (y1, y2, y3)) rfl (keyTri HWF.out.1 HWF.out.2.1 HWF.out.2.2) ?_; intro cL hat hwc; have HAT := Lib.hid hat; clear hat; rw [hhas]) | go_in)
                    go_roundw
                    case rel => exact ⟨s + 1, mo2, Dout2, hlt2, by go_num, HSK.out, HK3.out⟩
                    case measure => simp [intOf]; omega
                  | false =>
                    go_wp2_with (first | (at_lookup; refine wpList_lookup_own_ok_int _ rfl _ _ 96 rfl 95 3 .i64 keyedK Try.underlying96 Try.underlying3 (zeroK _) w.heap.size mo2 Dout2 rfl HS3.out.own _ (kL (y1, y2, y3)) rfl (keyTri HWF.out.1 HWF.out.2.1 HWF.out.2.2) ?_; intro cL hat hwc; have HAT := Lib.hid hat; clear hat; rw [hhas]) | go_in)
                    go_roundw
                    case rel => exact ⟨s + 1, mo2, Dout2, hlt2, by go_num, HSK.out, HK3.out⟩
                    case measure => simp [intOf]; omega
                | false =>
                  cases hhas : Maps.has Dout2 (kL (y1, y2, y3)) with
                  | false =>
                    go_wp2_with (first | (at_lookup; refine wpList_lookup_own_ok_int _ rfl _ _ 96 rfl 95 3 .i64 keyedK Try.underlying96 Try.underlying3 (zeroK _) w.heap.size mo2 Dout2 rfl HS3.out.own _ (kL (y1, y2, y3)) rfl (keyTri HWF.out.1 HWF.out.2.1 HWF.out.2.2) ?_; intro cL hat hwc; have HAT := Lib.hid hat; clear hat; rw [hhas]) | (at_mapUpdate; refine wpList_mapUpdate_own _ rfl _ _ _ 96 rfl 95 3 keyedK Try.underlying96 _ w.heap.size mo2 Dout2 rfl HS3.out.own HMO2.out _ _ (kL (y1, y2, y3)) rfl rfl (keyTri HWF.out.1 HWF.out.2.1 HWF.out.2.2) _ [] (plainElem_int Try.underlying3 HQW.out) ?_; intro w4 hown4 hg4; go_frame) | go_in)
                    have hp := HS3.out.put (y := (y1, y2, y3)) HYY.out HWF.out (by rw [← HQQ.out]; exact hown4) hg4 hbl HYB.out (by rw [← HQQ.out]; exact HQB.out) (HVV.out HFF.out.symm) (fun u hu => by rw [has_of_says hu] at hhas; cases hhas)
                    have hkb4 : w4.heap[wo.heap.size]? = some (.cells #[.int .i64 xa, .int .i64 xb, .int .i64 xc] 95 (0, 0)) := by
                      rw [hg4.block _ (lt_of_box HK3.out) (fun e => by have h1 := HWO.out; injection e with e; omega)]
                      exact HK3.out
                    go_roundw
                    case rel => exact ⟨s + 1, mo2 + 1, _, hlt2, by go_num, hp, hkb4⟩
                    case measure => simp [intOf]; omega
                  | true =>
                    go_wp2_with (first | (at_lookup; refine wpList_lookup_own_ok_int _ rfl _ _ 96 rfl 95 3 .i64 keyedK Try.underlying96 Try.underlying3 (zeroK _) w.heap.size mo2 Dout2 rfl HS3.out.own _ (kL (y1, y2, y3)) rfl (keyTri HWF.out.1 HWF.out.2.1 HWF.out.2.2) ?_; intro cL hat hwc; have HAT := Lib.hid hat; clear hat; rw [hhas]) | (at_mapUpdate; refine wpList_mapUpdate_own _ rfl _ _ _ 96 rfl 95 3 keyedK Try.underlying96 _ w.heap.size mo2 Dout2 rfl HS3.out.own HMO2.out _ _ (kL (y1, y2, y3)) rfl rfl (keyTri HWF.out.1 HWF.out.2.1 HWF.out.2.2) _ [] (plainElem_int Try.underlying3 HQW.out) ?_; intro w4 hown4 hg4; go_frame) | go_in)
                    · have hp := HS3.out.put (y := (y1, y2, y3)) HYY.out HWF.out (by rw [← HQQ.out]; exact hown4) hg4 hbl HYB.out (by rw [← HQQ.out]; exact HQB.out) (HVV.out HFF.out.symm) (fun u hu => by rw [says_fun hu (says_of HWF.out hhas HAT.out), ← HQQ.out]; assumption)
                      have hkb4 : w4.heap[wo.heap.size]? = some (.cells #[.int .i64 xa, .int .i64 xb, .int .i64 xc] 95 (0, 0)) := by
                        rw [hg4.block _ (lt_of_box HK3.out) (fun e => by have h1 := HWO.out; injection e with e; omega)]
                        exact HK3.out
                      go_roundw
                      case rel => exact ⟨s + 1, mo2 + 1, _, hlt2, by go_num, hp, hkb4⟩
                      case measure => simp [intOf]; omega
                    · have hk := HS3.out.keep (v := cL) (by rw [HYY.out]; exact says_of HWF.out hhas HAT.out) (by rw [← HQQ.out]; omega)
                      go_roundw
                      case rel => exact ⟨s + 1, mo2, Dout2, hlt2, by go_num, hk, HK3.out⟩
                      case measure => simp [intOf]; omega
        · clear hkb
          have HSP : Hid (s = P) := Lib.hid (Nat.le_antisymm hs (Nat.le_of_not_lt hlt2))
          have HTE : Hid ((left (kL (oa, ob, oc)) && !(kL (oa, ob, oc)).sameKey (kL (xa, xb, xc))) = false → Tight l trip r V Dout2) := Lib.hid (by
            have hle : 2 ^ l.length ≤ s := by rw [HX.out, ← HPP.out, HSP.out]; exact Nat.le_refl _
            have h1 := SetsAt.done HSB.out HGD.out htr hle HLK.out
            exact h1)
          have HMO : Hid (mo2 ≤ 8 * (Maps.size D - cnt1)) := Lib.hid (by have h1 := HSB.out.hmo; have h2 := HLE.out; have h3 := HCC.out; omega)
          go_wp2
          go_roundw
          case rel => exact ⟨_, cnt1, mo2, Dout2, HSB.out.rg, HLE.out.2, HMO.out, HSB.out.own, HSB.out.sound, HTE.out, HSB.out.below⟩
          case measure => rw [HSB.out.rg.left_eq]; exact HLE.out.1

end Go.Proofs.Ytjibdabedagghaa
