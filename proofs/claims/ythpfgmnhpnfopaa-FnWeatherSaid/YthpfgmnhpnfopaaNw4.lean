/- The spec's drawing of a net that may be none. No conditions. -/
import Derived.Test.YthpfgmnhpnfopaaNw3
import Derived.Test.YthpfgmnhpnfopaaNw2
namespace Go.Proofs.Ythpfgmnhpnfopaa
set_option linter.unusedSimpArgs false
set_option linter.unusedVariables false
open Go.RowKit


set_option maxHeartbeats 8000000 in
set_option maxRecDepth 100000 in
theorem anyNet_any (g k : Nat) (w : World) (hk : k ≤ 1000000) (h : Cur w g k) :
    Calls Try.prog 110 #[.pointer (some ⟨g, 0, none⟩)] w fun e w' => ∃ At ct T Ak ck K, e = .returned (.agg #[.slice At (List.length T) ct, .slice Ak (List.length K) ck]) ∧ T.length ≤ 17 ∧ K.length ≤ 41 ∧ w'.ownsRow (w.heap.size + 1) 121 3 (.slice At T.length ct) T.length (rows3 T) ∧ w'.ownsRow (w.heap.size + 1) 123 3 (.slice Ak K.length ck) K.length (rows3 K) ∧ Cur w' g (k + 4100) ∧ Drew g w w' := by
  have HGW : Hid (g < w.heap.size) := Lib.hid h.lt
  have HC0 : Hid (Cur (w.alloc (.cells #[.slice none 0 0, .slice none 0 0] 68)) g k) := Lib.hid (h.below ((Below.refl _ _).alloc (Nat.le_refl _) _))
  clear h
  go_enter Try.func110, Try.ntmps110
  go_wp2_with fail
  refine (net_any g k _ (by omega) HC0.out).mono ?_
  rintro e wn ⟨At, ct, T, Ak, ck, K, rfl, ⟨hT1, hT16⟩, hK40, hoT, hoK, hap, hc, hd⟩
  have HWN : Hid (w.heap.size + 1 ≤ wn.heap.size) := Lib.hid (by have := hd.size; simp at this; omega)
  have HB1 : Hid (Below wn.heap.size wn (wn.alloc (.cells #[.slice At T.length ct, .slice Ak K.length ck] 68))) := Lib.hid ((Below.refl _ _).alloc (Nat.le_refl _) _)
  have HR : Hid (wn.heap[w.heap.size]? = some (.cells #[.slice none 0 0, .slice none 0 0] 68)) := Lib.hid ((hd.block _ (by simp) (by have := HGW.out; omega)).trans (heap_alloc_new w _))
  have HN := Lib.hid (show NBox w (wn.alloc (.cells #[.slice At T.length ct, .slice Ak K.length ck] 68)) g wn.heap.size (k + 4000) At ct T Ak ck K from
    ⟨heap_alloc_new wn _, by rw [heap_alloc_old wn _ (by have := HWN.out; omega)]; exact HR.out, own_below (own_mono hoT (by simp)) HB1.out, own_below (own_mono hoK (by simp)) HB1.out, (fun e => by have := (hoT.lt _ e).2; omega), (fun e => by have := (hoK.lt _ e).2; omega), hap, hc.below HB1.out, HGW.out, by have := HWN.out; omega, (Drew.of_below ((Below.refl _ _).alloc (Nat.le_refl _) _)).trans (hd.trans (Drew.of_below HB1.out))⟩)
  clear hoT hoK hap hc hd HC0 HR HB1
  go_upto_region 2 with fail
  generalize hb : wn.heap.size = b at *
  generalize hwb : wn.alloc (.cells #[.slice At T.length ct, .slice Ak K.length ck] 68) = wb at *
  clear hwb
  obtain ⟨ga, rfl, hga⟩ := own3_net HN.out.ownT (by omega)
  have HND := Lib.hid (HN.out.tick 1)
  have k0 := HND.out.cells.1.1
  go_region_held3 (fun W => W.cell? ⟨b, 0, none⟩ = some (.slice (some ⟨ga, 0, none⟩) T.length ct)) (first | assumption | fail) (first | (go_at_call 107; refine (pick_any g _ (T.length : Int) _ (by omega) (by omega) HND.out.cur).mono ?_; rintro e wa ⟨x, rfl, hx, hx', hc, hd⟩; have HNA := Lib.hid (HND.out.drew hd hc); have hxl : x < T.length := (by omega); have hx0 : (0 : Int) ≤ (x : Int) := (by omega); clear hc hd; have k0A := HNA.out.cells.1.1) | fail)
  clear HN HND k0 k0A
  go_wp2_with fail
  refine (pick_any g _ 36 _ (by omega) (by omega) HNA.out.cur).mono ?_
  rintro e w1 ⟨z, rfl, hz, hz', hc, hd⟩
  have HNB := Lib.hid ((HNA.out.drew hd hc).more (k' := k + 4004) (by omega))
  clear hc hd HNA hx hx' hz hz'
  go_upto_block 0 with fail
  go_cut [] from 5 to 162 (fun wx => ∃ At ct T Ak ck K, NBox w wx g b (k + 4050) At ct T Ak ck K ∧ List.length T ≤ 17 ∧ List.length K ≤ 41)
  case first =>
    by_cases hz0 : z = 0
    · subst hz0
      go_wp2_with fail
      refine (amongLit_any g _ [-1, 999, 1000] 3 _ _ _ rfl rfl (by omega) (by simp) (by simp) HNB.out.cur).mono ?_
      rintro e wc ⟨y, hy, rfl, hc, hd⟩
      have HNC := Lib.hid (HNB.out.drew hd hc)
      clear hc hd hy
      obtain ⟨u, ku, fu⟩ := HNC.out.cellT (m := x * 3) (by omega)
      obtain ⟨T', hT', hn⟩ := HNC.out.storeT (m := x * 3) (by omega) y
      have HNE := Lib.hid hn
      clear hn
      go_wp2_with fail
      go_meet
      case rel => exact ⟨_, _, _, _, _, _, HNE.out.more (by omega), by omega, by omega⟩
    have ez0 : ((z : Int) == 0) = false := by rw [beq_eq_false_iff_ne]; omega
    clear hz0
    by_cases hz1 : z = 1
    · subst hz1
      go_wp2_with fail
      refine (amongLit_any g _ [-1, 999, 1000] 3 _ _ _ rfl rfl (by omega) (by simp) (by simp) HNB.out.cur).mono ?_
      rintro e wc ⟨y, hy, rfl, hc, hd⟩
      have HNC := Lib.hid (HNB.out.drew hd hc)
      clear hc hd hy
      obtain ⟨u, ku, fu⟩ := HNC.out.cellT (m := x * 3 + 1) (by omega)
      obtain ⟨T', hT', hn⟩ := HNC.out.storeT (m := x * 3 + 1) (by omega) y
      have HNE := Lib.hid hn
      clear hn
      go_wp2_with fail
      go_meet
      case rel => exact ⟨_, _, _, _, _, _, HNE.out.more (by omega), by omega, by omega⟩
    have ez1 : ((z : Int) == 1) = false := by rw [beq_eq_false_iff_ne]; omega
    clear hz1
    by_cases hz2 : z = 2
    · subst hz2
      go_wp2_with fail
      refine (amongLit_any g _ [-1, 500, 501] 3 _ _ _ rfl rfl (by omega) (by simp) (by simp) HNB.out.cur).mono ?_
      rintro e wc ⟨y, hy, rfl, hc, hd⟩
      have HNC := Lib.hid (HNB.out.drew hd hc)
      clear hc hd hy
      obtain ⟨u, ku, fu⟩ := HNC.out.cellT (m := x * 3 + 2) (by omega)
      obtain ⟨T', hT', hn⟩ := HNC.out.storeT (m := x * 3 + 2) (by omega) y
      have HNE := Lib.hid hn
      clear hn
      go_wp2_with fail
      go_meet
      case rel => exact ⟨_, _, _, _, _, _, HNE.out.more (by omega), by omega, by omega⟩
    have ez2 : ((z : Int) == 2) = false := by rw [beq_eq_false_iff_ne]; omega
    clear hz2
    by_cases hz3 : z = 3
    · subst hz3
      have f0 := HNB.out.cells.2.1
      have k0 := HNB.out.cells.1.1
      go_wp2_with fail
      go_meet
      case rel => exact ⟨_, _, _, _, _, _, HNB.out.nilT.more (by omega), by simp, by omega⟩
    have ez3 : ((z : Int) == 3) = false := by rw [beq_eq_false_iff_ne]; omega
    clear hz3
    by_cases hz4 : z = 4
    · subst hz4
      go_wp2_with fail
      refine (pick_any g _ (2) _ (by omega) (by omega) HNB.out.cur).mono ?_
      rintro e wc ⟨y, rfl, hy, hy', hc, hd⟩
      have HNC := Lib.hid (HNB.out.drew hd hc)
      clear hc hd
      obtain ⟨M, hM⟩ : ∃ M : Nat, M = 16 + y := ⟨_, rfl⟩
      have eM : (16 : Int) + (y : Int) = (M : Int) := by omega
      have hM17 : M ≤ 17 := by omega
      have wM : IntKind.i64.wrap ((M : Nat) : Int) = ((M : Nat) : Int) := IntWalk.i64_in _ ⟨by omega, by omega⟩
      clear hM hy hy'
      go_wp2_with fail
      go_loopw [] (fun wr => ∃ At ct T, NBox w wr g b (k + 4010) At ct T Ak ck K ∧ List.length T ≤ 17 ∧ 1 ≤ List.length T) (fun wr => M - lenV ((wr.cell? ⟨b, 0, none⟩).getD undef))
      case atStart => exact ⟨_, _, _, HNC.out.more (by omega), by omega, by omega⟩
      case round =>
        obtain ⟨At, ct, T, hn, hT17, hT1⟩ := hrel
        clear HNC HNB
        have HN := Lib.hid hn
        clear hn
        obtain ⟨⟨k0, k1⟩, f0, f1⟩ := HN.out.cells
        by_cases hlt : T.length < M
        · have hlt' : (T.length : Int) < (M : Int) := by omega
          have hT0 : 0 < T.length := by omega
          obtain ⟨qa, rfl, hqa⟩ := own3_net HN.out.ownT (by omega)
          go_upto_region 15 with fail
          refine region_E (fun W => W.cell? ⟨b, 0, none⟩ = some (.slice (some ⟨qa, 0, none⟩) T.length ct)) 9 (by kernel_rfl) ?_
          have HN0 := Lib.hid (HN.out.tick 1)
          generalize hwd : wr.drew = wd
          have HN1 : Hid (NBox w wd g b (k + 4010) (some ⟨qa, 0, none⟩) ct T Ak ck K) := Lib.hid (by rw [← hwd]; exact HN0.out)
          clear hwd HN0
          obtain ⟨x0, c0, d0⟩ := HN1.out.cellT (m := 0) (by omega)
          obtain ⟨x1, c1, d1⟩ := HN1.out.cellT (m := 1) (by omega)
          obtain ⟨x2, c3, d2⟩ := HN1.out.cellT (m := 2) (by omega)
          refine EndsE.take (i := 0) (v := ?vq3) rfl (by kernel_rfl) (by kernel_rfl) (by kernel_rfl) (fun _ _ _ h => h) (by kernel_rfl) (Or.inl ⟨by rfl, ?yq3⟩) (HN1.out.cells.1.1) ?rq3
          case yq3 => (intro wS hS; go_simp <;> with_reducible rfl)
          refine EndsE.take (i := 1) (v := ?vq4) rfl (by kernel_rfl) (by kernel_rfl) (by kernel_rfl) (fun _ _ _ h => h) (by kernel_rfl) (Or.inl ⟨by rfl, ?yq4⟩) (HN1.out.cells.1.1) ?rq4
          case yq4 => (intro wS hS; go_simp <;> with_reducible rfl)
          refine EndsE.take (i := 2) (v := ?vq5) rfl (by kernel_rfl) (by kernel_rfl) (by kernel_rfl) (fun _ _ _ h => h) (by kernel_rfl) (Or.inl ⟨by rfl, ?yq5⟩) (HN1.out.cells.1.1) ?rq5
          case yq5 => (intro wS hS; go_simp <;> with_reducible rfl)
          refine EndsE.take (i := 3) (v := ?vq6) rfl (by kernel_rfl) (by kernel_rfl) (by kernel_rfl) (fun _ _ _ h => h) (by kernel_rfl) (Or.inl ⟨by rfl, ?yq6⟩) (HN1.out.cells.1.1) ?rq6
          case yq6 => (intro wS hS; go_simp <;> with_reducible rfl)
          refine EndsE.take (i := 4) (v := ?vq7) rfl (by kernel_rfl) (by kernel_rfl) (by kernel_rfl) (fun _ _ _ h => h) (by kernel_rfl) (Or.inl ⟨by rfl, ?yq7⟩) (HN1.out.cells.1.1) ?rq7
          case yq7 => (intro wS hS; go_simp <;> with_reducible rfl)
          refine EndsE.ready (rs := [5]) (by kernel_rfl) (by simp) ?_
          refine WaysE.cons rfl (fun Kq hK => ?_) ?_
          · go_simp
            refine hK.out _ _ (fun _ => (HN1.out.cells.1.1)) ?_
            clear hK Kq
            refine EndsE.ready (rs := [6]) (by kernel_rfl) (by simp) ?_
            refine WaysE.cons rfl (fun Kq hK => ?_) ?_
            · have HN1 := Lib.hid (HN1.out.below ((Below.refl _ _).alloc (Nat.le_refl _) (.cells #[.int .i64 x0, .int .i64 x1, .int .i64 x2] 121)))
              have HR2 := Lib.hid (show Reads (wd.alloc (.cells #[.int .i64 x0, .int .i64 x1, .int .i64 x2] 121)) 3 (some ⟨wd.heap.size, 0, none⟩) 1 [.int .i64 x0, .int .i64 x1, .int .i64 x2] from by have h := reads_litk wd [.int .i64 x0, .int .i64 x1, .int .i64 x2] 121 (n := 1) (k := 3) rfl; exact h)
              go_simp
              refine hK.out _ _ (fun _ => (HN1.out.cells.1.1)) ?_
              clear hK Kq
              refine EndsE.ready (rs := [7]) (by kernel_rfl) (by simp) ?_
              refine WaysE.cons rfl (fun Kq hK => ?_) ?_
              · refine step_pushL _ (by rfl) (.tmp 61) (.tmp 66) 65 (by rfl) (w.heap.size + 1) 121 _ 3 24 infoTower rfl (by omega) Try.underlying65 (some ⟨qa, 0, none⟩) T.length ct (rows3 T) (by rfl) HN1.out.ownT (some ⟨wd.heap.size, 0, none⟩) 1 1 [.int .i64 x0, .int .i64 x1, .int .i64 x2] (by rfl) HR2.out (by simp [Value.oneCell']) (by omega) (by omega) (by have := HN1.out.lt; have := HN1.out.bl; omega) ?_
                intro A2 c2 w9 hown hg hbb hloc
                obtain ⟨n0, g0⟩ := box_at ((hg.block b HN1.out.lt (fun e' => HN1.out.nbT e'.symm)).trans HN1.out.box) (j := 0) rfl
                refine hK.out _ _ (fun _ => n0) ?_
                clear hK Kq
                refine EndsE.take (i := 8) (v := ?vq8) rfl (by kernel_rfl) (by kernel_rfl) (by kernel_rfl) (fun _ _ _ h => h) (by kernel_rfl) (Or.inl ⟨by rfl, ?yq8⟩) n0 ?rq8
                case yq8 => (intro wS hS; go_simp <;> with_reducible rfl)
                refine EndsE.ready (rs := [9]) (by kernel_rfl) (by simp) ?_
                refine WaysE.cons rfl (fun Kq hK => ?_) ?_
                · go_simp
                  refine hK.out _ _ (fun h => absurd rfl h) ?_
                  clear hK Kq
                  refine EndsE.done (by kernel_rfl) ?_ _
                  have HNN := Lib.hid (HN1.out.pushT (x := (x0, x1, x2)) rfl hg hown hloc)
                  clear hown hg hbb hloc n0 g0
                  go_wp2
                  go_roundw
                  case rel => exact ⟨A2, c2, T ++ [(x0, x1, x2)], by first | exact HNN.out | (rw [List.length_append]; exact HNN.out), by simp; omega, by simp⟩
                  case measure =>
                    have h1 := HNN.out.cells.1.1
                    have h2 := k0
                    simp only [h1, h2, Option.getD_some, lenV, List.length_append, List.length_singleton]
                    omega
                exact WaysE.nil
              exact WaysE.nil
            exact WaysE.nil
          exact WaysE.nil
        · have hlt' : ¬ (T.length : Int) < (M : Int) := by omega
          go_wp2_with fail
          go_meet
          case rel => exact ⟨_, _, _, _, _, _, HN.out.more (by omega), by omega, by omega⟩
    have ez4 : ((z : Int) == 4) = false := by rw [beq_eq_false_iff_ne]; omega
    clear hz4
    by_cases hz5 : z = 5
    · subst hz5
      obtain ⟨⟨k0, k1⟩, f0, f1⟩ := HNB.out.cells
      by_cases hk0 : 0 < K.length
      rotate_left
      · have hk0' : ¬ (0 : Int) < (K.length : Int) := by omega
        go_wp2_with fail
        go_meet
        case rel => exact ⟨_, _, _, _, _, _, HNB.out.more (by omega), by omega, by omega⟩
      have hk0' : (0 : Int) < (K.length : Int) := by omega
      obtain ⟨qb, rfl, hqb⟩ := own3_net HNB.out.ownK hk0
      go_upto_region 20 with fail
      have HND := Lib.hid (HNB.out.tick 1)
      have k1d := HND.out.cells.1.2
      go_region_held3 (fun W => W.cell? ⟨b, 1, none⟩ = some (.slice (some ⟨qb, 0, none⟩) K.length ck)) (first | assumption | fail) (first | (go_at_call 107; refine (pick_any g _ (K.length : Int) _ (by omega) (by omega) HND.out.cur).mono ?_; rintro e wd ⟨y, rfl, hy, hy', hc, hd⟩; have HNE := Lib.hid (HND.out.drew hd hc); have hyl : y < K.length := (by omega); have hy0 : (0 : Int) ≤ (y : Int) := (by omega); clear hc hd; have k1A := HNE.out.cells.1.2) | fail)
      clear HND k1d k1A k0 k1 f0 f1 hy hy'
      go_wp2_with fail
      refine (pick_any g _ 4 _ (by omega) (by omega) HNE.out.cur).mono ?_
      rintro e we0 ⟨v, rfl, hv, hv', hc, hd⟩
      have HNF := Lib.hid ((HNE.out.drew hd hc).more (k' := k + 4010) (by omega))
      have hv4 : v < 4 := by omega
      clear hc hd HNE hv hv' HNB
      by_cases hv0 : v = 0
      · subst hv0
        obtain ⟨lb, kb, _⟩ := HNF.out.cellK (m := y * 3 + 1) (by omega)
        go_wp2_with fail
        refine (amongLit_any g _ [-1, lb] 3 _ _ _ rfl rfl (by omega) (by simp) (by simp) HNF.out.cur).mono ?_
        rintro e we ⟨u, hu, rfl, hc, hd⟩
        have HNG := Lib.hid (HNF.out.drew hd hc)
        clear hc hd hu
        obtain ⟨o, ko, fo⟩ := HNG.out.cellK (m := y * 3) (by omega)
        obtain ⟨K', hK', hn⟩ := HNG.out.storeK (m := y * 3) (by omega) u
        have HNH := Lib.hid hn
        clear hn
        go_wp2_with fail
        go_meet
        case rel => exact ⟨_, _, _, _, _, _, HNH.out.more (by omega), by omega, by omega⟩
      have ev0 : ((v : Int) == 0) = false := by rw [beq_eq_false_iff_ne]; omega
      by_cases hv1 : v = 1
      · subst hv1
        clear ev0
        go_upto_region 25 with fail
        refine region_E (fun W => W.cell? ⟨b, 0, none⟩ = some (.slice (some ⟨ga, 0, none⟩) T.length ct)) 13 (by kernel_rfl) ?_
        have HN0 := Lib.hid (HNF.out.tick 1)
        generalize hwd : we0.drew = wk
        have HN1 : Hid (NBox w wk g b (k + 4010) (some ⟨ga, 0, none⟩) ct T (some ⟨qb, 0, none⟩) ck K) := Lib.hid (by rw [← hwd]; exact HN0.out)
        clear hwd HN0
        obtain ⟨la, ka, _⟩ := HN1.out.cellK (m := y * 3) (by omega)
        refine EndsE.take (i := 0) (v := ?vq9) rfl (by kernel_rfl) (by kernel_rfl) (by kernel_rfl) (fun _ _ _ h => h) (by kernel_rfl) (Or.inl ⟨by rfl, ?yq9⟩) (HN1.out.cells.1.1) ?rq9
        case yq9 => (intro wS hS; go_simp <;> with_reducible rfl)
        refine EndsE.take (i := 1) (v := ?vq10) rfl (by kernel_rfl) (by kernel_rfl) (by kernel_rfl) (fun _ _ _ h => h) (by kernel_rfl) (Or.inl ⟨by rfl, ?yq10⟩) (HN1.out.cells.1.1) ?rq10
        case yq10 => (intro wS hS; go_simp <;> with_reducible rfl)
        refine EndsE.take (i := 2) (v := ?vq11) rfl (by kernel_rfl) (by kernel_rfl) (by kernel_rfl) (fun _ _ _ h => h) (by kernel_rfl) (Or.inl ⟨by rfl, ?yq11⟩) (HN1.out.cells.1.1) ?rq11
        case yq11 => (intro wS hS; go_simp <;> with_reducible rfl)
        refine EndsE.take (i := 3) (v := ?vq12) rfl (by kernel_rfl) (by kernel_rfl) (by kernel_rfl) (fun _ _ _ h => h) (by kernel_rfl) (Or.inl ⟨by rfl, ?yq12⟩) (HN1.out.cells.1.1) ?rq12
        case yq12 => (intro wS hS; go_simp <;> with_reducible rfl)
        refine EndsE.take (i := 4) (v := ?vq13) rfl (by kernel_rfl) (by kernel_rfl) (by kernel_rfl) (fun _ _ _ h => h) (by kernel_rfl) (Or.inl ⟨by rfl, ?yq13⟩) (HN1.out.cells.1.1) ?rq13
        case yq13 => (intro wS hS; go_simp <;> with_reducible rfl)
        refine EndsE.take (i := 6) (v := ?vq14) rfl (by kernel_rfl) (by kernel_rfl) (by kernel_rfl) (fun _ _ _ h => h) (by kernel_rfl) (Or.inl ⟨by rfl, ?yq14⟩) (HN1.out.cells.1.1) ?rq14
        case yq14 => (intro wS hS; go_simp <;> with_reducible rfl)
        refine EndsE.take (i := 7) (v := ?vq15) rfl (by kernel_rfl) (by kernel_rfl) (by kernel_rfl) (fun _ _ _ h => h) (by kernel_rfl) (Or.inl ⟨by rfl, ?yq15⟩) (HN1.out.cells.1.1) ?rq15
        case yq15 => (intro wS hS; go_simp <;> with_reducible rfl)
        refine EndsE.take (i := 8) (v := ?vq16) rfl (by kernel_rfl) (by kernel_rfl) (by kernel_rfl) (fun _ _ _ h => h) (by kernel_rfl) (Or.inl ⟨by rfl, ?yq16⟩) (HN1.out.cells.1.1) ?rq16
        case yq16 => (intro wS hS; go_simp <;> with_reducible rfl)
        refine EndsE.ready (rs := [5]) (by kernel_rfl) (by simp) ?_
        refine WaysE.cons rfl (fun Kq hK => ?_) ?_
        · go_simp
          refine hK.out _ _ (fun _ => (HN1.out.cells.1.1)) ?_
          clear hK Kq
          refine EndsE.ready (rs := [9]) (by kernel_rfl) (by simp) ?_
          refine WaysE.cons rfl (fun Kq hK => ?_) ?_
          · have HN17 := Lib.hid (HN1.out.below ((Below.refl _ _).alloc (Nat.le_refl _) (.cells #[.int .i64 la, .int .i64 (T.length : Int)] 3)))
            have HR18 := Lib.hid (show Reads (wk.alloc (.cells #[.int .i64 la, .int .i64 (T.length : Int)] 3)) 1 (some ⟨wk.heap.size, 0, none⟩) 2 [.int .i64 la, .int .i64 (T.length : Int)] from by have h := reads_litk wk [.int .i64 la, .int .i64 (T.length : Int)] 3 (n := 2) (k := 1) rfl; exact h)
            go_simp
            refine hK.out _ _ (fun _ => (HN17.out.cells.1.1)) ?_
            clear hK Kq
            refine EndsE.ready (rs := [10]) (by kernel_rfl) (by simp) ?_
            refine WaysE.cons rfl (fun Kq hK => ?_) ?_
            · go_simp
              refine (among_any g (k + 4010) (some ⟨wk.heap.size, 0, none⟩) 2 2 [la, (T.length : Int)] _ (by omega) (by omega) (by omega) HN17.out.cur HR18.out (fun ad e => by injection e with e; subst e; have := HN1.out.gl; have := HN1.out.bl; have := HN1.out.lt; simp only; omega)).mono ?_
              rintro e wq19 ⟨u, hu, rfl, hc, hd⟩
              have HN20 := Lib.hid (HN17.out.drew hd hc)
              clear hc hd hu
              go_wp2_with fail
              refine hK.out _ _ (fun _ => (HN20.out.cells.1.1)) ?_
              clear hK Kq
              refine EndsE.ready (rs := [11]) (by kernel_rfl) (by simp) ?_
              refine WaysE.cons rfl (fun Kq hK => ?_) ?_
              · go_simp
                refine hK.out _ _ (fun _ => (HN20.out.cells.1.1)) ?_
                clear hK Kq
                refine EndsE.take (i := 12) (v := ?vq21) rfl (by kernel_rfl) (by kernel_rfl) (by kernel_rfl) (fun _ _ _ h => h) (by kernel_rfl) (Or.inl ⟨by rfl, ?yq21⟩) (HN20.out.cells.1.1) ?rq21
                case yq21 => (intro wS hS; go_simp <;> with_reducible rfl)
                refine EndsE.ready (rs := [13]) (by kernel_rfl) (by simp) ?_
                refine WaysE.cons rfl (fun Kq hK => ?_) ?_
                · obtain ⟨o, ko, fo⟩ := HN20.out.cellK (m := y * 3 + 1) (by omega)
                  obtain ⟨K', hK', hn⟩ := HN20.out.storeK (m := y * 3 + 1) (by omega) u
                  have HNH := Lib.hid hn
                  clear hn
                  go_simp
                  refine hK.out _ _ (fun h => absurd rfl h) ?_
                  clear hK Kq
                  refine EndsE.done (by kernel_rfl) ?_ _
                  go_wp2_with fail
                  go_meet
                  case rel => exact ⟨_, _, _, _, _, _, HNH.out.more (by omega), by omega, by omega⟩
                exact WaysE.nil
              exact WaysE.nil
            exact WaysE.nil
          exact WaysE.nil
        exact WaysE.nil
      have ev1 : ((v : Int) == 1) = false := by rw [beq_eq_false_iff_ne]; omega
      by_cases hv2 : v = 2
      · subst hv2
        go_wp2_with fail
        refine (amongLit_any g _ [0, 60, 61] 3 _ _ _ rfl rfl (by omega) (by simp) (by simp) HNF.out.cur).mono ?_
        rintro e we ⟨u, hu, rfl, hc, hd⟩
        have HNG := Lib.hid (HNF.out.drew hd hc)
        clear hc hd hu
        obtain ⟨o, ko, fo⟩ := HNG.out.cellK (m := y * 3 + 2) (by omega)
        obtain ⟨K', hK', hn⟩ := HNG.out.storeK (m := y * 3 + 2) (by omega) u
        have HNH := Lib.hid hn
        clear hn
        go_wp2_with fail
        go_meet
        case rel => exact ⟨_, _, _, _, _, _, HNH.out.more (by omega), by omega, by omega⟩
      obtain rfl : v = 3 := by omega
      clear ev0 ev1 hv0 hv1 hv2 hv4
      go_upto_region 29 with fail
      refine region_E (fun W => W.cell? ⟨b, 1, none⟩ = some (.slice (some ⟨qb, 0, none⟩) K.length ck)) 9 (by kernel_rfl) ?_
      have HN0 := Lib.hid (HNF.out.tick 1)
      generalize hwd : we0.drew = wd2
      have HN1 : Hid (NBox w wd2 g b (k + 4010) (some ⟨ga, 0, none⟩) ct T (some ⟨qb, 0, none⟩) ck K) := Lib.hid (by rw [← hwd]; exact HN0.out)
      clear hwd HN0
      obtain ⟨x0, c0, d0⟩ := HN1.out.cellK (m := 0) (by omega)
      obtain ⟨x1, c1, d1⟩ := HN1.out.cellK (m := 1) (by omega)
      obtain ⟨x2, c3, d2⟩ := HN1.out.cellK (m := 2) (by omega)
      refine EndsE.take (i := 0) (v := ?vq24) rfl (by kernel_rfl) (by kernel_rfl) (by kernel_rfl) (fun _ _ _ h => h) (by kernel_rfl) (Or.inl ⟨by rfl, ?yq24⟩) (HN1.out.cells.1.2) ?rq24
      case yq24 => (intro wS hS; go_simp <;> with_reducible rfl)
      refine EndsE.take (i := 1) (v := ?vq25) rfl (by kernel_rfl) (by kernel_rfl) (by kernel_rfl) (fun _ _ _ h => h) (by kernel_rfl) (Or.inl ⟨by rfl, ?yq25⟩) (HN1.out.cells.1.2) ?rq25
      case yq25 => (intro wS hS; go_simp <;> with_reducible rfl)
      refine EndsE.take (i := 2) (v := ?vq26) rfl (by kernel_rfl) (by kernel_rfl) (by kernel_rfl) (fun _ _ _ h => h) (by kernel_rfl) (Or.inl ⟨by rfl, ?yq26⟩) (HN1.out.cells.1.2) ?rq26
      case yq26 => (intro wS hS; go_simp <;> with_reducible rfl)
      refine EndsE.take (i := 3) (v := ?vq27) rfl (by kernel_rfl) (by kernel_rfl) (by kernel_rfl) (fun _ _ _ h => h) (by kernel_rfl) (Or.inl ⟨by rfl, ?yq27⟩) (HN1.out.cells.1.2) ?rq27
      case yq27 => (intro wS hS; go_simp <;> with_reducible rfl)
      refine EndsE.take (i := 4) (v := ?vq28) rfl (by kernel_rfl) (by kernel_rfl) (by kernel_rfl) (fun _ _ _ h => h) (by kernel_rfl) (Or.inl ⟨by rfl, ?yq28⟩) (HN1.out.cells.1.2) ?rq28
      case yq28 => (intro wS hS; go_simp <;> with_reducible rfl)
      refine EndsE.ready (rs := [5]) (by kernel_rfl) (by simp) ?_
      refine WaysE.cons rfl (fun Kq hK => ?_) ?_
      · go_simp
        refine hK.out _ _ (fun _ => (HN1.out.cells.1.2)) ?_
        clear hK Kq
        refine EndsE.ready (rs := [6]) (by kernel_rfl) (by simp) ?_
        refine WaysE.cons rfl (fun Kq hK => ?_) ?_
        · have HN22 := Lib.hid (HN1.out.below ((Below.refl _ _).alloc (Nat.le_refl _) (.cells #[.int .i64 x0, .int .i64 x1, .int .i64 x2] 123)))
          have HR23 := Lib.hid (show Reads (wd2.alloc (.cells #[.int .i64 x0, .int .i64 x1, .int .i64 x2] 123)) 3 (some ⟨wd2.heap.size, 0, none⟩) 1 [.int .i64 x0, .int .i64 x1, .int .i64 x2] from by have h := reads_litk wd2 [.int .i64 x0, .int .i64 x1, .int .i64 x2] 123 (n := 1) (k := 3) rfl; exact h)
          go_simp
          refine hK.out _ _ (fun _ => (HN22.out.cells.1.2)) ?_
          clear hK Kq
          refine EndsE.ready (rs := [7]) (by kernel_rfl) (by simp) ?_
          refine WaysE.cons rfl (fun Kq hK => ?_) ?_
          · refine step_pushL _ (by rfl) (.tmp 123) (.tmp 128) 66 (by rfl) (w.heap.size + 1) 123 _ 3 24 infoLink rfl (by omega) Try.underlying66 (some ⟨qb, 0, none⟩) K.length ck (rows3 K) (by rfl) HN22.out.ownK (some ⟨wd2.heap.size, 0, none⟩) 1 1 [.int .i64 x0, .int .i64 x1, .int .i64 x2] (by rfl) HR23.out (by simp [Value.oneCell']) (by omega) (by omega) (by have := HN22.out.lt; have := HN22.out.bl; omega) ?_
            intro A2 c2 w9 hown hg hbb hloc
            obtain ⟨n0, g0⟩ := box_at ((hg.block b HN22.out.lt (fun e' => HN22.out.nbK e'.symm)).trans HN22.out.box) (j := 1) rfl
            refine hK.out _ _ (fun _ => n0) ?_
            clear hK Kq
            refine EndsE.take (i := 8) (v := ?vq29) rfl (by kernel_rfl) (by kernel_rfl) (by kernel_rfl) (fun _ _ _ h => h) (by kernel_rfl) (Or.inl ⟨by rfl, ?yq29⟩) n0 ?rq29
            case yq29 => (intro wS hS; go_simp <;> with_reducible rfl)
            refine EndsE.ready (rs := [9]) (by kernel_rfl) (by simp) ?_
            refine WaysE.cons rfl (fun Kq hK => ?_) ?_
            · go_simp
              refine hK.out _ _ (fun h => absurd rfl h) ?_
              clear hK Kq
              refine EndsE.done (by kernel_rfl) ?_ _
              have HNN := Lib.hid (HN22.out.pushK (x := (x0, x1, x2)) rfl hg hown hloc)
              clear hown hg hbb hloc n0 g0
              go_wp2_with fail
              go_meet
              case rel => exact ⟨_, _, _, _, _, _, (show NBox w _ g b (k + 4010) _ ct T A2 c2 (K ++ [(x0, x1, x2)]) from by first | exact HNN.out | (rw [List.length_append]; exact HNN.out)).more (by omega), by omega, by simp; omega⟩
            exact WaysE.nil
          exact WaysE.nil
        exact WaysE.nil
      exact WaysE.nil
    have ez5 : ((z : Int) == 5) = false := by rw [beq_eq_false_iff_ne]; omega
    clear hz5
    by_cases hz6 : z = 6
    · subst hz6
      obtain ⟨⟨k0, k1⟩, f0, f1⟩ := HNB.out.cells
      by_cases hk0 : 0 < K.length
      rotate_left
      · have hk0' : ¬ (0 : Int) < (K.length : Int) := by omega
        go_wp2_with fail
        go_meet
        case rel => exact ⟨_, _, _, _, _, _, HNB.out.more (by omega), by omega, by omega⟩
      have hk0' : (0 : Int) < (K.length : Int) := by omega
      obtain ⟨qb, rfl, hqb⟩ := own3_net HNB.out.ownK hk0
      go_upto_region 20 with fail
      have HND := Lib.hid (HNB.out.tick 1)
      have k1d := HND.out.cells.1.2
      go_region_held3 (fun W => W.cell? ⟨b, 1, none⟩ = some (.slice (some ⟨qb, 0, none⟩) K.length ck)) (first | assumption | fail) (first | (go_at_call 107; refine (pick_any g _ (K.length : Int) _ (by omega) (by omega) HND.out.cur).mono ?_; rintro e wd ⟨y, rfl, hy, hy', hc, hd⟩; have HNE := Lib.hid (HND.out.drew hd hc); have hyl : y < K.length := (by omega); have hy0 : (0 : Int) ≤ (y : Int) := (by omega); clear hc hd; have k1A := HNE.out.cells.1.2) | fail)
      clear HND k1d k1A k0 k1 f0 f1 hy hy'
      go_wp2_with fail
      refine (pick_any g _ 4 _ (by omega) (by omega) HNE.out.cur).mono ?_
      rintro e we0 ⟨v, rfl, hv, hv', hc, hd⟩
      have HNF := Lib.hid ((HNE.out.drew hd hc).more (k' := k + 4010) (by omega))
      have hv4 : v < 4 := by omega
      clear hc hd HNE hv hv' HNB
      by_cases hv0 : v = 0
      · subst hv0
        obtain ⟨lb, kb, _⟩ := HNF.out.cellK (m := y * 3 + 1) (by omega)
        go_wp2_with fail
        refine (amongLit_any g _ [-1, lb] 3 _ _ _ rfl rfl (by omega) (by simp) (by simp) HNF.out.cur).mono ?_
        rintro e we ⟨u, hu, rfl, hc, hd⟩
        have HNG := Lib.hid (HNF.out.drew hd hc)
        clear hc hd hu
        obtain ⟨o, ko, fo⟩ := HNG.out.cellK (m := y * 3) (by omega)
        obtain ⟨K', hK', hn⟩ := HNG.out.storeK (m := y * 3) (by omega) u
        have HNH := Lib.hid hn
        clear hn
        go_wp2_with fail
        go_meet
        case rel => exact ⟨_, _, _, _, _, _, HNH.out.more (by omega), by omega, by omega⟩
      have ev0 : ((v : Int) == 0) = false := by rw [beq_eq_false_iff_ne]; omega
      by_cases hv1 : v = 1
      · subst hv1
        clear ev0
        go_upto_region 25 with fail
        refine region_E (fun W => W.cell? ⟨b, 0, none⟩ = some (.slice (some ⟨ga, 0, none⟩) T.length ct)) 13 (by kernel_rfl) ?_
        have HN0 := Lib.hid (HNF.out.tick 1)
        generalize hwd : we0.drew = wk
        have HN1 : Hid (NBox w wk g b (k + 4010) (some ⟨ga, 0, none⟩) ct T (some ⟨qb, 0, none⟩) ck K) := Lib.hid (by rw [← hwd]; exact HN0.out)
        clear hwd HN0
        obtain ⟨la, ka, _⟩ := HN1.out.cellK (m := y * 3) (by omega)
        refine EndsE.take (i := 0) (v := ?vs9) rfl (by kernel_rfl) (by kernel_rfl) (by kernel_rfl) (fun _ _ _ h => h) (by kernel_rfl) (Or.inl ⟨by rfl, ?ys9⟩) (HN1.out.cells.1.1) ?rs9
        case ys9 => (intro wS hS; go_simp <;> with_reducible rfl)
        refine EndsE.take (i := 1) (v := ?vs10) rfl (by kernel_rfl) (by kernel_rfl) (by kernel_rfl) (fun _ _ _ h => h) (by kernel_rfl) (Or.inl ⟨by rfl, ?ys10⟩) (HN1.out.cells.1.1) ?rs10
        case ys10 => (intro wS hS; go_simp <;> with_reducible rfl)
        refine EndsE.take (i := 2) (v := ?vs11) rfl (by kernel_rfl) (by kernel_rfl) (by kernel_rfl) (fun _ _ _ h => h) (by kernel_rfl) (Or.inl ⟨by rfl, ?ys11⟩) (HN1.out.cells.1.1) ?rs11
        case ys11 => (intro wS hS; go_simp <;> with_reducible rfl)
        refine EndsE.take (i := 3) (v := ?vs12) rfl (by kernel_rfl) (by kernel_rfl) (by kernel_rfl) (fun _ _ _ h => h) (by kernel_rfl) (Or.inl ⟨by rfl, ?ys12⟩) (HN1.out.cells.1.1) ?rs12
        case ys12 => (intro wS hS; go_simp <;> with_reducible rfl)
        refine EndsE.take (i := 4) (v := ?vs13) rfl (by kernel_rfl) (by kernel_rfl) (by kernel_rfl) (fun _ _ _ h => h) (by kernel_rfl) (Or.inl ⟨by rfl, ?ys13⟩) (HN1.out.cells.1.1) ?rs13
        case ys13 => (intro wS hS; go_simp <;> with_reducible rfl)
        refine EndsE.take (i := 6) (v := ?vs14) rfl (by kernel_rfl) (by kernel_rfl) (by kernel_rfl) (fun _ _ _ h => h) (by kernel_rfl) (Or.inl ⟨by rfl, ?ys14⟩) (HN1.out.cells.1.1) ?rs14
        case ys14 => (intro wS hS; go_simp <;> with_reducible rfl)
        refine EndsE.take (i := 7) (v := ?vs15) rfl (by kernel_rfl) (by kernel_rfl) (by kernel_rfl) (fun _ _ _ h => h) (by kernel_rfl) (Or.inl ⟨by rfl, ?ys15⟩) (HN1.out.cells.1.1) ?rs15
        case ys15 => (intro wS hS; go_simp <;> with_reducible rfl)
        refine EndsE.take (i := 8) (v := ?vs16) rfl (by kernel_rfl) (by kernel_rfl) (by kernel_rfl) (fun _ _ _ h => h) (by kernel_rfl) (Or.inl ⟨by rfl, ?ys16⟩) (HN1.out.cells.1.1) ?rs16
        case ys16 => (intro wS hS; go_simp <;> with_reducible rfl)
        refine EndsE.ready (rs := [5]) (by kernel_rfl) (by simp) ?_
        refine WaysE.cons rfl (fun Kq hK => ?_) ?_
        · go_simp
          refine hK.out _ _ (fun _ => (HN1.out.cells.1.1)) ?_
          clear hK Kq
          refine EndsE.ready (rs := [9]) (by kernel_rfl) (by simp) ?_
          refine WaysE.cons rfl (fun Kq hK => ?_) ?_
          · have HN17 := Lib.hid (HN1.out.below ((Below.refl _ _).alloc (Nat.le_refl _) (.cells #[.int .i64 la, .int .i64 (T.length : Int)] 3)))
            have HR18 := Lib.hid (show Reads (wk.alloc (.cells #[.int .i64 la, .int .i64 (T.length : Int)] 3)) 1 (some ⟨wk.heap.size, 0, none⟩) 2 [.int .i64 la, .int .i64 (T.length : Int)] from by have h := reads_litk wk [.int .i64 la, .int .i64 (T.length : Int)] 3 (n := 2) (k := 1) rfl; exact h)
            go_simp
            refine hK.out _ _ (fun _ => (HN17.out.cells.1.1)) ?_
            clear hK Kq
            refine EndsE.ready (rs := [10]) (by kernel_rfl) (by simp) ?_
            refine WaysE.cons rfl (fun Kq hK => ?_) ?_
            · go_simp
              refine (among_any g (k + 4010) (some ⟨wk.heap.size, 0, none⟩) 2 2 [la, (T.length : Int)] _ (by omega) (by omega) (by omega) HN17.out.cur HR18.out (fun ad e => by injection e with e; subst e; have := HN1.out.gl; have := HN1.out.bl; have := HN1.out.lt; simp only; omega)).mono ?_
              rintro e wq19 ⟨u, hu, rfl, hc, hd⟩
              have HN20 := Lib.hid (HN17.out.drew hd hc)
              clear hc hd hu
              go_wp2_with fail
              refine hK.out _ _ (fun _ => (HN20.out.cells.1.1)) ?_
              clear hK Kq
              refine EndsE.ready (rs := [11]) (by kernel_rfl) (by simp) ?_
              refine WaysE.cons rfl (fun Kq hK => ?_) ?_
              · go_simp
                refine hK.out _ _ (fun _ => (HN20.out.cells.1.1)) ?_
                clear hK Kq
                refine EndsE.take (i := 12) (v := ?vs21) rfl (by kernel_rfl) (by kernel_rfl) (by kernel_rfl) (fun _ _ _ h => h) (by kernel_rfl) (Or.inl ⟨by rfl, ?ys21⟩) (HN20.out.cells.1.1) ?rs21
                case ys21 => (intro wS hS; go_simp <;> with_reducible rfl)
                refine EndsE.ready (rs := [13]) (by kernel_rfl) (by simp) ?_
                refine WaysE.cons rfl (fun Kq hK => ?_) ?_
                · obtain ⟨o, ko, fo⟩ := HN20.out.cellK (m := y * 3 + 1) (by omega)
                  obtain ⟨K', hK', hn⟩ := HN20.out.storeK (m := y * 3 + 1) (by omega) u
                  have HNH := Lib.hid hn
                  clear hn
                  go_simp
                  refine hK.out _ _ (fun h => absurd rfl h) ?_
                  clear hK Kq
                  refine EndsE.done (by kernel_rfl) ?_ _
                  go_wp2_with fail
                  go_meet
                  case rel => exact ⟨_, _, _, _, _, _, HNH.out.more (by omega), by omega, by omega⟩
                exact WaysE.nil
              exact WaysE.nil
            exact WaysE.nil
          exact WaysE.nil
        exact WaysE.nil
      have ev1 : ((v : Int) == 1) = false := by rw [beq_eq_false_iff_ne]; omega
      by_cases hv2 : v = 2
      · subst hv2
        go_wp2_with fail
        refine (amongLit_any g _ [0, 60, 61] 3 _ _ _ rfl rfl (by omega) (by simp) (by simp) HNF.out.cur).mono ?_
        rintro e we ⟨u, hu, rfl, hc, hd⟩
        have HNG := Lib.hid (HNF.out.drew hd hc)
        clear hc hd hu
        obtain ⟨o, ko, fo⟩ := HNG.out.cellK (m := y * 3 + 2) (by omega)
        obtain ⟨K', hK', hn⟩ := HNG.out.storeK (m := y * 3 + 2) (by omega) u
        have HNH := Lib.hid hn
        clear hn
        go_wp2_with fail
        go_meet
        case rel => exact ⟨_, _, _, _, _, _, HNH.out.more (by omega), by omega, by omega⟩
      obtain rfl : v = 3 := by omega
      clear ev0 ev1 hv0 hv1 hv2 hv4
      go_upto_region 29 with fail
      refine region_E (fun W => W.cell? ⟨b, 1, none⟩ = some (.slice (some ⟨qb, 0, none⟩) K.length ck)) 9 (by kernel_rfl) ?_
      have HN0 := Lib.hid (HNF.out.tick 1)
      generalize hwd : we0.drew = wd2
      have HN1 : Hid (NBox w wd2 g b (k + 4010) (some ⟨ga, 0, none⟩) ct T (some ⟨qb, 0, none⟩) ck K) := Lib.hid (by rw [← hwd]; exact HN0.out)
      clear hwd HN0
      obtain ⟨x0, c0, d0⟩ := HN1.out.cellK (m := 0) (by omega)
      obtain ⟨x1, c1, d1⟩ := HN1.out.cellK (m := 1) (by omega)
      obtain ⟨x2, c3, d2⟩ := HN1.out.cellK (m := 2) (by omega)
      refine EndsE.take (i := 0) (v := ?vs24) rfl (by kernel_rfl) (by kernel_rfl) (by kernel_rfl) (fun _ _ _ h => h) (by kernel_rfl) (Or.inl ⟨by rfl, ?ys24⟩) (HN1.out.cells.1.2) ?rs24
      case ys24 => (intro wS hS; go_simp <;> with_reducible rfl)
      refine EndsE.take (i := 1) (v := ?vs25) rfl (by kernel_rfl) (by kernel_rfl) (by kernel_rfl) (fun _ _ _ h => h) (by kernel_rfl) (Or.inl ⟨by rfl, ?ys25⟩) (HN1.out.cells.1.2) ?rs25
      case ys25 => (intro wS hS; go_simp <;> with_reducible rfl)
      refine EndsE.take (i := 2) (v := ?vs26) rfl (by kernel_rfl) (by kernel_rfl) (by kernel_rfl) (fun _ _ _ h => h) (by kernel_rfl) (Or.inl ⟨by rfl, ?ys26⟩) (HN1.out.cells.1.2) ?rs26
      case ys26 => (intro wS hS; go_simp <;> with_reducible rfl)
      refine EndsE.take (i := 3) (v := ?vs27) rfl (by kernel_rfl) (by kernel_rfl) (by kernel_rfl) (fun _ _ _ h => h) (by kernel_rfl) (Or.inl ⟨by rfl, ?ys27⟩) (HN1.out.cells.1.2) ?rs27
      case ys27 => (intro wS hS; go_simp <;> with_reducible rfl)
      refine EndsE.take (i := 4) (v := ?vs28) rfl (by kernel_rfl) (by kernel_rfl) (by kernel_rfl) (fun _ _ _ h => h) (by kernel_rfl) (Or.inl ⟨by rfl, ?ys28⟩) (HN1.out.cells.1.2) ?rs28
      case ys28 => (intro wS hS; go_simp <;> with_reducible rfl)
      refine EndsE.ready (rs := [5]) (by kernel_rfl) (by simp) ?_
      refine WaysE.cons rfl (fun Kq hK => ?_) ?_
      · go_simp
        refine hK.out _ _ (fun _ => (HN1.out.cells.1.2)) ?_
        clear hK Kq
        refine EndsE.ready (rs := [6]) (by kernel_rfl) (by simp) ?_
        refine WaysE.cons rfl (fun Kq hK => ?_) ?_
        · have HN22 := Lib.hid (HN1.out.below ((Below.refl _ _).alloc (Nat.le_refl _) (.cells #[.int .i64 x0, .int .i64 x1, .int .i64 x2] 123)))
          have HR23 := Lib.hid (show Reads (wd2.alloc (.cells #[.int .i64 x0, .int .i64 x1, .int .i64 x2] 123)) 3 (some ⟨wd2.heap.size, 0, none⟩) 1 [.int .i64 x0, .int .i64 x1, .int .i64 x2] from by have h := reads_litk wd2 [.int .i64 x0, .int .i64 x1, .int .i64 x2] 123 (n := 1) (k := 3) rfl; exact h)
          go_simp
          refine hK.out _ _ (fun _ => (HN22.out.cells.1.2)) ?_
          clear hK Kq
          refine EndsE.ready (rs := [7]) (by kernel_rfl) (by simp) ?_
          refine WaysE.cons rfl (fun Kq hK => ?_) ?_
          · refine step_pushL _ (by rfl) (.tmp 123) (.tmp 128) 66 (by rfl) (w.heap.size + 1) 123 _ 3 24 infoLink rfl (by omega) Try.underlying66 (some ⟨qb, 0, none⟩) K.length ck (rows3 K) (by rfl) HN22.out.ownK (some ⟨wd2.heap.size, 0, none⟩) 1 1 [.int .i64 x0, .int .i64 x1, .int .i64 x2] (by rfl) HR23.out (by simp [Value.oneCell']) (by omega) (by omega) (by have := HN22.out.lt; have := HN22.out.bl; omega) ?_
            intro A2 c2 w9 hown hg hbb hloc
            obtain ⟨n0, g0⟩ := box_at ((hg.block b HN22.out.lt (fun e' => HN22.out.nbK e'.symm)).trans HN22.out.box) (j := 1) rfl
            refine hK.out _ _ (fun _ => n0) ?_
            clear hK Kq
            refine EndsE.take (i := 8) (v := ?vs29) rfl (by kernel_rfl) (by kernel_rfl) (by kernel_rfl) (fun _ _ _ h => h) (by kernel_rfl) (Or.inl ⟨by rfl, ?ys29⟩) n0 ?rs29
            case ys29 => (intro wS hS; go_simp <;> with_reducible rfl)
            refine EndsE.ready (rs := [9]) (by kernel_rfl) (by simp) ?_
            refine WaysE.cons rfl (fun Kq hK => ?_) ?_
            · go_simp
              refine hK.out _ _ (fun h => absurd rfl h) ?_
              clear hK Kq
              refine EndsE.done (by kernel_rfl) ?_ _
              have HNN := Lib.hid (HN22.out.pushK (x := (x0, x1, x2)) rfl hg hown hloc)
              clear hown hg hbb hloc n0 g0
              go_wp2_with fail
              go_meet
              case rel => exact ⟨_, _, _, _, _, _, (show NBox w _ g b (k + 4010) _ ct T A2 c2 (K ++ [(x0, x1, x2)]) from by first | exact HNN.out | (rw [List.length_append]; exact HNN.out)).more (by omega), by omega, by simp; omega⟩
            exact WaysE.nil
          exact WaysE.nil
        exact WaysE.nil
      exact WaysE.nil
    have ez6 : ((z : Int) == 6) = false := by rw [beq_eq_false_iff_ne]; omega
    clear hz6
    by_cases hz7 : z = 7
    · subst hz7
      obtain ⟨⟨k0, k1⟩, f0, f1⟩ := HNB.out.cells
      go_wp2_with (at_make; refine wpList_mkQ _ rfl (.const (.int .i64 10)) (.const (.int .i64 10)) 65 rfl w1.heap.size 121 _ 3 _ infoTower (by decide) Try.underlying65 (fun u => ∃ x : Int, u = .int .i64 x) (by simp [Value.cells]) _ _ _ _ 10 rfl rfl rfl rfl (by omega) (by omega) (Nat.le_refl _) ?_; intro w3 old hol hall hown3 hb3 hz3; have HN3 := Lib.hid (HNB.out.below hb3); obtain ⟨⟨m0, m1⟩, p0, p1⟩ := HN3.out.cells)
      obtain ⟨X, hX, rfl⟩ := rows3_of 10 old hall hol
      have HN4 := Lib.hid (HNB.out.newT hb3 hown3 hX.symm)
      have HX := Lib.hid hX
      clear hol hall hown3 hb3 hz3 HN3 m0 m1 p0 p1 k0 k1 f0 f1 HNB hX
      refine (pick_any g _ 2 _ (by omega) (by omega) HN4.out.cur).mono ?_
      rintro e w5 ⟨y, rfl, hy, hy', hc, hd⟩
      obtain ⟨A3, c3, hn⟩ : ∃ A3 c3, NBox w w5 g b (k + 4010) A3 c3 X none 0 [] := ⟨_, _, (HN4.out.drew hd hc).more (by omega)⟩
      have HN := Lib.hid hn
      clear hn hc hd HN4
      obtain ⟨M, hM⟩ : ∃ M : Nat, M = 40 + y := ⟨_, rfl⟩
      have eM : (40 : Int) + (y : Int) = (M : Int) := by omega
      have hM41 : M ≤ 41 := by omega
      have wM : IntKind.i64.wrap ((M : Nat) : Int) = ((M : Nat) : Int) := IntWalk.i64_in _ ⟨by omega, by omega⟩
      clear hM hy hy'
      go_wp2_with fail
      go_loopw [9, 10] (fun a4 _ wr => ∃ av : Nat, ∃ Ak ck K, av ≤ 10 ∧ a4 = .int .i64 av ∧ List.length K ≤ M ∧ NBox w wr g b (k + 4010) A3 c3 X Ak ck K) (fun a4 _ _ => 10 - (intOf a4).toNat)
      case atStart => exact ⟨0, none, 0, [], Nat.zero_le _, rfl, by simp, HN.out⟩
      case round =>
        obtain ⟨av, Ak, ck, K, hav, rfl, hKM, hn⟩ := hrel
        clear HN
        have HN := Lib.hid hn
        clear hn
        by_cases hac : av < 10
        · have hac' : (av : Int) < 10 := by omega
          obtain ⟨wo, rfl⟩ : ∃ wo, wo = wr := ⟨_, rfl⟩
          have HNO := HN
          go_wp2
          go_loopw [10] (fun b4 wr => ∃ bv : Nat, ∃ Ak ck K, (bv ≤ 10) ∧ b4 = .int .i64 bv ∧ List.length K ≤ M ∧ NBox w wr g b (k + 4010) A3 c3 X Ak ck K) (fun b4 _ => 10 - (intOf b4).toNat)
          case atStart => exact ⟨av + 1, Ak, ck, K, by omega, by go_num, hKM, HNO.out⟩
          case round =>
            obtain ⟨bv, Ak, ck, K, hbv, rfl, hKM, hn⟩ := hrel
            clear HN HNO
            have HN := Lib.hid hn
            clear hn
            obtain ⟨⟨k0, k1⟩, f0, f1⟩ := HN.out.cells
            by_cases hbc : bv < 10
            rotate_left
            · have hbc' : ¬ (bv : Int) < 10 := by omega
              go_wp2
              go_roundw
              case rel => exact ⟨av + 1, Ak, ck, K, by omega, by go_num, hKM, HN.out⟩
              case measure => first | (simp [intOf]; done) | (simp [intOf]; omega)
            have hbc' : (bv : Int) < 10 := by omega
            by_cases hkl : K.length < M
            rotate_left
            · have hkl' : ¬ (K.length : Int) < (M : Int) := by omega
              go_wp2
              go_roundw
              case rel => exact ⟨av + 1, Ak, ck, K, by omega, by go_num, hKM, HN.out⟩
              case measure => first | (simp [intOf]; done) | (simp [intOf]; omega)
            have hkl' : (K.length : Int) < (M : Int) := by omega
            have HNa := Lib.hid (HN.out.below ((Below.refl _ _).alloc (Nat.le_refl _) (.cells #[.int .i64 (av : Int), .int .i64 (bv : Int), .int .i64 5] 123)))
            go_wp2_with (at_builtin; refine wpList_pushL _ rfl (.tmp 156) (.tmp 160) 66 rfl (w.heap.size + 1) 123 _ 3 24 infoLink rfl (by omega) Try.underlying66 Ak K.length ck (rows3 K) rfl HNa.out.ownK (some ⟨wr.heap.size, 0, none⟩) 1 1 [.int .i64 (av : Int), .int .i64 (bv : Int), .int .i64 5] rfl (reads_litk _ _ _ rfl) (by simp [Value.oneCell']) (by omega) (by omega) (by have := HNa.out.lt; have := HNa.out.bl; omega) ?_; intro A5 c5 w5 hown5 hg5 hb5 hl5; obtain ⟨n0, g0⟩ := box_at ((hg5.block b HNa.out.lt (fun e' => HNa.out.nbK e'.symm)).trans HNa.out.box) (j := 1) rfl; have HNN := Lib.hid (HNa.out.pushK (x := ((av : Int), (bv : Int), 5)) rfl hg5 hown5 hl5); clear hown5 hg5 hb5 hl5)
            go_roundw
            case rel => exact ⟨bv + 1, A5, c5, K ++ [((av : Int), (bv : Int), 5)], by omega, by go_num, by simp; omega, by first | exact HNN.out | (rw [List.length_append]; exact HNN.out)⟩
            case measure => first | (simp [intOf]; done) | (simp [intOf]; omega)
        · have hac' : ¬ (av : Int) < 10 := by omega
          go_wp2_with fail
          go_meet
          case rel => exact ⟨_, _, _, _, _, _, HN.out.more (by omega), by have := HX.out; omega, by omega⟩
    have ez7 : ((z : Int) == 7) = false := by rw [beq_eq_false_iff_ne]; omega
    clear hz7
    go_wp2_with fail
    go_meet
    case rel => exact ⟨_, _, _, _, _, _, HNB.out.more (by omega), by omega, by omega⟩
  case rest =>
  clear HNB
  obtain ⟨At, ct, T, Ak, ck, K, hn, hT17, hK41⟩ := hcut
  have HN := Lib.hid hn
  clear hn
  obtain ⟨⟨k0, k1⟩, f0, f1⟩ := HN.out.cells
  obtain ⟨r0, y0⟩ := box_at HN.out.res (j := 0) rfl
  obtain ⟨r1, y1⟩ := box_at HN.out.res (j := 1) rfl
  have hbl := HN.out.bl
  go_wp2
  obtain ⟨hres, hoT, hoK, hcc, hdd⟩ := HN.out.fin (v0 := .slice At T.length ct) (v1 := .slice Ak K.length ck) rfl
  obtain ⟨z0, _⟩ := box_at hres (j := 0) rfl
  obtain ⟨z1, _⟩ := box_at hres (j := 1) rfl
  try simp only [Exit.inBlock, Exit.then]
  refine bodyPost_ret (v := .agg #[.slice At T.length ct, .slice Ak K.length ck]) (by simp [results, Try.results110, go_sem, z0, z1]) rfl ?_
  exact ⟨At, ct, T, Ak, ck, K, rfl, hT17, hK41, hoT, hoK, hcc.mono (by omega), hdd⟩

end Go.Proofs.Ythpfgmnhpnfopaa
