/- The spec's drawing of a net. No conditions. -/
import Derived.Test.YthpfgmnhpnfopaaNw1
import Derived.Test.YthpfgmnhpnfopaaOrdE
import Derived.Test.YthpfgmnhpnfopaaDrL
import Derived.Test.YthpfgmnhpnfopaaHelp
import Derived.Deep.RegionHeld3
import Derived.Deep.CutBlock
namespace Go.Proofs.Ythpfgmnhpnfopaa
set_option linter.unusedSimpArgs false
set_option linter.unusedVariables false
open Go.RowKit


set_option maxHeartbeats 8000000 in
set_option maxRecDepth 100000 in
theorem net_any (g k : Nat) (w : World) (hk : k ≤ 1000000) (h : Cur w g k) :
    Calls Try.prog 105 #[.pointer (some ⟨g, 0, none⟩)] w fun e w' => ∃ At ct T Ak ck K, e = .returned (.agg #[.slice At (List.length T) ct, .slice Ak (List.length K) ck]) ∧ (1 ≤ T.length ∧ T.length ≤ 16) ∧ K.length ≤ 40 ∧ w'.ownsRow (w.heap.size + 1) 121 3 (.slice At T.length ct) T.length (rows3 T) ∧ w'.ownsRow (w.heap.size + 1) 123 3 (.slice Ak K.length ck) K.length (rows3 K) ∧ apart (.slice At T.length ct) (.slice Ak K.length ck) ∧ Cur w' g (k + 4000) ∧ Drew g w w' := by
  have HGW : Hid (g < w.heap.size) := Lib.hid h.lt
  have HN := Lib.hid (show NBox w ((w.alloc (.cells #[.slice none 0 0, .slice none 0 0] 68)).alloc (.cells #[.slice none 0 0, .slice none 0 0] 68)) g (w.heap.size + 1) k none 0 [] none 0 [] from
    ⟨by have h1 := heap_alloc_new (w.alloc (.cells #[.slice none 0 0, .slice none 0 0] 68)) (.cells #[.slice none 0 0, .slice none 0 0] 68); rw [World.size_alloc] at h1; exact h1, by rw [heap_alloc_old (w.alloc (.cells #[.slice none 0 0, .slice none 0 0] 68)) (.cells #[.slice none 0 0, .slice none 0 0] 68) (by simp)]; exact heap_alloc_new w _, own_start, own_start, (fun e => by cases e), (fun e => by cases e), .inl rfl, h.below (((Below.refl _ _).alloc (Nat.le_refl _) _).alloc (by simp) _), HGW.out, Nat.lt_succ_self _, Drew.of_below (((Below.refl _ _).alloc (Nat.le_refl _) _).alloc (by simp) _)⟩)
  clear h
  go_enter Try.func105, Try.ntmps105
  go_wp2_with fail
  generalize hb : w.heap.size + 1 = b at *
  have HBE := Lib.hid hb
  clear hb
  go_wp2_with fail
  refine (pick_any g _ 6 _ (by omega) (by omega) HN.out.cur).mono ?_
  rintro e w1 ⟨x, rfl, hx, hx', hc, hd⟩
  replace HN := Lib.hid (HN.out.drew hd hc)
  clear hc hd
  have hx5 : x ≤ 5 := by omega
  clear hx hx'
  go_wp2_with fail
  refine (one_any g _ 24 _ (by omega) (by omega) HN.out.cur).mono ?_
  rintro e w2 ⟨b1, rfl, hc, hd⟩
  replace HN := Lib.hid (HN.out.drew hd hc)
  clear hc hd
  go_upto_if 13 with fail
  go_cut [4] from 500 to 500 (fun v wx => ∃ c : Nat, v = .int .i64 (c : Int) ∧ (1 ≤ c ∧ c ≤ 16) ∧ wx = w2)
  case first =>
    cases b1 with
    | false =>
      go_wp2_with fail
      go_meet
      case rel => exact ⟨x + 1, by first | rfl | exact congrArg (Value.int .i64) (by omega), by omega, rfl⟩
    | true =>
      go_wp2_with fail
      go_meet
      case rel => exact ⟨16, rfl, by omega, rfl⟩
  case rest =>
  obtain ⟨cn, rfl, hcn, hwx⟩ := hcut
  subst hwx
  have HCN := Lib.hid hcn
  clear hx5
  go_wp2
  go_loopw [] (fun wr => ∃ At ct T, NBox w wr g b (k + 10 + 20 * List.length T) At ct T none 0 [] ∧ T.length ≤ cn) (fun wr => cn - lenV ((wr.cell? ⟨b, 0, none⟩).getD undef))
  case atStart => exact ⟨none, 0, [], HN.out.more (by simp), Nat.zero_le _⟩
  case round =>
    obtain ⟨At, ct, T, hn, hT⟩ := hrel
    clear HN
    have HN := Lib.hid hn
    clear hn
    obtain ⟨⟨k0, k1⟩, f0, f1⟩ := HN.out.cells
    have hcn := HCN.out
    by_cases hlt : T.length < cn
    · have hlt' : (T.length : Int) < (cn : Int) := by omega
      go_upto_region 6 with fail
      refine region_E (fun W => W.cell? ⟨b, 0, none⟩ = some (.slice At T.length ct)) 19 (by kernel_rfl) ?_
      have HN0 := Lib.hid (HN.out.tick 1)
      have HLO : Hid (w.heap.size + 1 ≤ wr.heap.size ∧ g < w.heap.size) := Lib.hid (by have := HN.out.lt; have := HN.out.bl; have := HGW.out; omega)
      have hT17 : T.length ≤ 16 := by omega
      generalize hwd : wr.drew = wd
      have HN1 : Hid (NBox w wd g b (k + 10 + 20 * T.length) At ct T none 0 []) := Lib.hid (by rw [← hwd]; exact HN0.out)
      clear hwd HN0
      refine EndsE.take (i := 0) (v := ?vq18) rfl (by kernel_rfl) (by kernel_rfl) (by kernel_rfl) (fun _ _ _ h => h) (by kernel_rfl) (Or.inl ⟨by rfl, ?yq18⟩) (HN1.out.cells.1.1) ?rq18
      case yq18 => (intro wS hS; go_simp <;> with_reducible rfl)
      refine EndsE.take (i := 1) (v := ?vq19) rfl (by kernel_rfl) (by kernel_rfl) (by kernel_rfl) (fun _ _ _ h => h) (by kernel_rfl) (Or.inl ⟨by rfl, ?yq19⟩) (HN1.out.cells.1.1) ?rq19
      case yq19 => (intro wS hS; go_simp <;> with_reducible rfl)
      refine EndsE.take (i := 2) (v := ?vq20) rfl (by kernel_rfl) (by kernel_rfl) (by kernel_rfl) (fun _ _ _ h => h) (by kernel_rfl) (Or.inl ⟨by rfl, ?yq20⟩) (HN1.out.cells.1.1) ?rq20
      case yq20 => (intro wS hS; go_simp <;> with_reducible rfl)
      refine EndsE.take (i := 3) (v := ?vq21) rfl (by kernel_rfl) (by kernel_rfl) (by kernel_rfl) (fun _ _ _ h => h) (by kernel_rfl) (Or.inl ⟨by rfl, ?yq21⟩) (HN1.out.cells.1.1) ?rq21
      case yq21 => (intro wS hS; go_simp <;> with_reducible rfl)
      refine EndsE.take (i := 7) (v := ?vq22) rfl (by kernel_rfl) (by kernel_rfl) (by kernel_rfl) (fun _ _ _ h => h) (by kernel_rfl) (Or.inl ⟨by rfl, ?yq22⟩) (HN1.out.cells.1.1) ?rq22
      case yq22 => (intro wS hS; go_simp <;> with_reducible rfl)
      refine EndsE.take (i := 8) (v := ?vq23) rfl (by kernel_rfl) (by kernel_rfl) (by kernel_rfl) (fun _ _ _ h => h) (by kernel_rfl) (Or.inl ⟨by rfl, ?yq23⟩) (HN1.out.cells.1.1) ?rq23
      case yq23 => (intro wS hS; go_simp <;> with_reducible rfl)
      refine EndsE.take (i := 12) (v := ?vq24) rfl (by kernel_rfl) (by kernel_rfl) (by kernel_rfl) (fun _ _ _ h => h) (by kernel_rfl) (Or.inl ⟨by rfl, ?yq24⟩) (HN1.out.cells.1.1) ?rq24
      case yq24 => (intro wS hS; go_simp <;> with_reducible rfl)
      refine EndsE.ready (rs := [4, 13]) (by kernel_rfl) (by simp) ?_
      refine WaysE.cons rfl (fun Kq hK => ?_) ?_
      · go_simp
        refine (pick_any g (k + 10 + 20 * T.length) 400 _ (by omega) (by omega) HN1.out.cur).mono ?_
        rintro e wq25 ⟨xa, rfl, hxa, hxa', hc, hd⟩
        have HN26 := Lib.hid (HN1.out.drew hd hc)
        clear hc hd
        go_wp2_with fail
        refine hK.out _ _ (fun _ => (HN26.out.cells.1.1)) ?_
        clear hK Kq
        refine EndsE.ready (rs := [5, 13]) (by kernel_rfl) (by simp) ?_
        refine WaysE.cons rfl (fun Kq hK => ?_) ?_
        · have HN27 := Lib.hid (HN26.out.below ((Below.refl _ _).alloc (Nat.le_refl _) (.cells #[.int .i64 0, .int .i64 30, .int .i64 100, .int .i64 999, .int .i64 (xa : Int)] 3)))
          have HR28 := Lib.hid (show Reads (wq25.alloc (.cells #[.int .i64 0, .int .i64 30, .int .i64 100, .int .i64 999, .int .i64 (xa : Int)] 3)) 1 (some ⟨wq25.heap.size, 0, none⟩) 5 [.int .i64 0, .int .i64 30, .int .i64 100, .int .i64 999, .int .i64 (xa : Int)] from by have h := reads_litk wq25 [.int .i64 0, .int .i64 30, .int .i64 100, .int .i64 999, .int .i64 (xa : Int)] 3 (n := 5) (k := 1) rfl; exact h)
          go_simp
          refine hK.out _ _ (fun _ => (HN27.out.cells.1.1)) ?_
          clear hK Kq
          refine EndsE.ready (rs := [6, 13]) (by kernel_rfl) (by simp) ?_
          refine WaysE.cons rfl (fun Kq hK => ?_) ?_
          · go_simp
            refine (among_any g (k + 10 + 20 * T.length + 2) (some ⟨wq25.heap.size, 0, none⟩) 5 5 [0, 30, 100, 999, (xa : Int)] _ (by omega) (by omega) (by omega) HN27.out.cur HR28.out (fun ad e => by injection e with e; subst e; have := HN26.out.gl; have := HN26.out.bl; have := HN26.out.lt; simp only; omega)).mono ?_
            rintro e wq29 ⟨ya, hya, rfl, hc, hd⟩
            have HN30 := Lib.hid (HN27.out.drew hd hc)
            clear hc hd hya
            go_wp2_with fail
            refine hK.out _ _ (fun _ => (HN30.out.cells.1.1)) ?_
            clear hK Kq
            refine EndsE.ready (rs := [9, 13]) (by kernel_rfl) (by simp) ?_
            refine WaysE.cons rfl (fun Kq hK => ?_) ?_
            · go_simp
              refine (pick_any g (k + 10 + 20 * T.length + 2 + 2) 400 _ (by omega) (by omega) HN30.out.cur).mono ?_
              rintro e wq31 ⟨xb, rfl, hxb, hxb', hc, hd⟩
              have HN32 := Lib.hid (HN30.out.drew hd hc)
              clear hc hd
              go_wp2_with fail
              refine hK.out _ _ (fun _ => (HN32.out.cells.1.1)) ?_
              clear hK Kq
              refine EndsE.ready (rs := [10, 13]) (by kernel_rfl) (by simp) ?_
              refine WaysE.cons rfl (fun Kq hK => ?_) ?_
              · have HN33 := Lib.hid (HN32.out.below ((Below.refl _ _).alloc (Nat.le_refl _) (.cells #[.int .i64 0, .int .i64 40, .int .i64 999, .int .i64 (xb : Int)] 3)))
                have HR34 := Lib.hid (show Reads (wq31.alloc (.cells #[.int .i64 0, .int .i64 40, .int .i64 999, .int .i64 (xb : Int)] 3)) 1 (some ⟨wq31.heap.size, 0, none⟩) 4 [.int .i64 0, .int .i64 40, .int .i64 999, .int .i64 (xb : Int)] from by have h := reads_litk wq31 [.int .i64 0, .int .i64 40, .int .i64 999, .int .i64 (xb : Int)] 3 (n := 4) (k := 1) rfl; exact h)
                go_simp
                refine hK.out _ _ (fun _ => (HN33.out.cells.1.1)) ?_
                clear hK Kq
                refine EndsE.ready (rs := [11, 13]) (by kernel_rfl) (by simp) ?_
                refine WaysE.cons rfl (fun Kq hK => ?_) ?_
                · go_simp
                  refine (among_any g (k + 10 + 20 * T.length + 2 + 2 + 2) (some ⟨wq31.heap.size, 0, none⟩) 4 4 [0, 40, 999, (xb : Int)] _ (by omega) (by omega) (by omega) HN33.out.cur HR34.out (fun ad e => by injection e with e; subst e; have := HN32.out.gl; have := HN32.out.bl; have := HN32.out.lt; simp only; omega)).mono ?_
                  rintro e wq35 ⟨yb, hyb, rfl, hc, hd⟩
                  have HN36 := Lib.hid (HN33.out.drew hd hc)
                  clear hc hd hyb
                  go_wp2_with fail
                  refine hK.out _ _ (fun _ => (HN36.out.cells.1.1)) ?_
                  clear hK Kq
                  refine EndsE.ready (rs := [13]) (by kernel_rfl) (by simp) ?_
                  refine WaysE.cons rfl (fun Kq hK => ?_) ?_
                  · have HN37 := Lib.hid (HN36.out.below ((Below.refl _ _).alloc (Nat.le_refl _) (.cells #[.int .i64 0, .int .i64 20, .int .i64 120, .int .i64 500] 3)))
                    have HR38 := Lib.hid (show Reads (wq35.alloc (.cells #[.int .i64 0, .int .i64 20, .int .i64 120, .int .i64 500] 3)) 1 (some ⟨wq35.heap.size, 0, none⟩) 4 [.int .i64 0, .int .i64 20, .int .i64 120, .int .i64 500] from by have h := reads_litk wq35 [.int .i64 0, .int .i64 20, .int .i64 120, .int .i64 500] 3 (n := 4) (k := 1) rfl; exact h)
                    go_simp
                    refine hK.out _ _ (fun _ => (HN37.out.cells.1.1)) ?_
                    clear hK Kq
                    refine EndsE.ready (rs := [14]) (by kernel_rfl) (by simp) ?_
                    refine WaysE.cons rfl (fun Kq hK => ?_) ?_
                    · go_simp
                      refine (among_any g (k + 10 + 20 * T.length + 2 + 2 + 2 + 2) (some ⟨wq35.heap.size, 0, none⟩) 4 4 [0, 20, 120, 500] _ (by omega) (by omega) (by omega) HN37.out.cur HR38.out (fun ad e => by injection e with e; subst e; have := HN36.out.gl; have := HN36.out.bl; have := HN36.out.lt; simp only; omega)).mono ?_
                      rintro e wq39 ⟨yc, hyc, rfl, hc, hd⟩
                      have HN40 := Lib.hid (HN37.out.drew hd hc)
                      clear hc hd hyc
                      go_wp2_with fail
                      refine hK.out _ _ (fun _ => (HN40.out.cells.1.1)) ?_
                      clear hK Kq
                      refine EndsE.take (i := 15) (v := ?vq41) rfl (by kernel_rfl) (by kernel_rfl) (by kernel_rfl) (fun _ _ _ h => h) (by kernel_rfl) (Or.inl ⟨by rfl, ?yq41⟩) (HN40.out.cells.1.1) ?rq41
                      case yq41 => (intro wS hS; go_simp <;> with_reducible rfl)
                      refine EndsE.ready (rs := [16]) (by kernel_rfl) (by simp) ?_
                      refine WaysE.cons rfl (fun Kq hK => ?_) ?_
                      · have HN42 := Lib.hid (HN40.out.below ((Below.refl _ _).alloc (Nat.le_refl _) (.cells #[.int .i64 ya, .int .i64 yb, .int .i64 yc] 121)))
                        have HR43 := Lib.hid (show Reads (wq39.alloc (.cells #[.int .i64 ya, .int .i64 yb, .int .i64 yc] 121)) 3 (some ⟨wq39.heap.size, 0, none⟩) 1 [.int .i64 ya, .int .i64 yb, .int .i64 yc] from by have h := reads_litk wq39 [.int .i64 ya, .int .i64 yb, .int .i64 yc] 121 (n := 1) (k := 3) rfl; exact h)
                        go_simp
                        refine hK.out _ _ (fun _ => (HN42.out.cells.1.1)) ?_
                        clear hK Kq
                        refine EndsE.ready (rs := [17]) (by kernel_rfl) (by simp) ?_
                        refine WaysE.cons rfl (fun Kq hK => ?_) ?_
                        · refine step_pushL _ (by rfl) (.tmp 20) (.tmp 35) 65 (by rfl) (w.heap.size + 1) 121 _ 3 24 infoTower rfl (by omega) Try.underlying65 At T.length ct (rows3 T) (by rfl) HN42.out.ownT (some ⟨wq39.heap.size, 0, none⟩) 1 1 [.int .i64 ya, .int .i64 yb, .int .i64 yc] (by rfl) HR43.out (by simp [Value.oneCell']) (by omega) (by omega) (by have := HN42.out.lt; have := HN42.out.bl; omega) ?_
                          intro A2 c2 w9 hown hg hbb hloc
                          obtain ⟨n0, g0⟩ := box_at ((hg.block b HN42.out.lt (fun e' => HN42.out.nbT e'.symm)).trans HN42.out.box) (j := 0) rfl
                          refine hK.out _ _ (fun _ => n0) ?_
                          clear hK Kq
                          refine EndsE.take (i := 18) (v := ?vq44) rfl (by kernel_rfl) (by kernel_rfl) (by kernel_rfl) (fun _ _ _ h => h) (by kernel_rfl) (Or.inl ⟨by rfl, ?yq44⟩) n0 ?rq44
                          case yq44 => (intro wS hS; go_simp <;> with_reducible rfl)
                          refine EndsE.ready (rs := [19]) (by kernel_rfl) (by simp) ?_
                          refine WaysE.cons rfl (fun Kq hK => ?_) ?_
                          · go_simp
                            refine hK.out _ _ (fun h => absurd rfl h) ?_
                            clear hK Kq
                            refine EndsE.done (by kernel_rfl) ?_ _
                            have HNN := Lib.hid ((HN42.out.pushT (x := (ya, yb, yc)) rfl hg hown hloc).more (k' := k + 10 + 20 * (T.length + 1)) (by omega))
                            clear hown hg hbb hloc n0 g0
                            go_wp2
                            go_roundw
                            case rel => exact ⟨A2, c2, T ++ [(ya, yb, yc)], by rw [List.length_append]; exact HNN.out, by simp; omega⟩
                            case measure =>
                              have h1 := HNN.out.cells.1.1
                              have h2 := k0
                              simp only [h1, h2, Option.getD_some, lenV, List.length_append, List.length_singleton]
                              omega
                          exact WaysE.nil
                        exact WaysE.nil
                      exact WaysE.nil
                    exact WaysE.nil
                  exact WaysE.nil
                refine WaysE.cons rfl (fun Kq hK => ?_) ?_
                · have HN45 := Lib.hid (HN33.out.below ((Below.refl _ _).alloc (Nat.le_refl _) (.cells #[.int .i64 0, .int .i64 20, .int .i64 120, .int .i64 500] 3)))
                  have HR47 := Lib.hid (HR34.out.alloc (.cells #[.int .i64 0, .int .i64 20, .int .i64 120, .int .i64 500] 3))
                  have HR46 := Lib.hid (show Reads ((wq31.alloc (.cells #[.int .i64 0, .int .i64 40, .int .i64 999, .int .i64 (xb : Int)] 3)).alloc (.cells #[.int .i64 0, .int .i64 20, .int .i64 120, .int .i64 500] 3)) 1 (some ⟨wq31.heap.size + 1, 0, none⟩) 4 [.int .i64 0, .int .i64 20, .int .i64 120, .int .i64 500] from by have h := reads_litk (wq31.alloc (.cells #[.int .i64 0, .int .i64 40, .int .i64 999, .int .i64 (xb : Int)] 3)) [.int .i64 0, .int .i64 20, .int .i64 120, .int .i64 500] 3 (n := 4) (k := 1) rfl; rw [World.size_alloc wq31 (.cells #[.int .i64 0, .int .i64 40, .int .i64 999, .int .i64 (xb : Int)] 3)] at h; exact h)
                  go_simp
                  refine hK.out _ _ (fun _ => (HN45.out.cells.1.1)) ?_
                  clear hK Kq
                  refine EndsE.ready (rs := [11]) (by kernel_rfl) (by simp) ?_
                  refine WaysE.cons rfl (fun Kq hK => ?_) ?_
                  · go_simp
                    refine (among_any g (k + 10 + 20 * T.length + 2 + 2 + 2) (some ⟨wq31.heap.size, 0, none⟩) 4 4 [0, 40, 999, (xb : Int)] _ (by omega) (by omega) (by omega) HN45.out.cur HR47.out (fun ad e => by injection e with e; subst e; have := HN32.out.gl; have := HN32.out.bl; have := HN32.out.lt; simp only; omega)).mono ?_
                    rintro e wq48 ⟨yb, hyb, rfl, hc, hd⟩
                    have HN49 := Lib.hid (HN45.out.drew hd hc)
                    have HR50 := Lib.hid (reads_drew HR46.out (fun ad e => by injection e with e; subst e; have := HN32.out.gl; have := HN32.out.bl; have := HN32.out.lt; simp only; omega) hd)
                    clear hc hd hyb
                    go_wp2_with fail
                    refine hK.out _ _ (fun _ => (HN49.out.cells.1.1)) ?_
                    clear hK Kq
                    refine EndsE.ready (rs := [14]) (by kernel_rfl) (by simp) ?_
                    refine WaysE.cons rfl (fun Kq hK => ?_) ?_
                    · go_simp
                      refine (among_any g (k + 10 + 20 * T.length + 2 + 2 + 2 + 2) (some ⟨wq31.heap.size + 1, 0, none⟩) 4 4 [0, 20, 120, 500] _ (by omega) (by omega) (by omega) HN49.out.cur HR50.out (fun ad e => by injection e with e; subst e; have := HN32.out.gl; have := HN32.out.bl; have := HN32.out.lt; simp only; omega)).mono ?_
                      rintro e wq51 ⟨yc, hyc, rfl, hc, hd⟩
                      have HN52 := Lib.hid (HN49.out.drew hd hc)
                      clear hc hd hyc
                      go_wp2_with fail
                      refine hK.out _ _ (fun _ => (HN52.out.cells.1.1)) ?_
                      clear hK Kq
                      refine EndsE.take (i := 15) (v := ?vq53) rfl (by kernel_rfl) (by kernel_rfl) (by kernel_rfl) (fun _ _ _ h => h) (by kernel_rfl) (Or.inl ⟨by rfl, ?yq53⟩) (HN52.out.cells.1.1) ?rq53
                      case yq53 => (intro wS hS; go_simp <;> with_reducible rfl)
                      refine EndsE.ready (rs := [16]) (by kernel_rfl) (by simp) ?_
                      refine WaysE.cons rfl (fun Kq hK => ?_) ?_
                      · have HN54 := Lib.hid (HN52.out.below ((Below.refl _ _).alloc (Nat.le_refl _) (.cells #[.int .i64 ya, .int .i64 yb, .int .i64 yc] 121)))
                        have HR55 := Lib.hid (show Reads (wq51.alloc (.cells #[.int .i64 ya, .int .i64 yb, .int .i64 yc] 121)) 3 (some ⟨wq51.heap.size, 0, none⟩) 1 [.int .i64 ya, .int .i64 yb, .int .i64 yc] from by have h := reads_litk wq51 [.int .i64 ya, .int .i64 yb, .int .i64 yc] 121 (n := 1) (k := 3) rfl; exact h)
                        go_simp
                        refine hK.out _ _ (fun _ => (HN54.out.cells.1.1)) ?_
                        clear hK Kq
                        refine EndsE.ready (rs := [17]) (by kernel_rfl) (by simp) ?_
                        refine WaysE.cons rfl (fun Kq hK => ?_) ?_
                        · refine step_pushL _ (by rfl) (.tmp 20) (.tmp 35) 65 (by rfl) (w.heap.size + 1) 121 _ 3 24 infoTower rfl (by omega) Try.underlying65 At T.length ct (rows3 T) (by rfl) HN54.out.ownT (some ⟨wq51.heap.size, 0, none⟩) 1 1 [.int .i64 ya, .int .i64 yb, .int .i64 yc] (by rfl) HR55.out (by simp [Value.oneCell']) (by omega) (by omega) (by have := HN54.out.lt; have := HN54.out.bl; omega) ?_
                          intro A2 c2 w9 hown hg hbb hloc
                          obtain ⟨n0, g0⟩ := box_at ((hg.block b HN54.out.lt (fun e' => HN54.out.nbT e'.symm)).trans HN54.out.box) (j := 0) rfl
                          refine hK.out _ _ (fun _ => n0) ?_
                          clear hK Kq
                          refine EndsE.take (i := 18) (v := ?vq56) rfl (by kernel_rfl) (by kernel_rfl) (by kernel_rfl) (fun _ _ _ h => h) (by kernel_rfl) (Or.inl ⟨by rfl, ?yq56⟩) n0 ?rq56
                          case yq56 => (intro wS hS; go_simp <;> with_reducible rfl)
                          refine EndsE.ready (rs := [19]) (by kernel_rfl) (by simp) ?_
                          refine WaysE.cons rfl (fun Kq hK => ?_) ?_
                          · go_simp
                            refine hK.out _ _ (fun h => absurd rfl h) ?_
                            clear hK Kq
                            refine EndsE.done (by kernel_rfl) ?_ _
                            have HNN := Lib.hid ((HN54.out.pushT (x := (ya, yb, yc)) rfl hg hown hloc).more (k' := k + 10 + 20 * (T.length + 1)) (by omega))
                            clear hown hg hbb hloc n0 g0
                            go_wp2
                            go_roundw
                            case rel => exact ⟨A2, c2, T ++ [(ya, yb, yc)], by rw [List.length_append]; exact HNN.out, by simp; omega⟩
                            case measure =>
                              have h1 := HNN.out.cells.1.1
                              have h2 := k0
                              simp only [h1, h2, Option.getD_some, lenV, List.length_append, List.length_singleton]
                              omega
                          exact WaysE.nil
                        exact WaysE.nil
                      exact WaysE.nil
                    exact WaysE.nil
                  exact WaysE.nil
                exact WaysE.nil
              refine WaysE.cons rfl (fun Kq hK => ?_) ?_
              · have HN57 := Lib.hid (HN32.out.below ((Below.refl _ _).alloc (Nat.le_refl _) (.cells #[.int .i64 0, .int .i64 20, .int .i64 120, .int .i64 500] 3)))
                have HR58 := Lib.hid (show Reads (wq31.alloc (.cells #[.int .i64 0, .int .i64 20, .int .i64 120, .int .i64 500] 3)) 1 (some ⟨wq31.heap.size, 0, none⟩) 4 [.int .i64 0, .int .i64 20, .int .i64 120, .int .i64 500] from by have h := reads_litk wq31 [.int .i64 0, .int .i64 20, .int .i64 120, .int .i64 500] 3 (n := 4) (k := 1) rfl; exact h)
                go_simp
                refine hK.out _ _ (fun _ => (HN57.out.cells.1.1)) ?_
                clear hK Kq
                refine EndsE.ready (rs := [10]) (by kernel_rfl) (by simp) ?_
                refine WaysE.cons rfl (fun Kq hK => ?_) ?_
                · have HN59 := Lib.hid (HN57.out.below ((Below.refl _ _).alloc (Nat.le_refl _) (.cells #[.int .i64 0, .int .i64 40, .int .i64 999, .int .i64 (xb : Int)] 3)))
                  have HR61 := Lib.hid (HR58.out.alloc (.cells #[.int .i64 0, .int .i64 40, .int .i64 999, .int .i64 (xb : Int)] 3))
                  have HR60 := Lib.hid (show Reads ((wq31.alloc (.cells #[.int .i64 0, .int .i64 20, .int .i64 120, .int .i64 500] 3)).alloc (.cells #[.int .i64 0, .int .i64 40, .int .i64 999, .int .i64 (xb : Int)] 3)) 1 (some ⟨wq31.heap.size + 1, 0, none⟩) 4 [.int .i64 0, .int .i64 40, .int .i64 999, .int .i64 (xb : Int)] from by have h := reads_litk (wq31.alloc (.cells #[.int .i64 0, .int .i64 20, .int .i64 120, .int .i64 500] 3)) [.int .i64 0, .int .i64 40, .int .i64 999, .int .i64 (xb : Int)] 3 (n := 4) (k := 1) rfl; rw [World.size_alloc wq31 (.cells #[.int .i64 0, .int .i64 20, .int .i64 120, .int .i64 500] 3)] at h; exact h)
                  go_simp
                  refine hK.out _ _ (fun _ => (HN59.out.cells.1.1)) ?_
                  clear hK Kq
                  refine EndsE.ready (rs := [11]) (by kernel_rfl) (by simp) ?_
                  refine WaysE.cons rfl (fun Kq hK => ?_) ?_
                  · go_simp
                    refine (among_any g (k + 10 + 20 * T.length + 2 + 2 + 2) (some ⟨wq31.heap.size + 1, 0, none⟩) 4 4 [0, 40, 999, (xb : Int)] _ (by omega) (by omega) (by omega) HN59.out.cur HR60.out (fun ad e => by injection e with e; subst e; have := HN32.out.gl; have := HN32.out.bl; have := HN32.out.lt; simp only; omega)).mono ?_
                    rintro e wq62 ⟨yb, hyb, rfl, hc, hd⟩
                    have HN63 := Lib.hid (HN59.out.drew hd hc)
                    have HR64 := Lib.hid (reads_drew HR61.out (fun ad e => by injection e with e; subst e; have := HN32.out.gl; have := HN32.out.bl; have := HN32.out.lt; simp only; omega) hd)
                    clear hc hd hyb
                    go_wp2_with fail
                    refine hK.out _ _ (fun _ => (HN63.out.cells.1.1)) ?_
                    clear hK Kq
                    refine EndsE.ready (rs := [14]) (by kernel_rfl) (by simp) ?_
                    refine WaysE.cons rfl (fun Kq hK => ?_) ?_
                    · go_simp
                      refine (among_any g (k + 10 + 20 * T.length + 2 + 2 + 2 + 2) (some ⟨wq31.heap.size, 0, none⟩) 4 4 [0, 20, 120, 500] _ (by omega) (by omega) (by omega) HN63.out.cur HR64.out (fun ad e => by injection e with e; subst e; have := HN32.out.gl; have := HN32.out.bl; have := HN32.out.lt; simp only; omega)).mono ?_
                      rintro e wq65 ⟨yc, hyc, rfl, hc, hd⟩
                      have HN66 := Lib.hid (HN63.out.drew hd hc)
                      clear hc hd hyc
                      go_wp2_with fail
                      refine hK.out _ _ (fun _ => (HN66.out.cells.1.1)) ?_
                      clear hK Kq
                      refine EndsE.take (i := 15) (v := ?vq67) rfl (by kernel_rfl) (by kernel_rfl) (by kernel_rfl) (fun _ _ _ h => h) (by kernel_rfl) (Or.inl ⟨by rfl, ?yq67⟩) (HN66.out.cells.1.1) ?rq67
                      case yq67 => (intro wS hS; go_simp <;> with_reducible rfl)
                      refine EndsE.ready (rs := [16]) (by kernel_rfl) (by simp) ?_
                      refine WaysE.cons rfl (fun Kq hK => ?_) ?_
                      · have HN68 := Lib.hid (HN66.out.below ((Below.refl _ _).alloc (Nat.le_refl _) (.cells #[.int .i64 ya, .int .i64 yb, .int .i64 yc] 121)))
                        have HR69 := Lib.hid (show Reads (wq65.alloc (.cells #[.int .i64 ya, .int .i64 yb, .int .i64 yc] 121)) 3 (some ⟨wq65.heap.size, 0, none⟩) 1 [.int .i64 ya, .int .i64 yb, .int .i64 yc] from by have h := reads_litk wq65 [.int .i64 ya, .int .i64 yb, .int .i64 yc] 121 (n := 1) (k := 3) rfl; exact h)
                        go_simp
                        refine hK.out _ _ (fun _ => (HN68.out.cells.1.1)) ?_
                        clear hK Kq
                        refine EndsE.ready (rs := [17]) (by kernel_rfl) (by simp) ?_
                        refine WaysE.cons rfl (fun Kq hK => ?_) ?_
                        · refine step_pushL _ (by rfl) (.tmp 20) (.tmp 35) 65 (by rfl) (w.heap.size + 1) 121 _ 3 24 infoTower rfl (by omega) Try.underlying65 At T.length ct (rows3 T) (by rfl) HN68.out.ownT (some ⟨wq65.heap.size, 0, none⟩) 1 1 [.int .i64 ya, .int .i64 yb, .int .i64 yc] (by rfl) HR69.out (by simp [Value.oneCell']) (by omega) (by omega) (by have := HN68.out.lt; have := HN68.out.bl; omega) ?_
                          intro A2 c2 w9 hown hg hbb hloc
                          obtain ⟨n0, g0⟩ := box_at ((hg.block b HN68.out.lt (fun e' => HN68.out.nbT e'.symm)).trans HN68.out.box) (j := 0) rfl
                          refine hK.out _ _ (fun _ => n0) ?_
                          clear hK Kq
                          refine EndsE.take (i := 18) (v := ?vq70) rfl (by kernel_rfl) (by kernel_rfl) (by kernel_rfl) (fun _ _ _ h => h) (by kernel_rfl) (Or.inl ⟨by rfl, ?yq70⟩) n0 ?rq70
                          case yq70 => (intro wS hS; go_simp <;> with_reducible rfl)
                          refine EndsE.ready (rs := [19]) (by kernel_rfl) (by simp) ?_
                          refine WaysE.cons rfl (fun Kq hK => ?_) ?_
                          · go_simp
                            refine hK.out _ _ (fun h => absurd rfl h) ?_
                            clear hK Kq
                            refine EndsE.done (by kernel_rfl) ?_ _
                            have HNN := Lib.hid ((HN68.out.pushT (x := (ya, yb, yc)) rfl hg hown hloc).more (k' := k + 10 + 20 * (T.length + 1)) (by omega))
                            clear hown hg hbb hloc n0 g0
                            go_wp2
                            go_roundw
                            case rel => exact ⟨A2, c2, T ++ [(ya, yb, yc)], by rw [List.length_append]; exact HNN.out, by simp; omega⟩
                            case measure =>
                              have h1 := HNN.out.cells.1.1
                              have h2 := k0
                              simp only [h1, h2, Option.getD_some, lenV, List.length_append, List.length_singleton]
                              omega
                          exact WaysE.nil
                        exact WaysE.nil
                      exact WaysE.nil
                    exact WaysE.nil
                  exact WaysE.nil
                exact WaysE.nil
              exact WaysE.nil
            refine WaysE.cons rfl (fun Kq hK => ?_) ?_
            · have HN71 := Lib.hid (HN30.out.below ((Below.refl _ _).alloc (Nat.le_refl _) (.cells #[.int .i64 0, .int .i64 20, .int .i64 120, .int .i64 500] 3)))
              have HR72 := Lib.hid (show Reads (wq29.alloc (.cells #[.int .i64 0, .int .i64 20, .int .i64 120, .int .i64 500] 3)) 1 (some ⟨wq29.heap.size, 0, none⟩) 4 [.int .i64 0, .int .i64 20, .int .i64 120, .int .i64 500] from by have h := reads_litk wq29 [.int .i64 0, .int .i64 20, .int .i64 120, .int .i64 500] 3 (n := 4) (k := 1) rfl; exact h)
              go_simp
              refine hK.out _ _ (fun _ => (HN71.out.cells.1.1)) ?_
              clear hK Kq
              refine EndsE.ready (rs := [9]) (by kernel_rfl) (by simp) ?_
              refine WaysE.cons rfl (fun Kq hK => ?_) ?_
              · go_simp
                refine (pick_any g (k + 10 + 20 * T.length + 2 + 2) 400 _ (by omega) (by omega) HN71.out.cur).mono ?_
                rintro e wq73 ⟨xb, rfl, hxb, hxb', hc, hd⟩
                have HN74 := Lib.hid (HN71.out.drew hd hc)
                have HR75 := Lib.hid (reads_drew HR72.out (fun ad e => by injection e with e; subst e; have := HN30.out.gl; have := HN30.out.bl; have := HN30.out.lt; simp only; omega) hd)
                clear hc hd
                go_wp2_with fail
                refine hK.out _ _ (fun _ => (HN74.out.cells.1.1)) ?_
                clear hK Kq
                refine EndsE.ready (rs := [10]) (by kernel_rfl) (by simp) ?_
                refine WaysE.cons rfl (fun Kq hK => ?_) ?_
                · have HN76 := Lib.hid (HN74.out.below ((Below.refl _ _).alloc (Nat.le_refl _) (.cells #[.int .i64 0, .int .i64 40, .int .i64 999, .int .i64 (xb : Int)] 3)))
                  have HR78 := Lib.hid (HR75.out.alloc (.cells #[.int .i64 0, .int .i64 40, .int .i64 999, .int .i64 (xb : Int)] 3))
                  have HR77 := Lib.hid (show Reads (wq73.alloc (.cells #[.int .i64 0, .int .i64 40, .int .i64 999, .int .i64 (xb : Int)] 3)) 1 (some ⟨wq73.heap.size, 0, none⟩) 4 [.int .i64 0, .int .i64 40, .int .i64 999, .int .i64 (xb : Int)] from by have h := reads_litk wq73 [.int .i64 0, .int .i64 40, .int .i64 999, .int .i64 (xb : Int)] 3 (n := 4) (k := 1) rfl; exact h)
                  go_simp
                  refine hK.out _ _ (fun _ => (HN76.out.cells.1.1)) ?_
                  clear hK Kq
                  refine EndsE.ready (rs := [11]) (by kernel_rfl) (by simp) ?_
                  refine WaysE.cons rfl (fun Kq hK => ?_) ?_
                  · go_simp
                    refine (among_any g (k + 10 + 20 * T.length + 2 + 2 + 2) (some ⟨wq73.heap.size, 0, none⟩) 4 4 [0, 40, 999, (xb : Int)] _ (by omega) (by omega) (by omega) HN76.out.cur HR77.out (fun ad e => by injection e with e; subst e; have := HN74.out.gl; have := HN74.out.bl; have := HN74.out.lt; simp only; omega)).mono ?_
                    rintro e wq79 ⟨yb, hyb, rfl, hc, hd⟩
                    have HN80 := Lib.hid (HN76.out.drew hd hc)
                    have HR81 := Lib.hid (reads_drew HR78.out (fun ad e => by injection e with e; subst e; have := HN30.out.gl; have := HN30.out.bl; have := HN30.out.lt; simp only; omega) hd)
                    clear hc hd hyb
                    go_wp2_with fail
                    refine hK.out _ _ (fun _ => (HN80.out.cells.1.1)) ?_
                    clear hK Kq
                    refine EndsE.ready (rs := [14]) (by kernel_rfl) (by simp) ?_
                    refine WaysE.cons rfl (fun Kq hK => ?_) ?_
                    · go_simp
                      refine (among_any g (k + 10 + 20 * T.length + 2 + 2 + 2 + 2) (some ⟨wq29.heap.size, 0, none⟩) 4 4 [0, 20, 120, 500] _ (by omega) (by omega) (by omega) HN80.out.cur HR81.out (fun ad e => by injection e with e; subst e; have := HN30.out.gl; have := HN30.out.bl; have := HN30.out.lt; simp only; omega)).mono ?_
                      rintro e wq82 ⟨yc, hyc, rfl, hc, hd⟩
                      have HN83 := Lib.hid (HN80.out.drew hd hc)
                      clear hc hd hyc
                      go_wp2_with fail
                      refine hK.out _ _ (fun _ => (HN83.out.cells.1.1)) ?_
                      clear hK Kq
                      refine EndsE.take (i := 15) (v := ?vq84) rfl (by kernel_rfl) (by kernel_rfl) (by kernel_rfl) (fun _ _ _ h => h) (by kernel_rfl) (Or.inl ⟨by rfl, ?yq84⟩) (HN83.out.cells.1.1) ?rq84
                      case yq84 => (intro wS hS; go_simp <;> with_reducible rfl)
                      refine EndsE.ready (rs := [16]) (by kernel_rfl) (by simp) ?_
                      refine WaysE.cons rfl (fun Kq hK => ?_) ?_
                      · have HN85 := Lib.hid (HN83.out.below ((Below.refl _ _).alloc (Nat.le_refl _) (.cells #[.int .i64 ya, .int .i64 yb, .int .i64 yc] 121)))
                        have HR86 := Lib.hid (show Reads (wq82.alloc (.cells #[.int .i64 ya, .int .i64 yb, .int .i64 yc] 121)) 3 (some ⟨wq82.heap.size, 0, none⟩) 1 [.int .i64 ya, .int .i64 yb, .int .i64 yc] from by have h := reads_litk wq82 [.int .i64 ya, .int .i64 yb, .int .i64 yc] 121 (n := 1) (k := 3) rfl; exact h)
                        go_simp
                        refine hK.out _ _ (fun _ => (HN85.out.cells.1.1)) ?_
                        clear hK Kq
                        refine EndsE.ready (rs := [17]) (by kernel_rfl) (by simp) ?_
                        refine WaysE.cons rfl (fun Kq hK => ?_) ?_
                        · refine step_pushL _ (by rfl) (.tmp 20) (.tmp 35) 65 (by rfl) (w.heap.size + 1) 121 _ 3 24 infoTower rfl (by omega) Try.underlying65 At T.length ct (rows3 T) (by rfl) HN85.out.ownT (some ⟨wq82.heap.size, 0, none⟩) 1 1 [.int .i64 ya, .int .i64 yb, .int .i64 yc] (by rfl) HR86.out (by simp [Value.oneCell']) (by omega) (by omega) (by have := HN85.out.lt; have := HN85.out.bl; omega) ?_
                          intro A2 c2 w9 hown hg hbb hloc
                          obtain ⟨n0, g0⟩ := box_at ((hg.block b HN85.out.lt (fun e' => HN85.out.nbT e'.symm)).trans HN85.out.box) (j := 0) rfl
                          refine hK.out _ _ (fun _ => n0) ?_
                          clear hK Kq
                          refine EndsE.take (i := 18) (v := ?vq87) rfl (by kernel_rfl) (by kernel_rfl) (by kernel_rfl) (fun _ _ _ h => h) (by kernel_rfl) (Or.inl ⟨by rfl, ?yq87⟩) n0 ?rq87
                          case yq87 => (intro wS hS; go_simp <;> with_reducible rfl)
                          refine EndsE.ready (rs := [19]) (by kernel_rfl) (by simp) ?_
                          refine WaysE.cons rfl (fun Kq hK => ?_) ?_
                          · go_simp
                            refine hK.out _ _ (fun h => absurd rfl h) ?_
                            clear hK Kq
                            refine EndsE.done (by kernel_rfl) ?_ _
                            have HNN := Lib.hid ((HN85.out.pushT (x := (ya, yb, yc)) rfl hg hown hloc).more (k' := k + 10 + 20 * (T.length + 1)) (by omega))
                            clear hown hg hbb hloc n0 g0
                            go_wp2
                            go_roundw
                            case rel => exact ⟨A2, c2, T ++ [(ya, yb, yc)], by rw [List.length_append]; exact HNN.out, by simp; omega⟩
                            case measure =>
                              have h1 := HNN.out.cells.1.1
                              have h2 := k0
                              simp only [h1, h2, Option.getD_some, lenV, List.length_append, List.length_singleton]
                              omega
                          exact WaysE.nil
                        exact WaysE.nil
                      exact WaysE.nil
                    exact WaysE.nil
                  exact WaysE.nil
                exact WaysE.nil
              exact WaysE.nil
            exact WaysE.nil
          refine WaysE.cons rfl (fun Kq hK => ?_) ?_
          · have HN88 := Lib.hid (HN27.out.below ((Below.refl _ _).alloc (Nat.le_refl _) (.cells #[.int .i64 0, .int .i64 20, .int .i64 120, .int .i64 500] 3)))
            have HR90 := Lib.hid (HR28.out.alloc (.cells #[.int .i64 0, .int .i64 20, .int .i64 120, .int .i64 500] 3))
            have HR89 := Lib.hid (show Reads ((wq25.alloc (.cells #[.int .i64 0, .int .i64 30, .int .i64 100, .int .i64 999, .int .i64 (xa : Int)] 3)).alloc (.cells #[.int .i64 0, .int .i64 20, .int .i64 120, .int .i64 500] 3)) 1 (some ⟨wq25.heap.size + 1, 0, none⟩) 4 [.int .i64 0, .int .i64 20, .int .i64 120, .int .i64 500] from by have h := reads_litk (wq25.alloc (.cells #[.int .i64 0, .int .i64 30, .int .i64 100, .int .i64 999, .int .i64 (xa : Int)] 3)) [.int .i64 0, .int .i64 20, .int .i64 120, .int .i64 500] 3 (n := 4) (k := 1) rfl; rw [World.size_alloc wq25 (.cells #[.int .i64 0, .int .i64 30, .int .i64 100, .int .i64 999, .int .i64 (xa : Int)] 3)] at h; exact h)
            go_simp
            refine hK.out _ _ (fun _ => (HN88.out.cells.1.1)) ?_
            clear hK Kq
            refine EndsE.ready (rs := [6]) (by kernel_rfl) (by simp) ?_
            refine WaysE.cons rfl (fun Kq hK => ?_) ?_
            · go_simp
              refine (among_any g (k + 10 + 20 * T.length + 2) (some ⟨wq25.heap.size, 0, none⟩) 5 5 [0, 30, 100, 999, (xa : Int)] _ (by omega) (by omega) (by omega) HN88.out.cur HR90.out (fun ad e => by injection e with e; subst e; have := HN26.out.gl; have := HN26.out.bl; have := HN26.out.lt; simp only; omega)).mono ?_
              rintro e wq91 ⟨ya, hya, rfl, hc, hd⟩
              have HN92 := Lib.hid (HN88.out.drew hd hc)
              have HR93 := Lib.hid (reads_drew HR89.out (fun ad e => by injection e with e; subst e; have := HN26.out.gl; have := HN26.out.bl; have := HN26.out.lt; simp only; omega) hd)
              clear hc hd hya
              go_wp2_with fail
              refine hK.out _ _ (fun _ => (HN92.out.cells.1.1)) ?_
              clear hK Kq
              refine EndsE.ready (rs := [9]) (by kernel_rfl) (by simp) ?_
              refine WaysE.cons rfl (fun Kq hK => ?_) ?_
              · go_simp
                refine (pick_any g (k + 10 + 20 * T.length + 2 + 2) 400 _ (by omega) (by omega) HN92.out.cur).mono ?_
                rintro e wq94 ⟨xb, rfl, hxb, hxb', hc, hd⟩
                have HN95 := Lib.hid (HN92.out.drew hd hc)
                have HR96 := Lib.hid (reads_drew HR93.out (fun ad e => by injection e with e; subst e; have := HN26.out.gl; have := HN26.out.bl; have := HN26.out.lt; simp only; omega) hd)
                clear hc hd
                go_wp2_with fail
                refine hK.out _ _ (fun _ => (HN95.out.cells.1.1)) ?_
                clear hK Kq
                refine EndsE.ready (rs := [10]) (by kernel_rfl) (by simp) ?_
                refine WaysE.cons rfl (fun Kq hK => ?_) ?_
                · have HN97 := Lib.hid (HN95.out.below ((Below.refl _ _).alloc (Nat.le_refl _) (.cells #[.int .i64 0, .int .i64 40, .int .i64 999, .int .i64 (xb : Int)] 3)))
                  have HR99 := Lib.hid (HR96.out.alloc (.cells #[.int .i64 0, .int .i64 40, .int .i64 999, .int .i64 (xb : Int)] 3))
                  have HR98 := Lib.hid (show Reads (wq94.alloc (.cells #[.int .i64 0, .int .i64 40, .int .i64 999, .int .i64 (xb : Int)] 3)) 1 (some ⟨wq94.heap.size, 0, none⟩) 4 [.int .i64 0, .int .i64 40, .int .i64 999, .int .i64 (xb : Int)] from by have h := reads_litk wq94 [.int .i64 0, .int .i64 40, .int .i64 999, .int .i64 (xb : Int)] 3 (n := 4) (k := 1) rfl; exact h)
                  go_simp
                  refine hK.out _ _ (fun _ => (HN97.out.cells.1.1)) ?_
                  clear hK Kq
                  refine EndsE.ready (rs := [11]) (by kernel_rfl) (by simp) ?_
                  refine WaysE.cons rfl (fun Kq hK => ?_) ?_
                  · go_simp
                    refine (among_any g (k + 10 + 20 * T.length + 2 + 2 + 2) (some ⟨wq94.heap.size, 0, none⟩) 4 4 [0, 40, 999, (xb : Int)] _ (by omega) (by omega) (by omega) HN97.out.cur HR98.out (fun ad e => by injection e with e; subst e; have := HN95.out.gl; have := HN95.out.bl; have := HN95.out.lt; simp only; omega)).mono ?_
                    rintro e wq100 ⟨yb, hyb, rfl, hc, hd⟩
                    have HN101 := Lib.hid (HN97.out.drew hd hc)
                    have HR102 := Lib.hid (reads_drew HR99.out (fun ad e => by injection e with e; subst e; have := HN26.out.gl; have := HN26.out.bl; have := HN26.out.lt; simp only; omega) hd)
                    clear hc hd hyb
                    go_wp2_with fail
                    refine hK.out _ _ (fun _ => (HN101.out.cells.1.1)) ?_
                    clear hK Kq
                    refine EndsE.ready (rs := [14]) (by kernel_rfl) (by simp) ?_
                    refine WaysE.cons rfl (fun Kq hK => ?_) ?_
                    · go_simp
                      refine (among_any g (k + 10 + 20 * T.length + 2 + 2 + 2 + 2) (some ⟨wq25.heap.size + 1, 0, none⟩) 4 4 [0, 20, 120, 500] _ (by omega) (by omega) (by omega) HN101.out.cur HR102.out (fun ad e => by injection e with e; subst e; have := HN26.out.gl; have := HN26.out.bl; have := HN26.out.lt; simp only; omega)).mono ?_
                      rintro e wq103 ⟨yc, hyc, rfl, hc, hd⟩
                      have HN104 := Lib.hid (HN101.out.drew hd hc)
                      clear hc hd hyc
                      go_wp2_with fail
                      refine hK.out _ _ (fun _ => (HN104.out.cells.1.1)) ?_
                      clear hK Kq
                      refine EndsE.take (i := 15) (v := ?vq105) rfl (by kernel_rfl) (by kernel_rfl) (by kernel_rfl) (fun _ _ _ h => h) (by kernel_rfl) (Or.inl ⟨by rfl, ?yq105⟩) (HN104.out.cells.1.1) ?rq105
                      case yq105 => (intro wS hS; go_simp <;> with_reducible rfl)
                      refine EndsE.ready (rs := [16]) (by kernel_rfl) (by simp) ?_
                      refine WaysE.cons rfl (fun Kq hK => ?_) ?_
                      · have HN106 := Lib.hid (HN104.out.below ((Below.refl _ _).alloc (Nat.le_refl _) (.cells #[.int .i64 ya, .int .i64 yb, .int .i64 yc] 121)))
                        have HR107 := Lib.hid (show Reads (wq103.alloc (.cells #[.int .i64 ya, .int .i64 yb, .int .i64 yc] 121)) 3 (some ⟨wq103.heap.size, 0, none⟩) 1 [.int .i64 ya, .int .i64 yb, .int .i64 yc] from by have h := reads_litk wq103 [.int .i64 ya, .int .i64 yb, .int .i64 yc] 121 (n := 1) (k := 3) rfl; exact h)
                        go_simp
                        refine hK.out _ _ (fun _ => (HN106.out.cells.1.1)) ?_
                        clear hK Kq
                        refine EndsE.ready (rs := [17]) (by kernel_rfl) (by simp) ?_
                        refine WaysE.cons rfl (fun Kq hK => ?_) ?_
                        · refine step_pushL _ (by rfl) (.tmp 20) (.tmp 35) 65 (by rfl) (w.heap.size + 1) 121 _ 3 24 infoTower rfl (by omega) Try.underlying65 At T.length ct (rows3 T) (by rfl) HN106.out.ownT (some ⟨wq103.heap.size, 0, none⟩) 1 1 [.int .i64 ya, .int .i64 yb, .int .i64 yc] (by rfl) HR107.out (by simp [Value.oneCell']) (by omega) (by omega) (by have := HN106.out.lt; have := HN106.out.bl; omega) ?_
                          intro A2 c2 w9 hown hg hbb hloc
                          obtain ⟨n0, g0⟩ := box_at ((hg.block b HN106.out.lt (fun e' => HN106.out.nbT e'.symm)).trans HN106.out.box) (j := 0) rfl
                          refine hK.out _ _ (fun _ => n0) ?_
                          clear hK Kq
                          refine EndsE.take (i := 18) (v := ?vq108) rfl (by kernel_rfl) (by kernel_rfl) (by kernel_rfl) (fun _ _ _ h => h) (by kernel_rfl) (Or.inl ⟨by rfl, ?yq108⟩) n0 ?rq108
                          case yq108 => (intro wS hS; go_simp <;> with_reducible rfl)
                          refine EndsE.ready (rs := [19]) (by kernel_rfl) (by simp) ?_
                          refine WaysE.cons rfl (fun Kq hK => ?_) ?_
                          · go_simp
                            refine hK.out _ _ (fun h => absurd rfl h) ?_
                            clear hK Kq
                            refine EndsE.done (by kernel_rfl) ?_ _
                            have HNN := Lib.hid ((HN106.out.pushT (x := (ya, yb, yc)) rfl hg hown hloc).more (k' := k + 10 + 20 * (T.length + 1)) (by omega))
                            clear hown hg hbb hloc n0 g0
                            go_wp2
                            go_roundw
                            case rel => exact ⟨A2, c2, T ++ [(ya, yb, yc)], by rw [List.length_append]; exact HNN.out, by simp; omega⟩
                            case measure =>
                              have h1 := HNN.out.cells.1.1
                              have h2 := k0
                              simp only [h1, h2, Option.getD_some, lenV, List.length_append, List.length_singleton]
                              omega
                          exact WaysE.nil
                        exact WaysE.nil
                      exact WaysE.nil
                    exact WaysE.nil
                  exact WaysE.nil
                exact WaysE.nil
              exact WaysE.nil
            exact WaysE.nil
          exact WaysE.nil
        refine WaysE.cons rfl (fun Kq hK => ?_) ?_
        · have HN109 := Lib.hid (HN26.out.below ((Below.refl _ _).alloc (Nat.le_refl _) (.cells #[.int .i64 0, .int .i64 20, .int .i64 120, .int .i64 500] 3)))
          have HR110 := Lib.hid (show Reads (wq25.alloc (.cells #[.int .i64 0, .int .i64 20, .int .i64 120, .int .i64 500] 3)) 1 (some ⟨wq25.heap.size, 0, none⟩) 4 [.int .i64 0, .int .i64 20, .int .i64 120, .int .i64 500] from by have h := reads_litk wq25 [.int .i64 0, .int .i64 20, .int .i64 120, .int .i64 500] 3 (n := 4) (k := 1) rfl; exact h)
          go_simp
          refine hK.out _ _ (fun _ => (HN109.out.cells.1.1)) ?_
          clear hK Kq
          refine EndsE.ready (rs := [5]) (by kernel_rfl) (by simp) ?_
          refine WaysE.cons rfl (fun Kq hK => ?_) ?_
          · have HN111 := Lib.hid (HN109.out.below ((Below.refl _ _).alloc (Nat.le_refl _) (.cells #[.int .i64 0, .int .i64 30, .int .i64 100, .int .i64 999, .int .i64 (xa : Int)] 3)))
            have HR113 := Lib.hid (HR110.out.alloc (.cells #[.int .i64 0, .int .i64 30, .int .i64 100, .int .i64 999, .int .i64 (xa : Int)] 3))
            have HR112 := Lib.hid (show Reads ((wq25.alloc (.cells #[.int .i64 0, .int .i64 20, .int .i64 120, .int .i64 500] 3)).alloc (.cells #[.int .i64 0, .int .i64 30, .int .i64 100, .int .i64 999, .int .i64 (xa : Int)] 3)) 1 (some ⟨wq25.heap.size + 1, 0, none⟩) 5 [.int .i64 0, .int .i64 30, .int .i64 100, .int .i64 999, .int .i64 (xa : Int)] from by have h := reads_litk (wq25.alloc (.cells #[.int .i64 0, .int .i64 20, .int .i64 120, .int .i64 500] 3)) [.int .i64 0, .int .i64 30, .int .i64 100, .int .i64 999, .int .i64 (xa : Int)] 3 (n := 5) (k := 1) rfl; rw [World.size_alloc wq25 (.cells #[.int .i64 0, .int .i64 20, .int .i64 120, .int .i64 500] 3)] at h; exact h)
            go_simp
            refine hK.out _ _ (fun _ => (HN111.out.cells.1.1)) ?_
            clear hK Kq
            refine EndsE.ready (rs := [6]) (by kernel_rfl) (by simp) ?_
            refine WaysE.cons rfl (fun Kq hK => ?_) ?_
            · go_simp
              refine (among_any g (k + 10 + 20 * T.length + 2) (some ⟨wq25.heap.size + 1, 0, none⟩) 5 5 [0, 30, 100, 999, (xa : Int)] _ (by omega) (by omega) (by omega) HN111.out.cur HR112.out (fun ad e => by injection e with e; subst e; have := HN26.out.gl; have := HN26.out.bl; have := HN26.out.lt; simp only; omega)).mono ?_
              rintro e wq114 ⟨ya, hya, rfl, hc, hd⟩
              have HN115 := Lib.hid (HN111.out.drew hd hc)
              have HR116 := Lib.hid (reads_drew HR113.out (fun ad e => by injection e with e; subst e; have := HN26.out.gl; have := HN26.out.bl; have := HN26.out.lt; simp only; omega) hd)
              clear hc hd hya
              go_wp2_with fail
              refine hK.out _ _ (fun _ => (HN115.out.cells.1.1)) ?_
              clear hK Kq
              refine EndsE.ready (rs := [9]) (by kernel_rfl) (by simp) ?_
              refine WaysE.cons rfl (fun Kq hK => ?_) ?_
              · go_simp
                refine (pick_any g (k + 10 + 20 * T.length + 2 + 2) 400 _ (by omega) (by omega) HN115.out.cur).mono ?_
                rintro e wq117 ⟨xb, rfl, hxb, hxb', hc, hd⟩
                have HN118 := Lib.hid (HN115.out.drew hd hc)
                have HR119 := Lib.hid (reads_drew HR116.out (fun ad e => by injection e with e; subst e; have := HN26.out.gl; have := HN26.out.bl; have := HN26.out.lt; simp only; omega) hd)
                clear hc hd
                go_wp2_with fail
                refine hK.out _ _ (fun _ => (HN118.out.cells.1.1)) ?_
                clear hK Kq
                refine EndsE.ready (rs := [10]) (by kernel_rfl) (by simp) ?_
                refine WaysE.cons rfl (fun Kq hK => ?_) ?_
                · have HN120 := Lib.hid (HN118.out.below ((Below.refl _ _).alloc (Nat.le_refl _) (.cells #[.int .i64 0, .int .i64 40, .int .i64 999, .int .i64 (xb : Int)] 3)))
                  have HR122 := Lib.hid (HR119.out.alloc (.cells #[.int .i64 0, .int .i64 40, .int .i64 999, .int .i64 (xb : Int)] 3))
                  have HR121 := Lib.hid (show Reads (wq117.alloc (.cells #[.int .i64 0, .int .i64 40, .int .i64 999, .int .i64 (xb : Int)] 3)) 1 (some ⟨wq117.heap.size, 0, none⟩) 4 [.int .i64 0, .int .i64 40, .int .i64 999, .int .i64 (xb : Int)] from by have h := reads_litk wq117 [.int .i64 0, .int .i64 40, .int .i64 999, .int .i64 (xb : Int)] 3 (n := 4) (k := 1) rfl; exact h)
                  go_simp
                  refine hK.out _ _ (fun _ => (HN120.out.cells.1.1)) ?_
                  clear hK Kq
                  refine EndsE.ready (rs := [11]) (by kernel_rfl) (by simp) ?_
                  refine WaysE.cons rfl (fun Kq hK => ?_) ?_
                  · go_simp
                    refine (among_any g (k + 10 + 20 * T.length + 2 + 2 + 2) (some ⟨wq117.heap.size, 0, none⟩) 4 4 [0, 40, 999, (xb : Int)] _ (by omega) (by omega) (by omega) HN120.out.cur HR121.out (fun ad e => by injection e with e; subst e; have := HN118.out.gl; have := HN118.out.bl; have := HN118.out.lt; simp only; omega)).mono ?_
                    rintro e wq123 ⟨yb, hyb, rfl, hc, hd⟩
                    have HN124 := Lib.hid (HN120.out.drew hd hc)
                    have HR125 := Lib.hid (reads_drew HR122.out (fun ad e => by injection e with e; subst e; have := HN26.out.gl; have := HN26.out.bl; have := HN26.out.lt; simp only; omega) hd)
                    clear hc hd hyb
                    go_wp2_with fail
                    refine hK.out _ _ (fun _ => (HN124.out.cells.1.1)) ?_
                    clear hK Kq
                    refine EndsE.ready (rs := [14]) (by kernel_rfl) (by simp) ?_
                    refine WaysE.cons rfl (fun Kq hK => ?_) ?_
                    · go_simp
                      refine (among_any g (k + 10 + 20 * T.length + 2 + 2 + 2 + 2) (some ⟨wq25.heap.size, 0, none⟩) 4 4 [0, 20, 120, 500] _ (by omega) (by omega) (by omega) HN124.out.cur HR125.out (fun ad e => by injection e with e; subst e; have := HN26.out.gl; have := HN26.out.bl; have := HN26.out.lt; simp only; omega)).mono ?_
                      rintro e wq126 ⟨yc, hyc, rfl, hc, hd⟩
                      have HN127 := Lib.hid (HN124.out.drew hd hc)
                      clear hc hd hyc
                      go_wp2_with fail
                      refine hK.out _ _ (fun _ => (HN127.out.cells.1.1)) ?_
                      clear hK Kq
                      refine EndsE.take (i := 15) (v := ?vq128) rfl (by kernel_rfl) (by kernel_rfl) (by kernel_rfl) (fun _ _ _ h => h) (by kernel_rfl) (Or.inl ⟨by rfl, ?yq128⟩) (HN127.out.cells.1.1) ?rq128
                      case yq128 => (intro wS hS; go_simp <;> with_reducible rfl)
                      refine EndsE.ready (rs := [16]) (by kernel_rfl) (by simp) ?_
                      refine WaysE.cons rfl (fun Kq hK => ?_) ?_
                      · have HN129 := Lib.hid (HN127.out.below ((Below.refl _ _).alloc (Nat.le_refl _) (.cells #[.int .i64 ya, .int .i64 yb, .int .i64 yc] 121)))
                        have HR130 := Lib.hid (show Reads (wq126.alloc (.cells #[.int .i64 ya, .int .i64 yb, .int .i64 yc] 121)) 3 (some ⟨wq126.heap.size, 0, none⟩) 1 [.int .i64 ya, .int .i64 yb, .int .i64 yc] from by have h := reads_litk wq126 [.int .i64 ya, .int .i64 yb, .int .i64 yc] 121 (n := 1) (k := 3) rfl; exact h)
                        go_simp
                        refine hK.out _ _ (fun _ => (HN129.out.cells.1.1)) ?_
                        clear hK Kq
                        refine EndsE.ready (rs := [17]) (by kernel_rfl) (by simp) ?_
                        refine WaysE.cons rfl (fun Kq hK => ?_) ?_
                        · refine step_pushL _ (by rfl) (.tmp 20) (.tmp 35) 65 (by rfl) (w.heap.size + 1) 121 _ 3 24 infoTower rfl (by omega) Try.underlying65 At T.length ct (rows3 T) (by rfl) HN129.out.ownT (some ⟨wq126.heap.size, 0, none⟩) 1 1 [.int .i64 ya, .int .i64 yb, .int .i64 yc] (by rfl) HR130.out (by simp [Value.oneCell']) (by omega) (by omega) (by have := HN129.out.lt; have := HN129.out.bl; omega) ?_
                          intro A2 c2 w9 hown hg hbb hloc
                          obtain ⟨n0, g0⟩ := box_at ((hg.block b HN129.out.lt (fun e' => HN129.out.nbT e'.symm)).trans HN129.out.box) (j := 0) rfl
                          refine hK.out _ _ (fun _ => n0) ?_
                          clear hK Kq
                          refine EndsE.take (i := 18) (v := ?vq131) rfl (by kernel_rfl) (by kernel_rfl) (by kernel_rfl) (fun _ _ _ h => h) (by kernel_rfl) (Or.inl ⟨by rfl, ?yq131⟩) n0 ?rq131
                          case yq131 => (intro wS hS; go_simp <;> with_reducible rfl)
                          refine EndsE.ready (rs := [19]) (by kernel_rfl) (by simp) ?_
                          refine WaysE.cons rfl (fun Kq hK => ?_) ?_
                          · go_simp
                            refine hK.out _ _ (fun h => absurd rfl h) ?_
                            clear hK Kq
                            refine EndsE.done (by kernel_rfl) ?_ _
                            have HNN := Lib.hid ((HN129.out.pushT (x := (ya, yb, yc)) rfl hg hown hloc).more (k' := k + 10 + 20 * (T.length + 1)) (by omega))
                            clear hown hg hbb hloc n0 g0
                            go_wp2
                            go_roundw
                            case rel => exact ⟨A2, c2, T ++ [(ya, yb, yc)], by rw [List.length_append]; exact HNN.out, by simp; omega⟩
                            case measure =>
                              have h1 := HNN.out.cells.1.1
                              have h2 := k0
                              simp only [h1, h2, Option.getD_some, lenV, List.length_append, List.length_singleton]
                              omega
                          exact WaysE.nil
                        exact WaysE.nil
                      exact WaysE.nil
                    exact WaysE.nil
                  exact WaysE.nil
                exact WaysE.nil
              exact WaysE.nil
            exact WaysE.nil
          exact WaysE.nil
        exact WaysE.nil
      refine WaysE.cons rfl (fun Kq hK => ?_) ?_
      · have HN132 := Lib.hid (HN1.out.below ((Below.refl _ _).alloc (Nat.le_refl _) (.cells #[.int .i64 0, .int .i64 20, .int .i64 120, .int .i64 500] 3)))
        have HR133 := Lib.hid (show Reads (wd.alloc (.cells #[.int .i64 0, .int .i64 20, .int .i64 120, .int .i64 500] 3)) 1 (some ⟨wd.heap.size, 0, none⟩) 4 [.int .i64 0, .int .i64 20, .int .i64 120, .int .i64 500] from by have h := reads_litk wd [.int .i64 0, .int .i64 20, .int .i64 120, .int .i64 500] 3 (n := 4) (k := 1) rfl; exact h)
        go_simp
        refine hK.out _ _ (fun _ => (HN132.out.cells.1.1)) ?_
        clear hK Kq
        refine EndsE.ready (rs := [4]) (by kernel_rfl) (by simp) ?_
        refine WaysE.cons rfl (fun Kq hK => ?_) ?_
        · go_simp
          refine (pick_any g (k + 10 + 20 * T.length) 400 _ (by omega) (by omega) HN132.out.cur).mono ?_
          rintro e wq134 ⟨xa, rfl, hxa, hxa', hc, hd⟩
          have HN135 := Lib.hid (HN132.out.drew hd hc)
          have HR136 := Lib.hid (reads_drew HR133.out (fun ad e => by injection e with e; subst e; have := HN1.out.gl; have := HN1.out.bl; have := HN1.out.lt; simp only; omega) hd)
          clear hc hd
          go_wp2_with fail
          refine hK.out _ _ (fun _ => (HN135.out.cells.1.1)) ?_
          clear hK Kq
          refine EndsE.ready (rs := [5]) (by kernel_rfl) (by simp) ?_
          refine WaysE.cons rfl (fun Kq hK => ?_) ?_
          · have HN137 := Lib.hid (HN135.out.below ((Below.refl _ _).alloc (Nat.le_refl _) (.cells #[.int .i64 0, .int .i64 30, .int .i64 100, .int .i64 999, .int .i64 (xa : Int)] 3)))
            have HR139 := Lib.hid (HR136.out.alloc (.cells #[.int .i64 0, .int .i64 30, .int .i64 100, .int .i64 999, .int .i64 (xa : Int)] 3))
            have HR138 := Lib.hid (show Reads (wq134.alloc (.cells #[.int .i64 0, .int .i64 30, .int .i64 100, .int .i64 999, .int .i64 (xa : Int)] 3)) 1 (some ⟨wq134.heap.size, 0, none⟩) 5 [.int .i64 0, .int .i64 30, .int .i64 100, .int .i64 999, .int .i64 (xa : Int)] from by have h := reads_litk wq134 [.int .i64 0, .int .i64 30, .int .i64 100, .int .i64 999, .int .i64 (xa : Int)] 3 (n := 5) (k := 1) rfl; exact h)
            go_simp
            refine hK.out _ _ (fun _ => (HN137.out.cells.1.1)) ?_
            clear hK Kq
            refine EndsE.ready (rs := [6]) (by kernel_rfl) (by simp) ?_
            refine WaysE.cons rfl (fun Kq hK => ?_) ?_
            · go_simp
              refine (among_any g (k + 10 + 20 * T.length + 2) (some ⟨wq134.heap.size, 0, none⟩) 5 5 [0, 30, 100, 999, (xa : Int)] _ (by omega) (by omega) (by omega) HN137.out.cur HR138.out (fun ad e => by injection e with e; subst e; have := HN135.out.gl; have := HN135.out.bl; have := HN135.out.lt; simp only; omega)).mono ?_
              rintro e wq140 ⟨ya, hya, rfl, hc, hd⟩
              have HN141 := Lib.hid (HN137.out.drew hd hc)
              have HR142 := Lib.hid (reads_drew HR139.out (fun ad e => by injection e with e; subst e; have := HN1.out.gl; have := HN1.out.bl; have := HN1.out.lt; simp only; omega) hd)
              clear hc hd hya
              go_wp2_with fail
              refine hK.out _ _ (fun _ => (HN141.out.cells.1.1)) ?_
              clear hK Kq
              refine EndsE.ready (rs := [9]) (by kernel_rfl) (by simp) ?_
              refine WaysE.cons rfl (fun Kq hK => ?_) ?_
              · go_simp
                refine (pick_any g (k + 10 + 20 * T.length + 2 + 2) 400 _ (by omega) (by omega) HN141.out.cur).mono ?_
                rintro e wq143 ⟨xb, rfl, hxb, hxb', hc, hd⟩
                have HN144 := Lib.hid (HN141.out.drew hd hc)
                have HR145 := Lib.hid (reads_drew HR142.out (fun ad e => by injection e with e; subst e; have := HN1.out.gl; have := HN1.out.bl; have := HN1.out.lt; simp only; omega) hd)
                clear hc hd
                go_wp2_with fail
                refine hK.out _ _ (fun _ => (HN144.out.cells.1.1)) ?_
                clear hK Kq
                refine EndsE.ready (rs := [10]) (by kernel_rfl) (by simp) ?_
                refine WaysE.cons rfl (fun Kq hK => ?_) ?_
                · have HN146 := Lib.hid (HN144.out.below ((Below.refl _ _).alloc (Nat.le_refl _) (.cells #[.int .i64 0, .int .i64 40, .int .i64 999, .int .i64 (xb : Int)] 3)))
                  have HR148 := Lib.hid (HR145.out.alloc (.cells #[.int .i64 0, .int .i64 40, .int .i64 999, .int .i64 (xb : Int)] 3))
                  have HR147 := Lib.hid (show Reads (wq143.alloc (.cells #[.int .i64 0, .int .i64 40, .int .i64 999, .int .i64 (xb : Int)] 3)) 1 (some ⟨wq143.heap.size, 0, none⟩) 4 [.int .i64 0, .int .i64 40, .int .i64 999, .int .i64 (xb : Int)] from by have h := reads_litk wq143 [.int .i64 0, .int .i64 40, .int .i64 999, .int .i64 (xb : Int)] 3 (n := 4) (k := 1) rfl; exact h)
                  go_simp
                  refine hK.out _ _ (fun _ => (HN146.out.cells.1.1)) ?_
                  clear hK Kq
                  refine EndsE.ready (rs := [11]) (by kernel_rfl) (by simp) ?_
                  refine WaysE.cons rfl (fun Kq hK => ?_) ?_
                  · go_simp
                    refine (among_any g (k + 10 + 20 * T.length + 2 + 2 + 2) (some ⟨wq143.heap.size, 0, none⟩) 4 4 [0, 40, 999, (xb : Int)] _ (by omega) (by omega) (by omega) HN146.out.cur HR147.out (fun ad e => by injection e with e; subst e; have := HN144.out.gl; have := HN144.out.bl; have := HN144.out.lt; simp only; omega)).mono ?_
                    rintro e wq149 ⟨yb, hyb, rfl, hc, hd⟩
                    have HN150 := Lib.hid (HN146.out.drew hd hc)
                    have HR151 := Lib.hid (reads_drew HR148.out (fun ad e => by injection e with e; subst e; have := HN1.out.gl; have := HN1.out.bl; have := HN1.out.lt; simp only; omega) hd)
                    clear hc hd hyb
                    go_wp2_with fail
                    refine hK.out _ _ (fun _ => (HN150.out.cells.1.1)) ?_
                    clear hK Kq
                    refine EndsE.ready (rs := [14]) (by kernel_rfl) (by simp) ?_
                    refine WaysE.cons rfl (fun Kq hK => ?_) ?_
                    · go_simp
                      refine (among_any g (k + 10 + 20 * T.length + 2 + 2 + 2 + 2) (some ⟨wd.heap.size, 0, none⟩) 4 4 [0, 20, 120, 500] _ (by omega) (by omega) (by omega) HN150.out.cur HR151.out (fun ad e => by injection e with e; subst e; have := HN1.out.gl; have := HN1.out.bl; have := HN1.out.lt; simp only; omega)).mono ?_
                      rintro e wq152 ⟨yc, hyc, rfl, hc, hd⟩
                      have HN153 := Lib.hid (HN150.out.drew hd hc)
                      clear hc hd hyc
                      go_wp2_with fail
                      refine hK.out _ _ (fun _ => (HN153.out.cells.1.1)) ?_
                      clear hK Kq
                      refine EndsE.take (i := 15) (v := ?vq154) rfl (by kernel_rfl) (by kernel_rfl) (by kernel_rfl) (fun _ _ _ h => h) (by kernel_rfl) (Or.inl ⟨by rfl, ?yq154⟩) (HN153.out.cells.1.1) ?rq154
                      case yq154 => (intro wS hS; go_simp <;> with_reducible rfl)
                      refine EndsE.ready (rs := [16]) (by kernel_rfl) (by simp) ?_
                      refine WaysE.cons rfl (fun Kq hK => ?_) ?_
                      · have HN155 := Lib.hid (HN153.out.below ((Below.refl _ _).alloc (Nat.le_refl _) (.cells #[.int .i64 ya, .int .i64 yb, .int .i64 yc] 121)))
                        have HR156 := Lib.hid (show Reads (wq152.alloc (.cells #[.int .i64 ya, .int .i64 yb, .int .i64 yc] 121)) 3 (some ⟨wq152.heap.size, 0, none⟩) 1 [.int .i64 ya, .int .i64 yb, .int .i64 yc] from by have h := reads_litk wq152 [.int .i64 ya, .int .i64 yb, .int .i64 yc] 121 (n := 1) (k := 3) rfl; exact h)
                        go_simp
                        refine hK.out _ _ (fun _ => (HN155.out.cells.1.1)) ?_
                        clear hK Kq
                        refine EndsE.ready (rs := [17]) (by kernel_rfl) (by simp) ?_
                        refine WaysE.cons rfl (fun Kq hK => ?_) ?_
                        · refine step_pushL _ (by rfl) (.tmp 20) (.tmp 35) 65 (by rfl) (w.heap.size + 1) 121 _ 3 24 infoTower rfl (by omega) Try.underlying65 At T.length ct (rows3 T) (by rfl) HN155.out.ownT (some ⟨wq152.heap.size, 0, none⟩) 1 1 [.int .i64 ya, .int .i64 yb, .int .i64 yc] (by rfl) HR156.out (by simp [Value.oneCell']) (by omega) (by omega) (by have := HN155.out.lt; have := HN155.out.bl; omega) ?_
                          intro A2 c2 w9 hown hg hbb hloc
                          obtain ⟨n0, g0⟩ := box_at ((hg.block b HN155.out.lt (fun e' => HN155.out.nbT e'.symm)).trans HN155.out.box) (j := 0) rfl
                          refine hK.out _ _ (fun _ => n0) ?_
                          clear hK Kq
                          refine EndsE.take (i := 18) (v := ?vq157) rfl (by kernel_rfl) (by kernel_rfl) (by kernel_rfl) (fun _ _ _ h => h) (by kernel_rfl) (Or.inl ⟨by rfl, ?yq157⟩) n0 ?rq157
                          case yq157 => (intro wS hS; go_simp <;> with_reducible rfl)
                          refine EndsE.ready (rs := [19]) (by kernel_rfl) (by simp) ?_
                          refine WaysE.cons rfl (fun Kq hK => ?_) ?_
                          · go_simp
                            refine hK.out _ _ (fun h => absurd rfl h) ?_
                            clear hK Kq
                            refine EndsE.done (by kernel_rfl) ?_ _
                            have HNN := Lib.hid ((HN155.out.pushT (x := (ya, yb, yc)) rfl hg hown hloc).more (k' := k + 10 + 20 * (T.length + 1)) (by omega))
                            clear hown hg hbb hloc n0 g0
                            go_wp2
                            go_roundw
                            case rel => exact ⟨A2, c2, T ++ [(ya, yb, yc)], by rw [List.length_append]; exact HNN.out, by simp; omega⟩
                            case measure =>
                              have h1 := HNN.out.cells.1.1
                              have h2 := k0
                              simp only [h1, h2, Option.getD_some, lenV, List.length_append, List.length_singleton]
                              omega
                          exact WaysE.nil
                        exact WaysE.nil
                      exact WaysE.nil
                    exact WaysE.nil
                  exact WaysE.nil
                exact WaysE.nil
              exact WaysE.nil
            exact WaysE.nil
          exact WaysE.nil
        exact WaysE.nil
      exact WaysE.nil
    · have hlt' : ¬ (T.length : Int) < (cn : Int) := by omega
      have hTc : T.length = cn := by omega
      have HTC := Lib.hid hTc
      have hT16 : T.length ≤ 16 := by omega
      have hT1 : 1 ≤ T.length := by omega
      clear hlt hTc hT
      go_wp2_with fail
      refine (amongLit_any g _ [2, 2, 3] 3 _ _ _ rfl rfl (by omega) (by simp) (by simp) HN.out.cur).mono ?_
      rintro e w5 ⟨mv, hmv, rfl, hc, hd⟩
      replace HN := Lib.hid ((HN.out.drew hd hc).more (k' := k + 400) (by omega))
      have hmv2 : mv ≤ 3 := by simp at hmv; omega
      have HMV := Lib.hid hmv2
      clear hc hd hmv k0 k1 f0 f1 hmv2
      go_wp2
      go_loopw [6, 7] (fun a4 _ wr => ∃ av : Nat, ∃ Ak ck K, av ≤ 16 ∧ a4 = .int .i64 av ∧ List.length K ≤ 40 ∧ NBox w wr g b (k + 400 + 200 * av) At ct T Ak ck K) (fun a4 _ _ => cn - (intOf a4).toNat)
      case atStart => exact ⟨0, none, 0, [], Nat.zero_le _, rfl, by simp, HN.out⟩
      case round =>
        obtain ⟨av, Ak, ck, K, hav, rfl, hK, hn⟩ := hrel
        clear HN
        have HN := Lib.hid hn
        clear hn
        by_cases hac : av < cn
        · have hac' : (av : Int) < (cn : Int) := by omega
          obtain ⟨wo, rfl⟩ : ∃ wo, wo = wr := ⟨_, rfl⟩
          have HNO := HN
          go_wp2
          go_loopw [7] (fun b4 wr => ∃ bv : Nat, ∃ Ak ck K, (bv ≤ 16) ∧ b4 = .int .i64 bv ∧ List.length K ≤ 40 ∧ NBox w wr g b (k + 400 + 200 * av + 10 * bv) At ct T Ak ck K) (fun b4 _ => 17 - (intOf b4).toNat)
          case atStart => exact ⟨av + 1, Ak, ck, K, by omega, by go_num, hK, HNO.out.more (by omega)⟩
          case round =>
            obtain ⟨bv, Ak, ck, K, hbv, rfl, hK, hn⟩ := hrel
            clear HN HNO
            have HN := Lib.hid hn
            clear hn
            obtain ⟨⟨k0, k1⟩, f0, f1⟩ := HN.out.cells
            have hK40 : ((K.length : Nat) : Int) = (K.length : Int) := rfl
            clear hK40
            by_cases hbc : bv < cn
            rotate_left
            · have hbc' : ¬ (bv : Int) < (cn : Int) := by omega
              go_wp2
              go_roundw
              case rel => exact ⟨av + 1, Ak, ck, K, by omega, by go_num, hK, HN.out.more (by omega)⟩
              case measure => first | (simp [intOf]; done) | (simp [intOf]; omega)
            have hbc' : (bv : Int) < (cn : Int) := by omega
            by_cases hkl : K.length < 40
            rotate_left
            · have hkl' : ¬ (K.length : Int) < 40 := by omega
              go_wp2
              go_roundw
              case rel => exact ⟨av + 1, Ak, ck, K, by omega, by go_num, hK, HN.out.more (by omega)⟩
              case measure => first | (simp [intOf]; done) | (simp [intOf]; omega)
            have hkl' : (K.length : Int) < 40 := by omega
            have hmv := HMV.out
            go_upto_region 14 with fail
            go_cut [72] from 59 to 71 (fun v wx => ∃ bo, v = .bool bo ∧ NBox w wx g b (k + 400 + 200 * av + 10 * bv + 4) At ct T Ak ck K)
            case first =>
              go_wp2_with fail
              refine (one_any g _ mv _ (by omega) (by omega) HN.out.cur).mono ?_
              rintro e w6 ⟨b6, rfl, hc, hd⟩
              replace HN := Lib.hid (HN.out.drew hd hc)
              clear hc hd
              cases b6 with
              | true =>
                go_wp2_with fail
                go_meet
                case rel => exact ⟨_, rfl, HN.out.more (by omega)⟩
              | false =>
                by_cases hq : bv = av + 1
                · have hqb : ((bv : Int) == (av : Int) + 1) = true := by rw [beq_iff_eq]; omega
                  clear hq
                  go_wp2_with fail
                  refine (one_any g _ 8 _ (by omega) (by omega) HN.out.cur).mono ?_
                  rintro e w7 ⟨b7, rfl, hc, hd⟩
                  replace HN := Lib.hid (HN.out.drew hd hc)
                  clear hc hd
                  go_wp2_with fail
                  go_meet
                  case rel => exact ⟨_, rfl, HN.out.more (by omega)⟩
                · have hqb : ((bv : Int) == (av : Int) + 1) = false := by rw [beq_eq_false_iff_ne]; omega
                  clear hq
                  go_wp2_with fail
                  go_meet
                  case rel => exact ⟨_, rfl, HN.out.more (by omega)⟩
            case rest =>
            clear HN k0 k1 f0 f1
            obtain ⟨bo, rfl, hn⟩ := hcut
            have HN := Lib.hid hn
            clear hn
            cases bo with
            | false =>
              go_wp2
              go_roundw
              case rel => exact ⟨bv + 1, Ak, ck, K, by omega, by go_num, hK, HN.out.more (by omega)⟩
              case measure => first | (simp [intOf]; done) | (simp [intOf]; omega)
            | true =>
              obtain ⟨⟨k0, k1⟩, f0, f1⟩ := HN.out.cells
              go_upto_region 15 with fail
              refine region_E (fun W => W.cell? ⟨b, 1, none⟩ = some (.slice Ak K.length ck)) 14 (by kernel_rfl) ?_
              have HN0 := Lib.hid (HN.out.tick 1)
              generalize hwd : wc.drew = wd
              have HN1 : Hid (NBox w wd g b (k + 400 + 200 * av + 10 * bv + 4) At ct T Ak ck K) := Lib.hid (by rw [← hwd]; exact HN0.out)
              clear hwd HN0 HN k0 k1 f0 f1
              refine EndsE.take (i := 0) (v := ?vq11) rfl (by kernel_rfl) (by kernel_rfl) (by kernel_rfl) (fun _ _ _ h => h) (by kernel_rfl) (Or.inl ⟨by rfl, ?yq11⟩) (HN1.out.cells.1.2) ?rq11
              case yq11 => (intro wS hS; go_simp <;> with_reducible rfl)
              refine EndsE.take (i := 1) (v := ?vq12) rfl (by kernel_rfl) (by kernel_rfl) (by kernel_rfl) (fun _ _ _ h => h) (by kernel_rfl) (Or.inl ⟨by rfl, ?yq12⟩) (HN1.out.cells.1.2) ?rq12
              case yq12 => (intro wS hS; go_simp <;> with_reducible rfl)
              refine EndsE.take (i := 2) (v := ?vq13) rfl (by kernel_rfl) (by kernel_rfl) (by kernel_rfl) (fun _ _ _ h => h) (by kernel_rfl) (Or.inl ⟨by rfl, ?yq13⟩) (HN1.out.cells.1.2) ?rq13
              case yq13 => (intro wS hS; go_simp <;> with_reducible rfl)
              refine EndsE.take (i := 3) (v := ?vq14) rfl (by kernel_rfl) (by kernel_rfl) (by kernel_rfl) (fun _ _ _ h => h) (by kernel_rfl) (Or.inl ⟨by rfl, ?yq14⟩) (HN1.out.cells.1.2) ?rq14
              case yq14 => (intro wS hS; go_simp <;> with_reducible rfl)
              refine EndsE.take (i := 4) (v := ?vq15) rfl (by kernel_rfl) (by kernel_rfl) (by kernel_rfl) (fun _ _ _ h => h) (by kernel_rfl) (Or.inl ⟨by rfl, ?yq15⟩) (HN1.out.cells.1.2) ?rq15
              case yq15 => (intro wS hS; go_simp <;> with_reducible rfl)
              refine EndsE.take (i := 5) (v := ?vq16) rfl (by kernel_rfl) (by kernel_rfl) (by kernel_rfl) (fun _ _ _ h => h) (by kernel_rfl) (Or.inl ⟨by rfl, ?yq16⟩) (HN1.out.cells.1.2) ?rq16
              case yq16 => (intro wS hS; go_simp <;> with_reducible rfl)
              refine EndsE.ready (rs := [6]) (by kernel_rfl) (by simp) ?_
              refine WaysE.cons rfl (fun Kq hK => ?_) ?_
              · go_simp
                refine (pick_any g (k + 400 + 200 * av + 10 * bv + 4) 30 _ (by omega) (by omega) HN1.out.cur).mono ?_
                rintro e wq1 ⟨xd, rfl, hxd, hxd', hc, hd⟩
                have HN2 := Lib.hid (HN1.out.drew hd hc)
                clear hc hd
                go_wp2_with fail
                refine hK.out _ _ (fun _ => (HN2.out.cells.1.2)) ?_
                clear hK Kq
                have e7 : (1 : Int) + (xd : Int) = ((xd + 1 : Nat) : Int) := by omega
                have v7 : IntKind.i64.wrap (((xd + 1 : Nat) : Int)) = ((xd + 1 : Nat) : Int) := IntWalk.i64_in _ ⟨by omega, by omega⟩
                obtain ⟨xe, hxe⟩ : ∃ xe : Int, ((xd + 1 : Nat) : Int) = xe := ⟨_, rfl⟩
                rw [hxe] at e7 v7
                clear hxe
                refine EndsE.take (i := 7) (v := ?vq3) rfl (by kernel_rfl) (by kernel_rfl) (by kernel_rfl) (fun _ _ _ h => h) (by kernel_rfl) (Or.inl ⟨by rfl, ?yq3⟩) (HN2.out.cells.1.2) ?rq3
                case yq3 => (intro wS hS; go_simp <;> with_reducible rfl)
                refine EndsE.ready (rs := [8]) (by kernel_rfl) (by simp) ?_
                refine WaysE.cons rfl (fun Kq hK => ?_) ?_
                · have HN4 := Lib.hid (HN2.out.below ((Below.refl _ _).alloc (Nat.le_refl _) (.cells #[.int .i64 1, .int .i64 5, .int .i64 10, .int .i64 10, .int .i64 60, .int .i64 xe] 3)))
                  have HR5 := Lib.hid (show Reads (wq1.alloc (.cells #[.int .i64 1, .int .i64 5, .int .i64 10, .int .i64 10, .int .i64 60, .int .i64 xe] 3)) 1 (some ⟨wq1.heap.size, 0, none⟩) 6 [.int .i64 1, .int .i64 5, .int .i64 10, .int .i64 10, .int .i64 60, .int .i64 xe] from by have h := reads_litk wq1 [.int .i64 1, .int .i64 5, .int .i64 10, .int .i64 10, .int .i64 60, .int .i64 xe] 3 (n := 6) (k := 1) rfl; exact h)
                  go_simp
                  refine hK.out _ _ (fun _ => (HN4.out.cells.1.2)) ?_
                  clear hK Kq
                  refine EndsE.ready (rs := [9]) (by kernel_rfl) (by simp) ?_
                  refine WaysE.cons rfl (fun Kq hK => ?_) ?_
                  · go_simp
                    refine (among_any g (k + 400 + 200 * av + 10 * bv + 4 + 2) (some ⟨wq1.heap.size, 0, none⟩) 6 6 [1, 5, 10, 10, 60, xe] _ (by omega) (by omega) (by omega) HN4.out.cur HR5.out (fun ad e => by injection e with e; subst e; have := HN2.out.gl; have := HN2.out.bl; have := HN2.out.lt; simp only; omega)).mono ?_
                    rintro e wq6 ⟨yd, hyd, rfl, hc, hd⟩
                    have HN7 := Lib.hid (HN4.out.drew hd hc)
                    clear hc hd hyd
                    go_wp2_with fail
                    refine hK.out _ _ (fun _ => (HN7.out.cells.1.2)) ?_
                    clear hK Kq
                    refine EndsE.take (i := 10) (v := ?vq8) rfl (by kernel_rfl) (by kernel_rfl) (by kernel_rfl) (fun _ _ _ h => h) (by kernel_rfl) (Or.inl ⟨by rfl, ?yq8⟩) (HN7.out.cells.1.2) ?rq8
                    case yq8 => (intro wS hS; go_simp <;> with_reducible rfl)
                    refine EndsE.ready (rs := [11]) (by kernel_rfl) (by simp) ?_
                    refine WaysE.cons rfl (fun Kq hK => ?_) ?_
                    · have HN9 := Lib.hid (HN7.out.below ((Below.refl _ _).alloc (Nat.le_refl _) (.cells #[.int .i64 (av : Int), .int .i64 (bv : Int), .int .i64 yd] 123)))
                      have HR10 := Lib.hid (show Reads (wq6.alloc (.cells #[.int .i64 (av : Int), .int .i64 (bv : Int), .int .i64 yd] 123)) 3 (some ⟨wq6.heap.size, 0, none⟩) 1 [.int .i64 (av : Int), .int .i64 (bv : Int), .int .i64 yd] from by have h := reads_litk wq6 [.int .i64 (av : Int), .int .i64 (bv : Int), .int .i64 yd] 123 (n := 1) (k := 3) rfl; exact h)
                      go_simp
                      refine hK.out _ _ (fun _ => (HN9.out.cells.1.2)) ?_
                      clear hK Kq
                      refine EndsE.ready (rs := [12]) (by kernel_rfl) (by simp) ?_
                      refine WaysE.cons rfl (fun Kq hK => ?_) ?_
                      · refine step_pushL _ (by rfl) (.tmp 74) (.tmp 84) 66 (by rfl) (w.heap.size + 1) 123 _ 3 24 infoLink rfl (by omega) Try.underlying66 Ak K.length ck (rows3 K) (by rfl) HN9.out.ownK (some ⟨wq6.heap.size, 0, none⟩) 1 1 [.int .i64 (av : Int), .int .i64 (bv : Int), .int .i64 yd] (by rfl) HR10.out (by simp [Value.oneCell']) (by omega) (by omega) (by have := HN9.out.lt; have := HN9.out.bl; omega) ?_
                        intro A2 c2 w9 hown hg hbb hloc
                        obtain ⟨n0, g0⟩ := box_at ((hg.block b HN9.out.lt (fun e' => HN9.out.nbK e'.symm)).trans HN9.out.box) (j := 1) rfl
                        refine hK.out _ _ (fun _ => n0) ?_
                        clear hK Kq
                        refine EndsE.take (i := 13) (v := ?vq17) rfl (by kernel_rfl) (by kernel_rfl) (by kernel_rfl) (fun _ _ _ h => h) (by kernel_rfl) (Or.inl ⟨by rfl, ?yq17⟩) n0 ?rq17
                        case yq17 => (intro wS hS; go_simp <;> with_reducible rfl)
                        refine EndsE.ready (rs := [14]) (by kernel_rfl) (by simp) ?_
                        refine WaysE.cons rfl (fun Kq hK => ?_) ?_
                        · go_simp
                          refine hK.out _ _ (fun h => absurd rfl h) ?_
                          clear hK Kq
                          refine EndsE.done (by kernel_rfl) ?_ _
                          have HNN := Lib.hid (HN9.out.pushK (x := ((av : Int), (bv : Int), yd)) rfl hg hown hloc)
                          clear hown hg hbb hloc n0 g0
                          go_wp2
                          go_roundw
                          case rel => exact ⟨bv + 1, A2, c2, K ++ [((av : Int), (bv : Int), yd)], by omega, by go_num, by simp; omega, HNN.out.more (by omega)⟩
                          case measure => first | (simp [intOf]; done) | (simp [intOf]; omega)
                        exact WaysE.nil
                      exact WaysE.nil
                    exact WaysE.nil
                  exact WaysE.nil
                exact WaysE.nil
              exact WaysE.nil
        · have hac' : ¬ (av : Int) < (cn : Int) := by omega
          obtain ⟨⟨k0, k1⟩, f0, f1⟩ := HN.out.cells
          obtain ⟨r0, y0⟩ := box_at HN.out.res (j := 0) rfl
          obtain ⟨r1, y1⟩ := box_at HN.out.res (j := 1) rfl
          have hbl := HN.out.bl
          go_wp2
          obtain ⟨hres, hoT, hoK, hcc, hdd⟩ := HN.out.fin (v0 := .slice At T.length ct) (v1 := .slice Ak K.length ck) rfl
          obtain ⟨z0, _⟩ := box_at hres (j := 0) rfl
          obtain ⟨z1, _⟩ := box_at hres (j := 1) rfl
          try simp only [Exit.inBlock, Exit.then]
          refine bodyPost_ret (v := .agg #[.slice At T.length ct, .slice Ak K.length ck]) (by simp [results, Try.results105, go_sem, z0, z1]) rfl ?_
          have hbe := HBE.out
          first
            | exact ⟨At, ct, T, Ak, ck, K, rfl, ⟨hT1, hT16⟩, hK, hoT, hoK, HN.out.ap, hcc.mono (by omega), hdd⟩
            | (subst hbe; exact ⟨At, ct, T, Ak, ck, K, rfl, ⟨hT1, hT16⟩, hK, hoT, hoK, HN.out.ap, hcc.mono (by omega), hdd⟩)

end Go.Proofs.Ythpfgmnhpnfopaa
