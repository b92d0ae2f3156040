/- The spec's drawings of logs: log. No conditions. -/
import Derived.Test.YtcjmlakmigfkfaaLg2
import Derived.Test.YtcjmlakmigfkfaaLgO
import Derived.Test.YtcjmlakmigfkfaaLog3
namespace Go.Proofs.Ytcjmlakmigfkfaa
set_option linter.unusedSimpArgs false
set_option linter.unusedVariables false
open Go.RowKit

/-- An entry that may be drawn. -/
def dwE (x : EntryT) : Prop := (-100000 ≤ x.1 ∧ x.1 ≤ 100000) ∧ x.2.2.2.1.length ≤ 10 ∧ x.2.2.2.2.length ≤ 10
theorem dwE_len {x : EntryT} (h : dwE x) : lenE 1000000000 x := by
  obtain ⟨_, h1, h2⟩ := h
  unfold lenE
  omega
theorem dwE_snoc {L : List EntryT} {x : EntryT} (h : ∀ y ∈ L, dwE y) (hx : dwE x) : ∀ y ∈ L ++ [x], dwE y := fun y hy => by
  rcases List.mem_append.1 hy with hy | hy
  · exact h y hy
  · simp at hy; subst hy; exact hx

set_option maxHeartbeats 4000000 in
set_option maxRecDepth 100000 in
theorem log_any (g k : Nat) (w : World) (hk : k ≤ 500000) (h : Cur w g k) :
    Calls Try.prog 85 #[.pointer (some ⟨g, 0, none⟩)] w fun e w' => ∃ A n c L hs, e = .returned (.slice A n c) ∧ n ≤ c ∧ n ≤ 31 ∧ LogO w' w.heap.size A n c L hs ∧ (∀ x ∈ L, dwE x) ∧ Cur w' g (k + 12000) ∧ Drew g w w' := by
  have HGW : Hid (g < w.heap.size) := Lib.hid h.lt
  have HC := Lib.hid h
  clear h
  generalize hlo : w.heap.size = lo at *
  go_enter Try.func85, Try.ntmps85
  go_wp2_with fail
  refine (pick_any g _ 50 _ (by omega) (by omega) HC.out).mono ?_
  rintro e w1 ⟨x, rfl, hx, hx', hc, hd⟩
  have hx50 : x ≤ 50 := by omega
  have HC := Lib.hid hc; have HD := Lib.hid hd
  clear hc hd hx hx'
  go_wp2_with fail
  refine (pick_any g _ 9 _ (by omega) (by omega) HC.out).mono ?_
  rintro e w2 ⟨r0, rfl, hr, hr', hc, hd⟩
  have hr8 : r0 ≤ 8 := by omega
  have HC := Lib.hid hc; have HD := Lib.hid (HD.out.trans hd)
  clear hc hd hr hr'
  go_wp2
  go_loopw [3, 4, 5] (fun lv tv nv wr => ∃ A q c L hs, ∃ r : Nat, ∃ T : Int, lv = .slice A q c ∧ tv = .int .i64 T ∧ nv = .int .i64 r ∧ r ≤ 8 ∧ q + r ≤ 8 ∧ (0 ≤ T ∧ T ≤ 50 + 40 * (8 - (r : Int))) ∧ LogO wr lo A q c L hs ∧ (∀ x ∈ L, dwE x) ∧ Cur wr g (k + 4 + 1100 * (8 - r)) ∧ Drew g w wr) (fun _ _ nv _ => (intOf nv).toNat)
  case atStart => exact ⟨none, 0, 0, [], [], r0, x, rfl, rfl, rfl, hr8, by omega, by omega, LogO.nil _ _, fun x hx => by simp at hx, HC.out.mono (by omega), HD.out⟩
  case round =>
    obtain ⟨A, q, c, L, hs, r, T, rfl, rfl, rfl, hr, hqr, hT, hl, hok, hc, hd⟩ := hrel
    clear HC HD
    have HL := Lib.hid hl; have HOK := Lib.hid hok; have HC := Lib.hid hc; have HD := Lib.hid hd
    clear hl hok hc hd hr8 hx50
    have HLO : Hid (lo ≤ wr.heap.size) := Lib.hid (by have := HD.out.size; omega)
    by_cases hlt : 0 < r
    · have hrz : (0 : Int) < (r : Int) := by omega
      go_wp2_with fail
      refine (entry_any g _ T _ (by omega) (by omega) HC.out).mono ?_
      rintro e w1 ⟨t, m, p, A3, c3, l3, A4, c4, l4, rfl, ht, hl3, hl4, ho3, ho4, hc, hd⟩
      have HOE : Hid (dwE (t, m, p, l3, l4)) := Lib.hid ⟨ht, hl3, hl4⟩
      have HB : Hid (Below w1.heap.size w1 ((w1.alloc (.cells #[.int .i64 t, .int .i64 m, .int .i64 p, .slice A3 l3.length c3, .slice A4 l4.length c4] 51)).alloc (.cells #[.int .i64 t, .int .i64 m, .int .i64 p, .slice A3 l3.length c3, .slice A4 l4.length c4] 51))) := Lib.hid (((Below.refl _ _).alloc (Nat.le_refl _) _).alloc (by simp) _)
      have HL2 := Lib.hid ((HL.out.keep (Keeps.of_drew hd HGW.out)).keep (Keeps.of_below HB.out))
      have HLO3 : Hid (lo ≤ ((w1.alloc (.cells #[.int .i64 t, .int .i64 m, .int .i64 p, .slice A3 l3.length c3, .slice A4 l4.length c4] 51)).alloc (.cells #[.int .i64 t, .int .i64 m, .int .i64 p, .slice A3 l3.length c3, .slice A4 l4.length c4] 51)).heap.size) := Lib.hid (by have := HLO.out; have := hd.size; have := HB.out.size; omega)
      have HX : Hid (stE ((w1.alloc (.cells #[.int .i64 t, .int .i64 m, .int .i64 p, .slice A3 l3.length c3, .slice A4 l4.length c4] 51)).alloc (.cells #[.int .i64 t, .int .i64 m, .int .i64 p, .slice A3 l3.length c3, .slice A4 l4.length c4] 51)) lo (Value.slice A q c).ownBlock [.int .i64 t, .int .i64 m, .int .i64 p, .slice A3 l3.length c3, .slice A4 l4.length c4] (t, m, p, l3, l4)) := Lib.hid (stE.own (own_below ho3 HB.out) (own_below ho4 HB.out) (by have := HLO.out; omega) (by have := HLO.out; omega) (fun q' hq' => by have := (HL.out.row.lt q' hq').2; omega) (fun q' hq' => by have := (HL.out.row.lt q' hq').2; omega))
      have HC2 := Lib.hid (hc.below HB.out); have HD2 := Lib.hid ((HD.out.trans hd).trans (Drew.of_below HB.out))
      clear ht hl3 hl4 ho3 ho4 hc hd HC HD HB HL
      go_wp2_with (at_builtin; refine wpList_pushK _ rfl (.tmp 20) (.tmp 22) 27 rfl lo 51 _ 5 72 infoEntry rfl (by omega) Try.underlying27 A q c hs rfl HL2.out.row (some ⟨w1.heap.size + 1, 0, none⟩) 1 1 [.int .i64 t, .int .i64 m, .int .i64 p, .slice A3 l3.length c3, .slice A4 l4.length c4] rfl (by have h := reads_litk (w1.alloc (.cells #[.int .i64 t, .int .i64 m, .int .i64 p, .slice A3 l3.length c3, .slice A4 l4.length c4] 51)) [.int .i64 t, .int .i64 m, .int .i64 p, .slice A3 l3.length c3, .slice A4 l4.length c4] 51 (n := 1) (k := 5) rfl; have e : (w1.alloc (.cells #[.int .i64 t, .int .i64 m, .int .i64 p, .slice A3 l3.length c3, .slice A4 l4.length c4] 51)).heap.size = w1.heap.size + 1 := World.size_alloc _ _; rw [e] at h; exact h) (by simp [Value.oneCell']) (by omega) (by omega) (by omega) HLO3.out ?_; intro A2 c2 w4 hown4 hg4 hb4 hloc4 hold4)
      have HLN := Lib.hid (HL2.out.push hg4 hown4 rfl hloc4 HX.out)
      have HLK := Lib.hid (HL2.out.kept hg4 hold4)
      have HC := Lib.hid (HC2.out.below' hb4 HGW.out)
      have HD := Lib.hid (Drew.then_below HD2.out (by rw [hlo]; exact hb4))
      clear hown4 hg4 hb4 hloc4 hold4 HX HL2 HC2 HD2 HLO3
      go_wp2_with fail
      refine (lgGood_any A2 (q + 1) c2 (L ++ [(t, m, p, l3, l4)]) w4 (by omega) (fun x hx => dwE_len (dwE_snoc HOK.out HOE.out x hx)) HLN.out.reads).mono ?_
      rintro e w5 ⟨rfl, hb5⟩
      replace HLN := Lib.hid (HLN.out.keep (Keeps.of_below hb5)); replace HLK := Lib.hid (HLK.out.keep (Keeps.of_below hb5))
      replace HC := Lib.hid (HC.out.below hb5); replace HD := Lib.hid (HD.out.trans (Drew.of_below hb5))
      clear hb5
      generalize goodE (L ++ [(t, m, p, l3, l4)]) = gd
      cases gd with
      | true =>
        go_wp2_with fail
        refine (amongLit_any g _ [0, 1, 10, 40] 3 w5 _ _ rfl rfl (by omega) (by simp) (by simp) HC.out).mono ?_
        rintro e w7 ⟨z, hz, rfl, hc, hd⟩
        have hz2 : 0 ≤ z ∧ z ≤ 40 := by simp at hz; omega
        have HC7 := Lib.hid hc; have HD7 := Lib.hid (HD.out.trans hd); have HL7 := Lib.hid (HLN.out.keep (Keeps.of_drew hd HGW.out))
        clear hc hd hz
        obtain ⟨s, hs0⟩ : ∃ s : Nat, s = r - 1 := ⟨_, rfl⟩
        have es : (r : Int) - 1 = (s : Int) := by omega
        have hs1 : s + 1 ≤ r := by omega
        have hs2 : r ≤ s + 1 := by omega
        clear hs0
        obtain ⟨T2, hT⟩ : ∃ T2 : Int, T2 = T + z := ⟨_, rfl⟩
        have hT2 : 0 ≤ T2 ∧ T2 ≤ 50 + 40 * (8 - (s : Int)) := by omega
        have eT : T + z = T2 := hT.symm
        clear hT hz2
        go_wp2
        go_roundw
        case rel => exact ⟨A2, q + 1, c2, L ++ [(t, m, p, l3, l4)], hs ++ [.int .i64 t, .int .i64 m, .int .i64 p, .slice A3 l3.length c3, .slice A4 l4.length c4], s, T2, by first | rfl | exact congrArg (Value.int .i64) eT, by first | rfl | exact congrArg (Value.int .i64) eT, by first | rfl | exact congrArg (Value.int .i64) es, by omega, by omega, hT2, HL7.out, dwE_snoc HOK.out HOE.out, HC7.out.mono (by omega), HD7.out⟩
        case measure => first | (simp [intOf]; done) | (simp [intOf]; omega)
      | false =>
        go_wp2_with fail
        refine (one_any g _ 30 _ (by omega) (by omega) HC.out).mono ?_
        rintro e w6 ⟨b6, rfl, hc, hd⟩
        replace HLN := Lib.hid (HLN.out.keep (Keeps.of_drew hd HGW.out)); replace HLK := Lib.hid (HLK.out.keep (Keeps.of_drew hd HGW.out))
        replace HC := Lib.hid hc; replace HD := Lib.hid (HD.out.trans hd)
        clear hc hd
        cases b6 with
        | true =>
          go_wp2_with fail
          refine (amongLit_any g _ [0, 1, 10, 40] 3 w6 _ _ rfl rfl (by omega) (by simp) (by simp) HC.out).mono ?_
          rintro e w7 ⟨z, hz, rfl, hc, hd⟩
          have hz2 : 0 ≤ z ∧ z ≤ 40 := by simp at hz; omega
          have HC7 := Lib.hid hc; have HD7 := Lib.hid (HD.out.trans hd); have HL7 := Lib.hid (HLN.out.keep (Keeps.of_drew hd HGW.out))
          clear hc hd hz
          obtain ⟨s, hs0⟩ : ∃ s : Nat, s = r - 1 := ⟨_, rfl⟩
          have es : (r : Int) - 1 = (s : Int) := by omega
          have hs1 : s + 1 ≤ r := by omega
          have hs2 : r ≤ s + 1 := by omega
          clear hs0
          obtain ⟨T2, hT⟩ : ∃ T2 : Int, T2 = T + z := ⟨_, rfl⟩
          have hT2 : 0 ≤ T2 ∧ T2 ≤ 50 + 40 * (8 - (s : Int)) := by omega
          have eT : T + z = T2 := hT.symm
          clear hT hz2
          go_wp2
          go_roundw
          case rel => exact ⟨A2, q + 1, c2, L ++ [(t, m, p, l3, l4)], hs ++ [.int .i64 t, .int .i64 m, .int .i64 p, .slice A3 l3.length c3, .slice A4 l4.length c4], s, T2, by first | rfl | exact congrArg (Value.int .i64) eT, by first | rfl | exact congrArg (Value.int .i64) eT, by first | rfl | exact congrArg (Value.int .i64) es, by omega, by omega, hT2, HL7.out, dwE_snoc HOK.out HOE.out, HC7.out.mono (by omega), HD7.out⟩
          case measure => first | (simp [intOf]; done) | (simp [intOf]; omega)
        | false =>
          go_wp2_with fail
          refine (amongLit_any g _ [0, 1, 10, 40] 3 w6 _ _ rfl rfl (by omega) (by simp) (by simp) HC.out).mono ?_
          rintro e w7 ⟨z, hz, rfl, hc, hd⟩
          have hz2 : 0 ≤ z ∧ z ≤ 40 := by simp at hz; omega
          have HC7 := Lib.hid hc; have HD7 := Lib.hid (HD.out.trans hd); have HL7 := Lib.hid (HLK.out.keep (Keeps.of_drew hd HGW.out))
          clear hc hd hz
          obtain ⟨s, hs0⟩ : ∃ s : Nat, s = r - 1 := ⟨_, rfl⟩
          have es : (r : Int) - 1 = (s : Int) := by omega
          have hs1 : s + 1 ≤ r := by omega
          have hs2 : r ≤ s + 1 := by omega
          clear hs0
          obtain ⟨T2, hT⟩ : ∃ T2 : Int, T2 = T + z := ⟨_, rfl⟩
          have hT2 : 0 ≤ T2 ∧ T2 ≤ 50 + 40 * (8 - (s : Int)) := by omega
          have eT : T + z = T2 := hT.symm
          clear hT hz2
          go_wp2
          go_roundw
          case rel => exact ⟨A, q, c, L, hs, s, T2, by first | rfl | exact congrArg (Value.int .i64) eT, by first | rfl | exact congrArg (Value.int .i64) eT, by first | rfl | exact congrArg (Value.int .i64) es, by omega, by omega, hT2, HL7.out, HOK.out, HC7.out.mono (by omega), HD7.out⟩
          case measure => first | (simp [intOf]; done) | (simp [intOf]; omega)
    · have hrz : ¬ (0 : Int) < (r : Int) := by omega
      go_wp2_with fail
      refine (one_any g _ 24 _ (by omega) (by omega) HC.out).mono ?_
      rintro e w6 ⟨b6, rfl, hc, hd⟩
      replace HL := Lib.hid (HL.out.keep (Keeps.of_drew hd HGW.out))
      replace HC := Lib.hid (hc.mono (k' := k + 9000) (by omega)); replace HD := Lib.hid (HD.out.trans hd)
      clear hc hd
      cases b6 with
      | false =>
        go_wp2
        go_ret
        exact ⟨A, q, c, L, hs, rfl, own_cap HL.out.row, by omega, HL.out, HOK.out, HC.out.mono (by omega), HD.out⟩
      | true =>
        clear HL HOK HLO
        go_wp2_with fail
        refine (pick_any g _ 2 _ (by omega) (by omega) HC.out).mono ?_
        rintro e w7 ⟨x, rfl, hx, hx', hc, hd⟩
        obtain ⟨N, hN⟩ : ∃ N : Nat, N = 30 + x := ⟨_, rfl⟩
        have eN : (30 : Int) + (x : Int) = (N : Int) := by omega
        have hN31 : N ≤ 31 := by omega
        have HN31 := Lib.hid hN31
        have HC := Lib.hid hc; have HD := Lib.hid (HD.out.trans hd)
        clear hc hd hx hx' hN
        go_wp2
        go_loopw [3] (fun lv wr => ∃ A c L hs, ∃ q : Nat, q ≤ N ∧ lv = .slice A q c ∧ LogO wr lo A q c L hs ∧ (∀ x ∈ L, dwE x) ∧ Cur wr g (k + 9002) ∧ Drew g w wr) (fun lv _ => N - lenV lv)
        case atStart => exact ⟨none, 0, [], [], 0, Nat.zero_le _, rfl, LogO.nil _ _, fun x hx => by simp at hx, HC.out.mono (by omega), HD.out⟩
        case round =>
          obtain ⟨A, c, L, hs, q, hq, rfl, hl, hok, hc, hd⟩ := hrel
          clear HC HD
          have HL := Lib.hid hl; have HOK := Lib.hid hok; have HC := Lib.hid hc; have HD := Lib.hid hd
          clear hl hok hc hd
          have HLO : Hid (lo ≤ wr.heap.size) := Lib.hid (by have := HD.out.size; omega)
          have HN := HN31.out
          by_cases hlt : q < N
          · have hqN : (q : Int) < (N : Int) := by omega
            obtain ⟨q1, hq1⟩ : ∃ q1 : Nat, q1 = q + 1 := ⟨_, rfl⟩
            have e1 : (1 : Int) + (q : Int) = (q1 : Int) := by omega
            have HQ1 := Lib.hid hq1
            have HOE : Hid (dwE ((q : Int), (q1 : Int), 0, [5], [5])) := Lib.hid ⟨by simp only; omega, by simp, by simp⟩
            clear hq1
            have HB : Hid (Below wr.heap.size wr (((wr.alloc (.cells #[.int .i64 5] 3)).alloc (.cells #[.int .i64 5] 3)).alloc (.cells #[.int .i64 (q : Int), .int .i64 (q1 : Int), .int .i64 0, .slice (some ⟨wr.heap.size, 0, none⟩) 1 1, .slice (some ⟨wr.heap.size + 1, 0, none⟩) 1 1] 51))) := Lib.hid ((((Below.refl _ _).alloc (Nat.le_refl _) _).alloc (by simp) _).alloc (by simp; omega) _)
            have HL2 := Lib.hid (HL.out.keep (Keeps.of_below HB.out))
            have HLO3 : Hid (lo ≤ (((wr.alloc (.cells #[.int .i64 5] 3)).alloc (.cells #[.int .i64 5] 3)).alloc (.cells #[.int .i64 (q : Int), .int .i64 (q1 : Int), .int .i64 0, .slice (some ⟨wr.heap.size, 0, none⟩) 1 1, .slice (some ⟨wr.heap.size + 1, 0, none⟩) 1 1] 51)).heap.size) := Lib.hid (by have := HLO.out; have := HB.out.size; omega)
            have HO3 : Hid ((((wr.alloc (.cells #[.int .i64 5] 3)).alloc (.cells #[.int .i64 5] 3)).alloc (.cells #[.int .i64 (q : Int), .int .i64 (q1 : Int), .int .i64 0, .slice (some ⟨wr.heap.size, 0, none⟩) 1 1, .slice (some ⟨wr.heap.size + 1, 0, none⟩) 1 1] 51)).ownsRow wr.heap.size 3 1 (.slice (some ⟨wr.heap.size, 0, none⟩) 1 1) 1 (ints [5])) := Lib.hid (own_below (own_built wr (ints [5]) 3 (by simp) (Nat.le_refl _)) (((Below.refl _ _).alloc (Nat.le_refl _) _).alloc (by simp) _))
            have HO4 : Hid ((((wr.alloc (.cells #[.int .i64 5] 3)).alloc (.cells #[.int .i64 5] 3)).alloc (.cells #[.int .i64 (q : Int), .int .i64 (q1 : Int), .int .i64 0, .slice (some ⟨wr.heap.size, 0, none⟩) 1 1, .slice (some ⟨wr.heap.size + 1, 0, none⟩) 1 1] 51)).ownsRow (wr.heap.size + 1) 3 1 (.slice (some ⟨wr.heap.size + 1, 0, none⟩) 1 1) 1 (ints [5])) := Lib.hid (by
              have h := own_built (wr.alloc (.cells #[.int .i64 5] 3)) (ints [5]) 3 (by simp) (Nat.le_refl _)
              have e : (wr.alloc (.cells #[.int .i64 5] 3)).heap.size = wr.heap.size + 1 := World.size_alloc _ _
              rw [e] at h
              exact own_below h ((Below.refl _ _).alloc (Nat.le_refl _) _))
            have HX : Hid (stE (((wr.alloc (.cells #[.int .i64 5] 3)).alloc (.cells #[.int .i64 5] 3)).alloc (.cells #[.int .i64 (q : Int), .int .i64 (q1 : Int), .int .i64 0, .slice (some ⟨wr.heap.size, 0, none⟩) 1 1, .slice (some ⟨wr.heap.size + 1, 0, none⟩) 1 1] 51)) lo (Value.slice A q c).ownBlock [.int .i64 (q : Int), .int .i64 (q1 : Int), .int .i64 0, .slice (some ⟨wr.heap.size, 0, none⟩) 1 1, .slice (some ⟨wr.heap.size + 1, 0, none⟩) 1 1] ((q : Int), (q1 : Int), 0, [5], [5])) := Lib.hid (stE.own (l3 := [5]) (l4 := [5]) HO3.out HO4.out (by have := HLO.out; omega) (by have := HLO.out; omega) (fun q' hq' => (HL.out.row.lt q' hq').2) (fun q' hq' => by have := (HL.out.row.lt q' hq').2; omega))
            have HC2 := Lib.hid (HC.out.below HB.out); have HD2 := Lib.hid (HD.out.trans (Drew.of_below HB.out))
            clear HC HD HL HB HO3 HO4
            go_wp2_with (at_builtin; refine wpList_pushK _ rfl (.tmp 45) (.tmp 54) 27 rfl lo 51 _ 5 72 infoEntry rfl (by omega) Try.underlying27 A q c hs rfl HL2.out.row (some ⟨wr.heap.size + 1 + 1, 0, none⟩) 1 1 [.int .i64 (q : Int), .int .i64 (q1 : Int), .int .i64 0, .slice (some ⟨wr.heap.size, 0, none⟩) 1 1, .slice (some ⟨wr.heap.size + 1, 0, none⟩) 1 1] rfl (by have h := reads_litk ((wr.alloc (.cells #[.int .i64 5] 3)).alloc (.cells #[.int .i64 5] 3)) [.int .i64 (q : Int), .int .i64 (q1 : Int), .int .i64 0, .slice (some ⟨wr.heap.size, 0, none⟩) 1 1, .slice (some ⟨wr.heap.size + 1, 0, none⟩) 1 1] 51 (n := 1) (k := 5) rfl; have e : ((wr.alloc (.cells #[.int .i64 5] 3)).alloc (.cells #[.int .i64 5] 3)).heap.size = wr.heap.size + 1 + 1 := (World.size_alloc _ _).trans (congrArg (· + 1) (World.size_alloc _ _)); rw [e] at h; exact h) (by simp [Value.oneCell']) (by omega) (by omega) (by omega) HLO3.out ?_; intro A2 c2 w4 hown4 hg4 hb4 hloc4 hold4)
            have HLN := Lib.hid (HL2.out.push hg4 hown4 rfl hloc4 HX.out)
            have HC := Lib.hid (HC2.out.below' hb4 HGW.out)
            have HD := Lib.hid (Drew.then_below HD2.out (by rw [hlo]; exact hb4))
            clear hown4 hg4 hb4 hloc4 hold4 HX HL2 HC2 HD2 HLO3
            go_wp2
            go_roundw
            case rel => exact ⟨A2, c2, L ++ [((q : Int), (q1 : Int), 0, [5], [5])], hs ++ [.int .i64 (q : Int), .int .i64 (q1 : Int), .int .i64 0, .slice (some ⟨wr.heap.size, 0, none⟩) 1 1, .slice (some ⟨wr.heap.size + 1, 0, none⟩) 1 1], q + 1, by omega, rfl, HLN.out, dwE_snoc HOK.out HOE.out, HC.out, HD.out⟩
            case measure => simp [lenV]; omega
          · have hqN : ¬ (q : Int) < (N : Int) := by omega
            go_wp2
            go_ret
            exact ⟨A, q, c, rfl, own_cap HL.out.row, by omega, L, ⟨hs, HL.out⟩, fun _ _ _ _ _ h => HOK.out _ h, HC.out.mono (by omega), HD.out⟩

end Go.Proofs.Ytcjmlakmigfkfaa
