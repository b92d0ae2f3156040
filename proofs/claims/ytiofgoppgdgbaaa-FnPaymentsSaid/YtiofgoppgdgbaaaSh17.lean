/- Contract of ShareByHours of the spec. No conditions. -/
import Derived.Test.YtiofgoppgdgbaaaHours
import Derived.Test.YtiofgoppgdgbaaaMark
import Derived.Test.YtiofgoppgdgbaaaNest
namespace Go.Proofs.Ytiofgoppgdgbaaa
set_option linter.unusedSimpArgs false
set_option linter.unusedVariables false
open Go.RowKit

theorem take_full {α : Type} {l : List α} {n : Nat} (h : l.length = n) : l.take n = l := List.take_of_length_le (by omega)
def dones (R : List Int) : List Bool := R.map fun x => decide (x < 0)
@[simp] theorem length_dones (R : List Int) : (dones R).length = R.length := by simp [dones]
theorem dones_set {R : List Int} {b : Nat} (h : b < R.length) : (bools (dones R)).set b (.bool true) = bools (dones (R.set b (-1))) := by
  unfold bools dones
  rw [List.map_map, List.map_map, List.map_set]
  rfl
theorem ints_set (S : List Int) (b : Nat) (v : Int) : (ints S).set b (.int .i64 v) = ints (S.set b v) := by simp [ints, List.map_set]
theorem row_setOther {w : World} {base g g' i k n c : Nat} {e : TypeId} {u : Value} {xs : List Value} (h : w.ownsRow base e k (.slice (some ⟨g, 0, none⟩) n c) n xs) (hg : g ≠ g') : (w.setCell ⟨g', i, none⟩ u).ownsRow base e k (.slice (some ⟨g, 0, none⟩) n c) n xs :=
  row_same h fun q hq => Below.heap_setCell _ _ _ _ (by
    have : q = g := by simpa [Value.ownBlock] using hq.symm
    subst this
    exact hg)
theorem rests_nonneg {p s : Int} (hs : 0 < s) (ns : List Int) : ∀ x ∈ rests p s ns, 0 ≤ x := by
  intro x hx
  simp only [rests, List.mem_map] at hx
  obtain ⟨n, _, rfl⟩ := hx
  exact Int.emod_nonneg _ (by omega)
theorem dones_none {R : List Int} (h : ∀ x ∈ R, 0 ≤ x) : bools (dones R) = List.replicate R.length (.bool false) := by
  induction R with
  | nil => rfl
  | cons x r ih =>
    have h1 := ih (fun y hy => h y (by simp [hy]))
    have h2 := h x (by simp)
    simp only [bools, dones, List.map_cons, List.length_cons, List.replicate_succ] at h1 ⊢
    rw [h1]
    have : ¬ x < 0 := by omega
    simp [this]

set_option maxHeartbeats 4000000 in
set_option maxRecDepth 100000 in
theorem specShareByHours_any (A : Option Addr) (n cc : Nat) (l : List S3) (cents : Int) (w : World) (hn : n ≤ 1000000000) (h : Reads w 3 A n (rows3 l)) (hnc : n ≤ cc) :
    Calls Try.prog 27 #[.slice A n cc, .int .i64 cents] w (Made2 w 3 1 (shareR l cents).1.length (ints (shareR l cents).1) (shareR l cents).2) := by
  have hlx : l.length = n := by have := h.1; rw [length_rows3] at this; omega
  have CG := Lib.hid (shGood_any A n cc l w hn hnc h)
  cases h1 : goodShifts l with
  | false =>
    rw [h1] at CG
    have hr : shareR l cents = ([], false) := by simp [shareR, h1]
    rw [hr]
    
    clear hr h
    go_enter Try.func27, Try.ntmps27
    go_wp2_with (first | (go_at_call 62; refine (CG.out).mono ?_; rintro e w1 ⟨rfl, hb⟩; have HB1 := Lib.hid hb; clear hb) | (go_at_call 59; refine (l1In_any _ _ _ _).mono ?_; rintro e w' ⟨rfl, rfl⟩))
    go_ret2
    exact ⟨none, 0, rfl, own_start, HB1.out⟩
  | true =>
    rw [h1] at CG
    by_cases h2 : n = 0
    · have h2' : ((n : Int) == 0) = true := by simp [h2]
      have hr : shareR l cents = ([], false) := by simp [shareR, hlx, h2]
      rw [hr]
      have hl0 : l.length = 0 := by omega
      clear h2 hlx hl0
      clear hr h
      go_enter Try.func27, Try.ntmps27
      go_wp2_with (first | (go_at_call 62; refine (CG.out).mono ?_; rintro e w1 ⟨rfl, hb⟩; have HB1 := Lib.hid hb; clear hb) | (go_at_call 59; refine (l1In_any _ _ _ _).mono ?_; rintro e w' ⟨rfl, rfl⟩))
      go_ret2
      exact ⟨none, 0, rfl, own_start, HB1.out⟩
    · have h2' : ((n : Int) == 0) = false := by simp; omega
      cases h3 : inB cents 0 1000000 with
      | false =>
        have hr : shareR l cents = ([], false) := by simp [shareR, h3]
        rw [hr]
        
        clear hr h
        go_enter Try.func27, Try.ntmps27
        go_wp2_with (first | (go_at_call 62; refine (CG.out).mono ?_; rintro e w1 ⟨rfl, hb⟩; have HB1 := Lib.hid hb; clear hb) | (go_at_call 59; refine (l1In_any _ _ _ _).mono ?_; rintro e w' ⟨rfl, rfl⟩))
        go_ret2
        exact ⟨none, 0, rfl, own_start, HB1.out⟩
      | true =>
        have hr : shareR l cents = (sharesOf cents (hoursOf l), true) := by simp [shareR, h1, hlx, h2, h3]
        rw [hr]
        obtain ⟨hc0, hc1⟩ := inB_true.1 h3
        have hw := good_week h1
        have hn60 := good_len h1
        rw [hlx] at hn60
        have hsum := sum_hours h1
        have hdb := durs_bd hw
        rw [← hsum, hlx] at hdb
        have hsp : 0 < sumI (hoursOf l) := by omega
        have HHB := Lib.hid (hours_bd h1)
        have HST := Lib.hid (ShInv.start (p := cents) (ns := hoursOf l) hsp hc0 hc1 (fun x hx => (hours_bd h1 x hx).1) (by simp))
        have HGET : Hid (∀ (k : Nat) (hk : k < 30), (hoursOf l)[k]? = some (duty ((k : Int) + 1) l).1) := Lib.hid (fun k hk => hoursOf_get hk)
        have HLEN := Lib.hid (length_hoursOf l)
        have HFIN : Hid (sharesOf cents (hoursOf l) = (shareN (cents - sumI (quos cents (sumI (hoursOf l)) (hoursOf l))).toNat (quos cents (sumI (hoursOf l)) (hoursOf l), rests cents (sumI (hoursOf l)) (hoursOf l))).1) := Lib.hid rfl
        have HLF := Lib.hid (length_sharesOf cents (hoursOf l))
        have HLB : Hid (0 ≤ cents - sumI (quos cents (sumI (hoursOf l)) (hoursOf l))) := Lib.hid (left_bd hsp (by intro e; have := length_hoursOf l; rw [e] at this; simp at this)).1
        have HWW := Lib.hid hw
        have H := Lib.hid h
        have hs10 : sumI (hoursOf l) ≤ 10080 := by omega
        have CW := Lib.hid (fun W (hW : Below w.heap.size w W) (op : Int) => wgHours_any A n cc l op W hn60 HWW.out (H.out.below hW))
        clear hr hsum hdb h hw HLEN
        have HHL : Hid ((hoursOf l).length = 30) := Lib.hid (length_hoursOf l)
        generalize sharesOf cents (hoursOf l) = FINAL at *
        generalize hoursOf l = H0 at *
        go_enter Try.func27, Try.ntmps27
        go_wp2_with (first | (go_at_call 62; refine (CG.out).mono ?_; rintro e w1 ⟨rfl, hb⟩; have HB1 := Lib.hid hb; clear hb) | (go_at_call 59; refine (l1In_any _ _ _ _).mono ?_; rintro e w' ⟨rfl, rfl⟩))
        go_loopw [6, 7] (fun v i wr => ∃ k A1 c1, k ≤ 30 ∧ i = .int .i64 ((k : Nat) + 1 : Int) ∧ v = .slice A1 k c1 ∧ wr.ownsRow w.heap.size 3 1 (.slice A1 k c1) k (ints (H0.take k)) ∧ Below w.heap.size w wr) (fun _ i _ => 31 - (intOf i).toNat)
        case atStart => exact ⟨0, none, 0, by omega, rfl, rfl, own_start, HB1.out⟩
        case round =>
          obtain ⟨k, A1, c1, hk, rfl, rfl, hown, hb⟩ := hrel
          have HBL := Lib.hid hb; clear hb
          have HO := Lib.hid hown; clear hown
          by_cases hlt : k < 30
          · have hx : k < H0.length := by rw [HHL.out]; exact hlt
            have HTK : Hid (H0.take (k + 1) = H0.take k ++ [(duty ((k : Int) + 1) l).1]) := Lib.hid (by
              have h1 := HGET.out k hlt
              rw [List.getElem?_eq_getElem hx] at h1
              injection h1 with h1
              rw [List.take_succ_eq_append_getElem hx, h1])
            have CWK := Lib.hid (CW.out _ HBL.out ((k : Int) + 1))
            generalize (duty ((k : Int) + 1) l).1 = d1 at *
            generalize (duty ((k : Int) + 1) l).2 = d2 at *
            go_wp2_with (first | (go_at_call 52; refine (CWK.out).mono ?_; rintro e w2 ⟨rfl, hb2⟩; have HB2 := Lib.hid hb2; have hz2 : w.heap.size ≤ w2.heap.size := (by have := HBL.out.size; have := hb2.size; omega); have hown := own_below HO.out hb2; clear hb2) | (at_builtin; refine wpList_push _ rfl (.tmp 42) (.tmp 44) 42 rfl w.heap.size 3 (.int .i64 0) 1 8 infoInt rfl (by omega) Try.underlying42 A1 k c1 (ints (H0.take k)) rfl (hown.alloc _) (some ⟨w2.heap.size, 0, none⟩) 1 1 [.int .i64 d1] rfl (reads_new _ _ _) (by simp [Value.oneCell']) (by omega) (by omega) (by simp; omega) ?_; intro A' c' w1 hown1 hg1 hb1))
            go_roundw
            case rel =>
              refine ⟨k + 1, A', c', by omega, by go_num, rfl, ?_, (HBL.out.trans (HB2.out.mono HBL.out.size)).trans (((Below.refl _ _).alloc hz2 _).trans hb1)⟩
              rw [HTK.out]
              simpa [ints] using hown1
            case measure => simp [intOf]; omega
          · obtain rfl : k = 30 := by omega
            have ho := HO.out
            rw [take_full HHL.out] at ho
            have HOH := Lib.hid ho
            clear ho HO CW HGET
            obtain ⟨w2, rfl⟩ : ∃ w2, w2 = wr := ⟨_, rfl⟩
            have CS : Hid (Calls Try.prog 63 #[.slice A1 30 c1] w2 fun e w' => e = .returned (.int .i64 (sumI H0)) ∧ w2 = w') := Lib.hid (by
              rw [← sumL_sumI]
              exact wgSum_any A1 30 c1 H0 w2 (by omega) (Reads.of_own HOH.out) (fun x hx => by have := HHB.out x hx; omega))
            have HQL : Hid ((quos cents (sumI H0) H0).length = 30) := Lib.hid (by simp [HHL.out])
            generalize sumI H0 = s at *
            have HQG : Hid (∀ (k : Nat) (x : Int), H0[k]? = some x → (quos cents s H0)[k]? = some (cents * x / s)) := Lib.hid (fun k x hx => by simp [quos, hx])
            have HQB : Hid (∀ x ∈ quos cents s H0, 0 ≤ x ∧ x ≤ 3000000) := Lib.hid (fun x hx => by have := HST.out.bd x hx; omega)
            generalize quos cents s H0 = Q at *
            go_wp2_with (first | (go_at_call 63; refine (CS.out).mono ?_; rintro e w' ⟨rfl, rfl⟩) | (at_make; refine wpList_mk _ rfl (.const (.int .i64 30)) (.const (.int .i64 30)) 42 rfl w2.heap.size 3 (.int .i64 0) _ infoInt rfl Try.underlying42 _ _ _ _ 30 rfl rfl rfl rfl (by omega) (by omega) (by first | exact Nat.le_refl _ | omega | (simp; omega)) ?_; intro w3 hown3 hb3 hz3))
            rw [← mid_start (l := ints Q)] at hown3
            have HS3 := Lib.hid (And.intro hown3 hb3)
            have HG2 : Hid (w.heap.size ≤ w2.heap.size) := Lib.hid HBL.out.size
            clear hown3 hb3 hz3 CS
            generalize hg2 : w2.heap.size = g2 at *
            go_loopw [11, 52] (fun lf i wr => ∃ k : Nat, k ≤ 30 ∧ i = .int .i64 k ∧ lf = .int .i64 (cents - sumI (Q.take k)) ∧ wr.ownsRow g2 3 1 (.slice (some ⟨g2, 0, none⟩) 30 30) 30 ((ints Q).take k ++ List.replicate (30 - k) (.int .i64 0)) ∧ Below g2 w2 wr) (fun _ i _ => 30 - (intOf i).toNat)
            case atStart => exact ⟨0, by omega, rfl, by simp [sumI], HS3.out.1, HS3.out.2⟩
            case round =>
              clear HS3
              obtain ⟨k, hk, rfl, rfl, hown, hb⟩ := hrel
              have HBQ := Lib.hid hb; clear hb
              have HO := Lib.hid hown; clear hown
              have hsb := sumI_bd (l := Q.take k) (b := 3000000) (fun x hx => HQB.out x (List.mem_of_mem_take hx))
              have hsl : (Q.take k).length = k := by simp [HQL.out]; omega
              rw [hsl] at hsb
              clear hsl
              by_cases hlt : k < 30
              · have hx : k < H0.length := by rw [HHL.out]; exact hlt
                obtain ⟨ad, rfl, hc⟩ := ((Reads.of_own HOH.out).keep (w' := wr) (fun p hp => HBQ.out.cell (by omega))).2 (by omega)
                have hcell : wr.cell? (ad.add k) = some (.int .i64 H0[k]) := hc k _ (by simp [ints, hx])
                have hq := HQG.out k H0[k] (List.getElem?_eq_getElem hx)
                have hxb := HHB.out H0[k] (List.getElem_mem hx)
                have hxq : k < Q.length := by rw [HQL.out]; exact hlt
                have HTK : Hid (sumI (Q.take (k + 1)) = sumI (Q.take k) + cents * H0[k] / s) := Lib.hid (by
                  rw [sumI_take hxq]
                  rw [List.getElem?_eq_getElem hxq] at hq
                  injection hq with hq
                  rw [hq])
                have hqb := HQB.out _ (List.mem_of_getElem? hq)
                clear hc
                generalize H0[k] = x at *
                have hp0 : 0 ≤ cents * x := Int.mul_nonneg hc0 hxb.1
                have hp1 : cents * x ≤ 1000000 * 10080 := Int.mul_le_mul hc1 hxb.2 hxb.1 (by omega)
                have hold : wr.cell? ⟨g2, k, none⟩ = some (.int .i64 0) := by
                  rw [HO.out.cellAt k (by omega)]
                  exact mid_get (by simp [HQL.out]) hlt
                have hfz : wr.frozen? ⟨g2, k, none⟩ = false := HO.out.frozenAt k
                have hs := (HO.out.stored k (.int .i64 (cents * x / s))).1
                rw [mid_set (by simp [HQL.out]) hlt (by rw [ints, List.getElem?_map, hq]; rfl)] at hs
                have HS := Lib.hid hs
                have HB2 := Lib.hid (HBQ.out.setCell (p := ⟨g2, k, none⟩) (Nat.le_refl _) (.int .i64 (cents * x / s)))
                clear hs hq
                go_wp2
                go_roundw
                case rel => exact ⟨k + 1, by omega, by go_num, by have := HTK.out; congr 1; omega, HS.out, HB2.out⟩
                case measure => simp [intOf]; omega
              · obtain rfl : k = 30 := by omega
                have ho := HO.out
                rw [mid_end (by simp [HQL.out])] at ho
                have HOQ := Lib.hid ho
                rw [take_full HQL.out] at *
                clear ho HO
                have HBW4 : Hid (Below w.heap.size w wr) := Lib.hid (HBL.out.trans (HBQ.out.mono HG2.out))
                have HR0 : Hid ((rests cents s H0).length = 30) := Lib.hid (by simp [HHL.out])
                have HD0 : Hid (bools (dones (rests cents s H0)) = List.replicate 30 (.bool false)) := Lib.hid (by have h := dones_none (rests_nonneg (p := cents) hsp H0); rw [HR0.out] at h; exact h)
                generalize rests cents s H0 = R0 at *
                obtain ⟨t0, ht0⟩ : ∃ t0 : Nat, cents - sumI Q = (t0 : Int) := ⟨(cents - sumI Q).toNat, by have := HLB.out; omega⟩
                rw [ht0] at HST HFIN ⊢
                rw [Int.toNat_natCast] at HST HFIN
                have HT0 : Hid (t0 ≤ 30) := Lib.hid (by have h1 := HST.out.left; have h2 := List.length_filter_le (fun x : Int => decide (0 ≤ x)) R0; rw [HR0.out] at h2; unfold open_ at h1; omega)
                clear ht0 HLB hsb hk hlt HQG HQB
                obtain ⟨w4, rfl⟩ : ∃ w4, w4 = wr := ⟨_, rfl⟩
                have ht30 := HT0.out
                go_wp2_with (at_make; refine wpList_mk _ rfl (.const (.int .i64 30)) (.const (.int .i64 30)) 81 rfl w4.heap.size 4 (.bool false) _ infoBool rfl Try.underlying81 _ _ _ _ 30 rfl rfl rfl rfl (by omega) (by omega) (by first | exact Nat.le_refl _ | omega | (simp; omega)) ?_; intro w5 hown5 hb5 hz5)
                rw [← HD0.out] at hown5
                have hg24 : g2 < w4.heap.size := by have := (HOQ.out.lt g2 rfl).2; exact this
                have HSTART := Lib.hid (And.intro hown5 (And.intro (own_below HOQ.out hb5) (HBQ.out.trans (hb5.mono (by omega)))))
                clear hown5 hb5 hz5
                generalize hg3 : w4.heap.size = g3 at *
                go_loopw [11] (fun lf wr => ∃ t S R, lf = .int .i64 ((t : Nat) : Int) ∧ ShInv cents s H0 t S R ∧ shareN t (S, R) = shareN t0 (Q, R0) ∧ wr.ownsRow g2 3 1 (.slice (some ⟨g2, 0, none⟩) 30 30) 30 (ints S) ∧ wr.ownsRow g3 4 1 (.slice (some ⟨g3, 0, none⟩) 30 30) 30 (bools (dones R)) ∧ Below g2 w2 wr) (fun lf _ => (intOf lf).toNat)
                case atStart => exact ⟨t0, Q, R0, rfl, HST.out, rfl, HSTART.out.2.1, HSTART.out.1, HSTART.out.2.2⟩
                case round =>
                  clear HSTART
                  obtain ⟨t, S, R, rfl, hinv, hsh, hos, hor, hb⟩ := hrel
                  have HINV := Lib.hid hinv
                  have HSH := Lib.hid hsh; clear hsh
                  have HOS := Lib.hid hos; clear hos
                  have HOR := Lib.hid hor; clear hor
                  have HBB := Lib.hid hb; clear hb
                  have HRL : Hid (R.length = 30) := Lib.hid (by rw [hinv.lenR]; exact HHL.out)
                  have HSL : Hid (S.length = 30) := Lib.hid (by rw [hinv.lenS]; exact HHL.out)
                  have htl : t ≤ 30 := by have h1 := hinv.left; have h2 := List.length_filter_le (fun x : Int => decide (0 ≤ x)) R; rw [HRL.out] at h2; unfold open_ at h1; omega
                  clear hinv
                  have HHR := Lib.hid ((Reads.of_own HOH.out).keep (w' := wr) (fun p hp => HBB.out.cell (by omega)))
                  obtain ⟨ad, hA1, hHC⟩ := HHR.out.2 (by omega)
                  subst hA1
                  have HHC := Lib.hid hHC; clear hHC
                  by_cases ht : t = 0
                  · subst ht
                    have HE : Hid (FINAL = S) := Lib.hid (by rw [HFIN.out, ← HSH.out]; rfl)
                    go_wp2
                    go_ret2
                    rw [HE.out]
                    subst hg2
                    refine ⟨some ⟨w2.heap.size, 0, none⟩, 30, ?_, ?_, HBL.out.trans (HBB.out.mono HG2.out)⟩
                    · show _ = Ending.returned (.tuple #[.slice _ S.length 30, .bool true])
                      rw [HSL.out]
                      rfl
                    · have := own_mono HOS.out HG2.out
                      simpa only [HSL.out] using this
                  · obtain ⟨t, rfl⟩ : ∃ t', t = t' + 1 := ⟨t - 1, by omega⟩
                    have HSTEP := Lib.hid HINV.out.step
                    go_wp2
                    obtain ⟨wq, rfl⟩ : ∃ wq, wq = wr := ⟨_, rfl⟩
                    go_loopw [16, 79] (fun b i wr => ∃ k m : Nat, ∃ z : Int, k ≤ 30 ∧ i = .int .i64 k ∧ b = .int .i64 z ∧ BestN R z k ∧ wr = wq.drewN m) (fun _ i _ => 30 - (intOf i).toNat)
                    case atStart => exact ⟨0, 0, -1, by omega, rfl, rfl, BestN.start, rfl⟩
                    case round =>
                      obtain ⟨k, dm, z, hk, rfl, rfl, hbest, rfl⟩ := hrel
                      have HBE := Lib.hid hbest; clear hbest
                      by_cases hlt : k < 30
                      · have hx : k < H0.length := by rw [HHL.out]; exact hlt
                        have hxr : k < R.length := by rw [HRL.out]; exact hlt
                        have eR : R[k]? = some R[k] := List.getElem?_eq_getElem hxr
                        have hcH : wq.cell? (ad.add k) = some (.int .i64 H0[k]) := HHC.out k _ (by simp [ints, hx])
                        have hcD : wq.cell? ⟨g3, k, none⟩ = some (.bool (decide (R[k] < 0))) := by
                          rw [HOR.out.cellAt k (by omega)]
                          simp [bools, dones, hxr]
                        have hrest := HINV.out.rest k R[k] eR
                        have hxb := HHB.out H0[k] (List.getElem_mem hx)
                        have HER := Lib.hid eR
                        have hn : ∀ n, H0[k]? = some n → n = H0[k] := fun n h => by rw [List.getElem?_eq_getElem hx] at h; injection h with h; exact h.symm
                        have hrest2 : R[k] = -1 ∨ (0 ≤ R[k] ∧ R[k] = cents * H0[k] % s) := by
                          rcases hrest with h | ⟨h0, n, h1, h2⟩
                          · exact .inl h
                          · exact .inr ⟨h0, by rw [h2, hn n h1]⟩
                        clear hrest hn eR
                        generalize R[k] = x at *
                        generalize H0[k] = nk at *
                        have hp0 : 0 ≤ cents * nk := Int.mul_nonneg hc0 hxb.1
                        have hp1 : cents * nk ≤ 1000000 * 10080 := Int.mul_le_mul hc1 hxb.2 hxb.1 (by omega)
                        by_cases hneg : x < 0
                        · have hd : decide (x < 0) = true := by simp [hneg]
                          rw [hd] at hcD
                          clear hd hrest2
                          go_wp2
                          go_quiet (fail)
                          go_wp2
                          go_roundw
                          case rel => exact ⟨k + 1, _, z, by omega, by go_num, rfl, HBE.out.keep HER.out (.inl hneg), rfl⟩
                          case measure => simp [intOf]; omega
                        · have hd : decide (x < 0) = false := by simp [hneg]
                          rw [hd] at hcD
                          have hxe : x = cents * nk % s := by
                            rcases hrest2 with h | h
                            · omega
                            · exact h.2
                          clear hd hrest2
                          have hx0 : 0 ≤ x := by omega
                          rcases (show z < 0 ∧ (z = -1) ∨ ∃ m : Nat, z = (m : Int) ∧ m < 30 ∧ ∃ y, R[m]? = some y ∧ 0 ≤ y from by
                            rcases HBE.out with ⟨h, _⟩ | ⟨m, h, hm, y, hy, h0, _⟩
                            · exact .inl ⟨by omega, h⟩
                            · exact .inr ⟨m, h, by omega, y, hy, h0⟩) with ⟨hz, hze⟩ | ⟨m, rfl, hm, y, hy, hy0⟩
                          · have HXE := Lib.hid hxe
                            have HZE := Lib.hid hze
                            clear hxe hze
                            have hz1 : decide (z < 0) = true := by simp [hz]
                            go_wp2
                            go_quiet (fail)
                            go_wp2
                            refine ⟨⟨_, _, _, _, _, _, _, _, _, _, _, _, _, _, _, _, _, _, _, _, _, _, _, _, _, _, _, _, _, _, _, _, _, _, _, ?rel, rfl⟩, ?measure⟩
                            case rel => exact ⟨k + 1, _, (k : Int), by omega, by go_num, rfl, HBE.out.take HER.out hx0 (.inl HZE.out), rfl⟩
                            case measure => simp [intOf]; omega
                          · have hmx : m < H0.length := by rw [HHL.out]; exact hm
                            have hcM : wq.cell? (ad.add m) = some (.int .i64 H0[m]) := HHC.out m _ (by simp [ints, hmx])
                            have hmb := HHB.out H0[m] (List.getElem_mem hmx)
                            have hye : y = cents * H0[m] % s := by
                              rcases HINV.out.rest m y hy with h | ⟨_, n, h1, h2⟩
                              · omega
                              · rw [List.getElem?_eq_getElem hmx] at h1
                                injection h1 with h1
                                rw [h2, h1]
                            generalize H0[m] = nm at *
                            have hq0 : 0 ≤ cents * nm := Int.mul_nonneg hc0 hmb.1
                            have hq1 : cents * nm ≤ 1000000 * 10080 := Int.mul_le_mul hc1 hmb.2 hmb.1 (by omega)
                            have HY := Lib.hid hy
                            have HXE := Lib.hid hxe
                            have HYE := Lib.hid hye
                            clear hy hxe hye
                            have hz1 : decide ((m : Int) < 0) = false := by simp
                            have hm0 : (0 : Int) ≤ (m : Int) := by omega
                            have hm30 : (m : Int) < 30 := by omega
                            have ht1 : (cents * nk).tmod s = x := by rw [Int.tmod_eq_emod_of_nonneg hp0, HXE.out]
                            have ht2 : (cents * nm).tmod s = y := by rw [Int.tmod_eq_emod_of_nonneg hq0, HYE.out]
                            by_cases hlt2 : y < x
                            · have hdl : decide (y < x) = true := by simp [hlt2]
                              go_wp2
                              go_quiet (fail)
                              go_wp2
                              refine ⟨⟨_, _, _, _, _, _, _, _, _, _, _, _, _, _, _, _, _, _, _, _, _, _, _, _, _, _, _, _, _, _, _, _, _, _, _, ?rel, rfl⟩, ?measure⟩
                              case rel => exact ⟨k + 1, _, (k : Int), by omega, by go_num, rfl, HBE.out.take HER.out hx0 (.inr ⟨m, rfl, y, HY.out, hlt2⟩), rfl⟩
                              case measure => simp [intOf]; omega
                            · have hdl : decide (y < x) = false := by simp [hlt2]
                              go_wp2
                              go_quiet (fail)
                              go_wp2
                              refine ⟨⟨_, _, _, _, _, _, _, _, _, _, _, _, _, _, _, _, _, _, _, _, _, _, _, _, _, _, _, _, _, _, _, _, _, _, _, ?rel, rfl⟩, ?measure⟩
                              case rel => exact ⟨k + 1, _, (m : Int), by omega, by go_num, rfl, HBE.out.keep HER.out (.inr ⟨m, rfl, y, HY.out, by omega⟩), rfl⟩
                              case measure => simp [intOf]; omega
                      · obtain rfl : k = 30 := by omega
                        have hbe : z = (best R : Int) := by
                          have h1 := HBE.out
                          rw [← HRL.out] at h1
                          exact h1.end_ (by have := HINV.out.left; omega)
                        subst hbe
                        obtain ⟨hb1, _, _, hSb, hinv2⟩ := HSTEP.out
                        rw [HHL.out] at hb1
                        have hvb := HINV.out.bd _ (List.mem_of_getElem? hSb)
                        have HI2 : Hid (ShInv cents s H0 t (S.set (best R) (S.getD (best R) 0 + 1)) (R.set (best R) (-1))) := Lib.hid hinv2
                        have HSH2 : Hid (shareN t (S.set (best R) (S.getD (best R) 0 + 1), R.set (best R) (-1)) = shareN t0 (Q, R0)) := Lib.hid (by rw [← HSH.out]; rfl)
                        obtain ⟨wz, hwz⟩ : ∃ wz, wz = wq.drewN dm := ⟨_, rfl⟩
                        have HOSz : Hid (wz.ownsRow g2 3 1 (.slice (some ⟨g2, 0, none⟩) 30 30) 30 (ints S)) := Lib.hid (by rw [hwz]; exact HOS.out)
                        have HORz : Hid (wz.ownsRow g3 4 1 (.slice (some ⟨g3, 0, none⟩) 30 30) 30 (bools (dones R))) := Lib.hid (by rw [hwz]; exact HOR.out)
                        have HBBz : Hid (Below g2 w2 wz) := Lib.hid (by rw [hwz]; exact below_toN HBB.out dm)
                        rw [← hwz]
                        clear hinv2 hwz HSTEP HBE HSH
                        have hSb2 : S[best R]? = some (S.getD (best R) 0) := hSb
                        clear hSb
                        generalize S.getD (best R) 0 = v at *
                        generalize best R = b at *
                        have hbR : b < R.length := by rw [HRL.out]; exact hb1
                        have hold3 : wz.cell? ⟨g3, b, none⟩ = some (.bool (decide (R[b] < 0))) := by
                          rw [HORz.out.cellAt b (by omega)]
                          simp [bools, dones, hbR]
                        have hfz3 : wz.frozen? ⟨g3, b, none⟩ = false := HORz.out.frozenAt b
                        have HOS3 := Lib.hid (row_setOther (i := b) (u := .bool true) HOSz.out (show g2 ≠ g3 by omega))
                        have hold2 : (wz.setCell ⟨g3, b, none⟩ (.bool true)).cell? ⟨g2, b, none⟩ = some (.int .i64 v) := by
                          rw [HOS3.out.cellAt b (by omega)]
                          simp [ints, hSb2]
                        have hfz2 : (wz.setCell ⟨g3, b, none⟩ (.bool true)).frozen? ⟨g2, b, none⟩ = false := HOS3.out.frozenAt b
                        have hs2 := (HOS3.out.stored b (.int .i64 (v + 1))).1
                        rw [ints_set] at hs2
                        have hs3 := row_setOther (i := b) (u := .int .i64 (v + 1)) (HORz.out.stored b (.bool true)).1 (show g3 ≠ g2 by omega)
                        rw [dones_set hbR] at hs3
                        have HS2 := Lib.hid hs2
                        have HS3 := Lib.hid hs3
                        have HB4 := Lib.hid ((HBBz.out.setCell (p := ⟨g3, b, none⟩) (by show g2 ≤ g3; omega) (.bool true)).setCell (p := ⟨g2, b, none⟩) (Nat.le_refl _) (.int .i64 (v + 1)))
                        clear hs2 hs3 hSb2
                        go_wp2
                        go_roundw
                        case rel => exact ⟨t, _, _, by go_num, HI2.out, HSH2.out, HS2.out, HS3.out, HB4.out⟩
                        case measure => simp [intOf] <;> omega

end Go.Proofs.Ytiofgoppgdgbaaa
