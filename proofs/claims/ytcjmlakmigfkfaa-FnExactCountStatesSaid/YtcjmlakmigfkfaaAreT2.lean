/- Contracts of AreTickets of both packages, and the law over them. No conditions. -/
import Derived.Test.YtcjmlakmigfkfaaAreT
import Derived.Test.YtcjmlakmigfkfaaBel
namespace Go.Proofs.Ytcjmlakmigfkfaa
set_option linter.unusedSimpArgs false
set_option linter.unusedVariables false
open Go.RowKit


set_option maxHeartbeats 600000 in
set_option maxRecDepth 100000 in
theorem dkGood_any (A : Option Addr) (n c : Nat) (L : List TicketT) (w : World) (hn : n ≤ 1000000000) (hl : ∀ x ∈ L, lenT 1000000000 x) (h : Reads2 w 4 A n (rowsT L)) :
    Calls Try.prog 89 #[.slice A n c] w fun e w' => e = .returned (.bool (goodT L)) ∧ Below w.heap.size w w' := by
  have HX := Lib.hid (show L.length = n by have := h.len; rw [length_rowsT] at this; omega)
  have HL := Lib.hid hl
  have H := Lib.hid h
  clear h hl
  go_enter Try.func89, Try.ntmps89
  go_wp2
  go_loopw [7] (fun i wr => ∃ k : Nat, k ≤ n ∧ i = .int .i64 k ∧ okT (prevT L k) (L.drop k) = okT none L ∧ Below w.heap.size w wr) (fun i _ => n - (intOf i).toNat)
  case atStart => exact ⟨0, Nat.zero_le _, rfl, rfl, Below.refl _ _⟩
  case round =>
    obtain ⟨k, hk, rfl, hrel, hb⟩ := hrel
    have HR := Lib.hid hrel; clear hrel
    have HB := Lib.hid hb; clear hb
    obtain ⟨wo, rfl⟩ : ∃ wo, wo = wr := ⟨_, rfl⟩
    by_cases hlt : k < n
    · have hx : k < L.length := by rw [HX.out]; exact hlt
      have HD := Lib.hid (drop_cons hx)
      have HP := Lib.hid (prevT_succ hx)
      have HXL := Lib.hid (HL.out L[k] (List.getElem_mem hx))
      by_cases hk0 : k = 0
      · subst hk0
        obtain ⟨ad, A2, c2, rfl, k0, k1, k2, k3, hr⟩ := rowsT_at (H.out.below HB.out) hx
        rw [show prevT L 0 = none from rfl] at HR
        generalize L[0] = x at *
        obtain ⟨m, p, l, s⟩ := x
        simp only at k0 k1 k2 k3 hr
        have e0 : ad.add (0 * 4) = ad := by simp [Addr.add]
        rw [e0] at k0 k1 k2 k3
        clear e0
        have HRD := Lib.hid hr; clear hr
        have HW : Hid (Below wo.heap.size wo (wo.alloc (.cells #[.int .i64 m, .int .i64 p, .slice A2 l.length c2, .int .i64 s] 106))) := Lib.hid ((Below.refl _ _).alloc (Nat.le_refl _) _)
        have HZ : Hid (∀ W, Below (wo.alloc (.cells #[.int .i64 m, .int .i64 p, .slice A2 l.length c2, .int .i64 s] 106)).heap.size (wo.alloc (.cells #[.int .i64 m, .int .i64 p, .slice A2 l.length c2, .int .i64 s] 106)) W → Below w.heap.size w W) := Lib.hid (fun W hW => HB.out.trans ((HW.out.trans (hW.mono (by simp))).mono HB.out.size))
        have CT := Lib.hid (fun V : InB (wo.alloc (.cells #[.int .i64 m, .int .i64 p, .slice A2 l.length c2, .int .i64 s] 106)) => dkTicket_any m p s A2 c2 l V.1 (by have := HXL.out; unfold lenT at this; exact this) (HRD.out.below (HW.out.trans (V.2.mono (by simp)))))
        have kw := fun V : InB (wo.alloc (.cells #[.int .i64 m, .int .i64 p, .slice A2 l.length c2, .int .i64 s] 106)) => box4 V.2
        have s0 := fun V => (kw V).1
        have s1 := fun V => (kw V).2.1
        have s2 := fun V => (kw V).2.2.1
        have s3 := fun V => (kw V).2.2.2
        clear kw
        have hlt' : (0 : Int) < (n : Int) := by omega
        cases ht : tickB (m, p, l, s) with
        | false =>
          simp only [ht] at CT
          have HF : Hid (okT none L = false) := Lib.hid (by rw [← HR.out, HD.out]; simp [okT, aftB, ht])
          go_wp2
          clear k0 k1 k2 k3
          generalize hws : (wo.alloc (.cells #[.int .i64 m, .int .i64 p, .slice A2 l.length c2, .int .i64 s] 106)) = ws at *
          refine wp_region_below ws (by kernel_rfl) (by kernel_rfl) (by first | assumption | exact Below.refl _ _) ?_
          repeat (go_big_quiet_step ((go_at_call 111; exact bel_of (CT.out _))))
          refine wpQuiet_nil ?_
          intro _ hw'
          obtain ⟨⟨wb, hB⟩, rfl⟩ := hw'
          try simp only at hB ⊢
          all_goals
            
            go_wp2
            go_ret
            exact ⟨ret_bool (by unfold goodT; rw [HF.out]; rfl), HZ.out _ hB⟩
        | true =>
          simp only [ht] at CT
          have HT : Hid (okT none L = okT (prevT L 1) (L.drop 1)) := Lib.hid (by rw [HP.out, ← HR.out, HD.out]; simp [okT, aftB, ht, prevT])
          have hw0 : decide ((0 : Int) < 0) = false := by decide
          go_wp2
          clear k0 k1 k2 k3
          generalize hws : (wo.alloc (.cells #[.int .i64 m, .int .i64 p, .slice A2 l.length c2, .int .i64 s] 106)) = ws at *
          refine wp_region_below ws (by kernel_rfl) (by kernel_rfl) (by first | assumption | exact Below.refl _ _) ?_
          repeat (go_big_quiet_step ((go_at_call 111; exact bel_of (CT.out _))))
          refine wpQuiet_nil ?_
          intro _ hw'
          obtain ⟨⟨wb, hB⟩, rfl⟩ := hw'
          try simp only at hB ⊢
          all_goals
            clear hw0
            go_wp2
            go_roundw
            case rel => exact ⟨1, by omega, by go_num, HT.out.symm, HZ.out _ hB⟩
            case measure => simp [intOf]; omega
      · obtain ⟨j, rfl⟩ : ∃ j, k = j + 1 := ⟨k - 1, by omega⟩
        have hxj : j < L.length := by omega
        obtain ⟨ad, A2, c2, rfl, k0, k1, k2, k3, hr⟩ := rowsT_at (H.out.below HB.out) hx
        obtain ⟨ad', _, _, e', j0, _, _, _, _⟩ := rowsT_at (H.out.below HB.out) hxj
        injection e' with e'
        subst e'
        have HPJ := Lib.hid (prevT_succ hxj)
        generalize L[j + 1] = x at *
        generalize L[j] = x' at *
        obtain ⟨m, p, l, s⟩ := x
        obtain ⟨y, py, ly, sy⟩ := x'
        simp only at k0 k1 k2 k3 hr j0 HPJ
        have HRD := Lib.hid hr; clear hr
        have HW : Hid (Below wo.heap.size wo (wo.alloc (.cells #[.int .i64 m, .int .i64 p, .slice A2 l.length c2, .int .i64 s] 106))) := Lib.hid ((Below.refl _ _).alloc (Nat.le_refl _) _)
        have HZ : Hid (∀ W, Below (wo.alloc (.cells #[.int .i64 m, .int .i64 p, .slice A2 l.length c2, .int .i64 s] 106)).heap.size (wo.alloc (.cells #[.int .i64 m, .int .i64 p, .slice A2 l.length c2, .int .i64 s] 106)) W → Below w.heap.size w W) := Lib.hid (fun W hW => HB.out.trans ((HW.out.trans (hW.mono (by simp))).mono HB.out.size))
        have CT := Lib.hid (fun V : InB (wo.alloc (.cells #[.int .i64 m, .int .i64 p, .slice A2 l.length c2, .int .i64 s] 106)) => dkTicket_any m p s A2 c2 l V.1 (by have := HXL.out; unfold lenT at this; exact this) (HRD.out.below (HW.out.trans (V.2.mono (by simp)))))
        have kw := fun V : InB (wo.alloc (.cells #[.int .i64 m, .int .i64 p, .slice A2 l.length c2, .int .i64 s] 106)) => box4 V.2
        have s0 := fun V => (kw V).1
        have s1 := fun V => (kw V).2.1
        have s2 := fun V => (kw V).2.2.1
        have s3 := fun V => (kw V).2.2.2
        have s4 : ∀ V : InB (wo.alloc (.cells #[.int .i64 m, .int .i64 p, .slice A2 l.length c2, .int .i64 s] 106)), V.1.cell? (ad.add (j * 4)) = some (.int .i64 y) := fun V => ((HW.out.trans (V.2.mono (by simp))).cell (World.block_lt_of_cell? wo _ j0)).trans j0
        clear kw
        have hw1 : IntKind.i64.wrap (j : Int) = (j : Int) := IntWalk.i64_in _ (by omega)
        have hw2 : decide ((0 : Int) < (j : Int) + 1) = true := by simp <;> omega
        have hjn : (j : Int) < (n : Int) := by omega
        have hj0 : (0 : Int) ≤ (j : Int) := by omega
        cases ht : tickB (m, p, l, s) with
        | false =>
          simp only [ht] at CT
          have HF : Hid (okT none L = false) := Lib.hid (by rw [← HR.out, HD.out]; simp [okT, aftB, ht])
          go_wp2
          clear k0 k1 k2 k3
          generalize hws : (wo.alloc (.cells #[.int .i64 m, .int .i64 p, .slice A2 l.length c2, .int .i64 s] 106)) = ws at *
          refine wp_region_below ws (by kernel_rfl) (by kernel_rfl) (by first | assumption | exact Below.refl _ _) ?_
          repeat (go_big_quiet_step ((go_at_call 111; exact bel_of (CT.out _))))
          refine wpQuiet_nil ?_
          intro _ hw'
          obtain ⟨⟨wb, hB⟩, rfl⟩ := hw'
          try simp only at hB ⊢
          all_goals
            clear hw1 hw2
            go_wp2
            go_ret
            exact ⟨ret_bool (by unfold goodT; rw [HF.out]; rfl), HZ.out _ hB⟩
        | true =>
          simp only [ht] at CT
          by_cases hym : y < m
          · have HT : Hid (okT none L = okT (prevT L (j + 1 + 1)) (L.drop (j + 1 + 1))) := Lib.hid (by rw [HP.out, ← HR.out, HD.out, HPJ.out]; simp [okT, aftB, ht, hym])
            go_wp2
            clear k0 k1 k2 k3
            generalize hws : (wo.alloc (.cells #[.int .i64 m, .int .i64 p, .slice A2 l.length c2, .int .i64 s] 106)) = ws at *
            refine wp_region_below ws (by kernel_rfl) (by kernel_rfl) (by first | assumption | exact Below.refl _ _) ?_
            repeat (go_big_quiet_step ((go_at_call 111; exact bel_of (CT.out _))))
            refine wpQuiet_nil ?_
            intro _ hw'
            obtain ⟨⟨wb, hB⟩, rfl⟩ := hw'
            try simp only at hB ⊢
            all_goals
              clear hw1 hw2
              go_wp2
              go_roundw
              case rel => exact ⟨j + 1 + 1, by omega, by go_num, HT.out.symm, HZ.out _ hB⟩
              case measure => simp [intOf]; omega
          · have HF : Hid (okT none L = false) := Lib.hid (by rw [← HR.out, HD.out, HPJ.out]; simp [okT, aftB, ht, hym])
            have hym' : m ≤ y := by omega
            go_wp2
            clear k0 k1 k2 k3
            generalize hws : (wo.alloc (.cells #[.int .i64 m, .int .i64 p, .slice A2 l.length c2, .int .i64 s] 106)) = ws at *
            refine wp_region_below ws (by kernel_rfl) (by kernel_rfl) (by first | assumption | exact Below.refl _ _) ?_
            repeat (go_big_quiet_step ((go_at_call 111; exact bel_of (CT.out _))))
            refine wpQuiet_nil ?_
            intro _ hw'
            obtain ⟨⟨wb, hB⟩, rfl⟩ := hw'
            try simp only at hB ⊢
            all_goals
              clear hw1 hw2
              go_wp2
              go_ret
              exact ⟨ret_bool (by unfold goodT; rw [HF.out]; rfl), HZ.out _ hB⟩
    · have HE := Lib.hid (drop_end (xs := L) (k := k) (by rw [HX.out]; omega))
      go_wp2
      go_ret
      refine ⟨ret_bool ?_, HB.out⟩
      unfold goodT
      rw [← HR.out, HE.out, HX.out]
      simp [okT]
      omega

end Go.Proofs.Ytcjmlakmigfkfaa
