/- Contracts of AreTickets of both packages, and the law over them. No conditions. -/
import Derived.Test.YtcjmlakmigfkfaaAreT2
namespace Go.Proofs.Ytcjmlakmigfkfaa
set_option linter.unusedSimpArgs false
set_option linter.unusedVariables false
open Go.RowKit

theorem specAreTickets_any (A : Option Addr) (n c : Nat) (L : List TicketT) (w : World) (hn : n ≤ 1000000000) (hl : ∀ x ∈ L, lenT 1000000000 x) (h : Reads2 w 4 A n (rowsT L)) :
    Calls Try.prog 53 #[.slice A n c] w fun e w' => e = .returned (.bool (goodT L)) ∧ Below w.heap.size w w' := by
  have C1 := Lib.hid (dkGood_any A n c L w hn hl h)
  clear h hl
  go_enter Try.func53, Try.ntmps53
  go_wp2_with (go_at_call 89; refine (C1.out).mono ?_; rintro e w1 ⟨rfl, hb⟩)
  go_ret
  exact ⟨rfl, hb⟩
theorem tickB_eq (m p s : Int) (l : List Int) : tickB (m, p, l, s) = (inB m 1 999 && (inB p 1 9 && (allB 0 (p - 1) l && (incB l && ((decide ((l.length : Int) = p) == decide (s = 1)) && inB s 0 2))))) := by
  unfold tickB
  simp only [riseB_eq]
  cases inB m 1 999 <;> cases inB p 1 9 <;> cases allB 0 (p - 1) l <;> cases incB l <;> cases inB s 0 2 <;> simp

set_option maxHeartbeats 4000000 in
set_option maxRecDepth 100000 in
theorem areTickets_any (A : Option Addr) (n c : Nat) (L : List TicketT) (w : World) (hn : n ≤ 1000000000) (hl : ∀ x ∈ L, lenT 1000000000 x) (h : Reads2 w 4 A n (rowsT L)) :
    Calls Try.prog 55 #[.slice A n c] w fun e w' => e = .returned (.bool (goodT L)) ∧ Below w.heap.size w w' := by
  have HX := Lib.hid (show L.length = n by have := h.len; rw [length_rowsT] at this; omega)
  have HL := Lib.hid hl
  have H := Lib.hid h
  clear h hl
  by_cases hn20 : n ≤ 20
  rotate_left
  · have HG : Hid (goodT L = false) := Lib.hid (by unfold goodT; rw [HX.out]; simp; omega)
    go_enter Try.func55, Try.ntmps55
    go_wp2
    go_ret
    exact ⟨ret_bool HG.out.symm, Below.refl _ _⟩
  go_enter Try.func55, Try.ntmps55
  go_wp2
  go_loopw [11] (fun i wr => ∃ k : Nat, k ≤ n ∧ i = .int .i64 k ∧ okT (prevT L k) (L.drop k) = okT none L ∧ Below w.heap.size w wr) (fun i _ => n - (intOf i).toNat)
  case atStart => exact ⟨0, Nat.zero_le _, rfl, rfl, Below.refl _ _⟩
  case round =>
    obtain ⟨k, hk, rfl, hrel, hb⟩ := hrel
    have HR := Lib.hid hrel; clear hrel
    have HB := Lib.hid hb; clear hb
    obtain ⟨wo, rfl⟩ : ∃ wo, wo = wr := ⟨_, rfl⟩
    by_cases hlt : k < n
    · have hx : k < L.length := by rw [HX.out]; exact hlt
      have HD := Lib.hid (drop_cons hx)
      have HP := Lib.hid (prevT_succ hx)
      have HXL := Lib.hid (HL.out L[k] (List.getElem_mem hx))
      by_cases hk0 : k = 0
      · subst hk0
        obtain ⟨ad, A2, c2, rfl, k0, k1, k2, k3, hr⟩ := rowsT_at (H.out.below HB.out) hx
        rw [show prevT L 0 = none from rfl] at HR
        generalize L[0] = x at *
        obtain ⟨m, p, l, s⟩ := x
        simp only at k0 k1 k2 k3 hr
        have e0 : ad.add (0 * 4) = ad := by simp [Addr.add]
        rw [e0] at k0 k1 k2 k3
        clear e0
        have HRD := Lib.hid hr; clear hr
        have HW : Hid (Below wo.heap.size wo (wo.alloc (.cells #[.int .i64 m, .int .i64 p, .slice A2 l.length c2, .int .i64 s] 106))) := Lib.hid ((Below.refl _ _).alloc (Nat.le_refl _) _)
        have HZ : Hid (∀ W, Below (wo.alloc (.cells #[.int .i64 m, .int .i64 p, .slice A2 l.length c2, .int .i64 s] 106)).heap.size (wo.alloc (.cells #[.int .i64 m, .int .i64 p, .slice A2 l.length c2, .int .i64 s] 106)) W → Below w.heap.size w W) := Lib.hid (fun W hW => HB.out.trans ((HW.out.trans (hW.mono (by simp))).mono HB.out.size))
        have CA := Lib.hid (fun V : InB (wo.alloc (.cells #[.int .i64 m, .int .i64 p, .slice A2 l.length c2, .int .i64 s] 106)) => allWithin_any A2 l.length c2 l 0 (p - 1) V.1 (by have := HXL.out; unfold lenT at this; simp only at this; omega) (HRD.out.below (HW.out.trans (V.2.mono (by simp)))))
        have CI := Lib.hid (fun V : InB (wo.alloc (.cells #[.int .i64 m, .int .i64 p, .slice A2 l.length c2, .int .i64 s] 106)) => increasing_any A2 l.length c2 l V.1 (by have := HXL.out; unfold lenT at this; exact this) (HRD.out.below (HW.out.trans (V.2.mono (by simp)))))
        have KB := Lib.hid (fun W (hW : Below (wo.alloc (.cells #[.int .i64 m, .int .i64 p, .slice A2 l.length c2, .int .i64 s] 106)).heap.size (wo.alloc (.cells #[.int .i64 m, .int .i64 p, .slice A2 l.length c2, .int .i64 s] 106)) W) => box4 hW)
        have s0 := fun V : InB (wo.alloc (.cells #[.int .i64 m, .int .i64 p, .slice A2 l.length c2, .int .i64 s] 106)) => (KB.out _ V.2).1
        have s1 := fun V : InB (wo.alloc (.cells #[.int .i64 m, .int .i64 p, .slice A2 l.length c2, .int .i64 s] 106)) => (KB.out _ V.2).2.1
        have s2 := fun V : InB (wo.alloc (.cells #[.int .i64 m, .int .i64 p, .slice A2 l.length c2, .int .i64 s] 106)) => (KB.out _ V.2).2.2.1
        have s3 := fun V : InB (wo.alloc (.cells #[.int .i64 m, .int .i64 p, .slice A2 l.length c2, .int .i64 s] 106)) => (KB.out _ V.2).2.2.2
        have hlt' : (0 : Int) < (n : Int) := by omega
        have hw1 : True := trivial
        have hw2 : decide ((0 : Int) < 0) = false := by decide
        cases h1 : inB m 1 999 with
        | false =>
          have hw3 : True := trivial
          have HF : Hid (okT none L = false) := Lib.hid (by rw [← HR.out, HD.out]; have ht : tickB (m, p, l, s) = false := (by rw [tickB_eq]; simp [h1]); simp [okT, ht])
          go_wp2
          clear k0 k1 k2 k3
          generalize hws : (wo.alloc (.cells #[.int .i64 m, .int .i64 p, .slice A2 l.length c2, .int .i64 s] 106)) = ws at *
          refine wp_region_below ws (by kernel_rfl) (by kernel_rfl) (by first | assumption | exact Below.refl _ _) ?_
          repeat (go_big_quiet_step ((first | (go_at_call 83; exact bel_same (within_any _ _ _ _)) | (go_at_call 91; exact bel_same (CA.out _)) | (go_at_call 92; exact bel_quiet (CI.out _)))))
          refine wpQuiet_nil ?_
          intro _ hw'
          obtain ⟨⟨wb, hB⟩, rfl⟩ := hw'
          try simp only at hB ⊢
          all_goals
            clear hw1 hw2 hw3
          
            go_wp2
            go_ret
            exact ⟨ret_bool (by unfold goodT; rw [HF.out]; rfl), HZ.out _ hB⟩
        | true =>
          cases h2 : inB p 1 9 with
          | false =>
            have hw3 : True := trivial
            have HF : Hid (okT none L = false) := Lib.hid (by rw [← HR.out, HD.out]; have ht : tickB (m, p, l, s) = false := (by rw [tickB_eq]; simp [h2]); simp [okT, ht])
            go_wp2
            clear k0 k1 k2 k3
            generalize hws : (wo.alloc (.cells #[.int .i64 m, .int .i64 p, .slice A2 l.length c2, .int .i64 s] 106)) = ws at *
            refine wp_region_below ws (by kernel_rfl) (by kernel_rfl) (by first | assumption | exact Below.refl _ _) ?_
            repeat (go_big_quiet_step ((first | (go_at_call 83; exact bel_same (within_any _ _ _ _)) | (go_at_call 91; exact bel_same (CA.out _)) | (go_at_call 92; exact bel_quiet (CI.out _)))))
            refine wpQuiet_nil ?_
            intro _ hw'
            obtain ⟨⟨wb, hB⟩, rfl⟩ := hw'
            try simp only at hB ⊢
            all_goals
              clear hw1 hw2 hw3
            
              go_wp2
              go_ret
              exact ⟨ret_bool (by unfold goodT; rw [HF.out]; rfl), HZ.out _ hB⟩
          | true =>
            cases h3 : allB 0 (p - 1) l with
            | false =>
              simp only [h3] at CA
              have hp1 := (inB_true.1 h2).1
              have hp2 := (inB_true.1 h2).2
              have hw3 : IntKind.i64.wrap (p - 1) = p - 1 := IntWalk.i64_in _ (by omega)
              have HF : Hid (okT none L = false) := Lib.hid (by rw [← HR.out, HD.out]; have ht : tickB (m, p, l, s) = false := (by rw [tickB_eq]; simp [h3]); simp [okT, ht])
              go_wp2
              clear k0 k1 k2 k3
              generalize hws : (wo.alloc (.cells #[.int .i64 m, .int .i64 p, .slice A2 l.length c2, .int .i64 s] 106)) = ws at *
              refine wp_region_below ws (by kernel_rfl) (by kernel_rfl) (by first | assumption | exact Below.refl _ _) ?_
              repeat (go_big_quiet_step ((first | (go_at_call 83; exact bel_same (within_any _ _ _ _)) | (go_at_call 91; exact bel_same (CA.out _)) | (go_at_call 92; exact bel_quiet (CI.out _)))))
              refine wpQuiet_nil ?_
              intro _ hw'
              obtain ⟨⟨wb, hB⟩, rfl⟩ := hw'
              try simp only at hB ⊢
              all_goals
                clear hw1 hw2 hw3
              
                go_wp2
                go_ret
                exact ⟨ret_bool (by unfold goodT; rw [HF.out]; rfl), HZ.out _ hB⟩
            | true =>
              cases h4 : incB l with
              | false =>
                simp only [h3] at CA
                simp only [h4] at CI
                have hp1 := (inB_true.1 h2).1
                have hp2 := (inB_true.1 h2).2
                have hw3 : IntKind.i64.wrap (p - 1) = p - 1 := IntWalk.i64_in _ (by omega)
                have HF : Hid (okT none L = false) := Lib.hid (by rw [← HR.out, HD.out]; have ht : tickB (m, p, l, s) = false := (by rw [tickB_eq]; simp [h4]); simp [okT, ht])
                go_wp2
                clear k0 k1 k2 k3
                generalize hws : (wo.alloc (.cells #[.int .i64 m, .int .i64 p, .slice A2 l.length c2, .int .i64 s] 106)) = ws at *
                refine wp_region_below ws (by kernel_rfl) (by kernel_rfl) (by first | assumption | exact Below.refl _ _) ?_
                repeat (go_big_quiet_step ((first | (go_at_call 83; exact bel_same (within_any _ _ _ _)) | (go_at_call 91; exact bel_same (CA.out _)) | (go_at_call 92; exact bel_quiet (CI.out _)))))
                refine wpQuiet_nil ?_
                intro _ hw'
                obtain ⟨⟨wb, hB⟩, rfl⟩ := hw'
                try simp only at hB ⊢
                all_goals
                  clear hw1 hw2 hw3
                
                  go_wp2
                  go_ret
                  exact ⟨ret_bool (by unfold goodT; rw [HF.out]; rfl), HZ.out _ hB⟩
              | true =>
                simp only [h3] at CA
                simp only [h4] at CI
                have hp1 := (inB_true.1 h2).1
                have hp2 := (inB_true.1 h2).2
                have hw3 : IntKind.i64.wrap (p - 1) = p - 1 := IntWalk.i64_in _ (by omega)
                by_cases ha : (l.length : Int) = p
                · by_cases hb : s = 1
                  · have ha' : ((l.length : Int) == p) = true := by simpa using ha
                    have hb' : (s == 1) = true := by simpa using hb
                    have hx' : (decide ((l.length : Int) = p) == decide (s = 1)) = true := by simp [ha, hb]
                    have HX1 := Lib.hid hx'
                    clear ha hb hx'
                    cases h6 : inB s 0 2 with
                    | false =>
                      have HF : Hid (okT none L = false) := Lib.hid (by rw [← HR.out, HD.out]; have ht : tickB (m, p, l, s) = false := (by rw [tickB_eq, h6]; simp); simp [okT, ht])
                      go_wp2
                      clear k0 k1 k2 k3
                      generalize hws : (wo.alloc (.cells #[.int .i64 m, .int .i64 p, .slice A2 l.length c2, .int .i64 s] 106)) = ws at *
                      refine wp_region_below ws (by kernel_rfl) (by kernel_rfl) (by first | assumption | exact Below.refl _ _) ?_
                      repeat (go_big_quiet_step ((first | (go_at_call 83; exact bel_same (within_any _ _ _ _)) | (go_at_call 91; exact bel_same (CA.out _)) | (go_at_call 92; exact bel_quiet (CI.out _)))))
                      refine wpQuiet_nil ?_
                      intro _ hw'
                      obtain ⟨⟨wb, hB⟩, rfl⟩ := hw'
                      try simp only at hB ⊢
                      all_goals
                        clear hw1 hw2 hw3
                        obtain ⟨v0, v1, v2, v3⟩ := KB.out _ hB
                        go_wp2_with (go_at_call 83; refine (within_any _ _ _ _).mono ?_; rintro e w' ⟨rfl, rfl⟩)
                        go_ret
                        exact ⟨ret_bool (by unfold goodT; rw [HF.out]; rfl), HZ.out _ hB⟩
                    | true =>
                      have HT : Hid (okT none L = okT (prevT L (1)) (L.drop (1))) := Lib.hid (by rw [HP.out, ← HR.out, HD.out]; have ht : tickB (m, p, l, s) = true := (by rw [tickB_eq, HX1.out]; simp [h1, h2, h3, h4, h6]); simp [okT, aftB, ht, prevT])
                      go_wp2
                      clear k0 k1 k2 k3
                      generalize hws : (wo.alloc (.cells #[.int .i64 m, .int .i64 p, .slice A2 l.length c2, .int .i64 s] 106)) = ws at *
                      refine wp_region_below ws (by kernel_rfl) (by kernel_rfl) (by first | assumption | exact Below.refl _ _) ?_
                      repeat (go_big_quiet_step ((first | (go_at_call 83; exact bel_same (within_any _ _ _ _)) | (go_at_call 91; exact bel_same (CA.out _)) | (go_at_call 92; exact bel_quiet (CI.out _)))))
                      refine wpQuiet_nil ?_
                      intro _ hw'
                      obtain ⟨⟨wb, hB⟩, rfl⟩ := hw'
                      try simp only at hB ⊢
                      all_goals
                        clear hw1 hw2 hw3
                        obtain ⟨v0, v1, v2, v3⟩ := KB.out _ hB
                        go_wp2_with (go_at_call 83; refine (within_any _ _ _ _).mono ?_; rintro e w' ⟨rfl, rfl⟩)
                        go_roundw
                        case rel => exact ⟨1, by omega, by go_num, HT.out.symm, HZ.out _ hB⟩
                        case measure => simp [intOf]; omega
                  · have ha' : ((l.length : Int) == p) = true := by simpa using ha
                    have hb' : (s == 1) = false := by simpa using hb
                    have hx' : (decide ((l.length : Int) = p) == decide (s = 1)) = false := by simp [ha, hb]
                    have HX1 := Lib.hid hx'
                    clear ha hb hx'
                    have HF : Hid (okT none L = false) := Lib.hid (by rw [← HR.out, HD.out]; have ht : tickB (m, p, l, s) = false := (by rw [tickB_eq, HX1.out]; simp); simp [okT, ht])
                    go_wp2
                    clear k0 k1 k2 k3
                    generalize hws : (wo.alloc (.cells #[.int .i64 m, .int .i64 p, .slice A2 l.length c2, .int .i64 s] 106)) = ws at *
                    refine wp_region_below ws (by kernel_rfl) (by kernel_rfl) (by first | assumption | exact Below.refl _ _) ?_
                    repeat (go_big_quiet_step ((first | (go_at_call 83; exact bel_same (within_any _ _ _ _)) | (go_at_call 91; exact bel_same (CA.out _)) | (go_at_call 92; exact bel_quiet (CI.out _)))))
                    refine wpQuiet_nil ?_
                    intro _ hw'
                    obtain ⟨⟨wb, hB⟩, rfl⟩ := hw'
                    try simp only at hB ⊢
                    all_goals
                      clear hw1 hw2 hw3
                      obtain ⟨v0, v1, v2, v3⟩ := KB.out _ hB
                      go_wp2_with (go_at_call 83; refine (within_any _ _ _ _).mono ?_; rintro e w' ⟨rfl, rfl⟩)
                      go_ret
                      exact ⟨ret_bool (by unfold goodT; rw [HF.out]; rfl), HZ.out _ hB⟩
                · by_cases hb : s = 1
                  · have ha' : ((l.length : Int) == p) = false := by simpa using ha
                    have hb' : (s == 1) = true := by simpa using hb
                    have hx' : (decide ((l.length : Int) = p) == decide (s = 1)) = false := by simp [ha, hb]
                    have HX1 := Lib.hid hx'
                    clear ha hb hx'
                    have HF : Hid (okT none L = false) := Lib.hid (by rw [← HR.out, HD.out]; have ht : tickB (m, p, l, s) = false := (by rw [tickB_eq, HX1.out]; simp); simp [okT, ht])
                    go_wp2
                    clear k0 k1 k2 k3
                    generalize hws : (wo.alloc (.cells #[.int .i64 m, .int .i64 p, .slice A2 l.length c2, .int .i64 s] 106)) = ws at *
                    refine wp_region_below ws (by kernel_rfl) (by kernel_rfl) (by first | assumption | exact Below.refl _ _) ?_
                    repeat (go_big_quiet_step ((first | (go_at_call 83; exact bel_same (within_any _ _ _ _)) | (go_at_call 91; exact bel_same (CA.out _)) | (go_at_call 92; exact bel_quiet (CI.out _)))))
                    refine wpQuiet_nil ?_
                    intro _ hw'
                    obtain ⟨⟨wb, hB⟩, rfl⟩ := hw'
                    try simp only at hB ⊢
                    all_goals
                      clear hw1 hw2 hw3
                      obtain ⟨v0, v1, v2, v3⟩ := KB.out _ hB
                      go_wp2_with (go_at_call 83; refine (within_any _ _ _ _).mono ?_; rintro e w' ⟨rfl, rfl⟩)
                      go_ret
                      exact ⟨ret_bool (by unfold goodT; rw [HF.out]; rfl), HZ.out _ hB⟩
                  · have ha' : ((l.length : Int) == p) = false := by simpa using ha
                    have hb' : (s == 1) = false := by simpa using hb
                    have hx' : (decide ((l.length : Int) = p) == decide (s = 1)) = true := by simp [ha, hb]
                    have HX1 := Lib.hid hx'
                    clear ha hb hx'
                    cases h6 : inB s 0 2 with
                    | false =>
                      have HF : Hid (okT none L = false) := Lib.hid (by rw [← HR.out, HD.out]; have ht : tickB (m, p, l, s) = false := (by rw [tickB_eq, h6]; simp); simp [okT, ht])
                      go_wp2
                      clear k0 k1 k2 k3
                      generalize hws : (wo.alloc (.cells #[.int .i64 m, .int .i64 p, .slice A2 l.length c2, .int .i64 s] 106)) = ws at *
                      refine wp_region_below ws (by kernel_rfl) (by kernel_rfl) (by first | assumption | exact Below.refl _ _) ?_
                      repeat (go_big_quiet_step ((first | (go_at_call 83; exact bel_same (within_any _ _ _ _)) | (go_at_call 91; exact bel_same (CA.out _)) | (go_at_call 92; exact bel_quiet (CI.out _)))))
                      refine wpQuiet_nil ?_
                      intro _ hw'
                      obtain ⟨⟨wb, hB⟩, rfl⟩ := hw'
                      try simp only at hB ⊢
                      all_goals
                        clear hw1 hw2 hw3
                        obtain ⟨v0, v1, v2, v3⟩ := KB.out _ hB
                        go_wp2_with (go_at_call 83; refine (within_any _ _ _ _).mono ?_; rintro e w' ⟨rfl, rfl⟩)
                        go_ret
                        exact ⟨ret_bool (by unfold goodT; rw [HF.out]; rfl), HZ.out _ hB⟩
                    | true =>
                      have HT : Hid (okT none L = okT (prevT L (1)) (L.drop (1))) := Lib.hid (by rw [HP.out, ← HR.out, HD.out]; have ht : tickB (m, p, l, s) = true := (by rw [tickB_eq, HX1.out]; simp [h1, h2, h3, h4, h6]); simp [okT, aftB, ht, prevT])
                      go_wp2
                      clear k0 k1 k2 k3
                      generalize hws : (wo.alloc (.cells #[.int .i64 m, .int .i64 p, .slice A2 l.length c2, .int .i64 s] 106)) = ws at *
                      refine wp_region_below ws (by kernel_rfl) (by kernel_rfl) (by first | assumption | exact Below.refl _ _) ?_
                      repeat (go_big_quiet_step ((first | (go_at_call 83; exact bel_same (within_any _ _ _ _)) | (go_at_call 91; exact bel_same (CA.out _)) | (go_at_call 92; exact bel_quiet (CI.out _)))))
                      refine wpQuiet_nil ?_
                      intro _ hw'
                      obtain ⟨⟨wb, hB⟩, rfl⟩ := hw'
                      try simp only at hB ⊢
                      all_goals
                        clear hw1 hw2 hw3
                        obtain ⟨v0, v1, v2, v3⟩ := KB.out _ hB
                        go_wp2_with (go_at_call 83; refine (within_any _ _ _ _).mono ?_; rintro e w' ⟨rfl, rfl⟩)
                        go_roundw
                        case rel => exact ⟨1, by omega, by go_num, HT.out.symm, HZ.out _ hB⟩
                        case measure => simp [intOf]; omega
      · obtain ⟨j, rfl⟩ : ∃ j, k = j + 1 := ⟨k - 1, by omega⟩
        have hxj : j < L.length := by omega
        obtain ⟨ad, A2, c2, rfl, k0, k1, k2, k3, hr⟩ := rowsT_at (H.out.below HB.out) hx
        obtain ⟨ad', _, _, e', j0, _, _, _, _⟩ := rowsT_at (H.out.below HB.out) hxj
        injection e' with e'
        subst e'
        have HPJ := Lib.hid (prevT_succ hxj)
        generalize L[j + 1] = x at *
        generalize L[j] = x' at *
        obtain ⟨m, p, l, s⟩ := x
        obtain ⟨y, py, ly, sy⟩ := x'
        simp only at k0 k1 k2 k3 hr j0 HPJ
        have HRD := Lib.hid hr; clear hr
        have HW : Hid (Below wo.heap.size wo (wo.alloc (.cells #[.int .i64 m, .int .i64 p, .slice A2 l.length c2, .int .i64 s] 106))) := Lib.hid ((Below.refl _ _).alloc (Nat.le_refl _) _)
        have HZ : Hid (∀ W, Below (wo.alloc (.cells #[.int .i64 m, .int .i64 p, .slice A2 l.length c2, .int .i64 s] 106)).heap.size (wo.alloc (.cells #[.int .i64 m, .int .i64 p, .slice A2 l.length c2, .int .i64 s] 106)) W → Below w.heap.size w W) := Lib.hid (fun W hW => HB.out.trans ((HW.out.trans (hW.mono (by simp))).mono HB.out.size))
        have CA := Lib.hid (fun V : InB (wo.alloc (.cells #[.int .i64 m, .int .i64 p, .slice A2 l.length c2, .int .i64 s] 106)) => allWithin_any A2 l.length c2 l 0 (p - 1) V.1 (by have := HXL.out; unfold lenT at this; simp only at this; omega) (HRD.out.below (HW.out.trans (V.2.mono (by simp)))))
        have CI := Lib.hid (fun V : InB (wo.alloc (.cells #[.int .i64 m, .int .i64 p, .slice A2 l.length c2, .int .i64 s] 106)) => increasing_any A2 l.length c2 l V.1 (by have := HXL.out; unfold lenT at this; exact this) (HRD.out.below (HW.out.trans (V.2.mono (by simp)))))
        have KB := Lib.hid (fun W (hW : Below (wo.alloc (.cells #[.int .i64 m, .int .i64 p, .slice A2 l.length c2, .int .i64 s] 106)).heap.size (wo.alloc (.cells #[.int .i64 m, .int .i64 p, .slice A2 l.length c2, .int .i64 s] 106)) W) => box4 hW)
        have s0 := fun V : InB (wo.alloc (.cells #[.int .i64 m, .int .i64 p, .slice A2 l.length c2, .int .i64 s] 106)) => (KB.out _ V.2).1
        have s1 := fun V : InB (wo.alloc (.cells #[.int .i64 m, .int .i64 p, .slice A2 l.length c2, .int .i64 s] 106)) => (KB.out _ V.2).2.1
        have s2 := fun V : InB (wo.alloc (.cells #[.int .i64 m, .int .i64 p, .slice A2 l.length c2, .int .i64 s] 106)) => (KB.out _ V.2).2.2.1
        have s3 := fun V : InB (wo.alloc (.cells #[.int .i64 m, .int .i64 p, .slice A2 l.length c2, .int .i64 s] 106)) => (KB.out _ V.2).2.2.2
        have s4 : ∀ V : InB (wo.alloc (.cells #[.int .i64 m, .int .i64 p, .slice A2 l.length c2, .int .i64 s] 106)), V.1.cell? (ad.add (j * 4)) = some (.int .i64 y) := fun V => ((HW.out.trans (V.2.mono (by simp))).cell (World.block_lt_of_cell? wo _ j0)).trans j0
        clear j0
        have hw1 : IntKind.i64.wrap (j : Int) = (j : Int) := IntWalk.i64_in _ (by omega)
        have hw2 : decide ((0 : Int) < (j : Int) + 1) = true := by simp <;> omega
        have hjn : (j : Int) < (n : Int) := by omega
        have hj0 : (0 : Int) ≤ (j : Int) := by omega
        cases h1 : inB m 1 999 with
        | false =>
          have hw3 : True := trivial
          have HF : Hid (okT none L = false) := Lib.hid (by rw [← HR.out, HD.out]; have ht : tickB (m, p, l, s) = false := (by rw [tickB_eq]; simp [h1]); simp [okT, ht])
          go_wp2
          clear k0 k1 k2 k3
          generalize hws : (wo.alloc (.cells #[.int .i64 m, .int .i64 p, .slice A2 l.length c2, .int .i64 s] 106)) = ws at *
          refine wp_region_below ws (by kernel_rfl) (by kernel_rfl) (by first | assumption | exact Below.refl _ _) ?_
          repeat (go_big_quiet_step ((first | (go_at_call 83; exact bel_same (within_any _ _ _ _)) | (go_at_call 91; exact bel_same (CA.out _)) | (go_at_call 92; exact bel_quiet (CI.out _)))))
          refine wpQuiet_nil ?_
          intro _ hw'
          obtain ⟨⟨wb, hB⟩, rfl⟩ := hw'
          try simp only at hB ⊢
          all_goals
            clear hw1 hw2 hw3
          
            go_wp2
            go_ret
            exact ⟨ret_bool (by unfold goodT; rw [HF.out]; rfl), HZ.out _ hB⟩
        | true =>
          cases h2 : inB p 1 9 with
          | false =>
            have hw3 : True := trivial
            have HF : Hid (okT none L = false) := Lib.hid (by rw [← HR.out, HD.out]; have ht : tickB (m, p, l, s) = false := (by rw [tickB_eq]; simp [h2]); simp [okT, ht])
            go_wp2
            clear k0 k1 k2 k3
            generalize hws : (wo.alloc (.cells #[.int .i64 m, .int .i64 p, .slice A2 l.length c2, .int .i64 s] 106)) = ws at *
            refine wp_region_below ws (by kernel_rfl) (by kernel_rfl) (by first | assumption | exact Below.refl _ _) ?_
            repeat (go_big_quiet_step ((first | (go_at_call 83; exact bel_same (within_any _ _ _ _)) | (go_at_call 91; exact bel_same (CA.out _)) | (go_at_call 92; exact bel_quiet (CI.out _)))))
            refine wpQuiet_nil ?_
            intro _ hw'
            obtain ⟨⟨wb, hB⟩, rfl⟩ := hw'
            try simp only at hB ⊢
            all_goals
              clear hw1 hw2 hw3
            
              go_wp2
              go_ret
              exact ⟨ret_bool (by unfold goodT; rw [HF.out]; rfl), HZ.out _ hB⟩
          | true =>
            cases h3 : allB 0 (p - 1) l with
            | false =>
              simp only [h3] at CA
              have hp1 := (inB_true.1 h2).1
              have hp2 := (inB_true.1 h2).2
              have hw3 : IntKind.i64.wrap (p - 1) = p - 1 := IntWalk.i64_in _ (by omega)
              have HF : Hid (okT none L = false) := Lib.hid (by rw [← HR.out, HD.out]; have ht : tickB (m, p, l, s) = false := (by rw [tickB_eq]; simp [h3]); simp [okT, ht])
              go_wp2
              clear k0 k1 k2 k3
              generalize hws : (wo.alloc (.cells #[.int .i64 m, .int .i64 p, .slice A2 l.length c2, .int .i64 s] 106)) = ws at *
              refine wp_region_below ws (by kernel_rfl) (by kernel_rfl) (by first | assumption | exact Below.refl _ _) ?_
              repeat (go_big_quiet_step ((first | (go_at_call 83; exact bel_same (within_any _ _ _ _)) | (go_at_call 91; exact bel_same (CA.out _)) | (go_at_call 92; exact bel_quiet (CI.out _)))))
              refine wpQuiet_nil ?_
              intro _ hw'
              obtain ⟨⟨wb, hB⟩, rfl⟩ := hw'
              try simp only at hB ⊢
              all_goals
                clear hw1 hw2 hw3
              
                go_wp2
                go_ret
                exact ⟨ret_bool (by unfold goodT; rw [HF.out]; rfl), HZ.out _ hB⟩
            | true =>
              cases h4 : incB l with
              | false =>
                simp only [h3] at CA
                simp only [h4] at CI
                have hp1 := (inB_true.1 h2).1
                have hp2 := (inB_true.1 h2).2
                have hw3 : IntKind.i64.wrap (p - 1) = p - 1 := IntWalk.i64_in _ (by omega)
                have HF : Hid (okT none L = false) := Lib.hid (by rw [← HR.out, HD.out]; have ht : tickB (m, p, l, s) = false := (by rw [tickB_eq]; simp [h4]); simp [okT, ht])
                go_wp2
                clear k0 k1 k2 k3
                generalize hws : (wo.alloc (.cells #[.int .i64 m, .int .i64 p, .slice A2 l.length c2, .int .i64 s] 106)) = ws at *
                refine wp_region_below ws (by kernel_rfl) (by kernel_rfl) (by first | assumption | exact Below.refl _ _) ?_
                repeat (go_big_quiet_step ((first | (go_at_call 83; exact bel_same (within_any _ _ _ _)) | (go_at_call 91; exact bel_same (CA.out _)) | (go_at_call 92; exact bel_quiet (CI.out _)))))
                refine wpQuiet_nil ?_
                intro _ hw'
                obtain ⟨⟨wb, hB⟩, rfl⟩ := hw'
                try simp only at hB ⊢
                all_goals
                  clear hw1 hw2 hw3
                
                  go_wp2
                  go_ret
                  exact ⟨ret_bool (by unfold goodT; rw [HF.out]; rfl), HZ.out _ hB⟩
              | true =>
                simp only [h3] at CA
                simp only [h4] at CI
                have hp1 := (inB_true.1 h2).1
                have hp2 := (inB_true.1 h2).2
                have hw3 : IntKind.i64.wrap (p - 1) = p - 1 := IntWalk.i64_in _ (by omega)
                by_cases hym : y < m
                · by_cases ha : (l.length : Int) = p
                  · by_cases hb : s = 1
                    · have ha' : ((l.length : Int) == p) = true := by simpa using ha
                      have hb' : (s == 1) = true := by simpa using hb
                      have hx' : (decide ((l.length : Int) = p) == decide (s = 1)) = true := by simp [ha, hb]
                      have HX1 := Lib.hid hx'
                      clear ha hb hx'
                      cases h6 : inB s 0 2 with
                      | false =>
                        have HF : Hid (okT none L = false) := Lib.hid (by rw [← HR.out, HD.out]; have ht : tickB (m, p, l, s) = false := (by rw [tickB_eq, h6]; simp); simp [okT, ht])
                        go_wp2
                        clear k0 k1 k2 k3
                        generalize hws : (wo.alloc (.cells #[.int .i64 m, .int .i64 p, .slice A2 l.length c2, .int .i64 s] 106)) = ws at *
                        refine wp_region_below ws (by kernel_rfl) (by kernel_rfl) (by first | assumption | exact Below.refl _ _) ?_
                        repeat (go_big_quiet_step ((first | (go_at_call 83; exact bel_same (within_any _ _ _ _)) | (go_at_call 91; exact bel_same (CA.out _)) | (go_at_call 92; exact bel_quiet (CI.out _)))))
                        refine wpQuiet_nil ?_
                        intro _ hw'
                        obtain ⟨⟨wb, hB⟩, rfl⟩ := hw'
                        try simp only at hB ⊢
                        all_goals
                          clear hw1 hw2 hw3
                          obtain ⟨v0, v1, v2, v3⟩ := KB.out _ hB
                          go_wp2_with (go_at_call 83; refine (within_any _ _ _ _).mono ?_; rintro e w' ⟨rfl, rfl⟩)
                          go_ret
                          exact ⟨ret_bool (by unfold goodT; rw [HF.out]; rfl), HZ.out _ hB⟩
                      | true =>
                        have HT : Hid (okT none L = okT (prevT L (j + 1 + 1)) (L.drop (j + 1 + 1))) := Lib.hid (by rw [HP.out, ← HR.out, HD.out, HPJ.out]; have ht : tickB (m, p, l, s) = true := (by rw [tickB_eq, HX1.out]; simp [h1, h2, h3, h4, h6]); simp [okT, aftB, ht, prevT, hym])
                        go_wp2
                        clear k0 k1 k2 k3
                        generalize hws : (wo.alloc (.cells #[.int .i64 m, .int .i64 p, .slice A2 l.length c2, .int .i64 s] 106)) = ws at *
                        refine wp_region_below ws (by kernel_rfl) (by kernel_rfl) (by first | assumption | exact Below.refl _ _) ?_
                        repeat (go_big_quiet_step ((first | (go_at_call 83; exact bel_same (within_any _ _ _ _)) | (go_at_call 91; exact bel_same (CA.out _)) | (go_at_call 92; exact bel_quiet (CI.out _)))))
                        refine wpQuiet_nil ?_
                        intro _ hw'
                        obtain ⟨⟨wb, hB⟩, rfl⟩ := hw'
                        try simp only at hB ⊢
                        all_goals
                          clear hw1 hw2 hw3
                          obtain ⟨v0, v1, v2, v3⟩ := KB.out _ hB
                          go_wp2_with (go_at_call 83; refine (within_any _ _ _ _).mono ?_; rintro e w' ⟨rfl, rfl⟩)
                          go_roundw
                          case rel => exact ⟨j + 1 + 1, by omega, by go_num, HT.out.symm, HZ.out _ hB⟩
                          case measure => simp [intOf]; omega
                    · have ha' : ((l.length : Int) == p) = true := by simpa using ha
                      have hb' : (s == 1) = false := by simpa using hb
                      have hx' : (decide ((l.length : Int) = p) == decide (s = 1)) = false := by simp [ha, hb]
                      have HX1 := Lib.hid hx'
                      clear ha hb hx'
                      have HF : Hid (okT none L = false) := Lib.hid (by rw [← HR.out, HD.out]; have ht : tickB (m, p, l, s) = false := (by rw [tickB_eq, HX1.out]; simp); simp [okT, ht])
                      go_wp2
                      clear k0 k1 k2 k3
                      generalize hws : (wo.alloc (.cells #[.int .i64 m, .int .i64 p, .slice A2 l.length c2, .int .i64 s] 106)) = ws at *
                      refine wp_region_below ws (by kernel_rfl) (by kernel_rfl) (by first | assumption | exact Below.refl _ _) ?_
                      repeat (go_big_quiet_step ((first | (go_at_call 83; exact bel_same (within_any _ _ _ _)) | (go_at_call 91; exact bel_same (CA.out _)) | (go_at_call 92; exact bel_quiet (CI.out _)))))
                      refine wpQuiet_nil ?_
                      intro _ hw'
                      obtain ⟨⟨wb, hB⟩, rfl⟩ := hw'
                      try simp only at hB ⊢
                      all_goals
                        clear hw1 hw2 hw3
                        obtain ⟨v0, v1, v2, v3⟩ := KB.out _ hB
                        go_wp2_with (go_at_call 83; refine (within_any _ _ _ _).mono ?_; rintro e w' ⟨rfl, rfl⟩)
                        go_ret
                        exact ⟨ret_bool (by unfold goodT; rw [HF.out]; rfl), HZ.out _ hB⟩
                  · by_cases hb : s = 1
                    · have ha' : ((l.length : Int) == p) = false := by simpa using ha
                      have hb' : (s == 1) = true := by simpa using hb
                      have hx' : (decide ((l.length : Int) = p) == decide (s = 1)) = false := by simp [ha, hb]
                      have HX1 := Lib.hid hx'
                      clear ha hb hx'
                      have HF : Hid (okT none L = false) := Lib.hid (by rw [← HR.out, HD.out]; have ht : tickB (m, p, l, s) = false := (by rw [tickB_eq, HX1.out]; simp); simp [okT, ht])
                      go_wp2
                      clear k0 k1 k2 k3
                      generalize hws : (wo.alloc (.cells #[.int .i64 m, .int .i64 p, .slice A2 l.length c2, .int .i64 s] 106)) = ws at *
                      refine wp_region_below ws (by kernel_rfl) (by kernel_rfl) (by first | assumption | exact Below.refl _ _) ?_
                      repeat (go_big_quiet_step ((first | (go_at_call 83; exact bel_same (within_any _ _ _ _)) | (go_at_call 91; exact bel_same (CA.out _)) | (go_at_call 92; exact bel_quiet (CI.out _)))))
                      refine wpQuiet_nil ?_
                      intro _ hw'
                      obtain ⟨⟨wb, hB⟩, rfl⟩ := hw'
                      try simp only at hB ⊢
                      all_goals
                        clear hw1 hw2 hw3
                        obtain ⟨v0, v1, v2, v3⟩ := KB.out _ hB
                        go_wp2_with (go_at_call 83; refine (within_any _ _ _ _).mono ?_; rintro e w' ⟨rfl, rfl⟩)
                        go_ret
                        exact ⟨ret_bool (by unfold goodT; rw [HF.out]; rfl), HZ.out _ hB⟩
                    · have ha' : ((l.length : Int) == p) = false := by simpa using ha
                      have hb' : (s == 1) = false := by simpa using hb
                      have hx' : (decide ((l.length : Int) = p) == decide (s = 1)) = true := by simp [ha, hb]
                      have HX1 := Lib.hid hx'
                      clear ha hb hx'
                      cases h6 : inB s 0 2 with
                      | false =>
                        have HF : Hid (okT none L = false) := Lib.hid (by rw [← HR.out, HD.out]; have ht : tickB (m, p, l, s) = false := (by rw [tickB_eq, h6]; simp); simp [okT, ht])
                        go_wp2
                        clear k0 k1 k2 k3
                        generalize hws : (wo.alloc (.cells #[.int .i64 m, .int .i64 p, .slice A2 l.length c2, .int .i64 s] 106)) = ws at *
                        refine wp_region_below ws (by kernel_rfl) (by kernel_rfl) (by first | assumption | exact Below.refl _ _) ?_
                        repeat (go_big_quiet_step ((first | (go_at_call 83; exact bel_same (within_any _ _ _ _)) | (go_at_call 91; exact bel_same (CA.out _)) | (go_at_call 92; exact bel_quiet (CI.out _)))))
                        refine wpQuiet_nil ?_
                        intro _ hw'
                        obtain ⟨⟨wb, hB⟩, rfl⟩ := hw'
                        try simp only at hB ⊢
                        all_goals
                          clear hw1 hw2 hw3
                          obtain ⟨v0, v1, v2, v3⟩ := KB.out _ hB
                          go_wp2_with (go_at_call 83; refine (within_any _ _ _ _).mono ?_; rintro e w' ⟨rfl, rfl⟩)
                          go_ret
                          exact ⟨ret_bool (by unfold goodT; rw [HF.out]; rfl), HZ.out _ hB⟩
                      | true =>
                        have HT : Hid (okT none L = okT (prevT L (j + 1 + 1)) (L.drop (j + 1 + 1))) := Lib.hid (by rw [HP.out, ← HR.out, HD.out, HPJ.out]; have ht : tickB (m, p, l, s) = true := (by rw [tickB_eq, HX1.out]; simp [h1, h2, h3, h4, h6]); simp [okT, aftB, ht, prevT, hym])
                        go_wp2
                        clear k0 k1 k2 k3
                        generalize hws : (wo.alloc (.cells #[.int .i64 m, .int .i64 p, .slice A2 l.length c2, .int .i64 s] 106)) = ws at *
                        refine wp_region_below ws (by kernel_rfl) (by kernel_rfl) (by first | assumption | exact Below.refl _ _) ?_
                        repeat (go_big_quiet_step ((first | (go_at_call 83; exact bel_same (within_any _ _ _ _)) | (go_at_call 91; exact bel_same (CA.out _)) | (go_at_call 92; exact bel_quiet (CI.out _)))))
                        refine wpQuiet_nil ?_
                        intro _ hw'
                        obtain ⟨⟨wb, hB⟩, rfl⟩ := hw'
                        try simp only at hB ⊢
                        all_goals
                          clear hw1 hw2 hw3
                          obtain ⟨v0, v1, v2, v3⟩ := KB.out _ hB
                          go_wp2_with (go_at_call 83; refine (within_any _ _ _ _).mono ?_; rintro e w' ⟨rfl, rfl⟩)
                          go_roundw
                          case rel => exact ⟨j + 1 + 1, by omega, by go_num, HT.out.symm, HZ.out _ hB⟩
                          case measure => simp [intOf]; omega
                · have hym' : m ≤ y := by omega
                  have HF : Hid (okT none L = false) := Lib.hid (by rw [← HR.out, HD.out, HPJ.out]; simp [okT, aftB, hym])
                  go_wp2
                  clear k0 k1 k2 k3
                  generalize hws : (wo.alloc (.cells #[.int .i64 m, .int .i64 p, .slice A2 l.length c2, .int .i64 s] 106)) = ws at *
                  refine wp_region_below ws (by kernel_rfl) (by kernel_rfl) (by first | assumption | exact Below.refl _ _) ?_
                  repeat (go_big_quiet_step ((first | (go_at_call 83; exact bel_same (within_any _ _ _ _)) | (go_at_call 91; exact bel_same (CA.out _)) | (go_at_call 92; exact bel_quiet (CI.out _)))))
                  refine wpQuiet_nil ?_
                  intro _ hw'
                  obtain ⟨⟨wb, hB⟩, rfl⟩ := hw'
                  try simp only at hB ⊢
                  all_goals
                    clear hw1 hw2 hw3
                  
                    go_wp2
                    go_ret
                    exact ⟨ret_bool (by unfold goodT; rw [HF.out]; rfl), HZ.out _ hB⟩
    · have HE := Lib.hid (drop_end (xs := L) (k := k) (by rw [HX.out]; omega))
      go_wp2
      go_ret
      refine ⟨ret_bool ?_, HB.out⟩
      unfold goodT
      rw [← HR.out, HE.out, HX.out]
      simp [okT]
      omega
set_option maxHeartbeats 4000000 in
set_option maxRecDepth 100000 in
theorem law_FnExactAreTickets (w : World) {v0 : Value} (h0 : IsTickets w v0) :
    Calls Try.prog 9 #[v0] w fun e w' => e = .returned (.bool true) ∧ Below w.heap.size w w' := by
  obtain ⟨A0, n0, c0, xs0, rfl, hnc0, hcm0, hlx0, hr0, hin0⟩ := h0
  have HR0 := Lib.hid (hr0); clear hr0
  have HIN0 := Lib.hid hin0; clear hin0
  obtain ⟨s0, hs0⟩ : ∃ s, s = n0 + totT xs0 := ⟨_, rfl⟩
  have HS_0 := Lib.hid hs0
  have HSZ : Hid (Below w.heap.size w w) := Lib.hid (Below.refl _ _)
  have hs0' : n0 ≤ s0 := by omega
  clear hs0
  by_cases hz0 : s0 ≤ 1048576
  rotate_left
  · go_enter Try.func9, Try.ntmps9
    go_wp2_with fail
    refine (szTicketS_bigI A0 n0 c0 xs0 _ s0 _ (by omega) (by omega) (by omega) (by omega) HS_0.out (fun x hx => (HIN0.out x hx).1) (HR0.out.below HSZ.out)).mono ?_
    rintro e wz ⟨rfl, hb⟩
    have HSZ := Lib.hid (HSZ.out.trans (hb.mono HSZ.out.size)); clear hb
    go_wp2_with fail
    go_ret
    exact ⟨rfl, HSZ.out⟩
  have HLX0 := Lib.hid (bdTicketS (xs := xs0) (n := n0) (s := s0) HS_0.out (by omega))
  obtain ⟨S0, hS0⟩ : ∃ S0, S0 = w := ⟨_, rfl⟩
  have HS0 := Lib.hid hS0
  have BW0 : Hid (Below w.heap.size w S0 ∧ w.heap.size ≤ S0.heap.size) := Lib.hid (by subst hS0; exact ⟨(Below.refl _ _), by simp; try omega⟩)
  rw [← hS0] at HR0
  clear hS0
  go_enter Try.func9, Try.ntmps9
  have BB0 : Hid (Below S0.heap.size S0 S0) := Lib.hid (Below.refl _ _)
  clear HSZ
  try rw [← HS0.out]
  go_wp2_with fail
  try rw [← HS0.out]
  refine (szTicketS_okI A0 n0 c0 xs0 _ s0 S0 (by omega) (by omega) (by omega) (by omega) HS_0.out (fun x hx => (HIN0.out x hx).1) (HR0.out.below BB0.out)).mono ?_
  rintro e w1 ⟨rfl, hb⟩
  have B0 := Lib.hid hb; clear hb
  have Z0 := Lib.hid (B0.out.size)
  have BB1 := Lib.hid (BB0.out.trans (B0.out.mono BB0.out.size))
  go_wp2_with fail
  refine (toTicketS_any A0 n0 c0 xs0 w1 (by omega) HLX0.out (HR0.out.below BB1.out)).mono ?_
  rintro e w2 ⟨As0, cs0, hss0, rfl, hown, hb⟩
  have Os0_2 := Lib.hid hown; clear hown
  have B1 := Lib.hid hb; clear hb
  have Z1 := Lib.hid (B1.out.size)
  have BB2 := Lib.hid (BB1.out.trans (B1.out.mono BB1.out.size))
  go_wp2_with fail
  refine (specAreTickets_any As0 n0 cs0 xs0 w2 (by omega) HLX0.out (Reads2.of_own Os0_2.out)).mono ?_
  rintro e w3 ⟨rfl, hb⟩
  have B2 := Lib.hid hb; clear hb
  have Z2 := Lib.hid (B2.out.size)
  have BB3 := Lib.hid (BB2.out.trans (B2.out.mono BB2.out.size))
  have Os0_3 := Lib.hid (Os0_2.out.below B2.out (Nat.le_refl _))
  go_wp2_with fail
  refine (toTicketS_any A0 n0 c0 xs0 w3 (by omega) HLX0.out (HR0.out.below BB3.out)).mono ?_
  rintro e w4 ⟨Ax0, cx0, hsx0, rfl, hown, hb⟩
  have Ox0_4 := Lib.hid hown; clear hown
  have B3 := Lib.hid hb; clear hb
  have Z3 := Lib.hid (B3.out.size)
  have BB4 := Lib.hid (BB3.out.trans (B3.out.mono BB3.out.size))
  go_wp2_with fail
  refine (areTickets_any Ax0 n0 cx0 xs0 w4 (by omega) HLX0.out (Reads2.of_own Ox0_4.out)).mono ?_
  rintro e w5 ⟨rfl, hb⟩
  have B4 := Lib.hid hb; clear hb
  have Z4 := Lib.hid (B4.out.size)
  have BB5 := Lib.hid (BB4.out.trans (B4.out.mono BB4.out.size))
  have Ox0_5 := Lib.hid (Ox0_4.out.below B4.out (Nat.le_refl _))
  go_wp2_with fail
  refine (toTicketS_any A0 n0 c0 xs0 w5 (by omega) HLX0.out (HR0.out.below BB5.out)).mono ?_
  rintro e w6 ⟨At0, ct0, hst0, rfl, hown, hb⟩
  have Ot0_6 := Lib.hid hown; clear hown
  have B5 := Lib.hid hb; clear hb
  have Z5 := Lib.hid (B5.out.size)
  have BB6 := Lib.hid (BB5.out.trans (B5.out.mono BB5.out.size))
  have Ox0_6 := Lib.hid (Ox0_5.out.below B5.out (by have := Z4.out; omega))
  go_wp2_with fail
  refine (eqTicketS_any Ax0 At0 n0 cx0 ct0 xs0 w6 (by omega) HLX0.out (Reads2.of_own Ox0_6.out) (Reads2.of_own Ot0_6.out)).mono ?_
  rintro e w7 ⟨rfl, hb⟩
  have B6 := Lib.hid hb; clear hb
  have Z6 := Lib.hid (B6.out.size)
  have BB7 := Lib.hid (BB6.out.trans (B6.out.mono BB6.out.size))
  have Ox0_7 := Lib.hid (Ox0_6.out.below B6.out (by have := Z4.out; have := Z5.out; omega))
  have Ot0_7 := Lib.hid (Ot0_6.out.below B6.out (Nat.le_refl _))
  go_wp2_with fail
  go_ret
  first | exact ⟨rfl, BW0.out.1.trans (BB7.out.mono BW0.out.2)⟩ | exact ⟨rfl, BB7.out⟩

end Go.Proofs.Ytcjmlakmigfkfaa
