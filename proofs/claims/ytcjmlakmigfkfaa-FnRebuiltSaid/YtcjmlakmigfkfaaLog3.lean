/- Contract of lgGood of the spec. No conditions. -/
import Derived.Test.YtcjmlakmigfkfaaLog2
namespace Go.Proofs.Ytcjmlakmigfkfaa
set_option linter.unusedSimpArgs false
set_option linter.unusedVariables false
open Go.RowKit

def okE (W : List EntryT) (pv : Option Int) (i : Nat) (x : EntryT) : Bool :=
  entB x && (decide (idxP (isE x.2.1 x.2.2.1) W 0 = (i : Int)) && (match pv with | none => true | some y => decide (y ≤ x.1)))
def goE (W : List EntryT) : Option Int → Nat → List EntryT → Bool
  | _, _, [] => true
  | pv, i, x :: r => if okE W pv i x = true then goE W (some x.1) (i + 1) r else false
def goodE (L : List EntryT) : Bool := goE L none 0 L && decide (L.length ≤ 30)
def prevE (L : List EntryT) (k : Nat) : Option Int := if k = 0 then none else (L[k - 1]?).map (·.1)
theorem prevE_succ {L : List EntryT} {k : Nat} (h : k < L.length) : prevE L (k + 1) = some L[k].1 := by simp [prevE, h]

set_option maxHeartbeats 4000000 in
set_option maxRecDepth 100000 in
theorem lgGood_any (A : Option Addr) (n c : Nat) (L : List EntryT) (w : World) (hn : n ≤ 1000000000) (hl : ∀ x ∈ L, lenE 1000000000 x) (h : Reads2 w 5 A n (rowsE L)) :
    Calls Try.prog 60 #[.slice A n c] w fun e w' => e = .returned (.bool (goodE L)) ∧ Below w.heap.size w w' := by
  have HX := Lib.hid (show L.length = n by have := h.len; rw [length_rowsE] at this; omega)
  have HL := Lib.hid hl
  have H := Lib.hid h
  clear h hl
  go_enter Try.func60, Try.ntmps60
  go_wp2
  go_loopw [7] (fun i wr => ∃ k : Nat, k ≤ n ∧ i = .int .i64 k ∧ goE L (prevE L k) k (L.drop k) = goE L none 0 L ∧ Below w.heap.size w wr) (fun i _ => n - (intOf i).toNat)
  case atStart => exact ⟨0, Nat.zero_le _, rfl, rfl, Below.refl _ _⟩
  case round =>
    obtain ⟨k, hk, rfl, hrel, hb⟩ := hrel
    have HR := Lib.hid hrel; clear hrel
    have HB := Lib.hid hb; clear hb
    obtain ⟨wo, rfl⟩ : ∃ wo, wo = wr := ⟨_, rfl⟩
    by_cases hlt : k < n
    · have hx : k < L.length := by rw [HX.out]; exact hlt
      have HD := Lib.hid (drop_cons hx)
      have HP := Lib.hid (prevE_succ hx)
      have HXL := Lib.hid (HL.out L[k] (List.getElem_mem hx))
      by_cases hk0 : k = 0
      · subst hk0
        obtain ⟨ad, A3, c3, A4, c4, rfl, k0, k1, k2, k3, k4, hr, hr'⟩ := rowsE_at (H.out.below HB.out) hx
        rw [show prevE L 0 = none from rfl] at HR
        generalize L[0] = x at *
        obtain ⟨t, m, p, l, l'⟩ := x
        simp only at k0 k1 k2 k3 k4 hr hr'
        have e0 : ad.add (0 * 5) = ad := by simp [Addr.add]
        rw [e0] at k0 k1 k2 k3 k4
        clear e0
        have HRD := Lib.hid hr; clear hr
        have HRD' := Lib.hid hr'; clear hr'
        have HW : Hid (Below wo.heap.size wo (wo.alloc (.cells #[.int .i64 t, .int .i64 m, .int .i64 p, .slice A3 l.length c3, .slice A4 l'.length c4] 51))) := Lib.hid ((Below.refl _ _).alloc (Nat.le_refl _) _)
        have HZ : Hid (∀ W, Below (wo.alloc (.cells #[.int .i64 t, .int .i64 m, .int .i64 p, .slice A3 l.length c3, .slice A4 l'.length c4] 51)).heap.size (wo.alloc (.cells #[.int .i64 t, .int .i64 m, .int .i64 p, .slice A3 l.length c3, .slice A4 l'.length c4] 51)) W → Below w.heap.size w W) := Lib.hid (fun W hW => HB.out.trans ((HW.out.trans (hW.mono (by simp))).mono HB.out.size))
        have CT := Lib.hid (fun V : InB (wo.alloc (.cells #[.int .i64 t, .int .i64 m, .int .i64 p, .slice A3 l.length c3, .slice A4 l'.length c4] 51)) => lgEntry_any t m p A3 A4 c3 c4 l l' V.1 (by have := HXL.out; unfold lenE at this; exact this.1) (by have := HXL.out; unfold lenE at this; exact this.2) (HRD.out.below (HW.out.trans (V.2.mono (by simp)))) (HRD'.out.below (HW.out.trans (V.2.mono (by simp)))))
        have CF := Lib.hid (fun V : InB (wo.alloc (.cells #[.int .i64 t, .int .i64 m, .int .i64 p, .slice A3 l.length c3, .slice A4 l'.length c4] 51)) => lgFind_any (some ad) n c L m p V.1 hn (H.out.below (HZ.out _ V.2)))
        have s0 := fun V : InB (wo.alloc (.cells #[.int .i64 t, .int .i64 m, .int .i64 p, .slice A3 l.length c3, .slice A4 l'.length c4] 51)) => V.cell (p := ⟨wo.heap.size, 0, none⟩) (u := .int .i64 t) (by simp)
        have s1 := fun V : InB (wo.alloc (.cells #[.int .i64 t, .int .i64 m, .int .i64 p, .slice A3 l.length c3, .slice A4 l'.length c4] 51)) => V.cell (p := ⟨wo.heap.size, 1, none⟩) (u := .int .i64 m) (by simp)
        have s2 := fun V : InB (wo.alloc (.cells #[.int .i64 t, .int .i64 m, .int .i64 p, .slice A3 l.length c3, .slice A4 l'.length c4] 51)) => V.cell (p := ⟨wo.heap.size, 2, none⟩) (u := .int .i64 p) (by simp)
        have s3 := fun V : InB (wo.alloc (.cells #[.int .i64 t, .int .i64 m, .int .i64 p, .slice A3 l.length c3, .slice A4 l'.length c4] 51)) => V.cell (p := ⟨wo.heap.size, 3, none⟩) (u := .slice A3 l.length c3) (by simp)
        have s4 := fun V : InB (wo.alloc (.cells #[.int .i64 t, .int .i64 m, .int .i64 p, .slice A3 l.length c3, .slice A4 l'.length c4] 51)) => V.cell (p := ⟨wo.heap.size, 4, none⟩) (u := .slice A4 l'.length c4) (by simp)
        have hlt' : (0 : Int) < (n : Int) := by omega
        have hw2 : decide ((0 : Int) < 0) = false := by decide
        cases ht : entB (t, m, p, l, l') with
        | false =>
          simp only [ht] at CT
          have HF : Hid (goE L none 0 L = false) := Lib.hid (by rw [← HR.out, HD.out]; simp [goE, okE, ht])
          go_wp2
          clear k0 k1 k2 k3 k4
          generalize hws : (wo.alloc (.cells #[.int .i64 t, .int .i64 m, .int .i64 p, .slice A3 l.length c3, .slice A4 l'.length c4] 51)) = ws at *
          refine wp_region_below ws (by kernel_rfl) (by kernel_rfl) (by first | assumption | exact Below.refl _ _) ?_
          repeat (go_big_quiet_step ((first | (go_at_call 95; exact bel_of (CT.out _)) | (go_at_call 75; exact bel_of (CF.out _)))))
          refine wpQuiet_nil ?_
          intro _ hw'
          obtain ⟨⟨wb, hB⟩, rfl⟩ := hw'
          try simp only at hB ⊢
          all_goals
            clear hw2
            go_wp2
            go_ret
            exact ⟨ret_bool (by unfold goodE; rw [HF.out]; rfl), HZ.out _ hB⟩
        | true =>
          simp only [ht] at CT
          obtain ⟨fi, hfi⟩ : ∃ fi, fi = idxP (isE m p) L 0 := ⟨_, rfl⟩
          rw [← hfi] at CF
          have HFI := Lib.hid hfi
          clear hfi
          by_cases hf : fi = (0 : Int)
          · have hne : (fi != (0 : Int)) = false := by simp [hf]
            have hne2 : (fi == (0 : Int)) = true := by simp [hf]
            have HFF := Lib.hid hf
            clear hf
            have HT : Hid (goE L none 0 L = goE L (prevE L (1)) (1) (L.drop (1))) := Lib.hid (by rw [HP.out, ← HR.out, HD.out]; simp [goE, okE, ht, HFF.out, ← HFI.out])
            go_wp2
            clear k0 k1 k2 k3 k4
            generalize hws : (wo.alloc (.cells #[.int .i64 t, .int .i64 m, .int .i64 p, .slice A3 l.length c3, .slice A4 l'.length c4] 51)) = ws at *
            refine wp_region_below ws (by kernel_rfl) (by kernel_rfl) (by first | assumption | exact Below.refl _ _) ?_
            repeat (go_big_quiet_step ((first | (go_at_call 95; exact bel_of (CT.out _)) | (go_at_call 75; exact bel_of (CF.out _)))))
            refine wpQuiet_nil ?_
            intro _ hw'
            obtain ⟨⟨wb, hB⟩, rfl⟩ := hw'
            try simp only at hB ⊢
            all_goals
              clear hw2
              go_wp2
              go_roundw
              case rel => exact ⟨1, by omega, by go_num, HT.out.symm, HZ.out _ hB⟩
              case measure => simp [intOf]; omega
          · have hne : (fi != (0 : Int)) = true := by simpa using hf
            have hne2 : (fi == (0 : Int)) = false := by simpa using hf
            have HFF := Lib.hid hf
            clear hf
            have HF : Hid (goE L none 0 L = false) := Lib.hid (by rw [← HR.out, HD.out]; simp [goE, okE, ht, HFF.out, ← HFI.out])
            go_wp2
            clear k0 k1 k2 k3 k4
            generalize hws : (wo.alloc (.cells #[.int .i64 t, .int .i64 m, .int .i64 p, .slice A3 l.length c3, .slice A4 l'.length c4] 51)) = ws at *
            refine wp_region_below ws (by kernel_rfl) (by kernel_rfl) (by first | assumption | exact Below.refl _ _) ?_
            repeat (go_big_quiet_step ((first | (go_at_call 95; exact bel_of (CT.out _)) | (go_at_call 75; exact bel_of (CF.out _)))))
            refine wpQuiet_nil ?_
            intro _ hw'
            obtain ⟨⟨wb, hB⟩, rfl⟩ := hw'
            try simp only at hB ⊢
            all_goals
              clear hw2
              go_wp2
              go_ret
              exact ⟨ret_bool (by unfold goodE; rw [HF.out]; rfl), HZ.out _ hB⟩
      · obtain ⟨j, rfl⟩ : ∃ j, k = j + 1 := ⟨k - 1, by omega⟩
        have hxj : j < L.length := by omega
        obtain ⟨ad, A3, c3, A4, c4, rfl, k0, k1, k2, k3, k4, hr, hr'⟩ := rowsE_at (H.out.below HB.out) hx
        obtain ⟨ad', _, _, _, _, e', j0, _⟩ := rowsE_at (H.out.below HB.out) hxj
        injection e' with e'
        subst e'
        have HPJ := Lib.hid (prevE_succ hxj)
        generalize L[j + 1] = x at *
        generalize L[j] = x' at *
        obtain ⟨t, m, p, l, l'⟩ := x
        obtain ⟨y, ym, yp, yl, yl'⟩ := x'
        simp only at k0 k1 k2 k3 k4 hr hr' j0 HPJ
        have HRD := Lib.hid hr; clear hr
        have HRD' := Lib.hid hr'; clear hr'
        have HW : Hid (Below wo.heap.size wo (wo.alloc (.cells #[.int .i64 t, .int .i64 m, .int .i64 p, .slice A3 l.length c3, .slice A4 l'.length c4] 51))) := Lib.hid ((Below.refl _ _).alloc (Nat.le_refl _) _)
        have HZ : Hid (∀ W, Below (wo.alloc (.cells #[.int .i64 t, .int .i64 m, .int .i64 p, .slice A3 l.length c3, .slice A4 l'.length c4] 51)).heap.size (wo.alloc (.cells #[.int .i64 t, .int .i64 m, .int .i64 p, .slice A3 l.length c3, .slice A4 l'.length c4] 51)) W → Below w.heap.size w W) := Lib.hid (fun W hW => HB.out.trans ((HW.out.trans (hW.mono (by simp))).mono HB.out.size))
        have CT := Lib.hid (fun V : InB (wo.alloc (.cells #[.int .i64 t, .int .i64 m, .int .i64 p, .slice A3 l.length c3, .slice A4 l'.length c4] 51)) => lgEntry_any t m p A3 A4 c3 c4 l l' V.1 (by have := HXL.out; unfold lenE at this; exact this.1) (by have := HXL.out; unfold lenE at this; exact this.2) (HRD.out.below (HW.out.trans (V.2.mono (by simp)))) (HRD'.out.below (HW.out.trans (V.2.mono (by simp)))))
        have CF := Lib.hid (fun V : InB (wo.alloc (.cells #[.int .i64 t, .int .i64 m, .int .i64 p, .slice A3 l.length c3, .slice A4 l'.length c4] 51)) => lgFind_any (some ad) n c L m p V.1 hn (H.out.below (HZ.out _ V.2)))
        have s0 := fun V : InB (wo.alloc (.cells #[.int .i64 t, .int .i64 m, .int .i64 p, .slice A3 l.length c3, .slice A4 l'.length c4] 51)) => V.cell (p := ⟨wo.heap.size, 0, none⟩) (u := .int .i64 t) (by simp)
        have s1 := fun V : InB (wo.alloc (.cells #[.int .i64 t, .int .i64 m, .int .i64 p, .slice A3 l.length c3, .slice A4 l'.length c4] 51)) => V.cell (p := ⟨wo.heap.size, 1, none⟩) (u := .int .i64 m) (by simp)
        have s2 := fun V : InB (wo.alloc (.cells #[.int .i64 t, .int .i64 m, .int .i64 p, .slice A3 l.length c3, .slice A4 l'.length c4] 51)) => V.cell (p := ⟨wo.heap.size, 2, none⟩) (u := .int .i64 p) (by simp)
        have s3 := fun V : InB (wo.alloc (.cells #[.int .i64 t, .int .i64 m, .int .i64 p, .slice A3 l.length c3, .slice A4 l'.length c4] 51)) => V.cell (p := ⟨wo.heap.size, 3, none⟩) (u := .slice A3 l.length c3) (by simp)
        have s4 := fun V : InB (wo.alloc (.cells #[.int .i64 t, .int .i64 m, .int .i64 p, .slice A3 l.length c3, .slice A4 l'.length c4] 51)) => V.cell (p := ⟨wo.heap.size, 4, none⟩) (u := .slice A4 l'.length c4) (by simp)
        have s5 : ∀ V : InB (wo.alloc (.cells #[.int .i64 t, .int .i64 m, .int .i64 p, .slice A3 l.length c3, .slice A4 l'.length c4] 51)), V.1.cell? (ad.add (j * 5)) = some (.int .i64 y) := fun V => ((HW.out.trans (V.2.mono (by simp))).cell (World.block_lt_of_cell? wo _ j0)).trans j0
        have hw1 : IntKind.i64.wrap (j : Int) = (j : Int) := IntWalk.i64_in _ (by omega)
        have hw2 : decide ((0 : Int) < (j : Int) + 1) = true := by simp <;> omega
        have hjn : (j : Int) < (n : Int) := by omega
        have hj0 : (0 : Int) ≤ (j : Int) := by omega
        cases ht : entB (t, m, p, l, l') with
        | false =>
          simp only [ht] at CT
          have HF : Hid (goE L none 0 L = false) := Lib.hid (by rw [← HR.out, HD.out, HPJ.out]; simp [goE, okE, ht])
          go_wp2
          clear k0 k1 k2 k3 k4
          generalize hws : (wo.alloc (.cells #[.int .i64 t, .int .i64 m, .int .i64 p, .slice A3 l.length c3, .slice A4 l'.length c4] 51)) = ws at *
          refine wp_region_below ws (by kernel_rfl) (by kernel_rfl) (by first | assumption | exact Below.refl _ _) ?_
          repeat (go_big_quiet_step ((first | (go_at_call 95; exact bel_of (CT.out _)) | (go_at_call 75; exact bel_of (CF.out _)))))
          refine wpQuiet_nil ?_
          intro _ hw'
          obtain ⟨⟨wb, hB⟩, rfl⟩ := hw'
          try simp only at hB ⊢
          all_goals
            clear hw1 hw2
            go_wp2
            go_ret
            exact ⟨ret_bool (by unfold goodE; rw [HF.out]; rfl), HZ.out _ hB⟩
        | true =>
          simp only [ht] at CT
          obtain ⟨fi, hfi⟩ : ∃ fi, fi = idxP (isE m p) L 0 := ⟨_, rfl⟩
          rw [← hfi] at CF
          have HFI := Lib.hid hfi
          clear hfi
          by_cases hf : fi = ((j : Int) + 1)
          · have hne : (fi != ((j : Int) + 1)) = false := by simp [hf]
            have hne2 : (fi == ((j : Int) + 1)) = true := by simp [hf]
            have HFF := Lib.hid hf
            clear hf
            by_cases hym : y ≤ t
            · have HT : Hid (goE L none 0 L = goE L (prevE L (j + 1 + 1)) (j + 1 + 1) (L.drop (j + 1 + 1))) := Lib.hid (by rw [HP.out, ← HR.out, HD.out, HPJ.out]; simp [goE, okE, ht, HFF.out, ← HFI.out, hym])
              go_wp2
              clear k0 k1 k2 k3 k4
              generalize hws : (wo.alloc (.cells #[.int .i64 t, .int .i64 m, .int .i64 p, .slice A3 l.length c3, .slice A4 l'.length c4] 51)) = ws at *
              refine wp_region_below ws (by kernel_rfl) (by kernel_rfl) (by first | assumption | exact Below.refl _ _) ?_
              repeat (go_big_quiet_step ((first | (go_at_call 95; exact bel_of (CT.out _)) | (go_at_call 75; exact bel_of (CF.out _)))))
              refine wpQuiet_nil ?_
              intro _ hw'
              obtain ⟨⟨wb, hB⟩, rfl⟩ := hw'
              try simp only at hB ⊢
              all_goals
                clear hw1 hw2
                go_wp2
                go_roundw
                case rel => exact ⟨j + 1 + 1, by omega, by go_num, HT.out.symm, HZ.out _ hB⟩
                case measure => simp [intOf]; omega
            · have hym' : t < y := by omega
              have HF : Hid (goE L none 0 L = false) := Lib.hid (by rw [← HR.out, HD.out, HPJ.out]; simp [goE, okE, ht, HFF.out, ← HFI.out, hym])
              go_wp2
              clear k0 k1 k2 k3 k4
              generalize hws : (wo.alloc (.cells #[.int .i64 t, .int .i64 m, .int .i64 p, .slice A3 l.length c3, .slice A4 l'.length c4] 51)) = ws at *
              refine wp_region_below ws (by kernel_rfl) (by kernel_rfl) (by first | assumption | exact Below.refl _ _) ?_
              repeat (go_big_quiet_step ((first | (go_at_call 95; exact bel_of (CT.out _)) | (go_at_call 75; exact bel_of (CF.out _)))))
              refine wpQuiet_nil ?_
              intro _ hw'
              obtain ⟨⟨wb, hB⟩, rfl⟩ := hw'
              try simp only at hB ⊢
              all_goals
                clear hw1 hw2
                go_wp2
                go_ret
                exact ⟨ret_bool (by unfold goodE; rw [HF.out]; rfl), HZ.out _ hB⟩
          · have hne : (fi != ((j : Int) + 1)) = true := by simpa using hf
            have hne2 : (fi == ((j : Int) + 1)) = false := by simpa using hf
            have HFF := Lib.hid hf
            clear hf
            have HF : Hid (goE L none 0 L = false) := Lib.hid (by rw [← HR.out, HD.out, HPJ.out]; simp [goE, okE, ht, HFF.out, ← HFI.out])
            go_wp2
            clear k0 k1 k2 k3 k4
            generalize hws : (wo.alloc (.cells #[.int .i64 t, .int .i64 m, .int .i64 p, .slice A3 l.length c3, .slice A4 l'.length c4] 51)) = ws at *
            refine wp_region_below ws (by kernel_rfl) (by kernel_rfl) (by first | assumption | exact Below.refl _ _) ?_
            repeat (go_big_quiet_step ((first | (go_at_call 95; exact bel_of (CT.out _)) | (go_at_call 75; exact bel_of (CF.out _)))))
            refine wpQuiet_nil ?_
            intro _ hw'
            obtain ⟨⟨wb, hB⟩, rfl⟩ := hw'
            try simp only at hB ⊢
            all_goals
              clear hw1 hw2
              go_wp2
              go_ret
              exact ⟨ret_bool (by unfold goodE; rw [HF.out]; rfl), HZ.out _ hB⟩
    · have HE := Lib.hid (drop_end (xs := L) (k := k) (by rw [HX.out]; omega))
      go_wp2
      go_ret
      refine ⟨ret_bool ?_, HB.out⟩
      unfold goodE
      rw [← HR.out, HE.out, HX.out]
      simp [goE]
      omega

end Go.Proofs.Ytcjmlakmigfkfaa
