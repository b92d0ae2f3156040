/- Lemmas and contracts of this claim, several texts in one: slices.IndexFunc on entries, the closure of entryIndex, entryIndex. Contract of lgGood of the spec. Entries: the prefix of a log; the first index by the prefix. Contract of IsLog of the implementation. Two logs and two ways asked: rbGood of the spec, gapAsked of the implementation. Entries that belong together: their indices, pairs and gaps; plain. No conditions. -/
import Derived.Test.YtcjmlakmigfkfaaZFilled3
namespace Go.Proofs.Ytcjmlakmigfkfaa
set_option linter.unusedSimpArgs false
set_option linter.unusedVariables false
open Go.RowKit

set_option maxHeartbeats 4000000 in
set_option maxRecDepth 100000 in
theorem indexFuncE_any (A : Option Addr) (n c : Nat) (L : List EntryT) (F : FuncId) (caps : Array Value) (p : EntryT → Bool) (w : World) (hn : n ≤ 1000000000) (h : Reads2 w 5 A n (rowsE L))
    (hF : ∀ a W, Sem.run Try.prog (callFunc F a) W = .ok (.enter F a) W)
    (hp : ∀ x ∈ L, ∀ (W : World) (A3 A4 : Option Addr) (c3 c4 : Nat), Below w.heap.size w W → Calls Try.prog F (#[.agg #[.int .i64 x.1, .int .i64 x.2.1, .int .i64 x.2.2.1, .slice A3 x.2.2.2.1.length c3, .slice A4 x.2.2.2.2.length c4]] ++ caps) W fun e w' => e = .returned (.bool (p x)) ∧ Below W.heap.size W w') :
    Calls Try.prog 99 #[.slice A n c, .func (.func F) #[] caps] w fun e w' => e = .returned (.int .i64 (idxP p L 0)) ∧ Below w.heap.size w w' := by
  have HX := Lib.hid (show L.length = n by have := h.len; rw [length_rowsE] at this; omega)
  have H := Lib.hid h
  have HP := Lib.hid hp
  clear h hp
  go_enter Try.func99, Try.ntmps99
  go_wp2
  go_loopw [8] (fun i wr => ∃ k : Nat, k ≤ n ∧ i = .int .i64 k ∧ idxP p (L.drop k) (k : Int) = idxP p L 0 ∧ Below w.heap.size w wr) (fun i _ => n - (intOf i).toNat)
  case atStart => exact ⟨0, Nat.zero_le _, rfl, rfl, Below.refl _ _⟩
  case round =>
    obtain ⟨k, hk, rfl, hrel, hb⟩ := hrel
    have HR := Lib.hid hrel; clear hrel
    have HB := Lib.hid hb; clear hb
    by_cases hlt : k < n
    · have hx : k < L.length := by rw [HX.out]; exact hlt
      obtain ⟨ad, A3, c3, A4, c4, rfl, k0, k1, k2, k3, k4, _, _⟩ := rowsE_at (H.out.below HB.out) hx
      have HPX := Lib.hid (HP.out L[k] (List.getElem_mem hx) wr A3 A4 c3 c4 HB.out)
      have HD := Lib.hid (drop_cons hx)
      generalize L[k] = g at *
      obtain ⟨gt, gm, gp, gl, gl'⟩ := g
      simp only at k0 k1 k2 k3 k4 HPX
      go_wp2_with fail
      refine (HPX.out).mono ?_
      rintro e w1 ⟨rfl, hb1⟩
      have HB1 := Lib.hid hb1; clear hb1 k0 k1 k2 k3 k4
      cases hpx : p (gt, gm, gp, gl, gl') with
      | true =>
        go_wp2
        go_ret
        refine ⟨ret_int ?_, HB.out.trans (HB1.out.mono HB.out.size)⟩
        rw [← HR.out, HD.out]
        simp [idxP, hpx]
      | false =>
        go_wp2
        go_roundw
        case rel =>
          refine ⟨k + 1, by omega, by go_num, ?_, HB.out.trans (HB1.out.mono HB.out.size)⟩
          rw [← HR.out, HD.out]
          simp [idxP, hpx]
        case measure => simp [intOf]; omega
    · have HE := Lib.hid (drop_end (xs := L) (k := k) (by rw [HX.out]; omega))
      go_wp2
      go_ret
      refine ⟨ret_int ?_, HB.out⟩
      rw [← HR.out, HE.out]
      rfl

theorem entryIndex1_any (t m p : Int) (A3 A4 : Option Addr) (c3 c4 : Nat) (l l' : List Int) (m0 p0 : Int) (g g' : Nat) (w : World) (h0 : w.cell? ⟨g, 0, none⟩ = some (.int .i64 m0)) (h1 : w.cell? ⟨g', 0, none⟩ = some (.int .i64 p0)) :
    Calls Try.prog 100 #[.agg #[.int .i64 t, .int .i64 m, .int .i64 p, .slice A3 l.length c3, .slice A4 l'.length c4], .pointer (some ⟨g, 0, none⟩), .pointer (some ⟨g', 0, none⟩)] w fun e w' => e = .returned (.bool (isE m0 p0 (t, m, p, l, l'))) ∧ Below w.heap.size w w' := by
  have s0 := (World.cell?_alloc_lt w (.cells #[.int .i64 t, .int .i64 m, .int .i64 p, .slice A3 l.length c3, .slice A4 l'.length c4] 51) _ (World.block_lt_of_cell? w _ h0)).trans h0
  have s1 := (World.cell?_alloc_lt w (.cells #[.int .i64 t, .int .i64 m, .int .i64 p, .slice A3 l.length c3, .slice A4 l'.length c4] 51) _ (World.block_lt_of_cell? w _ h1)).trans h1
  clear h0 h1
  cases hm : (m == m0) with
  | false =>
    go_enter Try.func100, Try.ntmps100
    go_wp2
    go_ret
    exact ⟨ret_bool (by simp [isE, hm]), (Below.refl _ _).alloc (Nat.le_refl _) _⟩
  | true =>
    cases hp : (p == p0) with
    | false =>
      go_enter Try.func100, Try.ntmps100
      go_wp2
      go_ret
      exact ⟨ret_bool (by simp [isE, hm, hp]), (Below.refl _ _).alloc (Nat.le_refl _) _⟩
    | true =>
      go_enter Try.func100, Try.ntmps100
      go_wp2
      go_ret
      exact ⟨ret_bool (by simp [isE, hm, hp]), (Below.refl _ _).alloc (Nat.le_refl _) _⟩
theorem entryIndex1_enters : ∀ a W, Sem.run Try.prog (callFunc 100 a) W = .ok (.enter 100 a) W := fun _ _ => by kernel_rfl
set_option maxRecDepth 100000 in
theorem entryIndex_any (A : Option Addr) (n c : Nat) (L : List EntryT) (m p : Int) (w : World) (hn : n ≤ 1000000000) (h : Reads2 w 5 A n (rowsE L)) :
    Calls Try.prog 77 #[.slice A n c, .int .i64 m, .int .i64 p] w fun e w' => e = .returned (.int .i64 (idxP (isE m p) L 0)) ∧ Below w.heap.size w w' := by
  have HB0 : Hid (Below w.heap.size w ((w.alloc (.cells #[.int .i64 m] 3)).alloc (.cells #[.int .i64 p] 3))) := Lib.hid (((Below.refl _ _).alloc (Nat.le_refl _) _).alloc (by simp) _)
  have z0 : ((w.alloc (.cells #[.int .i64 m] 3)).alloc (.cells #[.int .i64 p] 3)).cell? ⟨w.heap.size, 0, none⟩ = some (.int .i64 m) := by
    rw [World.cell?_alloc_lt _ _ _ (by simp)]
    simp
  have z1 : ((w.alloc (.cells #[.int .i64 m] 3)).alloc (.cells #[.int .i64 p] 3)).cell? ⟨w.heap.size + 1, 0, none⟩ = some (.int .i64 p) := by simp
  have C1 := Lib.hid (indexFuncE_any A n c L 100 #[.pointer (some ⟨w.heap.size, 0, none⟩), .pointer (some ⟨w.heap.size + 1, 0, none⟩)] (isE m p) _ hn (h.below HB0.out) entryIndex1_enters (fun x _ W A3 A4 c3 c4 hW => by
    obtain ⟨xt, xm, xp, xl, xl'⟩ := x
    exact entryIndex1_any xt xm xp A3 A4 c3 c4 xl xl' m p w.heap.size (w.heap.size + 1) W ((hW.cell (World.block_lt_of_cell? _ _ z0)).trans z0) ((hW.cell (World.block_lt_of_cell? _ _ z1)).trans z1)))
  clear h z0 z1
  go_enter Try.func77, Try.ntmps77
  go_wp2_with (go_at_call 99; refine (C1.out).mono ?_; rintro e w1 ⟨rfl, hb⟩)
  go_ret
  exact ⟨rfl, HB0.out.trans (hb.mono HB0.out.size)⟩

end Go.Proofs.Ytcjmlakmigfkfaa

namespace Go.Proofs.Ytcjmlakmigfkfaa
set_option linter.unusedSimpArgs false
set_option linter.unusedVariables false
open Go.RowKit

def okE (W : List EntryT) (pv : Option Int) (i : Nat) (x : EntryT) : Bool :=
  entB x && (decide (idxP (isE x.2.1 x.2.2.1) W 0 = (i : Int)) && (match pv with | none => true | some y => decide (y ≤ x.1)))
def goE (W : List EntryT) : Option Int → Nat → List EntryT → Bool
  | _, _, [] => true
  | pv, i, x :: r => if okE W pv i x = true then goE W (some x.1) (i + 1) r else false
def goodE (L : List EntryT) : Bool := goE L none 0 L && decide (L.length ≤ 30)
def prevE (L : List EntryT) (k : Nat) : Option Int := if k = 0 then none else (L[k - 1]?).map (·.1)
theorem prevE_succ {L : List EntryT} {k : Nat} (h : k < L.length) : prevE L (k + 1) = some L[k].1 := by simp [prevE, h]

set_option maxHeartbeats 4000000 in
set_option maxRecDepth 100000 in
theorem lgGood_any (A : Option Addr) (n c : Nat) (L : List EntryT) (w : World) (hn : n ≤ 1000000000) (hl : ∀ x ∈ L, lenE 1000000000 x) (h : Reads2 w 5 A n (rowsE L)) :
    Calls Try.prog 60 #[.slice A n c] w fun e w' => e = .returned (.bool (goodE L)) ∧ Below w.heap.size w w' := by
  have HX := Lib.hid (show L.length = n by have := h.len; rw [length_rowsE] at this; omega)
  have HL := Lib.hid hl
  have H := Lib.hid h
  clear h hl
  go_enter Try.func60, Try.ntmps60
  go_wp2
  go_loopw [7] (fun i wr => ∃ k : Nat, k ≤ n ∧ i = .int .i64 k ∧ goE L (prevE L k) k (L.drop k) = goE L none 0 L ∧ Below w.heap.size w wr) (fun i _ => n - (intOf i).toNat)
  case atStart => exact ⟨0, Nat.zero_le _, rfl, rfl, Below.refl _ _⟩
  case round =>
    obtain ⟨k, hk, rfl, hrel, hb⟩ := hrel
    have HR := Lib.hid hrel; clear hrel
    have HB := Lib.hid hb; clear hb
    obtain ⟨wo, rfl⟩ : ∃ wo, wo = wr := ⟨_, rfl⟩
    by_cases hlt : k < n
    · have hx : k < L.length := by rw [HX.out]; exact hlt
      have HD := Lib.hid (drop_cons hx)
      have HP := Lib.hid (prevE_succ hx)
      have HXL := Lib.hid (HL.out L[k] (List.getElem_mem hx))
      by_cases hk0 : k = 0
      · subst hk0
        obtain ⟨ad, A3, c3, A4, c4, rfl, k0, k1, k2, k3, k4, hr, hr'⟩ := rowsE_at (H.out.below HB.out) hx
        rw [show prevE L 0 = none from rfl] at HR
        generalize L[0] = x at *
        obtain ⟨t, m, p, l, l'⟩ := x
        simp only at k0 k1 k2 k3 k4 hr hr'
        have e0 : ad.add (0 * 5) = ad := by simp [Addr.add]
        rw [e0] at k0 k1 k2 k3 k4
        clear e0
        have HRD := Lib.hid hr; clear hr
        have HRD' := Lib.hid hr'; clear hr'
        have HW : Hid (Below wo.heap.size wo (wo.alloc (.cells #[.int .i64 t, .int .i64 m, .int .i64 p, .slice A3 l.length c3, .slice A4 l'.length c4] 51))) := Lib.hid ((Below.refl _ _).alloc (Nat.le_refl _) _)
        have HZ : Hid (∀ W, Below (wo.alloc (.cells #[.int .i64 t, .int .i64 m, .int .i64 p, .slice A3 l.length c3, .slice A4 l'.length c4] 51)).heap.size (wo.alloc (.cells #[.int .i64 t, .int .i64 m, .int .i64 p, .slice A3 l.length c3, .slice A4 l'.length c4] 51)) W → Below w.heap.size w W) := Lib.hid (fun W hW => HB.out.trans ((HW.out.trans (hW.mono (by simp))).mono HB.out.size))
        have CT := Lib.hid (fun V : InB (wo.alloc (.cells #[.int .i64 t, .int .i64 m, .int .i64 p, .slice A3 l.length c3, .slice A4 l'.length c4] 51)) => lgEntry_any t m p A3 A4 c3 c4 l l' V.1 (by have := HXL.out; unfold lenE at this; exact this.1) (by have := HXL.out; unfold lenE at this; exact this.2) (HRD.out.below (HW.out.trans (V.2.mono (by simp)))) (HRD'.out.below (HW.out.trans (V.2.mono (by simp)))))
        have CF := Lib.hid (fun V : InB (wo.alloc (.cells #[.int .i64 t, .int .i64 m, .int .i64 p, .slice A3 l.length c3, .slice A4 l'.length c4] 51)) => lgFind_any (some ad) n c L m p V.1 hn (H.out.below (HZ.out _ V.2)))
        have s0 := fun V : InB (wo.alloc (.cells #[.int .i64 t, .int .i64 m, .int .i64 p, .slice A3 l.length c3, .slice A4 l'.length c4] 51)) => V.cell (p := ⟨wo.heap.size, 0, none⟩) (u := .int .i64 t) (by simp)
        have s1 := fun V : InB (wo.alloc (.cells #[.int .i64 t, .int .i64 m, .int .i64 p, .slice A3 l.length c3, .slice A4 l'.length c4] 51)) => V.cell (p := ⟨wo.heap.size, 1, none⟩) (u := .int .i64 m) (by simp)
        have s2 := fun V : InB (wo.alloc (.cells #[.int .i64 t, .int .i64 m, .int .i64 p, .slice A3 l.length c3, .slice A4 l'.length c4] 51)) => V.cell (p := ⟨wo.heap.size, 2, none⟩) (u := .int .i64 p) (by simp)
        have s3 := fun V : InB (wo.alloc (.cells #[.int .i64 t, .int .i64 m, .int .i64 p, .slice A3 l.length c3, .slice A4 l'.length c4] 51)) => V.cell (p := ⟨wo.heap.size, 3, none⟩) (u := .slice A3 l.length c3) (by simp)
        have s4 := fun V : InB (wo.alloc (.cells #[.int .i64 t, .int .i64 m, .int .i64 p, .slice A3 l.length c3, .slice A4 l'.length c4] 51)) => V.cell (p := ⟨wo.heap.size, 4, none⟩) (u := .slice A4 l'.length c4) (by simp)
        have hlt' : (0 : Int) < (n : Int) := by omega
        have hw2 : decide ((0 : Int) < 0) = false := by decide
        cases ht : entB (t, m, p, l, l') with
        | false =>
          simp only [ht] at CT
          have HF : Hid (goE L none 0 L = false) := Lib.hid (by rw [← HR.out, HD.out]; simp [goE, okE, ht])
          go_wp2
          clear k0 k1 k2 k3 k4
          generalize hws : (wo.alloc (.cells #[.int .i64 t, .int .i64 m, .int .i64 p, .slice A3 l.length c3, .slice A4 l'.length c4] 51)) = ws at *
          refine wp_region_below ws (by kernel_rfl) (by kernel_rfl) (by first | assumption | exact Below.refl _ _) ?_
          repeat (go_big_quiet_step ((first | (go_at_call 95; exact bel_of (CT.out _)) | (go_at_call 75; exact bel_of (CF.out _)))))
          refine wpQuiet_nil ?_
          intro _ hw'
          obtain ⟨⟨wb, hB⟩, rfl⟩ := hw'
          try simp only at hB ⊢
          all_goals
            clear hw2
            go_wp2
            go_ret
            exact ⟨ret_bool (by unfold goodE; rw [HF.out]; rfl), HZ.out _ hB⟩
        | true =>
          simp only [ht] at CT
          obtain ⟨fi, hfi⟩ : ∃ fi, fi = idxP (isE m p) L 0 := ⟨_, rfl⟩
          rw [← hfi] at CF
          have HFI := Lib.hid hfi
          clear hfi
          by_cases hf : fi = (0 : Int)
          · have hne : (fi != (0 : Int)) = false := by simp [hf]
            have hne2 : (fi == (0 : Int)) = true := by simp [hf]
            have HFF := Lib.hid hf
            clear hf
            have HT : Hid (goE L none 0 L = goE L (prevE L (1)) (1) (L.drop (1))) := Lib.hid (by rw [HP.out, ← HR.out, HD.out]; simp [goE, okE, ht, HFF.out, ← HFI.out])
            go_wp2
            clear k0 k1 k2 k3 k4
            generalize hws : (wo.alloc (.cells #[.int .i64 t, .int .i64 m, .int .i64 p, .slice A3 l.length c3, .slice A4 l'.length c4] 51)) = ws at *
            refine wp_region_below ws (by kernel_rfl) (by kernel_rfl) (by first | assumption | exact Below.refl _ _) ?_
            repeat (go_big_quiet_step ((first | (go_at_call 95; exact bel_of (CT.out _)) | (go_at_call 75; exact bel_of (CF.out _)))))
            refine wpQuiet_nil ?_
            intro _ hw'
            obtain ⟨⟨wb, hB⟩, rfl⟩ := hw'
            try simp only at hB ⊢
            all_goals
              clear hw2
              go_wp2
              go_roundw
              case rel => exact ⟨1, by omega, by go_num, HT.out.symm, HZ.out _ hB⟩
              case measure => simp [intOf]; omega
          · have hne : (fi != (0 : Int)) = true := by simpa using hf
            have hne2 : (fi == (0 : Int)) = false := by simpa using hf
            have HFF := Lib.hid hf
            clear hf
            have HF : Hid (goE L none 0 L = false) := Lib.hid (by rw [← HR.out, HD.out]; simp [goE, okE, ht, HFF.out, ← HFI.out])
            go_wp2
            clear k0 k1 k2 k3 k4
            generalize hws : (wo.alloc (.cells #[.int .i64 t, .int .i64 m, .int .i64 p, .slice A3 l.length c3, .slice A4 l'.length c4] 51)) = ws at *
            refine wp_region_below ws (by kernel_rfl) (by kernel_rfl) (by first | assumption | exact Below.refl _ _) ?_
            repeat (go_big_quiet_step ((first | (go_at_call 95; exact bel_of (CT.out _)) | (go_at_call 75; exact bel_of (CF.out _)))))
            refine wpQuiet_nil ?_
            intro _ hw'
            obtain ⟨⟨wb, hB⟩, rfl⟩ := hw'
            try simp only at hB ⊢
            all_goals
              clear hw2
              go_wp2
              go_ret
              exact ⟨ret_bool (by unfold goodE; rw [HF.out]; rfl), HZ.out _ hB⟩
      · obtain ⟨j, rfl⟩ : ∃ j, k = j + 1 := ⟨k - 1, by omega⟩
        have hxj : j < L.length := by omega
        obtain ⟨ad, A3, c3, A4, c4, rfl, k0, k1, k2, k3, k4, hr, hr'⟩ := rowsE_at (H.out.below HB.out) hx
        obtain ⟨ad', _, _, _, _, e', j0, _⟩ := rowsE_at (H.out.below HB.out) hxj
        injection e' with e'
        subst e'
        have HPJ := Lib.hid (prevE_succ hxj)
        generalize L[j + 1] = x at *
        generalize L[j] = x' at *
        obtain ⟨t, m, p, l, l'⟩ := x
        obtain ⟨y, ym, yp, yl, yl'⟩ := x'
        simp only at k0 k1 k2 k3 k4 hr hr' j0 HPJ
        have HRD := Lib.hid hr; clear hr
        have HRD' := Lib.hid hr'; clear hr'
        have HW : Hid (Below wo.heap.size wo (wo.alloc (.cells #[.int .i64 t, .int .i64 m, .int .i64 p, .slice A3 l.length c3, .slice A4 l'.length c4] 51))) := Lib.hid ((Below.refl _ _).alloc (Nat.le_refl _) _)
        have HZ : Hid (∀ W, Below (wo.alloc (.cells #[.int .i64 t, .int .i64 m, .int .i64 p, .slice A3 l.length c3, .slice A4 l'.length c4] 51)).heap.size (wo.alloc (.cells #[.int .i64 t, .int .i64 m, .int .i64 p, .slice A3 l.length c3, .slice A4 l'.length c4] 51)) W → Below w.heap.size w W) := Lib.hid (fun W hW => HB.out.trans ((HW.out.trans (hW.mono (by simp))).mono HB.out.size))
        have CT := Lib.hid (fun V : InB (wo.alloc (.cells #[.int .i64 t, .int .i64 m, .int .i64 p, .slice A3 l.length c3, .slice A4 l'.length c4] 51)) => lgEntry_any t m p A3 A4 c3 c4 l l' V.1 (by have := HXL.out; unfold lenE at this; exact this.1) (by have := HXL.out; unfold lenE at this; exact this.2) (HRD.out.below (HW.out.trans (V.2.mono (by simp)))) (HRD'.out.below (HW.out.trans (V.2.mono (by simp)))))
        have CF := Lib.hid (fun V : InB (wo.alloc (.cells #[.int .i64 t, .int .i64 m, .int .i64 p, .slice A3 l.length c3, .slice A4 l'.length c4] 51)) => lgFind_any (some ad) n c L m p V.1 hn (H.out.below (HZ.out _ V.2)))
        have s0 := fun V : InB (wo.alloc (.cells #[.int .i64 t, .int .i64 m, .int .i64 p, .slice A3 l.length c3, .slice A4 l'.length c4] 51)) => V.cell (p := ⟨wo.heap.size, 0, none⟩) (u := .int .i64 t) (by simp)
        have s1 := fun V : InB (wo.alloc (.cells #[.int .i64 t, .int .i64 m, .int .i64 p, .slice A3 l.length c3, .slice A4 l'.length c4] 51)) => V.cell (p := ⟨wo.heap.size, 1, none⟩) (u := .int .i64 m) (by simp)
        have s2 := fun V : InB (wo.alloc (.cells #[.int .i64 t, .int .i64 m, .int .i64 p, .slice A3 l.length c3, .slice A4 l'.length c4] 51)) => V.cell (p := ⟨wo.heap.size, 2, none⟩) (u := .int .i64 p) (by simp)
        have s3 := fun V : InB (wo.alloc (.cells #[.int .i64 t, .int .i64 m, .int .i64 p, .slice A3 l.length c3, .slice A4 l'.length c4] 51)) => V.cell (p := ⟨wo.heap.size, 3, none⟩) (u := .slice A3 l.length c3) (by simp)
        have s4 := fun V : InB (wo.alloc (.cells #[.int .i64 t, .int .i64 m, .int .i64 p, .slice A3 l.length c3, .slice A4 l'.length c4] 51)) => V.cell (p := ⟨wo.heap.size, 4, none⟩) (u := .slice A4 l'.length c4) (by simp)
        have s5 : ∀ V : InB (wo.alloc (.cells #[.int .i64 t, .int .i64 m, .int .i64 p, .slice A3 l.length c3, .slice A4 l'.length c4] 51)), V.1.cell? (ad.add (j * 5)) = some (.int .i64 y) := fun V => ((HW.out.trans (V.2.mono (by simp))).cell (World.block_lt_of_cell? wo _ j0)).trans j0
        have hw1 : IntKind.i64.wrap (j : Int) = (j : Int) := IntWalk.i64_in _ (by omega)
        have hw2 : decide ((0 : Int) < (j : Int) + 1) = true := by simp <;> omega
        have hjn : (j : Int) < (n : Int) := by omega
        have hj0 : (0 : Int) ≤ (j : Int) := by omega
        cases ht : entB (t, m, p, l, l') with
        | false =>
          simp only [ht] at CT
          have HF : Hid (goE L none 0 L = false) := Lib.hid (by rw [← HR.out, HD.out, HPJ.out]; simp [goE, okE, ht])
          go_wp2
          clear k0 k1 k2 k3 k4
          generalize hws : (wo.alloc (.cells #[.int .i64 t, .int .i64 m, .int .i64 p, .slice A3 l.length c3, .slice A4 l'.length c4] 51)) = ws at *
          refine wp_region_below ws (by kernel_rfl) (by kernel_rfl) (by first | assumption | exact Below.refl _ _) ?_
          repeat (go_big_quiet_step ((first | (go_at_call 95; exact bel_of (CT.out _)) | (go_at_call 75; exact bel_of (CF.out _)))))
          refine wpQuiet_nil ?_
          intro _ hw'
          obtain ⟨⟨wb, hB⟩, rfl⟩ := hw'
          try simp only at hB ⊢
          all_goals
            clear hw1 hw2
            go_wp2
            go_ret
            exact ⟨ret_bool (by unfold goodE; rw [HF.out]; rfl), HZ.out _ hB⟩
        | true =>
          simp only [ht] at CT
          obtain ⟨fi, hfi⟩ : ∃ fi, fi = idxP (isE m p) L 0 := ⟨_, rfl⟩
          rw [← hfi] at CF
          have HFI := Lib.hid hfi
          clear hfi
          by_cases hf : fi = ((j : Int) + 1)
          · have hne : (fi != ((j : Int) + 1)) = false := by simp [hf]
            have hne2 : (fi == ((j : Int) + 1)) = true := by simp [hf]
            have HFF := Lib.hid hf
            clear hf
            by_cases hym : y ≤ t
            · have HT : Hid (goE L none 0 L = goE L (prevE L (j + 1 + 1)) (j + 1 + 1) (L.drop (j + 1 + 1))) := Lib.hid (by rw [HP.out, ← HR.out, HD.out, HPJ.out]; simp [goE, okE, ht, HFF.out, ← HFI.out, hym])
              go_wp2
              clear k0 k1 k2 k3 k4
              generalize hws : (wo.alloc (.cells #[.int .i64 t, .int .i64 m, .int .i64 p, .slice A3 l.length c3, .slice A4 l'.length c4] 51)) = ws at *
              refine wp_region_below ws (by kernel_rfl) (by kernel_rfl) (by first | assumption | exact Below.refl _ _) ?_
              repeat (go_big_quiet_step ((first | (go_at_call 95; exact bel_of (CT.out _)) | (go_at_call 75; exact bel_of (CF.out _)))))
              refine wpQuiet_nil ?_
              intro _ hw'
              obtain ⟨⟨wb, hB⟩, rfl⟩ := hw'
              try simp only at hB ⊢
              all_goals
                clear hw1 hw2
                go_wp2
                go_roundw
                case rel => exact ⟨j + 1 + 1, by omega, by go_num, HT.out.symm, HZ.out _ hB⟩
                case measure => simp [intOf]; omega
            · have hym' : t < y := by omega
              have HF : Hid (goE L none 0 L = false) := Lib.hid (by rw [← HR.out, HD.out, HPJ.out]; simp [goE, okE, ht, HFF.out, ← HFI.out, hym])
              go_wp2
              clear k0 k1 k2 k3 k4
              generalize hws : (wo.alloc (.cells #[.int .i64 t, .int .i64 m, .int .i64 p, .slice A3 l.length c3, .slice A4 l'.length c4] 51)) = ws at *
              refine wp_region_below ws (by kernel_rfl) (by kernel_rfl) (by first | assumption | exact Below.refl _ _) ?_
              repeat (go_big_quiet_step ((first | (go_at_call 95; exact bel_of (CT.out _)) | (go_at_call 75; exact bel_of (CF.out _)))))
              refine wpQuiet_nil ?_
              intro _ hw'
              obtain ⟨⟨wb, hB⟩, rfl⟩ := hw'
              try simp only at hB ⊢
              all_goals
                clear hw1 hw2
                go_wp2
                go_ret
                exact ⟨ret_bool (by unfold goodE; rw [HF.out]; rfl), HZ.out _ hB⟩
          · have hne : (fi != ((j : Int) + 1)) = true := by simpa using hf
            have hne2 : (fi == ((j : Int) + 1)) = false := by simpa using hf
            have HFF := Lib.hid hf
            clear hf
            have HF : Hid (goE L none 0 L = false) := Lib.hid (by rw [← HR.out, HD.out, HPJ.out]; simp [goE, okE, ht, HFF.out, ← HFI.out])
            go_wp2
            clear k0 k1 k2 k3 k4
            generalize hws : (wo.alloc (.cells #[.int .i64 t, .int .i64 m, .int .i64 p, .slice A3 l.length c3, .slice A4 l'.length c4] 51)) = ws at *
            refine wp_region_below ws (by kernel_rfl) (by kernel_rfl) (by first | assumption | exact Below.refl _ _) ?_
            repeat (go_big_quiet_step ((first | (go_at_call 95; exact bel_of (CT.out _)) | (go_at_call 75; exact bel_of (CF.out _)))))
            refine wpQuiet_nil ?_
            intro _ hw'
            obtain ⟨⟨wb, hB⟩, rfl⟩ := hw'
            try simp only at hB ⊢
            all_goals
              clear hw1 hw2
              go_wp2
              go_ret
              exact ⟨ret_bool (by unfold goodE; rw [HF.out]; rfl), HZ.out _ hB⟩
    · have HE := Lib.hid (drop_end (xs := L) (k := k) (by rw [HX.out]; omega))
      go_wp2
      go_ret
      refine ⟨ret_bool ?_, HB.out⟩
      unfold goodE
      rw [← HR.out, HE.out, HX.out]
      simp [goE]
      omega

end Go.Proofs.Ytcjmlakmigfkfaa

namespace Go.Proofs.Ytcjmlakmigfkfaa
set_option linter.unusedSimpArgs false
set_option linter.unusedVariables false
open Go.RowKit

theorem rowsE_take (L : List EntryT) (k : Nat) : (rowsE L).take (k * 5) = rowsE (L.take k) := by
  induction L generalizing k with
  | nil => simp [rowsE]
  | cons x r ih =>
    cases k with
    | zero => simp [rowsE]
    | succ k =>
      have e : (k + 1) * 5 = k * 5 + 1 + 1 + 1 + 1 + 1 := by omega
      have := ih k
      simp only [rowsE, List.flatMap_cons, List.take_succ_cons, celEntry] at this ⊢
      rw [e]
      simp [this]
theorem Reads2.take' {w : World} {k n m : Nat} {A : Option Addr} {cs : List Cel} (h : Reads2 w k A n cs) (hm : m ≤ n) : Reads2 w k A m (cs.take (m * k)) := by
  obtain ⟨hs, h1, h2, h3⟩ := h
  refine ⟨hs.take (m * k), h1.take hm, by simp [h2], fun j u c hu hc => ?_⟩
  rw [List.getElem?_take] at hu hc
  split at hu
  · rename_i hj
    rw [if_pos hj] at hc
    exact h3 j u c hu hc
  · cases hu
theorem idxP_take {α : Type} {p : α → Bool} {L : List α} : ∀ {k : Nat} (i : Int) (hk : k < L.length), p L[k] = true → (0 ≤ i) → (idxP p L i = i + (k : Int) ↔ idxP p (L.take k) i < 0) := by
  induction L with
  | nil => intro k i hk; simp at hk
  | cons x r ih =>
    intro k i hk hp hi
    cases k with
    | zero =>
      simp at hp
      simp [idxP, hp]
    | succ k =>
      simp only [List.take_succ_cons, idxP]
      cases hx : p x with
      | true => simp; omega
      | false =>
        have := ih (k := k) (i + 1) (by simpa using hk) (by simpa using hp) (by omega)
        simp only [Bool.false_eq_true, if_false]
        rw [← this]
        constructor <;> intro h <;> omega
end Go.Proofs.Ytcjmlakmigfkfaa

namespace Go.Proofs.Ytcjmlakmigfkfaa
set_option linter.unusedSimpArgs false
set_option linter.unusedVariables false
open Go.RowKit


set_option maxHeartbeats 4000000 in
set_option maxRecDepth 100000 in
theorem isLog_any (A : Option Addr) (n c : Nat) (L : List EntryT) (w : World) (hn : n ≤ 1000000000) (hnc : n ≤ c) (hl : ∀ x ∈ L, lenE 1000000000 x) (h : Reads2 w 5 A n (rowsE L)) :
    Calls Try.prog 33 #[.slice A n c] w fun e w' => e = .returned (.bool (goodE L)) ∧ Below w.heap.size w w' := by
  have HX := Lib.hid (show L.length = n by have := h.len; rw [length_rowsE] at this; omega)
  have HL := Lib.hid hl
  have H := Lib.hid h
  clear h hl
  by_cases hn30 : n ≤ 30
  rotate_left
  · have HG : Hid (goodE L = false) := Lib.hid (by unfold goodE; rw [HX.out]; simp; omega)
    go_enter Try.func33, Try.ntmps33
    go_wp2
    go_ret
    exact ⟨ret_bool HG.out.symm, Below.refl _ _⟩
  go_enter Try.func33, Try.ntmps33
  go_wp2
  go_loopw [10] (fun i wr => ∃ k : Nat, k ≤ n ∧ i = .int .i64 k ∧ goE L (prevE L k) k (L.drop k) = goE L none 0 L ∧ Below w.heap.size w wr) (fun i _ => n - (intOf i).toNat)
  case atStart => exact ⟨0, Nat.zero_le _, rfl, rfl, Below.refl _ _⟩
  case round =>
    obtain ⟨k, hk, rfl, hrel, hb⟩ := hrel
    have HR := Lib.hid hrel; clear hrel
    have HB := Lib.hid hb; clear hb
    obtain ⟨wo, rfl⟩ : ∃ wo, wo = wr := ⟨_, rfl⟩
    by_cases hlt : k < n
    · have hx : k < L.length := by rw [HX.out]; exact hlt
      have HD := Lib.hid (drop_cons hx)
      have HP := Lib.hid (prevE_succ hx)
      have HXL := Lib.hid (HL.out L[k] (List.getElem_mem hx))
      have hkey := idxP_take (p := isE L[k].2.1 L[k].2.2.1) (L := L) 0 hx (by simp [isE]) (by omega)
      rw [Int.zero_add] at hkey
      have hrt := H.out.take' (m := k) (by omega)
      rw [rowsE_take] at hrt
      generalize L.take k = T at *
      have HRT := Lib.hid hrt
      have HKEY := Lib.hid hkey
      clear hrt hkey
      by_cases hk0 : k = 0
      · subst hk0
        obtain ⟨ad, A3, c3, A4, c4, rfl, k0, k1, k2, k3, k4, hr, hr'⟩ := rowsE_at (H.out.below HB.out) hx
        rw [show prevE L 0 = none from rfl] at HR
        generalize L[0] = x at *
        obtain ⟨t, m, p, l, l'⟩ := x
        simp only at k0 k1 k2 k3 k4 hr hr'
        have e0 : ad.add (0 * 5) = ad := by simp [Addr.add]
        rw [e0] at k0 k1 k2 k3 k4
        clear e0
        have HRD := Lib.hid hr; clear hr
        have HRD' := Lib.hid hr'; clear hr'
        have HW : Hid (Below wo.heap.size wo (wo.alloc (.cells #[.int .i64 t, .int .i64 m, .int .i64 p, .slice A3 l.length c3, .slice A4 l'.length c4] 51))) := Lib.hid ((Below.refl _ _).alloc (Nat.le_refl _) _)
        have HZ : Hid (∀ W, Below (wo.alloc (.cells #[.int .i64 t, .int .i64 m, .int .i64 p, .slice A3 l.length c3, .slice A4 l'.length c4] 51)).heap.size (wo.alloc (.cells #[.int .i64 t, .int .i64 m, .int .i64 p, .slice A3 l.length c3, .slice A4 l'.length c4] 51)) W → Below w.heap.size w W) := Lib.hid (fun W hW => HB.out.trans ((HW.out.trans (hW.mono (by simp))).mono HB.out.size))
        have CT := Lib.hid (fun V : InB (wo.alloc (.cells #[.int .i64 t, .int .i64 m, .int .i64 p, .slice A3 l.length c3, .slice A4 l'.length c4] 51)) => isEntry_any t m p A3 A4 c3 c4 l l' V.1 (by have := HXL.out; unfold lenE at this; exact this.1) (by have := HXL.out; unfold lenE at this; exact this.2) (HRD.out.below (HW.out.trans (V.2.mono (by simp)))) (HRD'.out.below (HW.out.trans (V.2.mono (by simp)))))
        have CF := Lib.hid (fun V : InB (wo.alloc (.cells #[.int .i64 t, .int .i64 m, .int .i64 p, .slice A3 l.length c3, .slice A4 l'.length c4] 51)) => entryIndex_any (some ad) 0 c T m p V.1 (by omega) (HRT.out.below (HZ.out _ V.2)))
        obtain ⟨fi, hfi⟩ : ∃ fi, fi = idxP (isE m p) T 0 := ⟨_, rfl⟩
        rw [← hfi] at CF
        have HFI := Lib.hid hfi
        clear hfi
        have s0 := fun V : InB (wo.alloc (.cells #[.int .i64 t, .int .i64 m, .int .i64 p, .slice A3 l.length c3, .slice A4 l'.length c4] 51)) => V.cell (p := ⟨wo.heap.size, 0, none⟩) (u := .int .i64 t) (by simp)
        have s1 := fun V : InB (wo.alloc (.cells #[.int .i64 t, .int .i64 m, .int .i64 p, .slice A3 l.length c3, .slice A4 l'.length c4] 51)) => V.cell (p := ⟨wo.heap.size, 1, none⟩) (u := .int .i64 m) (by simp)
        have s2 := fun V : InB (wo.alloc (.cells #[.int .i64 t, .int .i64 m, .int .i64 p, .slice A3 l.length c3, .slice A4 l'.length c4] 51)) => V.cell (p := ⟨wo.heap.size, 2, none⟩) (u := .int .i64 p) (by simp)
        have s3 := fun V : InB (wo.alloc (.cells #[.int .i64 t, .int .i64 m, .int .i64 p, .slice A3 l.length c3, .slice A4 l'.length c4] 51)) => V.cell (p := ⟨wo.heap.size, 3, none⟩) (u := .slice A3 l.length c3) (by simp)
        have s4 := fun V : InB (wo.alloc (.cells #[.int .i64 t, .int .i64 m, .int .i64 p, .slice A3 l.length c3, .slice A4 l'.length c4] 51)) => V.cell (p := ⟨wo.heap.size, 4, none⟩) (u := .slice A4 l'.length c4) (by simp)
        have hlt' : (0 : Int) < (n : Int) := by omega
        have hw2 : decide ((0 : Int) < 0) = false := by decide
        cases ht : entB (t, m, p, l, l') with
        | false =>
          simp only [ht] at CT
          have HF : Hid (goE L none 0 L = false) := Lib.hid (by rw [← HR.out, HD.out]; simp [goE, okE, ht])
          go_wp2
          clear k0 k1 k2 k3 k4
          generalize hws : (wo.alloc (.cells #[.int .i64 t, .int .i64 m, .int .i64 p, .slice A3 l.length c3, .slice A4 l'.length c4] 51)) = ws at *
          refine wp_region_below ws (by kernel_rfl) (by kernel_rfl) (by first | assumption | exact Below.refl _ _) ?_
          repeat (go_big_quiet_step ((first | (go_at_call 82; exact bel_of (CT.out _)) | (go_at_call 77; exact bel_of (CF.out _)))))
          refine wpQuiet_nil ?_
          intro _ hw'
          obtain ⟨⟨wb, hB⟩, rfl⟩ := hw'
          try simp only at hB ⊢
          all_goals
            clear hw2
            go_wp2
            go_ret
            exact ⟨ret_bool (by unfold goodE; rw [HF.out]; rfl), HZ.out _ hB⟩
        | true =>
          simp only [ht] at CT
          by_cases hf : fi < 0
          · have hfd : decide (0 ≤ fi) = false := by simpa using hf
            have HYK : Hid (idxP (isE m p) L 0 = (0 : Int)) := Lib.hid (HKEY.out.2 (by rw [← HFI.out]; exact hf))
            clear hf
            have HT : Hid (goE L none 0 L = goE L (prevE L (1)) (1) (L.drop (1))) := Lib.hid (by rw [HP.out, ← HR.out, HD.out]; simp [goE, okE, ht, HYK.out])
            go_wp2
            clear k0 k1 k2 k3 k4
            generalize hws : (wo.alloc (.cells #[.int .i64 t, .int .i64 m, .int .i64 p, .slice A3 l.length c3, .slice A4 l'.length c4] 51)) = ws at *
            refine wp_region_below ws (by kernel_rfl) (by kernel_rfl) (by first | assumption | exact Below.refl _ _) ?_
            repeat (go_big_quiet_step ((first | (go_at_call 82; exact bel_of (CT.out _)) | (go_at_call 77; exact bel_of (CF.out _)))))
            refine wpQuiet_nil ?_
            intro _ hw'
            obtain ⟨⟨wb, hB⟩, rfl⟩ := hw'
            try simp only at hB ⊢
            all_goals
              clear hw2
              go_wp2
              go_roundw
              case rel => exact ⟨1, by omega, by go_num, HT.out.symm, HZ.out _ hB⟩
              case measure => simp [intOf]; omega
          · have hf' : 0 ≤ fi := by omega
            have hfd : decide (0 ≤ fi) = true := by simpa using hf'
            have HNK : Hid (¬ idxP (isE m p) L 0 = (0 : Int)) := Lib.hid (fun e => hf (by rw [HFI.out]; exact HKEY.out.1 e))
            clear hf
            have HF : Hid (goE L none 0 L = false) := Lib.hid (by rw [← HR.out, HD.out]; simp [goE, okE, ht, HNK.out])
            go_wp2
            clear k0 k1 k2 k3 k4
            generalize hws : (wo.alloc (.cells #[.int .i64 t, .int .i64 m, .int .i64 p, .slice A3 l.length c3, .slice A4 l'.length c4] 51)) = ws at *
            refine wp_region_below ws (by kernel_rfl) (by kernel_rfl) (by first | assumption | exact Below.refl _ _) ?_
            repeat (go_big_quiet_step ((first | (go_at_call 82; exact bel_of (CT.out _)) | (go_at_call 77; exact bel_of (CF.out _)))))
            refine wpQuiet_nil ?_
            intro _ hw'
            obtain ⟨⟨wb, hB⟩, rfl⟩ := hw'
            try simp only at hB ⊢
            all_goals
              clear hw2
              go_wp2
              go_ret
              exact ⟨ret_bool (by unfold goodE; rw [HF.out]; rfl), HZ.out _ hB⟩
      · obtain ⟨j, rfl⟩ : ∃ j, k = j + 1 := ⟨k - 1, by omega⟩
        have hxj : j < L.length := by omega
        obtain ⟨ad, A3, c3, A4, c4, rfl, k0, k1, k2, k3, k4, hr, hr'⟩ := rowsE_at (H.out.below HB.out) hx
        obtain ⟨ad', _, _, _, _, e', j0, _⟩ := rowsE_at (H.out.below HB.out) hxj
        injection e' with e'
        subst e'
        have HPJ := Lib.hid (prevE_succ hxj)
        generalize L[j + 1] = x at *
        generalize L[j] = x' at *
        obtain ⟨t, m, p, l, l'⟩ := x
        obtain ⟨y, ym, yp, yl, yl'⟩ := x'
        simp only at k0 k1 k2 k3 k4 hr hr' j0 HPJ
        have HRD := Lib.hid hr; clear hr
        have HRD' := Lib.hid hr'; clear hr'
        have HW : Hid (Below wo.heap.size wo (wo.alloc (.cells #[.int .i64 t, .int .i64 m, .int .i64 p, .slice A3 l.length c3, .slice A4 l'.length c4] 51))) := Lib.hid ((Below.refl _ _).alloc (Nat.le_refl _) _)
        have HZ : Hid (∀ W, Below (wo.alloc (.cells #[.int .i64 t, .int .i64 m, .int .i64 p, .slice A3 l.length c3, .slice A4 l'.length c4] 51)).heap.size (wo.alloc (.cells #[.int .i64 t, .int .i64 m, .int .i64 p, .slice A3 l.length c3, .slice A4 l'.length c4] 51)) W → Below w.heap.size w W) := Lib.hid (fun W hW => HB.out.trans ((HW.out.trans (hW.mono (by simp))).mono HB.out.size))
        have CT := Lib.hid (fun V : InB (wo.alloc (.cells #[.int .i64 t, .int .i64 m, .int .i64 p, .slice A3 l.length c3, .slice A4 l'.length c4] 51)) => isEntry_any t m p A3 A4 c3 c4 l l' V.1 (by have := HXL.out; unfold lenE at this; exact this.1) (by have := HXL.out; unfold lenE at this; exact this.2) (HRD.out.below (HW.out.trans (V.2.mono (by simp)))) (HRD'.out.below (HW.out.trans (V.2.mono (by simp)))))
        have CF := Lib.hid (fun V : InB (wo.alloc (.cells #[.int .i64 t, .int .i64 m, .int .i64 p, .slice A3 l.length c3, .slice A4 l'.length c4] 51)) => entryIndex_any (some ad) (j + 1) c T m p V.1 (by omega) (HRT.out.below (HZ.out _ V.2)))
        obtain ⟨fi, hfi⟩ : ∃ fi, fi = idxP (isE m p) T 0 := ⟨_, rfl⟩
        rw [← hfi] at CF
        have HFI := Lib.hid hfi
        clear hfi
        have s0 := fun V : InB (wo.alloc (.cells #[.int .i64 t, .int .i64 m, .int .i64 p, .slice A3 l.length c3, .slice A4 l'.length c4] 51)) => V.cell (p := ⟨wo.heap.size, 0, none⟩) (u := .int .i64 t) (by simp)
        have s1 := fun V : InB (wo.alloc (.cells #[.int .i64 t, .int .i64 m, .int .i64 p, .slice A3 l.length c3, .slice A4 l'.length c4] 51)) => V.cell (p := ⟨wo.heap.size, 1, none⟩) (u := .int .i64 m) (by simp)
        have s2 := fun V : InB (wo.alloc (.cells #[.int .i64 t, .int .i64 m, .int .i64 p, .slice A3 l.length c3, .slice A4 l'.length c4] 51)) => V.cell (p := ⟨wo.heap.size, 2, none⟩) (u := .int .i64 p) (by simp)
        have s3 := fun V : InB (wo.alloc (.cells #[.int .i64 t, .int .i64 m, .int .i64 p, .slice A3 l.length c3, .slice A4 l'.length c4] 51)) => V.cell (p := ⟨wo.heap.size, 3, none⟩) (u := .slice A3 l.length c3) (by simp)
        have s4 := fun V : InB (wo.alloc (.cells #[.int .i64 t, .int .i64 m, .int .i64 p, .slice A3 l.length c3, .slice A4 l'.length c4] 51)) => V.cell (p := ⟨wo.heap.size, 4, none⟩) (u := .slice A4 l'.length c4) (by simp)
        have s5 : ∀ V : InB (wo.alloc (.cells #[.int .i64 t, .int .i64 m, .int .i64 p, .slice A3 l.length c3, .slice A4 l'.length c4] 51)), V.1.cell? (ad.add (j * 5)) = some (.int .i64 y) := fun V => ((HW.out.trans (V.2.mono (by simp))).cell (World.block_lt_of_cell? wo _ j0)).trans j0
        have hw1 : IntKind.i64.wrap (j : Int) = (j : Int) := IntWalk.i64_in _ (by omega)
        have hw2 : decide ((0 : Int) < (j : Int) + 1) = true := by simp <;> omega
        have hjn : (j : Int) < (n : Int) := by omega
        have hjc : (j : Int) + 1 ≤ (c : Int) := by omega
        have hjc0 : (0 : Int) ≤ (j : Int) + 1 := by omega
        have hj0 : (0 : Int) ≤ (j : Int) := by omega
        cases ht : entB (t, m, p, l, l') with
        | false =>
          simp only [ht] at CT
          have HF : Hid (goE L none 0 L = false) := Lib.hid (by rw [← HR.out, HD.out, HPJ.out]; simp [goE, okE, ht])
          go_wp2
          clear k0 k1 k2 k3 k4
          generalize hws : (wo.alloc (.cells #[.int .i64 t, .int .i64 m, .int .i64 p, .slice A3 l.length c3, .slice A4 l'.length c4] 51)) = ws at *
          refine wp_region_below ws (by kernel_rfl) (by kernel_rfl) (by first | assumption | exact Below.refl _ _) ?_
          repeat (go_big_quiet_step ((first | (go_at_call 82; exact bel_of (CT.out _)) | (go_at_call 77; exact bel_of (CF.out _)))))
          refine wpQuiet_nil ?_
          intro _ hw'
          obtain ⟨⟨wb, hB⟩, rfl⟩ := hw'
          try simp only at hB ⊢
          all_goals
            clear hw1 hw2
            go_wp2
            go_ret
            exact ⟨ret_bool (by unfold goodE; rw [HF.out]; rfl), HZ.out _ hB⟩
        | true =>
          simp only [ht] at CT
          by_cases hym : y ≤ t
          · have hyd : decide (t < y) = false := by simp; omega
            by_cases hf : fi < 0
            · have hfd : decide (0 ≤ fi) = false := by simpa using hf
              have HYK : Hid (idxP (isE m p) L 0 = ((j : Int) + 1)) := Lib.hid (HKEY.out.2 (by rw [← HFI.out]; exact hf))
              clear hf
              have HT : Hid (goE L none 0 L = goE L (prevE L (j + 1 + 1)) (j + 1 + 1) (L.drop (j + 1 + 1))) := Lib.hid (by rw [HP.out, ← HR.out, HD.out, HPJ.out]; simp [goE, okE, ht, HYK.out, hym])
              go_wp2
              clear k0 k1 k2 k3 k4
              generalize hws : (wo.alloc (.cells #[.int .i64 t, .int .i64 m, .int .i64 p, .slice A3 l.length c3, .slice A4 l'.length c4] 51)) = ws at *
              refine wp_region_below ws (by kernel_rfl) (by kernel_rfl) (by first | assumption | exact Below.refl _ _) ?_
              repeat (go_big_quiet_step ((first | (go_at_call 82; exact bel_of (CT.out _)) | (go_at_call 77; exact bel_of (CF.out _)))))
              refine wpQuiet_nil ?_
              intro _ hw'
              obtain ⟨⟨wb, hB⟩, rfl⟩ := hw'
              try simp only at hB ⊢
              all_goals
                clear hw1 hw2
                go_wp2
                go_roundw
                case rel => exact ⟨j + 1 + 1, by omega, by go_num, HT.out.symm, HZ.out _ hB⟩
                case measure => simp [intOf]; omega
            · have hf' : 0 ≤ fi := by omega
              have hfd : decide (0 ≤ fi) = true := by simpa using hf'
              have HNK : Hid (¬ idxP (isE m p) L 0 = ((j : Int) + 1)) := Lib.hid (fun e => hf (by rw [HFI.out]; exact HKEY.out.1 e))
              clear hf
              have HF : Hid (goE L none 0 L = false) := Lib.hid (by rw [← HR.out, HD.out, HPJ.out]; simp [goE, okE, ht, HNK.out, hym])
              go_wp2
              clear k0 k1 k2 k3 k4
              generalize hws : (wo.alloc (.cells #[.int .i64 t, .int .i64 m, .int .i64 p, .slice A3 l.length c3, .slice A4 l'.length c4] 51)) = ws at *
              refine wp_region_below ws (by kernel_rfl) (by kernel_rfl) (by first | assumption | exact Below.refl _ _) ?_
              repeat (go_big_quiet_step ((first | (go_at_call 82; exact bel_of (CT.out _)) | (go_at_call 77; exact bel_of (CF.out _)))))
              refine wpQuiet_nil ?_
              intro _ hw'
              obtain ⟨⟨wb, hB⟩, rfl⟩ := hw'
              try simp only at hB ⊢
              all_goals
                clear hw1 hw2
                go_wp2
                go_ret
                exact ⟨ret_bool (by unfold goodE; rw [HF.out]; rfl), HZ.out _ hB⟩
          · have hym' : t < y := by omega
            have hyd : decide (t < y) = true := by simp; omega
            have HF : Hid (goE L none 0 L = false) := Lib.hid (by rw [← HR.out, HD.out, HPJ.out]; simp [goE, okE, ht, hym])
            go_wp2
            clear k0 k1 k2 k3 k4
            generalize hws : (wo.alloc (.cells #[.int .i64 t, .int .i64 m, .int .i64 p, .slice A3 l.length c3, .slice A4 l'.length c4] 51)) = ws at *
            refine wp_region_below ws (by kernel_rfl) (by kernel_rfl) (by first | assumption | exact Below.refl _ _) ?_
            repeat (go_big_quiet_step ((first | (go_at_call 82; exact bel_of (CT.out _)) | (go_at_call 77; exact bel_of (CF.out _)))))
            refine wpQuiet_nil ?_
            intro _ hw'
            obtain ⟨⟨wb, hB⟩, rfl⟩ := hw'
            try simp only at hB ⊢
            all_goals
              clear hw1 hw2
              go_wp2
              go_ret
              exact ⟨ret_bool (by unfold goodE; rw [HF.out]; rfl), HZ.out _ hB⟩
    · have HE := Lib.hid (drop_end (xs := L) (k := k) (by rw [HX.out]; omega))
      go_wp2
      go_ret
      refine ⟨ret_bool ?_, HB.out⟩
      unfold goodE
      rw [← HR.out, HE.out, HX.out]
      simp [goE]
      omega

end Go.Proofs.Ytcjmlakmigfkfaa

namespace Go.Proofs.Ytcjmlakmigfkfaa
set_option linter.unusedSimpArgs false
set_option linter.unusedVariables false
open Go.RowKit

def askE (L M : List EntryT) (a b : Int) : Bool := goodE L && (goodE M && (inB a 0 60 && inB b 0 60))

set_option maxHeartbeats 1000000 in
set_option maxRecDepth 100000 in
theorem rbGood_any (A : Option Addr) (n c : Nat) (L : List EntryT) (B : Option Addr) (m d : Nat) (M : List EntryT) (a b : Int) (w : World) (hn : n ≤ 1000000000) (hl : ∀ x ∈ L, lenE 1000000000 x) (h : Reads2 w 5 A n (rowsE L)) (hm : m ≤ 1000000000) (hl' : ∀ x ∈ M, lenE 1000000000 x) (h' : Reads2 w 5 B m (rowsE M)) :
    Calls Try.prog 70 #[.slice A n c, .slice B m d, .int .i64 a, .int .i64 b] w fun e w' => e = .returned (.bool (askE L M a b)) ∧ Below w.heap.size w w' := by
  have C1 := Lib.hid (lgGood_any A n c L w hn hl h)
  have C2 := Lib.hid (fun W (hW : Below w.heap.size w W) => lgGood_any B m d M W hm hl' (h'.below hW))
  clear h h' hl hl'
  cases h1 : goodE L with
  | false =>
    simp only [h1] at C1
    go_enter Try.func70, Try.ntmps70
    go_wp2_with (first | (go_at_call_of 60 (Value.slice A n c); refine (C1.out).mono ?_; rintro e w1 ⟨rfl, hb1⟩; have HB1 := Lib.hid hb1; clear hb1) | (go_at_call_of 60 (Value.slice B m d); refine (C2.out _ HB1.out).mono ?_; rintro e w2 ⟨rfl, hb2⟩; have HB2 := Lib.hid hb2; clear hb2) | (go_at_call 84; refine (l1In_any _ _ _ _).mono ?_; rintro e w' ⟨rfl, rfl⟩))
    go_ret
    exact ⟨ret_bool (by simp [askE, h1]), HB1.out⟩
  | true =>
    cases h2 : goodE M with
    | false =>
      simp only [h1] at C1
      simp only [h2] at C2
      go_enter Try.func70, Try.ntmps70
      go_wp2_with (first | (go_at_call_of 60 (Value.slice A n c); refine (C1.out).mono ?_; rintro e w1 ⟨rfl, hb1⟩; have HB1 := Lib.hid hb1; clear hb1) | (go_at_call_of 60 (Value.slice B m d); refine (C2.out _ HB1.out).mono ?_; rintro e w2 ⟨rfl, hb2⟩; have HB2 := Lib.hid hb2; clear hb2) | (go_at_call 84; refine (l1In_any _ _ _ _).mono ?_; rintro e w' ⟨rfl, rfl⟩))
      go_ret
      exact ⟨ret_bool (by simp [askE, h2]), HB1.out.trans (HB2.out.mono HB1.out.size)⟩
    | true =>
      cases h3 : inB a 0 60 with
      | false =>
        simp only [h1] at C1
        simp only [h2] at C2
        go_enter Try.func70, Try.ntmps70
        go_wp2_with (first | (go_at_call_of 60 (Value.slice A n c); refine (C1.out).mono ?_; rintro e w1 ⟨rfl, hb1⟩; have HB1 := Lib.hid hb1; clear hb1) | (go_at_call_of 60 (Value.slice B m d); refine (C2.out _ HB1.out).mono ?_; rintro e w2 ⟨rfl, hb2⟩; have HB2 := Lib.hid hb2; clear hb2) | (go_at_call 84; refine (l1In_any _ _ _ _).mono ?_; rintro e w' ⟨rfl, rfl⟩))
        go_ret
        exact ⟨ret_bool (by simp [askE, h3]), HB1.out.trans (HB2.out.mono HB1.out.size)⟩
      | true =>
        cases h4 : inB b 0 60 with
        | false =>
          simp only [h1] at C1
          simp only [h2] at C2
          go_enter Try.func70, Try.ntmps70
          go_wp2_with (first | (go_at_call_of 60 (Value.slice A n c); refine (C1.out).mono ?_; rintro e w1 ⟨rfl, hb1⟩; have HB1 := Lib.hid hb1; clear hb1) | (go_at_call_of 60 (Value.slice B m d); refine (C2.out _ HB1.out).mono ?_; rintro e w2 ⟨rfl, hb2⟩; have HB2 := Lib.hid hb2; clear hb2) | (go_at_call 84; refine (l1In_any _ _ _ _).mono ?_; rintro e w' ⟨rfl, rfl⟩))
          go_ret
          exact ⟨ret_bool (by simp [askE, h4]), HB1.out.trans (HB2.out.mono HB1.out.size)⟩
        | true =>
          simp only [h1] at C1
          simp only [h2] at C2
          go_enter Try.func70, Try.ntmps70
          go_wp2_with (first | (go_at_call_of 60 (Value.slice A n c); refine (C1.out).mono ?_; rintro e w1 ⟨rfl, hb1⟩; have HB1 := Lib.hid hb1; clear hb1) | (go_at_call_of 60 (Value.slice B m d); refine (C2.out _ HB1.out).mono ?_; rintro e w2 ⟨rfl, hb2⟩; have HB2 := Lib.hid hb2; clear hb2) | (go_at_call 84; refine (l1In_any _ _ _ _).mono ?_; rintro e w' ⟨rfl, rfl⟩))
          go_ret
          exact ⟨ret_bool (by simp [askE, h1, h2, h3, h4]), HB1.out.trans (HB2.out.mono HB1.out.size)⟩

set_option maxHeartbeats 1000000 in
set_option maxRecDepth 100000 in
theorem gapAsked_any (A : Option Addr) (n c : Nat) (L : List EntryT) (B : Option Addr) (m d : Nat) (M : List EntryT) (a b : Int) (w : World) (hn : n ≤ 1000000000) (hl : ∀ x ∈ L, lenE 1000000000 x) (h : Reads2 w 5 A n (rowsE L)) (hc : n ≤ c) (hd : m ≤ d) (hm : m ≤ 1000000000) (hl' : ∀ x ∈ M, lenE 1000000000 x) (h' : Reads2 w 5 B m (rowsE M)) :
    Calls Try.prog 71 #[.slice A n c, .slice B m d, .int .i64 a, .int .i64 b] w fun e w' => e = .returned (.bool (askE L M a b)) ∧ Below w.heap.size w w' := by
  have C1 := Lib.hid (isLog_any A n c L w hn hc hl h)
  have C2 := Lib.hid (fun W (hW : Below w.heap.size w W) => isLog_any B m d M W hm hd hl' (h'.below hW))
  clear h h' hl hl'
  cases h1 : goodE L with
  | false =>
    simp only [h1] at C1
    go_enter Try.func71, Try.ntmps71
    go_wp2_with (first | (go_at_call_of 33 (Value.slice A n c); refine (C1.out).mono ?_; rintro e w1 ⟨rfl, hb1⟩; have HB1 := Lib.hid hb1; clear hb1) | (go_at_call_of 33 (Value.slice B m d); refine (C2.out _ HB1.out).mono ?_; rintro e w2 ⟨rfl, hb2⟩; have HB2 := Lib.hid hb2; clear hb2) | (go_at_call 83; refine (within_any _ _ _ _).mono ?_; rintro e w' ⟨rfl, rfl⟩))
    go_ret
    exact ⟨ret_bool (by simp [askE, h1]), HB1.out⟩
  | true =>
    cases h2 : goodE M with
    | false =>
      simp only [h1] at C1
      simp only [h2] at C2
      go_enter Try.func71, Try.ntmps71
      go_wp2_with (first | (go_at_call_of 33 (Value.slice A n c); refine (C1.out).mono ?_; rintro e w1 ⟨rfl, hb1⟩; have HB1 := Lib.hid hb1; clear hb1) | (go_at_call_of 33 (Value.slice B m d); refine (C2.out _ HB1.out).mono ?_; rintro e w2 ⟨rfl, hb2⟩; have HB2 := Lib.hid hb2; clear hb2) | (go_at_call 83; refine (within_any _ _ _ _).mono ?_; rintro e w' ⟨rfl, rfl⟩))
      go_ret
      exact ⟨ret_bool (by simp [askE, h2]), HB1.out.trans (HB2.out.mono HB1.out.size)⟩
    | true =>
      cases h3 : inB a 0 60 with
      | false =>
        simp only [h1] at C1
        simp only [h2] at C2
        go_enter Try.func71, Try.ntmps71
        go_wp2_with (first | (go_at_call_of 33 (Value.slice A n c); refine (C1.out).mono ?_; rintro e w1 ⟨rfl, hb1⟩; have HB1 := Lib.hid hb1; clear hb1) | (go_at_call_of 33 (Value.slice B m d); refine (C2.out _ HB1.out).mono ?_; rintro e w2 ⟨rfl, hb2⟩; have HB2 := Lib.hid hb2; clear hb2) | (go_at_call 83; refine (within_any _ _ _ _).mono ?_; rintro e w' ⟨rfl, rfl⟩))
        go_ret
        exact ⟨ret_bool (by simp [askE, h3]), HB1.out.trans (HB2.out.mono HB1.out.size)⟩
      | true =>
        cases h4 : inB b 0 60 with
        | false =>
          simp only [h1] at C1
          simp only [h2] at C2
          go_enter Try.func71, Try.ntmps71
          go_wp2_with (first | (go_at_call_of 33 (Value.slice A n c); refine (C1.out).mono ?_; rintro e w1 ⟨rfl, hb1⟩; have HB1 := Lib.hid hb1; clear hb1) | (go_at_call_of 33 (Value.slice B m d); refine (C2.out _ HB1.out).mono ?_; rintro e w2 ⟨rfl, hb2⟩; have HB2 := Lib.hid hb2; clear hb2) | (go_at_call 83; refine (within_any _ _ _ _).mono ?_; rintro e w' ⟨rfl, rfl⟩))
          go_ret
          exact ⟨ret_bool (by simp [askE, h4]), HB1.out.trans (HB2.out.mono HB1.out.size)⟩
        | true =>
          simp only [h1] at C1
          simp only [h2] at C2
          go_enter Try.func71, Try.ntmps71
          go_wp2_with (first | (go_at_call_of 33 (Value.slice A n c); refine (C1.out).mono ?_; rintro e w1 ⟨rfl, hb1⟩; have HB1 := Lib.hid hb1; clear hb1) | (go_at_call_of 33 (Value.slice B m d); refine (C2.out _ HB1.out).mono ?_; rintro e w2 ⟨rfl, hb2⟩; have HB2 := Lib.hid hb2; clear hb2) | (go_at_call 83; refine (within_any _ _ _ _).mono ?_; rintro e w' ⟨rfl, rfl⟩))
          go_ret
          exact ⟨ret_bool (by simp [askE, h1, h2, h3, h4]), HB1.out.trans (HB2.out.mono HB1.out.size)⟩

end Go.Proofs.Ytcjmlakmigfkfaa

namespace Go.Proofs.Ytcjmlakmigfkfaa
set_option linter.unusedSimpArgs false
set_option linter.unusedVariables false
open Go.RowKit

abbrev G4T := Int × Int × Int × Int
def zE : EntryT := (0, 0, 0, [], [])
/-- The index of the entry of M with the message and the part of x, or -1. -/
def findE (M : List EntryT) (x : EntryT) : Int := idxP (isE x.2.1 x.2.2.1) M 0
/-- The indices of the entries that belong together. -/
def ixE (M : List EntryT) : Nat → List EntryT → List (Nat × Nat)
  | _, [] => []
  | i, x :: r => if findE M x < 0 then ixE M (i + 1) r else (i, (findE M x).toNat) :: ixE M (i + 1) r
/-- The entries that belong together. -/
def togE (M : List EntryT) : List EntryT → List (EntryT × EntryT)
  | [] => []
  | x :: r => if findE M x < 0 then togE M r else (x, M.getD (findE M x).toNat zE) :: togE M r
def gapOf (a b : Int) (p : EntryT × EntryT) : G4T := (p.1.2.1, p.1.2.2.1, p.1.1 + a, p.2.1 - b)
def gapsE (M : List EntryT) (a b : Int) (L : List EntryT) : List G4T := (togE M L).map (gapOf a b)
def ixL (l : List (Nat × Nat)) : List (List Int) := l.map fun p => [(p.1 : Int), (p.2 : Int)]
theorem idxP_bd {α : Type} {p : α → Bool} {L : List α} : ∀ (i : Int), 0 ≤ i → ((idxP p L i = -1) ∨ ∃ k : Nat, idxP p L i = i + (k : Int) ∧ ∃ h : k < L.length, p L[k] = true) := by
  induction L with
  | nil => intro i _; exact .inl rfl
  | cons x r ih =>
    intro i hi
    by_cases hx : p x = true
    · exact .inr ⟨0, by simp [idxP, hx], by simp, by simpa using hx⟩
    · rcases ih (i + 1) (by omega) with h | ⟨k, h, hk, hp⟩
      · exact .inl (by simp [idxP, hx, h])
      · exact .inr ⟨k + 1, by simp [idxP, hx, h]; omega, by simp; omega, by simpa using hp⟩
theorem findE_cases (M : List EntryT) (x : EntryT) : findE M x = -1 ∨ ∃ k : Nat, findE M x = (k : Int) ∧ k < M.length := by
  rcases idxP_bd (p := isE x.2.1 x.2.2.1) (L := M) 0 (Int.le_refl _) with h | ⟨k, h, hk, _⟩
  · exact .inl h
  · exact .inr ⟨k, by unfold findE; rw [h]; simp, hk⟩
theorem ixE_bd {M : List EntryT} {L : List EntryT} : ∀ {i : Nat}, ∀ p ∈ ixE M i L, p.1 < i + L.length ∧ p.2 < M.length := by
  induction L with
  | nil => intro i p hp; simp [ixE] at hp
  | cons x r ih =>
    intro i p hp
    unfold ixE at hp
    rcases findE_cases M x with h | ⟨k, h, hk⟩
    · rw [h, if_pos (by omega)] at hp
      have := ih p hp
      simp only [List.length_cons]
      omega
    · rw [h, if_neg (by omega)] at hp
      rcases List.mem_cons.1 hp with rfl | hp
      · simp; exact hk
      · have := ih p hp
        simp only [List.length_cons]
        omega
theorem togE_ix {M L : List EntryT} : ∀ i, togE M (L.drop i) = (ixE M i (L.drop i)).map fun p => (L.getD p.1 zE, M.getD p.2 zE) := by
  intro i
  by_cases hi : i < L.length
  · have hd := List.drop_eq_getElem_cons hi
    have ih := togE_ix (M := M) (L := L) (i + 1)
    rw [hd]
    unfold togE ixE
    by_cases hf : findE M L[i] < 0
    · rw [if_pos hf, if_pos hf, ih]
    · rw [if_neg hf, if_neg hf, List.map_cons, ih]
      simp [List.getD, List.getElem?_eq_getElem hi]
  · rw [List.drop_eq_nil_of_le (by omega)]; rfl
termination_by i => L.length - i
theorem togE_ix0 (M L : List EntryT) : togE M L = (ixE M 0 L).map fun p => (L.getD p.1 zE, M.getD p.2 zE) := by simpa using togE_ix (M := M) (L := L) 0
theorem length_togE (M L : List EntryT) : (togE M L).length = (ixE M 0 L).length := by rw [togE_ix0]; simp
theorem ixE_len {M L : List EntryT} : ∀ {i : Nat}, (ixE M i L).length ≤ L.length := by
  induction L with
  | nil => intro i; simp [ixE]
  | cons x r ih =>
    intro i
    unfold ixE
    have := ih (i := i + 1)
    split <;> simp <;> omega
theorem togE_len (M L : List EntryT) : (togE M L).length ≤ L.length := by rw [length_togE]; exact ixE_len
theorem togE_mem {M L : List EntryT} : ∀ p ∈ togE M L, p.1 ∈ L ∧ p.2 ∈ M := by
  induction L with
  | nil => intro p hp; simp [togE] at hp
  | cons x r ih =>
    intro p hp
    unfold togE at hp
    rcases findE_cases M x with h | ⟨k, h, hk⟩
    · rw [h, if_pos (by omega)] at hp
      exact ⟨List.mem_cons_of_mem _ (ih p hp).1, (ih p hp).2⟩
    · rw [h, if_neg (by omega)] at hp
      rcases List.mem_cons.1 hp with rfl | hp
      · refine ⟨List.mem_cons_self, ?_⟩
        simp [List.getD, List.getElem?_eq_getElem hk]
      · exact ⟨List.mem_cons_of_mem _ (ih p hp).1, (ih p hp).2⟩
theorem goE_all {W L : List EntryT} : ∀ {pv : Option Int} {i : Nat}, goE W pv i L = true → ∀ x ∈ L, entB x = true := by
  induction L with
  | nil => intro _ _ _ x hx; cases hx
  | cons y r ih =>
    intro pv i h x hx
    unfold goE at h
    by_cases ho : okE W pv i y = true
    · rw [if_pos ho] at h
      rcases List.mem_cons.1 hx with rfl | hx
      · unfold okE at ho
        simp only [Bool.and_eq_true] at ho
        exact ho.1
      · exact ih h x hx
    · rw [if_neg ho] at h; cases h
theorem goodE_all {L : List EntryT} (h : goodE L = true) : (∀ x ∈ L, entB x = true) ∧ L.length ≤ 30 := by
  unfold goodE at h
  simp only [Bool.and_eq_true, decide_eq_true_eq] at h
  exact ⟨goE_all h.1, h.2⟩
theorem entB_time {x : EntryT} (h : entB x = true) : 0 ≤ x.1 ∧ x.1 ≤ 10000 := by
  unfold entB at h
  simp only [Bool.and_eq_true] at h
  exact inB_true.1 h.1
end Go.Proofs.Ytcjmlakmigfkfaa
