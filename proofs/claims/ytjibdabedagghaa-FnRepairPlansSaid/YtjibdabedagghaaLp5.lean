/- The reference's least cost of plans. No conditions. -/
import Derived.Test.YtjibdabedagghaaLp4
import Derived.Test.YtjibdabedagghaaFirst
import Derived.Test.YtjibdabedagghaaOwnP
namespace Go.Proofs.Ytjibdabedagghaa
set_option linter.unusedSimpArgs false
set_option linter.unusedVariables false
open Go.RowKit

theorem wears0 : ∀ l : List G4, wearsOf l (List.replicate l.length (-1)) 0 = l.map (·.1) := by
  intro l
  induction l with
  | nil => rfl
  | cons g r ih =>
    have e : List.replicate (g :: r).length (-1 : Int) = -1 :: List.replicate r.length (-1) := rfl
    rw [e]
    simp [wearsOf, wearOf, ih]
def leastB (l : List G4) (D trip : Int) : Bool := goodGears l && decide (l.length ≤ 3) && inB D 0 10 && inB trip 0 1000
def leastR (l : List G4) (D trip : Int) : Int × Bool := if leastB l D trip = true then (leastW l trip D.toNat (l.map (·.1)), true) else (0, false)
theorem goodG_of {l : List G4} (h : goodGears l = true) : goodG l := fun g hg => gearB_true.1 ((goodGears_true.1 h).1 g hg)
/-- The rows of the table as they are made. -/
structure Making (lo g : Nat) (K : Option Addr) (k kc : Nat) (bs : List Nat) (w : World) : Prop where
  own : w.ownsRow lo 38 1 (.slice K k kc) k (hdrs bs)
  rows : ∀ b ∈ bs, RowAt w b (List.replicate 1728 0)
  inj : InjL bs
  gK : ∀ ad, K = some ad → ad.block ∉ bs
  gg : g ∉ bs
  gl : g < w.heap.size
  gKg : ∀ ad, K = some ad → ad.block ≠ g
  low : ∀ b ∈ bs, lo ≤ b
theorem infoSlc : (Try.prog.info? 38).map (fun i => (i.zero, i.size, i.bytes)) = some (some (.slice none 0 0), 1, 24) := by kernel_rfl
section
variable {lo g k kc d2 : Nat} {K A2 : Option Addr} {bs : List Nat} {w wz : World} {u : Value} {C1 : Obj}
theorem ownBlock_some (ad : Addr) (n c : Nat) (q : Nat) (h : (Value.slice (some ad) n c).ownBlock = some q) : q = ad.block := by
  simp [Value.ownBlock] at h
  exact h.symm
theorem ownBlock_of {base n c k : Nat} {e : TypeId} {A : Option Addr} {xs : List Value} (h : w.ownsRow base e k (.slice A n c) n xs) (q : Nat) (hq : (Value.slice A n c).ownBlock = some q) : ∃ ad, A = some ad ∧ ad.block = q := by
  cases A with
  | none => simp [Value.ownBlock] at hq
  | some ad => exact ⟨ad, rfl, (ownBlock_some ad n c q hq).symm⟩
theorem ownBlock_to (ad : Addr) (n c : Nat) : (Value.slice (some ad) n c).ownBlock = some ad.block := by
  simp [Value.ownBlock]
theorem Making.step {RZ : Array Value} (hRZ : RZ = (ints (List.replicate 1728 0)).toArray) (h : Making lo g K k kc bs w) (hlo : lo ≤ w.heap.size)
    (hg : ((w.alloc (.cells RZ 3)).alloc C1).drew.grownBy wz (Value.slice K k kc).ownBlock)
    (hown : wz.ownsRow lo 38 1 (.slice A2 (k + 1) d2) (k + 1) (hdrs bs ++ [.slice (some ⟨w.heap.size, 0, none⟩) 1728 1728]))
    (hloc : (Value.slice A2 (k + 1) d2).ownBlock = (Value.slice K k kc).ownBlock ∨ (Value.slice A2 (k + 1) d2).ownBlock = some (w.heap.size + 2)) : Making lo g A2 (k + 1) d2 (bs ++ [w.heap.size]) (wz.setCell ⟨g, 3, none⟩ u) := by
  have hsz := hg.size
  have hs2 : ((w.alloc (.cells RZ 3)).alloc C1).drew.heap.size = w.heap.size + 2 := by
    show ((w.alloc _).alloc C1).heap.size = _
    simp
  rw [hs2] at hsz
  have hKl : ∀ q, (Value.slice K k kc).ownBlock = some q → q < w.heap.size ∧ q ∉ bs ∧ q ≠ g := fun q hq => by
    obtain ⟨ad, e, hb⟩ := ownBlock_of h.own q hq
    exact ⟨(h.own.lt q hq).2, by rw [← hb]; exact h.gK ad e, by rw [← hb]; exact h.gKg ad e⟩
  have hAl : ∀ ad, A2 = some ad → ad.block ∉ bs ++ [w.heap.size] ∧ ad.block ≠ g := fun ad e => by
    have hq : (Value.slice A2 (k + 1) d2).ownBlock = some ad.block := by rw [e]; exact ownBlock_to _ _ _
    rcases hloc with hl | hl
    · rw [hl] at hq
      obtain ⟨h1, h2, h3⟩ := hKl _ hq
      exact ⟨by simp; exact ⟨h2, by omega⟩, h3⟩
    · rw [hl] at hq
      injection hq with hq
      refine ⟨?_, by have := h.gl; omega⟩
      simp
      refine ⟨fun hm => ?_, by omega⟩
      have := (h.rows _ hm).lt
      omega
  have hkeep : ∀ q, q < w.heap.size → (∀ p, (Value.slice K k kc).ownBlock = some p → q ≠ p) → wz.heap[q]? = w.heap[q]? := fun q hq hne => by
    rw [hg.block q (by rw [hs2]; omega) (fun e => hne q e.symm rfl)]
    show ((w.alloc _).alloc C1).heap[q]? = _
    rw [Below.heap_alloc _ _ _ (by simp; omega), Below.heap_alloc _ _ _ (by omega)]
  refine ⟨?_, fun b hb => ?_, fun i j hi hj e => ?_, fun ad e => (hAl ad e).1, ?_, ?_, fun ad e => (hAl ad e).2, fun b hb => ?_⟩
  · have e1 : hdrs (bs ++ [w.heap.size]) = hdrs bs ++ [.slice (some ⟨w.heap.size, 0, none⟩) 1728 1728] := by simp [hdrs]
    rw [e1]
    exact row_same hown fun q hq => Below.heap_setCell _ _ _ _ (fun e => by
      obtain ⟨ad, e2, hb⟩ := ownBlock_of hown q hq
      exact (hAl ad e2).2 (hb.trans e))
  · rcases List.mem_append.1 hb with hb | hb
    · refine RowAt.far ?_ (fun e => h.gg (by rw [← e]; exact hb))
      exact (hkeep b (h.rows b hb).lt (fun p hp e => (hKl p hp).2.1 (by rw [← e]; exact hb))).trans (h.rows b hb)
    · simp at hb
      subst hb
      refine RowAt.far ?_ (by have := h.gl; omega)
      unfold RowAt
      rw [← hRZ, hg.block w.heap.size (by rw [hs2]; omega) (fun e => by have := (hKl _ e.symm).1; omega)]
      show ((w.alloc _).alloc C1).heap[w.heap.size]? = _
      rw [Below.heap_alloc _ _ _ (by simp)]
      exact heap_alloc_new w _
  · have hlt : ∀ i (hi : i < bs.length), bs[i] < w.heap.size := fun i hi => (h.rows _ (List.getElem_mem hi)).lt
    simp only [List.length_append, List.length_cons, List.length_nil] at hi hj
    by_cases h1 : i < bs.length
    · by_cases h2 : j < bs.length
      · rw [List.getElem_append_left h1, List.getElem_append_left h2] at e
        exact h.inj i j h1 h2 e
      · obtain rfl : j = bs.length := by omega
        rw [List.getElem_append_left h1] at e
        simp at e
        have := hlt i h1
        omega
    · obtain rfl : i = bs.length := by omega
      by_cases h2 : j < bs.length
      · rw [List.getElem_append_left h2] at e
        simp at e
        have := hlt j h2
        omega
      · omega
  · simp
    exact ⟨h.gg, by have := h.gl; omega⟩
  · have := h.gl
    simp [World.setCell]
    omega
  · rcases List.mem_append.1 hb with hb | hb
    · exact h.low b hb
    · simp at hb
      omega
end
theorem box4_put3L {w : World} {b : Nat} {t : TypeId} {v0 v1 v2 v3 u : Value} (h : Box4 w b t v0 v1 v2 v3) : Box4 (w.setCell ⟨b, 3, none⟩ u) b t v0 v1 v2 u := by unfold Box4 at h ⊢; simp [World.setCell, Array.getElem?_modify, h]
theorem made1728 : madeCells (Value.int .i64 0).cells 1728 = (ints (List.replicate 1728 0)).toArray := by
  apply Array.ext
  · rw [size_madeCells, List.size_toArray, length_ints, List.length_replicate]
  · intro i h1 h2
    have e : (Value.int .i64 0).cells = #[.int .i64 0] := rfl
    simp only [madeCells, e, Array.getElem_map, Array.getElem_range, List.getElem_toArray, ints, List.getElem_map, List.getElem_replicate]
    have : i % (#[Value.int .i64 0] : Array Value).size = 0 := Nat.mod_one i
    rw [this]
    rfl
theorem mk1728 (w : World) : (Instr.makeSlice 38 (.int .i64 1728) (.int .i64 1728)).run Try.prog w = .ok (.slice (some ⟨w.heap.size, 0, none⟩) 1728 1728) (w.alloc (.cells (ints (List.replicate 1728 0)).toArray 3)) := by
  obtain ⟨i, hi, hz, hsz, hbs⟩ := info_parts (P := Try.prog) (e := 3) infoInt
  have h := run_make (P := Try.prog) w 38 3 i (.int .i64 0) Try.underlying38 hi hz .i64 .i64 1728 1728 (by omega) (by omega) (by rw [hbs]; omega) (by omega)
  rw [hsz] at h
  rw [← made1728]
  exact h

set_option maxHeartbeats 4000000 in
set_option maxRecDepth 100000 in
theorem specLeast_yes (A : Option Addr) (n c : Nat) (D : Nat) (trip : Int) (l : List G4) (w : World) (hn : n ≤ 3) (hD : D ≤ 10) (htr : 0 ≤ trip ∧ trip ≤ 1000) (hg : goodGears l = true) (h : Reads w 4 A n (rows4 l)) :
    Calls Try.prog 41 #[.slice A n c, .int .i64 D, .int .i64 trip] w fun e w' => e = .returned (.tuple #[.int .i64 (leastW l trip D (l.map (·.1))), .bool true]) ∧ Below w.heap.size w w' := by
  have hlx : l.length = n := by have := h.1; rw [length_rows4] at this; omega
  have CG := fun (W : World) (hW : Below w.heap.size w W) => rrGood_any A n c l W (by omega) (h.below hW)
  simp only [hg] at CG
  have HCG := Lib.hid CG
  have H := Lib.hid h; have HX := Lib.hid hlx; have HG := Lib.hid hg
  have h2 : inB (D : Int) 0 10 = true := inB_true.2 ⟨by omega, by omega⟩
  have h3 : inB trip 0 1000 = true := inB_true.2 htr
  have hn3 : ¬ (3 < (n : Int)) := by omega
  clear h hlx hg CG
  go_enter Try.func41, Try.ntmps41
  go_wp2_with (first | (go_at_call 63; refine (HCG.out _ (Below.refl _ _)).mono ?_; rintro e w1 ⟨rfl, hb⟩; have HB := Lib.hid hb; clear hb) | (go_at_call 68; refine (l1In_any _ _ _ _).mono ?_; rintro e w' ⟨rfl, rfl⟩))
  have HB1 := HB
  have HBN : Hid (Below w.heap.size w (w1.alloc (.cells #[.slice A n c, .int .i64 D, .int .i64 trip, .slice none 0 0] 93))) := Lib.hid (HB.out.alloc HB.out.size _)
  have HBX := Lib.hid (Box4.new w1 93 (.slice A n c) (.int .i64 D) (.int .i64 trip) (.slice none 0 0))
  go_loopw [9] (fun i wr => ∃ k : Nat, ∃ K kc bs, k ≤ D + 1 ∧ i = .int .i64 k ∧ List.length bs = k ∧ Making w.heap.size w1.heap.size K k kc bs wr ∧ TabAt wr w1.heap.size A n c D trip K k kc ∧ Below w.heap.size w wr) (fun i _ => D + 1 - (intOf i).toNat)
  case atStart => exact ⟨0, none, 0, [], Nat.zero_le _, rfl, rfl, ⟨World.ownsRow_nil _ _ _ _, by simp, fun i j hi => by simp at hi, by simp, by simp, by simp, by simp, by simp⟩, HBX.out, HBN.out⟩
  case round =>
    obtain ⟨k, K, kc, bs, hk, rfl, hbl, hm, hbx, hb⟩ := hrel
    have HM := Lib.hid hm; have HBX := Lib.hid hbx; have HB := Lib.hid hb; have HBL := Lib.hid hbl
    clear hm hbx hb hbl
    by_cases hlt : k ≤ D
    · obtain ⟨t0, t1, t2, t3⟩ := HBX.out.cells
      go_wp2
      obtain ⟨RZ, hRZ⟩ : ∃ RZ, RZ = (ints (List.replicate 1728 0)).toArray := ⟨_, rfl⟩
      have hmk := mk1728
      rw [← hRZ] at hmk
      have HRZ := Lib.hid hRZ
      clear hRZ
      have HBA : Hid (Below w.heap.size wr (wr.alloc (.cells RZ 3))) := Lib.hid ((Below.refl _ _).alloc HB.out.size _)
      have HBA2 : Hid (Below wr.heap.size wr ((wr.alloc (.cells RZ 3)).alloc (.cells #[.slice (some ⟨wr.heap.size, 0, none⟩) 1728 1728] 38)).drew) := Lib.hid ((((Below.refl _ _).alloc (Nat.le_refl _) _).alloc (by simp) _).drew)
      have HOWN : Hid (((wr.alloc (.cells RZ 3)).alloc (.cells #[.slice (some ⟨wr.heap.size, 0, none⟩) 1728 1728] 38)).drew.ownsRow w.heap.size 38 1 (.slice K k kc) k (hdrs bs)) := Lib.hid (own_below HM.out.own HBA2.out)
      have HRD : Hid (Reads ((wr.alloc (.cells RZ 3)).alloc (.cells #[.slice (some ⟨wr.heap.size, 0, none⟩) 1728 1728] 38)).drew 1 (some ⟨wr.heap.size + 1, 0, none⟩) 1 [.slice (some ⟨wr.heap.size, 0, none⟩) 1728 1728]) := Lib.hid (by
        have h9 := reads_litk (wr.alloc (.cells RZ 3)) [.slice (some ⟨wr.heap.size, 0, none⟩) 1728 1728] 38 (n := 1) (k := 1) rfl
        rw [World.size_alloc] at h9
        exact h9)
      have HBASE : Hid (w.heap.size ≤ ((wr.alloc (.cells RZ 3)).alloc (.cells #[.slice (some ⟨wr.heap.size, 0, none⟩) 1728 1728] 38)).drew.heap.size) := Lib.hid (Nat.le_trans HB.out.size HBA2.out.size)
      have HGL := Lib.hid HM.out.gl
      have HBX2 := Lib.hid (HBX.out.below HBA2.out HGL.out)
      have HL2 : Hid (w1.heap.size < ((wr.alloc (.cells RZ 3)).alloc (.cells #[.slice (some ⟨wr.heap.size, 0, none⟩) 1728 1728] 38)).drew.heap.size) := Lib.hid (Nat.lt_of_lt_of_le HGL.out HBA2.out.size)
      have HNE : Hid (some w1.heap.size ≠ (Value.slice K k kc).ownBlock) := Lib.hid (fun e => by
        obtain ⟨ad, e2, hb⟩ := ownBlock_of HM.out.own _ e.symm
        exact HM.out.gKg ad e2 hb)
      have hgl := HGL.out
      have hne1 := World.new_ne wr ⟨w1.heap.size, 3, none⟩ t3
      have c5 : (wr.alloc (.cells RZ 3)).cell? ⟨w1.heap.size, 3, none⟩ = some (.slice K k kc) := alloc_cell _ t3
      have c6 : ((wr.alloc (.cells RZ 3)).alloc (.cells #[.slice (some ⟨wr.heap.size, 0, none⟩) 1728 1728] 38)).cell? ⟨w1.heap.size, 3, none⟩ = some (.slice K k kc) := alloc_cell _ c5
      refine wp_region_any (by kernel_rfl) ?_
      try (change wpAny _ _ _ _ _ _ _ (World.drew _))
      refine wpAny_take (i := 0) (v := ?v0q1) rfl (by kernel_rfl) (by kernel_rfl) (by kernel_rfl) (fun _ _ _ h => h) (Or.inl ⟨by rfl, ?y0q1⟩) ?r0q1
      case y0q1 => (intro w; go_simp <;> with_reducible rfl)
      refine wpAny_take (i := 1) (v := ?v1q2) rfl (by kernel_rfl) (by kernel_rfl) (by kernel_rfl) (fun _ _ _ h => h) (Or.inl ⟨by rfl, ?y1q2⟩) ?r1q2
      case y1q2 => (intro w; go_simp <;> with_reducible rfl)
      refine wpAny_take (i := 2) (v := ?v2q3) rfl (by kernel_rfl) (by kernel_rfl) (by kernel_rfl) (fun _ _ _ h => h) (Or.inl ⟨by rfl, ?y2q3⟩) ?r2q3
      case y2q3 => (intro w; go_simp <;> with_reducible rfl)
      refine wpAny_take (i := 3) (v := ?v3q4) rfl (by kernel_rfl) (by kernel_rfl) (by kernel_rfl) (fun _ _ _ h => h) (Or.inl ⟨by rfl, ?y3q4⟩) ?r3q4
      case y3q4 => (intro w; go_simp <;> with_reducible rfl)
      refine wpAny_ready (rs := [4, 5]) (by kernel_rfl) (by simp) ?_
      refine AllReady.cons rfl (fun Kq hK => ?_) ?_
      · go_simp
        refine hK _ _ ?_
        clear hK Kq
        refine wpAny_ready (rs := [5]) (by kernel_rfl) (by simp) ?_
        refine AllReady.cons rfl (fun Kq hK => ?_) ?_
        · go_simp
          refine hK _ _ ?_
          clear hK Kq
          refine wpAny_ready (rs := [6]) (by kernel_rfl) (by simp) ?_
          refine AllReady.cons rfl (fun Kq hK => ?_) ?_
          · go_simp
            refine hK _ _ ?_
            clear hK Kq
            refine wpAny_ready (rs := [7]) (by kernel_rfl) (by simp) ?_
            refine AllReady.cons rfl (fun Kq hK => ?_) ?_
            · refine step_pushL _ (by rfl) (.tmp 43) (.tmp 45) 43 (by rfl) w.heap.size 38 _ 1 24 infoSlc rfl (by omega) Try.underlying43 K k kc (hdrs bs) (by rfl) HOWN.out (some ⟨wr.heap.size + 1, 0, none⟩) 1 1 [.slice (some ⟨wr.heap.size, 0, none⟩) 1728 1728] (by rfl) HRD.out (by simp [Value.oneCell']) (by omega) (by omega) HBASE.out ?_; intro A2 d2 wz hown hg hbz hloc
              have x3 : wz.cell? ⟨w1.heap.size, 3, none⟩ = some (.slice K k kc) := (World.cell?_of_block (a := ⟨w1.heap.size, 3, none⟩) (hg.block w1.heap.size HL2.out HNE.out)).trans HBX2.out.cells.2.2.2
              have f3 : wz.frozen? ⟨w1.heap.size, 3, none⟩ = false := (World.frozen?_of_block (a := ⟨w1.heap.size, 3, none⟩) (hg.block w1.heap.size HL2.out HNE.out)).trans HBX2.out.frozen.2.2.2
              refine hK _ _ ?_
              clear hK Kq
              refine wpAny_take (i := 8) (v := ?v8q5) rfl (by kernel_rfl) (by kernel_rfl) (by kernel_rfl) (fun _ _ _ h => h) (Or.inl ⟨by rfl, ?y8q5⟩) ?r8q5
              case y8q5 => (intro w; go_simp <;> with_reducible rfl)
              refine wpAny_take (i := 9) (v := ?v9q6) rfl (by kernel_rfl) (by kernel_rfl) (by kernel_rfl) (fun _ _ _ h => h) (Or.inl ⟨by rfl, ?y9q6⟩) ?r9q6
              case y9q6 => (intro w; go_simp <;> with_reducible rfl)
              refine wpAny_ready (rs := [10]) (by kernel_rfl) (by simp) ?_
              refine AllReady.cons rfl (fun Kq hK => ?_) ?_
              · go_simp
                refine hK _ _ ?_
                clear hK Kq
                refine wpAny_done (by kernel_rfl) ?_ _
                have HMN := Lib.hid (Making.step (u := .slice A2 (k + 1) d2) HRZ.out HM.out HB.out.size hg hown (by
                  rcases hloc with h | h
                  · exact .inl h
                  · exact .inr (h.trans (by show some ((wr.alloc _).alloc _).heap.size = _; simp))))
                have HBXW : Hid (TabAt wz w1.heap.size A n c D trip K k kc) := Lib.hid ((hg.block w1.heap.size HL2.out HNE.out).trans HBX2.out)
                have HBXN := Lib.hid (box4_put3L (u := .slice A2 (k + 1) d2) HBXW.out)
                have HBN2 := Lib.hid (((HB.out.trans (HBA2.out.mono HB.out.size)).trans hbz).setCell (p := ⟨w1.heap.size, 3, none⟩) HB1.out.size (.slice A2 (k + 1) d2))
                clear hown hg hbz hloc x3 f3 t0 t1 t2 t3 c5 c6 hne1 hgl hmk
                go_wp2
                go_roundw
                case rel => exact ⟨k + 1, A2, d2, bs ++ [wr.heap.size], by omega, by go_num, by simp [HBL.out], HMN.out, HBXN.out, HBN2.out⟩
                case measure => simp [intOf]; omega
              exact AllReady.nil
            exact AllReady.nil
          exact AllReady.nil
        exact AllReady.nil
      refine AllReady.cons rfl (fun Kq hK => ?_) ?_
      · go_simp
        refine hK _ _ ?_
        clear hK Kq
        refine wpAny_ready (rs := [4, 6]) (by kernel_rfl) (by simp) ?_
        refine AllReady.cons rfl (fun Kq hK => ?_) ?_
        · go_simp
          refine hK _ _ ?_
          clear hK Kq
          refine wpAny_ready (rs := [6]) (by kernel_rfl) (by simp) ?_
          refine AllReady.cons rfl (fun Kq hK => ?_) ?_
          · go_simp
            refine hK _ _ ?_
            clear hK Kq
            refine wpAny_ready (rs := [7]) (by kernel_rfl) (by simp) ?_
            refine AllReady.cons rfl (fun Kq hK => ?_) ?_
            · refine step_pushL _ (by rfl) (.tmp 43) (.tmp 45) 43 (by rfl) w.heap.size 38 _ 1 24 infoSlc rfl (by omega) Try.underlying43 K k kc (hdrs bs) (by rfl) HOWN.out (some ⟨wr.heap.size + 1, 0, none⟩) 1 1 [.slice (some ⟨wr.heap.size, 0, none⟩) 1728 1728] (by rfl) HRD.out (by simp [Value.oneCell']) (by omega) (by omega) HBASE.out ?_; intro A2 d2 wz hown hg hbz hloc
              have x3 : wz.cell? ⟨w1.heap.size, 3, none⟩ = some (.slice K k kc) := (World.cell?_of_block (a := ⟨w1.heap.size, 3, none⟩) (hg.block w1.heap.size HL2.out HNE.out)).trans HBX2.out.cells.2.2.2
              have f3 : wz.frozen? ⟨w1.heap.size, 3, none⟩ = false := (World.frozen?_of_block (a := ⟨w1.heap.size, 3, none⟩) (hg.block w1.heap.size HL2.out HNE.out)).trans HBX2.out.frozen.2.2.2
              refine hK _ _ ?_
              clear hK Kq
              refine wpAny_take (i := 8) (v := ?v8q7) rfl (by kernel_rfl) (by kernel_rfl) (by kernel_rfl) (fun _ _ _ h => h) (Or.inl ⟨by rfl, ?y8q7⟩) ?r8q7
              case y8q7 => (intro w; go_simp <;> with_reducible rfl)
              refine wpAny_take (i := 9) (v := ?v9q8) rfl (by kernel_rfl) (by kernel_rfl) (by kernel_rfl) (fun _ _ _ h => h) (Or.inl ⟨by rfl, ?y9q8⟩) ?r9q8
              case y9q8 => (intro w; go_simp <;> with_reducible rfl)
              refine wpAny_ready (rs := [10]) (by kernel_rfl) (by simp) ?_
              refine AllReady.cons rfl (fun Kq hK => ?_) ?_
              · go_simp
                refine hK _ _ ?_
                clear hK Kq
                refine wpAny_done (by kernel_rfl) ?_ _
                have HMN := Lib.hid (Making.step (u := .slice A2 (k + 1) d2) HRZ.out HM.out HB.out.size hg hown (by
                  rcases hloc with h | h
                  · exact .inl h
                  · exact .inr (h.trans (by show some ((wr.alloc _).alloc _).heap.size = _; simp))))
                have HBXW : Hid (TabAt wz w1.heap.size A n c D trip K k kc) := Lib.hid ((hg.block w1.heap.size HL2.out HNE.out).trans HBX2.out)
                have HBXN := Lib.hid (box4_put3L (u := .slice A2 (k + 1) d2) HBXW.out)
                have HBN2 := Lib.hid (((HB.out.trans (HBA2.out.mono HB.out.size)).trans hbz).setCell (p := ⟨w1.heap.size, 3, none⟩) HB1.out.size (.slice A2 (k + 1) d2))
                clear hown hg hbz hloc x3 f3 t0 t1 t2 t3 c5 c6 hne1 hgl hmk
                go_wp2
                go_roundw
                case rel => exact ⟨k + 1, A2, d2, bs ++ [wr.heap.size], by omega, by go_num, by simp [HBL.out], HMN.out, HBXN.out, HBN2.out⟩
                case measure => simp [intOf]; omega
              exact AllReady.nil
            exact AllReady.nil
          exact AllReady.nil
        refine AllReady.cons rfl (fun Kq hK => ?_) ?_
        · go_simp
          refine hK _ _ ?_
          clear hK Kq
          refine wpAny_ready (rs := [4]) (by kernel_rfl) (by simp) ?_
          refine AllReady.cons rfl (fun Kq hK => ?_) ?_
          · go_simp
            refine hK _ _ ?_
            clear hK Kq
            refine wpAny_ready (rs := [7]) (by kernel_rfl) (by simp) ?_
            refine AllReady.cons rfl (fun Kq hK => ?_) ?_
            · refine step_pushL _ (by rfl) (.tmp 43) (.tmp 45) 43 (by rfl) w.heap.size 38 _ 1 24 infoSlc rfl (by omega) Try.underlying43 K k kc (hdrs bs) (by rfl) HOWN.out (some ⟨wr.heap.size + 1, 0, none⟩) 1 1 [.slice (some ⟨wr.heap.size, 0, none⟩) 1728 1728] (by rfl) HRD.out (by simp [Value.oneCell']) (by omega) (by omega) HBASE.out ?_; intro A2 d2 wz hown hg hbz hloc
              have x3 : wz.cell? ⟨w1.heap.size, 3, none⟩ = some (.slice K k kc) := (World.cell?_of_block (a := ⟨w1.heap.size, 3, none⟩) (hg.block w1.heap.size HL2.out HNE.out)).trans HBX2.out.cells.2.2.2
              have f3 : wz.frozen? ⟨w1.heap.size, 3, none⟩ = false := (World.frozen?_of_block (a := ⟨w1.heap.size, 3, none⟩) (hg.block w1.heap.size HL2.out HNE.out)).trans HBX2.out.frozen.2.2.2
              refine hK _ _ ?_
              clear hK Kq
              refine wpAny_take (i := 8) (v := ?v8q9) rfl (by kernel_rfl) (by kernel_rfl) (by kernel_rfl) (fun _ _ _ h => h) (Or.inl ⟨by rfl, ?y8q9⟩) ?r8q9
              case y8q9 => (intro w; go_simp <;> with_reducible rfl)
              refine wpAny_take (i := 9) (v := ?v9q10) rfl (by kernel_rfl) (by kernel_rfl) (by kernel_rfl) (fun _ _ _ h => h) (Or.inl ⟨by rfl, ?y9q10⟩) ?r9q10
              case y9q10 => (intro w; go_simp <;> with_reducible rfl)
              refine wpAny_ready (rs := [10]) (by kernel_rfl) (by simp) ?_
              refine AllReady.cons rfl (fun Kq hK => ?_) ?_
              · go_simp
                refine hK _ _ ?_
                clear hK Kq
                refine wpAny_done (by kernel_rfl) ?_ _
                have HMN := Lib.hid (Making.step (u := .slice A2 (k + 1) d2) HRZ.out HM.out HB.out.size hg hown (by
                  rcases hloc with h | h
                  · exact .inl h
                  · exact .inr (h.trans (by show some ((wr.alloc _).alloc _).heap.size = _; simp))))
                have HBXW : Hid (TabAt wz w1.heap.size A n c D trip K k kc) := Lib.hid ((hg.block w1.heap.size HL2.out HNE.out).trans HBX2.out)
                have HBXN := Lib.hid (box4_put3L (u := .slice A2 (k + 1) d2) HBXW.out)
                have HBN2 := Lib.hid (((HB.out.trans (HBA2.out.mono HB.out.size)).trans hbz).setCell (p := ⟨w1.heap.size, 3, none⟩) HB1.out.size (.slice A2 (k + 1) d2))
                clear hown hg hbz hloc x3 f3 t0 t1 t2 t3 c5 c6 hne1 hgl hmk
                go_wp2
                go_roundw
                case rel => exact ⟨k + 1, A2, d2, bs ++ [wr.heap.size], by omega, by go_num, by simp [HBL.out], HMN.out, HBXN.out, HBN2.out⟩
                case measure => simp [intOf]; omega
              exact AllReady.nil
            exact AllReady.nil
          exact AllReady.nil
        exact AllReady.nil
      exact AllReady.nil
    · have hkD : k = D + 1 := by omega
      have hbx := HBX.out
      have hrw := Reads.of_own HM.out.own
      have hbl := HBL.out
      rw [hkD] at hbx hrw hbl
      have HAB : Hid (0 < n → ∀ ad, A = some ad → ad.block ∉ bs) := Lib.hid (fun h0 ad e hm => by
        obtain ⟨ad2, e2, hc⟩ := H.out.2 h0
        have hl4 := H.out.1
        rw [e] at e2
        injection e2 with e2
        subst e2
        have h1 := World.block_lt_of_cell? w _ (hc 0 _ (List.getElem?_eq_getElem (show 0 < (rows4 l).length by omega)))
        rw [add_block] at h1
        have h2 := HM.out.low _ hm
        omega)
      have HTF : Hid (TabF w1.heap.size A n D trip K l bs) := Lib.hid ⟨hn, hD, htr, goodG_of HG.out, HX.out, hbl, HM.out.inj, HAB.out, HM.out.gK, HM.out.gg⟩
      have HTW : Hid (TabW w1.heap.size A n c D trip K kc l bs wr) := Lib.hid ⟨hbx, H.out.below HB.out, hrw, fun d hd => ⟨_, HM.out.rows _ (List.getElem_mem hd), TrueRow.zero l trip D n d hn⟩⟩
      have HLOW := Lib.hid HM.out.low
      obtain ⟨t0, t1, t2, t3⟩ := HBX.out.cells
      obtain ⟨wT, rfl⟩ : ∃ wT, wT = wr := ⟨_, rfl⟩
      clear t0 t1 t2 t3 hbx hrw hbl hkD
      go_wp2
      go_loopw [10, 51] (fun v i wr => ∃ j : Nat, ∃ S d, j ≤ n ∧ i = .int .i64 j ∧ v = .slice S j d ∧ wr.ownsRow wT.heap.size 3 1 (.slice S j d) j (ints (List.replicate j (-1))) ∧ Below wT.heap.size wT wr) (fun _ i _ => n - (intOf i).toNat)
      case atStart => exact ⟨0, none, 0, Nat.zero_le _, rfl, rfl, World.ownsRow_nil _ _ _ _, Below.refl _ _⟩
      case round =>
        obtain ⟨j, S, d, hj, rfl, rfl, ho, hb⟩ := hrel
        have HO := Lib.hid ho; have HBT := Lib.hid hb
        clear ho hb
        by_cases hlt : j < n
        · have HAL : Hid (Below wT.heap.size wT (wr.alloc (.cells #[.int .i64 (-1)] 3))) := Lib.hid (HBT.out.alloc HBT.out.size _)
          have HOA : Hid ((wr.alloc (.cells #[.int .i64 (-1)] 3)).ownsRow wT.heap.size 3 1 (.slice S j d) j (ints (List.replicate j (-1)))) := Lib.hid (own_below HO.out ((Below.refl _ _).alloc (Nat.le_refl _) _))
          have HRD : Hid (Reads (wr.alloc (.cells #[.int .i64 (-1)] 3)) 1 (some ⟨wr.heap.size, 0, none⟩) 1 [.int .i64 (-1)]) := Lib.hid (reads_litk wr [.int .i64 (-1)] 3 (n := 1) (k := 1) rfl)
          go_wp2_with (at_builtin; refine wpList_push _ rfl (.tmp 53) (.tmp 54) 38 rfl wT.heap.size 3 (.int .i64 0) 1 8 infoInt rfl (by omega) Try.underlying38 S j d (ints (List.replicate j (-1))) rfl HOA.out (some ⟨wr.heap.size, 0, none⟩) 1 1 [.int .i64 (-1)] rfl HRD.out (by simp [Value.oneCell']) (by omega) (by omega) HAL.out.size ?_; intro S2 d2 w2 hown2 hg2 hb2)
          have HO2 := Lib.hid hown2
          have HB2 := Lib.hid (HAL.out.trans hb2)
          have e1 : ints (List.replicate j (-1)) ++ [.int .i64 (-1)] = ints (List.replicate (j + 1) (-1)) := by simp [ints, List.replicate_succ']
          rw [e1] at HO2
          clear hown2 hg2 hb2 e1
          go_roundw
          case rel => exact ⟨j + 1, S2, d2, by omega, by go_num, rfl, HO2.out, HB2.out⟩
          case measure => simp [intOf]; omega
        · obtain rfl : j = n := by omega
          have hnl : ∀ b ∈ bs, b < wT.heap.size := HTW.out.knows.lt
          have CC := cost_any w1.heap.size A j c D trip K kc l bs HTF.out D 0 (List.replicate j (-1)) S d wr (by omega) (by simp) (fun x hx => by have := List.eq_of_mem_replicate hx; omega) (HTW.out.below HBT.out) (Reads.of_own HO.out) (fun a ha hm => by have h1 := own_block HO.out a ha; have h2 := hnl _ hm; omega)
          have hw0 := wears0 l
          rw [HX.out] at hw0
          rw [show ((0 : Nat) : Int) = 0 from rfl, hw0] at CC
          have HCC := Lib.hid CC
          have HBW : Hid (Below w.heap.size w wr) := Lib.hid (HB.out.trans (HBT.out.mono HB.out.size))
          clear CC hw0 hnl
          go_wp2_with (go_at_call 79; refine HCC.out.mono ?_; rintro e wE ⟨rfl, hu, _⟩)
          have HBE := Lib.hid (HBW.out.trans (hu.below HLOW.out HBW.out.size))
          clear hu
          go_ret2
          exact ⟨rfl, HBE.out⟩

end Go.Proofs.Ytjibdabedagghaa
