/- Contract of the program's LeastPlanCost. No conditions. -/
import Derived.Test.YtjibdabedagghaaLpA
import Derived.Test.YtjibdabedagghaaAreG
namespace Go.Proofs.Ytjibdabedagghaa
set_option linter.unusedSimpArgs false
set_option linter.unusedVariables false
open Go.RowKit Go.Maps

theorem wpList_insert_own {H : Type} {P : Program} (w : World) {ops : Array Oper} {rest : List Oper} {o : Oper} {a : Act} {Q : Exit → Act → World → Prop}
    (hg : o.guard = none) (m x v : Operand) (t : TypeId) (hop : o.op = Op.insert t m x v)
    (k e : TypeId) (K : Keyed P k) (ht : P.underlying t = some (.map k e)) (R : Value → Option (DataW H × List MemPlace)) (b n : Nat) (D : DataW H)
    (hm : a.eval m = .map (some b)) (hown : w.ownsMap P k R b n D) (hn : n < maxLen) (key val : Value) (kl : Lit) (hx : a.eval x = key) (hv : a.eval v = val) (hkey : keyOf P k key = some kl)
    (d : DataW H) (ps : List MemPlace) (hval : R val = some (d, ps))
    (hK : ∀ w', w'.ownsMap P k R b (n + 1) (D.put kl d) → w.grownBy w' (some b) → wpList P ops Q rest (a.put o.dst undef) w') :
    wpList P ops Q (o :: rest) a w := by
  refine wpList_plain hg fun K' hK' => ?_
  obtain ⟨w', hrun, r1, r2⟩ := hown.update K ht hn hkey hval
  unfold Oper.wp
  simp [execOp, hop, hm, hx, hv, hrun, Result.andThen]
  exact hK' _ _ (hK w' r1 r2)
theorem size_le_of_owns {H : Type} {P : Program} {k : TypeId} {R : Value → Option (DataW H × List MemPlace)} {w : World} {b n : Nat} {D : DataW H} (h : w.ownsMap P k R b n D) : Maps.size D ≤ n := by
  obtain ⟨es, clock, _, _, hs, rfl⟩ := h
  simp only [Maps.size]
  rw [length_sorted]
  simpa using hs
/-- The least of the costs, on the way. -/
structure LeastAt (H : Type) (wr : World) (b rb m : Nat) (D : DataW H) (left : Lit → Bool) (cnt : Nat) (V : Int) (o : Int × Int × Int) (q : Int) : Prop where
  rg : wr.ranges Try.prog 95 (plainElem Try.prog 3) b rb m D left cnt
  low : q = -1 ∨ V ≤ q
  high : left (kL o) = false → 0 ≤ q ∧ q ≤ V
section
variable {H : Type} {wr wr' : World} {b rb m : Nat} {D : DataW H} {left : Lit → Bool} {cnt cnt1 : Nat} {V cv q : Int} {o x : Int × Int × Int}
theorem LeastAt.take (h : LeastAt H wr b rb m D left cnt V o q) (hr : wr'.ranges Try.prog 95 (plainElem Try.prog 3) b rb m D (fun z => left z && !z.sameKey (kL x)) cnt1) (hle : V ≤ cv) (hlk : kL o = kL x → cv = V) (hq : q < 0 ∨ cv < q) (h0 : 0 ≤ V) : LeastAt H wr' b rb m D (fun z => left z && !z.sameKey (kL x)) cnt1 V o cv := by
  refine ⟨hr, .inr hle, fun hh => ?_⟩
  rcases left_end hh with h1 | e
  · have := h.high h1
    omega
  · have := hlk e
    omega
theorem LeastAt.stay (h : LeastAt H wr b rb m D left cnt V o q) (hr : wr'.ranges Try.prog 95 (plainElem Try.prog 3) b rb m D (fun z => left z && !z.sameKey (kL x)) cnt1) (hlk : kL o = kL x → cv = V) (hq : ¬ q < 0) (hq2 : ¬ cv < q) : LeastAt H wr' b rb m D (fun z => left z && !z.sameKey (kL x)) cnt1 V o q := by
  refine ⟨hr, h.low, fun hh => ?_⟩
  rcases left_end hh with h1 | e
  · exact h.high h1
  · have := hlk e
    omega
end
theorem pow8_le : ∀ j : Nat, j ≤ 10 → 8 ^ j ≤ 10000000000 := fun j h => Nat.le_trans (Nat.pow_le_pow_right (by omega) h) (by decide)
def mid3 (ws : List Int) (k : Nat) : List Int := ws.take k ++ List.replicate (3 - k) 0
theorem mid3_set (ws : List Int) (k : Nat) (hk : k < ws.length) (h3 : k < 3) (hw : ws.length ≤ 3) : (mid3 ws k).set k ws[k] = mid3 ws (k + 1) := by
  unfold mid3
  have e : (ws.take k).length = k := by simp; omega
  rw [List.set_append_right _ _ (by omega), e, Nat.sub_self, show 3 - k = (3 - (k + 1)) + 1 by omega, List.replicate_succ, List.set_cons_zero, List.take_succ_eq_append_getElem hk, List.append_assoc]
  rfl
theorem length_mid3 (ws : List Int) (k : Nat) (h : k ≤ ws.length) (h3 : k ≤ 3) : (mid3 ws k).length = 3 := by simp [mid3]; omega

set_option maxHeartbeats 4000000 in
set_option maxRecDepth 100000 in
theorem implLeast_any (A : Option Addr) (n c : Nat) (D : Int) (trip : Int) (l : List G4) (w : World) (hn : n ≤ 1000000000) (h : Reads w 4 A n (rows4 l)) :
    Calls Try.prog 42 #[.slice A n c, .int .i64 D, .int .i64 trip] w fun e w' => e = .returned (.tuple #[.int .i64 (leastR l D trip).1, .bool (leastR l D trip).2]) ∧ Below w.heap.size w w' := by
  have hlx : l.length = n := by have := h.1; rw [length_rows4] at this; omega
  have CG := Lib.hid (fun (W : World) (hW : Below w.heap.size w W) => areGears_any A n c l W (by omega) (h.below hW))
  cases h1 : goodGears l with
  | false =>
    simp only [h1] at CG
    have hr : leastR l D trip = (0, false) := by
      have hb : leastB l D trip = false := by simp [leastB, h1]
      simp [leastR, hb]
    rw [hr]
    have HCG := Lib.hid CG
    clear hr CG hlx h
    have CG := HCG
    clear HCG
    go_enter Try.func42, Try.ntmps42
    go_wp2_with (first | (go_at_call 21; refine (CG.out _ (Below.refl _ _)).mono ?_; rintro e w1 ⟨rfl, hb⟩; have HB := Lib.hid hb; clear hb) | (go_at_call 73; refine (within_any _ _ _ _).mono ?_; rintro e w' ⟨rfl, rfl⟩))
    go_ret2
    exact ⟨rfl, HB.out⟩
  | true =>
   simp only [h1] at CG
   by_cases hn3 : n ≤ 3
   · have hn3' : ¬ (3 < (n : Int)) := by omega
     cases h2 : inB D 0 10 with
     | false =>
      have hr : leastR l D trip = (0, false) := by
        have hb : leastB l D trip = false := by simp [leastB, h2]
        simp [leastR, hb]
      rw [hr]
      have HCG := Lib.hid CG
      clear hr CG hlx h
      have CG := HCG
      clear HCG
      go_enter Try.func42, Try.ntmps42
      go_wp2_with (first | (go_at_call 21; refine (CG.out _ (Below.refl _ _)).mono ?_; rintro e w1 ⟨rfl, hb⟩; have HB := Lib.hid hb; clear hb) | (go_at_call 73; refine (within_any _ _ _ _).mono ?_; rintro e w' ⟨rfl, rfl⟩))
      go_ret2
      exact ⟨rfl, HB.out⟩
     | true =>
      cases h3 : inB trip 0 1000 with
      | false =>
       have hr : leastR l D trip = (0, false) := by
         have hb : leastB l D trip = false := by simp [leastB, h3]
         simp [leastR, hb]
       rw [hr]
       have HCG := Lib.hid CG
       clear hr CG hlx h
       have CG := HCG
       clear HCG
       go_enter Try.func42, Try.ntmps42
       go_wp2_with (first | (go_at_call 21; refine (CG.out _ (Below.refl _ _)).mono ?_; rintro e w1 ⟨rfl, hb⟩; have HB := Lib.hid hb; clear hb) | (go_at_call 73; refine (within_any _ _ _ _).mono ?_; rintro e w' ⟨rfl, rfl⟩))
       go_ret2
       exact ⟨rfl, HB.out⟩
      | true =>
       have h2' := inB_true.1 h2
       obtain ⟨d, rfl⟩ : ∃ d : Nat, D = (d : Int) := ⟨D.toNat, by omega⟩
       have hr : leastR l (d : Int) trip = (leastW l trip d (l.map (·.1)), true) := by simp [leastR, leastB, h1, h2, h3, hlx, hn3]
       rw [hr]
       have hgd := goodG_of h1
       have htr := inB_true.1 h3
       obtain ⟨V, hV⟩ : ∃ V, V = leastW l trip d (l.map (·.1)) := ⟨_, rfl⟩
       rw [← hV]
       have HVV := Lib.hid hV; have HGD := Lib.hid hgd; have H0 := Lib.hid h; have HX := Lib.hid hlx
       have hmm := @run_makeMap Try.prog
       have hd10 : d ≤ 10 := by omega
       clear hV hgd h hlx hr
       go_enter Try.func42, Try.ntmps42
       go_wp2_with (first | (go_at_call 21; refine (CG.out _ (Below.refl _ _)).mono ?_; rintro e w1 ⟨rfl, hb⟩; have HB := Lib.hid hb; clear hb) | (go_at_call 73; refine (within_any _ _ _ _).mono ?_; rintro e w' ⟨rfl, rfl⟩))
       have e1 : (w1.alloc (.cells #[.int .i64 0, .int .i64 0, .int .i64 0] 95)).heap.size = w1.heap.size + 1 := by simp
       have HWL : Hid ((l.map (·.1)).length = n) := Lib.hid (by simp [HX.out])
       have HWG : Hid (∀ (k : Nat) (h : k < l.length), (l.map (·.1))[k]? = some l[k].1) := Lib.hid (fun k h => by rw [List.getElem?_map, List.getElem?_eq_getElem h]; rfl)
       have HWB : Hid (∀ x ∈ l.map (·.1), 0 ≤ x ∧ x ≤ 1000) := Lib.hid (fun x hx => by
         obtain ⟨g, hg, rfl⟩ := List.mem_map.1 hx
         have := HGD.out g hg
         omega)
       obtain ⟨ws, hws⟩ : ∃ ws, ws = l.map (·.1) := ⟨_, rfl⟩
       rw [← hws] at HWL HWG HWB HVV
       clear hws CG
       go_loopw [35] (fun i wr => ∃ k : Nat, k ≤ n ∧ i = .int .i64 k ∧ wr.heap[w1.heap.size]? = some (.cells (ints (mid3 ws k)).toArray 95 (0, 0)) ∧ Below w1.heap.size w1 wr) (fun i _ => n - (intOf i).toNat)
       case atStart => exact ⟨0, Nat.zero_le _, rfl, by simpa [mid3, ints] using heap_alloc_new w1 _, (Below.refl _ _).alloc (Nat.le_refl _) _⟩
       case round =>
         obtain ⟨wr2, rfl⟩ : ∃ wr2, wr2 = wr := ⟨_, rfl⟩
         obtain ⟨k, hk, rfl, hbox, hb2⟩ := hrel
         have HB2 := Lib.hid hb2; have HBOX := Lib.hid hbox
         have hbz := lt_of_box hbox
         have HBX : Hid (Below w.heap.size w wr2) := Lib.hid (HB.out.trans (HB2.out.mono HB.out.size))
         clear hb2 hbox
         by_cases hlt : k < n
         · have hxl : k < l.length := by rw [HX.out]; exact hlt
           have hwl : k < ws.length := by rw [HWL.out]; exact hlt
           obtain ⟨ad, rfl, k0, k1, k2, k3'⟩ := rows4_at (H0.out.below HBX.out) hlt HX.out
           have HGT : Hid (ws[k] = l[k].1) := Lib.hid (by have h1 := HWG.out k hxl; rw [List.getElem?_eq_getElem hwl] at h1; injection h1)
           have HST : Hid ((mid3 ws k).set k l[k].1 = mid3 ws (k + 1)) := Lib.hid (by rw [← HGT.out]; exact mid3_set ws k hwl (by omega) (by rw [HWL.out]; omega))
           have c0 : wr2.cell? ⟨w1.heap.size, k, none⟩ = some (Value.int .i64 (mid3 ws k)[k]!) := box_cell HBOX.out (by rw [List.getElem!_eq_getElem?_getD, List.getElem?_eq_getElem (by rw [length_mid3 _ _ (by omega) (by omega)]; omega)]; rfl)
           have f0 : wr2.frozen? ⟨w1.heap.size, k, none⟩ = false := box_frozen HBOX.out
           have f1 : (wr2.alloc (.cells #[.int .i64 l[k].1, .int .i64 l[k].2.1, .int .i64 l[k].2.2.1, .int .i64 l[k].2.2.2] 26)).frozen? ⟨w1.heap.size, k, none⟩ = false := box_frozen (L := mid3 ws k) (by rw [Below.heap_alloc _ _ _ hbz]; exact HBOX.out)
           have c1 : (wr2.alloc (.cells #[.int .i64 l[k].1, .int .i64 l[k].2.1, .int .i64 l[k].2.2.1, .int .i64 l[k].2.2.2] 26)).cell? ⟨w1.heap.size, k, none⟩ = some (Value.int .i64 (mid3 ws k)[k]!) := (World.cell?_alloc_lt _ _ _ hbz).trans c0
           clear HGT HWG
           generalize (mid3 ws k)[k]! = z at *
           generalize l[k] = gx at *
           obtain ⟨qa, qb, qc, qd⟩ := gx
           simp only at k0 k1 k2 k3' HST
           have hk31 : (k : Int) < 3 := by omega
           have hk30 : (0 : Int) ≤ (k : Int) := by omega
           have HRR : Hid (((wr2.setCell ⟨w1.heap.size, k, none⟩ (.int .i64 qa)).alloc (.cells #[.int .i64 qa, .int .i64 qb, .int .i64 qc, .int .i64 qd] 26)).heap[w1.heap.size]? = some (.cells (ints (mid3 ws (k + 1))).toArray 95 (0, 0)) ∧ Below w1.heap.size w1 ((wr2.setCell ⟨w1.heap.size, k, none⟩ (.int .i64 qa)).alloc (.cells #[.int .i64 qa, .int .i64 qb, .int .i64 qc, .int .i64 qd] 26))) := Lib.hid (by
             refine ⟨?_, (HB2.out.setCell (p := ⟨w1.heap.size, k, none⟩) (Nat.le_refl _) _).alloc (by rw [World.size_setCell]; exact HB2.out.size) _⟩
             rw [Below.heap_alloc _ _ _ (by rw [World.size_setCell]; exact hbz), ← HST.out]
             exact box_set HBOX.out)
           go_wp2
           go_roundw
           case rel => exact ⟨k + 1, by omega, by go_num, HRR.out.1, HRR.out.2⟩
           case measure => simp [intOf]; omega
         · obtain rfl : k = n := Nat.le_antisymm hk (Nat.le_of_not_lt hlt)
           obtain ⟨y, hy⟩ : ∃ y : Int × Int × Int, mid3 ws k = k3 y := by
             obtain ⟨a, b, c, e⟩ := three_of (length_mid3 ws k (by rw [HWL.out]; exact Nat.le_refl _) hn3)
             exact ⟨(a, b, c), e⟩
           have hyb : ∀ z ∈ k3 y, 0 ≤ z ∧ z ≤ 1000 := by
             intro z hz
             rw [← hy] at hz
             unfold mid3 at hz
             rcases List.mem_append.1 hz with hz | hz
             · exact HWB.out z (List.mem_of_mem_take hz)
             · have := List.eq_of_mem_replicate hz
               omega
           have HYB := Lib.hid hyb
           have hwf : (Lit.int .i64 y.1).wf = true ∧ (Lit.int .i64 y.2.1).wf = true ∧ (Lit.int .i64 y.2.2).wf = true := by
             have h1 := hyb y.1 (by simp [k3])
             have h2 := hyb y.2.1 (by simp [k3])
             have h3 := hyb y.2.2 (by simp [k3])
             exact ⟨wf_small (by omega), wf_small (by omega), wf_small (by omega)⟩
           have HWF := Lib.hid hwf
           have HV3 : Hid (leastW l trip d (k3 y) = V) := Lib.hid (by
             rw [← hy, HVV.out]
             unfold mid3
             rw [List.take_of_length_le (by rw [HWL.out]; exact Nat.le_refl _)]
             exact leastW_app l trip d ws _ (by rw [HWL.out, HX.out]))
           have HN4 : Hid (wr2.heap[w1.heap.size]? = some (.cells #[.int .i64 y.1, .int .i64 y.2.1, .int .i64 y.2.2] 95 (0, 0))) := Lib.hid (by
             have h1 := HBOX.out
             rw [hy] at h1
             exact h1)
           clear hy hyb hwf HWG HWB HWL
           obtain ⟨y1, y2, y3⟩ := y
           have z0 : wr2.cell? ⟨w1.heap.size, 0, none⟩ = some (Value.int .i64 y1) := by unfold World.cell?; simp [HN4.out]
           have z1 : wr2.cell? ⟨w1.heap.size, 1, none⟩ = some (Value.int .i64 y2) := by unfold World.cell?; simp [HN4.out]
           have z2 : wr2.cell? ⟨w1.heap.size, 2, none⟩ = some (Value.int .i64 y3) := by unfold World.cell?; simp [HN4.out]
           have z0' : (wr2.alloc (.map #[] 0)).cell? ⟨w1.heap.size, 0, none⟩ = some (Value.int .i64 y1) := (World.cell?_alloc_lt _ _ _ hbz).trans z0
           have z1' : (wr2.alloc (.map #[] 0)).cell? ⟨w1.heap.size, 1, none⟩ = some (Value.int .i64 y2) := (World.cell?_alloc_lt _ _ _ hbz).trans z1
           have z2' : (wr2.alloc (.map #[] 0)).cell? ⟨w1.heap.size, 2, none⟩ = some (Value.int .i64 y3) := (World.cell?_alloc_lt _ _ _ hbz).trans z2
           clear hn3'
           go_wp2_with (first | (refine wpList_insert_own _ rfl _ _ _ 96 rfl 95 3 keyedK Try.underlying96 (plainElem (H := Unit) Try.prog 3) wr2.heap.size 0 (.map []) rfl (World.ownsMap_made _ _ _ _) (by unfold maxLen; omega) _ _ (kL (y1, y2, y3)) rfl rfl (keyTri HWF.out.1 HWF.out.2.1 HWF.out.2.2) _ [] (plainElem_int Try.underlying3 (by decide)) ?_; intro w4 hown4 hg4; go_frame) | go_in)
           have HSD : Hid (Sound l trip d V 0 1000 ((.map [] : DataW Unit).put (kL (y1, y2, y3)) (.lit (.int .i64 0)))) := Lib.hid (by
             refine sound_put (World.ownsMap_made wr2 Try.prog 95 (plainElem (H := Unit) Try.prog 3)).isMap HWF.out.1 HWF.out.2.1 HWF.out.2.2 (fun k v hk => by obtain ⟨a, b, c, _, _, hh, _⟩ := hk; simp [Maps.has] at hh) HYB.out ⟨Int.le_refl _, Int.le_refl _⟩ ?_
             show V ≤ 0 + leastW l trip d (k3 (y1, y2, y3))
             rw [HV3.out]
             omega)
           have HTD : Hid (Tight l trip d V ((.map [] : DataW Unit).put (kL (y1, y2, y3)) (.lit (.int .i64 0)))) := Lib.hid (by
             refine tight_new (World.ownsMap_made wr2 Try.prog 95 (plainElem (H := Unit) Try.prog 3)).isMap HWF.out.1 HWF.out.2.1 HWF.out.2.2 ?_
             show 0 + leastW l trip d (k3 (y1, y2, y3)) = V
             rw [HV3.out]
             omega)
           have HB4 : Hid (Below w.heap.size w w4) := Lib.hid ((HBX.out.alloc HBX.out.size _).grown hg4 (by simp; have := HBX.out.size; omega) (fun j hj => by cases hj; exact HBX.out.size))
           have HO4 := Lib.hid hown4
           generalize ((.map [] : DataW Unit).put (kL (y1, y2, y3)) (.lit (.int .i64 0))) = D0 at *
           have hP := pow8_le
           have HP8 := Lib.hid hP
           clear hown4 hg4 HN4 HBOX HB2 HBX z0 z1 z2 z0' z1' z2' hbz hP HWF HYB HV3 hlt
           go_loopw [11, 49] (fun mv i wr => ∃ (j b m : Nat) (D : DataW Unit), j ≤ d ∧ mv = .map (some b) ∧ i = .int .i64 j ∧ Hid (m = 8 ^ j) ∧ wr.ownsMap Try.prog 95 (plainElem Try.prog 3) b m D ∧ Sound l trip (d - j) V (4000 * (j : Int)) (1000 + 100 * (j : Int)) D ∧ Tight l trip (d - j) V D ∧ Below w.heap.size w wr) (fun _ i _ => d - (intOf i).toNat)
           case atStart => exact ⟨0, wr2.heap.size, 1, D0, Nat.zero_le _, rfl, rfl, Lib.hid rfl, HO4.out, by simpa using HSD.out, by simpa using HTD.out, HB4.out⟩
           case round =>
             obtain ⟨wr3, rfl⟩ : ∃ wr3, wr3 = wr := ⟨_, rfl⟩
             obtain ⟨j, b, m, D, hj, rfl, rfl, hm8, hown, hsd, htd, hb3⟩ := hrel
             have HO := Lib.hid hown; have HSJ := Lib.hid hsd; have HTJ := Lib.hid htd; have HB3 := Lib.hid hb3
             clear hown hsd htd hb3 HO4 HSD HTD HB4
             by_cases hjd : j < d
             · have HNC := Lib.hid (nextCosts_any (H := Unit) A k c l trip b m (d - j - 1) D V (4000 * (j : Int)) (1000 + 100 * (j : Int)) wr3 hn3 HGD.out htr (by omega) (by omega) (by rw [hm8.out]; exact HP8.out j (by omega)) HX.out HO.out (size_le_of_owns HO.out) (by rw [show d - j - 1 + 1 = d - j by omega]; exact HSJ.out) (by rw [show d - j - 1 + 1 = d - j by omega]; exact HTJ.out) (H0.out.below HB3.out))
               go_wp2_with (first | (go_at_call 80; refine (HNC.out).mono ?_; rintro e w5 ⟨D', rfl, ho5, hs5, ht5, hb5⟩) | go_in)
               go_roundw
               case rel => exact ⟨j + 1, wr3.heap.size, 8 * m, D', hjd, rfl, by go_num, Lib.hid (by rw [hm8.out, Nat.pow_succ, Nat.mul_comm]), ho5, by
                   rw [show d - (j + 1) = d - j - 1 by omega, show 4000 * ((j + 1 : Nat) : Int) = 4000 * (j : Int) + 4000 by omega, show 1000 + 100 * ((j + 1 : Nat) : Int) = 1000 + 100 * (j : Int) + 100 by omega]
                   exact hs5, by rw [show d - (j + 1) = d - j - 1 by omega]; exact ht5, HB3.out.trans (hb5.mono HB3.out.size)⟩
               case measure => simp [intOf]; omega
             · obtain rfl : j = d := Nat.le_antisymm hj (Nat.le_of_not_lt hjd)
               obtain ⟨ok, ov, ⟨oa, ob, oc, rfl, ow, ohas, oat⟩, otight⟩ := HTJ.out
               rw [Nat.sub_self] at otight HSJ
               have hov : ov = V := by simpa [leastW] using otight
               subst hov
               have hov0 : 0 ≤ ov := (HSJ.out _ _ ⟨oa, ob, oc, rfl, ow, ohas, oat⟩).2.1
               have HSV : Hid (∀ k v, Says D k v → ov ≤ v) := Lib.hid (fun k v hk => by have := (HSJ.out k v hk).2.2.2; simpa [leastW] using this)
               have HOS : Hid (Says D (k3 (oa, ob, oc)) ov) := Lib.hid ⟨oa, ob, oc, rfl, ow, ohas, oat⟩
               have HOH : Hid (Maps.has D (kL (oa, ob, oc)) = true) := Lib.hid ohas
               clear HTJ HSJ otight ow ohas oat HVV
               go_wp2_with (first
                 | (at_range; refine wpList_range_own _ rfl _ 96 rfl 95 3 keyedK Try.underlying96 _ b m _ rfl HO.out ?_; intro w5 hrg5 hg5 hs5)
                 | go_in)
               go_frame
               have HB5 : Hid (Below w.heap.size w w5) := Lib.hid (HB3.out.grown hg5 HB3.out.size (fun j hj => by cases hj))
               have HRB : Hid (w.heap.size ≤ wr3.heap.size) := Lib.hid HB3.out.size
               go_loopw [12] (fun q wr => ∃ (left : Lit → Bool) (cnt : Nat) (qv : Int), q = .int .i64 qv ∧ LeastAt Unit wr b wr3.heap.size m D left cnt ov (oa, ob, oc) qv ∧ Below w.heap.size w wr) (fun _ wr => wr.rangeLeft b wr3.heap.size)
               case atStart => exact ⟨_, _, -1, rfl, ⟨hrg5, .inl rfl, fun hh => by rw [HOH.out] at hh; cases hh⟩, HB5.out⟩
               case round =>
                 clear HB5 hrg5 hg5 hs5 HO HB3
                 obtain ⟨left, cnt, qv, rfl, hla, hb6⟩ := hrel
                 have HLA := Lib.hid hla; have HB6 := Lib.hid hb6
                 clear hla hb6
                 go_wp2_with (first
                   | (at_next; refine wpList_next_ranges _ rfl _ rfl 95 keyedK (plainElem Try.prog 3) mkK (Value.int .i64) mkK_inv mkV_inv b wr3.heap.size m _ _ _ rfl HLA.out.rg ?_ ?_)
                   | go_in)
                 · intro hc0 hl0
                   have h1 := HLA.out.low
                   have h2 := HLA.out.high (hl0 _)
                   have hqv : qv = ov := by omega
                   subst hqv
                   go_wp2
                   go_ret2
                   exact ⟨rfl, HB6.out⟩
                 · obtain ⟨wo, rfl⟩ : ∃ wo, wo = wr := ⟨_, rfl⟩
                   intro xa xb xc cv kl yd yp w7 cnt1 hkey hlx hy hat hrg1 hlt hg1 hs1 hen
                   obtain ⟨a', b', c', exk, rfl, wf⟩ := keyTri_inv hkey
                   simp only [mkK] at exk hen
                   simp at exk
                   obtain ⟨rfl, rfl, rfl⟩ := exk
                   obtain ⟨cv', ecv, hyd, wv⟩ := plainElem_int_inv Try.underlying3 hy
                   injection ecv with _ ecv
                   subst ecv
                   have hat' : ∀ zd, D.atKey (kL (xa, xb, xc)) zd = .lit (.int .i64 cv) := fun zd => by show D.atKey (kT xa xb xc) zd = _; rw [hat zd]; exact congrArg Prod.fst hyd
                   have hsy : Says D (k3 (xa, xb, xc)) cv := ⟨xa, xb, xc, rfl, wf, has_of_at hat', hat'⟩
                   have hle := HSV.out _ _ hsy
                   have HLK : Hid (kL (oa, ob, oc) = kL (xa, xb, xc) → cv = ov) := Lib.hid (fun e => by
                     have h1 : Says D (k3 (xa, xb, xc)) ov := by
                       obtain ⟨a, b, c, e1, wfo, ho1, ho2⟩ := HOS.out
                       injection e1 with f1 e1
                       injection e1 with f2 e1
                       injection e1 with f3 e1
                       subst f1; subst f2; subst f3
                       refine ⟨xa, xb, xc, rfl, wf, ?_, fun zd => ?_⟩
                       · show Maps.has D (kL (xa, xb, xc)) = true
                         rw [← e]; exact ho1
                       · show D.atKey (kL (xa, xb, xc)) zd = _
                         rw [← e]; exact ho2 zd
                     exact says_fun hsy h1)
                   have HB7 : Hid (Below w.heap.size w w7) := Lib.hid (HB6.out.grown hg1 HB6.out.size (fun j hj => by cases hj; exact HRB.out))
                   have HME : Hid (cnt1 < wo.rangeLeft b wr3.heap.size) := Lib.hid (by rw [HLA.out.rg.left_eq]; exact hlt)
                   have HRG : Hid (w7.ranges Try.prog 95 (plainElem Try.prog 3) b wr3.heap.size m D (fun z => left z && !z.sameKey (kL (xa, xb, xc))) cnt1) := Lib.hid hrg1
                   clear hsy hat hat' hy hyd hkey hg1 hs1 hlt hlx hrg1 wf wv
                   by_cases hq : qv < 0
                   · have HNW := Lib.hid (HLA.out.take HRG.out hle HLK.out (.inl hq) hov0)
                     go_wp2
                     go_roundw
                     case rel => exact ⟨_, cnt1, cv, rfl, HNW.out, HB7.out⟩
                     case measure => rw [HRG.out.left_eq]; exact HME.out
                   · by_cases hq2 : cv < qv
                     · have HNW := Lib.hid (HLA.out.take HRG.out hle HLK.out (.inr hq2) hov0)
                       go_wp2
                       go_roundw
                       case rel => exact ⟨_, cnt1, cv, rfl, HNW.out, HB7.out⟩
                       case measure => rw [HRG.out.left_eq]; exact HME.out
                     · have HNW := Lib.hid (HLA.out.stay HRG.out HLK.out hq hq2)
                       go_wp2
                       go_roundw
                       case rel => exact ⟨_, cnt1, qv, rfl, HNW.out, HB7.out⟩
                       case measure => rw [HRG.out.left_eq]; exact HME.out
   · have hn3' : 3 < (n : Int) := by omega
     have hr : leastR l D trip = (0, false) := by
       have hb : leastB l D trip = false := by simp [leastB, hlx, hn3]
       simp [leastR, hb]
     rw [hr]
     have HCG := Lib.hid CG
     clear hr CG hlx h
     have CG := HCG
     clear HCG
     go_enter Try.func42, Try.ntmps42
     go_wp2_with (first | (go_at_call 21; refine (CG.out _ (Below.refl _ _)).mono ?_; rintro e w1 ⟨rfl, hb⟩; have HB := Lib.hid hb; clear hb) | (go_at_call 73; refine (within_any _ _ _ _).mono ?_; rintro e w' ⟨rfl, rfl⟩))
     go_ret2
     exact ⟨rfl, HB.out⟩

end Go.Proofs.Ytjibdabedagghaa
