/- The reference's table of least costs: a day's repairs. No conditions. -/
import Derived.Test.YtjibdabedagghaaLp1
import Derived.Test.YtjibdabedagghaaClone
import Derived.Laws.Bits64b
namespace Go.Proofs.Ytjibdabedagghaa
set_option linter.unusedSimpArgs false
set_option linter.unusedVariables false
open Go.RowKit

theorem nextS_get : ∀ (ns : List Int) (s k : Nat) (h : k < ns.length), (nextS ns s)[k]? = some (if s / 2 ^ k % 2 = 1 then 1 else if 0 ≤ ns[k] then ns[k] + 1 else ns[k]) := by
  intro ns
  induction ns with
  | nil => intro s k h; simp at h
  | cons n r ih =>
    intro s k h
    cases k with
    | zero => simp [nextS]
    | succ k =>
      have h2 := ih (s / 2) k (by simpa using h)
      simp only [nextS, List.getElem?_cons_succ, List.getElem_cons_succ]
      rw [h2, Nat.div_div_eq_div_mul, Nat.pow_succ, Nat.mul_comm 2]
theorem wear_step (g : G4) (n day : Int) (b : Prop) [Decidable b] : wearOf g (if b then 1 else if 0 ≤ n then n + 1 else n) (day + 1) = (if b then 0 else wearOf g n day) + g.2.1 := by
  unfold wearOf
  by_cases hs : b
  · simp [hs]
  · by_cases hn : 0 ≤ n
    · have h1 : ¬ n < 0 := by omega
      have h2 : ¬ n + 1 < 0 := by omega
      simp only [hs, hn, h1, h2, if_false, if_true]
      rw [Int.add_mul]; simp
    · have h1 : n < 0 := by omega
      simp only [hs, hn, h1, if_false, if_true]
      rw [Int.add_mul]; omega
theorem drop_wearsOf : ∀ (l : List G4) (ns : List Int) (day : Int) (k : Nat), ns.length = l.length → (wearsOf l ns day).drop k = wearsOf (l.drop k) (ns.drop k) day := by
  intro l
  induction l with
  | nil => intro ns day k h; obtain rfl := List.eq_nil_of_length_eq_zero h; simp [wearsOf]
  | cons g r ih =>
    intro ns day k h
    cases ns with
    | nil => simp at h
    | cons n ns =>
      cases k with
      | zero => rfl
      | succ k => simpa [wearsOf] using ih ns day k (by simpa using h)
theorem half_pow (s k : Nat) : s / 2 ^ k / 2 = s / 2 ^ (k + 1) := by rw [Nat.div_div_eq_div_mul, Nat.pow_succ]
/-- One gear's part in a day. -/
theorem fails_at (l : List G4) (ns : List Int) (day : Int) (s k : Nat) (hl : ns.length = l.length) (hk : k < l.length) :
    failsW (l.drop k) (wearsOf (l.drop k) (ns.drop k) day) (s / 2 ^ k) = (decide (l[k].2.2.1 < (if s / 2 ^ k % 2 = 1 then 0 else wearOf l[k] (ns[k]'(by omega)) day) + l[k].2.1) || failsW (l.drop (k + 1)) (wearsOf (l.drop (k + 1)) (ns.drop (k + 1)) day) (s / 2 ^ (k + 1))) := by
  rw [List.drop_eq_getElem_cons hk, List.drop_eq_getElem_cons (show k < ns.length by omega)]
  simp only [wearsOf, failsW, half_pow]
theorem sum_at (l : List G4) (s k : Nat) (hk : k < l.length) : sumC (l.drop k) (s / 2 ^ k) = (if s / 2 ^ k % 2 = 1 then l[k].2.2.2 else 0) + sumC (l.drop (k + 1)) (s / 2 ^ (k + 1)) := by
  rw [List.drop_eq_getElem_cons hk]
  simp only [sumC, half_pow]
theorem mid2 {α : Type} {M N : List α} {k : Nat} {x : α} (hl : M.length = N.length) (hk : k < N.length) (hx : M[k]? = some x) : (M.take k ++ N.drop k).set k x = M.take (k + 1) ++ N.drop (k + 1) := two_set (n := N.length) hl rfl hk hx
theorem and_one (v : Nat) (h : v ≤ 1000) : bits BinOp.and IntKind.i64 (v : Int) 1 = ((v % 2 : Nat) : Int) := by
  have h1 := bits_mask .i64 63 (by decide) (fun n h0 h1 => IntWalk.i64_in _ (by omega)) 1 (by decide) (v : Int) (by omega) (by omega)
  have e1 : ((2 : Int) ^ 1 - 1) = 1 := by decide
  have e2 : ((2 : Int) ^ 1) = 2 := by decide
  rw [e1, e2] at h1
  rw [h1]
  omega
theorem own_at0C {w : World} {base n c : Nat} {e : TypeId} {A : Option Addr} {xs : List Value} (h : w.ownsRow base e 1 (.slice A n c) n xs) (hn : 0 < n) : ∃ ga, A = some ⟨ga, 0, none⟩ ∧ base ≤ ga := by
  rcases h.2 with ⟨e1, e2⟩ | ⟨ga, cap, cur, hv, hlt, _⟩
  · injection e1 with e1 e2 e3; omega
  · injection hv with h1 h2 h3
    exact ⟨ga, h1, hlt⟩
theorem ints_setC (l : List Int) (k : Nat) (x : Int) : (ints l).set k (.int .i64 x) = ints (l.set k x) := by simp [ints, List.map_set]
theorem box4_farC {w : World} {b b' i : Nat} {t : TypeId} {v0 v1 v2 v3 u : Value} (h : Box4 w b t v0 v1 v2 v3) (hne : b ≠ b') : Box4 (w.setCell ⟨b', i, none⟩ u) b t v0 v1 v2 v3 := (Below.heap_setCell w ⟨b', i, none⟩ u b hne).trans h
theorem mid_at {α : Type} {M N : List α} {k : Nat} (hl : M.length = N.length) (hk : k < N.length) : (M.take k ++ N.drop k)[k]? = some N[k] := by
  have e : (M.take k).length = k := by simp; omega
  rw [List.getElem?_append_right (by omega), e, Nat.sub_self, List.getElem?_drop]
  simp [hk]
theorem list_set_same {α : Type} {M : List α} {k : Nat} {x : α} (h : M[k]? = some x) : M.set k x = M := by
  apply List.ext_getElem?
  intro j
  rw [List.getElem?_set]
  split
  · next e => subst e; split <;> simp_all
  · rfl

set_option maxHeartbeats 2000000 in
set_option maxRecDepth 100000 in
theorem after_any (g : Nat) (A : Option Addr) (n c : Nat) (D : Int) (trip : Int) (K : Option Addr) (m kc : Nat) (l : List G4) (B : Option Addr) (c2 : Nat) (ns : List Int) (day s : Nat) (w : World) (hn : n ≤ 3) (hs : s ≤ 7) (htr : 0 ≤ trip ∧ trip ≤ 1000) (hd : day ≤ 10) (hb : ∀ x ∈ ns, -1 ≤ x ∧ x ≤ 10) (hgd : goodG l) (hT : TabAt w g A n c D trip K m kc) (h : Reads w 4 A n (rows4 l)) (hl : l.length = n) (h2 : Reads w 1 B n (ints ns)) :
    Calls Try.prog 101 #[.pointer (some ⟨g, 0, none⟩), .int .i64 day, .slice B n c2, .int .i64 s] w fun e w' => Below w.heap.size w w' ∧ ((failsW l (wearsOf l ns day) s = true ∧ e = .returned (.tuple #[.int .i64 0, .slice none 0 0, .bool false])) ∨
      (failsW l (wearsOf l ns day) s = false ∧ ∃ N c3, e = .returned (.tuple #[.int .i64 (setC l trip s), .slice N n c3, .bool true]) ∧ w'.ownsRow w.heap.size 3 1 (.slice N n c3) n (ints (nextS ns s)))) := by
  have HXN := Lib.hid (show ns.length = n by have := h2.1; simpa using this)
  have HXL := Lib.hid hl
  have H := Lib.hid h; have H2 := Lib.hid h2; have HGD := Lib.hid hgd; have HT := Lib.hid hT; have HBN := Lib.hid hb
  clear h h2 hl hgd hT hb
  by_cases hs0 : 0 < s
  · have HS0 := Lib.hid hs0
    obtain ⟨t0, t1, t2, t3⟩ := HT.out.cells
    go_enter Try.func101, Try.ntmps101
    go_wp2_with fail
    clear t0 t1 t2 t3
    refine (l1Own_any B n c2 ns _ (by omega) H2.out).mono ?_
    rintro e w1 ⟨N, c3, rfl, ho, hb⟩
    have HO := Lib.hid ho; have HB := Lib.hid hb
    clear ho hb
    obtain ⟨t0, t1, t2, t3⟩ := (HT.out.below HB.out HT.out.lt).cells
    go_wp2
    clear t0 t1 t2 t3
    go_loopw [11, 28] (fun t i wr => ∃ k : Nat, ∃ q : Int, k ≤ n ∧ i = .int .i64 k ∧ t = .int .i64 q ∧ q + sumC (l.drop k) (s / 2 ^ k) = setC l trip s ∧ failsW (l.drop k) (wearsOf (l.drop k) (ns.drop k) day) (s / 2 ^ k) = failsW l (wearsOf l ns day) s ∧ 0 ≤ q ∧ q ≤ 1000 + 1000 * (k : Int) ∧ wr.ownsRow w.heap.size 3 1 (.slice N n c3) n (ints ((nextS ns s).take k ++ ns.drop k)) ∧ Below w.heap.size w wr) (fun _ i _ => n - (intOf i).toNat)
    case atStart => exact ⟨0, trip, Nat.zero_le _, rfl, rfl, by simp [setC, HS0.out], by simp, by omega, by omega, by simpa using HO.out, HB.out⟩
    case round =>
      obtain ⟨k, q, hk, rfl, rfl, hr1, hr2, hq0, hq1, ho, hb⟩ := hrel
      have HR1 := Lib.hid hr1; have HR2 := Lib.hid hr2; have HO := Lib.hid ho; have HB := Lib.hid hb
      clear hr1 hr2 ho hb
      by_cases hlt : k < n
      · have hxl : k < l.length := by rw [HXL.out]; exact hlt
        have hxn : k < ns.length := by rw [HXN.out]; exact hlt
        obtain ⟨ad, rfl, k0, k1, k2, k3⟩ := rows4_at (H.out.below HB.out) hlt HXL.out
        obtain ⟨ad2, u, rfl, hu, c0⟩ := (H2.out.below HB.out).at_ hlt
        have e0 : u = .int .i64 ns[k] := by simp [ints, hxn] at hu; exact hu.symm
        subst e0
        obtain ⟨gn, rfl, hgn⟩ := own_at0C HO.out (by omega)
        have HMK : Hid (((nextS ns s).take k ++ ns.drop k)[k]? = some ns[k]) := Lib.hid (mid_at (by rw [length_nextS]) hxn)
        have n0 : wr.cell? ⟨gn, k, none⟩ = some (.int .i64 ns[k]) := by
          rw [HO.out.cellAt k (by omega)]; simp only [ints, List.getElem?_map]; rw [HMK.out]; rfl
        have f0 : wr.frozen? ⟨gn, k, none⟩ = false := HO.out.frozenAt k
        have hxb := HBN.out ns[k] (List.getElem_mem hxn)
        have HNX := Lib.hid (nextS_get ns s k hxn)
        have HSA := Lib.hid (sum_at l s k hxl)
        have HFA := Lib.hid (fails_at l ns day s k (by rw [HXN.out, HXL.out]) hxl)
        have hgk := HGD.out _ (List.getElem_mem hxl)
        have HQ := Lib.hid (List.getElem?_eq_getElem hxl)
        have HWG := wr.heap.size
        have hgw : gn < wr.heap.size := World.block_lt_of_cell? wr _ n0
        clear hu HWG
        generalize ns[k] = x at *
        generalize l[k] = gx at *
        obtain ⟨qa, qb, qc, qd⟩ := gx
        simp only at hgk k0 k1 k2 k3
        have hand0 := and_one (s / 2 ^ k) (Nat.le_trans (Nat.div_le_self _ _) (by omega))
        rw [show ((s / 2 ^ k : Nat) : Int) = (s : Int) / 2 ^ k from by simp] at hand0
        have hk0 : (0 : Int) ≤ (k : Int) := by omega
        have hk1 : (k : Int) < (n : Int) := by omega
        have hk64 : (k : Int) ≤ 64 := by omega
        by_cases hbit : s / 2 ^ k % 2 = 1
        · have hand : bits BinOp.and IntKind.i64 ((s : Int) / 2 ^ k) 1 = 1 := by rw [hand0, hbit]; rfl
          clear hand0
          obtain ⟨XX, hXX⟩ : ∃ XX : Int, XX = 1 := ⟨_, rfl⟩
          have hXb : -1 ≤ XX ∧ XX ≤ 11 := by omega
          have HXK : Hid ((nextS ns s)[k]? = some XX) := Lib.hid (by rw [hXX, HNX.out]; simp [hbit])
          have HWV : Hid (wearOf (qa, qb, qc, qd) XX ((day : Int) + 1) = (if s / 2 ^ k % 2 = 1 then 0 else wearOf (qa, qb, qc, qd) x day) + qb) := Lib.hid (by rw [hXX, ← wear_step]; simp [hbit])
          have HNY : Hid (((wr.setCell ⟨gn, k, none⟩ (.int .i64 1)).alloc (.cells #[.int .i64 qa, .int .i64 qb, .int .i64 qc, .int .i64 qd] 26)).ownsRow w.heap.size 3 1 (.slice (some ⟨gn, 0, none⟩) n c3) n (ints ((nextS ns s).take (k + 1) ++ ns.drop (k + 1)))) := Lib.hid (by
            have h1 := (HO.out.stored k (.int .i64 1)).1
            rw [ints_setC, mid2 (by rw [length_nextS]) hxn (show (nextS ns s)[k]? = some 1 from by rw [HXK.out, hXX])] at h1
            exact own_below h1 ((Below.refl _ _).alloc (Nat.le_refl _) _))
          have HBY : Hid (Below w.heap.size w ((wr.setCell ⟨gn, k, none⟩ (.int .i64 1)).alloc (.cells #[.int .i64 qa, .int .i64 qb, .int .i64 qc, .int .i64 qd] 26))) := Lib.hid (HB.out.trans (((Below.refl _ _).setCell (p := ⟨gn, k, none⟩) hgn _).alloc (by first | exact HB.out.size | (simp; exact HB.out.size)) _))
          have HBX : Hid (Box4 ((wr.setCell ⟨gn, k, none⟩ (.int .i64 1)).alloc (.cells #[.int .i64 qa, .int .i64 qb, .int .i64 qc, .int .i64 qd] 26)) wr.heap.size 26 (.int .i64 qa) (.int .i64 qb) (.int .i64 qc) (.int .i64 qd)) := Lib.hid (by
            have h1 := Box4.new (wr.setCell ⟨gn, k, none⟩ (.int .i64 1)) 26 (.int .i64 qa) (.int .i64 qb) (.int .i64 qc) (.int .i64 qd)
            rw [World.size_setCell] at h1
            exact h1)
          have hdw : IntKind.i64.wrap ((day : Int) + 1) = (day : Int) + 1 := IntWalk.i64_in _ (by omega)
          obtain ⟨wy, hwy⟩ : ∃ wy, wy = ((wr.setCell ⟨gn, k, none⟩ (.int .i64 1)).alloc (.cells #[.int .i64 qa, .int .i64 qb, .int .i64 qc, .int .i64 qd] 26)) := ⟨_, rfl⟩
          rw [← hwy] at HNY HBY HBX
          have HWY := Lib.hid hwy
          have HAL : Hid (Below wr.heap.size wr (wr.alloc (.cells #[.int .i64 qa, .int .i64 qb, .int .i64 qc, .int .i64 qd] 26))) := Lib.hid ((Below.refl _ _).alloc (Nat.le_refl _) _)
          have c1 : (wr.alloc (.cells #[.int .i64 qa, .int .i64 qb, .int .i64 qc, .int .i64 qd] 26)).cell? (ad2.add k) = some (.int .i64 x) := (HAL.out.cell (World.block_lt_of_cell? wr _ c0)).trans c0
          go_wp2
          clear c1 k0 k1 k2 k3 c0 n0 f0
          rw [← HWY.out]
          have HTY := Lib.hid (HT.out.below HBY.out HT.out.lt)
          have HRY := Lib.hid (H.out.below HBY.out)
          have HWE := Lib.hid (fun V : InB wy => wear_any g (some ad) n c D trip K m kc l k XX ((day : Int) + 1) V.1 hlt hn hXb (by omega) HGD.out (HTY.out.below V.2 HTY.out.lt) (HRY.out.below V.2) HXL.out (qa, qb, qc, qd) HQ.out)
          obtain ⟨z0, z1, z2, z3⟩ := HBX.out.cells
          have X2 : ∀ V : InB wy, V.1.cell? ⟨wr.heap.size, 2, none⟩ = some (.int .i64 qc) := fun V => V.cell z2
          have hny : wy.cell? ⟨gn, k, none⟩ = some (.int .i64 XX) := by
            rw [HNY.out.cellAt k (by omega)]
            simp only [ints, List.getElem?_map]
            rw [List.getElem?_append_left (by simp; omega), List.getElem?_take_of_lt (by omega), HXK.out]
            rfl
          have XN : ∀ V : InB wy, V.1.cell? ⟨gn, k, none⟩ = some (.int .i64 XX) := fun V => V.cell hny
          clear z0 z1 z2 z3 hny hwy hXX hand
          generalize wearOf (qa, qb, qc, qd) XX ((day : Int) + 1) = wv at *
          refine wp_region_below wy (by kernel_rfl) (by kernel_rfl) (by first | assumption | exact Below.refl _ _) ?_
          repeat (go_big_quiet_step ((go_at_call 108; exact bel_quiet (HWE.out _))))
          refine wpQuiet_nil ?_
          intro wb hw'
          obtain ⟨⟨wb', hB⟩, hwb⟩ := hw'
          simp only at hwb
          subst hwb
          try simp only at hB ⊢
          clear X2 XN HWE
          have HB2 := Lib.hid (HBY.out.trans (hB.mono HBY.out.size))
          have HO2 := Lib.hid (own_below HNY.out hB)
          clear hB
          have hfa := HFA.out
          try simp only at hfa
          rw [← HWV.out, HR2.out] at hfa
          have HFF := Lib.hid hfa
          clear hfa
          by_cases hf : qc < wv
          · have HRES : Hid (failsW l (wearsOf l ns day) s = true) := Lib.hid (by rw [HFF.out]; simp [hf])
            go_wp2
            go_ret3
            exact ⟨HB2.out, .inl ⟨HRES.out, rfl⟩⟩
          · have HRES : Hid (failsW (l.drop (k + 1)) (wearsOf (l.drop (k + 1)) (ns.drop (k + 1)) day) (s / 2 ^ (k + 1)) = failsW l (wearsOf l ns day) s) := Lib.hid (by rw [HFF.out]; simp [hf])
            have HSS : Hid (q + qd + sumC (l.drop (k + 1)) (s / 2 ^ (k + 1)) = setC l trip s) := Lib.hid (by
              have h1 := HSA.out
              simp only [hbit, if_true, if_false] at h1
              rw [← HR1.out, h1]
              omega)
            go_wp2
            go_roundw
            case rel => exact ⟨k + 1, q + qd, by omega, by go_num, rfl, HSS.out, HRES.out, by omega, by omega, HO2.out, HB2.out⟩
            case measure => simp [intOf]; omega
        · have hand : bits BinOp.and IntKind.i64 ((s : Int) / 2 ^ k) 1 = 0 := by rw [hand0, show s / 2 ^ k % 2 = 0 by omega]; rfl
          clear hand0
          by_cases hx0 : 0 ≤ x
          · obtain ⟨XX, hXX⟩ : ∃ XX : Int, XX = (x + 1) := ⟨_, rfl⟩
            have hXb : -1 ≤ XX ∧ XX ≤ 11 := by omega
            have HXK : Hid ((nextS ns s)[k]? = some XX) := Lib.hid (by rw [hXX, HNX.out]; simp [hbit, hx0])
            have HWV : Hid (wearOf (qa, qb, qc, qd) XX ((day : Int) + 1) = (if s / 2 ^ k % 2 = 1 then 0 else wearOf (qa, qb, qc, qd) x day) + qb) := Lib.hid (by rw [hXX, ← wear_step]; simp [hbit, hx0])
            have HNY : Hid (((wr.setCell ⟨gn, k, none⟩ (.int .i64 (x + 1))).alloc (.cells #[.int .i64 qa, .int .i64 qb, .int .i64 qc, .int .i64 qd] 26)).ownsRow w.heap.size 3 1 (.slice (some ⟨gn, 0, none⟩) n c3) n (ints ((nextS ns s).take (k + 1) ++ ns.drop (k + 1)))) := Lib.hid (by
              have h1 := (HO.out.stored k (.int .i64 (x + 1))).1
              rw [ints_setC, mid2 (by rw [length_nextS]) hxn (show (nextS ns s)[k]? = some (x + 1) from by rw [HXK.out, hXX])] at h1
              exact own_below h1 ((Below.refl _ _).alloc (Nat.le_refl _) _))
            have HBY : Hid (Below w.heap.size w ((wr.setCell ⟨gn, k, none⟩ (.int .i64 (x + 1))).alloc (.cells #[.int .i64 qa, .int .i64 qb, .int .i64 qc, .int .i64 qd] 26))) := Lib.hid (HB.out.trans (((Below.refl _ _).setCell (p := ⟨gn, k, none⟩) hgn _).alloc (by first | exact HB.out.size | (simp; exact HB.out.size)) _))
            have HBX : Hid (Box4 ((wr.setCell ⟨gn, k, none⟩ (.int .i64 (x + 1))).alloc (.cells #[.int .i64 qa, .int .i64 qb, .int .i64 qc, .int .i64 qd] 26)) wr.heap.size 26 (.int .i64 qa) (.int .i64 qb) (.int .i64 qc) (.int .i64 qd)) := Lib.hid (by
              have h1 := Box4.new (wr.setCell ⟨gn, k, none⟩ (.int .i64 (x + 1))) 26 (.int .i64 qa) (.int .i64 qb) (.int .i64 qc) (.int .i64 qd)
              rw [World.size_setCell] at h1
              exact h1)
            have hdw : IntKind.i64.wrap ((day : Int) + 1) = (day : Int) + 1 := IntWalk.i64_in _ (by omega)
            obtain ⟨wy, hwy⟩ : ∃ wy, wy = ((wr.setCell ⟨gn, k, none⟩ (.int .i64 (x + 1))).alloc (.cells #[.int .i64 qa, .int .i64 qb, .int .i64 qc, .int .i64 qd] 26)) := ⟨_, rfl⟩
            rw [← hwy] at HNY HBY HBX
            have HWY := Lib.hid hwy
            have HAL : Hid (Below wr.heap.size wr (wr.alloc (.cells #[.int .i64 qa, .int .i64 qb, .int .i64 qc, .int .i64 qd] 26))) := Lib.hid ((Below.refl _ _).alloc (Nat.le_refl _) _)
            have c1 : (wr.alloc (.cells #[.int .i64 qa, .int .i64 qb, .int .i64 qc, .int .i64 qd] 26)).cell? (ad2.add k) = some (.int .i64 x) := (HAL.out.cell (World.block_lt_of_cell? wr _ c0)).trans c0
            go_wp2
            clear c1 k0 k1 k2 k3 c0 n0 f0
            rw [← HWY.out]
            have HTY := Lib.hid (HT.out.below HBY.out HT.out.lt)
            have HRY := Lib.hid (H.out.below HBY.out)
            have HWE := Lib.hid (fun V : InB wy => wear_any g (some ad) n c D trip K m kc l k XX ((day : Int) + 1) V.1 hlt hn hXb (by omega) HGD.out (HTY.out.below V.2 HTY.out.lt) (HRY.out.below V.2) HXL.out (qa, qb, qc, qd) HQ.out)
            obtain ⟨z0, z1, z2, z3⟩ := HBX.out.cells
            have X2 : ∀ V : InB wy, V.1.cell? ⟨wr.heap.size, 2, none⟩ = some (.int .i64 qc) := fun V => V.cell z2
            have hny : wy.cell? ⟨gn, k, none⟩ = some (.int .i64 XX) := by
              rw [HNY.out.cellAt k (by omega)]
              simp only [ints, List.getElem?_map]
              rw [List.getElem?_append_left (by simp; omega), List.getElem?_take_of_lt (by omega), HXK.out]
              rfl
            have XN : ∀ V : InB wy, V.1.cell? ⟨gn, k, none⟩ = some (.int .i64 XX) := fun V => V.cell hny
            clear z0 z1 z2 z3 hny hwy hXX hand
            generalize wearOf (qa, qb, qc, qd) XX ((day : Int) + 1) = wv at *
            refine wp_region_below wy (by kernel_rfl) (by kernel_rfl) (by first | assumption | exact Below.refl _ _) ?_
            repeat (go_big_quiet_step ((go_at_call 108; exact bel_quiet (HWE.out _))))
            refine wpQuiet_nil ?_
            intro wb hw'
            obtain ⟨⟨wb', hB⟩, hwb⟩ := hw'
            simp only at hwb
            subst hwb
            try simp only at hB ⊢
            clear X2 XN HWE
            have HB2 := Lib.hid (HBY.out.trans (hB.mono HBY.out.size))
            have HO2 := Lib.hid (own_below HNY.out hB)
            clear hB
            have hfa := HFA.out
            try simp only at hfa
            rw [← HWV.out, HR2.out] at hfa
            have HFF := Lib.hid hfa
            clear hfa
            by_cases hf : qc < wv
            · have HRES : Hid (failsW l (wearsOf l ns day) s = true) := Lib.hid (by rw [HFF.out]; simp [hf])
              go_wp2
              go_ret3
              exact ⟨HB2.out, .inl ⟨HRES.out, rfl⟩⟩
            · have HRES : Hid (failsW (l.drop (k + 1)) (wearsOf (l.drop (k + 1)) (ns.drop (k + 1)) day) (s / 2 ^ (k + 1)) = failsW l (wearsOf l ns day) s) := Lib.hid (by rw [HFF.out]; simp [hf])
              have HSS : Hid (q + sumC (l.drop (k + 1)) (s / 2 ^ (k + 1)) = setC l trip s) := Lib.hid (by
                have h1 := HSA.out
                simp only [hbit, if_true, if_false] at h1
                rw [← HR1.out, h1]
                omega)
              go_wp2
              go_roundw
              case rel => exact ⟨k + 1, q, by omega, by go_num, rfl, HSS.out, HRES.out, by omega, by omega, HO2.out, HB2.out⟩
              case measure => simp [intOf]; omega
          · obtain ⟨XX, hXX⟩ : ∃ XX : Int, XX = x := ⟨_, rfl⟩
            have hXb : -1 ≤ XX ∧ XX ≤ 11 := by omega
            have HXK : Hid ((nextS ns s)[k]? = some XX) := Lib.hid (by rw [hXX, HNX.out]; simp [hbit, hx0])
            have HWV : Hid (wearOf (qa, qb, qc, qd) XX ((day : Int) + 1) = (if s / 2 ^ k % 2 = 1 then 0 else wearOf (qa, qb, qc, qd) x day) + qb) := Lib.hid (by rw [hXX, ← wear_step]; simp [hbit, hx0])
            have HNY : Hid ((wr.alloc (.cells #[.int .i64 qa, .int .i64 qb, .int .i64 qc, .int .i64 qd] 26)).ownsRow w.heap.size 3 1 (.slice (some ⟨gn, 0, none⟩) n c3) n (ints ((nextS ns s).take (k + 1) ++ ns.drop (k + 1)))) := Lib.hid (by
              have h1 := HO.out
              rw [← list_set_same HMK.out, mid2 (M := nextS ns s) (N := ns) (by rw [length_nextS]) hxn (show (nextS ns s)[k]? = some x from by rw [HXK.out, hXX])] at h1
              exact own_below h1 ((Below.refl _ _).alloc (Nat.le_refl _) _))
            have HBY : Hid (Below w.heap.size w (wr.alloc (.cells #[.int .i64 qa, .int .i64 qb, .int .i64 qc, .int .i64 qd] 26))) := Lib.hid (HB.out.trans ((Below.refl _ _).alloc (by first | exact HB.out.size | (simp; exact HB.out.size)) _))
            have HBX : Hid (Box4 (wr.alloc (.cells #[.int .i64 qa, .int .i64 qb, .int .i64 qc, .int .i64 qd] 26)) wr.heap.size 26 (.int .i64 qa) (.int .i64 qb) (.int .i64 qc) (.int .i64 qd)) := Lib.hid (by
              have h1 := Box4.new wr 26 (.int .i64 qa) (.int .i64 qb) (.int .i64 qc) (.int .i64 qd)
              skip
              exact h1)
            have hdw : IntKind.i64.wrap ((day : Int) + 1) = (day : Int) + 1 := IntWalk.i64_in _ (by omega)
            obtain ⟨wy, hwy⟩ : ∃ wy, wy = (wr.alloc (.cells #[.int .i64 qa, .int .i64 qb, .int .i64 qc, .int .i64 qd] 26)) := ⟨_, rfl⟩
            rw [← hwy] at HNY HBY HBX
            have HWY := Lib.hid hwy
            have HAL : Hid (Below wr.heap.size wr (wr.alloc (.cells #[.int .i64 qa, .int .i64 qb, .int .i64 qc, .int .i64 qd] 26))) := Lib.hid ((Below.refl _ _).alloc (Nat.le_refl _) _)
            have c1 : (wr.alloc (.cells #[.int .i64 qa, .int .i64 qb, .int .i64 qc, .int .i64 qd] 26)).cell? (ad2.add k) = some (.int .i64 x) := (HAL.out.cell (World.block_lt_of_cell? wr _ c0)).trans c0
            go_wp2
            clear c1 k0 k1 k2 k3 c0 n0 f0
            rw [← HWY.out]
            have HTY := Lib.hid (HT.out.below HBY.out HT.out.lt)
            have HRY := Lib.hid (H.out.below HBY.out)
            have HWE := Lib.hid (fun V : InB wy => wear_any g (some ad) n c D trip K m kc l k XX ((day : Int) + 1) V.1 hlt hn hXb (by omega) HGD.out (HTY.out.below V.2 HTY.out.lt) (HRY.out.below V.2) HXL.out (qa, qb, qc, qd) HQ.out)
            obtain ⟨z0, z1, z2, z3⟩ := HBX.out.cells
            have X2 : ∀ V : InB wy, V.1.cell? ⟨wr.heap.size, 2, none⟩ = some (.int .i64 qc) := fun V => V.cell z2
            have hny : wy.cell? ⟨gn, k, none⟩ = some (.int .i64 XX) := by
              rw [HNY.out.cellAt k (by omega)]
              simp only [ints, List.getElem?_map]
              rw [List.getElem?_append_left (by simp; omega), List.getElem?_take_of_lt (by omega), HXK.out]
              rfl
            have XN : ∀ V : InB wy, V.1.cell? ⟨gn, k, none⟩ = some (.int .i64 XX) := fun V => V.cell hny
            clear z0 z1 z2 z3 hny hwy hXX hand
            generalize wearOf (qa, qb, qc, qd) XX ((day : Int) + 1) = wv at *
            refine wp_region_below wy (by kernel_rfl) (by kernel_rfl) (by first | assumption | exact Below.refl _ _) ?_
            repeat (go_big_quiet_step ((go_at_call 108; exact bel_quiet (HWE.out _))))
            refine wpQuiet_nil ?_
            intro wb hw'
            obtain ⟨⟨wb', hB⟩, hwb⟩ := hw'
            simp only at hwb
            subst hwb
            try simp only at hB ⊢
            clear X2 XN HWE
            have HB2 := Lib.hid (HBY.out.trans (hB.mono HBY.out.size))
            have HO2 := Lib.hid (own_below HNY.out hB)
            clear hB
            have hfa := HFA.out
            try simp only at hfa
            rw [← HWV.out, HR2.out] at hfa
            have HFF := Lib.hid hfa
            clear hfa
            by_cases hf : qc < wv
            · have HRES : Hid (failsW l (wearsOf l ns day) s = true) := Lib.hid (by rw [HFF.out]; simp [hf])
              go_wp2
              go_ret3
              exact ⟨HB2.out, .inl ⟨HRES.out, rfl⟩⟩
            · have HRES : Hid (failsW (l.drop (k + 1)) (wearsOf (l.drop (k + 1)) (ns.drop (k + 1)) day) (s / 2 ^ (k + 1)) = failsW l (wearsOf l ns day) s) := Lib.hid (by rw [HFF.out]; simp [hf])
              have HSS : Hid (q + sumC (l.drop (k + 1)) (s / 2 ^ (k + 1)) = setC l trip s) := Lib.hid (by
                have h1 := HSA.out
                simp only [hbit, if_true, if_false] at h1
                rw [← HR1.out, h1]
                omega)
              go_wp2
              go_roundw
              case rel => exact ⟨k + 1, q, by omega, by go_num, rfl, HSS.out, HRES.out, by omega, by omega, HO2.out, HB2.out⟩
              case measure => simp [intOf]; omega
      · have e1 : l.drop k = [] := List.drop_eq_nil_of_le (by rw [HXL.out]; omega)
        have e2 : ns.drop k = [] := List.drop_eq_nil_of_le (by rw [HXN.out]; omega)
        have e3 : (nextS ns s).take k = nextS ns s := List.take_of_length_le (by rw [length_nextS, HXN.out]; omega)
        have h1 := HR1.out; have h2 := HR2.out; have h3 := HO.out
        rw [e1] at h1 h2
        rw [e2, e3, List.append_nil] at h3
        have HQS : Hid (q = setC l trip s) := Lib.hid (by rw [← h1]; simp [sumC])
        have HFS : Hid (failsW l (wearsOf l ns day) s = false) := Lib.hid (by rw [← h2]; simp [failsW])
        have HO3 := Lib.hid h3
        clear e1 e2 e3 h1 h2 h3
        have hqq := HQS.out
        subst hqq
        go_wp2
        go_ret3
        exact ⟨HB.out, .inr ⟨HFS.out, N, c3, rfl, HO3.out⟩⟩
  · have HS0 := Lib.hid hs0
    obtain ⟨t0, t1, t2, t3⟩ := HT.out.cells
    go_enter Try.func101, Try.ntmps101
    go_wp2_with fail
    clear t0 t1 t2 t3
    refine (l1Own_any B n c2 ns _ (by omega) H2.out).mono ?_
    rintro e w1 ⟨N, c3, rfl, ho, hb⟩
    have HO := Lib.hid ho; have HB := Lib.hid hb
    clear ho hb
    obtain ⟨t0, t1, t2, t3⟩ := (HT.out.below HB.out HT.out.lt).cells
    go_wp2
    clear t0 t1 t2 t3
    go_loopw [11, 28] (fun t i wr => ∃ k : Nat, ∃ q : Int, k ≤ n ∧ i = .int .i64 k ∧ t = .int .i64 q ∧ q + sumC (l.drop k) (s / 2 ^ k) = setC l trip s ∧ failsW (l.drop k) (wearsOf (l.drop k) (ns.drop k) day) (s / 2 ^ k) = failsW l (wearsOf l ns day) s ∧ 0 ≤ q ∧ q ≤ 1000 + 1000 * (k : Int) ∧ wr.ownsRow w.heap.size 3 1 (.slice N n c3) n (ints ((nextS ns s).take k ++ ns.drop k)) ∧ Below w.heap.size w wr) (fun _ i _ => n - (intOf i).toNat)
    case atStart => exact ⟨0, 0, Nat.zero_le _, rfl, rfl, by simp [setC, HS0.out], by simp, by omega, by omega, by simpa using HO.out, HB.out⟩
    case round =>
      obtain ⟨k, q, hk, rfl, rfl, hr1, hr2, hq0, hq1, ho, hb⟩ := hrel
      have HR1 := Lib.hid hr1; have HR2 := Lib.hid hr2; have HO := Lib.hid ho; have HB := Lib.hid hb
      clear hr1 hr2 ho hb
      by_cases hlt : k < n
      · have hxl : k < l.length := by rw [HXL.out]; exact hlt
        have hxn : k < ns.length := by rw [HXN.out]; exact hlt
        obtain ⟨ad, rfl, k0, k1, k2, k3⟩ := rows4_at (H.out.below HB.out) hlt HXL.out
        obtain ⟨ad2, u, rfl, hu, c0⟩ := (H2.out.below HB.out).at_ hlt
        have e0 : u = .int .i64 ns[k] := by simp [ints, hxn] at hu; exact hu.symm
        subst e0
        obtain ⟨gn, rfl, hgn⟩ := own_at0C HO.out (by omega)
        have HMK : Hid (((nextS ns s).take k ++ ns.drop k)[k]? = some ns[k]) := Lib.hid (mid_at (by rw [length_nextS]) hxn)
        have n0 : wr.cell? ⟨gn, k, none⟩ = some (.int .i64 ns[k]) := by
          rw [HO.out.cellAt k (by omega)]; simp only [ints, List.getElem?_map]; rw [HMK.out]; rfl
        have f0 : wr.frozen? ⟨gn, k, none⟩ = false := HO.out.frozenAt k
        have hxb := HBN.out ns[k] (List.getElem_mem hxn)
        have HNX := Lib.hid (nextS_get ns s k hxn)
        have HSA := Lib.hid (sum_at l s k hxl)
        have HFA := Lib.hid (fails_at l ns day s k (by rw [HXN.out, HXL.out]) hxl)
        have hgk := HGD.out _ (List.getElem_mem hxl)
        have HQ := Lib.hid (List.getElem?_eq_getElem hxl)
        have HWG := wr.heap.size
        have hgw : gn < wr.heap.size := World.block_lt_of_cell? wr _ n0
        clear hu HWG
        generalize ns[k] = x at *
        generalize l[k] = gx at *
        obtain ⟨qa, qb, qc, qd⟩ := gx
        simp only at hgk k0 k1 k2 k3
        have hand0 := and_one (s / 2 ^ k) (Nat.le_trans (Nat.div_le_self _ _) (by omega))
        rw [show ((s / 2 ^ k : Nat) : Int) = (s : Int) / 2 ^ k from by simp] at hand0
        have hk0 : (0 : Int) ≤ (k : Int) := by omega
        have hk1 : (k : Int) < (n : Int) := by omega
        have hk64 : (k : Int) ≤ 64 := by omega
        by_cases hbit : s / 2 ^ k % 2 = 1
        · have hand : bits BinOp.and IntKind.i64 ((s : Int) / 2 ^ k) 1 = 1 := by rw [hand0, hbit]; rfl
          clear hand0
          obtain ⟨XX, hXX⟩ : ∃ XX : Int, XX = 1 := ⟨_, rfl⟩
          have hXb : -1 ≤ XX ∧ XX ≤ 11 := by omega
          have HXK : Hid ((nextS ns s)[k]? = some XX) := Lib.hid (by rw [hXX, HNX.out]; simp [hbit])
          have HWV : Hid (wearOf (qa, qb, qc, qd) XX ((day : Int) + 1) = (if s / 2 ^ k % 2 = 1 then 0 else wearOf (qa, qb, qc, qd) x day) + qb) := Lib.hid (by rw [hXX, ← wear_step]; simp [hbit])
          have HNY : Hid (((wr.setCell ⟨gn, k, none⟩ (.int .i64 1)).alloc (.cells #[.int .i64 qa, .int .i64 qb, .int .i64 qc, .int .i64 qd] 26)).ownsRow w.heap.size 3 1 (.slice (some ⟨gn, 0, none⟩) n c3) n (ints ((nextS ns s).take (k + 1) ++ ns.drop (k + 1)))) := Lib.hid (by
            have h1 := (HO.out.stored k (.int .i64 1)).1
            rw [ints_setC, mid2 (by rw [length_nextS]) hxn (show (nextS ns s)[k]? = some 1 from by rw [HXK.out, hXX])] at h1
            exact own_below h1 ((Below.refl _ _).alloc (Nat.le_refl _) _))
          have HBY : Hid (Below w.heap.size w ((wr.setCell ⟨gn, k, none⟩ (.int .i64 1)).alloc (.cells #[.int .i64 qa, .int .i64 qb, .int .i64 qc, .int .i64 qd] 26))) := Lib.hid (HB.out.trans (((Below.refl _ _).setCell (p := ⟨gn, k, none⟩) hgn _).alloc (by first | exact HB.out.size | (simp; exact HB.out.size)) _))
          have HBX : Hid (Box4 ((wr.setCell ⟨gn, k, none⟩ (.int .i64 1)).alloc (.cells #[.int .i64 qa, .int .i64 qb, .int .i64 qc, .int .i64 qd] 26)) wr.heap.size 26 (.int .i64 qa) (.int .i64 qb) (.int .i64 qc) (.int .i64 qd)) := Lib.hid (by
            have h1 := Box4.new (wr.setCell ⟨gn, k, none⟩ (.int .i64 1)) 26 (.int .i64 qa) (.int .i64 qb) (.int .i64 qc) (.int .i64 qd)
            rw [World.size_setCell] at h1
            exact h1)
          have hdw : IntKind.i64.wrap ((day : Int) + 1) = (day : Int) + 1 := IntWalk.i64_in _ (by omega)
          obtain ⟨wy, hwy⟩ : ∃ wy, wy = ((wr.setCell ⟨gn, k, none⟩ (.int .i64 1)).alloc (.cells #[.int .i64 qa, .int .i64 qb, .int .i64 qc, .int .i64 qd] 26)) := ⟨_, rfl⟩
          rw [← hwy] at HNY HBY HBX
          have HWY := Lib.hid hwy
          have HAL : Hid (Below wr.heap.size wr (wr.alloc (.cells #[.int .i64 qa, .int .i64 qb, .int .i64 qc, .int .i64 qd] 26))) := Lib.hid ((Below.refl _ _).alloc (Nat.le_refl _) _)
          have c1 : (wr.alloc (.cells #[.int .i64 qa, .int .i64 qb, .int .i64 qc, .int .i64 qd] 26)).cell? (ad2.add k) = some (.int .i64 x) := (HAL.out.cell (World.block_lt_of_cell? wr _ c0)).trans c0
          go_wp2
          clear c1 k0 k1 k2 k3 c0 n0 f0
          rw [← HWY.out]
          have HTY := Lib.hid (HT.out.below HBY.out HT.out.lt)
          have HRY := Lib.hid (H.out.below HBY.out)
          have HWE := Lib.hid (fun V : InB wy => wear_any g (some ad) n c D trip K m kc l k XX ((day : Int) + 1) V.1 hlt hn hXb (by omega) HGD.out (HTY.out.below V.2 HTY.out.lt) (HRY.out.below V.2) HXL.out (qa, qb, qc, qd) HQ.out)
          obtain ⟨z0, z1, z2, z3⟩ := HBX.out.cells
          have X2 : ∀ V : InB wy, V.1.cell? ⟨wr.heap.size, 2, none⟩ = some (.int .i64 qc) := fun V => V.cell z2
          have hny : wy.cell? ⟨gn, k, none⟩ = some (.int .i64 XX) := by
            rw [HNY.out.cellAt k (by omega)]
            simp only [ints, List.getElem?_map]
            rw [List.getElem?_append_left (by simp; omega), List.getElem?_take_of_lt (by omega), HXK.out]
            rfl
          have XN : ∀ V : InB wy, V.1.cell? ⟨gn, k, none⟩ = some (.int .i64 XX) := fun V => V.cell hny
          clear z0 z1 z2 z3 hny hwy hXX hand
          generalize wearOf (qa, qb, qc, qd) XX ((day : Int) + 1) = wv at *
          refine wp_region_below wy (by kernel_rfl) (by kernel_rfl) (by first | assumption | exact Below.refl _ _) ?_
          repeat (go_big_quiet_step ((go_at_call 108; exact bel_quiet (HWE.out _))))
          refine wpQuiet_nil ?_
          intro wb hw'
          obtain ⟨⟨wb', hB⟩, hwb⟩ := hw'
          simp only at hwb
          subst hwb
          try simp only at hB ⊢
          clear X2 XN HWE
          have HB2 := Lib.hid (HBY.out.trans (hB.mono HBY.out.size))
          have HO2 := Lib.hid (own_below HNY.out hB)
          clear hB
          have hfa := HFA.out
          try simp only at hfa
          rw [← HWV.out, HR2.out] at hfa
          have HFF := Lib.hid hfa
          clear hfa
          by_cases hf : qc < wv
          · have HRES : Hid (failsW l (wearsOf l ns day) s = true) := Lib.hid (by rw [HFF.out]; simp [hf])
            go_wp2
            go_ret3
            exact ⟨HB2.out, .inl ⟨HRES.out, rfl⟩⟩
          · have HRES : Hid (failsW (l.drop (k + 1)) (wearsOf (l.drop (k + 1)) (ns.drop (k + 1)) day) (s / 2 ^ (k + 1)) = failsW l (wearsOf l ns day) s) := Lib.hid (by rw [HFF.out]; simp [hf])
            have HSS : Hid (q + qd + sumC (l.drop (k + 1)) (s / 2 ^ (k + 1)) = setC l trip s) := Lib.hid (by
              have h1 := HSA.out
              simp only [hbit, if_true, if_false] at h1
              rw [← HR1.out, h1]
              omega)
            go_wp2
            go_roundw
            case rel => exact ⟨k + 1, q + qd, by omega, by go_num, rfl, HSS.out, HRES.out, by omega, by omega, HO2.out, HB2.out⟩
            case measure => simp [intOf]; omega
        · have hand : bits BinOp.and IntKind.i64 ((s : Int) / 2 ^ k) 1 = 0 := by rw [hand0, show s / 2 ^ k % 2 = 0 by omega]; rfl
          clear hand0
          by_cases hx0 : 0 ≤ x
          · obtain ⟨XX, hXX⟩ : ∃ XX : Int, XX = (x + 1) := ⟨_, rfl⟩
            have hXb : -1 ≤ XX ∧ XX ≤ 11 := by omega
            have HXK : Hid ((nextS ns s)[k]? = some XX) := Lib.hid (by rw [hXX, HNX.out]; simp [hbit, hx0])
            have HWV : Hid (wearOf (qa, qb, qc, qd) XX ((day : Int) + 1) = (if s / 2 ^ k % 2 = 1 then 0 else wearOf (qa, qb, qc, qd) x day) + qb) := Lib.hid (by rw [hXX, ← wear_step]; simp [hbit, hx0])
            have HNY : Hid (((wr.setCell ⟨gn, k, none⟩ (.int .i64 (x + 1))).alloc (.cells #[.int .i64 qa, .int .i64 qb, .int .i64 qc, .int .i64 qd] 26)).ownsRow w.heap.size 3 1 (.slice (some ⟨gn, 0, none⟩) n c3) n (ints ((nextS ns s).take (k + 1) ++ ns.drop (k + 1)))) := Lib.hid (by
              have h1 := (HO.out.stored k (.int .i64 (x + 1))).1
              rw [ints_setC, mid2 (by rw [length_nextS]) hxn (show (nextS ns s)[k]? = some (x + 1) from by rw [HXK.out, hXX])] at h1
              exact own_below h1 ((Below.refl _ _).alloc (Nat.le_refl _) _))
            have HBY : Hid (Below w.heap.size w ((wr.setCell ⟨gn, k, none⟩ (.int .i64 (x + 1))).alloc (.cells #[.int .i64 qa, .int .i64 qb, .int .i64 qc, .int .i64 qd] 26))) := Lib.hid (HB.out.trans (((Below.refl _ _).setCell (p := ⟨gn, k, none⟩) hgn _).alloc (by first | exact HB.out.size | (simp; exact HB.out.size)) _))
            have HBX : Hid (Box4 ((wr.setCell ⟨gn, k, none⟩ (.int .i64 (x + 1))).alloc (.cells #[.int .i64 qa, .int .i64 qb, .int .i64 qc, .int .i64 qd] 26)) wr.heap.size 26 (.int .i64 qa) (.int .i64 qb) (.int .i64 qc) (.int .i64 qd)) := Lib.hid (by
              have h1 := Box4.new (wr.setCell ⟨gn, k, none⟩ (.int .i64 (x + 1))) 26 (.int .i64 qa) (.int .i64 qb) (.int .i64 qc) (.int .i64 qd)
              rw [World.size_setCell] at h1
              exact h1)
            have hdw : IntKind.i64.wrap ((day : Int) + 1) = (day : Int) + 1 := IntWalk.i64_in _ (by omega)
            obtain ⟨wy, hwy⟩ : ∃ wy, wy = ((wr.setCell ⟨gn, k, none⟩ (.int .i64 (x + 1))).alloc (.cells #[.int .i64 qa, .int .i64 qb, .int .i64 qc, .int .i64 qd] 26)) := ⟨_, rfl⟩
            rw [← hwy] at HNY HBY HBX
            have HWY := Lib.hid hwy
            have HAL : Hid (Below wr.heap.size wr (wr.alloc (.cells #[.int .i64 qa, .int .i64 qb, .int .i64 qc, .int .i64 qd] 26))) := Lib.hid ((Below.refl _ _).alloc (Nat.le_refl _) _)
            have c1 : (wr.alloc (.cells #[.int .i64 qa, .int .i64 qb, .int .i64 qc, .int .i64 qd] 26)).cell? (ad2.add k) = some (.int .i64 x) := (HAL.out.cell (World.block_lt_of_cell? wr _ c0)).trans c0
            go_wp2
            clear c1 k0 k1 k2 k3 c0 n0 f0
            rw [← HWY.out]
            have HTY := Lib.hid (HT.out.below HBY.out HT.out.lt)
            have HRY := Lib.hid (H.out.below HBY.out)
            have HWE := Lib.hid (fun V : InB wy => wear_any g (some ad) n c D trip K m kc l k XX ((day : Int) + 1) V.1 hlt hn hXb (by omega) HGD.out (HTY.out.below V.2 HTY.out.lt) (HRY.out.below V.2) HXL.out (qa, qb, qc, qd) HQ.out)
            obtain ⟨z0, z1, z2, z3⟩ := HBX.out.cells
            have X2 : ∀ V : InB wy, V.1.cell? ⟨wr.heap.size, 2, none⟩ = some (.int .i64 qc) := fun V => V.cell z2
            have hny : wy.cell? ⟨gn, k, none⟩ = some (.int .i64 XX) := by
              rw [HNY.out.cellAt k (by omega)]
              simp only [ints, List.getElem?_map]
              rw [List.getElem?_append_left (by simp; omega), List.getElem?_take_of_lt (by omega), HXK.out]
              rfl
            have XN : ∀ V : InB wy, V.1.cell? ⟨gn, k, none⟩ = some (.int .i64 XX) := fun V => V.cell hny
            clear z0 z1 z2 z3 hny hwy hXX hand
            generalize wearOf (qa, qb, qc, qd) XX ((day : Int) + 1) = wv at *
            refine wp_region_below wy (by kernel_rfl) (by kernel_rfl) (by first | assumption | exact Below.refl _ _) ?_
            repeat (go_big_quiet_step ((go_at_call 108; exact bel_quiet (HWE.out _))))
            refine wpQuiet_nil ?_
            intro wb hw'
            obtain ⟨⟨wb', hB⟩, hwb⟩ := hw'
            simp only at hwb
            subst hwb
            try simp only at hB ⊢
            clear X2 XN HWE
            have HB2 := Lib.hid (HBY.out.trans (hB.mono HBY.out.size))
            have HO2 := Lib.hid (own_below HNY.out hB)
            clear hB
            have hfa := HFA.out
            try simp only at hfa
            rw [← HWV.out, HR2.out] at hfa
            have HFF := Lib.hid hfa
            clear hfa
            by_cases hf : qc < wv
            · have HRES : Hid (failsW l (wearsOf l ns day) s = true) := Lib.hid (by rw [HFF.out]; simp [hf])
              go_wp2
              go_ret3
              exact ⟨HB2.out, .inl ⟨HRES.out, rfl⟩⟩
            · have HRES : Hid (failsW (l.drop (k + 1)) (wearsOf (l.drop (k + 1)) (ns.drop (k + 1)) day) (s / 2 ^ (k + 1)) = failsW l (wearsOf l ns day) s) := Lib.hid (by rw [HFF.out]; simp [hf])
              have HSS : Hid (q + sumC (l.drop (k + 1)) (s / 2 ^ (k + 1)) = setC l trip s) := Lib.hid (by
                have h1 := HSA.out
                simp only [hbit, if_true, if_false] at h1
                rw [← HR1.out, h1]
                omega)
              go_wp2
              go_roundw
              case rel => exact ⟨k + 1, q, by omega, by go_num, rfl, HSS.out, HRES.out, by omega, by omega, HO2.out, HB2.out⟩
              case measure => simp [intOf]; omega
          · obtain ⟨XX, hXX⟩ : ∃ XX : Int, XX = x := ⟨_, rfl⟩
            have hXb : -1 ≤ XX ∧ XX ≤ 11 := by omega
            have HXK : Hid ((nextS ns s)[k]? = some XX) := Lib.hid (by rw [hXX, HNX.out]; simp [hbit, hx0])
            have HWV : Hid (wearOf (qa, qb, qc, qd) XX ((day : Int) + 1) = (if s / 2 ^ k % 2 = 1 then 0 else wearOf (qa, qb, qc, qd) x day) + qb) := Lib.hid (by rw [hXX, ← wear_step]; simp [hbit, hx0])
            have HNY : Hid ((wr.alloc (.cells #[.int .i64 qa, .int .i64 qb, .int .i64 qc, .int .i64 qd] 26)).ownsRow w.heap.size 3 1 (.slice (some ⟨gn, 0, none⟩) n c3) n (ints ((nextS ns s).take (k + 1) ++ ns.drop (k + 1)))) := Lib.hid (by
              have h1 := HO.out
              rw [← list_set_same HMK.out, mid2 (M := nextS ns s) (N := ns) (by rw [length_nextS]) hxn (show (nextS ns s)[k]? = some x from by rw [HXK.out, hXX])] at h1
              exact own_below h1 ((Below.refl _ _).alloc (Nat.le_refl _) _))
            have HBY : Hid (Below w.heap.size w (wr.alloc (.cells #[.int .i64 qa, .int .i64 qb, .int .i64 qc, .int .i64 qd] 26))) := Lib.hid (HB.out.trans ((Below.refl _ _).alloc (by first | exact HB.out.size | (simp; exact HB.out.size)) _))
            have HBX : Hid (Box4 (wr.alloc (.cells #[.int .i64 qa, .int .i64 qb, .int .i64 qc, .int .i64 qd] 26)) wr.heap.size 26 (.int .i64 qa) (.int .i64 qb) (.int .i64 qc) (.int .i64 qd)) := Lib.hid (by
              have h1 := Box4.new wr 26 (.int .i64 qa) (.int .i64 qb) (.int .i64 qc) (.int .i64 qd)
              skip
              exact h1)
            have hdw : IntKind.i64.wrap ((day : Int) + 1) = (day : Int) + 1 := IntWalk.i64_in _ (by omega)
            obtain ⟨wy, hwy⟩ : ∃ wy, wy = (wr.alloc (.cells #[.int .i64 qa, .int .i64 qb, .int .i64 qc, .int .i64 qd] 26)) := ⟨_, rfl⟩
            rw [← hwy] at HNY HBY HBX
            have HWY := Lib.hid hwy
            have HAL : Hid (Below wr.heap.size wr (wr.alloc (.cells #[.int .i64 qa, .int .i64 qb, .int .i64 qc, .int .i64 qd] 26))) := Lib.hid ((Below.refl _ _).alloc (Nat.le_refl _) _)
            have c1 : (wr.alloc (.cells #[.int .i64 qa, .int .i64 qb, .int .i64 qc, .int .i64 qd] 26)).cell? (ad2.add k) = some (.int .i64 x) := (HAL.out.cell (World.block_lt_of_cell? wr _ c0)).trans c0
            go_wp2
            clear c1 k0 k1 k2 k3 c0 n0 f0
            rw [← HWY.out]
            have HTY := Lib.hid (HT.out.below HBY.out HT.out.lt)
            have HRY := Lib.hid (H.out.below HBY.out)
            have HWE := Lib.hid (fun V : InB wy => wear_any g (some ad) n c D trip K m kc l k XX ((day : Int) + 1) V.1 hlt hn hXb (by omega) HGD.out (HTY.out.below V.2 HTY.out.lt) (HRY.out.below V.2) HXL.out (qa, qb, qc, qd) HQ.out)
            obtain ⟨z0, z1, z2, z3⟩ := HBX.out.cells
            have X2 : ∀ V : InB wy, V.1.cell? ⟨wr.heap.size, 2, none⟩ = some (.int .i64 qc) := fun V => V.cell z2
            have hny : wy.cell? ⟨gn, k, none⟩ = some (.int .i64 XX) := by
              rw [HNY.out.cellAt k (by omega)]
              simp only [ints, List.getElem?_map]
              rw [List.getElem?_append_left (by simp; omega), List.getElem?_take_of_lt (by omega), HXK.out]
              rfl
            have XN : ∀ V : InB wy, V.1.cell? ⟨gn, k, none⟩ = some (.int .i64 XX) := fun V => V.cell hny
            clear z0 z1 z2 z3 hny hwy hXX hand
            generalize wearOf (qa, qb, qc, qd) XX ((day : Int) + 1) = wv at *
            refine wp_region_below wy (by kernel_rfl) (by kernel_rfl) (by first | assumption | exact Below.refl _ _) ?_
            repeat (go_big_quiet_step ((go_at_call 108; exact bel_quiet (HWE.out _))))
            refine wpQuiet_nil ?_
            intro wb hw'
            obtain ⟨⟨wb', hB⟩, hwb⟩ := hw'
            simp only at hwb
            subst hwb
            try simp only at hB ⊢
            clear X2 XN HWE
            have HB2 := Lib.hid (HBY.out.trans (hB.mono HBY.out.size))
            have HO2 := Lib.hid (own_below HNY.out hB)
            clear hB
            have hfa := HFA.out
            try simp only at hfa
            rw [← HWV.out, HR2.out] at hfa
            have HFF := Lib.hid hfa
            clear hfa
            by_cases hf : qc < wv
            · have HRES : Hid (failsW l (wearsOf l ns day) s = true) := Lib.hid (by rw [HFF.out]; simp [hf])
              go_wp2
              go_ret3
              exact ⟨HB2.out, .inl ⟨HRES.out, rfl⟩⟩
            · have HRES : Hid (failsW (l.drop (k + 1)) (wearsOf (l.drop (k + 1)) (ns.drop (k + 1)) day) (s / 2 ^ (k + 1)) = failsW l (wearsOf l ns day) s) := Lib.hid (by rw [HFF.out]; simp [hf])
              have HSS : Hid (q + sumC (l.drop (k + 1)) (s / 2 ^ (k + 1)) = setC l trip s) := Lib.hid (by
                have h1 := HSA.out
                simp only [hbit, if_true, if_false] at h1
                rw [← HR1.out, h1]
                omega)
              go_wp2
              go_roundw
              case rel => exact ⟨k + 1, q, by omega, by go_num, rfl, HSS.out, HRES.out, by omega, by omega, HO2.out, HB2.out⟩
              case measure => simp [intOf]; omega
      · have e1 : l.drop k = [] := List.drop_eq_nil_of_le (by rw [HXL.out]; omega)
        have e2 : ns.drop k = [] := List.drop_eq_nil_of_le (by rw [HXN.out]; omega)
        have e3 : (nextS ns s).take k = nextS ns s := List.take_of_length_le (by rw [length_nextS, HXN.out]; omega)
        have h1 := HR1.out; have h2 := HR2.out; have h3 := HO.out
        rw [e1] at h1 h2
        rw [e2, e3, List.append_nil] at h3
        have HQS : Hid (q = setC l trip s) := Lib.hid (by rw [← h1]; simp [sumC])
        have HFS : Hid (failsW l (wearsOf l ns day) s = false) := Lib.hid (by rw [← h2]; simp [failsW])
        have HO3 := Lib.hid h3
        clear e1 e2 e3 h1 h2 h3
        have hqq := HQS.out
        subst hqq
        go_wp2
        go_ret3
        exact ⟨HB.out, .inr ⟨HFS.out, N, c3, rfl, HO3.out⟩⟩

end Go.Proofs.Ytjibdabedagghaa
