/- The reference's table of least costs: cost. No conditions. -/
import Derived.Test.YtjibdabedagghaaLp3
namespace Go.Proofs.Ytjibdabedagghaa
set_option linter.unusedSimpArgs false
set_option linter.unusedVariables false
open Go.RowKit

theorem minStep_bd {acc B : Int} {o : Option Int} (ha : -1 ≤ acc ∧ acc ≤ B) (ho : ∀ x, o = some x → 0 ≤ x ∧ x ≤ B) : -1 ≤ minStep acc o ∧ minStep acc o ≤ B := by
  cases o with
  | none => exact ha
  | some x =>
    have := ho x rfl
    unfold minStep
    simp only
    split <;> omega
theorem bestTo_bd {f : Nat → Option Int} {B : Int} (hB : 0 ≤ B) (h : ∀ s x, f s = some x → 0 ≤ x ∧ x ≤ B) : ∀ k, -1 ≤ bestTo f k ∧ bestTo f k ≤ B := by
  intro k
  induction k with
  | zero => simp [bestTo]; omega
  | succ k ih => exact minStep_bd ih (h k)
theorem leastW_40 {l : List G4} {trip : Int} (h : goodG l) (ht : 0 ≤ trip ∧ trip ≤ 1000) (hl : l.length ≤ 3) (d : Nat) (hd : d ≤ 10) (ws : List Int) : 0 ≤ leastW l trip d ws ∧ leastW l trip d ws ≤ 40000 := by
  have h1 := leastW_bd h ht d ws
  have h2 : (1000 * (l.length : Int) + 1000) * (d : Int) ≤ 4000 * 10 := Int.mul_le_mul (by omega) (by omega) (by omega) (by omega)
  omega
theorem setC_4 {l : List G4} {trip : Int} (h : goodG l) (ht : 0 ≤ trip ∧ trip ≤ 1000) (hl : l.length ≤ 3) (s : Nat) : 0 ≤ setC l trip s ∧ setC l trip s ≤ 4000 := by
  have := setC_bd h ht s
  omega
theorem way_bd {l : List G4} {trip : Int} (h : goodG l) (ht : 0 ≤ trip ∧ trip ≤ 1000) (hl : l.length ≤ 3) (d : Nat) (hd : d ≤ 10) (ws : List Int) (s : Nat) (x : Int) (hx : wayW l trip d ws s = some x) : 0 ≤ x ∧ x ≤ 44000 := by
  unfold wayW at hx
  split at hx
  · cases hx
  · injection hx with hx
    have h1 := setC_4 h ht hl s
    have h2 := leastW_40 h ht hl d hd (stepW l ws s)
    omega
theorem own_block {w : World} {base n c k : Nat} {e : TypeId} {A : Option Addr} {xs : List Value} (h : w.ownsRow base e k (.slice A n c) n xs) : ∀ ad, A = some ad → base ≤ ad.block := by
  intro ad hA
  rcases h.2 with ⟨e1, e2⟩ | ⟨ga, cap, cur, hv, hlt, _⟩
  · injection e1 with e1 e2 e3; rw [e1] at hA; cases hA
  · injection hv with h1 h2 h3
    rw [h1] at hA; injection hA with hA; rw [← hA]; exact hlt
def hdrs (bs : List Nat) : List Value := bs.map fun b => .slice (some ⟨b, 0, none⟩) 1728 1728
/-- The table in a world. -/
structure TabW (g : Nat) (A : Option Addr) (n c D : Nat) (trip : Int) (K : Option Addr) (kc : Nat) (l : List G4) (bs : List Nat) (w : World) : Prop where
  tab : TabAt w g A n c D trip K (D + 1) kc
  gears : Reads w 4 A n (rows4 l)
  rows : Reads w 1 K (D + 1) (hdrs bs)
  knows : Knows l trip D n bs w
/-- What holds of it always. -/
structure TabF (g : Nat) (A : Option Addr) (n D : Nat) (trip : Int) (K : Option Addr) (l : List G4) (bs : List Nat) : Prop where
  n3 : n ≤ 3
  d10 : D ≤ 10
  trip : 0 ≤ trip ∧ trip ≤ 1000
  good : goodG l
  len : l.length = n
  rows : bs.length = D + 1
  inj : InjL bs
  gA : 0 < n → ∀ ad, A = some ad → ad.block ∉ bs
  gK : ∀ ad, K = some ad → ad.block ∉ bs
  gg : g ∉ bs
section
variable {g : Nat} {A : Option Addr} {n c D : Nat} {trip : Int} {K : Option Addr} {kc : Nat} {l : List G4} {bs : List Nat} {w w' : World}
theorem TabW.below (h : TabW g A n c D trip K kc l bs w) (hb : Below w.heap.size w w') : TabW g A n c D trip K kc l bs w' := ⟨h.tab.below hb h.tab.lt, h.gears.below hb, h.rows.below hb, h.knows.below hb⟩
theorem TabW.upd (h : TabW g A n c D trip K kc l bs w) (f : TabF g A n D trip K l bs) (hu : Upd bs w w') (hk : Knows l trip D n bs w') : TabW g A n c D trip K kc l bs w' := ⟨hu.box4 h.tab f.gg, hu.reads h.gears f.gA, hu.reads h.rows (fun _ => f.gK), hk⟩
end

set_option maxHeartbeats 4000000 in
set_option maxRecDepth 100000 in
theorem cost_any (g : Nat) (A : Option Addr) (n c D : Nat) (trip : Int) (K : Option Addr) (kc : Nat) (l : List G4) (bs : List Nat) (hF : TabF g A n D trip K l bs) : ∀ (r day : Nat) (ns : List Int) (B : Option Addr) (c2 : Nat) (w : World),
    day + r = D → ns.length = n → (∀ x ∈ ns, -1 ≤ x ∧ x ≤ day) → TabW g A n c D trip K kc l bs w → Reads w 1 B n (ints ns) → (∀ ad, B = some ad → ad.block ∉ bs) →
    Calls Try.prog 79 #[.pointer (some ⟨g, 0, none⟩), .int .i64 day, .slice B n c2] w fun e w' => e = .returned (.int .i64 (leastW l trip r (wearsOf l ns day))) ∧ Upd bs w w' ∧ Knows l trip D n bs w' := by
  have HF := Lib.hid hF
  have hn := hF.n3; have hd10 := hF.d10; have htr := hF.trip
  clear hF
  intro r
  induction r with
  | zero =>
    intro day ns B c2 w hday hns hb hT hB hBn
    obtain rfl : day = D := by omega
    obtain ⟨t0, t1, t2, t3⟩ := hT.tab.cells
    have hk := hT.knows
    have HK := Lib.hid hk
    clear hk hb hT hB hBn hns
    go_enter Try.func79, Try.ntmps79
    go_wp2
    go_ret
    exact ⟨rfl, Upd.refl _ _, HK.out⟩
  | succ r ih =>
    intro day ns B c2 w hday hns hb hT hB hBn
    have IH := Lib.hid ih
    have HNS := Lib.hid hns; have HBB := Lib.hid hb; have HT := Lib.hid hT; have HB := Lib.hid hB; have HBN := Lib.hid hBn
    have hb10 : ∀ x ∈ ns, -1 ≤ x ∧ x ≤ 10 := fun x hx => by have := hb x hx; omega
    have HB10 := Lib.hid hb10
    obtain ⟨kk, hkk, hk17⟩ := key_lt hn hns hb10
    have CK := fun t (W : World) (hW : Reads W 1 B n (ints ns)) => key_any t B n c2 ns W hn hb10 hW
    rw [hkk] at CK
    have HCK := Lib.hid CK
    have HKK := Lib.hid hkk
    have hDl : day < bs.length := by rw [HF.out.rows]; omega
    obtain ⟨ad, u, rfl, hu, c0⟩ := hT.rows.at_ (show day < D + 1 by omega)
    have e0 : u = .slice (some ⟨bs[day], 0, none⟩) 1728 1728 := by simp [hdrs, hDl] at hu; exact hu.symm
    subst e0
    obtain ⟨es, hes, htrue⟩ := hT.knows day hDl
    have hne : ((day : Int) == (D : Int)) = false := by rw [beq_eq_false_iff_ne]; omega
    have hV := leastW_40 HF.out.good htr (by rw [HF.out.len]; exact hn) (r + 1) (by omega) (wearsOf l ns day)
    have hent := htrue.2 ns hns hb10 kk hkk
    rw [show D - day = r + 1 by omega] at hent
    obtain ⟨t0, t1, t2, t3⟩ := hT.tab.cells
    have hki0 : (0 : Int) ≤ (kk : Int) := by omega
    have hki1 : (kk : Int) < 1728 := by omega
    have hdi0 : (0 : Int) ≤ (day : Int) := by omega
    have hdi1 : (day : Int) < (D : Int) + 1 := by omega
    have HES := Lib.hid hes
    clear ih hns hb hT hB hBn hb10 CK hkk hu htrue hes
    rcases hent with hent | hent
    · have x0 := HES.out.cell kk _ hent
      clear hent HES
      clear hV
      generalize hbd : bs[day] = bd at *
      have HBD := Lib.hid hbd
      clear hbd
      obtain ⟨P, hP⟩ : ∃ P : Nat, P = 2 ^ n := ⟨_, rfl⟩
      have hP8 : P ≤ 8 := by
        have h4 : n = 0 ∨ n = 1 ∨ n = 2 ∨ n = 3 := by omega
        rw [hP]
        rcases h4 with rfl | rfl | rfl | rfl <;> decide
      have hwp : IntKind.i64.wrap ((2 : Int) ^ n) = (P : Int) := by
        have e : (2 : Int) ^ n = (P : Int) := by rw [hP]; simp
        rw [e]
        exact IntWalk.i64_in _ (by omega)
      have HPP := Lib.hid hP
      clear hP
      have hn64 : (n : Int) ≤ 64 := by omega
      have hn0 : (0 : Int) ≤ (n : Int) := by omega
      have HWB := Lib.hid (way_bd (d := r) HF.out.good htr (by rw [HF.out.len]; exact hn) (by omega) (wearsOf l ns day))
      go_enter Try.func79, Try.ntmps79
      go_wp2_with (go_at_call 100; refine (HCK.out _ _ HB.out).mono ?_; rintro e w' ⟨rfl, rfl⟩)
      clear c0 x0 t0 t1 t2 t3
      go_loopw [8, 9] (fun t i wr => ∃ s : Nat, s ≤ P ∧ i = .int .i64 s ∧ t = .int .i64 (bestTo (wayW l trip r (wearsOf l ns day)) s) ∧ Upd bs w wr ∧ Knows l trip D n bs wr) (fun _ i _ => P - (intOf i).toNat)
      case atStart => exact ⟨0, Nat.zero_le _, rfl, rfl, Upd.refl _ _, HT.out.knows⟩
      case round =>
        obtain ⟨s, hs, rfl, rfl, hu, hk⟩ := hrel
        have HU := Lib.hid hu
        have HTW := Lib.hid (HT.out.upd HF.out hu hk)
        have hbb := bestTo_bd (B := 44000) (by omega) HWB.out s
        clear hu hk
        by_cases hlt : s < P
        · obtain ⟨t0, t1, t2, t3⟩ := HTW.out.tab.cells
          have hst : bestTo (wayW l trip r (wearsOf l ns day)) (s + 1) = minStep (bestTo (wayW l trip r (wearsOf l ns day)) s) (wayW l trip r (wearsOf l ns day) s) := rfl
          generalize bestTo (wayW l trip r (wearsOf l ns day)) s = bt at *
          have HST := Lib.hid hst
          clear hst
          go_wp2_with fail
          clear t0 t1 t2 t3
          refine (after_any g A n c D trip (some ad) (D + 1) kc l B c2 ns day s wr hn (by omega) htr (by omega) HB10.out HF.out.good HTW.out.tab HTW.out.gears HF.out.len (HU.out.reads HB.out (fun _ => HBN.out))).mono ?_
          rintro e w1 ⟨hb1, ⟨hfl, rfl⟩ | ⟨hfl, N, c3, rfl, ho⟩⟩
          · have HUN := Lib.hid (HU.out.trans (Upd.of_below hb1))
            have HKN := Lib.hid (HTW.out.knows.below hb1)
            have HBT : Hid (bestTo (wayW l trip r (wearsOf l ns day)) (s + 1) = bt) := Lib.hid (by rw [HST.out]; unfold wayW; rw [if_pos hfl]; rfl)
            clear hb1 hfl
            go_wp2
            go_roundw
            case rel => exact ⟨s + 1, by omega, by go_num, by rw [HBT.out], HUN.out, HKN.out⟩
            case measure => simp [intOf]; omega
          · have HUN := Lib.hid (HU.out.trans (Upd.of_below hb1))
            have HW1 := Lib.hid (HTW.out.below hb1)
            have hnl : ∀ b ∈ bs, b < wr.heap.size := HTW.out.knows.lt
            have CI := IH.out (day + 1) (nextS ns s) N c3 w1 (by omega) (by rw [length_nextS]; exact HNS.out) (fun x hx => by have := nextS_bd ns s (day : Int) (by omega) HBB.out x hx; omega) HW1.out (Reads.of_own ho) (fun a ha hm => by have h1 := own_block ho a ha; have h2 := hnl _ hm; omega)
            rw [show ((day + 1 : Nat) : Int) = (day : Int) + 1 from by simp, ← stepW_wearsOf l ns day s (by rw [HNS.out, HF.out.len])] at CI
            have hV := leastW_40 HF.out.good htr (by rw [HF.out.len]; exact hn) r (by omega) (stepW l (wearsOf l ns day) s)
            have hC := setC_4 HF.out.good htr (by rw [HF.out.len]; exact hn) s
            have hwy : wayW l trip r (wearsOf l ns day) s = some (setC l trip s + leastW l trip r (stepW l (wearsOf l ns day) s)) := by unfold wayW; rw [if_neg (by rw [hfl]; simp)]
            generalize leastW l trip r (stepW l (wearsOf l ns day) s) = V at *
            generalize setC l trip s = C at *
            have HBT : Hid (bestTo (wayW l trip r (wearsOf l ns day)) (s + 1) = if bt < 0 ∨ C + V < bt then C + V else bt) := Lib.hid (by rw [HST.out, hwy]; rfl)
            have HCI := Lib.hid CI
            clear CI hnl hb1 hfl ho hwy
            go_wp2_with fail
            refine HCI.out.mono ?_
            rintro e w2 ⟨rfl, hu2, hk2⟩
            have HU2 := Lib.hid (HUN.out.trans hu2)
            have HK2 := Lib.hid hk2
            clear hu2 hk2 HCI
            by_cases hl0 : bt < 0
            · go_wp2
              go_roundw
              case rel => exact ⟨s + 1, by omega, by go_num, by rw [HBT.out, if_pos (.inl hl0)], HU2.out, HK2.out⟩
              case measure => simp [intOf]; omega
            · by_cases hl1 : C + V < bt
              · go_wp2
                go_roundw
                case rel => exact ⟨s + 1, by omega, by go_num, by rw [HBT.out, if_pos (.inr hl1)], HU2.out, HK2.out⟩
                case measure => simp [intOf]; omega
              · go_wp2
                go_roundw
                case rel => exact ⟨s + 1, by omega, by go_num, by rw [HBT.out, if_neg (by omega)], HU2.out, HK2.out⟩
                case measure => simp [intOf]; omega
        · have hsp : s = P := by omega
          have HV : Hid (bestTo (wayW l trip r (wearsOf l ns day)) s = leastW l trip (r + 1) (wearsOf l ns day)) := Lib.hid (by rw [leastW_succ, HF.out.len, hsp, HPP.out])
          rw [HV.out]
          have hV := hbb
          rw [HV.out] at hV
          obtain ⟨t0, t1, t2, t3⟩ := HTW.out.tab.cells
          obtain ⟨_, u, e, hu, c0⟩ := HTW.out.rows.at_ (show day < D + 1 by omega)
          injection e with e
          subst e
          have e0 : u = .slice (some ⟨bd, 0, none⟩) 1728 1728 := by simp [hdrs, hDl] at hu; rw [← hu, HBD.out]
          subst e0
          obtain ⟨es, hes, htrue⟩ := HTW.out.knows day hDl
          rw [HBD.out] at hes
          obtain ⟨xv, hxv⟩ : ∃ xv, es[kk]? = some xv := ⟨_, List.getElem?_eq_getElem (show kk < es.length by rw [htrue.1]; exact hk17)⟩
          have x0 := hes.cell kk _ hxv
          have f0 := hes.frozen kk
          have HKS := Lib.hid (HTW.out.knows.set HF.out.inj hDl HNS.out HB10.out HKK.out hk17)
          rw [HBD.out, show D - day = r + 1 by omega] at HKS
          have HUS := Lib.hid (HU.out.trans (Upd.set (w := wr) bd kk (.int .i64 (leastW l trip (r + 1) (wearsOf l ns day) + 2)) (by rw [← HBD.out]; exact List.getElem_mem hDl)))
          clear hbb hu hes htrue hxv HV
          generalize hVV : leastW l trip (r + 1) (wearsOf l ns day) = V at *
          have HVV := Lib.hid hVV
          clear hVV
          go_wp2
          go_ret
          exact ⟨ret_int HVV.out.symm, HUS.out, HKS.out⟩
    · have x0 := HES.out.cell kk _ hent
      clear hent HES
      obtain ⟨V, hVV⟩ : ∃ V, V = leastW l trip (r + 1) (wearsOf l ns day) := ⟨_, rfl⟩
      rw [← hVV] at hV x0 ⊢
      have hv2 : ((V + 2) != 0) = true := by rw [bne_iff_ne]; omega
      have hw2 : IntKind.i64.wrap (V + 2 - 2) = V := by rw [IntWalk.i64_in _ (by omega)]; omega
      clear hVV
      have HKN := Lib.hid HT.out.knows
      go_enter Try.func79, Try.ntmps79
      go_wp2_with (go_at_call 100; refine (HCK.out _ _ HB.out).mono ?_; rintro e w' ⟨rfl, rfl⟩)
      go_ret
      exact ⟨ret_int (by first | rfl | omega), Upd.refl _ _, HKN.out⟩

end Go.Proofs.Ytjibdabedagghaa
