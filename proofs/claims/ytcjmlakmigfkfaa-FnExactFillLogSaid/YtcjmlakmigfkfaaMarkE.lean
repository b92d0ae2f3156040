/- Contracts of the laws' helpers that write marks into entries and that look for them. No conditions. -/
import Derived.Test.YtcjmlakmigfkfaaTick3
import Derived.Test.YtcjmlakmigfkfaaMark
namespace Go.Proofs.Ytcjmlakmigfkfaa
set_option linter.unusedSimpArgs false
set_option linter.unusedVariables false
open Go.RowKit

def mk5 (K : Nat) (x : EntryT) : List Cel := [.inl (.int .i64 (K : Int)), .inl (.int .i64 ((K : Int) + 1)), .inl (.int .i64 ((K : Int) + 2)), .inr (marksInt (K + 3) x.2.2.2.1.length), .inr (marksInt (K + 3 + x.2.2.2.1.length) x.2.2.2.2.length)]
def marksE (K : Nat) : List EntryT → List Cel
  | [] => []
  | x :: r => mk5 K x ++ marksE (K + 3 + x.2.2.2.1.length + x.2.2.2.2.length) r
@[simp] theorem length_marksE (K : Nat) (L : List EntryT) : (marksE K L).length = L.length * 5 := by
  induction L generalizing K with
  | nil => rfl
  | cons x r ih => simp only [marksE, List.length_append, ih, List.length_cons, mk5, List.length_nil]; omega
/-- What marks a log takes. -/
def mE (L : List EntryT) : Nat := L.length * 3 + totE L
def offE (L : List EntryT) (i : Nat) : Nat := (L.take i).length * 3 + totE (L.take i)
theorem offE_zero (L : List EntryT) : offE L 0 = 0 := by simp [offE, totE]
theorem offE_succ {L : List EntryT} {i : Nat} (h : i < L.length) : offE L (i + 1) = offE L i + 3 + L[i].2.2.2.1.length + L[i].2.2.2.2.length := by
  unfold offE
  rw [totE_succ h]
  simp
  omega
theorem offE_le (L : List EntryT) (i : Nat) : offE L i ≤ L.length * 3 + totE L := by
  unfold offE
  have h1 := totE_le L i
  have h2 : (L.take i).length ≤ L.length := by simp; omega
  omega
theorem offE_all {L : List EntryT} {i : Nat} (h : L.length ≤ i) : offE L i = L.length * 3 + totE L := by
  unfold offE
  rw [List.take_of_length_le h]
theorem marksE_get {L : List EntryT} {K i j : Nat} (hi : i < L.length) (hj : j < 5) : (marksE K L)[i * 5 + j]? = (mk5 (K + offE L i) L[i])[j]? := by
  induction L generalizing K i with
  | nil => simp at hi
  | cons x r ih =>
    cases i with
    | zero =>
      simp only [marksE, List.getElem_cons_zero, Nat.zero_mul, Nat.zero_add, offE_zero, Nat.add_zero]
      rw [List.getElem?_append_left (by simpa [mk5] using hj)]
    | succ i =>
      have h := ih (K := K + 3 + x.2.2.2.1.length + x.2.2.2.2.length) (i := i) (by simpa using hi)
      have e : (i + 1) * 5 + j = (mk5 K x).length + (i * 5 + j) := by simp [mk5]; omega
      have eo : K + offE (x :: r) (i + 1) = K + 3 + x.2.2.2.1.length + x.2.2.2.2.length + offE r i := by unfold offE; simp [totE]; omega
      simp only [marksE, List.getElem_cons_succ]
      rw [e, List.getElem?_append_right (by omega), eo]
      simpa using h

set_option maxHeartbeats 4000000 in
set_option maxRecDepth 100000 in
theorem markEntryS0_any (A : Option Addr) (n c K lo hi : Nat) (L : List EntryT) (hs : List Value) (w : World) (hn : n ≤ 1000000000) (hK : K + (L.length * 3 + totE L) ≤ 1000000000000) (hh : hi ≤ w.heap.size) (h : Own2 w lo hi 51 3 5 A n c (rowsE L) hs) :
    Calls Try.prog 17 #[.slice A n c, .int .i64 K] w fun e w' => e = .returned (.int .i64 ((K + (L.length * 3 + totE L) : Nat) : Int)) ∧ (∃ hs', Own2 w' lo hi 51 3 5 A n c (marksE K L) hs') ∧ Turned lo hi w w' := by
  have HX := Lib.hid (show L.length = n by have h1 := h.row.1; have h2 := h.len; simp at h2; omega)
  have H := Lib.hid h
  have HKK := Lib.hid hK
  clear h hK
  have HXM : Hid ((marksE K L).length = n * 5) := Lib.hid (by simp [HX.out])
  have HXR : Hid ((rowsE L).length = n * 5) := Lib.hid (by simp [HX.out])
  go_enter Try.func17, Try.ntmps17
  go_wp2
  go_loopw [1, 5] (fun r i wr => ∃ q : Nat, ∃ hs, q ≤ n ∧ i = .int .i64 q ∧ r = .int .i64 ((K + offE L q : Nat) : Int) ∧ Own2 wr lo hi 51 3 5 A n c ((marksE K L).take (q * 5) ++ (rowsE L).drop (q * 5)) hs ∧ Turned lo hi w wr) (fun _ i _ => n - (intOf i).toNat)
  case atStart => exact ⟨0, hs, Nat.zero_le _, rfl, by simp [offE_zero], by simpa using H.out, Turned.refl⟩
  case round =>
    obtain ⟨q, hs, hk, rfl, rfl, hown, hg⟩ := hrel
    clear H
    have HG := Lib.hid hg; clear hg
    have HHR : Hid (hi ≤ wr.heap.size) := Lib.hid (by have := HG.out.size; omega)
    by_cases hlt : q < n
    · have hx : q < L.length := by rw [HX.out]; exact hlt
      obtain ⟨g, rfl⟩ : ∃ g, A = some ⟨g, 0, none⟩ := by
        rcases hown.row.2 with ⟨_, h0⟩ | ⟨g, cap, cur, hv, _⟩
        · omega
        · injection hv with e; exact ⟨g, e⟩
      have HT : ∀ j, j < 5 → (rowsE L)[q * 5 + j]? = (celEntry L[q])[j]? := fun j hj => rowsE_get hx hj
      have HM : ∀ j, j < 5 → (marksE K L)[q * 5 + j]? = (mk5 (K + offE L q) L[q])[j]? := fun j hj => marksE_get hx hj
      have HOS := Lib.hid (offE_succ hx)
      have hle := offE_le L (q + 1)
      have hKK := HKK.out
      have hbd : K + offE L q + 3 + L[q].2.2.2.1.length + L[q].2.2.2.2.length ≤ 1000000000000 := by have := HOS.out; omega
      clear hle hKK
      generalize L[q] = x at *
      obtain ⟨t, m, p, l, l'⟩ := x
      simp only at HOS hbd
      obtain ⟨Kq, hKq⟩ : ∃ Kq, Kq = K + offE L q := ⟨_, rfl⟩
      rw [← hKq] at HM hbd ⊢
      have HKQ := Lib.hid hKq
      clear hKq
      have hN : hs.length = n * 5 := hown.row.1
      have P3 := ((hown.put_plain (j := q * 5) (u := .int .i64 (Kq : Int)) (by omega) rfl).put_plain (j := q * 5 + 1) (u := .int .i64 ((Kq : Int) + 1)) (by simp; omega) rfl).put_plain (j := q * 5 + 2) (u := .int .i64 ((Kq : Int) + 2)) (by simp; omega) rfl
      have hold : ∀ j, (hj : j < 5) → ((marksE K L).take (q * 5) ++ (rowsE L).drop (q * 5))[q * 5 + j]? = (celEntry (t, m, p, l, l'))[j]? := fun j hj => by
        rw [← HT j hj, List.getElem?_append_right (by simp; omega), List.getElem?_drop]
        congr 1
        simp
        omega
      have hcl : ∀ j, q * 5 + j < n * 5 → ∃ o, wr.cell? ⟨g, q * 5 + j, none⟩ = some o := fun j hj => ⟨_, by
        rw [hown.row.cellAt _ hj]; exact List.getElem?_eq_getElem (by rw [hown.row.1]; exact hj)⟩
      obtain ⟨o0, e0⟩ := hcl 0 (by omega)
      obtain ⟨o1, e1⟩ := hcl 1 (by omega)
      obtain ⟨o2, e2⟩ := hcl 2 (by omega)
      have f0 : wr.frozen? ⟨g, q * 5, none⟩ = false := hown.row.frozenAt _
      have f1 : wr.frozen? ⟨g, q * 5 + 1, none⟩ = false := hown.row.frozenAt _
      have f2 : wr.frozen? ⟨g, q * 5 + 2, none⟩ = false := hown.row.frozenAt _
      have f3 : wr.frozen? ⟨g, q * 5 + 3, none⟩ = false := hown.row.frozenAt _
      have f4 : wr.frozen? ⟨g, q * 5 + 4, none⟩ = false := hown.row.frozenAt _
      simp only [Nat.add_zero] at e0
      have c3x : ((marksE K L).take (q * 5) ++ (rowsE L).drop (q * 5))[q * 5 + 3]? = some (.inr (ints l)) := by rw [hold 3 (by omega)]; rfl
      have c4x : ((marksE K L).take (q * 5) ++ (rowsE L).drop (q * 5))[q * 5 + 4]? = some (.inr (ints l')) := by rw [hold 4 (by omega)]; rfl
      obtain ⟨g', A3, c3, eg, h3, e3, _, r3⟩ := hown.at_ c3x
      injection eg with eg
      injection eg with eg
      subst eg
      obtain ⟨g', A4, c4, eg, h4, e4, _, r4⟩ := hown.at_ c4x
      injection eg with eg
      injection eg with eg
      subst eg
      simp only [length_ints] at h3 e3 r3 h4 e4 r4
      clear hcl hold
      have d3x : (((((marksE K L).take (q * 5) ++ (rowsE L).drop (q * 5)).set (q * 5) (.inl (.int .i64 (Kq : Int)))).set (q * 5 + 1) (.inl (.int .i64 ((Kq : Int) + 1)))).set (q * 5 + 2) (.inl (.int .i64 ((Kq : Int) + 2))))[q * 5 + 3]? = some (.inr (ints l)) := by
        rw [getElem?_set_ne' (by omega), getElem?_set_ne' (by omega), getElem?_set_ne' (by omega)]; exact c3x
      have d4x : (((((marksE K L).take (q * 5) ++ (rowsE L).drop (q * 5)).set (q * 5) (.inl (.int .i64 (Kq : Int)))).set (q * 5 + 1) (.inl (.int .i64 ((Kq : Int) + 1)))).set (q * 5 + 2) (.inl (.int .i64 ((Kq : Int) + 2))))[q * 5 + 4]? = some (.inr (ints l')) := by
        rw [getElem?_set_ne' (by omega), getElem?_set_ne' (by omega), getElem?_set_ne' (by omega)]; exact c4x
      have u3 : (((hs.set (q * 5) (.int .i64 (Kq : Int))).set (q * 5 + 1) (.int .i64 ((Kq : Int) + 1))).set (q * 5 + 2) (.int .i64 ((Kq : Int) + 2)))[q * 5 + 3]? = some (.slice A3 l.length c3) := by
        rw [getElem?_set_ne' (by omega), getElem?_set_ne' (by omega), getElem?_set_ne' (by omega)]; exact h3
      have u4 : (((hs.set (q * 5) (.int .i64 (Kq : Int))).set (q * 5 + 1) (.int .i64 ((Kq : Int) + 1))).set (q * 5 + 2) (.int .i64 ((Kq : Int) + 2)))[q * 5 + 4]? = some (.slice A4 l'.length c4) := by
        rw [getElem?_set_ne' (by omega), getElem?_set_ne' (by omega), getElem?_set_ne' (by omega)]; exact h4
      have HP3 := Lib.hid P3; have HO := Lib.hid hown; have HD3 := Lib.hid d3x; have HD4 := Lib.hid d4x; have HU3 := Lib.hid u3; have HU4 := Lib.hid u4
      have q3 : (((wr.setCell ⟨g, q * 5, none⟩ (.int .i64 (Kq : Int))).setCell ⟨g, q * 5 + 1, none⟩ (.int .i64 ((Kq : Int) + 1))).setCell ⟨g, q * 5 + 2, none⟩ (.int .i64 ((Kq : Int) + 2))).ownsRow lo 3 1 (.slice A3 l.length c3) l.length (ints l) := by
        obtain ⟨_, B3, b3, _, v3, _, _, rr⟩ := HP3.out.at_ HD3.out
        rw [u3] at v3
        injection v3 with v3
        injection v3 with va _ vc
        subst va; subst vc
        simpa using rr
      have C1 := markIntS_any A3 l.length c3 (Kq + 3) lo (ints l) _ (by omega) q3
      have ek : ((Kq + 3 : Nat) : Int) = (Kq : Int) + 3 := by omega
      rw [ek] at C1
      have HC1 := Lib.hid C1
      clear P3 hown d3x d4x u3 u4 q3 C1 ek h3 h4 c3x c4x r3 r4 HT hN
      have HMM := Lib.hid HM; clear HM
      go_wp2_with fail
      refine (HC1.out).mono ?_
      rintro e w4 ⟨rfl, hq4, hg4⟩
      have P4 := HP3.out.wrote HD3.out HU3.out hg4 (by have := HHR.out; simpa using this) (l' := marksInt (Kq + 3) l.length) (by simp [marksInt]) (by simpa [marksInt] using hq4)
      have HP4 := Lib.hid P4
      have u4 := HU4.out
      have d4 : ((((((marksE K L).take (q * 5) ++ (rowsE L).drop (q * 5)).set (q * 5) (.inl (.int .i64 (Kq : Int)))).set (q * 5 + 1) (.inl (.int .i64 ((Kq : Int) + 1)))).set (q * 5 + 2) (.inl (.int .i64 ((Kq : Int) + 2)))).set (q * 5 + 3) (.inr (marksInt (Kq + 3) l.length)))[q * 5 + 4]? = some (.inr (ints l')) := by
        rw [getElem?_set_ne' (by omega)]; exact HD4.out
      obtain ⟨g', B4, b4, eg, v4, x4, _, rr4⟩ := P4.at_ d4
      injection eg with eg
      injection eg with eg
      subst eg
      rw [u4] at v4
      injection v4 with v4
      injection v4 with va vb vc
      clear vb
      subst va; subst vc
      simp only [length_ints] at x4 rr4
      have C2 := markIntS_any A4 l'.length c4 (Kq + 3 + l.length) lo (ints l') _ (by omega) (by simpa using rr4)
      have HC2 := Lib.hid C2
      have HD4' := Lib.hid d4; have HG4 := Lib.hid hg4
      clear P4 C2 d4 hq4 hg4 u4 rr4 e0 e1 e2 e3 e4 f0 f1 f2 f3 f4
      go_wp2_with fail
      refine (HC2.out).mono ?_
      rintro e w5 ⟨rfl, hq5, hg5⟩
      have hz4 := HG4.out.size
      simp only [World.size_setCell] at hz4
      have P5 := HP4.out.wrote HD4'.out HU4.out hg5 (by have := HHR.out; omega) (l' := marksInt (Kq + 3 + l.length) l'.length) (by simp [marksInt]) (by simpa [marksInt] using hq5)
      have M := HMM.out
      have T0 : (marksE K L)[q * 5]? = some (.inl (.int .i64 (Kq : Int))) := by have h := M 0 (by omega); simpa [mk5] using h
      have T1 : (marksE K L)[q * 5 + 1]? = some (.inl (.int .i64 ((Kq : Int) + 1))) := by have h := M 1 (by omega); simpa [mk5] using h
      have T2 : (marksE K L)[q * 5 + 2]? = some (.inl (.int .i64 ((Kq : Int) + 2))) := by have h := M 2 (by omega); simpa [mk5] using h
      have T3 : (marksE K L)[q * 5 + 3]? = some (.inr (marksInt (Kq + 3) l.length)) := by have h := M 3 (by omega); simpa [mk5] using h
      have T4 : (marksE K L)[q * 5 + 4]? = some (.inr (marksInt (Kq + 3 + l.length) l'.length)) := by have h := M 4 (by omega); simpa [mk5] using h
      rw [two_set (n := n * 5) HXM.out HXR.out (by omega) T0, two_set (n := n * 5) HXM.out HXR.out (by omega) T1, two_set (n := n * 5) HXM.out HXR.out (by omega) T2, two_set (n := n * 5) HXM.out HXR.out (by omega) T3, two_set (n := n * 5) HXM.out HXR.out (by omega) T4] at P5
      rw [show q * 5 + 4 + 1 = (q + 1) * 5 by omega] at P5
      have HP5 := Lib.hid P5
      have hT : Turned lo hi wr w5 := by
        have t3 : Turned lo hi wr (((wr.setCell ⟨g, q * 5, none⟩ (.int .i64 (Kq : Int))).setCell ⟨g, q * 5 + 1, none⟩ (.int .i64 ((Kq : Int) + 1))).setCell ⟨g, q * 5 + 2, none⟩ (.int .i64 ((Kq : Int) + 2))) := by
          have hgb : lo ≤ g ∧ g < hi := ⟨(HO.out.row.lt g rfl).1, HO.out.bound g rfl⟩
          exact Turned.of_grown (v := .slice (some ⟨g, 0, none⟩) n c) (grown_set (grown_set (grown_set (World.grownBy.refl _ _) _) _) _) (fun q' hq' => by simp [Value.ownBlock] at hq'; omega)
        exact (t3.trans (Turned.of_grown HG4.out (fun q' hq' => HP3.out.bounds _ _ HU3.out q' hq'))).trans (Turned.of_grown hg5 (fun q' hq' => HP4.out.bounds _ _ HU4.out q' hq'))
      have HTU := Lib.hid (HG.out.trans hT)
      have HEQ : Hid (((Kq + 3 + l.length + l'.length : Nat) : Int) = ((K + offE L (q + 1) : Nat) : Int)) := Lib.hid (by rw [HOS.out, HKQ.out]; congr 1; omega)
      clear P5 M T0 T1 T2 T3 T4 hT hq5 hg5 hz4
      go_wp2
      go_roundw
      case rel => exact ⟨q + 1, _, by omega, by go_num, by rw [← HEQ.out]; simp, HP5.out, HTU.out⟩
      case measure => simp [intOf]; omega
    · obtain rfl : q = n := by omega
      rw [two_end HXM.out HXR.out] at hown
      have HO := Lib.hid hown; clear hown
      have HAL := Lib.hid (offE_all (L := L) (i := q) (by rw [HX.out]; exact Nat.le_refl _))
      go_wp2
      go_ret
      exact ⟨ret_int (by rw [HAL.out]), ⟨_, HO.out⟩, HG.out⟩
theorem markEntryS_any (A : Option Addr) (n c K lo hi : Nat) (L : List EntryT) (hs : List Value) (w : World) (hn : n ≤ 1000000000) (hK : K + mE L ≤ 1000000000000) (hh : hi ≤ w.heap.size) (h : Own2 w lo hi 51 3 5 A n c (rowsE L) hs) :
    Calls Try.prog 17 #[.slice A n c, .int .i64 K] w fun e w' => e = .returned (.int .i64 ((K + mE L : Nat) : Int)) ∧ (∃ hs', Own2 w' lo hi 51 3 5 A n c (marksE K L) hs') ∧ Turned lo hi w w' := markEntryS0_any A n c K lo hi L hs w hn hK hh h
set_option maxHeartbeats 4000000 in
set_option maxRecDepth 100000 in
theorem heldEntryS0_any (A : Option Addr) (n c K : Nat) (L : List EntryT) (w : World) (hn : n ≤ 1000000000) (hK : K + (L.length * 3 + totE L) ≤ 1000000000000) (h : Reads2 w 5 A n (marksE K L)) :
    Calls Try.prog 27 #[.slice A n c, .int .i64 K] w fun e w' => e = .returned (.int .i64 ((K + (L.length * 3 + totE L) : Nat) : Int)) ∧ w = w' := by
  have HX := Lib.hid (show L.length = n by have := h.len; simp at this; omega)
  have H := Lib.hid h
  have HKK := Lib.hid hK
  clear h hK
  go_enter Try.func27, Try.ntmps27
  go_wp2
  go_loop [1, 5] (fun r i => ∃ q : Nat, q ≤ n ∧ i = .int .i64 q ∧ r = .int .i64 ((K + offE L q : Nat) : Int)) (fun _ i => n - (intOf i).toNat)
  case atStart => exact ⟨0, Nat.zero_le _, rfl, by simp [offE_zero]⟩
  case round =>
    obtain ⟨q, hk, rfl, rfl⟩ := hrel
    by_cases hlt : q < n
    · have hx : q < L.length := by rw [HX.out]; exact hlt
      have HM : ∀ j, j < 5 → (marksE K L)[q * 5 + j]? = (mk5 (K + offE L q) L[q])[j]? := fun j hj => marksE_get hx hj
      have HOS := Lib.hid (offE_succ hx)
      have hle := offE_le L (q + 1)
      have hKK := HKK.out
      have hbd : K + offE L q + 3 + L[q].2.2.2.1.length + L[q].2.2.2.2.length ≤ 1000000000000 := by have := HOS.out; omega
      clear hle hKK
      generalize L[q] = x at *
      obtain ⟨t, m, p, l, l'⟩ := x
      simp only at HOS hbd
      obtain ⟨Kq, hKq⟩ : ∃ Kq, Kq = K + offE L q := ⟨_, rfl⟩
      rw [← hKq] at HM hbd ⊢
      have HKQ := Lib.hid hKq
      clear hKq
      obtain ⟨ad0, q0, k0⟩ := H.out.plain (j := q * 5 + 0) (u := .int .i64 (Kq : Int)) (by rw [HM 0 (by omega)]; rfl)
      obtain ⟨ad1, q1, k1⟩ := H.out.plain (j := q * 5 + 1) (u := .int .i64 ((Kq : Int) + 1)) (by rw [HM 1 (by omega)]; rfl)
      obtain ⟨ad2, q2, k2⟩ := H.out.plain (j := q * 5 + 2) (u := .int .i64 ((Kq : Int) + 2)) (by rw [HM 2 (by omega)]; rfl)
      obtain ⟨ad3, A3, c3, q3, k3, _, _, r3⟩ := H.out.row (j := q * 5 + 3) (l := marksInt (Kq + 3) l.length) (by rw [HM 3 (by omega)]; rfl)
      obtain ⟨ad4, A4, c4, q4, k4, _, _, r4⟩ := H.out.row (j := q * 5 + 4) (l := marksInt (Kq + 3 + l.length) l'.length) (by rw [HM 4 (by omega)]; rfl)
      subst q0
      injection q1 with q1
      subst q1
      injection q2 with q2
      subst q2
      injection q3 with q3
      subst q3
      injection q4 with q4
      subst q4
      rw [add_pos_ (by omega)] at k1 k2 k3 k4
      rw [length_marksInt] at k3 k4 r3 r4
      simp only [Nat.add_zero] at k0
      have C1 := heldIntS_any A3 l.length c3 (Kq + 3) w (by omega) r3
      have ek : ((Kq + 3 : Nat) : Int) = (Kq : Int) + 3 := by omega
      rw [ek] at C1
      have HC1 := Lib.hid C1
      have HC2 := Lib.hid (heldIntS_any A4 l'.length c4 (Kq + 3 + l.length) w (by omega) r4)
      have HEQ : Hid (((Kq + 3 + l.length + l'.length : Nat) : Int) = ((K + offE L (q + 1) : Nat) : Int)) := Lib.hid (by rw [HOS.out, HKQ.out]; congr 1; omega)
      clear C1 ek r3 r4 HM
      go_wp2_with fail
      refine (HC1.out).mono ?_
      rintro e w' ⟨rfl, rfl⟩
      go_wp2_with fail
      refine (HC2.out).mono ?_
      rintro e w' ⟨rfl, rfl⟩
      go_wp2
      go_round
      case rel => exact ⟨q + 1, by omega, by go_num, by rw [← HEQ.out]; simp⟩
      case measure => simp [intOf]; omega
    · obtain rfl : q = n := by omega
      have HAL := Lib.hid (offE_all (L := L) (i := q) (by rw [HX.out]; exact Nat.le_refl _))
      go_wp2
      go_ret
      exact ⟨ret_int (by have := HAL.out; omega), rfl⟩
theorem heldEntryS_any (A : Option Addr) (n c K : Nat) (L : List EntryT) (w : World) (hn : n ≤ 1000000000) (hK : K + mE L ≤ 1000000000000) (h : Reads2 w 5 A n (marksE K L)) :
    Calls Try.prog 27 #[.slice A n c, .int .i64 K] w fun e w' => e = .returned (.int .i64 ((K + mE L : Nat) : Int)) ∧ w = w' := heldEntryS0_any A n c K L w hn hK h

end Go.Proofs.Ytcjmlakmigfkfaa
