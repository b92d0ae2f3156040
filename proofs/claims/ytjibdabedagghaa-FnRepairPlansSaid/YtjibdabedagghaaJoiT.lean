/- Contract of JoinDays of the spec. No conditions. -/
import Derived.Test.YtjibdabedagghaaJoiS
import Derived.Test.YtjibdabedagghaaOwnP
namespace Go.Proofs.Ytjibdabedagghaa
set_option linter.unusedSimpArgs false
set_option linter.unusedVariables false
open Go.RowKit

/-- A row of the call's own that has been made since, and its header just built, appended. -/
theorem Own2.push_own {w0 w w' : World} {lo n c c' m co : Nat} {e ei : TypeId} {A A' Ao : Option Addr} {cs : List Cel} {hs : List Value} {l : List Value} (h : Own2 w0 lo w0.heap.size e ei 1 A n c cs hs) (hb : Below w0.heap.size w0 w) (hm : m = l.length)
    (ho : w.ownsRow w0.heap.size ei 1 (.slice Ao m co) m l) (hlo : lo ≤ w0.heap.size) (hg : (w.alloc (.cells #[.slice Ao m co] e)).grownBy w' (Value.slice A n c).ownBlock) (hr : w'.ownsRow lo e 1 (.slice A' (n + 1) c') (n + 1) (hs ++ [.slice Ao m co]))
    (hloc : (Value.slice A' (n + 1) c').ownBlock = (Value.slice A n c).ownBlock ∨ (Value.slice A' (n + 1) c').ownBlock = some (w.alloc (.cells #[.slice Ao m co] e)).heap.size) :
    Own2 w' lo w'.heap.size e ei 1 A' (n + 1) c' (cs ++ [.inr l]) (hs ++ [.slice Ao m co]) := by
  subst hm
  have hal : Below w.heap.size w (w.alloc (.cells #[.slice Ao l.length co] e)) := (Below.refl _ _).alloc (Nat.le_refl _) _
  have hB : Below w0.heap.size w0 (w.alloc (.cells #[.slice Ao l.length co] e)) := hb.trans (hal.mono hb.size)
  have ho2 := own_below ho hal
  have hsz := hb.size
  refine (h.below hB (Nat.le_refl _)).push hg hr hloc (by simp; omega) rfl (fun q u x hu hx => ?_) (fun q u hu b hb' => ?_) (fun q q' u v hne hu hv => ?_)
  · cases q with
    | succ q => simp at hu
    | zero =>
      simp at hu hx
      subst hu; subst hx
      exact ⟨_, _, rfl, own_mono ho2 hlo⟩
  · cases q with
    | succ q => simp at hu
    | zero =>
      simp at hu
      subst hu
      have := ho.lt b hb'
      exact ⟨by omega, this.1, by simp; omega⟩
  · cases q with
    | succ q => simp at hu
    | zero =>
      cases q' with
      | zero => exact absurd rfl hne
      | succ q' => simp at hv
theorem joinP_self {a : List Int} (h : a.Pairwise (· < ·)) : joinP a a = a :=
  inc_ext (inc_joinP a h) h fun x => by rw [mem_joinP]; simp
theorem joinP_succ (a b : List Int) {j : Nat} (h : j < b.length) : joinP a (b.take (j + 1)) = putL (joinP a (b.take j)) b[j] := by
  unfold joinP
  rw [List.take_succ_eq_append_getElem h, List.foldl_append]
  rfl
@[simp] theorem length_joinL (L : PL) (f t : Nat) : (joinL L f t).length = L.length := by unfold joinL; split <;> simp
theorem joinL_at {L : PL} {f t k : Nat} (hp : planB 7 L = true) (hk : k < L.length) (hf : f < L.length) :
    (joinL L f t)[k]? = some (if k = f ∧ f ≠ t then [] else if k = t then joinP L[k] L[f] else L[k]) := by
  have hinc := (plan_rows hp).2 _ (List.getElem_mem hk)
  unfold joinL
  by_cases hft : f = t
  · subst hft
    simp only [if_true]
    by_cases hkf : k = f
    · subst hkf
      simp [hk, joinP_self hinc.1]
    · simp [hk, hkf]
  · simp only [if_neg hft]
    by_cases hkf : k = f
    · subst hkf
      simp [hft, hk]
    · rw [List.getElem?_set_ne (by omega)]
      by_cases hkt : k = t
      · subst hkt
        have e1 : L.getD k [] = L[k] := by simp [List.getD_eq_getElem?_getD, hk]
        have e2 : L.getD f [] = L[f] := by simp [List.getD_eq_getElem?_getD, hf]
        rw [e1, e2, List.getElem?_set_self hk, if_neg (by omega), if_pos rfl]
      · rw [List.getElem?_set_ne (by omega), List.getElem?_eq_getElem hk, if_neg (by omega), if_neg hkt]
theorem rowsIntss_snoc (L : PL) (l : List Int) : rowsIntss L ++ [.inr (ints l)] = rowsIntss (L ++ [l]) := by simp [rowsIntss]

set_option maxHeartbeats 4000000 in
set_option maxRecDepth 100000 in
theorem specJoinDays_any (A : Option Addr) (n c : Nat) (L : PL) (f t : Int) (w : World) (hn : n ≤ 1000000000) (hl : ∀ l ∈ L, l.length ≤ 1000000000) (h : Reads2 w 1 A n (rowsIntss L)) :
    Calls Try.prog 47 #[.slice A n c, .int .i64 f, .int .i64 t] w (Made4 w 38 3 1 (joinR L f t).1.length (rowsIntss (joinR L f t).1) (joinR L f t).2) := by
  have HX := Lib.hid (show L.length = n by have := h.len; simpa using this)
  have c1 := rrPlan_any A n c L 8 w hn hl ⟨by omega, by omega⟩ h
  have hm : (8 : Int) - 1 = 7 := rfl
  rw [hm] at c1
  clear hm
  cases h1 : planB 7 L with
  | false =>
    rw [h1] at c1
    have C1 := Lib.hid c1
    have hr : joinR L f t = ([], false) := by simp [joinR, h1]
    rw [hr]
    clear hr c1 h1 h hl
    go_enter Try.func47, Try.ntmps47
    go_wp2_with (first | (go_at_call 76; refine (C1.out).mono ?_; rintro e w1 ⟨rfl, rfl⟩) | (go_at_call 68; refine (l1In_any _ _ _ _).mono ?_; rintro e w' ⟨rfl, rfl⟩))
    go_ret2
    exact ⟨none, 0, [], rfl, own2_nil _ _, Below.refl _ _⟩
  | true =>
    rw [h1] at c1
    have C1 := Lib.hid c1
    cases h2 : inB f 0 ((n : Int) - 1) with
    | false =>
      have hr : joinR L f t = ([], false) := by simp [joinR, HX.out, h2]
      rw [hr]
      clear hr c1 h1 h hl
      go_enter Try.func47, Try.ntmps47
      go_wp2_with (first | (go_at_call 76; refine (C1.out).mono ?_; rintro e w1 ⟨rfl, rfl⟩) | (go_at_call 68; refine (l1In_any _ _ _ _).mono ?_; rintro e w' ⟨rfl, rfl⟩))
      go_ret2
      exact ⟨none, 0, [], rfl, own2_nil _ _, Below.refl _ _⟩
    | true =>
      cases h3 : inB t 0 ((n : Int) - 1) with
      | false =>
        have hr : joinR L f t = ([], false) := by simp [joinR, HX.out, h3]
        rw [hr]
        clear hr c1 h1 h hl
        go_enter Try.func47, Try.ntmps47
        go_wp2_with (first | (go_at_call 76; refine (C1.out).mono ?_; rintro e w1 ⟨rfl, rfl⟩) | (go_at_call 68; refine (l1In_any _ _ _ _).mono ?_; rintro e w' ⟨rfl, rfl⟩))
        go_ret2
        exact ⟨none, 0, [], rfl, own2_nil _ _, Below.refl _ _⟩
      | true =>
        obtain ⟨hf0, hf1⟩ := inB_true.1 h2
        obtain ⟨ht0, ht1⟩ := inB_true.1 h3
        obtain ⟨f, rfl⟩ : ∃ f' : Nat, f = (f' : Int) := ⟨f.toNat, by omega⟩
        obtain ⟨t, rfl⟩ : ∃ t' : Nat, t = (t' : Int) := ⟨t.toNat, by omega⟩
        have hr : joinR L (f : Int) (t : Int) = (joinL L f t, true) := by simp [joinR, h1, HX.out, h2, h3]
        rw [hr]
        have hn30 : n ≤ 30 := by have := (plan_rows h1).1; rw [HX.out] at this; exact this
        have hfn : f < L.length := by rw [HX.out]; omega
        have HAT : Hid (∀ k (hk : k < L.length), (joinL L f t)[k]? = some (if k = f ∧ f ≠ t then [] else if k = t then joinP L[k] L[f] else L[k])) := Lib.hid (fun k hk => joinL_at (t := t) h1 hk hfn)
        have HL8 := Lib.hid (fun l hl' => ((plan_rows h1).2 l hl').2.2)
        have HJL : Hid ((joinL L f t).length = n) := Lib.hid (by simpa using HX.out)
        have HPB := Lib.hid (fun a b => joinP_bd (a := a) (b := b) (hi := 7))
        have HRS := Lib.hid (plan_rows h1).2
        have H := Lib.hid h
        clear hr c1 h1 h hl
        generalize joinL L f t = J at *
        obtain ⟨lo, hlo⟩ : ∃ lo, lo = w.heap.size := ⟨_, rfl⟩
        have HLOE := Lib.hid hlo
        go_enter Try.func47, Try.ntmps47
        go_wp2_with (first | (go_at_call 76; refine (C1.out).mono ?_; rintro e w1 ⟨rfl, rfl⟩) | (go_at_call 68; refine (l1In_any _ _ _ _).mono ?_; rintro e w' ⟨rfl, rfl⟩))
        go_loopw [8, 35] (fun v i wr => ∃ k : Nat, ∃ A1 c1 hs, k ≤ n ∧ i = .int .i64 k ∧ v = .slice A1 k c1 ∧ Own2 wr lo wr.heap.size 38 3 1 A1 k c1 (rowsIntss (J.take k)) hs ∧ Below lo w wr) (fun _ i _ => n - (intOf i).toNat)
        case atStart => exact ⟨0, none, 0, [], Nat.zero_le _, rfl, rfl, by simpa [rowsIntss] using own2_nil (w := w) lo w.heap.size, Below.refl _ _⟩
        case round =>
          obtain ⟨k, A1, c1, hs, hk, rfl, rfl, hown, hb⟩ := hrel
          have HO := Lib.hid hown; have HBO := Lib.hid hb
          clear hown hb
          obtain ⟨wo, rfl⟩ : ∃ wo, wo = wr := ⟨_, rfl⟩
          have HLO : Hid (lo ≤ wo.heap.size) := Lib.hid (by have := HBO.out.size; have := HLOE.out; omega)
          by_cases hlt : k < n
          · have hx : k < L.length := by rw [HX.out]; exact hlt
            have HJ := Lib.hid (HAT.out k hx)
            obtain ⟨ad, Ai, ci, rfl, kc, _, _, hr⟩ := (H.out.below (w' := wo) (by have h5 := HBO.out; rw [HLOE.out] at h5; exact h5)).row (rowsIntss_get hx)
            have HRR := Lib.hid hr; clear hr
            have hXL := HL8.out L[k] (List.getElem_mem hx)
            by_cases hkf : k = f ∧ f ≠ t
            · obtain ⟨rfl, hft⟩ := hkf
              have HJK : Hid (J.take (k + 1) = J.take k ++ [[]]) := Lib.hid (by rw [List.take_add_one, HJ.out, if_pos ⟨rfl, hft⟩]; rfl)
              have hbk : ((k : Int) == (t : Int)) = false := by rw [beq_eq_false_iff_ne]; omega
              have hbn : ((k : Int) != (t : Int)) = true := by rw [bne_iff_ne]; omega
              clear HJ
              go_wp2_with fail
              refine (l1Own_any none 0 0 [] wo (by omega) ⟨rfl, fun h => by omega⟩).mono ?_
              rintro e w2 ⟨Ao, co, rfl, ho, hb⟩
              have HOX := Lib.hid ho; have HBX := Lib.hid hb
              clear ho hb
              have HOW : Hid (w2.ownsRow lo 38 1 (.slice A1 k c1) k hs) := Lib.hid (own_below HO.out.row HBX.out)
              have HLZ : Hid (lo ≤ w2.heap.size) := Lib.hid (Nat.le_trans HLO.out HBX.out.size)
              have HMX : Hid (0 = (ints ([] : List Int)).length) := Lib.hid (by simp)
              go_wp2_with (at_builtin; refine wpList_pushL _ rfl (.tmp 66) (.tmp 68) 43 rfl lo 38 (.slice none 0 0) 1 24 infoInts rfl (by omega) Try.underlying43 A1 k c1 hs rfl (own_below HOW.out ((Below.refl _ _).alloc (Nat.le_refl _) _)) (some ⟨w2.heap.size, 0, none⟩) 1 1 [.slice Ao 0 co] rfl (reads_new _ _ _) (by simp [Value.oneCell']) (by omega) (by omega) (by have := HLZ.out; simp; omega) ?_; intro A5 c5 w5 hown5 hg5 hb5 hloc5)
              have h5 := HO.out.push_own HBX.out HMX.out HOX.out HLO.out hg5 hown5 hloc5
              rw [rowsIntss_snoc, ← HJK.out] at h5
              have HO5 := Lib.hid h5
              have HB5 : Hid (Below lo w w5) := Lib.hid ((HBO.out.trans (HBX.out.mono HLO.out)).trans (((Below.refl _ _).alloc HLZ.out _).trans hb5))
              clear hown5 hg5 hb5 hloc5 h5
              go_roundw
              case rel => exact ⟨k + 1, A5, c5, _, by omega, by go_num, rfl, HO5.out, HB5.out⟩
              case measure => simp [intOf]; omega
            · simp only [length_ints] at kc HRR
              by_cases hkt : k = t
              · subst hkt
                have HJK : Hid (J.take (k + 1) = J.take k ++ [joinP L[k] L[f]]) := Lib.hid (by rw [List.take_add_one, HJ.out, if_neg hkf, if_pos rfl]; rfl)
                obtain ⟨hp1, hp2, _⟩ := HRS.out _ (List.getElem_mem hx)
                have hfb := (HRS.out _ (List.getElem_mem hfn)).2.1
                have hfl := HL8.out _ (List.getElem_mem hfn)
                have HLJ : Hid (∀ j, (joinP L[k] (L[f].take j)).length ≤ 8) := Lib.hid (fun j => by have := joinP_bd (hi := 7) hp1 hp2 (b := L[f].take j) (fun x hx => hfb x (List.mem_of_mem_take hx)) (by omega); omega)
                have HGF := Lib.hid (rowsIntss_get hfn)
                clear hp1 hp2 hfb HJ
                by_cases hfk : f = k
                · have hb1 : ((k : Int) == (f : Int)) = true := by rw [beq_iff_eq]; omega
                  have hb2 : ((f : Int) != (k : Int)) = false := by rw [bne_eq_false_iff_eq]; omega
                  clear hfk hkf
                  generalize L[k] = l at *
                  go_wp2_with fail
                  refine (l1Own_any Ai l.length ci l wo (by omega) HRR.out).mono ?_
                  rintro e w2 ⟨Ao, co, rfl, ho, hb⟩
                  have HOX := Lib.hid ho; have HBX := Lib.hid hb
                  clear ho hb
                  obtain ⟨ad', Af, cf, e1, kf, _, _, hrf⟩ := (H.out.below (w' := w2) (by have h5 := HBO.out.trans (HBX.out.mono HLO.out); rw [HLOE.out] at h5; exact h5)).row HGF.out
                  injection e1 with e1
                  subst e1
                  have HRF := Lib.hid hrf
                  clear hrf
                  simp only [length_ints] at kf HRF
                  generalize L[f] = b at *
                  have HOX0 : Hid (w2.ownsRow wo.heap.size 3 1 (.slice Ao (joinP l (b.take 0)).length co) (joinP l (b.take 0)).length (ints (joinP l (b.take 0)))) := Lib.hid (by simpa [joinP] using HOX.out)
                  have HLE : Hid ((joinP l (b.take 0)).length = l.length) := Lib.hid (by simp [joinP])
                  clear kc HOX
                  go_wp2
                  clear kf
                  go_loopw [11, 58] (fun o i wr => ∃ j : Nat, ∃ A' c', j ≤ b.length ∧ i = .int .i64 j ∧ o = .slice A' (joinP l (b.take j)).length c' ∧ wr.ownsRow wo.heap.size 3 1 (.slice A' (joinP l (b.take j)).length c') (joinP l (b.take j)).length (ints (joinP l (b.take j))) ∧ (Below wo.heap.size wo wr ∧ Below w2.heap.size w2 wr)) (fun _ i _ => b.length - (intOf i).toNat)
                  case atStart => exact ⟨0, Ao, co, Nat.zero_le _, rfl, by rw [HLE.out], HOX0.out, HBX.out, Below.refl _ _⟩
                  case round =>
                    obtain ⟨j, A', c', hj, rfl, rfl, ho, hb, hb2⟩ := hrel
                    have HOX := Lib.hid ho; have HBXX := Lib.hid hb; have HB2 := Lib.hid hb2
                    have hlj := HLJ.out j
                    clear ho hb hb2 HOX0 HLE
                    by_cases hlt2 : j < b.length
                    · obtain ⟨bd, u, rfl, hu, k0⟩ := (HRF.out.below HB2.out).at_ hlt2
                      have e0 : u = .int .i64 b[j] := by simp [ints, hlt2] at hu; exact hu.symm
                      subst e0
                      have HN := Lib.hid (joinP_succ l b hlt2)
                      clear hu
                      generalize b[j] = v at *
                      obtain ⟨wi, rfl⟩ : ∃ wi, wi = wr := ⟨_, rfl⟩
                      go_wp2_with fail
                      refine (l1Put_any (joinP l (b.take j)) v wi HOX.out (by omega) HBXX.out.size).mono ?_
                      rintro e w4 ⟨A4, c4, rfl, ho, hb⟩
                      rw [← HN.out] at ho
                      rw [← HN.out]
                      have HO4 := Lib.hid ho; have HB4 := Lib.hid hb
                      clear ho hb k0
                      go_wp2
                      go_roundw
                      case rel => exact ⟨j + 1, A4, c4, by omega, by go_num, rfl, HO4.out, HBXX.out.trans (HB4.out.mono HBXX.out.size), HB2.out.trans (HB4.out.mono HB2.out.size)⟩
                      case measure => simp [intOf]; omega
                    · have e5 : b.take j = b := List.take_of_length_le (by omega)
                      rw [e5] at hlj HOX
                      rw [e5]
                      have HBX := HBXX
                      clear e5 HB2 HRF
                      obtain ⟨ws, rfl⟩ : ∃ ws, ws = wr := ⟨_, rfl⟩
                      generalize joinP l b = X at *
                      have HOW : Hid (ws.ownsRow lo 38 1 (.slice A1 k c1) k hs) := Lib.hid (own_below HO.out.row HBX.out)
                      have HLZ : Hid (lo ≤ ws.heap.size) := Lib.hid (Nat.le_trans HLO.out HBX.out.size)
                      have HMX : Hid (X.length = (ints X).length) := Lib.hid (by simp)
                      go_wp2_with (at_builtin; refine wpList_pushL _ rfl (.tmp 66) (.tmp 68) 43 rfl lo 38 (.slice none 0 0) 1 24 infoInts rfl (by omega) Try.underlying43 A1 k c1 hs rfl (own_below HOW.out ((Below.refl _ _).alloc (Nat.le_refl _) _)) (some ⟨ws.heap.size, 0, none⟩) 1 1 [.slice A' X.length c'] rfl (reads_new _ _ _) (by simp [Value.oneCell']) (by omega) (by omega) (by have := HLZ.out; simp; omega) ?_; intro A5 c5 w5 hown5 hg5 hb5 hloc5)
                      have h5 := HO.out.push_own HBX.out HMX.out HOX.out HLO.out hg5 hown5 hloc5
                      rw [rowsIntss_snoc, ← HJK.out] at h5
                      have HO5 := Lib.hid h5
                      have HB5 : Hid (Below lo w w5) := Lib.hid ((HBO.out.trans (HBX.out.mono HLO.out)).trans (((Below.refl _ _).alloc HLZ.out _).trans hb5))
                      clear hown5 hg5 hb5 hloc5 h5
                      go_roundw
                      case rel => exact ⟨k + 1, A5, c5, _, by omega, by go_num, rfl, HO5.out, HB5.out⟩
                      case measure => simp [intOf]; omega
                · have hb1 : ((k : Int) == (f : Int)) = false := by rw [beq_eq_false_iff_ne]; omega
                  clear hfk hkf
                  generalize L[k] = l at *
                  go_wp2_with fail
                  refine (l1Own_any Ai l.length ci l wo (by omega) HRR.out).mono ?_
                  rintro e w2 ⟨Ao, co, rfl, ho, hb⟩
                  have HOX := Lib.hid ho; have HBX := Lib.hid hb
                  clear ho hb
                  obtain ⟨ad', Af, cf, e1, kf, _, _, hrf⟩ := (H.out.below (w' := w2) (by have h5 := HBO.out.trans (HBX.out.mono HLO.out); rw [HLOE.out] at h5; exact h5)).row HGF.out
                  injection e1 with e1
                  subst e1
                  have HRF := Lib.hid hrf
                  clear hrf
                  simp only [length_ints] at kf HRF
                  generalize L[f] = b at *
                  have HOX0 : Hid (w2.ownsRow wo.heap.size 3 1 (.slice Ao (joinP l (b.take 0)).length co) (joinP l (b.take 0)).length (ints (joinP l (b.take 0)))) := Lib.hid (by simpa [joinP] using HOX.out)
                  have HLE : Hid ((joinP l (b.take 0)).length = l.length) := Lib.hid (by simp [joinP])
                  clear kc HOX
                  go_wp2
                  clear kf
                  go_loopw [11, 58] (fun o i wr => ∃ j : Nat, ∃ A' c', j ≤ b.length ∧ i = .int .i64 j ∧ o = .slice A' (joinP l (b.take j)).length c' ∧ wr.ownsRow wo.heap.size 3 1 (.slice A' (joinP l (b.take j)).length c') (joinP l (b.take j)).length (ints (joinP l (b.take j))) ∧ (Below wo.heap.size wo wr ∧ Below w2.heap.size w2 wr)) (fun _ i _ => b.length - (intOf i).toNat)
                  case atStart => exact ⟨0, Ao, co, Nat.zero_le _, rfl, by rw [HLE.out], HOX0.out, HBX.out, Below.refl _ _⟩
                  case round =>
                    obtain ⟨j, A', c', hj, rfl, rfl, ho, hb, hb2⟩ := hrel
                    have HOX := Lib.hid ho; have HBXX := Lib.hid hb; have HB2 := Lib.hid hb2
                    have hlj := HLJ.out j
                    clear ho hb hb2 HOX0 HLE
                    by_cases hlt2 : j < b.length
                    · obtain ⟨bd, u, rfl, hu, k0⟩ := (HRF.out.below HB2.out).at_ hlt2
                      have e0 : u = .int .i64 b[j] := by simp [ints, hlt2] at hu; exact hu.symm
                      subst e0
                      have HN := Lib.hid (joinP_succ l b hlt2)
                      clear hu
                      generalize b[j] = v at *
                      obtain ⟨wi, rfl⟩ : ∃ wi, wi = wr := ⟨_, rfl⟩
                      go_wp2_with fail
                      refine (l1Put_any (joinP l (b.take j)) v wi HOX.out (by omega) HBXX.out.size).mono ?_
                      rintro e w4 ⟨A4, c4, rfl, ho, hb⟩
                      rw [← HN.out] at ho
                      rw [← HN.out]
                      have HO4 := Lib.hid ho; have HB4 := Lib.hid hb
                      clear ho hb k0
                      go_wp2
                      go_roundw
                      case rel => exact ⟨j + 1, A4, c4, by omega, by go_num, rfl, HO4.out, HBXX.out.trans (HB4.out.mono HBXX.out.size), HB2.out.trans (HB4.out.mono HB2.out.size)⟩
                      case measure => simp [intOf]; omega
                    · have e5 : b.take j = b := List.take_of_length_le (by omega)
                      rw [e5] at hlj HOX
                      rw [e5]
                      have HBX := HBXX
                      clear e5 HB2 HRF
                      obtain ⟨ws, rfl⟩ : ∃ ws, ws = wr := ⟨_, rfl⟩
                      generalize joinP l b = X at *
                      have HOW : Hid (ws.ownsRow lo 38 1 (.slice A1 k c1) k hs) := Lib.hid (own_below HO.out.row HBX.out)
                      have HLZ : Hid (lo ≤ ws.heap.size) := Lib.hid (Nat.le_trans HLO.out HBX.out.size)
                      have HMX : Hid (X.length = (ints X).length) := Lib.hid (by simp)
                      go_wp2_with (at_builtin; refine wpList_pushL _ rfl (.tmp 66) (.tmp 68) 43 rfl lo 38 (.slice none 0 0) 1 24 infoInts rfl (by omega) Try.underlying43 A1 k c1 hs rfl (own_below HOW.out ((Below.refl _ _).alloc (Nat.le_refl _) _)) (some ⟨ws.heap.size, 0, none⟩) 1 1 [.slice A' X.length c'] rfl (reads_new _ _ _) (by simp [Value.oneCell']) (by omega) (by omega) (by have := HLZ.out; simp; omega) ?_; intro A5 c5 w5 hown5 hg5 hb5 hloc5)
                      have h5 := HO.out.push_own HBX.out HMX.out HOX.out HLO.out hg5 hown5 hloc5
                      rw [rowsIntss_snoc, ← HJK.out] at h5
                      have HO5 := Lib.hid h5
                      have HB5 : Hid (Below lo w w5) := Lib.hid ((HBO.out.trans (HBX.out.mono HLO.out)).trans (((Below.refl _ _).alloc HLZ.out _).trans hb5))
                      clear hown5 hg5 hb5 hloc5 h5
                      go_roundw
                      case rel => exact ⟨k + 1, A5, c5, _, by omega, by go_num, rfl, HO5.out, HB5.out⟩
                      case measure => simp [intOf]; omega
              · have HJK : Hid (J.take (k + 1) = J.take k ++ [L[k]]) := Lib.hid (by rw [List.take_add_one, HJ.out, if_neg hkf, if_neg hkt]; rfl)
                have hkf' : ¬ k = f := fun e => hkf ⟨e, by omega⟩
                have hbk : ((k : Int) == (f : Int)) = false := by rw [beq_eq_false_iff_ne]; omega
                have hbt : ((k : Int) == (t : Int)) = false := by rw [beq_eq_false_iff_ne]; omega
                clear HJ hkf
                generalize L[k] = l at *
                go_wp2_with fail
                refine (l1Own_any Ai l.length ci l wo (by omega) HRR.out).mono ?_
                rintro e w2 ⟨Ao, co, rfl, ho, hb⟩
                have HOX := Lib.hid ho; have HBX := Lib.hid hb
                clear ho hb
                have HOW : Hid (w2.ownsRow lo 38 1 (.slice A1 k c1) k hs) := Lib.hid (own_below HO.out.row HBX.out)
                have HLZ : Hid (lo ≤ w2.heap.size) := Lib.hid (Nat.le_trans HLO.out HBX.out.size)
                have HMX : Hid (l.length = (ints l).length) := Lib.hid (by simp)
                go_wp2_with (at_builtin; refine wpList_pushL _ rfl (.tmp 66) (.tmp 68) 43 rfl lo 38 (.slice none 0 0) 1 24 infoInts rfl (by omega) Try.underlying43 A1 k c1 hs rfl (own_below HOW.out ((Below.refl _ _).alloc (Nat.le_refl _) _)) (some ⟨w2.heap.size, 0, none⟩) 1 1 [.slice Ao l.length co] rfl (reads_new _ _ _) (by simp [Value.oneCell']) (by omega) (by omega) (by have := HLZ.out; simp; omega) ?_; intro A5 c5 w5 hown5 hg5 hb5 hloc5)
                have h5 := HO.out.push_own HBX.out HMX.out HOX.out HLO.out hg5 hown5 hloc5
                rw [rowsIntss_snoc, ← HJK.out] at h5
                have HO5 := Lib.hid h5
                have HB5 : Hid (Below lo w w5) := Lib.hid ((HBO.out.trans (HBX.out.mono HLO.out)).trans (((Below.refl _ _).alloc HLZ.out _).trans hb5))
                clear hown5 hg5 hb5 hloc5 h5
                go_roundw
                case rel => exact ⟨k + 1, A5, c5, _, by omega, by go_num, rfl, HO5.out, HB5.out⟩
                case measure => simp [intOf]; omega
          · obtain rfl : k = n := by omega
            have e : J.take k = J := List.take_of_length_le (by rw [HJL.out]; omega)
            have ho := HO.out
            rw [e] at ho
            have HOF := Lib.hid ho
            clear ho HAT
            go_wp2
            go_ret2
            have e2 := HJL.out
            have e3 := HLOE.out
            subst e3
            refine ⟨A1, c1, hs, ?_, ?_, HBO.out⟩
            · rw [e2]; rfl
            · rw [e2]; exact HOF.out

end Go.Proofs.Ytjibdabedagghaa
