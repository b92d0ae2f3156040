/- The law of repair plans: what it asks of its functions' results. No conditions. -/
import Derived.Test.YtjibdabedagghaaRplP
namespace Go.Proofs.Ytjibdabedagghaa
set_option linter.unusedSimpArgs false
set_option linter.unusedVariables false
open Go.RowKit

theorem planR_yes {l : List G4} {days : Int} {P : PL} (h : planR l days P = (true, true)) : goodGears l = true ∧ inB days 0 30 = true ∧ planB 7 P = true ∧ (P.length : Int) = days ∧ allP ((l.length : Int) - 1) P = true ∧ holdsL P l 0 = true := by
  unfold planR at h
  split at h
  · next hc =>
    simp only [Bool.and_eq_true] at hc
    injection h with h _
    simp only [Bool.and_eq_true, decide_eq_true_eq] at h
    exact ⟨hc.1, hc.2.1, hc.2.2, h.1, h.2.1, h.2.2⟩
  · injection h with h _
    cases h
theorem planR_mk {l : List G4} {days : Int} {P : PL} (h1 : goodGears l = true) (h2 : inB days 0 30 = true) (h3 : planB 7 P = true) (h4 : (P.length : Int) = days) (h5 : allP ((l.length : Int) - 1) P = true) (h6 : holdsL P l 0 = true) : planR l days P = (true, true) := by
  unfold planR
  rw [if_pos (by simp [h1, h2, h3]), h5, h6]
  simp [h4]
theorem lateR_yes {l : List G4} {days : Int} (h : (lateR l days).2 = true) : goodGears l = true ∧ inB days 0 30 = true ∧ lateR l days = (lateL l days.toNat, true) := by
  unfold lateR at h ⊢
  split at h
  · next hc =>
    have hc' := hc
    simp only [Bool.and_eq_true] at hc
    rw [if_pos hc']
    exact ⟨hc.1, hc.2, rfl⟩
  · cases h
theorem lateR_mk {l : List G4} {days : Int} (h1 : goodGears l = true) (h2 : inB days 0 30 = true) : lateR l days = (lateL l days.toNat, true) := by
  unfold lateR
  rw [if_pos (by simp [h1, h2])]
theorem repR_mk {P : PL} {g : Int} (h1 : planB 7 P = true) (h2 : 0 ≤ g ∧ g ≤ 7) : repR P g = (repF g P 0, true) := by
  unfold repR
  rw [if_pos (by rw [h1, inB_true.2 h2]; rfl)]
theorem costR_mk {l : List G4} {P : PL} {trip : Int} (h1 : goodGears l = true) (h2 : planB ((l.length : Int) - 1) P = true) (h3 : inB trip 0 1000 = true) : costR l P trip = (planC l trip P, true) := by
  unfold costR
  rw [if_pos (by simp [h1, h2, h3])]
theorem leastR_mk {l : List G4} {D trip : Int} (h1 : goodGears l = true) (h2 : l.length ≤ 3) (h3 : inB D 0 10 = true) (h4 : inB trip 0 1000 = true) : leastR l D trip = (leastW l trip D.toNat (l.map (·.1)), true) := by
  unfold leastR
  rw [if_pos (by simp [leastB, h1, h2, h3, h4])]
theorem leastR_yes {l : List G4} {D trip : Int} (h : (leastR l D trip).2 = true) : goodGears l = true ∧ l.length ≤ 3 ∧ inB D 0 10 = true ∧ inB trip 0 1000 = true := by
  unfold leastR at h
  split at h
  · next hc =>
    simp only [leastB, Bool.and_eq_true, decide_eq_true_eq] at hc
    exact ⟨hc.1.1.1, hc.1.1.2, hc.1.2, hc.2⟩
  · cases h
theorem late_len (l : List G4) (d : Nat) : (lateL l d).length = d := by simp [lateL]
theorem good_len {l : List G4} (h : goodGears l = true) : l.length ≤ 8 := (goodGears_true.1 h).2
theorem good_at {l : List G4} (h : goodGears l = true) (k : Nat) (hk : k < l.length) : gearB l[k].1 l[k].2.1 l[k].2.2.1 l[k].2.2.2 = true := (goodGears_true.1 h).1 _ (List.getElem_mem hk)
theorem planB_rows {hi : Int} {P : PL} (h : planB hi P = true) : ∀ d ∈ P, d.Pairwise (· < ·) ∧ ∀ x ∈ d, 0 ≤ x ∧ x ≤ hi := by
  intro d hd
  simp only [planB, Bool.and_eq_true, allR_true] at h
  exact rise_inc (h.1 d hd)
/-- (5) The late plan is a repair plan. -/
theorem law_late {l : List G4} {days : Int} (h : (lateR l days).2 = true) : planR l days (lateR l days).1 = (true, true) := by
  obtain ⟨h1, h2, e⟩ := lateR_yes h
  rw [e]
  have hd := inB_true.1 h2
  have h8 := good_len h1
  have hp := planB_late l days.toNat (by omega) ((l.length : Int) - 1) (Int.le_refl _)
  have hp7 := planB_late l days.toNat (by omega) 7 (by omega)
  rw [planB_split (by omega), Bool.and_eq_true] at hp
  refine planR_mk h1 h2 hp7 (by simp only [late_len]; omega) hp.2 ?_
  refine holdsL_of l 0 (fun k hk => ?_)
  have := holdsG_late l k hk (good_at h1 k hk) days.toNat 0
  rw [lateL_from, Int.zero_add]
  exact this
/-- (2) It repairs each gear on the fewest days. -/
theorem law_few {l : List G4} {days : Int} {P : PL} (h : planR l days P = (true, true)) : lateR l days = (lateL l days.toNat, true) ∧ ∀ k, k < l.length → repR P (k : Int) = (repF (k : Int) P 0, true) ∧ repR (lateL l days.toNat) (k : Int) = (repF (k : Int) (lateL l days.toNat) 0, true) ∧ (repF (k : Int) (lateL l days.toNat) 0).length ≤ (repF (k : Int) P 0).length := by
  obtain ⟨h1, h2, h3, h4, h5, h6⟩ := planR_yes h
  have h8 := good_len h1
  have hd := inB_true.1 h2
  refine ⟨lateR_mk h1 h2, fun k hk => ⟨repR_mk h3 (by omega), repR_mk (planB_late l _ (by omega) 7 (by omega)) (by omega), ?_⟩⟩
  rw [repF_cnt, repF_cnt, lateL_from, show days.toNat = P.length by omega]
  have h7 := holdsL_at l 0 h6 k hk
  rw [Int.zero_add] at h7
  have hg := good_at h1 k hk
  have hw := gearB_true.1 hg
  exact (late_few l k hk hg P 0 l[k].1 h7 (by omega)).1 (Int.le_refl _)
theorem planB_len {l : List G4} {P : PL} (h1 : goodGears l = true) (h3 : planB 7 P = true) (h5 : allP ((l.length : Int) - 1) P = true) : planB ((l.length : Int) - 1) P = true := by
  have h8 := good_len h1
  rw [planB_split (by omega), h3, h5]
  rfl
theorem least_plan {l : List G4} {days trip : Int} {P : PL} (h : planR l days P = (true, true)) (ht : inB trip 0 1000 = true) : leastW l trip days.toNat (l.map (·.1)) ≤ planC l trip P := by
  obtain ⟨h1, h2, h3, h4, h5, h6⟩ := planR_yes h
  have hr := planB_rows (planB_len h1 h3 h5)
  rw [show days.toNat = P.length by omega]
  exact least_le_plan (goodG_of h1) (inB_true.1 ht) P _ (holdsW_of P l 0 h6) (fun d hd => ⟨(hr d hd).1, fun x hx => by have := (hr d hd).2 x hx; omega⟩)
/-- (3) No repair plan costs less than the least cost. -/
theorem law_least {l : List G4} {days : Int} {P : PL} (h : planR l days P = (true, true)) (hl : l.length ≤ 3) (hd : days ≤ 10) : leastR l days 100 = (leastW l 100 days.toNat (l.map (·.1)), true) ∧ costR l P 100 = (planC l 100 P, true) ∧ leastW l 100 days.toNat (l.map (·.1)) ≤ planC l 100 P := by
  obtain ⟨h1, h2, h3, h4, h5, h6⟩ := planR_yes h
  have h2' := inB_true.1 h2
  exact ⟨leastR_mk h1 hl (inB_true.2 (by omega)) rfl, costR_mk h1 (planB_len h1 h3 h5) rfl, least_plan h rfl⟩
/-- (6) The least cost is no more than the late plan's. -/
theorem law_cost {l : List G4} {days trip : Int} (h : (leastR l days trip).2 = true) : (lateR l days).2 = true ∧ (costR l (lateR l days).1 trip).2 = true ∧ (leastR l days trip).1 ≤ (costR l (lateR l days).1 trip).1 ∧ 0 ≤ (leastR l days trip).1 := by
  obtain ⟨h1, h2, h3, h4⟩ := leastR_yes h
  have h3' := inB_true.1 h3
  have hl : (lateR l days).2 = true := by rw [lateR_mk h1 (inB_true.2 (by omega))]
  have hp := law_late hl
  obtain ⟨p1, p2, p3, p4, p5, p6⟩ := planR_yes hp
  have hc := costR_mk h1 (planB_len h1 p3 p5) h4
  rw [leastR_mk h1 h2 h3 h4, hc]
  exact ⟨hl, rfl, least_plan hp h4, (leastW_bd (goodG_of h1) (inB_true.1 h4) _ _).1⟩
theorem repF_mem (g : Int) : ∀ (P : PL) (i : Int) (t : Nat), hasB (repF g P i) (i + (t : Int)) = match P[t]? with | some d => hasB d g | none => false := by
  have hlow : ∀ (P : PL) (i j : Int), j < i → hasB (repF g P i) j = false := by
    intro P
    induction P with
    | nil => intro i j _; rfl
    | cons d r ih =>
      intro i j hj
      have h1 := ih (i + 1) j (by omega)
      simp only [repF]
      split
      · unfold hasB at h1 ⊢
        rw [List.any_cons, h1]
        simp
        omega
      · exact h1
  intro P
  induction P with
  | nil => intro i t; rfl
  | cons d r ih =>
    intro i t
    cases t with
    | zero =>
      have h1 := hlow r (i + 1) i (by omega)
      simp only [repF, Int.natCast_zero, Int.add_zero, List.getElem?_cons_zero]
      split
      · next hd => rw [hd]; unfold hasB; simp
      · next hd => rw [h1]; simpa using hd
    | succ t =>
      have h1 := ih (i + 1) t
      rw [List.getElem?_cons_succ, ← h1, show i + ((t + 1 : Nat) : Int) = i + 1 + (t : Int) by omega]
      simp only [repF]
      split
      · unfold hasB
        rw [List.any_cons]
        have : (i == i + 1 + (t : Int)) = false := by rw [beq_eq_false_iff_ne]; omega
        rw [this]
        rfl
      · rfl
theorem joinR_yes {L : PL} {f t : Int} (h : (joinR L f t).2 = true) : planB 7 L = true ∧ (0 ≤ f ∧ f < (L.length : Int)) ∧ (0 ≤ t ∧ t < (L.length : Int)) ∧ joinR L f t = (joinL L f.toNat t.toNat, true) := by
  unfold joinR at h ⊢
  split at h
  · next hc =>
    rw [if_pos hc]
    have h1 := inB_true.1 hc.2.1
    have h2 := inB_true.1 hc.2.2
    exact ⟨hc.1, by omega, by omega, rfl⟩
  · cases h
theorem hasB_join (a b : List Int) (g : Int) : hasB (joinP a b) g = (hasB a g || hasB b g) := by
  rw [Bool.eq_iff_iff, Bool.or_eq_true, hasB_memR, hasB_memR, hasB_memR, mem_joinP]
theorem planB_join {L : PL} {f t : Nat} (h : planB 7 L = true) (hf : f < L.length) (ht : t < L.length) : planB 7 (joinL L f t) = true := by
  unfold joinL
  split
  · exact h
  · have hr := planB_rows h
    have h30 : L.length ≤ 30 := by simp only [planB, Bool.and_eq_true, decide_eq_true_eq] at h; exact h.2
    simp only [planB, Bool.and_eq_true, allR_true, decide_eq_true_eq]
    refine ⟨fun d hd => ?_, by simpa using h30⟩
    have ht' := hr _ (List.getElem_mem ht)
    have hf' := hr _ (List.getElem_mem hf)
    have et : L.getD t [] = L[t] := by simp [ht]
    have ef : L.getD f [] = L[f] := by simp [hf]
    rw [et, ef] at hd
    rcases List.mem_or_eq_of_mem_set hd with hd | hd
    · rcases List.mem_or_eq_of_mem_set hd with hd | hd
      · exact riseP_of 0 7 d none (hr d hd).1 (hr d hd).2 (fun v hv => by cases hv)
      · subst hd
        refine riseP_of 0 7 _ none (inc_joinP _ ht'.1) (fun x hx => ?_) (fun v hv => by cases hv)
        rcases (mem_joinP _ _ _).1 hx with hx | hx
        · exact ht'.2 x hx
        · exact hf'.2 x hx
    · subst hd
      rfl
/-- (4) Joined days. -/
theorem law_join {L : PL} {f t : Int} (h : (joinR L f t).2 = true) : ∀ i : Int, 0 ≤ i → i < 8 → repR L i = (repF i L 0, true) ∧ repR (joinR L f t).1 i = (repF i (joinR L f t).1 0, true) ∧
    hasB (repF i (joinR L f t).1 0) t = (hasB (repF i L 0) t || hasB (repF i L 0) f) ∧ (f ≠ t → hasB (repF i (joinR L f t).1 0) f = false) := by
  obtain ⟨h1, h2, h3, e⟩ := joinR_yes h
  obtain ⟨f', rfl⟩ : ∃ f' : Nat, f = (f' : Int) := ⟨f.toNat, by omega⟩
  obtain ⟨t', rfl⟩ : ∃ t' : Nat, t = (t' : Int) := ⟨t.toNat, by omega⟩
  rw [e]
  simp only [Int.toNat_natCast]
  have hf : f' < L.length := by omega
  have ht : t' < L.length := by omega
  intro i i0 i8
  refine ⟨repR_mk h1 (by omega), repR_mk (planB_join h1 hf ht) (by omega), ?_, fun hne => ?_⟩
  · have a1 := repF_mem i (joinL L f' t') 0 t'
    have a2 := repF_mem i L 0 t'
    have a3 := repF_mem i L 0 f'
    rw [Int.zero_add] at a1 a2 a3
    rw [a1, a2, a3, List.getElem?_eq_getElem hf, List.getElem?_eq_getElem ht]
    unfold joinL
    by_cases hft : f' = t'
    · subst hft
      simp [hf]
    · rw [if_neg hft, List.getElem?_set_ne hft, List.getElem?_set_self ht]
      have et : L.getD t' [] = L[t'] := by simp [ht]
      have ef : L.getD f' [] = L[f'] := by simp [hf]
      rw [et, ef]
      exact hasB_join _ _ _
  · have hft : f' ≠ t' := fun e => hne (by rw [e])
    have a1 := repF_mem i (joinL L f' t') 0 f'
    rw [Int.zero_add] at a1
    rw [a1]
    unfold joinL
    rw [if_neg hft, List.getElem?_set_self (by simpa using hf)]
    rfl
end Go.Proofs.Ytjibdabedagghaa
