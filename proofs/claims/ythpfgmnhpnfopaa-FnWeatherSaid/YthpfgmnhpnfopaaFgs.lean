/- Fogs out of slots: plain, and the contract of weFogs of the spec. No conditions. -/
import Derived.Test.YthpfgmnhpnfopaaNet
import Derived.Test.YthpfgmnhpnfopaaHelp
import Derived.Test.YthpfgmnhpnfopaaNesh
import Derived.Test.YthpfgmnhpnfopaaOwnP
namespace Go.Proofs.Ythpfgmnhpnfopaa
set_option linter.unusedSimpArgs false
set_option linter.unusedVariables false
open Go.RowKit

/-- One slot with fog. -/
def stepF (link k : Nat) (F : List S3) : List S3 :=
  match F.getLast? with
  | none => F ++ [((link : Int), (k : Int) * 500, ((k : Int) + 1) * 500)]
  | some x => if x.1 = (link : Int) ∧ x.2.2 = (k : Int) * 500 then F.dropLast ++ [(x.1, x.2.1, x.2.2 + 500)] else F ++ [((link : Int), (k : Int) * 500, ((k : Int) + 1) * 500)]
def rowF (link : Nat) : Nat → List Bool → List S3 → List S3
  | _, [], F => F
  | k, b :: r, F => rowF link (k + 1) r (if b = true then stepF link k F else F)
def fogsF : Nat → List (List Bool) → List S3 → List S3
  | _, [], F => F
  | i, l :: r, F => fogsF (i + 1) r (rowF i 0 l F)
theorem stepF_nil (link k : Nat) : stepF link k [] = [((link : Int), (k : Int) * 500, ((k : Int) + 1) * 500)] := rfl
theorem stepF_snoc (link k : Nat) (G : List S3) (x : S3) : stepF link k (G ++ [x]) = if x.1 = (link : Int) ∧ x.2.2 = (k : Int) * 500 then G ++ [(x.1, x.2.1, x.2.2 + 500)] else G ++ [x] ++ [((link : Int), (k : Int) * 500, ((k : Int) + 1) * 500)] := by
  unfold stepF
  rw [List.getLast?_concat, List.dropLast_concat]
theorem snoc_or_nil (F : List S3) : F = [] ∨ ∃ G x, F = G ++ [x] := by
  rcases List.eq_nil_or_concat F with h | ⟨G, x, h⟩
  · exact .inl h
  · exact .inr ⟨G, x, by simpa using h⟩
theorem length_stepF (link k : Nat) (F : List S3) : (stepF link k F).length ≤ F.length + 1 := by
  rcases snoc_or_nil F with rfl | ⟨G, x, rfl⟩
  · simp [stepF_nil]
  · rw [stepF_snoc]
    split <;> simp
theorem rows3_snoc (G : List S3) (a b c : Int) : rows3 (G ++ [(a, b, c)]) = rows3 G ++ [.int .i64 a, .int .i64 b, .int .i64 c] := by simp [rows3, cells3]
theorem rows3_last (G : List S3) (a b c c' : Int) : (rows3 (G ++ [(a, b, c)])).set (G.length * 3 + 2) (.int .i64 c') = rows3 (G ++ [(a, b, c')]) := by
  rw [rows3_snoc, rows3_snoc, List.set_append_right _ _ (by rw [length_rows3]; omega), length_rows3]
  simp
theorem rows3_cells (G : List S3) (a b c : Int) : (rows3 (G ++ [(a, b, c)]))[G.length * 3]? = some (.int .i64 a) ∧ (rows3 (G ++ [(a, b, c)]))[G.length * 3 + 2]? = some (.int .i64 c) := by
  rw [rows3_snoc]
  constructor
  · rw [List.getElem?_append_right (by rw [length_rows3]; omega), length_rows3]; simp
  · rw [List.getElem?_append_right (by rw [length_rows3]; omega), length_rows3]; simp
theorem own3_at {w : World} {base n c : Nat} {e : TypeId} {A : Option Addr} {xs : List Value} (h : w.ownsRow base e 3 (.slice A n c) n xs) (hn : 0 < n) : ∃ g, A = some ⟨g, 0, none⟩ ∧ base ≤ g := by
  rcases h.2 with ⟨_, h0⟩ | ⟨g, cap, cur, hv, hb, _⟩
  · omega
  · injection hv with e _ _
    exact ⟨g, e, hb⟩

set_option maxHeartbeats 4000000 in
set_option maxRecDepth 100000 in
theorem weFogs_any (A : Option Addr) (n c : Nat) (L : List (List Bool)) (w : World) (hn : n ≤ 1000) (hl : ∀ l ∈ L, l.length ≤ 1000) (h : Reads2 w 1 A n (rowsBoolss L)) :
    Calls Try.prog 95 #[.slice A n c] w (Made w 110 3 (fogsF 0 L []).length (rows3 (fogsF 0 L []))) := by
  have HX := Lib.hid (show L.length = n by have := h.len; simpa using this)
  have HL := Lib.hid hl
  have H := Lib.hid h
  clear h hl
  obtain ⟨lo, hlo⟩ : ∃ lo, lo = w.heap.size := ⟨_, rfl⟩
  have HLOE := Lib.hid hlo
  clear hlo
  go_enter Try.func95, Try.ntmps95
  go_wp2
  go_loopw [3, 11] (fun v i wr => ∃ k : Nat, ∃ F A1 c1, k ≤ n ∧ i = .int .i64 k ∧ v = .slice A1 (List.length F) c1 ∧ F.length ≤ 1000 * k ∧ fogsF k (L.drop k) F = fogsF 0 L [] ∧ wr.ownsRow lo 110 3 (.slice A1 F.length c1) F.length (rows3 F) ∧ Below lo w wr) (fun _ i _ => n - (intOf i).toNat)
  case atStart => exact ⟨0, [], none, 0, Nat.zero_le _, rfl, rfl, by simp, rfl, World.ownsRow_nil _ _ _ _, Below.refl _ _⟩
  case round =>
    obtain ⟨i, F, A1, c1, hk, rfl, rfl, hfl, hrel, hown, hb⟩ := hrel
    have HRO := Lib.hid hrel; have HO := Lib.hid hown; have HB := Lib.hid hb
    clear hrel hown hb
    obtain ⟨wo, rfl⟩ : ∃ wo, wo = wr := ⟨_, rfl⟩
    by_cases hlt : i < n
    · have hx : i < L.length := by rw [HX.out]; exact hlt
      obtain ⟨ad, Ai, ci, rfl, kc0, _, _, hr⟩ := H.out.row (rowsBoolss_get hx)
      have kc := (Below.cell (w' := wo) (B := w.heap.size) (by have h5 := HB.out; rw [HLOE.out] at h5; exact h5) (World.block_lt_of_cell? w _ kc0)).trans kc0
      clear kc0
      have HRR := Lib.hid hr; clear hr
      have hXL := HL.out L[i] (List.getElem_mem hx)
      have HDO := Lib.hid (drop_cons hx)
      generalize L[i] = l at *
      simp only [length_bools] at kc HRR
      have HLO0 : Hid (lo ≤ wo.heap.size) := Lib.hid (by have := HB.out.size; have := HLOE.out; omega)
      obtain ⟨R0, hR0⟩ : ∃ R0, R0 = rowF i 0 l F := ⟨_, rfl⟩
      have HR0 := Lib.hid hR0
      have HR0' := HR0
      have HRO0 := HRO
      have HBO := HB
      clear hR0
      go_wp2
      clear kc
      go_loopw [3, 18] (fun v q wr => ∃ j : Nat, ∃ F A1 c1, j ≤ l.length ∧ q = .int .i64 j ∧ v = .slice A1 (List.length F) c1 ∧ F.length ≤ 1000 * i + j ∧ rowF i j (l.drop j) F = R0 ∧ wr.ownsRow lo 110 3 (.slice A1 F.length c1) F.length (rows3 F) ∧ Below lo w wr) (fun _ q _ => l.length - (intOf q).toNat)
      case atStart => exact ⟨0, F, A1, c1, Nat.zero_le _, rfl, rfl, by omega, HR0.out.symm, HO.out, HBO.out⟩
      case round =>
        obtain ⟨j, F, A1, c1, hj, rfl, rfl, hfl, hrel, hown, hb⟩ := hrel
        have HR := Lib.hid hrel; have HO := Lib.hid hown; have HB := Lib.hid hb
        clear hrel hown hb HR0 HRO
        obtain ⟨wi, rfl⟩ : ∃ wi, wi = wr := ⟨_, rfl⟩
        have HLO : Hid (lo ≤ wi.heap.size) := Lib.hid (by have := HB.out.size; have := HLOE.out; omega)
        have HBW : Hid (Below w.heap.size w wi) := Lib.hid (by have h5 := HB.out; rw [HLOE.out] at h5; exact h5)
        by_cases hlt2 : j < l.length
        · obtain ⟨bd, u, rfl, hu, k0⟩ := (HRR.out.below HBW.out).at_ hlt2
          have e0 : u = .bool l[j] := by simp [bools, hlt2] at hu; exact hu.symm
          subst e0
          have HD := Lib.hid (drop_cons hlt2)
          clear hu
          cases hlj : l[j] with
          | false =>
            rw [hlj] at k0 HD
            clear hlj
            go_wp2
            go_roundw
            case rel => exact ⟨j + 1, F, A1, c1, by omega, by go_num, rfl, by omega, by rw [← HR.out, HD.out]; rfl, HO.out, HB.out⟩
            case measure => simp [intOf]; omega
          | true =>
            rw [hlj] at k0 HD
            clear hlj
            rcases snoc_or_nil F with rfl | ⟨G, ⟨xa, xb, xc⟩, rfl⟩
            · have HN := Lib.hid (stepF_nil i j)
              simp only [List.length_nil] at hfl HO
              go_wp2_with (at_builtin; refine wpList_push _ rfl (.tmp 59) (.tmp 67) 62 rfl lo 110 _ 3 24 infoFog rfl (by omega) Try.underlying62 A1 0 c1 (rows3 ([] : List S3)) rfl (own_below HO.out ((Below.refl _ _).alloc (Nat.le_refl _) _)) (some ⟨wi.heap.size, 0, none⟩) 1 1 [.int .i64 (i : Int), .int .i64 ((j : Int) * 500), .int .i64 (((j : Int) + 1) * 500)] rfl (reads_litk _ _ _ rfl) (by simp [Value.oneCell']) (by omega) (by omega) (by have := HLO.out; simp; omega) ?_; intro A5 c5 w5 hown5 hg5 hb5)
              have HFL : Hid (([((i : Int), (j : Int) * 500, ((j : Int) + 1) * 500)]).length = 0 + 1) := Lib.hid (by first | (simp; done) | (have := HMG.out; simp; omega))
              have HO5 : Hid (w5.ownsRow lo 110 3 (.slice A5 ([((i : Int), (j : Int) * 500, ((j : Int) + 1) * 500)]).length c5) ([((i : Int), (j : Int) * 500, ((j : Int) + 1) * 500)]).length (rows3 ([((i : Int), (j : Int) * 500, ((j : Int) + 1) * 500)]))) := Lib.hid (by rw [HFL.out]; simpa [rows3, cells3] using hown5)
              have HB5 : Hid (Below lo w w5) := Lib.hid (HB.out.trans (((Below.refl _ _).alloc HLO.out _).trans hb5))
              clear hown5 hg5 hb5
              go_roundw
              case rel => exact ⟨j + 1, [((i : Int), (j : Int) * 500, ((j : Int) + 1) * 500)], A5, c5, by omega, by go_num, by rw [HFL.out], by rw [HFL.out]; omega, by rw [← HR.out, HD.out]; simp only [rowF, if_true]; rw [HN.out], HO5.out, HB5.out⟩
              case measure => simp [intOf]; omega
            · obtain ⟨m, hm⟩ : ∃ m, G.length = m := ⟨_, rfl⟩
              have hml : (G ++ [(xa, xb, xc)]).length = m + 1 := by simp [hm]
              have HML := Lib.hid hml
              have HO' := HO
              have HMG := Lib.hid hm
              rw [hml] at HO' hfl
              obtain ⟨g, rfl, hg⟩ := own3_at HO'.out (by omega)
              have hc := rows3_cells G xa xb xc
              rw [hm] at hc
              have k1 : wi.cell? ⟨g, m * 3, none⟩ = some (.int .i64 xa) := (HO'.out.cellAt _ (by omega)).trans hc.1
              have k2 : wi.cell? ⟨g, m * 3 + 2, none⟩ = some (.int .i64 xc) := (HO'.out.cellAt _ (by omega)).trans hc.2
              have f2 : wi.frozen? ⟨g, m * 3 + 2, none⟩ = false := HO'.out.frozenAt _
              have HN := Lib.hid (stepF_snoc i j G (xa, xb, xc))
              have HSL := Lib.hid (fun z => rows3_last G xa xb xc z)
              clear hc hm
              rw [hml]
              clear hml
              by_cases ha : xa = (i : Int)
              · have hba : (xa == (i : Int)) = true := by rw [beq_iff_eq]; exact ha
                by_cases hcc : xc = (j : Int) * 500
                · have hbc : (xc == (j : Int) * 500) = true := by rw [beq_iff_eq]; exact hcc
                  have HNN : Hid (stepF i j (G ++ [(xa, xb, xc)]) = G ++ [(xa, xb, xc + 500)]) := Lib.hid (by rw [HN.out, if_pos ⟨ha, hcc⟩])
                  have hs := (HO'.out.stored (m * 3 + 2) (.int .i64 (xc + 500))).1
                  rw [← HMG.out, HSL.out] at hs
                  have HS := Lib.hid hs
                  have HBS : Hid (Below lo w (wi.setCell ⟨g, m * 3 + 2, none⟩ (.int .i64 (xc + 500)))) := Lib.hid (HB.out.setCell hg _)
                  have hxb : 0 ≤ xc ∧ xc ≤ 500000 := by omega
                  clear hs ha hcc
                  go_wp2
                  go_roundw
                  case rel => exact ⟨j + 1, G ++ [(xa, xb, xc + 500)], some ⟨g, 0, none⟩, c1, by omega, by go_num, by simp [HMG.out], by simp [HMG.out]; omega, by rw [← HR.out, HD.out]; simp only [rowF, if_true]; rw [HNN.out], by have h9 := HS.out; simpa [HMG.out] using h9, HBS.out⟩
                  case measure => simp [intOf]; omega
                · have hbc : (xc == (j : Int) * 500) = false := by rw [beq_eq_false_iff_ne]; exact hcc
                  have HN : Hid (stepF i j (G ++ [(xa, xb, xc)]) = G ++ [(xa, xb, xc)] ++ [((i : Int), (j : Int) * 500, ((j : Int) + 1) * 500)]) := Lib.hid (by rw [HN.out, if_neg (fun h => hcc h.2)])
                  clear HSL hcc ha
                  go_wp2_with (at_builtin; refine wpList_push _ rfl (.tmp 59) (.tmp 67) 62 rfl lo 110 _ 3 24 infoFog rfl (by omega) Try.underlying62 (some ⟨g, 0, none⟩) (m + 1) c1 (rows3 (G ++ [(xa, xb, xc)])) rfl (own_below HO'.out ((Below.refl _ _).alloc (Nat.le_refl _) _)) (some ⟨wi.heap.size, 0, none⟩) 1 1 [.int .i64 (i : Int), .int .i64 ((j : Int) * 500), .int .i64 (((j : Int) + 1) * 500)] rfl (reads_litk _ _ _ rfl) (by simp [Value.oneCell']) (by omega) (by omega) (by have := HLO.out; simp; omega) ?_; intro A5 c5 w5 hown5 hg5 hb5)
                  have HFL : Hid ((G ++ [(xa, xb, xc)] ++ [((i : Int), (j : Int) * 500, ((j : Int) + 1) * 500)]).length = (m + 1) + 1) := Lib.hid (by first | (simp; done) | (have := HMG.out; simp; omega))
                  have HO5 : Hid (w5.ownsRow lo 110 3 (.slice A5 (G ++ [(xa, xb, xc)] ++ [((i : Int), (j : Int) * 500, ((j : Int) + 1) * 500)]).length c5) (G ++ [(xa, xb, xc)] ++ [((i : Int), (j : Int) * 500, ((j : Int) + 1) * 500)]).length (rows3 (G ++ [(xa, xb, xc)] ++ [((i : Int), (j : Int) * 500, ((j : Int) + 1) * 500)]))) := Lib.hid (by rw [HFL.out]; simpa [rows3, cells3] using hown5)
                  have HB5 : Hid (Below lo w w5) := Lib.hid (HB.out.trans (((Below.refl _ _).alloc HLO.out _).trans hb5))
                  clear hown5 hg5 hb5
                  go_roundw
                  case rel => exact ⟨j + 1, G ++ [(xa, xb, xc)] ++ [((i : Int), (j : Int) * 500, ((j : Int) + 1) * 500)], A5, c5, by omega, by go_num, by rw [HFL.out], by rw [HFL.out]; omega, by rw [← HR.out, HD.out]; simp only [rowF, if_true]; rw [HN.out], HO5.out, HB5.out⟩
                  case measure => simp [intOf]; omega
              · have hba : (xa == (i : Int)) = false := by rw [beq_eq_false_iff_ne]; exact ha
                have HN : Hid (stepF i j (G ++ [(xa, xb, xc)]) = G ++ [(xa, xb, xc)] ++ [((i : Int), (j : Int) * 500, ((j : Int) + 1) * 500)]) := Lib.hid (by rw [HN.out, if_neg (fun h => ha h.1)])
                clear HSL
                go_wp2_with (at_builtin; refine wpList_push _ rfl (.tmp 59) (.tmp 67) 62 rfl lo 110 _ 3 24 infoFog rfl (by omega) Try.underlying62 (some ⟨g, 0, none⟩) (m + 1) c1 (rows3 (G ++ [(xa, xb, xc)])) rfl (own_below HO'.out ((Below.refl _ _).alloc (Nat.le_refl _) _)) (some ⟨wi.heap.size, 0, none⟩) 1 1 [.int .i64 (i : Int), .int .i64 ((j : Int) * 500), .int .i64 (((j : Int) + 1) * 500)] rfl (reads_litk _ _ _ rfl) (by simp [Value.oneCell']) (by omega) (by omega) (by have := HLO.out; simp; omega) ?_; intro A5 c5 w5 hown5 hg5 hb5)
                have HFL : Hid ((G ++ [(xa, xb, xc)] ++ [((i : Int), (j : Int) * 500, ((j : Int) + 1) * 500)]).length = (m + 1) + 1) := Lib.hid (by first | (simp; done) | (have := HMG.out; simp; omega))
                have HO5 : Hid (w5.ownsRow lo 110 3 (.slice A5 (G ++ [(xa, xb, xc)] ++ [((i : Int), (j : Int) * 500, ((j : Int) + 1) * 500)]).length c5) (G ++ [(xa, xb, xc)] ++ [((i : Int), (j : Int) * 500, ((j : Int) + 1) * 500)]).length (rows3 (G ++ [(xa, xb, xc)] ++ [((i : Int), (j : Int) * 500, ((j : Int) + 1) * 500)]))) := Lib.hid (by rw [HFL.out]; simpa [rows3, cells3] using hown5)
                have HB5 : Hid (Below lo w w5) := Lib.hid (HB.out.trans (((Below.refl _ _).alloc HLO.out _).trans hb5))
                clear hown5 hg5 hb5
                go_roundw
                case rel => exact ⟨j + 1, G ++ [(xa, xb, xc)] ++ [((i : Int), (j : Int) * 500, ((j : Int) + 1) * 500)], A5, c5, by omega, by go_num, by rw [HFL.out], by rw [HFL.out]; omega, by rw [← HR.out, HD.out]; simp only [rowF, if_true]; rw [HN.out], HO5.out, HB5.out⟩
                case measure => simp [intOf]; omega
        · obtain rfl : j = l.length := by omega
          have hF : F = R0 := by have := HR.out; rw [drop_end (Nat.le_refl _)] at this; exact this
          subst hF
          have HRO := HRO0
          go_wp2
          go_roundw
          case rel => exact ⟨i + 1, F, A1, c1, by omega, by go_num, rfl, by omega, by rw [← HRO0.out, HDO.out]; simp only [fogsF]; rw [← HR0'.out], HO.out, HB.out⟩
          case measure => simp [intOf]; omega
    · obtain rfl : i = n := by omega
      have hF : F = fogsF 0 L [] := by rw [← HRO.out, drop_end (by rw [HX.out]; omega)]; rfl
      subst hF
      go_wp2
      go_ret
      have e := HLOE.out
      subst e
      exact ⟨A1, c1, rfl, HO.out, HB.out⟩

end Go.Proofs.Ythpfgmnhpnfopaa
