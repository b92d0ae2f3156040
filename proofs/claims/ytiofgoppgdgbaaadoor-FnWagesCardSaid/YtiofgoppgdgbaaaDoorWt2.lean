/- Contracts of WageTable of both packages. No conditions. -/
import Derived.Test.YtiofgoppgdgbaaaDoorWt1
import Derived.Test.YtiofgoppgdgbaaaDoorSh13
namespace Go.Proofs.YtiofgoppgdgbaaaDoor
set_option linter.unusedSimpArgs false
set_option linter.unusedVariables false
open Go.RowKit

theorem IsBuilder.below {T e : TypeId} {B b : Nat} {bs : List Value} {w w' : World} (h : Lib.IsBuilder T e B b bs w) (hb : Below w.heap.size w w') : Lib.IsBuilder T e B b bs w' := by
  have key : ∀ p, Lib.BuilderAt T e B b p bs w → Lib.BuilderAt T e B b p bs w' := fun p hp => by
    have hlt := hp.lt
    obtain ⟨h1, v, h2, h3, h4⟩ := hp
    exact ⟨h1, v, (hb.block b hlt).trans h2, own_below h3 hb, h4⟩
  rcases h with h | h
  · exact .inl (key _ h)
  · exact .inr (key _ h)
/-- One line: the operator, a blank, the wage, a newline. -/
def lineB (i : Nat) (x : Int) : List UInt8 := Lib.itoa ((i : Int) + 1) ++ [32] ++ Lib.itoa x ++ [10]
def tabB : List Int → Nat → List UInt8
  | [], _ => []
  | x :: r, i => (if 0 < x then lineB i x else []) ++ tabB r (i + 1)
def tableR (a b c d : Int) (l : List S3) (ms : List Int) : List UInt8 × Bool := if allAsk a b c d l ms = true then (tabB (wagesF a b c d l ms 0) 0, true) else ([], false)
theorem ret_sb {a b : List UInt8} {x : Bool} (h : a = b) : Ending.returned (.tuple #[.string ⟨a.toArray⟩, .bool x]) = .returned (.tuple #[.string ⟨b.toArray⟩, .bool x]) := by rw [h]
theorem lineB_len (i : Nat) (x : Int) (hi : i ≤ 1000) (hx : 0 ≤ x ∧ x ≤ 1000000000) : (lineB i x).length ≤ 60 := by
  have h1 := itoa_len ((i : Int) + 1) (by omega)
  have h2 := itoa_len x (by omega)
  simp only [lineB, List.length_append, List.length_cons, List.length_nil]
  omega
theorem l1NumI_any (v : Int) (w : World) (h : 0 ≤ v ∧ v ≤ 1000000000000) : Calls Tryd.prog 32 #[.int .i64 v] w fun e w' => e = .returned (.string ⟨(Lib.itoa v).toArray⟩) ∧ Below w.heap.size w w' := by
  obtain ⟨u, rfl⟩ : ∃ u : Nat, v = (u : Int) := ⟨v.toNat, by omega⟩
  rw [Lib.itoa_nonneg]
  exact l1Num_any u (by omega) w

set_option maxHeartbeats 2000000 in
set_option maxRecDepth 100000 in
theorem specWageTable_any (a b c d : Int) (A : Option Addr) (n cc : Nat) (l : List S3) (B : Option Addr) (m mc : Nat) (ms : List Int) (w : World) (hn : n ≤ 1000000000) (h : Reads w 3 A n (rows3 l)) (hnc : n ≤ cc) (hm : m ≤ 1000000000) (hr : Reads w 1 B m (ints ms)) (hmc : m ≤ mc) :
    Calls Tryd.prog 6 #[.agg #[.int .i64 a, .int .i64 b, .int .i64 c, .int .i64 d], .slice A n cc, .slice B m mc] w fun e w' => e = .returned (.tuple #[.string ⟨(tableR a b c d l ms).1.toArray⟩, .bool (tableR a b c d l ms).2]) ∧ Below w.heap.size w w' := by
  have hmx : ms.length = m := by simpa using hr.1
  have ca := fun W (hW : Below w.heap.size w W) => wgAll_any a b c d A n cc l B m mc ms W hn (h.below hW) hnc hm (hr.below hW)
  cases hask : allAsk a b c d l ms with
  | false =>
    simp only [hask] at ca
    have hres : tableR a b c d l ms = ([], false) := by simp [tableR, hask]
    rw [hres]
    have CA := Lib.hid ca
    clear ca hres h hask hr hmx
    go_enter Tryd.func6, Tryd.ntmps6
    go_wp2_with (go_at_call 30; refine (CA.out _ ((Below.refl _ _).alloc (Nat.le_refl _) _)).mono ?_; rintro e w1 ⟨rfl, hb1⟩; obtain ⟨k0, k1, k2, k3⟩ := box4 hb1; have HB1 := Lib.hid (((Below.refl _ _).alloc (Nat.le_refl _) _).trans (hb1.mono (by simp))); clear hb1)
    go_ret2
    exact ⟨rfl, HB1.out⟩
  | true =>
    simp only [hask] at ca
    have CA := Lib.hid ca
    obtain ⟨hp, hg, h30, hms⟩ := allAsk_of hask
    have hres : tableR a b c d l ms = (tabB (wagesF a b c d l ms 0) 0, true) := by simp [tableR, hask]
    rw [hres]
    have hlw : (wagesF a b c d l ms 0).length = m := by simp [hmx]
    have hbd := Lib.hid (wagesF_bd hp hg (allB_true.1 hms) 0)
    have CW := Lib.hid (fun W (hW : Below w.heap.size w W) => wgWages_any a b c d A n cc l B m mc ms W (h.below hW) hnc (hr.below hW) hask)
    generalize wagesF a b c d l ms 0 = ws at *
    rw [hmx] at h30
    have HX := Lib.hid hlw
    have hm30 : m ≤ 30 := by omega
    clear ca hres h hask hr hmx hp hg h30 hms hlw
    go_enter Tryd.func6, Tryd.ntmps6
    go_wp2_with (first | (go_at_call 30; refine (CA.out _ ((Below.refl _ _).alloc (Nat.le_refl _) _)).mono ?_; rintro e w1 ⟨rfl, hb1⟩; obtain ⟨k0, k1, k2, k3⟩ := box4 hb1; have HB1 := Lib.hid (((Below.refl _ _).alloc (Nat.le_refl _) _).trans (hb1.mono (by simp))); clear hb1) | (go_at_call 31; refine (CW.out _ HB1.out).mono ?_; rintro e w2 ⟨A2, c2, rfl, hown, hb2⟩; have HR2 := Lib.hid (Reads.of_own hown); have HB2 := Lib.hid (below_then HB1.out hb2); clear hown hb2))
    go_loopw [8, 21] (fun s i wr => ∃ k : Nat, ∃ acc : List UInt8, k ≤ m ∧ i = .int .i64 k ∧ s = .string ⟨acc.toArray⟩ ∧ acc ++ tabB (ws.drop k) k = tabB ws 0 ∧ acc.length ≤ k * 60 ∧ Below w2.heap.size w2 wr) (fun _ i _ => m - (intOf i).toNat)
    case atStart => exact ⟨0, [], Nat.zero_le _, rfl, rfl, by simp, by simp, Below.refl _ _⟩
    case round =>
      obtain ⟨k, acc, hk, rfl, rfl, hrel, hal, hb⟩ := hrel
      have HR := Lib.hid hrel; have HBR := Lib.hid hb
      clear hrel hb
      by_cases hlt : k < m
      · have hx : k < ws.length := by rw [HX.out]; exact hlt
        obtain ⟨ad, u, rfl, hu, k0⟩ := (HR2.out.below HBR.out).at_ hlt
        have e0 : u = .int .i64 ws[k] := by simp [ints, hx] at hu; exact hu.symm
        subst e0
        have HD := Lib.hid (drop_cons hx)
        have hv := hbd.out _ (List.getElem_mem hx)
        clear hu
        generalize ws[k] = x at *
        have hal2 : acc.length ≤ 2000 := by omega
        by_cases hpos : 0 < x
        · have hl1 := itoa_len ((k : Int) + 1) (by omega)
          have hl2 := itoa_len x (by omega)
          have HN1 := Lib.hid (fun W => l1NumI_any ((k : Int) + 1) W (by omega))
          have HN2 := Lib.hid (fun W => l1NumI_any x W (by omega))
          have HNX : Hid ((acc ++ lineB k x) ++ tabB (ws.drop (k + 1)) (k + 1) = tabB ws 0) := Lib.hid (by
            rw [← HR.out, HD.out]
            simp [tabB, hpos])
          have HLL := Lib.hid (lineB_len k x (by omega) (by omega))
          have HLB : Hid (lineB k x = Lib.itoa ((k : Int) + 1) ++ [32] ++ Lib.itoa x ++ [10]) := Lib.hid rfl
          generalize Lib.itoa ((k : Int) + 1) = s1 at *
          generalize Lib.itoa x = s2 at *
          go_wp2_with fail
          refine (HN1.out _).mono ?_
          rintro e w3 ⟨rfl, hb3⟩
          have HBR := Lib.hid (HBR.out.trans (hb3.mono HBR.out.size))
          clear hb3 k0
          go_wp2_with fail
          refine (HN2.out _).mono ?_
          rintro e w4 ⟨rfl, hb4⟩
          have HBR := Lib.hid (HBR.out.trans (hb4.mono HBR.out.size))
          clear hb4
          go_wp2
          go_roundw
          case rel => exact ⟨k + 1, acc ++ lineB k x, by omega, by go_num, by rw [HLB.out]; simp only [← bytes_app], HNX.out, by have := HLL.out; simp; omega, HBR.out⟩
          case measure => simp [intOf]; omega
        · have HNX : Hid (acc ++ tabB (ws.drop (k + 1)) (k + 1) = tabB ws 0) := Lib.hid (by
            rw [← HR.out, HD.out]
            simp [tabB, hpos])
          go_wp2
          go_roundw
          case rel => exact ⟨k + 1, acc, by omega, by go_num, rfl, HNX.out, by omega, HBR.out⟩
          case measure => simp [intOf]; omega
      · have HE := Lib.hid (drop_end (xs := ws) (k := k) (by rw [HX.out]; omega))
        have hend := HR.out
        rw [HE.out] at hend
        have HEN : Hid (acc = tabB ws 0) := Lib.hid (by simpa [tabB] using hend)
        clear hend
        go_wp2
        go_ret2
        exact ⟨by rw [← HEN.out]; rfl, HB2.out.trans (HBR.out.mono HB2.out.size)⟩

theorem join_two (x y : List UInt8) : Lib.join [x, y] [32] = x ++ [32] ++ y := by simp [Lib.join_cons, Lib.joinTail]
theorem strCells_of (l : List UInt8) : Lib.strCells ⟨l.toArray⟩ = Lib.byteCells l := by rw [Lib.strCells_eq]
set_option maxHeartbeats 4000000 in
set_option maxRecDepth 100000 in
theorem implWageTable_any (a b c d : Int) (A : Option Addr) (n cc : Nat) (l : List S3) (B : Option Addr) (m mc : Nat) (ms : List Int) (w : World) (hn : n ≤ 1000000000) (h : Reads w 3 A n (rows3 l)) (hnc : n ≤ cc) (hm : m ≤ 1000000000) (hr : Reads w 1 B m (ints ms)) (hmc : m ≤ mc) (hT : TabP w) :
    Calls Tryd.prog 10 #[.agg #[.int .i64 a, .int .i64 b, .int .i64 c, .int .i64 d], .slice A n cc, .slice B m mc] w fun e w' => e = .returned (.tuple #[.string ⟨(tableR a b c d l ms).1.toArray⟩, .bool (tableR a b c d l ms).2]) ∧ Below w.heap.size w w' := by
  have HTB : Hid (∀ W, Below w.heap.size w W → TabP W) := Lib.hid (fun W hW => hT.below hW (Nat.le_refl _))
  clear hT
  have SG := Lib.hid (fun W (hW : Below w.heap.size w W) => areShifts_any A n cc l W hn hnc (h.below hW))
  have am := fun W (hW : Below w.heap.size w W) => areAllMessages_any B m mc ms W hm (hr.below hW)
  cases h3 : (decide (ms.length = 30) && allB 0 1000 ms) with
  | false =>
    rw [h3] at am
    have AM := Lib.hid am
    have H3 := Lib.hid h3
    clear am h3
    cases h1 : payB a b c d with
    | false =>
      have hres : tableR a b c d l ms = ([], false) := by simp [tableR, allAsk, h1]
      rw [hres]
      clear hres h hr
      go_enter Tryd.func10, Tryd.ntmps10
      go_wp2_with (first | (go_at_call 19; refine (isPay_any a b c d _).mono ?_; rintro e w1 ⟨rfl, hb1⟩; have HBX := Lib.hid ((Box4.new w 29 (.int .i64 a) (.int .i64 b) (.int .i64 c) (.int .i64 d)).below hb1 (by simp)); have HB1 := Lib.hid (((Below.refl _ _).alloc (Nat.le_refl _) _).trans (hb1.mono (by simp))); clear hb1) | (go_at_call 34; refine (SG.out _ HB1.out).mono ?_; rintro e w2 ⟨rfl, hb2⟩; have HBX2 := Lib.hid (HBX.out.below hb2 HBX.out.lt); have HB2 := Lib.hid (below_then HB1.out hb2); clear hb2) | (go_at_call 35; refine (AM.out _ HB2.out).mono ?_; rintro e w' ⟨rfl, rfl⟩))
      go_ret2
      exact ⟨rfl, HB1.out⟩
    | true =>
      cases h2 : goodShifts l with
      | false =>
        have hres : tableR a b c d l ms = ([], false) := by simp [tableR, allAsk, h1, h2]
        rw [hres]
        clear hres h hr
        go_enter Tryd.func10, Tryd.ntmps10
        go_wp2_with (first | (go_at_call 19; refine (isPay_any a b c d _).mono ?_; rintro e w1 ⟨rfl, hb1⟩; have HBX := Lib.hid ((Box4.new w 29 (.int .i64 a) (.int .i64 b) (.int .i64 c) (.int .i64 d)).below hb1 (by simp)); have HB1 := Lib.hid (((Below.refl _ _).alloc (Nat.le_refl _) _).trans (hb1.mono (by simp))); clear hb1) | (go_at_call 34; refine (SG.out _ HB1.out).mono ?_; rintro e w2 ⟨rfl, hb2⟩; have HBX2 := Lib.hid (HBX.out.below hb2 HBX.out.lt); have HB2 := Lib.hid (below_then HB1.out hb2); clear hb2) | (go_at_call 35; refine (AM.out _ HB2.out).mono ?_; rintro e w' ⟨rfl, rfl⟩))
        go_ret2
        exact ⟨rfl, HB2.out⟩
      | true =>
        have hres : tableR a b c d l ms = ([], false) := by unfold tableR allAsk; rw [H3.out]; simp
        rw [hres]
        clear hres h hr
        go_enter Tryd.func10, Tryd.ntmps10
        go_wp2_with (first | (go_at_call 19; refine (isPay_any a b c d _).mono ?_; rintro e w1 ⟨rfl, hb1⟩; have HBX := Lib.hid ((Box4.new w 29 (.int .i64 a) (.int .i64 b) (.int .i64 c) (.int .i64 d)).below hb1 (by simp)); have HB1 := Lib.hid (((Below.refl _ _).alloc (Nat.le_refl _) _).trans (hb1.mono (by simp))); clear hb1) | (go_at_call 34; refine (SG.out _ HB1.out).mono ?_; rintro e w2 ⟨rfl, hb2⟩; have HBX2 := Lib.hid (HBX.out.below hb2 HBX.out.lt); have HB2 := Lib.hid (below_then HB1.out hb2); clear hb2) | (go_at_call 35; refine (AM.out _ HB2.out).mono ?_; rintro e w' ⟨rfl, rfl⟩))
        go_ret2
        exact ⟨rfl, HB2.out⟩
  | true =>
    rw [h3] at am
    have AM := Lib.hid am
    have H3 := Lib.hid h3
    clear am h3
    cases h1 : payB a b c d with
    | false =>
      have hres : tableR a b c d l ms = ([], false) := by simp [tableR, allAsk, h1]
      rw [hres]
      clear hres h hr
      go_enter Tryd.func10, Tryd.ntmps10
      go_wp2_with (first | (go_at_call 19; refine (isPay_any a b c d _).mono ?_; rintro e w1 ⟨rfl, hb1⟩; have HBX := Lib.hid ((Box4.new w 29 (.int .i64 a) (.int .i64 b) (.int .i64 c) (.int .i64 d)).below hb1 (by simp)); have HB1 := Lib.hid (((Below.refl _ _).alloc (Nat.le_refl _) _).trans (hb1.mono (by simp))); clear hb1) | (go_at_call 34; refine (SG.out _ HB1.out).mono ?_; rintro e w2 ⟨rfl, hb2⟩; have HBX2 := Lib.hid (HBX.out.below hb2 HBX.out.lt); have HB2 := Lib.hid (below_then HB1.out hb2); clear hb2) | (go_at_call 35; refine (AM.out _ HB2.out).mono ?_; rintro e w' ⟨rfl, rfl⟩))
      go_ret2
      exact ⟨rfl, HB1.out⟩
    | true =>
      cases h2 : goodShifts l with
      | false =>
        have hres : tableR a b c d l ms = ([], false) := by simp [tableR, allAsk, h1, h2]
        rw [hres]
        clear hres h hr
        go_enter Tryd.func10, Tryd.ntmps10
        go_wp2_with (first | (go_at_call 19; refine (isPay_any a b c d _).mono ?_; rintro e w1 ⟨rfl, hb1⟩; have HBX := Lib.hid ((Box4.new w 29 (.int .i64 a) (.int .i64 b) (.int .i64 c) (.int .i64 d)).below hb1 (by simp)); have HB1 := Lib.hid (((Below.refl _ _).alloc (Nat.le_refl _) _).trans (hb1.mono (by simp))); clear hb1) | (go_at_call 34; refine (SG.out _ HB1.out).mono ?_; rintro e w2 ⟨rfl, hb2⟩; have HBX2 := Lib.hid (HBX.out.below hb2 HBX.out.lt); have HB2 := Lib.hid (below_then HB1.out hb2); clear hb2) | (go_at_call 35; refine (AM.out _ HB2.out).mono ?_; rintro e w' ⟨rfl, rfl⟩))
        go_ret2
        exact ⟨rfl, HB2.out⟩
      | true =>
        have hask : allAsk a b c d l ms = true := by unfold allAsk; rw [H3.out, h1, h2]; rfl
        have hmx : ms.length = m := by simpa using hr.1
        obtain ⟨hp, hg, h30, hms⟩ := allAsk_of hask
        rw [hmx] at h30
        have hms' := allB_true.1 hms
        have hres : tableR a b c d l ms = (tabB (wagesF a b c d l ms 0) 0, true) := by simp [tableR, hask]
        rw [hres]
        have CW := Lib.hid (fun (k : Nat) (hk : k < m) (x : Int) (hx : 0 ≤ x ∧ x ≤ 1000) W (hW : Below w.heap.size w W) => wageOfI_any a b c d A n cc l ((k + 1 : Nat) : Int) x W hp hg (op_in hk h30) hx hnc (h.below hW))
        have CV := Lib.hid (fun (k : Nat) (x : Int) (hx : 0 ≤ x ∧ x ≤ 1000) => wage_bd (op := ((k + 1 : Nat) : Int)) hp hg hx)
        have HM := Lib.hid hms'
        have HX := Lib.hid hmx
        have HRR := Lib.hid hr
        have hm30 : m ≤ 30 := by omega
        have HDW := Lib.hid (fun k => drop_wagesF a b c d l ms 0 k)
        have HLW := Lib.hid (show (wagesF a b c d l ms 0).length = m by simp [hmx])
        clear hres hr h hask hms hms' h30 hmx hp hg
        generalize wagesF a b c d l ms 0 = ws at *
        have H1 := Lib.hid h1
        have H2 := Lib.hid h2
        go_enter Tryd.func10, Tryd.ntmps10
        go_wp2_with (first | (go_at_call 19; refine (isPay_any a b c d _).mono ?_; rintro e w1 ⟨rfl, hb1⟩; have HBX := Lib.hid ((Box4.new w 29 (.int .i64 a) (.int .i64 b) (.int .i64 c) (.int .i64 d)).below hb1 (by simp)); have HB1 := Lib.hid (((Below.refl _ _).alloc (Nat.le_refl _) _).trans (hb1.mono (by simp))); clear hb1) | (go_at_call 34; refine (SG.out _ HB1.out).mono ?_; rintro e w2 ⟨rfl, hb2⟩; have HBX2 := Lib.hid (HBX.out.below hb2 HBX.out.lt); have HB2 := Lib.hid (below_then HB1.out hb2); clear hb2) | (go_at_call 35; refine (AM.out _ HB2.out).mono ?_; rintro e w' ⟨rfl, rfl⟩))
        have HBZ : Hid (Below w2.heap.size w2 (w2.alloc (.cells #[.pointer none, .slice none 0 0] 63))) := Lib.hid ((Below.refl _ _).alloc (Nat.le_refl _) _)
        have HIB : Hid (Lib.IsBuilder 63 5 w2.heap.size w2.heap.size (Lib.byteCells []) (w2.alloc (.cells #[.pointer none, .slice none 0 0] 63))) := Lib.hid (Lib.fresh_isBuilder _ _ w2)
        go_loopw [27] (fun i wr => ∃ k : Nat, ∃ acc : List UInt8, k ≤ m ∧ i = .int .i64 k ∧ acc ++ tabB (ws.drop k) k = tabB ws 0 ∧ acc.length ≤ k * 60 ∧ Lib.IsBuilder 63 5 w2.heap.size w2.heap.size (Lib.byteCells acc) wr ∧ Below w2.heap.size w2 wr) (fun i _ => m - (intOf i).toNat)
        case atStart => exact ⟨0, [], by omega, rfl, by simp, by simp, HIB.out, HBZ.out⟩
        case round =>
          obtain ⟨k, acc, hk, rfl, hrel, hal, hib, hb⟩ := hrel
          have HR := Lib.hid hrel; have HIB := Lib.hid hib; have HBR := Lib.hid hb
          clear hrel hib hb
          have HBL := Lib.hid (HB2.out.trans (HBR.out.mono HB2.out.size))
          obtain ⟨k0, k1, k2, k3⟩ := (HBX2.out.below HBR.out HBX2.out.lt).cells
          by_cases hlt : k < m
          · obtain ⟨ad, rfl, hc⟩ := (HRR.out.below HBL.out).2 (by omega)
            have hxk : k < ms.length := by rw [HX.out]; exact hlt
            have hxw : k < ws.length := by rw [HLW.out]; exact hlt
            have hcell : wr.cell? (ad.add k) = some (.int .i64 ms[k]) := hc k _ (by simp [ints, hxk])
            have CWK := Lib.hid (CW.out k hlt ms[k] (HM.out ms[k] (List.getElem_mem hxk)) wr HBL.out)
            have hv := CV.out k ms[k] (HM.out ms[k] (List.getElem_mem hxk))
            have ek : ((k + 1 : Nat) : Int) = (k : Int) + 1 := by omega
            rw [ek] at CWK hv
            have hwk : ws[k] = wage a b c d l ((k : Int) + 1) ms[k] := by
              have h1 := HDW.out k
              rw [drop_cons hxw, drop_cons hxk] at h1
              simp only [wagesF, Nat.zero_add] at h1
              injection h1
            have HD := Lib.hid (drop_cons hxw)
            rw [hwk] at HD
            clear hc hwk
            generalize ms[k] = x at *
            generalize wage a b c d l ((k : Int) + 1) x = v at *
            have hal2 : acc.length ≤ 2000 := by omega
            by_cases hpos : 0 < v
            · have HNX : Hid ((acc ++ lineB k v) ++ tabB (ws.drop (k + 1)) (k + 1) = tabB ws 0) := Lib.hid (by
                rw [← HR.out, HD.out]
                simp [tabB, hpos])
              have HLL := Lib.hid (lineB_len k v (by omega) (by omega))
              go_wp2_with fail
              refine (CWK.out).mono ?_
              rintro e w3 ⟨rfl, hb3⟩
              have HBR := Lib.hid (HBR.out.trans (hb3.mono HBR.out.size))
              have HIB := Lib.hid (IsBuilder.below HIB.out hb3)
              clear hb3 k0 k1 k2 k3 hcell
              have HB3 : Hid (Below w3.heap.size w3 (w3.alloc (.cells (ints [(k : Int) + 1, v]).toArray 3))) := Lib.hid ((Below.refl _ _).alloc (Nat.le_refl _) _)
              have HBR := Lib.hid (HBR.out.trans (HB3.out.mono HBR.out.size))
              have HIB := Lib.hid (IsBuilder.below HIB.out HB3.out)
              have hrl := reads_lit w3 (ints [(k : Int) + 1, v]) 3
              have CJ := joinNumbers_any (some ⟨w3.heap.size, 0, none⟩) 2 2 [(k : Int) + 1, v] ⟨#[32]⟩ (w3.alloc (.cells (ints [(k : Int) + 1, v]).toArray 3)) (by omega) (by omega) (by decide) (by intro y hy; simp at hy; omega) (HTB.out _ (HB2.out.trans (HBR.out.mono HB2.out.size))) (by simpa using hrl)
              have ej : Lib.join (([(k : Int) + 1, v]).map Lib.itoa) (⟨#[32]⟩ : ByteArray).data.toList = Lib.itoa ((k : Int) + 1) ++ [32] ++ Lib.itoa v := join_two _ _
              rw [ej] at CJ
              have hln : (Lib.itoa ((k : Int) + 1) ++ [32] ++ Lib.itoa v).length ≤ 100 := by
                have h1 := itoa_len ((k : Int) + 1) (by omega)
                have h2 := itoa_len v (by omega)
                simp only [List.length_append, List.length_cons, List.length_nil]
                omega
              have HLB : Hid (lineB k v = (Lib.itoa ((k : Int) + 1) ++ [32] ++ Lib.itoa v) ++ [10]) := Lib.hid rfl
              have HCJ := Lib.hid CJ
              clear CJ ej hrl
              generalize Lib.itoa ((k : Int) + 1) ++ [32] ++ Lib.itoa v = s1 at *
              go_wp2_with fail
              refine (HCJ.out).mono ?_
              rintro e w4 ⟨rfl, hb4⟩
              have HBR := Lib.hid (HBR.out.trans (hb4.mono HBR.out.size))
              have HIB := Lib.hid (IsBuilder.below HIB.out hb4)
              clear hb4
              have CS := bld_WriteString w2.heap.size w2.heap.size (Lib.byteCells acc) (⟨s1.toArray⟩ ++ ⟨#[10]⟩) w4 HIB.out (by
                rw [Lib.byteCells_length, ByteArray.size_append]
                simp [ByteArray.size]
                omega) HBR.out.size
              have HCS := Lib.hid CS
              clear CS
              go_wp2_with fail
              refine (HCS.out).mono ?_
              rintro e w5 ⟨rfl, hbl, hb5⟩
              have e5 : Lib.byteCells acc ++ Lib.strCells (⟨s1.toArray⟩ ++ ⟨#[10]⟩) = Lib.byteCells (acc ++ lineB k v) := by
                rw [HLB.out, Lib.byteCells_append, ← strCells_of (s1 ++ [10]), ← bytes_app]
              rw [e5] at hbl
              have HIB := Lib.hid (Or.inr hbl : Lib.IsBuilder 63 5 w2.heap.size w2.heap.size (Lib.byteCells (acc ++ lineB k v)) w5)
              have HBR := Lib.hid (HBR.out.trans hb5)
              clear hbl hb5 e5
              go_wp2
              go_roundw
              case rel => exact ⟨k + 1, acc ++ lineB k v, by omega, by go_num, HNX.out, by have := HLL.out; simp; omega, HIB.out, HBR.out⟩
              case measure => simp [intOf]; omega
            · have HNX : Hid (acc ++ tabB (ws.drop (k + 1)) (k + 1) = tabB ws 0) := Lib.hid (by
                rw [← HR.out, HD.out]
                simp [tabB, hpos])
              go_wp2_with fail
              refine (CWK.out).mono ?_
              rintro e w3 ⟨rfl, hb3⟩
              have HBR := Lib.hid (HBR.out.trans (hb3.mono HBR.out.size))
              have HIB := Lib.hid (IsBuilder.below HIB.out hb3)
              clear hb3 k0 k1 k2 k3 hcell
              go_wp2
              go_roundw
              case rel => exact ⟨k + 1, acc, by omega, by go_num, HNX.out, by omega, HIB.out, HBR.out⟩
              case measure => simp [intOf]; omega
          · have HE := Lib.hid (drop_end (xs := ws) (k := k) (by rw [HLW.out]; omega))
            have hend := HR.out
            rw [HE.out] at hend
            have HEN : Hid (acc = tabB ws 0) := Lib.hid (by simpa [tabB] using hend)
            have HCS := Lib.hid (bld_String_any w2.heap.size w2.heap.size acc wr HIB.out HBR.out.size)
            clear hend k0 k1 k2 k3
            go_wp2_with fail
            refine (HCS.out).mono ?_
            rintro e w5 ⟨rfl, hb5⟩
            have HBR := Lib.hid (HBR.out.trans hb5)
            clear hb5
            go_wp2
            go_ret2
            exact ⟨by rw [← HEN.out]; rfl, HB2.out.trans (HBR.out.mono HB2.out.size)⟩

end Go.Proofs.YtiofgoppgdgbaaaDoor
