/- Contracts of WageBill of both packages, and the law over them. No conditions. -/
import Derived.Test.YtiofgoppgdgbaaaDoorSh10
namespace Go.Proofs.YtiofgoppgdgbaaaDoor
set_option linter.unusedSimpArgs false
set_option linter.unusedVariables false
open Go.RowKit

def sumL : List Int → Int
  | [] => 0
  | x :: r => x + sumL r
theorem sumL_bd (l : List Int) (lo hi : Int) (h : ∀ x ∈ l, lo ≤ x ∧ x ≤ hi) : lo * (l.length : Int) ≤ sumL l ∧ sumL l ≤ hi * (l.length : Int) := by
  induction l with
  | nil => simp [sumL]
  | cons x r ih =>
    have h1 := h x (by simp)
    have h2 := ih (fun y hy => h y (by simp [hy]))
    simp only [sumL, List.length_cons, Int.natCast_add, Int.mul_add]
    omega
def wagesF (a b c d : Int) (l : List S3) : List Int → Nat → List Int
  | [], _ => []
  | x :: r, k => wage a b c d l (k + 1 : Nat) x :: wagesF a b c d l r (k + 1)
@[simp] theorem length_wagesF (a b c d : Int) (l : List S3) (ms : List Int) : ∀ k, (wagesF a b c d l ms k).length = ms.length := by
  induction ms with
  | nil => intro k; rfl
  | cons x r ih => intro k; simp [wagesF, ih]
theorem wagesF_bd {a b c d : Int} {l : List S3} (hp : payB a b c d = true) (hg : goodShifts l = true) {ms : List Int} (hm : ∀ x ∈ ms, 0 ≤ x ∧ x ≤ 1000) : ∀ k, ∀ y ∈ wagesF a b c d l ms k, 0 ≤ y ∧ y ≤ 1000000000 := by
  induction ms with
  | nil => intro k y hy; simp [wagesF] at hy
  | cons x r ih =>
    intro k y hy
    simp only [wagesF, List.mem_cons] at hy
    rcases hy with rfl | hy
    · exact wage_bd hp hg (hm x (by simp))
    · exact ih (fun z hz => hm z (by simp [hz])) (k + 1) y hy
def allAsk (a b c d : Int) (l : List S3) (ms : List Int) : Bool := payB a b c d && (goodShifts l && (decide (ms.length = 30) && allB 0 1000 ms))
theorem allAsk_of {a b c d : Int} {l : List S3} {ms : List Int} (h : allAsk a b c d l ms = true) : payB a b c d = true ∧ goodShifts l = true ∧ ms.length = 30 ∧ allB 0 1000 ms = true := by simpa [allAsk] using h
def billR (a b c d : Int) (l : List S3) (ms : List Int) : Int × Bool := if allAsk a b c d l ms = true then (sumL (wagesF a b c d l ms 0), true) else (0, false)
theorem op_in {k n : Nat} (h : k < n) (hn : n = 30) : inB ((k + 1 : Nat) : Int) 1 30 = true := by rw [inB_true]; omega
theorem wgSum_any (A : Option Addr) (n c : Nat) (xs : List Int) (w : World) (hn : n ≤ 1000000) (h : Reads w 1 A n (ints xs)) (hx : ∀ x ∈ xs, 0 ≤ x ∧ x ≤ 1000000000) :
    Calls Tryd.prog 58 #[.slice A n c] w fun e w' => e = .returned (.int .i64 (sumL xs)) ∧ w = w' := by
  have HX := Lib.hid (show xs.length = n by simpa using h.1)
  have HB := Lib.hid hx; clear hx
  go_enter Tryd.func58, Tryd.ntmps58
  go_wp2
  go_loop [3, 8] (fun s i => ∃ k : Nat, ∃ q : Int, k ≤ n ∧ i = .int .i64 k ∧ s = .int .i64 q ∧ 0 ≤ q ∧ q ≤ 1000000000 * (k : Int) ∧ q + sumL (xs.drop k) = sumL xs) (fun _ i => n - (intOf i).toNat)
  case atStart => exact ⟨0, 0, Nat.zero_le _, rfl, rfl, by omega, by omega, by simp⟩
  case round =>
    obtain ⟨k, q, hk, rfl, rfl, hq1, hq2, hrel⟩ := hrel
    have HR := Lib.hid hrel; clear hrel
    by_cases hlt : k < n
    · obtain ⟨ad, rfl, hc⟩ := h.2 (by omega)
      have hxk : k < xs.length := by rw [HX.out]; exact hlt
      have hcell : w.cell? (ad.add k) = some (.int .i64 xs[k]) := hc k _ (by simp [ints, hxk])
      have hb := HB.out xs[k] (List.getElem_mem hxk)
      have HD := Lib.hid (drop_cons hxk)
      clear hc h
      generalize xs[k] = x at hcell hb HD
      go_wp2
      go_round
      case rel => exact ⟨k + 1, _, by omega, by go_num, rfl, by omega, by omega, by rw [← HR.out, HD.out]; simp only [sumL]; omega⟩
      case measure => simp [intOf]; omega
    · have HE := Lib.hid (drop_end (xs := xs) (k := k) (by rw [HX.out]; omega))
      clear h
      go_wp2
      go_ret
      refine ⟨ret_int ?_, rfl⟩
      rw [← HR.out, HE.out]
      simp [sumL]
set_option maxRecDepth 100000 in
theorem areAllMessages_any (A : Option Addr) (n c : Nat) (ms : List Int) (w : World) (hn : n ≤ 1000000000) (h : Reads w 1 A n (ints ms)) :
    Calls Tryd.prog 35 #[.slice A n c] w fun e w' => e = .returned (.bool (decide (ms.length = 30) && allB 0 1000 ms)) ∧ w = w' := by
  have hx : ms.length = n := by simpa using h.1
  have CA := Lib.hid (allWithin_any A n c ms 0 1000 w (by omega) h)
  rw [hx]
  clear h hx
  by_cases h30 : n = 30
  · have h30' : ((n : Int) == 30) = true := by rw [beq_iff_eq]; omega
    have H30 := Lib.hid h30; clear h30
    cases ha : allB 0 1000 ms with
    | true =>
      rw [ha] at CA
      go_enter Tryd.func35, Tryd.ntmps35
      go_wp2_with (go_at_call 63; refine (CA.out).mono ?_; rintro e w' ⟨rfl, rfl⟩)
      go_ret
      exact ⟨ret_bool (by simp [H30.out]), rfl⟩
    | false =>
      rw [ha] at CA
      go_enter Tryd.func35, Tryd.ntmps35
      go_wp2_with (go_at_call 63; refine (CA.out).mono ?_; rintro e w' ⟨rfl, rfl⟩)
      go_ret
      exact ⟨ret_bool (by simp), rfl⟩
  · have h30' : ((n : Int) == 30) = false := by rw [beq_eq_false_iff_ne]; omega
    go_enter Tryd.func35, Tryd.ntmps35
    go_wp2
    go_ret
    exact ⟨ret_bool (by simp [h30]), rfl⟩

set_option maxRecDepth 100000 in
set_option maxHeartbeats 600000 in
theorem wgAll_any (a b c d : Int) (A : Option Addr) (n cc : Nat) (l : List S3) (B : Option Addr) (m mc : Nat) (ms : List Int) (w : World) (hn : n ≤ 1000000000) (h : Reads w 3 A n (rows3 l)) (hnc : n ≤ cc) (hm : m ≤ 1000000000) (hr : Reads w 1 B m (ints ms)) :
    Calls Tryd.prog 30 #[.agg #[.int .i64 a, .int .i64 b, .int .i64 c, .int .i64 d], .slice A n cc, .slice B m mc] w fun e w' => e = .returned (.bool (allAsk a b c d l ms)) ∧ Below w.heap.size w w' := by
  have hmx : ms.length = m := by simpa using hr.1
  have SG := Lib.hid (fun W (hW : Below w.heap.size w W) => shGood_any A n cc l W hn hnc (h.below hW))
  have LA := Lib.hid (fun W (hW : Below w.heap.size w W) => l1All_any B m mc ms 0 1000 W (by omega) (hr.below hW))
  have HMX := Lib.hid hmx
  clear h hr hmx
  cases h1 : payB a b c d with
  | false =>
    go_enter Tryd.func30, Tryd.ntmps30
    go_wp2_with (first | (go_at_call 52; refine (wgPay_any a b c d _).mono ?_; rintro e w1 ⟨rfl, hb1⟩; have HB1 := Lib.hid (((Below.refl _ _).alloc (Nat.le_refl _) _).trans (hb1.mono (by simp))); clear hb1) | (go_at_call 53; refine (SG.out _ HB1.out).mono ?_; rintro e w2 ⟨rfl, hb2⟩; have HB2 := Lib.hid (below_then HB1.out hb2); clear hb2) | (go_at_call 59; refine (LA.out _ HB2.out).mono ?_; rintro e w' ⟨rfl, rfl⟩))
    go_ret
    exact ⟨ret_bool (by simp [allAsk, h1]), HB1.out⟩
  | true =>
    cases h2 : goodShifts l with
    | false =>
      go_enter Tryd.func30, Tryd.ntmps30
      go_wp2_with (first | (go_at_call 52; refine (wgPay_any a b c d _).mono ?_; rintro e w1 ⟨rfl, hb1⟩; have HB1 := Lib.hid (((Below.refl _ _).alloc (Nat.le_refl _) _).trans (hb1.mono (by simp))); clear hb1) | (go_at_call 53; refine (SG.out _ HB1.out).mono ?_; rintro e w2 ⟨rfl, hb2⟩; have HB2 := Lib.hid (below_then HB1.out hb2); clear hb2) | (go_at_call 59; refine (LA.out _ HB2.out).mono ?_; rintro e w' ⟨rfl, rfl⟩))
      go_ret
      exact ⟨ret_bool (by simp [allAsk, h1, h2]), HB2.out⟩
    | true =>
      by_cases h30 : m = 30
      · have h30' : ((m : Int) == 30) = true := by rw [beq_iff_eq]; omega
        have H30 := Lib.hid h30; clear h30
        cases h4 : allB 0 1000 ms with
        | false =>
          go_enter Tryd.func30, Tryd.ntmps30
          go_wp2_with (first | (go_at_call 52; refine (wgPay_any a b c d _).mono ?_; rintro e w1 ⟨rfl, hb1⟩; have HB1 := Lib.hid (((Below.refl _ _).alloc (Nat.le_refl _) _).trans (hb1.mono (by simp))); clear hb1) | (go_at_call 53; refine (SG.out _ HB1.out).mono ?_; rintro e w2 ⟨rfl, hb2⟩; have HB2 := Lib.hid (below_then HB1.out hb2); clear hb2) | (go_at_call 59; refine (LA.out _ HB2.out).mono ?_; rintro e w' ⟨rfl, rfl⟩))
          go_ret
          exact ⟨ret_bool (by simp [allAsk, h1, h2, h4]), HB2.out⟩
        | true =>
          go_enter Tryd.func30, Tryd.ntmps30
          go_wp2_with (first | (go_at_call 52; refine (wgPay_any a b c d _).mono ?_; rintro e w1 ⟨rfl, hb1⟩; have HB1 := Lib.hid (((Below.refl _ _).alloc (Nat.le_refl _) _).trans (hb1.mono (by simp))); clear hb1) | (go_at_call 53; refine (SG.out _ HB1.out).mono ?_; rintro e w2 ⟨rfl, hb2⟩; have HB2 := Lib.hid (below_then HB1.out hb2); clear hb2) | (go_at_call 59; refine (LA.out _ HB2.out).mono ?_; rintro e w' ⟨rfl, rfl⟩))
          go_ret
          exact ⟨ret_bool (by simp [allAsk, h1, h2, h4, HMX.out, H30.out]), HB2.out⟩
      · have h30' : ((m : Int) == 30) = false := by rw [beq_eq_false_iff_ne]; omega
        go_enter Tryd.func30, Tryd.ntmps30
        go_wp2_with (first | (go_at_call 52; refine (wgPay_any a b c d _).mono ?_; rintro e w1 ⟨rfl, hb1⟩; have HB1 := Lib.hid (((Below.refl _ _).alloc (Nat.le_refl _) _).trans (hb1.mono (by simp))); clear hb1) | (go_at_call 53; refine (SG.out _ HB1.out).mono ?_; rintro e w2 ⟨rfl, hb2⟩; have HB2 := Lib.hid (below_then HB1.out hb2); clear hb2) | (go_at_call 59; refine (LA.out _ HB2.out).mono ?_; rintro e w' ⟨rfl, rfl⟩))
        go_ret
        exact ⟨ret_bool (by simp [allAsk, h1, h2, HMX.out, h30]), HB2.out⟩
set_option maxHeartbeats 2000000 in
theorem wgWages_any (a b c d : Int) (A : Option Addr) (n cc : Nat) (l : List S3) (B : Option Addr) (m mc : Nat) (ms : List Int) (w : World) (h : Reads w 3 A n (rows3 l)) (hnc : n ≤ cc) (hr : Reads w 1 B m (ints ms)) (hask : allAsk a b c d l ms = true) :
    Calls Tryd.prog 31 #[.agg #[.int .i64 a, .int .i64 b, .int .i64 c, .int .i64 d], .slice A n cc, .slice B m mc] w (Made w 3 1 m (ints (wagesF a b c d l ms 0))) := by
  have hmx : ms.length = m := by simpa using hr.1
  obtain ⟨hp, hg, h30, hms⟩ := allAsk_of hask
  rw [hmx] at h30
  have hms' := allB_true.1 hms
  have CW := Lib.hid (fun (k : Nat) (hk : k < m) (x : Int) (hx : 0 ≤ x ∧ x ≤ 1000) W (hW : Below w.heap.size w W) => wgWage_any a b c d A n cc l ((k + 1 : Nat) : Int) x W hp hg (op_in hk h30) hx hnc (h.below hW))
  have HM := Lib.hid hms'
  have HX := Lib.hid hmx
  have HR := Lib.hid hr
  have hm30 : m ≤ 30 := by omega
  have HG0 := Lib.hid (show wagesF a b c d l ms 0 = wagesF a b c d l (ms.drop 0) 0 from rfl)
  clear hr h hask hp hg hms hms' h30 hmx
  generalize hws : wagesF a b c d l ms 0 = ws at *
  have HWS := Lib.hid hws; clear hws
  go_enter Tryd.func31, Tryd.ntmps31
  go_wp2
  go_loopw [7, 12] (fun v i wr => ∃ k : Nat, ∃ A1 c1, k ≤ m ∧ i = .int .i64 k ∧ v = .slice A1 k c1 ∧ ws.drop k = wagesF a b c d l (ms.drop k) k ∧ wr.ownsRow (w.heap.size + 1) 3 1 (.slice A1 k c1) k (ints (ws.take k)) ∧ Below w.heap.size w wr ∧ Box4 wr w.heap.size 29 (.int .i64 a) (.int .i64 b) (.int .i64 c) (.int .i64 d)) (fun _ i _ => m - (intOf i).toNat)
  case atStart => exact ⟨0, none, 0, Nat.zero_le _, rfl, rfl, by simpa using HG0.out, own_start, ((Below.refl _ _).alloc (Nat.le_refl _) _), Box4.new w 29 _ _ _ _⟩
  case round =>
    obtain ⟨k, A1, c1, hk, rfl, rfl, hrel, hown, hb, hbx⟩ := hrel
    have hz := hb.size
    have hz1 : w.heap.size + 1 ≤ wr.heap.size := by have := hbx.lt; omega
    have HBL := Lib.hid hb; clear hb
    obtain ⟨k0, k1, k2, k3⟩ := hbx.cells
    have HBX := Lib.hid hbx; clear hbx
    by_cases hlt : k < m
    · obtain ⟨ad, rfl, hc⟩ := (HR.out.below HBL.out).2 (by omega)
      have hxk : k < ms.length := by rw [HX.out]; exact hlt
      have hcell : wr.cell? (ad.add k) = some (.int .i64 ms[k]) := hc k _ (by simp [ints, hxk])
      have CWK := Lib.hid (CW.out k hlt ms[k] (HM.out ms[k] (List.getElem_mem hxk)) wr HBL.out)
      rw [drop_cons hxk] at hrel
      have HH := Lib.hid (drop_head hrel)
      clear hc hrel
      generalize ms[k] = x at *
      have HO := Lib.hid hown; clear hown
      have ek : ((k + 1 : Nat) : Int) = (k : Int) + 1 := by omega
      rw [ek] at CWK
      go_wp2_with (first | (go_at_call 48; refine (CWK.out).mono ?_; rintro e w1 ⟨rfl, hb1⟩; have hz2 := hb1.size; have HB1 := Lib.hid hb1; have hown2 := own_below HO.out hb1; clear hb1) | (at_builtin; refine wpList_push _ rfl (.tmp 17) (.tmp 24) 25 rfl (w.heap.size + 1) 3 (.int .i64 0) 1 8 infoInt rfl (by omega) Tryd.underlying25 A1 k c1 (ints (ws.take k)) rfl (hown2.alloc _) (some ⟨w1.heap.size, 0, none⟩) 1 1 [.int .i64 (wage a b c d l ((k : Int) + 1) x)] rfl (reads_new _ _ _) (by simp [Value.oneCell']) (by omega) (by omega) (by simp; omega) ?_; intro A' c' w3 hown1 hg1 hb3))
      go_roundw
      case rel =>
        have hb4 : Below (w.heap.size + 1) w1 w3 := ((Below.refl _ _).alloc (by omega) _).trans hb3
        refine ⟨k + 1, A', c', by omega, by go_num, rfl, HH.out.2.1, ?_, (HBL.out.trans (HB1.out.mono hz)).trans (hb4.mono (by omega)), (HBX.out.below HB1.out HBX.out.lt).below hb4 (by omega)⟩
        rw [HH.out.2.2.1]
        simpa [ints, ek] using hown1
      case measure => simp [intOf]; try omega
    · obtain rfl : k = m := by omega
      have e : ws.take k = ws := List.take_of_length_le (by rw [← HWS.out]; simp [HX.out])
      rw [e] at hown
      go_wp2
      go_ret
      exact ⟨A1, c1, rfl, own_mono hown (by omega), HBL.out⟩
set_option maxHeartbeats 2000000 in
theorem wageBillI_any (a b c d : Int) (A : Option Addr) (n cc : Nat) (l : List S3) (B : Option Addr) (m mc : Nat) (ms : List Int) (w : World) (h : Reads w 3 A n (rows3 l)) (hnc : n ≤ cc) (hr : Reads w 1 B m (ints ms)) (hask : allAsk a b c d l ms = true) :
    Calls Tryd.prog 57 #[.agg #[.int .i64 a, .int .i64 b, .int .i64 c, .int .i64 d], .slice A n cc, .slice B m mc] w fun e w' => e = .returned (.int .i64 (sumL (wagesF a b c d l ms 0))) ∧ Below w.heap.size w w' := by
  have hmx : ms.length = m := by simpa using hr.1
  obtain ⟨hp, hg, h30, hms⟩ := allAsk_of hask
  rw [hmx] at h30
  have hms' := allB_true.1 hms
  have CW := Lib.hid (fun (k : Nat) (hk : k < m) (x : Int) (hx : 0 ≤ x ∧ x ≤ 1000) W (hW : Below w.heap.size w W) => wageOfI_any a b c d A n cc l ((k + 1 : Nat) : Int) x W hp hg (op_in hk h30) hx hnc (h.below hW))
  have CV := Lib.hid (fun (k : Nat) (x : Int) (hx : 0 ≤ x ∧ x ≤ 1000) => wage_bd (op := ((k + 1 : Nat) : Int)) hp hg hx)
  have HM := Lib.hid hms'
  have HX := Lib.hid hmx
  have HR := Lib.hid hr
  have hm30 : m ≤ 30 := by omega
  clear hr h hask hp hg hms hms' h30 hmx
  go_enter Tryd.func57, Tryd.ntmps57
  go_wp2
  go_loopw [7, 12] (fun s i wr => ∃ k : Nat, ∃ q : Int, k ≤ m ∧ i = .int .i64 k ∧ s = .int .i64 q ∧ 0 ≤ q ∧ q ≤ 1000000000 * (k : Int) ∧ q + sumL (wagesF a b c d l (ms.drop k) k) = sumL (wagesF a b c d l ms 0) ∧ Below w.heap.size w wr ∧ Box4 wr w.heap.size 29 (.int .i64 a) (.int .i64 b) (.int .i64 c) (.int .i64 d)) (fun _ i _ => m - (intOf i).toNat)
  case atStart => exact ⟨0, 0, Nat.zero_le _, rfl, rfl, by omega, by omega, by simp, ((Below.refl _ _).alloc (Nat.le_refl _) _), Box4.new w 29 _ _ _ _⟩
  case round =>
    obtain ⟨k, q, hk, rfl, rfl, hq1, hq2, hrel, hb, hbx⟩ := hrel
    have HRL := Lib.hid hrel; clear hrel
    have HBL := Lib.hid hb; clear hb
    obtain ⟨k0, k1, k2, k3⟩ := hbx.cells
    have HBX := Lib.hid hbx; clear hbx
    by_cases hlt : k < m
    · obtain ⟨ad, rfl, hc⟩ := (HR.out.below HBL.out).2 (by omega)
      have hxk : k < ms.length := by rw [HX.out]; exact hlt
      have hcell : wr.cell? (ad.add k) = some (.int .i64 ms[k]) := hc k _ (by simp [ints, hxk])
      have CWK := Lib.hid (CW.out k hlt ms[k] (HM.out ms[k] (List.getElem_mem hxk)) wr HBL.out)
      have hv := CV.out k ms[k] (HM.out ms[k] (List.getElem_mem hxk))
      have HD := Lib.hid (drop_cons hxk)
      clear hc
      generalize ms[k] = x at *
      have ek : ((k + 1 : Nat) : Int) = (k : Int) + 1 := by omega
      have HST : Hid (sumL (wagesF a b c d l (ms.drop k) k) = wage a b c d l ((k : Int) + 1) x + sumL (wagesF a b c d l (ms.drop (k + 1)) (k + 1))) := Lib.hid (by rw [HD.out]; simp [wagesF, sumL])
      rw [ek] at CWK hv
      generalize wage a b c d l ((k : Int) + 1) x = v at *
      go_wp2_with (go_at_call 36; refine (CWK.out).mono ?_; rintro e w1 ⟨rfl, hb1⟩; have HB1 := Lib.hid hb1; clear hb1)
      go_roundw
      case rel => exact ⟨k + 1, q + v, by omega, by go_num, rfl, by omega, by omega, by rw [← HRL.out, HST.out]; omega, HBL.out.trans (HB1.out.mono HBL.out.size), HBX.out.below HB1.out HBX.out.lt⟩
      case measure => simp [intOf]; omega
    · have HE := Lib.hid (drop_end (xs := ms) (k := k) (by rw [HX.out]; omega))
      go_wp2
      go_ret
      exact ⟨ret_int (by rw [← HRL.out, HE.out]; simp [wagesF, sumL]), HBL.out⟩

end Go.Proofs.YtiofgoppgdgbaaaDoor
