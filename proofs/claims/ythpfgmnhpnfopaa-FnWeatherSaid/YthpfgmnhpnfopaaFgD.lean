/- FogSeconds of the program, on a net and on fogs in order. No conditions. -/
import Derived.Test.YthpfgmnhpnfopaaFgC
namespace Go.Proofs.Ythpfgmnhpnfopaa
set_option linter.unusedSimpArgs false
set_option linter.unusedVariables false
open Go.RowKit

theorem sec1_bd {l a b : Int} {x : S3} (ha : 0 ≤ a) (hb : b ≤ 10000) (hx : 0 ≤ x.2.1) : 0 ≤ sec1 x l a b ∧ sec1 x l a b ≤ 10000 := by
  unfold sec1
  split
  · omega
  · omega
theorem secF_bd {l a b : Int} (ha : 0 ≤ a) (hb : b ≤ 10000) : ∀ (F : List S3), (∀ x ∈ F, 0 ≤ x.2.1) → 0 ≤ secF l a b F ∧ secF l a b F ≤ 10000 * F.length := by
  intro F
  induction F with
  | nil => intro _; simp [secF]
  | cons x r ih =>
    intro h
    have h1 := ih fun y hy => h y (by simp [hy])
    have h2 := sec1_bd (l := l) ha hb (h x (by simp))
    simp only [secF, List.length_cons]
    omega
theorem secF_app (l a b : Int) : ∀ (F G : List S3), secF l a b (F ++ G) = secF l a b F + secF l a b G := by
  intro F
  induction F with
  | nil => intro G; simp [secF]
  | cons x r ih => intro G; simp only [List.cons_append, secF, ih]; omega
theorem secF_take {l a b : Int} {F : List S3} {k : Nat} (h : k < F.length) : secF l a b (F.take (k + 1)) = secF l a b (F.take k) + sec1 F[k] l a b := by
  rw [List.take_succ_eq_append_getElem h, secF_app]
  simp [secF]

set_option maxHeartbeats 4000000 in
set_option maxRecDepth 100000 in
theorem FogSeconds_yes (At Ak : Option Addr) (nT cT nK cK : Nat) (T K : List S3) (w : World) (hT : nT ≤ 1000000000) (hK : nK ≤ 1000000000) (ht : Reads w 3 At nT (rows3 T)) (hk : Reads w 3 Ak nK (rows3 K)) (hnet : netB T K = true) (A : Option Addr) (n c : Nat) (F : List S3) (l a b : Int) (hl : 0 ≤ l ∧ l < (nK : Int)) (ha : 0 ≤ a) (hab : a ≤ b) (hb0 : b ≤ 10000) (h : Reads w 3 A n (rows3 F)) (hf : FogsOk nK F) :
    Calls Try.prog 63 #[.agg #[.slice At nT cT, .slice Ak nK cK], .slice A n c, .int .i64 l, .int .i64 a, .int .i64 b] w fun e w' => e = .returned (.tuple #[.int .i64 (secF l a b F), .bool true]) ∧ Below w.heap.size w w' := by
  have HB0 : Hid (Below w.heap.size w (w.alloc (.cells #[.slice At nT cT, .slice Ak nK cK] 68))) := Lib.hid ((Below.refl _ _).alloc (Nat.le_refl _) _)
  have HZ : Hid (∀ W, Below (w.alloc (.cells #[.slice At nT cT, .slice Ak nK cK] 68)).heap.size (w.alloc (.cells #[.slice At nT cT, .slice Ak nK cK] 68)) W → Below w.heap.size w W) := Lib.hid (fun W hW => HB0.out.trans (hW.mono HB0.out.size))
  have CA := Lib.hid (fogAsked_yes At Ak nT cT nK cK T K (w.alloc (.cells #[.slice At nT cT, .slice Ak nK cK] 68)) hT hK (ht.alloc _) (hk.alloc _) hnet A n c F l a b hl ha hab hb0 (h.alloc _) hf)
  have HX := Lib.hid (show F.length = n by have := h.1; rw [length_rows3] at this; omega)
  have H := Lib.hid (h.alloc (.cells #[.slice At nT cT, .slice Ak nK cK] 68))
  have HF := Lib.hid hf
  have hn60 : n ≤ 60 := by rw [← HX.out]; exact hf.few
  have HL := Lib.hid hl
  clear hnet ht hk h hf hl
  go_enter Try.func63, Try.ntmps63
  go_wp2_with fail
  refine (CA.out).mono ?_
  rintro e w1 ⟨rfl, hb⟩
  have HB1 := Lib.hid hb
  clear hb CA
  go_wp2
  go_loopw [12, 24] (fun s i wr => ∃ k : Nat, k ≤ n ∧ i = .int .i64 k ∧ s = .int .i64 (secF l a b (F.take k)) ∧ Below (w.alloc (.cells #[.slice At nT cT, .slice Ak nK cK] 68)).heap.size (w.alloc (.cells #[.slice At nT cT, .slice Ak nK cK] 68)) wr) (fun _ i _ => n - (intOf i).toNat)
  case atStart => exact ⟨0, Nat.zero_le _, rfl, by simp [secF], HB1.out⟩
  case round =>
    obtain ⟨k, hk, rfl, rfl, hb⟩ := hrel
    have HB := Lib.hid hb; clear hb
    by_cases hlt : k < n
    · have hx : k < F.length := by rw [HX.out]; exact hlt
      obtain ⟨ad, rfl, k0, k1, k2⟩ := rows3_at (H.out.below HB.out) hlt HX.out
      have hok := HF.out.ok F[k] (List.getElem_mem hx)
      have HT : Hid (secF l a b (F.take (k + 1)) = secF l a b (F.take k) + sec1 F[k] l a b) := Lib.hid (secF_take hx)
      have hs := secF_bd (l := l) ha hb0 (F.take k) (fun x hx => (HF.out.ok x (List.mem_of_mem_take hx)).2.1)
      have hlk : (F.take k).length ≤ 60 := by simp; omega
      have hs2 : secF l a b (F.take k) ≤ 600000 := by omega
      have hs1 := hs.1
      clear hs hlk
      generalize F[k] = x at *
      generalize secF l a b (F.take k) = S at *
      obtain ⟨xa, xb, xc⟩ := x
      simp only at k0 k1 k2
      have hx1 : 0 ≤ xb := hok.2.1
      have hx2 : xb < xc := hok.2.2.1
      have hx3 : xc ≤ 10000 := hok.2.2.2
      clear hok
      have HB2 : Hid (Below (w.alloc (.cells #[.slice At nT cT, .slice Ak nK cK] 68)).heap.size (w.alloc (.cells #[.slice At nT cT, .slice Ak nK cK] 68)) (wr.alloc (.cells #[.int .i64 xa, .int .i64 xb, .int .i64 xc] 110))) := Lib.hid (HB.out.alloc HB.out.size _)
      by_cases he : xa = l
      · have he' : (xa == l) = true := by rw [beq_iff_eq]; exact he
        have HS : Hid (sec1 (xa, xb, xc) l a b = max 0 (min xc b - max xb a)) := Lib.hid (by simp [sec1, he])
        clear he
        go_wp2
        all_goals
          go_roundw
          case rel => exact ⟨k + 1, by omega, by go_num, by rw [HT.out, HS.out]; congr 1; omega, HB2.out⟩
          case measure => first | (simp [intOf]; done) | (simp [intOf]; omega)
      · have he' : (xa == l) = false := by rw [beq_eq_false_iff_ne]; exact he
        have HS : Hid (sec1 (xa, xb, xc) l a b = 0) := Lib.hid (by simp [sec1, he])
        clear he
        go_wp2
        go_roundw
        case rel => exact ⟨k + 1, by omega, by go_num, by rw [HT.out, HS.out, Int.add_zero], HB2.out⟩
        case measure => first | (simp [intOf]; done) | (simp [intOf]; omega)
    · have e : F.take k = F := List.take_of_length_le (by rw [HX.out]; omega)
      rw [e]
      go_wp2
      go_ret2
      exact ⟨rfl, HZ.out _ HB.out⟩

end Go.Proofs.Ythpfgmnhpnfopaa
