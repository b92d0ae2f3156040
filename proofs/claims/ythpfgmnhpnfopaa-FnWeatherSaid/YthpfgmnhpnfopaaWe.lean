/- Contracts of the functions of chapter 27 on mixes, chances and drawn fog. No conditions. -/
import Derived.Test.YthpfgmnhpnfopaaClone
namespace Go.Proofs.Ythpfgmnhpnfopaa
set_option linter.unusedSimpArgs false
set_option linter.unusedVariables false
open Go.RowKit

def chance (s : Int) : Int := if s % 10 < 3 then 60 else 15
theorem chance_bd (s : Int) : 0 ≤ chance s ∧ chance s ≤ 60 := by unfold chance; split <;> omega
def mixStep (a x : Int) : Int := (31 * a + x + 19) % 1000003 * ((31 * a + x + 19) % 1000003 / 8 + 13) % 1000003
theorem mixStep_bd (a x : Int) : 0 ≤ mixStep a x ∧ mixStep a x ≤ 1000002 := by unfold mixStep; omega
def mix (l : List Int) : Int := (l ++ [5, 2]).foldl mixStep (6301 + (l.length : Int))
theorem foldl_mix_bd (l : List Int) : ∀ a : Int, 0 ≤ a → a ≤ 1000002 → 0 ≤ l.foldl mixStep a ∧ l.foldl mixStep a ≤ 1000002 := by
  induction l with
  | nil => intro a h1 h2; exact ⟨h1, h2⟩
  | cons x r ih => intro a _ _; exact ih _ (mixStep_bd a x).1 (mixStep_bd a x).2
theorem mix_bd (l : List Int) (h : l.length ≤ 1000) : 0 ≤ mix l ∧ mix l ≤ 1000002 := foldl_mix_bd _ _ (by omega) (by omega)

theorem weChance_any (s : Int) (w : World) (h0 : 0 ≤ s) :
    Calls Try.prog 71 #[.int .i64 s] w fun e w' => e = .returned (.int .i64 (chance s)) ∧ w = w' := by
  by_cases h3 : s % 10 < 3
  · go_enter Try.func71, Try.ntmps71
    go_wp2
    go_ret
    exact ⟨by simp [chance, h3], rfl⟩
  · go_enter Try.func71, Try.ntmps71
    go_wp2
    go_ret
    exact ⟨by simp [chance]; omega, rfl⟩
theorem fogChance_any (s : Int) (w : World) (h0 : 0 ≤ s) :
    Calls Try.prog 73 #[.int .i64 s] w fun e w' => e = .returned (.int .i64 (chance s)) ∧ w = w' := by
  by_cases h3 : s % 10 < 3
  · go_enter Try.func73, Try.ntmps73
    go_wp2
    go_ret
    exact ⟨by simp [chance, h3], rfl⟩
  · go_enter Try.func73, Try.ntmps73
    go_wp2
    go_ret
    exact ⟨by simp [chance]; omega, rfl⟩
set_option maxHeartbeats 1000000 in
theorem weMix_any (A : Option Addr) (n c : Nat) (xs : List Int) (w : World) (hn : n ≤ 1000) (h : Reads w 1 A n (ints xs)) (hx : ∀ x ∈ xs, 0 ≤ x ∧ x ≤ 1000000000) :
    Calls Try.prog 81 #[.slice A n c] w fun e w' => e = .returned (.int .i64 (mix xs)) ∧ Below w.heap.size w w' := by
  have hlen : xs.length = n := by simpa using h.1
  have H := Lib.hid hlen; clear hlen
  have HX := Lib.hid hx; clear hx
  have hcl := l1Own_any A n c xs w (by omega) h
  have HC := Lib.hid hcl; clear hcl h
  go_enter Try.func81, Try.ntmps81
  go_wp2_with (first | (go_at_call 112; refine (HC.out).mono ?_; rintro e w1 ⟨A1, c1, rfl, hown1, hb1⟩) | (at_builtin; refine wpList_push _ rfl (.tmp 10) (.tmp 11) 33 rfl w.heap.size 3 (.int .i64 0) 1 8 infoInt rfl (by omega) Try.underlying33 A1 n c1 (ints xs) rfl (hown1.alloc _) (some ⟨w1.heap.size, 0, none⟩) 2 2 (ints [5, 2]) rfl ?c1 (one_ints _) (by omega) (by omega) ?c2 ?_; (case c1 => exact reads_lit w1 (ints [5, 2]) _); (case c2 => have := hb1.size; simp; omega); intro A2 c2 w2 hown2 hg2 hb2))
  have hr2 : Reads w2 1 A2 (n + 2) (ints (xs ++ [5, 2])) := by have := Reads.of_own hown2; simpa [ints] using this
  have hbb : Below w.heap.size w w2 := (hb1.alloc hb1.size _).trans hb2
  have hy : ∀ x ∈ xs ++ [5, 2], 0 ≤ x ∧ x ≤ 1000000000 := by
    intro x hx'
    rcases List.mem_append.1 hx' with h1 | h1
    · exact HX.out x h1
    · simp at h1; omega
  have hyl : (xs ++ [5, 2]).length = n + 2 := by simp [H.out]
  have hm : (xs ++ [5, 2]).foldl mixStep (6301 + (n : Int)) = mix xs := by rw [← H.out]; rfl
  generalize xs ++ [5, 2] = ys at hr2 hy hyl hm
  have HY := Lib.hid hy
  have HL := Lib.hid hyl
  have HM := Lib.hid hm
  have HB := Lib.hid hbb
  clear hy hyl hm hbb hb1 hb2 hg2 hown2 hown1 HC
  go_loop [3, 14] (fun a i => ∃ k : Nat, ∃ q : Int, k ≤ n + 2 ∧ i = .int .i64 k ∧ a = .int .i64 q ∧ 0 ≤ q ∧ q ≤ 1000002 ∧ (ys.drop k).foldl mixStep q = mix xs) (fun _ i => n + 2 - (intOf i).toNat)
  case atStart => exact ⟨0, _, Nat.zero_le _, rfl, rfl, by omega, by omega, HM.out⟩
  case round =>
    obtain ⟨k, q, hk, rfl, rfl, hq1, hq2, hrel⟩ := hrel
    have HR := Lib.hid hrel; clear hrel
    by_cases hlt : k < n + 2
    · obtain ⟨ad, rfl, hc⟩ := hr2.2 (by omega)
      have hx : k < ys.length := by rw [HL.out]; exact hlt
      have hcell : w2.cell? (ad.add k) = some (.int .i64 ys[k]) := hc k _ (by simp [ints, hx])
      have HD := Lib.hid (drop_cons hx)
      obtain ⟨hx1, hx2⟩ := HY.out ys[k] (List.getElem_mem hx)
      generalize ys[k] = x at hcell HD hx1 hx2
      clear hc hr2
      have hs := mixStep_bd q x
      have hp1 : 0 ≤ (31 * q + x + 19) % 1000003 * ((31 * q + x + 19) % 1000003 / 8 + 13) := Int.mul_nonneg (by omega) (by omega)
      have hp2 : (31 * q + x + 19) % 1000003 * ((31 * q + x + 19) % 1000003 / 8 + 13) ≤ 1000003 * 200000 := Int.mul_le_mul (by omega) (by omega) (by omega) (by omega)
      go_wp2
      go_round
      case rel =>
        refine ⟨k + 1, _, by omega, by go_num, rfl, by omega, by omega, ?_⟩
        rw [← HR.out, HD.out]
        rfl
      case measure => simp [intOf]; omega
    · have HE := Lib.hid (drop_end (xs := ys) (k := k) (by rw [HL.out]; omega))
      clear hr2
      go_wp2
      go_ret
      refine ⟨?_, HB.out⟩
      rw [← HR.out, HE.out]
      rfl
set_option maxHeartbeats 1000000 in
theorem fogMix_any (A : Option Addr) (n c : Nat) (xs : List Int) (w : World) (hn : n ≤ 1000) (h : Reads w 1 A n (ints xs)) (hx : ∀ x ∈ xs, 0 ≤ x ∧ x ≤ 1000000000) :
    Calls Try.prog 83 #[.slice A n c] w fun e w' => e = .returned (.int .i64 (mix xs)) ∧ Below w.heap.size w w' := by
  have hlen : xs.length = n := by simpa using h.1
  have H := Lib.hid hlen; clear hlen
  have HX := Lib.hid hx; clear hx
  have hcl := clone_any A n c xs w (by omega) h
  have HC := Lib.hid hcl; clear hcl h
  go_enter Try.func83, Try.ntmps83
  go_wp2_with (first | (go_at_call 113; refine (HC.out).mono ?_; rintro e w1 ⟨A1, c1, rfl, hown1, hb1⟩) | (at_builtin; refine wpList_push _ rfl (.tmp 10) (.tmp 11) 33 rfl w.heap.size 3 (.int .i64 0) 1 8 infoInt rfl (by omega) Try.underlying33 A1 n c1 (ints xs) rfl (hown1.alloc _) (some ⟨w1.heap.size, 0, none⟩) 2 2 (ints [5, 2]) rfl ?c1 (one_ints _) (by omega) (by omega) ?c2 ?_; (case c1 => exact reads_lit w1 (ints [5, 2]) _); (case c2 => have := hb1.size; simp; omega); intro A2 c2 w2 hown2 hg2 hb2))
  have hr2 : Reads w2 1 A2 (n + 2) (ints (xs ++ [5, 2])) := by have := Reads.of_own hown2; simpa [ints] using this
  have hbb : Below w.heap.size w w2 := (hb1.alloc hb1.size _).trans hb2
  have hy : ∀ x ∈ xs ++ [5, 2], 0 ≤ x ∧ x ≤ 1000000000 := by
    intro x hx'
    rcases List.mem_append.1 hx' with h1 | h1
    · exact HX.out x h1
    · simp at h1; omega
  have hyl : (xs ++ [5, 2]).length = n + 2 := by simp [H.out]
  have hm : (xs ++ [5, 2]).foldl mixStep (6301 + (n : Int)) = mix xs := by rw [← H.out]; rfl
  generalize xs ++ [5, 2] = ys at hr2 hy hyl hm
  have HY := Lib.hid hy
  have HL := Lib.hid hyl
  have HM := Lib.hid hm
  have HB := Lib.hid hbb
  clear hy hyl hm hbb hb1 hb2 hg2 hown2 hown1 HC
  go_loop [3, 14] (fun a i => ∃ k : Nat, ∃ q : Int, k ≤ n + 2 ∧ i = .int .i64 k ∧ a = .int .i64 q ∧ 0 ≤ q ∧ q ≤ 1000002 ∧ (ys.drop k).foldl mixStep q = mix xs) (fun _ i => n + 2 - (intOf i).toNat)
  case atStart => exact ⟨0, _, Nat.zero_le _, rfl, rfl, by omega, by omega, HM.out⟩
  case round =>
    obtain ⟨k, q, hk, rfl, rfl, hq1, hq2, hrel⟩ := hrel
    have HR := Lib.hid hrel; clear hrel
    by_cases hlt : k < n + 2
    · obtain ⟨ad, rfl, hc⟩ := hr2.2 (by omega)
      have hx : k < ys.length := by rw [HL.out]; exact hlt
      have hcell : w2.cell? (ad.add k) = some (.int .i64 ys[k]) := hc k _ (by simp [ints, hx])
      have HD := Lib.hid (drop_cons hx)
      obtain ⟨hx1, hx2⟩ := HY.out ys[k] (List.getElem_mem hx)
      generalize ys[k] = x at hcell HD hx1 hx2
      clear hc hr2
      have hs := mixStep_bd q x
      have hp1 : 0 ≤ (31 * q + x + 19) % 1000003 * ((31 * q + x + 19) % 1000003 / 8 + 13) := Int.mul_nonneg (by omega) (by omega)
      have hp2 : (31 * q + x + 19) % 1000003 * ((31 * q + x + 19) % 1000003 / 8 + 13) ≤ 1000003 * 200000 := Int.mul_le_mul (by omega) (by omega) (by omega) (by omega)
      go_wp2
      go_round
      case rel =>
        refine ⟨k + 1, _, by omega, by go_num, rfl, by omega, by omega, ?_⟩
        rw [← HR.out, HD.out]
        rfl
      case measure => simp [intOf]; omega
    · have HE := Lib.hid (drop_end (xs := ys) (k := k) (by rw [HL.out]; omega))
      clear hr2
      go_wp2
      go_ret
      refine ⟨?_, HB.out⟩
      rw [← HR.out, HE.out]
      rfl

end Go.Proofs.Ythpfgmnhpnfopaa
