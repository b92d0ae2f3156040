/- The library's stable sort at entries: insertionSortCmpFunc. No conditions. -/
import Derived.Test.YtcjmlakmigfkfaaStb4
namespace Go.Proofs.Ytcjmlakmigfkfaa
set_option linter.unusedSimpArgs false
set_option linter.unusedVariables false
open Go.Shelf Go.RowKit Go.Lib Go.Sort

theorem SWK.fiveH {F : Nat → EntV} {w0 W : World} {blk off : Nat} {dk d0 : Array Nat} (h : SWK (encV F) 5 w0 blk off dk W) (R : RowK (encV F) 5 w0 blk off d0) (hs : dk.size = d0.size) (i : Nat) (hi : i < dk.size) :
    ∃ t m p A3 n3 c3 A4 n4 c4, encV F dk[i]! = [.int .i64 t, .int .i64 m, .int .i64 p, .slice A3 n3 c3, .slice A4 n4 c4] ∧ (∀ n os, (grow (W.drewN n) os).cell? ⟨blk, off + i * 5, none⟩ = some (.int .i64 t)) ∧ (∀ n os, (grow (W.drewN n) os).cell? ⟨blk, off + i * 5 + 1, none⟩ = some (.int .i64 m)) ∧ (∀ n os, (grow (W.drewN n) os).cell? ⟨blk, off + i * 5 + 2, none⟩ = some (.int .i64 p)) ∧ (∀ n os, (grow (W.drewN n) os).cell? ⟨blk, off + i * 5 + 3, none⟩ = some (.slice A3 n3 c3)) ∧ (∀ n os, (grow (W.drewN n) os).cell? ⟨blk, off + i * 5 + 4, none⟩ = some (.slice A4 n4 c4)) := by
  have hH := fun n os => (h.grown n os).holds R.hblk R.hH hs
  exact ⟨_, _, _, _, _, _, _, _, _, rfl, fun n os => ((hH n os).cell (c := 0) hi (by omega)).1, fun n os => ((hH n os).cell (c := 1) hi (by omega)).1, fun n os => ((hH n os).cell (c := 2) hi (by omega)).1, fun n os => ((hH n os).cell (c := 3) hi (by omega)).1, fun n os => ((hH n os).cell (c := 4) hi (by omega)).1⟩
theorem size_insInnerN (lt : Nat → Nat → Bool) (a : Nat) : ∀ (j : Nat) (d : Array Nat), (insInner lt a j d).size = d.size := by
  intro j
  induction j with
  | zero => intro d; rw [insInner_stop _ _ _ _ (.inl (Nat.zero_le _))]
  | succ j ih =>
    intro d
    by_cases h : a < j + 1 ∧ lt d[j + 1]! d[j]! = true
    · rw [insInner_go _ _ _ _ h.1 (by simpa using h.2)]
      simp only [Nat.add_sub_cancel]
      rw [ih, size_swp]
    · rw [insInner_stop _ _ _ _ (by
        simp only [Nat.add_sub_cancel]
        by_cases h1 : a < j + 1
        · right; cases hh : lt d[j + 1]! d[j]! with
          | true => exact absurd ⟨h1, hh⟩ h
          | false => rfl
        · left; omega)]
theorem size_insOuterN (lt : Nat → Nat → Bool) (a b : Nat) : ∀ (k i : Nat) (d : Array Nat), b - i ≤ k → (insOuter lt a b i d).size = d.size := by
  intro k
  induction k with
  | zero => intro i d h; rw [insOuter_off lt _ _ _ _ (by omega)]
  | succ k ih =>
    intro i d h
    by_cases hi : i < b
    · rw [insOuter_on lt _ _ _ _ hi, ih _ _ (by omega), size_insInnerN]
    · rw [insOuter_off lt _ _ _ _ hi]
theorem size_insertionN (lt : Nat → Nat → Bool) (d : Array Nat) (a b : Nat) : (Sort.insertionSort lt d a b).size = d.size := by
  unfold Sort.insertionSort
  exact size_insOuterN lt a b _ _ _ (Nat.le_refl _)

set_option maxHeartbeats 8000000 in
set_option maxRecDepth 1000000 in
theorem insertion_any (F : Nat → EntV) (cf : Nat → Nat → Int) (g : Nat) (cb : Array Value) (blk off cap a b : Nat) (d0 d : Array Nat) (w0 w : World) (eg : ∀ args w, (callFunc g args).run Try.prog w = .ok (.enter g args) w) (hcmp : CmpLays Try.prog g cb (encV F) 5 cf blk off d0.size w0) (R : RowK (encV F) 5 w0 blk off d0) (hs : d0.size = d.size) (S : SWK (encV F) 5 w0 blk off d w) (hab : a ≤ b) (hb : b ≤ d.size) (hsz : d.size ≤ 1000) :
    Calls Try.prog 120 #[.slice (some ⟨blk, off, none⟩) d.size cap, .int .i64 a, .int .i64 b, .func (.func g) #[] cb] w fun e w' => e = .returned (.tuple #[]) ∧ SWK (encV F) 5 w0 blk off (Sort.insertionSort (ltOf cf) d a b) w' := by
  have mixed : Try.prog.follows .mixedOrders = true := by kernel_rfl
  have HC : Aside _ := hcmp
  have S0 : Aside (SWK (encV F) 5 w0 blk off d w) := S
  have HD0 : Hid (d.size = d0.size) := Lib.hid hs.symm
  clear hcmp S hs
  go_enter Try.func120, Try.ntmps120
  go_wp2
  go_loopg [8] (b - a) (fun kx s wr => ∃ (i : Nat) (dk : Array Nat), s = .int .i64 i ∧ a < i ∧ i ≤ b + 1 ∧ b + 1 - i ≤ kx + 1 ∧ Hid (dk.size = d0.size) ∧ Aside (SWK (encV F) 5 w0 blk off dk wr) ∧ Hid (insOuter (ltOf cf) a b i dk = insOuter (ltOf cf) a b (a + 1) d))
  case atStart => exact ⟨a + 1, d, by go_num, by omega, by omega, by omega, HD0, S0, Lib.hid rfl⟩
  case round =>
    clear S0
    obtain ⟨i, dk, rfl, hai, hib, hkx, HDK, S1, HO⟩ := hrel
    by_cases hlt : i < b
    · have hltz : (i : Int) < (b : Int) := by omega
      go_wp2
      go_loopg [9] i (fun ky s wr2 => ∃ (j : Nat) (dj : Array Nat), s = .int .i64 j ∧ a ≤ j ∧ j ≤ i ∧ j ≤ ky ∧ Hid (dj.size = d0.size) ∧ Aside (SWK (encV F) 5 w0 blk off dj wr2) ∧ Hid (insInner (ltOf cf) a j dj = insInner (ltOf cf) a i dk))
      case atStart => exact ⟨i, dk, rfl, by omega, Nat.le_refl _, Nat.le_refl _, HDK, S1, Lib.hid rfl⟩
      case round =>
        clear S1
        obtain ⟨j, dj, rfl, haj, hji, hky, HDJ, S3, HI⟩ := hrel
        have OUT : Aside ((j ≤ a ∨ ltOf cf dj[j]! dj[j - 1]! = false) → Hid (insOuter (ltOf cf) a b (i + 1) dj = insOuter (ltOf cf) a b (a + 1) d)) := fun hs => Lib.hid (by
          rw [← HO.out, insOuter_on (ltOf cf) _ _ _ _ hlt, ← HI.out, insInner_stop _ _ _ _ hs])
        by_cases hja : a < j
        · have hjaz : (a : Int) < (j : Int) := by omega
          have hjad : decide ((j : Int) > (a : Int)) = true := decide_eq_true (by omega)
          obtain ⟨K, hK⟩ : ∃ K, K = j - 1 := ⟨_, rfl⟩
          have eK : (j : Int) - 1 = (K : Int) := by omega
          have hKv : wrap64 (K : Int) = (K : Int) := IntWalk.wrap64_in _ ⟨by omega, by omega⟩
          have HK := Lib.hid hK
          have hK1 : K < j := by omega
          clear hK
          cases hv : ltOf cf dj[j]! dj[K]! with
          | true =>
            have HIN : Hid (insInner (ltOf cf) a K (swp dj j K) = insInner (ltOf cf) a i dk) := Lib.hid (by
              rw [← HI.out, insInner_go (ltOf cf) a j dj hja (by rw [← HK.out]; exact hv), ← HK.out])
            clear HI OUT
            have ex : ((j : Nat) : Int).toNat = j := by omega
            have px : (0 : Int) ≤ ((j : Nat) : Int) := by omega
            have bdx : ((j : Nat) : Int) < (d.size : Int) := by omega
            have rx : IntKind.i64.wrap ((j : Nat) : Int) = ((j : Nat) : Int) := by rw [IntKind.wrap_i64]; omega
            have ey : ((K : Nat) : Int).toNat = K := by omega
            have py : (0 : Int) ≤ ((K : Nat) : Int) := by omega
            have bdy : ((K : Nat) : Int) < (d.size : Int) := by omega
            have ry : IntKind.i64.wrap ((K : Nat) : Int) = ((K : Nat) : Int) := by rw [IntKind.wrap_i64]; omega
            obtain ⟨vt, vm, vp, vA, vn, vc, vB, vk, vd, ev, c0, c1, c2, c3, c4⟩ := SWK.fiveH S3.out R HDJ.out j (by have := HDJ.out; have := HD0.out; omega)
            obtain ⟨ut, um, up, uA, un, uc, uB, uk, ud, eu, g0, g1, g2, g3, g4⟩ := SWK.fiveH S3.out R HDJ.out K (by have := HDJ.out; have := HD0.out; omega)
            have hc := S3.out.cmp HC.out HDJ.out dj[j]! dj[K]!
            rw [ev, eu] at hc
            have hd : decide (cf dj[j]! dj[K]! < 0) = true := hv
            generalize cf dj[j]! dj[K]! = cv at hc hd
            have hv2 : cv < 0 := by simpa using hd
            clear ev eu hv
            go_wp2_with fail
            go_quiet_grown (first | (go_at_fn g; refine Calls.grown_of (hc _ _)))
            have S4 : Aside (SWK (encV F) 5 w0 blk off dj (grow (wr.drewN nq) osq)) := S3.out.grown nq osq
            clear c0 c1 c2 c3 c4 g0 g1 g2 g3 g4 hc S3 hd hv2 ex px bdx rx ey py bdy ry
            generalize grow (wr.drewN nq) osq = w2 at S4 ⊢
            clear nq osq
            go_wp2
            have ex : ((j : Nat) : Int).toNat = j := by omega
            have px : (0 : Int) ≤ ((j : Nat) : Int) := by omega
            have bdx : ((j : Nat) : Int) < (d.size : Int) := by omega
            have rx : IntKind.i64.wrap ((j : Nat) : Int) = ((j : Nat) : Int) := by rw [IntKind.wrap_i64]; omega
            have ey : ((K : Nat) : Int).toNat = K := by omega
            have py : (0 : Int) ≤ ((K : Nat) : Int) := by omega
            have bdy : ((K : Nat) : Int) < (d.size : Int) := by omega
            have ry : IntKind.i64.wrap ((K : Nat) : Int) = ((K : Nat) : Int) := by rw [IntKind.wrap_i64]; omega
            obtain ⟨vt, vm, vp, vA, vn, vc, vB, vk, vd, ev, _, ⟨c0, c1, c2, c3, c4⟩, f0, f1, f2, f3, f4⟩ := SWK.five S4.out R HDJ.out j (by have := HDJ.out; have := HD0.out; omega)
            obtain ⟨ut, um, up, uA, un, uc, uB, uk, ud, eu, _, ⟨b0, b1, b2, b3, b4⟩, g0, g1, g2, g3, g4⟩ := SWK.five S4.out R HDJ.out K (by have := HDJ.out; have := HD0.out; omega)
            have S5 : Aside _ := SWK.swap5 S4.out R j K (by have := HDJ.out; have := HD0.out; omega) (by have := HDJ.out; have := HD0.out; omega) ev eu
            obtain ⟨w3, hw2⟩ : ∃ w3, w3 = World.drew (put5 (put5 w2 blk (off + j * 5) (.int .i64 ut) (.int .i64 um) (.int .i64 up) (.slice uA un uc) (.slice uB uk ud)) blk (off + K * 5) (.int .i64 vt) (.int .i64 vm) (.int .i64 vp) (.slice vA vn vc) (.slice vB vk vd)) := ⟨_, rfl⟩
            rw [← hw2] at S5
            unfold put5 at hw2
            have HW2 := Lib.hid hw2
            clear S4 ev eu hw2
            go_wp2_with fail
            go_big_region_o
            rw [← HW2.out]
            clear HW2 c0 c1 c2 c3 c4 f0 f1 f2 f3 f4 b0 b1 b2 b3 b4 g0 g1 g2 g3 g4
            go_wp2
            go_roundg K
            case measure => omega
            case rel => exact ⟨K, swp dj j K, by first | rfl | go_num, by omega, by omega, Nat.le_refl _, Lib.hid (by rw [size_swp]; exact HDJ.out), S5, HIN⟩
          | false =>
            have HIN := OUT.out (.inr (by rw [← HK.out]; exact hv))
            clear HI OUT
            have ex : ((j : Nat) : Int).toNat = j := by omega
            have px : (0 : Int) ≤ ((j : Nat) : Int) := by omega
            have bdx : ((j : Nat) : Int) < (d.size : Int) := by omega
            have rx : IntKind.i64.wrap ((j : Nat) : Int) = ((j : Nat) : Int) := by rw [IntKind.wrap_i64]; omega
            have ey : ((K : Nat) : Int).toNat = K := by omega
            have py : (0 : Int) ≤ ((K : Nat) : Int) := by omega
            have bdy : ((K : Nat) : Int) < (d.size : Int) := by omega
            have ry : IntKind.i64.wrap ((K : Nat) : Int) = ((K : Nat) : Int) := by rw [IntKind.wrap_i64]; omega
            obtain ⟨vt, vm, vp, vA, vn, vc, vB, vk, vd, ev, c0, c1, c2, c3, c4⟩ := SWK.fiveH S3.out R HDJ.out j (by have := HDJ.out; have := HD0.out; omega)
            obtain ⟨ut, um, up, uA, un, uc, uB, uk, ud, eu, g0, g1, g2, g3, g4⟩ := SWK.fiveH S3.out R HDJ.out K (by have := HDJ.out; have := HD0.out; omega)
            have hc := S3.out.cmp HC.out HDJ.out dj[j]! dj[K]!
            rw [ev, eu] at hc
            have hd : decide (cf dj[j]! dj[K]! < 0) = false := hv
            generalize cf dj[j]! dj[K]! = cv at hc hd
            have hv2 : ¬ cv < 0 := by simpa using hd
            clear ev eu hv
            go_wp2_with fail
            go_quiet_grown (first | (go_at_fn g; refine Calls.grown_of (hc _ _)))
            have S4 : Aside (SWK (encV F) 5 w0 blk off dj (grow (wr.drewN nq) osq)) := S3.out.grown nq osq
            clear c0 c1 c2 c3 c4 g0 g1 g2 g3 g4 hc S3 hd hv2 ex px bdx rx ey py bdy ry
            generalize grow (wr.drewN nq) osq = w2 at S4 ⊢
            clear nq osq
            go_wp2
            go_roundg (b - (i + 1))
            case measure => omega
            case rel => exact ⟨i + 1, dj, by go_num, by omega, by omega, by omega, HDJ, S4, HIN⟩
        · have hjad : decide ((j : Int) > (a : Int)) = false := decide_eq_false (by omega)
          have hjaz : ¬ (a : Int) < (j : Int) := by omega
          have HIN := OUT.out (.inl (by omega))
          have S4 : Aside (SWK (encV F) 5 w0 blk off dj wr.drew) := S3.out.drew
          clear HI OUT S3
          go_wp2_with fail
          go_big_region_o
          all_goals go_wp2
          go_roundg (b - (i + 1))
          case measure => omega
          case rel => exact ⟨i + 1, dj, by go_num, by omega, by omega, by omega, HDJ, S4, HIN⟩
    · have hltz : ¬ (i : Int) < (b : Int) := by omega
      go_wp2
      go_end0
      exact ⟨rfl, by unfold Sort.insertionSort; rw [← HO.out, insOuter_off (ltOf cf) _ _ _ _ hlt]; exact S1.out⟩

end Go.Proofs.Ytcjmlakmigfkfaa
