/- Lemmas and contracts of this claim, several texts in one: The library's stable sort at entries: insertionSortCmpFunc. The library's stable sort at entries: stableCmpFunc, SortStableFunc. Entries of the call's own, sorted by the library's stable sort; the closure of JoinLogs. The stable sort on entries of the call's own; JoinLogs of the implementation. JoinLogs of the implementation. No conditions. -/
import Derived.Sort.OwnSortedInts
import Derived.Test.YtcjmlakmigfkfaaZFilled8
import Derived.Test.YtcjmlakmigfkfaaStb5
import Derived.Test.YtcjmlakmigfkfaaZFilled4
namespace Go.Proofs.Ytcjmlakmigfkfaa
set_option linter.unusedSimpArgs false
set_option linter.unusedVariables false
open Go.Shelf Go.RowKit Go.Lib Go.Sort

theorem SWK.fiveH {F : Nat → EntV} {w0 W : World} {blk off : Nat} {dk d0 : Array Nat} (h : SWK (encV F) 5 w0 blk off dk W) (R : RowK (encV F) 5 w0 blk off d0) (hs : dk.size = d0.size) (i : Nat) (hi : i < dk.size) :
    ∃ t m p A3 n3 c3 A4 n4 c4, encV F dk[i]! = [.int .i64 t, .int .i64 m, .int .i64 p, .slice A3 n3 c3, .slice A4 n4 c4] ∧ (∀ n os, (grow (W.drewN n) os).cell? ⟨blk, off + i * 5, none⟩ = some (.int .i64 t)) ∧ (∀ n os, (grow (W.drewN n) os).cell? ⟨blk, off + i * 5 + 1, none⟩ = some (.int .i64 m)) ∧ (∀ n os, (grow (W.drewN n) os).cell? ⟨blk, off + i * 5 + 2, none⟩ = some (.int .i64 p)) ∧ (∀ n os, (grow (W.drewN n) os).cell? ⟨blk, off + i * 5 + 3, none⟩ = some (.slice A3 n3 c3)) ∧ (∀ n os, (grow (W.drewN n) os).cell? ⟨blk, off + i * 5 + 4, none⟩ = some (.slice A4 n4 c4)) := by
  have hH := fun n os => (h.grown n os).holds R.hblk R.hH hs
  exact ⟨_, _, _, _, _, _, _, _, _, rfl, fun n os => ((hH n os).cell (c := 0) hi (by omega)).1, fun n os => ((hH n os).cell (c := 1) hi (by omega)).1, fun n os => ((hH n os).cell (c := 2) hi (by omega)).1, fun n os => ((hH n os).cell (c := 3) hi (by omega)).1, fun n os => ((hH n os).cell (c := 4) hi (by omega)).1⟩
theorem size_insInnerN (lt : Nat → Nat → Bool) (a : Nat) : ∀ (j : Nat) (d : Array Nat), (insInner lt a j d).size = d.size := by
  intro j
  induction j with
  | zero => intro d; rw [insInner_stop _ _ _ _ (.inl (Nat.zero_le _))]
  | succ j ih =>
    intro d
    by_cases h : a < j + 1 ∧ lt d[j + 1]! d[j]! = true
    · rw [insInner_go _ _ _ _ h.1 (by simpa using h.2)]
      simp only [Nat.add_sub_cancel]
      rw [ih, size_swp]
    · rw [insInner_stop _ _ _ _ (by
        simp only [Nat.add_sub_cancel]
        by_cases h1 : a < j + 1
        · right; cases hh : lt d[j + 1]! d[j]! with
          | true => exact absurd ⟨h1, hh⟩ h
          | false => rfl
        · left; omega)]
theorem size_insOuterN (lt : Nat → Nat → Bool) (a b : Nat) : ∀ (k i : Nat) (d : Array Nat), b - i ≤ k → (insOuter lt a b i d).size = d.size := by
  intro k
  induction k with
  | zero => intro i d h; rw [insOuter_off lt _ _ _ _ (by omega)]
  | succ k ih =>
    intro i d h
    by_cases hi : i < b
    · rw [insOuter_on lt _ _ _ _ hi, ih _ _ (by omega), size_insInnerN]
    · rw [insOuter_off lt _ _ _ _ hi]
theorem size_insertionN (lt : Nat → Nat → Bool) (d : Array Nat) (a b : Nat) : (Sort.insertionSort lt d a b).size = d.size := by
  unfold Sort.insertionSort
  exact size_insOuterN lt a b _ _ _ (Nat.le_refl _)

set_option maxHeartbeats 8000000 in
set_option maxRecDepth 1000000 in
theorem insertion_any (F : Nat → EntV) (cf : Nat → Nat → Int) (g : Nat) (cb : Array Value) (blk off cap a b : Nat) (d0 d : Array Nat) (w0 w : World) (eg : ∀ args w, (callFunc g args).run Try.prog w = .ok (.enter g args) w) (hcmp : CmpLays Try.prog g cb (encV F) 5 cf blk off d0.size w0) (R : RowK (encV F) 5 w0 blk off d0) (hs : d0.size = d.size) (S : SWK (encV F) 5 w0 blk off d w) (hab : a ≤ b) (hb : b ≤ d.size) (hsz : d.size ≤ 1000) :
    Calls Try.prog 120 #[.slice (some ⟨blk, off, none⟩) d.size cap, .int .i64 a, .int .i64 b, .func (.func g) #[] cb] w fun e w' => e = .returned (.tuple #[]) ∧ SWK (encV F) 5 w0 blk off (Sort.insertionSort (ltOf cf) d a b) w' := by
  have mixed : Try.prog.follows .mixedOrders = true := by kernel_rfl
  have HC : Aside _ := hcmp
  have S0 : Aside (SWK (encV F) 5 w0 blk off d w) := S
  have HD0 : Hid (d.size = d0.size) := Lib.hid hs.symm
  clear hcmp S hs
  go_enter Try.func120, Try.ntmps120
  go_wp2
  go_loopg [8] (b - a) (fun kx s wr => ∃ (i : Nat) (dk : Array Nat), s = .int .i64 i ∧ a < i ∧ i ≤ b + 1 ∧ b + 1 - i ≤ kx + 1 ∧ Hid (dk.size = d0.size) ∧ Aside (SWK (encV F) 5 w0 blk off dk wr) ∧ Hid (insOuter (ltOf cf) a b i dk = insOuter (ltOf cf) a b (a + 1) d))
  case atStart => exact ⟨a + 1, d, by go_num, by omega, by omega, by omega, HD0, S0, Lib.hid rfl⟩
  case round =>
    clear S0
    obtain ⟨i, dk, rfl, hai, hib, hkx, HDK, S1, HO⟩ := hrel
    by_cases hlt : i < b
    · have hltz : (i : Int) < (b : Int) := by omega
      go_wp2
      go_loopg [9] i (fun ky s wr2 => ∃ (j : Nat) (dj : Array Nat), s = .int .i64 j ∧ a ≤ j ∧ j ≤ i ∧ j ≤ ky ∧ Hid (dj.size = d0.size) ∧ Aside (SWK (encV F) 5 w0 blk off dj wr2) ∧ Hid (insInner (ltOf cf) a j dj = insInner (ltOf cf) a i dk))
      case atStart => exact ⟨i, dk, rfl, by omega, Nat.le_refl _, Nat.le_refl _, HDK, S1, Lib.hid rfl⟩
      case round =>
        clear S1
        obtain ⟨j, dj, rfl, haj, hji, hky, HDJ, S3, HI⟩ := hrel
        have OUT : Aside ((j ≤ a ∨ ltOf cf dj[j]! dj[j - 1]! = false) → Hid (insOuter (ltOf cf) a b (i + 1) dj = insOuter (ltOf cf) a b (a + 1) d)) := fun hs => Lib.hid (by
          rw [← HO.out, insOuter_on (ltOf cf) _ _ _ _ hlt, ← HI.out, insInner_stop _ _ _ _ hs])
        by_cases hja : a < j
        · have hjaz : (a : Int) < (j : Int) := by omega
          have hjad : decide ((j : Int) > (a : Int)) = true := decide_eq_true (by omega)
          obtain ⟨K, hK⟩ : ∃ K, K = j - 1 := ⟨_, rfl⟩
          have eK : (j : Int) - 1 = (K : Int) := by omega
          have hKv : wrap64 (K : Int) = (K : Int) := IntWalk.wrap64_in _ ⟨by omega, by omega⟩
          have HK := Lib.hid hK
          have hK1 : K < j := by omega
          clear hK
          cases hv : ltOf cf dj[j]! dj[K]! with
          | true =>
            have HIN : Hid (insInner (ltOf cf) a K (swp dj j K) = insInner (ltOf cf) a i dk) := Lib.hid (by
              rw [← HI.out, insInner_go (ltOf cf) a j dj hja (by rw [← HK.out]; exact hv), ← HK.out])
            clear HI OUT
            have ex : ((j : Nat) : Int).toNat = j := by omega
            have px : (0 : Int) ≤ ((j : Nat) : Int) := by omega
            have bdx : ((j : Nat) : Int) < (d.size : Int) := by omega
            have rx : IntKind.i64.wrap ((j : Nat) : Int) = ((j : Nat) : Int) := by rw [IntKind.wrap_i64]; omega
            have ey : ((K : Nat) : Int).toNat = K := by omega
            have py : (0 : Int) ≤ ((K : Nat) : Int) := by omega
            have bdy : ((K : Nat) : Int) < (d.size : Int) := by omega
            have ry : IntKind.i64.wrap ((K : Nat) : Int) = ((K : Nat) : Int) := by rw [IntKind.wrap_i64]; omega
            obtain ⟨vt, vm, vp, vA, vn, vc, vB, vk, vd, ev, c0, c1, c2, c3, c4⟩ := SWK.fiveH S3.out R HDJ.out j (by have := HDJ.out; have := HD0.out; omega)
            obtain ⟨ut, um, up, uA, un, uc, uB, uk, ud, eu, g0, g1, g2, g3, g4⟩ := SWK.fiveH S3.out R HDJ.out K (by have := HDJ.out; have := HD0.out; omega)
            have hc := S3.out.cmp HC.out HDJ.out dj[j]! dj[K]!
            rw [ev, eu] at hc
            have hd : decide (cf dj[j]! dj[K]! < 0) = true := hv
            generalize cf dj[j]! dj[K]! = cv at hc hd
            have hv2 : cv < 0 := by simpa using hd
            clear ev eu hv
            go_wp2_with fail
            go_quiet_grown (first | (go_at_fn g; refine Calls.grown_of (hc _ _)))
            have S4 : Aside (SWK (encV F) 5 w0 blk off dj (grow (wr.drewN nq) osq)) := S3.out.grown nq osq
            clear c0 c1 c2 c3 c4 g0 g1 g2 g3 g4 hc S3 hd hv2 ex px bdx rx ey py bdy ry
            generalize grow (wr.drewN nq) osq = w2 at S4 ⊢
            clear nq osq
            go_wp2
            have ex : ((j : Nat) : Int).toNat = j := by omega
            have px : (0 : Int) ≤ ((j : Nat) : Int) := by omega
            have bdx : ((j : Nat) : Int) < (d.size : Int) := by omega
            have rx : IntKind.i64.wrap ((j : Nat) : Int) = ((j : Nat) : Int) := by rw [IntKind.wrap_i64]; omega
            have ey : ((K : Nat) : Int).toNat = K := by omega
            have py : (0 : Int) ≤ ((K : Nat) : Int) := by omega
            have bdy : ((K : Nat) : Int) < (d.size : Int) := by omega
            have ry : IntKind.i64.wrap ((K : Nat) : Int) = ((K : Nat) : Int) := by rw [IntKind.wrap_i64]; omega
            obtain ⟨vt, vm, vp, vA, vn, vc, vB, vk, vd, ev, _, ⟨c0, c1, c2, c3, c4⟩, f0, f1, f2, f3, f4⟩ := SWK.five S4.out R HDJ.out j (by have := HDJ.out; have := HD0.out; omega)
            obtain ⟨ut, um, up, uA, un, uc, uB, uk, ud, eu, _, ⟨b0, b1, b2, b3, b4⟩, g0, g1, g2, g3, g4⟩ := SWK.five S4.out R HDJ.out K (by have := HDJ.out; have := HD0.out; omega)
            have S5 : Aside _ := SWK.swap5 S4.out R j K (by have := HDJ.out; have := HD0.out; omega) (by have := HDJ.out; have := HD0.out; omega) ev eu
            obtain ⟨w3, hw2⟩ : ∃ w3, w3 = World.drew (put5 (put5 w2 blk (off + j * 5) (.int .i64 ut) (.int .i64 um) (.int .i64 up) (.slice uA un uc) (.slice uB uk ud)) blk (off + K * 5) (.int .i64 vt) (.int .i64 vm) (.int .i64 vp) (.slice vA vn vc) (.slice vB vk vd)) := ⟨_, rfl⟩
            rw [← hw2] at S5
            unfold put5 at hw2
            have HW2 := Lib.hid hw2
            clear S4 ev eu hw2
            go_wp2_with fail
            go_big_region_o
            rw [← HW2.out]
            clear HW2 c0 c1 c2 c3 c4 f0 f1 f2 f3 f4 b0 b1 b2 b3 b4 g0 g1 g2 g3 g4
            go_wp2
            go_roundg K
            case measure => omega
            case rel => exact ⟨K, swp dj j K, by first | rfl | go_num, by omega, by omega, Nat.le_refl _, Lib.hid (by rw [size_swp]; exact HDJ.out), S5, HIN⟩
          | false =>
            have HIN := OUT.out (.inr (by rw [← HK.out]; exact hv))
            clear HI OUT
            have ex : ((j : Nat) : Int).toNat = j := by omega
            have px : (0 : Int) ≤ ((j : Nat) : Int) := by omega
            have bdx : ((j : Nat) : Int) < (d.size : Int) := by omega
            have rx : IntKind.i64.wrap ((j : Nat) : Int) = ((j : Nat) : Int) := by rw [IntKind.wrap_i64]; omega
            have ey : ((K : Nat) : Int).toNat = K := by omega
            have py : (0 : Int) ≤ ((K : Nat) : Int) := by omega
            have bdy : ((K : Nat) : Int) < (d.size : Int) := by omega
            have ry : IntKind.i64.wrap ((K : Nat) : Int) = ((K : Nat) : Int) := by rw [IntKind.wrap_i64]; omega
            obtain ⟨vt, vm, vp, vA, vn, vc, vB, vk, vd, ev, c0, c1, c2, c3, c4⟩ := SWK.fiveH S3.out R HDJ.out j (by have := HDJ.out; have := HD0.out; omega)
            obtain ⟨ut, um, up, uA, un, uc, uB, uk, ud, eu, g0, g1, g2, g3, g4⟩ := SWK.fiveH S3.out R HDJ.out K (by have := HDJ.out; have := HD0.out; omega)
            have hc := S3.out.cmp HC.out HDJ.out dj[j]! dj[K]!
            rw [ev, eu] at hc
            have hd : decide (cf dj[j]! dj[K]! < 0) = false := hv
            generalize cf dj[j]! dj[K]! = cv at hc hd
            have hv2 : ¬ cv < 0 := by simpa using hd
            clear ev eu hv
            go_wp2_with fail
            go_quiet_grown (first | (go_at_fn g; refine Calls.grown_of (hc _ _)))
            have S4 : Aside (SWK (encV F) 5 w0 blk off dj (grow (wr.drewN nq) osq)) := S3.out.grown nq osq
            clear c0 c1 c2 c3 c4 g0 g1 g2 g3 g4 hc S3 hd hv2 ex px bdx rx ey py bdy ry
            generalize grow (wr.drewN nq) osq = w2 at S4 ⊢
            clear nq osq
            go_wp2
            go_roundg (b - (i + 1))
            case measure => omega
            case rel => exact ⟨i + 1, dj, by go_num, by omega, by omega, by omega, HDJ, S4, HIN⟩
        · have hjad : decide ((j : Int) > (a : Int)) = false := decide_eq_false (by omega)
          have hjaz : ¬ (a : Int) < (j : Int) := by omega
          have HIN := OUT.out (.inl (by omega))
          have S4 : Aside (SWK (encV F) 5 w0 blk off dj wr.drew) := S3.out.drew
          clear HI OUT S3
          go_wp2_with fail
          go_big_region_o
          all_goals go_wp2
          go_roundg (b - (i + 1))
          case measure => omega
          case rel => exact ⟨i + 1, dj, by go_num, by omega, by omega, by omega, HDJ, S4, HIN⟩
    · have hltz : ¬ (i : Int) < (b : Int) := by omega
      go_wp2
      go_end0
      exact ⟨rfl, by unfold Sort.insertionSort; rw [← HO.out, insOuter_off (ltOf cf) _ _ _ _ hlt]; exact S1.out⟩

end Go.Proofs.Ytcjmlakmigfkfaa

namespace Go.Proofs.Ytcjmlakmigfkfaa
set_option linter.unusedSimpArgs false
set_option linter.unusedVariables false
open Go.Shelf Go.RowKit Go.Lib Go.Sort

theorem insB_on {lt : Nat → Nat → Bool} {n f a : Nat} {d : Array Nat} (h : a + 20 ≤ n) : insB lt n (f + 1) a d = insB lt n f (a + 20) (insertionSort lt d a (a + 20)) := by rw [insB, if_pos h]
theorem insB_off {lt : Nat → Nat → Bool} {n f a : Nat} {d : Array Nat} (h : ¬ a + 20 ≤ n) : insB lt n (f + 1) a d = insertionSort lt d a n := by rw [insB, if_neg h]
theorem merB_on {lt : Nat → Nat → Bool} {n bs f a : Nat} {d : Array Nat} (h : a + 2 * bs ≤ n) : merB lt n bs (f + 1) a d = merB lt n bs f (a + 2 * bs) (symP lt n a (a + bs) (a + 2 * bs) d) := by rw [merB, if_pos h]
theorem merB_off {lt : Nat → Nat → Bool} {n bs f a : Nat} {d : Array Nat} (h : ¬ a + 2 * bs ≤ n) : merB lt n bs (f + 1) a d = if a + bs < n then symP lt n a (a + bs) n d else d := by rw [merB, if_neg h]
theorem merA_on {lt : Nat → Nat → Bool} {n f bs : Nat} {d : Array Nat} (h : bs < n) : merA lt n (f + 1) bs d = merA lt n f (2 * bs) (merB lt n bs (n + 4) 0 d) := by rw [merA, if_pos h]
theorem merA_off {lt : Nat → Nat → Bool} {n f bs : Nat} {d : Array Nat} (h : ¬ bs < n) : merA lt n f bs d = d := by
  cases f with
  | zero => rfl
  | succ f => rw [merA, if_neg h]

set_option maxHeartbeats 8000000 in
set_option maxRecDepth 1000000 in
theorem stable_any (F : Nat → EntV) (cf : Nat → Nat → Int) (g : Nat) (cb : Array Value) (blk off cap : Nat) (d0 d : Array Nat) (w0 w : World) (eg : ∀ args w, (callFunc g args).run Try.prog w = .ok (.enter g args) w) (hcmp : CmpLays Try.prog g cb (encV F) 5 cf blk off d0.size w0) (R : RowK (encV F) 5 w0 blk off d0) (hs : d0.size = d.size) (S : SWK (encV F) 5 w0 blk off d w) (hsz : d.size ≤ 1000) :
    Calls Try.prog 114 #[.slice (some ⟨blk, off, none⟩) d.size cap, .int .i64 d.size, .func (.func g) #[] cb] w fun e w' => e = .returned (.tuple #[]) ∧ SWK (encV F) 5 w0 blk off (stableP (ltOf cf) d.size d) w' := by
  have HC : Aside _ := hcmp
  have S0 : Aside (SWK (encV F) 5 w0 blk off d w) := S
  have HD0 : Hid (d.size = d0.size) := Lib.hid hs.symm
  have HSZ : Hid (d0.size ≤ 1000) := Lib.hid (by omega)
  clear hcmp S hs
  go_enter Try.func114, Try.ntmps114
  go_wp2
  go_loopg [7, 8] d.size (fun kx s t wr => ∃ (a B f : Nat) (dk : Array Nat), s = .int .i64 a ∧ t = .int .i64 B ∧ (B ≤ a + 20 ∧ a + 20 ≤ B) ∧ a ≤ d.size ∧ d.size + 4 ≤ f + a ∧ d.size - a ≤ kx ∧ Hid (dk.size = d0.size) ∧ Aside (SWK (encV F) 5 w0 blk off dk wr) ∧ Hid (insB (ltOf cf) d.size f a dk = insB (ltOf cf) d.size (d.size + 4) 0 d))
  case atStart => exact ⟨0, 20, d.size + 4, d, rfl, rfl, by omega, by omega, by omega, by omega, HD0, S0, Lib.hid rfl⟩
  case round =>
    clear S0
    obtain ⟨a, B, f, dk, rfl, rfl, ⟨hB1, hB2⟩, han, hfa, hkx, HDK, S1, HI⟩ := hrel
    obtain ⟨q, hq⟩ : ∃ q, f = q + 1 := ⟨f - 1, by omega⟩
    have HQ := Lib.hid hq
    have hqa : d.size + 4 ≤ q + 1 + a := by omega
    clear hq hfa
    by_cases hlt : B ≤ d.size
    · have hlz : (B : Int) ≤ (d.size : Int) := by omega
      have HN : Hid (insB (ltOf cf) d.size q B (insertionSort (ltOf cf) dk a B) = insB (ltOf cf) d.size (d.size + 4) 0 d) := Lib.hid (by
        have h1 := HI.out
        have h2 : a + 20 = B := by omega
        rw [HQ.out, insB_on (by omega), h2] at h1
        exact h1)
      clear HI
      obtain ⟨C2, hC2⟩ : ∃ C2, C2 = B + 20 := ⟨_, rfl⟩
      have eC : (B : Int) + 20 = (C2 : Int) := by omega
      have hC3 : C2 ≤ B + 20 ∧ B + 20 ≤ C2 := by omega
      clear hC2
      have C := insertion_any F cf g cb blk off cap a B d0 dk w0 wr eg HC.out R (HDK.out).symm S1.out (by omega) (by have := HDK.out; have := HD0.out; omega) (by have := HDK.out; have := HD0.out; omega)
      rw [show dk.size = d.size from HDK.out.trans HD0.out.symm] at C
      have HCL := Lib.hid C
      clear C
      go_wp2_with fail
      refine (HCL.out).mono ?_
      rintro e w2 ⟨rfl, hS⟩
      have S2 : Aside _ := hS
      clear hS HCL
      go_wp2
      go_roundg (d.size - B)
      case measure => omega
      case rel => exact ⟨B, C2, q, insertionSort (ltOf cf) dk a B, rfl, by first | rfl | go_num, hC3, by omega, by omega, Nat.le_refl _, Lib.hid (by rw [size_insertionN]; exact HDK.out), S2, HN⟩
    · have hlz : ¬ (B : Int) ≤ (d.size : Int) := by omega
      obtain ⟨d1, hd1⟩ : ∃ d1, d1 = insB (ltOf cf) d.size (d.size + 4) 0 d := ⟨_, rfl⟩
      have h1 : insertionSort (ltOf cf) dk a d.size = d1 := by rw [hd1, ← HI.out, HQ.out, insB_off (by omega)]
      have HE1 := Lib.hid h1
      have HE := Lib.hid hd1
      clear HI h1 hd1
      have C := insertion_any F cf g cb blk off cap a d.size d0 dk w0 wr eg HC.out R (HDK.out).symm S1.out (by omega) (by have := HDK.out; have := HD0.out; omega) (by have := HDK.out; have := HD0.out; omega)
      rw [show dk.size = d.size from HDK.out.trans HD0.out.symm] at C
      have HCL := Lib.hid C
      clear C
      go_wp2_with fail
      refine (HCL.out).mono ?_
      rintro e w2 ⟨rfl, hS⟩
      have S2 : Aside _ := hS
      clear hS HCL
      rw [HE1.out] at S2
      have HD1 : Hid (d1.size = d0.size) := Lib.hid (by rw [← HE1.out, size_insertionN]; exact HDK.out)
      clear HDK HE1 HQ hqa han hkx
      go_wp2
      go_loopg [6, 7, 8, 9] d.size (fun kx s t u v wr => ∃ (bs f : Nat) (dk : Array Nat), (∃ x y z : Value, t = x ∧ u = y ∧ v = z) ∧ s = .int .i64 bs ∧ 20 ≤ bs ∧ d.size + 24 ≤ f + bs ∧ d.size - bs ≤ kx ∧ Hid (dk.size = d0.size) ∧ Aside (SWK (encV F) 5 w0 blk off dk wr) ∧ Hid (merA (ltOf cf) d.size f bs dk = merA (ltOf cf) d.size (d.size + 4) 20 d1))
      case atStart => exact ⟨20, d.size + 4, d1, ⟨_, _, _, rfl, rfl, rfl⟩, rfl, by omega, by omega, by omega, HD1, S2, Lib.hid rfl⟩
      case round =>
        clear S2 HD1
        obtain ⟨bs, f, dk, ⟨x7, x8, x9, rfl, rfl, rfl⟩, rfl, hbs, hfb, hkx, HDK, S1, HA⟩ := hrel
        by_cases hbl : bs < d.size
        · have hbz : (bs : Int) < (d.size : Int) := by omega
          obtain ⟨p, hp⟩ : ∃ p, f = p + 1 := ⟨f - 1, by omega⟩
          have HP : Hid (merA (ltOf cf) d.size p (2 * bs) (merB (ltOf cf) d.size bs (d.size + 4) 0 dk) = merA (ltOf cf) d.size (d.size + 4) 20 d1) := Lib.hid (by
            have h1 := HA.out
            rw [hp, merA_on hbl] at h1
            exact h1)
          have hpb : d.size + 24 ≤ p + 1 + bs := by omega
          clear hp hfb HA
          obtain ⟨T, hT⟩ : ∃ T, T = 2 * bs := ⟨_, rfl⟩
          have eT : 2 * (bs : Int) = (T : Int) := by omega
          have eT2 : (bs : Int) * 2 = (T : Int) := by omega
          have hT1 : bs + bs ≤ T ∧ T ≤ bs + bs := by omega
          obtain ⟨hT2, hT3⟩ := hT1
          have HT := Lib.hid hT
          clear hT
          go_wp2
          go_loopg [7, 8] d.size (fun ky s t wr => ∃ (a B f : Nat) (dj : Array Nat), s = .int .i64 a ∧ t = .int .i64 B ∧ (B ≤ a + T ∧ a + T ≤ B) ∧ a ≤ d.size ∧ d.size + 4 ≤ f + a ∧ d.size - a ≤ ky ∧ Hid (dj.size = d0.size) ∧ Aside (SWK (encV F) 5 w0 blk off dj wr) ∧ Hid (merB (ltOf cf) d.size bs f a dj = merB (ltOf cf) d.size bs (d.size + 4) 0 dk))
          case atStart => exact ⟨0, T, d.size + 4, dk, rfl, by first | rfl | go_num, by omega, by omega, by omega, by omega, HDK, S1, Lib.hid rfl⟩
          case round =>
            clear S1
            obtain ⟨a, B, f, dj, rfl, rfl, ⟨hB1, hB2⟩, han, hfa, hky, HDJ, S3, HB⟩ := hrel
            obtain ⟨q, hq⟩ : ∃ q, f = q + 1 := ⟨f - 1, by omega⟩
            have HQ := Lib.hid hq
            have hqa : d.size + 4 ≤ q + 1 + a := by omega
            clear hq hfa
            obtain ⟨M, hM⟩ : ∃ M, M = a + bs := ⟨_, rfl⟩
            have eM : (a : Int) + (bs : Int) = (M : Int) := by omega
            have hM1 : M ≤ a + bs ∧ a + bs ≤ M := by omega
            obtain ⟨hM2, hM3⟩ := hM1
            have HM := Lib.hid hM
            clear hM
            by_cases hlt : B ≤ d.size
            · have hlz : (B : Int) ≤ (d.size : Int) := by omega
              have HN : Hid (merB (ltOf cf) d.size bs q B (symP (ltOf cf) d.size a M B dj) = merB (ltOf cf) d.size bs (d.size + 4) 0 dk) := Lib.hid (by
                have h1 := HB.out
                have h2 : a + 2 * bs = B := by have := HT.out; omega
                rw [HQ.out, merB_on (by omega), h2, ← HM.out] at h1
                exact h1)
              obtain ⟨C2, hC2⟩ : ∃ C2, C2 = B + T := ⟨_, rfl⟩
              have eC : (B : Int) + (T : Int) = (C2 : Int) := by omega
              have hC3 : C2 ≤ B + T ∧ B + T ≤ C2 := by omega
              clear hC2
              clear HB
              have C := symMerge_any F cf g cb blk off cap d0 w0 eg HC.out R HSZ.out d.size a M B dj wr HDJ.out.symm S3.out (by omega) (by omega) (by have := HDJ.out; have := HD0.out; omega) (by omega)
              rw [show dj.size = d.size from HDJ.out.trans HD0.out.symm] at C
              have HCL := Lib.hid C
              clear C
              go_wp2_with fail
              refine (HCL.out).mono ?_
              rintro e w2 ⟨rfl, hS⟩
              have S4 : Aside _ := hS
              clear hS HCL
              go_wp2
              go_roundg (d.size - B)
              case measure => omega
              case rel => exact ⟨B, C2, q, symP (ltOf cf) d.size a M B dj, rfl, by first | rfl | go_num, hC3, by omega, by omega, Nat.le_refl _, Lib.hid (by rw [size_symP]; exact HDJ.out), S4, HN⟩
            · have hlz : ¬ (B : Int) ≤ (d.size : Int) := by omega
              have hoff : ¬ a + 2 * bs ≤ d.size := by have := HT.out; omega
              by_cases hml : M < d.size
              · have hmz : (M : Int) < (d.size : Int) := by omega
                have HN : Hid (symP (ltOf cf) d.size a M d.size dj = merB (ltOf cf) d.size bs (d.size + 4) 0 dk) := Lib.hid (by
                  rw [← HB.out, HQ.out, merB_off hoff, ← HM.out, if_pos hml])
                clear HB hoff
                have C := symMerge_any F cf g cb blk off cap d0 w0 eg HC.out R HSZ.out d.size a M d.size dj wr HDJ.out.symm S3.out (by omega) (by omega) (by have := HDJ.out; have := HD0.out; omega) (by omega)
                rw [show dj.size = d.size from HDJ.out.trans HD0.out.symm] at C
                have HCL := Lib.hid C
                clear C
                go_wp2_with fail
                refine (HCL.out).mono ?_
                rintro e w2 ⟨rfl, hS⟩
                have S4 : Aside _ := hS
                clear hS HCL
                go_wp2
                go_roundg (d.size - T)
                case measure => omega
                case rel => exact ⟨T, p, symP (ltOf cf) d.size a M d.size dj, ⟨_, _, _, rfl, rfl, rfl⟩, by first | rfl | go_num, by omega, by omega, Nat.le_refl _, Lib.hid (by rw [size_symP]; exact HDJ.out), S4, Lib.hid (by rw [HN.out, HT.out]; exact HP.out)⟩
              · have hmz : ¬ (M : Int) < (d.size : Int) := by omega
                have HN : Hid (dj = merB (ltOf cf) d.size bs (d.size + 4) 0 dk) := Lib.hid (by
                  rw [← HB.out, HQ.out, merB_off hoff, ← HM.out, if_neg hml])
                clear HB hoff
                go_wp2
                go_roundg (d.size - T)
                case measure => omega
                case rel => exact ⟨T, p, dj, ⟨_, _, _, rfl, rfl, rfl⟩, by first | rfl | go_num, by omega, by omega, Nat.le_refl _, HDJ, S3, Lib.hid (by rw [HN.out, HT.out]; exact HP.out)⟩
        · have hbz : ¬ (bs : Int) < (d.size : Int) := by omega
          go_wp2
          go_end0
          refine ⟨rfl, ?_⟩
          have h1 := HA.out
          rw [merA_off hbl] at h1
          unfold stableP
          rw [← HE.out, ← h1]
          exact S1.out
theorem sortStable_any (F : Nat → EntV) (cf : Nat → Nat → Int) (g : Nat) (cb : Array Value) (blk off cap : Nat) (d : Array Nat) (w : World) (eg : ∀ args w, (callFunc g args).run Try.prog w = .ok (.enter g args) w) (hcmp : CmpLays Try.prog g cb (encV F) 5 cf blk off d.size w) (R : RowK (encV F) 5 w blk off d) (hsz : d.size ≤ 1000) :
    Calls Try.prog 102 #[.slice (some ⟨blk, off, none⟩) d.size cap, .func (.func g) #[] cb] w fun e w' => e = .returned (.tuple #[]) ∧ SWK (encV F) 5 w blk off (stableP (ltOf cf) d.size d) w' := by
  have C := stable_any F cf g cb blk off cap d d w w eg hcmp R rfl (SWK.start R.hH) hsz
  have HC := Lib.hid C
  clear C hcmp R
  go_enter Try.func102, Try.ntmps102
  go_wp2_with fail
  refine (HC.out).mono ?_
  rintro e w2 ⟨rfl, hS⟩
  have S2 := Lib.hid hS
  clear hS HC
  go_wp2
  go_end0
  exact ⟨rfl, S2.out⟩

end Go.Proofs.Ytcjmlakmigfkfaa

namespace Go.Proofs.Ytcjmlakmigfkfaa
set_option linter.unusedSimpArgs false
set_option linter.unusedVariables false
open Go.Sort Go.RowKit

def sgnT (a b : Int) : Int := if a < b then -1 else if b < a then 1 else 0
theorem isNaN_any (a : Int) (w : World) :
    Calls Try.prog 115 #[.int .i64 a] w fun e w' => e = .returned (.bool false) ∧ w = w' := by
  go_enter Try.func115, Try.ntmps115
  go_wp2
  go_ret
  exact ⟨ret_bool (by simp), rfl⟩
theorem cmpCompare_any (a b : Int) (w : World) :
    Calls Try.prog 104 #[.int .i64 a, .int .i64 b] w fun e w' => e = .returned (.int .i64 (sgnT a b)) ∧ w = w' := by
  by_cases h1 : a < b
  · have hs : sgnT a b = -1 := by simp [sgnT, h1]
    rw [hs]
    go_enter Try.func104, Try.ntmps104
    go_wp2_with (go_at_call 115; refine (isNaN_any _ _).mono ?_; rintro e w' ⟨rfl, rfl⟩)
    go_ret
    exact ⟨rfl, rfl⟩
  · by_cases h2 : b < a
    · have hs : sgnT a b = 1 := by simp [sgnT, h1, h2]
      rw [hs]
      go_enter Try.func104, Try.ntmps104
      go_wp2_with (go_at_call 115; refine (isNaN_any _ _).mono ?_; rintro e w' ⟨rfl, rfl⟩)
      go_ret
      exact ⟨rfl, rfl⟩
    · have hs : sgnT a b = 0 := by simp [sgnT, h1, h2]
      rw [hs]
      go_enter Try.func104, Try.ntmps104
      go_wp2_with (go_at_call 115; refine (isNaN_any _ _).mono ?_; rintro e w' ⟨rfl, rfl⟩)
      go_ret
      exact ⟨rfl, rfl⟩
theorem joinLogs1_enters : ∀ a W, Sem.run Try.prog (callFunc 103 a) W = .ok (.enter 103 a) W := fun _ _ => by kernel_rfl
theorem joinLogs1_any (t m p t' m' p' : Int) (A3 A4 B3 B4 : Option Addr) (n3 c3 n4 c4 k3 d3 k4 d4 : Nat) (W : World) :
    Calls Try.prog 103 #[.agg #[.int .i64 t, .int .i64 m, .int .i64 p, .slice A3 n3 c3, .slice A4 n4 c4], .agg #[.int .i64 t', .int .i64 m', .int .i64 p', .slice B3 k3 d3, .slice B4 k4 d4]] W fun e w' => e = .returned (.int .i64 (sgnT t t')) ∧ ∃ q os', w' = grow (W.drewN q) os' := by
  have C1 := Lib.hid (fun W' => cmpCompare_any t t' W')
  generalize sgnT t t' = r at *
  go_enter Try.func103, Try.ntmps103
  go_wp2_with (go_at_call 104; refine (C1.out _).mono ?_; rintro e w' ⟨rfl, rfl⟩)
  go_ret
  exact ⟨rfl, 0, _, by rw [alloc_eq_grow, alloc_eq_grow, grow_grow]; rfl⟩
def cfE (F : Nat → EntV) (x y : Nat) : Int := sgnT (F x).t (F y).t
theorem cfE_lt (F : Nat → EntV) (x y : Nat) : ltOf (cfE F) x y = decide ((F x).t < (F y).t) := by
  unfold ltOf cfE sgnT
  rw [decide_eq_decide]
  split
  · simp; assumption
  · split
    · simp; omega
    · simp; omega
theorem cmpLaysE (F : Nat → EntV) (blk off size : Nat) (w : World) : CmpLays Try.prog 103 #[] (encV F) 5 (cfE F) blk off size w :=
  fun _ _ _ _ x y => joinLogs1_any _ _ _ _ _ _ _ _ _ _ _ _ _ _ _ _ _ _ _
/-! A row behind the sort. -/
theorem grownBy_sortedV {w : World} {g n : Nat} {os : Array Obj} (d : Array Value) : w.grownBy (grow (putRow id (Sort.ahead w n) g 0 d) os) (some g) := by
  refine ⟨rfl, rfl, rfl, by simp, fun k hk hne => ?_⟩
  rw [heap_grow_old _ _ (by simpa using hk)]
  have : g ≠ k := fun e => hne (by rw [e])
  simp [putRow, mapBlock, Sort.ahead, Array.getElem?_modify, this]
theorem heap_sortedV {w : World} {g n : Nat} {os : Array Obj} {cur : Array Value} {e : TypeId} {fr : Nat × Nat} (d : Array Value) (hb : w.heap[g]? = some (.cells cur e fr)) :
    (grow (putRow id (Sort.ahead w n) g 0 d) os).heap[g]? = some (.cells (putCells id 0 d cur) e fr) := by
  have hg : g < w.heap.size := (Array.getElem?_eq_some_iff.1 hb).1
  rw [heap_grow_old _ _ (by simpa using hg)]
  simp [putRow, mapBlock, Sort.ahead, Array.getElem?_modify, hb, onCells]
theorem take_putCellsV (cur d : Array Value) (h : d.size ≤ cur.size) : (putCells id 0 d cur).toList.take d.size = d.toList := by
  apply List.ext_getElem?
  intro j
  by_cases hj : j < d.size
  · rw [List.getElem?_take_of_lt hj, Array.getElem?_toList]
    simp [putCells, hj, show j < cur.size by omega]
  · rw [List.getElem?_take_eq_none (by omega), List.getElem?_eq_none (by simp; omega)]
theorem ownsRow_sortedV {w : World} {base g cap n N : Nat} {e : TypeId} {os : Array Obj} {hs : List Value} (h : w.ownsRow base e 5 (.slice (some ⟨g, 0, none⟩) N cap) N hs) (d : Array Value) (hd : d.size = N * 5) :
    (grow (putRow id (Sort.ahead w n) g 0 d) os).ownsRow base e 5 (.slice (some ⟨g, 0, none⟩) N cap) N d.toList := by
  refine ⟨by simp [hd], ?_⟩
  rcases h.2 with ⟨hv, _⟩ | ⟨g', cap', cur, hv, hb, hc, h1, h2, h3, _⟩
  · simp at hv
  · simp only [Value.slice.injEq, Option.some.injEq, Addr.mk.injEq, and_true, true_and] at hv
    obtain ⟨rfl, rfl⟩ := hv
    exact .inr ⟨g, cap, _, rfl, hb, heap_sortedV _ hc, h1, h2, by simp [putCells, h3], by rw [← hd]; exact take_putCellsV cur d (by rw [hd, h3]; exact Nat.mul_le_mul_right 5 h1)⟩
theorem Own2.perm {w w' : World} {lo hi n c n' c' : Nat} {e ei : TypeId} {A A' : Option Addr} {cs cs' : List Cel} {hs hs' : List Value} (h : Own2 w lo hi e ei 5 A n c cs hs) (hh : hi ≤ w.heap.size) (f : Nat → Nat)
    (hg : w.grownBy w' (Value.slice A n c).ownBlock) (hr : w'.ownsRow lo e 5 (.slice A' n' c') n' hs') (hA : (Value.slice A' n' c').ownBlock = (Value.slice A n c).ownBlock) (hl : cs'.length = hs'.length)
    (h1 : ∀ j, j < hs'.length → hs'[j]? = hs[f j]?) (h2 : ∀ j, j < hs'.length → cs'[j]? = cs[f j]?) (hf : ∀ i j, i < hs'.length → j < hs'.length → f i = f j → i = j) : Own2 w' lo w'.heap.size e ei 5 A' n' c' cs' hs' := by
  have lt : ∀ {j : Nat} {u : Value}, hs'[j]? = some u → j < hs'.length := fun hu => (List.getElem?_eq_some_iff.1 hu).1
  have old : ∀ {j : Nat} {u : Value}, hs'[j]? = some u → hs[f j]? = some u := fun hu => by rw [← h1 _ (lt hu)]; exact hu
  have hsz := hg.size
  refine ⟨hr, hl, fun j u x hu hx => ?_, fun i j u v hij hu hv => ?_, fun j u hu => ?_, own_lt hr, fun j u hu q hq => ?_⟩
  · have hx' : cs[f j]? = some x := by rw [← h2 _ (lt hu)]; exact hx
    refine ownC_same (h.cell _ u x (old hu) hx') (fun q hq => ?_)
    have hb := h.bounds _ u (old hu) q hq
    refine hg.block q (by omega) (fun e' => ?_)
    rcases h.out _ u (old hu) with h3 | h3
    · rw [h3] at hq; cases hq
    · exact h3 (by rw [hq, e'])
  · exact h.apart _ _ u v (fun e' => hij (hf _ _ (lt hu) (lt hv) e')) (old hu) (old hv)
  · have := h.out _ u (old hu)
    rcases this with h3 | h3
    · exact .inl h3
    · exact .inr (by rw [hA]; exact h3)
  · have hb := h.bounds _ u (old hu) q hq
    exact ⟨hb.1, by omega⟩
/-- The headers of a row. -/
def hdrV (hs : List Value) (i : Nat) : EntV :=
  match hs[i * 5]?, hs[i * 5 + 1]?, hs[i * 5 + 2]?, hs[i * 5 + 3]?, hs[i * 5 + 4]? with
  | some (.int _ t), some (.int _ m), some (.int _ p), some (.slice A3 n3 c3), some (.slice A4 n4 c4) => ⟨t, m, p, A3, n3, c3, A4, n4, c4⟩
  | _, _, _, _, _ => ⟨0, 0, 0, none, 0, 0, none, 0, 0⟩
theorem hdrV_of {w : World} {lo hi n c : Nat} {A : Option Addr} {L : List EntryT} {hs : List Value} {e ei : TypeId} (h : Own2 w lo hi e ei 5 A n c (rowsE L) hs) {i : Nat} (hi : i < L.length) :
    (∀ j, j < 5 → hs[i * 5 + j]? = some ((encV (hdrV hs) i)[j]!)) ∧ (hdrV hs i).t = L[i].1 := by
  have hl : (rowsE L).length = hs.length := h.len
  have hL : (rowsE L).length = L.length * 5 := length_rowsE L
  have lt : ∀ j, j < 5 → i * 5 + j < hs.length := fun j hj => by omega
  have cell : ∀ j (hj : j < 5) x, (celEntry L[i])[j]? = some x → ownC w lo ei (hs[i * 5 + j]'(lt j hj)) x := fun j hj x hx => h.cell _ _ x (List.getElem?_eq_getElem (lt j hj)) (by rw [rowsE_get hi hj]; exact hx)
  have c0 : hs[i * 5 + 0]'(lt 0 (by omega)) = .int .i64 L[i].1 := cell 0 (by omega) _ rfl
  have c1 : hs[i * 5 + 1]'(lt 1 (by omega)) = .int .i64 L[i].2.1 := cell 1 (by omega) _ rfl
  have c2 : hs[i * 5 + 2]'(lt 2 (by omega)) = .int .i64 L[i].2.2.1 := cell 2 (by omega) _ rfl
  obtain ⟨A3, c3, e3, _⟩ : ∃ A3 c3, hs[i * 5 + 3]'(lt 3 (by omega)) = .slice A3 (ints L[i].2.2.2.1).length c3 ∧ _ := cell 3 (by omega) (.inr (ints L[i].2.2.2.1)) rfl
  obtain ⟨A4, c4, e4, _⟩ : ∃ A4 c4, hs[i * 5 + 4]'(lt 4 (by omega)) = .slice A4 (ints L[i].2.2.2.2).length c4 ∧ _ := cell 4 (by omega) (.inr (ints L[i].2.2.2.2)) rfl
  have g0 : hs[i * 5]? = some (.int .i64 L[i].1) := by rw [← c0]; exact List.getElem?_eq_getElem (lt 0 (by omega))
  have g1 : hs[i * 5 + 1]? = some (.int .i64 L[i].2.1) := by rw [← c1]; exact List.getElem?_eq_getElem (lt 1 (by omega))
  have g2 : hs[i * 5 + 2]? = some (.int .i64 L[i].2.2.1) := by rw [← c2]; exact List.getElem?_eq_getElem (lt 2 (by omega))
  have g3 : hs[i * 5 + 3]? = some (.slice A3 (ints L[i].2.2.2.1).length c3) := by rw [← e3]; exact List.getElem?_eq_getElem (lt 3 (by omega))
  have g4 : hs[i * 5 + 4]? = some (.slice A4 (ints L[i].2.2.2.2).length c4) := by rw [← e4]; exact List.getElem?_eq_getElem (lt 4 (by omega))
  have hv : hdrV hs i = ⟨L[i].1, L[i].2.1, L[i].2.2.1, A3, (ints L[i].2.2.2.1).length, c3, A4, (ints L[i].2.2.2.2).length, c4⟩ := by
    unfold hdrV
    rw [g0, g1, g2, g3, g4]
  refine ⟨fun j hj => ?_, by rw [hv]⟩
  unfold encV
  rw [hv]
  match j, hj with
  | 0, _ => exact g0
  | 1, _ => exact g1
  | 2, _ => exact g2
  | 3, _ => exact g3
  | 4, _ => exact g4
theorem merge_perm_range (na nb : Nat) (le : Nat → Nat → Bool) : (List.merge (List.range na) (List.range' na nb) le).Perm (List.range (na + nb)) := by
  have hr : List.range na ++ List.range' na nb = List.range (na + nb) := by
    rw [List.range_eq_range', List.range_eq_range']
    have := List.range'_append (s := 0) (m := na) (n := nb) (step := 1)
    simpa using this
  rw [← hr]
  exact List.merge_perm_append _
theorem stable_perm {L M : List EntryT} (hL : L.Pairwise ordE) (hM : M.Pairwise ordE) (hn : L.length + M.length ≤ 60) (lt : Nat → Nat → Bool) (hlt : ∀ x y, lt x y = decide (((L ++ M).getD x zE).1 < ((L ++ M).getD y zE).1)) :
    (stableP lt (L.length + M.length) (Array.range (L.length + M.length))).toList.Perm (List.range (L.length + M.length)) := by
  have gl : ∀ i (h : i < L.length), (L ++ M).getD i zE = L[i] := fun i h => by
    rw [List.getD_eq_getElem?_getD, List.getElem?_append_left h, List.getElem?_eq_getElem h]; rfl
  have gr : ∀ i (h : i < M.length), (L ++ M).getD (L.length + i) zE = M[i] := fun i h => by
    rw [List.getD_eq_getElem?_getD, List.getElem?_append_right (by omega), Nat.add_sub_cancel_left, List.getElem?_eq_getElem h]; rfl
  rw [stable_merge (fun i => ((L ++ M).getD i zE).1) lt L.length M.length hn ?_ ?_ hlt]
  · exact merge_perm_range _ _ _
  · intro i j hij hj
    simp only [gl i (by omega), gl j hj]
    exact ord_time hL hij hj
  · intro i j hi hij hj
    obtain ⟨i, rfl⟩ : ∃ q, i = L.length + q := ⟨i - L.length, by omega⟩
    obtain ⟨j, rfl⟩ : ∃ q, j = L.length + q := ⟨j - L.length, by omega⟩
    simp only [gr i (by omega), gr j (by omega)]
    exact ord_time hM (by omega) (by omega)
end Go.Proofs.Ytcjmlakmigfkfaa

namespace Go.Proofs.Ytcjmlakmigfkfaa
set_option linter.unusedSimpArgs false
set_option linter.unusedVariables false
open Go.Sort Go.RowKit

theorem hdr_time {w : World} {lo hi n c : Nat} {A : Option Addr} {L : List EntryT} {hs : List Value} {e ei : TypeId} (h : Own2 w lo hi e ei 5 A n c (rowsE L) hs) (x : Nat) : (hdrV hs x).t = (L.getD x zE).1 := by
  by_cases hx : x < L.length
  · rw [(hdrV_of h hx).2, List.getD_eq_getElem?_getD, List.getElem?_eq_getElem hx]
    rfl
  · have hl : (rowsE L).length = hs.length := h.len
    have hL : (rowsE L).length = L.length * 5 := length_rowsE L
    have h0 : hs[x * 5]? = none := List.getElem?_eq_none (by omega)
    rw [List.getD_eq_getElem?_getD, List.getElem?_eq_none (by omega)]
    unfold hdrV
    rw [h0]
    rfl
theorem getD_idx {l : List EntryT} {i : Nat} (h : i < l.length) : l.getD i zE = l[i] := by
  rw [List.getD_eq_getElem?_getD, List.getElem?_eq_getElem h]; rfl
set_option maxHeartbeats 1000000 in
theorem sortOwn_any {W : World} {lo blk c : Nat} {L M : List EntryT} {hs : List Value} (h : Own2 W lo W.heap.size 51 3 5 (some ⟨blk, 0, none⟩) (L.length + M.length) c (rowsE (L ++ M)) hs) (hblk : lo ≤ blk ∧ blk < W.heap.size) (hL : L.Pairwise ordE) (hM : M.Pairwise ordE) (hn : L.length + M.length ≤ 60) :
    Calls Try.prog 102 #[.slice (some ⟨blk, 0, none⟩) (L.length + M.length) c, .func (.func 103) #[] #[]] W fun e w' => e = .returned (.tuple #[]) ∧ ∃ hs', Own2 w' lo w'.heap.size 51 3 5 (some ⟨blk, 0, none⟩) (L.length + M.length) c (rowsE (joinE L M)) hs' ∧ Below lo W w' := by
  have hLM : (L ++ M).length = L.length + M.length := by simp
  obtain ⟨N, hN⟩ : ∃ N, N = L.length + M.length := ⟨_, rfl⟩
  have hF := fun i (hi : i < N) => (hdrV_of h (i := i) (by omega)).1
  have hlt : ∀ x y, ltOf (cfE (hdrV hs)) x y = decide (((L ++ M).getD x zE).1 < ((L ++ M).getD y zE).1) := fun x y => by rw [cfE_lt, hdr_time h, hdr_time h]
  have hJ := stable_join hL hM hn _ hlt
  have hP := stable_perm hL hM hn _ hlt
  rw [← hN] at h hJ hP hn ⊢
  have hfl : ∀ d : Array Nat, d.size = N → (∀ i, i < N → d[i]! < N) → ∀ t, t < N * 5 → (flatK (encV (hdrV hs)) 5 d)[t]! = (hs[d[t / 5]! * 5 + t % 5]?).getD default := fun d hd hdl t ht => by
    rw [get_flatK _ _ _ _ (by rw [hd]; exact ht)]
    have h5 := hF d[t / 5]! (hdl _ (by omega)) (t % 5) (by omega)
    rw [h5]
    rfl
  have hrg : ∀ i, i < N → (Array.range N)[i]! = i := fun i hi => by simp [hi]
  have hlen : hs.length = N * 5 := h.row.1
  have R : RowK (encV (hdrV hs)) 5 W blk 0 (Array.range N) := by
    refine ⟨fun _ => rfl, fun x v hv => ?_, fun t ht => ?_, hblk.2⟩
    · unfold encV at hv
      simp only [List.mem_cons, List.not_mem_nil, or_false] at hv
      rcases hv with rfl | rfl | rfl | rfl | rfl <;> rfl
    · rw [size_flatK, Array.size_range] at ht
      rw [hfl _ (by simp) (fun i hi => by rw [hrg i hi]; exact hi) t ht, hrg _ (by omega), Nat.zero_add, show t / 5 * 5 + t % 5 = t by omega]
      refine ⟨?_, h.row.frozenAt t⟩
      rw [h.row.cellAt t ht, List.getElem?_eq_getElem (by rw [hlen]; exact ht)]
      rfl
  have C := sortStable_any (hdrV hs) (cfE (hdrV hs)) 103 #[] blk 0 c (Array.range N) W joinLogs1_enters (cmpLaysE _ _ _ _ _) R (by simp; omega)
  simp only [Array.size_range] at C
  refine C.mono ?_
  rintro e w' ⟨rfl, m, os, rfl⟩
  refine ⟨rfl, ?_⟩
  generalize stableP (ltOf (cfE (hdrV hs))) N (Array.range N) = d at *
  have hd : d.size = N := by have := hP.length_eq; simpa using this
  have hdl : ∀ i, i < N → d[i]! < N := fun i hi => by
    have hm : d[i]! ∈ d.toList := by rw [getElem!_pos d i (by omega)]; simp
    have := hP.mem_iff.1 hm
    simpa using this
  have hinj : ∀ i j, i < N → j < N → d[i]! = d[j]! → i = j := fun i j hi hj e => by
    have hnd : d.toList.Nodup := hP.nodup_iff.2 List.nodup_range
    rw [getElem!_pos d i (by omega), getElem!_pos d j (by omega)] at e
    exact (List.getElem_inj (i := i) (j := j) (h₀ := by simpa [hd] using hi) (h₁ := by simpa [hd] using hj) hnd).1 (by simpa using e)
  have hw : sortWorldK (encV (hdrV hs)) 5 W blk 0 m d os = grow (putRow id (Sort.ahead W m) blk 0 (flatK (encV (hdrV hs)) 5 d)) os := rfl
  rw [hw]
  have hfs : (flatK (encV (hdrV hs)) 5 d).size = N * 5 := by rw [size_flatK, hd]
  have hrow := ownsRow_sortedV (n := m) (os := os) h.row (flatK (encV (hdrV hs)) 5 d) hfs
  have hgr := grownBy_sortedV (w := W) (g := blk) (n := m) (os := os) (flatK (encV (hdrV hs)) 5 d)
  have hjl : (joinE L M).length = N := by rw [joinE_len, hN]
  refine ⟨_, Own2.perm h (Nat.le_refl _) (fun j => d[j / 5]! * 5 + j % 5) hgr hrow rfl (by rw [length_rowsE, hjl]; simp [hfs]) (fun j hj => ?_) (fun j hj => ?_) (fun i j hi hj e => ?_), grown_below hgr (Nat.le_of_lt (Nat.lt_of_le_of_lt hblk.1 hblk.2)) (fun q hq => by injection hq with hq; subst hq; exact hblk.1)⟩
  · rw [Array.length_toList, hfs] at hj
    have h1 := hdl (j / 5) (by omega)
    have h2 := hfl d hd hdl j hj
    rw [List.getElem?_eq_getElem (l := hs) (by rw [hlen]; omega)] at h2 ⊢
    rw [Array.getElem?_toList, Array.getElem?_eq_getElem (by omega), ← getElem!_pos (flatK (encV (hdrV hs)) 5 d) j (by omega), h2]
    rfl
  · rw [Array.length_toList, hfs] at hj
    have h1 := hdl (j / 5) (by omega)
    have e1 := rowsE_get (L := joinE L M) (i := j / 5) (j := j % 5) (by rw [hjl]; omega) (by omega)
    have e2 := rowsE_get (L := L ++ M) (i := d[j / 5]!) (j := j % 5) (by omega) (by omega)
    rw [show j / 5 * 5 + j % 5 = j by omega] at e1
    rw [e1, e2]
    have e3 : (joinE L M)[j / 5]? = some ((L ++ M).getD d[j / 5]! zE) := by
      rw [← hJ, List.getElem?_map, Array.getElem?_toList, Array.getElem?_eq_getElem (by omega), getElem!_pos d (j / 5) (by omega)]
      rfl
    rw [List.getElem?_eq_getElem (by rw [hjl]; omega)] at e3
    injection e3 with e3
    rw [e3, getD_idx (by omega)]
  · rw [Array.length_toList, hfs] at hi hj
    have h1 := hdl (i / 5) (by omega)
    have h2 := hdl (j / 5) (by omega)
    have e : d[i / 5]! * 5 + i % 5 = d[j / 5]! * 5 + j % 5 := e
    have h3 := hinj (i / 5) (j / 5) (by omega) (by omega) (by omega)
    omega
end Go.Proofs.Ytcjmlakmigfkfaa

namespace Go.Proofs.Ytcjmlakmigfkfaa
set_option linter.unusedSimpArgs false
set_option linter.unusedVariables false
open Go.RowKit

theorem checkedLog_any (A : Option Addr) (n c : Nat) (L : List EntryT) (b : Bool) (w : World) (hn : n ≤ 1000000000) (hnc : n ≤ c) (hl : ∀ x ∈ L, lenE 1000000000 x) (h : Reads2 w 5 A n (rowsE L)) (hg : goodE L = b) :
    Calls Try.prog 105 #[.slice A n c] w fun e w' => e = .returned (.tuple #[if b = true then .slice A n c else .slice none 0 0, .bool b]) ∧ Below w.heap.size w w' := by
  have c1 := isLog_any A n c L w hn hnc hl h
  rw [hg] at c1
  have C1 := Lib.hid c1
  clear c1 h hl hg
  cases b with
  | true =>
    go_enter Try.func105, Try.ntmps105
    go_wp2_with (go_at_call 33; refine (C1.out).mono ?_; rintro e w1 ⟨rfl, hb1⟩; have HB1 := Lib.hid hb1; clear hb1)
    go_ret2
    exact ⟨rfl, HB1.out⟩
  | false =>
    go_enter Try.func105, Try.ntmps105
    go_wp2_with (go_at_call 33; refine (C1.out).mono ?_; rintro e w1 ⟨rfl, hb1⟩; have HB1 := Lib.hid hb1; clear hb1)
    go_ret2
    exact ⟨rfl, HB1.out⟩

set_option maxHeartbeats 4000000 in
set_option maxRecDepth 100000 in
theorem implJoinLogs_any (A : Option Addr) (n c : Nat) (L : List EntryT) (B : Option Addr) (m d : Nat) (M : List EntryT) (w : World) (hn : n ≤ 1000000000) (hl : ∀ x ∈ L, lenE 1000000000 x) (h : Reads2 w 5 A n (rowsE L)) (hc : n ≤ c) (hm : m ≤ 1000000000) (hl' : ∀ x ∈ M, lenE 1000000000 x) (h' : Reads2 w 5 B m (rowsE M)) (hd : m ≤ d) :
    Calls Try.prog 78 #[.slice A n c, .slice B m d] w (Made4 w 51 3 5 (joinLR L M).1.length (rowsE (joinLR L M).1) (joinLR L M).2) := by
  have HX := Lib.hid (show L.length = n by have := h.len; rw [length_rowsE] at this; omega)
  have HY := Lib.hid (show M.length = m by have := h'.len; rw [length_rowsE] at this; omega)
  have c1 := fun W (hW : Below w.heap.size w W) => isLog_any A n c L W hn hc hl (h.below hW)
  have c2 := fun W (hW : Below w.heap.size w W) => isLog_any B m d M W hm hd hl' (h'.below hW)
  cases hgL : goodE L with
  | false =>
    have hr : joinLR L M = ([], false) := by simp [joinLR, hgL]
    rw [hr]
    simp only [hgL] at c1
    have C1 := Lib.hid c1
    clear c1 c2 hr h h' hl hl' hgL
    go_enter Try.func78, Try.ntmps78
    go_wp2_with (go_at_call 33; refine (C1.out _ (Below.refl _ _)).mono ?_; rintro e w1 ⟨rfl, hb1⟩; have HB1 := Lib.hid hb1; clear hb1)
    go_ret2
    exact ⟨none, 0, [], rfl, own2_nil _ _, HB1.out⟩
  | true =>
    cases hgM : goodE M with
    | false =>
      have hr : joinLR L M = ([], false) := by simp [joinLR, hgM]
      rw [hr]
      simp only [hgL] at c1
      simp only [hgM] at c2
      have C1 := Lib.hid c1
      have C2 := Lib.hid c2
      clear c1 c2 hr h h' hl hl' hgL hgM
      go_enter Try.func78, Try.ntmps78
      go_wp2_with fail
      refine (C1.out _ (Below.refl _ _)).mono ?_
      rintro e w1 ⟨rfl, hb1⟩
      have HB1 := Lib.hid hb1
      clear hb1
      go_wp2_with fail
      refine (C2.out _ HB1.out).mono ?_
      rintro e w2 ⟨rfl, hb2⟩
      have HB2 := Lib.hid (HB1.out.trans (hb2.mono HB1.out.size))
      clear hb2
      go_wp2
      go_ret2
      exact ⟨none, 0, [], rfl, own2_nil _ _, HB2.out⟩
    | true =>
      have hr : joinLR L M = ifR (joinE L M) := by simp [joinLR, hgM, hgL, ifR]
      simp only [hgL] at c1
      simp only [hgM] at c2
      have C1 := Lib.hid c1
      have C2 := Lib.hid c2
      have hn30 : n ≤ 30 := by rw [← HX.out]; exact (goodE_all hgL).2
      have hm30 : m ≤ 30 := by rw [← HY.out]; exact (goodE_all hgM).2
      have HLJ : Hid (∀ x ∈ joinE L M, lenE 1000000000 x) := Lib.hid (fun x hx => by rcases joinE_mem.1 hx with hx | hx; exact hl x hx; exact hl' x hx)
      have HLN : Hid ((joinE L M).length = n + m) := Lib.hid (by rw [joinE_len, HX.out, HY.out])
      have HOL := Lib.hid (goodE_ord hgL)
      have HOM := Lib.hid (goodE_ord hgM)
      have H := Lib.hid h
      have H' := Lib.hid h'
      have HL := Lib.hid hl
      have HL' := Lib.hid hl'
      clear c1 c2 h h' hl hl' hgL hgM
      cases hgJ : goodE (joinE L M) with
      | true =>
        have HGJ := Lib.hid hgJ
        have e : ifR (joinE L M) = (joinE L M, true) := by simp [ifR, hgJ]
        rw [hr, e]
        simp only [HLN.out]
        clear hgJ e hr
        go_enter Try.func78, Try.ntmps78
        go_wp2_with fail
        refine (C1.out _ (Below.refl _ _)).mono ?_
        rintro e w1 ⟨rfl, hb1⟩
        have HB1 := Lib.hid hb1
        clear hb1
        go_wp2_with fail
        refine (C2.out _ HB1.out).mono ?_
        rintro e w2 ⟨rfl, hb2⟩
        have HB2 := Lib.hid (HB1.out.trans (hb2.mono HB1.out.size))
        clear hb2 HB1 C1 C2
        go_wp2_with fail
        refine (cloneLog_any A n c L w2 hn HL.out (H.out.below HB2.out)).mono ?_
        rintro e w3 ⟨g1, c3, hs1, rfl, ho1, hb3⟩
        have HO1 := Lib.hid ho1
        have HB3 := Lib.hid hb3
        have HBA := Lib.hid (HB2.out.trans (hb3.mono HB2.out.size))
        clear ho1 hb3
        go_wp2_with fail
        refine (cloneLog_any B m d M w3 hm HL'.out (H'.out.below HBA.out)).mono ?_
        rintro e w4 ⟨g2, c4, hs2, rfl, ho2, hb4⟩
        have HO2 := Lib.hid ho2
        have HO1b := Lib.hid (HO1.out.below hb4 (Nat.le_refl _))
        have HB4 := Lib.hid hb4
        have HBC := Lib.hid (HBA.out.trans (hb4.mono HBA.out.size))
        have HZ : Hid (w2.heap.size ≤ w3.heap.size ∧ w3.heap.size ≤ w4.heap.size) := Lib.hid ⟨HB3.out.size, hb4.size⟩
        have HON := Lib.hid (one_hsE ho2.len (fun j u x hu hx => readsC_of_own (ho2.cell j u x hu hx)))
        clear ho2 hb4
        go_wp2_with (at_builtin; refine wpList_pushL _ rfl (.tmp 16) (.tmp 18) 27 rfl w2.heap.size 51 _ 5 72 infoEntry rfl (by omega) Try.underlying27 (some ⟨g1, 0, none⟩) n c3 hs1 rfl HO1b.out.row (some ⟨g2, 0, none⟩) m c4 hs2 rfl (Reads.of_own HO2.out.row) HON.out (by omega) (by omega) (by have := HZ.out; omega) ?_; intro O2 o2 w5 hown5 hg5 hb5 hloc5)
        have ho5 := HO1b.out.push (xs := rowsE M) hg5 hown5 hloc5 HZ.out.2 HO2.out.len (fun j u x hu hx => ownC_mono (HO2.out.cell j u x hu hx) HZ.out.1) (fun j u hu q hq => by have := HO2.out.bounds j u hu q hq; exact ⟨by have := HZ.out.1; omega, this.1, this.2⟩) HO2.out.apart
        obtain ⟨blk, hblk, hO2⟩ : ∃ blk, (w2.heap.size ≤ blk ∧ blk < w5.heap.size) ∧ O2 = some ⟨blk, 0, none⟩ := by
          rcases hown5.2 with ⟨hv, _⟩ | ⟨g, cap, cur, hv, hb, hc, _⟩
          · exfalso
            rw [hv] at hloc5
            rcases hloc5 with e | e <;> cases e
          · injection hv with hv _ _
            exact ⟨g, ⟨hb, (Array.getElem?_eq_some_iff.1 hc).1⟩, hv⟩
        subst hO2
        have e1 : rowsE L ++ rowsE M = rowsE (L ++ M) := by simp [rowsE]
        rw [e1] at ho5
        have HBE := Lib.hid (HBC.out.trans (hb5.mono HB2.out.size))
        have C5 := sortOwn_any (L := L) (M := M) (by rw [HX.out, HY.out]; exact ho5) hblk HOL.out HOM.out (by rw [HX.out, HY.out]; omega)
        rw [HX.out, HY.out] at C5
        have HC5 := Lib.hid C5
        have HLB := Lib.hid hblk.1
        clear C5 ho5 hblk e1 hown5 hg5 hb5 hloc5 HO1 HO1b HO2 HON
        refine (HC5.out).mono ?_
        rintro e w6 ⟨rfl, hs6, ho6, hb6⟩
        have HO6 := Lib.hid ho6
        have HBF := Lib.hid (HBE.out.trans (hb6.mono HB2.out.size))
        have C7 := checkedLog_any (some ⟨blk, 0, none⟩) (n + m) o2 (joinE L M) _ w6 (by omega) (own_cap ho6.row) HLJ.out (Reads2.of_own ho6) HGJ.out
        have HC7 := Lib.hid C7
        clear C7 ho6 hb6 HC5
        go_wp2_with fail
        refine (HC7.out).mono ?_
        rintro e w7 ⟨rfl, hb7⟩
        have HB7 := Lib.hid hb7
        clear hb7
        go_wp2
        go_ret2
        exact ⟨_, _, hs6, rfl, ((HO6.out.below HB7.out (Nat.le_refl _)).mono_hi HB7.out.size).mono_lo HB2.out.size, HBF.out.trans (HB7.out.mono HBF.out.size)⟩
      | false =>
        have HGJ := Lib.hid hgJ
        have e : ifR (joinE L M) = ([], false) := by simp [ifR, hgJ]
        rw [hr, e]
        clear hgJ e hr
        go_enter Try.func78, Try.ntmps78
        go_wp2_with fail
        refine (C1.out _ (Below.refl _ _)).mono ?_
        rintro e w1 ⟨rfl, hb1⟩
        have HB1 := Lib.hid hb1
        clear hb1
        go_wp2_with fail
        refine (C2.out _ HB1.out).mono ?_
        rintro e w2 ⟨rfl, hb2⟩
        have HB2 := Lib.hid (HB1.out.trans (hb2.mono HB1.out.size))
        clear hb2 HB1 C1 C2
        go_wp2_with fail
        refine (cloneLog_any A n c L w2 hn HL.out (H.out.below HB2.out)).mono ?_
        rintro e w3 ⟨g1, c3, hs1, rfl, ho1, hb3⟩
        have HO1 := Lib.hid ho1
        have HB3 := Lib.hid hb3
        have HBA := Lib.hid (HB2.out.trans (hb3.mono HB2.out.size))
        clear ho1 hb3
        go_wp2_with fail
        refine (cloneLog_any B m d M w3 hm HL'.out (H'.out.below HBA.out)).mono ?_
        rintro e w4 ⟨g2, c4, hs2, rfl, ho2, hb4⟩
        have HO2 := Lib.hid ho2
        have HO1b := Lib.hid (HO1.out.below hb4 (Nat.le_refl _))
        have HB4 := Lib.hid hb4
        have HBC := Lib.hid (HBA.out.trans (hb4.mono HBA.out.size))
        have HZ : Hid (w2.heap.size ≤ w3.heap.size ∧ w3.heap.size ≤ w4.heap.size) := Lib.hid ⟨HB3.out.size, hb4.size⟩
        have HON := Lib.hid (one_hsE ho2.len (fun j u x hu hx => readsC_of_own (ho2.cell j u x hu hx)))
        clear ho2 hb4
        go_wp2_with (at_builtin; refine wpList_pushL _ rfl (.tmp 16) (.tmp 18) 27 rfl w2.heap.size 51 _ 5 72 infoEntry rfl (by omega) Try.underlying27 (some ⟨g1, 0, none⟩) n c3 hs1 rfl HO1b.out.row (some ⟨g2, 0, none⟩) m c4 hs2 rfl (Reads.of_own HO2.out.row) HON.out (by omega) (by omega) (by have := HZ.out; omega) ?_; intro O2 o2 w5 hown5 hg5 hb5 hloc5)
        have ho5 := HO1b.out.push (xs := rowsE M) hg5 hown5 hloc5 HZ.out.2 HO2.out.len (fun j u x hu hx => ownC_mono (HO2.out.cell j u x hu hx) HZ.out.1) (fun j u hu q hq => by have := HO2.out.bounds j u hu q hq; exact ⟨by have := HZ.out.1; omega, this.1, this.2⟩) HO2.out.apart
        obtain ⟨blk, hblk, hO2⟩ : ∃ blk, (w2.heap.size ≤ blk ∧ blk < w5.heap.size) ∧ O2 = some ⟨blk, 0, none⟩ := by
          rcases hown5.2 with ⟨hv, _⟩ | ⟨g, cap, cur, hv, hb, hc, _⟩
          · exfalso
            rw [hv] at hloc5
            rcases hloc5 with e | e <;> cases e
          · injection hv with hv _ _
            exact ⟨g, ⟨hb, (Array.getElem?_eq_some_iff.1 hc).1⟩, hv⟩
        subst hO2
        have e1 : rowsE L ++ rowsE M = rowsE (L ++ M) := by simp [rowsE]
        rw [e1] at ho5
        have HBE := Lib.hid (HBC.out.trans (hb5.mono HB2.out.size))
        have C5 := sortOwn_any (L := L) (M := M) (by rw [HX.out, HY.out]; exact ho5) hblk HOL.out HOM.out (by rw [HX.out, HY.out]; omega)
        rw [HX.out, HY.out] at C5
        have HC5 := Lib.hid C5
        have HLB := Lib.hid hblk.1
        clear C5 ho5 hblk e1 hown5 hg5 hb5 hloc5 HO1 HO1b HO2 HON
        refine (HC5.out).mono ?_
        rintro e w6 ⟨rfl, hs6, ho6, hb6⟩
        have HO6 := Lib.hid ho6
        have HBF := Lib.hid (HBE.out.trans (hb6.mono HB2.out.size))
        have C7 := checkedLog_any (some ⟨blk, 0, none⟩) (n + m) o2 (joinE L M) _ w6 (by omega) (own_cap ho6.row) HLJ.out (Reads2.of_own ho6) HGJ.out
        have HC7 := Lib.hid C7
        clear C7 ho6 hb6 HC5
        go_wp2_with fail
        refine (HC7.out).mono ?_
        rintro e w7 ⟨rfl, hb7⟩
        have HB7 := Lib.hid hb7
        clear hb7
        go_wp2
        go_ret2
        exact ⟨none, 0, [], rfl, own2_nil _ _, HBF.out.trans (HB7.out.mono HBF.out.size)⟩

end Go.Proofs.Ytcjmlakmigfkfaa
