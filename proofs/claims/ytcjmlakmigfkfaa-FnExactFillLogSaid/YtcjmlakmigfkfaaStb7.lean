/- The library's stable sort at entries: stableCmpFunc, SortStableFunc. No conditions. -/
import Derived.Test.YtcjmlakmigfkfaaStb5
import Derived.Test.YtcjmlakmigfkfaaStb6
namespace Go.Proofs.Ytcjmlakmigfkfaa
set_option linter.unusedSimpArgs false
set_option linter.unusedVariables false
open Go.Shelf Go.RowKit Go.Lib Go.Sort

theorem insB_on {lt : Nat → Nat → Bool} {n f a : Nat} {d : Array Nat} (h : a + 20 ≤ n) : insB lt n (f + 1) a d = insB lt n f (a + 20) (insertionSort lt d a (a + 20)) := by rw [insB, if_pos h]
theorem insB_off {lt : Nat → Nat → Bool} {n f a : Nat} {d : Array Nat} (h : ¬ a + 20 ≤ n) : insB lt n (f + 1) a d = insertionSort lt d a n := by rw [insB, if_neg h]
theorem merB_on {lt : Nat → Nat → Bool} {n bs f a : Nat} {d : Array Nat} (h : a + 2 * bs ≤ n) : merB lt n bs (f + 1) a d = merB lt n bs f (a + 2 * bs) (symP lt n a (a + bs) (a + 2 * bs) d) := by rw [merB, if_pos h]
theorem merB_off {lt : Nat → Nat → Bool} {n bs f a : Nat} {d : Array Nat} (h : ¬ a + 2 * bs ≤ n) : merB lt n bs (f + 1) a d = if a + bs < n then symP lt n a (a + bs) n d else d := by rw [merB, if_neg h]
theorem merA_on {lt : Nat → Nat → Bool} {n f bs : Nat} {d : Array Nat} (h : bs < n) : merA lt n (f + 1) bs d = merA lt n f (2 * bs) (merB lt n bs (n + 4) 0 d) := by rw [merA, if_pos h]
theorem merA_off {lt : Nat → Nat → Bool} {n f bs : Nat} {d : Array Nat} (h : ¬ bs < n) : merA lt n f bs d = d := by
  cases f with
  | zero => rfl
  | succ f => rw [merA, if_neg h]

set_option maxHeartbeats 8000000 in
set_option maxRecDepth 1000000 in
theorem stable_any (F : Nat → EntV) (cf : Nat → Nat → Int) (g : Nat) (cb : Array Value) (blk off cap : Nat) (d0 d : Array Nat) (w0 w : World) (eg : ∀ args w, (callFunc g args).run Try.prog w = .ok (.enter g args) w) (hcmp : CmpLays Try.prog g cb (encV F) 5 cf blk off d0.size w0) (R : RowK (encV F) 5 w0 blk off d0) (hs : d0.size = d.size) (S : SWK (encV F) 5 w0 blk off d w) (hsz : d.size ≤ 1000) :
    Calls Try.prog 114 #[.slice (some ⟨blk, off, none⟩) d.size cap, .int .i64 d.size, .func (.func g) #[] cb] w fun e w' => e = .returned (.tuple #[]) ∧ SWK (encV F) 5 w0 blk off (stableP (ltOf cf) d.size d) w' := by
  have HC : Aside _ := hcmp
  have S0 : Aside (SWK (encV F) 5 w0 blk off d w) := S
  have HD0 : Hid (d.size = d0.size) := Lib.hid hs.symm
  have HSZ : Hid (d0.size ≤ 1000) := Lib.hid (by omega)
  clear hcmp S hs
  go_enter Try.func114, Try.ntmps114
  go_wp2
  go_loopg [7, 8] d.size (fun kx s t wr => ∃ (a B f : Nat) (dk : Array Nat), s = .int .i64 a ∧ t = .int .i64 B ∧ (B ≤ a + 20 ∧ a + 20 ≤ B) ∧ a ≤ d.size ∧ d.size + 4 ≤ f + a ∧ d.size - a ≤ kx ∧ Hid (dk.size = d0.size) ∧ Aside (SWK (encV F) 5 w0 blk off dk wr) ∧ Hid (insB (ltOf cf) d.size f a dk = insB (ltOf cf) d.size (d.size + 4) 0 d))
  case atStart => exact ⟨0, 20, d.size + 4, d, rfl, rfl, by omega, by omega, by omega, by omega, HD0, S0, Lib.hid rfl⟩
  case round =>
    clear S0
    obtain ⟨a, B, f, dk, rfl, rfl, ⟨hB1, hB2⟩, han, hfa, hkx, HDK, S1, HI⟩ := hrel
    obtain ⟨q, hq⟩ : ∃ q, f = q + 1 := ⟨f - 1, by omega⟩
    have HQ := Lib.hid hq
    have hqa : d.size + 4 ≤ q + 1 + a := by omega
    clear hq hfa
    by_cases hlt : B ≤ d.size
    · have hlz : (B : Int) ≤ (d.size : Int) := by omega
      have HN : Hid (insB (ltOf cf) d.size q B (insertionSort (ltOf cf) dk a B) = insB (ltOf cf) d.size (d.size + 4) 0 d) := Lib.hid (by
        have h1 := HI.out
        have h2 : a + 20 = B := by omega
        rw [HQ.out, insB_on (by omega), h2] at h1
        exact h1)
      clear HI
      obtain ⟨C2, hC2⟩ : ∃ C2, C2 = B + 20 := ⟨_, rfl⟩
      have eC : (B : Int) + 20 = (C2 : Int) := by omega
      have hC3 : C2 ≤ B + 20 ∧ B + 20 ≤ C2 := by omega
      clear hC2
      have C := insertion_any F cf g cb blk off cap a B d0 dk w0 wr eg HC.out R (HDK.out).symm S1.out (by omega) (by have := HDK.out; have := HD0.out; omega) (by have := HDK.out; have := HD0.out; omega)
      rw [show dk.size = d.size from HDK.out.trans HD0.out.symm] at C
      have HCL := Lib.hid C
      clear C
      go_wp2_with fail
      refine (HCL.out).mono ?_
      rintro e w2 ⟨rfl, hS⟩
      have S2 : Aside _ := hS
      clear hS HCL
      go_wp2
      go_roundg (d.size - B)
      case measure => omega
      case rel => exact ⟨B, C2, q, insertionSort (ltOf cf) dk a B, rfl, by first | rfl | go_num, hC3, by omega, by omega, Nat.le_refl _, Lib.hid (by rw [size_insertionN]; exact HDK.out), S2, HN⟩
    · have hlz : ¬ (B : Int) ≤ (d.size : Int) := by omega
      obtain ⟨d1, hd1⟩ : ∃ d1, d1 = insB (ltOf cf) d.size (d.size + 4) 0 d := ⟨_, rfl⟩
      have h1 : insertionSort (ltOf cf) dk a d.size = d1 := by rw [hd1, ← HI.out, HQ.out, insB_off (by omega)]
      have HE1 := Lib.hid h1
      have HE := Lib.hid hd1
      clear HI h1 hd1
      have C := insertion_any F cf g cb blk off cap a d.size d0 dk w0 wr eg HC.out R (HDK.out).symm S1.out (by omega) (by have := HDK.out; have := HD0.out; omega) (by have := HDK.out; have := HD0.out; omega)
      rw [show dk.size = d.size from HDK.out.trans HD0.out.symm] at C
      have HCL := Lib.hid C
      clear C
      go_wp2_with fail
      refine (HCL.out).mono ?_
      rintro e w2 ⟨rfl, hS⟩
      have S2 : Aside _ := hS
      clear hS HCL
      rw [HE1.out] at S2
      have HD1 : Hid (d1.size = d0.size) := Lib.hid (by rw [← HE1.out, size_insertionN]; exact HDK.out)
      clear HDK HE1 HQ hqa han hkx
      go_wp2
      go_loopg [6, 7, 8, 9] d.size (fun kx s t u v wr => ∃ (bs f : Nat) (dk : Array Nat), (∃ x y z : Value, t = x ∧ u = y ∧ v = z) ∧ s = .int .i64 bs ∧ 20 ≤ bs ∧ d.size + 24 ≤ f + bs ∧ d.size - bs ≤ kx ∧ Hid (dk.size = d0.size) ∧ Aside (SWK (encV F) 5 w0 blk off dk wr) ∧ Hid (merA (ltOf cf) d.size f bs dk = merA (ltOf cf) d.size (d.size + 4) 20 d1))
      case atStart => exact ⟨20, d.size + 4, d1, ⟨_, _, _, rfl, rfl, rfl⟩, rfl, by omega, by omega, by omega, HD1, S2, Lib.hid rfl⟩
      case round =>
        clear S2 HD1
        obtain ⟨bs, f, dk, ⟨x7, x8, x9, rfl, rfl, rfl⟩, rfl, hbs, hfb, hkx, HDK, S1, HA⟩ := hrel
        by_cases hbl : bs < d.size
        · have hbz : (bs : Int) < (d.size : Int) := by omega
          obtain ⟨p, hp⟩ : ∃ p, f = p + 1 := ⟨f - 1, by omega⟩
          have HP : Hid (merA (ltOf cf) d.size p (2 * bs) (merB (ltOf cf) d.size bs (d.size + 4) 0 dk) = merA (ltOf cf) d.size (d.size + 4) 20 d1) := Lib.hid (by
            have h1 := HA.out
            rw [hp, merA_on hbl] at h1
            exact h1)
          have hpb : d.size + 24 ≤ p + 1 + bs := by omega
          clear hp hfb HA
          obtain ⟨T, hT⟩ : ∃ T, T = 2 * bs := ⟨_, rfl⟩
          have eT : 2 * (bs : Int) = (T : Int) := by omega
          have eT2 : (bs : Int) * 2 = (T : Int) := by omega
          have hT1 : bs + bs ≤ T ∧ T ≤ bs + bs := by omega
          obtain ⟨hT2, hT3⟩ := hT1
          have HT := Lib.hid hT
          clear hT
          go_wp2
          go_loopg [7, 8] d.size (fun ky s t wr => ∃ (a B f : Nat) (dj : Array Nat), s = .int .i64 a ∧ t = .int .i64 B ∧ (B ≤ a + T ∧ a + T ≤ B) ∧ a ≤ d.size ∧ d.size + 4 ≤ f + a ∧ d.size - a ≤ ky ∧ Hid (dj.size = d0.size) ∧ Aside (SWK (encV F) 5 w0 blk off dj wr) ∧ Hid (merB (ltOf cf) d.size bs f a dj = merB (ltOf cf) d.size bs (d.size + 4) 0 dk))
          case atStart => exact ⟨0, T, d.size + 4, dk, rfl, by first | rfl | go_num, by omega, by omega, by omega, by omega, HDK, S1, Lib.hid rfl⟩
          case round =>
            clear S1
            obtain ⟨a, B, f, dj, rfl, rfl, ⟨hB1, hB2⟩, han, hfa, hky, HDJ, S3, HB⟩ := hrel
            obtain ⟨q, hq⟩ : ∃ q, f = q + 1 := ⟨f - 1, by omega⟩
            have HQ := Lib.hid hq
            have hqa : d.size + 4 ≤ q + 1 + a := by omega
            clear hq hfa
            obtain ⟨M, hM⟩ : ∃ M, M = a + bs := ⟨_, rfl⟩
            have eM : (a : Int) + (bs : Int) = (M : Int) := by omega
            have hM1 : M ≤ a + bs ∧ a + bs ≤ M := by omega
            obtain ⟨hM2, hM3⟩ := hM1
            have HM := Lib.hid hM
            clear hM
            by_cases hlt : B ≤ d.size
            · have hlz : (B : Int) ≤ (d.size : Int) := by omega
              have HN : Hid (merB (ltOf cf) d.size bs q B (symP (ltOf cf) d.size a M B dj) = merB (ltOf cf) d.size bs (d.size + 4) 0 dk) := Lib.hid (by
                have h1 := HB.out
                have h2 : a + 2 * bs = B := by have := HT.out; omega
                rw [HQ.out, merB_on (by omega), h2, ← HM.out] at h1
                exact h1)
              obtain ⟨C2, hC2⟩ : ∃ C2, C2 = B + T := ⟨_, rfl⟩
              have eC : (B : Int) + (T : Int) = (C2 : Int) := by omega
              have hC3 : C2 ≤ B + T ∧ B + T ≤ C2 := by omega
              clear hC2
              clear HB
              have C := symMerge_any F cf g cb blk off cap d0 w0 eg HC.out R HSZ.out d.size a M B dj wr HDJ.out.symm S3.out (by omega) (by omega) (by have := HDJ.out; have := HD0.out; omega) (by omega)
              rw [show dj.size = d.size from HDJ.out.trans HD0.out.symm] at C
              have HCL := Lib.hid C
              clear C
              go_wp2_with fail
              refine (HCL.out).mono ?_
              rintro e w2 ⟨rfl, hS⟩
              have S4 : Aside _ := hS
              clear hS HCL
              go_wp2
              go_roundg (d.size - B)
              case measure => omega
              case rel => exact ⟨B, C2, q, symP (ltOf cf) d.size a M B dj, rfl, by first | rfl | go_num, hC3, by omega, by omega, Nat.le_refl _, Lib.hid (by rw [size_symP]; exact HDJ.out), S4, HN⟩
            · have hlz : ¬ (B : Int) ≤ (d.size : Int) := by omega
              have hoff : ¬ a + 2 * bs ≤ d.size := by have := HT.out; omega
              by_cases hml : M < d.size
              · have hmz : (M : Int) < (d.size : Int) := by omega
                have HN : Hid (symP (ltOf cf) d.size a M d.size dj = merB (ltOf cf) d.size bs (d.size + 4) 0 dk) := Lib.hid (by
                  rw [← HB.out, HQ.out, merB_off hoff, ← HM.out, if_pos hml])
                clear HB hoff
                have C := symMerge_any F cf g cb blk off cap d0 w0 eg HC.out R HSZ.out d.size a M d.size dj wr HDJ.out.symm S3.out (by omega) (by omega) (by have := HDJ.out; have := HD0.out; omega) (by omega)
                rw [show dj.size = d.size from HDJ.out.trans HD0.out.symm] at C
                have HCL := Lib.hid C
                clear C
                go_wp2_with fail
                refine (HCL.out).mono ?_
                rintro e w2 ⟨rfl, hS⟩
                have S4 : Aside _ := hS
                clear hS HCL
                go_wp2
                go_roundg (d.size - T)
                case measure => omega
                case rel => exact ⟨T, p, symP (ltOf cf) d.size a M d.size dj, ⟨_, _, _, rfl, rfl, rfl⟩, by first | rfl | go_num, by omega, by omega, Nat.le_refl _, Lib.hid (by rw [size_symP]; exact HDJ.out), S4, Lib.hid (by rw [HN.out, HT.out]; exact HP.out)⟩
              · have hmz : ¬ (M : Int) < (d.size : Int) := by omega
                have HN : Hid (dj = merB (ltOf cf) d.size bs (d.size + 4) 0 dk) := Lib.hid (by
                  rw [← HB.out, HQ.out, merB_off hoff, ← HM.out, if_neg hml])
                clear HB hoff
                go_wp2
                go_roundg (d.size - T)
                case measure => omega
                case rel => exact ⟨T, p, dj, ⟨_, _, _, rfl, rfl, rfl⟩, by first | rfl | go_num, by omega, by omega, Nat.le_refl _, HDJ, S3, Lib.hid (by rw [HN.out, HT.out]; exact HP.out)⟩
        · have hbz : ¬ (bs : Int) < (d.size : Int) := by omega
          go_wp2
          go_end0
          refine ⟨rfl, ?_⟩
          have h1 := HA.out
          rw [merA_off hbl] at h1
          unfold stableP
          rw [← HE.out, ← h1]
          exact S1.out
theorem sortStable_any (F : Nat → EntV) (cf : Nat → Nat → Int) (g : Nat) (cb : Array Value) (blk off cap : Nat) (d : Array Nat) (w : World) (eg : ∀ args w, (callFunc g args).run Try.prog w = .ok (.enter g args) w) (hcmp : CmpLays Try.prog g cb (encV F) 5 cf blk off d.size w) (R : RowK (encV F) 5 w blk off d) (hsz : d.size ≤ 1000) :
    Calls Try.prog 102 #[.slice (some ⟨blk, off, none⟩) d.size cap, .func (.func g) #[] cb] w fun e w' => e = .returned (.tuple #[]) ∧ SWK (encV F) 5 w blk off (stableP (ltOf cf) d.size d) w' := by
  have C := stable_any F cf g cb blk off cap d d w w eg hcmp R rfl (SWK.start R.hH) hsz
  have HC := Lib.hid C
  clear C hcmp R
  go_enter Try.func102, Try.ntmps102
  go_wp2_with fail
  refine (HC.out).mono ?_
  rintro e w2 ⟨rfl, hS⟩
  have S2 := Lib.hid hS
  clear hS HC
  go_wp2
  go_end0
  exact ⟨rfl, S2.out⟩

end Go.Proofs.Ytcjmlakmigfkfaa
