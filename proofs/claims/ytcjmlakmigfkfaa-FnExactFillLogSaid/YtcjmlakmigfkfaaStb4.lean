/- The library's stable sort at entries: rotateCmpFunc. No conditions. -/
import Derived.Test.YtcjmlakmigfkfaaStb3
namespace Go.Proofs.Ytcjmlakmigfkfaa
set_option linter.unusedSimpArgs false
set_option linter.unusedVariables false
open Go.Shelf Go.RowKit Go.Lib Go.Sort

theorem size_rotP (m : Nat) : ∀ (f i j : Nat) (d : Array Nat), (rotP m f i j d).size = d.size := by
  intro f
  induction f with
  | zero => intro i j d; rfl
  | succ f ih =>
    intro i j d
    simp only [rotP]
    split
    · exact size_swapRangeP _ _ _ _
    · split
      · rw [ih, size_swapRangeP]
      · rw [ih, size_swapRangeP]

set_option maxHeartbeats 4000000 in
set_option maxRecDepth 1000000 in
theorem rotate_any (F : Nat → EntV) (g : Nat) (cb : Array Value) (blk off cap a m b : Nat) (d0 d : Array Nat) (w0 w : World) (R : RowK (encV F) 5 w0 blk off d0) (hs : d0.size = d.size) (S : SWK (encV F) 5 w0 blk off d w) (ham : a < m) (hmb : m < b) (hb : b ≤ d.size) (hsz : d.size ≤ 1000) :
    Calls Try.prog 123 #[.slice (some ⟨blk, off, none⟩) d.size cap, .int .i64 a, .int .i64 m, .int .i64 b, .func (.func g) #[] cb] w fun e w' => e = .returned (.tuple #[]) ∧ SWK (encV F) 5 w0 blk off (rotP m (b - a) (m - a) (b - m) d) w' := by
  have S0 : Aside (SWK (encV F) 5 w0 blk off d w) := S
  clear S
  have e1 : (m : Int) - (a : Int) = ((m - a : Nat) : Int) := by omega
  have e2 : (b : Int) - (m : Int) = ((b - m : Nat) : Int) := by omega
  go_enter Try.func123, Try.ntmps123
  go_wp2
  clear e1 e2
  go_loopg [10, 11] (b - a) (fun kx s t wr => ∃ (i j f : Nat) (dk : Array Nat), s = .int .i64 i ∧ t = .int .i64 j ∧ 0 < i ∧ 0 < j ∧ i ≤ m ∧ m + j ≤ d.size ∧ i + j ≤ f ∧ i + j ≤ kx ∧ dk.size = d.size ∧ Aside (SWK (encV F) 5 w0 blk off dk wr) ∧ rotP m f i j dk = rotP m (b - a) (m - a) (b - m) d)
  case atStart => exact ⟨m - a, b - m, b - a, d, rfl, rfl, by omega, by omega, by omega, by omega, by omega, by omega, rfl, S0, rfl⟩
  case round =>
    clear S0
    obtain ⟨i, j, f, dk, rfl, rfl, hi, hj, him, hmj, hf, hkx, hds, S1, heq⟩ := hrel
    obtain ⟨f, rfl⟩ : ∃ q, f = q + 1 := ⟨f - 1, by omega⟩
    rw [rotP] at heq
    obtain ⟨P, hP⟩ : ∃ P, P = m - i := ⟨_, rfl⟩
    have eP : (m : Int) - (i : Int) = (P : Int) := by omega
    have hPi : P + i = m := by omega
    by_cases hij : i = j
    · subst hij
      rw [if_pos rfl, ← hP] at heq
      have HEQ := Lib.hid heq
      clear heq hP
      have hbe : (((i : Nat) : Int) != ((i : Nat) : Int)) = false := by simp
      have C := swapRange_any F g cb blk off cap P m i d0 dk w0 wr R (by omega) S1.out (by omega) (by omega) (by omega)
      rw [hds] at C
      have HC := Lib.hid C
      have HDS := Lib.hid hds
      clear C S1 hds
      go_wp2_with fail
      refine (HC.out).mono ?_
      rintro e w2 ⟨rfl, hS⟩
      have S2 : Aside _ := hS
      clear hS HC
      go_wp2
      go_end0
      exact ⟨rfl, by rw [← HEQ.out]; exact S2.out⟩
    · rw [if_neg hij, ← hP] at heq
      have hbe : (((i : Nat) : Int) != ((j : Nat) : Int)) = true := by rw [bne_iff_ne]; omega
      by_cases hji : j < i
      · rw [if_pos hji] at heq
        have HEQ := Lib.hid heq
        clear heq hP
        have hlz : (j : Int) < (i : Int) := by omega
        have e3 : (i : Int) - (j : Int) = ((i - j : Nat) : Int) := by omega
        have C := swapRange_any F g cb blk off cap P m j d0 dk w0 wr R (by omega) S1.out (by omega) (by omega) (by omega)
        rw [hds] at C
        have HC := Lib.hid C
        have HDS := Lib.hid hds
        clear C S1 hds
        go_wp2_with fail
        refine (HC.out).mono ?_
        rintro e w2 ⟨rfl, hS⟩
        have S2 : Aside _ := hS
        clear hS HC
        go_wp2
        go_roundg i
        case measure => omega
        case rel => exact ⟨i - j, j, f, swapRangeP P m j dk, by first | rfl | (congr 1; omega) | go_num, rfl, by omega, by omega, by omega, by omega, by omega, by omega, by rw [size_swapRangeP]; exact HDS.out, S2, HEQ.out⟩
      · rw [if_neg hji] at heq
        obtain ⟨K, hK⟩ : ∃ K, K = m + j - i := ⟨_, rfl⟩
        rw [← hK] at heq
        have HEQ := Lib.hid heq
        have eK : (m : Int) + (j : Int) - (i : Int) = (K : Int) := by omega
        have hKi : K + i = m + j := by omega
        clear heq hP hK
        have hlz : ¬ (j : Int) < (i : Int) := by omega
        have e3 : (j : Int) - (i : Int) = ((j - i : Nat) : Int) := by omega
        have C := swapRange_any F g cb blk off cap P K i d0 dk w0 wr R (by omega) S1.out (by omega) (by omega) (by omega)
        rw [hds] at C
        have HC := Lib.hid C
        have HDS := Lib.hid hds
        clear C S1 hds
        go_wp2_with fail
        refine (HC.out).mono ?_
        rintro e w2 ⟨rfl, hS⟩
        have S2 : Aside _ := hS
        clear hS HC
        go_wp2
        go_roundg j
        case measure => omega
        case rel => exact ⟨i, j - i, f, swapRangeP P K i dk, rfl, by first | rfl | (congr 1; omega) | go_num, by omega, by omega, by omega, by omega, by omega, by omega, by rw [size_swapRangeP]; exact HDS.out, S2, HEQ.out⟩

end Go.Proofs.Ytcjmlakmigfkfaa
