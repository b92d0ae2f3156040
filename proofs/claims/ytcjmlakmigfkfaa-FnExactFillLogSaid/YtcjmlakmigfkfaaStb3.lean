/- The library's stable sort at entries: swapRangeCmpFunc, rotateCmpFunc. No conditions. -/
import Derived.Test.YtcjmlakmigfkfaaStb2
import Derived.Test.YtcjmlakmigfkfaaCom
import Derived.Shelf.SlSortCmp.KitK
import Derived.Sort.WalkB2
import Derived.Sort.WalkB12
import Derived.Deep.LoopGhost
namespace Go.Proofs.Ytcjmlakmigfkfaa
set_option linter.unusedSimpArgs false
set_option linter.unusedVariables false
open Go.Shelf Go.RowKit Go.Lib Go.Sort

/-- An entry's header: three numbers and two slices. -/
structure EntV where
  t : Int
  m : Int
  p : Int
  A3 : Option Addr
  n3 : Nat
  c3 : Nat
  A4 : Option Addr
  n4 : Nat
  c4 : Nat
def encV (F : Nat → EntV) (x : Nat) : List Value := [.int .i64 (F x).t, .int .i64 (F x).m, .int .i64 (F x).p, .slice (F x).A3 (F x).n3 (F x).c3, .slice (F x).A4 (F x).n4 (F x).c4]
theorem SWK.five {F : Nat → EntV} {w0 W : World} {blk off : Nat} {dk d0 : Array Nat} (h : SWK (encV F) 5 w0 blk off dk W) (R : RowK (encV F) 5 w0 blk off d0) (hs : dk.size = d0.size) (i : Nat) (hi : i < dk.size) :
    ∃ t m p A3 n3 c3 A4 n4 c4, encV F dk[i]! = [.int .i64 t, .int .i64 m, .int .i64 p, .slice A3 n3 c3, .slice A4 n4 c4] ∧ F dk[i]! = ⟨t, m, p, A3, n3, c3, A4, n4, c4⟩ ∧ (W.cell? ⟨blk, off + i * 5, none⟩ = some (.int .i64 t) ∧ W.cell? ⟨blk, off + i * 5 + 1, none⟩ = some (.int .i64 m) ∧ W.cell? ⟨blk, off + i * 5 + 2, none⟩ = some (.int .i64 p) ∧ W.cell? ⟨blk, off + i * 5 + 3, none⟩ = some (.slice A3 n3 c3) ∧ W.cell? ⟨blk, off + i * 5 + 4, none⟩ = some (.slice A4 n4 c4)) ∧
      (W.frozen? ⟨blk, off + i * 5, none⟩ = false ∧ W.frozen? ⟨blk, off + i * 5 + 1, none⟩ = false ∧ W.frozen? ⟨blk, off + i * 5 + 2, none⟩ = false ∧ W.frozen? ⟨blk, off + i * 5 + 3, none⟩ = false ∧ W.frozen? ⟨blk, off + i * 5 + 4, none⟩ = false) := by
  have hH := h.holds R.hblk R.hH hs
  have q0 := hH.cell (c := 0) hi (by omega)
  have q1 := hH.cell (c := 1) hi (by omega)
  have q2 := hH.cell (c := 2) hi (by omega)
  have q3 := hH.cell (c := 3) hi (by omega)
  have q4 := hH.cell (c := 4) hi (by omega)
  exact ⟨_, _, _, _, _, _, _, _, _, rfl, rfl, ⟨q0.1, q1.1, q2.1, q3.1, q4.1⟩, ⟨q0.2, q1.2, q2.2, q3.2, q4.2⟩⟩
def put5 (W : World) (b o : Nat) (v0 v1 v2 v3 v4 : Value) : World := ((((W.setCell ⟨b, o, none⟩ v0).setCell ⟨b, o + 1, none⟩ v1).setCell ⟨b, o + 2, none⟩ v2).setCell ⟨b, o + 3, none⟩ v3).setCell ⟨b, o + 4, none⟩ v4
theorem setCell_drew5 (W : World) (a : Addr) (v : Value) : W.drew.setCell a v = (W.setCell a v).drew := by
  simp only [World.drew, World.setCell]
theorem put5_cells (W : World) (b o : Nat) (v0 v1 v2 v3 v4 : Value) : put5 W b o v0 v1 v2 v3 v4 = W.setCells b o [v0, v1, v2, v3, v4] := rfl
theorem SWK.swap5 {F : Nat → EntV} {w0 W : World} {blk off : Nat} {dk d0 : Array Nat} (h : SWK (encV F) 5 w0 blk off dk W) (R : RowK (encV F) 5 w0 blk off d0) (i j : Nat) (hi : i < dk.size) (hj : j < dk.size) {v0 v1 v2 v3 v4 u0 u1 u2 u3 u4 : Value} (ev : encV F dk[i]! = [v0, v1, v2, v3, v4]) (eu : encV F dk[j]! = [u0, u1, u2, u3, u4]) :
    SWK (encV F) 5 w0 blk off (swp dk i j) (put5 (put5 W blk (off + i * 5) u0 u1 u2 u3 u4) blk (off + j * 5) v0 v1 v2 v3 v4).drew := by
  have := h.swapped R i j hi hj
  rw [ev, eu, ← put5_cells, ← put5_cells] at this
  simp only [put5, setCell_drew5] at this ⊢
  exact this


set_option maxHeartbeats 4000000 in
set_option maxRecDepth 1000000 in
theorem swapRange_any (F : Nat → EntV) (g : Nat) (cb : Array Value) (blk off cap a b n : Nat) (d0 d : Array Nat) (w0 w : World) (R : RowK (encV F) 5 w0 blk off d0) (hs : d0.size = d.size) (S : SWK (encV F) 5 w0 blk off d w) (hab : a + n ≤ b) (hb : b + n ≤ d.size) (hsz : d.size ≤ 1000) :
    Calls Try.prog 124 #[.slice (some ⟨blk, off, none⟩) d.size cap, .int .i64 a, .int .i64 b, .int .i64 n, .func (.func g) #[] cb] w fun e w' => e = .returned (.tuple #[]) ∧ SWK (encV F) 5 w0 blk off (swapRangeP a b n d) w' := by
  have S0 : Aside (SWK (encV F) 5 w0 blk off d w) := S
  clear S
  have mixed : Try.prog.follows .mixedOrders = true := by kernel_rfl
  go_enter Try.func124, Try.ntmps124
  go_wp2
  go_loopg [10] n (fun kx s wr => ∃ (i : Nat) (dk : Array Nat), s = .int .i64 i ∧ i ≤ n ∧ n - i ≤ kx ∧ dk.size = d.size ∧ Aside (SWK (encV F) 5 w0 blk off dk wr) ∧ dk = swapRangeP a b i d)
  case atStart => exact ⟨0, d, rfl, by omega, by omega, rfl, S0, rfl⟩
  case round =>
    clear S0
    obtain ⟨i, dk, rfl, hi, hkx, hds, S1, hdk⟩ := hrel
    have HDK := Lib.hid hdk
    clear hdk
    by_cases hlt : i < n
    · have hlz : (i : Int) < (n : Int) := by omega
      go_wp2_with fail
      obtain ⟨I, hI⟩ : ∃ I, I = a + i := ⟨_, rfl⟩
      obtain ⟨J, hJ⟩ : ∃ J, J = b + i := ⟨_, rfl⟩
      have eI : (a : Int) + (i : Int) = ((I : Nat) : Int) := by omega
      have eJ : (b : Int) + (i : Int) = ((J : Nat) : Int) := by omega
      have lI : I < dk.size := by omega
      have lJ : J < dk.size := by omega
      have HI := Lib.hid hI
      have HJ := Lib.hid hJ
      have HDS := Lib.hid hds
      have HD0 : Hid (dk.size = d0.size) := Lib.hid (by omega)
      have lI' : I < d.size := by omega
      have lJ' : J < d.size := by omega
      clear hI hJ hds
      have ea : ((I : Nat) : Int).toNat = I := by omega
      have pa : (0 : Int) ≤ ((I : Nat) : Int) := by omega
      have ba : ((I : Nat) : Int) < (d.size : Int) := by omega
      have ra : IntKind.i64.wrap ((I : Nat) : Int) = ((I : Nat) : Int) := by rw [IntKind.wrap_i64]; omega
      have ec : ((J : Nat) : Int).toNat = J := by omega
      have pc : (0 : Int) ≤ ((J : Nat) : Int) := by omega
      have bc : ((J : Nat) : Int) < (d.size : Int) := by omega
      have rc : IntKind.i64.wrap ((J : Nat) : Int) = ((J : Nat) : Int) := by rw [IntKind.wrap_i64]; omega
      obtain ⟨vt, vm, vp, vA, vn, vc, vB, vk, vd, ev, _, ⟨c0, c1, c2, c3, c4⟩, f0, f1, f2, f3, f4⟩ := SWK.five S1.out R HD0.out I (by omega)
      obtain ⟨ut, um, up, uA, un, uc, uB, uk, ud, eu, _, ⟨b0, b1, b2, b3, b4⟩, g0, g1, g2, g3, g4⟩ := SWK.five S1.out R HD0.out J (by omega)
      have S2 : Aside _ := SWK.swap5 S1.out R I J (by omega) (by omega) ev eu
      obtain ⟨w2, hw2⟩ : ∃ w2, w2 = World.drew (put5 (put5 wr blk (off + I * 5) (.int .i64 ut) (.int .i64 um) (.int .i64 up) (.slice uA un uc) (.slice uB uk ud)) blk (off + J * 5) (.int .i64 vt) (.int .i64 vm) (.int .i64 vp) (.slice vA vn vc) (.slice vB vk vd)) := ⟨_, rfl⟩
      rw [← hw2] at S2
      unfold put5 at hw2
      have HW2 := Lib.hid hw2
      clear S1 ev eu hw2
      go_wp2_with fail
      go_big_region_o
      rw [← HW2.out]
      clear HW2 c0 c1 c2 c3 c4 f0 f1 f2 f3 f4 b0 b1 b2 b3 b4 g0 g1 g2 g3 g4
      go_wp2
      go_roundg (n - (i + 1))
      case measure => omega
      case rel => exact ⟨i + 1, swp dk I J, by go_num, by omega, by omega, by rw [size_swp]; exact HDS.out, S2, by rw [HDK.out, HI.out, HJ.out]; rfl⟩
    · have e : i = n := by omega
      subst e
      have hlz : ¬ (i : Int) < (i : Int) := by omega
      go_wp2
      go_end0
      refine ⟨rfl, ?_⟩
      rw [← HDK.out]
      exact S1.out

end Go.Proofs.Ytcjmlakmigfkfaa
