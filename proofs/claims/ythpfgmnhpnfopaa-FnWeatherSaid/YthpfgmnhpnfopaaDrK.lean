/- The spec's drawing of fogs by key. No conditions. -/
import Derived.Test.YthpfgmnhpnfopaaDrN
import Derived.Test.YthpfgmnhpnfopaaNw4
namespace Go.Proofs.Ythpfgmnhpnfopaa
set_option linter.unusedSimpArgs false
set_option linter.unusedVariables false
open Go.RowKit


set_option maxHeartbeats 2000000 in
set_option maxRecDepth 100000 in
theorem drawFogsByKey_any (A : Option Addr) (n c : Nat) (l : List Int) (w : World) (hn : n ≤ 9223372036854775807) (hl : ∀ x ∈ l, 0 ≤ x ∧ x ≤ 255) (h : Reads w 1 A n (bytesV l)) :
    Calls Try.prog 64 #[.slice A n c] w fun e w' => ∃ At ct T Ak ck K, ∃ key slots : Int, e = .returned (.tuple #[.agg #[.slice At (List.length T) ct, .slice Ak (List.length K) ck], .int .i64 key, .int .i64 slots]) ∧ T.length ≤ 17 ∧ K.length ≤ 41 ∧ w'.ownsRow w.heap.size 121 3 (.slice At T.length ct) T.length (rows3 T) ∧ w'.ownsRow w.heap.size 123 3 (.slice Ak K.length ck) K.length (rows3 K) ∧ Below w.heap.size w w' := by
  have HC : Hid (Cur ((w.alloc (.cells #[.slice none 0 0, .slice none 0 0] 68)).alloc (.cells #[.slice A n c, .int .i64 0, .int .u64 0] 100)) (w.heap.size + 1) 0) := Lib.hid (by have h1 := Cur.new (c := c) (h.alloc (.cells #[.slice none 0 0, .slice none 0 0] 68)) hn hl; rw [World.size_alloc] at h1; exact h1)
  have HB0 : Hid (Below w.heap.size w ((w.alloc (.cells #[.slice none 0 0, .slice none 0 0] 68)).alloc (.cells #[.slice A n c, .int .i64 0, .int .u64 0] 100))) := Lib.hid (((Below.refl _ _).alloc (Nat.le_refl _) _).alloc (by simp) _)
  have HZ0 : Hid (((w.alloc (.cells #[.slice none 0 0, .slice none 0 0] 68)).alloc (.cells #[.slice A n c, .int .i64 0, .int .u64 0] 100)).heap.size = w.heap.size + 2) := Lib.hid (by simp)
  have HRES : Hid (((w.alloc (.cells #[.slice none 0 0, .slice none 0 0] 68)).alloc (.cells #[.slice A n c, .int .i64 0, .int .u64 0] 100)).heap[w.heap.size]? = some (.cells #[.slice none 0 0, .slice none 0 0] 68)) := Lib.hid (by rw [heap_alloc_old (w.alloc (.cells #[.slice none 0 0, .slice none 0 0] 68)) _ (by simp)]; exact heap_alloc_new w _)
  clear h hn hl
  go_enter Try.func64, Try.ntmps64
  go_wp2_with fail
  generalize hwb : (w.alloc (.cells #[.slice none 0 0, .slice none 0 0] 68)).alloc (.cells #[.slice A n c, .int .i64 0, .int .u64 0] 100) = wb at *
  clear hwb
  have HD : Hid (Drew (w.heap.size + 1) wb wb) := Lib.hid Turned.refl
  refine (anyNet_any (w.heap.size + 1) 0 wb (by omega) HC.out).mono ?_
  rintro e w1 ⟨At, ct, T, Ak, ck, K, rfl, hT, hK, hoT, hoK, hc, hd⟩
  have HC := Lib.hid hc; have HD := Lib.hid (HD.out.trans hd)
  have HT := Lib.hid (own_mono hoT (base' := w.heap.size + 2) (by have := HZ0.out; omega)); have HK := Lib.hid (own_mono hoK (base' := w.heap.size + 2) (by have := HZ0.out; omega))
  have HG1 : Hid (w.heap.size + 1 < w.heap.size + 2) := Lib.hid (by omega)
  clear hc hd hoT hoK
  go_wp2_with fail
  refine (fogKey_any (w.heap.size + 1) _ _ (by omega) HC.out).mono ?_
  rintro e w2 ⟨key, rfl, hc, hd⟩
  have HC := Lib.hid hc; have HD := Lib.hid (HD.out.trans hd)
  have HT := Lib.hid (Drew.own hd HT.out HG1.out); have HK := Lib.hid (Drew.own hd HK.out HG1.out)
  clear hc hd
  go_wp2_with fail
  refine (amongLit_any (w.heap.size + 1) _ [21, -1] 3 _ _ _ rfl rfl (by omega) (by simp) (by simp) HC.out).mono ?_
  rintro e w3 ⟨z, hz, rfl, hc, hd⟩
  have HC := Lib.hid hc; have HD := Lib.hid (HD.out.trans hd)
  have HT := Lib.hid (Drew.own hd HT.out HG1.out); have HK := Lib.hid (Drew.own hd HK.out HG1.out)
  clear hc hd hz
  go_wp2_with fail
  refine (amongLit_any (w.heap.size + 1) _ [0, 1, 3, 8, 20, z] 3 _ _ _ rfl rfl (by omega) (by simp) (by simp) HC.out).mono ?_
  rintro e w4 ⟨slots, hslots, rfl, hc, hd⟩
  have HC := Lib.hid hc; have HD := Lib.hid (HD.out.trans hd)
  have HT := Lib.hid (Drew.own hd HT.out HG1.out); have HK := Lib.hid (Drew.own hd HK.out HG1.out)
  clear hc hd hslots
  have hres : w4.heap[w.heap.size]? = some (.cells #[.slice none 0 0, .slice none 0 0] 68) := (HD.out.block _ (by have := HZ0.out; omega) (by omega)).trans HRES.out
  obtain ⟨r0, y0⟩ := box_at hres (j := 0) rfl
  obtain ⟨r1, y1⟩ := box_at hres (j := 1) rfl
  have HBW : Hid (Below w.heap.size w w4) := Lib.hid (HB0.out.trans (Drew.allB HD.out (by omega) (by have := HZ0.out; omega)))
  have HRS := Lib.hid hres
  clear hres
  have hh : ∀ v0 v1 : Value, ((w4.setCell ⟨w.heap.size, 0, none⟩ v0).setCell ⟨w.heap.size, 1, none⟩ v1).heap[w.heap.size]? = some (.cells #[v0, v1] 68 (0, 0)) := fun v0 v1 => by have hr := HRS.out; simp [World.setCell, Array.getElem?_modify, hr]
  have HH := Lib.hid hh
  clear hh
  go_wp2
  have hres := HH.out (.slice At T.length ct) (.slice Ak K.length ck)
  obtain ⟨z0, _⟩ := box_at hres (j := 0) rfl
  obtain ⟨z1, _⟩ := box_at hres (j := 1) rfl
  have hB : Below w.heap.size w4 ((w4.setCell ⟨w.heap.size, 0, none⟩ (.slice At T.length ct)).setCell ⟨w.heap.size, 1, none⟩ (.slice Ak K.length ck)) := ((Below.refl _ _).setCell (p := ⟨w.heap.size, 0, none⟩) (Nat.le_refl _) _).setCell (p := ⟨w.heap.size, 1, none⟩) (Nat.le_refl _) _
  have hno : ∀ (i : Nat) (u : Value) (W : World) (e : TypeId) (v : Value) (n : Nat) (xs : List Value), W.ownsRow (w.heap.size + 2) e 3 v n xs → (W.setCell ⟨w.heap.size, i, none⟩ u).ownsRow (w.heap.size + 2) e 3 v n xs := fun i u W e v n xs ho => own_set ho (fun e' => by have := (ho.lt _ e').1; omega)
  try simp only [Exit.inBlock, Exit.then]
  refine bodyPost_ret (v := .tuple #[.agg #[.slice At T.length ct, .slice Ak K.length ck], .int .i64 key, .int .i64 slots]) (by simp [results, Try.results64, go_sem, z0, z1]) rfl ?_
  exact ⟨At, ct, T, Ak, ck, K, key, slots, rfl, hT, hK, own_mono (hno _ _ _ _ _ _ _ (hno _ _ _ _ _ _ _ HT.out)) (by omega), own_mono (hno _ _ _ _ _ _ _ (hno _ _ _ _ _ _ _ HK.out)) (by omega), HBW.out.trans hB⟩

end Go.Proofs.Ythpfgmnhpnfopaa
