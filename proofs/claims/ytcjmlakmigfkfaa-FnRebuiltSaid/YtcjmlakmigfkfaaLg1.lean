/- The spec's drawings of entries: content, contents. No conditions. -/
import Derived.Test.YtcjmlakmigfkfaaDrL
namespace Go.Proofs.Ytcjmlakmigfkfaa
set_option linter.unusedSimpArgs false
set_option linter.unusedVariables false
open Go.RowKit

theorem content_any (g k : Nat) (w : World) (hk : k ≤ 50000000000) (h : Cur w g k) :
    Calls Try.prog 122 #[.pointer (some ⟨g, 0, none⟩)] w fun e w' => ∃ x : Nat, e = .returned (.int .i64 (x : Int)) ∧ x ≤ 65536 ∧ Cur w' g (k + 2) ∧ Drew g w w' := by
  have HC := Lib.hid h
  clear h
  go_enter Try.func122, Try.ntmps122
  go_wp2_with fail
  refine (pick_any g k 60 _ (by omega) (by omega) HC.out).mono ?_
  rintro e w1 ⟨x, rfl, hx, hx', hc, hd⟩
  have HC1 := Lib.hid hc; have HD1 := Lib.hid hd
  clear hc hd
  obtain ⟨y, hy⟩ : ∃ y : Nat, y = 1 + x := ⟨_, rfl⟩
  have e1 : (1 : Int) + (x : Int) = (y : Int) := by omega
  have hy2 : y ≤ 65536 := by omega
  clear hx hx' hy
  go_wp2
  go_ret
  exact ⟨y, rfl, hy2, HC1.out, HD1.out⟩

set_option maxHeartbeats 2000000 in
set_option maxRecDepth 100000 in
theorem contents_any (g k N : Nat) (w : World) (hk : k ≤ 10000000000) (hN : N ≤ 10) (h : Cur w g k) :
    Calls Try.prog 117 #[.pointer (some ⟨g, 0, none⟩), .int .i64 N] w fun e w' => ∃ A c l, e = .returned (.slice A (List.length l) c) ∧ List.length l = N ∧ w'.ownsRow w.heap.size 3 1 (.slice A l.length c) l.length (ints l) ∧ Cur w' g (k + 60) ∧ Drew g w w' := by
  have HC := Lib.hid h
  have HD : Hid (Drew g w w) := Lib.hid Turned.refl
  have HGW : Hid (g < w.heap.size) := Lib.hid h.lt
  clear h
  go_enter Try.func117, Try.ntmps117
  go_wp2
  go_loopw [1, 5] (fun nv o wr => ∃ A q c l, ∃ r : Nat, nv = .int .i64 r ∧ r + q = N ∧ o = .slice A q c ∧ List.length l = q ∧ wr.ownsRow w.heap.size 3 1 (.slice A q c) q (ints l) ∧ Cur wr g (k + 6 * q) ∧ Drew g w wr) (fun nv _ _ => (intOf nv).toNat)
  case atStart => exact ⟨none, 0, 0, [], N, rfl, rfl, rfl, rfl, own_start, HC.out, HD.out⟩
  case round =>
    obtain ⟨A, q, c, l, r, rfl, hrq, rfl, hlq, hown, hc, hd⟩ := hrel
    clear HC HD
    have HRQ := Lib.hid hrq; have HLQ := Lib.hid hlq; have HO := Lib.hid hown; have HC := Lib.hid hc; have HD := Lib.hid hd
    have hq10 : q + r ≤ N := by omega
    have hq11 : N ≤ q + r := by omega
    clear hrq hlq hown hc hd
    by_cases hlt : 0 < r
    · have hrz : (0 : Int) < (r : Int) := by omega
      go_wp2_with fail
      refine (content_any g _ _ (by omega) HC.out).mono ?_
      rintro e w1 ⟨x, rfl, hx, hc, hd⟩
      have HC := Lib.hid hc; have HO := Lib.hid (Drew.own hd HO.out HGW.out); have HD := Lib.hid (HD.out.trans hd)
      clear hc hd hx
      go_wp2_with fail
      refine (content_any g _ _ (by omega) HC.out).mono ?_
      rintro e w2 ⟨y, rfl, hy, hc, hd⟩
      have HC := Lib.hid hc; have HO := Lib.hid (Drew.own hd HO.out HGW.out); have HD := Lib.hid (HD.out.trans hd)
      clear hc hd hy
      go_wp2_with fail
      refine (amongLit_any g _ [1, 5, 12, 60, (x : Int), (y : Int)] 3 _ _ _ rfl rfl (by omega) (by simp) (by simp) HC.out).mono ?_
      rintro e w3 ⟨z, hz, rfl, hc, hd⟩
      have HC := Lib.hid hc; have HO := Lib.hid (Drew.own hd HO.out HGW.out); have HD := Lib.hid (HD.out.trans hd)
      clear hc hd hz
      have HZ : Hid (w.heap.size ≤ w3.heap.size) := Lib.hid HD.out.size
      go_wp2_with (at_builtin; refine wpList_push _ rfl (.tmp 10) (.tmp 18) 49 rfl w.heap.size 3 (.int .i64 0) 1 8 infoInt rfl (by omega) Try.underlying49 A q c (ints l) rfl (HO.out.alloc _) (some ⟨w3.heap.size, 0, none⟩) 1 1 [.int .i64 z] rfl (reads_new _ _ _) (by simp [Value.oneCell']) (by omega) (by omega) (by have := HZ.out; simp; omega) ?_; intro A' c' w6 hown6 hg6 hb6)
      have hb7 : Below w.heap.size w3 w6 := ((Below.refl _ _).alloc HZ.out _).trans hb6
      have HO6 := Lib.hid hown6; have HC6 := Lib.hid (HC.out.below' hb7 HGW.out); have HD6 := Lib.hid (Drew.then_below HD.out hb7)
      clear hown6 hg6 hb6 hb7
      obtain ⟨s, hs⟩ : ∃ s : Nat, s = r - 1 := ⟨_, rfl⟩
      have es : (r : Int) - 1 = (s : Int) := by omega
      have hs1 : s + 1 ≤ r := by omega
      have hs2 : r ≤ s + 1 := by omega
      clear hs
      go_wp2
      go_roundw
      case rel => exact ⟨A', q + 1, c', l ++ [z], s, congrArg (Value.int .i64) es, by omega, rfl, by simp [HLQ.out], by rw [← ints_snoc]; exact HO6.out, HC6.out.mono (by omega), HD6.out⟩
      case measure => simp [intOf]; omega
    · have hrz : ¬ (0 : Int) < (r : Int) := by omega
      have hlN : l.length = N := by have := HLQ.out; omega
      have HLN := Lib.hid hlN
      obtain rfl : q = l.length := HLQ.out.symm
      clear hlN
      have HC := Lib.hid (HC.out.mono (k' := k + 60) (by omega))
      go_wp2
      go_ret
      exact ⟨A, c, l, rfl, HLN.out, HO.out, HC.out, HD.out⟩

end Go.Proofs.Ytcjmlakmigfkfaa
