/- Contract of l1Put of the spec: a value is put into an increasing row of the call's own. No conditions. -/
import Derived.Test.YtjibdabedagghaaJoi
import Derived.Test.YtjibdabedagghaaClone
namespace Go.Proofs.Ytjibdabedagghaa
set_option linter.unusedSimpArgs false
set_option linter.unusedVariables false
open Go.RowKit

theorem putL_low {l : List Int} {v : Int} {k : Nat} (hk : k < l.length) (h : l[k] < v) : putL (l.drop k) v = l[k] :: putL (l.drop (k + 1)) v := by
  rw [List.drop_eq_getElem_cons hk]
  simp only [putL]
  rw [if_pos h]
theorem putL_same {l : List Int} {k : Nat} {v : Int} (hk : k < l.length) (h : l[k] = v) : putL (l.drop k) v = l.drop k := by
  rw [List.drop_eq_getElem_cons hk]
  simp only [putL]
  rw [if_neg (by omega), if_pos h]
theorem putL_new {l : List Int} {v : Int} {k : Nat} (hk : k ≤ l.length) (h : ∀ hk : k < l.length, v < l[k]) : putL (l.drop k) v = v :: l.drop k := by
  rcases Nat.lt_or_ge k l.length with hlt | hge
  · have := h hlt
    rw [List.drop_eq_getElem_cons hlt]
    simp only [putL]
    rw [if_neg (by omega), if_neg (by omega)]
  · rw [List.drop_eq_nil_of_le hge]
    rfl
theorem ints_take (l : List Int) (k : Nat) : (ints l).take (k * 1) = ints (l.take k) := by simp [ints]
theorem ints_drop (l : List Int) (k : Nat) : (ints l).drop (k * 1) = ints (l.drop k) := by simp [ints]

set_option maxHeartbeats 1000000 in
theorem l1Put_any {base n c : Nat} {A : Option Addr} (l : List Int) (v : Int) (w : World) (h : w.ownsRow base 3 1 (.slice A n c) n (ints l)) (hn : n ≤ 1000) (hbase : base ≤ w.heap.size) :
    Calls Try.prog 84 #[.slice A n c, .int .i64 v] w fun e w' => ∃ A' c', e = .returned (.slice A' (putL l v).length c') ∧ w'.ownsRow base 3 1 (.slice A' (putL l v).length c') (putL l v).length (ints (putL l v)) ∧ Below w.heap.size w w' := by
  have HX := Lib.hid (show l.length = n by have := h.1; simpa using this)
  go_enter Try.func84, Try.ntmps84
  go_wp2
  go_loop [5] (fun i => ∃ k : Nat, k ≤ n ∧ i = .int .i64 k ∧ putL l v = l.take k ++ putL (l.drop k) v) (fun i => n - (intOf i).toNat)
  case atStart => exact ⟨0, Nat.zero_le _, rfl, by simp⟩
  case round =>
    obtain ⟨k, hk, rfl, hrel⟩ := hrel
    have HR := Lib.hid hrel
    clear hrel
    by_cases hlt : k < n
    · have hx : k < l.length := by rw [HX.out]; exact hlt
      obtain ⟨ad, u, rfl, hu, k0⟩ := (Reads.of_own h).at_ hlt
      have e0 : u = .int .i64 l[k] := by simp [ints, hx] at hu; exact hu.symm
      subst e0
      clear hu
      rcases (show l[k] < v ∨ l[k] = v ∨ v < l[k] by omega) with hc | hc | hc
      · have HN := Lib.hid (putL_low hx hc)
        have HT := Lib.hid (List.take_succ_eq_append_getElem hx)
        generalize l[k] = x at *
        go_wp2
        go_round
        case rel => exact ⟨k + 1, by omega, by go_num, by rw [HR.out, HN.out, HT.out]; simp⟩
        case measure => simp [intOf]; omega
      · have HN := Lib.hid (putL_same hx hc)
        have HE : Hid (putL l v = l) := Lib.hid (by rw [HR.out, HN.out, List.take_append_drop])
        generalize l[k] = x at *
        subst hc
        go_wp2
        go_ret
        rw [HE.out]
        have e := HX.out
        subst e
        exact ⟨some ad, c, rfl, h, Below.refl _ _⟩
      · have HN := Lib.hid (putL_new (l := l) (v := v) (Nat.le_of_lt hx) (fun _ => hc))
        have HE : Hid (putL l v = l.take k ++ v :: l.drop k) := Lib.hid (by rw [HR.out, HN.out])
        clear HR HN
        generalize l[k] = x at *
        have hcap := own_cap h
        have HRT := Lib.hid ((Reads.of_own h).take (m := k) hk)
        have HRC := Lib.hid ((Reads.of_own h).cut (m := k) (cap := c) hk hcap)
        rw [ints_take] at HRT
        rw [ints_drop] at HRC
        have hkc : k ≤ c := by omega
        have HRX : Hid (Reads w 1 (some (ad.add k)) (n - k) (ints (l.drop k))) := Lib.hid (by have h1 := HRC.out; rw [if_neg (by omega)] at h1; simpa using h1)
        have HLEN : Hid ((putL l v).length = k + 1 + (n - k)) := Lib.hid (by rw [HE.out]; have := HX.out; simp; omega)
        have HIL : Hid (ints (putL l v) = ints (l.take k) ++ [.int .i64 v] ++ ints (l.drop k)) := Lib.hid (by rw [HE.out]; simp [ints])
        clear h HRC HE
        go_wp2_with (first | (at_builtin; refine wpList_push _ rfl (.tmp 43) (.tmp 46) 38 rfl (w.heap.size) 3 (.int .i64 0) 1 8 infoInt rfl (by omega) Try.underlying38 A2 (k + 1) c2 (ints (l.take k) ++ [.int .i64 v]) rfl hown2 (some (ad.add k)) (n - k) _ (ints (l.drop k)) rfl (HRX.out.below ((((Below.refl w.heap.size w).alloc (Nat.le_refl _) _).trans hb1).trans (((Below.refl _ _).alloc (Nat.le_trans (by simp) hb1.size) _).trans hb2))) (one_ints _) (by omega) (by omega) (by have h1 := hb1.size; have h2 := hb2.size; simp at h1 h2; omega) ?_; intro A3 c3 w3 hown3 hg3 hb3) | (at_builtin; refine wpList_push _ rfl (.tmp 39) (.tmp 41) 38 rfl w.heap.size 3 (.int .i64 0) 1 8 infoInt rfl (by omega) Try.underlying38 A1 k c1 (ints (l.take k)) rfl (hown1.alloc _) (some ⟨w1.heap.size, 0, none⟩) 1 1 [.int .i64 v] rfl (reads_new _ _ _) (by simp [Value.oneCell']) (by omega) (by omega) (by have := hb1.size; simp at this; simp; omega) ?_; intro A2 c2 w2 hown2 hg2 hb2) | (at_builtin; refine wpList_push _ rfl (.tmp 34) (.tmp 37) 38 rfl (w.heap.size) 3 (.int .i64 0) 1 8 infoInt rfl (by omega) Try.underlying38 (some ⟨w.heap.size, 0, none⟩) 0 0 [] rfl (World.ownsRow_made w #[] 0 (Nat.le_refl _) (by unfold maxLen; omega) rfl) (some ad) k c (ints (l.take k)) rfl (HRT.out.alloc _) (one_ints _) (by omega) (by omega) (by first | (simp; done) | (simp; omega) | omega) ?_; intro A1 c1 w1 hown1 hg1 hb1; rw [Nat.zero_add, List.nil_append] at hown1))
        all_goals
          go_ret
          rw [HLEN.out, HIL.out]
          exact ⟨A3, c3, rfl, own_mono hown3 hbase, ((((Below.refl w.heap.size w).alloc (Nat.le_refl _) _).trans hb1).trans (((Below.refl _ _).alloc (Nat.le_trans (by simp) hb1.size) _).trans hb2)).trans (hb3.mono (Nat.le_refl _))⟩
    · have HN := Lib.hid (putL_new (l := l) (v := v) (by rw [HX.out]; exact hk) (fun h' => by have := HX.out; omega))
      have HE : Hid (putL l v = l.take k ++ v :: l.drop k) := Lib.hid (by rw [HR.out, HN.out])
      clear HR HN
      have hcap := own_cap h
      have HRT := Lib.hid ((Reads.of_own h).take (m := k) hk)
      have HRC := Lib.hid ((Reads.of_own h).cut (m := k) (cap := c) hk hcap)
      rw [ints_take] at HRT
      rw [ints_drop] at HRC
      have hkc : k ≤ c := by omega
      have HRX : Hid (∀ A2 W, Reads W 1 A2 (n - k) (ints (l.drop k))) := Lib.hid (fun A2 W => by have e : n - k = 0 := (by omega); have e2 : l.drop k = [] := (List.drop_eq_nil_of_le (by have := HX.out; omega)); rw [e, e2]; exact ⟨rfl, fun h => by omega⟩)
      have HLEN : Hid ((putL l v).length = k + 1 + (n - k)) := Lib.hid (by rw [HE.out]; have := HX.out; simp; omega)
      have HIL : Hid (ints (putL l v) = ints (l.take k) ++ [.int .i64 v] ++ ints (l.drop k)) := Lib.hid (by rw [HE.out]; simp [ints])
      clear h HRC HE
      go_wp2_with (first | (at_builtin; refine wpList_push _ rfl (.tmp 43) (.tmp 46) 38 rfl (w.heap.size) 3 (.int .i64 0) 1 8 infoInt rfl (by omega) Try.underlying38 A2 (k + 1) c2 (ints (l.take k) ++ [.int .i64 v]) rfl hown2 _ (n - k) _ (ints (l.drop k)) rfl (HRX.out _ _) (one_ints _) (by omega) (by omega) (by have h1 := hb1.size; have h2 := hb2.size; simp at h1 h2; omega) ?_; intro A3 c3 w3 hown3 hg3 hb3) | (at_builtin; refine wpList_push _ rfl (.tmp 39) (.tmp 41) 38 rfl w.heap.size 3 (.int .i64 0) 1 8 infoInt rfl (by omega) Try.underlying38 A1 k c1 (ints (l.take k)) rfl (hown1.alloc _) (some ⟨w1.heap.size, 0, none⟩) 1 1 [.int .i64 v] rfl (reads_new _ _ _) (by simp [Value.oneCell']) (by omega) (by omega) (by have := hb1.size; simp at this; simp; omega) ?_; intro A2 c2 w2 hown2 hg2 hb2) | (at_builtin; refine wpList_push _ rfl (.tmp 34) (.tmp 37) 38 rfl (w.heap.size) 3 (.int .i64 0) 1 8 infoInt rfl (by omega) Try.underlying38 (some ⟨w.heap.size, 0, none⟩) 0 0 [] rfl (World.ownsRow_made w #[] 0 (Nat.le_refl _) (by unfold maxLen; omega) rfl) A k c (ints (l.take k)) rfl (HRT.out.alloc _) (one_ints _) (by omega) (by omega) (by first | (simp; done) | (simp; omega) | omega) ?_; intro A1 c1 w1 hown1 hg1 hb1; rw [Nat.zero_add, List.nil_append] at hown1))
      all_goals
        go_ret
        rw [HLEN.out, HIL.out]
        exact ⟨A3, c3, rfl, own_mono hown3 hbase, ((((Below.refl w.heap.size w).alloc (Nat.le_refl _) _).trans hb1).trans (((Below.refl _ _).alloc (Nat.le_trans (by simp) hb1.size) _).trans hb2)).trans (hb3.mono (Nat.le_refl _))⟩

end Go.Proofs.Ytjibdabedagghaa
