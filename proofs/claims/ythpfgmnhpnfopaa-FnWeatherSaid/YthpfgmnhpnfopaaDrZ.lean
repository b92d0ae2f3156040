/- The spec's drawing of fogs by slots. No conditions. -/
import Derived.Test.YthpfgmnhpnfopaaNw2
import Derived.Test.YthpfgmnhpnfopaaDrY
namespace Go.Proofs.Ythpfgmnhpnfopaa
set_option linter.unusedSimpArgs false
set_option linter.unusedVariables false
open Go.RowKit

theorem box_put2 {w : World} {b : Nat} {a0 a1 v0 v1 : Value} {t : TypeId} (h : w.heap[b]? = some (.cells #[a0, a1] t (0, 0))) : ((w.setCell ⟨b, 0, none⟩ v0).setCell ⟨b, 1, none⟩ v1).heap[b]? = some (.cells #[v0, v1] t (0, 0)) := by
  simp [World.setCell, Array.getElem?_modify, h]
theorem mem_put {α : Type} {P : α → Prop} {L : List α} {j : Nat} {x : α} (h : ∀ l ∈ L, P l) (hx : P x) : ∀ l ∈ L.set j x, P l := fun l hl => by
  rcases List.mem_or_eq_of_mem_set hl with hl | hl
  · exact h l hl
  · rw [hl]; exact hx
theorem mem_push {α : Type} {P : α → Prop} {L : List α} {x : α} (h : ∀ l ∈ L, P l) (hx : P x) : ∀ l ∈ L ++ [x], P l := fun l hl => by
  rcases List.mem_append.1 hl with hl | hl
  · exact h l hl
  · simp at hl; rw [hl]; exact hx

set_option maxHeartbeats 4000000 in
set_option maxRecDepth 100000 in
theorem drawFogsBySlots_any (A : Option Addr) (n c : Nat) (l : List Int) (w : World) (hn : n ≤ 9223372036854775807) (hl : ∀ x ∈ l, 0 ≤ x ∧ x ≤ 255) (h : Reads w 1 A n (bytesV l)) :
    Calls Try.prog 60 #[.slice A n c] w fun e w' => ∃ At ct T Ak ck K B b d L, e = .returned (.tuple #[.agg #[.slice At (List.length T) ct, .slice Ak (List.length K) ck], .slice B b d]) ∧ T.length ≤ 17 ∧ K.length ≤ 41 ∧ b ≤ 41 ∧ (∀ l ∈ L, List.length l ≤ 22) ∧ w'.ownsRow w.heap.size 121 3 (.slice At T.length ct) T.length (rows3 T) ∧ w'.ownsRow w.heap.size 123 3 (.slice Ak K.length ck) K.length (rows3 K) ∧ Reads2 w' 1 B b (rowsBoolss L) ∧ Below w.heap.size w w' := by
  have HC : Hid (Cur ((w.alloc (.cells #[.slice none 0 0, .slice none 0 0] 68)).alloc (.cells #[.slice A n c, .int .i64 0, .int .u64 0] 100)) (w.heap.size + 1) 0) := Lib.hid (by have h1 := Cur.new (c := c) (h.alloc (.cells #[.slice none 0 0, .slice none 0 0] 68)) hn hl; rw [World.size_alloc] at h1; exact h1)
  have HB0 : Hid (Below w.heap.size w ((w.alloc (.cells #[.slice none 0 0, .slice none 0 0] 68)).alloc (.cells #[.slice A n c, .int .i64 0, .int .u64 0] 100))) := Lib.hid (((Below.refl _ _).alloc (Nat.le_refl _) _).alloc (by simp) _)
  have HZ0 : Hid (((w.alloc (.cells #[.slice none 0 0, .slice none 0 0] 68)).alloc (.cells #[.slice A n c, .int .i64 0, .int .u64 0] 100)).heap.size = w.heap.size + 2) := Lib.hid (by simp)
  have HRES : Hid (((w.alloc (.cells #[.slice none 0 0, .slice none 0 0] 68)).alloc (.cells #[.slice A n c, .int .i64 0, .int .u64 0] 100)).heap[w.heap.size]? = some (.cells #[.slice none 0 0, .slice none 0 0] 68)) := Lib.hid (by rw [heap_alloc_old (w.alloc (.cells #[.slice none 0 0, .slice none 0 0] 68)) _ (by simp)]; exact heap_alloc_new w _)
  clear h hn hl
  go_enter Try.func60, Try.ntmps60
  go_wp2_with fail
  generalize hwb : (w.alloc (.cells #[.slice none 0 0, .slice none 0 0] 68)).alloc (.cells #[.slice A n c, .int .i64 0, .int .u64 0] 100) = wb at *
  clear hwb
  refine (net_any (w.heap.size + 1) 0 wb (by omega) HC.out).mono ?_
  rintro e w1 ⟨At, ct, T, Ak, ck, K, rfl, hT, hK, hoT, hoK, hap, hc, hd⟩
  have HC := Lib.hid hc; have HD := Lib.hid hd
  have HT := Lib.hid (own_mono hoT (base' := w.heap.size + 2) (by have := HZ0.out; omega)); have HK := Lib.hid (own_mono hoK (base' := w.heap.size + 2) (by have := HZ0.out; omega))
  have HSZ1 : Hid (w.heap.size + 2 ≤ w1.heap.size) := Lib.hid (by have := hd.size; have := HZ0.out; omega)
  have HSZ2 : Hid ((w1.alloc (.cells #[.slice At (List.length T) ct, .slice Ak (List.length K) ck] 68)).heap.size = w1.heap.size + 1) := Lib.hid (by simp)
  have HN2 : Hid ((w1.alloc (.cells #[.slice At (List.length T) ct, .slice Ak (List.length K) ck] 68)).heap[w1.heap.size]? = some (.cells #[.slice At (List.length T) ct, .slice Ak (List.length K) ck] 68 (0, 0))) := Lib.hid (heap_alloc_new w1 _)
  have HB12 : Hid (Below w1.heap.size w1 (w1.alloc (.cells #[.slice At (List.length T) ct, .slice Ak (List.length K) ck] 68))) := Lib.hid ((Below.refl _ _).alloc (Nat.le_refl _) _)
  clear hc hd hoT hoK hap
  go_wp2_with fail
  generalize w1.alloc (.cells #[.slice At (List.length T) ct, .slice Ak (List.length K) ck] 68) = w2 at *
  have HD := Lib.hid (Drew.then_below HD.out (HB12.out.mono (by have := HSZ1.out; have := HZ0.out; omega)))
  have HC := Lib.hid (HC.out.below HB12.out)
  have HT := Lib.hid (own_below HT.out HB12.out); have HK := Lib.hid (own_below HK.out HB12.out)
  refine (amongLit_any (w.heap.size + 1) _ [0, 1, 3, 8, 20, 21] 3 _ _ _ (by rw [HSZ2.out]) rfl (by omega) (by simp) (by simp) HC.out).mono ?_
  rintro e w3 ⟨slots, hsl, rfl, hc, hd⟩
  have HC := Lib.hid hc; have HD3 := Lib.hid hd
  obtain ⟨S, hS, hS21⟩ : ∃ S : Nat, slots = (S : Int) ∧ S ≤ 21 := ⟨slots.toNat, by simp at hsl; omega, by simp at hsl; omega⟩
  subst hS
  clear hc hd hsl
  go_wp2_with fail
  refine (amongLit_any (w.heap.size + 1) _ [2, 4, 8] 3 _ _ _ rfl rfl (by omega) (by simp) (by simp) HC.out).mono ?_
  rintro e w4 ⟨few, hfw, rfl, hc, hd⟩
  have hfew : few ≤ 8 := by simp at hfw; omega
  have HC := Lib.hid (hc.mono (k' := 5000) (by omega)); have HD4 := Lib.hid (HD3.out.trans hd)
  clear hc hd hfw HD3
  have HT := Lib.hid (Drew.own HD4.out HT.out (by omega)); have HK := Lib.hid (Drew.own HD4.out HK.out (by omega))
  have HN5 : Hid (w4.heap[w1.heap.size]? = some (.cells #[.slice At (List.length T) ct, .slice Ak (List.length K) ck] 68 (0, 0))) := Lib.hid ((HD4.out.block _ (by have := HSZ2.out; omega) (by have := HSZ1.out; omega)).trans HN2.out)
  have HD := Lib.hid (HD.out.trans HD4.out)
  have HRES : Hid (w4.heap[w.heap.size]? = some (.cells #[.slice none 0 0, .slice none 0 0] 68)) := Lib.hid ((HD.out.block _ (by have := HZ0.out; omega) (by omega)).trans HRES.out)
  have HB4 : Hid (Below w.heap.size w w4) := Lib.hid (HB0.out.trans (Drew.allB HD.out (by omega) (by have := HZ0.out; omega)))
  have HSZ : Hid (w.heap.size + 2 ≤ w1.heap.size ∧ w1.heap.size < w4.heap.size) := Lib.hid (by have h2 := HSZ1.out; have h3 := HSZ2.out; have h4 := HD4.out.size; omega)
  clear HB0 HZ0 HD4 HN2 HSZ2 HSZ1 HB12 HD
  obtain ⟨lo, hlo⟩ : ∃ lo, lo = w4.heap.size := ⟨_, rfl⟩
  have HLO := Lib.hid hlo
  clear hlo
  have hk1 : K.length ≤ 40 := hK
  go_wp2
  go_loopw [8] (fun v wr => ∃ q B d L hs, v = .slice B q d ∧ List.length L = q ∧ q ≤ K.length ∧ (∀ l ∈ L, List.length l ≤ 21) ∧ Own2 wr lo wr.heap.size 28 4 1 B q d (rowsBoolss L) hs ∧ Cur wr (w.heap.size + 1) (5000 + 44 * q) ∧ Drew (w.heap.size + 1) w4 wr) (fun v _ => K.length - lenV v)
  case atStart => exact ⟨0, none, 0, [], [], rfl, rfl, Nat.zero_le _, (by simp), own2_nil _ _, HC.out, Turned.refl⟩
  case round =>
    obtain ⟨q, B, d, L, hs, rfl, hlq, hq, hls, hown, hc, hd⟩ := hrel
    have HLQ := Lib.hid hlq; have HLS := Lib.hid hls; have HO := Lib.hid hown; have HC := Lib.hid hc; have HD := Lib.hid hd
    clear hlq hls hown hc hd
    obtain ⟨wo, rfl⟩ : ∃ wo, wo = wr := ⟨_, rfl⟩
    have hn5 : wo.heap[w1.heap.size]? = some (.cells #[.slice At (List.length T) ct, .slice Ak (List.length K) ck] 68 (0, 0)) := (HD.out.block _ (by have := HSZ.out; omega) (by have := HSZ.out; omega)).trans HN5.out
    obtain ⟨n1, _⟩ := box_at hn5 (j := 1) (u := .slice Ak K.length ck) rfl
    clear hn5
    by_cases hlt : q < K.length
    · go_wp2
      clear n1
      go_loopw [9] (fun v wr => ∃ m A2 c2 l, v = .slice A2 m c2 ∧ List.length l = m ∧ m ≤ S ∧ wr.ownsRow wo.heap.size 4 1 (.slice A2 m c2) m (bools l) ∧ Cur wr (w.heap.size + 1) (5000 + 44 * q + 2 * m) ∧ Drew (w.heap.size + 1) wo wr) (fun v _ => S - lenV v)
      case atStart => exact ⟨0, none, 0, [], rfl, rfl, Nat.zero_le _, own_start, HC.out, Turned.refl⟩
      case round =>
        obtain ⟨m, A2, c2, l, rfl, hlm, hm, hown, hc, hd⟩ := hrel
        have HLM := Lib.hid hlm; have HOI := Lib.hid hown; have HCI := Lib.hid hc; have HDI := Lib.hid hd
        clear hlm hown hc hd
        have HLOW : Hid (lo ≤ wo.heap.size) := Lib.hid (by have := HD.out.size; have := HLO.out; omega)
        have HGL : Hid (w.heap.size + 1 < lo) := Lib.hid (by have := HSZ.out; have := HLO.out; omega)
        obtain ⟨wi, rfl⟩ : ∃ wi, wi = wr := ⟨_, rfl⟩
        by_cases hlt2 : m < S
        · go_wp2_with fail
          refine (one_any (w.heap.size + 1) _ few _ (by omega) (by omega) HCI.out).mono ?_
          rintro e w5 ⟨b, rfl, hc, hd⟩
          have HCI := Lib.hid hc; have HOI := Lib.hid (Drew.own hd HOI.out (by have := HLOW.out; have := HGL.out; omega)); have HDI := Lib.hid (HDI.out.trans hd)
          clear hc hd
          have HZ : Hid (wo.heap.size ≤ w5.heap.size) := Lib.hid HDI.out.size
          go_wp2_with (at_builtin; refine wpList_push _ rfl (.tmp 31) (.tmp 35) 28 rfl wo.heap.size 4 (.bool false) 1 1 infoBool rfl (by omega) Try.underlying28 A2 m c2 (bools l) rfl (HOI.out.alloc _) (some ⟨w5.heap.size, 0, none⟩) 1 1 [.bool b] rfl (reads_new _ _ _) (by simp [Value.oneCell']) (by omega) (by omega) (by have := HZ.out; simp; omega) ?_; intro A' c' w6 hown6 hg6 hb6)
          have hb7 : Below wo.heap.size w5 w6 := ((Below.refl _ _).alloc HZ.out _).trans hb6
          have HO6 := Lib.hid hown6; have HC6 := Lib.hid (HCI.out.below' hb7 (by have := HLOW.out; have := HGL.out; omega)); have HD6 := Lib.hid (Drew.then_below HDI.out hb7)
          clear hown6 hg6 hb6 hb7
          go_roundw
          case rel => exact ⟨m + 1, A', c', l ++ [b], rfl, by simp [HLM.out], by omega, by rw [show bools (l ++ [b]) = bools l ++ [.bool b] from by simp [bools]]; exact HO6.out, HC6.out.mono (by omega), HD6.out⟩
          case measure => simp [lenV]; omega
        · have hl21 : l.length ≤ 21 := by have := HLM.out; omega
          have HO2 := Lib.hid (HO.out.turned_before HDI.out (Nat.le_refl _) (by have := HGL.out; omega))
          have HLL : Hid (m = (bools l).length) := Lib.hid (by have := HLM.out; simp; omega)
          have HZ2 : Hid (wo.heap.size ≤ wi.heap.size) := Lib.hid HDI.out.size
          go_wp2_with (at_builtin; refine wpList_pushL _ rfl (.tmp 37) (.tmp 39) 75 rfl lo 28 (.slice none 0 0) 1 24 infoBools rfl (by omega) Try.underlying75 B q d hs rfl (HO2.out.row.alloc _) (some ⟨wi.heap.size, 0, none⟩) 1 1 [.slice A2 m c2] rfl (reads_litk wi [.slice A2 m c2] _ rfl) (by simp [Value.oneCell']) (by omega) (by omega) (by have := HLOW.out; have := HZ2.out; simp; omega) ?_; intro A5 c5 w6 hown6 hg6 hb6 hl6)
          have hn := HO2.out.push_mid HLL.out HLOW.out HZ2.out HOI.out hg6 hown6 hl6
          have HN := Lib.hid hn
          have hb7 : Below lo wi w6 := ((Below.refl _ _).alloc (by have := HLOW.out; have := HZ2.out; omega) _).trans hb6
          have HC6 := Lib.hid (HCI.out.below' hb7 HGL.out); have HD6 := Lib.hid (Drew.then_below (HD.out.trans HDI.out) (by rw [← HLO.out]; exact hb7))
          clear hn hown6 hg6 hb6 hl6 hb7
          go_roundw
          case rel => exact ⟨q + 1, A5, c5, L ++ [l], _, rfl, by simp [HLQ.out], by omega, mem_push HLS.out hl21, by rw [rowsBoolss_append]; exact HN.out, HC6.out.mono (by omega), HD6.out⟩
          case measure => simp [lenV]; omega
    · obtain rfl : q = K.length := by omega
      clear hq hlt
      by_cases h0 : K.length = 0
      · have hq0 : ¬ (0 : Int) < (K.length : Int) := by omega
        clear h0 n1
        have hres : wo.heap[w.heap.size]? = some (.cells #[.slice none 0 0, .slice none 0 0] 68) := (HD.out.block _ (by have := HSZ.out; omega) (by omega)).trans HRES.out
        have hn5 : wo.heap[w1.heap.size]? = some (.cells #[.slice At (List.length T) ct, .slice Ak (List.length K) ck] 68 (0, 0)) := (HD.out.block _ (by have := HSZ.out; omega) (by have := HSZ.out; omega)).trans HN5.out
        obtain ⟨r0, y0⟩ := box_at hres (j := 0) (u := .slice none 0 0) rfl
        obtain ⟨r1, y1⟩ := box_at hres (j := 1) (u := .slice none 0 0) rfl
        obtain ⟨n0, _⟩ := box_at hn5 (j := 0) (u := .slice At T.length ct) rfl
        obtain ⟨n1, _⟩ := box_at hn5 (j := 1) (u := .slice Ak K.length ck) rfl
        have HBW : Hid (Below w.heap.size w wo) := Lib.hid (HB4.out.trans (Drew.allB HD.out (by omega) (by have := HSZ.out; omega)))
        have HH : Hid (((wo.setCell ⟨w.heap.size, 0, none⟩ (.slice At T.length ct)).setCell ⟨w.heap.size, 1, none⟩ (.slice Ak K.length ck)).heap[w.heap.size]? = some (.cells #[.slice At T.length ct, .slice Ak K.length ck] 68 (0, 0))) := Lib.hid (box_put2 hres)
        clear hres hn5
        go_wp2
        obtain ⟨z0, _⟩ := box_at HH.out (j := 0) (u := .slice At T.length ct) rfl
        obtain ⟨z1, _⟩ := box_at HH.out (j := 1) (u := .slice Ak K.length ck) rfl
        have hB : Below w.heap.size wo ((wo.setCell ⟨w.heap.size, 0, none⟩ (.slice At T.length ct)).setCell ⟨w.heap.size, 1, none⟩ (.slice Ak K.length ck)) := ((Below.refl _ _).setCell (p := ⟨w.heap.size, 0, none⟩) (Nat.le_refl _) _).setCell (p := ⟨w.heap.size, 1, none⟩) (Nat.le_refl _) _
        have hno : ∀ (i : Nat) (u : Value) (W : World) (e : TypeId) (v : Value) (n : Nat) (xs : List Value), W.ownsRow (w.heap.size + 2) e 3 v n xs → (W.setCell ⟨w.heap.size, i, none⟩ u).ownsRow (w.heap.size + 2) e 3 v n xs := fun i u W e v n xs ho => own_set ho (fun e' => by have := (ho.lt _ e').1; omega)
        have ho2 := (HO.out.setOther (g := w.heap.size) (i := 0) (u := .slice At T.length ct) (fun e' => by have := (HO.out.lt e').1; have := HSZ.out; have := HLO.out; omega)).setOther (g := w.heap.size) (i := 1) (u := .slice Ak K.length ck) (fun e' => by have := (HO.out.lt e').1; have := HSZ.out; have := HLO.out; omega)
        try simp only [Exit.inBlock, Exit.then]
        refine bodyPost_ret (v := .tuple #[.agg #[.slice At T.length ct, .slice Ak K.length ck], .slice B K.length d]) (by simp [results, Try.results60, go_sem, z0, z1]) rfl ?_
        have hoT : ((wo.setCell ⟨w.heap.size, 0, none⟩ (.slice At T.length ct)).setCell ⟨w.heap.size, 1, none⟩ (.slice Ak K.length ck)).ownsRow w.heap.size 121 3 (.slice At T.length ct) T.length (rows3 T) := own_mono (hno _ _ _ _ _ _ _ (hno _ _ _ _ _ _ _ (Drew.own HD.out HT.out (by omega)))) (by omega)
        have hoK : ((wo.setCell ⟨w.heap.size, 0, none⟩ (.slice At T.length ct)).setCell ⟨w.heap.size, 1, none⟩ (.slice Ak K.length ck)).ownsRow w.heap.size 123 3 (.slice Ak K.length ck) K.length (rows3 K) := own_mono (hno _ _ _ _ _ _ _ (hno _ _ _ _ _ _ _ (Drew.own HD.out HK.out (by omega)))) (by omega)
        first
          | exact ⟨At, ct, T, Ak, ck, K, B, K.length, ⟨d, rfl⟩, by omega, by omega, by omega, L, (fun l hl => Nat.le_succ_of_le (HLS.out l hl)), hoT, hoK, Reads2.of_own ho2, HBW.out.trans hB⟩
          | exact ⟨At, ct, T, Ak, ck, K, B, K.length, d, L, rfl, by omega, by omega, by omega, (fun l hl => Nat.le_succ_of_le (HLS.out l hl)), hoT, hoK, Reads2.of_own ho2, HBW.out.trans hB⟩
      · have hq0 : (0 : Int) < (K.length : Int) := by omega
        have hql : 0 < L.length := by have := HLQ.out; omega
        go_wp2_with fail
        clear n1
        refine (pick_any (w.heap.size + 1) _ (20) _ (by omega) (by omega) HC.out).mono ?_
        rintro e w5 ⟨v, rfl, hv, hv', hc, hd⟩
        have HWO : Hid (wo.heap.size ≤ w5.heap.size ∧ lo ≤ wo.heap.size) := Lib.hid ⟨hd.size, by have := HD.out.size; have := HLO.out; omega⟩
        have HO := Lib.hid (HO.out.turned_before hd (Nat.le_refl _) (by have := HSZ.out; have := HLO.out; omega)); have HD := Lib.hid (HD.out.trans hd)
        clear hc hd HC
        by_cases hv0 : v = 0
        · subst hv0
          have hcc := own_cap HO.out.row
          obtain ⟨ga, rfl, hga⟩ := own_at0 HO.out.row (by omega)
          clear hga
          by_cases hc1 : d = 1
          · subst hc1
            have hres : w5.heap[w.heap.size]? = some (.cells #[.slice none 0 0, .slice none 0 0] 68) := (HD.out.block _ (by have := HSZ.out; omega) (by omega)).trans HRES.out
            have hn5 : w5.heap[w1.heap.size]? = some (.cells #[.slice At (List.length T) ct, .slice Ak (List.length K) ck] 68 (0, 0)) := (HD.out.block _ (by have := HSZ.out; omega) (by have := HSZ.out; omega)).trans HN5.out
            obtain ⟨r0, y0⟩ := box_at hres (j := 0) (u := .slice none 0 0) rfl
            obtain ⟨r1, y1⟩ := box_at hres (j := 1) (u := .slice none 0 0) rfl
            obtain ⟨n0, _⟩ := box_at hn5 (j := 0) (u := .slice At T.length ct) rfl
            obtain ⟨n1, _⟩ := box_at hn5 (j := 1) (u := .slice Ak K.length ck) rfl
            have HBW : Hid (Below w.heap.size w w5) := Lib.hid (HB4.out.trans (Drew.allB HD.out (by omega) (by have := HSZ.out; omega)))
            have HH : Hid (((w5.setCell ⟨w.heap.size, 0, none⟩ (.slice At T.length ct)).setCell ⟨w.heap.size, 1, none⟩ (.slice Ak K.length ck)).heap[w.heap.size]? = some (.cells #[.slice At T.length ct, .slice Ak K.length ck] 68 (0, 0))) := Lib.hid (box_put2 hres)
            clear hres hn5
            go_wp2
            obtain ⟨z0, _⟩ := box_at HH.out (j := 0) (u := .slice At T.length ct) rfl
            obtain ⟨z1, _⟩ := box_at HH.out (j := 1) (u := .slice Ak K.length ck) rfl
            have hB : Below w.heap.size w5 ((w5.setCell ⟨w.heap.size, 0, none⟩ (.slice At T.length ct)).setCell ⟨w.heap.size, 1, none⟩ (.slice Ak K.length ck)) := ((Below.refl _ _).setCell (p := ⟨w.heap.size, 0, none⟩) (Nat.le_refl _) _).setCell (p := ⟨w.heap.size, 1, none⟩) (Nat.le_refl _) _
            have hno : ∀ (i : Nat) (u : Value) (W : World) (e : TypeId) (v : Value) (n : Nat) (xs : List Value), W.ownsRow (w.heap.size + 2) e 3 v n xs → (W.setCell ⟨w.heap.size, i, none⟩ u).ownsRow (w.heap.size + 2) e 3 v n xs := fun i u W e v n xs ho => own_set ho (fun e' => by have := (ho.lt _ e').1; omega)
            have ho2 := (HO.out.setOther (g := w.heap.size) (i := 0) (u := .slice At T.length ct) (fun e' => by have := (HO.out.lt e').1; have := HSZ.out; have := HLO.out; omega)).setOther (g := w.heap.size) (i := 1) (u := .slice Ak K.length ck) (fun e' => by have := (HO.out.lt e').1; have := HSZ.out; have := HLO.out; omega)
            try simp only [Exit.inBlock, Exit.then]
            refine bodyPost_ret (v := .tuple #[.agg #[.slice At T.length ct, .slice Ak K.length ck], .slice (some ⟨ga, 0, none⟩) 0 0]) (by simp [results, Try.results60, go_sem, z0, z1]) rfl ?_
            have hoT : ((w5.setCell ⟨w.heap.size, 0, none⟩ (.slice At T.length ct)).setCell ⟨w.heap.size, 1, none⟩ (.slice Ak K.length ck)).ownsRow w.heap.size 121 3 (.slice At T.length ct) T.length (rows3 T) := own_mono (hno _ _ _ _ _ _ _ (hno _ _ _ _ _ _ _ (Drew.own HD.out HT.out (by omega)))) (by omega)
            have hoK : ((w5.setCell ⟨w.heap.size, 0, none⟩ (.slice At T.length ct)).setCell ⟨w.heap.size, 1, none⟩ (.slice Ak K.length ck)).ownsRow w.heap.size 123 3 (.slice Ak K.length ck) K.length (rows3 K) := own_mono (hno _ _ _ _ _ _ _ (hno _ _ _ _ _ _ _ (Drew.own HD.out HK.out (by omega)))) (by omega)
            first
              | exact ⟨At, ct, T, Ak, ck, K, (some ⟨ga, 0, none⟩), 0, ⟨0, rfl⟩, by omega, by omega, by omega, [], (by simp), hoT, hoK, Reads2.nil, HBW.out.trans hB⟩
              | exact ⟨At, ct, T, Ak, ck, K, (some ⟨ga, 0, none⟩), 0, 0, [], rfl, by omega, by omega, by omega, (by simp), hoT, hoK, Reads2.nil, HBW.out.trans hB⟩
          · have hres : w5.heap[w.heap.size]? = some (.cells #[.slice none 0 0, .slice none 0 0] 68) := (HD.out.block _ (by have := HSZ.out; omega) (by omega)).trans HRES.out
            have hn5 : w5.heap[w1.heap.size]? = some (.cells #[.slice At (List.length T) ct, .slice Ak (List.length K) ck] 68 (0, 0)) := (HD.out.block _ (by have := HSZ.out; omega) (by have := HSZ.out; omega)).trans HN5.out
            obtain ⟨r0, y0⟩ := box_at hres (j := 0) (u := .slice none 0 0) rfl
            obtain ⟨r1, y1⟩ := box_at hres (j := 1) (u := .slice none 0 0) rfl
            obtain ⟨n0, _⟩ := box_at hn5 (j := 0) (u := .slice At T.length ct) rfl
            obtain ⟨n1, _⟩ := box_at hn5 (j := 1) (u := .slice Ak K.length ck) rfl
            have HBW : Hid (Below w.heap.size w w5) := Lib.hid (HB4.out.trans (Drew.allB HD.out (by omega) (by have := HSZ.out; omega)))
            have HH : Hid (((w5.setCell ⟨w.heap.size, 0, none⟩ (.slice At T.length ct)).setCell ⟨w.heap.size, 1, none⟩ (.slice Ak K.length ck)).heap[w.heap.size]? = some (.cells #[.slice At T.length ct, .slice Ak K.length ck] 68 (0, 0))) := Lib.hid (box_put2 hres)
            clear hres hn5
            go_wp2
            obtain ⟨z0, _⟩ := box_at HH.out (j := 0) (u := .slice At T.length ct) rfl
            obtain ⟨z1, _⟩ := box_at HH.out (j := 1) (u := .slice Ak K.length ck) rfl
            have hB : Below w.heap.size w5 ((w5.setCell ⟨w.heap.size, 0, none⟩ (.slice At T.length ct)).setCell ⟨w.heap.size, 1, none⟩ (.slice Ak K.length ck)) := ((Below.refl _ _).setCell (p := ⟨w.heap.size, 0, none⟩) (Nat.le_refl _) _).setCell (p := ⟨w.heap.size, 1, none⟩) (Nat.le_refl _) _
            have hno : ∀ (i : Nat) (u : Value) (W : World) (e : TypeId) (v : Value) (n : Nat) (xs : List Value), W.ownsRow (w.heap.size + 2) e 3 v n xs → (W.setCell ⟨w.heap.size, i, none⟩ u).ownsRow (w.heap.size + 2) e 3 v n xs := fun i u W e v n xs ho => own_set ho (fun e' => by have := (ho.lt _ e').1; omega)
            have ho2 := (HO.out.setOther (g := w.heap.size) (i := 0) (u := .slice At T.length ct) (fun e' => by have := (HO.out.lt e').1; have := HSZ.out; have := HLO.out; omega)).setOther (g := w.heap.size) (i := 1) (u := .slice Ak K.length ck) (fun e' => by have := (HO.out.lt e').1; have := HSZ.out; have := HLO.out; omega)
            try simp only [Exit.inBlock, Exit.then]
            refine bodyPost_ret (v := .tuple #[.agg #[.slice At T.length ct, .slice Ak K.length ck], .slice (some ⟨ga, 1, none⟩) (K.length - 1) (d - 1)]) (by simp [results, Try.results60, go_sem, z0, z1]) rfl ?_
            have hoT : ((w5.setCell ⟨w.heap.size, 0, none⟩ (.slice At T.length ct)).setCell ⟨w.heap.size, 1, none⟩ (.slice Ak K.length ck)).ownsRow w.heap.size 121 3 (.slice At T.length ct) T.length (rows3 T) := own_mono (hno _ _ _ _ _ _ _ (hno _ _ _ _ _ _ _ (Drew.own HD.out HT.out (by omega)))) (by omega)
            have hoK : ((w5.setCell ⟨w.heap.size, 0, none⟩ (.slice At T.length ct)).setCell ⟨w.heap.size, 1, none⟩ (.slice Ak K.length ck)).ownsRow w.heap.size 123 3 (.slice Ak K.length ck) K.length (rows3 K) := own_mono (hno _ _ _ _ _ _ _ (hno _ _ _ _ _ _ _ (Drew.own HD.out HK.out (by omega)))) (by omega)
            first
              | exact ⟨At, ct, T, Ak, ck, K, (some ⟨ga, 1, none⟩), (K.length - 1), ⟨(d - 1), rfl⟩, by omega, by omega, by omega, (L.drop 1), (fun l hl => Nat.le_succ_of_le (HLS.out l (List.mem_of_mem_drop hl))), hoT, hoK, by rw [← rowsBoolss_drop]; exact (Reads2.of_own ho2).rest (by omega), HBW.out.trans hB⟩
              | exact ⟨At, ct, T, Ak, ck, K, (some ⟨ga, 1, none⟩), (K.length - 1), (d - 1), (L.drop 1), rfl, by omega, by omega, by omega, (fun l hl => Nat.le_succ_of_le (HLS.out l (List.mem_of_mem_drop hl))), hoT, hoK, by rw [← rowsBoolss_drop]; exact (Reads2.of_own ho2).rest (by omega), HBW.out.trans hB⟩
        · by_cases hv1 : v = 1
          · subst hv1
            obtain ⟨ga, Ai, ci, e1, hu, k0, f0, ro⟩ := HO.out.at_ (rowsBoolss_get hql)
            subst e1
            have HGA : Hid (lo ≤ ga) := Lib.hid (HO.out.row.lt ga rfl).1
            have HLL := Lib.hid (HLS.out L[0] (List.getElem_mem hql))
            have HG0 := Lib.hid (rowsBoolss_get hql)
            generalize L[0] = l0 at *
            simp only [length_bools] at hu k0 ro
            have hl21 : l0.length ≤ 21 := HLL.out
            have HU := Lib.hid hu; have HRO := Lib.hid (own_below ro ((Below.refl _ _).alloc (Nat.le_refl _) (.cells #[.bool true] 4)))
            have HOA := Lib.hid (HO.out.below ((Below.refl w5.heap.size w5).alloc (Nat.le_refl _) (.cells #[.bool true] 4)) HWO.out.1)
            have HHS : Hid (0 < hs.length) := Lib.hid (List.getElem?_eq_some_iff.1 hu).1
            clear hu ro
            go_wp2_with (at_builtin; refine wpList_pushL _ rfl (.tmp 55) (.tmp 56) 28 rfl lo 4 (.bool false) 1 1 infoBool rfl (by omega) Try.underlying28 Ai l0.length ci (bools l0) rfl HRO.out (some ⟨w5.heap.size, 0, none⟩) 1 1 [.bool true] rfl (reads_new _ _ _) (by simp [Value.oneCell']) (by omega) (by omega) (by have := HWO.out; simp; omega) ?_; intro A5 c5 w6 hown6 hg6 hb6 hl6; obtain ⟨⟨ob, kb⟩, fb⟩ := HOA.out.outer rfl HU.out hg6 (i := 0) HHS.out; have hnew := HOA.out.regrown (hi2 := w6.heap.size) (v' := .slice A5 (l0.length + 1) c5) (l' := bools (l0 ++ [true])) (ci := c5) (Ai := A5) HG0.out HU.out hg6 (by have := HWO.out; simp; omega) (by simp) (by simpa [bools] using hown6) (hl6.elim .inl (fun h => .inr ⟨_, h, by have := HWO.out; simp; omega⟩)) (by have h1 := hg6.size; rw [World.size_alloc] at h1; have := HWO.out; omega) (own_lt hown6); have HBX : Hid (Below lo w5 (w6.setCell ⟨ga, 0, none⟩ (.slice A5 (l0.length + 1) c5))) := Lib.hid ((((Below.refl _ _).alloc (by have := HWO.out; omega) _).trans hb6).setCell (by have := HGA.out; simp only; omega) _); obtain ⟨W6, hW6⟩ : ∃ W6, w6.setCell ⟨ga, 0, none⟩ (.slice A5 (l0.length + 1) c5) = W6 := ⟨_, rfl⟩; rw [hW6] at hnew HBX; have HON := Lib.hid hnew; have HD6 := Lib.hid (Drew.then_below HD.out (by rw [← HLO.out]; exact HBX.out)); clear hnew hown6 hg6 hb6 hl6; have hres : W6.heap[w.heap.size]? = some (.cells #[.slice none 0 0, .slice none 0 0] 68) := (HD6.out.block _ (by have := HSZ.out; omega) (by omega)).trans HRES.out; have hn5 : W6.heap[w1.heap.size]? = some (.cells #[.slice At (List.length T) ct, .slice Ak (List.length K) ck] 68 (0, 0)) := (HD6.out.block _ (by have := HSZ.out; omega) (by have := HSZ.out; omega)).trans HN5.out; obtain ⟨r0, y0⟩ := box_at hres (j := 0) (u := .slice none 0 0) rfl; obtain ⟨r1, y1⟩ := box_at hres (j := 1) (u := .slice none 0 0) rfl; obtain ⟨n0, _⟩ := box_at hn5 (j := 0) (u := .slice At T.length ct) rfl; obtain ⟨n1, _⟩ := box_at hn5 (j := 1) (u := .slice Ak K.length ck) rfl; have HBW : Hid (Below w.heap.size w W6) := Lib.hid (HB4.out.trans (Drew.allB HD6.out (by omega) (by have := HSZ.out; omega))); have HH : Hid (((W6.setCell ⟨w.heap.size, 0, none⟩ (.slice At T.length ct)).setCell ⟨w.heap.size, 1, none⟩ (.slice Ak K.length ck)).heap[w.heap.size]? = some (.cells #[.slice At T.length ct, .slice Ak K.length ck] 68 (0, 0))) := Lib.hid (box_put2 hres); clear hres hn5)
            obtain ⟨z0, _⟩ := box_at HH.out (j := 0) (u := .slice At T.length ct) rfl
            obtain ⟨z1, _⟩ := box_at HH.out (j := 1) (u := .slice Ak K.length ck) rfl
            have hB : Below w.heap.size W6 ((W6.setCell ⟨w.heap.size, 0, none⟩ (.slice At T.length ct)).setCell ⟨w.heap.size, 1, none⟩ (.slice Ak K.length ck)) := ((Below.refl _ _).setCell (p := ⟨w.heap.size, 0, none⟩) (Nat.le_refl _) _).setCell (p := ⟨w.heap.size, 1, none⟩) (Nat.le_refl _) _
            have hno : ∀ (i : Nat) (u : Value) (W : World) (e : TypeId) (v : Value) (n : Nat) (xs : List Value), W.ownsRow (w.heap.size + 2) e 3 v n xs → (W.setCell ⟨w.heap.size, i, none⟩ u).ownsRow (w.heap.size + 2) e 3 v n xs := fun i u W e v n xs ho => own_set ho (fun e' => by have := (ho.lt _ e').1; omega)
            have ho2 := (HON.out.setOther (g := w.heap.size) (i := 0) (u := .slice At T.length ct) (fun e' => by have := (HON.out.lt e').1; have := HSZ.out; have := HLO.out; omega)).setOther (g := w.heap.size) (i := 1) (u := .slice Ak K.length ck) (fun e' => by have := (HON.out.lt e').1; have := HSZ.out; have := HLO.out; omega)
            try simp only [Exit.inBlock, Exit.then]
            refine bodyPost_ret (v := .tuple #[.agg #[.slice At T.length ct, .slice Ak K.length ck], .slice (some ⟨ga, 0, none⟩) K.length d]) (by simp [results, Try.results60, go_sem, z0, z1]) rfl ?_
            have hoT : ((W6.setCell ⟨w.heap.size, 0, none⟩ (.slice At T.length ct)).setCell ⟨w.heap.size, 1, none⟩ (.slice Ak K.length ck)).ownsRow w.heap.size 121 3 (.slice At T.length ct) T.length (rows3 T) := own_mono (hno _ _ _ _ _ _ _ (hno _ _ _ _ _ _ _ (Drew.own HD6.out HT.out (by omega)))) (by omega)
            have hoK : ((W6.setCell ⟨w.heap.size, 0, none⟩ (.slice At T.length ct)).setCell ⟨w.heap.size, 1, none⟩ (.slice Ak K.length ck)).ownsRow w.heap.size 123 3 (.slice Ak K.length ck) K.length (rows3 K) := own_mono (hno _ _ _ _ _ _ _ (hno _ _ _ _ _ _ _ (Drew.own HD6.out HK.out (by omega)))) (by omega)
            first
              | exact ⟨At, ct, T, Ak, ck, K, (some ⟨ga, 0, none⟩), K.length, ⟨d, rfl⟩, by omega, by omega, by omega, (L.set 0 (l0 ++ [true])), (mem_put (fun l hl => Nat.le_succ_of_le (HLS.out l hl)) (by simp; omega)), hoT, hoK, by rw [← rowsBoolss_set]; exact Reads2.of_own ho2, HBW.out.trans hB⟩
              | exact ⟨At, ct, T, Ak, ck, K, (some ⟨ga, 0, none⟩), K.length, d, (L.set 0 (l0 ++ [true])), rfl, by omega, by omega, by omega, (mem_put (fun l hl => Nat.le_succ_of_le (HLS.out l hl)) (by simp; omega)), hoT, hoK, by rw [← rowsBoolss_set]; exact Reads2.of_own ho2, HBW.out.trans hB⟩
          · have hvne0 : ((v : Int) == 0) = false := by rw [beq_eq_false_iff_ne]; omega
            have hvne1 : ((v : Int) == 1) = false := by rw [beq_eq_false_iff_ne]; omega
            have hres : w5.heap[w.heap.size]? = some (.cells #[.slice none 0 0, .slice none 0 0] 68) := (HD.out.block _ (by have := HSZ.out; omega) (by omega)).trans HRES.out
            have hn5 : w5.heap[w1.heap.size]? = some (.cells #[.slice At (List.length T) ct, .slice Ak (List.length K) ck] 68 (0, 0)) := (HD.out.block _ (by have := HSZ.out; omega) (by have := HSZ.out; omega)).trans HN5.out
            obtain ⟨r0, y0⟩ := box_at hres (j := 0) (u := .slice none 0 0) rfl
            obtain ⟨r1, y1⟩ := box_at hres (j := 1) (u := .slice none 0 0) rfl
            obtain ⟨n0, _⟩ := box_at hn5 (j := 0) (u := .slice At T.length ct) rfl
            obtain ⟨n1, _⟩ := box_at hn5 (j := 1) (u := .slice Ak K.length ck) rfl
            have HBW : Hid (Below w.heap.size w w5) := Lib.hid (HB4.out.trans (Drew.allB HD.out (by omega) (by have := HSZ.out; omega)))
            have HH : Hid (((w5.setCell ⟨w.heap.size, 0, none⟩ (.slice At T.length ct)).setCell ⟨w.heap.size, 1, none⟩ (.slice Ak K.length ck)).heap[w.heap.size]? = some (.cells #[.slice At T.length ct, .slice Ak K.length ck] 68 (0, 0))) := Lib.hid (box_put2 hres)
            clear hres hn5
            go_wp2
            obtain ⟨z0, _⟩ := box_at HH.out (j := 0) (u := .slice At T.length ct) rfl
            obtain ⟨z1, _⟩ := box_at HH.out (j := 1) (u := .slice Ak K.length ck) rfl
            have hB : Below w.heap.size w5 ((w5.setCell ⟨w.heap.size, 0, none⟩ (.slice At T.length ct)).setCell ⟨w.heap.size, 1, none⟩ (.slice Ak K.length ck)) := ((Below.refl _ _).setCell (p := ⟨w.heap.size, 0, none⟩) (Nat.le_refl _) _).setCell (p := ⟨w.heap.size, 1, none⟩) (Nat.le_refl _) _
            have hno : ∀ (i : Nat) (u : Value) (W : World) (e : TypeId) (v : Value) (n : Nat) (xs : List Value), W.ownsRow (w.heap.size + 2) e 3 v n xs → (W.setCell ⟨w.heap.size, i, none⟩ u).ownsRow (w.heap.size + 2) e 3 v n xs := fun i u W e v n xs ho => own_set ho (fun e' => by have := (ho.lt _ e').1; omega)
            have ho2 := (HO.out.setOther (g := w.heap.size) (i := 0) (u := .slice At T.length ct) (fun e' => by have := (HO.out.lt e').1; have := HSZ.out; have := HLO.out; omega)).setOther (g := w.heap.size) (i := 1) (u := .slice Ak K.length ck) (fun e' => by have := (HO.out.lt e').1; have := HSZ.out; have := HLO.out; omega)
            try simp only [Exit.inBlock, Exit.then]
            refine bodyPost_ret (v := .tuple #[.agg #[.slice At T.length ct, .slice Ak K.length ck], .slice B K.length d]) (by simp [results, Try.results60, go_sem, z0, z1]) rfl ?_
            have hoT : ((w5.setCell ⟨w.heap.size, 0, none⟩ (.slice At T.length ct)).setCell ⟨w.heap.size, 1, none⟩ (.slice Ak K.length ck)).ownsRow w.heap.size 121 3 (.slice At T.length ct) T.length (rows3 T) := own_mono (hno _ _ _ _ _ _ _ (hno _ _ _ _ _ _ _ (Drew.own HD.out HT.out (by omega)))) (by omega)
            have hoK : ((w5.setCell ⟨w.heap.size, 0, none⟩ (.slice At T.length ct)).setCell ⟨w.heap.size, 1, none⟩ (.slice Ak K.length ck)).ownsRow w.heap.size 123 3 (.slice Ak K.length ck) K.length (rows3 K) := own_mono (hno _ _ _ _ _ _ _ (hno _ _ _ _ _ _ _ (Drew.own HD.out HK.out (by omega)))) (by omega)
            first
              | exact ⟨At, ct, T, Ak, ck, K, B, K.length, ⟨d, rfl⟩, by omega, by omega, by omega, L, (fun l hl => Nat.le_succ_of_le (HLS.out l hl)), hoT, hoK, Reads2.of_own ho2, HBW.out.trans hB⟩
              | exact ⟨At, ct, T, Ak, ck, K, B, K.length, d, L, rfl, by omega, by omega, by omega, (fun l hl => Nat.le_succ_of_le (HLS.out l hl)), hoT, hoK, Reads2.of_own ho2, HBW.out.trans hB⟩

end Go.Proofs.Ythpfgmnhpnfopaa
