/- Contracts of the two functions that give the delays of all messages. No conditions. -/
import Derived.Test.YtgdlaeibdpbgdaaTr1
namespace Go.Proofs.Ytgdlaeibdpbgdaa
set_option linter.unusedSimpArgs false
set_option linter.unusedVariables false
open Go.RowKit

def reset (t : Int) (su : Int × Int) : Int × Int := if su.1 < t then (t, 0) else su
def nxt (cap t : Int) (su : Int × Int) : Int × Int :=
  if (reset t su).2 = cap then ((reset t su).1 + 1, 1) else ((reset t su).1, (reset t su).2 + 1)
def run (cap t : Int) : Nat → Int × Int → List Int
  | 0, _ => []
  | m + 1, su => ((nxt cap t su).1 - t) :: run cap t m (nxt cap t su)
def fin (cap t : Int) : Nat → Int × Int → Int × Int
  | 0, su => su
  | m + 1, su => fin cap t m (nxt cap t su)
def dl (cap : Int) : Int → Int × Int → List Int → List Int
  | _, _, [] => []
  | t, su, x :: r => run cap t x.toNat su ++ dl cap (t + 1) (fin cap t x.toNat su) r
theorem reset_reset {t t' : Int} (h : t ≤ t') (su : Int × Int) : reset t' (reset t su) = reset t' su := by
  unfold reset
  by_cases h1 : su.1 < t
  · rw [if_pos h1, if_pos (by omega : su.1 < t')]
    by_cases h2 : t < t'
    · rw [if_pos h2]
    · rw [if_neg h2]
      have : t = t' := by omega
      rw [this]
  · rw [if_neg h1]
theorem nxt_reset {t t' : Int} (h : t ≤ t') (cap : Int) (su : Int × Int) : nxt cap t' (reset t su) = nxt cap t' su := by unfold nxt; rw [reset_reset h]
theorem dl_reset (cap : Int) (xs : List Int) : ∀ (t t' : Int) (su : Int × Int), t ≤ t' → dl cap t' (reset t su) xs = dl cap t' su xs := by
  induction xs with
  | nil => intro t t' su h; rfl
  | cons x r ih =>
    intro t t' su h
    simp only [dl]
    cases x.toNat with
    | zero => simp only [run, fin, List.nil_append]; exact ih t (t' + 1) su (by omega)
    | succ m => simp only [run, fin, nxt_reset h]
theorem length_run (cap t : Int) (m : Nat) : ∀ su, (run cap t m su).length = m := by
  induction m with
  | zero => intro su; rfl
  | succ m ih => intro su; simp [run, ih]
def delays (cap : Int) (xs : List Int) : List Int := dl cap 0 (0, 0) xs
theorem length_dl (cap : Int) (xs : List Int) (h : ∀ x ∈ xs, 0 ≤ x) : ∀ t su, ((dl cap t su xs).length : Int) = sumL xs := by
  induction xs with
  | nil => intro t su; rfl
  | cons x r ih =>
    intro t su
    have h1 := ih (fun y hy => h y (by simp [hy])) (t + 1) (fin cap t x.toNat su)
    have h2 := h x (by simp)
    simp only [dl, List.length_append, length_run, sumL]
    omega
theorem length_delays (cap : Int) (xs : List Int) (h : ∀ x ∈ xs, 0 ≤ x) : ((delays cap xs).length : Int) = sumL xs := length_dl cap xs h 0 (0, 0)
theorem run_bd (cap t : Int) (hc : 1 ≤ cap) (ht : 0 ≤ t) (m : Nat) : ∀ (su : Int × Int) (b : Int), 0 ≤ su.1 → su.1 ≤ b → t ≤ b → (∀ y ∈ run cap t m su, 0 ≤ y ∧ y ≤ b + m) ∧ 0 ≤ (fin cap t m su).1 ∧ (fin cap t m su).1 ≤ b + m := by
  induction m with
  | zero => intro su b h0 hb _; simp [run, fin]; omega
  | succ m ih =>
    intro su b h0 hb htb
    have h1 : t ≤ (nxt cap t su).1 ∧ (nxt cap t su).1 ≤ b + 1 := by
      unfold nxt reset
      (repeat' split) <;> simp_all <;> omega
    obtain ⟨h2, h3, h4⟩ := ih (nxt cap t su) (b + 1) (by omega) (by omega) (by omega)
    refine ⟨?_, ?_, ?_⟩
    · intro y hy
      simp only [run, List.mem_cons] at hy
      rcases hy with rfl | hy
      · omega
      · have := h2 y hy; omega
    · simpa [fin] using h3
    · simp only [fin]; omega
theorem dl_bd (cap : Int) (hc : 1 ≤ cap) (xs : List Int) (h : ∀ x ∈ xs, 0 ≤ x ∧ x ≤ 200) : ∀ (t b : Int) (su : Int × Int), 0 ≤ t → 0 ≤ su.1 → su.1 ≤ b → t ≤ b → ∀ y ∈ dl cap t su xs, 0 ≤ y ∧ y ≤ b + 201 * (xs.length : Int) := by
  induction xs with
  | nil => intro t b su _ _ _ _ y hy; simp [dl] at hy
  | cons x r ih =>
    intro t b su h0 h1 h2 h3 y hy
    have hx := h x (by simp)
    obtain ⟨h4, h5, h6⟩ := run_bd cap t hc h0 x.toNat su b h1 h2 h3
    simp only [List.length_cons, Int.natCast_add]
    simp only [dl, List.mem_append] at hy
    rcases hy with hy | hy
    · have := h4 y hy; omega
    · have := ih (fun y hy => h y (by simp [hy])) (t + 1) (b + 201) (fin cap t x.toNat su) (by omega) h5 (by omega) (by omega) y hy
      omega
theorem delays_bd (cap : Int) (hc : 1 ≤ cap) (xs : List Int) (h : ∀ x ∈ xs, 0 ≤ x ∧ x ≤ 200) (hn : xs.length ≤ 60) : ∀ y ∈ delays cap xs, 0 ≤ y ∧ y ≤ 12060 := by
  intro y hy
  have := dl_bd cap hc xs h 0 0 (0, 0) (by omega) (by simp) (by simp) (by omega) y hy
  omega
/-- What a message does to the hour and the number used. -/
theorem nxt_low {cap t s u : Int} (h : s < t) (hc : 1 ≤ cap) : nxt cap t (s, u) = (t, 1) := by
  have : reset t (s, u) = (t, 0) := by simp [reset, h]
  simp only [nxt, this]
  rw [if_neg (by omega)]
  rfl
theorem nxt_full {cap t s : Int} (h : ¬ s < t) : nxt cap t (s, cap) = (s + 1, 1) := by
  have : reset t (s, cap) = (s, cap) := by simp [reset]; omega
  simp [nxt, this]
theorem nxt_more {cap t s u : Int} (h : ¬ s < t) (hu : u < cap) : nxt cap t (s, u) = (s, u + 1) := by
  have : reset t (s, u) = (s, u) := by simp [reset]; omega
  simp only [nxt, this]
  rw [if_neg (by omega)]

set_option maxHeartbeats 4000000 in
theorem trDelays_any (A : Option Addr) (n c : Nat) (xs : List Int) (cap : Int) (w : World) (hn : n ≤ 60) (h : Reads w 1 A n (ints xs)) (hx : ∀ x ∈ xs, 0 ≤ x ∧ x ≤ 200) (hc1 : 1 ≤ cap) (hc2 : cap ≤ 200) :
    Calls Try.prog 60 #[.slice A n c, .int .i64 cap] w (Made w 3 1 (delays cap xs).length (ints (delays cap xs))) := by
  have HX := Lib.hid (show xs.length = n by simpa using h.1)
  have HB := Lib.hid hx; clear hx
  have H := Lib.hid h; clear h
  have hD0 : (delays cap xs).drop 0 = dl cap 0 (0, 0) (xs.drop 0) := by simp [delays]
  have HD0 := Lib.hid hD0; clear hD0
  generalize hD : delays cap xs = D at *
  have HD := Lib.hid hD; clear hD
  go_enter Try.func60, Try.ntmps60
  go_wp2
  go_loopw [5, 6, 7, 12] (fun v s0 u0 i wr => ∃ k j : Nat, ∃ s u : Int, ∃ A1 c1, k ≤ n ∧ i = .int .i64 k ∧ s0 = .int .i64 s ∧ u0 = .int .i64 u ∧ 0 ≤ s ∧ s ≤ 300 * (k : Int) ∧ 0 ≤ u ∧ u ≤ cap ∧ j ≤ 200 * k ∧ v = .slice A1 j c1 ∧ D.drop j = dl cap (k : Int) (s, u) (xs.drop k) ∧ wr.ownsRow w.heap.size 3 1 (.slice A1 j c1) j (ints (D.take j)) ∧ Below w.heap.size w wr) (fun _ _ _ i _ => n - (intOf i).toNat)
  case atStart => exact ⟨0, 0, 0, 0, none, 0, Nat.zero_le _, rfl, rfl, rfl, by omega, by omega, by omega, by omega, by omega, rfl, HD0.out, own_start, Below.refl _ _⟩
  case round =>
    obtain ⟨k, j, s, u, A1, c1, hk, rfl, rfl, rfl, hs1, hs2, hu1, hu2, hj, rfl, hrel, hown, hb⟩ := hrel
    have HBL := Lib.hid hb; clear hb
    by_cases hlt : k < n
    · obtain ⟨ad, rfl, hc⟩ := (H.out.below HBL.out).2 (by omega)
      have hxk : k < xs.length := by rw [HX.out]; exact hlt
      have hcell : wr.cell? (ad.add k) = some (.int .i64 xs[k]) := hc k _ (by simp [ints, hxk])
      have hbx := HB.out xs[k] (List.getElem_mem hxk)
      rw [drop_cons hxk] at hrel
      clear hc
      generalize xs[k] = x at *
      obtain ⟨m0, rfl⟩ : ∃ m0 : Nat, x = (m0 : Int) := ⟨x.toNat, by omega⟩
      have HO := Lib.hid hown; clear hown
      have hrr := dl_reset cap ((m0 : Int) :: xs.drop (k + 1)) (k : Int) (k : Int) (s, u) (Int.le_refl _)
      rw [← hrr] at hrel
      clear hrr
      rcases (show (s < (k : Int) ∧ reset (k : Int) (s, u) = ((k : Int), 0)) ∨ (¬ s < (k : Int) ∧ reset (k : Int) (s, u) = (s, u)) from by
        by_cases h : s < (k : Int)
        · exact .inl ⟨h, by simp [reset, h]⟩
        · exact .inr ⟨h, by simp [reset, h]⟩) with ⟨hsk, er⟩ | ⟨hsk, er⟩
      all_goals
        rw [er] at hrel
        clear er
        simp only [dl, Int.toNat_natCast] at hrel
        have HR := Lib.hid hrel; clear hrel
        obtain ⟨wo, rfl⟩ : ∃ wo : World, wo = wr := ⟨_, rfl⟩
        go_wp2
        go_loopw [5, 6, 7, 9] (fun v s0 u0 i wr => ∃ q j : Nat, ∃ s u : Int, ∃ A1 c1, q ≤ m0 ∧ i = .int .i64 ((m0 - q : Nat) : Int) ∧ s0 = .int .i64 s ∧ u0 = .int .i64 u ∧ (k : Int) ≤ s ∧ s ≤ 300 * (k : Int) + 1 + q ∧ 0 ≤ u ∧ u ≤ cap ∧ j + (m0 - q) ≤ 200 * (k + 1) ∧ v = .slice A1 j c1 ∧ D.drop j = run cap (k : Int) (m0 - q) (s, u) ++ dl cap ((k : Int) + 1) (fin cap (k : Int) (m0 - q) (s, u)) (xs.drop (k + 1)) ∧ wr.ownsRow w.heap.size 3 1 (.slice A1 j c1) j (ints (D.take j)) ∧ Below w.heap.size w wr) (fun _ _ _ i _ => (intOf i).toNat)
        case atStart => exact ⟨0, j, _, _, A1, c1, Nat.zero_le _, rfl, rfl, rfl, by omega, by omega, by omega, by omega, by omega, rfl, HR.out, HO.out, HBL.out⟩
        case round =>
          clear HR HO HBL hj hs1 hs2 hu1 hu2
          obtain ⟨q, j, s, u, A1, c1, hq, rfl, rfl, rfl, hs1, hs2, hu1, hu2, hj, rfl, hrel, hown, hb⟩ := hrel
          have hz := hb.size
          have HBL := Lib.hid hb; clear hb
          by_cases hlt2 : q < m0
          · obtain ⟨m, hm⟩ : ∃ m, m0 - q = m + 1 := ⟨m0 - q - 1, by omega⟩
            have hm2 : m0 - (q + 1) = m := by omega
            have HM := Lib.hid hm2; clear hm2
            have hst : ¬ s < (k : Int) := by omega
            rw [hm] at hrel hj ⊢
            have em : ((m + 1 : Nat) : Int) = (m : Int) + 1 := by omega
            rw [em]
            have hmb : m ≤ 200 * (k + 1) := by omega
            clear hm em
            simp only [run, fin, List.cons_append] at hrel
            have HH := Lib.hid (drop_head hrel)
            clear hrel
            by_cases huc : u < cap
            · rw [nxt_more hst huc] at HH
              go_wp2_with (at_builtin; refine wpList_push _ rfl (.tmp 32) (.tmp 36) 22 rfl w.heap.size 3 (.int .i64 0) 1 8 infoInt rfl (by omega) Try.underlying22 A1 j c1 (ints (D.take j)) rfl (hown.alloc _) (some ⟨wr.heap.size, 0, none⟩) 1 1 [_] rfl (reads_new _ _ _) (by simp [Value.oneCell']) (by omega) (by omega) (by simp; omega) ?_; intro A' c' w1 hown1 hg1 hb1)
              go_roundw
              case rel =>
                refine ⟨q + 1, j + 1, _, _, A', c', by omega, by rw [HM.out], rfl, rfl, by omega, by omega, by omega, by omega, by have := HM.out; omega, rfl, by rw [HM.out]; exact HH.out.2.1, ?_, HBL.out.trans (((Below.refl _ _).alloc hz _).trans hb1)⟩
                rw [HH.out.2.2.1]
                simpa [ints] using hown1
              case measure => simp [intOf]; try omega
            · obtain rfl : u = cap := by omega
              rw [nxt_full hst] at HH
              go_wp2_with (at_builtin; refine wpList_push _ rfl (.tmp 32) (.tmp 36) 22 rfl w.heap.size 3 (.int .i64 0) 1 8 infoInt rfl (by omega) Try.underlying22 A1 j c1 (ints (D.take j)) rfl (hown.alloc _) (some ⟨wr.heap.size, 0, none⟩) 1 1 [_] rfl (reads_new _ _ _) (by simp [Value.oneCell']) (by omega) (by omega) (by simp; omega) ?_; intro A' c' w1 hown1 hg1 hb1)
              go_roundw
              case rel =>
                refine ⟨q + 1, j + 1, _, _, A', c', by omega, by rw [HM.out], rfl, rfl, by omega, by omega, by omega, by omega, by have := HM.out; omega, rfl, by rw [HM.out]; exact HH.out.2.1, ?_, HBL.out.trans (((Below.refl _ _).alloc hz _).trans hb1)⟩
                rw [HH.out.2.2.1]
                simpa [ints] using hown1
              case measure => simp [intOf]; try omega
          · obtain rfl : q = m0 := by omega
            rw [Nat.sub_self] at hrel
            simp only [run, fin, List.nil_append] at hrel
            have HR := Lib.hid hrel; clear hrel
            have HO := Lib.hid hown; clear hown
            have e : q - q = 0 := by omega
            rw [e]
            clear e
            go_wp2
            go_roundw
            case rel => exact ⟨k + 1, j, s, u, A1, c1, by omega, by go_num, rfl, rfl, by omega, by omega, by omega, by omega, by omega, rfl, by rw [HR.out]; rfl, HO.out, HBL.out⟩
            case measure => simp [intOf]; omega

    · obtain rfl : k = n := by omega
      have HE := Lib.hid (drop_end (xs := xs) (k := k) (by rw [HX.out]; omega))
      rw [HE.out] at hrel
      simp only [dl] at hrel
      have hjl : D.length ≤ j := by
        rcases Nat.lt_or_ge j D.length with h1 | h1
        · rw [drop_cons h1] at hrel; cases hrel
        · exact h1
      have e : D.take j = D := List.take_of_length_le hjl
      rw [e] at hown
      have hjj : j = D.length := by have := hown.1; simp at this; omega
      have HJ := Lib.hid hjj
      have HO := Lib.hid hown
      clear hown hrel hjl e hjj
      go_wp2
      go_ret
      rw [HJ.out] at HO
      exact ⟨A1, c1, by rw [HJ.out]; rfl, HO.out, HBL.out⟩

set_option maxHeartbeats 4000000 in
theorem delaysOf_any (A : Option Addr) (n c : Nat) (xs : List Int) (cap : Int) (w : World) (hn : n ≤ 60) (h : Reads w 1 A n (ints xs)) (hx : ∀ x ∈ xs, 0 ≤ x ∧ x ≤ 200) (hc1 : 1 ≤ cap) (hc2 : cap ≤ 200) :
    Calls Try.prog 61 #[.slice A n c, .int .i64 cap] w (Made w 3 1 (delays cap xs).length (ints (delays cap xs))) := by
  have HX := Lib.hid (show xs.length = n by simpa using h.1)
  have HB := Lib.hid hx; clear hx
  have H := Lib.hid h; clear h
  have hD0 : (delays cap xs).drop 0 = dl cap 0 (0, 0) (xs.drop 0) := by simp [delays]
  have HD0 := Lib.hid hD0; clear hD0
  generalize hD : delays cap xs = D at *
  have HD := Lib.hid hD; clear hD
  go_enter Try.func61, Try.ntmps61
  go_wp2
  go_loopw [5, 6, 7, 12] (fun v s0 u0 i wr => ∃ k j : Nat, ∃ s u : Int, ∃ A1 c1, k ≤ n ∧ i = .int .i64 k ∧ s0 = .int .i64 s ∧ u0 = .int .i64 u ∧ 0 ≤ s ∧ s ≤ 300 * (k : Int) ∧ 0 ≤ u ∧ u ≤ cap ∧ j ≤ 200 * k ∧ v = .slice A1 j c1 ∧ D.drop j = dl cap (k : Int) (s, u) (xs.drop k) ∧ wr.ownsRow w.heap.size 3 1 (.slice A1 j c1) j (ints (D.take j)) ∧ Below w.heap.size w wr) (fun _ _ _ i _ => n - (intOf i).toNat)
  case atStart => exact ⟨0, 0, 0, 0, none, 0, Nat.zero_le _, rfl, rfl, rfl, by omega, by omega, by omega, by omega, by omega, rfl, HD0.out, own_start, Below.refl _ _⟩
  case round =>
    obtain ⟨k, j, s, u, A1, c1, hk, rfl, rfl, rfl, hs1, hs2, hu1, hu2, hj, rfl, hrel, hown, hb⟩ := hrel
    have HBL := Lib.hid hb; clear hb
    by_cases hlt : k < n
    · obtain ⟨ad, rfl, hc⟩ := (H.out.below HBL.out).2 (by omega)
      have hxk : k < xs.length := by rw [HX.out]; exact hlt
      have hcell : wr.cell? (ad.add k) = some (.int .i64 xs[k]) := hc k _ (by simp [ints, hxk])
      have hbx := HB.out xs[k] (List.getElem_mem hxk)
      rw [drop_cons hxk] at hrel
      clear hc
      generalize xs[k] = x at *
      obtain ⟨m0, rfl⟩ : ∃ m0 : Nat, x = (m0 : Int) := ⟨x.toNat, by omega⟩
      have HO := Lib.hid hown; clear hown
      simp only [dl, Int.toNat_natCast] at hrel
      have HR := Lib.hid hrel; clear hrel
      obtain ⟨wo, rfl⟩ : ∃ wo : World, wo = wr := ⟨_, rfl⟩
      go_wp2
      go_loopw [5, 6, 7, 18] (fun v s0 u0 i wr => ∃ q j : Nat, ∃ s u : Int, ∃ A1 c1, q ≤ m0 ∧ i = .int .i64 q ∧ s0 = .int .i64 s ∧ u0 = .int .i64 u ∧ 0 ≤ s ∧ s ≤ 300 * (k : Int) + 1 + q ∧ 0 ≤ u ∧ u ≤ cap ∧ j + (m0 - q) ≤ 200 * (k + 1) ∧ v = .slice A1 j c1 ∧ D.drop j = run cap (k : Int) (m0 - q) (s, u) ++ dl cap ((k : Int) + 1) (fin cap (k : Int) (m0 - q) (s, u)) (xs.drop (k + 1)) ∧ wr.ownsRow w.heap.size 3 1 (.slice A1 j c1) j (ints (D.take j)) ∧ Below w.heap.size w wr) (fun _ _ _ i _ => m0 - (intOf i).toNat)
      case atStart => exact ⟨0, j, s, u, A1, c1, Nat.zero_le _, rfl, rfl, rfl, by omega, by omega, by omega, by omega, by omega, rfl, HR.out, HO.out, HBL.out⟩
      case round =>
        clear HR HO HBL hj hs1 hs2 hu1 hu2
        obtain ⟨q, j, s, u, A1, c1, hq, rfl, rfl, rfl, hs1, hs2, hu1, hu2, hj, rfl, hrel, hown, hb⟩ := hrel
        have hz := hb.size
        have HBL := Lib.hid hb; clear hb
        by_cases hlt2 : q < m0
        · have e : m0 - q = (m0 - (q + 1)) + 1 := by omega
          rw [e] at hrel
          simp only [run, fin, List.cons_append] at hrel
          have HH := Lib.hid (drop_head hrel)
          clear hrel e
          by_cases hst : s < (k : Int)
          · rw [nxt_low hst hc1] at HH
            go_wp2_with (at_builtin; refine wpList_push _ rfl (.tmp 31) (.tmp 35) 22 rfl w.heap.size 3 (.int .i64 0) 1 8 infoInt rfl (by omega) Try.underlying22 A1 j c1 (ints (D.take j)) rfl (hown.alloc _) (some ⟨wr.heap.size, 0, none⟩) 1 1 [_] rfl (reads_new _ _ _) (by simp [Value.oneCell']) (by omega) (by omega) (by simp; omega) ?_; intro A' c' w1 hown1 hg1 hb1)
            go_roundw
            case rel =>
              refine ⟨q + 1, j + 1, _, _, A', c', by omega, by go_num, rfl, rfl, by omega, by omega, by omega, by omega, by omega, rfl, HH.out.2.1, ?_, HBL.out.trans (((Below.refl _ _).alloc hz _).trans hb1)⟩
              rw [HH.out.2.2.1]
              simpa [ints] using hown1
            case measure => simp [intOf]; try omega
          · by_cases huc : u < cap
            · rw [nxt_more hst huc] at HH
              go_wp2_with (at_builtin; refine wpList_push _ rfl (.tmp 31) (.tmp 35) 22 rfl w.heap.size 3 (.int .i64 0) 1 8 infoInt rfl (by omega) Try.underlying22 A1 j c1 (ints (D.take j)) rfl (hown.alloc _) (some ⟨wr.heap.size, 0, none⟩) 1 1 [_] rfl (reads_new _ _ _) (by simp [Value.oneCell']) (by omega) (by omega) (by simp; omega) ?_; intro A' c' w1 hown1 hg1 hb1)
              go_roundw
              case rel =>
                refine ⟨q + 1, j + 1, _, _, A', c', by omega, by go_num, rfl, rfl, by omega, by omega, by omega, by omega, by omega, rfl, HH.out.2.1, ?_, HBL.out.trans (((Below.refl _ _).alloc hz _).trans hb1)⟩
                rw [HH.out.2.2.1]
                simpa [ints] using hown1
              case measure => simp [intOf]; try omega
            · obtain rfl : u = cap := by omega
              rw [nxt_full hst] at HH
              go_wp2_with (at_builtin; refine wpList_push _ rfl (.tmp 31) (.tmp 35) 22 rfl w.heap.size 3 (.int .i64 0) 1 8 infoInt rfl (by omega) Try.underlying22 A1 j c1 (ints (D.take j)) rfl (hown.alloc _) (some ⟨wr.heap.size, 0, none⟩) 1 1 [_] rfl (reads_new _ _ _) (by simp [Value.oneCell']) (by omega) (by omega) (by simp; omega) ?_; intro A' c' w1 hown1 hg1 hb1)
              go_roundw
              case rel =>
                refine ⟨q + 1, j + 1, _, _, A', c', by omega, by go_num, rfl, rfl, by omega, by omega, by omega, by omega, by omega, rfl, HH.out.2.1, ?_, HBL.out.trans (((Below.refl _ _).alloc hz _).trans hb1)⟩
                rw [HH.out.2.2.1]
                simpa [ints] using hown1
              case measure => simp [intOf]; try omega
        · obtain rfl : q = m0 := by omega
          rw [Nat.sub_self] at hrel
          simp only [run, fin, List.nil_append] at hrel
          have HR := Lib.hid hrel; clear hrel
          have HO := Lib.hid hown; clear hown
          go_wp2
          go_roundw
          case rel => exact ⟨k + 1, j, s, u, A1, c1, by omega, by go_num, rfl, rfl, by omega, by omega, by omega, by omega, by omega, rfl, by rw [HR.out]; rfl, HO.out, HBL.out⟩
          case measure => simp [intOf]; omega

    · obtain rfl : k = n := by omega
      have HE := Lib.hid (drop_end (xs := xs) (k := k) (by rw [HX.out]; omega))
      rw [HE.out] at hrel
      simp only [dl] at hrel
      have hjl : D.length ≤ j := by
        rcases Nat.lt_or_ge j D.length with h1 | h1
        · rw [drop_cons h1] at hrel; cases hrel
        · exact h1
      have e : D.take j = D := List.take_of_length_le hjl
      rw [e] at hown
      have hjj : j = D.length := by have := hown.1; simp at this; omega
      have HJ := Lib.hid hjj
      have HO := Lib.hid hown
      clear hown hrel hjl e hjj
      go_wp2
      go_ret
      rw [HJ.out] at HO
      exact ⟨A1, c1, by rw [HJ.out]; rfl, HO.out, HBL.out⟩

end Go.Proofs.Ytgdlaeibdpbgdaa
