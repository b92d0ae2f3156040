/- Contracts of CountStates of both packages, and the law over them. No conditions. -/
import Derived.Test.YtcjmlakmigfkfaaAreT3
namespace Go.Proofs.Ytcjmlakmigfkfaa
set_option linter.unusedSimpArgs false
set_option linter.unusedVariables false
open Go.RowKit

def cntT (s : Int) : List TicketT → Nat
  | [] => 0
  | x :: r => (if x.2.2.2 = s then 1 else 0) + cntT s r
theorem cntT_snoc (s : Int) (L : List TicketT) (x : TicketT) : cntT s (L ++ [x]) = cntT s L + (if x.2.2.2 = s then 1 else 0) := by
  induction L with
  | nil => simp [cntT]
  | cons y r ih => simp only [List.cons_append, cntT, ih]; omega
theorem cntT_le (s : Int) (L : List TicketT) : cntT s L ≤ L.length := by
  induction L with
  | nil => simp [cntT]
  | cons y r ih => simp only [cntT, List.length_cons]; split <;> omega
def countR (L : List TicketT) : Int × Int × Int × Bool := if goodT L = true then ((cntT 0 L : Int), (cntT 1 L : Int), (cntT 2 L : Int), true) else (0, 0, 0, false)
theorem results_tmp4 {fn : Func} {t u v x : Tmp} (h : fn.results = #[.tmp t, .tmp u, .tmp v, .tmp x]) (tmps : Array Value) (P : Program) (w : World) :
    (results fn tmps).run P w = .ok (.tuple #[tmps.getD t undef, tmps.getD u undef, tmps.getD v undef, tmps.getD x undef]) w := by
  simp [results, h]
theorem own_box3 {w : World} {base g : Nat} {e : TypeId} {a b c : Value} (h : w.ownsRow base e 1 (.slice (some ⟨g, 0, none⟩) 3 3) 3 [a, b, c]) : Box3 w g e a b c := by
  rcases h.2 with ⟨hv, _⟩ | ⟨g', cap, cur, hv, _, hg, _, _, hs, ht⟩
  · cases hv
  · injection hv with h1 _ h3
    injection h1 with h1
    injection h1 with h1
    subst h1
    subst h3
    unfold Box3
    rw [hg]
    have : cur = #[a, b, c] := by
      apply Array.ext'
      have hl : cur.toList.length = 3 := by simpa using hs
      rw [List.take_of_length_le (by omega)] at ht
      simpa using ht
    rw [this]

set_option maxHeartbeats 4000000 in
set_option maxRecDepth 100000 in
theorem specCountStates_any (A : Option Addr) (n c : Nat) (L : List TicketT) (w : World) (hn : n ≤ 1000000000) (hl : ∀ x ∈ L, lenT 1000000000 x) (h : Reads2 w 4 A n (rowsT L)) :
    Calls Try.prog 57 #[.slice A n c] w fun e w' => e = .returned (.tuple #[.int .i64 (countR L).1, .int .i64 (countR L).2.1, .int .i64 (countR L).2.2.1, .bool (countR L).2.2.2]) ∧ Below w.heap.size w w' := by
  have HX := Lib.hid (show L.length = n by have := h.len; rw [length_rowsT] at this; omega)
  have c1 := dkGood_any A n c L w hn hl h
  have H := Lib.hid h
  cases hg : goodT L with
  | false =>
    rw [hg] at c1
    have C1 := Lib.hid c1
    have hr : countR L = (0, 0, 0, false) := by simp [countR, hg]
    rw [hr]
    clear c1 hr h hl hg
    go_enter Try.func57, Try.ntmps57
    go_wp2_with (go_at_call 89; refine (C1.out).mono ?_; rintro e w1 ⟨rfl, hb⟩; have HB1 := Lib.hid hb; clear hb)
    ((try simp only [Exit.inBlock, Exit.then]); refine bodyPost_ret (results_tmp4 rfl _ _ _) rfl ?_)
    exact ⟨rfl, HB1.out⟩
  | true =>
    rw [hg] at c1
    have C1 := Lib.hid c1
    have hr : countR L = ((cntT 0 L : Int), (cntT 1 L : Int), (cntT 2 L : Int), true) := by simp [countR, hg]
    rw [hr]
    have hgg := hg
    simp only [goodT, Bool.and_eq_true] at hgg
    have HOK := Lib.hid (okT_all hgg.1)
    clear c1 hr h hl hg hgg
    go_enter Try.func57, Try.ntmps57
    go_wp2_with (first | (go_at_call 89; refine (C1.out).mono ?_; rintro e w1 ⟨rfl, hb⟩; have HB1 := Lib.hid hb; clear hb) | (at_make; refine wpList_mk _ rfl (.const (.int .i64 3)) (.const (.int .i64 3)) 49 rfl w.heap.size 3 (.int .i64 0) _ infoInt rfl Try.underlying49 _ _ _ _ 3 rfl rfl rfl rfl (by omega) (by omega) HB1.out.size ?_; intro w2 hown2 hb2 hz2))
    have HBX : Hid (Box3 w2 w1.heap.size 3 (.int .i64 0) (.int .i64 0) (.int .i64 0)) := Lib.hid (own_box3 hown2)
    have HS0 : Hid (Below w.heap.size w w2 ∧ w1.heap.size < w2.heap.size) := Lib.hid ⟨HB1.out.trans (hb2.mono HB1.out.size), hz2⟩
    clear hown2 hb2 hz2
    have HG : Hid (w.heap.size ≤ w1.heap.size) := Lib.hid HB1.out.size
    generalize w1.heap.size = g at *
    clear HB1
    go_loopw [15] (fun i wr => ∃ k : Nat, k ≤ n ∧ i = .int .i64 k ∧ Box3 wr g 3 (.int .i64 ((cntT 0 (L.take k) : Nat) : Int)) (.int .i64 ((cntT 1 (L.take k) : Nat) : Int)) (.int .i64 ((cntT 2 (L.take k) : Nat) : Int)) ∧ Below w.heap.size w wr ∧ g < wr.heap.size) (fun i _ => n - (intOf i).toNat)
    case atStart => exact ⟨0, Nat.zero_le _, rfl, by simpa [cntT] using HBX.out, HS0.out.1, HS0.out.2⟩
    case round =>
      clear HBX HS0
      obtain ⟨k, hk, rfl, hbox, hb, hgl⟩ := hrel
      have HBX := Lib.hid hbox; clear hbox
      have HBL := Lib.hid hb; clear hb
      have HGL := Lib.hid hgl; clear hgl
      by_cases hlt : k < n
      · have hx : k < L.length := by rw [HX.out]; exact hlt
        have HTK : Hid (L.take (k + 1) = L.take k ++ [L[k]]) := Lib.hid (List.take_succ_eq_append_getElem hx)
        have htb := HOK.out L[k] (List.getElem_mem hx)
        obtain ⟨ad, A2, c2, rfl, k0, k1, k2, k3, hr⟩ := rowsT_at (H.out.below HBL.out) hx
        clear hr
        generalize L[k] = x at *
        obtain ⟨m, p, l, s⟩ := x
        simp only at k0 k1 k2 k3
        rw [tickB_eq] at htb
        simp only [Bool.and_eq_true] at htb
        have hsb := inB_true.1 htb.2.2.2.2.2
        clear htb
        rcases (show s = 0 ∨ s = 1 ∨ s = 2 by omega) with hs | hs | hs
        · subst hs
          have HC : Hid (cntT 0 (L.take (k + 1)) = cntT 0 (L.take k) + 1 ∧ cntT 1 (L.take (k + 1)) = cntT 1 (L.take k) + 0 ∧ cntT 2 (L.take (k + 1)) = cntT 2 (L.take k) + 0) := Lib.hid (by rw [HTK.out]; simp only [cntT_snoc]; simp)
          have HBN : Hid (Box3 (((wr.alloc (.cells #[.int .i64 m, .int .i64 p, .slice A2 l.length c2, .int .i64 0] 106))).setCell ⟨g, 0, none⟩ (.int .i64 (((cntT 0 (L.take k) : Nat) : Int) + 1))) g 3 (.int .i64 (((cntT 0 (L.take k) : Nat) : Int) + 1)) (.int .i64 (((cntT 1 (L.take k) : Nat) : Int))) (.int .i64 (((cntT 2 (L.take k) : Nat) : Int)))) := Lib.hid (by
            have hb := HBX.out.below ((Below.refl _ _).alloc (Nat.le_refl _) (.cells #[.int .i64 m, .int .i64 p, .slice A2 l.length c2, .int .i64 0] 106)) HBX.out.lt
            unfold Box3 at hb ⊢
            simp [World.setCell, Array.getElem?_modify, hb])
          have b0 := cntT_le 0 (L.take k)
          have b1 := cntT_le 1 (L.take k)
          have b2 := cntT_le 2 (L.take k)
          have HTL : Hid ((L.take k).length ≤ k) := Lib.hid (by simp; omega)
          have d0 : cntT 0 (L.take k) ≤ k := Nat.le_trans b0 HTL.out
          have d1 : cntT 1 (L.take k) ≤ k := Nat.le_trans b1 HTL.out
          have d2 : cntT 2 (L.take k) ≤ k := Nat.le_trans b2 HTL.out
          clear b0 b1 b2
          generalize cntT 0 (L.take k) = n0 at *
          generalize cntT 1 (L.take k) = n1 at *
          generalize cntT 2 (L.take k) = n2 at *
          obtain ⟨x0, x1, x2⟩ := (HBX.out.below ((Below.refl _ _).alloc (Nat.le_refl _) (.cells #[.int .i64 m, .int .i64 p, .slice A2 l.length c2, .int .i64 0] 106)) HBX.out.lt).cells
          obtain ⟨f0, f1, f2⟩ := (HBX.out.below ((Below.refl _ _).alloc (Nat.le_refl _) (.cells #[.int .i64 m, .int .i64 p, .slice A2 l.length c2, .int .i64 0] 106)) HBX.out.lt).frozen
          go_wp2
          go_roundw
          case rel =>
            refine ⟨k + 1, by omega, by go_num, ?_, ?_, ?_⟩
            · have hc := HC.out
              rw [hc.1, hc.2.1, hc.2.2]
              simpa using HBN.out
            · exact (HBL.out.trans (((Below.refl _ _).alloc (Nat.le_refl _) _).mono HBL.out.size)).setCell (p := ⟨g, 0, none⟩) HG.out _
            · have := HGL.out; simp; omega
          case measure => simp [intOf]; omega
        · subst hs
          have HC : Hid (cntT 0 (L.take (k + 1)) = cntT 0 (L.take k) + 0 ∧ cntT 1 (L.take (k + 1)) = cntT 1 (L.take k) + 1 ∧ cntT 2 (L.take (k + 1)) = cntT 2 (L.take k) + 0) := Lib.hid (by rw [HTK.out]; simp only [cntT_snoc]; simp)
          have HBN : Hid (Box3 (((wr.alloc (.cells #[.int .i64 m, .int .i64 p, .slice A2 l.length c2, .int .i64 1] 106))).setCell ⟨g, 1, none⟩ (.int .i64 (((cntT 1 (L.take k) : Nat) : Int) + 1))) g 3 (.int .i64 (((cntT 0 (L.take k) : Nat) : Int))) (.int .i64 (((cntT 1 (L.take k) : Nat) : Int) + 1)) (.int .i64 (((cntT 2 (L.take k) : Nat) : Int)))) := Lib.hid (by
            have hb := HBX.out.below ((Below.refl _ _).alloc (Nat.le_refl _) (.cells #[.int .i64 m, .int .i64 p, .slice A2 l.length c2, .int .i64 1] 106)) HBX.out.lt
            unfold Box3 at hb ⊢
            simp [World.setCell, Array.getElem?_modify, hb])
          have b0 := cntT_le 0 (L.take k)
          have b1 := cntT_le 1 (L.take k)
          have b2 := cntT_le 2 (L.take k)
          have HTL : Hid ((L.take k).length ≤ k) := Lib.hid (by simp; omega)
          have d0 : cntT 0 (L.take k) ≤ k := Nat.le_trans b0 HTL.out
          have d1 : cntT 1 (L.take k) ≤ k := Nat.le_trans b1 HTL.out
          have d2 : cntT 2 (L.take k) ≤ k := Nat.le_trans b2 HTL.out
          clear b0 b1 b2
          generalize cntT 0 (L.take k) = n0 at *
          generalize cntT 1 (L.take k) = n1 at *
          generalize cntT 2 (L.take k) = n2 at *
          obtain ⟨x0, x1, x2⟩ := (HBX.out.below ((Below.refl _ _).alloc (Nat.le_refl _) (.cells #[.int .i64 m, .int .i64 p, .slice A2 l.length c2, .int .i64 1] 106)) HBX.out.lt).cells
          obtain ⟨f0, f1, f2⟩ := (HBX.out.below ((Below.refl _ _).alloc (Nat.le_refl _) (.cells #[.int .i64 m, .int .i64 p, .slice A2 l.length c2, .int .i64 1] 106)) HBX.out.lt).frozen
          go_wp2
          go_roundw
          case rel =>
            refine ⟨k + 1, by omega, by go_num, ?_, ?_, ?_⟩
            · have hc := HC.out
              rw [hc.1, hc.2.1, hc.2.2]
              simpa using HBN.out
            · exact (HBL.out.trans (((Below.refl _ _).alloc (Nat.le_refl _) _).mono HBL.out.size)).setCell (p := ⟨g, 1, none⟩) HG.out _
            · have := HGL.out; simp; omega
          case measure => simp [intOf]; omega
        · subst hs
          have HC : Hid (cntT 0 (L.take (k + 1)) = cntT 0 (L.take k) + 0 ∧ cntT 1 (L.take (k + 1)) = cntT 1 (L.take k) + 0 ∧ cntT 2 (L.take (k + 1)) = cntT 2 (L.take k) + 1) := Lib.hid (by rw [HTK.out]; simp only [cntT_snoc]; simp)
          have HBN : Hid (Box3 (((wr.alloc (.cells #[.int .i64 m, .int .i64 p, .slice A2 l.length c2, .int .i64 2] 106))).setCell ⟨g, 2, none⟩ (.int .i64 (((cntT 2 (L.take k) : Nat) : Int) + 1))) g 3 (.int .i64 (((cntT 0 (L.take k) : Nat) : Int))) (.int .i64 (((cntT 1 (L.take k) : Nat) : Int))) (.int .i64 (((cntT 2 (L.take k) : Nat) : Int) + 1))) := Lib.hid (by
            have hb := HBX.out.below ((Below.refl _ _).alloc (Nat.le_refl _) (.cells #[.int .i64 m, .int .i64 p, .slice A2 l.length c2, .int .i64 2] 106)) HBX.out.lt
            unfold Box3 at hb ⊢
            simp [World.setCell, Array.getElem?_modify, hb])
          have b0 := cntT_le 0 (L.take k)
          have b1 := cntT_le 1 (L.take k)
          have b2 := cntT_le 2 (L.take k)
          have HTL : Hid ((L.take k).length ≤ k) := Lib.hid (by simp; omega)
          have d0 : cntT 0 (L.take k) ≤ k := Nat.le_trans b0 HTL.out
          have d1 : cntT 1 (L.take k) ≤ k := Nat.le_trans b1 HTL.out
          have d2 : cntT 2 (L.take k) ≤ k := Nat.le_trans b2 HTL.out
          clear b0 b1 b2
          generalize cntT 0 (L.take k) = n0 at *
          generalize cntT 1 (L.take k) = n1 at *
          generalize cntT 2 (L.take k) = n2 at *
          obtain ⟨x0, x1, x2⟩ := (HBX.out.below ((Below.refl _ _).alloc (Nat.le_refl _) (.cells #[.int .i64 m, .int .i64 p, .slice A2 l.length c2, .int .i64 2] 106)) HBX.out.lt).cells
          obtain ⟨f0, f1, f2⟩ := (HBX.out.below ((Below.refl _ _).alloc (Nat.le_refl _) (.cells #[.int .i64 m, .int .i64 p, .slice A2 l.length c2, .int .i64 2] 106)) HBX.out.lt).frozen
          go_wp2
          go_roundw
          case rel =>
            refine ⟨k + 1, by omega, by go_num, ?_, ?_, ?_⟩
            · have hc := HC.out
              rw [hc.1, hc.2.1, hc.2.2]
              simpa using HBN.out
            · exact (HBL.out.trans (((Below.refl _ _).alloc (Nat.le_refl _) _).mono HBL.out.size)).setCell (p := ⟨g, 2, none⟩) HG.out _
            · have := HGL.out; simp; omega
          case measure => simp [intOf]; omega
      · have e : L.take k = L := List.take_of_length_le (by rw [HX.out]; omega)
        rw [e] at HBX
        obtain ⟨x0, x1, x2⟩ := HBX.out.cells
        go_wp2
        go_quiet (fail)
        go_wp2
        ((try simp only [Exit.inBlock, Exit.then]); refine bodyPost_ret (results_tmp4 rfl _ _ _) rfl ?_)
        exact ⟨rfl, below_toN HBL.out _⟩

set_option maxHeartbeats 4000000 in
set_option maxRecDepth 100000 in
theorem implCountStates_any (A : Option Addr) (n c : Nat) (L : List TicketT) (w : World) (hn : n ≤ 1000000000) (hl : ∀ x ∈ L, lenT 1000000000 x) (h : Reads2 w 4 A n (rowsT L)) :
    Calls Try.prog 58 #[.slice A n c] w fun e w' => e = .returned (.tuple #[.int .i64 (countR L).1, .int .i64 (countR L).2.1, .int .i64 (countR L).2.2.1, .bool (countR L).2.2.2]) ∧ Below w.heap.size w w' := by
  have HX := Lib.hid (show L.length = n by have := h.len; rw [length_rowsT] at this; omega)
  have c1 := areTickets_any A n c L w hn hl h
  have H := Lib.hid h
  cases hg : goodT L with
  | false =>
    rw [hg] at c1
    have C1 := Lib.hid c1
    have hr : countR L = (0, 0, 0, false) := by simp [countR, hg]
    rw [hr]
    clear c1 hr h hl hg
    go_enter Try.func58, Try.ntmps58
    go_wp2_with (go_at_call 55; refine (C1.out).mono ?_; rintro e w1 ⟨rfl, hb⟩; have HB1 := Lib.hid hb; clear hb)
    ((try simp only [Exit.inBlock, Exit.then]); refine bodyPost_ret (results_tmp4 rfl _ _ _) rfl ?_)
    exact ⟨rfl, HB1.out⟩
  | true =>
    rw [hg] at c1
    have C1 := Lib.hid c1
    have hr : countR L = ((cntT 0 L : Int), (cntT 1 L : Int), (cntT 2 L : Int), true) := by simp [countR, hg]
    rw [hr]
    have hgg := hg
    simp only [goodT, Bool.and_eq_true] at hgg
    have HOK := Lib.hid (okT_all hgg.1)
    clear c1 hr h hl hg hgg
    go_enter Try.func58, Try.ntmps58
    go_wp2_with (go_at_call 55; refine (C1.out).mono ?_; rintro e w1 ⟨rfl, hb⟩; have HB1 := Lib.hid hb; clear hb)
    have HBX : Hid (Box3 (w1.alloc (.cells #[.int .i64 0, .int .i64 0, .int .i64 0] 111)) w1.heap.size 111 (.int .i64 0) (.int .i64 0) (.int .i64 0)) := Lib.hid (Box3.new _ _ _ _ _)
    have HS0 : Hid (Below w.heap.size w (w1.alloc (.cells #[.int .i64 0, .int .i64 0, .int .i64 0] 111)) ∧ w1.heap.size < (w1.alloc (.cells #[.int .i64 0, .int .i64 0, .int .i64 0] 111)).heap.size) := Lib.hid ⟨HB1.out.trans (((Below.refl _ _).alloc (Nat.le_refl _) _).mono HB1.out.size), by simp⟩
    generalize (w1.alloc (.cells #[.int .i64 0, .int .i64 0, .int .i64 0] 111)) = w2 at *
    have HG : Hid (w.heap.size ≤ w1.heap.size) := Lib.hid HB1.out.size
    generalize w1.heap.size = g at *
    clear HB1
    go_loopw [14] (fun i wr => ∃ k : Nat, k ≤ n ∧ i = .int .i64 k ∧ Box3 wr g 111 (.int .i64 ((cntT 0 (L.take k) : Nat) : Int)) (.int .i64 ((cntT 1 (L.take k) : Nat) : Int)) (.int .i64 ((cntT 2 (L.take k) : Nat) : Int)) ∧ Below w.heap.size w wr ∧ g < wr.heap.size) (fun i _ => n - (intOf i).toNat)
    case atStart => exact ⟨0, Nat.zero_le _, rfl, by simpa [cntT] using HBX.out, HS0.out.1, HS0.out.2⟩
    case round =>
      clear HBX HS0
      obtain ⟨k, hk, rfl, hbox, hb, hgl⟩ := hrel
      have HBX := Lib.hid hbox; clear hbox
      have HBL := Lib.hid hb; clear hb
      have HGL := Lib.hid hgl; clear hgl
      by_cases hlt : k < n
      · have hx : k < L.length := by rw [HX.out]; exact hlt
        have HTK : Hid (L.take (k + 1) = L.take k ++ [L[k]]) := Lib.hid (List.take_succ_eq_append_getElem hx)
        have htb := HOK.out L[k] (List.getElem_mem hx)
        obtain ⟨ad, A2, c2, rfl, k0, k1, k2, k3, hr⟩ := rowsT_at (H.out.below HBL.out) hx
        clear hr
        generalize L[k] = x at *
        obtain ⟨m, p, l, s⟩ := x
        simp only at k0 k1 k2 k3
        rw [tickB_eq] at htb
        simp only [Bool.and_eq_true] at htb
        have hsb := inB_true.1 htb.2.2.2.2.2
        clear htb
        rcases (show s = 0 ∨ s = 1 ∨ s = 2 by omega) with hs | hs | hs
        · subst hs
          have HC : Hid (cntT 0 (L.take (k + 1)) = cntT 0 (L.take k) + 1 ∧ cntT 1 (L.take (k + 1)) = cntT 1 (L.take k) + 0 ∧ cntT 2 (L.take (k + 1)) = cntT 2 (L.take k) + 0) := Lib.hid (by rw [HTK.out]; simp only [cntT_snoc]; simp)
          have HBN : Hid (Box3 (((wr.alloc (.cells #[.int .i64 m, .int .i64 p, .slice A2 l.length c2, .int .i64 0] 106))).setCell ⟨g, 0, none⟩ (.int .i64 (((cntT 0 (L.take k) : Nat) : Int) + 1))) g 111 (.int .i64 (((cntT 0 (L.take k) : Nat) : Int) + 1)) (.int .i64 (((cntT 1 (L.take k) : Nat) : Int))) (.int .i64 (((cntT 2 (L.take k) : Nat) : Int)))) := Lib.hid (by
            have hb := HBX.out.below ((Below.refl _ _).alloc (Nat.le_refl _) (.cells #[.int .i64 m, .int .i64 p, .slice A2 l.length c2, .int .i64 0] 106)) HBX.out.lt
            unfold Box3 at hb ⊢
            simp [World.setCell, Array.getElem?_modify, hb])
          have b0 := cntT_le 0 (L.take k)
          have b1 := cntT_le 1 (L.take k)
          have b2 := cntT_le 2 (L.take k)
          have HTL : Hid ((L.take k).length ≤ k) := Lib.hid (by simp; omega)
          have d0 : cntT 0 (L.take k) ≤ k := Nat.le_trans b0 HTL.out
          have d1 : cntT 1 (L.take k) ≤ k := Nat.le_trans b1 HTL.out
          have d2 : cntT 2 (L.take k) ≤ k := Nat.le_trans b2 HTL.out
          clear b0 b1 b2
          generalize cntT 0 (L.take k) = n0 at *
          generalize cntT 1 (L.take k) = n1 at *
          generalize cntT 2 (L.take k) = n2 at *
          obtain ⟨x0, x1, x2⟩ := (HBX.out.below ((Below.refl _ _).alloc (Nat.le_refl _) (.cells #[.int .i64 m, .int .i64 p, .slice A2 l.length c2, .int .i64 0] 106)) HBX.out.lt).cells
          obtain ⟨f0, f1, f2⟩ := (HBX.out.below ((Below.refl _ _).alloc (Nat.le_refl _) (.cells #[.int .i64 m, .int .i64 p, .slice A2 l.length c2, .int .i64 0] 106)) HBX.out.lt).frozen
          go_wp2
          go_roundw
          case rel =>
            refine ⟨k + 1, by omega, by go_num, ?_, ?_, ?_⟩
            · have hc := HC.out
              rw [hc.1, hc.2.1, hc.2.2]
              simpa using HBN.out
            · exact (HBL.out.trans (((Below.refl _ _).alloc (Nat.le_refl _) _).mono HBL.out.size)).setCell (p := ⟨g, 0, none⟩) HG.out _
            · have := HGL.out; simp; omega
          case measure => simp [intOf]; omega
        · subst hs
          have HC : Hid (cntT 0 (L.take (k + 1)) = cntT 0 (L.take k) + 0 ∧ cntT 1 (L.take (k + 1)) = cntT 1 (L.take k) + 1 ∧ cntT 2 (L.take (k + 1)) = cntT 2 (L.take k) + 0) := Lib.hid (by rw [HTK.out]; simp only [cntT_snoc]; simp)
          have HBN : Hid (Box3 (((wr.alloc (.cells #[.int .i64 m, .int .i64 p, .slice A2 l.length c2, .int .i64 1] 106))).setCell ⟨g, 1, none⟩ (.int .i64 (((cntT 1 (L.take k) : Nat) : Int) + 1))) g 111 (.int .i64 (((cntT 0 (L.take k) : Nat) : Int))) (.int .i64 (((cntT 1 (L.take k) : Nat) : Int) + 1)) (.int .i64 (((cntT 2 (L.take k) : Nat) : Int)))) := Lib.hid (by
            have hb := HBX.out.below ((Below.refl _ _).alloc (Nat.le_refl _) (.cells #[.int .i64 m, .int .i64 p, .slice A2 l.length c2, .int .i64 1] 106)) HBX.out.lt
            unfold Box3 at hb ⊢
            simp [World.setCell, Array.getElem?_modify, hb])
          have b0 := cntT_le 0 (L.take k)
          have b1 := cntT_le 1 (L.take k)
          have b2 := cntT_le 2 (L.take k)
          have HTL : Hid ((L.take k).length ≤ k) := Lib.hid (by simp; omega)
          have d0 : cntT 0 (L.take k) ≤ k := Nat.le_trans b0 HTL.out
          have d1 : cntT 1 (L.take k) ≤ k := Nat.le_trans b1 HTL.out
          have d2 : cntT 2 (L.take k) ≤ k := Nat.le_trans b2 HTL.out
          clear b0 b1 b2
          generalize cntT 0 (L.take k) = n0 at *
          generalize cntT 1 (L.take k) = n1 at *
          generalize cntT 2 (L.take k) = n2 at *
          obtain ⟨x0, x1, x2⟩ := (HBX.out.below ((Below.refl _ _).alloc (Nat.le_refl _) (.cells #[.int .i64 m, .int .i64 p, .slice A2 l.length c2, .int .i64 1] 106)) HBX.out.lt).cells
          obtain ⟨f0, f1, f2⟩ := (HBX.out.below ((Below.refl _ _).alloc (Nat.le_refl _) (.cells #[.int .i64 m, .int .i64 p, .slice A2 l.length c2, .int .i64 1] 106)) HBX.out.lt).frozen
          go_wp2
          go_roundw
          case rel =>
            refine ⟨k + 1, by omega, by go_num, ?_, ?_, ?_⟩
            · have hc := HC.out
              rw [hc.1, hc.2.1, hc.2.2]
              simpa using HBN.out
            · exact (HBL.out.trans (((Below.refl _ _).alloc (Nat.le_refl _) _).mono HBL.out.size)).setCell (p := ⟨g, 1, none⟩) HG.out _
            · have := HGL.out; simp; omega
          case measure => simp [intOf]; omega
        · subst hs
          have HC : Hid (cntT 0 (L.take (k + 1)) = cntT 0 (L.take k) + 0 ∧ cntT 1 (L.take (k + 1)) = cntT 1 (L.take k) + 0 ∧ cntT 2 (L.take (k + 1)) = cntT 2 (L.take k) + 1) := Lib.hid (by rw [HTK.out]; simp only [cntT_snoc]; simp)
          have HBN : Hid (Box3 (((wr.alloc (.cells #[.int .i64 m, .int .i64 p, .slice A2 l.length c2, .int .i64 2] 106))).setCell ⟨g, 2, none⟩ (.int .i64 (((cntT 2 (L.take k) : Nat) : Int) + 1))) g 111 (.int .i64 (((cntT 0 (L.take k) : Nat) : Int))) (.int .i64 (((cntT 1 (L.take k) : Nat) : Int))) (.int .i64 (((cntT 2 (L.take k) : Nat) : Int) + 1))) := Lib.hid (by
            have hb := HBX.out.below ((Below.refl _ _).alloc (Nat.le_refl _) (.cells #[.int .i64 m, .int .i64 p, .slice A2 l.length c2, .int .i64 2] 106)) HBX.out.lt
            unfold Box3 at hb ⊢
            simp [World.setCell, Array.getElem?_modify, hb])
          have b0 := cntT_le 0 (L.take k)
          have b1 := cntT_le 1 (L.take k)
          have b2 := cntT_le 2 (L.take k)
          have HTL : Hid ((L.take k).length ≤ k) := Lib.hid (by simp; omega)
          have d0 : cntT 0 (L.take k) ≤ k := Nat.le_trans b0 HTL.out
          have d1 : cntT 1 (L.take k) ≤ k := Nat.le_trans b1 HTL.out
          have d2 : cntT 2 (L.take k) ≤ k := Nat.le_trans b2 HTL.out
          clear b0 b1 b2
          generalize cntT 0 (L.take k) = n0 at *
          generalize cntT 1 (L.take k) = n1 at *
          generalize cntT 2 (L.take k) = n2 at *
          obtain ⟨x0, x1, x2⟩ := (HBX.out.below ((Below.refl _ _).alloc (Nat.le_refl _) (.cells #[.int .i64 m, .int .i64 p, .slice A2 l.length c2, .int .i64 2] 106)) HBX.out.lt).cells
          obtain ⟨f0, f1, f2⟩ := (HBX.out.below ((Below.refl _ _).alloc (Nat.le_refl _) (.cells #[.int .i64 m, .int .i64 p, .slice A2 l.length c2, .int .i64 2] 106)) HBX.out.lt).frozen
          go_wp2
          go_roundw
          case rel =>
            refine ⟨k + 1, by omega, by go_num, ?_, ?_, ?_⟩
            · have hc := HC.out
              rw [hc.1, hc.2.1, hc.2.2]
              simpa using HBN.out
            · exact (HBL.out.trans (((Below.refl _ _).alloc (Nat.le_refl _) _).mono HBL.out.size)).setCell (p := ⟨g, 2, none⟩) HG.out _
            · have := HGL.out; simp; omega
          case measure => simp [intOf]; omega
      · have e : L.take k = L := List.take_of_length_le (by rw [HX.out]; omega)
        rw [e] at HBX
        obtain ⟨x0, x1, x2⟩ := HBX.out.cells
        go_wp2
        go_quiet (fail)
        go_wp2
        ((try simp only [Exit.inBlock, Exit.then]); refine bodyPost_ret (results_tmp4 rfl _ _ _) rfl ?_)
        exact ⟨rfl, below_toN HBL.out _⟩
set_option maxHeartbeats 4000000 in
set_option maxRecDepth 100000 in
theorem law_FnExactCountStates (w : World) {v0 : Value} (h0 : IsTickets w v0) :
    Calls Try.prog 10 #[v0] w fun e w' => e = .returned (.bool true) ∧ Below w.heap.size w w' := by
  obtain ⟨A0, n0, c0, xs0, rfl, hnc0, hcm0, hlx0, hr0, hin0⟩ := h0
  have HR0 := Lib.hid (hr0); clear hr0
  have HIN0 := Lib.hid hin0; clear hin0
  obtain ⟨s0, hs0⟩ : ∃ s, s = n0 + totT xs0 := ⟨_, rfl⟩
  have HS_0 := Lib.hid hs0
  have HSZ : Hid (Below w.heap.size w w) := Lib.hid (Below.refl _ _)
  have hs0' : n0 ≤ s0 := by omega
  clear hs0
  by_cases hz0 : s0 ≤ 1048576
  rotate_left
  · go_enter Try.func10, Try.ntmps10
    go_wp2_with fail
    refine (szTicketS_bigI A0 n0 c0 xs0 _ s0 _ (by omega) (by omega) (by omega) (by omega) HS_0.out (fun x hx => (HIN0.out x hx).1) (HR0.out.below HSZ.out)).mono ?_
    rintro e wz ⟨rfl, hb⟩
    have HSZ := Lib.hid (HSZ.out.trans (hb.mono HSZ.out.size)); clear hb
    go_wp2_with fail
    go_ret
    exact ⟨rfl, HSZ.out⟩
  have HLX0 := Lib.hid (bdTicketS (xs := xs0) (n := n0) (s := s0) HS_0.out (by omega))
  obtain ⟨S0, hS0⟩ : ∃ S0, S0 = w := ⟨_, rfl⟩
  have HS0 := Lib.hid hS0
  have BW0 : Hid (Below w.heap.size w S0 ∧ w.heap.size ≤ S0.heap.size) := Lib.hid (by subst hS0; exact ⟨(Below.refl _ _), by simp; try omega⟩)
  rw [← hS0] at HR0
  clear hS0
  go_enter Try.func10, Try.ntmps10
  have BB0 : Hid (Below S0.heap.size S0 S0) := Lib.hid (Below.refl _ _)
  clear HSZ
  try rw [← HS0.out]
  go_wp2_with fail
  try rw [← HS0.out]
  refine (szTicketS_okI A0 n0 c0 xs0 _ s0 S0 (by omega) (by omega) (by omega) (by omega) HS_0.out (fun x hx => (HIN0.out x hx).1) (HR0.out.below BB0.out)).mono ?_
  rintro e w1 ⟨rfl, hb⟩
  have B0 := Lib.hid hb; clear hb
  have Z0 := Lib.hid (B0.out.size)
  have BB1 := Lib.hid (BB0.out.trans (B0.out.mono BB0.out.size))
  go_wp2_with fail
  refine (toTicketS_any A0 n0 c0 xs0 w1 (by omega) HLX0.out (HR0.out.below BB1.out)).mono ?_
  rintro e w2 ⟨As0, cs0, hss0, rfl, hown, hb⟩
  have Os0_2 := Lib.hid hown; clear hown
  have B1 := Lib.hid hb; clear hb
  have Z1 := Lib.hid (B1.out.size)
  have BB2 := Lib.hid (BB1.out.trans (B1.out.mono BB1.out.size))
  go_wp2_with fail
  refine (specCountStates_any As0 n0 cs0 xs0 w2 (by omega) HLX0.out (Reads2.of_own Os0_2.out)).mono ?_
  rintro e w3 ⟨rfl, hb⟩
  have B2 := Lib.hid hb; clear hb
  have Z2 := Lib.hid (B2.out.size)
  have BB3 := Lib.hid (BB2.out.trans (B2.out.mono BB2.out.size))
  have Os0_3 := Lib.hid (Os0_2.out.below B2.out (Nat.le_refl _))
  go_wp2_with fail
  refine (toTicketS_any A0 n0 c0 xs0 w3 (by omega) HLX0.out (HR0.out.below BB3.out)).mono ?_
  rintro e w4 ⟨Ax0, cx0, hsx0, rfl, hown, hb⟩
  have Ox0_4 := Lib.hid hown; clear hown
  have B3 := Lib.hid hb; clear hb
  have Z3 := Lib.hid (B3.out.size)
  have BB4 := Lib.hid (BB3.out.trans (B3.out.mono BB3.out.size))
  go_wp2_with fail
  refine (implCountStates_any Ax0 n0 cx0 xs0 w4 (by omega) HLX0.out (Reads2.of_own Ox0_4.out)).mono ?_
  rintro e w5 ⟨rfl, hb⟩
  have B4 := Lib.hid hb; clear hb
  have Z4 := Lib.hid (B4.out.size)
  have BB5 := Lib.hid (BB4.out.trans (B4.out.mono BB4.out.size))
  have Ox0_5 := Lib.hid (Ox0_4.out.below B4.out (Nat.le_refl _))
  go_wp2_with fail
  refine (toTicketS_any A0 n0 c0 xs0 w5 (by omega) HLX0.out (HR0.out.below BB5.out)).mono ?_
  rintro e w6 ⟨At0, ct0, hst0, rfl, hown, hb⟩
  have Ot0_6 := Lib.hid hown; clear hown
  have B5 := Lib.hid hb; clear hb
  have Z5 := Lib.hid (B5.out.size)
  have BB6 := Lib.hid (BB5.out.trans (B5.out.mono BB5.out.size))
  have Ox0_6 := Lib.hid (Ox0_5.out.below B5.out (by have := Z4.out; omega))
  go_wp2_with fail
  refine (eqTicketS_any Ax0 At0 n0 cx0 ct0 xs0 w6 (by omega) HLX0.out (Reads2.of_own Ox0_6.out) (Reads2.of_own Ot0_6.out)).mono ?_
  rintro e w7 ⟨rfl, hb⟩
  have B6 := Lib.hid hb; clear hb
  have Z6 := Lib.hid (B6.out.size)
  have BB7 := Lib.hid (BB6.out.trans (B6.out.mono BB6.out.size))
  have Ox0_7 := Lib.hid (Ox0_6.out.below B6.out (by have := Z4.out; have := Z5.out; omega))
  have Ot0_7 := Lib.hid (Ot0_6.out.below B6.out (Nat.le_refl _))
  go_wp2_with fail
  go_ret
  first | exact ⟨rfl, BW0.out.1.trans (BB7.out.mono BW0.out.2)⟩ | exact ⟨rfl, BB7.out⟩

end Go.Proofs.Ytcjmlakmigfkfaa
