/- Lemmas and contracts of this claim, several texts in one: What the law of rebuilt logs draws. What the law of filled logs draws. Contract of the laws' test on the size of the bytes. The law of filled logs: the walk. A slice of bytes among the arguments, opened. Speaks of no function. No conditions. -/
import Derived.Test.YtcjmlakmigfkfaaLg4
import Derived.Test.YtcjmlakmigfkfaaZFilled11
import Derived.Test.YtcjmlakmigfkfaaZFilled1
import Derived.Test.YtcjmlakmigfkfaaZFilled13
import Derived.Test.YtcjmlakmigfkfaaZFilled14
import Derived.Test.YtcjmlakmigfkfaaLib
namespace Go.Proofs.Ytcjmlakmigfkfaa
set_option linter.unusedSimpArgs false
set_option linter.unusedVariables false
open Go.RowKit

/-- A drawn log, read. -/
structure RdL (w : World) (A : Option Addr) (n c : Nat) (L : List EntryT) : Prop where
  rd : Reads2 w 5 A n (rowsE L)
  cap : n ≤ c
  few : n ≤ 31
  sh : ∀ x ∈ L, shE x
theorem RdL.below {w w' : World} {A : Option Addr} {n c : Nat} {L : List EntryT} (h : RdL w A n c L) (hb : Below w.heap.size w w') : RdL w' A n c L := ⟨h.rd.below hb, h.cap, h.few, h.sh⟩
theorem RdL.below' {w w' : World} {B : Nat} {A : Option Addr} {n c : Nat} {L : List EntryT} (h : RdL w A n c L) (hb : Below B w w') (hB : w.heap.size ≤ B) : RdL w' A n c L := h.below (hb.mono hB)
theorem RdL.len {w : World} {A : Option Addr} {n c : Nat} {L : List EntryT} (h : RdL w A n c L) : L.length = n := by have := h.rd.len; rw [length_rowsE] at this; omega
theorem LogR.rdL {w : World} {lo n c : Nat} {A : Option Addr} {L : List EntryT} {hs : List Value} (h : LogR w lo A n L hs) (hc : n ≤ c) (hn : n ≤ 31) (hs' : ∀ x ∈ L, shE x) : RdL w A n c L := ⟨h.reads, hc, hn, hs'⟩

set_option maxHeartbeats 4000000 in
set_option maxRecDepth 100000 in
theorem drawRebuildLog_any (A : Option Addr) (n c : Nat) (l : List Int) (w : World) (hn : n ≤ 9223372036854775807) (hl : ∀ x ∈ l, 0 ≤ x ∧ x ≤ 255) (h : Reads w 1 A n (bytesV l)) :
    Calls Try.prog 42 #[.slice A n c] w fun e w' => ∃ A1 n1 c1 L1 A2 n2 c2 L2, ∃ ar le : Int, e = .returned (.tuple #[.slice A1 n1 c1, .slice A2 n2 c2, .int .i64 ar, .int .i64 le]) ∧ RdL w' A1 n1 c1 L1 ∧ RdL w' A2 n2 c2 L2 ∧ Below w.heap.size w w' := by
  obtain ⟨w0, hw0⟩ : ∃ w0, w0 = w.alloc (.cells #[.slice A n c, .int .i64 0, .int .u64 0] 96) := ⟨_, rfl⟩
  have HB0 : Hid (Below w.heap.size w w0) := Lib.hid (by rw [hw0]; exact (Below.refl _ _).alloc (Nat.le_refl _) _)
  have HZ0 : Hid (w0.heap.size = w.heap.size + 1) := Lib.hid (by rw [hw0]; exact World.size_alloc _ _)
  have HC0 : Hid (Cur w0 w.heap.size 0) := Lib.hid (by rw [hw0]; exact Cur.new h hn hl)
  have HG0 : Hid (w.heap.size < w0.heap.size) := Lib.hid (by have := HZ0.out; omega)
  clear h hl
  go_enter Try.func42, Try.ntmps42
  go_wp2_with fail
  rw [← hw0]
  refine (between_any w.heap.size 0 w0 (by omega) HC0.out).mono ?_
  rintro e w1 ⟨A1, n1, c1, L1, hs1, A2, n2, c2, L2, hs2, A3, n3, c3, L3, hs3, ar, le, rfl, hc1, hc2, hc3, har, hle, hl1, hl2, hl3, hs1', hs2', hs3', hc, hd⟩
  have HCC := Lib.hid (And.intro hc1 (And.intro hc2 hc3)); have HL1 := Lib.hid hl1; have HL2 := Lib.hid hl2; have HL3 := Lib.hid hl3; have HS1 := Lib.hid hs1'; have HS2 := Lib.hid hs2'; have HS3 := Lib.hid hs3'; have HC := Lib.hid hc; have HD := Lib.hid hd; have HAR := Lib.hid (And.intro har hle)
  clear hc1 hc2 hc3 har hle hl1 hl2 hl3 hs1' hs2' hs3' hc hd hw0
  go_wp2_with fail
  refine (one_any w.heap.size _ 16 _ (by omega) (by omega) HC.out).mono ?_
  rintro e w2 ⟨b2, rfl, hc, hd⟩
  have HC2 := Lib.hid hc; have HD2 := Lib.hid (HD.out.trans hd); have HL2' := Lib.hid (HL2.out.keep (Keeps.of_drew hd HG0.out)); have HL3' := Lib.hid (HL3.out.keep (Keeps.of_drew hd HG0.out))
  clear hc hd
  cases b2 with
  | false =>
    go_wp2
    (try simp only [Exit.inBlock, Exit.then])
    refine bodyPost_ret (results_tmp4 rfl _ _ _) rfl ?_
    exact ⟨A2, n2, c2, L2, A3, n3, c3, L3, ar, le, rfl, HL2'.out.rdL HCC.out.2.1.1 HCC.out.2.1.2 HS2.out, HL3'.out.rdL HCC.out.2.2.1 HCC.out.2.2.2 HS3.out, HB0.out.trans (Drew.allB HD2.out (Nat.le_refl _) (Nat.le_of_lt HG0.out))⟩
  | true =>
    go_wp2_with fail
    refine (log_any w.heap.size _ w2 (by omega) HC2.out).mono ?_
    rintro e w3 ⟨A5, n5, c5, L5, hs5, rfl, hnc, hn31, hl, hok, hc, hd⟩
    have HL5 := Lib.hid hl; have HK5 := Lib.hid hok; have HD3 := Lib.hid (HD2.out.trans hd); have HL3'' := Lib.hid (HL3'.out.keep (Keeps.of_drew hd HG0.out)); have HN5 := Lib.hid (And.intro hnc hn31)
    clear hnc hn31 hl hok hc hd
    go_wp2
    (try simp only [Exit.inBlock, Exit.then])
    refine bodyPost_ret (results_tmp4 rfl _ _ _) rfl ?_
    exact ⟨A5, n5, c5, L5, A3, n3, c3, L3, ar, le, rfl, HL5.out.toR.rdL HN5.out.1 HN5.out.2 (fun x hx => shE_of (HK5.out x hx)), HL3''.out.rdL HCC.out.2.2.1 HCC.out.2.2.2 HS3.out, HB0.out.trans (Drew.allB HD3.out (Nat.le_refl _) (Nat.le_of_lt HG0.out))⟩

set_option maxHeartbeats 1000000 in
set_option maxRecDepth 100000 in
theorem drawOnlyBefore_any (A : Option Addr) (n c : Nat) (l : List Int) (w : World) (hn : n ≤ 9223372036854775807) (hl : ∀ x ∈ l, 0 ≤ x ∧ x ≤ 255) (h : Reads w 1 A n (bytesV l)) :
    Calls Try.prog 45 #[.slice A n c] w fun e w' => ∃ A1 n1 c1 L1 A2 n2 c2 L2, e = .returned (.tuple #[.slice A1 n1 c1, .slice A2 n2 c2]) ∧ RdL w' A1 n1 c1 L1 ∧ RdL w' A2 n2 c2 L2 ∧ Below w.heap.size w w' := by
  have H := Lib.hid h; have HL := Lib.hid hl
  clear h hl
  go_enter Try.func45, Try.ntmps45
  go_wp2_with fail
  refine (drawRebuildLog_any A n c l w hn HL.out H.out).mono ?_
  rintro e w1 ⟨A1, n1, c1, L1, A2, n2, c2, L2, ar, le, rfl, h1, h2, hb⟩
  have H1 := Lib.hid h1; have H2 := Lib.hid h2; have HB := Lib.hid hb
  clear h1 h2 hb
  go_wp2
  go_ret2
  exact ⟨A1, n1, c1, L1, A2, n2, c2, L2, rfl, H1.out, H2.out, HB.out⟩

set_option maxHeartbeats 1000000 in
set_option maxRecDepth 100000 in
theorem drawOnlyBehind_any (A : Option Addr) (n c : Nat) (l : List Int) (w : World) (hn : n ≤ 9223372036854775807) (hl : ∀ x ∈ l, 0 ≤ x ∧ x ≤ 255) (h : Reads w 1 A n (bytesV l)) :
    Calls Try.prog 51 #[.slice A n c] w fun e w' => ∃ A1 n1 c1 L1 A2 n2 c2 L2, e = .returned (.tuple #[.slice A1 n1 c1, .slice A2 n2 c2]) ∧ RdL w' A1 n1 c1 L1 ∧ RdL w' A2 n2 c2 L2 ∧ Below w.heap.size w w' := by
  have H := Lib.hid h; have HL := Lib.hid hl
  clear h hl
  go_enter Try.func51, Try.ntmps51
  go_wp2_with fail
  refine (drawOnlyBefore_any A n c l w hn HL.out H.out).mono ?_
  rintro e w1 ⟨A1, n1, c1, L1, A2, n2, c2, L2, rfl, h1, h2, hb⟩
  have H1 := Lib.hid h1; have H2 := Lib.hid h2; have HB := Lib.hid hb
  clear h1 h2 hb
  go_wp2
  go_ret2
  exact ⟨A1, n1, c1, L1, A2, n2, c2, L2, rfl, H1.out, H2.out, HB.out⟩

set_option maxHeartbeats 1000000 in
set_option maxRecDepth 100000 in
theorem drawChangedBetween_any (A : Option Addr) (n c : Nat) (l : List Int) (w : World) (hn : n ≤ 9223372036854775807) (hl : ∀ x ∈ l, 0 ≤ x ∧ x ≤ 255) (h : Reads w 1 A n (bytesV l)) :
    Calls Try.prog 50 #[.slice A n c] w fun e w' => ∃ A1 n1 c1 L1 A2 n2 c2 L2, e = .returned (.tuple #[.slice A1 n1 c1, .slice A2 n2 c2]) ∧ RdL w' A1 n1 c1 L1 ∧ RdL w' A2 n2 c2 L2 ∧ Below w.heap.size w w' := by
  have H := Lib.hid h; have HL := Lib.hid hl
  clear h hl
  go_enter Try.func50, Try.ntmps50
  go_wp2_with fail
  refine (drawOnlyBefore_any A n c l w hn HL.out H.out).mono ?_
  rintro e w1 ⟨A1, n1, c1, L1, A2, n2, c2, L2, rfl, h1, h2, hb⟩
  have H1 := Lib.hid h1; have H2 := Lib.hid h2; have HB := Lib.hid hb
  clear h1 h2 hb
  go_wp2
  go_ret2
  exact ⟨A1, n1, c1, L1, A2, n2, c2, L2, rfl, H1.out, H2.out, HB.out⟩

end Go.Proofs.Ytcjmlakmigfkfaa

namespace Go.Proofs.Ytcjmlakmigfkfaa
set_option linter.unusedSimpArgs false
set_option linter.unusedVariables false
open Go.RowKit

/-- Of an entry of a log that is read: its cells, kept, and what they hold. -/
theorem LogR.ent {w : World} {lo n i : Nat} {A : Option Addr} {L : List EntryT} {hs : List Value} (h : LogR w lo A n L hs) (hi : i < L.length) :
    ∃ ad A3 c3 A4 c4, A = some ad ∧ (∀ W, Keeps lo w W → W.cell? (ad.add (i * 5)) = some (.int .i64 L[i].1) ∧ W.cell? ⟨(ad.add (i * 5)).block, (ad.add (i * 5)).off + 1, none⟩ = some (.int .i64 L[i].2.1) ∧ W.cell? ⟨(ad.add (i * 5)).block, (ad.add (i * 5)).off + 2, none⟩ = some (.int .i64 L[i].2.2.1) ∧ W.cell? ⟨(ad.add (i * 5)).block, (ad.add (i * 5)).off + 3, none⟩ = some (.slice A3 L[i].2.2.2.1.length c3) ∧ W.cell? ⟨(ad.add (i * 5)).block, (ad.add (i * 5)).off + 4, none⟩ = some (.slice A4 L[i].2.2.2.2.length c4)) ∧
      stE w lo none [.int .i64 L[i].1, .int .i64 L[i].2.1, .int .i64 L[i].2.2.1, .slice A3 L[i].2.2.2.1.length c3, .slice A4 L[i].2.2.2.2.length c4] L[i] := by
  obtain ⟨ad, A3, c3, A4, c4, rfl, ⟨k0, k1, k2, k3, k4⟩, _, _⟩ := h.at_ hi
  have hln := h.len
  have hfar := h.far (by omega) ad rfl
  have up : ∀ W, Keeps lo w W → ∀ (q : Addr) (v : Value), q.block = ad.block → w.cell? q = some v → W.cell? q = some v := fun W hW q v hq hv =>
    (World.cell?_of_block (hW.block q.block (by rw [hq]; exact hfar) (World.block_lt_of_cell? w _ hv))).trans hv
  refine ⟨ad, A3, c3, A4, c4, rfl, fun W hW => ⟨up W hW _ _ (block_of_add _ _) k0, up W hW _ _ (block_of_add _ _) k1, up W hW _ _ (block_of_add _ _) k2, up W hW _ _ (block_of_add _ _) k3, up W hW _ _ (block_of_add _ _) k4⟩, rfl, fun j u y hu hy => ?_⟩
  have hl5 : hs.length = n * 5 := h.row.1
  obtain ⟨ad', e, hc⟩ := h.row.2 (by omega)
  injection e with e
  subst e
  have key : ∀ j (hj : 0 < j) (hj5 : j < 5) (v : Value) (z : Cel), w.cell? ⟨(ad.add (i * 5)).block, (ad.add (i * 5)).off + j, none⟩ = some v → (celEntry L[i])[j]? = some z → stC w lo none v z := by
    intro j hj hj5 v z hk hz
    have hlt : i * 5 + j < hs.length := by omega
    have h1 := hc (i * 5 + j) hs[i * 5 + j] (List.getElem?_eq_getElem hlt)
    rw [add_pos_ hj, hk] at h1
    injection h1 with h1
    have h2 := h.cell (i * 5 + j) _ z (List.getElem?_eq_getElem hlt) (by rw [rowsE_get hi hj5]; exact hz)
    rw [← h1] at h2
    exact h2
  match j with
  | 0 => simp [celEntry] at hu hy; subst hu; subst hy; exact .plain _
  | 1 => simp [celEntry] at hu hy; subst hu; subst hy; exact .plain _
  | 2 => simp [celEntry] at hu hy; subst hu; subst hy; exact .plain _
  | 3 => simp at hu; subst hu; exact key 3 (by omega) (by omega) _ _ k3 hy
  | 4 => simp at hu; subst hu; exact key 4 (by omega) (by omega) _ _ k4 hy
  | j + 5 => simp at hu

set_option maxHeartbeats 4000000 in
set_option maxRecDepth 100000 in
theorem drawFillLog_any (A : Option Addr) (n c : Nat) (l : List Int) (w : World) (hn : n ≤ 9223372036854775807) (hl : ∀ x ∈ l, 0 ≤ x ∧ x ≤ 255) (h : Reads w 1 A n (bytesV l)) :
    Calls Try.prog 31 #[.slice A n c] w fun e w' => ∃ R r cr LR A1 n1 c1 L1 A2 n2 c2 L2, ∃ ar le : Int, e = .returned (.tuple #[.slice R r cr, .slice A1 n1 c1, .slice A2 n2 c2, .int .i64 ar, .int .i64 le]) ∧ RdL w' R r cr LR ∧ RdL w' A1 n1 c1 L1 ∧ RdL w' A2 n2 c2 L2 ∧ Below w.heap.size w w' := by
  obtain ⟨w0, hw0⟩ : ∃ w0, w0 = w.alloc (.cells #[.slice A n c, .int .i64 0, .int .u64 0] 96) := ⟨_, rfl⟩
  have HB0 : Hid (Below w.heap.size w w0) := Lib.hid (by rw [hw0]; exact (Below.refl _ _).alloc (Nat.le_refl _) _)
  have HZ0 : Hid (w0.heap.size = w.heap.size + 1) := Lib.hid (by rw [hw0]; exact World.size_alloc _ _)
  have HC0 : Hid (Cur w0 w.heap.size 0) := Lib.hid (by rw [hw0]; exact Cur.new h hn hl)
  have HG0 : Hid (w.heap.size < w0.heap.size) := Lib.hid (by have := HZ0.out; omega)
  clear h hl
  go_enter Try.func31, Try.ntmps31
  go_wp2_with fail
  rw [← hw0]
  refine (between_any w.heap.size 0 w0 (by omega) HC0.out).mono ?_
  rintro e w1 ⟨A1, n1, c1, L1, hs1, A2, n2, c2, L2, hs2, A3, n3, c3, L3, hs3, ar, le, rfl, hc1, hc2, hc3, har, hle, hl1, hl2, hl3, hs1', hs2', hs3', hc, hd⟩
  have HCC := Lib.hid (And.intro hc1 (And.intro hc2 hc3)); have HL1 := Lib.hid hl1; have HL2 := Lib.hid hl2; have HL3 := Lib.hid hl3; have HS1 := Lib.hid hs1'; have HS2 := Lib.hid hs2'; have HS3 := Lib.hid hs3'; have HC := Lib.hid hc; have HD := Lib.hid hd; have HAR := Lib.hid (And.intro har hle)
  clear hc1 hc2 hc3 har hle hl1 hl2 hl3 hs1' hs2' hs3' hc hd hw0
  have hn31 : n1 ≤ 31 := HCC.out.1.2
  go_wp2
  have HG1 : Hid (w.heap.size < w1.heap.size) := Lib.hid (by have := HD.out.size; have := HG0.out; omega)
  go_loopw [13, 29] (fun rv i wr => ∃ k, ∃ R r cr LR hr, k ≤ n1 ∧ i = .int .i64 (k : Nat) ∧ rv = .slice R r cr ∧ r ≤ k ∧ LogO wr w0.heap.size R r cr LR hr ∧ (∀ q, (Value.slice R r cr).ownBlock = some q → w1.heap.size ≤ q) ∧ (∀ x ∈ LR, shE x) ∧ Cur wr w.heap.size (20000 + 2 * k) ∧ Drew w.heap.size w1 wr) (fun _ i _ => n1 - (intOf i).toNat)
  case atStart => exact ⟨0, none, 0, 0, [], [], Nat.zero_le _, rfl, rfl, Nat.le_refl _, LogO.nil _ _, (fun q e => by cases e), (fun x hx => by simp at hx), HC.out.mono (by omega), Turned.refl⟩
  case round =>
    obtain ⟨k, R, r, cr, LR, hr, hk, rfl, rfl, hrk, hlo, hfr, hsh, hc, hd⟩ := hrel
    have HLO := Lib.hid hlo; have HFR := Lib.hid hfr; have HSH := Lib.hid hsh; have HCR := Lib.hid hc; have HDR := Lib.hid hd
    clear hlo hfr hsh hc hd
    by_cases hlt : k < n1
    · have hx : k < L1.length := by rw [HL1.out.len]; exact hlt
      have hk1 : (k : Int) < (n1 : Int) := by omega
      have hk0 : (0 : Int) ≤ (k : Int) := by omega
      obtain ⟨ad, E3, e3, E4, e4, rfl, hcells, hst⟩ := HL1.out.ent hx
      obtain ⟨k0, k1, k2, k3, k4⟩ := hcells wr (Keeps.of_drew HDR.out HG0.out)
      clear hcells
      have HSX := Lib.hid (HS1.out L1[k] (List.getElem_mem hx))
      generalize L1[k] = x at *
      obtain ⟨t, m, p, l3, l4⟩ := x
      simp only at k0 k1 k2 k3 k4 hst
      have HST := Lib.hid hst
      clear hst
      have HA : Hid (Below wr.heap.size wr (wr.alloc (.cells #[.int .i64 t, .int .i64 m, .int .i64 p, .slice E3 l3.length e3, .slice E4 l4.length e4] 51))) := Lib.hid ((Below.refl _ _).alloc (Nat.le_refl _) _)
      have HBX : Hid ((wr.alloc (.cells #[.int .i64 t, .int .i64 m, .int .i64 p, .slice E3 l3.length e3, .slice E4 l4.length e4] 51)).heap[wr.heap.size]? = some (.cells #[.int .i64 t, .int .i64 m, .int .i64 p, .slice E3 l3.length e3, .slice E4 l4.length e4] 51 (0, 0))) := Lib.hid (heap_alloc_new wr _)
      go_wp2_with fail
      refine (one_any w.heap.size _ 2 _ (by omega) (by omega) (HCR.out.below HA.out)).mono ?_
      rintro e w5 ⟨b5, rfl, hc, hd⟩
      have HC5 := Lib.hid hc; have HD5 := Lib.hid ((HDR.out.trans (Drew.of_below HA.out)).trans hd)
      have HDW := Lib.hid ((Drew.of_below (g := w.heap.size) HA.out).trans hd)
      have HB5 := Lib.hid ((hd.block wr.heap.size (by simp) (by have := HDR.out.size; have := HG1.out; omega)).trans HBX.out)
      clear hc hd k0 k1 k2 k3 k4 HA HBX
      have HL5 := Lib.hid (HLO.out.keep (Keeps.of_drew HDW.out HG0.out))
      cases b5 with
      | false =>
        go_wp2
        go_roundw
        case rel => exact ⟨k + 1, R, r, cr, LR, hr, by omega, by go_num, rfl, by omega, HL5.out, HFR.out, HSH.out, HC5.out.mono (by omega), HD5.out⟩
        case measure => first | (simp [intOf]; done) | (simp [intOf]; omega)
      | true =>
        obtain ⟨x0, x1, x2, x3, x4⟩ := box5_S HB5.out
        have HBW : Hid (Below w5.heap.size w5 (w5.alloc (.cells #[.int .i64 t, .int .i64 m, .int .i64 p, .slice E3 l3.length e3, .slice E4 l4.length e4] 51))) := Lib.hid ((Below.refl _ _).alloc (Nat.le_refl _) _)
        have HL6 := Lib.hid (HL5.out.keep (Keeps.of_below HBW.out))
        have HX6 : Hid (stE (w5.alloc (.cells #[.int .i64 t, .int .i64 m, .int .i64 p, .slice E3 l3.length e3, .slice E4 l4.length e4] 51)) w0.heap.size (Value.slice R r cr).ownBlock [.int .i64 t, .int .i64 m, .int .i64 p, .slice E3 l3.length e3, .slice E4 l4.length e4] (t, m, p, l3, l4)) := Lib.hid (HST.out.fresh ((Keeps.of_drew HD5.out HG0.out).trans (Keeps.of_below HBW.out)) HFR.out)
        have HZ5 : Hid (w1.heap.size ≤ w5.heap.size ∧ w0.heap.size ≤ w1.heap.size) := Lib.hid ⟨HD5.out.size, HD.out.size⟩
        go_wp2_with (at_builtin; refine wpList_pushK _ rfl (.tmp 35) (.tmp 37) 27 rfl w0.heap.size 51 _ 5 72 infoEntry rfl (by omega) Try.underlying27 R r cr hr rfl HL6.out.row (some ⟨w5.heap.size, 0, none⟩) 1 1 [.int .i64 t, .int .i64 m, .int .i64 p, .slice E3 l3.length e3, .slice E4 l4.length e4] rfl (reads_litk _ _ _ rfl) (by simp [Value.oneCell']) (by omega) (by omega) (by omega) (by have := HZ5.out; simp; omega) ?_; intro R2 cr2 w6 hown6 hg6 hb6 hloc6 hold6)
        have HL7 := Lib.hid (HL6.out.push hg6 hown6 rfl hloc6 HX6.out)
        have HC7 := Lib.hid ((HC5.out.below HBW.out).below' hb6 HG0.out)
        have HD7 := Lib.hid (Drew.then_below (HD5.out.trans (Drew.of_below HBW.out)) (show Below w1.heap.size _ w6 from ⟨hg6.os, hg6.tape, hg6.output, hg6.size, fun q hq => hg6.block q (by have := HZ5.out; simp; omega) (fun e' => by have := HFR.out q e'.symm; omega)⟩))
        have HF7 : Hid (∀ q, (Value.slice R2 (r + 1) cr2).ownBlock = some q → w1.heap.size ≤ q) := Lib.hid (fun q hq => by
          rcases hloc6 with h1 | h1
          · exact HFR.out q (by rw [← h1]; exact hq)
          · rw [h1] at hq
            injection hq with hq
            have := HZ5.out
            simp at hq
            omega)
        clear hown6 hg6 hb6 hloc6 hold6 x0 x1 x2 x3 x4
        go_wp2
        go_roundw
        case rel => exact ⟨k + 1, R2, r + 1, cr2, LR ++ [(t, m, p, l3, l4)], hr ++ [.int .i64 t, .int .i64 m, .int .i64 p, .slice E3 l3.length e3, .slice E4 l4.length e4], by omega, by go_num, rfl, by omega, HL7.out, HF7.out, shE_snoc HSH.out HSX.out, HC7.out.mono (by omega), HD7.out⟩
        case measure => first | (simp [intOf]; done) | (simp [intOf]; omega)
    · have hk1 : ¬ (k : Int) < (n1 : Int) := by omega
      go_wp2
      (try simp only [Exit.inBlock, Exit.then])
      refine bodyPost_ret (results_tmp5 rfl _ _ _) rfl ?_
      have hRD := HLO.out.toR.rdL (own_cap HLO.out.row) (by omega) HSH.out
      have hK := Keeps.of_drew HDR.out HG0.out
      have h2 := (HL2.out.keep hK).rdL HCC.out.2.1.1 HCC.out.2.1.2 HS2.out
      have h3 := (HL3.out.keep hK).rdL HCC.out.2.2.1 HCC.out.2.2.2 HS3.out
      have hB := HB0.out.trans (Drew.allB (HD.out.trans HDR.out) (Nat.le_refl _) (Nat.le_of_lt HG0.out))
      exact ⟨R, r, cr, LR, A2, n2, c2, L2, A3, n3, c3, ⟨ar, le, rfl⟩, hRD, h2, ⟨L3, h3⟩, hB⟩

set_option maxHeartbeats 4000000 in
set_option maxRecDepth 100000 in
theorem drawLostCount_any (A : Option Addr) (n c : Nat) (l : List Int) (w : World) (hn : n ≤ 9223372036854775807) (hl : ∀ x ∈ l, 0 ≤ x ∧ x ≤ 255) (h : Reads w 1 A n (bytesV l)) :
    Calls Try.prog 35 #[.slice A n c] w fun e w' => ∃ A1 n1 c1 L1 A2 n2 c2 L2 R r cr LR, e = .returned (.tuple #[.slice A1 n1 c1, .slice A2 n2 c2, .slice R r cr]) ∧ RdL w' A1 n1 c1 L1 ∧ RdL w' A2 n2 c2 L2 ∧ RdL w' R r cr LR ∧ Below w.heap.size w w' := by
  obtain ⟨w0, hw0⟩ : ∃ w0, w0 = w.alloc (.cells #[.slice A n c, .int .i64 0, .int .u64 0] 96) := ⟨_, rfl⟩
  have HB0 : Hid (Below w.heap.size w w0) := Lib.hid (by rw [hw0]; exact (Below.refl _ _).alloc (Nat.le_refl _) _)
  have HZ0 : Hid (w0.heap.size = w.heap.size + 1) := Lib.hid (by rw [hw0]; exact World.size_alloc _ _)
  have HC0 : Hid (Cur w0 w.heap.size 0) := Lib.hid (by rw [hw0]; exact Cur.new h hn hl)
  have HG0 : Hid (w.heap.size < w0.heap.size) := Lib.hid (by have := HZ0.out; omega)
  clear h hl
  go_enter Try.func35, Try.ntmps35
  go_wp2_with fail
  rw [← hw0]
  refine (between_any w.heap.size 0 w0 (by omega) HC0.out).mono ?_
  rintro e w1 ⟨A1, n1, c1, L1, hs1, A2, n2, c2, L2, hs2, A3, n3, c3, L3, hs3, ar, le, rfl, hc1, hc2, hc3, har, hle, hl1, hl2, hl3, hs1', hs2', hs3', hc, hd⟩
  have HCC := Lib.hid (And.intro hc1 (And.intro hc2 hc3)); have HL1 := Lib.hid hl1; have HL2 := Lib.hid hl2; have HL3 := Lib.hid hl3; have HS1 := Lib.hid hs1'; have HS2 := Lib.hid hs2'; have HS3 := Lib.hid hs3'; have HC := Lib.hid hc; have HD := Lib.hid hd; have HAR := Lib.hid (And.intro har hle)
  clear hc1 hc2 hc3 har hle hl1 hl2 hl3 hs1' hs2' hs3' hc hd hw0
  have hn31 : n1 ≤ 31 := HCC.out.1.2
  go_wp2
  have HG1 : Hid (w.heap.size < w1.heap.size) := Lib.hid (by have := HD.out.size; have := HG0.out; omega)
  go_loopw [11, 27] (fun rv i wr => ∃ k, ∃ R r cr LR hr, k ≤ n1 ∧ i = .int .i64 (k : Nat) ∧ rv = .slice R r cr ∧ r ≤ k ∧ LogO wr w0.heap.size R r cr LR hr ∧ (∀ q, (Value.slice R r cr).ownBlock = some q → w1.heap.size ≤ q) ∧ (∀ x ∈ LR, shE x) ∧ Cur wr w.heap.size (20000 + 2 * k) ∧ Drew w.heap.size w1 wr) (fun _ i _ => n1 - (intOf i).toNat)
  case atStart => exact ⟨0, none, 0, 0, [], [], Nat.zero_le _, rfl, rfl, Nat.le_refl _, LogO.nil _ _, (fun q e => by cases e), (fun x hx => by simp at hx), HC.out.mono (by omega), Turned.refl⟩
  case round =>
    obtain ⟨k, R, r, cr, LR, hr, hk, rfl, rfl, hrk, hlo, hfr, hsh, hc, hd⟩ := hrel
    have HLO := Lib.hid hlo; have HFR := Lib.hid hfr; have HSH := Lib.hid hsh; have HCR := Lib.hid hc; have HDR := Lib.hid hd
    clear hlo hfr hsh hc hd
    by_cases hlt : k < n1
    · have hx : k < L1.length := by rw [HL1.out.len]; exact hlt
      have hk1 : (k : Int) < (n1 : Int) := by omega
      have hk0 : (0 : Int) ≤ (k : Int) := by omega
      obtain ⟨ad, E3, e3, E4, e4, rfl, hcells, hst⟩ := HL1.out.ent hx
      obtain ⟨k0, k1, k2, k3, k4⟩ := hcells wr (Keeps.of_drew HDR.out HG0.out)
      clear hcells
      have HSX := Lib.hid (HS1.out L1[k] (List.getElem_mem hx))
      generalize L1[k] = x at *
      obtain ⟨t, m, p, l3, l4⟩ := x
      simp only at k0 k1 k2 k3 k4 hst
      have HST := Lib.hid hst
      clear hst
      have HA : Hid (Below wr.heap.size wr (wr.alloc (.cells #[.int .i64 t, .int .i64 m, .int .i64 p, .slice E3 l3.length e3, .slice E4 l4.length e4] 51))) := Lib.hid ((Below.refl _ _).alloc (Nat.le_refl _) _)
      have HBX : Hid ((wr.alloc (.cells #[.int .i64 t, .int .i64 m, .int .i64 p, .slice E3 l3.length e3, .slice E4 l4.length e4] 51)).heap[wr.heap.size]? = some (.cells #[.int .i64 t, .int .i64 m, .int .i64 p, .slice E3 l3.length e3, .slice E4 l4.length e4] 51 (0, 0))) := Lib.hid (heap_alloc_new wr _)
      go_wp2_with fail
      refine (one_any w.heap.size _ 2 _ (by omega) (by omega) (HCR.out.below HA.out)).mono ?_
      rintro e w5 ⟨b5, rfl, hc, hd⟩
      have HC5 := Lib.hid hc; have HD5 := Lib.hid ((HDR.out.trans (Drew.of_below HA.out)).trans hd)
      have HDW := Lib.hid ((Drew.of_below (g := w.heap.size) HA.out).trans hd)
      have HB5 := Lib.hid ((hd.block wr.heap.size (by simp) (by have := HDR.out.size; have := HG1.out; omega)).trans HBX.out)
      clear hc hd k0 k1 k2 k3 k4 HA HBX
      have HL5 := Lib.hid (HLO.out.keep (Keeps.of_drew HDW.out HG0.out))
      cases b5 with
      | false =>
        go_wp2
        go_roundw
        case rel => exact ⟨k + 1, R, r, cr, LR, hr, by omega, by go_num, rfl, by omega, HL5.out, HFR.out, HSH.out, HC5.out.mono (by omega), HD5.out⟩
        case measure => first | (simp [intOf]; done) | (simp [intOf]; omega)
      | true =>
        obtain ⟨x0, x1, x2, x3, x4⟩ := box5_S HB5.out
        have HBW : Hid (Below w5.heap.size w5 (w5.alloc (.cells #[.int .i64 t, .int .i64 m, .int .i64 p, .slice E3 l3.length e3, .slice E4 l4.length e4] 51))) := Lib.hid ((Below.refl _ _).alloc (Nat.le_refl _) _)
        have HL6 := Lib.hid (HL5.out.keep (Keeps.of_below HBW.out))
        have HX6 : Hid (stE (w5.alloc (.cells #[.int .i64 t, .int .i64 m, .int .i64 p, .slice E3 l3.length e3, .slice E4 l4.length e4] 51)) w0.heap.size (Value.slice R r cr).ownBlock [.int .i64 t, .int .i64 m, .int .i64 p, .slice E3 l3.length e3, .slice E4 l4.length e4] (t, m, p, l3, l4)) := Lib.hid (HST.out.fresh ((Keeps.of_drew HD5.out HG0.out).trans (Keeps.of_below HBW.out)) HFR.out)
        have HZ5 : Hid (w1.heap.size ≤ w5.heap.size ∧ w0.heap.size ≤ w1.heap.size) := Lib.hid ⟨HD5.out.size, HD.out.size⟩
        go_wp2_with (at_builtin; refine wpList_pushK _ rfl (.tmp 33) (.tmp 35) 27 rfl w0.heap.size 51 _ 5 72 infoEntry rfl (by omega) Try.underlying27 R r cr hr rfl HL6.out.row (some ⟨w5.heap.size, 0, none⟩) 1 1 [.int .i64 t, .int .i64 m, .int .i64 p, .slice E3 l3.length e3, .slice E4 l4.length e4] rfl (reads_litk _ _ _ rfl) (by simp [Value.oneCell']) (by omega) (by omega) (by omega) (by have := HZ5.out; simp; omega) ?_; intro R2 cr2 w6 hown6 hg6 hb6 hloc6 hold6)
        have HL7 := Lib.hid (HL6.out.push hg6 hown6 rfl hloc6 HX6.out)
        have HC7 := Lib.hid ((HC5.out.below HBW.out).below' hb6 HG0.out)
        have HD7 := Lib.hid (Drew.then_below (HD5.out.trans (Drew.of_below HBW.out)) (show Below w1.heap.size _ w6 from ⟨hg6.os, hg6.tape, hg6.output, hg6.size, fun q hq => hg6.block q (by have := HZ5.out; simp; omega) (fun e' => by have := HFR.out q e'.symm; omega)⟩))
        have HF7 : Hid (∀ q, (Value.slice R2 (r + 1) cr2).ownBlock = some q → w1.heap.size ≤ q) := Lib.hid (fun q hq => by
          rcases hloc6 with h1 | h1
          · exact HFR.out q (by rw [← h1]; exact hq)
          · rw [h1] at hq
            injection hq with hq
            have := HZ5.out
            simp at hq
            omega)
        clear hown6 hg6 hb6 hloc6 hold6 x0 x1 x2 x3 x4
        go_wp2
        go_roundw
        case rel => exact ⟨k + 1, R2, r + 1, cr2, LR ++ [(t, m, p, l3, l4)], hr ++ [.int .i64 t, .int .i64 m, .int .i64 p, .slice E3 l3.length e3, .slice E4 l4.length e4], by omega, by go_num, rfl, by omega, HL7.out, HF7.out, shE_snoc HSH.out HSX.out, HC7.out.mono (by omega), HD7.out⟩
        case measure => first | (simp [intOf]; done) | (simp [intOf]; omega)
    · have hk1 : ¬ (k : Int) < (n1 : Int) := by omega
      go_wp2
      (try simp only [Exit.inBlock, Exit.then])
      refine bodyPost_ret (results_tmp3 rfl _ _ _) rfl ?_
      have hRD := HLO.out.toR.rdL (own_cap HLO.out.row) (by omega) HSH.out
      have hK := Keeps.of_drew HDR.out HG0.out
      have h2 := (HL2.out.keep hK).rdL HCC.out.2.1.1 HCC.out.2.1.2 HS2.out
      have h3 := (HL3.out.keep hK).rdL HCC.out.2.2.1 HCC.out.2.2.2 HS3.out
      have hB := HB0.out.trans (Drew.allB (HD.out.trans HDR.out) (Nat.le_refl _) (Nat.le_of_lt HG0.out))
      exact ⟨A2, n2, c2, L2, A3, n3, c3, L3, R, r, cr, rfl, h2, h3, ⟨LR, hRD⟩, hB⟩

set_option maxHeartbeats 4000000 in
set_option maxRecDepth 100000 in
theorem drawFitsBetween_any (A : Option Addr) (n c : Nat) (l : List Int) (w : World) (hn : n ≤ 9223372036854775807) (hl : ∀ x ∈ l, 0 ≤ x ∧ x ≤ 255) (h : Reads w 1 A n (bytesV l)) :
    Calls Try.prog 39 #[.slice A n c] w fun e w' => ∃ R r cr LR A1 n1 c1 L1 A2 n2 c2 L2, ∃ ar le : Int, e = .returned (.tuple #[.slice R r cr, .slice A1 n1 c1, .slice A2 n2 c2, .int .i64 ar, .int .i64 le]) ∧ RdL w' R r cr LR ∧ RdL w' A1 n1 c1 L1 ∧ RdL w' A2 n2 c2 L2 ∧ Below w.heap.size w w' := by
  obtain ⟨w0, hw0⟩ : ∃ w0, w0 = w.alloc (.cells #[.slice A n c, .int .i64 0, .int .u64 0] 96) := ⟨_, rfl⟩
  have HB0 : Hid (Below w.heap.size w w0) := Lib.hid (by rw [hw0]; exact (Below.refl _ _).alloc (Nat.le_refl _) _)
  have HZ0 : Hid (w0.heap.size = w.heap.size + 1) := Lib.hid (by rw [hw0]; exact World.size_alloc _ _)
  have HC0 : Hid (Cur w0 w.heap.size 0) := Lib.hid (by rw [hw0]; exact Cur.new h hn hl)
  have HG0 : Hid (w.heap.size < w0.heap.size) := Lib.hid (by have := HZ0.out; omega)
  clear h hl
  go_enter Try.func39, Try.ntmps39
  go_wp2_with fail
  rw [← hw0]
  refine (between_any w.heap.size 0 w0 (by omega) HC0.out).mono ?_
  rintro e w1 ⟨A1, n1, c1, L1, hs1, A2, n2, c2, L2, hs2, A3, n3, c3, L3, hs3, ar, le, rfl, hc1, hc2, hc3, har, hle, hl1, hl2, hl3, hs1', hs2', hs3', hc, hd⟩
  have HCC := Lib.hid (And.intro hc1 (And.intro hc2 hc3)); have HL1 := Lib.hid hl1; have HL2 := Lib.hid hl2; have HL3 := Lib.hid hl3; have HS1 := Lib.hid hs1'; have HS2 := Lib.hid hs2'; have HS3 := Lib.hid hs3'; have HC := Lib.hid hc; have HD := Lib.hid hd; have HAR := Lib.hid (And.intro har hle)
  clear hc1 hc2 hc3 har hle hl1 hl2 hl3 hs1' hs2' hs3' hc hd hw0
  have D1 := Lib.hid (HL1.out.rdL HCC.out.1.1 HCC.out.1.2 HS1.out); have D2 := Lib.hid (HL2.out.rdL HCC.out.2.1.1 HCC.out.2.1.2 HS2.out); have D3 := Lib.hid (HL3.out.rdL HCC.out.2.2.1 HCC.out.2.2.2 HS3.out)
  have CG := rbGood_any A2 n2 c2 L2 A3 n3 c3 L3 ar le w1 (by have := D2.out.few; omega) (fun x hx => shE_len (D2.out.sh x hx)) D2.out.rd (by have := D3.out.few; omega) (fun x hx => shE_len (D3.out.sh x hx)) D3.out.rd
  have hR4 := HG0.out
  cases hask : askE L2 L3 ar le with
  | false =>
    rw [hask] at CG
    have HCG := Lib.hid CG
    clear CG hask
    go_wp2_with fail
    refine (HCG.out).mono ?_
    rintro e w2 ⟨rfl, hb⟩
    have HB2 := Lib.hid hb
    clear hb
    go_wp2
    (try simp only [Exit.inBlock, Exit.then])
    refine bodyPost_ret (results_tmp5 rfl _ _ _) rfl ?_
    exact ⟨A1, n1, c1, L1, A2, n2, c2, L2, A3, n3, c3, L3, ar, le, rfl, D1.out.below HB2.out, D2.out.below HB2.out, D3.out.below HB2.out, HB0.out.trans (Drew.allB (HD.out.trans (Drew.of_below HB2.out)) (Nat.le_refl _) (Nat.le_of_lt HG0.out))⟩
  | true =>
    rw [hask] at CG
    have HCG := Lib.hid CG
    have HASK := Lib.hid hask
    clear CG hask
    go_wp2_with fail
    refine (HCG.out).mono ?_
    rintro e w2 ⟨rfl, hb⟩
    replace HL1 := Lib.hid (HL1.out.keep (Keeps.of_below hb)); replace HL2 := Lib.hid (HL2.out.keep (Keeps.of_below hb)); replace HL3 := Lib.hid (HL3.out.keep (Keeps.of_below hb))
    replace HC := Lib.hid (HC.out.below hb); replace HD := Lib.hid (HD.out.trans (Drew.of_below hb))
    clear hb D1 D2 D3
    go_wp2_with fail
    refine (one_any w.heap.size _ 2 _ (by omega) (by omega) HC.out).mono ?_
    rintro e w3 ⟨b3, rfl, hc, hd⟩
    replace HL1 := Lib.hid (HL1.out.keep (Keeps.of_drew hd HG0.out)); replace HL2 := Lib.hid (HL2.out.keep (Keeps.of_drew hd HG0.out)); replace HL3 := Lib.hid (HL3.out.keep (Keeps.of_drew hd HG0.out))
    replace HC := Lib.hid hc; replace HD := Lib.hid (HD.out.trans hd)
    clear hc hd
    have D1 := Lib.hid (HL1.out.rdL HCC.out.1.1 HCC.out.1.2 HS1.out); have D2 := Lib.hid (HL2.out.rdL HCC.out.2.1.1 HCC.out.2.1.2 HS2.out); have D3 := Lib.hid (HL3.out.rdL HCC.out.2.2.1 HCC.out.2.2.2 HS3.out)
    cases b3 with
    | false =>
      go_wp2
      (try simp only [Exit.inBlock, Exit.then])
      refine bodyPost_ret (results_tmp5 rfl _ _ _) rfl ?_
      exact ⟨A1, n1, c1, L1, A2, n2, c2, L2, A3, n3, c3, L3, ar, le, rfl, D1.out, D2.out, D3.out, HB0.out.trans (Drew.allB HD.out (Nat.le_refl _) (Nat.le_of_lt HG0.out))⟩
    | true =>
      have CR := Lib.hid (rbLog_any A2 n2 c2 L2 A3 n3 c3 L3 ar le w3 HASK.out D2.out.rd D3.out.rd)
      go_wp2_with fail
      refine (CR.out).mono ?_
      rintro e w4 ⟨Q, q, hs, rfl, ho, hb⟩
      have HBQ := Lib.hid hb
      have HQ := Lib.hid (show RdL w4 Q (rebE ar le (togE L3 L2)).length q (rebE ar le (togE L3 L2)) from ⟨Reads2.of_own ho, own_cap ho.row, by have := (goodE_all (rebE_good HASK.out)).2; omega, fun x hx => by have := entB_len ((goodE_all (rebE_good HASK.out)).1 x hx); exact ⟨by omega, by omega⟩⟩)
      clear ho hb
      go_wp2
      (try simp only [Exit.inBlock, Exit.then])
      refine bodyPost_ret (results_tmp5 rfl _ _ _) rfl ?_
      exact ⟨Q, _, q, _, A2, n2, c2, L2, A3, n3, c3, L3, ar, le, rfl, HQ.out, D2.out.below HBQ.out, D3.out.below HBQ.out, HB0.out.trans (Drew.allB (HD.out.trans (Drew.of_below HBQ.out)) (Nat.le_refl _) (Nat.le_of_lt HG0.out))⟩

end Go.Proofs.Ytcjmlakmigfkfaa

namespace Go.Proofs.Ytcjmlakmigfkfaa
set_option linter.unusedSimpArgs false
set_option linter.unusedVariables false
open Go.RowKit

def bigB (n m : Nat) : Bool := decide (1048576 < n) || decide ((1048576 : Int) - (n : Int) < (m : Int))
theorem bigB_no {n m : Nat} (h : bigB n m = false) : n ≤ 1048576 ∧ m ≤ 1048576 := by
  simp [bigB] at h
  omega
theorem big_any (A : Option Addr) (n c : Nat) (B : Option Addr) (m d : Nat) (w : World) (hn : n ≤ 9223372036854775807) (hm : m ≤ 9223372036854775807) :
    Calls Try.prog 30 #[.slice A n c, .slice B m d] w fun e w' => e = .returned (.bool (bigB n m)) ∧ w = w' := by
  by_cases h1 : 1048576 < n
  · have hr : bigB n m = true := by simp [bigB, h1]
    rw [hr]
    clear hr
    go_enter Try.func30, Try.ntmps30
    go_wp2
    go_ret
    exact ⟨rfl, rfl⟩
  · by_cases h2 : (1048576 : Int) - (n : Int) < (m : Int)
    · have hr : bigB n m = true := by simp [bigB, h2]
      rw [hr]
      clear hr
      go_enter Try.func30, Try.ntmps30
      go_wp2
      go_ret
      exact ⟨rfl, rfl⟩
    · have hr : bigB n m = false := by simp [bigB]; omega
      rw [hr]
      clear hr
      go_enter Try.func30, Try.ntmps30
      go_wp2
      go_ret
      exact ⟨ret_bool (show decide ((1048576 : Int) < (n : Int)) = false by simp; omega), rfl⟩
end Go.Proofs.Ytcjmlakmigfkfaa

namespace Go.Proofs.Ytcjmlakmigfkfaa
set_option linter.unusedSimpArgs false
set_option linter.unusedVariables false
open Go.RowKit

theorem fillR_good0 (R L M : List EntryT) (a b : Int) : (fillR R L M a b).1 = [] ∨ goodE (fillR R L M a b).1 = true := by
  unfold fillR joinLR
  split
  · split
    · split
      · next h => exact .inr h
      · exact .inl rfl
    · exact .inl rfl
  · exact .inl rfl
theorem fillR_bd (R L M : List EntryT) (a b : Int) : (fillR R L M a b).1.length ≤ 30 ∧ ∀ x ∈ (fillR R L M a b).1, lenE 1000000000 x := by
  rcases fillR_good0 R L M a b with h | h
  · rw [h]; simp
  · refine ⟨(goodE_all h).2, fun x hx => ?_⟩
    have := entB_len ((goodE_all h).1 x hx)
    unfold lenE
    omega
theorem reads2_app {w : World} {base n m c : Nat} {e : TypeId} {A : Option Addr} {L M : List EntryT} {h1 h2 : List Value} (hr : w.ownsRow base e 5 (.slice A (n + m) c) (n + m) (h1 ++ h2)) (hl1 : (rowsE L).length = h1.length) (hl2 : (rowsE M).length = h2.length)
    (k1 : ∀ (j : Nat) (u : Value) (x : Cel), h1[j]? = some u → (rowsE L)[j]? = some x → readsC w u x) (k2 : ∀ (j : Nat) (u : Value) (x : Cel), h2[j]? = some u → (rowsE M)[j]? = some x → readsC w u x) : Reads2 w 5 A (n + m) (rowsE (L ++ M)) := by
  have e1 : rowsE (L ++ M) = rowsE L ++ rowsE M := by simp [rowsE]
  refine ⟨h1 ++ h2, .of_own hr, by rw [e1]; simp [hl1, hl2], fun j u x hu hx => ?_⟩
  rw [e1] at hx
  rcases append_cases hu with ⟨hj, hu⟩ | ⟨hj, hu⟩ <;> rcases append_cases hx with ⟨hj', hx⟩ | ⟨hj', hx⟩
  · exact k1 j u x hu hx
  · omega
  · omega
  · rw [hl1] at hx
    exact k2 _ u x hu hx

set_option maxHeartbeats 40000000 in
set_option maxRecDepth 100000 in
theorem law_FnFilled (w : World) {v0 v1 : Value} (h0 : IsBytes w v0) (h1 : IsBytes w v1) :
    Calls Try.prog 7 #[v0, v1] w fun e w' => e = .returned (.bool true) ∧ Below w.heap.size w w' := by
  obtain ⟨A0, n0, c0, l0, rfl, hnc0, hcm0, hr0, hb0⟩ := h0
  obtain ⟨A9, n9, c9, l9, rfl, hnc9, hcm9, hr9, hb9⟩ := h1
  have HR0 := Lib.hid hr0; have HR9 := Lib.hid hr9; have HL0 := Lib.hid hb0; have HL9 := Lib.hid hb9
  clear hr0 hr9 hb0 hb9
  have HB : Hid (Below w.heap.size w w) := Lib.hid (Below.refl _ _)
  have CB := big_any A0 n0 c0 A9 n9 c9 w (by omega) (by omega)
  cases hbig : bigB n0 n9 with
  | true =>
    rw [hbig] at CB
    have HCB := Lib.hid CB
    clear CB
    go_enter Try.func7, Try.ntmps7
    go_wp2_with fail
    refine (HCB.out).mono ?_
    rintro e w1 ⟨rfl, rfl⟩
    go_wp2
    go_ret
    exact ⟨rfl, Below.refl _ _⟩
  | false =>
  rw [hbig] at CB
  have HCB := Lib.hid CB
  clear CB hbig
  go_enter Try.func7, Try.ntmps7
  go_wp2_with fail
  refine (HCB.out).mono ?_
  rintro e w1 ⟨rfl, rfl⟩
  clear HCB
  go_wp2_with fail
  refine (drawFillLog_any A0 n0 c0 l0 _ (by omega) HL0.out HR0.out).mono ?_
  rintro e w1 ⟨R, r, cr, LR, A1, n1, c1, L1, A2, n2, c2, L2, ar, le, rfl, hr, h1, h2, hb⟩
  replace HB := Lib.hid (HB.out.trans hb)
  have H0 := Lib.hid hr; have H1 := Lib.hid h1; have H2 := Lib.hid h2
  clear hr h1 h2 hb

  go_wp2_with fail
  refine (implFillLog_any R r cr LR A1 n1 c1 L1 A2 n2 c2 L2 ar le _ (by have := H0.out.few; omega) (fun x hx => shE_len (H0.out.sh x hx)) H0.out.rd H0.out.cap (by have := H1.out.few; omega) (fun x hx => shE_len (H1.out.sh x hx)) H1.out.rd H1.out.cap (by have := H2.out.few; omega) (fun x hx => shE_len (H2.out.sh x hx)) H2.out.rd H2.out.cap).mono ?_
  rintro e wz ⟨Q1, q1, hs1, rfl, ho, hb⟩
  replace HB := Lib.hid (HB.out.trans (hb.mono HB.out.size))
  replace H0 := Lib.hid (H0.out.below hb)
  replace H1 := Lib.hid (H1.out.below hb)
  replace H2 := Lib.hid (H2.out.below hb)
  have HQ1 := Lib.hid (Reads2.of_own ho)
  have HCAP1 := Lib.hid (own_cap ho.row)
  clear hb ho
  obtain ⟨wy, rfl⟩ : ∃ wy, wy = wz := ⟨_, rfl⟩
  go_wp2_with fail
  refine (specFillLog_any R r cr LR A1 n1 c1 L1 A2 n2 c2 L2 ar le _ (by have := H0.out.few; omega) (fun x hx => shE_len (H0.out.sh x hx)) H0.out.rd H0.out.cap (by have := H1.out.few; omega) (fun x hx => shE_len (H1.out.sh x hx)) H1.out.rd H1.out.cap (by have := H2.out.few; omega) (fun x hx => shE_len (H2.out.sh x hx)) H2.out.rd H2.out.cap).mono ?_
  rintro e wz ⟨Q2, q2, hs2, rfl, ho, hb⟩
  replace HB := Lib.hid (HB.out.trans (hb.mono HB.out.size))
  replace H0 := Lib.hid (H0.out.below hb)
  replace H1 := Lib.hid (H1.out.below hb)
  replace H2 := Lib.hid (H2.out.below hb)
  replace HQ1 := Lib.hid (HQ1.out.below hb)
  have HQ2 := Lib.hid (Reads2.of_own ho)
  clear hb ho
  obtain ⟨wy, rfl⟩ : ∃ wy, wy = wz := ⟨_, rfl⟩
  have HF := Lib.hid (fill_facts LR L1 L2 ar le)
  obtain ⟨hfn, hfl⟩ := fillR_bd LR L1 L2 ar le
  have HFL := Lib.hid hfl
  clear hfl
  generalize (fillR LR L1 L2 ar le).1 = FL at *
  generalize (fillR LR L1 L2 ar le).2 = ok at *
  go_wp2_with fail
  refine (pSameLog_same Q1 Q2 FL.length q1 q2 FL _ (by omega) HFL.out HQ1.out HQ2.out).mono ?_
  rintro e wz ⟨rfl, hb⟩
  replace HB := Lib.hid (HB.out.trans (hb.mono HB.out.size))
  replace H0 := Lib.hid (H0.out.below hb)
  replace H1 := Lib.hid (H1.out.below hb)
  replace H2 := Lib.hid (H2.out.below hb)
  replace HQ1 := Lib.hid (HQ1.out.below hb)
  replace HQ2 := Lib.hid (HQ2.out.below hb)
  clear hb
  obtain ⟨wy, rfl⟩ : ∃ wy, wy = wz := ⟨_, rfl⟩
  go_upto_if 84 with fail
  obtain ⟨wA, rfl⟩ : ∃ wA, wA = wy := ⟨_, rfl⟩
  go_cut [] from 500 to 500 (fun wx => Below wA.heap.size wA wx)
  case first =>
    as_aux_lemma =>
    have HQ : Hid (Below wA.heap.size wA wA) := Lib.hid (Below.refl _ _)
    cases ok with
    | false =>
      go_wp2_with fail
      go_meet
      case rel => exact HQ.out
    | true =>
      obtain ⟨_, hask, hgf, hle, hall⟩ := HF.out rfl
      have HASK := Lib.hid hask; have HGF := Lib.hid hgf; have HALL := Lib.hid hall
      have HRB := Lib.hid (fill_reb LR L1 L2 ar le hask)
      have HKL : Hid (∀ x ∈ rebE ar le (togE L2 L1), lenE 1000000000 x) := Lib.hid (fun x hx => by have := entB_len ((goodE_all (rebE_good hask)).1 x hx); unfold lenE; omega)
      have hkn : (rebE ar le (togE L2 L1)).length ≤ 30 := (goodE_all (rebE_good hask)).2
      clear hask hgf hall HF
      replace HB := HQ
      obtain ⟨wy, rfl⟩ : ∃ wy, wy = wA := ⟨_, rfl⟩
      go_wp2_with fail
      refine (implRebuildLog_any A1 n1 c1 L1 A2 n2 c2 L2 ar le _ (by have := H1.out.few; omega) (fun x hx => shE_len (H1.out.sh x hx)) H1.out.rd H1.out.cap (by have := H2.out.few; omega) (fun x hx => shE_len (H2.out.sh x hx)) H2.out.rd H2.out.cap).mono ?_
      rintro e wz ⟨Q3, q3, hs3, rfl, ho, hb⟩
      replace HB := Lib.hid (HB.out.trans (hb.mono HB.out.size))
      replace H0 := Lib.hid (H0.out.below hb)
      replace H1 := Lib.hid (H1.out.below hb)
      replace H2 := Lib.hid (H2.out.below hb)
      replace HQ1 := Lib.hid (HQ1.out.below hb)
      replace HQ2 := Lib.hid (HQ2.out.below hb)
      have HQ3 := Lib.hid (Reads2.of_own ho)
      clear hb ho
      obtain ⟨wy, rfl⟩ : ∃ wy, wy = wz := ⟨_, rfl⟩
      go_wp2_with fail
      refine (specRebuildLog_any A1 n1 c1 L1 A2 n2 c2 L2 ar le _ (by have := H1.out.few; omega) (fun x hx => shE_len (H1.out.sh x hx)) H1.out.rd H1.out.cap (by have := H2.out.few; omega) (fun x hx => shE_len (H2.out.sh x hx)) H2.out.rd H2.out.cap).mono ?_
      rintro e wz ⟨Q4, q4, hs4, rfl, ho, hb⟩
      replace HB := Lib.hid (HB.out.trans (hb.mono HB.out.size))
      replace H0 := Lib.hid (H0.out.below hb)
      replace H1 := Lib.hid (H1.out.below hb)
      replace H2 := Lib.hid (H2.out.below hb)
      replace HQ1 := Lib.hid (HQ1.out.below hb)
      replace HQ2 := Lib.hid (HQ2.out.below hb)
      replace HQ3 := Lib.hid (HQ3.out.below hb)
      have HQ4 := Lib.hid (Reads2.of_own ho)
      clear hb ho
      obtain ⟨wy, rfl⟩ : ∃ wy, wy = wz := ⟨_, rfl⟩
      rw [HRB.out] at HQ3 HQ4
      rw [HRB.out]
      simp only at HQ3 HQ4
      generalize rebE ar le (togE L2 L1) = K at *
      go_wp2_with fail
      refine (isLog_any Q1 FL.length q1 FL _ (by omega) HCAP1.out HFL.out HQ1.out).mono ?_
      rintro e wz ⟨rfl, hb⟩
      replace HB := Lib.hid (HB.out.trans (hb.mono HB.out.size))
      replace H0 := Lib.hid (H0.out.below hb)
      replace H1 := Lib.hid (H1.out.below hb)
      replace H2 := Lib.hid (H2.out.below hb)
      replace HQ1 := Lib.hid (HQ1.out.below hb)
      replace HQ2 := Lib.hid (HQ2.out.below hb)
      replace HQ3 := Lib.hid (HQ3.out.below hb)
      replace HQ4 := Lib.hid (HQ4.out.below hb)
      clear hb
      obtain ⟨wy, rfl⟩ : ∃ wy, wy = wz := ⟨_, rfl⟩
      rw [HGF.out]
      go_wp2_with fail
      refine (pSameLog_same Q3 Q4 K.length q3 q4 K _ (by omega) HKL.out HQ3.out HQ4.out).mono ?_
      rintro e wz ⟨rfl, hb⟩
      replace HB := Lib.hid (HB.out.trans (hb.mono HB.out.size))
      replace H0 := Lib.hid (H0.out.below hb)
      replace H1 := Lib.hid (H1.out.below hb)
      replace H2 := Lib.hid (H2.out.below hb)
      replace HQ1 := Lib.hid (HQ1.out.below hb)
      replace HQ2 := Lib.hid (HQ2.out.below hb)
      replace HQ3 := Lib.hid (HQ3.out.below hb)
      replace HQ4 := Lib.hid (HQ4.out.below hb)
      clear hb
      obtain ⟨wy, rfl⟩ : ∃ wy, wy = wz := ⟨_, rfl⟩
      have hr31 : r ≤ 31 := H0.out.few
      have hlr := H0.out.len
      have hlt0 : decide ((FL.length : Int) < (r : Int)) = false := by rw [decide_eq_false_iff_not]; omega
      obtain ⟨hsR, hrR, hlR, hcR⟩ := H0.out.rd
      obtain ⟨hsK, hrK, hlK, hcK⟩ := HQ4.out
      obtain ⟨N, hN⟩ : ∃ N, r + K.length = N := ⟨_, rfl⟩
      have HNN := Lib.hid hN
      have hN61 : N ≤ 61 := by omega
      have HRR := Lib.hid hrR; have HRK := Lib.hid hrK; have HO1 := Lib.hid (one_hsE hlR hcR); have HO2 := Lib.hid (one_hsE hlK hcK)
      have HCC := Lib.hid (And.intro hlR (And.intro hlK (And.intro hcR hcK)))
      have HE0 : Hid (Below wy.heap.size wy (wy.alloc (.cells #[] 51))) := Lib.hid ((Below.refl _ _).alloc (Nat.le_refl _) _)
      have HOE : Hid ((wy.alloc (.cells #[] 51)).ownsRow wy.heap.size 51 5 (.slice (some ⟨wy.heap.size, 0, none⟩) 0 0) 0 []) := Lib.hid (World.ownsRow_made wy #[] 0 (Nat.le_refl _) (by unfold maxLen; omega) rfl)
      clear hrR hrK hlR hlK hcR hcK hN
      go_wp2_with (first | (at_builtin; refine wpList_pushL _ rfl (.tmp 125) (.tmp 126) 27 rfl wy.heap.size 51 _ 5 72 infoEntry rfl (by omega) Try.underlying27 (some ⟨wy.heap.size, 0, none⟩) 0 0 [] rfl HOE.out R r cr hsR rfl (HRR.out.alloc _) HO1.out (by omega) (by omega) HE0.out.size ?_; intro B1 d1 w5 hown5 hg5 hb5 hloc5; rw [Nat.zero_add r, List.nil_append] at hown5; rw [Nat.zero_add r]; have HW5 := Lib.hid (HE0.out.trans hb5); have HO5 := Lib.hid hown5; clear hown5 hg5 hb5 hloc5) | (at_builtin; refine wpList_pushL _ rfl (.tmp 127) (.tmp 128) 27 rfl wy.heap.size 51 _ 5 72 infoEntry rfl (by omega) Try.underlying27 B1 r d1 hsR rfl HO5.out Q4 K.length q4 hsK rfl (HRK.out.below HW5.out) HO2.out (by omega) (by omega) HW5.out.size ?_; intro B2 d2 w6 hown6 hg6 hb6 hloc6; have HW6 := Lib.hid (HW5.out.trans hb6); have HO6 := Lib.hid hown6; rw [HNN.out]; clear hown6 hg6 hb6 hloc6))
      have HA := Lib.hid (show Reads2 w6 5 B2 N (rowsE (LR ++ K)) from by
        have h := reads2_app HO6.out HCC.out.1 HCC.out.2.1 (fun j u x hu hx => readsC_keep (HCC.out.2.2.1 j u x hu hx) (fun q hq => HW6.out.cell hq)) (fun j u x hu hx => readsC_keep (HCC.out.2.2.2 j u x hu hx) (fun q hq => HW6.out.cell hq))
        rw [HNN.out] at h
        exact h)
      have HLN : Hid ((LR ++ K).length = N) := Lib.hid (by rw [List.length_append, hlr]; exact HNN.out)
      have HQX := Lib.hid (HQ1.out.below HW6.out)
      have HBX := Lib.hid (HB.out.trans (HW6.out.mono HB.out.size))
      clear HRR HRK HO1 HO2 HCC HE0 HOE HO5 HO6 HNN HQ1 HQ2 HQ3 HQ4 H1 H2 HRB HKL
      clear hlt0 hle
      go_loopw [131] (fun i wr => ∃ k : Nat, k ≤ N ∧ i = .int .i64 k ∧ Below w6.heap.size w6 wr) (fun i _ => N - (intOf i).toNat)
      case atStart => exact ⟨0, Nat.zero_le _, rfl, Below.refl _ _⟩
      case round =>
        obtain ⟨k, hk, rfl, hb⟩ := hrel
        have HBR := Lib.hid hb
        clear hb
        by_cases hlt : k < N
        · have hx : k < (LR ++ K).length := by rw [HLN.out]; exact hlt
          obtain ⟨ad, A3, c3, A4, c4, rfl, k0, k1, k2, k3, k4, _, _⟩ := rowsE_at (HA.out.below HBR.out) hx
          have HFE := Lib.hid (HALL.out (LR ++ K)[k] (List.getElem_mem hx))
          generalize (LR ++ K)[k] = x at *
          obtain ⟨t, m, p, l3, l4⟩ := x
          simp only at k0 k1 k2 k3 k4 HFE
          have hkN : (k : Int) < (N : Int) := by omega
          have hk0 : (0 : Int) ≤ (k : Int) := by omega
          have HAL : Hid (Below wr.heap.size wr (wr.alloc (.cells #[.int .i64 t, .int .i64 m, .int .i64 p, .slice A3 l3.length c3, .slice A4 l4.length c4] 51))) := Lib.hid ((Below.refl _ _).alloc (Nat.le_refl _) _)
          go_wp2_with fail
          refine (findEntry_good Q1 FL.length q1 FL m p _ HGF.out HCAP1.out ((HQX.out.below HBR.out).below HAL.out) HFE.out).mono ?_
          rintro e wz ⟨rfl, hb⟩
          have HBZ := Lib.hid (HBR.out.trans ((HAL.out.trans (hb.mono HAL.out.size)).mono HBR.out.size))
          clear hb k0 k1 k2 k3 k4
          go_wp2
          go_roundw
          case rel => exact ⟨k + 1, by omega, by go_num, HBZ.out⟩
          case measure => first | (simp [intOf]; done) | (simp [intOf]; omega)
        · have hkN : ¬ (k : Int) < (N : Int) := by omega
          go_wp2
          go_meet
          case rel => exact HBX.out.trans (HBR.out.mono HBX.out.size)
  case rest =>
  as_aux_lemma =>
  have hb := hcut
  replace HB := Lib.hid (HB.out.trans (hb.mono HB.out.size))
  clear hb hcut HQ1 HQ2 H0 H1 H2 HF HFL HCAP1 hfn
  go_wp2_with fail
  refine (drawLostCount_any A9 n9 c9 l9 _ (by omega) HL9.out (HR9.out.below HB.out)).mono ?_
  rintro e wz ⟨A1, n1, c1, L1, A2, n2, c2, L2, R, r, cr, LR, rfl, h1, h2, h3, hb⟩
  replace HB := Lib.hid (HB.out.trans (hb.mono HB.out.size))
  have H1 := Lib.hid h1
  have H2 := Lib.hid h2
  have H3 := Lib.hid h3
  clear hb h1 h2 h3
  obtain ⟨wy, rfl⟩ : ∃ wy, wy = wz := ⟨_, rfl⟩
  go_wp2_with fail
  refine (implLostCount_any A1 n1 c1 L1 A2 n2 c2 L2 R r cr LR _ (by have := H1.out.few; omega) (fun x hx => shE_len (H1.out.sh x hx)) H1.out.rd H1.out.cap (by have := H2.out.few; omega) (fun x hx => shE_len (H2.out.sh x hx)) H2.out.rd H2.out.cap (by have := H3.out.few; omega) (fun x hx => shE_len (H3.out.sh x hx)) H3.out.rd H3.out.cap).mono ?_
  rintro e wz ⟨rfl, hb⟩
  replace HB := Lib.hid (HB.out.trans (hb.mono HB.out.size))
  replace H1 := Lib.hid (H1.out.below hb)
  replace H2 := Lib.hid (H2.out.below hb)
  replace H3 := Lib.hid (H3.out.below hb)
  clear hb
  obtain ⟨wy, rfl⟩ : ∃ wy, wy = wz := ⟨_, rfl⟩
  go_wp2_with fail
  refine (specLostCount_any A1 n1 c1 L1 A2 n2 c2 L2 R r cr LR _ (by have := H1.out.few; omega) (fun x hx => shE_len (H1.out.sh x hx)) H1.out.rd H1.out.cap (by have := H2.out.few; omega) (fun x hx => shE_len (H2.out.sh x hx)) H2.out.rd H2.out.cap (by have := H3.out.few; omega) (fun x hx => shE_len (H3.out.sh x hx)) H3.out.rd H3.out.cap).mono ?_
  rintro e wz ⟨rfl, hb⟩
  replace HB := Lib.hid (HB.out.trans (hb.mono HB.out.size))
  replace H1 := Lib.hid (H1.out.below hb)
  replace H2 := Lib.hid (H2.out.below hb)
  replace H3 := Lib.hid (H3.out.below hb)
  clear hb
  obtain ⟨wy, rfl⟩ : ∃ wy, wy = wz := ⟨_, rfl⟩
  have HF := Lib.hid (lost_facts L1 L2 LR)
  generalize (lostR L1 L2 LR).1 = lv at *
  generalize (lostR L1 L2 LR).2 = lo at *
  go_upto_if 175 with fail
  obtain ⟨wA, rfl⟩ : ∃ wA, wA = wy := ⟨_, rfl⟩
  go_cut [] from 500 to 500 (fun wx => Below wA.heap.size wA wx)
  case first =>
    as_aux_lemma =>
    have HQ : Hid (Below wA.heap.size wA wA) := Lib.hid (Below.refl _ _)
    cases lo with
    | false =>
      go_wp2_with fail
      go_meet
      case rel => exact HQ.out
    | true =>
      obtain ⟨_, hla, hlb, htm, hlv⟩ := HF.out rfl
      have HLA := Lib.hid hla; have HLB := Lib.hid hlb; have HTM := Lib.hid htm; have HLV := Lib.hid hlv
      have htn := timeR_len L1 L2 0 0
      clear hla hlb htm hlv HF
      replace HB := HQ
      obtain ⟨wy, rfl⟩ : ∃ wy, wy = wA := ⟨_, rfl⟩
      go_wp2_with fail
      refine (implLostCount_any A1 n1 c1 L1 A2 n2 c2 L2 A1 n1 c1 L1 _ (by have := H1.out.few; omega) (fun x hx => shE_len (H1.out.sh x hx)) H1.out.rd H1.out.cap (by have := H2.out.few; omega) (fun x hx => shE_len (H2.out.sh x hx)) H2.out.rd H2.out.cap (by have := H1.out.few; omega) (fun x hx => shE_len (H1.out.sh x hx)) H1.out.rd H1.out.cap).mono ?_
      rintro e wz ⟨rfl, hb⟩
      replace HB := Lib.hid (HB.out.trans (hb.mono HB.out.size))
      replace H1 := Lib.hid (H1.out.below hb)
      replace H2 := Lib.hid (H2.out.below hb)
      replace H3 := Lib.hid (H3.out.below hb)
      clear hb
      obtain ⟨wy, rfl⟩ : ∃ wy, wy = wz := ⟨_, rfl⟩
      rw [HLA.out]
      go_wp2_with fail
      refine (implLostCount_any A1 n1 c1 L1 A2 n2 c2 L2 none 0 0 [] _ (by have := H1.out.few; omega) (fun x hx => shE_len (H1.out.sh x hx)) H1.out.rd H1.out.cap (by have := H2.out.few; omega) (fun x hx => shE_len (H2.out.sh x hx)) H2.out.rd H2.out.cap (by omega) (fun x hx => by simp at hx) Reads2.nil (Nat.le_refl _)).mono ?_
      rintro e wz ⟨rfl, hb⟩
      replace HB := Lib.hid (HB.out.trans (hb.mono HB.out.size))
      replace H1 := Lib.hid (H1.out.below hb)
      replace H2 := Lib.hid (H2.out.below hb)
      replace H3 := Lib.hid (H3.out.below hb)
      clear hb
      obtain ⟨wy, rfl⟩ : ∃ wy, wy = wz := ⟨_, rfl⟩
      rw [HLB.out]
      go_wp2_with fail
      refine (implTimeGaps_any A1 n1 c1 L1 A2 n2 c2 L2 0 0 _ (by have := H1.out.few; omega) (fun x hx => shE_len (H1.out.sh x hx)) H1.out.rd H1.out.cap (by have := H2.out.few; omega) (fun x hx => shE_len (H2.out.sh x hx)) H2.out.rd H2.out.cap).mono ?_
      rintro e wz ⟨Q3, q3, rfl, ho, hb⟩
      replace HB := Lib.hid (HB.out.trans (hb.mono HB.out.size))
      replace H1 := Lib.hid (H1.out.below hb)
      replace H2 := Lib.hid (H2.out.below hb)
      replace H3 := Lib.hid (H3.out.below hb)
      have HQ3 := Lib.hid (Reads.of_own ho)
      clear hb ho
      obtain ⟨wy, rfl⟩ : ∃ wy, wy = wz := ⟨_, rfl⟩
      go_wp2_with fail
      refine (specTimeGaps_any A1 n1 c1 L1 A2 n2 c2 L2 0 0 _ (by have := H1.out.few; omega) (fun x hx => shE_len (H1.out.sh x hx)) H1.out.rd H1.out.cap (by have := H2.out.few; omega) (fun x hx => shE_len (H2.out.sh x hx)) H2.out.rd H2.out.cap).mono ?_
      rintro e wz ⟨Q4, q4, rfl, ho, hb⟩
      replace HB := Lib.hid (HB.out.trans (hb.mono HB.out.size))
      replace H1 := Lib.hid (H1.out.below hb)
      replace H2 := Lib.hid (H2.out.below hb)
      replace H3 := Lib.hid (H3.out.below hb)
      replace HQ3 := Lib.hid (HQ3.out.below hb)
      have HQ4 := Lib.hid (Reads.of_own ho)
      clear hb ho
      obtain ⟨wy, rfl⟩ : ∃ wy, wy = wz := ⟨_, rfl⟩
      rw [HTM.out]
      generalize (timeR L1 L2 0 0).1 = G at *
      have hlv := HLV.out
      go_wp2_with fail
      refine (pSameGaps_same Q3 Q4 G.length q3 q4 G _ (by omega) HQ3.out HQ4.out).mono ?_
      rintro e wz ⟨rfl, hb⟩
      replace HB := Lib.hid (HB.out.trans (hb.mono HB.out.size))
      replace H1 := Lib.hid (H1.out.below hb)
      replace H2 := Lib.hid (H2.out.below hb)
      replace H3 := Lib.hid (H3.out.below hb)
      replace HQ3 := Lib.hid (HQ3.out.below hb)
      replace HQ4 := Lib.hid (HQ4.out.below hb)
      clear hb
      obtain ⟨wy, rfl⟩ : ∃ wy, wy = wz := ⟨_, rfl⟩
      go_wp2_with fail
      go_meet
      case rel => exact HB.out
  case rest =>
  as_aux_lemma =>
  have hb := hcut
  replace HB := Lib.hid (HB.out.trans (hb.mono HB.out.size))
  clear hb hcut H1 H2 H3 HF
  go_wp2_with fail
  refine (drawFitsBetween_any A9 n9 c9 l9 _ (by omega) HL9.out (HR9.out.below HB.out)).mono ?_
  rintro e wz ⟨R, r, cr, LR, A1, n1, c1, L1, A2, n2, c2, L2, ar, le, rfl, h3, h1, h2, hb⟩
  replace HB := Lib.hid (HB.out.trans (hb.mono HB.out.size))
  have H1 := Lib.hid h1
  have H2 := Lib.hid h2
  have H3 := Lib.hid h3
  clear hb h1 h2 h3
  obtain ⟨wy, rfl⟩ : ∃ wy, wy = wz := ⟨_, rfl⟩
  go_wp2_with fail
  refine (implFits_any R r cr LR A1 n1 c1 L1 A2 n2 c2 L2 ar le _ (by have := H3.out.few; omega) (fun x hx => shE_len (H3.out.sh x hx)) H3.out.rd H3.out.cap (by have := H1.out.few; omega) (fun x hx => shE_len (H1.out.sh x hx)) H1.out.rd H1.out.cap (by have := H2.out.few; omega) (fun x hx => shE_len (H2.out.sh x hx)) H2.out.rd H2.out.cap).mono ?_
  rintro e wz ⟨rfl, hb⟩
  replace HB := Lib.hid (HB.out.trans (hb.mono HB.out.size))
  replace H1 := Lib.hid (H1.out.below hb)
  replace H2 := Lib.hid (H2.out.below hb)
  replace H3 := Lib.hid (H3.out.below hb)
  clear hb
  obtain ⟨wy, rfl⟩ : ∃ wy, wy = wz := ⟨_, rfl⟩
  go_wp2_with fail
  refine (specFits_any R r cr LR A1 n1 c1 L1 A2 n2 c2 L2 ar le _ (by have := H3.out.few; omega) (fun x hx => shE_len (H3.out.sh x hx)) H3.out.rd H3.out.cap (by have := H1.out.few; omega) (fun x hx => shE_len (H1.out.sh x hx)) H1.out.rd H1.out.cap (by have := H2.out.few; omega) (fun x hx => shE_len (H2.out.sh x hx)) H2.out.rd H2.out.cap).mono ?_
  rintro e wz ⟨rfl, hb⟩
  replace HB := Lib.hid (HB.out.trans (hb.mono HB.out.size))
  replace H1 := Lib.hid (H1.out.below hb)
  replace H2 := Lib.hid (H2.out.below hb)
  replace H3 := Lib.hid (H3.out.below hb)
  clear hb
  obtain ⟨wy, rfl⟩ : ∃ wy, wy = wz := ⟨_, rfl⟩
  generalize (fitsR LR L1 L2 ar le).1 = fv at *
  generalize (fitsR LR L1 L2 ar le).2 = fo at *
  go_wp2
  go_ret
  exact ⟨ret_bool (by first | rfl | simp), HB.out⟩

end Go.Proofs.Ytcjmlakmigfkfaa

namespace Go.Proofs.Ytcjmlakmigfkfaa
set_option linter.unusedSimpArgs false
set_option linter.unusedVariables false
open Go.RowKit Go.ChangeShapes Go.WideShapes Go.Deep
section
variable {H : Type} {enc : TypeId × Value → H} {P : Program} {w : World} {base b0 : Nat} {spare : Nat → Bool} {held : Bool} {r : Reach} {t e : TypeId} {v : Value} {d : DataW H} {p : List MemPlace}
theorem isBytes_of (ht : P.underlying t = some (.slice e)) (he : P.underlying e = some (.int .u8)) (hC : P.cellsOf e = 1)
    (hval : Value.okWide P w r b0 t v) (h : DataW.Trod enc P w base spare held t v d p) : IsBytes w v := by
  obtain ⟨A, n, c, l, hv, h1, h2, _, h3, h4⟩ := rows_of (fun x : Int => [.int .u8 x]) (fun x => 0 ≤ x ∧ x ≤ 255) 1 ht hC (fun m cs x _ htr => by
    obtain ⟨a, rfl, _, wf⟩ := DataW.trod_int he htr
    exact ⟨a, rfl, by have := bounds_u8 wf; omega⟩) hval h
  exact ⟨A, n, c, l, hv, h1, h2, by rw [flatMap_one] at h3; exact h3, h4⟩
end
end Go.Proofs.Ytcjmlakmigfkfaa
