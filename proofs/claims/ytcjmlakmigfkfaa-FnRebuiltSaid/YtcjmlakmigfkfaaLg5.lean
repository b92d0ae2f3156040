/- What the law of rebuilt logs draws. No conditions. -/
import Derived.Test.YtcjmlakmigfkfaaLg4
namespace Go.Proofs.Ytcjmlakmigfkfaa
set_option linter.unusedSimpArgs false
set_option linter.unusedVariables false
open Go.RowKit

/-- A drawn log, read. -/
structure RdL (w : World) (A : Option Addr) (n c : Nat) (L : List EntryT) : Prop where
  rd : Reads2 w 5 A n (rowsE L)
  cap : n ≤ c
  few : n ≤ 31
  sh : ∀ x ∈ L, shE x
theorem RdL.below {w w' : World} {A : Option Addr} {n c : Nat} {L : List EntryT} (h : RdL w A n c L) (hb : Below w.heap.size w w') : RdL w' A n c L := ⟨h.rd.below hb, h.cap, h.few, h.sh⟩
theorem RdL.below' {w w' : World} {B : Nat} {A : Option Addr} {n c : Nat} {L : List EntryT} (h : RdL w A n c L) (hb : Below B w w') (hB : w.heap.size ≤ B) : RdL w' A n c L := h.below (hb.mono hB)
theorem RdL.len {w : World} {A : Option Addr} {n c : Nat} {L : List EntryT} (h : RdL w A n c L) : L.length = n := by have := h.rd.len; rw [length_rowsE] at this; omega
theorem LogR.rdL {w : World} {lo n c : Nat} {A : Option Addr} {L : List EntryT} {hs : List Value} (h : LogR w lo A n L hs) (hc : n ≤ c) (hn : n ≤ 31) (hs' : ∀ x ∈ L, shE x) : RdL w A n c L := ⟨h.reads, hc, hn, hs'⟩

set_option maxHeartbeats 4000000 in
set_option maxRecDepth 100000 in
theorem drawRebuildLog_any (A : Option Addr) (n c : Nat) (l : List Int) (w : World) (hn : n ≤ 9223372036854775807) (hl : ∀ x ∈ l, 0 ≤ x ∧ x ≤ 255) (h : Reads w 1 A n (bytesV l)) :
    Calls Try.prog 42 #[.slice A n c] w fun e w' => ∃ A1 n1 c1 L1 A2 n2 c2 L2, ∃ ar le : Int, e = .returned (.tuple #[.slice A1 n1 c1, .slice A2 n2 c2, .int .i64 ar, .int .i64 le]) ∧ RdL w' A1 n1 c1 L1 ∧ RdL w' A2 n2 c2 L2 ∧ Below w.heap.size w w' := by
  obtain ⟨w0, hw0⟩ : ∃ w0, w0 = w.alloc (.cells #[.slice A n c, .int .i64 0, .int .u64 0] 96) := ⟨_, rfl⟩
  have HB0 : Hid (Below w.heap.size w w0) := Lib.hid (by rw [hw0]; exact (Below.refl _ _).alloc (Nat.le_refl _) _)
  have HZ0 : Hid (w0.heap.size = w.heap.size + 1) := Lib.hid (by rw [hw0]; exact World.size_alloc _ _)
  have HC0 : Hid (Cur w0 w.heap.size 0) := Lib.hid (by rw [hw0]; exact Cur.new h hn hl)
  have HG0 : Hid (w.heap.size < w0.heap.size) := Lib.hid (by have := HZ0.out; omega)
  clear h hl
  go_enter Try.func42, Try.ntmps42
  go_wp2_with fail
  rw [← hw0]
  refine (between_any w.heap.size 0 w0 (by omega) HC0.out).mono ?_
  rintro e w1 ⟨A1, n1, c1, L1, hs1, A2, n2, c2, L2, hs2, A3, n3, c3, L3, hs3, ar, le, rfl, hc1, hc2, hc3, har, hle, hl1, hl2, hl3, hs1', hs2', hs3', hc, hd⟩
  have HCC := Lib.hid (And.intro hc1 (And.intro hc2 hc3)); have HL1 := Lib.hid hl1; have HL2 := Lib.hid hl2; have HL3 := Lib.hid hl3; have HS1 := Lib.hid hs1'; have HS2 := Lib.hid hs2'; have HS3 := Lib.hid hs3'; have HC := Lib.hid hc; have HD := Lib.hid hd; have HAR := Lib.hid (And.intro har hle)
  clear hc1 hc2 hc3 har hle hl1 hl2 hl3 hs1' hs2' hs3' hc hd hw0
  go_wp2_with fail
  refine (one_any w.heap.size _ 16 _ (by omega) (by omega) HC.out).mono ?_
  rintro e w2 ⟨b2, rfl, hc, hd⟩
  have HC2 := Lib.hid hc; have HD2 := Lib.hid (HD.out.trans hd); have HL2' := Lib.hid (HL2.out.keep (Keeps.of_drew hd HG0.out)); have HL3' := Lib.hid (HL3.out.keep (Keeps.of_drew hd HG0.out))
  clear hc hd
  cases b2 with
  | false =>
    go_wp2
    (try simp only [Exit.inBlock, Exit.then])
    refine bodyPost_ret (results_tmp4 rfl _ _ _) rfl ?_
    exact ⟨A2, n2, c2, L2, A3, n3, c3, L3, ar, le, rfl, HL2'.out.rdL HCC.out.2.1.1 HCC.out.2.1.2 HS2.out, HL3'.out.rdL HCC.out.2.2.1 HCC.out.2.2.2 HS3.out, HB0.out.trans (Drew.allB HD2.out (Nat.le_refl _) (Nat.le_of_lt HG0.out))⟩
  | true =>
    go_wp2_with fail
    refine (log_any w.heap.size _ w2 (by omega) HC2.out).mono ?_
    rintro e w3 ⟨A5, n5, c5, L5, hs5, rfl, hnc, hn31, hl, hok, hc, hd⟩
    have HL5 := Lib.hid hl; have HK5 := Lib.hid hok; have HD3 := Lib.hid (HD2.out.trans hd); have HL3'' := Lib.hid (HL3'.out.keep (Keeps.of_drew hd HG0.out)); have HN5 := Lib.hid (And.intro hnc hn31)
    clear hnc hn31 hl hok hc hd
    go_wp2
    (try simp only [Exit.inBlock, Exit.then])
    refine bodyPost_ret (results_tmp4 rfl _ _ _) rfl ?_
    exact ⟨A5, n5, c5, L5, A3, n3, c3, L3, ar, le, rfl, HL5.out.toR.rdL HN5.out.1 HN5.out.2 (fun x hx => shE_of (HK5.out x hx)), HL3''.out.rdL HCC.out.2.2.1 HCC.out.2.2.2 HS3.out, HB0.out.trans (Drew.allB HD3.out (Nat.le_refl _) (Nat.le_of_lt HG0.out))⟩

set_option maxHeartbeats 1000000 in
set_option maxRecDepth 100000 in
theorem drawOnlyBefore_any (A : Option Addr) (n c : Nat) (l : List Int) (w : World) (hn : n ≤ 9223372036854775807) (hl : ∀ x ∈ l, 0 ≤ x ∧ x ≤ 255) (h : Reads w 1 A n (bytesV l)) :
    Calls Try.prog 45 #[.slice A n c] w fun e w' => ∃ A1 n1 c1 L1 A2 n2 c2 L2, e = .returned (.tuple #[.slice A1 n1 c1, .slice A2 n2 c2]) ∧ RdL w' A1 n1 c1 L1 ∧ RdL w' A2 n2 c2 L2 ∧ Below w.heap.size w w' := by
  have H := Lib.hid h; have HL := Lib.hid hl
  clear h hl
  go_enter Try.func45, Try.ntmps45
  go_wp2_with fail
  refine (drawRebuildLog_any A n c l w hn HL.out H.out).mono ?_
  rintro e w1 ⟨A1, n1, c1, L1, A2, n2, c2, L2, ar, le, rfl, h1, h2, hb⟩
  have H1 := Lib.hid h1; have H2 := Lib.hid h2; have HB := Lib.hid hb
  clear h1 h2 hb
  go_wp2
  go_ret2
  exact ⟨A1, n1, c1, L1, A2, n2, c2, L2, rfl, H1.out, H2.out, HB.out⟩

set_option maxHeartbeats 1000000 in
set_option maxRecDepth 100000 in
theorem drawOnlyBehind_any (A : Option Addr) (n c : Nat) (l : List Int) (w : World) (hn : n ≤ 9223372036854775807) (hl : ∀ x ∈ l, 0 ≤ x ∧ x ≤ 255) (h : Reads w 1 A n (bytesV l)) :
    Calls Try.prog 51 #[.slice A n c] w fun e w' => ∃ A1 n1 c1 L1 A2 n2 c2 L2, e = .returned (.tuple #[.slice A1 n1 c1, .slice A2 n2 c2]) ∧ RdL w' A1 n1 c1 L1 ∧ RdL w' A2 n2 c2 L2 ∧ Below w.heap.size w w' := by
  have H := Lib.hid h; have HL := Lib.hid hl
  clear h hl
  go_enter Try.func51, Try.ntmps51
  go_wp2_with fail
  refine (drawOnlyBefore_any A n c l w hn HL.out H.out).mono ?_
  rintro e w1 ⟨A1, n1, c1, L1, A2, n2, c2, L2, rfl, h1, h2, hb⟩
  have H1 := Lib.hid h1; have H2 := Lib.hid h2; have HB := Lib.hid hb
  clear h1 h2 hb
  go_wp2
  go_ret2
  exact ⟨A1, n1, c1, L1, A2, n2, c2, L2, rfl, H1.out, H2.out, HB.out⟩

set_option maxHeartbeats 1000000 in
set_option maxRecDepth 100000 in
theorem drawChangedBetween_any (A : Option Addr) (n c : Nat) (l : List Int) (w : World) (hn : n ≤ 9223372036854775807) (hl : ∀ x ∈ l, 0 ≤ x ∧ x ≤ 255) (h : Reads w 1 A n (bytesV l)) :
    Calls Try.prog 50 #[.slice A n c] w fun e w' => ∃ A1 n1 c1 L1 A2 n2 c2 L2, e = .returned (.tuple #[.slice A1 n1 c1, .slice A2 n2 c2]) ∧ RdL w' A1 n1 c1 L1 ∧ RdL w' A2 n2 c2 L2 ∧ Below w.heap.size w w' := by
  have H := Lib.hid h; have HL := Lib.hid hl
  clear h hl
  go_enter Try.func50, Try.ntmps50
  go_wp2_with fail
  refine (drawOnlyBefore_any A n c l w hn HL.out H.out).mono ?_
  rintro e w1 ⟨A1, n1, c1, L1, A2, n2, c2, L2, rfl, h1, h2, hb⟩
  have H1 := Lib.hid h1; have H2 := Lib.hid h2; have HB := Lib.hid hb
  clear h1 h2 hb
  go_wp2
  go_ret2
  exact ⟨A1, n1, c1, L1, A2, n2, c2, L2, rfl, H1.out, H2.out, HB.out⟩

end Go.Proofs.Ytcjmlakmigfkfaa
