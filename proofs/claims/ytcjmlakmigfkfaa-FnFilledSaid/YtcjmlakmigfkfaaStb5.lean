/- The library's stable sort at entries: symMergeCmpFunc. No conditions. -/
import Derived.Test.YtcjmlakmigfkfaaZFilled8
namespace Go.Proofs.Ytcjmlakmigfkfaa
set_option linter.unusedSimpArgs false
set_option linter.unusedVariables false
open Go.Shelf Go.RowKit Go.Lib Go.Sort

theorem SWK.fiveG {F : Nat → EntV} {w0 W : World} {blk off : Nat} {dk d0 : Array Nat} (h : SWK (encV F) 5 w0 blk off dk W) (R : RowK (encV F) 5 w0 blk off d0) (hs : dk.size = d0.size) (i : Nat) (hi : i < dk.size) :
    ∃ t m p A3 n3 c3 A4 n4 c4, encV F dk[i]! = [.int .i64 t, .int .i64 m, .int .i64 p, .slice A3 n3 c3, .slice A4 n4 c4] ∧ (∀ n os, (grow (W.drewN n) os).cell? ⟨blk, off + i * 5, none⟩ = some (.int .i64 t)) ∧ (∀ n os, (grow (W.drewN n) os).cell? ⟨blk, off + i * 5 + 1, none⟩ = some (.int .i64 m)) ∧ (∀ n os, (grow (W.drewN n) os).cell? ⟨blk, off + i * 5 + 2, none⟩ = some (.int .i64 p)) ∧ (∀ n os, (grow (W.drewN n) os).cell? ⟨blk, off + i * 5 + 3, none⟩ = some (.slice A3 n3 c3)) ∧ (∀ n os, (grow (W.drewN n) os).cell? ⟨blk, off + i * 5 + 4, none⟩ = some (.slice A4 n4 c4)) := by
  have hH := fun n os => (h.grown n os).holds R.hblk R.hH hs
  exact ⟨_, _, _, _, _, _, _, _, _, rfl, fun n os => ((hH n os).cell (c := 0) hi (by omega)).1, fun n os => ((hH n os).cell (c := 1) hi (by omega)).1, fun n os => ((hH n os).cell (c := 2) hi (by omega)).1, fun n os => ((hH n os).cell (c := 3) hi (by omega)).1, fun n os => ((hH n os).cell (c := 4) hi (by omega)).1⟩
theorem find1_on {p : Nat → Bool} {f i j : Nat} (h : i < j) (hf : j - i ≤ f) (hp : p ((i + j) / 2) = true) : ∃ q, f = q + 1 ∧ j - ((i + j) / 2 + 1) ≤ q ∧ find1 p f i j = find1 p q ((i + j) / 2 + 1) j := by
  obtain ⟨q, rfl⟩ : ∃ q, f = q + 1 := ⟨f - 1, by omega⟩
  exact ⟨q, rfl, by omega, by rw [find1, if_pos h, if_pos hp]⟩
theorem find1_off {p : Nat → Bool} {f i j : Nat} (h : i < j) (hf : j - i ≤ f) (hp : p ((i + j) / 2) = false) : ∃ q, f = q + 1 ∧ (i + j) / 2 - i ≤ q ∧ find1 p f i j = find1 p q i ((i + j) / 2) := by
  obtain ⟨q, rfl⟩ : ∃ q, f = q + 1 := ⟨f - 1, by omega⟩
  exact ⟨q, rfl, by omega, by rw [find1, if_pos h, if_neg (by simp [hp])]⟩
theorem find1_end {p : Nat → Bool} {f i j : Nat} (h : ¬ i < j) : find1 p f i j = i := by
  cases f with
  | zero => rfl
  | succ f => rw [find1, if_neg h]
theorem size_rotIf (s m e : Nat) (d : Array Nat) : (rotIf s m e d).size = d.size := by
  unfold rotIf
  split
  · exact size_rotP _ _ _ _ _
  · rfl
def tail3 (lt : Nat → Nat → Bool) (f a m b mid s : Nat) (d : Array Nat) : Array Nat :=
  if mid < mid + m - s ∧ mid + m - s < b then symP lt f mid (mid + m - s) b (if a < s ∧ s < mid then symP lt f a s mid (rotIf s m (mid + m - s) d) else rotIf s m (mid + m - s) d) else (if a < s ∧ s < mid then symP lt f a s mid (rotIf s m (mid + m - s) d) else rotIf s m (mid + m - s) d)
theorem symP_rest (lt : Nat → Nat → Bool) (f a m b : Nat) (d : Array Nat) (h1 : ¬ m - a = 1) (h2 : ¬ b - m = 1) : symP lt (f + 1) a m b d = tail3 lt f a m b ((a + b) / 2) (symS lt a m b d) d := by
  rw [symP, if_neg h1, if_neg h2]
  rfl
theorem size_symP (lt : Nat → Nat → Bool) : ∀ (f a m b : Nat) (d : Array Nat), (symP lt f a m b d).size = d.size := by
  intro f
  induction f with
  | zero => intro a m b d; rfl
  | succ f ih =>
    intro a m b d
    by_cases h1 : m - a = 1
    · rw [symP, if_pos h1]; exact size_shUpP _ _ _
    · by_cases h2 : b - m = 1
      · rw [symP, if_neg h1, if_pos h2]; exact size_shDnP _ _ _
      · rw [symP_rest _ _ _ _ _ _ h1 h2]
        unfold tail3
        split <;> split <;> simp only [ih, size_rotIf]

set_option maxHeartbeats 8000000 in
set_option maxRecDepth 1000000 in
theorem symMerge_any (F : Nat → EntV) (cf : Nat → Nat → Int) (g : Nat) (cb : Array Value) (blk off cap : Nat) (d0 : Array Nat) (w0 : World) (eg : ∀ args w, (callFunc g args).run Try.prog w = .ok (.enter g args) w) (hcmp : CmpLays Try.prog g cb (encV F) 5 cf blk off d0.size w0) (R : RowK (encV F) 5 w0 blk off d0) (hsz : d0.size ≤ 1000) :
    ∀ (f a m b : Nat) (d : Array Nat) (w : World), d0.size = d.size → SWK (encV F) 5 w0 blk off d w → a < m → m < b → b ≤ d.size → b - a ≤ f →
    Calls Try.prog 121 #[.slice (some ⟨blk, off, none⟩) d.size cap, .int .i64 a, .int .i64 m, .int .i64 b, .func (.func g) #[] cb] w fun e w' => e = .returned (.tuple #[]) ∧ SWK (encV F) 5 w0 blk off (symP (ltOf cf) f a m b d) w' := by
  have mixed : Try.prog.follows .mixedOrders = true := by kernel_rfl
  have HC : Aside _ := hcmp
  clear hcmp
  intro f0
  induction f0 with
  | zero => intro a m b d w _ _ _ _ _ _; exfalso; omega
  | succ f0 ih =>
    intro a m b d w hs S ham hmb hb hf0
    have IH := Lib.hid ih
    clear ih
    have S0 : Aside (SWK (encV F) 5 w0 blk off d w) := S
    have HD0 : Hid (d.size = d0.size) := Lib.hid hs.symm
    have hsz' : d.size ≤ 1000 := by omega
    clear S hs hsz
    by_cases hma : m - a = 1
    · have hr : symP (ltOf cf) (f0 + 1) a m b d = shUpP a (find1 (fun h => ltOf cf d[h]! d[a]!) (b - m) m b - 1 - a) d := by rw [symP, if_pos hma]
      rw [hr]
      have hbe : (((m : Nat) : Int) - ((a : Nat) : Int) == 1) = true := by rw [beq_iff_eq]; omega
      have hma2 : m ≤ a + 1 := by omega
      clear hr hma
      go_enter Try.func121, Try.ntmps121
      go_wp2
      go_loopg [10, 11] (b - m) (fun kx s t wr => ∃ (i j f : Nat), s = .int .i64 i ∧ t = .int .i64 j ∧ m ≤ i ∧ i ≤ j ∧ j ≤ b ∧ j - i ≤ f ∧ j - i ≤ kx ∧ Aside (SWK (encV F) 5 w0 blk off d wr) ∧ find1 (fun x => ltOf cf d[x]! d[a]!) f i j = find1 (fun x => ltOf cf d[x]! d[a]!) (b - m) (m) (b))
      case atStart => exact ⟨m, b, b - m, rfl, rfl, by omega, by omega, by omega, by omega, by omega, S0, rfl⟩
      case round =>
        clear S0
        obtain ⟨i, j, f, rfl, rfl, hlo, hij', hhi, hf, hkx, S1, heq⟩ := hrel
        by_cases hij : i < j
        · have hijz : (i : Int) < (j : Int) := by omega
          obtain ⟨h, hh⟩ : ∃ h, h = (i + j) / 2 := ⟨_, rfl⟩
          have hhz : ((i : Int) + (j : Int)) / 2 = (h : Int) := by omega
          have hh1 : i ≤ h := by omega
          have hh2 : h < j := by omega

          cases hv : ltOf cf d[h]! d[a]! with
          | true =>
            obtain ⟨q, hq, hqf, hfe⟩ := find1_on (p := fun x => ltOf cf d[x]! d[a]!) hij hf (by show (ltOf cf d[((i + j) / 2)]! d[a]!) = true; rw [← hh, hv])
            rw [← hh] at hqf hfe
            rw [hfe] at heq
            have HEQ := Lib.hid heq
            have HQF := Lib.hid hqf
            clear heq hfe hqf hq hh
            have ex : ((h : Nat) : Int).toNat = h := by omega
            have px : (0 : Int) ≤ ((h : Nat) : Int) := by omega
            have bdx : ((h : Nat) : Int) < (d.size : Int) := by omega
            have rx : IntKind.i64.wrap ((h : Nat) : Int) = ((h : Nat) : Int) := by rw [IntKind.wrap_i64]; omega
            have ey : ((a : Nat) : Int).toNat = a := by omega
            have py : (0 : Int) ≤ ((a : Nat) : Int) := by omega
            have bdy : ((a : Nat) : Int) < (d.size : Int) := by omega
            have ry : IntKind.i64.wrap ((a : Nat) : Int) = ((a : Nat) : Int) := by rw [IntKind.wrap_i64]; omega
            obtain ⟨vt, vm, vp, vA, vn, vc, vB, vk, vd, ev, c0, c1, c2, c3, c4⟩ := SWK.fiveG S1.out R HD0.out h (by omega)
            obtain ⟨ut, um, up, uA, un, uc, uB, uk, ud, eu, g0, g1, g2, g3, g4⟩ := SWK.fiveG S1.out R HD0.out a (by omega)
            have hc := S1.out.cmp HC.out HD0.out d[h]! d[a]!
            rw [ev, eu] at hc
            have hd : decide (cf d[h]! d[a]! < 0) = true := hv
            generalize cf d[h]! d[a]! = cv at hc hd
            have hv2 : cv < 0 := by simpa using hd
            clear ev eu hv
            go_wp2_with fail
            go_quiet_grown (first | (go_at_fn g; refine Calls.grown_of (hc _ _)))
            have S2 : Aside (SWK (encV F) 5 w0 blk off d (grow (wr.drewN nq) osq)) := S1.out.grown nq osq
            clear c0 c1 c2 c3 c4 g0 g1 g2 g3 g4 hc S1 hd hv2
            generalize grow (wr.drewN nq) osq = w2 at S2 ⊢
            clear nq osq
            go_wp2
            go_roundg (j - i - 1)
            case measure => omega
            case rel =>
              have := HQF.out
              exact ⟨h + 1, j, q, by first | rfl | go_num, rfl, by omega, by omega, by omega, by omega, by omega, S2, HEQ.out⟩
          | false =>
            obtain ⟨q, hq, hqf, hfe⟩ := find1_off (p := fun x => ltOf cf d[x]! d[a]!) hij hf (by show (ltOf cf d[((i + j) / 2)]! d[a]!) = false; rw [← hh, hv])
            rw [← hh] at hqf hfe
            rw [hfe] at heq
            have HEQ := Lib.hid heq
            have HQF := Lib.hid hqf
            clear heq hfe hqf hq hh
            have ex : ((h : Nat) : Int).toNat = h := by omega
            have px : (0 : Int) ≤ ((h : Nat) : Int) := by omega
            have bdx : ((h : Nat) : Int) < (d.size : Int) := by omega
            have rx : IntKind.i64.wrap ((h : Nat) : Int) = ((h : Nat) : Int) := by rw [IntKind.wrap_i64]; omega
            have ey : ((a : Nat) : Int).toNat = a := by omega
            have py : (0 : Int) ≤ ((a : Nat) : Int) := by omega
            have bdy : ((a : Nat) : Int) < (d.size : Int) := by omega
            have ry : IntKind.i64.wrap ((a : Nat) : Int) = ((a : Nat) : Int) := by rw [IntKind.wrap_i64]; omega
            obtain ⟨vt, vm, vp, vA, vn, vc, vB, vk, vd, ev, c0, c1, c2, c3, c4⟩ := SWK.fiveG S1.out R HD0.out h (by omega)
            obtain ⟨ut, um, up, uA, un, uc, uB, uk, ud, eu, g0, g1, g2, g3, g4⟩ := SWK.fiveG S1.out R HD0.out a (by omega)
            have hc := S1.out.cmp HC.out HD0.out d[h]! d[a]!
            rw [ev, eu] at hc
            have hd : decide (cf d[h]! d[a]! < 0) = false := hv
            generalize cf d[h]! d[a]! = cv at hc hd
            have hv2 : ¬ cv < 0 := by simpa using hd
            clear ev eu hv
            go_wp2_with fail
            go_quiet_grown (first | (go_at_fn g; refine Calls.grown_of (hc _ _)))
            have S2 : Aside (SWK (encV F) 5 w0 blk off d (grow (wr.drewN nq) osq)) := S1.out.grown nq osq
            clear c0 c1 c2 c3 c4 g0 g1 g2 g3 g4 hc S1 hd hv2
            generalize grow (wr.drewN nq) osq = w2 at S2 ⊢
            clear nq osq
            go_wp2
            go_roundg (j - i - 1)
            case measure => omega
            case rel =>
              have := HQF.out
              exact ⟨i, h, q, rfl, rfl, by omega, by omega, by omega, by omega, by omega, S2, HEQ.out⟩
        · have hijz : ¬ (i : Int) < (j : Int) := by omega
          rw [find1_end hij] at heq
          obtain rfl : i = j := by omega
          have HS := Lib.hid heq
          clear heq hf hij hij'
          obtain ⟨wL, rfl⟩ : ∃ wL, wL = wr := ⟨_, rfl⟩
          go_wp2
          go_loopg [13] (i - 1 - a) (fun kx s wr => ∃ (n K : Nat) (dk : Array Nat), s = .int .i64 K ∧ Hid (K = a + n) ∧ (a ≤ K ∧ K ≤ i - 1) ∧ i - 1 - K ≤ kx ∧ Hid (dk.size = d0.size) ∧ Aside (SWK (encV F) 5 w0 blk off dk wr) ∧ Hid (dk = shUpP a n d))
          case atStart => exact ⟨0, a, d, rfl, Lib.hid rfl, ⟨by omega, by omega⟩, by omega, HD0, S1, Lib.hid rfl⟩
          case round =>
            clear S1
            obtain ⟨n, K, dk, rfl, HK, ⟨hk1, hk2⟩, hkx, HDK, S3, HDE⟩ := hrel
            by_cases hlt : K < i - 1
            · have hlz : (K : Int) < (i : Int) - 1 := by omega
              obtain ⟨J, hJ⟩ : ∃ J, J = K + 1 := ⟨_, rfl⟩
              have eJ : (K : Int) + 1 = (J : Int) := by omega
              have hJ1 : J = K + 1 := by omega
              have hJ2 : J ≤ K + 1 ∧ K + 1 ≤ J := by omega
              have HJ := Lib.hid hJ1
              obtain ⟨hj3, hj4⟩ := hJ2
              clear hJ hJ1
              have ex : ((K : Nat) : Int).toNat = K := by omega
              have px : (0 : Int) ≤ ((K : Nat) : Int) := by omega
              have bdx : ((K : Nat) : Int) < (d.size : Int) := by omega
              have rx : IntKind.i64.wrap ((K : Nat) : Int) = ((K : Nat) : Int) := by rw [IntKind.wrap_i64]; omega
              have ey : ((J : Nat) : Int).toNat = J := by omega
              have py : (0 : Int) ≤ ((J : Nat) : Int) := by omega
              have bdy : ((J : Nat) : Int) < (d.size : Int) := by omega
              have ry : IntKind.i64.wrap ((J : Nat) : Int) = ((J : Nat) : Int) := by rw [IntKind.wrap_i64]; omega
              obtain ⟨vt, vm, vp, vA, vn, vc, vB, vk, vd, ev, _, ⟨c0, c1, c2, c3, c4⟩, f0, f1, f2, f3, f4⟩ := SWK.five S3.out R HDK.out K (by have := HDK.out; have := HD0.out; omega)
              obtain ⟨ut, um, up, uA, un, uc, uB, uk, ud, eu, _, ⟨b0, b1, b2, b3, b4⟩, g0, g1, g2, g3, g4⟩ := SWK.five S3.out R HDK.out J (by have := HDK.out; have := HD0.out; omega)
              have S2 : Aside _ := SWK.swap5 S3.out R K J (by have := HDK.out; have := HD0.out; omega) (by have := HDK.out; have := HD0.out; omega) ev eu
              obtain ⟨w2, hw2⟩ : ∃ w2, w2 = World.drew (put5 (put5 wr blk (off + K * 5) (.int .i64 ut) (.int .i64 um) (.int .i64 up) (.slice uA un uc) (.slice uB uk ud)) blk (off + J * 5) (.int .i64 vt) (.int .i64 vm) (.int .i64 vp) (.slice vA vn vc) (.slice vB vk vd)) := ⟨_, rfl⟩
              rw [← hw2] at S2
              unfold put5 at hw2
              have HW2 := Lib.hid hw2
              clear S3 ev eu hw2
              go_wp2_with fail
              go_big_region_o
              rw [← HW2.out]
              clear HW2 c0 c1 c2 c3 c4 f0 f1 f2 f3 f4 b0 b1 b2 b3 b4 g0 g1 g2 g3 g4
              go_wp2
              go_roundg (i - 1 - J)
              case measure => omega
              case rel => exact ⟨n + 1, J, swp dk K J, by first | rfl | go_num, Lib.hid (by have := HK.out; omega), ⟨by omega, by omega⟩, by omega, Lib.hid (by rw [size_swp]; exact HDK.out), S2, Lib.hid (by
                have h1 := HK.out
                have h2 := HJ.out
                rw [HDE.out, shUpP, h2, h1])⟩
            · have hlz : ¬ (K : Int) < (i : Int) - 1 := by omega
              go_wp2
              ((try simp only [Exit.inBlock, Exit.then]); refine bodyPost_ret (results_none rfl _ _ _) rfl ?_)
              refine ⟨rfl, ?_⟩
              have h1 := HK.out
              rw [← HS.out, show i - 1 - a = n by omega, ← HDE.out]
              exact S3.out
    · by_cases hbm : b - m = 1
      · have hr : symP (ltOf cf) (f0 + 1) a m b d = shDnP m (m - find1 (fun h => !ltOf cf d[m]! d[h]!) (m - a) a m) d := by rw [symP, if_neg hma, if_pos hbm]
        rw [hr]
        have hbe1 : (((m : Nat) : Int) - ((a : Nat) : Int) == 1) = false := by rw [beq_eq_false_iff_ne]; omega
        have hbe : (((b : Nat) : Int) - ((m : Nat) : Int) == 1) = true := by rw [beq_iff_eq]; omega
        have hbm2 : b ≤ m + 1 := by omega
        have hma3 : a + 2 ≤ m := by omega
        clear hr hma hbm
        go_enter Try.func121, Try.ntmps121
        go_wp2
        go_loopg [14, 15] (m - a) (fun kx s t wr => ∃ (i j f : Nat), s = .int .i64 i ∧ t = .int .i64 j ∧ a ≤ i ∧ i ≤ j ∧ j ≤ m ∧ j - i ≤ f ∧ j - i ≤ kx ∧ Aside (SWK (encV F) 5 w0 blk off d wr) ∧ find1 (fun x => !ltOf cf d[m]! d[x]!) f i j = find1 (fun x => !ltOf cf d[m]! d[x]!) (m - a) (a) (m))
        case atStart => exact ⟨a, m, m - a, rfl, rfl, by omega, by omega, by omega, by omega, by omega, S0, rfl⟩
        case round =>
          clear S0
          obtain ⟨i, j, f, rfl, rfl, hlo, hij', hhi, hf, hkx, S1, heq⟩ := hrel
          by_cases hij : i < j
          · have hijz : (i : Int) < (j : Int) := by omega
            obtain ⟨h, hh⟩ : ∃ h, h = (i + j) / 2 := ⟨_, rfl⟩
            have hhz : ((i : Int) + (j : Int)) / 2 = (h : Int) := by omega
            have hh1 : i ≤ h := by omega
            have hh2 : h < j := by omega

            cases hv : ltOf cf d[m]! d[h]! with
            | true =>
              obtain ⟨q, hq, hqf, hfe⟩ := find1_off (p := fun x => !ltOf cf d[m]! d[x]!) hij hf (by show (!ltOf cf d[m]! d[((i + j) / 2)]!) = false; rw [← hh, hv]; rfl)
              rw [← hh] at hqf hfe
              rw [hfe] at heq
              have HEQ := Lib.hid heq
              have HQF := Lib.hid hqf
              clear heq hfe hqf hq hh
              have ex : ((m : Nat) : Int).toNat = m := by omega
              have px : (0 : Int) ≤ ((m : Nat) : Int) := by omega
              have bdx : ((m : Nat) : Int) < (d.size : Int) := by omega
              have rx : IntKind.i64.wrap ((m : Nat) : Int) = ((m : Nat) : Int) := by rw [IntKind.wrap_i64]; omega
              have ey : ((h : Nat) : Int).toNat = h := by omega
              have py : (0 : Int) ≤ ((h : Nat) : Int) := by omega
              have bdy : ((h : Nat) : Int) < (d.size : Int) := by omega
              have ry : IntKind.i64.wrap ((h : Nat) : Int) = ((h : Nat) : Int) := by rw [IntKind.wrap_i64]; omega
              obtain ⟨vt, vm, vp, vA, vn, vc, vB, vk, vd, ev, c0, c1, c2, c3, c4⟩ := SWK.fiveG S1.out R HD0.out m (by omega)
              obtain ⟨ut, um, up, uA, un, uc, uB, uk, ud, eu, g0, g1, g2, g3, g4⟩ := SWK.fiveG S1.out R HD0.out h (by omega)
              have hc := S1.out.cmp HC.out HD0.out d[m]! d[h]!
              rw [ev, eu] at hc
              have hd : decide (cf d[m]! d[h]! < 0) = true := hv
              generalize cf d[m]! d[h]! = cv at hc hd
              have hv2 : cv < 0 := by simpa using hd
              clear ev eu hv
              go_wp2_with fail
              go_quiet_grown (first | (go_at_fn g; refine Calls.grown_of (hc _ _)))
              have S2 : Aside (SWK (encV F) 5 w0 blk off d (grow (wr.drewN nq) osq)) := S1.out.grown nq osq
              clear c0 c1 c2 c3 c4 g0 g1 g2 g3 g4 hc S1 hd hv2
              generalize grow (wr.drewN nq) osq = w2 at S2 ⊢
              clear nq osq
              go_wp2
              go_roundg (j - i - 1)
              case measure => omega
              case rel =>
                have := HQF.out
                exact ⟨i, h, q, rfl, rfl, by omega, by omega, by omega, by omega, by omega, S2, HEQ.out⟩
            | false =>
              obtain ⟨q, hq, hqf, hfe⟩ := find1_on (p := fun x => !ltOf cf d[m]! d[x]!) hij hf (by show (!ltOf cf d[m]! d[((i + j) / 2)]!) = true; rw [← hh, hv]; rfl)
              rw [← hh] at hqf hfe
              rw [hfe] at heq
              have HEQ := Lib.hid heq
              have HQF := Lib.hid hqf
              clear heq hfe hqf hq hh
              have ex : ((m : Nat) : Int).toNat = m := by omega
              have px : (0 : Int) ≤ ((m : Nat) : Int) := by omega
              have bdx : ((m : Nat) : Int) < (d.size : Int) := by omega
              have rx : IntKind.i64.wrap ((m : Nat) : Int) = ((m : Nat) : Int) := by rw [IntKind.wrap_i64]; omega
              have ey : ((h : Nat) : Int).toNat = h := by omega
              have py : (0 : Int) ≤ ((h : Nat) : Int) := by omega
              have bdy : ((h : Nat) : Int) < (d.size : Int) := by omega
              have ry : IntKind.i64.wrap ((h : Nat) : Int) = ((h : Nat) : Int) := by rw [IntKind.wrap_i64]; omega
              obtain ⟨vt, vm, vp, vA, vn, vc, vB, vk, vd, ev, c0, c1, c2, c3, c4⟩ := SWK.fiveG S1.out R HD0.out m (by omega)
              obtain ⟨ut, um, up, uA, un, uc, uB, uk, ud, eu, g0, g1, g2, g3, g4⟩ := SWK.fiveG S1.out R HD0.out h (by omega)
              have hc := S1.out.cmp HC.out HD0.out d[m]! d[h]!
              rw [ev, eu] at hc
              have hd : decide (cf d[m]! d[h]! < 0) = false := hv
              generalize cf d[m]! d[h]! = cv at hc hd
              have hv2 : ¬ cv < 0 := by simpa using hd
              clear ev eu hv
              go_wp2_with fail
              go_quiet_grown (first | (go_at_fn g; refine Calls.grown_of (hc _ _)))
              have S2 : Aside (SWK (encV F) 5 w0 blk off d (grow (wr.drewN nq) osq)) := S1.out.grown nq osq
              clear c0 c1 c2 c3 c4 g0 g1 g2 g3 g4 hc S1 hd hv2
              generalize grow (wr.drewN nq) osq = w2 at S2 ⊢
              clear nq osq
              go_wp2
              go_roundg (j - i - 1)
              case measure => omega
              case rel =>
                have := HQF.out
                exact ⟨h + 1, j, q, by first | rfl | go_num, rfl, by omega, by omega, by omega, by omega, by omega, S2, HEQ.out⟩
          · have hijz : ¬ (i : Int) < (j : Int) := by omega
            rw [find1_end hij] at heq
            obtain rfl : i = j := by omega
            have HS := Lib.hid heq
            clear heq hf hij hij'
            obtain ⟨wL, rfl⟩ : ∃ wL, wL = wr := ⟨_, rfl⟩
            go_wp2
            go_loopg [17] (m - i) (fun kx s wr => ∃ (n K : Nat) (dk : Array Nat), s = .int .i64 K ∧ Hid (K = m - n ∧ n ≤ m) ∧ (i ≤ K ∧ K ≤ m) ∧ K - i ≤ kx ∧ Hid (dk.size = d0.size) ∧ Aside (SWK (encV F) 5 w0 blk off dk wr) ∧ Hid (dk = shDnP m n d))
            case atStart => exact ⟨0, m, d, rfl, Lib.hid ⟨rfl, Nat.zero_le _⟩, ⟨by omega, by omega⟩, by omega, HD0, S1, Lib.hid rfl⟩
            case round =>
              clear S1
              obtain ⟨n, K, dk, rfl, HK, ⟨hk1, hk2⟩, hkx, HDK, S3, HDE⟩ := hrel
              by_cases hlt : i < K
              · have hlz : (i : Int) < (K : Int) := by omega
                obtain ⟨J, hJ⟩ : ∃ J, J = K - 1 := ⟨_, rfl⟩
                have eJ : (K : Int) - 1 = (J : Int) := by omega
                have hJ1 : K = J + 1 := by omega
                have hJ2 : K ≤ J + 1 ∧ J + 1 ≤ K := by omega
                have HJ := Lib.hid hJ1
                obtain ⟨hj3, hj4⟩ := hJ2
                clear hJ hJ1
                have ex : ((K : Nat) : Int).toNat = K := by omega
                have px : (0 : Int) ≤ ((K : Nat) : Int) := by omega
                have bdx : ((K : Nat) : Int) < (d.size : Int) := by omega
                have rx : IntKind.i64.wrap ((K : Nat) : Int) = ((K : Nat) : Int) := by rw [IntKind.wrap_i64]; omega
                have ey : ((J : Nat) : Int).toNat = J := by omega
                have py : (0 : Int) ≤ ((J : Nat) : Int) := by omega
                have bdy : ((J : Nat) : Int) < (d.size : Int) := by omega
                have ry : IntKind.i64.wrap ((J : Nat) : Int) = ((J : Nat) : Int) := by rw [IntKind.wrap_i64]; omega
                obtain ⟨vt, vm, vp, vA, vn, vc, vB, vk, vd, ev, _, ⟨c0, c1, c2, c3, c4⟩, f0, f1, f2, f3, f4⟩ := SWK.five S3.out R HDK.out K (by have := HDK.out; have := HD0.out; omega)
                obtain ⟨ut, um, up, uA, un, uc, uB, uk, ud, eu, _, ⟨b0, b1, b2, b3, b4⟩, g0, g1, g2, g3, g4⟩ := SWK.five S3.out R HDK.out J (by have := HDK.out; have := HD0.out; omega)
                have S2 : Aside _ := SWK.swap5 S3.out R K J (by have := HDK.out; have := HD0.out; omega) (by have := HDK.out; have := HD0.out; omega) ev eu
                obtain ⟨w2, hw2⟩ : ∃ w2, w2 = World.drew (put5 (put5 wr blk (off + K * 5) (.int .i64 ut) (.int .i64 um) (.int .i64 up) (.slice uA un uc) (.slice uB uk ud)) blk (off + J * 5) (.int .i64 vt) (.int .i64 vm) (.int .i64 vp) (.slice vA vn vc) (.slice vB vk vd)) := ⟨_, rfl⟩
                rw [← hw2] at S2
                unfold put5 at hw2
                have HW2 := Lib.hid hw2
                clear S3 ev eu hw2
                go_wp2_with fail
                go_big_region_o
                rw [← HW2.out]
                clear HW2 c0 c1 c2 c3 c4 f0 f1 f2 f3 f4 b0 b1 b2 b3 b4 g0 g1 g2 g3 g4
                go_wp2
                go_roundg (J - i)
                case measure => omega
                case rel => exact ⟨n + 1, J, swp dk K J, by first | rfl | go_num, Lib.hid (by have := HK.out; omega), ⟨by omega, by omega⟩, by omega, Lib.hid (by rw [size_swp]; exact HDK.out), S2, Lib.hid (by
                  have h1 := HK.out
                  have h2 := HJ.out
                  rw [HDE.out, shDnP, show m - n = K by omega, show K - 1 = J by omega])⟩
              · have hlz : ¬ (i : Int) < (K : Int) := by omega
                go_wp2
                ((try simp only [Exit.inBlock, Exit.then]); refine bodyPost_ret (results_none rfl _ _ _) rfl ?_)
                refine ⟨rfl, ?_⟩
                have h1 := HK.out
                rw [← HS.out, show m - i = n by omega, ← HDE.out]
                exact S3.out
      · rw [symP_rest _ _ _ _ _ _ hma hbm]
        obtain ⟨mid, hmid⟩ : ∃ mid, mid = (a + b) / 2 := ⟨_, rfl⟩
        have HSY : Hid (find1 (fun x => !ltOf cf d[mid + m - 1 - x]! d[x]!) ((if mid < m then mid else m) - (if mid < m then mid + m - b else a)) (if mid < m then mid + m - b else a) (if mid < m then mid else m) = symS (ltOf cf) a m b d) := Lib.hid (by rw [hmid]; rfl)
        have hsp := symS_spec (ltOf cf) d ham hmb
        rw [← hmid] at hsp ⊢
        obtain ⟨sv, hsv⟩ : ∃ sv, sv = symS (ltOf cf) a m b d := ⟨_, rfl⟩
        rw [← hsv] at hsp HSY ⊢
        have HY : Hid (a ≤ sv ∧ sv ≤ m ∧ sv ≤ mid ∧ mid + m - sv ≤ b) := Lib.hid ⟨hsp.1, hsp.2.1, hsp.2.2.1, hsp.2.2.2.1⟩
        clear hsp hsv
        have emid : ((a : Int) + (b : Int)) / 2 = (mid : Int) := by omega
        have hm1 : a < mid := by omega
        have hm2 : mid < b := by omega
        have hm3 : mid - a ≤ b - mid := by omega
        have hm4 : b - mid ≤ mid - a + 1 := by omega
        have HM := Lib.hid hmid
        clear hmid
        obtain ⟨N, hN⟩ : ∃ N, N = mid + m := ⟨_, rfl⟩
        have eN : (mid : Int) + (m : Int) = (N : Int) := by omega
        obtain ⟨pn, hpn⟩ : ∃ pn, pn = mid + m - 1 := ⟨_, rfl⟩
        have ePn : (N : Int) - 1 = (pn : Int) := by omega
        have hN1 : N ≤ mid + m ∧ mid + m ≤ N ∧ pn + 1 ≤ N ∧ N ≤ pn + 1 := by omega
        obtain ⟨hN2, hN3, hN4, hN5⟩ := hN1
        have hbe1 : (((m : Nat) : Int) - ((a : Nat) : Int) == 1) = false := by rw [beq_eq_false_iff_ne]; omega
        have hbe2 : (((b : Nat) : Int) - ((m : Nat) : Int) == 1) = false := by rw [beq_eq_false_iff_ne]; omega
        have hma3 : a + 2 ≤ m := by omega
        have hbm3 : m + 2 ≤ b := by omega
        clear hN hpn hma hbm
        obtain ⟨s0, hs0⟩ : ∃ s0, s0 = if mid < m then mid + m - b else a := ⟨_, rfl⟩
        obtain ⟨r0, hr0⟩ : ∃ r0, r0 = if mid < m then mid else m := ⟨_, rfl⟩
        rw [← hs0, ← hr0] at HSY
        have hsr : a ≤ s0 ∧ s0 ≤ r0 ∧ r0 ≤ mid ∧ r0 ≤ m ∧ mid + m ≤ b + s0 := by rw [hs0, hr0]; split <;> omega
        obtain ⟨t1, t2, t3, t4, t5⟩ := hsr
        have HS0 := Lib.hid hs0
        have HR0 := Lib.hid hr0
        clear hs0 hr0
        go_enter Try.func121, Try.ntmps121
        go_upto_if 140 with fail
        go_cut [20, 21] from 138 to 146 (fun s t wx => s = .int .i64 s0 ∧ t = .int .i64 r0 ∧ wx = w)
        case first =>
          as_aux_lemma =>
          have hs0 := HS0.out
          have hr0 := HR0.out
          clear HSY HS0 HR0 S0
          by_cases hc : mid < m
          · rw [if_pos hc] at hs0 hr0
            have hcz : (mid : Int) < (m : Int) := by omega
            have es : (N : Int) - (b : Int) = (s0 : Int) := by omega
            clear hs0
            subst hr0
            go_wp2
            go_meet
            case rel => exact ⟨by first | rfl | go_num, by first | rfl | go_num, rfl⟩
          · rw [if_neg hc] at hs0 hr0
            have hcz : ¬ (mid : Int) < (m : Int) := by omega
            subst hs0 hr0
            go_wp2
            go_meet
            case rel => exact ⟨by first | rfl | go_num, by first | rfl | go_num, rfl⟩
        case rest =>
          as_aux_lemma =>
          obtain ⟨rfl, rfl, hwc⟩ := hcut
          have S9 : Aside (SWK (encV F) 5 w0 blk off d wc) := by rw [hwc]; exact S0
          clear S0 hwc HS0 HR0
          go_wp2
          go_loopg [20, 21] (r0 - s0) (fun kx s t wr => ∃ (i j f : Nat), s = .int .i64 i ∧ t = .int .i64 j ∧ s0 ≤ i ∧ i ≤ j ∧ j ≤ r0 ∧ j - i ≤ f ∧ j - i ≤ kx ∧ Aside (SWK (encV F) 5 w0 blk off d wr) ∧ find1 (fun x => !ltOf cf d[mid + m - 1 - x]! d[x]!) f i j = find1 (fun x => !ltOf cf d[mid + m - 1 - x]! d[x]!) (r0 - s0) (s0) (r0))
          case atStart => exact ⟨s0, r0, r0 - s0, rfl, rfl, by omega, by omega, by omega, by omega, by omega, S9, rfl⟩
          case round =>
            clear S9
            obtain ⟨i, j, f, rfl, rfl, hlo, hij', hhi, hf, hkx, S1, heq⟩ := hrel
            by_cases hij : i < j
            · have hijz : (i : Int) < (j : Int) := by omega
              obtain ⟨h, hh⟩ : ∃ h, h = (i + j) / 2 := ⟨_, rfl⟩
              have hhz : ((i : Int) + (j : Int)) / 2 = (h : Int) := by omega
              have hh1 : i ≤ h := by omega
              have hh2 : h < j := by omega
              obtain ⟨K, hK⟩ : ∃ K, K = mid + m - 1 - h := ⟨_, rfl⟩
              have eK : (pn : Int) - (h : Int) = (K : Int) := by omega
              have hK1 : K < d.size := by omega
              have HKK := Lib.hid hK
              clear hK
              cases hv : ltOf cf d[K]! d[h]! with
              | true =>
                obtain ⟨q, hq, hqf, hfe⟩ := find1_off (p := fun x => !ltOf cf d[mid + m - 1 - x]! d[x]!) hij hf (by show (!ltOf cf d[mid + m - 1 - ((i + j) / 2)]! d[((i + j) / 2)]!) = false; rw [← hh, ← HKK.out, hv]; rfl)
                rw [← hh] at hqf hfe
                rw [hfe] at heq
                have HEQ := Lib.hid heq
                have HQF := Lib.hid hqf
                clear heq hfe hqf hq hh
                have ex : ((K : Nat) : Int).toNat = K := by omega
                have px : (0 : Int) ≤ ((K : Nat) : Int) := by omega
                have bdx : ((K : Nat) : Int) < (d.size : Int) := by omega
                have rx : IntKind.i64.wrap ((K : Nat) : Int) = ((K : Nat) : Int) := by rw [IntKind.wrap_i64]; omega
                have ey : ((h : Nat) : Int).toNat = h := by omega
                have py : (0 : Int) ≤ ((h : Nat) : Int) := by omega
                have bdy : ((h : Nat) : Int) < (d.size : Int) := by omega
                have ry : IntKind.i64.wrap ((h : Nat) : Int) = ((h : Nat) : Int) := by rw [IntKind.wrap_i64]; omega
                obtain ⟨vt, vm, vp, vA, vn, vc, vB, vk, vd, ev, c0, c1, c2, c3, c4⟩ := SWK.fiveG S1.out R HD0.out K (by omega)
                obtain ⟨ut, um, up, uA, un, uc, uB, uk, ud, eu, g0, g1, g2, g3, g4⟩ := SWK.fiveG S1.out R HD0.out h (by omega)
                have hc := S1.out.cmp HC.out HD0.out d[K]! d[h]!
                rw [ev, eu] at hc
                have hd : decide (cf d[K]! d[h]! < 0) = true := hv
                generalize cf d[K]! d[h]! = cv at hc hd
                have hv2 : cv < 0 := by simpa using hd
                clear ev eu hv
                go_wp2_with fail
                go_quiet_grown (first | (go_at_fn g; refine Calls.grown_of (hc _ _)))
                have S2 : Aside (SWK (encV F) 5 w0 blk off d (grow (wr.drewN nq) osq)) := S1.out.grown nq osq
                clear c0 c1 c2 c3 c4 g0 g1 g2 g3 g4 hc S1 hd hv2
                generalize grow (wr.drewN nq) osq = w2 at S2 ⊢
                clear nq osq
                go_wp2
                go_roundg (j - i - 1)
                case measure => omega
                case rel =>
                  have := HQF.out
                  exact ⟨i, h, q, rfl, rfl, by omega, by omega, by omega, by omega, by omega, S2, HEQ.out⟩
              | false =>
                obtain ⟨q, hq, hqf, hfe⟩ := find1_on (p := fun x => !ltOf cf d[mid + m - 1 - x]! d[x]!) hij hf (by show (!ltOf cf d[mid + m - 1 - ((i + j) / 2)]! d[((i + j) / 2)]!) = true; rw [← hh, ← HKK.out, hv]; rfl)
                rw [← hh] at hqf hfe
                rw [hfe] at heq
                have HEQ := Lib.hid heq
                have HQF := Lib.hid hqf
                clear heq hfe hqf hq hh
                have ex : ((K : Nat) : Int).toNat = K := by omega
                have px : (0 : Int) ≤ ((K : Nat) : Int) := by omega
                have bdx : ((K : Nat) : Int) < (d.size : Int) := by omega
                have rx : IntKind.i64.wrap ((K : Nat) : Int) = ((K : Nat) : Int) := by rw [IntKind.wrap_i64]; omega
                have ey : ((h : Nat) : Int).toNat = h := by omega
                have py : (0 : Int) ≤ ((h : Nat) : Int) := by omega
                have bdy : ((h : Nat) : Int) < (d.size : Int) := by omega
                have ry : IntKind.i64.wrap ((h : Nat) : Int) = ((h : Nat) : Int) := by rw [IntKind.wrap_i64]; omega
                obtain ⟨vt, vm, vp, vA, vn, vc, vB, vk, vd, ev, c0, c1, c2, c3, c4⟩ := SWK.fiveG S1.out R HD0.out K (by omega)
                obtain ⟨ut, um, up, uA, un, uc, uB, uk, ud, eu, g0, g1, g2, g3, g4⟩ := SWK.fiveG S1.out R HD0.out h (by omega)
                have hc := S1.out.cmp HC.out HD0.out d[K]! d[h]!
                rw [ev, eu] at hc
                have hd : decide (cf d[K]! d[h]! < 0) = false := hv
                generalize cf d[K]! d[h]! = cv at hc hd
                have hv2 : ¬ cv < 0 := by simpa using hd
                clear ev eu hv
                go_wp2_with fail
                go_quiet_grown (first | (go_at_fn g; refine Calls.grown_of (hc _ _)))
                have S2 : Aside (SWK (encV F) 5 w0 blk off d (grow (wr.drewN nq) osq)) := S1.out.grown nq osq
                clear c0 c1 c2 c3 c4 g0 g1 g2 g3 g4 hc S1 hd hv2
                generalize grow (wr.drewN nq) osq = w2 at S2 ⊢
                clear nq osq
                go_wp2
                go_roundg (j - i - 1)
                case measure => omega
                case rel =>
                  have := HQF.out
                  exact ⟨h + 1, j, q, by first | rfl | go_num, rfl, by omega, by omega, by omega, by omega, by omega, S2, HEQ.out⟩
            · have hijz : ¬ (i : Int) < (j : Int) := by omega
              rw [find1_end hij] at heq
              obtain rfl : i = j := by omega
              have HS := Lib.hid heq
              clear heq hf hij hij'
              have HSI : Hid (i = sv) := Lib.hid (by rw [HS.out]; exact HSY.out)
              have hsp := HY.out
              rw [← HSI.out] at hsp
              obtain ⟨y1, y2, y3, y4⟩ := hsp
              clear HS HSY HY
              obtain ⟨E, hE⟩ : ∃ E, E = mid + m - i := ⟨_, rfl⟩
              have eE : (N : Int) - (i : Int) = (E : Int) := by omega
              have hE1 : m ≤ E := by omega
              have hE2 : E ≤ b := by omega
              have hE3 : mid ≤ E := by omega
              have hE4 : E + i ≤ mid + m ∧ mid + m ≤ E + i := by omega
              obtain ⟨hE5, hE6⟩ := hE4
              have HE := Lib.hid hE
              clear hE
              by_cases o1 : i < m
              · have o1z : (i : Int) < (m : Int) := by omega
                by_cases o2 : m < E
                · have o2z : (m : Int) < (E : Int) := by omega
                  have C := rotate_any F g cb blk off cap i m E d0 d w0 wr R (by have := HD0.out; omega) S1.out o1 o2 (by omega) (by omega)
                  have HCL := Lib.hid C
                  clear C
                  go_wp2_with fail
                  refine (HCL.out).mono ?_
                  rintro e w3 ⟨rfl, hS⟩
                  have S4 : Aside _ := hS
                  clear hS HCL
                  obtain ⟨d1, hd1⟩ : ∃ d1, d1 = rotP m (E - i) (m - i) (E - m) d := ⟨_, rfl⟩
                  rw [← hd1] at S4
                  have Hd1 : Hid (d1.size = d0.size) := Lib.hid (by rw [hd1, size_rotP]; exact HD0.out)
                  have D1 : Hid (d1 = rotIf i m E d) := Lib.hid (by unfold rotIf; rw [if_pos ⟨o1, o2⟩]; exact hd1)
                  clear hd1
                  by_cases p1 : a < i
                  · have p1z : (a : Int) < (i : Int) := by omega
                    by_cases p2 : i < mid
                    · have p2z : (i : Int) < (mid : Int) := by omega
                      have C := IH.out a i mid d1 w3 (by have := Hd1.out; omega) S4.out (by omega) (by omega) (by have := Hd1.out; have := HD0.out; omega) (by omega)
                      rw [show d1.size = d.size from by have := Hd1.out; have := HD0.out; omega] at C
                      have HCL := Lib.hid C
                      clear C
                      go_wp2_with fail
                      refine (HCL.out).mono ?_
                      rintro e w4 ⟨rfl, hS⟩
                      have S5 : Aside _ := hS
                      clear hS HCL
                      obtain ⟨d2, hd2⟩ : ∃ d2, d2 = symP (ltOf cf) f0 a i mid d1 := ⟨_, rfl⟩
                      rw [← hd2] at S5
                      have Hd2 : Hid (d2.size = d0.size) := Lib.hid (by rw [hd2, size_symP]; exact Hd1.out)
                      have D2 : Hid (d2 = if a < i ∧ i < mid then symP (ltOf cf) f0 a i mid d1 else d1) := Lib.hid (by rw [if_pos ⟨p1, p2⟩]; exact hd2)
                      clear hd2
                      by_cases q1 : mid < E
                      · have q1z : (mid : Int) < (E : Int) := by omega
                        by_cases q2 : E < b
                        · have q2z : (E : Int) < (b : Int) := by omega
                          have C := IH.out mid E b d2 w4 (by have := Hd2.out; omega) S5.out (by omega) (by omega) (by have := Hd2.out; have := HD0.out; omega) (by omega)
                          rw [show d2.size = d.size from by have := Hd2.out; have := HD0.out; omega] at C
                          have HCL := Lib.hid C
                          clear C
                          go_wp2_with fail
                          refine (HCL.out).mono ?_
                          rintro e w5 ⟨rfl, hS⟩
                          have S6 : Aside _ := hS
                          clear hS HCL
                          have HR : Hid (tail3 (ltOf cf) f0 a m b mid sv d = symP (ltOf cf) f0 mid E b d2) := Lib.hid (by rw [← HSI.out, D2.out, D1.out, HE.out]; unfold tail3; rw [← HE.out, if_pos ⟨q1, q2⟩])
                          go_wp2
                          go_end0
                          exact ⟨rfl, by rw [HR.out]; exact S6.out⟩
                        · have q2z : ¬ (E : Int) < (b : Int) := by omega
                          have S6 : Aside _ := S5
                          have HR : Hid (tail3 (ltOf cf) f0 a m b mid sv d = d2) := Lib.hid (by rw [← HSI.out, D2.out, D1.out, HE.out]; unfold tail3; rw [← HE.out, if_neg (fun hh => q2 hh.2)])
                          go_wp2
                          go_end0
                          exact ⟨rfl, by rw [HR.out]; exact S6.out⟩
                      · have q1z : ¬ (mid : Int) < (E : Int) := by omega
                        have S6 : Aside _ := S5
                        have HR : Hid (tail3 (ltOf cf) f0 a m b mid sv d = d2) := Lib.hid (by rw [← HSI.out, D2.out, D1.out, HE.out]; unfold tail3; rw [← HE.out, if_neg (fun hh => q1 hh.1)])
                        go_wp2
                        go_end0
                        exact ⟨rfl, by rw [HR.out]; exact S6.out⟩
                    · have p2z : ¬ (i : Int) < (mid : Int) := by omega
                      obtain ⟨d2, hd2⟩ : ∃ d2, d2 = d1 := ⟨_, rfl⟩
                      have S5 : Aside (SWK (encV F) 5 w0 blk off d2 w3) := by rw [hd2]; exact S4
                      have Hd2 : Hid (d2.size = d0.size) := Lib.hid (by rw [hd2]; exact Hd1.out)
                      have D2 : Hid (d2 = if a < i ∧ i < mid then symP (ltOf cf) f0 a i mid d1 else d1) := Lib.hid (by rw [if_neg (fun hh => p2 hh.2)]; exact hd2)
                      clear hd2
                      obtain ⟨w4, rfl⟩ : ∃ w4, w4 = w3 := ⟨_, rfl⟩
                      by_cases q1 : mid < E
                      · have q1z : (mid : Int) < (E : Int) := by omega
                        by_cases q2 : E < b
                        · have q2z : (E : Int) < (b : Int) := by omega
                          have C := IH.out mid E b d2 w4 (by have := Hd2.out; omega) S5.out (by omega) (by omega) (by have := Hd2.out; have := HD0.out; omega) (by omega)
                          rw [show d2.size = d.size from by have := Hd2.out; have := HD0.out; omega] at C
                          have HCL := Lib.hid C
                          clear C
                          go_wp2_with fail
                          refine (HCL.out).mono ?_
                          rintro e w5 ⟨rfl, hS⟩
                          have S6 : Aside _ := hS
                          clear hS HCL
                          have HR : Hid (tail3 (ltOf cf) f0 a m b mid sv d = symP (ltOf cf) f0 mid E b d2) := Lib.hid (by rw [← HSI.out, D2.out, D1.out, HE.out]; unfold tail3; rw [← HE.out, if_pos ⟨q1, q2⟩])
                          go_wp2
                          go_end0
                          exact ⟨rfl, by rw [HR.out]; exact S6.out⟩
                        · have q2z : ¬ (E : Int) < (b : Int) := by omega
                          have S6 : Aside _ := S5
                          have HR : Hid (tail3 (ltOf cf) f0 a m b mid sv d = d2) := Lib.hid (by rw [← HSI.out, D2.out, D1.out, HE.out]; unfold tail3; rw [← HE.out, if_neg (fun hh => q2 hh.2)])
                          go_wp2
                          go_end0
                          exact ⟨rfl, by rw [HR.out]; exact S6.out⟩
                      · have q1z : ¬ (mid : Int) < (E : Int) := by omega
                        have S6 : Aside _ := S5
                        have HR : Hid (tail3 (ltOf cf) f0 a m b mid sv d = d2) := Lib.hid (by rw [← HSI.out, D2.out, D1.out, HE.out]; unfold tail3; rw [← HE.out, if_neg (fun hh => q1 hh.1)])
                        go_wp2
                        go_end0
                        exact ⟨rfl, by rw [HR.out]; exact S6.out⟩
                  · have p1z : ¬ (a : Int) < (i : Int) := by omega
                    obtain ⟨d2, hd2⟩ : ∃ d2, d2 = d1 := ⟨_, rfl⟩
                    have S5 : Aside (SWK (encV F) 5 w0 blk off d2 w3) := by rw [hd2]; exact S4
                    have Hd2 : Hid (d2.size = d0.size) := Lib.hid (by rw [hd2]; exact Hd1.out)
                    have D2 : Hid (d2 = if a < i ∧ i < mid then symP (ltOf cf) f0 a i mid d1 else d1) := Lib.hid (by rw [if_neg (fun hh => p1 hh.1)]; exact hd2)
                    clear hd2
                    obtain ⟨w4, rfl⟩ : ∃ w4, w4 = w3 := ⟨_, rfl⟩
                    by_cases q1 : mid < E
                    · have q1z : (mid : Int) < (E : Int) := by omega
                      by_cases q2 : E < b
                      · have q2z : (E : Int) < (b : Int) := by omega
                        have C := IH.out mid E b d2 w4 (by have := Hd2.out; omega) S5.out (by omega) (by omega) (by have := Hd2.out; have := HD0.out; omega) (by omega)
                        rw [show d2.size = d.size from by have := Hd2.out; have := HD0.out; omega] at C
                        have HCL := Lib.hid C
                        clear C
                        go_wp2_with fail
                        refine (HCL.out).mono ?_
                        rintro e w5 ⟨rfl, hS⟩
                        have S6 : Aside _ := hS
                        clear hS HCL
                        have HR : Hid (tail3 (ltOf cf) f0 a m b mid sv d = symP (ltOf cf) f0 mid E b d2) := Lib.hid (by rw [← HSI.out, D2.out, D1.out, HE.out]; unfold tail3; rw [← HE.out, if_pos ⟨q1, q2⟩])
                        go_wp2
                        go_end0
                        exact ⟨rfl, by rw [HR.out]; exact S6.out⟩
                      · have q2z : ¬ (E : Int) < (b : Int) := by omega
                        have S6 : Aside _ := S5
                        have HR : Hid (tail3 (ltOf cf) f0 a m b mid sv d = d2) := Lib.hid (by rw [← HSI.out, D2.out, D1.out, HE.out]; unfold tail3; rw [← HE.out, if_neg (fun hh => q2 hh.2)])
                        go_wp2
                        go_end0
                        exact ⟨rfl, by rw [HR.out]; exact S6.out⟩
                    · have q1z : ¬ (mid : Int) < (E : Int) := by omega
                      have S6 : Aside _ := S5
                      have HR : Hid (tail3 (ltOf cf) f0 a m b mid sv d = d2) := Lib.hid (by rw [← HSI.out, D2.out, D1.out, HE.out]; unfold tail3; rw [← HE.out, if_neg (fun hh => q1 hh.1)])
                      go_wp2
                      go_end0
                      exact ⟨rfl, by rw [HR.out]; exact S6.out⟩
                · have o2z : ¬ (m : Int) < (E : Int) := by omega
                  obtain ⟨d1, hd1⟩ : ∃ d1, d1 = d := ⟨_, rfl⟩
                  have S4 : Aside (SWK (encV F) 5 w0 blk off d1 wr) := by rw [hd1]; exact S1
                  have Hd1 : Hid (d1.size = d0.size) := Lib.hid (by rw [hd1]; exact HD0.out)
                  have D1 : Hid (d1 = rotIf i m E d) := Lib.hid (by unfold rotIf; rw [if_neg (fun hh => o2 hh.2)]; exact hd1)
                  clear hd1
                  obtain ⟨w3, rfl⟩ : ∃ w3, w3 = wr := ⟨_, rfl⟩
                  by_cases p1 : a < i
                  · have p1z : (a : Int) < (i : Int) := by omega
                    by_cases p2 : i < mid
                    · have p2z : (i : Int) < (mid : Int) := by omega
                      have C := IH.out a i mid d1 w3 (by have := Hd1.out; omega) S4.out (by omega) (by omega) (by have := Hd1.out; have := HD0.out; omega) (by omega)
                      rw [show d1.size = d.size from by have := Hd1.out; have := HD0.out; omega] at C
                      have HCL := Lib.hid C
                      clear C
                      go_wp2_with fail
                      refine (HCL.out).mono ?_
                      rintro e w4 ⟨rfl, hS⟩
                      have S5 : Aside _ := hS
                      clear hS HCL
                      obtain ⟨d2, hd2⟩ : ∃ d2, d2 = symP (ltOf cf) f0 a i mid d1 := ⟨_, rfl⟩
                      rw [← hd2] at S5
                      have Hd2 : Hid (d2.size = d0.size) := Lib.hid (by rw [hd2, size_symP]; exact Hd1.out)
                      have D2 : Hid (d2 = if a < i ∧ i < mid then symP (ltOf cf) f0 a i mid d1 else d1) := Lib.hid (by rw [if_pos ⟨p1, p2⟩]; exact hd2)
                      clear hd2
                      by_cases q1 : mid < E
                      · have q1z : (mid : Int) < (E : Int) := by omega
                        by_cases q2 : E < b
                        · have q2z : (E : Int) < (b : Int) := by omega
                          have C := IH.out mid E b d2 w4 (by have := Hd2.out; omega) S5.out (by omega) (by omega) (by have := Hd2.out; have := HD0.out; omega) (by omega)
                          rw [show d2.size = d.size from by have := Hd2.out; have := HD0.out; omega] at C
                          have HCL := Lib.hid C
                          clear C
                          go_wp2_with fail
                          refine (HCL.out).mono ?_
                          rintro e w5 ⟨rfl, hS⟩
                          have S6 : Aside _ := hS
                          clear hS HCL
                          have HR : Hid (tail3 (ltOf cf) f0 a m b mid sv d = symP (ltOf cf) f0 mid E b d2) := Lib.hid (by rw [← HSI.out, D2.out, D1.out, HE.out]; unfold tail3; rw [← HE.out, if_pos ⟨q1, q2⟩])
                          go_wp2
                          go_end0
                          exact ⟨rfl, by rw [HR.out]; exact S6.out⟩
                        · have q2z : ¬ (E : Int) < (b : Int) := by omega
                          have S6 : Aside _ := S5
                          have HR : Hid (tail3 (ltOf cf) f0 a m b mid sv d = d2) := Lib.hid (by rw [← HSI.out, D2.out, D1.out, HE.out]; unfold tail3; rw [← HE.out, if_neg (fun hh => q2 hh.2)])
                          go_wp2
                          go_end0
                          exact ⟨rfl, by rw [HR.out]; exact S6.out⟩
                      · have q1z : ¬ (mid : Int) < (E : Int) := by omega
                        have S6 : Aside _ := S5
                        have HR : Hid (tail3 (ltOf cf) f0 a m b mid sv d = d2) := Lib.hid (by rw [← HSI.out, D2.out, D1.out, HE.out]; unfold tail3; rw [← HE.out, if_neg (fun hh => q1 hh.1)])
                        go_wp2
                        go_end0
                        exact ⟨rfl, by rw [HR.out]; exact S6.out⟩
                    · have p2z : ¬ (i : Int) < (mid : Int) := by omega
                      obtain ⟨d2, hd2⟩ : ∃ d2, d2 = d1 := ⟨_, rfl⟩
                      have S5 : Aside (SWK (encV F) 5 w0 blk off d2 w3) := by rw [hd2]; exact S4
                      have Hd2 : Hid (d2.size = d0.size) := Lib.hid (by rw [hd2]; exact Hd1.out)
                      have D2 : Hid (d2 = if a < i ∧ i < mid then symP (ltOf cf) f0 a i mid d1 else d1) := Lib.hid (by rw [if_neg (fun hh => p2 hh.2)]; exact hd2)
                      clear hd2
                      obtain ⟨w4, rfl⟩ : ∃ w4, w4 = w3 := ⟨_, rfl⟩
                      by_cases q1 : mid < E
                      · have q1z : (mid : Int) < (E : Int) := by omega
                        by_cases q2 : E < b
                        · have q2z : (E : Int) < (b : Int) := by omega
                          have C := IH.out mid E b d2 w4 (by have := Hd2.out; omega) S5.out (by omega) (by omega) (by have := Hd2.out; have := HD0.out; omega) (by omega)
                          rw [show d2.size = d.size from by have := Hd2.out; have := HD0.out; omega] at C
                          have HCL := Lib.hid C
                          clear C
                          go_wp2_with fail
                          refine (HCL.out).mono ?_
                          rintro e w5 ⟨rfl, hS⟩
                          have S6 : Aside _ := hS
                          clear hS HCL
                          have HR : Hid (tail3 (ltOf cf) f0 a m b mid sv d = symP (ltOf cf) f0 mid E b d2) := Lib.hid (by rw [← HSI.out, D2.out, D1.out, HE.out]; unfold tail3; rw [← HE.out, if_pos ⟨q1, q2⟩])
                          go_wp2
                          go_end0
                          exact ⟨rfl, by rw [HR.out]; exact S6.out⟩
                        · have q2z : ¬ (E : Int) < (b : Int) := by omega
                          have S6 : Aside _ := S5
                          have HR : Hid (tail3 (ltOf cf) f0 a m b mid sv d = d2) := Lib.hid (by rw [← HSI.out, D2.out, D1.out, HE.out]; unfold tail3; rw [← HE.out, if_neg (fun hh => q2 hh.2)])
                          go_wp2
                          go_end0
                          exact ⟨rfl, by rw [HR.out]; exact S6.out⟩
                      · have q1z : ¬ (mid : Int) < (E : Int) := by omega
                        have S6 : Aside _ := S5
                        have HR : Hid (tail3 (ltOf cf) f0 a m b mid sv d = d2) := Lib.hid (by rw [← HSI.out, D2.out, D1.out, HE.out]; unfold tail3; rw [← HE.out, if_neg (fun hh => q1 hh.1)])
                        go_wp2
                        go_end0
                        exact ⟨rfl, by rw [HR.out]; exact S6.out⟩
                  · have p1z : ¬ (a : Int) < (i : Int) := by omega
                    obtain ⟨d2, hd2⟩ : ∃ d2, d2 = d1 := ⟨_, rfl⟩
                    have S5 : Aside (SWK (encV F) 5 w0 blk off d2 w3) := by rw [hd2]; exact S4
                    have Hd2 : Hid (d2.size = d0.size) := Lib.hid (by rw [hd2]; exact Hd1.out)
                    have D2 : Hid (d2 = if a < i ∧ i < mid then symP (ltOf cf) f0 a i mid d1 else d1) := Lib.hid (by rw [if_neg (fun hh => p1 hh.1)]; exact hd2)
                    clear hd2
                    obtain ⟨w4, rfl⟩ : ∃ w4, w4 = w3 := ⟨_, rfl⟩
                    by_cases q1 : mid < E
                    · have q1z : (mid : Int) < (E : Int) := by omega
                      by_cases q2 : E < b
                      · have q2z : (E : Int) < (b : Int) := by omega
                        have C := IH.out mid E b d2 w4 (by have := Hd2.out; omega) S5.out (by omega) (by omega) (by have := Hd2.out; have := HD0.out; omega) (by omega)
                        rw [show d2.size = d.size from by have := Hd2.out; have := HD0.out; omega] at C
                        have HCL := Lib.hid C
                        clear C
                        go_wp2_with fail
                        refine (HCL.out).mono ?_
                        rintro e w5 ⟨rfl, hS⟩
                        have S6 : Aside _ := hS
                        clear hS HCL
                        have HR : Hid (tail3 (ltOf cf) f0 a m b mid sv d = symP (ltOf cf) f0 mid E b d2) := Lib.hid (by rw [← HSI.out, D2.out, D1.out, HE.out]; unfold tail3; rw [← HE.out, if_pos ⟨q1, q2⟩])
                        go_wp2
                        go_end0
                        exact ⟨rfl, by rw [HR.out]; exact S6.out⟩
                      · have q2z : ¬ (E : Int) < (b : Int) := by omega
                        have S6 : Aside _ := S5
                        have HR : Hid (tail3 (ltOf cf) f0 a m b mid sv d = d2) := Lib.hid (by rw [← HSI.out, D2.out, D1.out, HE.out]; unfold tail3; rw [← HE.out, if_neg (fun hh => q2 hh.2)])
                        go_wp2
                        go_end0
                        exact ⟨rfl, by rw [HR.out]; exact S6.out⟩
                    · have q1z : ¬ (mid : Int) < (E : Int) := by omega
                      have S6 : Aside _ := S5
                      have HR : Hid (tail3 (ltOf cf) f0 a m b mid sv d = d2) := Lib.hid (by rw [← HSI.out, D2.out, D1.out, HE.out]; unfold tail3; rw [← HE.out, if_neg (fun hh => q1 hh.1)])
                      go_wp2
                      go_end0
                      exact ⟨rfl, by rw [HR.out]; exact S6.out⟩
              · have o1z : ¬ (i : Int) < (m : Int) := by omega
                obtain ⟨d1, hd1⟩ : ∃ d1, d1 = d := ⟨_, rfl⟩
                have S4 : Aside (SWK (encV F) 5 w0 blk off d1 wr) := by rw [hd1]; exact S1
                have Hd1 : Hid (d1.size = d0.size) := Lib.hid (by rw [hd1]; exact HD0.out)
                have D1 : Hid (d1 = rotIf i m E d) := Lib.hid (by unfold rotIf; rw [if_neg (fun hh => o1 hh.1)]; exact hd1)
                clear hd1
                obtain ⟨w3, rfl⟩ : ∃ w3, w3 = wr := ⟨_, rfl⟩
                by_cases p1 : a < i
                · have p1z : (a : Int) < (i : Int) := by omega
                  by_cases p2 : i < mid
                  · have p2z : (i : Int) < (mid : Int) := by omega
                    have C := IH.out a i mid d1 w3 (by have := Hd1.out; omega) S4.out (by omega) (by omega) (by have := Hd1.out; have := HD0.out; omega) (by omega)
                    rw [show d1.size = d.size from by have := Hd1.out; have := HD0.out; omega] at C
                    have HCL := Lib.hid C
                    clear C
                    go_wp2_with fail
                    refine (HCL.out).mono ?_
                    rintro e w4 ⟨rfl, hS⟩
                    have S5 : Aside _ := hS
                    clear hS HCL
                    obtain ⟨d2, hd2⟩ : ∃ d2, d2 = symP (ltOf cf) f0 a i mid d1 := ⟨_, rfl⟩
                    rw [← hd2] at S5
                    have Hd2 : Hid (d2.size = d0.size) := Lib.hid (by rw [hd2, size_symP]; exact Hd1.out)
                    have D2 : Hid (d2 = if a < i ∧ i < mid then symP (ltOf cf) f0 a i mid d1 else d1) := Lib.hid (by rw [if_pos ⟨p1, p2⟩]; exact hd2)
                    clear hd2
                    by_cases q1 : mid < E
                    · have q1z : (mid : Int) < (E : Int) := by omega
                      by_cases q2 : E < b
                      · have q2z : (E : Int) < (b : Int) := by omega
                        have C := IH.out mid E b d2 w4 (by have := Hd2.out; omega) S5.out (by omega) (by omega) (by have := Hd2.out; have := HD0.out; omega) (by omega)
                        rw [show d2.size = d.size from by have := Hd2.out; have := HD0.out; omega] at C
                        have HCL := Lib.hid C
                        clear C
                        go_wp2_with fail
                        refine (HCL.out).mono ?_
                        rintro e w5 ⟨rfl, hS⟩
                        have S6 : Aside _ := hS
                        clear hS HCL
                        have HR : Hid (tail3 (ltOf cf) f0 a m b mid sv d = symP (ltOf cf) f0 mid E b d2) := Lib.hid (by rw [← HSI.out, D2.out, D1.out, HE.out]; unfold tail3; rw [← HE.out, if_pos ⟨q1, q2⟩])
                        go_wp2
                        go_end0
                        exact ⟨rfl, by rw [HR.out]; exact S6.out⟩
                      · have q2z : ¬ (E : Int) < (b : Int) := by omega
                        have S6 : Aside _ := S5
                        have HR : Hid (tail3 (ltOf cf) f0 a m b mid sv d = d2) := Lib.hid (by rw [← HSI.out, D2.out, D1.out, HE.out]; unfold tail3; rw [← HE.out, if_neg (fun hh => q2 hh.2)])
                        go_wp2
                        go_end0
                        exact ⟨rfl, by rw [HR.out]; exact S6.out⟩
                    · have q1z : ¬ (mid : Int) < (E : Int) := by omega
                      have S6 : Aside _ := S5
                      have HR : Hid (tail3 (ltOf cf) f0 a m b mid sv d = d2) := Lib.hid (by rw [← HSI.out, D2.out, D1.out, HE.out]; unfold tail3; rw [← HE.out, if_neg (fun hh => q1 hh.1)])
                      go_wp2
                      go_end0
                      exact ⟨rfl, by rw [HR.out]; exact S6.out⟩
                  · have p2z : ¬ (i : Int) < (mid : Int) := by omega
                    obtain ⟨d2, hd2⟩ : ∃ d2, d2 = d1 := ⟨_, rfl⟩
                    have S5 : Aside (SWK (encV F) 5 w0 blk off d2 w3) := by rw [hd2]; exact S4
                    have Hd2 : Hid (d2.size = d0.size) := Lib.hid (by rw [hd2]; exact Hd1.out)
                    have D2 : Hid (d2 = if a < i ∧ i < mid then symP (ltOf cf) f0 a i mid d1 else d1) := Lib.hid (by rw [if_neg (fun hh => p2 hh.2)]; exact hd2)
                    clear hd2
                    obtain ⟨w4, rfl⟩ : ∃ w4, w4 = w3 := ⟨_, rfl⟩
                    by_cases q1 : mid < E
                    · have q1z : (mid : Int) < (E : Int) := by omega
                      by_cases q2 : E < b
                      · have q2z : (E : Int) < (b : Int) := by omega
                        have C := IH.out mid E b d2 w4 (by have := Hd2.out; omega) S5.out (by omega) (by omega) (by have := Hd2.out; have := HD0.out; omega) (by omega)
                        rw [show d2.size = d.size from by have := Hd2.out; have := HD0.out; omega] at C
                        have HCL := Lib.hid C
                        clear C
                        go_wp2_with fail
                        refine (HCL.out).mono ?_
                        rintro e w5 ⟨rfl, hS⟩
                        have S6 : Aside _ := hS
                        clear hS HCL
                        have HR : Hid (tail3 (ltOf cf) f0 a m b mid sv d = symP (ltOf cf) f0 mid E b d2) := Lib.hid (by rw [← HSI.out, D2.out, D1.out, HE.out]; unfold tail3; rw [← HE.out, if_pos ⟨q1, q2⟩])
                        go_wp2
                        go_end0
                        exact ⟨rfl, by rw [HR.out]; exact S6.out⟩
                      · have q2z : ¬ (E : Int) < (b : Int) := by omega
                        have S6 : Aside _ := S5
                        have HR : Hid (tail3 (ltOf cf) f0 a m b mid sv d = d2) := Lib.hid (by rw [← HSI.out, D2.out, D1.out, HE.out]; unfold tail3; rw [← HE.out, if_neg (fun hh => q2 hh.2)])
                        go_wp2
                        go_end0
                        exact ⟨rfl, by rw [HR.out]; exact S6.out⟩
                    · have q1z : ¬ (mid : Int) < (E : Int) := by omega
                      have S6 : Aside _ := S5
                      have HR : Hid (tail3 (ltOf cf) f0 a m b mid sv d = d2) := Lib.hid (by rw [← HSI.out, D2.out, D1.out, HE.out]; unfold tail3; rw [← HE.out, if_neg (fun hh => q1 hh.1)])
                      go_wp2
                      go_end0
                      exact ⟨rfl, by rw [HR.out]; exact S6.out⟩
                · have p1z : ¬ (a : Int) < (i : Int) := by omega
                  obtain ⟨d2, hd2⟩ : ∃ d2, d2 = d1 := ⟨_, rfl⟩
                  have S5 : Aside (SWK (encV F) 5 w0 blk off d2 w3) := by rw [hd2]; exact S4
                  have Hd2 : Hid (d2.size = d0.size) := Lib.hid (by rw [hd2]; exact Hd1.out)
                  have D2 : Hid (d2 = if a < i ∧ i < mid then symP (ltOf cf) f0 a i mid d1 else d1) := Lib.hid (by rw [if_neg (fun hh => p1 hh.1)]; exact hd2)
                  clear hd2
                  obtain ⟨w4, rfl⟩ : ∃ w4, w4 = w3 := ⟨_, rfl⟩
                  by_cases q1 : mid < E
                  · have q1z : (mid : Int) < (E : Int) := by omega
                    by_cases q2 : E < b
                    · have q2z : (E : Int) < (b : Int) := by omega
                      have C := IH.out mid E b d2 w4 (by have := Hd2.out; omega) S5.out (by omega) (by omega) (by have := Hd2.out; have := HD0.out; omega) (by omega)
                      rw [show d2.size = d.size from by have := Hd2.out; have := HD0.out; omega] at C
                      have HCL := Lib.hid C
                      clear C
                      go_wp2_with fail
                      refine (HCL.out).mono ?_
                      rintro e w5 ⟨rfl, hS⟩
                      have S6 : Aside _ := hS
                      clear hS HCL
                      have HR : Hid (tail3 (ltOf cf) f0 a m b mid sv d = symP (ltOf cf) f0 mid E b d2) := Lib.hid (by rw [← HSI.out, D2.out, D1.out, HE.out]; unfold tail3; rw [← HE.out, if_pos ⟨q1, q2⟩])
                      go_wp2
                      go_end0
                      exact ⟨rfl, by rw [HR.out]; exact S6.out⟩
                    · have q2z : ¬ (E : Int) < (b : Int) := by omega
                      have S6 : Aside _ := S5
                      have HR : Hid (tail3 (ltOf cf) f0 a m b mid sv d = d2) := Lib.hid (by rw [← HSI.out, D2.out, D1.out, HE.out]; unfold tail3; rw [← HE.out, if_neg (fun hh => q2 hh.2)])
                      go_wp2
                      go_end0
                      exact ⟨rfl, by rw [HR.out]; exact S6.out⟩
                  · have q1z : ¬ (mid : Int) < (E : Int) := by omega
                    have S6 : Aside _ := S5
                    have HR : Hid (tail3 (ltOf cf) f0 a m b mid sv d = d2) := Lib.hid (by rw [← HSI.out, D2.out, D1.out, HE.out]; unfold tail3; rw [← HE.out, if_neg (fun hh => q1 hh.1)])
                    go_wp2
                    go_end0
                    exact ⟨rfl, by rw [HR.out]; exact S6.out⟩

end Go.Proofs.Ytcjmlakmigfkfaa
