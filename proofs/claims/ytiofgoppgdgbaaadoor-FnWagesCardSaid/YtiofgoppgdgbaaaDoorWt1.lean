/- Numbers in decimal: l1Num of the spec, joinNumbers of the implementation. No conditions. -/
import Derived.Test.YtiofgoppgdgbaaaDoorStr
import Derived.Test.YtiofgoppgdgbaaaDoorNest
import Derived.Test.YtiofgoppgdgbaaaDoorBel
import Derived.Deep.RegionHeld3
import Derived.Lib.ItoaLen
import Derived.Lib.ItoaMem
import Derived.Lib.AppendIntMem
namespace Go.Proofs.YtiofgoppgdgbaaaDoor
set_option linter.unusedSimpArgs false
set_option linter.unusedVariables false
open Go.RowKit

theorem bytes_app (a b : List UInt8) : (⟨a.toArray⟩ : ByteArray) ++ ⟨b.toArray⟩ = ⟨(a ++ b).toArray⟩ := by
  apply ByteArray.ext
  simp [ByteArray.data_append]
theorem u8nat (v : Nat) (h : v ≤ 255) : ((UInt8.ofNat v).toNat : Int) = (v : Int) := by
  simp
  omega
theorem conv1 {P : Program} (W : World) (src dst e : TypeId) (b v : Nat) (hv : v ≤ 255) (hs : P.underlying src = some (.slice e)) (he : P.underlying e = some (.int .u8)) (hd : P.underlying dst = some .string)
    (hc : W.cell? ⟨b, 0, none⟩ = some (.int .u8 (v : Int))) : (convert src dst (.slice (some ⟨b, 0, none⟩) 1 1)).run P W = .ok (.string ⟨[UInt8.ofNat v].toArray⟩) W := by
  refine run_convert_bytes_back W src dst e ⟨b, 0, none⟩ 1 [UInt8.ofNat v] hs he hd (fun j hj => ?_)
  obtain rfl : j = 0 := by simpa using hj
  have e0 : (⟨b, 0, none⟩ : Addr).add 0 = ⟨b, 0, none⟩ := by unfold Addr.add; simp
  rw [e0, hc]
  simp only [List.getElem_cons_zero, u8nat v hv]
theorem digits_len (u : Nat) (h : u ≤ 1000000000000) : (Lib.decDigits u).length ≤ 21 := by
  have := Lib.itoa_length_le (u : Int) (by omega) (by omega)
  rwa [Lib.itoa_nonneg] at this
set_option maxHeartbeats 1000000 in
set_option maxRecDepth 100000 in
theorem l1Num_any (u : Nat) : ∀ (_ : u ≤ 1000000000000) (w : World), Calls Tryd.prog 32 #[.int .i64 (u : Int)] w fun e w' => e = .returned (.string ⟨(Lib.decDigits u).toArray⟩) ∧ Below w.heap.size w w' := by
  induction u using Nat.strongRecOn with
  | ind u ih =>
    intro hu w
    by_cases h : u < 10
    · have hd0 := Lib.decDigits_one h
      have hcv := conv1 (P := Tryd.prog) (w.alloc (.cells #[.int .u8 (48 + (u : Int))] 5)) 37 9 5 w.heap.size (48 + u) (by omega) Tryd.underlying37 Tryd.underlying5 Tryd.underlying9 (by simp)
      generalize UInt8.ofNat (48 + u) = dg at hcv hd0
      have hd := Lib.hid hd0
      clear hd0
      go_enter Tryd.func32, Tryd.ntmps32
      go_wp2
      go_ret
      exact ⟨by rw [hd.out]; rfl, (Below.refl _ _).alloc (Nat.le_refl _) _⟩
    · have hd : Hid (Lib.decDigits u = Lib.decDigits (u / 10) ++ [UInt8.ofNat (48 + u % 10)]) := Lib.hid (by rw [Lib.decDigits, dif_neg h])
      have CI : ∀ W, Calls Tryd.prog 32 #[.int .i64 ((u : Int) / 10)] W fun e w' => e = .returned (.string ⟨(Lib.decDigits (u / 10)).toArray⟩) ∧ Below W.heap.size W w' := fun W => by
        have := ih (u / 10) (by omega) (by omega) W
        rwa [show ((u / 10 : Nat) : Int) = (u : Int) / 10 from by omega] at this
      have HCI := Lib.hid CI
      have hcv : ∀ (b : Nat) (W : World), W.cell? ⟨b, 0, none⟩ = some (.int .u8 (48 + (u : Int) % 10)) → (convert 37 9 (.slice (some ⟨b, 0, none⟩) 1 1)).run Tryd.prog W = .ok (.string ⟨[UInt8.ofNat (48 + u % 10)].toArray⟩) W := fun b W hW =>
        conv1 W 37 9 5 b (48 + u % 10) (by omega) Tryd.underlying37 Tryd.underlying5 Tryd.underlying9 (by rw [hW]; congr 2)
      generalize UInt8.ofNat (48 + u % 10) = dg at hcv hd
      have hq : IntKind.i64.wrap ((u : Int) / 10) = (u : Int) / 10 := IntWalk.i64_in _ (by omega)
      have ht : (u : Int).tmod 10 = (u : Int) % 10 := Int.tmod_eq_emod_of_nonneg (by omega)
      have hs1 : IntKind.i64.wrap (48 + (u : Int) % 10) = 48 + (u : Int) % 10 := IntWalk.i64_in _ (by omega)
      have hs2 : IntKind.u8.wrap (48 + (u : Int) % 10) = 48 + (u : Int) % 10 := by rw [IntKind.wrap_u8]; omega
      have hl := digits_len (u / 10) (by omega)
      clear CI ih
      go_enter Tryd.func32, Tryd.ntmps32
      go_wp2
      go_region_with (first | (go_at_call 32; refine (HCI.out _).mono ?_; rintro e w' ⟨rfl, hb⟩; first | (have hx : w'.cell? ⟨w.heap.size, 0, none⟩ = some (.int .u8 (48 + (u : Int) % 10)) := by (refine (hb.cell ?_).trans ?_ <;> (simp; done))) | skip) | fail)
      all_goals
        go_wp2
        go_ret
        refine ⟨?_, ?_⟩
        · rw [hd.out, ← bytes_app]
          rfl
        · first
            | exact ((Below.refl _ _).drew).trans hb
            | exact (((Below.refl _ _).drew).trans hb).alloc hb.size _
            | exact (((Below.refl _ _).alloc (Nat.le_refl _) _).drew).trans (hb.mono (by simp))
theorem infoStr : (Tryd.prog.info? 9).map (fun i => (i.zero, i.size, i.bytes)) = some (some (.string ⟨#[]⟩), 1, 16) := by kernel_rfl
def itoas (xs : List Int) : List ByteArray := xs.map fun x => ⟨(Lib.itoa x).toArray⟩
def strs (l : List ByteArray) : List Value := l.map .string
theorem globalPow : Tryd.prog.globalNamed powName = some (Tryd.prog.globalNamed powName).get! := by kernel_rfl
abbrev TabP (w : World) : Prop := Lib.TabIs Tryd.prog w powName .u64 Lib.pow10Tab
theorem TabP.below {w w' : World} {B : Nat} (h : TabP w) (hb : Below B w w') (hB : w.heap.size ≤ B) : TabP w' := Go.Joins.tab_stays globalPow h hb hB
theorem itoa_any (n : Int) (w : World) (hn : -1000000000000 ≤ n ∧ n ≤ 1000000000000) (hT : TabP w) :
    Calls Tryd.prog 65 #[.int .i64 n] w fun e w' => e = .returned (.string ⟨(Lib.itoa n).toArray⟩) ∧ Below w.heap.size w w' :=
  (str_Itoa n (by omega) (by omega) w hT).mono fun e w' ⟨he, k, os, hw⟩ => ⟨he, by rw [hw]; exact Lib.below_grow _ w (Nat.le_refl _) k os⟩
theorem joinTail_len (sep : List UInt8) (m : Nat) : ∀ r : List (List UInt8), (∀ x ∈ r, x.length ≤ m) → (Lib.joinTail sep r).length ≤ r.length * (sep.length + m) := by
  intro r
  induction r with
  | nil => intro _; simp [Lib.joinTail]
  | cons y q ih =>
    intro h
    have h1 := ih (fun x hx => h x (by simp [hx]))
    have h2 := h y (by simp)
    simp only [Lib.joinTail, List.map_cons, List.flatten_cons, List.length_append, List.length_cons, Nat.add_mul, Nat.one_mul] at h1 ⊢
    omega
theorem join_len (sep : List UInt8) (m : Nat) (l : List (List UInt8)) (h : ∀ x ∈ l, x.length ≤ m) : (Lib.join l sep).length ≤ l.length * (sep.length + m) := by
  cases l with
  | nil => simp [Lib.join_nil]
  | cons x r =>
    have h1 := joinTail_len sep m r (fun y hy => h y (by simp [hy]))
    have h2 := h x (by simp)
    rw [Lib.join_cons]
    simp only [List.length_append, List.length_cons, Nat.add_mul, Nat.one_mul]
    omega
theorem itoa_len (n : Int) (h : -1000000000000 ≤ n ∧ n ≤ 1000000000000) : (Lib.itoa n).length ≤ 21 := Lib.itoa_length_le n (by omega) (by omega)
set_option maxHeartbeats 1000000 in
set_option maxRecDepth 100000 in
theorem joinNumbers_any (A : Option Addr) (n c : Nat) (xs : List Int) (sep : ByteArray) (w : World) (hn : n ≤ 1000) (h0 : 0 < n) (hs : sep.size ≤ 100) (hx : ∀ x ∈ xs, -1000000000000 ≤ x ∧ x ≤ 1000000000000) (hT : TabP w) (h : Reads w 1 A n (ints xs)) :
    Calls Tryd.prog 38 #[.slice A n c, .string sep] w fun e w' => e = .returned (.string ⟨(Lib.join (xs.map Lib.itoa) sep.data.toList).toArray⟩) ∧ Below w.heap.size w w' := by
  have HX := Lib.hid (show xs.length = n by have := h.1; simpa using this)
  have H := Lib.hid h
  have HV := Lib.hid hx
  have HT := Lib.hid hT
  clear h hx hT
  go_enter Tryd.func38, Tryd.ntmps38
  go_wp2_with (at_make; refine wpList_mk _ rfl (.tmp 9) (.tmp 9) 93 rfl w.heap.size 9 (.string ⟨#[]⟩) _ infoStr rfl Tryd.underlying93 _ _ _ _ n rfl rfl rfl rfl (by omega) (by omega) (Nat.le_refl _) ?_; intro w1 hown1 hb1 hz1)
  have hown1' : w1.ownsRow w.heap.size 9 1 (.slice (some ⟨w.heap.size, 0, none⟩) n n) n ((strs (itoas xs)).take 0 ++ List.replicate (n - 0) (.string ⟨#[]⟩)) := by simpa using hown1
  have HTB : Hid (∀ W, Below w.heap.size w W → TabP W) := Lib.hid (fun W hW => HT.out.below hW (Nat.le_refl _))
  generalize hg : w.heap.size = g at *
  go_loopw [13] (fun i wr => ∃ k : Nat, k ≤ n ∧ i = .int .i64 k ∧ wr.ownsRow g 9 1 (.slice (some ⟨g, 0, none⟩) n n) n ((strs (itoas xs)).take k ++ List.replicate (n - k) (.string ⟨#[]⟩)) ∧ Below g w wr) (fun i _ => n - (intOf i).toNat)
  case atStart => exact ⟨0, Nat.zero_le _, rfl, hown1', hb1⟩
  case round =>
    obtain ⟨k, hk, rfl, hown, hb⟩ := hrel
    have HO := Lib.hid hown; have HB := Lib.hid hb
    clear hown1 hown1' hb1 hz1 hown hb
    have HSZ : Hid (g ≤ wr.heap.size) := Lib.hid (by rw [← hg]; exact HB.out.size)
    by_cases hlt : k < n
    · have hxl : k < xs.length := by rw [HX.out]; exact hlt
      obtain ⟨ad, u, rfl, hu, k0⟩ := (H.out.keep (w' := wr) (fun p hp => HB.out.cell (by omega))).at_ hlt
      have e0 : u = .int .i64 xs[k] := by simp [ints, hxl] at hu; exact hu.symm
      subst e0
      have hv := HV.out _ (List.getElem_mem hxl)
      have hgx : (strs (itoas xs))[k]? = some (.string ⟨(Lib.itoa xs[k]).toArray⟩) := by simp [strs, itoas, hxl]
      have HGX := Lib.hid hgx
      clear hu hgx
      generalize xs[k] = x at *
      have HCI := Lib.hid (itoa_any x wr hv (HTB.out _ HB.out))
      go_wp2_with fail
      refine (HCI.out).mono ?_
      rintro e w2 ⟨rfl, hb2⟩
      have HO2 := Lib.hid (own_below HO.out hb2)
      have HB2 := Lib.hid (HB.out.trans (hb2.mono HSZ.out))
      clear hb2 k0
      have hold : w2.cell? ⟨g, k, none⟩ = some (.string ⟨#[]⟩) := by
        rw [HO2.out.cellAt k (by omega)]
        exact mid_get (by simp [strs, itoas, HX.out]) hlt
      have hfz : w2.frozen? ⟨g, k, none⟩ = false := HO2.out.frozenAt k
      have hs := (HO2.out.stored k (.string ⟨(Lib.itoa x).toArray⟩)).1
      rw [mid_set (by simp [strs, itoas, HX.out]) hlt HGX.out] at hs
      have hbs := HB2.out.setCell (p := ⟨g, k, none⟩) (Nat.le_refl _) (.string ⟨(Lib.itoa x).toArray⟩)
      have HS := Lib.hid hs
      have HBS := Lib.hid hbs
      clear hs hbs
      go_wp2
      go_roundw
      case rel => exact ⟨k + 1, by omega, by go_num, HS.out, HBS.out⟩
      case measure => simp [intOf]; omega
    · have ek : k = n := by omega
      subst ek
      have ho := HO.out
      rw [mid_end (by simp [strs, itoas, HX.out])] at ho
      have hgs := ho.lt g rfl
      have hjl := join_len sep.data.toList 21 (xs.map Lib.itoa) (fun y hy => by
        obtain ⟨z, hz, rfl⟩ := List.mem_map.1 hy
        exact itoa_len z (HV.out z hz))
      have e1 : (itoas xs).map (·.data.toList) = xs.map Lib.itoa := by simp [itoas, Function.comp_def]
      have hl1 : (itoas xs).length = k := by simp [itoas, HX.out]
      have hsl : sep.data.toList.length ≤ 100 := by simpa using hs
      have CJ := str_Join g 0 k (itoas xs) sep wr (fun j x hj => by
        have h2 : (strs (itoas xs))[j]? = some (.string x) := by simp [strs, hj]
        have hjk : j < k := by rw [← hl1]; exact (List.getElem?_eq_some_iff.1 hj).1
        rw [Nat.zero_add, ho.cellAt j (by omega), h2]) hgs.2 (by omega) (by omega) (by
          rw [e1]
          have h3 : (xs.map Lib.itoa).length = k := by simp [HX.out]
          rw [h3] at hjl
          have h4 : k * (sep.data.toList.length + 21) ≤ 1000 * 121 := Nat.mul_le_mul hn (by omega)
          omega)
      rw [e1, hl1] at CJ
      have HCJ := Lib.hid CJ
      clear CJ e1 hl1 hsl hjl ho
      go_wp2_with fail
      refine (HCJ.out).mono ?_
      rintro e w3 ⟨rfl, hb3⟩
      have HB3 := Lib.hid (HB.out.trans (hb3.mono HSZ.out))
      clear hb3
      go_wp2
      go_ret
      subst hg
      exact ⟨rfl, HB3.out⟩
end Go.Proofs.YtiofgoppgdgbaaaDoor
