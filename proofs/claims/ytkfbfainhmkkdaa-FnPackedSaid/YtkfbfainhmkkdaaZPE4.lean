/- For every input the law FnPacked returns true and leaves its arguments as they were: registers, machines and programs are read back from their bytes, both sides' bytes are the same, and bytes are of one kind only. No condition. -/
import Derived.Test.YtkfbfainhmkkdaaZC1
import Derived.Test.YtkfbfainhmkkdaaZC2
import Derived.Test.YtkfbfainhmkkdaaZC3
import Derived.Test.YtkfbfainhmkkdaaZC4
import Derived.Test.YtkfbfainhmkkdaaZC5
import Derived.Test.YtkfbfainhmkkdaaZC6
import Derived.Test.YtkfbfainhmkkdaaZC7
import Derived.Deep.DeepCutAuto
import Derived.Deep.RegionHeld3
import Derived.ProofKit
import Derived.Carry
import Derived.OpenShut
import Derived.ChangeMaps5
import Derived.Deep.DeepHandedRow
import Derived.Lib.LaidTab
namespace Go.Proofs.Ytkfbfainhmkkdaa
open Go.RowKit Go.Sort
/-- the bytes of a string -/
def strB (s : ByteArray) : List UInt8 := s.data.toList
theorem strB_len (s : ByteArray) : (strB s).length = s.size := by simp [strB]
theorem strB_get (s : ByteArray) {k : Nat} (h : k < s.size) : s[k] = (strB s)[k]'(by rw [strB_len]; exact h) := by
  simp [strB]
  rfl
theorem strB_mk (bs : List UInt8) : strB ⟨bs.toArray⟩ = bs := by simp [strB]
theorem size_mk (bs : List UInt8) : (⟨bs.toArray⟩ : ByteArray).size = bs.length := by simp [ByteArray.size]
theorem strB_drop (s : ByteArray) (k : Nat) : strB (s.extract k s.size) = (strB s).drop k := by
  have h : (s.extract k s.size).data = s.data.extract k s.size := by simp
  unfold strB
  rw [h, Array.toList_extract, List.extract_eq_take_drop]
  rw [List.take_of_length_le]
  rw [List.length_drop, Array.length_toList]
  exact Nat.le_refl _
theorem size_zero {s : ByteArray} (h : s.size = 0) : s = ⟨#[]⟩ := by
  cases s with
  | mk a =>
    congr 1
    exact Array.eq_empty_of_size_eq_zero h
theorem str_nonempty {s : ByteArray} (h : 0 < s.size) : s.toList.isEmpty = false := by
  rw [ByteArray.toList_eq]
  cases he : s.data.toList with
  | nil =>
    have : s.data.toList.length = 0 := by rw [he]; rfl
    have h2 : s.data.toList.length = s.size := by rw [Array.length_toList]; rfl
    omega
  | cons a l => rfl
theorem strB_cons {s : ByteArray} (h : 0 < s.size) : strB s = s[0] :: (strB s).drop 1 := by
  have h1 : 0 < (strB s).length := by rw [strB_len]; exact h
  have h2 := strB_get s h
  rw [h2]
  have h3 := List.drop_eq_getElem_cons (l := strB s) (i := 0) h1
  simpa using h3
theorem strB_nil {s : ByteArray} (h : s.size = 0) : strB s = [] := by
  apply List.eq_nil_of_length_eq_zero; rw [strB_len]; exact h
theorem str_eq {s : ByteArray} {bs : List UInt8} : (⟨bs.toArray⟩ : ByteArray) = s ↔ bs = strB s := by
  constructor
  · intro h; rw [← h]; simp [strB]
  · intro h; rw [h]; cases s; simp [strB]
theorem strB_toList (s : ByteArray) : s.toList = strB s := by rw [ByteArray.toList_eq]; rfl
theorem strB_tail {s : ByteArray} : strB (s.extract 1 s.size) = (strB s).drop 1 := strB_drop s 1
theorem extract_size (s : ByteArray) (k : Nat) : (s.extract k s.size).size = s.size - k := by simp [ByteArray.size_extract]
theorem strB_extract (s : ByteArray) (i j : Nat) : strB (s.extract i j) = ((strB s).drop i).take (j - i) := by
  have h : (s.extract i j).data = s.data.extract i j := by simp
  unfold strB
  rw [h, Array.toList_extract, List.extract_eq_take_drop]
theorem strB_getD (s : ByteArray) {k : Nat} (h : k < s.size) : (strB s).getD k 0 = s[k] := by
  rw [strB_get s h]; simp [List.getD, List.getElem?_eq_getElem (show k < (strB s).length by rw [strB_len]; exact h)]
theorem wrapI {n : Int} (h : -9223372036854775808 ≤ n ∧ n ≤ 9223372036854775807) : IntKind.i64.wrap n = n := by
  rw [IntKind.wrap_i64]; omega
theorem wrapB {n : Int} (h : 0 ≤ n ∧ n < 256) : IntKind.u8.wrap n = n := by
  simp [IntKind.wrap, IntKind.bits, IntKind.signed]; omega
theorem wrap64_of {n : Int} (h : -9223372036854775808 ≤ n ∧ n ≤ 9223372036854775807) : wrap64 n = n := by unfold wrap64; omega
end Go.Proofs.Ytkfbfainhmkkdaa

namespace Go.Proofs.Ytkfbfainhmkkdaa
open Go.RowKit Go.Sort
/-- the checksum of bytes -/
def sumB (bs : List UInt8) : Int := bs.foldl (fun a b => (31 * a + (b.toNat : Int) + 1) % 65521) 7
theorem sumB_bd (bs : List UInt8) : 0 ≤ sumB bs ∧ sumB bs < 65521 := by
  rcases List.eq_nil_or_concat bs with rfl | ⟨l, b, rfl⟩
  · simp [sumB]
  · simp only [sumB, List.concat_eq_append, List.foldl_append, List.foldl_cons, List.foldl_nil]
    omega
theorem sumB_snoc (l : List UInt8) (b : UInt8) : sumB (l ++ [b]) = (31 * sumB l + (b.toNat : Int) + 1) % 65521 := by simp [sumB]
set_option maxHeartbeats 800000 in
theorem SumOfBytes_any (s : ByteArray) (w : World) (hs : s.size ≤ 140737488355328) : Calls Try.prog 51 #[.string s] w fun e w' => e = .returned (.int .i64 (sumB (strB s))) ∧ w = w' := by
  have HL := Lib.hid (strB_len s)
  go_enter Try.func51, Try.ntmps51
  go_wp2_with fail
  go_loopw [7, 3] (fun kk ss wr => ∃ k : Nat, k ≤ s.size ∧ kk = .int .i64 k ∧ ss = .int .i64 (sumB ((strB s).take k)) ∧ w = wr) (fun kk _ _ => s.size - (intOf kk).toNat)
  case atStart => exact ⟨0, Nat.zero_le _, rfl, rfl, rfl⟩
  case round =>
    obtain ⟨k, hk, rfl, rfl, rfl⟩ := hrel
    by_cases hkn : k < s.size
    · have hkl : k < (strB s).length := by rw [HL.out]; exact hkn
      have hg := strB_get s hkn
      have HT := Lib.hid (List.take_succ_eq_append_getElem hkl)
      obtain ⟨b, hb⟩ : ∃ b, b = (strB s)[k] := ⟨_, rfl⟩
      rw [← hb] at hg HT
      obtain ⟨acc, hacc⟩ : ∃ acc, acc = sumB ((strB s).take k) := ⟨_, rfl⟩
      have HA := Lib.hid hacc
      obtain ⟨a0, a1⟩ := sumB_bd ((strB s).take k)
      rw [← hacc] at a0 a1
      rw [← hacc]
      have hb2 : b.toNat < 256 := UInt8.toNat_lt _
      have hi1 : (k : Int) < (s.size : Int) := by omega
      have hi0 : (0 : Int) ≤ (k : Int) := by omega
      clear hacc hb
      go_wp2
      go_roundw
      case rel => exact ⟨k + 1, by omega, by go_num, by rw [HT.out, sumB_snoc, ← HA.out], by simp⟩
      case measure => simp [intOf]; omega
    · have HF : Hid (sumB ((strB s).take k) = sumB (strB s)) := by simp only [Hid]; rw [List.take_of_length_le (by rw [HL.out]; omega)]
      go_wp2
      go_ret
      exact ⟨ret_int HF.out, rfl⟩
set_option maxHeartbeats 800000 in
theorem l27Sum_any (s : ByteArray) (w : World) (hs : s.size ≤ 140737488355328) : Calls Try.prog 109 #[.string s] w fun e w' => e = .returned (.int .i64 (sumB (strB s))) ∧ w = w' := by
  have HL := Lib.hid (strB_len s)
  go_enter Try.func109, Try.ntmps109
  go_wp2_with fail
  go_loopw [4, 3] (fun kk ss wr => ∃ k : Nat, k ≤ s.size ∧ kk = .int .i64 k ∧ ss = .int .i64 (sumB ((strB s).take k)) ∧ w = wr) (fun kk _ _ => s.size - (intOf kk).toNat)
  case atStart => exact ⟨0, Nat.zero_le _, rfl, rfl, rfl⟩
  case round =>
    obtain ⟨k, hk, rfl, rfl, rfl⟩ := hrel
    by_cases hkn : k < s.size
    · have hkl : k < (strB s).length := by rw [HL.out]; exact hkn
      have hg := strB_get s hkn
      have HT := Lib.hid (List.take_succ_eq_append_getElem hkl)
      obtain ⟨b, hb⟩ : ∃ b, b = (strB s)[k] := ⟨_, rfl⟩
      rw [← hb] at hg HT
      obtain ⟨acc, hacc⟩ : ∃ acc, acc = sumB ((strB s).take k) := ⟨_, rfl⟩
      have HA := Lib.hid hacc
      obtain ⟨a0, a1⟩ := sumB_bd ((strB s).take k)
      rw [← hacc] at a0 a1
      rw [← hacc]
      have hb2 : b.toNat < 256 := UInt8.toNat_lt _
      have hi1 : (k : Int) < (s.size : Int) := by omega
      have hi0 : (0 : Int) ≤ (k : Int) := by omega
      clear hacc hb
      go_wp2
      go_roundw
      case rel => exact ⟨k + 1, by omega, by go_num, by rw [HT.out, sumB_snoc, ← HA.out], by simp⟩
      case measure => simp [intOf]; omega
    · have HF : Hid (sumB ((strB s).take k) = sumB (strB s)) := by simp only [Hid]; rw [List.take_of_length_le (by rw [HL.out]; omega)]
      go_wp2
      go_ret
      exact ⟨ret_int HF.out, rfl⟩
end Go.Proofs.Ytkfbfainhmkkdaa

namespace Go.Proofs.Ytkfbfainhmkkdaa
open Go.RowKit Go.Sort
/-- bytes with their checksum behind them -/
def sealB (bs : List UInt8) : List UInt8 := bs ++ [UInt8.ofNat (sumB bs / 256).toNat, UInt8.ofNat (sumB bs % 256).toNat]
theorem ofNat_byte {z : Int} (h0 : 0 ≤ z) (h1 : z < 256) : Value.int .u8 z = byteV (UInt8.ofNat z.toNat) := by
  unfold byteV
  congr 1
  rw [UInt8.toNat_ofNat']
  omega
theorem ownB_form {w : World} {base n c : Nat} {A : Option Addr} {bs : List UInt8} (h : OwnB w base (.slice A n c) bs) : bs.length = n ∧ RB w A n bs := by
  obtain ⟨A', c', e, h2, -⟩ := h.reads
  injection e with e1 e2 e3
  rw [e1, e2]; exact ⟨rfl, h2⟩
theorem bytes_one (bs : List UInt8) : ∀ u ∈ bs.map byteV, u.oneCell' = true := by
  intro u hu
  obtain ⟨b, -, rfl⟩ := List.mem_map.1 hu
  rfl
set_option maxRecDepth 100000 in
set_option maxHeartbeats 800000 in
theorem sealed_any (base : Nat) (A : Option Addr) (n c : Nat) (bs : List UInt8) (w : World) (ho : OwnB w base (.slice A n c) bs) (hm : n ≤ 1000000) (hb : base ≤ w.heap.size) :
    Calls Try.prog 90 #[.slice A n c] w fun e w' => e = .returned (.string ⟨(sealB bs).toArray⟩) ∧ Below base w w' := by
  obtain ⟨hl, hr⟩ := ownB_form ho
  have hcv := conv_bytes w A n c bs hr
  obtain ⟨s0, s1⟩ := sumB_bd bs
  have HS := Lib.hid (strB_mk bs)
  have HO := Lib.hid ho
  have HL := Lib.hid hl
  obtain ⟨sm, hsm⟩ : ∃ sm, sm = sumB bs := ⟨_, rfl⟩
  have HSM := Lib.hid hsm
  rw [← hsm] at s0 s1
  have hkl : (⟨bs.toArray⟩ : ByteArray).size ≤ 140737488355328 := by rw [size_mk]; omega
  have KS := Lib.hid (SumOfBytes_any ⟨bs.toArray⟩ w hkl)
  have HOA := Lib.hid (show (w.alloc (.cells #[.int .u8 (sm / 256), .int .u8 (sm % 256)] 5)).ownsRow base 5 1 (.slice A n c) n (bs.map byteV) by have h := ho; unfold OwnB at h; rw [hl] at h; exact h.alloc _)
  have HOB := Lib.hid (fun (v1 : Value) (w1 : World) (h : w1.ownsRow base 5 1 v1 (n + 2) (bs.map byteV ++ [.int .u8 (sm / 256), .int .u8 (sm % 256)])) => (show OwnB w1 base v1 (sealB bs) by
    unfold OwnB sealB
    rw [← hsm, List.length_append, List.map_append, hl]
    simp only [List.map_cons, List.map_nil, List.length_cons, List.length_nil]
    rw [← ofNat_byte (by omega) (by omega), ← ofNat_byte (by omega) (by omega)]
    exact h))
  have HLO := Lib.hid (fun k (hk : (Value.slice A n c).ownBlock = some k) => (show base ≤ k by
    rcases ho.2 with ⟨e, -⟩ | ⟨g, cap, cur, e, hbg, -⟩
    · rw [e] at hk; simp [Value.ownBlock] at hk
    · rw [e] at hk; simp only [Value.ownBlock, Option.some.injEq] at hk; omega))
  clear ho hl hr hsm hkl
  go_enter Try.func90, Try.ntmps90
  go_wp2_with (first | (go_at_call 51; refine KS.out.mono ?_; rintro e w' ⟨rfl, rfl⟩; rw [HS.out, ← HSM.out]) | (at_builtin; refine appG tpB rfl _ _ rfl base _ n (bs.map byteV) rfl HOA.out ⟨w.heap.size, 0, none⟩ 2 2 [.int .u8 (sm / 256), .int .u8 (sm % 256)] rfl rfl (World.news_of_block (heap_alloc_new _ _)) (by simp [Value.oneCell']) (by omega) (by omega) (by simp; omega) ?_; intro v1 w1 hown1 hg1 hv1; have hob := HOB.out v1 w1 hown1; obtain ⟨A1, c1, rfl, hr1, -⟩ := hob.reads; have hcv2 := conv_bytes w1 A1 _ c1 _ hr1))
  go_ret
  exact ⟨rfl, ((Below.refl _ _).alloc hb _).grown hg1 (by simp; omega) (fun k hk => HLO.out k hk)⟩
set_option maxRecDepth 100000 in
set_option maxHeartbeats 800000 in
theorem l27Ended_any (base : Nat) (A : Option Addr) (n c : Nat) (bs : List UInt8) (w : World) (ho : OwnB w base (.slice A n c) bs) (hm : n ≤ 1000000) (hb : base ≤ w.heap.size) :
    Calls Try.prog 93 #[.slice A n c] w fun e w' => e = .returned (.string ⟨(sealB bs).toArray⟩) ∧ Below base w w' := by
  obtain ⟨hl, hr⟩ := ownB_form ho
  have hcv := conv_bytes w A n c bs hr
  obtain ⟨s0, s1⟩ := sumB_bd bs
  have HS := Lib.hid (strB_mk bs)
  have HO := Lib.hid ho
  have HL := Lib.hid hl
  obtain ⟨sm, hsm⟩ : ∃ sm, sm = sumB bs := ⟨_, rfl⟩
  have HSM := Lib.hid hsm
  rw [← hsm] at s0 s1
  have hkl : (⟨bs.toArray⟩ : ByteArray).size ≤ 140737488355328 := by rw [size_mk]; omega
  have KS := Lib.hid (l27Sum_any ⟨bs.toArray⟩ w hkl)
  have HOA := Lib.hid (show (w.alloc (.cells #[.int .u8 (sm / 256), .int .u8 (sm % 256)] 5)).ownsRow base 5 1 (.slice A n c) n (bs.map byteV) by have h := ho; unfold OwnB at h; rw [hl] at h; exact h.alloc _)
  have HOB := Lib.hid (fun (v1 : Value) (w1 : World) (h : w1.ownsRow base 5 1 v1 (n + 2) (bs.map byteV ++ [.int .u8 (sm / 256), .int .u8 (sm % 256)])) => (show OwnB w1 base v1 (sealB bs) by
    unfold OwnB sealB
    rw [← hsm, List.length_append, List.map_append, hl]
    simp only [List.map_cons, List.map_nil, List.length_cons, List.length_nil]
    rw [← ofNat_byte (by omega) (by omega), ← ofNat_byte (by omega) (by omega)]
    exact h))
  have HLO := Lib.hid (fun k (hk : (Value.slice A n c).ownBlock = some k) => (show base ≤ k by
    rcases ho.2 with ⟨e, -⟩ | ⟨g, cap, cur, e, hbg, -⟩
    · rw [e] at hk; simp [Value.ownBlock] at hk
    · rw [e] at hk; simp only [Value.ownBlock, Option.some.injEq] at hk; omega))
  clear ho hl hr hsm hkl
  go_enter Try.func93, Try.ntmps93
  go_wp2_with (first | (go_at_call 109; refine KS.out.mono ?_; rintro e w' ⟨rfl, rfl⟩; rw [HS.out, ← HSM.out]) | (at_builtin; refine appG tpB rfl _ _ rfl base _ n (bs.map byteV) rfl HOA.out ⟨w.heap.size, 0, none⟩ 2 2 [.int .u8 (sm / 256), .int .u8 (sm % 256)] rfl rfl (World.news_of_block (heap_alloc_new _ _)) (by simp [Value.oneCell']) (by omega) (by omega) (by simp; omega) ?_; intro v1 w1 hown1 hg1 hv1; have hob := HOB.out v1 w1 hown1; obtain ⟨A1, c1, rfl, hr1, -⟩ := hob.reads; have hcv2 := conv_bytes w1 A1 _ c1 _ hr1))
  go_ret
  exact ⟨rfl, ((Below.refl _ _).alloc hb _).grown hg1 (by simp; omega) (fun k hk => HLO.out k hk)⟩
end Go.Proofs.Ytkfbfainhmkkdaa

namespace Go.Proofs.Ytkfbfainhmkkdaa
open Go.RowKit Go.Sort
/-- byte j of the digits, two in a byte -/
def pairAt (ds : List Int) (j : Nat) : Int := 16 * ds.getD (j * 2) 0 + ds.getD (j * 2 + 1) 0
def toB (z : Int) : UInt8 := UInt8.ofNat z.toNat
def regB (base : Int) (ds : List Int) : List UInt8 := toB (16 * (base - 1) + (ds.length - 1)) :: (List.range ((ds.length + 1) / 2)).map (fun j => toB (pairAt ds j))
theorem riB {w W wr : World} {B : Nat} {A : Option Addr} {n : Nat} {ds : List Int} (h : RI w A n ds) (hb : Below B W wr) (hW : B = w.heap.size + 1 ∧ Below w.heap.size w W) : RI wr A n ds := by
  have h1 := h.below hW.2
  refine ⟨h.1, fun hn => ?_⟩
  obtain ⟨ad, e, hl, hc⟩ := h.2 hn
  obtain ⟨ad', e', hl', hc'⟩ := h1.2 hn
  have hs := hb.size
  rw [e] at e'
  injection e' with e'
  subst e'
  refine ⟨ad, e, by omega, fun j u hu => ?_⟩
  rw [hb.cell (by rw [block_of_add]; omega)]
  exact hc' j u hu
theorem ownB_below {w w' : World} {base : Nat} {v : Value} {bs : List UInt8} (h : OwnB w base v bs) (hb : Below w.heap.size w w') : OwnB w' base v bs := by
  refine ⟨h.1, ?_⟩
  rcases h.2 with hn | ⟨g, cap, cur, rfl, hbg, hg, rest⟩
  · exact .inl hn
  · exact .inr ⟨g, cap, cur, rfl, hbg, by rw [hb.block g (Array.getElem?_eq_some_iff.1 hg).1]; exact hg, rest⟩
theorem ownB_lo {w : World} {base : Nat} {v : Value} {bs : List UInt8} (h : OwnB w base v bs) : ∀ k, v.ownBlock = some k → base ≤ k := by
  intro k hk
  rcases h.2 with ⟨rfl, -⟩ | ⟨g, cap, cur, rfl, hb, -⟩
  · simp [Value.ownBlock] at hk
  · simp only [Value.ownBlock, Option.some.injEq] at hk; omega
theorem addr_pos (p : Addr) (j : Nat) (h : j ≠ 0) : p.add j = ⟨p.block, p.off + j, none⟩ := by unfold Addr.add; rw [if_neg h]
theorem ownB_mono {w : World} {base b' : Nat} {v : Value} {bs : List UInt8} (h : OwnB w base v bs) (hb : b' ≤ base) : OwnB w b' v bs := by
  refine ⟨h.1, ?_⟩
  rcases h.2 with hn | ⟨g, cap, cur, rfl, hbg, hg, rest⟩
  · exact .inl hn
  · exact .inr ⟨g, cap, cur, rfl, by omega, hg, rest⟩
theorem own_litB {w : World} {base g n size : Nat} {e : TypeId} {cs : Array Value} (hg : w.heap[g]? = some (.cells cs e (0, 0))) (hb : base ≤ g) (hs : cs.size = n * size) (hn : n ≤ maxLen) : w.ownsRow base e size (.slice (some ⟨g, 0, none⟩) n n) n cs.toList :=
  ⟨by rw [Array.length_toList]; exact hs, .inr ⟨g, n, cs, rfl, hb, hg, Nat.le_refl _, hn, hs, by rw [← hs, ← Array.length_toList]; exact List.take_length⟩⟩
set_option maxRecDepth 100000 in
set_option maxHeartbeats 3200000 in
theorem bytes_any (base : Int) (A : Option Addr) (n c : Nat) (ds : List Int) (w : World) (hr : RI w A n ds) (hb : 2 ≤ base) (hb2 : base ≤ 16) (hn1 : 1 ≤ n) (hn : n ≤ 16) (hd : ∀ d ∈ ds, 0 ≤ d ∧ d < base) :
    Calls Try.prog 91 #[.agg #[.int .i64 base, .slice A n c]] w fun e w' => ∃ A' c', e = .returned (.slice A' (regB base ds).length c') ∧ OwnB w' w.heap.size (.slice A' (regB base ds).length c') (regB base ds) ∧ Below w.heap.size w w' := by
  have HL := Lib.hid hr.1
  have hb0 : Below w.heap.size w (w.alloc (.cells #[.int .i64 base, .slice A n c] 26)) := (Below.refl _ _).alloc (Nat.le_refl _) _
  have KW := Lib.hid (fun W => width_any base A n c W)
  have x1 : IntKind.i64.wrap (base - 1) = base - 1 := wrapI (by omega)
  have x2 : IntKind.i64.wrap (16 * (base - 1)) = 16 * (base - 1) := wrapI (by omega)
  have x3 : IntKind.u8.wrap (16 * (base - 1)) = 16 * (base - 1) := wrapB (by omega)
  have x4 : IntKind.i64.wrap ((n : Int) - 1) = (n : Int) - 1 := wrapI (by omega)
  have x5 : IntKind.u8.wrap ((n : Int) - 1) = (n : Int) - 1 := wrapB (by omega)
  have x6 : IntKind.u8.wrap (16 * (base - 1) + ((n : Int) - 1)) = 16 * (base - 1) + ((n : Int) - 1) := wrapB (by omega)
  obtain ⟨h0, hh0⟩ : ∃ h0, h0 = 16 * (base - 1) + ((n : Int) - 1) := ⟨_, rfl⟩
  have hh1 : 0 ≤ h0 ∧ h0 < 256 := by omega
  have HH := Lib.hid hh0; clear hh0
  have HD := Lib.hid hd
  clear hd
  go_enter Try.func91, Try.ntmps91
  go_wp2_with fail
  go_region_with (go_at_call 115; refine (KW.out _).mono ?_; rintro e w1 ⟨rfl, hw1⟩; obtain ⟨hc, hf⟩ := bcell hw1)
  all_goals
    rw [← HH.out]
    have z1 : w.heap.size + 1 ≤ w1.heap.size := by have := hw1.size; simpa using this
    have hb1 : Below (w.heap.size + 1) (w.alloc (.cells #[.int .i64 base, .slice A n c] 26)) w1 := (below_drewN (Below.refl (w.heap.size + 1) _) 1).trans (hw1.mono (by simp))
    have HB1 := Lib.hid (hb1.alloc z1 (.cells #[.int .u8 h0] 5))
    have HO1 := Lib.hid (show OwnB (w1.alloc (.cells #[.int .u8 h0] 5)) (w.heap.size + 1) (.slice (some ⟨w1.heap.size, 0, none⟩) 1 1) [toB h0] from by
      unfold OwnB toB
      simp only [List.map_cons, List.map_nil, List.length_cons, List.length_nil]
      rw [← ofNat_byte hh1.1 hh1.2]
      exact own_litB (n := 1) (cs := #[.int .u8 h0]) (heap_alloc_new _ _) z1 rfl (by decide))
    clear hb1 hc hf hw1 x3 x5 x6
    go_wp2_with fail
    go_loopw [4, 3] (fun kk out wr => ∃ j : Nat, j ≤ (n + 1) / 2 ∧ kk = .int .i64 ((j * 2 : Nat) : Int) ∧ OwnB wr (w.heap.size + 1) out (toB h0 :: (List.range j).map (fun j => toB (pairAt ds j))) ∧ Below (w.heap.size + 1) (w.alloc (.cells #[.int .i64 base, .slice A n c] 26)) wr) (fun kk _ _ => n + 1 - (intOf kk).toNat)
    case atStart => exact ⟨0, Nat.zero_le _, rfl, by simpa using HO1.out, HB1.out⟩
    case round =>
      obtain ⟨j, hj, rfl, hown, hbr⟩ := hrel
      have c0 : wr.cell? ⟨w.heap.size, 0, none⟩ = some (.int .i64 base) := by rw [hbr.cell (by simp)]; go_simp
      have c1 : wr.cell? ⟨w.heap.size, 1, none⟩ = some (.slice A n c) := by rw [hbr.cell (by simp)]; go_simp
      have hwz : w.heap.size + 1 ≤ wr.heap.size := by have := hbr.size; simpa using this
      have HO := Lib.hid hown
      have HBR := Lib.hid hbr
      have hri : RI wr A n ds := riB hr hbr ⟨rfl, hb0⟩
      clear hown hbr
      by_cases hjn : j * 2 < n
      · obtain ⟨ad, hA, hlt, hkl, hc1⟩ := hri.at_ hjn
        have hd1 := HD.out _ (List.getElem_mem hkl)
        obtain ⟨d, hdd⟩ : ∃ d, d = ds[j * 2] := ⟨_, rfl⟩
        have HDD := Lib.hid hdd
        rw [← hdd] at hc1 hd1
        have hi1 : ((j * 2 : Nat) : Int) < (n : Int) := by omega
        have hi0 : (0 : Int) ≤ ((j * 2 : Nat) : Int) := by omega
        subst hA
        clear hdd
        go_wp2_with fail
        refine (KW.out _).mono ?_; rintro e w2 ⟨rfl, hw2⟩
        have hc1' : w2.cell? (ad.add (j * 2)) = some (.int .i64 d) := by rw [hw2.cell (by rw [block_of_add]; exact hlt)]; exact hc1
        have c0' : w2.cell? ⟨w.heap.size, 0, none⟩ = some (.int .i64 base) := by rw [hw2.cell (by show w.heap.size < _; omega)]; exact c0
        have c1' : w2.cell? ⟨w.heap.size, 1, none⟩ = some (.slice (some ad) n c) := by rw [hw2.cell (by show w.heap.size < _; omega)]; exact c1
        have hz2 := hw2.size
        have y1 : IntKind.u8.wrap (16 * d) = 16 * d := wrapB (by omega)
        go_wp2_with fail
        refine (KW.out _).mono ?_; rintro e w3 ⟨rfl, hw3⟩
        have hz3 := hw3.size
        have hbw3 : Below wr.heap.size wr w3 := hw2.trans (hw3.mono hz2)
        have c0'' : w3.cell? ⟨w.heap.size, 0, none⟩ = some (.int .i64 base) := by rw [hbw3.cell (by show w.heap.size < _; omega)]; exact c0
        have c1'' : w3.cell? ⟨w.heap.size, 1, none⟩ = some (.slice (some ad) n c) := by rw [hbw3.cell (by show w.heap.size < _; omega)]; exact c1
        have HO3 := Lib.hid (ownB_below HO.out hbw3)
        have HB3 := Lib.hid (HBR.out.trans (hbw3.mono hwz))
        have HP := Lib.hid (show (List.range (j + 1)).map (fun j => toB (pairAt ds j)) = (List.range j).map (fun j => toB (pairAt ds j)) ++ [toB (pairAt ds j)] by rw [List.range_succ, List.map_append]; rfl)
        have hg0 : ds.getD (j * 2) 0 = d := by rw [HDD.out]; simp [List.getD, List.getElem?_eq_getElem hkl]
        have hlo := Lib.hid (ownB_lo HO3.out)
        by_cases hj2 : j * 2 + 1 < n
        · obtain ⟨ad2, hA2, hlt2, hkl2, hc2⟩ := hri.at_ hj2
          have hd2 := HD.out _ (List.getElem_mem hkl2)
          obtain ⟨d2, hdd2⟩ : ∃ d2, d2 = ds[j * 2 + 1] := ⟨_, rfl⟩
          have hg1 : ds.getD (j * 2 + 1) 0 = d2 := by rw [hdd2]; simp [List.getD, List.getElem?_eq_getElem hkl2]
          rw [← hdd2] at hc2 hd2
          clear hdd2
          obtain rfl : ad = ad2 := by injection hA2
          have hc2' : w3.cell? (ad.add (j * 2 + 1)) = some (.int .i64 d2) := by rw [hbw3.cell (by rw [block_of_add]; exact hlt)]; exact hc2
          have hc2'' : w3.cell? ⟨ad.block, ad.off + (j * 2 + 1), none⟩ = some (.int .i64 d2) := by rw [← addr_pos ad (j * 2 + 1) (by omega)]; exact hc2'
          have hi3 : ((j * 2 : Nat) : Int) + 1 < (n : Int) := by omega
          have y2 : IntKind.u8.wrap d2 = d2 := wrapB (by omega)
          have y3 : IntKind.u8.wrap (16 * d + d2) = 16 * d + d2 := wrapB (by omega)
          have HV : Hid (pairAt ds j = 16 * d + d2) := by simp only [Hid, pairAt]; rw [hg0, hg1]
          clear hg0 hg1 hw2 hw3 hbw3
          have HOA := Lib.hid (fun (q : Nat) => ownB_below HO3.out ((Below.refl w3.heap.size w3).alloc (Nat.le_refl _) (.cells #[.int .u8 (16 * d + d2)] 5)))
          have hbb := HB3.out.alloc (by omega) (.cells #[.int .u8 (16 * d + d2)] 5)
          go_wp2_with (at_builtin; refine appG tpB rfl _ _ rfl (w.heap.size + 1) _ _ _ rfl (HOA.out 0) ⟨w3.heap.size, 0, none⟩ 1 1 [.int .u8 (16 * d + d2)] rfl rfl (World.news_of_block (heap_alloc_new _ _)) (by simp [Value.oneCell']) (by simp; omega) (by simp; omega) (by simp; omega) ?_; intro v5 w6 hown5 hg5 hv5)
          have hbf := hbb.grown hg5 (by simp; omega) hlo.out
          have HOF := Lib.hid (show OwnB w6 (w.heap.size + 1) v5 (toB h0 :: (List.range (j + 1)).map (fun j => toB (pairAt ds j))) by
            rw [HP.out, HV.out, ← List.cons_append]
            unfold OwnB
            rw [List.length_append, List.map_append]
            simp only [List.map_cons, List.map_nil, List.length_cons, List.length_nil]
            rw [show byteV (toB ((16 * d + d2))) = .int .u8 ((16 * d + d2)) from (ofNat_byte (by omega) (by omega)).symm]
            simpa using hown5)
          have HBF := Lib.hid hbf
          clear hown5 hbf hbb hg5 hv5
          go_roundw
          case rel => exact ⟨j + 1, by omega, by go_num, HOF.out, HBF.out⟩
          case measure => simp [intOf]; omega
        · have hg1 : ds.getD (j * 2 + 1) 0 = 0 := by simp [List.getD, List.getElem?_eq_none (show ds.length ≤ j * 2 + 1 by have := HL.out; omega)]
          have hi3 : ¬ ((j * 2 : Nat) : Int) + 1 < (n : Int) := by omega
          have HV : Hid (pairAt ds j = 16 * d) := by simp only [Hid, pairAt]; rw [hg0, hg1, Int.add_zero]
          clear hg0 hg1 hw2 hw3 hbw3
          have HOA := Lib.hid (fun (q : Nat) => ownB_below HO3.out ((Below.refl w3.heap.size w3).alloc (Nat.le_refl _) (.cells #[.int .u8 (16 * d)] 5)))
          have hbb := HB3.out.alloc (by omega) (.cells #[.int .u8 (16 * d)] 5)
          go_wp2_with (at_builtin; refine appG tpB rfl _ _ rfl (w.heap.size + 1) _ _ _ rfl (HOA.out 0) ⟨w3.heap.size, 0, none⟩ 1 1 [.int .u8 (16 * d)] rfl rfl (World.news_of_block (heap_alloc_new _ _)) (by simp [Value.oneCell']) (by simp; omega) (by simp; omega) (by simp; omega) ?_; intro v5 w6 hown5 hg5 hv5)
          have hbf := hbb.grown hg5 (by simp; omega) hlo.out
          have HOF := Lib.hid (show OwnB w6 (w.heap.size + 1) v5 (toB h0 :: (List.range (j + 1)).map (fun j => toB (pairAt ds j))) by
            rw [HP.out, HV.out, ← List.cons_append]
            unfold OwnB
            rw [List.length_append, List.map_append]
            simp only [List.map_cons, List.map_nil, List.length_cons, List.length_nil]
            rw [show byteV (toB ((16 * d))) = .int .u8 ((16 * d)) from (ofNat_byte (by omega) (by omega)).symm]
            simpa using hown5)
          have HBF := Lib.hid hbf
          clear hown5 hbf hbb hg5 hv5
          go_roundw
          case rel => exact ⟨j + 1, by omega, by go_num, HOF.out, HBF.out⟩
          case measure => simp [intOf]; omega
      · have HJ : Hid (j = (n + 1) / 2) := by simp only [Hid]; omega
        have HF : Hid (toB h0 :: (List.range j).map (fun j => toB (pairAt ds j)) = regB base ds) := by
          simp only [Hid, regB]
          rw [HJ.out, HL.out, HH.out]
        have hi3 : ¬ ((j * 2 : Nat) : Int) < (n : Int) := by omega
        obtain ⟨AO, cO, rfl, -⟩ := HO.out.reads
        have HOW := Lib.hid (show OwnB wr (w.heap.size + 1) (.slice AO (regB base ds).length cO) (regB base ds) by have h := HO.out; rw [HF.out] at h; exact h)
        rw [HF.out]
        go_wp2_with fail
        refine (KW.out _).mono ?_; rintro e w2 ⟨rfl, hw2⟩
        have HOX := Lib.hid (ownB_below HOW.out hw2)
        have HBX := Lib.hid ((hb0.trans (HBR.out.mono (by omega))).trans (hw2.mono (by omega)))
        clear hw2
        go_wp2_with fail
        go_ret
        exact ⟨AO, cO, rfl, ownB_mono HOX.out (by omega), HBX.out⟩
end Go.Proofs.Ytkfbfainhmkkdaa

namespace Go.Proofs.Ytkfbfainhmkkdaa
open Go.RowKit Go.Sort
/-- a register as sealed bytes -/
def packR (base : Int) (ds : List Int) : List UInt8 := sealB (82 :: regB base ds)
theorem regB_len (base : Int) (ds : List Int) : (regB base ds).length = (ds.length + 1) / 2 + 1 := by simp [regB]
theorem ownB_cells {w : World} {base n c : Nat} {A : Option Addr} {bs : List UInt8} (h : OwnB w base (.slice A n c) bs) (hn : 0 < n) : ∃ g, A = some ⟨g, 0, none⟩ ∧ ∀ j u, (bs.map byteV)[j]? = some u → w.cell? ((⟨g, 0, none⟩ : Addr).add j) = some u := by
  rcases h.2 with ⟨e, hz⟩ | ⟨g, cap, cur, e, hbg, hc, -⟩
  · have := (ownB_form h).1; omega
  · injection e with e _ _
    subst e
    exact ⟨g, rfl, fun j u hu => h.cells (g := g) rfl j u hu⟩
set_option maxRecDepth 100000 in
set_option maxHeartbeats 1600000 in
theorem PackRegister_true (base : Int) (A : Option Addr) (n c : Nat) (ds : List Int) (w : World) (hr : RI w A n ds) (hv : vreg base ds = true) :
    Calls Try.prog 26 #[.agg #[.int .i64 base, .slice A n c]] w fun e w' => e = .returned (.tuple #[.string ⟨(packR base ds).toArray⟩, .int .i64 0]) ∧ Below w.heap.size w w' := by
  obtain ⟨⟨b1, b2⟩, ⟨n1, n2⟩, hd, -⟩ := vreg_iff.1 hv
  have hln := hr.1
  have hb0 : Below w.heap.size w (w.alloc (.cells #[.int .i64 base, .slice A n c] 26)) := (Below.refl _ _).alloc (Nat.le_refl _) _
  have KV := Lib.hid (calls_val (ValidRegister_any base A n c ds _ (hr.below hb0) (by omega)) (congrArg Value.bool hv))
  have KB := Lib.hid (fun W (hW : Below w.heap.size w W) => bytes_any base A n c ds W (hr.below hW) b1 b2 (by omega) (by omega) hd)
  have hrl := regB_len base ds
  rw [hln] at hrl
  have HRL := Lib.hid hrl
  have hrb : (regB base ds).length ≤ 20 := by omega
  have hrb0 : 0 < (regB base ds).length := by omega
  clear hv hd hrl hln
  go_enter Try.func26, Try.ntmps26
  go_wp2_with fail
  refine KV.out.mono ?_; rintro e w1 ⟨rfl, hw1⟩
  have z1 : w.heap.size + 1 ≤ w1.heap.size := by have := hw1.size; simpa using this
  have hlt1 : w.heap.size < w1.heap.size := by omega
  have hne1 : w1.heap.size ≠ w.heap.size := by omega
  have hne2 : w.heap.size ≠ w1.heap.size := by omega
  have c0 : w1.cell? ⟨w.heap.size, 0, none⟩ = some (.int .i64 base) := by rw [hw1.cell (by simp)]; go_simp
  have c1 : w1.cell? ⟨w.heap.size, 1, none⟩ = some (.slice A n c) := by rw [hw1.cell (by simp)]; go_simp
  have hbw1 : Below w.heap.size w w1 := hb0.trans (hw1.mono (by simp))
  have hbx := hbw1.alloc (by omega) (.cells #[.int .u8 82] 5)
  have HX1 := Lib.hid (show OwnB (w1.alloc (.cells #[.int .u8 82] 5)) w.heap.size (.slice (some ⟨w1.heap.size, 0, none⟩) 1 1) [82] from own_litB (n := 1) (cs := #[.int .u8 82]) (heap_alloc_new _ _) (by omega) rfl (by decide))
  have HBX := Lib.hid hbx
  clear hw1 hbw1 hbx
  go_wp2_with fail
  refine (KB.out _ HBX.out).mono ?_; rintro e w2 ⟨A2, c2, rfl, o2, hw2⟩
  have hz2 : w1.heap.size + 1 ≤ w2.heap.size := by have := hw2.size; simpa using this
  obtain ⟨g2, rfl, hcell⟩ := ownB_cells o2 hrb0
  have HB2 := Lib.hid (HBX.out.trans (hw2.mono (by simp; omega)))
  have HX2 := Lib.hid (ownB_below HX1.out hw2)
  have HCELL := Lib.hid hcell
  clear hw2 o2 hcell
  go_wp2_with (at_builtin; refine appG tpB rfl _ _ rfl w.heap.size _ 1 ([82].map byteV) rfl HX2.out ⟨g2, 0, none⟩ (regB base ds).length c2 ((regB base ds).map byteV) rfl (by simp) HCELL.out (bytes_one _) (by omega) (by omega) (by omega) ?_; intro v3 w3 hown3 hg3 hv3)
  have hob : OwnB w3 w.heap.size v3 (82 :: regB base ds) := by
    unfold OwnB
    rw [List.length_cons, Nat.add_comm, List.map_cons]
    exact hown3
  have hbw3 := HB2.out.grown hg3 (by omega) (ownB_lo HX2.out)
  have HOB := Lib.hid hob
  have HB3 := Lib.hid hbw3
  obtain ⟨A3, c3, rfl, -⟩ := hob.reads
  have hz3 : w.heap.size ≤ w3.heap.size := hbw3.size
  clear hob hbw3 hown3 hg3 hv3
  refine (sealed_any w.heap.size A3 _ c3 _ w3 HOB.out (by simp; omega) hz3).mono ?_; rintro e w4 ⟨rfl, hw4⟩
  have HB4 := Lib.hid (HB3.out.trans hw4)
  clear hw4
  go_wp2_with fail
  refine bodyPost_ret (v := .tuple #[.string ⟨(packR base ds).toArray⟩, .int .i64 0]) (by simp [results, Try.results26, go_sem, packR]) rfl ⟨rfl, HB4.out⟩
set_option maxRecDepth 100000 in
set_option maxHeartbeats 1600000 in
theorem PackRegister_false (base : Int) (A : Option Addr) (n c : Nat) (ds : List Int) (w : World) (hr : RI w A n ds) (hm : n ≤ 1000000) (hv : vreg base ds = false) :
    Calls Try.prog 26 #[.agg #[.int .i64 base, .slice A n c]] w fun e w' => e = .returned (.tuple #[.string ⟨#[]⟩, .int .i64 1]) ∧ Below w.heap.size w w' := by
  have hb0 : Below w.heap.size w (w.alloc (.cells #[.int .i64 base, .slice A n c] 26)) := (Below.refl _ _).alloc (Nat.le_refl _) _
  have KV := Lib.hid (calls_val (ValidRegister_any base A n c ds _ (hr.below hb0) (by omega)) (congrArg Value.bool hv))
  clear hv
  go_enter Try.func26, Try.ntmps26
  go_wp2_with fail
  refine KV.out.mono ?_; rintro e w1 ⟨rfl, hw1⟩
  have HB1 := Lib.hid (hb0.trans (hw1.mono (by simp)))
  go_wp2_with fail
  refine bodyPost_ret (v := .tuple #[.string ⟨#[]⟩, .int .i64 1]) (by simp [results, Try.results26, go_sem]) rfl ⟨rfl, HB1.out⟩
end Go.Proofs.Ytkfbfainhmkkdaa

namespace Go.Proofs.Ytkfbfainhmkkdaa
open Go.RowKit Go.Sort
/-- digit k of packed digits -/
def digK (tl : List UInt8) (k : Nat) : Int := if k % 2 = 0 then ((tl.getD (k / 2) 0).toNat / 16 : Nat) else ((tl.getD (k / 2) 0).toNat % 16 : Nat)
def digL (tl : List UInt8) (n : Nat) : List Int := (List.range n).map (digK tl)
theorem digL_succ (tl : List UInt8) (n : Nat) : digL tl (n + 1) = digL tl n ++ [digK tl n] := by simp [digL, List.range_succ]
theorem digL_len (tl : List UInt8) (n : Nat) : (digL tl n).length = n := by simp [digL]
/-- base and width that the first byte tells -/
def bas (b : UInt8) : Nat := b.toNat / 16 + 1
def wdt (b : UInt8) : Nat := b.toNat % 16 + 1
set_option maxRecDepth 100000 in
set_option maxHeartbeats 1600000 in
theorem takeRegister_short (s : ByteArray) (w : World) (hs : s.size ≤ 140737488355328) (h : s.size = 0 ∨ ∃ h0 : 0 < s.size, s.size < 1 + (wdt s[0] + 1) / 2) :
    Calls Try.prog 98 #[.string s] w fun e w' => e = .returned (.tuple #[.agg #[.int .i64 0, .slice none 0 0], .string ⟨#[]⟩, .bool false]) ∧ Below w.heap.size w w' := by
  have hb0 : Below w.heap.size w (w.alloc (.cells #[.int .i64 0, .slice none 0 0] 26)) := (Below.refl _ _).alloc (Nat.le_refl _) _
  rcases h with h | ⟨h0, h⟩
  · have he := size_zero h
    subst he
    go_enter Try.func98, Try.ntmps98
    go_wp2_with fail
    refine bodyPost_ret (v := .tuple #[.agg #[.int .i64 0, .slice none 0 0], .string ⟨#[]⟩, .bool false]) (by simp [results, Try.results98, go_sem]) rfl ⟨rfl, hb0⟩
  · have hE := str_nonempty h0
    obtain ⟨b, hb⟩ : ∃ b, s[0] = b := ⟨_, rfl⟩
    obtain ⟨v, hv⟩ : ∃ v, b.toNat = v := ⟨_, rfl⟩
    have hb2 : v < 256 := by rw [← hv]; exact UInt8.toNat_lt _
    unfold wdt at h
    rw [hb, hv] at h
    have u1 : IntKind.u8.wrap ((v : Int) / 16) = (v : Int) / 16 := wrapB (by omega)
    have u2 : IntKind.u8.wrap ((v : Int) % 16) = (v : Int) % 16 := wrapB (by omega)
    have u3 : IntKind.i64.wrap ((v : Int) / 16) = (v : Int) / 16 := wrapI (by omega)
    have u4 : IntKind.i64.wrap ((v : Int) % 16) = (v : Int) % 16 := wrapI (by omega)
    have u5 : IntKind.i64.wrap ((v : Int) / 16 + 1) = (v : Int) / 16 + 1 := wrapI (by omega)
    have u6 : IntKind.i64.wrap ((v : Int) % 16 + 1) = (v : Int) % 16 + 1 := wrapI (by omega)
    have hi : (0 : Int) < (s.size : Int) := by omega
    go_enter Try.func98, Try.ntmps98
    go_wp2_with fail
    go_region
    have hlt : (s.size : Int) < 1 + ((v : Int) % 16 + 1 + 1) / 2 := by omega
    go_wp2_with fail
    refine bodyPost_ret (v := .tuple #[.agg #[.int .i64 0, .slice none 0 0], .string ⟨#[]⟩, .bool false]) (by simp [results, Try.results98, go_sem]) rfl ⟨rfl, ?_⟩
    exact (hb0.alloc (by simp) _).drew
set_option maxRecDepth 100000 in
set_option maxHeartbeats 3200000 in
theorem takeRegister_ok (s : ByteArray) (w : World) (hs : s.size ≤ 140737488355328) (h0 : 0 < s.size) (h : 1 + (wdt s[0] + 1) / 2 ≤ s.size) :
    Calls Try.prog 98 #[.string s] w fun e w' => ∃ A' c' r, e = .returned (.tuple #[.agg #[.int .i64 (bas s[0] : Int), .slice A' (wdt s[0]) c'], .string r, .bool true]) ∧ strB r = (strB s).drop (1 + (wdt s[0] + 1) / 2) ∧ OwnI w' w.heap.size (.slice A' (wdt s[0]) c') (digL ((strB s).drop 1) (wdt s[0])) ∧ Below w.heap.size w w' := by
  have hb0 : Below w.heap.size w (w.alloc (.cells #[.int .i64 0, .slice none 0 0] 26)) := (Below.refl _ _).alloc (Nat.le_refl _) _
  have hE := str_nonempty h0
  obtain ⟨b, hb⟩ : ∃ b, s[0] = b := ⟨_, rfl⟩
  obtain ⟨v, hv⟩ : ∃ v, b.toNat = v := ⟨_, rfl⟩
  have hb2 : v < 256 := by rw [← hv]; exact UInt8.toNat_lt _
  have HBA := Lib.hid (show (bas b : Int) = (v : Int) / 16 + 1 by unfold bas; rw [hv]; omega)
  have HWD := Lib.hid (show (wdt b : Int) = (v : Int) % 16 + 1 by unfold wdt; rw [hv]; omega)
  have HWN := Lib.hid (show wdt b = v % 16 + 1 by unfold wdt; rw [hv])
  rw [hb] at h ⊢
  have u1 : IntKind.u8.wrap ((v : Int) / 16) = (v : Int) / 16 := wrapB (by omega)
  have u2 : IntKind.u8.wrap ((v : Int) % 16) = (v : Int) % 16 := wrapB (by omega)
  have u3 : IntKind.i64.wrap ((v : Int) / 16) = (v : Int) / 16 := wrapI (by omega)
  have u4 : IntKind.i64.wrap ((v : Int) % 16) = (v : Int) % 16 := wrapI (by omega)
  have u5 : IntKind.i64.wrap ((v : Int) / 16 + 1) = (v : Int) / 16 + 1 := wrapI (by omega)
  have u6 : IntKind.i64.wrap ((v : Int) % 16 + 1) = (v : Int) % 16 + 1 := wrapI (by omega)
  have hi : (0 : Int) < (s.size : Int) := by omega
  have hnlt : ¬ (s.size : Int) < 1 + ((v : Int) % 16 + 1 + 1) / 2 := by have := HWN.out; omega
  obtain ⟨wd, hwd⟩ : ∃ wd : Nat, (v : Int) % 16 + 1 = (wd : Int) := ⟨v % 16 + 1, by omega⟩
  have HWE := Lib.hid (show wdt b = wd by have := HWN.out; omega)
  have hwd16 : wd ≤ 16 := by omega
  have hwd1 : 1 ≤ wd := by omega
  have hlen : 1 + (wd + 1) / 2 ≤ s.size := by have := HWE.out; rw [this] at h; exact h
  clear h
  rw [HWE.out]
  obtain ⟨bs, hbs⟩ : ∃ bs, (v : Int) / 16 + 1 = bs := ⟨_, rfl⟩
  have HBE := Lib.hid (show (bas b : Int) = bs by rw [HBA.out]; exact hbs)
  rw [HBE.out]
  rw [hbs] at u5
  have HSL := Lib.hid (strB_len s)
  obtain ⟨tl, htl⟩ : ∃ tl, tl = (strB s).drop 1 := ⟨_, rfl⟩
  have HTL := Lib.hid htl
  rw [← htl]
  clear htl
  go_enter Try.func98, Try.ntmps98
  go_wp2_with fail
  go_region
  go_wp2_with fail
  go_loopw [32] (fun kk wr => ∃ (k : Nat) (x : Value), k ≤ wd ∧ kk = .int .i64 k ∧ SumAt wr (w.heap.size + 1) bs x (digL tl k) ∧ Below (w.heap.size + 1) (w.alloc (.cells #[.int .i64 0, .slice none 0 0] 26)) wr) (fun kk _ => wd - (intOf kk).toNat)
  case atStart =>
    refine ⟨0, .slice none 0 0, Nat.zero_le _, rfl, ⟨?_, OwnI.nil _ _⟩, ?_⟩
    · first
        | exact heap_alloc_new _ _
        | (show ((w.alloc (.cells #[.int .i64 0, .slice none 0 0] 26)).alloc (.cells #[.int .i64 bs, .slice none 0 0] 26)).heap[w.heap.size + 1]? = _
           rw [show w.heap.size + 1 = (w.alloc (.cells #[.int .i64 0, .slice none 0 0] 26)).heap.size by simp]
           exact heap_alloc_new _ _)
    · exact ((Below.refl _ _).alloc (by simp) _).drew
  case round =>
    obtain ⟨k, x, hk, rfl, hS, hbr⟩ := hrel
    have HS := Lib.hid hS
    have HBR := Lib.hid hbr
    obtain ⟨s1, s2, s3⟩ := hS.cells
    have hGl := hS.lt
    have hO := Lib.hid hS.2
    clear hS hbr
    by_cases hkn : k < wd
    · have hk1 : (k : Int) < (wd : Int) := by omega
      have hix : 1 + k / 2 < s.size := by omega
      obtain ⟨q, hq⟩ : ∃ q : UInt8, s[1 + k / 2] = q := ⟨_, rfl⟩
      obtain ⟨z, hz⟩ : ∃ z : Nat, q.toNat = z := ⟨_, rfl⟩
      have hz2 : z < 256 := by rw [← hz]; exact UInt8.toNat_lt _
      have hxi : (1 : Int) + (k : Int) / 2 < (s.size : Int) := by omega
      have hxn : ((1 : Int) + (k : Int) / 2).toNat = 1 + k / 2 := by omega
      have HDK : Hid (digK tl k = if k % 2 = 0 then ((z / 16 : Nat) : Int) else ((z % 16 : Nat) : Int)) := by
        simp only [Hid, digK]
        rw [show (tl.getD (k / 2) 0).toNat = z by
          rw [HTL.out, ← hz, ← hq, strB_get s hix]
          rw [List.getD, List.getElem?_drop, List.getElem?_eq_getElem (show 1 + k / 2 < (strB s).length by rw [HSL.out]; exact hix)]; rfl]
      rcases Nat.mod_two_eq_zero_or_one k with hm | hm
      · have hme : ((k : Int) % 2 == 0) = true := by rw [beq_iff_eq]; omega
        have hme2 : (k : Int) % 2 = 0 := by omega
        have hzz : (z : Int) / 16 % 16 = (z : Int) / 16 := by omega
        have HY : Hid (digK tl k = (z : Int) / 16) := by simp only [Hid]; rw [HDK.out, if_pos hm]; omega
        have hdl := digL_len tl k
        have HOB := Lib.hid (hO.out.below ((Below.refl wr.heap.size wr).alloc (Nat.le_refl _) (.cells #[.int .i64 ((z : Int) / 16)] 2)))
        go_wp2_with (at_builtin; refine app1I rfl _ _ rfl (w.heap.size + 1 + 1) _ (digL tl k) rfl HOB.out wr.heap.size ((z : Int) / 16) rfl (heap_alloc_new _ _) (by omega) (by simp; omega) ?_; intro v5 w6 hown5 hg5 hv5; obtain ⟨A5, c5, rfl, -⟩ := OwnI.reads hown5; obtain ⟨t1, t2, t3, t4⟩ := SumAt.far HS.out hg5)
        obtain ⟨hS3, hB3⟩ := SumAt.step (x := ((z : Int) / 16)) HS.out hg5 (by have h := hown5; unfold OwnI at h; rw [List.length_append, List.map_append] at h; exact h)
        rw [show (digL tl k).length + [((z : Int) / 16)].length = k + 1 by rw [hdl]; rfl] at hS3 hB3
        have HS3 := Lib.hid (show SumAt _ (w.heap.size + 1) bs _ (digL tl (k + 1)) by rw [digL_succ, HY.out]; exact hS3)
        have HB3 := Lib.hid (HBR.out.trans (hB3 _ (Nat.le_refl _)))
        clear hS3 hB3 hown5 hg5 hv5 t1 t2 t3 t4
        go_roundw
        case rel => exact ⟨k + 1, _, by omega, by go_num, HS3.out, HB3.out⟩
        case measure => simp [intOf]; omega
      · have hme : ((k : Int) % 2 == 0) = false := by rw [beq_eq_false_iff_ne]; omega
        have hme2 : ¬ (k : Int) % 2 = 0 := by omega
        have HY : Hid (digK tl k = (z : Int) % 16) := by simp only [Hid]; rw [HDK.out, if_neg (by omega)]; omega
        have hdl := digL_len tl k
        have HOB := Lib.hid (hO.out.below ((Below.refl wr.heap.size wr).alloc (Nat.le_refl _) (.cells #[.int .i64 ((z : Int) % 16)] 2)))
        go_wp2_with (at_builtin; refine app1I rfl _ _ rfl (w.heap.size + 1 + 1) _ (digL tl k) rfl HOB.out wr.heap.size ((z : Int) % 16) rfl (heap_alloc_new _ _) (by omega) (by simp; omega) ?_; intro v5 w6 hown5 hg5 hv5; obtain ⟨A5, c5, rfl, -⟩ := OwnI.reads hown5; obtain ⟨t1, t2, t3, t4⟩ := SumAt.far HS.out hg5)
        obtain ⟨hS3, hB3⟩ := SumAt.step (x := ((z : Int) % 16)) HS.out hg5 (by have h := hown5; unfold OwnI at h; rw [List.length_append, List.map_append] at h; exact h)
        rw [show (digL tl k).length + [((z : Int) % 16)].length = k + 1 by rw [hdl]; rfl] at hS3 hB3
        have HS3 := Lib.hid (show SumAt _ (w.heap.size + 1) bs _ (digL tl (k + 1)) by rw [digL_succ, HY.out]; exact hS3)
        have HB3 := Lib.hid (HBR.out.trans (hB3 _ (Nat.le_refl _)))
        clear hS3 hB3 hown5 hg5 hv5 t1 t2 t3 t4
        go_roundw
        case rel => exact ⟨k + 1, _, by omega, by go_num, HS3.out, HB3.out⟩
        case measure => simp [intOf]; omega
    · have HK : Hid (k = wd) := by simp only [Hid]; omega
      have q0 : wr.cell? ⟨w.heap.size, 0, none⟩ = some (.int .i64 0) := by rw [HBR.out.cell (by simp)]; go_simp
      have q1 : wr.cell? ⟨w.heap.size, 1, none⟩ = some (.slice none 0 0) := by rw [HBR.out.cell (by simp)]; go_simp
      have q2 : wr.frozen? ⟨w.heap.size, 0, none⟩ = false := by rw [HBR.out.frozen (by simp)]; go_simp
      have q3 : wr.frozen? ⟨w.heap.size, 1, none⟩ = false := by rw [HBR.out.frozen (by simp)]; go_simp
      obtain ⟨A', c', e, -, -⟩ := hO.out.reads
      subst e
      rw [digL_len, HK.out] at s2
      have hO2 := hO.out
      rw [digL_len, HK.out] at hO2
      have HO2 := Lib.hid hO2
      clear hO2 HS hO
      have hgl1 : w.heap.size + 1 ≠ w.heap.size := by omega
      have x1 : IntKind.i64.wrap ((wd : Int) + 1) = (wd : Int) + 1 := wrapI (by omega)
      have x2 : IntKind.i64.wrap (((wd : Int) + 1) / 2) = ((wd : Int) + 1) / 2 := wrapI (by omega)
      have x3 : IntKind.i64.wrap (1 + ((wd : Int) + 1) / 2) = 1 + ((wd : Int) + 1) / 2 := wrapI (by omega)
      have x4 : (1 : Int) + ((wd : Int) + 1) / 2 ≤ (s.size : Int) := by omega
      go_wp2_with fail
      go_region
      all_goals
        go_wp2_with fail
        have hb9 : Below w.heap.size w (((wr.setCell ⟨w.heap.size, 0, none⟩ (.int .i64 bs)).setCell ⟨w.heap.size, 1, none⟩ (.slice A' wd c')).drew) :=
          (((hb0.trans (HBR.out.mono (by omega))).setCell (by show w.heap.size ≤ w.heap.size; omega) _).setCell (by show w.heap.size ≤ w.heap.size; omega) _).drew
        refine bodyPost_ret (v := .tuple #[.agg #[.int .i64 bs, .slice A' wd c'], .string (s.extract (1 + (wd + 1) / 2) s.size), .bool true]) (by simp [results, Try.results98, go_sem, q0, q1, q2, q3]) rfl ⟨A', c', _, rfl, ?_, ?_, hb9⟩
        · exact strB_drop s _
        · exact ((((HO2.out.setBelow (by show w.heap.size < w.heap.size + 1 + 1; omega) _).setBelow (by show w.heap.size < w.heap.size + 1 + 1; omega) _)).mono (by omega)).drew
end Go.Proofs.Ytkfbfainhmkkdaa

namespace Go.Proofs.Ytkfbfainhmkkdaa
open Go.RowKit Go.Sort
/-- an odd register's last half byte is 0 -/
def fineL (tl : List UInt8) (n : Nat) : Bool := n % 2 == 0 || (tl.getD ((n + 1) / 2 - 1) 0).toNat % 16 == 0
set_option maxRecDepth 100000 in
set_option maxHeartbeats 1600000 in
theorem l27Register_short (s : ByteArray) (w : World) (hs : s.size ≤ 140737488355328) (h : s.size = 0 ∨ ∃ h0 : 0 < s.size, s.size < 1 + (wdt s[0] + 1) / 2) :
    Calls Try.prog 103 #[.string s] w fun e w' => e = .returned (.tuple #[.agg #[.int .i64 0, .slice none 0 0], .string ⟨#[]⟩, .bool false]) ∧ Below w.heap.size w w' := by
  have hb0 : Below w.heap.size w (w.alloc (.cells #[.int .i64 0, .slice none 0 0] 26)) := (Below.refl _ _).alloc (Nat.le_refl _) _
  rcases h with h | ⟨h0, h⟩
  · have he := size_zero h
    subst he
    go_enter Try.func103, Try.ntmps103
    go_wp2_with fail
    refine bodyPost_ret (v := .tuple #[.agg #[.int .i64 0, .slice none 0 0], .string ⟨#[]⟩, .bool false]) (by simp [results, Try.results103, go_sem]) rfl ⟨rfl, hb0⟩
  · have hE := str_nonempty h0
    obtain ⟨b, hb⟩ : ∃ b, s[0] = b := ⟨_, rfl⟩
    obtain ⟨v, hv⟩ : ∃ v, b.toNat = v := ⟨_, rfl⟩
    have hb2 : v < 256 := by rw [← hv]; exact UInt8.toNat_lt _
    unfold wdt at h
    rw [hb, hv] at h
    have u1 : IntKind.u8.wrap ((v : Int) / 16) = (v : Int) / 16 := wrapB (by omega)
    have u2 : IntKind.u8.wrap ((v : Int) % 16) = (v : Int) % 16 := wrapB (by omega)
    have u3 : IntKind.i64.wrap ((v : Int) / 16) = (v : Int) / 16 := wrapI (by omega)
    have u4 : IntKind.i64.wrap ((v : Int) % 16) = (v : Int) % 16 := wrapI (by omega)
    have u5 : IntKind.i64.wrap ((v : Int) / 16 + 1) = (v : Int) / 16 + 1 := wrapI (by omega)
    have u6 : IntKind.i64.wrap ((v : Int) % 16 + 1) = (v : Int) % 16 + 1 := wrapI (by omega)
    have hi : (0 : Int) < (s.size : Int) := by omega
    have hlt : (s.size : Int) < ((v : Int) % 16 + 1 + 1) / 2 + 1 := by omega
    have u7 : IntKind.i64.wrap ((v : Int) % 16 + 1 + 1) = (v : Int) % 16 + 1 + 1 := wrapI (by omega)
    have u8 : IntKind.i64.wrap (((v : Int) % 16 + 1 + 1) / 2) = ((v : Int) % 16 + 1 + 1) / 2 := wrapI (by omega)
    have u9 : IntKind.i64.wrap (((v : Int) % 16 + 1 + 1) / 2 + 1) = ((v : Int) % 16 + 1 + 1) / 2 + 1 := wrapI (by omega)
    go_enter Try.func103, Try.ntmps103
    go_wp2_with fail
    refine bodyPost_ret (v := .tuple #[.agg #[.int .i64 0, .slice none 0 0], .string ⟨#[]⟩, .bool false]) (by simp [results, Try.results103, go_sem]) rfl ⟨rfl, ?_⟩
    exact (hb0.alloc (by simp) _)
set_option maxRecDepth 100000 in
set_option maxHeartbeats 3200000 in
theorem l27Register_ok (s : ByteArray) (w : World) (hs : s.size ≤ 140737488355328) (h0 : 0 < s.size) (h : 1 + (wdt s[0] + 1) / 2 ≤ s.size) :
    Calls Try.prog 103 #[.string s] w fun e w' => ∃ A' c' r, e = .returned (.tuple #[.agg #[.int .i64 (bas s[0] : Int), .slice A' (wdt s[0]) c'], .string r, .bool (fineL ((strB s).drop 1) (wdt s[0]))]) ∧ strB r = (strB s).drop (1 + (wdt s[0] + 1) / 2) ∧ OwnI w' w.heap.size (.slice A' (wdt s[0]) c') (digL ((strB s).drop 1) (wdt s[0])) ∧ Below w.heap.size w w' := by
  have hb0 : Below w.heap.size w (w.alloc (.cells #[.int .i64 0, .slice none 0 0] 26)) := (Below.refl _ _).alloc (Nat.le_refl _) _
  have hE := str_nonempty h0
  obtain ⟨b, hb⟩ : ∃ b, s[0] = b := ⟨_, rfl⟩
  obtain ⟨v, hv⟩ : ∃ v, b.toNat = v := ⟨_, rfl⟩
  have hb2 : v < 256 := by rw [← hv]; exact UInt8.toNat_lt _
  have HBA := Lib.hid (show (bas b : Int) = (v : Int) / 16 + 1 by unfold bas; rw [hv]; omega)
  have HWD := Lib.hid (show (wdt b : Int) = (v : Int) % 16 + 1 by unfold wdt; rw [hv]; omega)
  have HWN := Lib.hid (show wdt b = v % 16 + 1 by unfold wdt; rw [hv])
  rw [hb] at h ⊢
  have u1 : IntKind.u8.wrap ((v : Int) / 16) = (v : Int) / 16 := wrapB (by omega)
  have u2 : IntKind.u8.wrap ((v : Int) % 16) = (v : Int) % 16 := wrapB (by omega)
  have u3 : IntKind.i64.wrap ((v : Int) / 16) = (v : Int) / 16 := wrapI (by omega)
  have u4 : IntKind.i64.wrap ((v : Int) % 16) = (v : Int) % 16 := wrapI (by omega)
  have u5 : IntKind.i64.wrap ((v : Int) / 16 + 1) = (v : Int) / 16 + 1 := wrapI (by omega)
  have u6 : IntKind.i64.wrap ((v : Int) % 16 + 1) = (v : Int) % 16 + 1 := wrapI (by omega)
  have hi : (0 : Int) < (s.size : Int) := by omega
  obtain ⟨wd, hwd⟩ : ∃ wd : Nat, (v : Int) % 16 + 1 = (wd : Int) := ⟨v % 16 + 1, by omega⟩
  have HWE := Lib.hid (show wdt b = wd by have := HWN.out; omega)
  have hwd16 : wd ≤ 16 := by omega
  have hwd1 : 1 ≤ wd := by omega
  have hlen : 1 + (wd + 1) / 2 ≤ s.size := by have := HWE.out; rw [this] at h; exact h
  clear h
  rw [HWE.out]
  obtain ⟨bs, hbs⟩ : ∃ bs, (v : Int) / 16 + 1 = bs := ⟨_, rfl⟩
  have HBE := Lib.hid (show (bas b : Int) = bs by rw [HBA.out]; exact hbs)
  rw [HBE.out]
  rw [hbs] at u5
  have HSL := Lib.hid (strB_len s)
  obtain ⟨tl, htl⟩ : ∃ tl, tl = (strB s).drop 1 := ⟨_, rfl⟩
  have HTL := Lib.hid htl
  rw [← htl]
  clear htl
  have hnlt : ¬ (s.size : Int) < ((wd : Int) + 1) / 2 + 1 := by omega
  have x1 : IntKind.i64.wrap ((wd : Int) + 1) = (wd : Int) + 1 := wrapI (by omega)
  have x2 : IntKind.i64.wrap (((wd : Int) + 1) / 2) = ((wd : Int) + 1) / 2 := wrapI (by omega)
  have x3 : IntKind.i64.wrap (((wd : Int) + 1) / 2 + 1) = ((wd : Int) + 1) / 2 + 1 := wrapI (by omega)
  rw [hwd] at u6
  go_enter Try.func103, Try.ntmps103
  go_wp2_with fail
  go_loopw [8] (fun kk wr => ∃ (k : Nat) (x : Value), k ≤ wd ∧ kk = .int .i64 k ∧ SumAt wr (w.heap.size + 1) bs x (digL tl k) ∧ Below (w.heap.size + 1) (w.alloc (.cells #[.int .i64 0, .slice none 0 0] 26)) wr) (fun kk _ => wd - (intOf kk).toNat)
  case atStart =>
    refine ⟨0, .slice none 0 0, Nat.zero_le _, rfl, ⟨?_, OwnI.nil _ _⟩, ?_⟩
    · first
        | exact heap_alloc_new _ _
        | (show ((w.alloc (.cells #[.int .i64 0, .slice none 0 0] 26)).alloc (.cells #[.int .i64 bs, .slice none 0 0] 26)).heap[w.heap.size + 1]? = _
           rw [show w.heap.size + 1 = (w.alloc (.cells #[.int .i64 0, .slice none 0 0] 26)).heap.size by simp]
           exact heap_alloc_new _ _)
    · exact ((Below.refl _ _).alloc (by simp) _)
  case round =>
    obtain ⟨k, x, hk, rfl, hS, hbr⟩ := hrel
    have HS := Lib.hid hS
    have HBR := Lib.hid hbr
    obtain ⟨s1, s2, s3⟩ := hS.cells
    have hGl := hS.lt
    have hO := Lib.hid hS.2
    clear hS hbr
    by_cases hkn : k < wd
    · have hk1 : (k : Int) < (wd : Int) := by omega
      have hix : 1 + k / 2 < s.size := by omega
      obtain ⟨q, hq⟩ : ∃ q : UInt8, s[1 + k / 2] = q := ⟨_, rfl⟩
      obtain ⟨z, hz⟩ : ∃ z : Nat, q.toNat = z := ⟨_, rfl⟩
      have hz2 : z < 256 := by rw [← hz]; exact UInt8.toNat_lt _
      have hxi : (1 : Int) + (k : Int) / 2 < (s.size : Int) := by omega
      have hxn : ((1 : Int) + (k : Int) / 2).toNat = 1 + k / 2 := by omega
      have HDK : Hid (digK tl k = if k % 2 = 0 then ((z / 16 : Nat) : Int) else ((z % 16 : Nat) : Int)) := by
        simp only [Hid, digK]
        rw [show (tl.getD (k / 2) 0).toNat = z by
          rw [HTL.out, ← hz, ← hq, strB_get s hix]
          rw [List.getD, List.getElem?_drop, List.getElem?_eq_getElem (show 1 + k / 2 < (strB s).length by rw [HSL.out]; exact hix)]; rfl]
      rcases Nat.mod_two_eq_zero_or_one k with hm | hm
      · have hme : ((k : Int) % 2 == 0) = true := by rw [beq_iff_eq]; omega
        have hme2 : (k : Int) % 2 = 0 := by omega
        have hzz : (z : Int) / 16 % 16 = (z : Int) / 16 := by omega
        have HY : Hid (digK tl k = (z : Int) / 16) := by simp only [Hid]; rw [HDK.out, if_pos hm]; omega
        have hdl := digL_len tl k
        have HOB := Lib.hid (hO.out.below ((Below.refl wr.heap.size wr).alloc (Nat.le_refl _) (.cells #[.int .i64 ((z : Int) / 16)] 2)))
        go_wp2_with (at_builtin; refine app1I rfl _ _ rfl (w.heap.size + 1 + 1) _ (digL tl k) rfl HOB.out wr.heap.size ((z : Int) / 16) rfl (heap_alloc_new _ _) (by omega) (by simp; omega) ?_; intro v5 w6 hown5 hg5 hv5; obtain ⟨A5, c5, rfl, -⟩ := OwnI.reads hown5; obtain ⟨t1, t2, t3, t4⟩ := SumAt.far HS.out hg5)
        obtain ⟨hS3, hB3⟩ := SumAt.step (x := ((z : Int) / 16)) HS.out hg5 (by have h := hown5; unfold OwnI at h; rw [List.length_append, List.map_append] at h; exact h)
        rw [show (digL tl k).length + [((z : Int) / 16)].length = k + 1 by rw [hdl]; rfl] at hS3 hB3
        have HS3 := Lib.hid (show SumAt _ (w.heap.size + 1) bs _ (digL tl (k + 1)) by rw [digL_succ, HY.out]; exact hS3)
        have HB3 := Lib.hid (HBR.out.trans (hB3 _ (Nat.le_refl _)))
        clear hS3 hB3 hown5 hg5 hv5 t1 t2 t3 t4
        go_roundw
        case rel => exact ⟨k + 1, _, by omega, by go_num, HS3.out, HB3.out⟩
        case measure => simp [intOf]; omega
      · have hme : ((k : Int) % 2 == 0) = false := by rw [beq_eq_false_iff_ne]; omega
        have hme2 : ¬ (k : Int) % 2 = 0 := by omega
        have HY : Hid (digK tl k = (z : Int) % 16) := by simp only [Hid]; rw [HDK.out, if_neg (by omega)]; omega
        have hdl := digL_len tl k
        have HOB := Lib.hid (hO.out.below ((Below.refl wr.heap.size wr).alloc (Nat.le_refl _) (.cells #[.int .i64 ((z : Int) % 16)] 2)))
        go_wp2_with (at_builtin; refine app1I rfl _ _ rfl (w.heap.size + 1 + 1) _ (digL tl k) rfl HOB.out wr.heap.size ((z : Int) % 16) rfl (heap_alloc_new _ _) (by omega) (by simp; omega) ?_; intro v5 w6 hown5 hg5 hv5; obtain ⟨A5, c5, rfl, -⟩ := OwnI.reads hown5; obtain ⟨t1, t2, t3, t4⟩ := SumAt.far HS.out hg5)
        obtain ⟨hS3, hB3⟩ := SumAt.step (x := ((z : Int) % 16)) HS.out hg5 (by have h := hown5; unfold OwnI at h; rw [List.length_append, List.map_append] at h; exact h)
        rw [show (digL tl k).length + [((z : Int) % 16)].length = k + 1 by rw [hdl]; rfl] at hS3 hB3
        have HS3 := Lib.hid (show SumAt _ (w.heap.size + 1) bs _ (digL tl (k + 1)) by rw [digL_succ, HY.out]; exact hS3)
        have HB3 := Lib.hid (HBR.out.trans (hB3 _ (Nat.le_refl _)))
        clear hS3 hB3 hown5 hg5 hv5 t1 t2 t3 t4
        go_roundw
        case rel => exact ⟨k + 1, _, by omega, by go_num, HS3.out, HB3.out⟩
        case measure => simp [intOf]; omega
    · have HK : Hid (k = wd) := by simp only [Hid]; omega
      have q0 : wr.cell? ⟨w.heap.size, 0, none⟩ = some (.int .i64 0) := by rw [HBR.out.cell (by simp)]; go_simp
      have q1 : wr.cell? ⟨w.heap.size, 1, none⟩ = some (.slice none 0 0) := by rw [HBR.out.cell (by simp)]; go_simp
      have q2 : wr.frozen? ⟨w.heap.size, 0, none⟩ = false := by rw [HBR.out.frozen (by simp)]; go_simp
      have q3 : wr.frozen? ⟨w.heap.size, 1, none⟩ = false := by rw [HBR.out.frozen (by simp)]; go_simp
      obtain ⟨A', c', e, -, -⟩ := hO.out.reads
      subst e
      rw [digL_len, HK.out] at s2
      have hO2 := hO.out
      rw [digL_len, HK.out] at hO2
      have HO2 := Lib.hid hO2
      clear hO2 HS hO
      have hgl1 : w.heap.size + 1 ≠ w.heap.size := by omega
      have x4 : ((wd : Int) + 1) / 2 + 1 ≤ (s.size : Int) := by omega
      have hfin : fineL tl wd = (wd % 2 == 0 || (tl.getD ((wd + 1) / 2 - 1) 0).toNat % 16 == 0) := rfl
      have hix : (wd + 1) / 2 < s.size := by omega
      obtain ⟨q, hq⟩ : ∃ q : UInt8, s[(wd + 1) / 2] = q := ⟨_, rfl⟩
      obtain ⟨z, hz⟩ : ∃ z : Nat, q.toNat = z := ⟨_, rfl⟩
      have hz2 : z < 256 := by rw [← hz]; exact UInt8.toNat_lt _
      have htg : (tl.getD ((wd + 1) / 2 - 1) 0).toNat = z := by
        rw [HTL.out, ← hz, ← hq, strB_get s hix]
        rw [List.getD, List.getElem?_drop, show 1 + ((wd + 1) / 2 - 1) = (wd + 1) / 2 by omega, List.getElem?_eq_getElem (show (wd + 1) / 2 < (strB s).length by rw [HSL.out]; exact hix)]; rfl
      rw [htg] at hfin
      have HFN := Lib.hid hfin
      clear hfin htg
      have hxi : ((wd : Int) + 1) / 2 < (s.size : Int) := by omega
      have hxj : (0 : Int) ≤ ((wd : Int) + 1) / 2 := by omega
      have hxn : (((wd : Int) + 1) / 2).toNat = (wd + 1) / 2 := by omega
      have hb9 : Below w.heap.size w (((wr.setCell ⟨w.heap.size, 0, none⟩ (.int .i64 bs)).setCell ⟨w.heap.size, 1, none⟩ (.slice A' wd c')).drew) :=
        (((hb0.trans (HBR.out.mono (by omega))).setCell (by show w.heap.size ≤ w.heap.size; omega) _).setCell (by show w.heap.size ≤ w.heap.size; omega) _).drew
      have HB9 := Lib.hid hb9
      clear hb9
      rcases Nat.mod_two_eq_zero_or_one wd with hm | hm
      · have hme2 : (wd : Int) % 2 = 0 := by omega
        have hme : ((wd : Int) % 2 == 0) = true := by rw [beq_iff_eq]; omega
        have HR : Hid (fineL tl wd = true) := by simp only [Hid]; rw [HFN.out]; simp [hm]
        clear hm
        go_wp2_with fail
        go_region
        all_goals
          go_wp2_with fail
          refine bodyPost_ret (v := .tuple #[.agg #[.int .i64 bs, .slice A' wd c'], .string (s.extract ((wd + 1) / 2 + 1) s.size), .bool true]) (by simp [results, Try.results103, go_sem, q0, q1, q2, q3]) rfl ⟨A', c', _, by rw [HR.out], ?_, ?_, HB9.out⟩
          · rw [strB_drop, Nat.add_comm]
          · exact ((((HO2.out.setBelow (by show w.heap.size < w.heap.size + 1 + 1; omega) _).setBelow (by show w.heap.size < w.heap.size + 1 + 1; omega) _)).mono (by omega)).drew
      · have hme2 : ¬ (wd : Int) % 2 = 0 := by omega
        have hme : ((wd : Int) % 2 == 0) = false := by rw [beq_eq_false_iff_ne]; omega
        have HR : Hid (fineL tl wd = ((z : Int) % 16 == 0)) := by
          simp only [Hid]; rw [HFN.out, hm]
          rw [Bool.eq_iff_iff]; simp; omega
        clear hm
        go_wp2_with fail
        go_region
        all_goals
          go_wp2_with fail
          refine bodyPost_ret (v := .tuple #[.agg #[.int .i64 bs, .slice A' wd c'], .string (s.extract ((wd + 1) / 2 + 1) s.size), .bool ((z : Int) % 16 == 0)]) (by simp [results, Try.results103, go_sem, q0, q1, q2, q3]) rfl ⟨A', c', _, by rw [HR.out], ?_, ?_, HB9.out⟩
          · rw [strB_drop, Nat.add_comm]
          · exact ((((HO2.out.setBelow (by show w.heap.size < w.heap.size + 1 + 1; omega) _).setBelow (by show w.heap.size < w.heap.size + 1 + 1; omega) _)).mono (by omega)).drew
end Go.Proofs.Ytkfbfainhmkkdaa

namespace Go.Proofs.Ytkfbfainhmkkdaa
open Go.RowKit Go.Sort
/-- are there enough bytes for a register; the register; what is behind it -/
def tkOk : List UInt8 → Bool
  | [] => false
  | b :: tl => decide ((wdt b + 1) / 2 ≤ tl.length)
def tkReg : List UInt8 → Reg
  | [] => ⟨0, []⟩
  | b :: tl => if (wdt b + 1) / 2 ≤ tl.length then ⟨bas b, digL tl (wdt b)⟩ else ⟨0, []⟩
def tkRest : List UInt8 → List UInt8
  | [] => []
  | b :: tl => if (wdt b + 1) / 2 ≤ tl.length then tl.drop ((wdt b + 1) / 2) else []
/-- an odd register's last half byte is 0 -/
def tkFine : List UInt8 → Bool
  | [] => false
  | b :: tl => decide ((wdt b + 1) / 2 ≤ tl.length) && fineL tl (wdt b)
theorem takeRegister_any (s : ByteArray) (w : World) (hs : s.size ≤ 140737488355328) :
    Calls Try.prog 98 #[.string s] w fun e w' => ∃ A c r, e = .returned (.tuple #[.agg #[.int .i64 (tkReg (strB s)).base, .slice A (tkReg (strB s)).digits.length c], .string r, .bool (tkOk (strB s))]) ∧ strB r = tkRest (strB s) ∧ OwnI w' w.heap.size (.slice A (tkReg (strB s)).digits.length c) (tkReg (strB s)).digits ∧ Below w.heap.size w w' := by
  by_cases h0 : 0 < s.size
  · have hc := strB_cons h0
    obtain ⟨b, hb⟩ : ∃ b, s[0] = b := ⟨_, rfl⟩
    have hl : ((strB s).drop 1).length = s.size - 1 := by rw [List.length_drop, strB_len]
    obtain ⟨tl, htl⟩ : ∃ tl, (strB s).drop 1 = tl := ⟨_, rfl⟩
    rw [htl] at hl
    by_cases h : 1 + (wdt s[0] + 1) / 2 ≤ s.size
    · refine (takeRegister_ok s w hs h0 h).mono ?_
      rintro e w' ⟨A, c, r, rfl, hr, ho, hw⟩
      have hd : strB s = b :: tl := by rw [← hb, ← htl]; exact hc
      have hle : (wdt b + 1) / 2 ≤ tl.length := by rw [← hb]; omega
      have e1 : tkReg (strB s) = ⟨bas b, digL tl (wdt b)⟩ := by rw [hd]; simp only [tkReg]; rw [if_pos hle]
      have e2 : tkRest (strB s) = tl.drop ((wdt b + 1) / 2) := by rw [hd]; simp only [tkRest]; rw [if_pos hle]
      rw [hb, htl] at ho
      rw [hb] at hr
      refine ⟨A, c, r, ?_, ?_, ?_, hw⟩
      · rw [e1, hd]; simp only [digL_len, tkOk, hb, htl, decide_eq_true hle, Bool.true_and, List.drop_succ_cons, List.drop_zero]
      · rw [hr, e2, hd, Nat.add_comm, List.drop_succ_cons]
      · rw [e1]; simp only [digL_len]; exact ho
    · refine (takeRegister_short s w hs (.inr ⟨h0, by omega⟩)).mono ?_
      rintro e w' ⟨rfl, hw⟩
      have hd : strB s = b :: tl := by rw [← hb, ← htl]; exact hc
      have hle : ¬ (wdt b + 1) / 2 ≤ tl.length := by rw [← hb]; omega
      have e1 : tkReg (strB s) = ⟨0, []⟩ := by rw [hd]; simp only [tkReg]; rw [if_neg hle]
      have e2 : tkRest (strB s) = [] := by rw [hd]; simp only [tkRest]; rw [if_neg hle]
      refine ⟨none, 0, ⟨#[]⟩, ?_, ?_, ?_, hw⟩
      · rw [e1, hd]; simp only [tkOk, decide_eq_false hle, Bool.false_and]; rfl
      · rw [e2]; rfl
      · rw [e1]; exact OwnI.nil _ _
  · refine (takeRegister_short s w hs (.inl (by omega))).mono ?_
    rintro e w' ⟨rfl, hw⟩
    have hd : strB s = [] := strB_nil (by omega)
    rw [hd]
    exact ⟨none, 0, ⟨#[]⟩, rfl, rfl, OwnI.nil _ _, hw⟩
theorem l27Register_any (s : ByteArray) (w : World) (hs : s.size ≤ 140737488355328) :
    Calls Try.prog 103 #[.string s] w fun e w' => ∃ A c r, e = .returned (.tuple #[.agg #[.int .i64 (tkReg (strB s)).base, .slice A (tkReg (strB s)).digits.length c], .string r, .bool (tkFine (strB s))]) ∧ strB r = tkRest (strB s) ∧ OwnI w' w.heap.size (.slice A (tkReg (strB s)).digits.length c) (tkReg (strB s)).digits ∧ Below w.heap.size w w' := by
  by_cases h0 : 0 < s.size
  · have hc := strB_cons h0
    obtain ⟨b, hb⟩ : ∃ b, s[0] = b := ⟨_, rfl⟩
    have hl : ((strB s).drop 1).length = s.size - 1 := by rw [List.length_drop, strB_len]
    obtain ⟨tl, htl⟩ : ∃ tl, (strB s).drop 1 = tl := ⟨_, rfl⟩
    rw [htl] at hl
    by_cases h : 1 + (wdt s[0] + 1) / 2 ≤ s.size
    · refine (l27Register_ok s w hs h0 h).mono ?_
      rintro e w' ⟨A, c, r, rfl, hr, ho, hw⟩
      have hd : strB s = b :: tl := by rw [← hb, ← htl]; exact hc
      have hle : (wdt b + 1) / 2 ≤ tl.length := by rw [← hb]; omega
      have e1 : tkReg (strB s) = ⟨bas b, digL tl (wdt b)⟩ := by rw [hd]; simp only [tkReg]; rw [if_pos hle]
      have e2 : tkRest (strB s) = tl.drop ((wdt b + 1) / 2) := by rw [hd]; simp only [tkRest]; rw [if_pos hle]
      rw [hb, htl] at ho
      rw [hb] at hr
      refine ⟨A, c, r, ?_, ?_, ?_, hw⟩
      · rw [e1, hd]; simp only [digL_len, tkFine, hb, htl, decide_eq_true hle, Bool.true_and, List.drop_succ_cons, List.drop_zero]
      · rw [hr, e2, hd, Nat.add_comm, List.drop_succ_cons]
      · rw [e1]; simp only [digL_len]; exact ho
    · refine (l27Register_short s w hs (.inr ⟨h0, by omega⟩)).mono ?_
      rintro e w' ⟨rfl, hw⟩
      have hd : strB s = b :: tl := by rw [← hb, ← htl]; exact hc
      have hle : ¬ (wdt b + 1) / 2 ≤ tl.length := by rw [← hb]; omega
      have e1 : tkReg (strB s) = ⟨0, []⟩ := by rw [hd]; simp only [tkReg]; rw [if_neg hle]
      have e2 : tkRest (strB s) = [] := by rw [hd]; simp only [tkRest]; rw [if_neg hle]
      refine ⟨none, 0, ⟨#[]⟩, ?_, ?_, ?_, hw⟩
      · rw [e1, hd]; simp only [tkFine, decide_eq_false hle, Bool.false_and]; rfl
      · rw [e2]; rfl
      · rw [e1]; exact OwnI.nil _ _
  · refine (l27Register_short s w hs (.inl (by omega))).mono ?_
    rintro e w' ⟨rfl, hw⟩
    have hd : strB s = [] := strB_nil (by omega)
    rw [hd]
    exact ⟨none, 0, ⟨#[]⟩, rfl, rfl, OwnI.nil _ _, hw⟩
/-- what packed digits say -/
theorem toB_byte (b : UInt8) (z : Int) (h : z = b.toNat) : toB z = b := by
  subst h
  unfold toB
  simp
theorem digL_getD (tl : List UInt8) (n k : Nat) : (digL tl n).getD k 0 = if k < n then digK tl k else 0 := by
  unfold digL
  by_cases h : k < n
  · rw [if_pos h]; simp [List.getD, h]
  · rw [if_neg h]; simp [List.getD, List.getElem?_eq_none (show (List.map (digK tl) (List.range n)).length ≤ k by simp; omega)]
theorem regB_digL (b : UInt8) (tl : List UInt8) (hl : tl.length = (wdt b + 1) / 2) (hf : fineL tl (wdt b) = true) : regB (bas b) (digL tl (wdt b)) = b :: tl := by
  have hw : wdt b = b.toNat % 16 + 1 := rfl
  have hb : bas b = b.toNat / 16 + 1 := rfl
  unfold regB
  rw [digL_len]
  congr 1
  · refine toB_byte b _ ?_
    rw [hw, hb]; omega
  · refine List.ext_getElem (by simp [hl]) fun j h1 h2 => ?_
    simp only [List.getElem_map, List.getElem_range]
    refine toB_byte _ _ ?_
    have hj : j < (wdt b + 1) / 2 := by simpa using h1
    have hg : tl.getD j 0 = tl[j] := by simp [List.getD, List.getElem?_eq_getElem h2]
    unfold pairAt
    rw [digL_getD, digL_getD, if_pos (by omega)]
    have d0 : digK tl (j * 2) = ((tl[j].toNat / 16 : Nat) : Int) := by
      unfold digK; rw [if_pos (by omega), show j * 2 / 2 = j by omega, hg]
    have d1 : digK tl (j * 2 + 1) = ((tl[j].toNat % 16 : Nat) : Int) := by
      unfold digK; rw [if_neg (by omega), show (j * 2 + 1) / 2 = j by omega, hg]
    rw [d0, d1]
    by_cases hj2 : j * 2 + 1 < wdt b
    · rw [if_pos hj2]; omega
    · rw [if_neg hj2]
      have hodd : wdt b % 2 = 1 := by omega
      have hje : (wdt b + 1) / 2 - 1 = j := by omega
      unfold fineL at hf
      rw [hje, hg] at hf
      have : tl[j].toNat % 16 = 0 := by
        rcases Bool.or_eq_true _ _ ▸ hf with h | h
        · rw [beq_iff_eq] at h; omega
        · rw [beq_iff_eq] at h; exact h
      omega
/-- what a register's bytes read as, whatever lies behind them -/
theorem tk_regB (base : Int) (ds : List Int) (more : List UInt8) (h : vreg base ds = true) : tkOk (regB base ds ++ more) = true ∧ tkReg (regB base ds ++ more) = ⟨base, ds⟩ ∧ tkRest (regB base ds ++ more) = more ∧ tkFine (regB base ds ++ more) = true := by
  obtain ⟨⟨b1, b2⟩, ⟨n1, n2⟩, hd, -⟩ := vreg_iff.1 h
  obtain ⟨b, hb⟩ : ∃ b, b = toB (16 * (base - 1) + ((ds.length : Int) - 1)) := ⟨_, rfl⟩
  obtain ⟨tl, htl⟩ : ∃ tl, tl = (List.range ((ds.length + 1) / 2)).map (fun j => toB (pairAt ds j)) := ⟨_, rfl⟩
  have hreg : regB base ds = b :: tl := by unfold regB; rw [← hb, ← htl]
  have hbn : b.toNat = (16 * (base - 1) + ((ds.length : Int) - 1)).toNat := by
    rw [hb]; unfold toB; rw [UInt8.toNat_ofNat']; omega
  have hw : wdt b = ds.length := by unfold wdt; omega
  have hbs : (bas b : Int) = base := by unfold bas; omega
  have hlen : tl.length = (ds.length + 1) / 2 := by rw [htl]; simp
  have hle : (wdt b + 1) / 2 ≤ (tl ++ more).length := by rw [hw, List.length_append, hlen]; omega
  have hget : ∀ j, j < (ds.length + 1) / 2 → ((tl ++ more).getD j 0).toNat = (pairAt ds j).toNat ∧ 0 ≤ pairAt ds j ∧ pairAt ds j < 256 := by
    intro j hj
    have hp : 0 ≤ pairAt ds j ∧ pairAt ds j < 256 := by
      unfold pairAt
      have q : ∀ k, 0 ≤ ds.getD k 0 ∧ ds.getD k 0 < 16 := by
        intro k
        by_cases hk : k < ds.length
        · have := hd _ (List.getElem_mem hk)
          rw [show ds.getD k 0 = ds[k] by simp [List.getD, List.getElem?_eq_getElem hk]]; omega
        · rw [show ds.getD k 0 = 0 by simp [List.getD, List.getElem?_eq_none (show ds.length ≤ k by omega)]]; omega
      have := q (j * 2); have := q (j * 2 + 1); omega
    refine ⟨?_, hp⟩
    have hjl : j < tl.length := by omega
    rw [show (tl ++ more).getD j 0 = tl[j] by simp [List.getD, List.getElem?_append_left hjl, List.getElem?_eq_getElem hjl]]
    simp only [htl, List.getElem_map, List.getElem_range]
    unfold toB; rw [UInt8.toNat_ofNat']; omega
  have hdig : digL (tl ++ more) (wdt b) = ds := by
    rw [hw]
    refine List.ext_getElem (by simp [digL]) fun k h1 h2 => ?_
    simp only [digL, List.getElem_map, List.getElem_range]
    obtain ⟨g1, g2, g3⟩ := hget (k / 2) (by omega)
    have hdk := hd _ (List.getElem_mem h2)
    have hk0 : ds.getD k 0 = ds[k] := by simp [List.getD, List.getElem?_eq_getElem h2]
    unfold digK
    rw [g1]
    unfold pairAt at g2 g3 ⊢
    rcases Nat.mod_two_eq_zero_or_one k with hm | hm
    · rw [if_pos hm]
      rw [show k / 2 * 2 = k by omega, hk0] at g2 g3 ⊢
      have hn : 0 ≤ ds.getD (k + 1) 0 ∧ ds.getD (k + 1) 0 < 16 := by
        by_cases hk : k + 1 < ds.length
        · have := hd _ (List.getElem_mem hk)
          rw [show ds.getD (k + 1) 0 = ds[k + 1] by simp [List.getD, List.getElem?_eq_getElem hk]]; omega
        · rw [show ds.getD (k + 1) 0 = 0 by simp [List.getD, List.getElem?_eq_none (show ds.length ≤ k + 1 by omega)]]; omega
      omega
    · rw [if_neg (by omega)]
      rw [show k / 2 * 2 + 1 = k by omega, hk0] at g2 g3 ⊢
      omega
  have hfine : fineL (tl ++ more) (wdt b) = true := by
    unfold fineL
    rw [hw]
    rcases Nat.mod_two_eq_zero_or_one ds.length with hm | hm
    · simp [hm]
    · obtain ⟨g1, g2, g3⟩ := hget ((ds.length + 1) / 2 - 1) (by omega)
      rw [g1]
      have : ds.getD (((ds.length + 1) / 2 - 1) * 2 + 1) 0 = 0 := by simp [List.getD, List.getElem?_eq_none (show ds.length ≤ ((ds.length + 1) / 2 - 1) * 2 + 1 by omega)]
      have h2 : (pairAt ds ((ds.length + 1) / 2 - 1)).toNat % 16 = 0 := by
        unfold pairAt at g2 g3 ⊢
        rw [this] at g2 g3 ⊢
        omega
      rw [h2]; simp
  rw [hreg, List.cons_append]
  refine ⟨?_, ?_, ?_, ?_⟩
  · simp only [tkOk]; exact decide_eq_true hle
  · simp only [tkReg]; rw [if_pos hle, hbs, hdig]
  · simp only [tkRest]; rw [if_pos hle, hw, ← hlen]; simp
  · simp only [tkFine]; rw [decide_eq_true hle, hfine]; rfl
end Go.Proofs.Ytkfbfainhmkkdaa

namespace Go.Proofs.Ytkfbfainhmkkdaa
open Go.RowKit Go.Sort
/-- the register of bytes -/
def unpR : List UInt8 → Option Reg
  | [] => none
  | b :: tl => if tkOk tl && (tkReg tl).ok && decide (packR (tkReg tl).base (tkReg tl).digits = b :: tl) then some (tkReg tl) else none
def unpReg (bs : List UInt8) : Reg := (unpR bs).getD ⟨0, []⟩
def unpCode (bs : List UInt8) : Int := if (unpR bs).isSome then 0 else 8
theorem unp_none {bs : List UInt8} (h : unpR bs = none) : unpReg bs = ⟨0, []⟩ ∧ unpCode bs = 8 := by simp [unpReg, unpCode, h]
theorem unp_some {bs : List UInt8} {r : Reg} (h : unpR bs = some r) : unpReg bs = r ∧ unpCode bs = 0 := by simp [unpReg, unpCode, h]
theorem tk_not {bs : List UInt8} (h : tkOk bs = false) : tkReg bs = ⟨0, []⟩ := by
  cases bs with
  | nil => rfl
  | cons b tl => simp only [tkOk, decide_eq_false_iff_not] at h; simp only [tkReg]; rw [if_neg h]
theorem tkReg_len (bs : List UInt8) : (tkReg bs).digits.length ≤ 16 := by
  cases bs with
  | nil => simp [tkReg]
  | cons b tl =>
    simp only [tkReg]
    split
    · simp only [digL_len]; unfold wdt; omega
    · simp
set_option maxRecDepth 100000 in
set_option maxHeartbeats 1600000 in
theorem UnpackRegister_any (s : ByteArray) (w : World) (hs : s.size ≤ 1048576) :
    Calls Try.prog 34 #[.string s] w fun e w' => ∃ A c, e = .returned (.tuple #[.agg #[.int .i64 (unpReg (strB s)).base, .slice A (unpReg (strB s)).digits.length c], .int .i64 (unpCode (strB s))]) ∧
      OwnI w' w.heap.size (.slice A (unpReg (strB s)).digits.length c) (unpReg (strB s)).digits ∧ Below w.heap.size w w' := by
  by_cases h0 : 0 < s.size
  · have hE := str_nonempty h0
    have hc := strB_cons h0
    obtain ⟨b, hb⟩ : ∃ b, s[0] = b := ⟨_, rfl⟩
    obtain ⟨tl, htl⟩ : ∃ tl, (strB s).drop 1 = tl := ⟨_, rfl⟩
    rw [hb, htl] at hc
    have KT := fun W => takeRegister_any (s.extract 1 s.size) W (by rw [extract_size]; omega)
    rw [strB_tail, htl] at KT
    have HC := Lib.hid hc
    obtain ⟨R, hR⟩ : ∃ R, tkReg tl = R := ⟨_, rfl⟩
    have hlen := tkReg_len tl
    rw [hR] at KT hlen
    have HR := Lib.hid hR
    have KT := Lib.hid KT
    have hi1 : (1 : Int) ≤ (s.size : Int) := by omega
    clear hc hR hb htl
    go_enter Try.func34, Try.ntmps34
    go_wp2_with fail
    refine Calls.kn ((Kn.nil w).al [.int .i64 0, .slice none 0 0] 26) ?_; intro w1 hK1
    refine (KT.out w1).mono ?_; rintro e w2 ⟨A, c, r, rfl, hr, ho, hw⟩
    have hK2 := hK1.addI hw ho
    clear hK1 hr hw
    obtain ⟨c1, f1, l1, -⟩ := hK2.cells
    have hri := ho.ri
    have HRI := Lib.hid hri
    clear ho hri
    go_wp2_with fail
    refine Calls.kn (hK2.al [.int .i64 R.base, .slice A R.digits.length c] 26) ?_; intro w3 hK3
    have hRI3 := hK3.drop.ownI.ri
    rcases hok : R.ok with _ | _
    · have HU : Hid (unpReg (strB s) = ⟨0, []⟩ ∧ unpCode (strB s) = 8) := by
        refine unp_none ?_
        rw [HC.out]; simp only [unpR]; rw [HR.out, hok]; simp
      have KP := Lib.hid (PackRegister_false R.base A R.digits.length c R.digits w3 hRI3 (by omega) hok)
      clear hRI3 hok
      refine KP.out.mono ?_; rintro e w4 ⟨rfl, hw⟩
      have hK4 := hK3.keep hw
      obtain ⟨c2, f2, l2, c1, f1, l1, -⟩ := hK4.cells
      clear hw hK3
      rcases htk : tkOk tl with _ | _
      all_goals
        go_wp2_with fail
        refine bodyPost_ret (v := .tuple #[.agg #[.int .i64 0, .slice none 0 0], .int .i64 8]) (by simp [results, Try.results34, go_sem, c1, f1]) rfl ⟨none, 0, by rw [HU.out.1, HU.out.2]; rfl, by rw [HU.out.1]; exact OwnI.nil _ _, ?_⟩
        exact ((hK4.sw2.st 0 _).st 1 _).below
    · have htk : tkOk tl = true := by
        rcases h : tkOk tl with _ | _
        · have := tk_not h; rw [HR.out] at this; rw [this] at hok; cases hok
        · rfl
      have KP := Lib.hid (PackRegister_true R.base A R.digits.length c R.digits w3 hRI3 hok)
      have HOK := Lib.hid hok
      clear hRI3 hok
      refine KP.out.mono ?_; rintro e w4 ⟨rfl, hw⟩
      have hK4 := hK3.keep hw
      obtain ⟨c2, f2, l2, c1, f1, l1, -⟩ := hK4.cells
      clear hw hK3
      rcases hq : (packR R.base R.digits == s.toList) with _ | _
      · have HU : Hid (unpReg (strB s) = ⟨0, []⟩ ∧ unpCode (strB s) = 8) := by
          refine unp_none ?_
          have h2 : ¬ packR R.base R.digits = b :: tl := fun h => by rw [strB_toList, HC.out, h] at hq; simp at hq
          rw [HC.out]; simp only [unpR]; rw [htk, HR.out, HOK.out]; simp [h2]
        go_wp2_with fail
        refine bodyPost_ret (v := .tuple #[.agg #[.int .i64 0, .slice none 0 0], .int .i64 8]) (by simp [results, Try.results34, go_sem, c1, f1]) rfl ⟨none, 0, by rw [HU.out.1, HU.out.2]; rfl, by rw [HU.out.1]; exact OwnI.nil _ _, ?_⟩
        exact ((hK4.sw2.st 0 _).st 1 _).below
      · have HU : Hid (unpReg (strB s) = R ∧ unpCode (strB s) = 0) := by
          refine unp_some ?_
          have h2 : packR R.base R.digits = b :: tl := by rw [strB_toList, HC.out] at hq; exact eq_of_beq hq
          rw [HC.out]
          simp only [unpR]; rw [htk, HR.out, HOK.out, h2]; simp
        go_wp2_with fail
        have hK5 := (hK4.sw2.st 0 (.int .i64 R.base)).st 1 (.slice A R.digits.length c)
        refine bodyPost_ret (v := .tuple #[.agg #[.int .i64 R.base, .slice A R.digits.length c], .int .i64 0]) (by simp [results, Try.results34, go_sem, c1, f1]) rfl ⟨A, c, by rw [HU.out.1, HU.out.2], by rw [HU.out.1]; exact hK5.sw2.ownI, hK5.below⟩
  · obtain rfl := size_zero (show s.size = 0 by omega)
    have HU := Lib.hid (unp_none (bs := strB ⟨#[]⟩) rfl)
    go_enter Try.func34, Try.ntmps34
    go_wp2_with fail
    have hK := (Kn.nil w).al [.int .i64 0, .slice none 0 0] 26
    have c1 : True := trivial
    have f1 : True := trivial
    refine bodyPost_ret (v := .tuple #[.agg #[.int .i64 0, .slice none 0 0], .int .i64 8]) (by simp [results, Try.results34, go_sem, c1, f1]) rfl ⟨none, 0, by rw [HU.out.1, HU.out.2]; rfl, by rw [HU.out.1]; exact OwnI.nil _ _, ?_⟩
    exact hK.below
end Go.Proofs.Ytkfbfainhmkkdaa

namespace Go.Proofs.Ytkfbfainhmkkdaa
open Go.RowKit Go.Sort
/-- bytes of a kind with their checksum behind them; what lies between -/
def bodyOk (k : UInt8) (bs : List UInt8) : Bool := decide (3 ≤ bs.length) && (bs.getD 0 0 == k) && decide (sumB (bs.take (bs.length - 2)) = 256 * ((bs.getD (bs.length - 2) 0).toNat : Int) + ((bs.getD (bs.length - 1) 0).toNat : Int))
def bodyB (k : UInt8) (bs : List UInt8) : List UInt8 := if bodyOk k bs then (bs.drop 1).take (bs.length - 3) else []
set_option maxRecDepth 100000 in
set_option maxHeartbeats 1600000 in
theorem l27Body_any (s : ByteArray) (kd : UInt8) (w : World) (hs : s.size ≤ 1048576) :
    Calls Try.prog 102 #[.string s, .int .u8 (kd.toNat : Int)] w fun e w' => ∃ r, e = .returned (.tuple #[.string r, .bool (bodyOk kd (strB s))]) ∧ strB r = bodyB kd (strB s) ∧ Below w.heap.size w w' := by
  have HL := Lib.hid (strB_len s)
  by_cases h3 : 3 ≤ s.size
  · obtain ⟨q0, hq0⟩ : ∃ q : UInt8, s[0] = q := ⟨_, rfl⟩
    have g0 : (strB s).getD 0 0 = q0 := by rw [strB_getD s (by omega), hq0]
    have h30 : decide ((s.size : Int) < 3) = false := decide_eq_false (by omega)
    have i0 : (0 : Int) < (s.size : Int) := by omega
    rcases hk : (q0 == kd) with _ | _
    · have hkv : ((q0.toNat : Int) == (kd.toNat : Int)) = false := by
        rw [beq_eq_false_iff_ne] at hk ⊢
        intro h; exact hk (UInt8.toNat_inj.1 (by omega))
      have hkn : ¬ (q0.toNat : Int) = (kd.toNat : Int) := by rw [beq_eq_false_iff_ne] at hkv; exact hkv
      have hkm : ((q0.toNat : Int) != (kd.toNat : Int)) = true := by simp [bne, hkv]
      have HF : Hid (bodyOk kd (strB s) = false) := by simp only [Hid, bodyOk]; rw [g0, hk]; simp
      clear hk
      go_enter Try.func102, Try.ntmps102
      go_wp2_with fail
      go_quiet (fail)
      go_wp2_with fail
      refine bodyPost_ret (v := .tuple #[.string ⟨#[]⟩, .bool false]) (by simp [results, Try.results102, go_sem]) rfl ⟨⟨#[]⟩, by rw [HF.out], by rw [bodyB, HF.out]; rfl, below_drewN (Below.refl _ _) _⟩
    · obtain rfl : q0 = kd := eq_of_beq hk
      obtain ⟨a, ha⟩ : ∃ q : UInt8, s[s.size - 2] = q := ⟨_, rfl⟩
      obtain ⟨b, hb⟩ : ∃ q : UInt8, s[s.size - 1] = q := ⟨_, rfl⟩
      have ga : (strB s).getD (s.size - 2) 0 = a := by rw [strB_getD s (by omega), ha]
      have gb : (strB s).getD (s.size - 1) 0 = b := by rw [strB_getD s (by omega), hb]
      have a2 := a.toNat_lt
      have b2 := b.toNat_lt
      have x1 : IntKind.i64.wrap ((s.size : Int) - 2) = (s.size : Int) - 2 := wrapI (by omega)
      have x2 : IntKind.i64.wrap ((s.size : Int) - 1) = (s.size : Int) - 1 := wrapI (by omega)
      have n1 : ((s.size : Int) - 2).toNat = s.size - 2 := by omega
      have n2 : ((s.size : Int) - 1).toNat = s.size - 1 := by omega
      have i1 : (0 : Int) ≤ (s.size : Int) - 2 := by omega
      have i2 : (s.size : Int) - 2 < (s.size : Int) := by omega
      have i3 : (0 : Int) ≤ (s.size : Int) - 1 := by omega
      have i4 : (s.size : Int) - 1 < (s.size : Int) := by omega
      have i5 : (s.size : Int) - 2 ≤ (s.size : Int) := by omega
      have i6 : (1 : Int) ≤ (s.size : Int) - 2 := by omega
      obtain ⟨sm, hsm⟩ : ∃ sm, sumB ((strB s).take (s.size - 2)) = sm := ⟨_, rfl⟩
      have HE : Hid (bodyOk q0 (strB s) = decide (sm = 256 * (a.toNat : Int) + (b.toNat : Int))) := by
        simp only [Hid, bodyOk]; rw [HL.out, g0, ga, gb, hsm]; simp; omega
      have KS := fun W => l27Sum_any (s.extract 0 (s.size - 2)) W (by simp [ByteArray.size_extract]; omega)
      rw [strB_extract, List.drop_zero, Nat.sub_zero, hsm] at KS
      have KS := Lib.hid KS
      clear hk g0 ga gb hsm
      rcases hq : (sm == 256 * (a.toNat : Int) + (b.toNat : Int)) with _ | _
      · have hqn : (sm != 256 * (a.toNat : Int) + (b.toNat : Int)) = true := by simp [bne, hq]
        have HF : Hid (bodyOk q0 (strB s) = false) := by simp only [Hid]; rw [HE.out]; simpa using hq
        go_enter Try.func102, Try.ntmps102
        go_wp2_with fail
        go_quiet ((go_at_call 109; exact quiet_left (KS.out _)))
        go_wp2_with fail
        refine bodyPost_ret (v := .tuple #[.string ⟨#[]⟩, .bool false]) (by simp [results, Try.results102, go_sem]) rfl ⟨⟨#[]⟩, by rw [HF.out], by rw [bodyB, HF.out]; rfl, below_drewN (Below.refl _ _) _⟩
      · have hqn : (sm != 256 * (a.toNat : Int) + (b.toNat : Int)) = false := by simp [bne, hq]
        have HF : Hid (bodyOk q0 (strB s) = true) := by simp only [Hid]; rw [HE.out]; simpa using hq
        go_enter Try.func102, Try.ntmps102
        go_wp2_with fail
        go_quiet ((go_at_call 109; exact quiet_left (KS.out _)))
        go_wp2_with fail
        refine bodyPost_ret (v := .tuple #[.string (s.extract 1 (s.size - 2)), .bool true]) (by simp [results, Try.results102, go_sem]) rfl ⟨_, by rw [HF.out], ?_, below_drewN (Below.refl _ _) _⟩
        rw [strB_extract, bodyB, HF.out, HL.out]; simp only [if_true]; congr 1
  · have h30 : (s.size : Int) < 3 := by omega
    have HF : Hid (bodyOk kd (strB s) = false) := by simp only [Hid, bodyOk]; rw [HL.out, decide_eq_false h3]; rfl
    go_enter Try.func102, Try.ntmps102
    go_wp2_with fail
    go_quiet (fail)
    go_wp2_with fail
    refine bodyPost_ret (v := .tuple #[.string ⟨#[]⟩, .bool false]) (by simp [results, Try.results102, go_sem]) rfl ⟨⟨#[]⟩, by rw [HF.out], by rw [bodyB, HF.out]; rfl, below_drewN (Below.refl _ _) _⟩
/-- what a body is -/
theorem body_iff (k : UInt8) (bs : List UInt8) : bodyOk k bs = true ↔ bs = sealB (k :: bodyB k bs) := by
  constructor
  · intro h
    have hB : bodyB k bs = (bs.drop 1).take (bs.length - 3) := by rw [bodyB, h]; rfl
    unfold bodyOk at h
    simp only [Bool.and_eq_true, decide_eq_true_eq, beq_iff_eq] at h
    obtain ⟨⟨h3, h0⟩, hs⟩ := h
    obtain ⟨x, y, rfl⟩ : ∃ (l : List UInt8) (y : UInt8), bs = k :: l ++ [y] := by
      cases bs with
      | nil => simp at h3
      | cons b t =>
        have hbk : b = k := by simpa [List.getD] using h0
        subst hbk
        rcases List.eq_nil_or_concat t with rfl | ⟨l, y, rfl⟩
        · simp at h3
        · exact ⟨l, y, by simp⟩
    obtain ⟨l, z, rfl⟩ : ∃ (l : List UInt8) (z : UInt8), x = l ++ [z] := by
      rcases List.eq_nil_or_concat x with rfl | ⟨l, z, rfl⟩
      · simp at h3
      · exact ⟨l, z, by simp⟩
    have e1 : ((k :: (l ++ [z]) ++ [y]).take ((k :: (l ++ [z]) ++ [y]).length - 2)) = k :: l := by
      rw [show (k :: (l ++ [z]) ++ [y]).length - 2 = (k :: l).length by simp, show k :: (l ++ [z]) ++ [y] = (k :: l) ++ [z, y] by simp, List.take_left]
    have e2 : (k :: (l ++ [z]) ++ [y]).getD ((k :: (l ++ [z]) ++ [y]).length - 2) 0 = z := by
      rw [show (k :: (l ++ [z]) ++ [y]).length - 2 = (k :: l).length by simp, show k :: (l ++ [z]) ++ [y] = (k :: l) ++ [z, y] by simp]
      simp [List.getD, List.getElem?_append_right]
    have e3 : (k :: (l ++ [z]) ++ [y]).getD ((k :: (l ++ [z]) ++ [y]).length - 1) 0 = y := by
      rw [show (k :: (l ++ [z]) ++ [y]).length - 1 = (k :: (l ++ [z])).length by simp]
      simp [List.getD, List.getElem?_append_right]
    rw [e1, e2, e3] at hs
    have hb : bodyB k (k :: (l ++ [z]) ++ [y]) = l := by
      rw [hB]
      rw [show (k :: (l ++ [z]) ++ [y]).length - 3 = l.length by simp, show (k :: (l ++ [z]) ++ [y]).drop 1 = l ++ [z, y] by simp, List.take_left]
    rw [hb]
    unfold sealB
    have z2 := z.toNat_lt
    have y2 := y.toNat_lt
    rw [hs, show ((256 * (z.toNat : Int) + (y.toNat : Int)) / 256).toNat = z.toNat by omega, show ((256 * (z.toNat : Int) + (y.toNat : Int)) % 256).toNat = y.toNat by omega]
    simp
  · intro h
    obtain ⟨l, hl⟩ : ∃ l, bodyB k bs = l := ⟨_, rfl⟩
    rw [hl] at h
    rw [h]
    obtain ⟨s0, s1⟩ := sumB_bd (k :: l)
    unfold bodyOk sealB
    have e1 : ((k :: l) ++ [UInt8.ofNat (sumB (k :: l) / 256).toNat, UInt8.ofNat (sumB (k :: l) % 256).toNat]).length - 2 = (k :: l).length := by simp
    have e2 : ((k :: l) ++ [UInt8.ofNat (sumB (k :: l) / 256).toNat, UInt8.ofNat (sumB (k :: l) % 256).toNat]).length - 1 = (k :: l).length + 1 := by simp
    rw [e1, e2, List.take_left]
    have e3 : ∀ (p q : UInt8), (((k :: l) ++ [p, q]).getD (k :: l).length 0) = p ∧ (((k :: l) ++ [p, q]).getD ((k :: l).length + 1) 0) = q := by
      intro p q
      constructor <;> simp [List.getD, List.getElem?_append_right]
    rw [(e3 _ _).1, (e3 _ _).2, UInt8.toNat_ofNat', UInt8.toNat_ofNat']
    simp only [Bool.and_eq_true, decide_eq_true_eq, beq_iff_eq]
    refine ⟨⟨by simp, by simp [List.getD]⟩, by omega⟩
theorem body_of (k : UInt8) (l : List UInt8) : bodyOk k (sealB (k :: l)) = true ∧ bodyB k (sealB (k :: l)) = l := by
  have hb : (((sealB (k :: l)).drop 1).take ((sealB (k :: l)).length - 3)) = l := by
    unfold sealB
    rw [show ((k :: l) ++ [UInt8.ofNat (sumB (k :: l) / 256).toNat, UInt8.ofNat (sumB (k :: l) % 256).toNat]).length - 3 = l.length by simp]
    rw [List.cons_append, List.drop_succ_cons, List.drop_zero, List.take_left]
  have h1 : bodyOk k (sealB (k :: l)) = true := by
    obtain ⟨s0, s1⟩ := sumB_bd (k :: l)
    unfold bodyOk sealB
    have e1 : ((k :: l) ++ [UInt8.ofNat (sumB (k :: l) / 256).toNat, UInt8.ofNat (sumB (k :: l) % 256).toNat]).length - 2 = (k :: l).length := by simp
    have e2 : ((k :: l) ++ [UInt8.ofNat (sumB (k :: l) / 256).toNat, UInt8.ofNat (sumB (k :: l) % 256).toNat]).length - 1 = (k :: l).length + 1 := by simp
    rw [e1, e2, List.take_left]
    have e3 : ∀ (p q : UInt8), (((k :: l) ++ [p, q]).getD (k :: l).length 0) = p ∧ (((k :: l) ++ [p, q]).getD ((k :: l).length + 1) 0) = q := by
      intro p q
      constructor <;> simp [List.getD, List.getElem?_append_right]
    rw [(e3 _ _).1, (e3 _ _).2, UInt8.toNat_ofNat', UInt8.toNat_ofNat']
    simp only [Bool.and_eq_true, decide_eq_true_eq, beq_iff_eq]
    refine ⟨⟨by simp, by simp [List.getD]⟩, by omega⟩
  exact ⟨h1, by unfold bodyB; rw [h1]; exact hb⟩
end Go.Proofs.Ytkfbfainhmkkdaa

namespace Go.Proofs.Ytkfbfainhmkkdaa
open Go.RowKit Go.Sort
theorem sealB_inj {a b : List UInt8} (h : sealB a = sealB b) : a = b := by
  have hl : a.length = b.length := by have := congrArg List.length h; simpa [sealB] using this
  exact List.append_inj_left h hl
theorem tk_more (bs more : List UInt8) (h : tkOk bs = true) : tkOk (bs ++ more) = true ∧ tkReg (bs ++ more) = tkReg bs ∧ tkRest (bs ++ more) = tkRest bs ++ more := by
  cases bs with
  | nil => cases h
  | cons b tl =>
    have hle : (wdt b + 1) / 2 ≤ tl.length := of_decide_eq_true h
    have hle2 : (wdt b + 1) / 2 ≤ (tl ++ more).length := by rw [List.length_append]; omega
    refine ⟨decide_eq_true hle2, ?_, ?_⟩
    · rw [List.cons_append]; simp only [tkReg]
      rw [if_pos hle, if_pos hle2]
      congr 1
      unfold digL
      refine List.map_congr_left fun k hk => ?_
      have hk : k < wdt b := List.mem_range.1 hk
      have : (tl ++ more).getD (k / 2) 0 = tl.getD (k / 2) 0 := by simp [List.getD, List.getElem?_append_left (show k / 2 < tl.length by omega)]
      unfold digK
      rw [this]
    · rw [List.cons_append]; simp only [tkRest]
      rw [if_pos hle, if_pos hle2, List.drop_append_of_le_length hle]
theorem tkFine_ok {bs : List UInt8} (h : tkFine bs = true) : tkOk bs = true := by
  cases bs with
  | nil => cases h
  | cons b tl => simp only [tkFine, Bool.and_eq_true] at h; exact h.1
/-- the bytes of what is read -/
theorem tk_bytes {bs : List UInt8} (h : tkFine bs = true) : bs = regB (tkReg bs).base (tkReg bs).digits ++ tkRest bs := by
  cases bs with
  | nil => cases h
  | cons b tl =>
    simp only [tkFine, Bool.and_eq_true, decide_eq_true_eq] at h
    obtain ⟨hle, hf⟩ := h
    simp only [tkReg, tkRest]
    rw [if_pos hle, if_pos hle]
    have h2 : fineL (tl.take ((wdt b + 1) / 2)) (wdt b) = true := by
      rw [← hf]; unfold fineL
      congr 3
      have hw : 1 ≤ wdt b := by unfold wdt; omega
      simp [List.getD, List.getElem?_take, show (wdt b + 1) / 2 - 1 < (wdt b + 1) / 2 by omega]
    have h3 := regB_digL b (tl.take ((wdt b + 1) / 2)) (by rw [List.length_take]; omega) h2
    have h4 : digL (tl.take ((wdt b + 1) / 2)) (wdt b) = digL tl (wdt b) := by
      unfold digL
      refine List.map_congr_left fun k hk => ?_
      have hk : k < wdt b := List.mem_range.1 hk
      have : (tl.take ((wdt b + 1) / 2)).getD (k / 2) 0 = tl.getD (k / 2) 0 := by simp [List.getD, List.getElem?_take, show k / 2 < (wdt b + 1) / 2 by omega]
      unfold digK
      rw [this]
    rw [h4] at h3
    rw [h3, List.cons_append, List.take_append_drop]
theorem unpR_spec (bs : List UInt8) : unpR bs = if bodyOk 82 bs && tkFine (bodyB 82 bs) && (tkRest (bodyB 82 bs)).isEmpty && (tkReg (bodyB 82 bs)).ok then some (tkReg (bodyB 82 bs)) else none := by
  by_cases h : (bodyOk 82 bs && tkFine (bodyB 82 bs) && (tkRest (bodyB 82 bs)).isEmpty && (tkReg (bodyB 82 bs)).ok) = true
  · rw [if_pos h]
    simp only [Bool.and_eq_true] at h
    obtain ⟨⟨⟨h1, h2⟩, h3⟩, h4⟩ := h
    obtain ⟨body, hbd⟩ : ∃ b, bodyB 82 bs = b := ⟨_, rfl⟩
    have hb := (body_iff 82 bs).1 h1
    rw [hbd] at hb h2 h3 h4 ⊢
    have h5 := tk_bytes h2
    rw [List.isEmpty_iff.1 h3, List.append_nil] at h5
    have hs : bs = 82 :: (body ++ [UInt8.ofNat (sumB (82 :: body) / 256).toNat, UInt8.ofNat (sumB (82 :: body) % 256).toNat]) := by rw [hb]; rfl
    obtain ⟨m1, m2, -⟩ := tk_more body [UInt8.ofNat (sumB (82 :: body) / 256).toNat, UInt8.ofNat (sumB (82 :: body) % 256).toNat] (tkFine_ok h2)
    have hp : packR (tkReg body).base (tkReg body).digits = bs := by unfold packR; rw [← h5]; exact hb.symm
    rw [hs]
    simp only [unpR]
    rw [m1, m2, h4, ← hs, hp]; simp
  · rw [if_neg h]
    cases bs with
    | nil => rfl
    | cons b tl =>
      simp only [unpR]
      rw [if_neg]
      intro h2
      simp only [Bool.and_eq_true, decide_eq_true_eq] at h2
      obtain ⟨⟨h1, h3⟩, h4⟩ := h2
      apply h
      obtain ⟨R, hR⟩ : ∃ R, tkReg tl = R := ⟨_, rfl⟩
      rw [hR] at h3 h4
      rw [← h4]
      obtain ⟨k1, k2⟩ := body_of 82 (regB R.base R.digits)
      obtain ⟨j1, j2, j3, j4⟩ := tk_regB R.base R.digits [] h3
      rw [List.append_nil] at j1 j2 j3 j4
      unfold packR
      rw [k1, k2, j2, j3, j4]
      simp [show (⟨R.base, R.digits⟩ : Reg).ok = true from h3]
set_option maxRecDepth 100000 in
set_option maxHeartbeats 1600000 in
theorem specUnpackRegister_any (s : ByteArray) (w : World) (hs : s.size ≤ 1048576) :
    Calls Try.prog 41 #[.string s] w fun e w' => ∃ A c, e = .returned (.tuple #[.agg #[.int .i64 (unpReg (strB s)).base, .slice A (unpReg (strB s)).digits.length c], .int .i64 (unpCode (strB s))]) ∧
      OwnI w' w.heap.size (.slice A (unpReg (strB s)).digits.length c) (unpReg (strB s)).digits ∧ Below w.heap.size w w' := by
  have HU := Lib.hid (unpR_spec (strB s))
  have KB := Lib.hid (fun W => l27Body_any s 82 W hs)
  obtain ⟨body, hbd⟩ : ∃ b, bodyB 82 (strB s) = b := ⟨_, rfl⟩
  obtain ⟨ok, hok⟩ : ∃ b, bodyOk 82 (strB s) = b := ⟨_, rfl⟩
  rw [hbd, hok] at HU KB
  have hbl : body.length ≤ 1048576 := by
    rw [← hbd]; unfold bodyB; have := strB_len s
    split
    · rw [List.length_take, List.length_drop]; omega
    · simp
  obtain ⟨R, hR⟩ : ∃ R, tkReg body = R := ⟨_, rfl⟩
  have hlen := tkReg_len body
  obtain ⟨fine, hfine⟩ : ∃ b, tkFine body = b := ⟨_, rfl⟩
  obtain ⟨rest, hrest⟩ : ∃ b, tkRest body = b := ⟨_, rfl⟩
  rw [hR, hfine, hrest] at HU
  rw [hR] at hlen
  have HX := Lib.hid (And.intro hR (And.intro hfine hrest))
  clear hbd hok hR hfine hrest
  go_enter Try.func41, Try.ntmps41
  go_wp2_with fail
  refine Calls.kn ((Kn.nil w).al [.int .i64 0, .slice none 0 0] 26) ?_; intro w1 hK1
  refine (KB.out w1).mono ?_; rintro e w2 ⟨r, rfl, hr, hw⟩
  have hK2 := hK1.keep hw
  have hrs : r.size ≤ 140737488355328 := by rw [← strB_len, hr]; omega
  have KT := fun W => l27Register_any r W hrs
  rw [hr, HX.out.1, HX.out.2.1, HX.out.2.2] at KT
  have KT := Lib.hid KT
  clear hK1 hw
  go_wp2_with fail
  have KT := Lib.hid (fun (Q : Ending → World → Prop) (h : ∀ A c r w3, strB r = rest → OwnI w3 w2.heap.size (.slice A R.digits.length c) R.digits → Below w2.heap.size w2 w3 → Q (.returned (.tuple #[.agg #[.int .i64 R.base, .slice A R.digits.length c], .string r, .bool fine])) w3) => (KT.out w2).mono (R' := Q) (by rintro e w3 ⟨A, c, r, rfl, h1, h2, h3⟩; exact h A c r w3 h1 h2 h3))
  cases ok with
  | false =>
    have HU := Lib.hid (unp_none (bs := strB s) (by rw [HU.out]; rfl))
    refine KT.out _ ?_
    intro A c r2 w3 hr2 ho hw
    have hK3 := hK2.addI hw ho
    have hem2 : r2.toList.isEmpty = rest.isEmpty := by rw [strB_toList, hr2]
    try (rw [hem] at hem2)
    clear hw hr hrs ho hr2 hK2
    go_wp2_with (first | (refine wpList.kn (hK3.al [.int .i64 0, .slice none 0 0] 26) ?_; intro w4 hK4; obtain ⟨c2, f2, l2, -⟩ := hK4.cells) | (refine wpList.kn ((hK4.st 0 _).st 1 _) ?_; intro w5 hK5; clear hK4 c2 f2 l2; obtain ⟨c2, f2, l2, c1, f1, l1, -⟩ := hK5.cells))
    refine bodyPost_ret (v := .tuple #[.agg #[.int .i64 0, .slice none 0 0], .int .i64 8]) (by simp [results, Try.results41, go_sem, c1, f1]) rfl ⟨none, 0, by rw [HU.out.1, HU.out.2]; rfl, by rw [HU.out.1]; exact OwnI.nil _ _, ?_⟩
    exact ((hK5.sw2.st 0 _).st 1 _).below
  | true =>
    cases fine with
    | false =>
      have HU := Lib.hid (unp_none (bs := strB s) (by rw [HU.out]; rfl))
      refine KT.out _ ?_
      intro A c r2 w3 hr2 ho hw
      have hK3 := hK2.addI hw ho
      have hem2 : r2.toList.isEmpty = rest.isEmpty := by rw [strB_toList, hr2]
      try (rw [hem] at hem2)
      clear hw hr hrs ho hr2 hK2
      go_wp2_with (first | (refine wpList.kn (hK3.al [.int .i64 0, .slice none 0 0] 26) ?_; intro w4 hK4; obtain ⟨c2, f2, l2, -⟩ := hK4.cells) | (refine wpList.kn ((hK4.st 0 _).st 1 _) ?_; intro w5 hK5; clear hK4 c2 f2 l2; obtain ⟨c2, f2, l2, c1, f1, l1, -⟩ := hK5.cells))
      refine bodyPost_ret (v := .tuple #[.agg #[.int .i64 0, .slice none 0 0], .int .i64 8]) (by simp [results, Try.results41, go_sem, c1, f1]) rfl ⟨none, 0, by rw [HU.out.1, HU.out.2]; rfl, by rw [HU.out.1]; exact OwnI.nil _ _, ?_⟩
      exact ((hK5.sw2.st 0 _).st 1 _).below
    | true =>
      rcases he : rest.isEmpty with _ | _
      · have HU := Lib.hid (unp_none (bs := strB s) (by rw [HU.out, he]; rfl))
        have hem := he
        clear he
        refine KT.out _ ?_
        intro A c r2 w3 hr2 ho hw
        have hK3 := hK2.addI hw ho
        have hem2 : r2.toList.isEmpty = rest.isEmpty := by rw [strB_toList, hr2]
        try (rw [hem] at hem2)
        clear hw hr hrs ho hr2 hK2
        go_wp2_with (first | (refine wpList.kn (hK3.al [.int .i64 0, .slice none 0 0] 26) ?_; intro w4 hK4; obtain ⟨c2, f2, l2, -⟩ := hK4.cells) | (refine wpList.kn ((hK4.st 0 _).st 1 _) ?_; intro w5 hK5; clear hK4 c2 f2 l2; obtain ⟨c2, f2, l2, c1, f1, l1, -⟩ := hK5.cells))
        refine bodyPost_ret (v := .tuple #[.agg #[.int .i64 0, .slice none 0 0], .int .i64 8]) (by simp [results, Try.results41, go_sem, c1, f1]) rfl ⟨none, 0, by rw [HU.out.1, HU.out.2]; rfl, by rw [HU.out.1]; exact OwnI.nil _ _, ?_⟩
        exact ((hK5.sw2.st 0 _).st 1 _).below
      · have hem := he
        rcases hk : R.ok with _ | _
        · have HU := Lib.hid (unp_none (bs := strB s) (by rw [HU.out, he, hk]; rfl))
          have HK := Lib.hid hk
          clear he hk
          refine KT.out _ ?_
          intro A c r2 w3 hr2 ho hw
          have hK3 := hK2.addI hw ho
          have hem2 : r2.toList.isEmpty = rest.isEmpty := by rw [strB_toList, hr2]
          try (rw [hem] at hem2)
          clear hw hr hrs ho hr2 hK2
          go_wp2_with (first | (refine wpList.kn (hK3.al [.int .i64 0, .slice none 0 0] 26) ?_; intro w4 hK4; obtain ⟨c2, f2, l2, -⟩ := hK4.cells) | (refine wpList.kn ((hK4.st 0 _).st 1 _) ?_; intro w5 hK5; clear hK4 c2 f2 l2; obtain ⟨c2, f2, l2, c1, f1, l1, -⟩ := hK5.cells))
          refine (l02Ok_reg ⟨w3.heap.size, 0, none⟩ R w5 ⟨A, c, ⟨by rw [c2]; rfl, by rw [c2]; rfl⟩, hK5.drop.ownI.ri⟩ (by unfold SmallReg; omega) _ HK.out).mono ?_; rintro e w6 ⟨rfl, m, rfl⟩
          replace hK5 := hK5.drewN m
          go_wp2_with fail
          refine bodyPost_ret (v := .tuple #[.agg #[.int .i64 0, .slice none 0 0], .int .i64 8]) (by simp [results, Try.results41, go_sem, c1, f1]) rfl ⟨none, 0, by rw [HU.out.1, HU.out.2]; rfl, by rw [HU.out.1]; exact OwnI.nil _ _, ?_⟩
          exact ((hK5.sw2.st 0 _).st 1 _).below
        · have HU := Lib.hid (unp_some (bs := strB s) (r := R) (by rw [HU.out, he, hk]; rfl))
          have HK := Lib.hid hk
          clear he hk
          refine KT.out _ ?_
          intro A c r2 w3 hr2 ho hw
          have hK3 := hK2.addI hw ho
          have hem2 : r2.toList.isEmpty = rest.isEmpty := by rw [strB_toList, hr2]
          try (rw [hem] at hem2)
          clear hw hr hrs ho hr2 hK2
          go_wp2_with (first | (refine wpList.kn (hK3.al [.int .i64 0, .slice none 0 0] 26) ?_; intro w4 hK4; obtain ⟨c2, f2, l2, -⟩ := hK4.cells) | (refine wpList.kn ((hK4.st 0 _).st 1 _) ?_; intro w5 hK5; clear hK4 c2 f2 l2; obtain ⟨c2, f2, l2, c1, f1, l1, -⟩ := hK5.cells))
          refine (l02Ok_reg ⟨w3.heap.size, 0, none⟩ R w5 ⟨A, c, ⟨by rw [c2]; rfl, by rw [c2]; rfl⟩, hK5.drop.ownI.ri⟩ (by unfold SmallReg; omega) _ HK.out).mono ?_; rintro e w6 ⟨rfl, m, rfl⟩
          replace hK5 := hK5.drewN m
          go_wp2_with fail
          have hK6 := (hK5.sw2.st 0 (.int .i64 R.base)).st 1 (.slice A R.digits.length c)
          refine bodyPost_ret (v := .tuple #[.agg #[.int .i64 R.base, .slice A R.digits.length c], .int .i64 0]) (by simp [results, Try.results41, go_sem, c1, f1]) rfl ⟨A, c, by rw [HU.out.1, HU.out.2], by rw [HU.out.1]; exact hK6.sw2.ownI, hK6.below⟩
end Go.Proofs.Ytkfbfainhmkkdaa

namespace Go.Proofs.Ytkfbfainhmkkdaa
open Go.RowKit Go.Sort
/-- a machine as sealed bytes -/
def packM (t : Tri) : List UInt8 := sealB (77 :: toB t.carry :: (regB t.a.base t.a.digits ++ regB t.b.base t.b.digits ++ regB t.s.base t.s.digits))
theorem vmach_five {t : Tri} (h : vmach t = true) : t.a.ok = true ∧ t.b.ok = true ∧ t.s.ok = true ∧ 0 ≤ t.carry ∧ t.carry ≤ 15 := by
  unfold vmach at h
  simp only [Bool.and_eq_true] at h
  obtain ⟨⟨⟨⟨h1, h2⟩, h3⟩, -⟩, -, h4⟩ := h
  have h5 := betB_iff.1 h4
  obtain ⟨-, -, p3⟩ := ok_bd h3
  unfold vplaces at h5
  exact ⟨h1, h2, h3, h5.1, by omega⟩
theorem KB_reg {r : Reg} (h : r.ok = true) {A : Option Addr} {c : Nat} {w : World} (hr : RI w A r.digits.length r.digits) :
    Calls Try.prog 91 #[.agg #[.int .i64 r.base, .slice A r.digits.length c]] w fun e w' => ∃ A' c', e = .returned (.slice A' (regB r.base r.digits).length c') ∧ OwnB w' w.heap.size (.slice A' (regB r.base r.digits).length c') (regB r.base r.digits) ∧ Below w.heap.size w w' := by
  obtain ⟨⟨b1, b2⟩, ⟨n1, n2⟩, hd, -⟩ := vreg_iff.1 h
  exact bytes_any r.base A r.digits.length c r.digits w hr b1 b2 (by omega) (by omega) hd
theorem regB_le {r : Reg} (h : r.ok = true) : 0 < (regB r.base r.digits).length ∧ (regB r.base r.digits).length ≤ 20 := by
  obtain ⟨-, ⟨n1, n2⟩, -, -⟩ := vreg_iff.1 h
  rw [regB_len]; omega
set_option maxRecDepth 100000 in
set_option maxHeartbeats 3200000 in
theorem PackMachine_true (t : Tri) (A1 A2 A3 : Option Addr) (c1 c2 c3 : Nat) (w : World) (r1 : RI w A1 t.a.digits.length t.a.digits) (r2 : RI w A2 t.b.digits.length t.b.digits) (r3 : RI w A3 t.s.digits.length t.s.digits) (hv : vmach t = true) :
    Calls Try.prog 29 #[.agg #[.int .i64 t.a.base, .slice A1 t.a.digits.length c1, .int .i64 t.b.base, .slice A2 t.b.digits.length c2, .int .i64 t.s.base, .slice A3 t.s.digits.length c3, .int .i64 t.carry]] w fun e w' => e = .returned (.tuple #[.string ⟨(packM t).toArray⟩, .int .i64 0]) ∧ Below w.heap.size w w' := by
  obtain ⟨k1, k2, k3, p1, p2⟩ := vmach_five hv
  obtain ⟨-, -, q1⟩ := ok_bd k1
  obtain ⟨-, -, q2⟩ := ok_bd k2
  obtain ⟨-, -, q3⟩ := ok_bd k3
  have K0 := Lib.hid (fun W (hW : Below w.heap.size w W) => calls_val (ValidMachine_any t A1 A2 A3 c1 c2 c3 W (r1.below hW) (r2.below hW) (r3.below hW) ⟨by unfold SmallReg; omega, by unfold SmallReg; omega, by unfold SmallReg; omega⟩) (congrArg Value.bool hv))
  have K1 := (fun W (hW : Below w.heap.size w W) => KB_reg k1 (c := c1) (r1.below hW))
  have K2 := (fun W (hW : Below w.heap.size w W) => KB_reg k2 (c := c2) (r2.below hW))
  have K3 := (fun W (hW : Below w.heap.size w W) => KB_reg k3 (c := c3) (r3.below hW))
  have HPK : packM t = sealB (77 :: toB t.carry :: (regB t.a.base t.a.digits ++ regB t.b.base t.b.digits ++ regB t.s.base t.s.digits)) := rfl
  have y1 : IntKind.u8.wrap t.carry = t.carry := wrapB (by omega)
  obtain ⟨z1, z2⟩ := regB_le k1
  obtain ⟨z3, z4⟩ := regB_le k2
  obtain ⟨z5, z6⟩ := regB_le k3
  have HT := Lib.hid (show byteV (toB t.carry) = .int .u8 t.carry from (ofNat_byte (by omega) (by omega)).symm)
  obtain ⟨X1, hX1⟩ : ∃ X, regB t.a.base t.a.digits = X := ⟨_, rfl⟩
  obtain ⟨X2, hX2⟩ : ∃ X, regB t.b.base t.b.digits = X := ⟨_, rfl⟩
  obtain ⟨X3, hX3⟩ : ∃ X, regB t.s.base t.s.digits = X := ⟨_, rfl⟩
  rw [hX1] at K1 z1 z2 HPK
  rw [hX2] at K2 z3 z4 HPK
  rw [hX3] at K3 z5 z6 HPK
  have HPK := Lib.hid HPK
  have K1 := Lib.hid K1
  have K2 := Lib.hid K2
  have K3 := Lib.hid K3
  clear hv r1 r2 r3 k1 k2 k3 hX1 hX2 hX3
  go_enter Try.func29, Try.ntmps29
  go_wp2_with fail
  refine Calls.kn ((Kn.nil w).al [.int .i64 t.a.base, .slice A1 t.a.digits.length c1, .int .i64 t.b.base, .slice A2 t.b.digits.length c2, .int .i64 t.s.base, .slice A3 t.s.digits.length c3, .int .i64 t.carry] 28) ?_; intro w1 hK1
  refine (K0.out w1 hK1.below).mono ?_; rintro e w2 ⟨rfl, hw⟩
  have hK2 := hK1.keep hw
  obtain ⟨g1, f1, l1, -⟩ := hK2.cells
  clear hw hK1
  go_upto_region 3 with fail
  go_cut [4] (fun v wx => Kn w [.row v 5 1 (2 + (X1).length) ([.int .u8 77, .int .u8 t.carry] ++ (X1).map byteV), .blk w.heap.size [.int .i64 t.a.base, .slice A1 t.a.digits.length c1, .int .i64 t.b.base, .slice A2 t.b.digits.length c2, .int .i64 t.s.base, .slice A3 t.s.digits.length c3, .int .i64 t.carry] 28] wx)
  case first =>
    have hA := (hK2.al [.int .u8 77, .int .u8 t.carry] 5).drew
    go_region_law (first
      | (go_simp; go_at_call 91; first | (refine (K1.out _ hA.below).mono ?_; rintro e w3 ⟨A', c', rfl, o, hw⟩; obtain ⟨-, -, -, g3, f3, l3, -⟩ := (hA.addB hw o).cells; have hK3 := hA.addB hw o) | (refine (K1.out _ hK2.drew.below).mono ?_; rintro e w3 ⟨A', c', rfl, o, hw⟩; obtain ⟨g3, f3, l3, -⟩ := (hK2.drew.addB hw o).cells; have hK3 := ((hK2.drew.addB hw o).al [.int .u8 77, .int .u8 t.carry] 5).sw1))
      | (refine kn_step_row tpB rfl _ _ rfl _ 2 [.int .u8 77, .int .u8 t.carry] rfl rfl z1 (hK3.sw1.litRow (n := 2) (size := 1) rfl (by decide)).sw1 (bytes_one _) (by omega) (by omega) ?_; intro v4 w4 hK4))
    all_goals
      go_wp2_with fail
      go_meet
      exact hK4.drop1
  case rest =>
    rename_i v4
    have HE := Lib.hid (show ([.int .u8 77, .int .u8 t.carry] ++ (X1).map byteV ++ (X2).map byteV ++ (X3).map byteV) = (77 :: toB t.carry :: (X1 ++ X2 ++ X3)).map byteV by
      simp only [List.map_cons, List.map_append]; rw [HT.out]; rfl)
    clear g1 f1 l1 hK2
    obtain ⟨g4, f4, l4, -⟩ := hcut.cells
    have hS := hcut.drew
    go_wp2_with fail
    go_region_law (first
      | (go_simp; go_at_call 91; (first | (with_reducible refine (K2.out _ hS.below).mono ?_) | (with_reducible refine (K3.out _ hS.below).mono ?_)); rintro e w5 ⟨A', c', rfl, o, hw⟩; replace hS := hS.addB hw o; obtain ⟨g5, f5, l5, -⟩ := hS.cells)
      | ((first
        | (refine kn_step_row tpB rfl (.tmp 16) (.tmp 19) rfl _ _ _ rfl rfl z3 hS (bytes_one _) (by omega) (by omega) ?_)
        | (refine kn_step_row tpB rfl (.tmp 16) (.tmp 19) rfl _ _ _ rfl rfl z3 hS.sw2.sw2 (bytes_one _) (by omega) (by omega) ?_)
        | (refine kn_step_row tpB rfl (.tmp 16) (.tmp 19) rfl _ _ _ rfl rfl z3 hS.sw2.sw1 (bytes_one _) (by omega) (by omega) ?_)
        | (refine kn_step_row tpB rfl (.tmp 20) (.tmp 23) rfl _ _ _ rfl rfl z5 hS (bytes_one _) (by omega) (by omega) ?_)
        | (refine kn_step_row tpB rfl (.tmp 20) (.tmp 23) rfl _ _ _ rfl rfl z5 hS.sw2 (bytes_one _) (by omega) (by omega) ?_)); clear hS; intro v5 w6 hS; obtain ⟨g5, f5, l5, -⟩ := hS.cells))
    all_goals
      go_wp2_with fail
      rw [HE.out] at hS
      have ho := hS.ownB
      obtain ⟨A5, c5, rfl, -⟩ := ho.reads
      refine (sealed_any w.heap.size A5 _ c5 _ _ ho (by simp; omega) hS.size).mono ?_; rintro e w7 ⟨rfl, hw⟩
      have HB := Lib.hid (hS.below.trans hw)
      clear hw hS
      go_wp2_with fail
      refine bodyPost_ret (v := .tuple #[.string ⟨(sealB (77 :: toB t.carry :: (X1 ++ X2 ++ X3))).toArray⟩, .int .i64 0]) (by simp [results, Try.results29, go_sem]) rfl ⟨by rw [HPK.out], HB.out⟩
set_option maxRecDepth 100000 in
set_option maxHeartbeats 1600000 in
theorem PackMachine_false (t : Tri) (A1 A2 A3 : Option Addr) (c1 c2 c3 : Nat) (w : World) (r1 : RI w A1 t.a.digits.length t.a.digits) (r2 : RI w A2 t.b.digits.length t.b.digits) (r3 : RI w A3 t.s.digits.length t.s.digits) (hs : SmallTri t) (hv : vmach t = false) :
    Calls Try.prog 29 #[.agg #[.int .i64 t.a.base, .slice A1 t.a.digits.length c1, .int .i64 t.b.base, .slice A2 t.b.digits.length c2, .int .i64 t.s.base, .slice A3 t.s.digits.length c3, .int .i64 t.carry]] w fun e w' => e = .returned (.tuple #[.string ⟨#[]⟩, .int .i64 1]) ∧ Below w.heap.size w w' := by
  have K0 := Lib.hid (fun W (hW : Below w.heap.size w W) => calls_val (ValidMachine_any t A1 A2 A3 c1 c2 c3 W (r1.below hW) (r2.below hW) (r3.below hW) hs) (congrArg Value.bool hv))
  clear hv r1 r2 r3
  go_enter Try.func29, Try.ntmps29
  go_wp2_with fail
  refine Calls.kn ((Kn.nil w).al [.int .i64 t.a.base, .slice A1 t.a.digits.length c1, .int .i64 t.b.base, .slice A2 t.b.digits.length c2, .int .i64 t.s.base, .slice A3 t.s.digits.length c3, .int .i64 t.carry] 28) ?_; intro w1 hK1
  refine (K0.out w1 hK1.below).mono ?_; rintro e w2 ⟨rfl, hw⟩
  have hK2 := hK1.keep hw
  clear hw hK1
  go_wp2_with fail
  refine bodyPost_ret (v := .tuple #[.string ⟨#[]⟩, .int .i64 1]) (by simp [results, Try.results29, go_sem]) rfl ⟨rfl, hK2.below⟩
end Go.Proofs.Ytkfbfainhmkkdaa

namespace Go.Proofs.Ytkfbfainhmkkdaa
open Go.RowKit Go.Sort
/-- a row of bytes that is owned -/
def rowB (v : Value) (bs : List UInt8) : Ent := .row v 5 1 bs.length (bs.map byteV)
theorem kn_pushB {ops : Array Oper} {rest : List Oper} {o : Oper} {a : Act} {Q : Exit → Act → World → Prop} {w0 w : World} {m : List Ent} (hgd : o.guard = none) (s x : Operand) (ho : o.op = .call { callee := .builtin .append, args := #[s, x], argTypes := #[22, 22] })
    (v : Value) (bs : List UInt8) (hs : a.eval s = v) {g c : Nat} {T' : TypeId} {z : Int} (hx : a.eval x = .slice (some ⟨g, 0, none⟩) 1 c)
    (hK : Kn w0 (.blk g [.int .u8 z] T' :: rowB v bs :: m) w) (hz : 0 ≤ z ∧ z < 256) (hl : bs.length ≤ 10000000)
    (h : ∀ v' w', Kn w0 (rowB v' (bs ++ [UInt8.ofNat z.toNat]) :: m) w' → wpList Try.prog ops Q rest (a.put o.dst v') w') : wpList Try.prog ops Q (o :: rest) a w := by
  refine kn_app tpB hgd s x ho v bs.length (bs.map byteV) hs hx hK rfl (by simp [Value.oneCell']) (by omega) (by omega) (fun v' w' hK' => h v' w' ?_)
  unfold rowB
  rw [List.length_append, List.map_append, List.map_cons, List.map_nil, ← ofNat_byte hz.1 hz.2]
  exact hK'
theorem kn_litB {w0 w : World} {m : List Ent} {g : Nat} {zs : List Int} {bs : List UInt8} (h : Kn w0 (.blk g (zs.map (Value.int .u8)) 5 :: m) w) (hz : zs.map (Value.int .u8) = bs.map byteV) (hl : bs.length ≤ 1000000) : Kn w0 (rowB (.slice (some ⟨g, 0, none⟩) bs.length bs.length) bs :: m) w := by
  unfold rowB
  rw [hz] at h
  exact h.litRow (by simp) (by simp only [maxLen]; omega)
/-- seven bits in a byte, the lowest ones first -/
def varB (n : Nat) : List UInt8 := if h : n < 128 then [UInt8.ofNat n] else UInt8.ofNat (128 + n % 128) :: varB (n / 128)
theorem varB_lt {n : Nat} (h : n < 128) : varB n = [UInt8.ofNat n] := by rw [varB, dif_pos h]
theorem varB_ge {n : Nat} (h : ¬ n < 128) : varB n = UInt8.ofNat (128 + n % 128) :: varB (n / 128) := by rw [varB, dif_neg h]
theorem varB_len : ∀ (k n : Nat), n < 128 ^ (k + 1) → (varB n).length ≤ k + 1
  | 0, n, h => by rw [varB_lt (by simpa using h)]; simp
  | k + 1, n, h => by
    by_cases h1 : n < 128
    · rw [varB_lt h1]; simp
    · rw [varB_ge h1, List.length_cons]
      have := varB_len k (n / 128) (by rw [Nat.pow_succ] at h; omega)
      omega
def insB (x : Ins) : List UInt8 := toB x.op :: varB x.arg.toNat
def progB (xs : List Ins) : List UInt8 := 80 :: UInt8.ofNat xs.length :: xs.flatMap insB
def packP (xs : List Ins) : List UInt8 := sealB (progB xs)
theorem instrOk_bd {op arg : Int} (h : instrOk op arg = true) : 1 ≤ op ∧ op ≤ 10 ∧ 0 ≤ arg ∧ arg ≤ 1000000000000 := by
  rcases op_cases op with rfl | rfl | rfl | rfl | rfl | rfl | rfl | rfl | rfl | rfl | h1
  rotate_right 1
  · rw [instrOk_else h1] at h; cases h
  all_goals
    simp [instrOk, betB] at h
    omega
theorem vprog_each {xs : List Ins} (h : vprog xs = true) : xs.length ≤ 120 ∧ ∀ x ∈ xs, instrOk x.op x.arg = true := by
  unfold vprog at h
  simp only [Bool.and_eq_true, decide_eq_true_eq] at h
  refine ⟨h.2, fun x hx => ?_⟩
  obtain ⟨k, hk, rfl⟩ := List.getElem_of_mem hx
  rcases hi : instrOk xs[k].op xs[k].arg with _ | _
  · have h2 : progD xs = none := progD_none (k := k + 1) (by
      rw [progD_succ hk]
      cases progD (xs.take k) with
      | none => rfl
      | some d => simp [stepI, hi])
    rw [h2] at h; simp at h
  · rfl
theorem insB_len {x : Ins} (h : instrOk x.op x.arg = true) : (insB x).length ≤ 7 := by
  have h1 := instrOk_bd h
  have := varB_len 5 x.arg.toNat (by omega)
  simp [insB]; omega
theorem flat_len {xs : List Ins} (h : ∀ x ∈ xs, instrOk x.op x.arg = true) : (xs.flatMap insB).length ≤ 7 * xs.length := by
  induction xs with
  | nil => simp
  | cons x xs ih =>
    rw [List.flatMap_cons, List.length_append, List.length_cons]
    have h1 := insB_len (h x (by simp))
    have h2 := ih (fun y hy => h y (by simp [hy]))
    omega
def progP (n : Nat) (xs : List Ins) : List UInt8 := 80 :: UInt8.ofNat n :: xs.flatMap insB
theorem progP_succ {n k : Nat} {xs : List Ins} (h : k < xs.length) : progP n (xs.take (k + 1)) = progP n (xs.take k) ++ insB xs[k] := by
  unfold progP; rw [List.take_succ_eq_append_getElem h, List.flatMap_append]; simp
theorem varB_bd {a : Nat} {l pre : List UInt8} (h : pre ++ varB a = l) (hl : l.length ≤ 7) : pre.length ≤ 6 := by
  have h1 := congrArg List.length h
  rw [List.length_append] at h1
  have : 1 ≤ (varB a).length := by rw [varB]; split <;> simp
  omega
set_option maxRecDepth 100000 in
set_option maxHeartbeats 3200000 in
theorem PackProgram_true (A : Option Addr) (n c : Nat) (xs : List Ins) (w : World) (hr : RL InsM 2 w A n xs) (hv : vprog xs = true) :
    Calls Try.prog 32 #[.slice A n c] w fun e w' => e = .returned (.tuple #[.string ⟨(packP xs).toArray⟩, .int .i64 0]) ∧ Below w.heap.size w w' := by
  obtain ⟨h120, hall⟩ := vprog_each hv
  have hln := hr.1
  have HL := Lib.hid hr.1
  have KV := Lib.hid (fun W (hW : Below w.heap.size w W) => calls_val (ValidProgram_any A n c xs W (hr.below steady_InsM hW) (by omega)) (congrArg Value.bool hv))
  have hn : n ≤ 120 := by omega
  have y0 : IntKind.u8.wrap (n : Int) = (n : Int) := wrapB (by omega)
  clear hv
  go_enter Try.func32, Try.ntmps32
  go_wp2_with fail
  refine (KV.out _ (Below.refl _ _)).mono ?_; rintro e w1 ⟨rfl, hw⟩
  have hK1 := (Kn.nil w).keep hw
  have hK2 := kn_litB (zs := [80, (n : Int)]) (bs := progP n []) (hK1.al [.int .u8 80, .int .u8 n] 5) (by unfold progP; simp [byteV]; omega) (by simp [progP])
  clear hw hK1
  go_wp2_with fail
  go_loopw [4, 17] (fun out ii wr => ∃ k : Nat, k ≤ n ∧ ii = .int .i64 k ∧ Kn w [rowB out (progP n (xs.take k))] wr) (fun _ i _ => n - (intOf i).toNat)
  case atStart => exact ⟨0, Nat.zero_le _, rfl, by simpa [progP] using hK2⟩
  case round =>
    rename_i out _
    obtain ⟨k, hk, rfl, hK⟩ := hrel
    obtain ⟨wo, rfl⟩ : ∃ wo : World, wo = wr := ⟨_, rfl⟩
    have hpl : (progP n (xs.take k)).length ≤ 2 + 7 * 120 := by
      have := flat_len (xs := xs.take k) (fun x hx => hall x (List.mem_of_mem_take hx))
      rw [List.length_take] at this
      simp [progP] at this ⊢; omega
    by_cases hkn : k < n
    · obtain ⟨ad, hA, hlt, hkl, hx⟩ := (hr.below steady_InsM hK.below).at_ hkn
      obtain ⟨x1, x2⟩ := hx
      have HP := Lib.hid (progP_succ (n := n) hkl)
      have hib := instrOk_bd (hall _ (List.getElem_mem hkl))
      have hil := insB_len (hall _ (List.getElem_mem hkl))
      obtain ⟨x, hxe⟩ : ∃ x, xs[k] = x := ⟨_, rfl⟩
      rw [hxe] at x1 x2 HP hib hil
      have hi0 : (0 : Int) ≤ (k : Int) := by omega
      have hi1 : (k : Int) < (n : Int) := by omega
      have y1 : IntKind.u8.wrap x.op = x.op := wrapB (by omega)
      subst hA
      clear hxe
      have hKx := (hK.al [.int .i64 x.op, .int .i64 x.arg] 46).sw1
      go_wp2_with (first | (refine wpList.kn hKx ?_; clear hKx; intro w2 hK2; obtain ⟨a1, a2, a3, -⟩ := hK2.cells) | (at_builtin; refine kn_pushB rfl _ _ rfl _ _ rfl rfl (hK2.al [.int .u8 x.op] 5) (by omega) (by omega) ?_; intro v5 w6 hK3; clear a1 a2 a3 hK2; obtain ⟨a1, a2, a3, -⟩ := hK3.cells))
      go_loopw [4, 7] (fun out aa wi => ∃ (a : Nat) (pre : List UInt8), aa = .int .i64 a ∧ pre ++ varB a = varB x.arg.toNat ∧ (a : Int) ≤ 1000000000000 ∧ Kn w [rowB out (progP n (xs.take k) ++ [toB x.op] ++ pre)] wi) (fun _ a _ => (intOf a).toNat)
      case atStart => exact ⟨x.arg.toNat, [], by rw [show ((x.arg.toNat : Nat) : Int) = x.arg by omega], rfl, by omega, by rw [List.append_nil]; exact hK3.drop1⟩
      case round =>
        rename_i out2 _
        obtain ⟨a, pre, rfl, hpre, ha, hKi⟩ := hrel
        have hpb := varB_bd hpre (by have h7 := hil; simp [insB] at h7; omega)
        have HPR := Lib.hid hpre
        clear hpre
        by_cases h128 : a < 128
        · have y3 : IntKind.u8.wrap (a : Int) = (a : Int) := wrapB (by omega)
          have i1 : ¬ (127 : Int) < (a : Int) := by omega
          have i2 : ¬ (128 : Int) ≤ (a : Int) := by omega
          have HV := Lib.hid (varB_lt h128)
          clear h128
          go_wp2_with (at_builtin; refine kn_pushB rfl _ _ rfl _ _ rfl rfl (hKi.al [.int .u8 (a : Int)] 5) (by omega) (by simp; omega) ?_; intro v7 w7 hK7)
          go_roundw
          case rel => exact ⟨k + 1, by omega, by go_num, by
            have h1 : progP n (xs.take k) ++ [toB x.op] ++ pre ++ [UInt8.ofNat (a : Int).toNat] = progP n (xs.take (k + 1)) := by
              have h2 := HPR.out
              rw [HV.out] at h2
              rw [HP.out, Int.toNat_natCast]
              unfold insB
              rw [← h2]; simp
            rw [h1] at hK7; exact hK7⟩
          case measure => simp [intOf]; omega
        · have y3 : IntKind.u8.wrap ((a : Int) % 128) = (a : Int) % 128 := wrapB (by omega)
          have y4 : IntKind.u8.wrap ((a : Int) % 128 + 128) = (a : Int) % 128 + 128 := wrapB (by omega)
          have y5 : IntKind.u8.wrap (128 + (a : Int) % 128) = 128 + (a : Int) % 128 := wrapB (by omega)
          have i1 : (127 : Int) < (a : Int) := by omega
          have i2 : (128 : Int) ≤ (a : Int) := by omega
          have HV := Lib.hid (varB_ge h128)
          clear h128
          go_wp2_with (at_builtin; refine kn_pushB rfl _ _ rfl _ _ rfl rfl (hKi.al [.int .u8 ((a : Int) % 128 + 128)] 5) (by omega) (by simp; omega) ?_; intro v7 w7 hK7)
          go_roundw
          case rel => exact ⟨a / 128, pre ++ [UInt8.ofNat (128 + a % 128)], rfl, by rw [← HPR.out, HV.out]; simp, by omega, by
            have h1 : ((a : Int) % 128 + 128).toNat = 128 + a % 128 := by omega
            rw [h1] at hK7; rw [← List.append_assoc]; exact hK7⟩
          case measure => simp [intOf]; omega
    · have HF : Hid (progP n (xs.take k) = progB xs) := by
        simp only [Hid, progP, progB]; rw [List.take_of_length_le (by have := HL.out; omega), HL.out]
      rw [HF.out] at hK
      have ho := hK.ownB
      obtain ⟨A5, c5, rfl, -⟩ := ho.reads
      have hpl2 : (progB xs).length ≤ 1000000 := by rw [← HF.out]; omega
      have KS := Lib.hid (sealed_any w.heap.size A5 _ c5 _ wo ho hpl2 hK.size)
      clear ho
      go_wp2_with fail
      refine KS.out.mono ?_; rintro e w7 ⟨rfl, hw⟩
      have HB := Lib.hid (hK.below.trans hw)
      clear hw
      go_wp2_with fail
      refine bodyPost_ret (v := .tuple #[.string ⟨(packP xs).toArray⟩, .int .i64 0]) (by simp [results, Try.results32, go_sem, packP]) rfl ⟨rfl, HB.out⟩
theorem PackProgram_false (A : Option Addr) (n c : Nat) (xs : List Ins) (w : World) (hr : RL InsM 2 w A n xs) (hm : n ≤ 9223372036854775807) (hv : vprog xs = false) :
    Calls Try.prog 32 #[.slice A n c] w fun e w' => e = .returned (.tuple #[.string ⟨#[]⟩, .int .i64 1]) ∧ Below w.heap.size w w' := by
  have KV := Lib.hid (calls_val (ValidProgram_any A n c xs w hr hm) (congrArg Value.bool hv))
  clear hv hr
  go_enter Try.func32, Try.ntmps32
  go_wp2_with fail
  refine KV.out.mono ?_; rintro e w1 ⟨rfl, hw⟩
  go_wp2_with fail
  refine bodyPost_ret (v := .tuple #[.string ⟨#[]⟩, .int .i64 1]) (by simp [results, Try.results32, go_sem]) rfl ⟨rfl, hw⟩
set_option maxRecDepth 100000 in
set_option maxHeartbeats 3200000 in
theorem l27Program_any (A : Option Addr) (n c : Nat) (xs : List Ins) (w : World) (hr : RL InsM 2 w A n xs) (hv : vprog xs = true) :
    Calls Try.prog 97 #[.slice A n c] w fun e w' => e = .returned (.string ⟨(packP xs).toArray⟩) ∧ Below w.heap.size w w' := by
  obtain ⟨h120, hall⟩ := vprog_each hv
  have hln := hr.1
  have HL := Lib.hid hr.1
  have hn : n ≤ 120 := by omega
  have y0 : IntKind.u8.wrap (n : Int) = (n : Int) := wrapB (by omega)
  clear hv
  go_enter Try.func97, Try.ntmps97
  have hK2 := kn_litB (zs := [80, (n : Int)]) (bs := progP n []) ((Kn.nil w).al [.int .u8 80, .int .u8 n] 5) (by unfold progP; simp [byteV]; omega) (by simp [progP])
  go_wp2_with fail
  go_loopw [3, 4] (fun out ii wr => ∃ k : Nat, k ≤ n ∧ ii = .int .i64 k ∧ Kn w [rowB out (progP n (xs.take k))] wr) (fun _ i _ => n - (intOf i).toNat)
  case atStart => exact ⟨0, Nat.zero_le _, rfl, by simpa [progP] using hK2⟩
  case round =>
    rename_i out _
    obtain ⟨k, hk, rfl, hK⟩ := hrel
    obtain ⟨wo, rfl⟩ : ∃ wo : World, wo = wr := ⟨_, rfl⟩
    have hpl : (progP n (xs.take k)).length ≤ 2 + 7 * 120 := by
      have := flat_len (xs := xs.take k) (fun x hx => hall x (List.mem_of_mem_take hx))
      rw [List.length_take] at this
      simp [progP] at this ⊢; omega
    by_cases hkn : k < n
    · obtain ⟨ad, hA, hlt, hkl, hx⟩ := (hr.below steady_InsM hK.below).at_ hkn
      obtain ⟨ad', hA', hlt0, hkl', hx0⟩ := hr.at_ hkn
      obtain rfl : ad = ad' := by rw [hA] at hA'; injection hA'
      obtain ⟨x1, x2⟩ := hx
      obtain ⟨z1, z2⟩ := hx0
      have HP := Lib.hid (progP_succ (n := n) hkl)
      have hib := instrOk_bd (hall _ (List.getElem_mem hkl))
      have hil := insB_len (hall _ (List.getElem_mem hkl))
      obtain ⟨x, hxe⟩ : ∃ x, xs[k] = x := ⟨_, rfl⟩
      rw [hxe] at x1 x2 HP hib hil z1 z2
      have hi0 : (0 : Int) ≤ (k : Int) := by omega
      have hi1 : (k : Int) < (n : Int) := by omega
      have y1 : IntKind.u8.wrap x.op = x.op := wrapB (by omega)
      have Z2 := Lib.hid z2
      clear hxe hA' z1 z2
      subst hA
      go_wp2_with (at_builtin; refine kn_pushB rfl _ _ rfl _ _ rfl rfl (hK.al [.int .u8 x.op] 5) (by omega) (by omega) ?_; intro v5 w6 hK3; have x3 := (hK3.below.cell (p := ⟨(ad.add (k * 2)).block, (ad.add (k * 2)).off + 1, none⟩) (by rw [block_of_add]; exact hlt0)).trans Z2.out)
      go_loopw [3, 5] (fun out aa wi => ∃ (a : Nat) (pre : List UInt8), aa = .int .i64 a ∧ pre ++ varB a = varB x.arg.toNat ∧ (a : Int) ≤ 1000000000000 ∧ Kn w [rowB out (progP n (xs.take k) ++ [toB x.op] ++ pre)] wi) (fun _ a _ => (intOf a).toNat)
      case atStart => exact ⟨x.arg.toNat, [], by rw [show ((x.arg.toNat : Nat) : Int) = x.arg by omega], rfl, by omega, by rw [List.append_nil]; exact hK3⟩
      case round =>
        rename_i out2 _
        obtain ⟨a, pre, rfl, hpre, ha, hKi⟩ := hrel
        have hpb := varB_bd hpre (by have h7 := hil; simp [insB] at h7; omega)
        have HPR := Lib.hid hpre
        clear hpre
        by_cases h128 : a < 128
        · have y3 : IntKind.u8.wrap (a : Int) = (a : Int) := wrapB (by omega)
          have i1 : ¬ (127 : Int) < (a : Int) := by omega
          have i2 : ¬ (128 : Int) ≤ (a : Int) := by omega
          have HV := Lib.hid (varB_lt h128)
          clear h128
          go_wp2_with (at_builtin; refine kn_pushB rfl _ _ rfl _ _ rfl rfl (hKi.al [.int .u8 (a : Int)] 5) (by omega) (by simp; omega) ?_; intro v7 w7 hK7)
          go_roundw
          case rel => exact ⟨k + 1, by omega, by go_num, by
            have h1 : progP n (xs.take k) ++ [toB x.op] ++ pre ++ [UInt8.ofNat (a : Int).toNat] = progP n (xs.take (k + 1)) := by
              have h2 := HPR.out
              rw [HV.out] at h2
              rw [HP.out, Int.toNat_natCast]
              unfold insB
              rw [← h2]; simp
            rw [h1] at hK7; exact hK7⟩
          case measure => simp [intOf]; omega
        · have y3 : IntKind.u8.wrap ((a : Int) % 128) = (a : Int) % 128 := wrapB (by omega)
          have y4 : IntKind.u8.wrap ((a : Int) % 128 + 128) = (a : Int) % 128 + 128 := wrapB (by omega)
          have y5 : IntKind.u8.wrap (128 + (a : Int) % 128) = 128 + (a : Int) % 128 := wrapB (by omega)
          have i1 : (127 : Int) < (a : Int) := by omega
          have i2 : (128 : Int) ≤ (a : Int) := by omega
          have HV := Lib.hid (varB_ge h128)
          clear h128
          go_wp2_with (at_builtin; refine kn_pushB rfl _ _ rfl _ _ rfl rfl (hKi.al [.int .u8 (128 + (a : Int) % 128)] 5) (by omega) (by simp; omega) ?_; intro v7 w7 hK7)
          go_roundw
          case rel => exact ⟨a / 128, pre ++ [UInt8.ofNat (128 + a % 128)], rfl, by rw [← HPR.out, HV.out]; simp, by omega, by
            have h1 : (128 + (a : Int) % 128).toNat = 128 + a % 128 := by omega
            rw [h1] at hK7; rw [← List.append_assoc]; exact hK7⟩
          case measure => simp [intOf]; omega
    · have HF : Hid (progP n (xs.take k) = progB xs) := by
        simp only [Hid, progP, progB]; rw [List.take_of_length_le (by have := HL.out; omega), HL.out]
      rw [HF.out] at hK
      have ho := hK.ownB
      obtain ⟨A5, c5, rfl, -⟩ := ho.reads
      have hpl2 : (progB xs).length ≤ 1000000 := by rw [← HF.out]; omega
      have KS := Lib.hid (l27Ended_any w.heap.size A5 _ c5 _ wo ho hpl2 hK.size)
      clear ho
      go_wp2_with fail
      refine KS.out.mono ?_; rintro e w7 ⟨rfl, hw⟩
      have HB := Lib.hid (hK.below.trans hw)
      clear hw
      go_wp2_with fail
      go_ret
      exact ⟨rfl, HB.out⟩
end Go.Proofs.Ytkfbfainhmkkdaa

namespace Go.Proofs.Ytkfbfainhmkkdaa
open Go.RowKit Go.Sort
section
variable {o : Oper} {a : Act} {K : Act → World → Prop} {Q : Exit → Act → World → Prop} {w w0 : World} {m : List Ent}
/-- append as one operation of a region that draws -/
theorem appGo {t e : TypeId} {z : Value} {size bytes : Nat} (T : TP t e z size bytes) (s x : Operand) (ho : o.op = .call { callee := .builtin .append, args := #[s, x], argTypes := #[t, t] })
    (base : Nat) (v : Value) (n : Nat) (xs : List Value) (hs : a.eval s = v) (hown : w.ownsRow base e size v n xs) (ad : Addr) (m c : Nat) (news : List Value) (hx : a.eval x = .slice (some ad) m c)
    (hl : news.length = m * size) (hnews : ∀ j u, news[j]? = some u → w.cell? (ad.add j) = some u) (h1 : ∀ u ∈ news, u.oneCell' = true)
    (h63 : n + m ≤ 1000000000000000) (hb : (n + m) * bytes ≤ 140737488355328) (hbase : base ≤ w.heap.size)
    (h : ∀ v' w', w'.ownsRow base e size v' (n + m) (xs ++ news) → w.grownBy w' v.ownBlock → (v'.ownBlock = v.ownBlock ∨ v'.ownBlock = some w.heap.size) → K (a.put o.dst v') w') : Oper.wp Try.prog o a w K Q := by
  obtain ⟨i0, hi, hz0, hz1, hz2⟩ := info_parts T.info
  obtain ⟨v', w', hrun, h2, h3, _, h5⟩ := run_append_own_at (P := Try.prog) w base t o.type e i0 z size bytes T.under hi hz0 hz1 hz2 T.zc T.pos v n xs hown ad m c news hl hnews h1 (by simp only [maxLen]; omega) hb hbase
  unfold Oper.wp execOp
  simp only [ho, resolve, invoke, builtin, Sem.run_bind, Sem.run_pure, Result.andThen_ok, List.map_toArray, List.map_cons, List.map_nil, hs, hx, hrun]
  exact h v' w' h2 h3 h5
theorem kn_pushBo (s x : Operand) (ho : o.op = .call { callee := .builtin .append, args := #[s, x], argTypes := #[22, 22] })
    (v : Value) (bs : List UInt8) (hs : a.eval s = v) {g c : Nat} {T' : TypeId} {z : Int} (hx : a.eval x = .slice (some ⟨g, 0, none⟩) 1 c)
    (hK : Kn w0 (.blk g [.int .u8 z] T' :: rowB v bs :: m) w) (hz : 0 ≤ z ∧ z < 256) (hl : bs.length ≤ 10000000)
    (h : ∀ v' w', Kn w0 (rowB v' (bs ++ [UInt8.ofNat z.toNat]) :: m) w' → K (a.put o.dst v') w') : Oper.wp Try.prog o a w K Q := by
  have hK2 := hK.sw1
  have h0 := hK.blkAt
  refine appGo tpB s x ho 0 v bs.length (bs.map byteV) hs hK2.at0 ⟨g, 0, none⟩ 1 c [.int .u8 z] hx rfl (fun j u hu => ?_) (by simp [Value.oneCell']) (by omega) (by omega) (Nat.zero_le _) (fun v' w' ho' hg hv => ?_)
  · rw [add_zero_block]; rw [h0.1 j]; exact hu
  · refine h v' w' ?_
    have hK' := hK2.drop1.grow hg ho' hv
    unfold rowB
    rw [List.length_append, List.map_append, List.map_cons, List.map_nil, ← ofNat_byte hz.1 hz.2]
    exact hK'
end
/-- what a loop of l27Digits knows -/
structure DgB (w0 : World) (m : List Ent) (g o : Nat) (base : Int) (A : Option Addr) (n c : Nat) (ds : List Int) : Prop where
  cells : ∀ (v : Value) (bs : List UInt8) (W : World), Kn w0 (rowB v bs :: m) W → W.cell? ⟨g, o, none⟩ = some (.int .i64 base) ∧ W.cell? ⟨g, o + 1, none⟩ = some (.slice A n c) ∧ RI W A n ds
set_option maxRecDepth 100000 in
set_option maxHeartbeats 6400000 in
theorem l27Digits_any {w0 : World} {m : List Ent} (v : Value) (pre : List UInt8) (g o : Nat) (base : Int) (A : Option Addr) (n c : Nat) (ds : List Int) (w : World) (hK : Kn w0 (rowB v pre :: m) w) (HC : DgB w0 m g o base A n c ds) (hpl : pre.length ≤ 1000) (hb : 2 ≤ base) (hb2 : base ≤ 16) (hn1 : 1 ≤ n) (hn : n ≤ 16) (hd : ∀ d ∈ ds, 0 ≤ d ∧ d < base) :
    Calls Try.prog 94 #[v, .pointer (some ⟨g, o, none⟩)] w fun e w' => ∃ v', e = .returned v' ∧ Kn w0 (rowB v' (pre ++ regB base ds) :: m) w' := by
  have HL := Lib.hid (HC.cells _ _ _ hK).2.2.1
  have x1 : IntKind.i64.wrap (base - 1) = base - 1 := wrapI (by omega)
  have x2 : IntKind.i64.wrap (16 * (base - 1)) = 16 * (base - 1) := wrapI (by omega)
  have x3 : IntKind.i64.wrap (16 * (base - 1) + (n : Int)) = 16 * (base - 1) + (n : Int) := wrapI (by omega)
  obtain ⟨h0, hh0⟩ : ∃ h0, h0 = 16 * (base - 1) + (n : Int) - 1 := ⟨_, rfl⟩
  have x4 : IntKind.i64.wrap (16 * (base - 1) + (n : Int) - 1) = h0 := by rw [hh0]; exact wrapI (by omega)
  have x5 : IntKind.u8.wrap h0 = h0 := wrapB (by omega)
  have hh1 : 0 ≤ h0 ∧ h0 < 256 := by omega
  have HH := Lib.hid hh0
  have HD := Lib.hid hd
  clear hd hh0
  have HG := Lib.hid (show w.cell? ⟨g, o, none⟩ = some (.int .i64 base) ∧ w.cell? ⟨g, o + 1, none⟩ = some (.slice A n c) from ⟨(HC.cells _ _ _ hK).1, (HC.cells _ _ _ hK).2.1⟩)
  have HG0 := Lib.hid (show w.drew.cell? ⟨g, o, none⟩ = some (.int .i64 base) ∧ w.drew.cell? ⟨g, o + 1, none⟩ = some (.slice A n c) from ⟨(HC.cells _ _ _ hK.drew).1, (HC.cells _ _ _ hK.drew).2.1⟩)
  have hKa := (hK.al [.int .u8 h0] 5).drew
  have HG2 := Lib.hid (show (w.alloc (.cells #[.int .u8 h0] 5)).drew.cell? ⟨g, o, none⟩ = some (.int .i64 base) ∧ (w.alloc (.cells #[.int .u8 h0] 5)).drew.cell? ⟨g, o + 1, none⟩ = some (.slice A n c) from ⟨(HC.cells _ _ _ hKa.drop).1, (HC.cells _ _ _ hKa.drop).2.1⟩)
  have HG5 := HG2
  go_enter Try.func94, Try.ntmps94
  go_wp2_with fail
  go_region_held3 (fun W => W.cell? ⟨g, o, none⟩ = some (.int .i64 base) ∧ W.cell? ⟨g, o + 1, none⟩ = some (.slice A n c)) (first | with_reducible exact HG.out | with_reducible exact HG0.out | with_reducible exact HG2.out | with_reducible exact HG5.out | exact HG.out | exact HG0.out | exact HG2.out | exact HG5.out) (first
    | (rw [if_pos (by kernel_rfl)]; refine kn_pushBo _ _ rfl _ _ rfl rfl hKa (by omega) (by omega) ?_; intro v5 w5 hK5; clear HG5; have HG5 := Lib.hid (show w5.cell? ⟨g, o, none⟩ = some (.int .i64 base) ∧ w5.cell? ⟨g, o + 1, none⟩ = some (.slice A n c) from ⟨(HC.cells _ _ _ hK5).1, (HC.cells _ _ _ hK5).2.1⟩)))
  all_goals
    have K6 : Kn w0 (rowB v5 (pre ++ [toB h0] ++ (List.range 0).map (fun j => toB (pairAt ds j))) :: m) w5 := by
      rw [List.range_zero, List.map_nil, List.append_nil]; exact hK5
    clear HG HG0 HG2 HG5 hK hKa hK5 x1 x2 x3 x4 x5
    go_wp2_with fail
    go_loopw [0, 5] (fun out kk wr => ∃ j : Nat, j ≤ (n + 1) / 2 ∧ kk = .int .i64 ((j * 2 : Nat) : Int) ∧ Kn w0 (rowB out (pre ++ [toB h0] ++ (List.range j).map (fun j => toB (pairAt ds j))) :: m) wr) (fun _ kk _ => n + 1 - (intOf kk).toNat)
    case atStart => exact ⟨0, Nat.zero_le _, rfl, K6⟩
    case round =>
      obtain ⟨j, hj, rfl, hK⟩ := hrel
      clear K6
      have hll : (pre ++ [toB h0] ++ (List.range j).map (fun j => toB (pairAt ds j))).length ≤ 10000 := by simp; omega
      obtain ⟨c0, c1, hri⟩ := HC.cells _ _ _ hK
      by_cases hjn : j * 2 < n
      · obtain ⟨ad, hA, hlt, hkl, hc1⟩ := hri.at_ hjn
        have hd1 := HD.out _ (List.getElem_mem hkl)
        have hg0 : ds.getD (j * 2) 0 = ds[j * 2] := by simp [List.getD, List.getElem?_eq_getElem hkl]
        obtain ⟨d, hdd⟩ : ∃ d, ds[j * 2] = d := ⟨_, rfl⟩
        rw [hdd] at hc1 hd1 hg0
        have hi1 : ((j * 2 : Nat) : Int) < (n : Int) := by omega
        have hi0 : (0 : Int) ≤ ((j * 2 : Nat) : Int) := by omega
        have w1 : IntKind.i64.wrap (16 * d) = 16 * d := wrapI (by omega)
        have HP := Lib.hid (show (List.range (j + 1)).map (fun j => toB (pairAt ds j)) = (List.range j).map (fun j => toB (pairAt ds j)) ++ [toB (pairAt ds j)] by rw [List.range_succ, List.map_append]; rfl)
        clear hdd
        by_cases hj2 : j * 2 + 1 < n
        · obtain ⟨ad2, hA2, hlt2, hkl2, hc2⟩ := hri.at_ hj2
          have hd2 := HD.out _ (List.getElem_mem hkl2)
          have hg1 : ds.getD (j * 2 + 1) 0 = ds[j * 2 + 1] := by simp [List.getD, List.getElem?_eq_getElem hkl2]
          obtain ⟨d2, hdd2⟩ : ∃ d2, ds[j * 2 + 1] = d2 := ⟨_, rfl⟩
          rw [hdd2] at hc2 hd2 hg1
          clear hdd2
          obtain rfl : ad = ad2 := by rw [hA] at hA2; injection hA2
          have hc2'' : wr.cell? ⟨ad.block, ad.off + (j * 2 + 1), none⟩ = some (.int .i64 d2) := by rw [← addr_pos ad (j * 2 + 1) (by omega)]; exact hc2
          have hi3 : ((j * 2 : Nat) : Int) + 1 < (n : Int) := by omega
          have w2 : IntKind.i64.wrap (16 * d + d2) = 16 * d + d2 := wrapI (by omega)
          have y3 : IntKind.u8.wrap (16 * d + d2) = 16 * d + d2 := wrapB (by omega)
          have HV : Hid (pairAt ds j = 16 * d + d2) := by simp only [Hid, pairAt]; rw [hg0, hg1]
          subst hA
          clear hg0 hg1 hA2
          go_wp2_with (at_builtin; refine kn_pushB rfl _ _ rfl _ _ rfl rfl (hK.al [.int .u8 (16 * d + d2)] 5) (by omega) (by omega) ?_; intro v7 w7 hK7)
          go_roundw
          case rel => exact ⟨j + 1, by omega, by go_num, by rw [HP.out, HV.out, ← List.append_assoc]; exact hK7⟩
          case measure => simp [intOf]; omega
        · have hg1 : ds.getD (j * 2 + 1) 0 = 0 := by simp [List.getD, List.getElem?_eq_none (show ds.length ≤ j * 2 + 1 by have := HL.out; omega)]
          have hi3 : ¬ ((j * 2 : Nat) : Int) + 1 < (n : Int) := by omega
          have y3 : IntKind.u8.wrap (16 * d) = 16 * d := wrapB (by omega)
          have HV : Hid (pairAt ds j = 16 * d) := by simp only [Hid, pairAt]; rw [hg0, hg1, Int.add_zero]
          subst hA
          clear hg0 hg1
          go_wp2_with (at_builtin; refine kn_pushB rfl _ _ rfl _ _ rfl rfl (hK.al [.int .u8 (16 * d)] 5) (by omega) (by omega) ?_; intro v7 w7 hK7)
          go_roundw
          case rel => exact ⟨j + 1, by omega, by go_num, by rw [HP.out, HV.out, ← List.append_assoc]; exact hK7⟩
          case measure => simp [intOf]; omega
      · have HJ : Hid (j = (n + 1) / 2) := by simp only [Hid]; omega
        have HF : Hid (pre ++ [toB h0] ++ (List.range j).map (fun j => toB (pairAt ds j)) = pre ++ regB base ds) := by
          simp only [Hid, regB]
          rw [HJ.out, HL.out, HH.out, List.append_assoc, show 16 * (base - 1) + (n : Int) - 1 = 16 * (base - 1) + ((n : Int) - 1) by omega]
          rfl
        have hi3 : ¬ ((j * 2 : Nat) : Int) < (n : Int) := by omega
        go_wp2_with fail
        go_ret
        exact ⟨_, rfl, by rw [← HF.out]; exact hK⟩
end Go.Proofs.Ytkfbfainhmkkdaa

namespace Go.Proofs.Ytkfbfainhmkkdaa
open Go.RowKit Go.Sort
/-- the machine of bytes -/
def unpM : List UInt8 → Option Tri
  | b0 :: p :: r0 => if vmach ⟨tkReg r0, tkReg (tkRest r0), tkReg (tkRest (tkRest r0)), p.toNat⟩ && decide (packM ⟨tkReg r0, tkReg (tkRest r0), tkReg (tkRest (tkRest r0)), p.toNat⟩ = (b0 :: p :: r0)) then some ⟨tkReg r0, tkReg (tkRest r0), tkReg (tkRest (tkRest r0)), p.toNat⟩ else none
  | _ => none
def unpMach (bs : List UInt8) : Tri := (unpM bs).getD zTri
def unpMCode (bs : List UInt8) : Int := if (unpM bs).isSome then 0 else 8
theorem unpM_none {bs : List UInt8} (h : unpM bs = none) : unpMach bs = zTri ∧ unpMCode bs = 8 := by simp [unpMach, unpMCode, h]
theorem unpM_some {bs : List UInt8} {r : Tri} (h : unpM bs = some r) : unpMach bs = r ∧ unpMCode bs = 0 := by simp [unpMach, unpMCode, h]
theorem tkRest_len (bs : List UInt8) : (tkRest bs).length ≤ bs.length := by
  cases bs with
  | nil => simp [tkRest]
  | cons b tl =>
    simp only [tkRest]
    split
    · rw [List.length_drop, List.length_cons]; omega
    · simp
theorem strB_cons2 {s : ByteArray} (h : 2 ≤ s.size) : ∃ h0 : 1 < s.size, strB s = s[0] :: s[1] :: (strB s).drop 2 := by
  refine ⟨by omega, ?_⟩
  have h1 := strB_cons (s := s) (by omega)
  have h2 : 1 < (strB s).length := by rw [strB_len]; omega
  have h3 := List.drop_eq_getElem_cons (l := strB s) (i := 1) h2
  rw [h3] at h1
  rw [strB_get s (show 1 < s.size by omega)]
  exact h1
theorem takeB (s : ByteArray) (bs : List UInt8) (hb : strB s = bs) (hl : bs.length ≤ 1048576) (R : Reg) (hR : tkReg bs = R) (rest : List UInt8) (hr : tkRest bs = rest) (ok : Bool) (ho : tkOk bs = ok) (w : World) :
    Calls Try.prog 98 #[.string s] w fun e w' => ∃ A c r, e = .returned (.tuple #[.agg #[.int .i64 R.base, .slice A R.digits.length c], .string r, .bool ok]) ∧ strB r = rest ∧ OwnI w' w.heap.size (.slice A R.digits.length c) R.digits ∧ Below w.heap.size w w' := by
  subst hb; subst hR; subst hr; subst ho
  exact takeRegister_any s w (by rw [← strB_len]; omega)
theorem eq3B (a b c : Bool) (w : World) : (Op.equalIn 10000 117 (.agg #[.bool a, .bool b, .bool c]) (.agg #[.bool true, .bool true, .bool true])).run Try.prog w = .ok (a && b && c) w := by
  cases a <;> cases b <;> cases c <;> kernel_rfl
set_option maxRecDepth 100000 in
set_option maxHeartbeats 3200000 in
theorem UnpackMachine_any (s : ByteArray) (w : World) (hs : s.size ≤ 1048576) :
    Calls Try.prog 37 #[.string s] w fun e w' => ∃ A1 c1 A2 c2 A3 c3, e = .returned (.tuple #[.agg #[.int .i64 (unpMach (strB s)).a.base, .slice A1 (unpMach (strB s)).a.digits.length c1, .int .i64 (unpMach (strB s)).b.base, .slice A2 (unpMach (strB s)).b.digits.length c2, .int .i64 (unpMach (strB s)).s.base, .slice A3 (unpMach (strB s)).s.digits.length c3, .int .i64 (unpMach (strB s)).carry], .int .i64 (unpMCode (strB s))]) ∧
      Kn w [rowI A3 c3 (unpMach (strB s)).s.digits, rowI A2 c2 (unpMach (strB s)).b.digits, rowI A1 c1 (unpMach (strB s)).a.digits] w' := by
  by_cases h0 : 2 ≤ s.size
  · obtain ⟨h1, hc⟩ := strB_cons2 h0
    obtain ⟨b0, hb0⟩ : ∃ b, s[0] = b := ⟨_, rfl⟩
    obtain ⟨p, hp⟩ : ∃ b, s[1] = b := ⟨_, rfl⟩
    obtain ⟨r0, hr0⟩ : ∃ l, (strB s).drop 2 = l := ⟨_, rfl⟩
    rw [hb0, hp, hr0] at hc
    have hl0 : r0.length ≤ 1048576 := by rw [← hr0, List.length_drop, strB_len]; omega
    have hx := strB_drop s 2
    rw [hr0] at hx
    obtain ⟨x0, hx0⟩ : ∃ x, s.extract 2 s.size = x := ⟨_, rfl⟩
    rw [hx0] at hx
    obtain ⟨t, ht⟩ : ∃ t : Tri, t = ⟨tkReg r0, tkReg (tkRest r0), tkReg (tkRest (tkRest r0)), p.toNat⟩ := ⟨_, rfl⟩
    have HU := Lib.hid (show unpM (strB s) = if vmach t && decide (packM t = b0 :: p :: r0) then some t else none by rw [hc, ht]; rfl)
    have hta : tkReg r0 = t.a := by rw [ht]
    have htb : tkReg (tkRest r0) = t.b := by rw [ht]
    have hts : tkReg (tkRest (tkRest r0)) = t.s := by rw [ht]
    have htc : (p.toNat : Int) = t.carry := by rw [ht]
    have n1 := tkReg_len r0; rw [hta] at n1
    have n2 := tkReg_len (tkRest r0); rw [htb] at n2
    have n3 := tkReg_len (tkRest (tkRest r0)); rw [hts] at n3
    obtain ⟨ok1, hok1⟩ : ∃ b, tkOk r0 = b := ⟨_, rfl⟩
    obtain ⟨ok2, hok2⟩ : ∃ b, tkOk (tkRest r0) = b := ⟨_, rfl⟩
    obtain ⟨ok3, hok3⟩ : ∃ b, tkOk (tkRest (tkRest r0)) = b := ⟨_, rfl⟩
    have HOK : Hid (vmach t = true → ok1 = true ∧ ok2 = true ∧ ok3 = true) := fun hv => by
      obtain ⟨q1, q2, q3, -⟩ := vmach_five hv
      have z : ∀ bs, (tkReg bs).ok = true → tkOk bs = true := fun bs h => by
        rcases h2 : tkOk bs with _ | _
        · rw [tk_not h2] at h; cases h
        · rfl
      exact ⟨hok1 ▸ z _ (hta ▸ q1), hok2 ▸ z _ (htb ▸ q2), hok3 ▸ z _ (hts ▸ q3)⟩
    have K1 := Lib.hid (fun W => takeB x0 r0 hx hl0 t.a hta _ rfl ok1 hok1 W)
    have K2 := Lib.hid (fun x (hx : strB x = tkRest r0) W => takeB x _ hx (Nat.le_trans (tkRest_len _) hl0) t.b htb _ rfl ok2 hok2 W)
    have K3 := Lib.hid (fun x (hx : strB x = tkRest (tkRest r0)) W => takeB x _ hx (Nat.le_trans (tkRest_len _) (Nat.le_trans (tkRest_len _) hl0)) t.s hts _ rfl ok3 hok3 W)
    have HC := Lib.hid hc
    have HX := Lib.hid hx0
    have hi1 : (1 : Int) < (s.size : Int) := by omega
    have hi2 : (2 : Int) ≤ (s.size : Int) := by omega
    have hi3 : ¬ (s.size : Int) < 2 := by omega
    have hp2 : p.toNat < 256 := p.toNat_lt
    have HPC := Lib.hid htc
    clear hc hb0 hr0 hx ht hta htb hts hok1 hok2 hok3 hx0 htc
    go_enter Try.func37, Try.ntmps37
    go_upto_region 3 with fail
    go_cut [4, 5, 6] (fun mm rr oo wx => ∃ g1 g2, mm = .pointer (some ⟨g1, 0, none⟩) ∧ rr = .string x0 ∧ oo = .pointer (some ⟨g2, 0, none⟩) ∧
      Kn w [.blk g1 [.int .i64 0, .slice none 0 0, .int .i64 0, .slice none 0 0, .int .i64 0, .slice none 0 0, .int .i64 t.carry] 28, .blk g2 [.bool false, .bool false, .bool false] 117, .blk w.heap.size [.int .i64 0, .slice none 0 0, .int .i64 0, .slice none 0 0, .int .i64 0, .slice none 0 0, .int .i64 0] 28] wx)
    case first =>
      have hA0 := (Kn.nil w).al [.int .i64 0, .slice none 0 0, .int .i64 0, .slice none 0 0, .int .i64 0, .slice none 0 0, .int .i64 0] 28
      go_region
      all_goals
        go_wp2_with fail
        go_meet
        have hB := (((hA0.al [.int .i64 0, .slice none 0 0, .int .i64 0, .slice none 0 0, .int .i64 0, .slice none 0 0, .int .i64 t.carry] 28).al [.bool false, .bool false, .bool false] 117).sw1).drew
        have hC := ((hA0.al [.bool false, .bool false, .bool false] 117).al [.int .i64 0, .slice none 0 0, .int .i64 0, .slice none 0 0, .int .i64 0, .slice none 0 0, .int .i64 t.carry] 28).drew
        simp at hB hC
        rw [HPC.out, HX.out]
        first
          | exact ⟨_, _, rfl, rfl, rfl, hB⟩
          | exact ⟨_, _, rfl, rfl, rfl, hC⟩
    case rest =>
      obtain ⟨g1, g2, rfl, rfl, rfl, hK⟩ := hcut
      have hap := hK.apart
      simp [Ent.fp] at hap
      obtain ⟨⟨ne1, ne2⟩, ne3⟩ := hap
      obtain ⟨a1, a2, a3, b1, b2, b3, d1, d2, d3, -⟩ := hK.cells
      go_wp2_with fail
      refine (K1.out _).mono ?_; rintro e w3 ⟨A1, c1, y1, rfl, hy1, ho, hw⟩
      have hK1 := hK.addI hw ho
      clear hw ho a1 a2 a3 b1 b2 b3 d1 d2 d3 hK
      obtain ⟨a1, a2, a3, b1, b2, b3, d1, d2, d3, -⟩ := hK1.cells
      go_wp2_with fail
      refine Calls.kn (m := [.blk g2 [.bool ok1, .bool false, .bool false] 117, .blk g1 [.int .i64 t.a.base, .slice A1 t.a.digits.length c1, .int .i64 0, .slice none 0 0, .int .i64 0, .slice none 0 0, .int .i64 t.carry] 28, rowI A1 c1 t.a.digits, .blk w.heap.size [.int .i64 0, .slice none 0 0, .int .i64 0, .slice none 0 0, .int .i64 0, .slice none 0 0, .int .i64 0] 28]) (((hK1.sw1.st 0 _).st 1 _).sw2.st 0 _) ?_; intro w4 hK2
      clear a1 a2 a3 b1 b2 b3 d1 d2 d3 hK1
      refine (K2.out _ hy1 _).mono ?_; rintro e w5 ⟨A2, c2, y2, rfl, hy2, ho, hw⟩
      have hK3 := hK2.addI hw ho
      clear hw ho hK2
      obtain ⟨b1, b2, b3, a1, a2, a3, d1, d2, d3, -⟩ := hK3.cells
      go_wp2_with fail
      refine Calls.kn (m := [.blk g2 [.bool ok1, .bool ok2, .bool false] 117, .blk g1 [.int .i64 t.a.base, .slice A1 t.a.digits.length c1, .int .i64 t.b.base, .slice A2 t.b.digits.length c2, .int .i64 0, .slice none 0 0, .int .i64 t.carry] 28, rowI A2 c2 t.b.digits, rowI A1 c1 t.a.digits, .blk w.heap.size [.int .i64 0, .slice none 0 0, .int .i64 0, .slice none 0 0, .int .i64 0, .slice none 0 0, .int .i64 0] 28]) (((hK3.sw2.st 2 _).st 3 _).sw2.st 1 _) ?_; intro w6 hK4
      clear a1 a2 a3 b1 b2 b3 d1 d2 d3 hK3
      refine (K3.out _ hy2 _).mono ?_; rintro e w7 ⟨A3, c3, y3, rfl, hy3, ho, hw⟩
      have hK5 := hK4.addI hw ho
      clear hw ho hK4 hy1 hy2 hy3
      obtain ⟨b1, b2, b3, a1, a2, a3, d1, d2, d3, -⟩ := hK5.cells
      go_wp2_with (refine wpList.kn (m := [.blk g2 [.bool ok1, .bool ok2, .bool ok3] 117, .blk g1 [.int .i64 t.a.base, .slice A1 t.a.digits.length c1, .int .i64 t.b.base, .slice A2 t.b.digits.length c2, .int .i64 t.s.base, .slice A3 t.s.digits.length c3, .int .i64 t.carry] 28, rowI A3 c3 t.s.digits, rowI A2 c2 t.b.digits, rowI A1 c1 t.a.digits, .blk w.heap.size [.int .i64 0, .slice none 0 0, .int .i64 0, .slice none 0 0, .int .i64 0, .slice none 0 0, .int .i64 0] 28]) (((hK5.sw2.st 4 _).st 5 _).sw2.st 2 _) ?_; intro w8 hK6; clear a1 a2 a3 b1 b2 b3 d1 d2 d3; obtain ⟨b1, b2, b3, a1, a2, a3, d1, d2, d3, -⟩ := hK6.cells)
      clear a1 a2 a3 b1 b2 b3 d1 d2 d3 hK5 K1 K2 K3
      have r3 := hK6.drop.drop.ownI.ri
      have r2 := hK6.drop.drop.drop.ownI.ri
      have r1 := hK6.drop.drop.drop.drop.ownI.ri
      rcases hv : vmach t with _ | _
      · have HU := Lib.hid (unpM_none (bs := strB s) (by rw [HU.out, hv]; rfl))
        have KP := Lib.hid (PackMachine_false t A1 A2 A3 c1 c2 c3 w8 r1 r2 r3 ⟨by unfold SmallReg; omega, by unfold SmallReg; omega, by unfold SmallReg; omega⟩ hv)
        clear r1 r2 r3 hv HOK
        refine KP.out.mono ?_; rintro e w9 ⟨rfl, hw⟩
        have hK7 := hK6.keep hw
        clear hw hK6 KP
        obtain ⟨b1, b2, b3, a1, a2, a3, d1, d2, d3, -⟩ := hK7.cells
        have HE3 := fun W => eq3B ok1 ok2 ok3 W
        cases ok1 <;> cases ok2 <;> cases ok3
        all_goals
          go_wp2_with fail
          refine bodyPost_ret (v := .tuple #[.agg #[.int .i64 0, .slice none 0 0, .int .i64 0, .slice none 0 0, .int .i64 0, .slice none 0 0, .int .i64 0], .int .i64 8]) (by simp [results, Try.results37, go_sem, d1, d2, d3]) rfl ⟨none, 0, none, 0, none, 0, by rw [HU.out.1, HU.out.2]; rfl, ?_⟩
          rw [HU.out.1]
          exact (((((((((hK7.sw5.st 0 (.int .i64 0)).st 1 (.slice none 0 0)).st 2 (.int .i64 0)).st 3 (.slice none 0 0)).st 4 (.int .i64 0)).st 5 (.slice none 0 0)).st 6 (.int .i64 0)).bare.nilRow _ _).nilRow _ _).nilRow _ _
      · obtain ⟨rfl, rfl, rfl⟩ := HOK.out hv
        have KP := Lib.hid (PackMachine_true t A1 A2 A3 c1 c2 c3 w8 r1 r2 r3 hv)
        have HV := Lib.hid hv
        clear r1 r2 r3 hv HOK
        refine KP.out.mono ?_; rintro e w9 ⟨rfl, hw⟩
        have hK7 := hK6.keep hw
        clear hw hK6 KP
        obtain ⟨b1, b2, b3, a1, a2, a3, d1, d2, d3, -⟩ := hK7.cells
        have HE3 := fun W => eq3B true true true W
        rcases hq : (packM t == s.toList) with _ | _
        · have HU := Lib.hid (unpM_none (bs := strB s) (by rw [HU.out, HV.out]; rw [strB_toList, HC.out, beq_eq_false_iff_ne] at hq; simp [hq]))
          go_wp2_with fail
          refine bodyPost_ret (v := .tuple #[.agg #[.int .i64 0, .slice none 0 0, .int .i64 0, .slice none 0 0, .int .i64 0, .slice none 0 0, .int .i64 0], .int .i64 8]) (by simp [results, Try.results37, go_sem, d1, d2, d3]) rfl ⟨none, 0, none, 0, none, 0, by rw [HU.out.1, HU.out.2]; rfl, ?_⟩
          rw [HU.out.1]
          exact (((((((((hK7.sw5.st 0 (.int .i64 0)).st 1 (.slice none 0 0)).st 2 (.int .i64 0)).st 3 (.slice none 0 0)).st 4 (.int .i64 0)).st 5 (.slice none 0 0)).st 6 (.int .i64 0)).bare.nilRow _ _).nilRow _ _).nilRow _ _
        · have HU := Lib.hid (unpM_some (bs := strB s) (r := t) (by rw [HU.out, HV.out]; rw [strB_toList, HC.out, beq_iff_eq] at hq; simp [hq]))
          go_wp2_with fail
          have hK8 := (((((((hK7.sw5.st 0 (.int .i64 t.a.base)).st 1 (.slice A1 t.a.digits.length c1)).st 2 (.int .i64 t.b.base)).st 3 (.slice A2 t.b.digits.length c2)).st 4 (.int .i64 t.s.base)).st 5 (.slice A3 t.s.digits.length c3)).st 6 (.int .i64 t.carry))
          refine bodyPost_ret (v := .tuple #[.agg #[.int .i64 t.a.base, .slice A1 t.a.digits.length c1, .int .i64 t.b.base, .slice A2 t.b.digits.length c2, .int .i64 t.s.base, .slice A3 t.s.digits.length c3, .int .i64 t.carry], .int .i64 0]) (by simp [results, Try.results37, go_sem, d1, d2, d3]) rfl ⟨A1, c1, A2, c2, A3, c3, by rw [HU.out.1, HU.out.2], ?_⟩
          rw [HU.out.1]
          exact hK8.drop.drop.drop
  · have HU := Lib.hid (unpM_none (bs := strB s) (by
      have hl := strB_len s
      cases h : strB s with
      | nil => rfl
      | cons a l =>
        cases l with
        | nil => rfl
        | cons b l => rw [h] at hl; simp at hl; omega))
    have hi3 : (s.size : Int) < 2 := by omega
    go_enter Try.func37, Try.ntmps37
    go_wp2_with fail
    have hK := (Kn.nil w).al [.int .i64 0, .slice none 0 0, .int .i64 0, .slice none 0 0, .int .i64 0, .slice none 0 0, .int .i64 0] 28
    have d1 : True := trivial
    have d2 : True := trivial
    have d3 : True := trivial
    refine bodyPost_ret (v := .tuple #[.agg #[.int .i64 0, .slice none 0 0, .int .i64 0, .slice none 0 0, .int .i64 0, .slice none 0 0, .int .i64 0], .int .i64 8]) (by simp [results, Try.results37, go_sem, d1, d2, d3]) rfl ⟨none, 0, none, 0, none, 0, by rw [HU.out.1, HU.out.2]; rfl, ?_⟩
    rw [HU.out.1]
    exact ((hK.bare.nilRow _ _).nilRow _ _).nilRow _ _
end Go.Proofs.Ytkfbfainhmkkdaa

namespace Go.Proofs.Ytkfbfainhmkkdaa
open Go.RowKit Go.Sort
/-- a number of at most k bytes, seven bits in each; and what is behind it -/
def decV : Nat → List UInt8 → Option (Nat × List UInt8)
  | 0, _ => none
  | _ + 1, [] => none
  | k + 1, b :: tl => if b.toNat < 128 then some (b.toNat, tl) else (decV k tl).map fun p => (b.toNat % 128 + 128 * p.1, p.2)
theorem decV_var : ∀ (k n : Nat) (more : List UInt8), n < 128 ^ (k + 1) → decV (k + 1) (varB n ++ more) = some (n, more) := by
  intro k
  induction k with
  | zero =>
    intro n more h
    have h1 : n < 128 := by simpa using h
    rw [varB_lt h1, List.cons_append, List.nil_append]
    simp only [decV]
    have : (UInt8.ofNat n).toNat = n := by rw [UInt8.toNat_ofNat']; omega
    rw [this, if_pos h1]
  | succ k ih =>
    intro n more h
    by_cases h1 : n < 128
    · rw [varB_lt h1, List.cons_append, List.nil_append]
      simp only [decV]
      have : (UInt8.ofNat n).toNat = n := by rw [UInt8.toNat_ofNat']; omega
      rw [this, if_pos h1]
    · rw [varB_ge h1, List.cons_append]
      have h2 : (UInt8.ofNat (128 + n % 128)).toNat = 128 + n % 128 := by rw [UInt8.toNat_ofNat']; omega
      rw [decV, h2, if_neg (by omega), ih (n / 128) more (by rw [Nat.pow_succ] at h; omega)]
      simp; omega
theorem decV_nil (k : Nat) : decV k [] = none := by cases k <;> rfl
def decI (f : Nat) : List UInt8 → Option (Ins × List UInt8)
  | [] => none
  | b :: tl => (decV f tl).map fun p => (⟨b.toNat, p.1⟩, p.2)
theorem decI_ins (f : Nat) (hf : 6 ≤ f) {x : Ins} (h : instrOk x.op x.arg = true) (more : List UInt8) : decI f (insB x ++ more) = some (x, more) := by
  have hb := instrOk_bd h
  unfold insB
  rw [List.cons_append]
  simp only [decI]
  obtain ⟨g, rfl⟩ : ∃ g, f = g + 1 := ⟨f - 1, by omega⟩
  rw [decV_var g _ more (Nat.lt_of_lt_of_le (show x.arg.toNat < 128 ^ 6 by omega) (Nat.pow_le_pow_right (by omega) hf))]
  have h1 : ((toB x.op).toNat : Int) = x.op := by unfold toB; rw [UInt8.toNat_ofNat']; omega
  have h2 : ((x.arg.toNat : Nat) : Int) = x.arg := by omega
  simp only [Option.map_some, h1, h2]
def decL (f : Nat) : Nat → List UInt8 → Option (List Ins × List UInt8)
  | 0, bs => some ([], bs)
  | k + 1, bs => (decI f bs).bind fun p => (decL f k p.2).map fun q => (p.1 :: q.1, q.2)
theorem decL_prog (f : Nat) (hf : 6 ≤ f) : ∀ (xs : List Ins), (∀ x ∈ xs, instrOk x.op x.arg = true) → ∀ more, decL f xs.length (xs.flatMap insB ++ more) = some (xs, more)
  | [], _, more => by simp [decL]
  | x :: xs, h, more => by
    rw [List.flatMap_cons, List.append_assoc, List.length_cons]
    simp only [decL]
    rw [decI_ins f hf (h x (by simp))]
    simp only [Option.bind_some]
    rw [decL_prog f hf xs (fun y hy => h y (by simp [hy])) more]; rfl
/-- the program of bytes -/
def unpP : List UInt8 → Option (List Ins)
  | b :: cnt :: r => (decL 7 cnt.toNat r).bind fun p => if vprog p.1 && decide (packP p.1 = b :: cnt :: r) then some p.1 else none
  | _ => none
theorem unpP_iff (bs : List UInt8) (xs : List Ins) : unpP bs = some xs ↔ vprog xs = true ∧ packP xs = bs := by
  constructor
  · intro h
    match bs with
    | [] => cases h
    | [_] => cases h
    | b :: cnt :: r =>
      simp only [unpP] at h
      obtain ⟨p, -, h2⟩ := Option.bind_eq_some_iff.1 h
      split at h2
      · rename_i h3
        injection h2 with h2
        simp only [Bool.and_eq_true, decide_eq_true_eq] at h3
        rw [h2] at h3; exact h3
      · cases h2
  · rintro ⟨h1, rfl⟩
    obtain ⟨h120, hall⟩ := vprog_each h1
    have hd := decL_prog 7 (by omega) xs hall [UInt8.ofNat (sumB (progB xs) / 256).toNat, UInt8.ofNat (sumB (progB xs) % 256).toNat]
    have hp : packP xs = 80 :: UInt8.ofNat xs.length :: (xs.flatMap insB ++ [UInt8.ofNat (sumB (progB xs) / 256).toNat, UInt8.ofNat (sumB (progB xs) % 256).toNat]) := rfl
    have hc : (UInt8.ofNat xs.length).toNat = xs.length := by rw [UInt8.toNat_ofNat']; omega
    rw [hp]
    simp only [unpP]
    rw [hc, hd]
    simp only [Option.bind_some]
    rw [← hp, h1]; simp
def tiX (bs : List UInt8) : Ins := ((decI 7 bs).map (·.1)).getD ⟨0, 0⟩
def tiR (bs : List UInt8) : List UInt8 := ((decI 7 bs).map (·.2)).getD []
def tiOk (bs : List UInt8) : Bool := (decI 7 bs).isSome
theorem ti_none {bs : List UInt8} (h : decI 7 bs = none) : tiX bs = ⟨0, 0⟩ ∧ tiR bs = [] ∧ tiOk bs = false := by simp [tiX, tiR, tiOk, h]
theorem ti_some {bs : List UInt8} {x : Ins} {r : List UInt8} (h : decI 7 bs = some (x, r)) : tiX bs = x ∧ tiR bs = r ∧ tiOk bs = true := by simp [tiX, tiR, tiOk, h]
set_option maxRecDepth 100000 in
set_option maxHeartbeats 3200000 in
theorem takeInstr_any (s : ByteArray) (w : World) (hs : s.size ≤ 1048576) :
    Calls Try.prog 100 #[.string s] w fun e w' => ∃ r, e = .returned (.tuple #[.agg #[.int .i64 (tiX (strB s)).op, .int .i64 (tiX (strB s)).arg], .string r, .bool (tiOk (strB s))]) ∧ strB r = tiR (strB s) ∧ Below w.heap.size w w' := by
  have HSL := Lib.hid (strB_len s)
  by_cases h0 : 0 < s.size
  · have hE := str_nonempty h0
    have hc := strB_cons h0
    obtain ⟨b, hb⟩ : ∃ b, s[0] = b := ⟨_, rfl⟩
    rw [hb] at hc
    have hb2 : b.toNat < 256 := b.toNat_lt
    have hi : (0 : Int) < (s.size : Int) := by omega
    have HD : Hid (decI 7 (strB s) = (decV 7 ((strB s).drop 1)).map fun p => (⟨b.toNat, p.1⟩, p.2)) := by simp only [Hid]; rw [hc]; rfl
    clear hc
    go_enter Try.func100, Try.ntmps100
    have hK0 := (Kn.nil w).al [.int .i64 0, .int .i64 0] 46
    have hK1 := hK0.al [.int .i64 b.toNat, .int .i64 0] 46
    have hap := hK1.apart
    simp [Ent.fp] at hap hK1
    go_wp2_with fail
    go_loopw [6, 7] (fun uu ii wr => ∃ (i acc : Nat), 1 ≤ i ∧ i ≤ 8 ∧ ii = .int .i64 i ∧ uu = .int .i64 ((128 ^ (i - 1) : Nat) : Int) ∧ acc < 128 ^ (i - 1) ∧ i ≤ s.size ∧
      decV 7 ((strB s).drop 1) = (decV (8 - i) ((strB s).drop i)).map (fun p => (acc + 128 ^ (i - 1) * p.1, p.2)) ∧
      Kn w [.blk (w.heap.size + 1) [.int .i64 b.toNat, .int .i64 (acc : Int)] 46, .blk w.heap.size [.int .i64 0, .int .i64 0] 46] wr) (fun _ i _ => 8 - (intOf i).toNat)
    case atStart => exact ⟨1, 0, Nat.le_refl _, by omega, rfl, rfl, by decide, by omega, by simp, hK1⟩
    case round =>
      obtain ⟨i, acc, hi1, hi8, rfl, rfl, hacc, his, hdv, hK⟩ := hrel
      have HV := Lib.hid hdv
      clear hdv hK0 hK1
      obtain ⟨a1, a2, a3, d1, d2, d3, -⟩ := hK.cells
      by_cases hlt : i < s.size
      · by_cases hlt8 : i < 8
        · obtain ⟨q, hq⟩ : ∃ q : UInt8, s[i] = q := ⟨_, rfl⟩
          obtain ⟨z, hz⟩ : ∃ z : Nat, q.toNat = z := ⟨_, rfl⟩
          have hz2 : z < 256 := by rw [← hz]; exact q.toNat_lt
          have hdr : (strB s).drop i = q :: (strB s).drop (i + 1) := by
            rw [List.drop_eq_getElem_cons (by rw [HSL.out]; exact hlt), ← strB_get s hlt, hq]
          obtain ⟨U, hU⟩ : ∃ U : Nat, 128 ^ (i - 1) = U := ⟨_, rfl⟩
          have hU2 : U ≤ 4398046511104 := by
            rw [← hU]; exact Nat.le_trans (Nat.pow_le_pow_right (by omega) (show i - 1 ≤ 6 by omega)) (by decide)
          have hU3 : 128 ^ (i + 1 - 1) = U * 128 := by rw [← hU, show i + 1 - 1 = (i - 1) + 1 by omega, Nat.pow_succ]
          rw [hU] at hacc HV
          rw [hU]
          have HU3 := Lib.hid hU3
          have hm : z % 128 * U ≤ 127 * U := Nat.mul_le_mul_right _ (by omega)
          obtain ⟨M, hM⟩ : ∃ M : Nat, z % 128 * U = M := ⟨_, rfl⟩
          have hMi : ((z : Int) % 128) * (U : Int) = (M : Int) := by rw [← hM]; simp
          rw [hM] at hm
          have x1 : IntKind.u8.wrap ((z : Int) % 128) = (z : Int) % 128 := wrapB (by omega)
          have x2 : IntKind.i64.wrap ((z : Int) % 128) = (z : Int) % 128 := wrapI (by omega)
          have x3 : IntKind.i64.wrap (M : Int) = (M : Int) := wrapI (by omega)
          have x4 : IntKind.i64.wrap ((acc : Int) + (M : Int)) = (acc : Int) + (M : Int) := wrapI (by omega)
          have x5 : IntKind.i64.wrap ((U : Int) * 128) = (U : Int) * 128 := wrapI (by omega)
          have i0 : (0 : Int) ≤ (i : Int) := by omega
          have i1 : (i : Int) < (s.size : Int) := by omega
          have i2 : (i : Int) < 8 := by omega
          have hdc : decV (8 - i) ((strB s).drop i) = if z < 128 then some (z, (strB s).drop (i + 1)) else (decV (8 - (i + 1)) ((strB s).drop (i + 1))).map fun p => (z % 128 + 128 * p.1, p.2) := by
            rw [hdr, show 8 - i = (8 - (i + 1)) + 1 by omega, decV, hz]
          have HC := Lib.hid hdc
          have HM := Lib.hid hM
          have HU0 := Lib.hid hU
          clear hdc hdr hM hU hU3
          go_wp2_with fail
          go_region
          have hK2 := (hK.st 1 (.int .i64 ((acc : Int) + (M : Int)))).drew
          by_cases hz128 : z < 128
          · have i5 : (z : Int) < 128 := by omega
            have i6 : (i : Int) + 1 ≤ (s.size : Int) := by omega
            have HU : Hid (tiX (strB s) = ⟨b.toNat, ((acc + M : Nat) : Int)⟩ ∧ tiR (strB s) = (strB s).drop (i + 1) ∧ tiOk (strB s) = true) := by
              refine ti_some ?_
              rw [HD.out, HV.out, HC.out, if_pos hz128]
              have h1 : U * z = M := by rw [← HM.out, Nat.mod_eq_of_lt hz128, Nat.mul_comm]
              simp [h1]
            clear hz128
            go_wp2_with (refine wpList.kn hK2 ?_; clear hK2; intro w2 hK3; clear a1 a2 a3 d1 d2 d3; obtain ⟨a1, a2, a3, d1, d2, d3, -⟩ := hK3.cells)
            go_region
            all_goals
              go_wp2_with fail
              have hK4 := ((hK3.sw1.st 0 (.int .i64 (b.toNat : Int))).st 1 (.int .i64 ((acc : Int) + (M : Int)))).drew
              refine bodyPost_ret (v := .tuple #[.agg #[.int .i64 (b.toNat : Int), .int .i64 ((acc : Int) + (M : Int))], .string (s.extract (i + 1) s.size), .bool true]) (by simp [results, Try.results100, go_sem, d1, d2, d3]) rfl ⟨_, by rw [HU.out.1, HU.out.2.2, Int.natCast_add], by rw [HU.out.2.1]; exact strB_drop s _, hK4.below⟩
          · have i5 : ¬ (z : Int) < 128 := by omega
            have HN : Hid (decV 7 ((strB s).drop 1) = (decV (8 - (i + 1)) ((strB s).drop (i + 1))).map (fun p => ((acc + M) + U * 128 * p.1, p.2))) := by
              simp only [Hid]
              rw [HV.out, HC.out, if_neg hz128, Option.map_map]
              congr 1
              funext p
              simp only [Function.comp]
              have h1 : U * (z % 128 + 128 * p.1) = M + U * 128 * p.1 := by rw [Nat.mul_add, ← HM.out, Nat.mul_comm U (z % 128), Nat.mul_assoc]
              rw [h1, Nat.add_assoc]
            clear hz128
            go_wp2_with fail
            go_roundw
            case rel => exact ⟨i + 1, acc + M, by omega, by omega, by go_num, by rw [HU3.out]; simp, by rw [HU3.out]; omega, by omega, by rw [HU3.out]; exact HN.out, hK2⟩
            case measure => simp [intOf]; omega
        · have HU : Hid (tiX (strB s) = ⟨0, 0⟩ ∧ tiR (strB s) = [] ∧ tiOk (strB s) = false) := by
            refine ti_none ?_
            rw [HD.out, HV.out, show 8 - i = 0 by omega]; rfl
          have i1 : (i : Int) < (s.size : Int) := by omega
          have i2 : ¬ (i : Int) < 8 := by omega
          go_wp2_with fail
          refine bodyPost_ret (v := .tuple #[.agg #[.int .i64 0, .int .i64 0], .string ⟨#[]⟩, .bool false]) (by simp [results, Try.results100, go_sem, d1, d2, d3]) rfl ⟨⟨#[]⟩, by rw [HU.out.1, HU.out.2.2], by rw [HU.out.2.1]; rfl, ?_⟩
          exact ((hK.sw1.st 0 _).st 1 _).below
      · have HU : Hid (tiX (strB s) = ⟨0, 0⟩ ∧ tiR (strB s) = [] ∧ tiOk (strB s) = false) := by
          refine ti_none ?_
          rw [HD.out, HV.out, List.drop_of_length_le (by rw [HSL.out]; omega), decV_nil]; rfl
        have i1 : ¬ (i : Int) < (s.size : Int) := by omega
        go_wp2_with fail
        refine bodyPost_ret (v := .tuple #[.agg #[.int .i64 0, .int .i64 0], .string ⟨#[]⟩, .bool false]) (by simp [results, Try.results100, go_sem, d1, d2, d3]) rfl ⟨⟨#[]⟩, by rw [HU.out.1, HU.out.2.2], by rw [HU.out.2.1]; rfl, ?_⟩
        exact ((hK.sw1.st 0 _).st 1 _).below
  · obtain rfl := size_zero (show s.size = 0 by omega)
    have HU := Lib.hid (ti_none (bs := strB ⟨#[]⟩) rfl)
    go_enter Try.func100, Try.ntmps100
    go_wp2_with fail
    have hK := (Kn.nil w).al [.int .i64 0, .int .i64 0] 46
    have d1 : True := trivial
    have d2 : True := trivial
    have d3 : True := trivial
    refine bodyPost_ret (v := .tuple #[.agg #[.int .i64 0, .int .i64 0], .string ⟨#[]⟩, .bool false]) (by simp [results, Try.results100, go_sem, d1, d2, d3]) rfl ⟨⟨#[]⟩, by rw [HU.out.1, HU.out.2.2], by rw [HU.out.2.1]; rfl, ?_⟩
    exact hK.below
end Go.Proofs.Ytkfbfainhmkkdaa

namespace Go.Proofs.Ytkfbfainhmkkdaa
open Go.RowKit Go.Sort
theorem toB_nat (p : UInt8) : toB (p.toNat : Int) = p := toB_byte p _ rfl
theorem unpM_spec (bs : List UInt8) (p : UInt8) (l : List UInt8) (hb : bodyOk 77 bs = true) (hl : bodyB 77 bs = p :: l) :
    unpM bs = if tkFine l && tkFine (tkRest l) && tkFine (tkRest (tkRest l)) && (tkRest (tkRest (tkRest l))).isEmpty && vmach ⟨tkReg l, tkReg (tkRest l), tkReg (tkRest (tkRest l)), p.toNat⟩ then some ⟨tkReg l, tkReg (tkRest l), tkReg (tkRest (tkRest l)), p.toNat⟩ else none := by
  have hbs := (body_iff 77 bs).1 hb
  rw [hl] at hbs
  obtain ⟨more, hmore⟩ : ∃ more, more = [UInt8.ofNat (sumB (77 :: p :: l) / 256).toNat, UInt8.ofNat (sumB (77 :: p :: l) % 256).toNat] := ⟨_, rfl⟩
  have hbs2 : bs = 77 :: p :: (l ++ more) := by rw [hbs, hmore]; rfl
  by_cases h : (tkFine l && tkFine (tkRest l) && tkFine (tkRest (tkRest l)) && (tkRest (tkRest (tkRest l))).isEmpty && vmach ⟨tkReg l, tkReg (tkRest l), tkReg (tkRest (tkRest l)), p.toNat⟩) = true
  · rw [if_pos h]
    simp only [Bool.and_eq_true] at h
    obtain ⟨⟨⟨⟨h1, h2⟩, h3⟩, h4⟩, h5⟩ := h
    have e1 := tk_bytes h1
    have e2 := tk_bytes h2
    have e3 := tk_bytes h3
    rw [List.isEmpty_iff.1 h4, List.append_nil] at e3
    obtain ⟨-, m1, m2⟩ := tk_more l more (tkFine_ok h1)
    obtain ⟨-, m3, m4⟩ := tk_more (tkRest l) more (tkFine_ok h2)
    obtain ⟨-, m5, -⟩ := tk_more (tkRest (tkRest l)) more (tkFine_ok h3)
    have hp : packM ⟨tkReg l, tkReg (tkRest l), tkReg (tkRest (tkRest l)), p.toNat⟩ = bs := by
      unfold packM
      simp only []
      rw [← e3, List.append_assoc, ← e2, ← e1, toB_nat]; exact hbs.symm
    rw [hbs2]
    simp only [unpM]
    rw [m1, m2, m3, m4, m5, ← hbs2, hp, h5]; simp
  · rw [if_neg h, hbs2]
    simp only [unpM]
    rw [if_neg]
    intro h2
    simp only [Bool.and_eq_true, decide_eq_true_eq] at h2
    obtain ⟨h3, h4⟩ := h2
    apply h
    obtain ⟨t, ht⟩ : ∃ t : Tri, (⟨tkReg (l ++ more), tkReg (tkRest (l ++ more)), tkReg (tkRest (tkRest (l ++ more))), p.toNat⟩ : Tri) = t := ⟨_, rfl⟩
    have hc : t.carry = p.toNat := by rw [← ht]
    rw [ht] at h3 h4
    rw [← hbs2] at h4
    obtain ⟨k1, k2, k3, -⟩ := vmach_five h3
    have hl2 : l = regB t.a.base t.a.digits ++ (regB t.b.base t.b.digits ++ (regB t.s.base t.s.digits ++ [])) := by
      rw [hbs] at h4
      have h5 := sealB_inj h4
      injection h5 with _ h5
      injection h5 with _ h5
      rw [List.append_nil, ← List.append_assoc]; exact h5.symm
    obtain ⟨-, q2, q3, q4⟩ := tk_regB t.a.base t.a.digits (regB t.b.base t.b.digits ++ (regB t.s.base t.s.digits ++ [])) k1
    obtain ⟨-, r2, r3, r4⟩ := tk_regB t.b.base t.b.digits (regB t.s.base t.s.digits ++ []) k2
    obtain ⟨-, s2, s3, s4⟩ := tk_regB t.s.base t.s.digits [] k3
    rw [hl2, q2, q3, q4, r2, r3, r4, s2, s3, s4, ← hc]
    simp only [Bool.and_eq_true]
    simp
    exact h3
theorem unpM_not (bs : List UInt8) (h : bodyOk 77 bs = false ∨ bodyB 77 bs = []) : unpM bs = none := by
  match bs with
  | [] => rfl
  | [_] => rfl
  | b0 :: p :: r0 =>
    simp only [unpM]
    rw [if_neg]
    intro h2
    simp only [Bool.and_eq_true, decide_eq_true_eq] at h2
    obtain ⟨-, h4⟩ := h2
    rw [← h4] at h
    unfold packM at h
    obtain ⟨k1, k2⟩ := body_of 77 (toB (⟨tkReg r0, tkReg (tkRest r0), tkReg (tkRest (tkRest r0)), p.toNat⟩ : Tri).carry :: (regB (tkReg r0).base (tkReg r0).digits ++ regB (tkReg (tkRest r0)).base (tkReg (tkRest r0)).digits ++ regB (tkReg (tkRest (tkRest r0))).base (tkReg (tkRest (tkRest r0))).digits))
    simp only [] at h k1 k2
    rcases h with h | h
    · rw [k1] at h; cases h
    · rw [k2] at h; cases h
theorem takeS (s : ByteArray) (bs : List UInt8) (hb : strB s = bs) (hl : bs.length ≤ 1048576) (R : Reg) (hR : tkReg bs = R) (rest : List UInt8) (hr : tkRest bs = rest) (ok : Bool) (ho : tkFine bs = ok) (w : World) :
    Calls Try.prog 103 #[.string s] w fun e w' => ∃ A c r, e = .returned (.tuple #[.agg #[.int .i64 R.base, .slice A R.digits.length c], .string r, .bool ok]) ∧ strB r = rest ∧ OwnI w' w.heap.size (.slice A R.digits.length c) R.digits ∧ Below w.heap.size w w' := by
  subst hb; subst hR; subst hr; subst ho
  exact l27Register_any s w (by rw [← strB_len]; omega)
set_option maxRecDepth 100000 in
set_option maxHeartbeats 3200000 in
theorem specUnpackMachine_any (s : ByteArray) (w : World) (hs : s.size ≤ 1048576) :
    Calls Try.prog 43 #[.string s] w fun e w' => ∃ A1 c1 A2 c2 A3 c3, e = .returned (.tuple #[.agg #[.int .i64 (unpMach (strB s)).a.base, .slice A1 (unpMach (strB s)).a.digits.length c1, .int .i64 (unpMach (strB s)).b.base, .slice A2 (unpMach (strB s)).b.digits.length c2, .int .i64 (unpMach (strB s)).s.base, .slice A3 (unpMach (strB s)).s.digits.length c3, .int .i64 (unpMach (strB s)).carry], .int .i64 (unpMCode (strB s))]) ∧
      Kn w [rowI A3 c3 (unpMach (strB s)).s.digits, rowI A2 c2 (unpMach (strB s)).b.digits, rowI A1 c1 (unpMach (strB s)).a.digits] w' := by
  have HS := Lib.hid (unpM_spec (strB s))
  have HN := Lib.hid (unpM_not (strB s))
  have hbl : (bodyB 77 (strB s)).length ≤ 1048576 := by
    unfold bodyB; have := strB_len s
    split
    · rw [List.length_take, List.length_drop]; omega
    · simp
  have KB := fun W => l27Body_any s 77 W hs
  obtain ⟨ok, hok⟩ : ∃ b, bodyOk 77 (strB s) = b := ⟨_, rfl⟩
  obtain ⟨body, hbd⟩ : ∃ b, bodyB 77 (strB s) = b := ⟨_, rfl⟩
  rw [hok, hbd] at HS HN KB
  rw [hbd] at hbl
  have KB := Lib.hid KB
  clear hok hbd
  go_enter Try.func43, Try.ntmps43
  go_wp2_with fail
  refine Calls.kn ((Kn.nil w).al [.int .i64 0, .slice none 0 0, .int .i64 0, .slice none 0 0, .int .i64 0, .slice none 0 0, .int .i64 0] 28) ?_; intro w1 hK1
  refine (KB.out w1).mono ?_; rintro e w2 ⟨r, rfl, hr, hw⟩
  have hK2 := hK1.keep hw
  obtain ⟨d1, d2, d3, -⟩ := hK2.cells
  clear hw hK1
  cases ok with
  | false =>
    have HU := Lib.hid (unpM_none (HN.out (.inl rfl)))
    go_wp2_with fail
    refine bodyPost_ret (v := .tuple #[.agg #[.int .i64 0, .slice none 0 0, .int .i64 0, .slice none 0 0, .int .i64 0, .slice none 0 0, .int .i64 0], .int .i64 8]) (by simp [results, Try.results43, go_sem, d1, d2, d3]) rfl ⟨none, 0, none, 0, none, 0, by rw [HU.out.1, HU.out.2]; rfl, ?_⟩
    rw [HU.out.1]
    exact (((((((((hK2.st 0 (.int .i64 0)).st 1 (.slice none 0 0)).st 2 (.int .i64 0)).st 3 (.slice none 0 0)).st 4 (.int .i64 0)).st 5 (.slice none 0 0)).st 6 (.int .i64 0)).bare.nilRow _ _).nilRow _ _).nilRow _ _
  | true =>
    cases hbc : body with
    | nil =>
      have HU := Lib.hid (unpM_none (HN.out (.inr hbc)))
      have hem : r.toList.isEmpty = true := by rw [strB_toList, hr, hbc]; rfl
      clear hbc
      go_wp2_with fail
      refine bodyPost_ret (v := .tuple #[.agg #[.int .i64 0, .slice none 0 0, .int .i64 0, .slice none 0 0, .int .i64 0, .slice none 0 0, .int .i64 0], .int .i64 8]) (by simp [results, Try.results43, go_sem, d1, d2, d3]) rfl ⟨none, 0, none, 0, none, 0, by rw [HU.out.1, HU.out.2]; rfl, ?_⟩
      rw [HU.out.1]
      exact (((((((((hK2.st 0 (.int .i64 0)).st 1 (.slice none 0 0)).st 2 (.int .i64 0)).st 3 (.slice none 0 0)).st 4 (.int .i64 0)).st 5 (.slice none 0 0)).st 6 (.int .i64 0)).bare.nilRow _ _).nilRow _ _).nilRow _ _
    | cons p l =>
      have hem : r.toList.isEmpty = false := by rw [strB_toList, hr, hbc]; rfl
      have HS := Lib.hid (HS.out p l rfl hbc)
      rw [hbc] at hr hbl
      have hrs : 0 < r.size := by rw [← strB_len, hr]; simp
      have hr1 : r[0] = p := by have h := strB_cons hrs; rw [hr] at h; injection h with h _; exact h.symm
      obtain ⟨x0, hx0⟩ : ∃ x, r.extract 1 r.size = x := ⟨_, rfl⟩
      have hx : strB x0 = l := by rw [← hx0, strB_tail, hr]; rfl
      have hl0 : l.length ≤ 1048576 := by simp at hbl; omega
      obtain ⟨t, ht⟩ : ∃ t : Tri, (⟨tkReg l, tkReg (tkRest l), tkReg (tkRest (tkRest l)), p.toNat⟩ : Tri) = t := ⟨_, rfl⟩
      have hta : tkReg l = t.a := by rw [← ht]
      have htb : tkReg (tkRest l) = t.b := by rw [← ht]
      have hts : tkReg (tkRest (tkRest l)) = t.s := by rw [← ht]
      have htc : (p.toNat : Int) = t.carry := by rw [← ht]
      have n1 := tkReg_len l; rw [hta] at n1
      have n2 := tkReg_len (tkRest l); rw [htb] at n2
      have n3 := tkReg_len (tkRest (tkRest l)); rw [hts] at n3
      have HS := HS.out
      rw [ht] at HS
      obtain ⟨ok1, hok1⟩ : ∃ b, tkFine l = b := ⟨_, rfl⟩
      obtain ⟨ok2, hok2⟩ : ∃ b, tkFine (tkRest l) = b := ⟨_, rfl⟩
      obtain ⟨ok3, hok3⟩ : ∃ b, tkFine (tkRest (tkRest l)) = b := ⟨_, rfl⟩
      obtain ⟨third, hth⟩ : ∃ b, tkRest (tkRest (tkRest l)) = b := ⟨_, rfl⟩
      rw [hok1, hok2, hok3, hth] at HS
      have HS := Lib.hid HS
      have K1 := Lib.hid (fun W => takeS x0 l hx hl0 t.a hta _ rfl ok1 hok1 W)
      have K2 := Lib.hid (fun x (hx : strB x = tkRest l) W => takeS x _ hx (Nat.le_trans (tkRest_len _) hl0) t.b htb _ rfl ok2 hok2 W)
      have K3 := Lib.hid (fun x (hx : strB x = tkRest (tkRest l)) W => takeS x _ hx (Nat.le_trans (tkRest_len _) (Nat.le_trans (tkRest_len _) hl0)) t.s hts third hth ok3 hok3 W)
      have HX := Lib.hid hx0
      have hi1 : (1 : Int) ≤ (r.size : Int) := by omega
      have hi0 : (0 : Int) < (r.size : Int) := by omega
      have HTC := Lib.hid htc
      have hp2 : p.toNat < 256 := p.toNat_lt
      clear hbc hr hx ht hta htb hts hok1 hok2 hok3 hth hx0 htc hbl
      go_wp2_with fail
      rw [HX.out]
      refine (K1.out _).mono ?_; rintro e w3 ⟨A1, c1, y1, rfl, hy1, ho, hw⟩
      have hK3 := hK2.addI hw ho
      clear hw ho d1 d2 d3 hK2
      obtain ⟨d1, d2, d3, -⟩ := hK3.cells
      go_wp2_with (first | (refine wpList.kn (hK3.al [.int .i64 0, .slice none 0 0] 26) ?_; intro w4 hK4; obtain ⟨a1, a2, a3, -⟩ := hK4.cells) | (refine wpList.kn ((hK4.st 0 _).st 1 _) ?_; intro w5 hK5; clear hK4 hK3 a1 a2 a3))
      refine (K2.out _ hy1 _).mono ?_; rintro e w6 ⟨A2, c2, y2, rfl, hy2, ho, hw⟩
      have hK6 := hK5.addI hw ho
      clear hw ho d1 d2 d3 hK5
      go_wp2_with (first | (refine wpList.kn (hK6.al [.int .i64 0, .slice none 0 0] 26) ?_; intro w7 hK7; obtain ⟨a1, a2, a3, -⟩ := hK7.cells) | (refine wpList.kn ((hK7.st 0 _).st 1 _) ?_; intro w8 hK8; clear hK7 hK6 a1 a2 a3))
      refine (K3.out _ hy2 _).mono ?_; rintro e w9 ⟨A3, c3, y3, rfl, hy3, ho, hw⟩
      have hK9 := hK8.addI hw ho
      clear hw ho hK8
      go_upto_region 7 with (first | (refine wpList.kn (hK9.al [.int .i64 0, .slice none 0 0] 26) ?_; intro w10 hK10; obtain ⟨a1, a2, a3, -⟩ := hK10.cells) | (refine wpList.kn ((hK10.st 0 _).st 1 _) ?_; intro w11 hK11; clear hK10 hK9 a1 a2 a3))
      obtain ⟨p1, p2, p3, q1, q2, q3, s1, s2, s3, d1, d2, d3, -⟩ := hK11.cells
      go_cut [15] (fun mm wx => ∃ g, mm = .pointer (some ⟨g, 0, none⟩) ∧ Kn w [.blk g [.int .i64 t.a.base, .slice A1 t.a.digits.length c1, .int .i64 t.b.base, .slice A2 t.b.digits.length c2, .int .i64 t.s.base, .slice A3 t.s.digits.length c3, .int .i64 t.carry] 28, rowI A3 c3 t.s.digits, rowI A2 c2 t.b.digits, rowI A1 c1 t.a.digits, .blk w.heap.size [.int .i64 0, .slice none 0 0, .int .i64 0, .slice none 0 0, .int .i64 0, .slice none 0 0, .int .i64 0] 28] wx)
      case first =>
        have hA := ((hK11.al [.int .i64 t.a.base, .slice A1 t.a.digits.length c1, .int .i64 t.b.base, .slice A2 t.b.digits.length c2, .int .i64 t.s.base, .slice A3 t.s.digits.length c3, .int .i64 t.carry] 28).drop1.drop2.drop3).drew
        go_region
        all_goals
          go_wp2_with fail
          go_meet
          rw [HTC.out]
          exact ⟨_, rfl, hA⟩
      case rest =>
        obtain ⟨g, rfl, hK12⟩ := hcut
        clear p1 p2 p3 q1 q2 q3 s1 s2 s3 d1 d2 d3 hK11 K1 K2 K3
        obtain ⟨a1, a2, a3, d1, d2, d3, -⟩ := hK12.cells
        have hem3 : y3.toList.isEmpty = third.isEmpty := by rw [strB_toList, hy3]
        cases ok1 with
        | false =>
          have HU := Lib.hid (unpM_none (HS.out))
          go_wp2_with fail
          refine bodyPost_ret (v := .tuple #[.agg #[.int .i64 0, .slice none 0 0, .int .i64 0, .slice none 0 0, .int .i64 0, .slice none 0 0, .int .i64 0], .int .i64 8]) (by simp [results, Try.results43, go_sem, d1, d2, d3]) rfl ⟨none, 0, none, 0, none, 0, by rw [HU.out.1, HU.out.2]; rfl, ?_⟩
          rw [HU.out.1]
          exact (((((((((hK12.sw4.st 0 (.int .i64 0)).st 1 (.slice none 0 0)).st 2 (.int .i64 0)).st 3 (.slice none 0 0)).st 4 (.int .i64 0)).st 5 (.slice none 0 0)).st 6 (.int .i64 0)).bare.nilRow _ _).nilRow _ _).nilRow _ _
        | true =>
        cases ok2 with
        | false =>
          have HU := Lib.hid (unpM_none (HS.out))
          go_wp2_with fail
          refine bodyPost_ret (v := .tuple #[.agg #[.int .i64 0, .slice none 0 0, .int .i64 0, .slice none 0 0, .int .i64 0, .slice none 0 0, .int .i64 0], .int .i64 8]) (by simp [results, Try.results43, go_sem, d1, d2, d3]) rfl ⟨none, 0, none, 0, none, 0, by rw [HU.out.1, HU.out.2]; rfl, ?_⟩
          rw [HU.out.1]
          exact (((((((((hK12.sw4.st 0 (.int .i64 0)).st 1 (.slice none 0 0)).st 2 (.int .i64 0)).st 3 (.slice none 0 0)).st 4 (.int .i64 0)).st 5 (.slice none 0 0)).st 6 (.int .i64 0)).bare.nilRow _ _).nilRow _ _).nilRow _ _
        | true =>
        cases ok3 with
        | false =>
          have HU := Lib.hid (unpM_none (HS.out))
          go_wp2_with fail
          refine bodyPost_ret (v := .tuple #[.agg #[.int .i64 0, .slice none 0 0, .int .i64 0, .slice none 0 0, .int .i64 0, .slice none 0 0, .int .i64 0], .int .i64 8]) (by simp [results, Try.results43, go_sem, d1, d2, d3]) rfl ⟨none, 0, none, 0, none, 0, by rw [HU.out.1, HU.out.2]; rfl, ?_⟩
          rw [HU.out.1]
          exact (((((((((hK12.sw4.st 0 (.int .i64 0)).st 1 (.slice none 0 0)).st 2 (.int .i64 0)).st 3 (.slice none 0 0)).st 4 (.int .i64 0)).st 5 (.slice none 0 0)).st 6 (.int .i64 0)).bare.nilRow _ _).nilRow _ _).nilRow _ _
        | true =>
        rcases he : third.isEmpty with _ | _
        · have HU := Lib.hid (unpM_none (bs := strB s) (by rw [HS.out, he]; rfl))
          rw [he] at hem3
          clear he
          go_wp2_with fail
          refine bodyPost_ret (v := .tuple #[.agg #[.int .i64 0, .slice none 0 0, .int .i64 0, .slice none 0 0, .int .i64 0, .slice none 0 0, .int .i64 0], .int .i64 8]) (by simp [results, Try.results43, go_sem, d1, d2, d3]) rfl ⟨none, 0, none, 0, none, 0, by rw [HU.out.1, HU.out.2]; rfl, ?_⟩
          rw [HU.out.1]
          exact (((((((((hK12.sw4.st 0 (.int .i64 0)).st 1 (.slice none 0 0)).st 2 (.int .i64 0)).st 3 (.slice none 0 0)).st 4 (.int .i64 0)).st 5 (.slice none 0 0)).st 6 (.int .i64 0)).bare.nilRow _ _).nilRow _ _).nilRow _ _
        · rw [he] at hem3
          have r3 := hK12.drop.ownI.ri
          have r2 := hK12.drop.drop.ownI.ri
          have r1 := hK12.drop.drop.drop.ownI.ri
          have KO := l10Ok_any ⟨g, 0, none⟩ t wc (TriC.tri (TriC.of_block hK12.at0 r1 r2 r3)) ⟨by unfold SmallReg; omega, by unfold SmallReg; omega, by unfold SmallReg; omega⟩
          rcases hv : vmach t with _ | _
          · have HU := Lib.hid (unpM_none (bs := strB s) (by rw [HS.out, he, hv]; rfl))
            rw [hv] at KO
            have KO := Lib.hid KO
            clear he hv r1 r2 r3
            go_wp2_with fail
            refine KO.out.mono ?_; rintro e w13 ⟨rfl, m, rfl⟩
            have hK13 := hK12.drewN m
            go_wp2_with fail
            refine bodyPost_ret (v := .tuple #[.agg #[.int .i64 0, .slice none 0 0, .int .i64 0, .slice none 0 0, .int .i64 0, .slice none 0 0, .int .i64 0], .int .i64 8]) (by simp [results, Try.results43, go_sem, d1, d2, d3]) rfl ⟨none, 0, none, 0, none, 0, by rw [HU.out.1, HU.out.2]; rfl, ?_⟩
            rw [HU.out.1]
            exact (((((((((hK13.sw4.st 0 (.int .i64 0)).st 1 (.slice none 0 0)).st 2 (.int .i64 0)).st 3 (.slice none 0 0)).st 4 (.int .i64 0)).st 5 (.slice none 0 0)).st 6 (.int .i64 0)).bare.nilRow _ _).nilRow _ _).nilRow _ _
          · have HU := Lib.hid (unpM_some (bs := strB s) (r := t) (by rw [HS.out, he, hv]; rfl))
            rw [hv] at KO
            have KO := Lib.hid KO
            clear he hv r1 r2 r3
            go_wp2_with fail
            refine KO.out.mono ?_; rintro e w13 ⟨rfl, m, rfl⟩
            have hK13 := (hK12.drewN m).sw4
            go_wp2_with fail
            have hK14 := (((((((hK13.st 0 (.int .i64 t.a.base)).st 1 (.slice A1 t.a.digits.length c1)).st 2 (.int .i64 t.b.base)).st 3 (.slice A2 t.b.digits.length c2)).st 4 (.int .i64 t.s.base)).st 5 (.slice A3 t.s.digits.length c3)).st 6 (.int .i64 t.carry))
            refine bodyPost_ret (v := .tuple #[.agg #[.int .i64 t.a.base, .slice A1 t.a.digits.length c1, .int .i64 t.b.base, .slice A2 t.b.digits.length c2, .int .i64 t.s.base, .slice A3 t.s.digits.length c3, .int .i64 t.carry], .int .i64 0]) (by simp [results, Try.results43, go_sem, d1, d2, d3]) rfl ⟨A1, c1, A2, c2, A3, c3, by rw [HU.out.1, HU.out.2], ?_⟩
            rw [HU.out.1]
            exact hK14.drop.drop
end Go.Proofs.Ytkfbfainhmkkdaa

namespace Go.Proofs.Ytkfbfainhmkkdaa
open Go.RowKit Go.Sort
set_option maxRecDepth 100000 in
set_option maxHeartbeats 400000 in
theorem l27Number_any (s : ByteArray) (w : World) (hs : s.size ≤ 1048576) :
    Calls Try.prog 104 #[.string s] w fun e w' => ∃ n u : Nat, e = .returned (.tuple #[.int .i64 n, .int .i64 u]) ∧ ((decV 6 (strB s) = none ∧ u = 0) ∨ (1 ≤ u ∧ u ≤ s.size ∧ decV 6 (strB s) = some (n, (strB s).drop u))) ∧ w = w' := by
  have HSL := Lib.hid (strB_len s)
  go_enter Try.func104, Try.ntmps104
  go_wp2_with fail
  go_loopw [4, 5] (fun nn ii wr => ∃ (i acc : Nat), i ≤ 6 ∧ ii = .int .i64 i ∧ nn = .int .i64 (acc : Int) ∧ acc < 128 ^ i ∧ i ≤ s.size ∧
    decV 6 (strB s) = (decV (6 - i) ((strB s).drop i)).map (fun p => (acc + 128 ^ i * p.1, p.2)) ∧ w = wr) (fun _ i _ => 6 - (intOf i).toNat)
  case atStart => exact ⟨0, 0, by omega, rfl, rfl, by decide, by omega, by simp, rfl⟩
  case round =>
    obtain ⟨i, acc, hi6, rfl, rfl, hacc, his, hdv, rfl⟩ := hrel
    have HV := Lib.hid hdv
    clear hdv
    by_cases hlt : i < s.size
    · by_cases hlt6 : i < 6
      · obtain ⟨q, hq⟩ : ∃ q : UInt8, s[i] = q := ⟨_, rfl⟩
        obtain ⟨z, hz⟩ : ∃ z : Nat, q.toNat = z := ⟨_, rfl⟩
        have hz2 : z < 256 := by rw [← hz]; exact q.toNat_lt
        have hdr : (strB s).drop i = q :: (strB s).drop (i + 1) := by
          rw [List.drop_eq_getElem_cons (by rw [HSL.out]; exact hlt), ← strB_get s hlt, hq]
        have i0 : (0 : Int) ≤ (i : Int) := by omega
        have i1 : (i : Int) < (s.size : Int) := by omega
        have i2 : (i : Int) < 6 := by omega
        obtain ⟨U, hU⟩ : ∃ U : Nat, 128 ^ i = U := ⟨_, rfl⟩
        have hU2 : U ≤ 34359738368 := by
          rw [← hU]; exact Nat.le_trans (Nat.pow_le_pow_right (by omega) (show i ≤ 5 by omega)) (by decide)
        have hU3 : 128 ^ (i + 1) = U * 128 := by rw [← hU, Nat.pow_succ]
        have hP : (2 : Int) ^ (7 * i) = (U : Int) := by rw [← hU, Int.pow_mul]; simp
        rw [hU] at hacc HV
        have HU3 := Lib.hid hU3
        have hm : z % 128 * U ≤ 127 * U := Nat.mul_le_mul_right _ (by omega)
        obtain ⟨M, hM⟩ : ∃ M : Nat, z % 128 * U = M := ⟨_, rfl⟩
        have hMi : ((z : Int) % 128) * (U : Int) = (M : Int) := by rw [← hM]; simp
        rw [hM] at hm
        have HPI := Lib.hid (show (z : Int) % 128 * 2 ^ (7 * i) = (M : Int) by rw [hP, hMi])
        have HU0 := Lib.hid hU
        clear hU hU3 hP hMi
        have x3 : wrap64 ((z : Int) % 128 * 2 ^ (7 * i)) = (M : Int) := by rw [HPI.out]; exact wrap64_of (by clear HV HPI HU0 HU3 hdr; omega)
        have x4 : wrap64 ((acc : Int) + (M : Int)) = (acc : Int) + (M : Int) := wrap64_of (by clear x3 hdr; omega)
        have hdc : decV (6 - i) ((strB s).drop i) = if z < 128 then some (z, (strB s).drop (i + 1)) else (decV (6 - (i + 1)) ((strB s).drop (i + 1))).map fun p => (z % 128 + 128 * p.1, p.2) := by
          rw [hdr, show 6 - i = (6 - (i + 1)) + 1 by omega, decV, hz]
        have HC := Lib.hid hdc
        have HM := Lib.hid hM
        clear hdc hdr hM
        by_cases hz128 : z < 128
        · have i5 : (z : Int) < 128 := by omega
          have HU : Hid (decV 6 (strB s) = some (acc + M, (strB s).drop (i + 1))) := by
            simp only [Hid]
            rw [HV.out, HC.out, if_pos hz128]
            have h1 : U * z = M := by rw [← HM.out, Nat.mod_eq_of_lt hz128, Nat.mul_comm]
            simp [h1]
          clear hz128
          go_wp2_with fail
          go_ret2
          exact ⟨acc + M, i + 1, by simp, .inr ⟨by omega, by omega, HU.out⟩, rfl⟩
        · have i5 : ¬ (z : Int) < 128 := by omega
          have HN : Hid (decV 6 (strB s) = (decV (6 - (i + 1)) ((strB s).drop (i + 1))).map (fun p => ((acc + M) + U * 128 * p.1, p.2))) := by
            simp only [Hid]
            rw [HV.out, HC.out, if_neg hz128, Option.map_map]
            congr 1
            funext p
            simp only [Function.comp]
            have h1 : U * (z % 128 + 128 * p.1) = M + U * 128 * p.1 := by rw [Nat.mul_add, ← HM.out, Nat.mul_comm U (z % 128), Nat.mul_assoc]
            rw [h1, Nat.add_assoc]
          clear hz128
          go_wp2_with fail
          go_roundw
          case rel => exact ⟨i + 1, acc + M, by omega, by go_num, by simp, by rw [HU3.out]; omega, by omega, by rw [HU3.out]; exact HN.out, by first | rfl | trivial⟩
          case measure => simp [intOf]; omega
      · have HU : Hid (decV 6 (strB s) = none) := by simp only [Hid]; rw [HV.out, show 6 - i = 0 by omega]; rfl
        have i1 : (i : Int) < (s.size : Int) := by omega
        have i2 : ¬ (i : Int) < 6 := by omega
        go_wp2_with fail
        go_ret2
        exact ⟨0, 0, rfl, .inl ⟨HU.out, rfl⟩, rfl⟩
    · have HU : Hid (decV 6 (strB s) = none) := by simp only [Hid]; rw [HV.out, List.drop_of_length_le (by rw [HSL.out]; omega), decV_nil]; rfl
      have i1 : ¬ (i : Int) < (s.size : Int) := by omega
      go_wp2_with fail
      go_ret2
      exact ⟨0, 0, rfl, .inl ⟨HU.out, rfl⟩, rfl⟩
end Go.Proofs.Ytkfbfainhmkkdaa

namespace Go.Proofs.Ytkfbfainhmkkdaa
open Go.RowKit Go.Sort
theorem decL_snoc (f : Nat) : ∀ (k : Nat) (bs : List UInt8), decL f (k + 1) bs = (decL f k bs).bind fun p => (decI f p.2).map fun q => (p.1 ++ [q.1], q.2)
  | 0, bs => by
    simp only [decL, Option.bind_some, Option.map_some]
    cases decI f bs <;> rfl
  | k + 1, bs => by
    rw [decL]
    cases h : decI f bs with
    | none => simp [decL, h]
    | some p =>
      simp only [Option.bind_some]
      rw [decL_snoc f k p.2]
      simp only [decL, h, Option.bind_some]
      cases h2 : decL f k p.2 with
      | none => rfl
      | some q =>
        simp only [Option.bind_some, Option.map_some]
        cases h3 : decI f q.2 with
        | none => rfl
        | some r => rfl
theorem decL_none (f k : Nat) (bs : List UInt8) (h : decL f k bs = none) : ∀ j, decL f (k + j) bs = none
  | 0 => h
  | j + 1 => by rw [← Nat.add_assoc, decL_snoc, decL_none f k bs h j]; rfl
theorem decL_stop {f k n : Nat} {bs : List UInt8} (h : decL f (k + 1) bs = none) (hk : k < n) : decL f n bs = none := by
  have := decL_none f (k + 1) bs h (n - (k + 1))
  rwa [show k + 1 + (n - (k + 1)) = n by omega] at this
theorem decV_le : ∀ (k : Nat) (bs : List UInt8) (p : Nat × List UInt8), decV k bs = some p → p.2.length ≤ bs.length
  | 0, _, _, h => by cases h
  | _ + 1, [], _, h => by cases h
  | k + 1, b :: tl, p, h => by
    rw [decV] at h
    split at h
    · injection h with h; rw [← h]; simp
    · obtain ⟨q, hq, rfl⟩ := Option.map_eq_some_iff.1 h
      have := decV_le k tl q hq
      rw [List.length_cons]; exact Nat.le_succ_of_le this
theorem decI_le {f : Nat} {bs rs : List UInt8} {x : Ins} (h : decI f bs = some (x, rs)) : rs.length ≤ bs.length := by
  cases bs with
  | nil => cases h
  | cons b tl =>
    simp only [decI] at h
    obtain ⟨q, hq, h2⟩ := Option.map_eq_some_iff.1 h
    have h3 := decV_le f tl q hq
    injection h2 with _ h2
    rw [← h2, List.length_cons]; exact Nat.le_succ_of_le h3
def unpProg (bs : List UInt8) : List Ins := (unpP bs).getD []
def unpPCode (bs : List UInt8) : Int := if (unpP bs).isSome then 0 else 8
theorem unpP_none {bs : List UInt8} (h : unpP bs = none) : unpProg bs = [] ∧ unpPCode bs = 8 := by simp [unpProg, unpPCode, h]
theorem unpP_some {bs : List UInt8} {r : List Ins} (h : unpP bs = some r) : unpProg bs = r ∧ unpPCode bs = 0 := by simp [unpProg, unpPCode, h]
set_option maxRecDepth 100000 in
set_option maxHeartbeats 400000 in
theorem UnpackProgram_any (s : ByteArray) (w : World) (hs : s.size ≤ 1048576) :
    Calls Try.prog 38 #[.string s] w fun e w' => ∃ A c, e = .returned (.tuple #[.slice A (unpProg (strB s)).length c, .int .i64 (unpPCode (strB s))]) ∧ Kn w [rowIns (.slice A (unpProg (strB s)).length c) (unpProg (strB s))] w' := by
  by_cases h0 : 2 ≤ s.size
  · obtain ⟨h1, hc⟩ := strB_cons2 h0
    obtain ⟨b0, hb0⟩ : ∃ b, s[0] = b := ⟨_, rfl⟩
    obtain ⟨p, hp⟩ : ∃ b, s[1] = b := ⟨_, rfl⟩
    obtain ⟨r0, hr0⟩ : ∃ l, (strB s).drop 2 = l := ⟨_, rfl⟩
    rw [hb0, hp, hr0] at hc
    have hl0 : r0.length ≤ 1048576 := by rw [← hr0, List.length_drop, strB_len]; omega
    have hx := strB_drop s 2
    rw [hr0] at hx
    obtain ⟨x0, hx0⟩ : ∃ x, s.extract 2 s.size = x := ⟨_, rfl⟩
    rw [hx0] at hx
    obtain ⟨cnt, hcnt⟩ : ∃ c, p.toNat = c := ⟨_, rfl⟩
    have HUP := Lib.hid (show unpP (strB s) = (decL 7 cnt r0).bind fun q => if vprog q.1 && decide (packP q.1 = b0 :: p :: r0) then some q.1 else none by rw [hc, ← hcnt]; rfl)
    have hc2 : cnt < 256 := by rw [← hcnt]; exact p.toNat_lt
    have HC := Lib.hid hc
    have HX := Lib.hid hx0
    have hi1 : (1 : Int) < (s.size : Int) := by omega
    have hi2 : (2 : Int) ≤ (s.size : Int) := by omega
    have hi3 : ¬ (s.size : Int) < 2 := by omega
    have HXB := Lib.hid hx
    clear hc hb0 hr0 hx hx0
    go_enter Try.func38, Try.ntmps38
    go_upto_region 3 with fail
    go_cut [4, 5] (fun vv rr wx => rr = .string x0 ∧ Kn w [rowIns vv []] wx)
    case first =>
      have hK0 := (((Kn.nil w).al [] 46).litRow (n := 0) (size := 2) rfl (by decide)).drew
      go_region
      all_goals
        go_wp2_with fail
        go_meet
        rw [HX.out]
        exact ⟨rfl, hK0⟩
    case rest =>
    rename_i v4
    obtain ⟨rfl, hK0⟩ := hcut
    go_wp2_with fail
    go_loopw [4, 5, 19] (fun vv rr kk wr => ∃ (k : Nat) (xs : List Ins) (r : ByteArray), k ≤ cnt ∧ kk = .int .u8 (k : Int) ∧ rr = .string r ∧ decL 7 k r0 = some (xs, strB r) ∧ xs.length = k ∧ r.size ≤ 1048576 ∧ Kn w [rowIns vv xs] wr) (fun _ _ k _ => cnt - (intOf k).toNat)
    case atStart => exact ⟨0, [], x0, Nat.zero_le _, rfl, rfl, by rw [HXB.out]; rfl, rfl, by rw [← strB_len, HXB.out]; exact hl0, hK0⟩
    case round =>
      rename_i vv _ _
      obtain ⟨k, xs, r, hk, rfl, rfl, hd, hxl, hrs, hK⟩ := hrel
      have HD := Lib.hid hd
      have HSN := Lib.hid (show decL 7 (k + 1) r0 = (decI 7 (strB r)).map fun q => (xs ++ [q.1], q.2) by rw [decL_snoc, hd]; rfl)
      have HXL := Lib.hid hxl
      have hxb : xs.length ≤ 256 := by omega
      clear hd hK0 hxl
      by_cases hkn : k < cnt
      · have y1 : IntKind.u8.wrap ((k : Int) + 1) = (k : Int) + 1 := wrapB (by omega)
        have i1 : (k : Int) < (p.toNat : Int) := by omega
        have KT := Lib.hid (fun W => takeInstr_any r W hrs)
        rcases hdi : decI 7 (strB r) with _ | ⟨x, rs⟩
        · have HTI := Lib.hid (ti_none hdi)
          have HU := Lib.hid (unpP_none (bs := strB s) (by rw [HUP.out, decL_stop (by rw [HSN.out, hdi]; rfl) hkn]; rfl))
          have KT := KT.out wr
          rw [HTI.out.1, HTI.out.2.1, HTI.out.2.2] at KT
          have KT := Lib.hid KT
          clear hdi
          go_wp2_with fail
          refine KT.out.mono ?_; rintro e w2 ⟨r2, rfl, hr2, hw⟩
          have hK2 := hK.keep hw
          clear hw
          go_wp2_with fail
          refine bodyPost_ret (v := .tuple #[.slice none 0 0, .int .i64 8]) (by simp [results, Try.results38, go_sem]) rfl ⟨none, 0, by rw [HU.out.1, HU.out.2]; rfl, ?_⟩
          rw [HU.out.1]
          exact (hK2.al_ _).bare.nilIns
        · have HTI := Lib.hid (ti_some hdi)
          have HS2 : Hid (decL 7 (k + 1) r0 = some (xs ++ [x], rs)) := by simp only [Hid]; rw [HSN.out, hdi]; rfl
          have hrl : rs.length ≤ (strB r).length := decI_le hdi
          have KT := KT.out wr
          rw [HTI.out.1, HTI.out.2.1, HTI.out.2.2] at KT
          have KT := Lib.hid KT
          clear hdi
          go_wp2_with fail
          refine KT.out.mono ?_; rintro e w2 ⟨r2, rfl, hr2, hw⟩
          have hK2 := hK.keep hw
          clear hw
          have HR2 := Lib.hid hr2
          have hr2s : r2.size ≤ 1048576 := by rw [← strB_len, hr2]; rw [strB_len] at hrl; omega
          clear hr2
          have hKx := hK2.al [.int .i64 x.op, .int .i64 x.arg] 46
          go_wp2_with (first | (refine wpList.kn hKx ?_; clear hKx; intro w3 hK3; obtain ⟨a1, a2, a3, -⟩ := hK3.cells) | (at_builtin; refine kn_app tpIns rfl _ _ rfl _ xs.length (cellsIns xs) rfl rfl ((hK3.sw1).al [.int .i64 x.op, .int .i64 x.arg] 46) rfl (by simp [Value.oneCell']) (by omega) (by omega) ?_; intro v5 w6 hK4))
          go_roundw
          case rel => exact ⟨k + 1, xs ++ [x], r2, by omega, by go_num, rfl, by rw [HR2.out]; exact HS2.out, by rw [List.length_append, HXL.out]; rfl, hr2s, by
            have h := hK4.drop1
            unfold rowIns
            rw [cellsIns_snoc, List.length_append]; exact h⟩
          case measure => simp [intOf]; omega
      · have i1 : ¬ (k : Int) < (p.toNat : Int) := by omega
        have HD2 : Hid (decL 7 cnt r0 = some (xs, strB r)) := by simp only [Hid]; rw [← HD.out]; congr 1; omega
        obtain ⟨A, c, rfl⟩ := row_form hK.at0
        obtain ⟨-, hrl⟩ := hK.rlIns
        rcases hv : vprog xs with _ | _
        · have HU := Lib.hid (unpP_none (bs := strB s) (by rw [HUP.out, HD2.out]; simp [hv]))
          have KP := Lib.hid (PackProgram_false A xs.length c xs wr hrl (by omega) hv)
          clear hrl hv
          go_wp2_with fail
          refine KP.out.mono ?_; rintro e w2 ⟨rfl, hw⟩
          have hK2 := hK.keep hw
          clear hw
          go_wp2_with fail
          refine bodyPost_ret (v := .tuple #[.slice none 0 0, .int .i64 8]) (by simp [results, Try.results38, go_sem]) rfl ⟨none, 0, by rw [HU.out.1, HU.out.2]; rfl, ?_⟩
          rw [HU.out.1]
          exact hK2.bare.nilIns
        · have KP := Lib.hid (PackProgram_true A xs.length c xs wr hrl hv)
          have HV := Lib.hid hv
          clear hrl hv
          rcases hq : (packP xs == s.toList) with _ | _
          · have HU := Lib.hid (unpP_none (bs := strB s) (by rw [HUP.out, HD2.out]; rw [strB_toList, HC.out, beq_eq_false_iff_ne] at hq; simp [hq]))
            go_wp2_with fail
            refine KP.out.mono ?_; rintro e w2 ⟨rfl, hw⟩
            have hK2 := hK.keep hw
            clear hw
            go_wp2_with fail
            refine bodyPost_ret (v := .tuple #[.slice none 0 0, .int .i64 8]) (by simp [results, Try.results38, go_sem]) rfl ⟨none, 0, by rw [HU.out.1, HU.out.2]; rfl, ?_⟩
            rw [HU.out.1]
            exact hK2.bare.nilIns
          · have HU := Lib.hid (unpP_some (bs := strB s) (r := xs) (by rw [HUP.out, HD2.out]; rw [strB_toList, HC.out, beq_iff_eq] at hq; simp [hq, HV.out]))
            go_wp2_with fail
            refine KP.out.mono ?_; rintro e w2 ⟨rfl, hw⟩
            have hK2 := hK.keep hw
            clear hw
            go_wp2_with fail
            refine bodyPost_ret (v := .tuple #[.slice A xs.length c, .int .i64 0]) (by simp [results, Try.results38, go_sem]) rfl ⟨A, c, by rw [HU.out.1, HU.out.2], ?_⟩
            rw [HU.out.1]
            exact hK2
  · have HU := Lib.hid (unpP_none (bs := strB s) (by
      have hl := strB_len s
      cases h : strB s with
      | nil => rfl
      | cons a l =>
        cases l with
        | nil => rfl
        | cons b l => rw [h] at hl; simp at hl; omega))
    have hi3 : (s.size : Int) < 2 := by omega
    go_enter Try.func38, Try.ntmps38
    go_wp2_with fail
    refine bodyPost_ret (v := .tuple #[.slice none 0 0, .int .i64 8]) (by simp [results, Try.results38, go_sem]) rfl ⟨none, 0, by rw [HU.out.1, HU.out.2]; rfl, ?_⟩
    rw [HU.out.1]
    exact (Kn.nil w).bare.nilIns
end Go.Proofs.Ytkfbfainhmkkdaa

namespace Go.Proofs.Ytkfbfainhmkkdaa
open Go.RowKit Go.Sort
theorem unpP_spec (bs : List UInt8) (cnt : UInt8) (l : List UInt8) (hb : bodyOk 80 bs = true) (hl : bodyB 80 bs = cnt :: l) :
    unpP bs = (decL 6 cnt.toNat l).bind fun q => if q.2.isEmpty && vprog q.1 && decide (packP q.1 = bs) then some q.1 else none := by
  have hbs := (body_iff 80 bs).1 hb
  rw [hl] at hbs
  cases h : (decL 6 cnt.toNat l).bind fun q => if q.2.isEmpty && vprog q.1 && decide (packP q.1 = bs) then some q.1 else none with
  | some xs =>
    obtain ⟨q, -, h2⟩ := Option.bind_eq_some_iff.1 h
    split at h2
    · rename_i h3
      injection h2 with h2
      simp only [Bool.and_eq_true, decide_eq_true_eq] at h3
      rw [h2] at h3
      exact (unpP_iff bs xs).2 ⟨h3.1.2, h3.2⟩
    · cases h2
  | none =>
    cases h2 : unpP bs with
    | none => rfl
    | some xs =>
      obtain ⟨h3, h4⟩ := (unpP_iff bs xs).1 h2
      obtain ⟨h120, hall⟩ := vprog_each h3
      have h5 : cnt :: l = UInt8.ofNat xs.length :: xs.flatMap insB := by
        have h6 : sealB (80 :: cnt :: l) = sealB (progB xs) := by rw [← hbs, ← h4]; rfl
        have h7 := sealB_inj h6
        unfold progB at h7
        injection h7
      injection h5 with h5 h6
      have hc : cnt.toNat = xs.length := by rw [h5, UInt8.toNat_ofNat']; omega
      have hd := decL_prog 6 (Nat.le_refl _) xs hall []
      rw [List.append_nil] at hd
      rw [hc, h6, hd] at h
      simp [h3, h4] at h
theorem unpP_not (bs : List UInt8) (h : bodyOk 80 bs = false ∨ bodyB 80 bs = []) : unpP bs = none := by
  cases h2 : unpP bs with
  | none => rfl
  | some xs =>
    obtain ⟨h3, h4⟩ := (unpP_iff bs xs).1 h2
    obtain ⟨k1, k2⟩ := body_of 80 (UInt8.ofNat xs.length :: xs.flatMap insB)
    have h5 : sealB (80 :: UInt8.ofNat xs.length :: xs.flatMap insB) = bs := h4
    rw [h5] at k1 k2
    rcases h with h | h
    · rw [k1] at h; cases h
    · rw [k2] at h; cases h
set_option maxRecDepth 100000 in
set_option maxHeartbeats 1000000 in
theorem specUnpackProgram_any (s : ByteArray) (w : World) (hs : s.size ≤ 1048576) :
    Calls Try.prog 45 #[.string s] w fun e w' => ∃ A c, e = .returned (.tuple #[.slice A (unpProg (strB s)).length c, .int .i64 (unpPCode (strB s))]) ∧ Kn w [rowIns (.slice A (unpProg (strB s)).length c) (unpProg (strB s))] w' := by
  have HS := Lib.hid (unpP_spec (strB s))
  have HN := Lib.hid (unpP_not (strB s))
  have hbl : (bodyB 80 (strB s)).length ≤ 1048576 := by
    unfold bodyB; have := strB_len s
    split
    · rw [List.length_take, List.length_drop]; omega
    · simp
  have KB := fun W => l27Body_any s 80 W hs
  obtain ⟨ok, hok⟩ : ∃ b, bodyOk 80 (strB s) = b := ⟨_, rfl⟩
  obtain ⟨body, hbd⟩ : ∃ b, bodyB 80 (strB s) = b := ⟨_, rfl⟩
  rw [hok, hbd] at HS HN KB
  rw [hbd] at hbl
  have KB := Lib.hid KB
  clear hok hbd
  go_enter Try.func45, Try.ntmps45
  go_wp2_with fail
  refine (KB.out w).mono ?_; rintro e w2 ⟨r, rfl, hr, hw⟩
  have hK2 := (Kn.nil w).keep hw
  clear hw
  cases ok with
  | false =>
    have HU := Lib.hid (unpP_none (HN.out (.inl rfl)))
    go_wp2_with fail
    refine bodyPost_ret (v := .tuple #[.slice none 0 0, .int .i64 8]) (by simp [results, Try.results45, go_sem]) rfl ⟨none, 0, by rw [HU.out.1, HU.out.2]; rfl, ?_⟩
    rw [HU.out.1]
    exact hK2.bare.nilIns
  | true =>
    cases hbc : body with
    | nil =>
      have HU := Lib.hid (unpP_none (HN.out (.inr hbc)))
      have hem : r.toList.isEmpty = true := by rw [strB_toList, hr, hbc]; rfl
      clear hbc
      go_wp2_with fail
      refine bodyPost_ret (v := .tuple #[.slice none 0 0, .int .i64 8]) (by simp [results, Try.results45, go_sem]) rfl ⟨none, 0, by rw [HU.out.1, HU.out.2]; rfl, ?_⟩
      rw [HU.out.1]
      exact hK2.bare.nilIns
    | cons p l =>
      have hem : r.toList.isEmpty = false := by rw [strB_toList, hr, hbc]; rfl
      have HS := Lib.hid (HS.out p l rfl hbc)
      rw [hbc] at hr hbl
      have hrs : 0 < r.size := by rw [← strB_len, hr]; simp
      have hr1 : r[0] = p := by have h := strB_cons hrs; rw [hr] at h; injection h with h _; exact h.symm
      obtain ⟨x0, hx0⟩ : ∃ x, r.extract 1 r.size = x := ⟨_, rfl⟩
      have hx : strB x0 = l := by rw [← hx0, strB_tail, hr]; rfl
      have hl0 : l.length ≤ 1048576 := by simp at hbl; omega
      have HX := Lib.hid hx0
      have HXB := Lib.hid hx
      obtain ⟨cnt, hcnt⟩ : ∃ c, p.toNat = c := ⟨_, rfl⟩
      have hc2 : cnt < 256 := by rw [← hcnt]; exact p.toNat_lt
      have HS := HS.out
      rw [hcnt] at HS
      have HUP := Lib.hid HS
      have hi1 : (1 : Int) ≤ (r.size : Int) := by omega
      have hi0 : (0 : Int) < (r.size : Int) := by omega
      clear hbc hr hx hx0 hbl HS
      have hK3 := (hK2.al [] 46).litRow (n := 0) (size := 2) rfl (by decide)
      go_wp2_with fail
      go_loopw [6, 7, 8] (fun vv rr kk wr => ∃ (k : Nat) (xs : List Ins) (r2 : ByteArray), k ≤ cnt ∧ kk = .int .i64 ((cnt - k : Nat) : Int) ∧ rr = .string r2 ∧ decL 6 k l = some (xs, strB r2) ∧ xs.length = k ∧ r2.size ≤ 1048576 ∧ Kn w [rowIns vv xs] wr) (fun _ _ k _ => (intOf k).toNat)
      case atStart =>
        rw [HX.out]
        exact ⟨0, [], x0, Nat.zero_le _, rfl, rfl, by rw [HXB.out]; rfl, rfl, by rw [← strB_len, HXB.out]; exact hl0, hK3⟩
      case round =>
        rename_i vv _ _
        obtain ⟨k, xs, r2, hk, rfl, rfl, hd, hxl, hrs2, hK⟩ := hrel
        have HD := Lib.hid hd
        have HSN := Lib.hid (show decL 6 (k + 1) l = (decI 6 (strB r2)).map fun q => (xs ++ [q.1], q.2) by rw [decL_snoc, hd]; rfl)
        have HXL := Lib.hid hxl
        have hxb : xs.length ≤ 256 := by omega
        clear hd hK3 hxl
        by_cases hkn : k < cnt
        · have i1 : (0 : Int) < ((cnt - k : Nat) : Int) := by omega
          by_cases hr0 : 0 < r2.size
          · have hem2 : r2.toList.isEmpty = false := by rw [strB_toList, strB_cons hr0]; rfl
            have hcb := strB_cons hr0
            obtain ⟨b, hb⟩ : ∃ b, r2[0] = b := ⟨_, rfl⟩
            rw [hb] at hcb
            have hb2 : b.toNat < 256 := b.toNat_lt
            obtain ⟨x1, hx1⟩ : ∃ x, r2.extract 1 r2.size = x := ⟨_, rfl⟩
            have hx1b : strB x1 = (strB r2).drop 1 := by rw [← hx1, strB_tail]
            have hx1s : x1.size = r2.size - 1 := by rw [← hx1, extract_size]
            have KN := Lib.hid (fun W => l27Number_any x1 W (by omega))
            have j1 : (1 : Int) ≤ (r2.size : Int) := by omega
            have j0 : (0 : Int) < (r2.size : Int) := by omega
            have HX1 := Lib.hid hx1
            have HDI : Hid (decI 6 (strB r2) = (decV 6 (strB x1)).map fun q => (⟨b.toNat, q.1⟩, q.2)) := by
              simp only [Hid]; rw [hx1b, hcb]; rfl
            have HX1B := Lib.hid hx1b
            clear hcb hx1 hx1b
            go_wp2_with fail
            rw [HX1.out]
            refine (KN.out wr).mono ?_; rintro e w3 ⟨n, u, rfl, hor, rfl⟩
            rcases hor with ⟨hd1, rfl⟩ | ⟨u1, u2, hd1⟩
            · have HU := Lib.hid (unpP_none (bs := strB s) (by rw [HUP.out, decL_stop (by rw [HSN.out, HDI.out, hd1]; rfl) hkn]; rfl))
              clear hd1
              go_wp2_with fail
              refine bodyPost_ret (v := .tuple #[.slice none 0 0, .int .i64 8]) (by simp [results, Try.results45, go_sem]) rfl ⟨none, 0, by rw [HU.out.1, HU.out.2]; rfl, ?_⟩
              rw [HU.out.1]
              exact hK.bare.nilIns
            · have HS2 : Hid (decL 6 (k + 1) l = some (xs ++ [⟨b.toNat, n⟩], (strB x1).drop u)) := by simp only [Hid]; rw [HSN.out, HDI.out, hd1]; rfl
              have hun : u ≠ 0 := by omega
              have hub : ((u : Int) == 0) = false := by rw [beq_eq_false_iff_ne]; omega
              have j3 : (1 : Int) + (u : Int) ≤ (r2.size : Int) := by omega
              have j4 : IntKind.i64.wrap (1 + (u : Int)) = 1 + (u : Int) := wrapI (by omega)
              clear hd1
              go_wp2_with (at_builtin; refine kn_app tpIns rfl _ _ rfl _ xs.length (cellsIns xs) rfl rfl (hK.al [.int .i64 (b.toNat : Int), .int .i64 (n : Int)] 46) rfl (by simp [Value.oneCell']) (by omega) (by omega) ?_; intro v5 w6 hK4)
              go_roundw
              case rel => exact ⟨k + 1, xs ++ [⟨b.toNat, n⟩], r2.extract (1 + u) r2.size, by omega, by congr 1; omega, rfl, by rw [strB_drop, HS2.out, HX1B.out, List.drop_drop], by rw [List.length_append, HXL.out]; rfl, by rw [extract_size]; omega, by
                unfold rowIns
                rw [cellsIns_snoc, List.length_append]; exact hK4⟩
              case measure => simp [intOf]; omega
          · have hz := size_zero (show r2.size = 0 by omega)
            have HU := Lib.hid (unpP_none (bs := strB s) (by rw [HUP.out, decL_stop (by rw [HSN.out, strB_nil (show r2.size = 0 by omega)]; rfl) hkn]; rfl))
            subst hz
            go_wp2_with fail
            refine bodyPost_ret (v := .tuple #[.slice none 0 0, .int .i64 8]) (by simp [results, Try.results45, go_sem]) rfl ⟨none, 0, by rw [HU.out.1, HU.out.2]; rfl, ?_⟩
            rw [HU.out.1]
            exact hK.bare.nilIns
        · have i1 : ¬ (0 : Int) < ((cnt - k : Nat) : Int) := by omega
          have HD2 : Hid (decL 6 cnt l = some (xs, strB r2)) := by simp only [Hid]; rw [← HD.out]; congr 1; omega
          have HEM := Lib.hid (show r2.toList.isEmpty = (strB r2).isEmpty by rw [strB_toList])
          obtain ⟨A, c, rfl⟩ := row_form hK.at0
          obtain ⟨-, hrl⟩ := hK.rlIns
          rcases he : r2.toList.isEmpty with _ | _
          · have HU := Lib.hid (unpP_none (bs := strB s) (by rw [HUP.out, HD2.out]; have h1 := HEM.out; rw [he] at h1; have h2 : strB r2 ≠ [] := (by intro h; rw [h] at h1; cases h1); simp [h2]))
            go_wp2_with fail
            refine bodyPost_ret (v := .tuple #[.slice none 0 0, .int .i64 8]) (by simp [results, Try.results45, go_sem]) rfl ⟨none, 0, by rw [HU.out.1, HU.out.2]; rfl, ?_⟩
            rw [HU.out.1]
            exact hK.bare.nilIns
          · rcases hv : vprog xs with _ | _
            · have HU := Lib.hid (unpP_none (bs := strB s) (by rw [HUP.out, HD2.out]; simp [hv]))
              have KO := Lib.hid (calls_val (l11Ok_any A xs.length c xs wr hrl (by omega)) (congrArg Value.bool hv))
              clear hrl hv
              go_wp2_with fail
              refine KO.out.mono ?_; rintro e w3 ⟨rfl, q, rfl⟩
              have hK5 := hK.drewN q
              go_wp2_with fail
              refine bodyPost_ret (v := .tuple #[.slice none 0 0, .int .i64 8]) (by simp [results, Try.results45, go_sem]) rfl ⟨none, 0, by rw [HU.out.1, HU.out.2]; rfl, ?_⟩
              rw [HU.out.1]
              exact hK5.bare.nilIns
            · have KO := Lib.hid (calls_val (l11Ok_any A xs.length c xs wr hrl (by omega)) (congrArg Value.bool hv))
              have HV := Lib.hid hv
              clear hv
              rcases hq : (packP xs == s.toList) with _ | _
              · have HU := Lib.hid (unpP_none (bs := strB s) (by rw [HUP.out, HD2.out]; rw [strB_toList, beq_eq_false_iff_ne] at hq; simp; exact fun _ _ => hq))
                go_wp2_with fail
                refine KO.out.mono ?_; rintro e w3 ⟨rfl, q, rfl⟩
                have hK5 := hK.drewN q
                go_wp2_with fail
                refine (l27Program_any A xs.length c xs (wr.drewN q) hrl HV.out).mono ?_; rintro e w3 ⟨rfl, hw⟩
                have hK6 := hK5.keep hw
                clear hw
                go_wp2_with fail
                refine bodyPost_ret (v := .tuple #[.slice none 0 0, .int .i64 8]) (by simp [results, Try.results45, go_sem]) rfl ⟨none, 0, by rw [HU.out.1, HU.out.2]; rfl, ?_⟩
                rw [HU.out.1]
                exact hK6.bare.nilIns
              · have HU := Lib.hid (unpP_some (bs := strB s) (r := xs) (by rw [HUP.out, HD2.out]; have h1 := HEM.out; rw [he] at h1; rw [strB_toList, beq_iff_eq] at hq; simp [List.isEmpty_iff.1 h1.symm, hq, HV.out]))
                go_wp2_with fail
                refine KO.out.mono ?_; rintro e w3 ⟨rfl, q, rfl⟩
                have hK5 := hK.drewN q
                go_wp2_with fail
                refine (l27Program_any A xs.length c xs (wr.drewN q) hrl HV.out).mono ?_; rintro e w3 ⟨rfl, hw⟩
                have hK6 := hK5.keep hw
                clear hw
                go_wp2_with fail
                refine bodyPost_ret (v := .tuple #[.slice A xs.length c, .int .i64 0]) (by simp [results, Try.results45, go_sem]) rfl ⟨A, c, by rw [HU.out.1, HU.out.2], ?_⟩
                rw [HU.out.1]
                exact hK6
end Go.Proofs.Ytkfbfainhmkkdaa

namespace Go.Proofs.Ytkfbfainhmkkdaa
open Go.RowKit Go.Sort
/-- what bytes are -/
def kindB (bs : List UInt8) : ByteArray := if (unpR bs).isSome then ⟨#[114, 101, 103, 105, 115, 116, 101, 114]⟩ else if (unpM bs).isSome then ⟨#[109, 97, 99, 104, 105, 110, 101]⟩ else if (unpP bs).isSome then ⟨#[112, 114, 111, 103, 114, 97, 109]⟩ else ⟨#[]⟩
theorem code8 {α : Type} (o : Option α) : ((if o.isSome then (0 : Int) else 8) == 0) = o.isSome := by cases o <;> rfl
set_option maxRecDepth 100000 in
set_option maxHeartbeats 1000000 in
theorem KindOfBytes_any (s : ByteArray) (w : World) (hs : s.size ≤ 1048576) :
    Calls Try.prog 36 #[.string s] w fun e w' => e = .returned (.string (kindB (strB s))) ∧ Below w.heap.size w w' := by
  have K1 := Lib.hid (fun W => UnpackRegister_any s W hs)
  have K2 := Lib.hid (fun W => UnpackMachine_any s W hs)
  have K3 := Lib.hid (fun W => UnpackProgram_any s W hs)
  have HK := Lib.hid (show kindB (strB s) = _ from rfl)
  go_enter Try.func36, Try.ntmps36
  go_wp2_with fail
  refine (K1.out w).mono ?_; rintro e w1 ⟨A, c, rfl, ho, hw⟩
  have hK1 := (Kn.nil w).keep hw
  clear ho hw
  unfold unpCode
  rcases h1 : (unpR (strB s)).isSome with _ | _
  · have H1 := Lib.hid h1; clear h1
    go_wp2_with fail
    refine Calls.kn (hK1.al_ _) ?_; intro w2 hK2
    refine (K2.out w2).mono ?_; rintro e w3 ⟨A1, c1, A2, c2, A3, c3, rfl, hK⟩
    have hK3 := hK2.join hK
    clear hK
    unfold unpMCode
    rcases h2 : (unpM (strB s)).isSome with _ | _
    · have H2 := Lib.hid h2; clear h2
      go_wp2_with fail
      refine Calls.kn (hK3.bare.al_ _) ?_; intro w4 hK4
      refine (K3.out w4).mono ?_; rintro e w5 ⟨A4, c4, rfl, hK⟩
      have hK5 := (hK4.join hK).bare
      clear hK
      unfold unpPCode
      rcases h3 : (unpP (strB s)).isSome with _ | _
      all_goals
        have H3 := Lib.hid h3; clear h3
        go_wp2_with fail
        go_ret
        exact ⟨by unfold kindB; rw [H1.out, H2.out, H3.out]; rfl, hK5.below⟩
    · have H2 := Lib.hid h2; clear h2
      go_wp2_with fail
      go_ret
      exact ⟨by unfold kindB; rw [H1.out, H2.out]; rfl, (hK3.bare.al_ _).below⟩
  · have H1 := Lib.hid h1; clear h1
    go_wp2_with fail
    go_ret
    exact ⟨by unfold kindB; rw [H1.out]; rfl, (hK1.al_ _).below⟩
set_option maxRecDepth 100000 in
set_option maxHeartbeats 1000000 in
theorem specKindOfBytes_any (s : ByteArray) (w : World) (hs : s.size ≤ 1048576) :
    Calls Try.prog 50 #[.string s] w fun e w' => e = .returned (.string (kindB (strB s))) ∧ Below w.heap.size w w' := by
  have K1 := Lib.hid (fun W => specUnpackRegister_any s W hs)
  have K2 := Lib.hid (fun W => specUnpackMachine_any s W hs)
  have K3 := Lib.hid (fun W => specUnpackProgram_any s W hs)
  go_enter Try.func50, Try.ntmps50
  go_wp2_with fail
  refine (K1.out w).mono ?_; rintro e w1 ⟨A, c, rfl, ho, hw⟩
  have hK1 := (Kn.nil w).keep hw
  clear ho hw
  unfold unpCode
  rcases h1 : (unpR (strB s)).isSome with _ | _
  all_goals
    have H1 := Lib.hid h1; clear h1
    go_wp2_with fail
    refine Calls.kn (hK1.al_ _) ?_; intro w2 hK2
    refine (K2.out w2).mono ?_; rintro e w3 ⟨A1, c1, A2, c2, A3, c3, rfl, hK⟩
    have hK3 := hK2.join hK
    clear hK
    unfold unpMCode
    rcases h2 : (unpM (strB s)).isSome with _ | _
    all_goals
      have H2 := Lib.hid h2; clear h2
      go_wp2_with fail
      refine Calls.kn (hK3.bare.al_ _) ?_; intro w4 hK4
      refine (K3.out w4).mono ?_; rintro e w5 ⟨A4, c4, rfl, hK⟩
      have hK5 := (hK4.join hK).bare
      clear hK
      unfold unpPCode
      rcases h3 : (unpP (strB s)).isSome with _ | _
      all_goals
        have H3 := Lib.hid h3; clear h3
        go_wp2_with fail
        go_ret
        exact ⟨by unfold kindB; rw [H1.out, H2.out, H3.out]; rfl, hK5.below⟩
end Go.Proofs.Ytkfbfainhmkkdaa

namespace Go.Proofs.Ytkfbfainhmkkdaa
open Go.RowKit Go.Sort
/-! what is packed, plainly -/
def prS (b : Int) (ds : List Int) : ByteArray := if vreg b ds = true then ⟨(packR b ds).toArray⟩ else ⟨#[]⟩
def prC (b : Int) (ds : List Int) : Int := if vreg b ds = true then 0 else 1
def pmS (t : Tri) : ByteArray := if vmach t = true then ⟨(packM t).toArray⟩ else ⟨#[]⟩
def pmC (t : Tri) : Int := if vmach t = true then 0 else 1
def ppS (xs : List Ins) : ByteArray := if vprog xs = true then ⟨(packP xs).toArray⟩ else ⟨#[]⟩
def ppC (xs : List Ins) : Int := if vprog xs = true then 0 else 1
def PKRet (s : ByteArray) (c : Int) (w : World) (e : Ending) (w' : World) : Prop := e = .returned (.tuple #[.string s, .int .i64 c]) ∧ Below w.heap.size w w'
theorem packR_head (b : Int) (ds : List Int) : ∃ tl, packR b ds = 82 :: tl := ⟨_, rfl⟩
theorem packM_head (t : Tri) : ∃ tl, packM t = 77 :: tl := ⟨_, rfl⟩
theorem packP_head (xs : List Ins) : ∃ tl, packP xs = 80 :: tl := ⟨_, rfl⟩
theorem unpR_pack {b : Int} {ds : List Int} (h : vreg b ds = true) : unpR (packR b ds) = some ⟨b, ds⟩ := by
  obtain ⟨more, hm⟩ : ∃ more, packR b ds = 82 :: (regB b ds ++ more) := ⟨_, rfl⟩
  obtain ⟨h1, h2, -, -⟩ := tk_regB b ds more h
  rw [hm, unpR, h1, h2]
  have h3 : (⟨b, ds⟩ : Reg).ok = true := h
  rw [h3, if_pos]
  show (true && true && decide (packR b ds = 82 :: (regB b ds ++ more))) = true
  rw [hm]; simp
theorem unpR_other {k : UInt8} {tl : List UInt8} (hk : k ≠ 82) : unpR (k :: tl) = none := by
  rw [unpR, if_neg]
  intro h
  simp only [Bool.and_eq_true, decide_eq_true_eq] at h
  obtain ⟨tl2, h2⟩ := packR_head (tkReg tl).base (tkReg tl).digits
  rw [h2] at h
  injection h.2 with h3
  exact hk h3.symm
theorem unpM_other {k : UInt8} {tl : List UInt8} (hk : k ≠ 77) : unpM (k :: tl) = none := by
  cases tl with
  | nil => rfl
  | cons p r0 =>
    rw [unpM, if_neg]
    intro h
    simp only [Bool.and_eq_true, decide_eq_true_eq] at h
    obtain ⟨tl2, h2⟩ := packM_head ⟨tkReg r0, tkReg (tkRest r0), tkReg (tkRest (tkRest r0)), p.toNat⟩
    rw [h2] at h
    injection h.2 with h3
    exact hk h3.symm
theorem toB_back {z : Int} (h0 : 0 ≤ z) (h1 : z < 256) : ((toB z).toNat : Int) = z := by
  unfold toB
  rw [UInt8.toNat_ofNat']
  omega
theorem unpM_pack {t : Tri} (h : vmach t = true) : unpM (packM t) = some t := by
  obtain ⟨k1, k2, k3, c0, c1⟩ := vmach_five h
  obtain ⟨more, hm⟩ : ∃ more, packM t = 77 :: toB t.carry :: ((regB t.a.base t.a.digits ++ regB t.b.base t.b.digits ++ regB t.s.base t.s.digits) ++ more) := ⟨_, rfl⟩
  have hm2 : packM t = 77 :: toB t.carry :: (regB t.a.base t.a.digits ++ (regB t.b.base t.b.digits ++ (regB t.s.base t.s.digits ++ more))) := by rw [hm]; simp only [List.append_assoc]
  obtain ⟨-, a2, a3, -⟩ := tk_regB t.a.base t.a.digits (regB t.b.base t.b.digits ++ (regB t.s.base t.s.digits ++ more)) k1
  obtain ⟨-, b2, b3, -⟩ := tk_regB t.b.base t.b.digits (regB t.s.base t.s.digits ++ more) k2
  obtain ⟨-, d2, d3, -⟩ := tk_regB t.s.base t.s.digits more k3
  rw [hm2, unpM, a3, a2, b3, b2, d2, toB_back c0 (by omega)]
  rw [if_pos]
  rw [Bool.and_eq_true]
  exact ⟨h, decide_eq_true hm2⟩
theorem unpP_pack {xs : List Ins} (h : vprog xs = true) : unpP (packP xs) = some xs := (unpP_iff _ _).2 ⟨h, rfl⟩
theorem kind_R {b : Int} {ds : List Int} (h : vreg b ds = true) : kindB (packR b ds) = ⟨#[114, 101, 103, 105, 115, 116, 101, 114]⟩ := by
  unfold kindB; rw [unpR_pack h]; rfl
theorem kind_M {t : Tri} (h : vmach t = true) : kindB (packM t) = ⟨#[109, 97, 99, 104, 105, 110, 101]⟩ := by
  obtain ⟨tl, ht⟩ := packM_head t
  have h1 := unpR_other (k := 77) (tl := tl) (by decide)
  rw [← ht] at h1
  unfold kindB; rw [h1, unpM_pack h]; rfl
theorem kind_P {xs : List Ins} (h : vprog xs = true) : kindB (packP xs) = ⟨#[112, 114, 111, 103, 114, 97, 109]⟩ := by
  obtain ⟨tl, ht⟩ := packP_head xs
  have h1 := unpR_other (k := 80) (tl := tl) (by decide)
  have h2 := unpM_other (k := 80) (tl := tl) (by decide)
  rw [← ht] at h1 h2
  unfold kindB; rw [h1, h2, unpP_pack h]; rfl
theorem sealB_len (bs : List UInt8) : (sealB bs).length = bs.length + 2 := by unfold sealB; simp
theorem packR_len {b : Int} {ds : List Int} (h : vreg b ds = true) : (packR b ds).length ≤ 1000 := by
  obtain ⟨-, ⟨n1, n2⟩, -⟩ := vreg_iff.1 h
  unfold packR
  rw [sealB_len, List.length_cons, regB_len]
  omega
theorem packM_len {t : Tri} (h : vmach t = true) : (packM t).length ≤ 1000 := by
  obtain ⟨k1, k2, k3, c0, c1⟩ := vmach_five h
  have h1 := regB_le k1
  have h2 := regB_le k2
  have h3 := regB_le k3
  unfold packM
  rw [sealB_len]
  simp only [List.length_cons, List.length_append]
  omega
theorem packP_len {xs : List Ins} (h : vprog xs = true) : (packP xs).length ≤ 1000 := by
  obtain ⟨h1, h2⟩ := vprog_each h
  have h3 := flat_len h2
  unfold packP
  rw [sealB_len]
  unfold progB
  simp only [List.length_cons]
  omega
theorem PackRegister_any (b : Int) (A : Option Addr) (n c : Nat) (ds : List Int) (w : World) (hr : RI w A n ds) (hm : n ≤ 1000000) : Calls Try.prog 26 #[.agg #[.int .i64 b, .slice A n c]] w (PKRet (prS b ds) (prC b ds) w) := by
  unfold PKRet prS prC
  cases hv : vreg b ds with
  | true => exact PackRegister_true b A n c ds w hr hv
  | false => exact PackRegister_false b A n c ds w hr hm hv
theorem PackMachine_any (t : Tri) (A1 A2 A3 : Option Addr) (c1 c2 c3 : Nat) (w : World) (r1 : RI w A1 t.a.digits.length t.a.digits) (r2 : RI w A2 t.b.digits.length t.b.digits) (r3 : RI w A3 t.s.digits.length t.s.digits) (hs : SmallTri t) : Calls Try.prog 29 #[.agg #[.int .i64 t.a.base, .slice A1 t.a.digits.length c1, .int .i64 t.b.base, .slice A2 t.b.digits.length c2, .int .i64 t.s.base, .slice A3 t.s.digits.length c3, .int .i64 t.carry]] w (PKRet (pmS t) (pmC t) w) := by
  unfold PKRet pmS pmC
  cases hv : vmach t with
  | true => exact PackMachine_true t A1 A2 A3 c1 c2 c3 w r1 r2 r3 hv
  | false => exact PackMachine_false t A1 A2 A3 c1 c2 c3 w r1 r2 r3 hs hv
theorem PackProgram_any (A : Option Addr) (n c : Nat) (xs : List Ins) (w : World) (hr : RL InsM 2 w A n xs) (hm : n ≤ 9223372036854775807) : Calls Try.prog 32 #[.slice A n c] w (PKRet (ppS xs) (ppC xs) w) := by
  unfold PKRet ppS ppC
  cases hv : vprog xs with
  | true => exact PackProgram_true A n c xs w hr hv
  | false => exact PackProgram_false A n c xs w hr hm hv
set_option maxRecDepth 100000 in
set_option maxHeartbeats 1600000 in
theorem specPackProgram_any (A : Option Addr) (n c : Nat) (xs : List Ins) (w : World) (hr : RL InsM 2 w A n xs) (hm : n ≤ 9223372036854775807) : Calls Try.prog 33 #[.slice A n c] w (PKRet (ppS xs) (ppC xs) w) := by
  unfold PKRet ppS ppC
  have KO := l11Ok_any A n c xs w hr hm
  cases hv : vprog xs with
  | true =>
    rw [hv] at KO
    have KO := Lib.hid KO
    have KP := Lib.hid (fun W (hW : Below w.heap.size w W) => l27Program_any A n c xs W (hr.below steady_InsM hW) hv)
    clear hv
    go_enter Try.func33, Try.ntmps33
    go_wp2_with fail
    refine KO.out.mono ?_; rintro e w1 ⟨rfl, q, rfl⟩
    have K1 := (Kn.nil w).drewN q
    go_wp2_with fail
    refine (KP.out _ K1.below).mono ?_; rintro e w2 ⟨rfl, hw⟩
    have K2 := K1.keep hw
    go_wp2_with fail
    go_ret2
    exact ⟨rfl, K2.below⟩
  | false =>
    rw [hv] at KO
    have KO := Lib.hid KO
    clear hv
    go_enter Try.func33, Try.ntmps33
    go_wp2_with fail
    refine KO.out.mono ?_; rintro e w1 ⟨rfl, q, rfl⟩
    have K1 := (Kn.nil w).drewN q
    go_wp2_with fail
    go_ret2
    exact ⟨rfl, K1.below⟩
set_option maxRecDepth 100000 in
set_option maxHeartbeats 1600000 in
theorem specPackRegister_any (b : Int) (A : Option Addr) (n c : Nat) (ds : List Int) (w : World) (hr : RI w A n ds) (hm : n ≤ 1000000) : Calls Try.prog 27 #[.agg #[.int .i64 b, .slice A n c]] w (PKRet (prS b ds) (prC b ds) w) := by
  unfold PKRet prS prC
  have HR := Lib.hid (fun W (hW : Below w.heap.size w W) => hr.below hW)
  have KO := (fun W hp (hW : Below w.heap.size w W) => l02Ok_any ⟨w.heap.size, 0, none⟩ b A n c ds W hp (hr.below hW) (by omega))
  cases hv : vreg b ds with
  | true =>
    rw [hv] at KO
    have KO := Lib.hid KO
    obtain ⟨⟨b1, b2⟩, ⟨n1, n2⟩, hd, -⟩ := vreg_iff.1 hv
    have hln := hr.1
    have HD := Lib.hid hd
    have HPL := Lib.hid (show sealB ([82] ++ regB b ds) = packR b ds from rfl)
    clear hv hr hd
    go_enter Try.func27, Try.ntmps27
    go_wp2_with fail
    refine Calls.kn ((Kn.nil w).al [.int .i64 b, .slice A n c] 26) ?_; intro w1 K1
    refine (KO.out _ (box2 K1) K1.below).mono ?_; rintro e w2 ⟨rfl, q, rfl⟩
    have K2 := K1.drewN q
    generalize w1.drewN q = w2 at K2 ⊢
    clear K1
    go_wp2_with fail
    refine Calls.kn (K2.al [.int .u8 82] 5) ?_; intro w3 K3
    have K4 : Kn w (rowB _ [82] :: _) w3 := kn_litB (zs := [82]) (bs := [82]) K3 rfl (by decide)
    refine (l27Digits_any (m := [.blk w.heap.size [.int .i64 b, .slice A n c] 26]) _ [82] w.heap.size 0 b A n c ds w3 K4 ⟨fun v bs W h => ⟨(box2 (h.front 1 rfl)).1, (box2 (h.front 1 rfl)).2, HR.out W h.below⟩⟩ (by decide) b1 b2 (by omega) (by omega) HD.out).mono ?_; rintro e w5 ⟨v5, rfl, K5⟩
    clear K2 K3 K4
    have ho := K5.ownB
    obtain ⟨A5, c5, rfl, -⟩ := ho.reads
    have hpl2 : ([82] ++ regB b ds).length ≤ 1000000 := by rw [List.length_append, regB_len]; simp; omega
    have KS := Lib.hid (l27Ended_any w.heap.size A5 _ c5 _ w5 ho hpl2 K5.size)
    clear ho
    go_wp2_with fail
    refine KS.out.mono ?_; rintro e w7 ⟨rfl, hw⟩
    have HB := Lib.hid (K5.below.trans hw)
    clear hw
    go_wp2_with fail
    go_ret2
    exact ⟨by rw [← HPL.out]; rfl, HB.out⟩
  | false =>
    rw [hv] at KO
    have KO := Lib.hid KO
    clear hv hr
    go_enter Try.func27, Try.ntmps27
    go_wp2_with fail
    refine Calls.kn ((Kn.nil w).al [.int .i64 b, .slice A n c] 26) ?_; intro w1 K1
    refine (KO.out _ (box2 K1) K1.below).mono ?_; rintro e w2 ⟨rfl, q, rfl⟩
    have K2 := K1.drewN q
    go_wp2_with fail
    go_ret2
    exact ⟨rfl, K2.below⟩
set_option maxRecDepth 100000 in
set_option maxHeartbeats 3200000 in
theorem l27Machine_any {w0 : World} (g : Nat) (t : Tri) (A1 A2 A3 : Option Addr) (c1 c2 c3 : Nat) (w : World) (hK : Kn w0 [.blk g [.int .i64 t.a.base, .slice A1 t.a.digits.length c1, .int .i64 t.b.base, .slice A2 t.b.digits.length c2, .int .i64 t.s.base, .slice A3 t.s.digits.length c3, .int .i64 t.carry] 28] w) (r1 : RI w0 A1 t.a.digits.length t.a.digits) (r2 : RI w0 A2 t.b.digits.length t.b.digits) (r3 : RI w0 A3 t.s.digits.length t.s.digits) (hv : vmach t = true) :
    Calls Try.prog 96 #[.pointer (some ⟨g, 0, none⟩)] w fun e w' => e = .returned (.string ⟨(packM t).toArray⟩) ∧ Below w0.heap.size w0 w' := by
  obtain ⟨k1, k2, k3, p0, p1⟩ := vmach_five hv
  obtain ⟨⟨b1, b2⟩, ⟨n1, n2⟩, d1, -⟩ := vreg_iff.1 k1
  obtain ⟨⟨b3, b4⟩, ⟨n3, n4⟩, d2, -⟩ := vreg_iff.1 k2
  obtain ⟨⟨b5, b6⟩, ⟨n5, n6⟩, d3, -⟩ := vreg_iff.1 k3
  have l1 := (regB_le k1).2
  have l2 := (regB_le k2).2
  have l3 := (regB_le k3).2
  have y0 : IntKind.u8.wrap t.carry = t.carry := wrapB (by omega)
  have HPM := Lib.hid (show sealB ((([77, toB t.carry] ++ regB t.a.base t.a.digits) ++ regB t.b.base t.b.digits) ++ regB t.s.base t.s.digits) = packM t by unfold packM; simp)
  have KD1 := Lib.hid (fun v pre W (h : Kn w0 (rowB v pre :: [.blk g [.int .i64 t.a.base, .slice A1 t.a.digits.length c1, .int .i64 t.b.base, .slice A2 t.b.digits.length c2, .int .i64 t.s.base, .slice A3 t.s.digits.length c3, .int .i64 t.carry] 28]) W) hl => l27Digits_any (m := [.blk g [.int .i64 t.a.base, .slice A1 t.a.digits.length c1, .int .i64 t.b.base, .slice A2 t.b.digits.length c2, .int .i64 t.s.base, .slice A3 t.s.digits.length c3, .int .i64 t.carry] 28]) v pre g 0 t.a.base A1 t.a.digits.length c1 t.a.digits W h ⟨fun v bs W h => ⟨(box7at h 1 rfl).1, (box7at h 1 rfl).2.1, r1.below h.below⟩⟩ hl b1 b2 (by omega) (by omega) d1)
  have KD2 := Lib.hid (fun v pre W (h : Kn w0 (rowB v pre :: [.blk g [.int .i64 t.a.base, .slice A1 t.a.digits.length c1, .int .i64 t.b.base, .slice A2 t.b.digits.length c2, .int .i64 t.s.base, .slice A3 t.s.digits.length c3, .int .i64 t.carry] 28]) W) hl => l27Digits_any (m := [.blk g [.int .i64 t.a.base, .slice A1 t.a.digits.length c1, .int .i64 t.b.base, .slice A2 t.b.digits.length c2, .int .i64 t.s.base, .slice A3 t.s.digits.length c3, .int .i64 t.carry] 28]) v pre g 2 t.b.base A2 t.b.digits.length c2 t.b.digits W h ⟨fun v bs W h => ⟨(box7at h 1 rfl).2.2.1, (box7at h 1 rfl).2.2.2.1, r2.below h.below⟩⟩ hl b3 b4 (by omega) (by omega) d2)
  have KD3 := Lib.hid (fun v pre W (h : Kn w0 (rowB v pre :: [.blk g [.int .i64 t.a.base, .slice A1 t.a.digits.length c1, .int .i64 t.b.base, .slice A2 t.b.digits.length c2, .int .i64 t.s.base, .slice A3 t.s.digits.length c3, .int .i64 t.carry] 28]) W) hl => l27Digits_any (m := [.blk g [.int .i64 t.a.base, .slice A1 t.a.digits.length c1, .int .i64 t.b.base, .slice A2 t.b.digits.length c2, .int .i64 t.s.base, .slice A3 t.s.digits.length c3, .int .i64 t.carry] 28]) v pre g 4 t.s.base A3 t.s.digits.length c3 t.s.digits W h ⟨fun v bs W h => ⟨(box7at h 1 rfl).2.2.2.2.1, (box7at h 1 rfl).2.2.2.2.2.1, r3.below h.below⟩⟩ hl b5 b6 (by omega) (by omega) d3)
  have hlit : [(77 : Int), t.carry].map (Value.int .u8) = [77, toB t.carry].map byteV := by
    simp only [List.map_cons, List.map_nil]
    rw [ofNat_byte p0 (show t.carry < 256 by omega)]
    rfl
  have HLIT := Lib.hid hlit
  clear hlit d1 d2 d3 r1 r2 r3 k1 k2 k3 hv
  obtain ⟨a1, a2, a3, -⟩ := hK.cells
  go_enter Try.func96, Try.ntmps96
  go_upto_region 2 with fail
  refine Code.wp.kn (hK.al [.int .u8 77, .int .u8 t.carry] 5) ?_; intro w1 K1
  clear a1 a2 a3
  have K2 : Kn w0 (rowB _ [77, toB t.carry] :: _) w1 := kn_litB (zs := [77, t.carry]) (bs := [77, toB t.carry]) K1 HLIT.out (by simp)
  go_wp2_with fail
  refine (KD1.out _ _ _ K2 (by simp)).mono ?_; rintro e w3 ⟨v3, rfl, K3⟩
  clear K1 K2 KD1
  go_wp2_with fail
  refine (KD2.out _ _ _ K3 (by rw [List.length_append]; simp; omega)).mono ?_; rintro e w4 ⟨v4, rfl, K4⟩
  clear K3 KD2
  go_wp2_with fail
  refine (KD3.out _ _ _ K4 (by rw [List.length_append, List.length_append]; simp; omega)).mono ?_; rintro e w5 ⟨v5, rfl, K5⟩
  clear K4 KD3
  have hpl2 : ((([77, toB t.carry] ++ regB t.a.base t.a.digits) ++ regB t.b.base t.b.digits) ++ regB t.s.base t.s.digits).length ≤ 1000000 := by simp only [List.length_append, List.length_cons, List.length_nil]; omega
  have hpm := HPM.out
  obtain ⟨L, hL⟩ : ∃ L, ((([77, toB t.carry] ++ regB t.a.base t.a.digits) ++ regB t.b.base t.b.digits) ++ regB t.s.base t.s.digits) = L := ⟨_, rfl⟩
  rw [hL] at K5 hpl2 hpm
  have HPM2 := Lib.hid hpm
  clear hL hpm HPM
  have ho := K5.ownB
  obtain ⟨A5, c5, rfl, -⟩ := ho.reads
  have KS := Lib.hid (l27Ended_any w0.heap.size A5 _ c5 _ w5 ho hpl2 K5.size)
  clear ho
  go_wp2_with fail
  refine KS.out.mono ?_; rintro e w7 ⟨rfl, hw⟩
  have HB := Lib.hid (K5.below.trans hw)
  clear hw
  go_wp2_with fail
  go_ret
  exact ⟨by rw [← HPM2.out]; rfl, HB.out⟩
set_option maxRecDepth 100000 in
set_option maxHeartbeats 1600000 in
theorem specPackMachine_any (t : Tri) (A1 A2 A3 : Option Addr) (c1 c2 c3 : Nat) (w : World) (r1 : RI w A1 t.a.digits.length t.a.digits) (r2 : RI w A2 t.b.digits.length t.b.digits) (r3 : RI w A3 t.s.digits.length t.s.digits) (hs : SmallTri t) : Calls Try.prog 30 #[.agg #[.int .i64 t.a.base, .slice A1 t.a.digits.length c1, .int .i64 t.b.base, .slice A2 t.b.digits.length c2, .int .i64 t.s.base, .slice A3 t.s.digits.length c3, .int .i64 t.carry]] w (PKRet (pmS t) (pmC t) w) := by
  unfold PKRet pmS pmC
  have KO := (fun W (hK : Kn w [.blk w.heap.size [.int .i64 t.a.base, .slice A1 t.a.digits.length c1, .int .i64 t.b.base, .slice A2 t.b.digits.length c2, .int .i64 t.s.base, .slice A3 t.s.digits.length c3, .int .i64 t.carry] 28] W) => l10Ok_any ⟨w.heap.size, 0, none⟩ t W (TriC.tri (A1 := A1) (c1 := c1) (A2 := A2) (c2 := c2) (A3 := A3) (c3 := c3) ⟨box7' hK, r1.below hK.below, r2.below hK.below, r3.below hK.below⟩) hs)
  cases hv : vmach t with
  | true =>
    rw [hv] at KO
    have KO := Lib.hid KO
    have KM := Lib.hid (fun W h => l27Machine_any (w0 := w) w.heap.size t A1 A2 A3 c1 c2 c3 W h r1 r2 r3 hv)
    clear hv r1 r2 r3
    go_enter Try.func30, Try.ntmps30
    go_wp2_with fail
    refine Calls.kn ((Kn.nil w).al [.int .i64 t.a.base, .slice A1 t.a.digits.length c1, .int .i64 t.b.base, .slice A2 t.b.digits.length c2, .int .i64 t.s.base, .slice A3 t.s.digits.length c3, .int .i64 t.carry] 28) ?_; intro w1 K1
    refine (KO.out _ K1).mono ?_; rintro e w2 ⟨rfl, q, rfl⟩
    have K2 := K1.drewN q
    go_wp2_with fail
    refine (KM.out _ K2).mono ?_; rintro e w3 ⟨rfl, hw⟩
    go_wp2_with fail
    go_ret2
    exact ⟨rfl, hw⟩
  | false =>
    rw [hv] at KO
    have KO := Lib.hid KO
    clear hv r1 r2 r3
    go_enter Try.func30, Try.ntmps30
    go_wp2_with fail
    refine Calls.kn ((Kn.nil w).al [.int .i64 t.a.base, .slice A1 t.a.digits.length c1, .int .i64 t.b.base, .slice A2 t.b.digits.length c2, .int .i64 t.s.base, .slice A3 t.s.digits.length c3, .int .i64 t.carry] 28) ?_; intro w1 K1
    refine (KO.out _ K1).mono ?_; rintro e w2 ⟨rfl, q, rfl⟩
    have K2 := K1.drewN q
    go_wp2_with fail
    go_ret2
    exact ⟨rfl, K2.below⟩
set_option maxRecDepth 100000 in
theorem DrawPackRegister_any (A : Option Addr) (n c : Nat) (bs : List UInt8) (w : World) (hb : RB w A n bs) (hn : n ≤ 9223372036854775807) :
    Calls Try.prog 25 #[.slice A n c] w (DrawsReg w) := by
  unfold DrawsReg
  have HB := Lib.hid hb
  clear hb
  go_enter Try.func25, Try.ntmps25
  go_wp2_with fail
  refine Calls.kn ((Kn.nil w).al [.int .i64 0, .slice none 0 0] 26) ?_; intro w1 K1
  refine (l00From_any A n c bs w1 (HB.out.below K1.below) hn).mono ?_; rintro e w2 ⟨rfl, hs, hb2⟩
  have D2 := DR.nil hs
  clear HB hs
  have KD := Lib.hid (l02Bent_dr _ _ w2 D2.src (by omega))
  unfold DReg2 at KD
  go_wp2_with fail
  refine KD.out.mono ?_; rintro e w3 ⟨bs, A, c, ds, rfl, hl, h3⟩
  have K3 := K1.join (Kn.ofDR hb2 (Nat.le_refl _) h3)
  clear K1 D2 h3 hb2 KD
  obtain ⟨a1, a2, a3, -⟩ := (K3.front 1 rfl).cells
  go_wp2_with fail
  refine bodyPost.kn (((K3.front 1 rfl).st 0 (.int .i64 bs)).st 1 (.slice A ds.length c)) ?_; intro w9 K9
  clear a1 a2 a3
  obtain ⟨a1, a2, a3, -⟩ := K9.cells
  exact bodyPost_ret (v := .agg #[.int .i64 bs, .slice A ds.length c]) (by simp [results, Try.results25, go_sem, a1]) rfl ⟨bs, A, c, ds, rfl, hl, K9.sel [1] 99 (by decide) (by decide)⟩
set_option maxRecDepth 100000 in
set_option maxHeartbeats 1600000 in
theorem DrawPackMachine_any (A : Option Addr) (n c : Nat) (bs : List UInt8) (w : World) (hb : RB w A n bs) (hn : n ≤ 9223372036854775807) :
    Calls Try.prog 28 #[.slice A n c] w fun e w' => ∃ (t : Tri) (A1 : Option Addr) (c1 : Nat) (A2 : Option Addr) (c2 : Nat) (A3 : Option Addr) (c3 : Nat), e = .returned (.agg #[.int .i64 t.a.base, .slice A1 t.a.digits.length c1, .int .i64 t.b.base, .slice A2 t.b.digits.length c2, .int .i64 t.s.base, .slice A3 t.s.digits.length c3, .int .i64 t.carry]) ∧ (t.a.digits.length ≤ 22 ∧ t.b.digits.length ≤ 22 ∧ t.s.digits.length ≤ 22) ∧ Kn w [rowI A3 c3 t.s.digits, rowI A2 c2 t.b.digits, rowI A1 c1 t.a.digits] w' := by
  have HB := Lib.hid hb
  clear hb
  go_enter Try.func28, Try.ntmps28
  go_wp2_with fail
  refine Calls.kn ((Kn.nil w).al [.int .i64 0, .slice none 0 0, .int .i64 0, .slice none 0 0, .int .i64 0, .slice none 0 0, .int .i64 0] 28) ?_; intro w1 K1
  refine (l00From_any A n c bs w1 (HB.out.below K1.below) hn).mono ?_; rintro e w2 ⟨rfl, hs, hb2⟩
  have D2 := DR.nil hs
  clear HB hs
  have KD := Lib.hid (l10Bent_dr _ _ w2 D2.src (by omega))
  unfold DBent at KD
  go_wp2_with fail
  refine KD.out.mono ?_; rintro e w3 ⟨t, A1, c1, A2, c2, A3, c3, rfl, hl, h3⟩
  have K3 := K1.join (Kn.ofDR hb2 (Nat.le_refl _) h3)
  clear K1 D2 h3 hb2 KD
  obtain ⟨a1, a2, a3, -⟩ := (K3.front 3 rfl).cells
  go_wp2_with fail
  refine bodyPost.kn ((((((((K3.front 3 rfl).st 0 (.int .i64 t.a.base)).st 1 (.slice A1 t.a.digits.length c1)).st 2 (.int .i64 t.b.base)).st 3 (.slice A2 t.b.digits.length c2)).st 4 (.int .i64 t.s.base)).st 5 (.slice A3 t.s.digits.length c3)).st 6 (.int .i64 t.carry)) ?_; intro w9 K9
  clear a1 a2 a3
  obtain ⟨a1, a2, a3, -⟩ := K9.cells
  exact bodyPost_ret (v := .agg #[.int .i64 t.a.base, .slice A1 t.a.digits.length c1, .int .i64 t.b.base, .slice A2 t.b.digits.length c2, .int .i64 t.s.base, .slice A3 t.s.digits.length c3, .int .i64 t.carry]) (by simp [results, Try.results28, go_sem, a1]) rfl ⟨t, A1, c1, A2, c2, A3, c3, rfl, hl, K9.sel [1, 2, 3] 99 (by decide) (by decide)⟩
set_option maxRecDepth 100000 in
theorem DrawPackProgram_any (A : Option Addr) (n c : Nat) (bs : List UInt8) (w : World) (hb : RB w A n bs) (hn : n ≤ 9223372036854775807) :
    Calls Try.prog 31 #[.slice A n c] w fun e w' => ∃ (B : Option Addr) (d : Nat) (xs : List Ins), e = .returned (.slice B xs.length d) ∧ xs.length ≤ 168 ∧ Kn w [rowIns (.slice B xs.length d) xs] w' := by
  have HB := Lib.hid hb
  clear hb
  go_enter Try.func31, Try.ntmps31
  go_wp2_with fail
  refine (l00From_any A n c bs w HB.out hn).mono ?_; rintro e w2 ⟨rfl, hs, hb2⟩
  have D2 := DR.nil hs
  clear HB hs
  have KD := Lib.hid (l11Bent_dr _ _ w2 D2.src (by omega))
  unfold DIns at KD
  go_wp2_with fail
  refine KD.out.mono ?_; rintro e w3 ⟨g, c, xs, rfl, hl, h3⟩
  have K3 := (Kn.nil w).join (Kn.ofDR hb2 (Nat.le_refl _) h3)
  clear D2 h3 hb2 KD
  go_wp2_with fail
  go_ret
  exact ⟨_, c, xs, rfl, hl, K3⟩
end Go.Proofs.Ytkfbfainhmkkdaa

namespace Go.Proofs.Ytkfbfainhmkkdaa
open Go.RowKit Go.Sort
theorem strB_arr (bs : List UInt8) : strB ⟨bs.toArray⟩ = bs := strB_mk bs
/-- a packed register is read back -/
theorem unpackR_back {b : Int} {ds : List Int} (h : prC b ds = 0) (w : World) : Calls Try.prog 34 #[.string (prS b ds)] w fun e w' => ∃ A c, e = .returned (.tuple #[.agg #[.int .i64 b, .slice A ds.length c], .int .i64 0]) ∧ Kn w [rowI A c ds] w' := by
  have hv : vreg b ds = true := by
    cases hv : vreg b ds with
    | true => rfl
    | false => unfold prC at h; rw [hv] at h; simp at h
  have hs : prS b ds = ⟨(packR b ds).toArray⟩ := by unfold prS; rw [if_pos hv]
  have hl := packR_len hv
  rw [hs]
  refine (UnpackRegister_any ⟨(packR b ds).toArray⟩ w (by show (packR b ds).toArray.size ≤ 1048576; simp; omega)).mono ?_
  rintro e w' ⟨A, c, rfl, ho, hw⟩
  rw [strB_arr] at ho ⊢
  obtain ⟨e1, e2⟩ := unp_some (unpR_pack hv)
  rw [e1] at ho ⊢
  rw [e2]
  exact ⟨A, c, rfl, (Kn.nil w).addI hw ho⟩
theorem kindR_back {b : Int} {ds : List Int} (h : prC b ds = 0) (w : World) : Calls Try.prog 36 #[.string (prS b ds)] w fun e w' => e = .returned (.string ⟨#[114, 101, 103, 105, 115, 116, 101, 114]⟩) ∧ Below w.heap.size w w' := by
  have hv : vreg b ds = true := by
    cases hv : vreg b ds with
    | true => rfl
    | false => unfold prC at h; rw [hv] at h; simp at h
  have hs : prS b ds = ⟨(packR b ds).toArray⟩ := by unfold prS; rw [if_pos hv]
  have hl := packR_len hv
  rw [hs]
  have H := KindOfBytes_any ⟨(packR b ds).toArray⟩ w (by show (packR b ds).toArray.size ≤ 1048576; simp; omega)
  rw [strB_arr, kind_R hv] at H
  exact H
theorem unpackM_back {t : Tri} (h : pmC t = 0) (w : World) : Calls Try.prog 37 #[.string (pmS t)] w fun e w' => ∃ E1 f1 E2 f2 E3 f3, e = .returned (.tuple #[.agg #[.int .i64 t.a.base, .slice E1 t.a.digits.length f1, .int .i64 t.b.base, .slice E2 t.b.digits.length f2, .int .i64 t.s.base, .slice E3 t.s.digits.length f3, .int .i64 t.carry], .int .i64 0]) ∧ Kn w [rowI E3 f3 t.s.digits, rowI E2 f2 t.b.digits, rowI E1 f1 t.a.digits] w' := by
  have hv : vmach t = true := by
    cases hv : vmach t with
    | true => rfl
    | false => unfold pmC at h; rw [hv] at h; simp at h
  have hs : pmS t = ⟨(packM t).toArray⟩ := by unfold pmS; rw [if_pos hv]
  have hl := packM_len hv
  rw [hs]
  refine (UnpackMachine_any ⟨(packM t).toArray⟩ w (by show (packM t).toArray.size ≤ 1048576; simp; omega)).mono ?_
  rintro e w' ⟨E1, f1, E2, f2, E3, f3, rfl, hK⟩
  rw [strB_arr] at hK ⊢
  obtain ⟨e1, e2⟩ := unpM_some (unpM_pack hv)
  rw [e1] at hK ⊢
  rw [e2]
  exact ⟨E1, f1, E2, f2, E3, f3, rfl, hK⟩
theorem kindM_back {t : Tri} (h : pmC t = 0) (w : World) : Calls Try.prog 36 #[.string (pmS t)] w fun e w' => e = .returned (.string ⟨#[109, 97, 99, 104, 105, 110, 101]⟩) ∧ Below w.heap.size w w' := by
  have hv : vmach t = true := by
    cases hv : vmach t with
    | true => rfl
    | false => unfold pmC at h; rw [hv] at h; simp at h
  have hs : pmS t = ⟨(packM t).toArray⟩ := by unfold pmS; rw [if_pos hv]
  have hl := packM_len hv
  rw [hs]
  have H := KindOfBytes_any ⟨(packM t).toArray⟩ w (by show (packM t).toArray.size ≤ 1048576; simp; omega)
  rw [strB_arr, kind_M hv] at H
  exact H
theorem unpackP_back {xs : List Ins} (h : ppC xs = 0) (w : World) : Calls Try.prog 38 #[.string (ppS xs)] w fun e w' => ∃ A c, e = .returned (.tuple #[.slice A xs.length c, .int .i64 0]) ∧ Kn w [rowIns (.slice A xs.length c) xs] w' := by
  have hv : vprog xs = true := by
    cases hv : vprog xs with
    | true => rfl
    | false => unfold ppC at h; rw [hv] at h; simp at h
  have hs : ppS xs = ⟨(packP xs).toArray⟩ := by unfold ppS; rw [if_pos hv]
  have hl := packP_len hv
  rw [hs]
  refine (UnpackProgram_any ⟨(packP xs).toArray⟩ w (by show (packP xs).toArray.size ≤ 1048576; simp; omega)).mono ?_
  rintro e w' ⟨A, c, rfl, hK⟩
  rw [strB_arr] at hK ⊢
  obtain ⟨e1, e2⟩ := unpP_some (unpP_pack hv)
  rw [e1] at hK ⊢
  rw [e2]
  exact ⟨A, c, rfl, hK⟩
theorem kindP_back {xs : List Ins} (h : ppC xs = 0) (w : World) : Calls Try.prog 36 #[.string (ppS xs)] w fun e w' => e = .returned (.string ⟨#[112, 114, 111, 103, 114, 97, 109]⟩) ∧ Below w.heap.size w w' := by
  have hv : vprog xs = true := by
    cases hv : vprog xs with
    | true => rfl
    | false => unfold ppC at h; rw [hv] at h; simp at h
  have hs : ppS xs = ⟨(packP xs).toArray⟩ := by unfold ppS; rw [if_pos hv]
  have hl := packP_len hv
  rw [hs]
  have H := KindOfBytes_any ⟨(packP xs).toArray⟩ w (by show (packP xs).toArray.size ≤ 1048576; simp; omega)
  rw [strB_arr, kind_P hv] at H
  exact H
set_option maxRecDepth 100000 in
set_option maxHeartbeats 6400000 in
theorem law_Packed (A : Option Addr) (n c : Nat) (bs : List UInt8) (w : World) (hb : RB w A n bs) (hn : n ≤ 9223372036854775807) :
    Calls Try.prog 4 #[.slice A n c] w fun e w' => e = .returned (.bool true) ∧ Below w.heap.size w w' := by
  have KD := Lib.hid (DrawPackRegister_any A n c bs w hb hn)
  have KM := Lib.hid (fun W (hW : Below w.heap.size w W) => DrawPackMachine_any A n c bs W (hb.below hW) hn)
  have KP := Lib.hid (fun W (hW : Below w.heap.size w W) => DrawPackProgram_any A n c bs W (hb.below hW) hn)
  unfold DrawsReg at KD
  clear hb
  have KG := (fun W => f6bigP_any A n c W)
  obtain ⟨bg, hbg⟩ : ∃ b, decide ((n : Int) > 4096) = b := ⟨_, rfl⟩
  rw [hbg] at KG
  replace KG := Lib.hid KG
  clear hbg
  rcases bg with _ | _
  rotate_left
  · go_enter Try.func4, Try.ntmps4
    go_wp2_with (go_at_call 7; refine (KG.out _).mono ?_; rintro e w' ⟨rfl, hww⟩; obtain rfl := hww.symm)
    go_ret
    exact ⟨rfl, Below.refl _ _⟩
  go_enter Try.func4, Try.ntmps4
  go_wp2_with (go_at_call 7; refine (KG.out _).mono ?_; rintro e w' ⟨rfl, hww⟩; obtain rfl := hww.symm)
  refine KD.out.mono ?_; rintro e w1 ⟨b, RA, rc, ds, rfl, hdl, K1⟩
  clear KD
  have KA := (fun W hr => PackRegister_any b RA ds.length rc ds W hr (by omega))
  have KB := (fun W hr => specPackRegister_any b RA ds.length rc ds W hr (by omega))
  have U1 := Lib.hid (fun (h : prC b ds = 0) W => unpackR_back h W)
  have W1 := Lib.hid (fun (h : prC b ds = 0) W => kindR_back h W)
  unfold PKRet at KA KB
  obtain ⟨rs, hrs⟩ : ∃ v, prS b ds = v := ⟨_, rfl⟩
  obtain ⟨rz, hrz⟩ : ∃ v, prC b ds = v := ⟨_, rfl⟩
  simp only [hrs, hrz] at KA KB U1 W1
  have KA := Lib.hid KA
  have KB := Lib.hid KB
  clear hrs hrz
  obtain ⟨g, hg⟩ : ∃ g, w1.heap.size = g := ⟨_, rfl⟩
  go_wp2_with fail
  refine Calls.kn (K1.al [.int .i64 b, .slice RA ds.length rc] 26) ?_; intro w2 K2
  rw [hg] at K2
  try rw [hg]
  clear K1 hg
  refine (KA.out _ (K2.front 1 rfl).riv).mono ?_; rintro e w3 ⟨rfl, hw⟩
  have K3 := K2.keep hw
  clear K2 hw KA
  obtain ⟨a1, a2, a3, -⟩ := K3.cells
  go_wp2_with fail
  refine (KB.out _ (K3.front 1 rfl).riv).mono ?_; rintro e w4 ⟨rfl, hw⟩
  have K4 := K3.keep hw
  clear K3 hw KB a1 a2 a3
  go_wp2_with fail
  refine (KM.out _ K4.below).mono ?_; rintro e w5 ⟨t, A1, c1, A2, c2, A3, c3, rfl, htl, hK⟩
  have K5 := K4.join hK
  clear K4 hK KM
  have hs : SmallTri t := ⟨by unfold SmallReg; omega, by unfold SmallReg; omega, by unfold SmallReg; omega⟩
  have KA := (fun W r1 r2 r3 => PackMachine_any t A1 A2 A3 c1 c2 c3 W r1 r2 r3 hs)
  have KB := (fun W r1 r2 r3 => specPackMachine_any t A1 A2 A3 c1 c2 c3 W r1 r2 r3 hs)
  have U2 := Lib.hid (fun (h : pmC t = 0) W => unpackM_back h W)
  have W2 := Lib.hid (fun (h : pmC t = 0) W => kindM_back h W)
  unfold PKRet at KA KB
  obtain ⟨ms, hms⟩ : ∃ v, pmS t = v := ⟨_, rfl⟩
  obtain ⟨mz, hmz⟩ : ∃ v, pmC t = v := ⟨_, rfl⟩
  simp only [hms, hmz] at KA KB U2 W2
  have KA := Lib.hid KA
  have KB := Lib.hid KB
  clear hms hmz hs htl
  obtain ⟨g2, hg2⟩ : ∃ g, w5.heap.size = g := ⟨_, rfl⟩
  go_wp2_with fail
  refine Calls.kn (K5.al [.int .i64 t.a.base, .slice A1 t.a.digits.length c1, .int .i64 t.b.base, .slice A2 t.b.digits.length c2, .int .i64 t.s.base, .slice A3 t.s.digits.length c3, .int .i64 t.carry] 28) ?_; intro w6 K6
  rw [hg2] at K6
  try rw [hg2]
  clear K5 hg2
  refine (KA.out _ (K6.front 3 rfl).riv (K6.front 2 rfl).riv (K6.front 1 rfl).riv).mono ?_; rintro e w7 ⟨rfl, hw⟩
  have K7 := K6.keep hw
  clear K6 hw KA
  obtain ⟨a1, a2, a3, -⟩ := K7.cells
  go_wp2_with fail
  refine (KB.out _ (K7.front 3 rfl).riv (K7.front 2 rfl).riv (K7.front 1 rfl).riv).mono ?_; rintro e w8 ⟨rfl, hw⟩
  have K8 := K7.keep hw
  clear K7 hw KB a1 a2 a3
  go_wp2_with fail
  refine (KP.out _ K8.below).mono ?_; rintro e w9 ⟨PB, pd, xs, rfl, hxl, hK⟩
  have K9 := K8.join hK
  clear K8 hK KP
  have KA := (fun W hr => PackProgram_any PB xs.length pd xs W hr (by omega))
  have KB := (fun W hr => specPackProgram_any PB xs.length pd xs W hr (by omega))
  have U3 := Lib.hid (fun (h : ppC xs = 0) W => unpackP_back h W)
  have W3 := Lib.hid (fun (h : ppC xs = 0) W => kindP_back h W)
  unfold PKRet at KA KB
  obtain ⟨ps, hps⟩ : ∃ v, ppS xs = v := ⟨_, rfl⟩
  obtain ⟨pz, hpz⟩ : ∃ v, ppC xs = v := ⟨_, rfl⟩
  simp only [hps, hpz] at KA KB U3 W3
  have KA := Lib.hid KA
  have KB := Lib.hid KB
  clear hps hpz
  go_wp2_with fail
  refine (KA.out _ (Kn.rlIns K9).2).mono ?_; rintro e w10 ⟨rfl, hw⟩
  have K10 := K9.keep hw
  clear K9 hw KA
  go_wp2_with fail
  refine (KB.out _ (Kn.rlIns K10).2).mono ?_; rintro e w11 ⟨rfl, hw⟩
  have K11 := K10.keep hw
  clear K10 hw KB
  go_upto_region 14 with fail
  by_cases hr : rz = 0
  · have KU := Lib.hid (U1.out hr)
    have KK := Lib.hid (W1.out hr)
    clear U1 W1
    subst hr
    go_wp2_with fail
    refine (KU.out _).mono ?_; rintro e w21 ⟨XA, xc, rfl, hK⟩
    have K21 := K11.join hK
    clear KU hK K11
    obtain ⟨g3, hg3⟩ : ∃ g, w21.heap.size = g := ⟨_, rfl⟩
    go_upto_region 16 with fail
    refine Code.wp.kn (K21.al [.int .i64 b, .slice XA ds.length xc] 26) ?_; intro w22 K22
    rw [hg3] at K22
    try rw [hg3]
    clear K21 hg3
    obtain ⟨a1, a2, a3, -⟩ := K22.cells
    obtain ⟨b1, b2, b3, -⟩ := (K22.front 7 rfl).cells
    go_wp2_with fail
    refine (specSameRegister_same b XA RA xc rc ds _ (K22.front 1 rfl).riv (K22.front 8 rfl).riv (by omega)).mono ?_; rintro e w23 ⟨rfl, hw⟩
    have K23 := (K22.keep hw).sel [3, 4, 5, 6, 2] 99 (by decide) (by decide)
    clear K22 hw a1 a2 a3 b1 b2 b3
    go_wp2_with fail
    refine (KK.out _).mono ?_; rintro e w24 ⟨rfl, hw⟩
    have K24 := K23.keep hw
    clear K23 hw KK
    go_upto_region 18 with fail
    by_cases hm : mz = 0
    · have KU := Lib.hid (U2.out hm)
      have KK := Lib.hid (W2.out hm)
      clear U2 W2
      subst hm
      go_wp2_with fail
      refine (KU.out _).mono ?_; rintro e w31 ⟨E1, f1, E2, f2, E3, f3, rfl, hK⟩
      have K31 := (K24).join hK
      clear KU hK
      obtain ⟨g3, hg3⟩ : ∃ g, w31.heap.size = g := ⟨_, rfl⟩
      have hsm : SmallTri t := ⟨Kn.rowSmall (K31.front 2 rfl), Kn.rowSmall (K31.front 1 rfl), Kn.rowSmall (K31.front 0 rfl)⟩
      go_upto_region 20 with fail
      refine Code.wp.kn (K31.al [.int .i64 t.a.base, .slice E1 t.a.digits.length f1, .int .i64 t.b.base, .slice E2 t.b.digits.length f2, .int .i64 t.s.base, .slice E3 t.s.digits.length f3, .int .i64 t.carry] 28) ?_; intro w32 K32
      rw [hg3] at K32
      try rw [hg3]
      clear K31 hg3
      obtain ⟨a1, a2, a3, -⟩ := K32.cells
      obtain ⟨b1, b2, b3, -⟩ := (K32.front 4 rfl).cells
      go_wp2_with fail
      have hsame := specSameMachine_any t t E1 E2 E3 A1 A2 A3 f1 f2 f3 c1 c2 c3 _ (K32.front 3 rfl).riv (K32.front 2 rfl).riv (K32.front 1 rfl).riv (K32.front 7 rfl).riv (K32.front 6 rfl).riv (K32.front 5 rfl).riv hsm hsm
      rw [sameM_refl] at hsame
      refine hsame.mono ?_; rintro e w33 ⟨rfl, hw⟩
      have K33 := (K32.keep hw).sel [8] 99 (by decide) (by decide)
      clear K32 hw hsame hsm a1 a2 a3 b1 b2 b3
      go_wp2_with fail
      refine (KK.out _).mono ?_; rintro e w34 ⟨rfl, hw⟩
      have K34 := K33.keep hw
      clear K33 hw KK
      go_upto_region 22 with fail
      by_cases hz : pz = 0
      · have KU := Lib.hid (U3.out hz)
        have KK := Lib.hid (W3.out hz)
        clear U3 W3
        subst hz
        go_wp2_with fail
        refine (KU.out _).mono ?_; rintro e w41 ⟨XA, xc, rfl, hK⟩
        have K41 := (K34).join hK
        clear KU hK
        go_wp2_with fail
        have i1 := (Kn.rlIns (K41.front 0 rfl)).2
        have i2 := (Kn.rlIns (K41.front 1 rfl)).2
        refine (f6instrs_same XA PB xs.length xc pd xs w41 i1 i2 (by omega)).mono ?_; rintro e w42 ⟨rfl, hw⟩
        have K42 := K41.keep hw
        clear K41 hw i1 i2
        go_wp2_with fail
        refine (KK.out _).mono ?_; rintro e w43 ⟨rfl, hw⟩
        have K43 := K42.keep hw
        clear K42 hw KK
        go_wp2_with fail
        go_ret
        exact ⟨rfl, K43.below⟩
      · have hz1 : (pz == 0) = false := by simpa using hz
        clear U3 W3
        go_wp2_with fail
        go_ret
        exact ⟨rfl, (K34).below⟩
    · have hm1 : (mz == 0) = false := by simpa using hm
      have K34 := (K24).sel [4] 99 (by decide) (by decide)
      clear U2 W2
      go_upto_region 22 with fail
      by_cases hz : pz = 0
      · have KU := Lib.hid (U3.out hz)
        have KK := Lib.hid (W3.out hz)
        clear U3 W3
        subst hz
        go_wp2_with fail
        refine (KU.out _).mono ?_; rintro e w41 ⟨XA, xc, rfl, hK⟩
        have K41 := (K34).join hK
        clear KU hK
        go_wp2_with fail
        have i1 := (Kn.rlIns (K41.front 0 rfl)).2
        have i2 := (Kn.rlIns (K41.front 1 rfl)).2
        refine (f6instrs_same XA PB xs.length xc pd xs w41 i1 i2 (by omega)).mono ?_; rintro e w42 ⟨rfl, hw⟩
        have K42 := K41.keep hw
        clear K41 hw i1 i2
        go_wp2_with fail
        refine (KK.out _).mono ?_; rintro e w43 ⟨rfl, hw⟩
        have K43 := K42.keep hw
        clear K42 hw KK
        go_wp2_with fail
        go_ret
        exact ⟨rfl, K43.below⟩
      · have hz1 : (pz == 0) = false := by simpa using hz
        clear U3 W3
        go_wp2_with fail
        go_ret
        exact ⟨rfl, (K34).below⟩
  · have hr1 : (rz == 0) = false := by simpa using hr
    have K24 := K11.sel [1, 2, 3, 4, 0] 99 (by decide) (by decide)
    clear U1 W1 K11
    go_upto_region 18 with fail
    by_cases hm : mz = 0
    · have KU := Lib.hid (U2.out hm)
      have KK := Lib.hid (W2.out hm)
      clear U2 W2
      subst hm
      go_wp2_with fail
      refine (KU.out _).mono ?_; rintro e w31 ⟨E1, f1, E2, f2, E3, f3, rfl, hK⟩
      have K31 := (K24).join hK
      clear KU hK
      obtain ⟨g3, hg3⟩ : ∃ g, w31.heap.size = g := ⟨_, rfl⟩
      have hsm : SmallTri t := ⟨Kn.rowSmall (K31.front 2 rfl), Kn.rowSmall (K31.front 1 rfl), Kn.rowSmall (K31.front 0 rfl)⟩
      go_upto_region 20 with fail
      refine Code.wp.kn (K31.al [.int .i64 t.a.base, .slice E1 t.a.digits.length f1, .int .i64 t.b.base, .slice E2 t.b.digits.length f2, .int .i64 t.s.base, .slice E3 t.s.digits.length f3, .int .i64 t.carry] 28) ?_; intro w32 K32
      rw [hg3] at K32
      try rw [hg3]
      clear K31 hg3
      obtain ⟨a1, a2, a3, -⟩ := K32.cells
      obtain ⟨b1, b2, b3, -⟩ := (K32.front 4 rfl).cells
      go_wp2_with fail
      have hsame := specSameMachine_any t t E1 E2 E3 A1 A2 A3 f1 f2 f3 c1 c2 c3 _ (K32.front 3 rfl).riv (K32.front 2 rfl).riv (K32.front 1 rfl).riv (K32.front 7 rfl).riv (K32.front 6 rfl).riv (K32.front 5 rfl).riv hsm hsm
      rw [sameM_refl] at hsame
      refine hsame.mono ?_; rintro e w33 ⟨rfl, hw⟩
      have K33 := (K32.keep hw).sel [8] 99 (by decide) (by decide)
      clear K32 hw hsame hsm a1 a2 a3 b1 b2 b3
      go_wp2_with fail
      refine (KK.out _).mono ?_; rintro e w34 ⟨rfl, hw⟩
      have K34 := K33.keep hw
      clear K33 hw KK
      go_upto_region 22 with fail
      by_cases hz : pz = 0
      · have KU := Lib.hid (U3.out hz)
        have KK := Lib.hid (W3.out hz)
        clear U3 W3
        subst hz
        go_wp2_with fail
        refine (KU.out _).mono ?_; rintro e w41 ⟨XA, xc, rfl, hK⟩
        have K41 := (K34).join hK
        clear KU hK
        go_wp2_with fail
        have i1 := (Kn.rlIns (K41.front 0 rfl)).2
        have i2 := (Kn.rlIns (K41.front 1 rfl)).2
        refine (f6instrs_same XA PB xs.length xc pd xs w41 i1 i2 (by omega)).mono ?_; rintro e w42 ⟨rfl, hw⟩
        have K42 := K41.keep hw
        clear K41 hw i1 i2
        go_wp2_with fail
        refine (KK.out _).mono ?_; rintro e w43 ⟨rfl, hw⟩
        have K43 := K42.keep hw
        clear K42 hw KK
        go_wp2_with fail
        go_ret
        exact ⟨rfl, K43.below⟩
      · have hz1 : (pz == 0) = false := by simpa using hz
        clear U3 W3
        go_wp2_with fail
        go_ret
        exact ⟨rfl, (K34).below⟩
    · have hm1 : (mz == 0) = false := by simpa using hm
      have K34 := (K24).sel [4] 99 (by decide) (by decide)
      clear U2 W2
      go_upto_region 22 with fail
      by_cases hz : pz = 0
      · have KU := Lib.hid (U3.out hz)
        have KK := Lib.hid (W3.out hz)
        clear U3 W3
        subst hz
        go_wp2_with fail
        refine (KU.out _).mono ?_; rintro e w41 ⟨XA, xc, rfl, hK⟩
        have K41 := (K34).join hK
        clear KU hK
        go_wp2_with fail
        have i1 := (Kn.rlIns (K41.front 0 rfl)).2
        have i2 := (Kn.rlIns (K41.front 1 rfl)).2
        refine (f6instrs_same XA PB xs.length xc pd xs w41 i1 i2 (by omega)).mono ?_; rintro e w42 ⟨rfl, hw⟩
        have K42 := K41.keep hw
        clear K41 hw i1 i2
        go_wp2_with fail
        refine (KK.out _).mono ?_; rintro e w43 ⟨rfl, hw⟩
        have K43 := K42.keep hw
        clear K42 hw KK
        go_wp2_with fail
        go_ret
        exact ⟨rfl, K43.below⟩
      · have hz1 : (pz == 0) = false := by simpa using hz
        clear U3 W3
        go_wp2_with fail
        go_ret
        exact ⟨rfl, (K34).below⟩
end Go.Proofs.Ytkfbfainhmkkdaa

namespace Go.Proofs.Ytkfbfainhmkkdaa
open Go.RowKit Go.ChangeShapes Go.WideShapes Go.ChangeAt
section
variable {H : Type} {enc : TypeId × Value → H} {w : World} {base : Nat} {spare : Nat → Bool} {held : Bool} {fuel : Nat} {cs : List Value} {x : DataW H × List MemPlace}
theorem cellsU8 : Try.prog.cellsOf 5 = 1 := by kernel_rfl
theorem byteV_of (z : Int) (h0 : 0 ≤ z) (h1 : z ≤ 255) : Value.int .u8 z = byteV (UInt8.ofNat z.toNat) := by
  unfold byteV
  congr 1
  rw [UInt8.toNat_ofNat']
  omega
theorem rd_bytes (h : DataW.trod enc Try.prog w base spare held fuel 22 cs = some x) : ∃ A n c bs, cs = [.slice A n c] ∧ RB w A n bs ∧ n ≤ 9223372036854775807 := by
  rcases open_ints Try.underlying22 Try.underlying5 cellsU8 h with ⟨rfl, _⟩ | ⟨a, len, cap, zs, rfl, _, hl, hm, hz, _, hcell, hwf⟩
  · exact ⟨none, 0, 0, [], rfl, ⟨rfl, fun h => absurd h (by omega)⟩, by omega⟩
  · have hlen : len ≤ zs.length := by rw [hz]; split <;> omega
    have hw : ∀ z ∈ zs, 0 ≤ z ∧ z ≤ 255 := fun z hz => by
      have h := hwf z hz
      have h1 : IntKind.u8.min = 0 := by decide
      have h2 : IntKind.u8.max = 255 := by decide
      simp [Lit.wf] at h
      omega
    refine ⟨some a, len, cap, (zs.take len).map (fun z => UInt8.ofNat z.toNat), rfl, ⟨by simp; omega, fun h0 => ⟨a, rfl, ?_, fun j u hu => ?_⟩⟩, by simp only [maxLen] at hm; omega⟩
    · have := World.block_lt_of_cell? w _ (hcell 0 (by omega)); rwa [block_of_add] at this
    · rw [List.getElem?_map, List.getElem?_take] at hu
      split at hu
      · have hj : j < zs.length := by omega
        rw [List.getElem?_eq_getElem hj] at hu
        have hu' : UInt8.ofNat zs[j].toNat = u := by simpa using hu
        obtain ⟨z0, z1⟩ := hw zs[j] (List.getElem_mem _)
        rw [hcell j hj, ← hu', ← byteV_of _ z0 z1]
        simp [List.getD, List.getElem?_eq_getElem hj]
      · simp at hu
end
end Go.Proofs.Ytkfbfainhmkkdaa

namespace Go.Proofs.Ytkfbfainhmkkdaa.fnPacked
open Go.ChangeShapes Go.WideShapes Go.ChangeAt Go.RowKit
theorem own : ownKnob Try.prog.godebug = none := by kernel_rfl
theorem laidOut : laidOutB Try.prog = true := by kernel_rfl
set_option maxRecDepth 100000 in
theorem contract (H : Type) (enc : TypeId × Value → H) (W : World) (base : Nat) (args : Array Value) (ds gs : List (DataW H)) (before : List MemPlace)
    (hval : ∀ (j : Nat) t v, Try.f4.params[j]? = some t → args[j]? = some v → Value.okWide Try.prog W .any base t v)
    (hW : DataW.Whole enc Try.prog Try.f4.params.toList Rows.fnPackedSpec.vars false W args.toList ds gs before) :
    Calls Try.prog 4 args W fun e W' => ∃ v, e = .returned v ∧ Rows.fnPackedSpec.post enc Try.prog Try.f4 false true false false W args v W' := by
  have hW' := hW
  obtain ⟨p, q, hA0, hV, rfl, hfz, hnd⟩ := hW
  have hA : DataW.TrodAll enc Try.prog W 0 (fun _ => true) true Try.f4.params.toList args.toList ds p := hA0
  rw [Try.params4] at hA hval
  obtain ⟨v0, vs0, d0, ds0, p0, q0, hargs, rfl, rfl, h0, r0⟩ := trodAll_cons hA
  obtain ⟨rfl, rfl, rfl⟩ := trodAll_nil r0
  obtain rfl : args = #[v0] := by cases args; simp_all
  obtain ⟨rfl, rfl⟩ := trodVars_none hV
  clear hA0
  simp only [List.append_nil] at hW'
  have hlt : ∀ x ∈ p0, x.block < W.heap.size := fun x hx => by
    have := hW'.lt x (by simpa using hx)
    simpa using this
  obtain ⟨Y0A, Y0n, Y0c, rfl⟩ := okWide_slice Try.underlying22 (hval 0 _ _ rfl rfl)
  have t0 := h0
  obtain ⟨fuel0, hf0⟩ := h0
  obtain ⟨QA0, Qn0, Qc0, Y0xs, hcs0, hr0, hn0⟩ := rd_bytes hf0
  obtain ⟨rfl, rfl, rfl⟩ : QA0 = Y0A ∧ Qn0 = Y0n ∧ Qc0 = Y0c := by
    have : [Value.slice Y0A Y0n Y0c] = [.slice QA0 Qn0 Qc0] := hcs0
    injection this with this
    injection this with e1 e2 e3
    exact ⟨e1.symm, e2.symm, e3.symm⟩
  have walk : Calls Try.prog 4 #[.slice QA0 Qn0 Qc0] W fun e w' => e = .returned (.bool true) ∧ Below W.heap.size W w' :=
    law_Packed QA0 Qn0 Qc0 Y0xs W hr0 hn0 
  refine walk.mono fun e W' ⟨he, hb⟩ => ?_
  subst he
  have u0 := Below.trod laidOut (by kernel_rfl) (of_decide_eq_true (by kernel_rfl)) t0 hb hlt
  exact ⟨_, rfl, [d0], [], p0 ++ [], [], p0 ++ [], [], by simpa using hW', trodAll_cons_mk (shut_bool Try.underlying4 _) trodAll_mk0, (trodAll_cons_mk u0 trodAll_mk0), rfl, hb.frame _, fun h => by cases h⟩
theorem reads (os : Os) {H : Type} (enc : TypeId × Value → H) : ∃ places, DataW.whole enc Try.prog ((World.holding Try.prog os ⟨#[], #[], []⟩).forCall (fun _ _ => 0) ⟨#[], #[.slice none 0 0], []⟩).memory Try.f4.params.toList Rows.fnPackedSpec.vars false (#[.slice none 0 0] : Array Value).toList 8 = some ([.nil], [], places) :=
  ⟨[], by kernel_rfl⟩
set_option maxRecDepth 100000 in
theorem lifted (os : Os) (started : os.Started) (H : Type) (enc : TypeId × Value → H) (F : Stop.Interp) :
    ReturnsInHanded {} Try.checked os 4 .any ((OpenSpec.ofChange Rows.fnPackedSpec).preRow enc Try.prog Try.f4 Rows.fnPackedRow.domain false Rows.fnPackedRow.laid) (((OpenSpec.ofChange Rows.fnPackedSpec).at F).post enc Try.prog Try.f4 false true false false) := by
  obtain ⟨places, hx⟩ := reads os enc
  refine returnsInHanded_of_row (C := Try.checked) (s := OpenSpec.ofChange Rows.fnPackedSpec) own started (by kernel_rfl) Try.func4
    (witness_row_at (enc := enc) (C := Try.checked) false (World.holding Try.prog os ⟨#[], #[], []⟩) #[.slice none 0 0] rfl (by kernel_rfl) (by kernel_rfl) (by kernel_rfl)
      (OpenSpec.preRow_of_cond 8 hx (by kernel_rfl) (fun k hk => by cases hk) (by kernel_rfl) (laidMet_of_run' 8 (by kernel_rfl) (by kernel_rfl)))) ?_
  intro W base args ds gs before hval hW _ _ _ _ _ _
  exact contract H enc W base args ds gs before hval hW
theorem said : Rows.FnPackedSaid :=
  OpenClaim.holds_of_cond 4 Try.f4 rfl rfl rfl rfl rfl rfl rfl ⟨rfl, rfl, rfl, rfl, rfl⟩ rfl rfl rfl rfl rfl (by kernel_rfl) Try.func4 (by kernel_rfl)
    (of_decide_eq_true (by kernel_rfl)) (by unfold Func.isWrapper; first | (rw [if_pos (by decide +kernel)]; kernel_rfl) | (rw [if_neg (by decide +kernel)]; exact ⟨rfl, rfl⟩))
    (fun os started H enc _ F => by rw [OpenClaim.pre_eq_preRow]; exact lifted os started H enc F)
end Go.Proofs.Ytkfbfainhmkkdaa.fnPacked
