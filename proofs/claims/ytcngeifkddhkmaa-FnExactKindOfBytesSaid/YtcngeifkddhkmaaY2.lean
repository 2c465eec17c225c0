import Derived.Test.YtcngeifkddhkmaaY1
namespace Go.Proofs.Ytcngeifkddhkmaa
open Go.RowKit Go.Sort
/-- bytes with their checksum behind them -/
def sealB (bs : List UInt8) : List UInt8 := bs ++ [UInt8.ofNat (sumB bs / 256).toNat, UInt8.ofNat (sumB bs % 256).toNat]
theorem strB_mk (bs : List UInt8) : strB ⟨bs.toArray⟩ = bs := by simp [strB]
theorem size_mk (bs : List UInt8) : (⟨bs.toArray⟩ : ByteArray).size = bs.length := by simp [ByteArray.size]
theorem ofNat_byte {z : Int} (h0 : 0 ≤ z) (h1 : z < 256) : Value.int .u8 z = byteV (UInt8.ofNat z.toNat) := by
  unfold byteV
  congr 1
  rw [UInt8.toNat_ofNat']
  omega
theorem ownB_form {w : World} {base n c : Nat} {A : Option Addr} {bs : List UInt8} (h : OwnB w base (.slice A n c) bs) : bs.length = n ∧ RB w A n bs := by
  obtain ⟨A', c', e, h2, -⟩ := h.reads
  injection e with e1 e2 e3
  rw [e1, e2]; exact ⟨rfl, h2⟩
theorem bytes_one (bs : List UInt8) : ∀ u ∈ bs.map byteV, u.oneCell' = true := by
  intro u hu
  obtain ⟨b, -, rfl⟩ := List.mem_map.1 hu
  rfl
set_option maxRecDepth 100000 in
set_option maxHeartbeats 800000 in
theorem sealed_any (base : Nat) (A : Option Addr) (n c : Nat) (bs : List UInt8) (w : World) (ho : OwnB w base (.slice A n c) bs) (hm : n ≤ 1000000) (hb : base ≤ w.heap.size) :
    Calls Try.prog 150 #[.slice A n c] w fun e w' => e = .returned (.string ⟨(sealB bs).toArray⟩) ∧ Below base w w' := by
  obtain ⟨hl, hr⟩ := ownB_form ho
  have hcv := conv_bytes w A n c bs hr
  obtain ⟨s0, s1⟩ := sumB_bd bs
  have HS := Lib.hid (strB_mk bs)
  have HO := Lib.hid ho
  have HL := Lib.hid hl
  obtain ⟨sm, hsm⟩ : ∃ sm, sm = sumB bs := ⟨_, rfl⟩
  have HSM := Lib.hid hsm
  rw [← hsm] at s0 s1
  have hkl : (⟨bs.toArray⟩ : ByteArray).size ≤ 140737488355328 := by rw [size_mk]; omega
  have KS := Lib.hid (SumOfBytes_any ⟨bs.toArray⟩ w hkl)
  have HOA := Lib.hid (show (w.alloc (.cells #[.int .u8 (sm / 256), .int .u8 (sm % 256)] 5)).ownsRow base 5 1 (.slice A n c) n (bs.map byteV) by have h := ho; unfold OwnB at h; rw [hl] at h; exact h.alloc _)
  have HOB := Lib.hid (fun (v1 : Value) (w1 : World) (h : w1.ownsRow base 5 1 v1 (n + 2) (bs.map byteV ++ [.int .u8 (sm / 256), .int .u8 (sm % 256)])) => (show OwnB w1 base v1 (sealB bs) by
    unfold OwnB sealB
    rw [← hsm, List.length_append, List.map_append, hl]
    simp only [List.map_cons, List.map_nil, List.length_cons, List.length_nil]
    rw [← ofNat_byte (by omega) (by omega), ← ofNat_byte (by omega) (by omega)]
    exact h))
  have HLO := Lib.hid (fun k (hk : (Value.slice A n c).ownBlock = some k) => (show base ≤ k by
    rcases ho.2 with ⟨e, -⟩ | ⟨g, cap, cur, e, hbg, -⟩
    · rw [e] at hk; simp [Value.ownBlock] at hk
    · rw [e] at hk; simp only [Value.ownBlock, Option.some.injEq] at hk; omega))
  clear ho hl hr hsm hkl
  go_enter Try.func150, Try.ntmps150
  go_wp2_with (first | (go_at_call 162; refine KS.out.mono ?_; rintro e w' ⟨rfl, rfl⟩; rw [HS.out, ← HSM.out]) | (at_builtin; refine appG tpB rfl _ _ rfl base _ n (bs.map byteV) rfl HOA.out ⟨w.heap.size, 0, none⟩ 2 2 [.int .u8 (sm / 256), .int .u8 (sm % 256)] rfl rfl (World.news_of_block (heap_alloc_new _ _)) (by simp [Value.oneCell']) (by omega) (by omega) (by simp; omega) ?_; intro v1 w1 hown1 hg1 hv1; have hob := HOB.out v1 w1 hown1; obtain ⟨A1, c1, rfl, hr1, -⟩ := hob.reads; have hcv2 := conv_bytes w1 A1 _ c1 _ hr1))
  go_ret
  exact ⟨rfl, ((Below.refl _ _).alloc hb _).grown hg1 (by simp; omega) (fun k hk => HLO.out k hk)⟩
set_option maxRecDepth 100000 in
set_option maxHeartbeats 800000 in
theorem l27Ended_any (base : Nat) (A : Option Addr) (n c : Nat) (bs : List UInt8) (w : World) (ho : OwnB w base (.slice A n c) bs) (hm : n ≤ 1000000) (hb : base ≤ w.heap.size) :
    Calls Try.prog 149 #[.slice A n c] w fun e w' => e = .returned (.string ⟨(sealB bs).toArray⟩) ∧ Below base w w' := by
  obtain ⟨hl, hr⟩ := ownB_form ho
  have hcv := conv_bytes w A n c bs hr
  obtain ⟨s0, s1⟩ := sumB_bd bs
  have HS := Lib.hid (strB_mk bs)
  have HO := Lib.hid ho
  have HL := Lib.hid hl
  obtain ⟨sm, hsm⟩ : ∃ sm, sm = sumB bs := ⟨_, rfl⟩
  have HSM := Lib.hid hsm
  rw [← hsm] at s0 s1
  have hkl : (⟨bs.toArray⟩ : ByteArray).size ≤ 140737488355328 := by rw [size_mk]; omega
  have KS := Lib.hid (l27Sum_any ⟨bs.toArray⟩ w hkl)
  have HOA := Lib.hid (show (w.alloc (.cells #[.int .u8 (sm / 256), .int .u8 (sm % 256)] 5)).ownsRow base 5 1 (.slice A n c) n (bs.map byteV) by have h := ho; unfold OwnB at h; rw [hl] at h; exact h.alloc _)
  have HOB := Lib.hid (fun (v1 : Value) (w1 : World) (h : w1.ownsRow base 5 1 v1 (n + 2) (bs.map byteV ++ [.int .u8 (sm / 256), .int .u8 (sm % 256)])) => (show OwnB w1 base v1 (sealB bs) by
    unfold OwnB sealB
    rw [← hsm, List.length_append, List.map_append, hl]
    simp only [List.map_cons, List.map_nil, List.length_cons, List.length_nil]
    rw [← ofNat_byte (by omega) (by omega), ← ofNat_byte (by omega) (by omega)]
    exact h))
  have HLO := Lib.hid (fun k (hk : (Value.slice A n c).ownBlock = some k) => (show base ≤ k by
    rcases ho.2 with ⟨e, -⟩ | ⟨g, cap, cur, e, hbg, -⟩
    · rw [e] at hk; simp [Value.ownBlock] at hk
    · rw [e] at hk; simp only [Value.ownBlock, Option.some.injEq] at hk; omega))
  clear ho hl hr hsm hkl
  go_enter Try.func149, Try.ntmps149
  go_wp2_with (first | (go_at_call 146; refine KS.out.mono ?_; rintro e w' ⟨rfl, rfl⟩; rw [HS.out, ← HSM.out]) | (at_builtin; refine appG tpB rfl _ _ rfl base _ n (bs.map byteV) rfl HOA.out ⟨w.heap.size, 0, none⟩ 2 2 [.int .u8 (sm / 256), .int .u8 (sm % 256)] rfl rfl (World.news_of_block (heap_alloc_new _ _)) (by simp [Value.oneCell']) (by omega) (by omega) (by simp; omega) ?_; intro v1 w1 hown1 hg1 hv1; have hob := HOB.out v1 w1 hown1; obtain ⟨A1, c1, rfl, hr1, -⟩ := hob.reads; have hcv2 := conv_bytes w1 A1 _ c1 _ hr1))
  go_ret
  exact ⟨rfl, ((Below.refl _ _).alloc hb _).grown hg1 (by simp; omega) (fun k hk => HLO.out k hk)⟩
end Go.Proofs.Ytcngeifkddhkmaa
