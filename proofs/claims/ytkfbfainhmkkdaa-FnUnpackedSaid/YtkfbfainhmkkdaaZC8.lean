/- Part 8: lemmas and contracts of the claim's functions. -/
import Derived.Test.YtkfbfainhmkkdaaZC1
import Derived.Test.YtkfbfainhmkkdaaZC2
import Derived.Test.YtkfbfainhmkkdaaZC3
import Derived.Test.YtkfbfainhmkkdaaZC4
import Derived.Test.YtkfbfainhmkkdaaZC5
import Derived.Test.YtkfbfainhmkkdaaZC6
import Derived.Test.YtkfbfainhmkkdaaZC7
import Derived.Deep.DeepCutAuto
namespace Go.Proofs.Ytkfbfainhmkkdaa
open Go.RowKit Go.Sort
/-- bytes with their checksum behind them -/
def sealB (bs : List UInt8) : List UInt8 := bs ++ [UInt8.ofNat (sumB bs / 256).toNat, UInt8.ofNat (sumB bs % 256).toNat]
theorem ofNat_byte {z : Int} (h0 : 0 ≤ z) (h1 : z < 256) : Value.int .u8 z = byteV (UInt8.ofNat z.toNat) := by
  unfold byteV
  congr 1
  rw [UInt8.toNat_ofNat']
  omega
theorem ownB_form {w : World} {base n c : Nat} {A : Option Addr} {bs : List UInt8} (h : OwnB w base (.slice A n c) bs) : bs.length = n ∧ RB w A n bs := by
  obtain ⟨A', c', e, h2, -⟩ := h.reads
  injection e with e1 e2 e3
  rw [e1, e2]; exact ⟨rfl, h2⟩
theorem bytes_one (bs : List UInt8) : ∀ u ∈ bs.map byteV, u.oneCell' = true := by
  intro u hu
  obtain ⟨b, -, rfl⟩ := List.mem_map.1 hu
  rfl
set_option maxRecDepth 100000 in
set_option maxHeartbeats 800000 in
theorem sealed_any (base : Nat) (A : Option Addr) (n c : Nat) (bs : List UInt8) (w : World) (ho : OwnB w base (.slice A n c) bs) (hm : n ≤ 1000000) (hb : base ≤ w.heap.size) :
    Calls Try.prog 90 #[.slice A n c] w fun e w' => e = .returned (.string ⟨(sealB bs).toArray⟩) ∧ Below base w w' := by
  obtain ⟨hl, hr⟩ := ownB_form ho
  have hcv := conv_bytes w A n c bs hr
  obtain ⟨s0, s1⟩ := sumB_bd bs
  have HS := Lib.hid (strB_mk bs)
  have HO := Lib.hid ho
  have HL := Lib.hid hl
  obtain ⟨sm, hsm⟩ : ∃ sm, sm = sumB bs := ⟨_, rfl⟩
  have HSM := Lib.hid hsm
  rw [← hsm] at s0 s1
  have hkl : (⟨bs.toArray⟩ : ByteArray).size ≤ 140737488355328 := by rw [size_mk]; omega
  have KS := Lib.hid (SumOfBytes_any ⟨bs.toArray⟩ w hkl)
  have HOA := Lib.hid (show (w.alloc (.cells #[.int .u8 (sm / 256), .int .u8 (sm % 256)] 5)).ownsRow base 5 1 (.slice A n c) n (bs.map byteV) by have h := ho; unfold OwnB at h; rw [hl] at h; exact h.alloc _)
  have HOB := Lib.hid (fun (v1 : Value) (w1 : World) (h : w1.ownsRow base 5 1 v1 (n + 2) (bs.map byteV ++ [.int .u8 (sm / 256), .int .u8 (sm % 256)])) => (show OwnB w1 base v1 (sealB bs) by
    unfold OwnB sealB
    rw [← hsm, List.length_append, List.map_append, hl]
    simp only [List.map_cons, List.map_nil, List.length_cons, List.length_nil]
    rw [← ofNat_byte (by omega) (by omega), ← ofNat_byte (by omega) (by omega)]
    exact h))
  have HLO := Lib.hid (fun k (hk : (Value.slice A n c).ownBlock = some k) => (show base ≤ k by
    rcases ho.2 with ⟨e, -⟩ | ⟨g, cap, cur, e, hbg, -⟩
    · rw [e] at hk; simp [Value.ownBlock] at hk
    · rw [e] at hk; simp only [Value.ownBlock, Option.some.injEq] at hk; omega))
  clear ho hl hr hsm hkl
  go_enter Try.func90, Try.ntmps90
  go_wp2_with (first | (go_at_call 51; refine KS.out.mono ?_; rintro e w' ⟨rfl, rfl⟩; rw [HS.out, ← HSM.out]) | (at_builtin; refine appG tpB rfl _ _ rfl base _ n (bs.map byteV) rfl HOA.out ⟨w.heap.size, 0, none⟩ 2 2 [.int .u8 (sm / 256), .int .u8 (sm % 256)] rfl rfl (World.news_of_block (heap_alloc_new _ _)) (by simp [Value.oneCell']) (by omega) (by omega) (by simp; omega) ?_; intro v1 w1 hown1 hg1 hv1; have hob := HOB.out v1 w1 hown1; obtain ⟨A1, c1, rfl, hr1, -⟩ := hob.reads; have hcv2 := conv_bytes w1 A1 _ c1 _ hr1))
  go_ret
  exact ⟨rfl, ((Below.refl _ _).alloc hb _).grown hg1 (by simp; omega) (fun k hk => HLO.out k hk)⟩
set_option maxRecDepth 100000 in
set_option maxHeartbeats 800000 in
theorem l27Ended_any (base : Nat) (A : Option Addr) (n c : Nat) (bs : List UInt8) (w : World) (ho : OwnB w base (.slice A n c) bs) (hm : n ≤ 1000000) (hb : base ≤ w.heap.size) :
    Calls Try.prog 93 #[.slice A n c] w fun e w' => e = .returned (.string ⟨(sealB bs).toArray⟩) ∧ Below base w w' := by
  obtain ⟨hl, hr⟩ := ownB_form ho
  have hcv := conv_bytes w A n c bs hr
  obtain ⟨s0, s1⟩ := sumB_bd bs
  have HS := Lib.hid (strB_mk bs)
  have HO := Lib.hid ho
  have HL := Lib.hid hl
  obtain ⟨sm, hsm⟩ : ∃ sm, sm = sumB bs := ⟨_, rfl⟩
  have HSM := Lib.hid hsm
  rw [← hsm] at s0 s1
  have hkl : (⟨bs.toArray⟩ : ByteArray).size ≤ 140737488355328 := by rw [size_mk]; omega
  have KS := Lib.hid (l27Sum_any ⟨bs.toArray⟩ w hkl)
  have HOA := Lib.hid (show (w.alloc (.cells #[.int .u8 (sm / 256), .int .u8 (sm % 256)] 5)).ownsRow base 5 1 (.slice A n c) n (bs.map byteV) by have h := ho; unfold OwnB at h; rw [hl] at h; exact h.alloc _)
  have HOB := Lib.hid (fun (v1 : Value) (w1 : World) (h : w1.ownsRow base 5 1 v1 (n + 2) (bs.map byteV ++ [.int .u8 (sm / 256), .int .u8 (sm % 256)])) => (show OwnB w1 base v1 (sealB bs) by
    unfold OwnB sealB
    rw [← hsm, List.length_append, List.map_append, hl]
    simp only [List.map_cons, List.map_nil, List.length_cons, List.length_nil]
    rw [← ofNat_byte (by omega) (by omega), ← ofNat_byte (by omega) (by omega)]
    exact h))
  have HLO := Lib.hid (fun k (hk : (Value.slice A n c).ownBlock = some k) => (show base ≤ k by
    rcases ho.2 with ⟨e, -⟩ | ⟨g, cap, cur, e, hbg, -⟩
    · rw [e] at hk; simp [Value.ownBlock] at hk
    · rw [e] at hk; simp only [Value.ownBlock, Option.some.injEq] at hk; omega))
  clear ho hl hr hsm hkl
  go_enter Try.func93, Try.ntmps93
  go_wp2_with (first | (go_at_call 109; refine KS.out.mono ?_; rintro e w' ⟨rfl, rfl⟩; rw [HS.out, ← HSM.out]) | (at_builtin; refine appG tpB rfl _ _ rfl base _ n (bs.map byteV) rfl HOA.out ⟨w.heap.size, 0, none⟩ 2 2 [.int .u8 (sm / 256), .int .u8 (sm % 256)] rfl rfl (World.news_of_block (heap_alloc_new _ _)) (by simp [Value.oneCell']) (by omega) (by omega) (by simp; omega) ?_; intro v1 w1 hown1 hg1 hv1; have hob := HOB.out v1 w1 hown1; obtain ⟨A1, c1, rfl, hr1, -⟩ := hob.reads; have hcv2 := conv_bytes w1 A1 _ c1 _ hr1))
  go_ret
  exact ⟨rfl, ((Below.refl _ _).alloc hb _).grown hg1 (by simp; omega) (fun k hk => HLO.out k hk)⟩
end Go.Proofs.Ytkfbfainhmkkdaa

namespace Go.Proofs.Ytkfbfainhmkkdaa
open Go.RowKit Go.Sort
/-- byte j of the digits, two in a byte -/
def pairAt (ds : List Int) (j : Nat) : Int := 16 * ds.getD (j * 2) 0 + ds.getD (j * 2 + 1) 0
def toB (z : Int) : UInt8 := UInt8.ofNat z.toNat
def regB (base : Int) (ds : List Int) : List UInt8 := toB (16 * (base - 1) + (ds.length - 1)) :: (List.range ((ds.length + 1) / 2)).map (fun j => toB (pairAt ds j))
theorem riB {w W wr : World} {B : Nat} {A : Option Addr} {n : Nat} {ds : List Int} (h : RI w A n ds) (hb : Below B W wr) (hW : B = w.heap.size + 1 ∧ Below w.heap.size w W) : RI wr A n ds := by
  have h1 := h.below hW.2
  refine ⟨h.1, fun hn => ?_⟩
  obtain ⟨ad, e, hl, hc⟩ := h.2 hn
  obtain ⟨ad', e', hl', hc'⟩ := h1.2 hn
  have hs := hb.size
  rw [e] at e'
  injection e' with e'
  subst e'
  refine ⟨ad, e, by omega, fun j u hu => ?_⟩
  rw [hb.cell (by rw [block_of_add]; omega)]
  exact hc' j u hu
theorem ownB_below {w w' : World} {base : Nat} {v : Value} {bs : List UInt8} (h : OwnB w base v bs) (hb : Below w.heap.size w w') : OwnB w' base v bs := by
  refine ⟨h.1, ?_⟩
  rcases h.2 with hn | ⟨g, cap, cur, rfl, hbg, hg, rest⟩
  · exact .inl hn
  · exact .inr ⟨g, cap, cur, rfl, hbg, by rw [hb.block g (Array.getElem?_eq_some_iff.1 hg).1]; exact hg, rest⟩
theorem ownB_lo {w : World} {base : Nat} {v : Value} {bs : List UInt8} (h : OwnB w base v bs) : ∀ k, v.ownBlock = some k → base ≤ k := by
  intro k hk
  rcases h.2 with ⟨rfl, -⟩ | ⟨g, cap, cur, rfl, hb, -⟩
  · simp [Value.ownBlock] at hk
  · simp only [Value.ownBlock, Option.some.injEq] at hk; omega
theorem addr_pos (p : Addr) (j : Nat) (h : j ≠ 0) : p.add j = ⟨p.block, p.off + j, none⟩ := by unfold Addr.add; rw [if_neg h]
theorem ownB_mono {w : World} {base b' : Nat} {v : Value} {bs : List UInt8} (h : OwnB w base v bs) (hb : b' ≤ base) : OwnB w b' v bs := by
  refine ⟨h.1, ?_⟩
  rcases h.2 with hn | ⟨g, cap, cur, rfl, hbg, hg, rest⟩
  · exact .inl hn
  · exact .inr ⟨g, cap, cur, rfl, by omega, hg, rest⟩
theorem own_litB {w : World} {base g n size : Nat} {e : TypeId} {cs : Array Value} (hg : w.heap[g]? = some (.cells cs e (0, 0))) (hb : base ≤ g) (hs : cs.size = n * size) (hn : n ≤ maxLen) : w.ownsRow base e size (.slice (some ⟨g, 0, none⟩) n n) n cs.toList :=
  ⟨by rw [Array.length_toList]; exact hs, .inr ⟨g, n, cs, rfl, hb, hg, Nat.le_refl _, hn, hs, by rw [← hs, ← Array.length_toList]; exact List.take_length⟩⟩
set_option maxRecDepth 100000 in
set_option maxHeartbeats 3200000 in
theorem bytes_any (base : Int) (A : Option Addr) (n c : Nat) (ds : List Int) (w : World) (hr : RI w A n ds) (hb : 2 ≤ base) (hb2 : base ≤ 16) (hn1 : 1 ≤ n) (hn : n ≤ 16) (hd : ∀ d ∈ ds, 0 ≤ d ∧ d < base) :
    Calls Try.prog 91 #[.agg #[.int .i64 base, .slice A n c]] w fun e w' => ∃ A' c', e = .returned (.slice A' (regB base ds).length c') ∧ OwnB w' w.heap.size (.slice A' (regB base ds).length c') (regB base ds) ∧ Below w.heap.size w w' := by
  have HL := Lib.hid hr.1
  have hb0 : Below w.heap.size w (w.alloc (.cells #[.int .i64 base, .slice A n c] 26)) := (Below.refl _ _).alloc (Nat.le_refl _) _
  have KW := Lib.hid (fun W => width_any base A n c W)
  have x1 : IntKind.i64.wrap (base - 1) = base - 1 := wrapI (by omega)
  have x2 : IntKind.i64.wrap (16 * (base - 1)) = 16 * (base - 1) := wrapI (by omega)
  have x3 : IntKind.u8.wrap (16 * (base - 1)) = 16 * (base - 1) := wrapB (by omega)
  have x4 : IntKind.i64.wrap ((n : Int) - 1) = (n : Int) - 1 := wrapI (by omega)
  have x5 : IntKind.u8.wrap ((n : Int) - 1) = (n : Int) - 1 := wrapB (by omega)
  have x6 : IntKind.u8.wrap (16 * (base - 1) + ((n : Int) - 1)) = 16 * (base - 1) + ((n : Int) - 1) := wrapB (by omega)
  obtain ⟨h0, hh0⟩ : ∃ h0, h0 = 16 * (base - 1) + ((n : Int) - 1) := ⟨_, rfl⟩
  have hh1 : 0 ≤ h0 ∧ h0 < 256 := by omega
  have HH := Lib.hid hh0; clear hh0
  have HD := Lib.hid hd
  clear hd
  go_enter Try.func91, Try.ntmps91
  go_wp2_with fail
  go_region_with (go_at_call 115; refine (KW.out _).mono ?_; rintro e w1 ⟨rfl, hw1⟩; obtain ⟨hc, hf⟩ := bcell hw1)
  all_goals
    rw [← HH.out]
    have z1 : w.heap.size + 1 ≤ w1.heap.size := by have := hw1.size; simpa using this
    have hb1 : Below (w.heap.size + 1) (w.alloc (.cells #[.int .i64 base, .slice A n c] 26)) w1 := (below_drewN (Below.refl (w.heap.size + 1) _) 1).trans (hw1.mono (by simp))
    have HB1 := Lib.hid (hb1.alloc z1 (.cells #[.int .u8 h0] 5))
    have HO1 := Lib.hid (show OwnB (w1.alloc (.cells #[.int .u8 h0] 5)) (w.heap.size + 1) (.slice (some ⟨w1.heap.size, 0, none⟩) 1 1) [toB h0] from by
      unfold OwnB toB
      simp only [List.map_cons, List.map_nil, List.length_cons, List.length_nil]
      rw [← ofNat_byte hh1.1 hh1.2]
      exact own_litB (n := 1) (cs := #[.int .u8 h0]) (heap_alloc_new _ _) z1 rfl (by decide))
    clear hb1 hc hf hw1 x3 x5 x6
    go_wp2_with fail
    go_loopw [4, 3] (fun kk out wr => ∃ j : Nat, j ≤ (n + 1) / 2 ∧ kk = .int .i64 ((j * 2 : Nat) : Int) ∧ OwnB wr (w.heap.size + 1) out (toB h0 :: (List.range j).map (fun j => toB (pairAt ds j))) ∧ Below (w.heap.size + 1) (w.alloc (.cells #[.int .i64 base, .slice A n c] 26)) wr) (fun kk _ _ => n + 1 - (intOf kk).toNat)
    case atStart => exact ⟨0, Nat.zero_le _, rfl, by simpa using HO1.out, HB1.out⟩
    case round =>
      obtain ⟨j, hj, rfl, hown, hbr⟩ := hrel
      have c0 : wr.cell? ⟨w.heap.size, 0, none⟩ = some (.int .i64 base) := by rw [hbr.cell (by simp)]; go_simp
      have c1 : wr.cell? ⟨w.heap.size, 1, none⟩ = some (.slice A n c) := by rw [hbr.cell (by simp)]; go_simp
      have hwz : w.heap.size + 1 ≤ wr.heap.size := by have := hbr.size; simpa using this
      have HO := Lib.hid hown
      have HBR := Lib.hid hbr
      have hri : RI wr A n ds := riB hr hbr ⟨rfl, hb0⟩
      clear hown hbr
      by_cases hjn : j * 2 < n
      · obtain ⟨ad, hA, hlt, hkl, hc1⟩ := hri.at_ hjn
        have hd1 := HD.out _ (List.getElem_mem hkl)
        obtain ⟨d, hdd⟩ : ∃ d, d = ds[j * 2] := ⟨_, rfl⟩
        have HDD := Lib.hid hdd
        rw [← hdd] at hc1 hd1
        have hi1 : ((j * 2 : Nat) : Int) < (n : Int) := by omega
        have hi0 : (0 : Int) ≤ ((j * 2 : Nat) : Int) := by omega
        subst hA
        clear hdd
        go_wp2_with fail
        refine (KW.out _).mono ?_; rintro e w2 ⟨rfl, hw2⟩
        have hc1' : w2.cell? (ad.add (j * 2)) = some (.int .i64 d) := by rw [hw2.cell (by rw [block_of_add]; exact hlt)]; exact hc1
        have c0' : w2.cell? ⟨w.heap.size, 0, none⟩ = some (.int .i64 base) := by rw [hw2.cell (by show w.heap.size < _; omega)]; exact c0
        have c1' : w2.cell? ⟨w.heap.size, 1, none⟩ = some (.slice (some ad) n c) := by rw [hw2.cell (by show w.heap.size < _; omega)]; exact c1
        have hz2 := hw2.size
        have y1 : IntKind.u8.wrap (16 * d) = 16 * d := wrapB (by omega)
        go_wp2_with fail
        refine (KW.out _).mono ?_; rintro e w3 ⟨rfl, hw3⟩
        have hz3 := hw3.size
        have hbw3 : Below wr.heap.size wr w3 := hw2.trans (hw3.mono hz2)
        have c0'' : w3.cell? ⟨w.heap.size, 0, none⟩ = some (.int .i64 base) := by rw [hbw3.cell (by show w.heap.size < _; omega)]; exact c0
        have c1'' : w3.cell? ⟨w.heap.size, 1, none⟩ = some (.slice (some ad) n c) := by rw [hbw3.cell (by show w.heap.size < _; omega)]; exact c1
        have HO3 := Lib.hid (ownB_below HO.out hbw3)
        have HB3 := Lib.hid (HBR.out.trans (hbw3.mono hwz))
        have HP := Lib.hid (show (List.range (j + 1)).map (fun j => toB (pairAt ds j)) = (List.range j).map (fun j => toB (pairAt ds j)) ++ [toB (pairAt ds j)] by rw [List.range_succ, List.map_append]; rfl)
        have hg0 : ds.getD (j * 2) 0 = d := by rw [HDD.out]; simp [List.getD, List.getElem?_eq_getElem hkl]
        have hlo := Lib.hid (ownB_lo HO3.out)
        by_cases hj2 : j * 2 + 1 < n
        · obtain ⟨ad2, hA2, hlt2, hkl2, hc2⟩ := hri.at_ hj2
          have hd2 := HD.out _ (List.getElem_mem hkl2)
          obtain ⟨d2, hdd2⟩ : ∃ d2, d2 = ds[j * 2 + 1] := ⟨_, rfl⟩
          have hg1 : ds.getD (j * 2 + 1) 0 = d2 := by rw [hdd2]; simp [List.getD, List.getElem?_eq_getElem hkl2]
          rw [← hdd2] at hc2 hd2
          clear hdd2
          obtain rfl : ad = ad2 := by injection hA2
          have hc2' : w3.cell? (ad.add (j * 2 + 1)) = some (.int .i64 d2) := by rw [hbw3.cell (by rw [block_of_add]; exact hlt)]; exact hc2
          have hc2'' : w3.cell? ⟨ad.block, ad.off + (j * 2 + 1), none⟩ = some (.int .i64 d2) := by rw [← addr_pos ad (j * 2 + 1) (by omega)]; exact hc2'
          have hi3 : ((j * 2 : Nat) : Int) + 1 < (n : Int) := by omega
          have y2 : IntKind.u8.wrap d2 = d2 := wrapB (by omega)
          have y3 : IntKind.u8.wrap (16 * d + d2) = 16 * d + d2 := wrapB (by omega)
          have HV : Hid (pairAt ds j = 16 * d + d2) := by simp only [Hid, pairAt]; rw [hg0, hg1]
          clear hg0 hg1 hw2 hw3 hbw3
          have HOA := Lib.hid (fun (q : Nat) => ownB_below HO3.out ((Below.refl w3.heap.size w3).alloc (Nat.le_refl _) (.cells #[.int .u8 (16 * d + d2)] 5)))
          have hbb := HB3.out.alloc (by omega) (.cells #[.int .u8 (16 * d + d2)] 5)
          go_wp2_with (at_builtin; refine appG tpB rfl _ _ rfl (w.heap.size + 1) _ _ _ rfl (HOA.out 0) ⟨w3.heap.size, 0, none⟩ 1 1 [.int .u8 (16 * d + d2)] rfl rfl (World.news_of_block (heap_alloc_new _ _)) (by simp [Value.oneCell']) (by simp; omega) (by simp; omega) (by simp; omega) ?_; intro v5 w6 hown5 hg5 hv5)
          have hbf := hbb.grown hg5 (by simp; omega) hlo.out
          have HOF := Lib.hid (show OwnB w6 (w.heap.size + 1) v5 (toB h0 :: (List.range (j + 1)).map (fun j => toB (pairAt ds j))) by
            rw [HP.out, HV.out, ← List.cons_append]
            unfold OwnB
            rw [List.length_append, List.map_append]
            simp only [List.map_cons, List.map_nil, List.length_cons, List.length_nil]
            rw [show byteV (toB ((16 * d + d2))) = .int .u8 ((16 * d + d2)) from (ofNat_byte (by omega) (by omega)).symm]
            simpa using hown5)
          have HBF := Lib.hid hbf
          clear hown5 hbf hbb hg5 hv5
          go_roundw
          case rel => exact ⟨j + 1, by omega, by go_num, HOF.out, HBF.out⟩
          case measure => simp [intOf]; omega
        · have hg1 : ds.getD (j * 2 + 1) 0 = 0 := by simp [List.getD, List.getElem?_eq_none (show ds.length ≤ j * 2 + 1 by have := HL.out; omega)]
          have hi3 : ¬ ((j * 2 : Nat) : Int) + 1 < (n : Int) := by omega
          have HV : Hid (pairAt ds j = 16 * d) := by simp only [Hid, pairAt]; rw [hg0, hg1, Int.add_zero]
          clear hg0 hg1 hw2 hw3 hbw3
          have HOA := Lib.hid (fun (q : Nat) => ownB_below HO3.out ((Below.refl w3.heap.size w3).alloc (Nat.le_refl _) (.cells #[.int .u8 (16 * d)] 5)))
          have hbb := HB3.out.alloc (by omega) (.cells #[.int .u8 (16 * d)] 5)
          go_wp2_with (at_builtin; refine appG tpB rfl _ _ rfl (w.heap.size + 1) _ _ _ rfl (HOA.out 0) ⟨w3.heap.size, 0, none⟩ 1 1 [.int .u8 (16 * d)] rfl rfl (World.news_of_block (heap_alloc_new _ _)) (by simp [Value.oneCell']) (by simp; omega) (by simp; omega) (by simp; omega) ?_; intro v5 w6 hown5 hg5 hv5)
          have hbf := hbb.grown hg5 (by simp; omega) hlo.out
          have HOF := Lib.hid (show OwnB w6 (w.heap.size + 1) v5 (toB h0 :: (List.range (j + 1)).map (fun j => toB (pairAt ds j))) by
            rw [HP.out, HV.out, ← List.cons_append]
            unfold OwnB
            rw [List.length_append, List.map_append]
            simp only [List.map_cons, List.map_nil, List.length_cons, List.length_nil]
            rw [show byteV (toB ((16 * d))) = .int .u8 ((16 * d)) from (ofNat_byte (by omega) (by omega)).symm]
            simpa using hown5)
          have HBF := Lib.hid hbf
          clear hown5 hbf hbb hg5 hv5
          go_roundw
          case rel => exact ⟨j + 1, by omega, by go_num, HOF.out, HBF.out⟩
          case measure => simp [intOf]; omega
      · have HJ : Hid (j = (n + 1) / 2) := by simp only [Hid]; omega
        have HF : Hid (toB h0 :: (List.range j).map (fun j => toB (pairAt ds j)) = regB base ds) := by
          simp only [Hid, regB]
          rw [HJ.out, HL.out, HH.out]
        have hi3 : ¬ ((j * 2 : Nat) : Int) < (n : Int) := by omega
        obtain ⟨AO, cO, rfl, -⟩ := HO.out.reads
        have HOW := Lib.hid (show OwnB wr (w.heap.size + 1) (.slice AO (regB base ds).length cO) (regB base ds) by have h := HO.out; rw [HF.out] at h; exact h)
        rw [HF.out]
        go_wp2_with fail
        refine (KW.out _).mono ?_; rintro e w2 ⟨rfl, hw2⟩
        have HOX := Lib.hid (ownB_below HOW.out hw2)
        have HBX := Lib.hid ((hb0.trans (HBR.out.mono (by omega))).trans (hw2.mono (by omega)))
        clear hw2
        go_wp2_with fail
        go_ret
        exact ⟨AO, cO, rfl, ownB_mono HOX.out (by omega), HBX.out⟩
end Go.Proofs.Ytkfbfainhmkkdaa

namespace Go.Proofs.Ytkfbfainhmkkdaa
open Go.RowKit Go.Sort
/-- a register as sealed bytes -/
def packR (base : Int) (ds : List Int) : List UInt8 := sealB (82 :: regB base ds)
theorem regB_len (base : Int) (ds : List Int) : (regB base ds).length = (ds.length + 1) / 2 + 1 := by simp [regB]
theorem ownB_cells {w : World} {base n c : Nat} {A : Option Addr} {bs : List UInt8} (h : OwnB w base (.slice A n c) bs) (hn : 0 < n) : ∃ g, A = some ⟨g, 0, none⟩ ∧ ∀ j u, (bs.map byteV)[j]? = some u → w.cell? ((⟨g, 0, none⟩ : Addr).add j) = some u := by
  rcases h.2 with ⟨e, hz⟩ | ⟨g, cap, cur, e, hbg, hc, -⟩
  · have := (ownB_form h).1; omega
  · injection e with e _ _
    subst e
    exact ⟨g, rfl, fun j u hu => h.cells (g := g) rfl j u hu⟩
set_option maxRecDepth 100000 in
set_option maxHeartbeats 1600000 in
theorem PackRegister_true (base : Int) (A : Option Addr) (n c : Nat) (ds : List Int) (w : World) (hr : RI w A n ds) (hv : vreg base ds = true) :
    Calls Try.prog 26 #[.agg #[.int .i64 base, .slice A n c]] w fun e w' => e = .returned (.tuple #[.string ⟨(packR base ds).toArray⟩, .int .i64 0]) ∧ Below w.heap.size w w' := by
  obtain ⟨⟨b1, b2⟩, ⟨n1, n2⟩, hd, -⟩ := vreg_iff.1 hv
  have hln := hr.1
  have hb0 : Below w.heap.size w (w.alloc (.cells #[.int .i64 base, .slice A n c] 26)) := (Below.refl _ _).alloc (Nat.le_refl _) _
  have KV := Lib.hid (calls_val (ValidRegister_any base A n c ds _ (hr.below hb0) (by omega)) (congrArg Value.bool hv))
  have KB := Lib.hid (fun W (hW : Below w.heap.size w W) => bytes_any base A n c ds W (hr.below hW) b1 b2 (by omega) (by omega) hd)
  have hrl := regB_len base ds
  rw [hln] at hrl
  have HRL := Lib.hid hrl
  have hrb : (regB base ds).length ≤ 20 := by omega
  have hrb0 : 0 < (regB base ds).length := by omega
  clear hv hd hrl hln
  go_enter Try.func26, Try.ntmps26
  go_wp2_with fail
  refine KV.out.mono ?_; rintro e w1 ⟨rfl, hw1⟩
  have z1 : w.heap.size + 1 ≤ w1.heap.size := by have := hw1.size; simpa using this
  have hlt1 : w.heap.size < w1.heap.size := by omega
  have hne1 : w1.heap.size ≠ w.heap.size := by omega
  have hne2 : w.heap.size ≠ w1.heap.size := by omega
  have c0 : w1.cell? ⟨w.heap.size, 0, none⟩ = some (.int .i64 base) := by rw [hw1.cell (by simp)]; go_simp
  have c1 : w1.cell? ⟨w.heap.size, 1, none⟩ = some (.slice A n c) := by rw [hw1.cell (by simp)]; go_simp
  have hbw1 : Below w.heap.size w w1 := hb0.trans (hw1.mono (by simp))
  have hbx := hbw1.alloc (by omega) (.cells #[.int .u8 82] 5)
  have HX1 := Lib.hid (show OwnB (w1.alloc (.cells #[.int .u8 82] 5)) w.heap.size (.slice (some ⟨w1.heap.size, 0, none⟩) 1 1) [82] from own_litB (n := 1) (cs := #[.int .u8 82]) (heap_alloc_new _ _) (by omega) rfl (by decide))
  have HBX := Lib.hid hbx
  clear hw1 hbw1 hbx
  go_wp2_with fail
  refine (KB.out _ HBX.out).mono ?_; rintro e w2 ⟨A2, c2, rfl, o2, hw2⟩
  have hz2 : w1.heap.size + 1 ≤ w2.heap.size := by have := hw2.size; simpa using this
  obtain ⟨g2, rfl, hcell⟩ := ownB_cells o2 hrb0
  have HB2 := Lib.hid (HBX.out.trans (hw2.mono (by simp; omega)))
  have HX2 := Lib.hid (ownB_below HX1.out hw2)
  have HCELL := Lib.hid hcell
  clear hw2 o2 hcell
  go_wp2_with (at_builtin; refine appG tpB rfl _ _ rfl w.heap.size _ 1 ([82].map byteV) rfl HX2.out ⟨g2, 0, none⟩ (regB base ds).length c2 ((regB base ds).map byteV) rfl (by simp) HCELL.out (bytes_one _) (by omega) (by omega) (by omega) ?_; intro v3 w3 hown3 hg3 hv3)
  have hob : OwnB w3 w.heap.size v3 (82 :: regB base ds) := by
    unfold OwnB
    rw [List.length_cons, Nat.add_comm, List.map_cons]
    exact hown3
  have hbw3 := HB2.out.grown hg3 (by omega) (ownB_lo HX2.out)
  have HOB := Lib.hid hob
  have HB3 := Lib.hid hbw3
  obtain ⟨A3, c3, rfl, -⟩ := hob.reads
  have hz3 : w.heap.size ≤ w3.heap.size := hbw3.size
  clear hob hbw3 hown3 hg3 hv3
  refine (sealed_any w.heap.size A3 _ c3 _ w3 HOB.out (by simp; omega) hz3).mono ?_; rintro e w4 ⟨rfl, hw4⟩
  have HB4 := Lib.hid (HB3.out.trans hw4)
  clear hw4
  go_wp2_with fail
  refine bodyPost_ret (v := .tuple #[.string ⟨(packR base ds).toArray⟩, .int .i64 0]) (by simp [results, Try.results26, go_sem, packR]) rfl ⟨rfl, HB4.out⟩
set_option maxRecDepth 100000 in
set_option maxHeartbeats 1600000 in
theorem PackRegister_false (base : Int) (A : Option Addr) (n c : Nat) (ds : List Int) (w : World) (hr : RI w A n ds) (hm : n ≤ 1000000) (hv : vreg base ds = false) :
    Calls Try.prog 26 #[.agg #[.int .i64 base, .slice A n c]] w fun e w' => e = .returned (.tuple #[.string ⟨#[]⟩, .int .i64 1]) ∧ Below w.heap.size w w' := by
  have hb0 : Below w.heap.size w (w.alloc (.cells #[.int .i64 base, .slice A n c] 26)) := (Below.refl _ _).alloc (Nat.le_refl _) _
  have KV := Lib.hid (calls_val (ValidRegister_any base A n c ds _ (hr.below hb0) (by omega)) (congrArg Value.bool hv))
  clear hv
  go_enter Try.func26, Try.ntmps26
  go_wp2_with fail
  refine KV.out.mono ?_; rintro e w1 ⟨rfl, hw1⟩
  have HB1 := Lib.hid (hb0.trans (hw1.mono (by simp)))
  go_wp2_with fail
  refine bodyPost_ret (v := .tuple #[.string ⟨#[]⟩, .int .i64 1]) (by simp [results, Try.results26, go_sem]) rfl ⟨rfl, HB1.out⟩
end Go.Proofs.Ytkfbfainhmkkdaa

namespace Go.Proofs.Ytkfbfainhmkkdaa
open Go.RowKit Go.Sort
/-- digit k of packed digits -/
def digK (tl : List UInt8) (k : Nat) : Int := if k % 2 = 0 then ((tl.getD (k / 2) 0).toNat / 16 : Nat) else ((tl.getD (k / 2) 0).toNat % 16 : Nat)
def digL (tl : List UInt8) (n : Nat) : List Int := (List.range n).map (digK tl)
theorem digL_succ (tl : List UInt8) (n : Nat) : digL tl (n + 1) = digL tl n ++ [digK tl n] := by simp [digL, List.range_succ]
theorem digL_len (tl : List UInt8) (n : Nat) : (digL tl n).length = n := by simp [digL]
/-- base and width that the first byte tells -/
def bas (b : UInt8) : Nat := b.toNat / 16 + 1
def wdt (b : UInt8) : Nat := b.toNat % 16 + 1
set_option maxRecDepth 100000 in
set_option maxHeartbeats 1600000 in
theorem takeRegister_short (s : ByteArray) (w : World) (hs : s.size ≤ 140737488355328) (h : s.size = 0 ∨ ∃ h0 : 0 < s.size, s.size < 1 + (wdt s[0] + 1) / 2) :
    Calls Try.prog 98 #[.string s] w fun e w' => e = .returned (.tuple #[.agg #[.int .i64 0, .slice none 0 0], .string ⟨#[]⟩, .bool false]) ∧ Below w.heap.size w w' := by
  have hb0 : Below w.heap.size w (w.alloc (.cells #[.int .i64 0, .slice none 0 0] 26)) := (Below.refl _ _).alloc (Nat.le_refl _) _
  rcases h with h | ⟨h0, h⟩
  · have he := size_zero h
    subst he
    go_enter Try.func98, Try.ntmps98
    go_wp2_with fail
    refine bodyPost_ret (v := .tuple #[.agg #[.int .i64 0, .slice none 0 0], .string ⟨#[]⟩, .bool false]) (by simp [results, Try.results98, go_sem]) rfl ⟨rfl, hb0⟩
  · have hE := str_nonempty h0
    obtain ⟨b, hb⟩ : ∃ b, s[0] = b := ⟨_, rfl⟩
    obtain ⟨v, hv⟩ : ∃ v, b.toNat = v := ⟨_, rfl⟩
    have hb2 : v < 256 := by rw [← hv]; exact UInt8.toNat_lt _
    unfold wdt at h
    rw [hb, hv] at h
    have u1 : IntKind.u8.wrap ((v : Int) / 16) = (v : Int) / 16 := wrapB (by omega)
    have u2 : IntKind.u8.wrap ((v : Int) % 16) = (v : Int) % 16 := wrapB (by omega)
    have u3 : IntKind.i64.wrap ((v : Int) / 16) = (v : Int) / 16 := wrapI (by omega)
    have u4 : IntKind.i64.wrap ((v : Int) % 16) = (v : Int) % 16 := wrapI (by omega)
    have u5 : IntKind.i64.wrap ((v : Int) / 16 + 1) = (v : Int) / 16 + 1 := wrapI (by omega)
    have u6 : IntKind.i64.wrap ((v : Int) % 16 + 1) = (v : Int) % 16 + 1 := wrapI (by omega)
    have hi : (0 : Int) < (s.size : Int) := by omega
    go_enter Try.func98, Try.ntmps98
    go_wp2_with fail
    go_region
    have hlt : (s.size : Int) < 1 + ((v : Int) % 16 + 1 + 1) / 2 := by omega
    go_wp2_with fail
    refine bodyPost_ret (v := .tuple #[.agg #[.int .i64 0, .slice none 0 0], .string ⟨#[]⟩, .bool false]) (by simp [results, Try.results98, go_sem]) rfl ⟨rfl, ?_⟩
    exact (hb0.alloc (by simp) _).drew
set_option maxRecDepth 100000 in
set_option maxHeartbeats 3200000 in
theorem takeRegister_ok (s : ByteArray) (w : World) (hs : s.size ≤ 140737488355328) (h0 : 0 < s.size) (h : 1 + (wdt s[0] + 1) / 2 ≤ s.size) :
    Calls Try.prog 98 #[.string s] w fun e w' => ∃ A' c' r, e = .returned (.tuple #[.agg #[.int .i64 (bas s[0] : Int), .slice A' (wdt s[0]) c'], .string r, .bool true]) ∧ strB r = (strB s).drop (1 + (wdt s[0] + 1) / 2) ∧ OwnI w' w.heap.size (.slice A' (wdt s[0]) c') (digL ((strB s).drop 1) (wdt s[0])) ∧ Below w.heap.size w w' := by
  have hb0 : Below w.heap.size w (w.alloc (.cells #[.int .i64 0, .slice none 0 0] 26)) := (Below.refl _ _).alloc (Nat.le_refl _) _
  have hE := str_nonempty h0
  obtain ⟨b, hb⟩ : ∃ b, s[0] = b := ⟨_, rfl⟩
  obtain ⟨v, hv⟩ : ∃ v, b.toNat = v := ⟨_, rfl⟩
  have hb2 : v < 256 := by rw [← hv]; exact UInt8.toNat_lt _
  have HBA := Lib.hid (show (bas b : Int) = (v : Int) / 16 + 1 by unfold bas; rw [hv]; omega)
  have HWD := Lib.hid (show (wdt b : Int) = (v : Int) % 16 + 1 by unfold wdt; rw [hv]; omega)
  have HWN := Lib.hid (show wdt b = v % 16 + 1 by unfold wdt; rw [hv])
  rw [hb] at h ⊢
  have u1 : IntKind.u8.wrap ((v : Int) / 16) = (v : Int) / 16 := wrapB (by omega)
  have u2 : IntKind.u8.wrap ((v : Int) % 16) = (v : Int) % 16 := wrapB (by omega)
  have u3 : IntKind.i64.wrap ((v : Int) / 16) = (v : Int) / 16 := wrapI (by omega)
  have u4 : IntKind.i64.wrap ((v : Int) % 16) = (v : Int) % 16 := wrapI (by omega)
  have u5 : IntKind.i64.wrap ((v : Int) / 16 + 1) = (v : Int) / 16 + 1 := wrapI (by omega)
  have u6 : IntKind.i64.wrap ((v : Int) % 16 + 1) = (v : Int) % 16 + 1 := wrapI (by omega)
  have hi : (0 : Int) < (s.size : Int) := by omega
  have hnlt : ¬ (s.size : Int) < 1 + ((v : Int) % 16 + 1 + 1) / 2 := by have := HWN.out; omega
  obtain ⟨wd, hwd⟩ : ∃ wd : Nat, (v : Int) % 16 + 1 = (wd : Int) := ⟨v % 16 + 1, by omega⟩
  have HWE := Lib.hid (show wdt b = wd by have := HWN.out; omega)
  have hwd16 : wd ≤ 16 := by omega
  have hwd1 : 1 ≤ wd := by omega
  have hlen : 1 + (wd + 1) / 2 ≤ s.size := by have := HWE.out; rw [this] at h; exact h
  clear h
  rw [HWE.out]
  obtain ⟨bs, hbs⟩ : ∃ bs, (v : Int) / 16 + 1 = bs := ⟨_, rfl⟩
  have HBE := Lib.hid (show (bas b : Int) = bs by rw [HBA.out]; exact hbs)
  rw [HBE.out]
  rw [hbs] at u5
  have HSL := Lib.hid (strB_len s)
  obtain ⟨tl, htl⟩ : ∃ tl, tl = (strB s).drop 1 := ⟨_, rfl⟩
  have HTL := Lib.hid htl
  rw [← htl]
  clear htl
  go_enter Try.func98, Try.ntmps98
  go_wp2_with fail
  go_region
  go_wp2_with fail
  go_loopw [32] (fun kk wr => ∃ (k : Nat) (x : Value), k ≤ wd ∧ kk = .int .i64 k ∧ SumAt wr (w.heap.size + 1) bs x (digL tl k) ∧ Below (w.heap.size + 1) (w.alloc (.cells #[.int .i64 0, .slice none 0 0] 26)) wr) (fun kk _ => wd - (intOf kk).toNat)
  case atStart =>
    refine ⟨0, .slice none 0 0, Nat.zero_le _, rfl, ⟨?_, OwnI.nil _ _⟩, ?_⟩
    · first
        | exact heap_alloc_new _ _
        | (show ((w.alloc (.cells #[.int .i64 0, .slice none 0 0] 26)).alloc (.cells #[.int .i64 bs, .slice none 0 0] 26)).heap[w.heap.size + 1]? = _
           rw [show w.heap.size + 1 = (w.alloc (.cells #[.int .i64 0, .slice none 0 0] 26)).heap.size by simp]
           exact heap_alloc_new _ _)
    · exact ((Below.refl _ _).alloc (by simp) _).drew
  case round =>
    obtain ⟨k, x, hk, rfl, hS, hbr⟩ := hrel
    have HS := Lib.hid hS
    have HBR := Lib.hid hbr
    obtain ⟨s1, s2, s3⟩ := hS.cells
    have hGl := hS.lt
    have hO := Lib.hid hS.2
    clear hS hbr
    by_cases hkn : k < wd
    · have hk1 : (k : Int) < (wd : Int) := by omega
      have hix : 1 + k / 2 < s.size := by omega
      obtain ⟨q, hq⟩ : ∃ q : UInt8, s[1 + k / 2] = q := ⟨_, rfl⟩
      obtain ⟨z, hz⟩ : ∃ z : Nat, q.toNat = z := ⟨_, rfl⟩
      have hz2 : z < 256 := by rw [← hz]; exact UInt8.toNat_lt _
      have hxi : (1 : Int) + (k : Int) / 2 < (s.size : Int) := by omega
      have hxn : ((1 : Int) + (k : Int) / 2).toNat = 1 + k / 2 := by omega
      have HDK : Hid (digK tl k = if k % 2 = 0 then ((z / 16 : Nat) : Int) else ((z % 16 : Nat) : Int)) := by
        simp only [Hid, digK]
        rw [show (tl.getD (k / 2) 0).toNat = z by
          rw [HTL.out, ← hz, ← hq, strB_get s hix]
          rw [List.getD, List.getElem?_drop, List.getElem?_eq_getElem (show 1 + k / 2 < (strB s).length by rw [HSL.out]; exact hix)]; rfl]
      rcases Nat.mod_two_eq_zero_or_one k with hm | hm
      · have hme : ((k : Int) % 2 == 0) = true := by rw [beq_iff_eq]; omega
        have hme2 : (k : Int) % 2 = 0 := by omega
        have hzz : (z : Int) / 16 % 16 = (z : Int) / 16 := by omega
        have HY : Hid (digK tl k = (z : Int) / 16) := by simp only [Hid]; rw [HDK.out, if_pos hm]; omega
        have hdl := digL_len tl k
        have HOB := Lib.hid (hO.out.below ((Below.refl wr.heap.size wr).alloc (Nat.le_refl _) (.cells #[.int .i64 ((z : Int) / 16)] 2)))
        go_wp2_with (at_builtin; refine app1I rfl _ _ rfl (w.heap.size + 1 + 1) _ (digL tl k) rfl HOB.out wr.heap.size ((z : Int) / 16) rfl (heap_alloc_new _ _) (by omega) (by simp; omega) ?_; intro v5 w6 hown5 hg5 hv5; obtain ⟨A5, c5, rfl, -⟩ := OwnI.reads hown5; obtain ⟨t1, t2, t3, t4⟩ := SumAt.far HS.out hg5)
        obtain ⟨hS3, hB3⟩ := SumAt.step (x := ((z : Int) / 16)) HS.out hg5 (by have h := hown5; unfold OwnI at h; rw [List.length_append, List.map_append] at h; exact h)
        rw [show (digL tl k).length + [((z : Int) / 16)].length = k + 1 by rw [hdl]; rfl] at hS3 hB3
        have HS3 := Lib.hid (show SumAt _ (w.heap.size + 1) bs _ (digL tl (k + 1)) by rw [digL_succ, HY.out]; exact hS3)
        have HB3 := Lib.hid (HBR.out.trans (hB3 _ (Nat.le_refl _)))
        clear hS3 hB3 hown5 hg5 hv5 t1 t2 t3 t4
        go_roundw
        case rel => exact ⟨k + 1, _, by omega, by go_num, HS3.out, HB3.out⟩
        case measure => simp [intOf]; omega
      · have hme : ((k : Int) % 2 == 0) = false := by rw [beq_eq_false_iff_ne]; omega
        have hme2 : ¬ (k : Int) % 2 = 0 := by omega
        have HY : Hid (digK tl k = (z : Int) % 16) := by simp only [Hid]; rw [HDK.out, if_neg (by omega)]; omega
        have hdl := digL_len tl k
        have HOB := Lib.hid (hO.out.below ((Below.refl wr.heap.size wr).alloc (Nat.le_refl _) (.cells #[.int .i64 ((z : Int) % 16)] 2)))
        go_wp2_with (at_builtin; refine app1I rfl _ _ rfl (w.heap.size + 1 + 1) _ (digL tl k) rfl HOB.out wr.heap.size ((z : Int) % 16) rfl (heap_alloc_new _ _) (by omega) (by simp; omega) ?_; intro v5 w6 hown5 hg5 hv5; obtain ⟨A5, c5, rfl, -⟩ := OwnI.reads hown5; obtain ⟨t1, t2, t3, t4⟩ := SumAt.far HS.out hg5)
        obtain ⟨hS3, hB3⟩ := SumAt.step (x := ((z : Int) % 16)) HS.out hg5 (by have h := hown5; unfold OwnI at h; rw [List.length_append, List.map_append] at h; exact h)
        rw [show (digL tl k).length + [((z : Int) % 16)].length = k + 1 by rw [hdl]; rfl] at hS3 hB3
        have HS3 := Lib.hid (show SumAt _ (w.heap.size + 1) bs _ (digL tl (k + 1)) by rw [digL_succ, HY.out]; exact hS3)
        have HB3 := Lib.hid (HBR.out.trans (hB3 _ (Nat.le_refl _)))
        clear hS3 hB3 hown5 hg5 hv5 t1 t2 t3 t4
        go_roundw
        case rel => exact ⟨k + 1, _, by omega, by go_num, HS3.out, HB3.out⟩
        case measure => simp [intOf]; omega
    · have HK : Hid (k = wd) := by simp only [Hid]; omega
      have q0 : wr.cell? ⟨w.heap.size, 0, none⟩ = some (.int .i64 0) := by rw [HBR.out.cell (by simp)]; go_simp
      have q1 : wr.cell? ⟨w.heap.size, 1, none⟩ = some (.slice none 0 0) := by rw [HBR.out.cell (by simp)]; go_simp
      have q2 : wr.frozen? ⟨w.heap.size, 0, none⟩ = false := by rw [HBR.out.frozen (by simp)]; go_simp
      have q3 : wr.frozen? ⟨w.heap.size, 1, none⟩ = false := by rw [HBR.out.frozen (by simp)]; go_simp
      obtain ⟨A', c', e, -, -⟩ := hO.out.reads
      subst e
      rw [digL_len, HK.out] at s2
      have hO2 := hO.out
      rw [digL_len, HK.out] at hO2
      have HO2 := Lib.hid hO2
      clear hO2 HS hO
      have hgl1 : w.heap.size + 1 ≠ w.heap.size := by omega
      have x1 : IntKind.i64.wrap ((wd : Int) + 1) = (wd : Int) + 1 := wrapI (by omega)
      have x2 : IntKind.i64.wrap (((wd : Int) + 1) / 2) = ((wd : Int) + 1) / 2 := wrapI (by omega)
      have x3 : IntKind.i64.wrap (1 + ((wd : Int) + 1) / 2) = 1 + ((wd : Int) + 1) / 2 := wrapI (by omega)
      have x4 : (1 : Int) + ((wd : Int) + 1) / 2 ≤ (s.size : Int) := by omega
      go_wp2_with fail
      go_region
      all_goals
        go_wp2_with fail
        have hb9 : Below w.heap.size w (((wr.setCell ⟨w.heap.size, 0, none⟩ (.int .i64 bs)).setCell ⟨w.heap.size, 1, none⟩ (.slice A' wd c')).drew) :=
          (((hb0.trans (HBR.out.mono (by omega))).setCell (by show w.heap.size ≤ w.heap.size; omega) _).setCell (by show w.heap.size ≤ w.heap.size; omega) _).drew
        refine bodyPost_ret (v := .tuple #[.agg #[.int .i64 bs, .slice A' wd c'], .string (s.extract (1 + (wd + 1) / 2) s.size), .bool true]) (by simp [results, Try.results98, go_sem, q0, q1, q2, q3]) rfl ⟨A', c', _, rfl, ?_, ?_, hb9⟩
        · exact strB_drop s _
        · exact ((((HO2.out.setBelow (by show w.heap.size < w.heap.size + 1 + 1; omega) _).setBelow (by show w.heap.size < w.heap.size + 1 + 1; omega) _)).mono (by omega)).drew
end Go.Proofs.Ytkfbfainhmkkdaa

namespace Go.Proofs.Ytkfbfainhmkkdaa
open Go.RowKit Go.Sort
/-- an odd register's last half byte is 0 -/
def fineL (tl : List UInt8) (n : Nat) : Bool := n % 2 == 0 || (tl.getD ((n + 1) / 2 - 1) 0).toNat % 16 == 0
set_option maxRecDepth 100000 in
set_option maxHeartbeats 1600000 in
theorem l27Register_short (s : ByteArray) (w : World) (hs : s.size ≤ 140737488355328) (h : s.size = 0 ∨ ∃ h0 : 0 < s.size, s.size < 1 + (wdt s[0] + 1) / 2) :
    Calls Try.prog 103 #[.string s] w fun e w' => e = .returned (.tuple #[.agg #[.int .i64 0, .slice none 0 0], .string ⟨#[]⟩, .bool false]) ∧ Below w.heap.size w w' := by
  have hb0 : Below w.heap.size w (w.alloc (.cells #[.int .i64 0, .slice none 0 0] 26)) := (Below.refl _ _).alloc (Nat.le_refl _) _
  rcases h with h | ⟨h0, h⟩
  · have he := size_zero h
    subst he
    go_enter Try.func103, Try.ntmps103
    go_wp2_with fail
    refine bodyPost_ret (v := .tuple #[.agg #[.int .i64 0, .slice none 0 0], .string ⟨#[]⟩, .bool false]) (by simp [results, Try.results103, go_sem]) rfl ⟨rfl, hb0⟩
  · have hE := str_nonempty h0
    obtain ⟨b, hb⟩ : ∃ b, s[0] = b := ⟨_, rfl⟩
    obtain ⟨v, hv⟩ : ∃ v, b.toNat = v := ⟨_, rfl⟩
    have hb2 : v < 256 := by rw [← hv]; exact UInt8.toNat_lt _
    unfold wdt at h
    rw [hb, hv] at h
    have u1 : IntKind.u8.wrap ((v : Int) / 16) = (v : Int) / 16 := wrapB (by omega)
    have u2 : IntKind.u8.wrap ((v : Int) % 16) = (v : Int) % 16 := wrapB (by omega)
    have u3 : IntKind.i64.wrap ((v : Int) / 16) = (v : Int) / 16 := wrapI (by omega)
    have u4 : IntKind.i64.wrap ((v : Int) % 16) = (v : Int) % 16 := wrapI (by omega)
    have u5 : IntKind.i64.wrap ((v : Int) / 16 + 1) = (v : Int) / 16 + 1 := wrapI (by omega)
    have u6 : IntKind.i64.wrap ((v : Int) % 16 + 1) = (v : Int) % 16 + 1 := wrapI (by omega)
    have hi : (0 : Int) < (s.size : Int) := by omega
    have hlt : (s.size : Int) < ((v : Int) % 16 + 1 + 1) / 2 + 1 := by omega
    have u7 : IntKind.i64.wrap ((v : Int) % 16 + 1 + 1) = (v : Int) % 16 + 1 + 1 := wrapI (by omega)
    have u8 : IntKind.i64.wrap (((v : Int) % 16 + 1 + 1) / 2) = ((v : Int) % 16 + 1 + 1) / 2 := wrapI (by omega)
    have u9 : IntKind.i64.wrap (((v : Int) % 16 + 1 + 1) / 2 + 1) = ((v : Int) % 16 + 1 + 1) / 2 + 1 := wrapI (by omega)
    go_enter Try.func103, Try.ntmps103
    go_wp2_with fail
    refine bodyPost_ret (v := .tuple #[.agg #[.int .i64 0, .slice none 0 0], .string ⟨#[]⟩, .bool false]) (by simp [results, Try.results103, go_sem]) rfl ⟨rfl, ?_⟩
    exact (hb0.alloc (by simp) _)
set_option maxRecDepth 100000 in
set_option maxHeartbeats 3200000 in
theorem l27Register_ok (s : ByteArray) (w : World) (hs : s.size ≤ 140737488355328) (h0 : 0 < s.size) (h : 1 + (wdt s[0] + 1) / 2 ≤ s.size) :
    Calls Try.prog 103 #[.string s] w fun e w' => ∃ A' c' r, e = .returned (.tuple #[.agg #[.int .i64 (bas s[0] : Int), .slice A' (wdt s[0]) c'], .string r, .bool (fineL ((strB s).drop 1) (wdt s[0]))]) ∧ strB r = (strB s).drop (1 + (wdt s[0] + 1) / 2) ∧ OwnI w' w.heap.size (.slice A' (wdt s[0]) c') (digL ((strB s).drop 1) (wdt s[0])) ∧ Below w.heap.size w w' := by
  have hb0 : Below w.heap.size w (w.alloc (.cells #[.int .i64 0, .slice none 0 0] 26)) := (Below.refl _ _).alloc (Nat.le_refl _) _
  have hE := str_nonempty h0
  obtain ⟨b, hb⟩ : ∃ b, s[0] = b := ⟨_, rfl⟩
  obtain ⟨v, hv⟩ : ∃ v, b.toNat = v := ⟨_, rfl⟩
  have hb2 : v < 256 := by rw [← hv]; exact UInt8.toNat_lt _
  have HBA := Lib.hid (show (bas b : Int) = (v : Int) / 16 + 1 by unfold bas; rw [hv]; omega)
  have HWD := Lib.hid (show (wdt b : Int) = (v : Int) % 16 + 1 by unfold wdt; rw [hv]; omega)
  have HWN := Lib.hid (show wdt b = v % 16 + 1 by unfold wdt; rw [hv])
  rw [hb] at h ⊢
  have u1 : IntKind.u8.wrap ((v : Int) / 16) = (v : Int) / 16 := wrapB (by omega)
  have u2 : IntKind.u8.wrap ((v : Int) % 16) = (v : Int) % 16 := wrapB (by omega)
  have u3 : IntKind.i64.wrap ((v : Int) / 16) = (v : Int) / 16 := wrapI (by omega)
  have u4 : IntKind.i64.wrap ((v : Int) % 16) = (v : Int) % 16 := wrapI (by omega)
  have u5 : IntKind.i64.wrap ((v : Int) / 16 + 1) = (v : Int) / 16 + 1 := wrapI (by omega)
  have u6 : IntKind.i64.wrap ((v : Int) % 16 + 1) = (v : Int) % 16 + 1 := wrapI (by omega)
  have hi : (0 : Int) < (s.size : Int) := by omega
  obtain ⟨wd, hwd⟩ : ∃ wd : Nat, (v : Int) % 16 + 1 = (wd : Int) := ⟨v % 16 + 1, by omega⟩
  have HWE := Lib.hid (show wdt b = wd by have := HWN.out; omega)
  have hwd16 : wd ≤ 16 := by omega
  have hwd1 : 1 ≤ wd := by omega
  have hlen : 1 + (wd + 1) / 2 ≤ s.size := by have := HWE.out; rw [this] at h; exact h
  clear h
  rw [HWE.out]
  obtain ⟨bs, hbs⟩ : ∃ bs, (v : Int) / 16 + 1 = bs := ⟨_, rfl⟩
  have HBE := Lib.hid (show (bas b : Int) = bs by rw [HBA.out]; exact hbs)
  rw [HBE.out]
  rw [hbs] at u5
  have HSL := Lib.hid (strB_len s)
  obtain ⟨tl, htl⟩ : ∃ tl, tl = (strB s).drop 1 := ⟨_, rfl⟩
  have HTL := Lib.hid htl
  rw [← htl]
  clear htl
  have hnlt : ¬ (s.size : Int) < ((wd : Int) + 1) / 2 + 1 := by omega
  have x1 : IntKind.i64.wrap ((wd : Int) + 1) = (wd : Int) + 1 := wrapI (by omega)
  have x2 : IntKind.i64.wrap (((wd : Int) + 1) / 2) = ((wd : Int) + 1) / 2 := wrapI (by omega)
  have x3 : IntKind.i64.wrap (((wd : Int) + 1) / 2 + 1) = ((wd : Int) + 1) / 2 + 1 := wrapI (by omega)
  rw [hwd] at u6
  go_enter Try.func103, Try.ntmps103
  go_wp2_with fail
  go_loopw [8] (fun kk wr => ∃ (k : Nat) (x : Value), k ≤ wd ∧ kk = .int .i64 k ∧ SumAt wr (w.heap.size + 1) bs x (digL tl k) ∧ Below (w.heap.size + 1) (w.alloc (.cells #[.int .i64 0, .slice none 0 0] 26)) wr) (fun kk _ => wd - (intOf kk).toNat)
  case atStart =>
    refine ⟨0, .slice none 0 0, Nat.zero_le _, rfl, ⟨?_, OwnI.nil _ _⟩, ?_⟩
    · first
        | exact heap_alloc_new _ _
        | (show ((w.alloc (.cells #[.int .i64 0, .slice none 0 0] 26)).alloc (.cells #[.int .i64 bs, .slice none 0 0] 26)).heap[w.heap.size + 1]? = _
           rw [show w.heap.size + 1 = (w.alloc (.cells #[.int .i64 0, .slice none 0 0] 26)).heap.size by simp]
           exact heap_alloc_new _ _)
    · exact ((Below.refl _ _).alloc (by simp) _)
  case round =>
    obtain ⟨k, x, hk, rfl, hS, hbr⟩ := hrel
    have HS := Lib.hid hS
    have HBR := Lib.hid hbr
    obtain ⟨s1, s2, s3⟩ := hS.cells
    have hGl := hS.lt
    have hO := Lib.hid hS.2
    clear hS hbr
    by_cases hkn : k < wd
    · have hk1 : (k : Int) < (wd : Int) := by omega
      have hix : 1 + k / 2 < s.size := by omega
      obtain ⟨q, hq⟩ : ∃ q : UInt8, s[1 + k / 2] = q := ⟨_, rfl⟩
      obtain ⟨z, hz⟩ : ∃ z : Nat, q.toNat = z := ⟨_, rfl⟩
      have hz2 : z < 256 := by rw [← hz]; exact UInt8.toNat_lt _
      have hxi : (1 : Int) + (k : Int) / 2 < (s.size : Int) := by omega
      have hxn : ((1 : Int) + (k : Int) / 2).toNat = 1 + k / 2 := by omega
      have HDK : Hid (digK tl k = if k % 2 = 0 then ((z / 16 : Nat) : Int) else ((z % 16 : Nat) : Int)) := by
        simp only [Hid, digK]
        rw [show (tl.getD (k / 2) 0).toNat = z by
          rw [HTL.out, ← hz, ← hq, strB_get s hix]
          rw [List.getD, List.getElem?_drop, List.getElem?_eq_getElem (show 1 + k / 2 < (strB s).length by rw [HSL.out]; exact hix)]; rfl]
      rcases Nat.mod_two_eq_zero_or_one k with hm | hm
      · have hme : ((k : Int) % 2 == 0) = true := by rw [beq_iff_eq]; omega
        have hme2 : (k : Int) % 2 = 0 := by omega
        have hzz : (z : Int) / 16 % 16 = (z : Int) / 16 := by omega
        have HY : Hid (digK tl k = (z : Int) / 16) := by simp only [Hid]; rw [HDK.out, if_pos hm]; omega
        have hdl := digL_len tl k
        have HOB := Lib.hid (hO.out.below ((Below.refl wr.heap.size wr).alloc (Nat.le_refl _) (.cells #[.int .i64 ((z : Int) / 16)] 2)))
        go_wp2_with (at_builtin; refine app1I rfl _ _ rfl (w.heap.size + 1 + 1) _ (digL tl k) rfl HOB.out wr.heap.size ((z : Int) / 16) rfl (heap_alloc_new _ _) (by omega) (by simp; omega) ?_; intro v5 w6 hown5 hg5 hv5; obtain ⟨A5, c5, rfl, -⟩ := OwnI.reads hown5; obtain ⟨t1, t2, t3, t4⟩ := SumAt.far HS.out hg5)
        obtain ⟨hS3, hB3⟩ := SumAt.step (x := ((z : Int) / 16)) HS.out hg5 (by have h := hown5; unfold OwnI at h; rw [List.length_append, List.map_append] at h; exact h)
        rw [show (digL tl k).length + [((z : Int) / 16)].length = k + 1 by rw [hdl]; rfl] at hS3 hB3
        have HS3 := Lib.hid (show SumAt _ (w.heap.size + 1) bs _ (digL tl (k + 1)) by rw [digL_succ, HY.out]; exact hS3)
        have HB3 := Lib.hid (HBR.out.trans (hB3 _ (Nat.le_refl _)))
        clear hS3 hB3 hown5 hg5 hv5 t1 t2 t3 t4
        go_roundw
        case rel => exact ⟨k + 1, _, by omega, by go_num, HS3.out, HB3.out⟩
        case measure => simp [intOf]; omega
      · have hme : ((k : Int) % 2 == 0) = false := by rw [beq_eq_false_iff_ne]; omega
        have hme2 : ¬ (k : Int) % 2 = 0 := by omega
        have HY : Hid (digK tl k = (z : Int) % 16) := by simp only [Hid]; rw [HDK.out, if_neg (by omega)]; omega
        have hdl := digL_len tl k
        have HOB := Lib.hid (hO.out.below ((Below.refl wr.heap.size wr).alloc (Nat.le_refl _) (.cells #[.int .i64 ((z : Int) % 16)] 2)))
        go_wp2_with (at_builtin; refine app1I rfl _ _ rfl (w.heap.size + 1 + 1) _ (digL tl k) rfl HOB.out wr.heap.size ((z : Int) % 16) rfl (heap_alloc_new _ _) (by omega) (by simp; omega) ?_; intro v5 w6 hown5 hg5 hv5; obtain ⟨A5, c5, rfl, -⟩ := OwnI.reads hown5; obtain ⟨t1, t2, t3, t4⟩ := SumAt.far HS.out hg5)
        obtain ⟨hS3, hB3⟩ := SumAt.step (x := ((z : Int) % 16)) HS.out hg5 (by have h := hown5; unfold OwnI at h; rw [List.length_append, List.map_append] at h; exact h)
        rw [show (digL tl k).length + [((z : Int) % 16)].length = k + 1 by rw [hdl]; rfl] at hS3 hB3
        have HS3 := Lib.hid (show SumAt _ (w.heap.size + 1) bs _ (digL tl (k + 1)) by rw [digL_succ, HY.out]; exact hS3)
        have HB3 := Lib.hid (HBR.out.trans (hB3 _ (Nat.le_refl _)))
        clear hS3 hB3 hown5 hg5 hv5 t1 t2 t3 t4
        go_roundw
        case rel => exact ⟨k + 1, _, by omega, by go_num, HS3.out, HB3.out⟩
        case measure => simp [intOf]; omega
    · have HK : Hid (k = wd) := by simp only [Hid]; omega
      have q0 : wr.cell? ⟨w.heap.size, 0, none⟩ = some (.int .i64 0) := by rw [HBR.out.cell (by simp)]; go_simp
      have q1 : wr.cell? ⟨w.heap.size, 1, none⟩ = some (.slice none 0 0) := by rw [HBR.out.cell (by simp)]; go_simp
      have q2 : wr.frozen? ⟨w.heap.size, 0, none⟩ = false := by rw [HBR.out.frozen (by simp)]; go_simp
      have q3 : wr.frozen? ⟨w.heap.size, 1, none⟩ = false := by rw [HBR.out.frozen (by simp)]; go_simp
      obtain ⟨A', c', e, -, -⟩ := hO.out.reads
      subst e
      rw [digL_len, HK.out] at s2
      have hO2 := hO.out
      rw [digL_len, HK.out] at hO2
      have HO2 := Lib.hid hO2
      clear hO2 HS hO
      have hgl1 : w.heap.size + 1 ≠ w.heap.size := by omega
      have x4 : ((wd : Int) + 1) / 2 + 1 ≤ (s.size : Int) := by omega
      have hfin : fineL tl wd = (wd % 2 == 0 || (tl.getD ((wd + 1) / 2 - 1) 0).toNat % 16 == 0) := rfl
      have hix : (wd + 1) / 2 < s.size := by omega
      obtain ⟨q, hq⟩ : ∃ q : UInt8, s[(wd + 1) / 2] = q := ⟨_, rfl⟩
      obtain ⟨z, hz⟩ : ∃ z : Nat, q.toNat = z := ⟨_, rfl⟩
      have hz2 : z < 256 := by rw [← hz]; exact UInt8.toNat_lt _
      have htg : (tl.getD ((wd + 1) / 2 - 1) 0).toNat = z := by
        rw [HTL.out, ← hz, ← hq, strB_get s hix]
        rw [List.getD, List.getElem?_drop, show 1 + ((wd + 1) / 2 - 1) = (wd + 1) / 2 by omega, List.getElem?_eq_getElem (show (wd + 1) / 2 < (strB s).length by rw [HSL.out]; exact hix)]; rfl
      rw [htg] at hfin
      have HFN := Lib.hid hfin
      clear hfin htg
      have hxi : ((wd : Int) + 1) / 2 < (s.size : Int) := by omega
      have hxj : (0 : Int) ≤ ((wd : Int) + 1) / 2 := by omega
      have hxn : (((wd : Int) + 1) / 2).toNat = (wd + 1) / 2 := by omega
      have hb9 : Below w.heap.size w (((wr.setCell ⟨w.heap.size, 0, none⟩ (.int .i64 bs)).setCell ⟨w.heap.size, 1, none⟩ (.slice A' wd c')).drew) :=
        (((hb0.trans (HBR.out.mono (by omega))).setCell (by show w.heap.size ≤ w.heap.size; omega) _).setCell (by show w.heap.size ≤ w.heap.size; omega) _).drew
      have HB9 := Lib.hid hb9
      clear hb9
      rcases Nat.mod_two_eq_zero_or_one wd with hm | hm
      · have hme2 : (wd : Int) % 2 = 0 := by omega
        have hme : ((wd : Int) % 2 == 0) = true := by rw [beq_iff_eq]; omega
        have HR : Hid (fineL tl wd = true) := by simp only [Hid]; rw [HFN.out]; simp [hm]
        clear hm
        go_wp2_with fail
        go_region
        all_goals
          go_wp2_with fail
          refine bodyPost_ret (v := .tuple #[.agg #[.int .i64 bs, .slice A' wd c'], .string (s.extract ((wd + 1) / 2 + 1) s.size), .bool true]) (by simp [results, Try.results103, go_sem, q0, q1, q2, q3]) rfl ⟨A', c', _, by rw [HR.out], ?_, ?_, HB9.out⟩
          · rw [strB_drop, Nat.add_comm]
          · exact ((((HO2.out.setBelow (by show w.heap.size < w.heap.size + 1 + 1; omega) _).setBelow (by show w.heap.size < w.heap.size + 1 + 1; omega) _)).mono (by omega)).drew
      · have hme2 : ¬ (wd : Int) % 2 = 0 := by omega
        have hme : ((wd : Int) % 2 == 0) = false := by rw [beq_eq_false_iff_ne]; omega
        have HR : Hid (fineL tl wd = ((z : Int) % 16 == 0)) := by
          simp only [Hid]; rw [HFN.out, hm]
          rw [Bool.eq_iff_iff]; simp; omega
        clear hm
        go_wp2_with fail
        go_region
        all_goals
          go_wp2_with fail
          refine bodyPost_ret (v := .tuple #[.agg #[.int .i64 bs, .slice A' wd c'], .string (s.extract ((wd + 1) / 2 + 1) s.size), .bool ((z : Int) % 16 == 0)]) (by simp [results, Try.results103, go_sem, q0, q1, q2, q3]) rfl ⟨A', c', _, by rw [HR.out], ?_, ?_, HB9.out⟩
          · rw [strB_drop, Nat.add_comm]
          · exact ((((HO2.out.setBelow (by show w.heap.size < w.heap.size + 1 + 1; omega) _).setBelow (by show w.heap.size < w.heap.size + 1 + 1; omega) _)).mono (by omega)).drew
end Go.Proofs.Ytkfbfainhmkkdaa

namespace Go.Proofs.Ytkfbfainhmkkdaa
open Go.RowKit Go.Sort
/-- are there enough bytes for a register; the register; what is behind it -/
def tkOk : List UInt8 → Bool
  | [] => false
  | b :: tl => decide ((wdt b + 1) / 2 ≤ tl.length)
def tkReg : List UInt8 → Reg
  | [] => ⟨0, []⟩
  | b :: tl => if (wdt b + 1) / 2 ≤ tl.length then ⟨bas b, digL tl (wdt b)⟩ else ⟨0, []⟩
def tkRest : List UInt8 → List UInt8
  | [] => []
  | b :: tl => if (wdt b + 1) / 2 ≤ tl.length then tl.drop ((wdt b + 1) / 2) else []
/-- an odd register's last half byte is 0 -/
def tkFine : List UInt8 → Bool
  | [] => false
  | b :: tl => decide ((wdt b + 1) / 2 ≤ tl.length) && fineL tl (wdt b)
theorem takeRegister_any (s : ByteArray) (w : World) (hs : s.size ≤ 140737488355328) :
    Calls Try.prog 98 #[.string s] w fun e w' => ∃ A c r, e = .returned (.tuple #[.agg #[.int .i64 (tkReg (strB s)).base, .slice A (tkReg (strB s)).digits.length c], .string r, .bool (tkOk (strB s))]) ∧ strB r = tkRest (strB s) ∧ OwnI w' w.heap.size (.slice A (tkReg (strB s)).digits.length c) (tkReg (strB s)).digits ∧ Below w.heap.size w w' := by
  by_cases h0 : 0 < s.size
  · have hc := strB_cons h0
    obtain ⟨b, hb⟩ : ∃ b, s[0] = b := ⟨_, rfl⟩
    have hl : ((strB s).drop 1).length = s.size - 1 := by rw [List.length_drop, strB_len]
    obtain ⟨tl, htl⟩ : ∃ tl, (strB s).drop 1 = tl := ⟨_, rfl⟩
    rw [htl] at hl
    by_cases h : 1 + (wdt s[0] + 1) / 2 ≤ s.size
    · refine (takeRegister_ok s w hs h0 h).mono ?_
      rintro e w' ⟨A, c, r, rfl, hr, ho, hw⟩
      have hd : strB s = b :: tl := by rw [← hb, ← htl]; exact hc
      have hle : (wdt b + 1) / 2 ≤ tl.length := by rw [← hb]; omega
      have e1 : tkReg (strB s) = ⟨bas b, digL tl (wdt b)⟩ := by rw [hd]; simp only [tkReg]; rw [if_pos hle]
      have e2 : tkRest (strB s) = tl.drop ((wdt b + 1) / 2) := by rw [hd]; simp only [tkRest]; rw [if_pos hle]
      rw [hb, htl] at ho
      rw [hb] at hr
      refine ⟨A, c, r, ?_, ?_, ?_, hw⟩
      · rw [e1, hd]; simp only [digL_len, tkOk, hb, htl, decide_eq_true hle, Bool.true_and, List.drop_succ_cons, List.drop_zero]
      · rw [hr, e2, hd, Nat.add_comm, List.drop_succ_cons]
      · rw [e1]; simp only [digL_len]; exact ho
    · refine (takeRegister_short s w hs (.inr ⟨h0, by omega⟩)).mono ?_
      rintro e w' ⟨rfl, hw⟩
      have hd : strB s = b :: tl := by rw [← hb, ← htl]; exact hc
      have hle : ¬ (wdt b + 1) / 2 ≤ tl.length := by rw [← hb]; omega
      have e1 : tkReg (strB s) = ⟨0, []⟩ := by rw [hd]; simp only [tkReg]; rw [if_neg hle]
      have e2 : tkRest (strB s) = [] := by rw [hd]; simp only [tkRest]; rw [if_neg hle]
      refine ⟨none, 0, ⟨#[]⟩, ?_, ?_, ?_, hw⟩
      · rw [e1, hd]; simp only [tkOk, decide_eq_false hle, Bool.false_and]; rfl
      · rw [e2]; rfl
      · rw [e1]; exact OwnI.nil _ _
  · refine (takeRegister_short s w hs (.inl (by omega))).mono ?_
    rintro e w' ⟨rfl, hw⟩
    have hd : strB s = [] := strB_nil (by omega)
    rw [hd]
    exact ⟨none, 0, ⟨#[]⟩, rfl, rfl, OwnI.nil _ _, hw⟩
theorem l27Register_any (s : ByteArray) (w : World) (hs : s.size ≤ 140737488355328) :
    Calls Try.prog 103 #[.string s] w fun e w' => ∃ A c r, e = .returned (.tuple #[.agg #[.int .i64 (tkReg (strB s)).base, .slice A (tkReg (strB s)).digits.length c], .string r, .bool (tkFine (strB s))]) ∧ strB r = tkRest (strB s) ∧ OwnI w' w.heap.size (.slice A (tkReg (strB s)).digits.length c) (tkReg (strB s)).digits ∧ Below w.heap.size w w' := by
  by_cases h0 : 0 < s.size
  · have hc := strB_cons h0
    obtain ⟨b, hb⟩ : ∃ b, s[0] = b := ⟨_, rfl⟩
    have hl : ((strB s).drop 1).length = s.size - 1 := by rw [List.length_drop, strB_len]
    obtain ⟨tl, htl⟩ : ∃ tl, (strB s).drop 1 = tl := ⟨_, rfl⟩
    rw [htl] at hl
    by_cases h : 1 + (wdt s[0] + 1) / 2 ≤ s.size
    · refine (l27Register_ok s w hs h0 h).mono ?_
      rintro e w' ⟨A, c, r, rfl, hr, ho, hw⟩
      have hd : strB s = b :: tl := by rw [← hb, ← htl]; exact hc
      have hle : (wdt b + 1) / 2 ≤ tl.length := by rw [← hb]; omega
      have e1 : tkReg (strB s) = ⟨bas b, digL tl (wdt b)⟩ := by rw [hd]; simp only [tkReg]; rw [if_pos hle]
      have e2 : tkRest (strB s) = tl.drop ((wdt b + 1) / 2) := by rw [hd]; simp only [tkRest]; rw [if_pos hle]
      rw [hb, htl] at ho
      rw [hb] at hr
      refine ⟨A, c, r, ?_, ?_, ?_, hw⟩
      · rw [e1, hd]; simp only [digL_len, tkFine, hb, htl, decide_eq_true hle, Bool.true_and, List.drop_succ_cons, List.drop_zero]
      · rw [hr, e2, hd, Nat.add_comm, List.drop_succ_cons]
      · rw [e1]; simp only [digL_len]; exact ho
    · refine (l27Register_short s w hs (.inr ⟨h0, by omega⟩)).mono ?_
      rintro e w' ⟨rfl, hw⟩
      have hd : strB s = b :: tl := by rw [← hb, ← htl]; exact hc
      have hle : ¬ (wdt b + 1) / 2 ≤ tl.length := by rw [← hb]; omega
      have e1 : tkReg (strB s) = ⟨0, []⟩ := by rw [hd]; simp only [tkReg]; rw [if_neg hle]
      have e2 : tkRest (strB s) = [] := by rw [hd]; simp only [tkRest]; rw [if_neg hle]
      refine ⟨none, 0, ⟨#[]⟩, ?_, ?_, ?_, hw⟩
      · rw [e1, hd]; simp only [tkFine, decide_eq_false hle, Bool.false_and]; rfl
      · rw [e2]; rfl
      · rw [e1]; exact OwnI.nil _ _
  · refine (l27Register_short s w hs (.inl (by omega))).mono ?_
    rintro e w' ⟨rfl, hw⟩
    have hd : strB s = [] := strB_nil (by omega)
    rw [hd]
    exact ⟨none, 0, ⟨#[]⟩, rfl, rfl, OwnI.nil _ _, hw⟩
/-- what packed digits say -/
theorem toB_byte (b : UInt8) (z : Int) (h : z = b.toNat) : toB z = b := by
  subst h
  unfold toB
  simp
theorem digL_getD (tl : List UInt8) (n k : Nat) : (digL tl n).getD k 0 = if k < n then digK tl k else 0 := by
  unfold digL
  by_cases h : k < n
  · rw [if_pos h]; simp [List.getD, h]
  · rw [if_neg h]; simp [List.getD, List.getElem?_eq_none (show (List.map (digK tl) (List.range n)).length ≤ k by simp; omega)]
theorem regB_digL (b : UInt8) (tl : List UInt8) (hl : tl.length = (wdt b + 1) / 2) (hf : fineL tl (wdt b) = true) : regB (bas b) (digL tl (wdt b)) = b :: tl := by
  have hw : wdt b = b.toNat % 16 + 1 := rfl
  have hb : bas b = b.toNat / 16 + 1 := rfl
  unfold regB
  rw [digL_len]
  congr 1
  · refine toB_byte b _ ?_
    rw [hw, hb]; omega
  · refine List.ext_getElem (by simp [hl]) fun j h1 h2 => ?_
    simp only [List.getElem_map, List.getElem_range]
    refine toB_byte _ _ ?_
    have hj : j < (wdt b + 1) / 2 := by simpa using h1
    have hg : tl.getD j 0 = tl[j] := by simp [List.getD, List.getElem?_eq_getElem h2]
    unfold pairAt
    rw [digL_getD, digL_getD, if_pos (by omega)]
    have d0 : digK tl (j * 2) = ((tl[j].toNat / 16 : Nat) : Int) := by
      unfold digK; rw [if_pos (by omega), show j * 2 / 2 = j by omega, hg]
    have d1 : digK tl (j * 2 + 1) = ((tl[j].toNat % 16 : Nat) : Int) := by
      unfold digK; rw [if_neg (by omega), show (j * 2 + 1) / 2 = j by omega, hg]
    rw [d0, d1]
    by_cases hj2 : j * 2 + 1 < wdt b
    · rw [if_pos hj2]; omega
    · rw [if_neg hj2]
      have hodd : wdt b % 2 = 1 := by omega
      have hje : (wdt b + 1) / 2 - 1 = j := by omega
      unfold fineL at hf
      rw [hje, hg] at hf
      have : tl[j].toNat % 16 = 0 := by
        rcases Bool.or_eq_true _ _ ▸ hf with h | h
        · rw [beq_iff_eq] at h; omega
        · rw [beq_iff_eq] at h; exact h
      omega
/-- what a register's bytes read as, whatever lies behind them -/
theorem tk_regB (base : Int) (ds : List Int) (more : List UInt8) (h : vreg base ds = true) : tkOk (regB base ds ++ more) = true ∧ tkReg (regB base ds ++ more) = ⟨base, ds⟩ ∧ tkRest (regB base ds ++ more) = more ∧ tkFine (regB base ds ++ more) = true := by
  obtain ⟨⟨b1, b2⟩, ⟨n1, n2⟩, hd, -⟩ := vreg_iff.1 h
  obtain ⟨b, hb⟩ : ∃ b, b = toB (16 * (base - 1) + ((ds.length : Int) - 1)) := ⟨_, rfl⟩
  obtain ⟨tl, htl⟩ : ∃ tl, tl = (List.range ((ds.length + 1) / 2)).map (fun j => toB (pairAt ds j)) := ⟨_, rfl⟩
  have hreg : regB base ds = b :: tl := by unfold regB; rw [← hb, ← htl]
  have hbn : b.toNat = (16 * (base - 1) + ((ds.length : Int) - 1)).toNat := by
    rw [hb]; unfold toB; rw [UInt8.toNat_ofNat']; omega
  have hw : wdt b = ds.length := by unfold wdt; omega
  have hbs : (bas b : Int) = base := by unfold bas; omega
  have hlen : tl.length = (ds.length + 1) / 2 := by rw [htl]; simp
  have hle : (wdt b + 1) / 2 ≤ (tl ++ more).length := by rw [hw, List.length_append, hlen]; omega
  have hget : ∀ j, j < (ds.length + 1) / 2 → ((tl ++ more).getD j 0).toNat = (pairAt ds j).toNat ∧ 0 ≤ pairAt ds j ∧ pairAt ds j < 256 := by
    intro j hj
    have hp : 0 ≤ pairAt ds j ∧ pairAt ds j < 256 := by
      unfold pairAt
      have q : ∀ k, 0 ≤ ds.getD k 0 ∧ ds.getD k 0 < 16 := by
        intro k
        by_cases hk : k < ds.length
        · have := hd _ (List.getElem_mem hk)
          rw [show ds.getD k 0 = ds[k] by simp [List.getD, List.getElem?_eq_getElem hk]]; omega
        · rw [show ds.getD k 0 = 0 by simp [List.getD, List.getElem?_eq_none (show ds.length ≤ k by omega)]]; omega
      have := q (j * 2); have := q (j * 2 + 1); omega
    refine ⟨?_, hp⟩
    have hjl : j < tl.length := by omega
    rw [show (tl ++ more).getD j 0 = tl[j] by simp [List.getD, List.getElem?_append_left hjl, List.getElem?_eq_getElem hjl]]
    simp only [htl, List.getElem_map, List.getElem_range]
    unfold toB; rw [UInt8.toNat_ofNat']; omega
  have hdig : digL (tl ++ more) (wdt b) = ds := by
    rw [hw]
    refine List.ext_getElem (by simp [digL]) fun k h1 h2 => ?_
    simp only [digL, List.getElem_map, List.getElem_range]
    obtain ⟨g1, g2, g3⟩ := hget (k / 2) (by omega)
    have hdk := hd _ (List.getElem_mem h2)
    have hk0 : ds.getD k 0 = ds[k] := by simp [List.getD, List.getElem?_eq_getElem h2]
    unfold digK
    rw [g1]
    unfold pairAt at g2 g3 ⊢
    rcases Nat.mod_two_eq_zero_or_one k with hm | hm
    · rw [if_pos hm]
      rw [show k / 2 * 2 = k by omega, hk0] at g2 g3 ⊢
      have hn : 0 ≤ ds.getD (k + 1) 0 ∧ ds.getD (k + 1) 0 < 16 := by
        by_cases hk : k + 1 < ds.length
        · have := hd _ (List.getElem_mem hk)
          rw [show ds.getD (k + 1) 0 = ds[k + 1] by simp [List.getD, List.getElem?_eq_getElem hk]]; omega
        · rw [show ds.getD (k + 1) 0 = 0 by simp [List.getD, List.getElem?_eq_none (show ds.length ≤ k + 1 by omega)]]; omega
      omega
    · rw [if_neg (by omega)]
      rw [show k / 2 * 2 + 1 = k by omega, hk0] at g2 g3 ⊢
      omega
  have hfine : fineL (tl ++ more) (wdt b) = true := by
    unfold fineL
    rw [hw]
    rcases Nat.mod_two_eq_zero_or_one ds.length with hm | hm
    · simp [hm]
    · obtain ⟨g1, g2, g3⟩ := hget ((ds.length + 1) / 2 - 1) (by omega)
      rw [g1]
      have : ds.getD (((ds.length + 1) / 2 - 1) * 2 + 1) 0 = 0 := by simp [List.getD, List.getElem?_eq_none (show ds.length ≤ ((ds.length + 1) / 2 - 1) * 2 + 1 by omega)]
      have h2 : (pairAt ds ((ds.length + 1) / 2 - 1)).toNat % 16 = 0 := by
        unfold pairAt at g2 g3 ⊢
        rw [this] at g2 g3 ⊢
        omega
      rw [h2]; simp
  rw [hreg, List.cons_append]
  refine ⟨?_, ?_, ?_, ?_⟩
  · simp only [tkOk]; exact decide_eq_true hle
  · simp only [tkReg]; rw [if_pos hle, hbs, hdig]
  · simp only [tkRest]; rw [if_pos hle, hw, ← hlen]; simp
  · simp only [tkFine]; rw [decide_eq_true hle, hfine]; rfl
end Go.Proofs.Ytkfbfainhmkkdaa

namespace Go.Proofs.Ytkfbfainhmkkdaa
open Go.RowKit Go.Sort
/-- the register of bytes -/
def unpR : List UInt8 → Option Reg
  | [] => none
  | b :: tl => if tkOk tl && (tkReg tl).ok && decide (packR (tkReg tl).base (tkReg tl).digits = b :: tl) then some (tkReg tl) else none
def unpReg (bs : List UInt8) : Reg := (unpR bs).getD ⟨0, []⟩
def unpCode (bs : List UInt8) : Int := if (unpR bs).isSome then 0 else 8
theorem unp_none {bs : List UInt8} (h : unpR bs = none) : unpReg bs = ⟨0, []⟩ ∧ unpCode bs = 8 := by simp [unpReg, unpCode, h]
theorem unp_some {bs : List UInt8} {r : Reg} (h : unpR bs = some r) : unpReg bs = r ∧ unpCode bs = 0 := by simp [unpReg, unpCode, h]
theorem tk_not {bs : List UInt8} (h : tkOk bs = false) : tkReg bs = ⟨0, []⟩ := by
  cases bs with
  | nil => rfl
  | cons b tl => simp only [tkOk, decide_eq_false_iff_not] at h; simp only [tkReg]; rw [if_neg h]
theorem tkReg_len (bs : List UInt8) : (tkReg bs).digits.length ≤ 16 := by
  cases bs with
  | nil => simp [tkReg]
  | cons b tl =>
    simp only [tkReg]
    split
    · simp only [digL_len]; unfold wdt; omega
    · simp
set_option maxRecDepth 100000 in
set_option maxHeartbeats 1600000 in
theorem UnpackRegister_any (s : ByteArray) (w : World) (hs : s.size ≤ 1048576) :
    Calls Try.prog 34 #[.string s] w fun e w' => ∃ A c, e = .returned (.tuple #[.agg #[.int .i64 (unpReg (strB s)).base, .slice A (unpReg (strB s)).digits.length c], .int .i64 (unpCode (strB s))]) ∧
      OwnI w' w.heap.size (.slice A (unpReg (strB s)).digits.length c) (unpReg (strB s)).digits ∧ Below w.heap.size w w' := by
  by_cases h0 : 0 < s.size
  · have hE := str_nonempty h0
    have hc := strB_cons h0
    obtain ⟨b, hb⟩ : ∃ b, s[0] = b := ⟨_, rfl⟩
    obtain ⟨tl, htl⟩ : ∃ tl, (strB s).drop 1 = tl := ⟨_, rfl⟩
    rw [hb, htl] at hc
    have KT := fun W => takeRegister_any (s.extract 1 s.size) W (by rw [extract_size]; omega)
    rw [strB_tail, htl] at KT
    have HC := Lib.hid hc
    obtain ⟨R, hR⟩ : ∃ R, tkReg tl = R := ⟨_, rfl⟩
    have hlen := tkReg_len tl
    rw [hR] at KT hlen
    have HR := Lib.hid hR
    have KT := Lib.hid KT
    have hi1 : (1 : Int) ≤ (s.size : Int) := by omega
    clear hc hR hb htl
    go_enter Try.func34, Try.ntmps34
    go_wp2_with fail
    refine Calls.kn ((Kn.nil w).al [.int .i64 0, .slice none 0 0] 26) ?_; intro w1 hK1
    refine (KT.out w1).mono ?_; rintro e w2 ⟨A, c, r, rfl, hr, ho, hw⟩
    have hK2 := hK1.addI hw ho
    clear hK1 hr hw
    obtain ⟨c1, f1, l1, -⟩ := hK2.cells
    have hri := ho.ri
    have HRI := Lib.hid hri
    clear ho hri
    go_wp2_with fail
    refine Calls.kn (hK2.al [.int .i64 R.base, .slice A R.digits.length c] 26) ?_; intro w3 hK3
    have hRI3 := hK3.drop.ownI.ri
    rcases hok : R.ok with _ | _
    · have HU : Hid (unpReg (strB s) = ⟨0, []⟩ ∧ unpCode (strB s) = 8) := by
        refine unp_none ?_
        rw [HC.out]; simp only [unpR]; rw [HR.out, hok]; simp
      have KP := Lib.hid (PackRegister_false R.base A R.digits.length c R.digits w3 hRI3 (by omega) hok)
      clear hRI3 hok
      refine KP.out.mono ?_; rintro e w4 ⟨rfl, hw⟩
      have hK4 := hK3.keep hw
      obtain ⟨c2, f2, l2, c1, f1, l1, -⟩ := hK4.cells
      clear hw hK3
      rcases htk : tkOk tl with _ | _
      all_goals
        go_wp2_with fail
        refine bodyPost_ret (v := .tuple #[.agg #[.int .i64 0, .slice none 0 0], .int .i64 8]) (by simp [results, Try.results34, go_sem, c1, f1]) rfl ⟨none, 0, by rw [HU.out.1, HU.out.2]; rfl, by rw [HU.out.1]; exact OwnI.nil _ _, ?_⟩
        exact ((hK4.sw2.st 0 _).st 1 _).below
    · have htk : tkOk tl = true := by
        rcases h : tkOk tl with _ | _
        · have := tk_not h; rw [HR.out] at this; rw [this] at hok; cases hok
        · rfl
      have KP := Lib.hid (PackRegister_true R.base A R.digits.length c R.digits w3 hRI3 hok)
      have HOK := Lib.hid hok
      clear hRI3 hok
      refine KP.out.mono ?_; rintro e w4 ⟨rfl, hw⟩
      have hK4 := hK3.keep hw
      obtain ⟨c2, f2, l2, c1, f1, l1, -⟩ := hK4.cells
      clear hw hK3
      rcases hq : (packR R.base R.digits == s.toList) with _ | _
      · have HU : Hid (unpReg (strB s) = ⟨0, []⟩ ∧ unpCode (strB s) = 8) := by
          refine unp_none ?_
          have h2 : ¬ packR R.base R.digits = b :: tl := fun h => by rw [strB_toList, HC.out, h] at hq; simp at hq
          rw [HC.out]; simp only [unpR]; rw [htk, HR.out, HOK.out]; simp [h2]
        go_wp2_with fail
        refine bodyPost_ret (v := .tuple #[.agg #[.int .i64 0, .slice none 0 0], .int .i64 8]) (by simp [results, Try.results34, go_sem, c1, f1]) rfl ⟨none, 0, by rw [HU.out.1, HU.out.2]; rfl, by rw [HU.out.1]; exact OwnI.nil _ _, ?_⟩
        exact ((hK4.sw2.st 0 _).st 1 _).below
      · have HU : Hid (unpReg (strB s) = R ∧ unpCode (strB s) = 0) := by
          refine unp_some ?_
          have h2 : packR R.base R.digits = b :: tl := by rw [strB_toList, HC.out] at hq; exact eq_of_beq hq
          rw [HC.out]
          simp only [unpR]; rw [htk, HR.out, HOK.out, h2]; simp
        go_wp2_with fail
        have hK5 := (hK4.sw2.st 0 (.int .i64 R.base)).st 1 (.slice A R.digits.length c)
        refine bodyPost_ret (v := .tuple #[.agg #[.int .i64 R.base, .slice A R.digits.length c], .int .i64 0]) (by simp [results, Try.results34, go_sem, c1, f1]) rfl ⟨A, c, by rw [HU.out.1, HU.out.2], by rw [HU.out.1]; exact hK5.sw2.ownI, hK5.below⟩
  · obtain rfl := size_zero (show s.size = 0 by omega)
    have HU := Lib.hid (unp_none (bs := strB ⟨#[]⟩) rfl)
    go_enter Try.func34, Try.ntmps34
    go_wp2_with fail
    have hK := (Kn.nil w).al [.int .i64 0, .slice none 0 0] 26
    have c1 : True := trivial
    have f1 : True := trivial
    refine bodyPost_ret (v := .tuple #[.agg #[.int .i64 0, .slice none 0 0], .int .i64 8]) (by simp [results, Try.results34, go_sem, c1, f1]) rfl ⟨none, 0, by rw [HU.out.1, HU.out.2]; rfl, by rw [HU.out.1]; exact OwnI.nil _ _, ?_⟩
    exact hK.below
end Go.Proofs.Ytkfbfainhmkkdaa

namespace Go.Proofs.Ytkfbfainhmkkdaa
open Go.RowKit Go.Sort
/-- bytes of a kind with their checksum behind them; what lies between -/
def bodyOk (k : UInt8) (bs : List UInt8) : Bool := decide (3 ≤ bs.length) && (bs.getD 0 0 == k) && decide (sumB (bs.take (bs.length - 2)) = 256 * ((bs.getD (bs.length - 2) 0).toNat : Int) + ((bs.getD (bs.length - 1) 0).toNat : Int))
def bodyB (k : UInt8) (bs : List UInt8) : List UInt8 := if bodyOk k bs then (bs.drop 1).take (bs.length - 3) else []
set_option maxRecDepth 100000 in
set_option maxHeartbeats 1600000 in
theorem l27Body_any (s : ByteArray) (kd : UInt8) (w : World) (hs : s.size ≤ 1048576) :
    Calls Try.prog 102 #[.string s, .int .u8 (kd.toNat : Int)] w fun e w' => ∃ r, e = .returned (.tuple #[.string r, .bool (bodyOk kd (strB s))]) ∧ strB r = bodyB kd (strB s) ∧ Below w.heap.size w w' := by
  have HL := Lib.hid (strB_len s)
  by_cases h3 : 3 ≤ s.size
  · obtain ⟨q0, hq0⟩ : ∃ q : UInt8, s[0] = q := ⟨_, rfl⟩
    have g0 : (strB s).getD 0 0 = q0 := by rw [strB_getD s (by omega), hq0]
    have h30 : decide ((s.size : Int) < 3) = false := decide_eq_false (by omega)
    have i0 : (0 : Int) < (s.size : Int) := by omega
    rcases hk : (q0 == kd) with _ | _
    · have hkv : ((q0.toNat : Int) == (kd.toNat : Int)) = false := by
        rw [beq_eq_false_iff_ne] at hk ⊢
        intro h; exact hk (UInt8.toNat_inj.1 (by omega))
      have hkn : ¬ (q0.toNat : Int) = (kd.toNat : Int) := by rw [beq_eq_false_iff_ne] at hkv; exact hkv
      have hkm : ((q0.toNat : Int) != (kd.toNat : Int)) = true := by simp [bne, hkv]
      have HF : Hid (bodyOk kd (strB s) = false) := by simp only [Hid, bodyOk]; rw [g0, hk]; simp
      clear hk
      go_enter Try.func102, Try.ntmps102
      go_wp2_with fail
      go_quiet (fail)
      go_wp2_with fail
      refine bodyPost_ret (v := .tuple #[.string ⟨#[]⟩, .bool false]) (by simp [results, Try.results102, go_sem]) rfl ⟨⟨#[]⟩, by rw [HF.out], by rw [bodyB, HF.out]; rfl, below_drewN (Below.refl _ _) _⟩
    · obtain rfl : q0 = kd := eq_of_beq hk
      obtain ⟨a, ha⟩ : ∃ q : UInt8, s[s.size - 2] = q := ⟨_, rfl⟩
      obtain ⟨b, hb⟩ : ∃ q : UInt8, s[s.size - 1] = q := ⟨_, rfl⟩
      have ga : (strB s).getD (s.size - 2) 0 = a := by rw [strB_getD s (by omega), ha]
      have gb : (strB s).getD (s.size - 1) 0 = b := by rw [strB_getD s (by omega), hb]
      have a2 := a.toNat_lt
      have b2 := b.toNat_lt
      have x1 : IntKind.i64.wrap ((s.size : Int) - 2) = (s.size : Int) - 2 := wrapI (by omega)
      have x2 : IntKind.i64.wrap ((s.size : Int) - 1) = (s.size : Int) - 1 := wrapI (by omega)
      have n1 : ((s.size : Int) - 2).toNat = s.size - 2 := by omega
      have n2 : ((s.size : Int) - 1).toNat = s.size - 1 := by omega
      have i1 : (0 : Int) ≤ (s.size : Int) - 2 := by omega
      have i2 : (s.size : Int) - 2 < (s.size : Int) := by omega
      have i3 : (0 : Int) ≤ (s.size : Int) - 1 := by omega
      have i4 : (s.size : Int) - 1 < (s.size : Int) := by omega
      have i5 : (s.size : Int) - 2 ≤ (s.size : Int) := by omega
      have i6 : (1 : Int) ≤ (s.size : Int) - 2 := by omega
      obtain ⟨sm, hsm⟩ : ∃ sm, sumB ((strB s).take (s.size - 2)) = sm := ⟨_, rfl⟩
      have HE : Hid (bodyOk q0 (strB s) = decide (sm = 256 * (a.toNat : Int) + (b.toNat : Int))) := by
        simp only [Hid, bodyOk]; rw [HL.out, g0, ga, gb, hsm]; simp; omega
      have KS := fun W => l27Sum_any (s.extract 0 (s.size - 2)) W (by simp [ByteArray.size_extract]; omega)
      rw [strB_extract, List.drop_zero, Nat.sub_zero, hsm] at KS
      have KS := Lib.hid KS
      clear hk g0 ga gb hsm
      rcases hq : (sm == 256 * (a.toNat : Int) + (b.toNat : Int)) with _ | _
      · have hqn : (sm != 256 * (a.toNat : Int) + (b.toNat : Int)) = true := by simp [bne, hq]
        have HF : Hid (bodyOk q0 (strB s) = false) := by simp only [Hid]; rw [HE.out]; simpa using hq
        go_enter Try.func102, Try.ntmps102
        go_wp2_with fail
        go_quiet ((go_at_call 109; exact quiet_left (KS.out _)))
        go_wp2_with fail
        refine bodyPost_ret (v := .tuple #[.string ⟨#[]⟩, .bool false]) (by simp [results, Try.results102, go_sem]) rfl ⟨⟨#[]⟩, by rw [HF.out], by rw [bodyB, HF.out]; rfl, below_drewN (Below.refl _ _) _⟩
      · have hqn : (sm != 256 * (a.toNat : Int) + (b.toNat : Int)) = false := by simp [bne, hq]
        have HF : Hid (bodyOk q0 (strB s) = true) := by simp only [Hid]; rw [HE.out]; simpa using hq
        go_enter Try.func102, Try.ntmps102
        go_wp2_with fail
        go_quiet ((go_at_call 109; exact quiet_left (KS.out _)))
        go_wp2_with fail
        refine bodyPost_ret (v := .tuple #[.string (s.extract 1 (s.size - 2)), .bool true]) (by simp [results, Try.results102, go_sem]) rfl ⟨_, by rw [HF.out], ?_, below_drewN (Below.refl _ _) _⟩
        rw [strB_extract, bodyB, HF.out, HL.out]; simp only [if_true]; congr 1
  · have h30 : (s.size : Int) < 3 := by omega
    have HF : Hid (bodyOk kd (strB s) = false) := by simp only [Hid, bodyOk]; rw [HL.out, decide_eq_false h3]; rfl
    go_enter Try.func102, Try.ntmps102
    go_wp2_with fail
    go_quiet (fail)
    go_wp2_with fail
    refine bodyPost_ret (v := .tuple #[.string ⟨#[]⟩, .bool false]) (by simp [results, Try.results102, go_sem]) rfl ⟨⟨#[]⟩, by rw [HF.out], by rw [bodyB, HF.out]; rfl, below_drewN (Below.refl _ _) _⟩
/-- what a body is -/
theorem body_iff (k : UInt8) (bs : List UInt8) : bodyOk k bs = true ↔ bs = sealB (k :: bodyB k bs) := by
  constructor
  · intro h
    have hB : bodyB k bs = (bs.drop 1).take (bs.length - 3) := by rw [bodyB, h]; rfl
    unfold bodyOk at h
    simp only [Bool.and_eq_true, decide_eq_true_eq, beq_iff_eq] at h
    obtain ⟨⟨h3, h0⟩, hs⟩ := h
    obtain ⟨x, y, rfl⟩ : ∃ (l : List UInt8) (y : UInt8), bs = k :: l ++ [y] := by
      cases bs with
      | nil => simp at h3
      | cons b t =>
        have hbk : b = k := by simpa [List.getD] using h0
        subst hbk
        rcases List.eq_nil_or_concat t with rfl | ⟨l, y, rfl⟩
        · simp at h3
        · exact ⟨l, y, by simp⟩
    obtain ⟨l, z, rfl⟩ : ∃ (l : List UInt8) (z : UInt8), x = l ++ [z] := by
      rcases List.eq_nil_or_concat x with rfl | ⟨l, z, rfl⟩
      · simp at h3
      · exact ⟨l, z, by simp⟩
    have e1 : ((k :: (l ++ [z]) ++ [y]).take ((k :: (l ++ [z]) ++ [y]).length - 2)) = k :: l := by
      rw [show (k :: (l ++ [z]) ++ [y]).length - 2 = (k :: l).length by simp, show k :: (l ++ [z]) ++ [y] = (k :: l) ++ [z, y] by simp, List.take_left]
    have e2 : (k :: (l ++ [z]) ++ [y]).getD ((k :: (l ++ [z]) ++ [y]).length - 2) 0 = z := by
      rw [show (k :: (l ++ [z]) ++ [y]).length - 2 = (k :: l).length by simp, show k :: (l ++ [z]) ++ [y] = (k :: l) ++ [z, y] by simp]
      simp [List.getD, List.getElem?_append_right]
    have e3 : (k :: (l ++ [z]) ++ [y]).getD ((k :: (l ++ [z]) ++ [y]).length - 1) 0 = y := by
      rw [show (k :: (l ++ [z]) ++ [y]).length - 1 = (k :: (l ++ [z])).length by simp]
      simp [List.getD, List.getElem?_append_right]
    rw [e1, e2, e3] at hs
    have hb : bodyB k (k :: (l ++ [z]) ++ [y]) = l := by
      rw [hB]
      rw [show (k :: (l ++ [z]) ++ [y]).length - 3 = l.length by simp, show (k :: (l ++ [z]) ++ [y]).drop 1 = l ++ [z, y] by simp, List.take_left]
    rw [hb]
    unfold sealB
    have z2 := z.toNat_lt
    have y2 := y.toNat_lt
    rw [hs, show ((256 * (z.toNat : Int) + (y.toNat : Int)) / 256).toNat = z.toNat by omega, show ((256 * (z.toNat : Int) + (y.toNat : Int)) % 256).toNat = y.toNat by omega]
    simp
  · intro h
    obtain ⟨l, hl⟩ : ∃ l, bodyB k bs = l := ⟨_, rfl⟩
    rw [hl] at h
    rw [h]
    obtain ⟨s0, s1⟩ := sumB_bd (k :: l)
    unfold bodyOk sealB
    have e1 : ((k :: l) ++ [UInt8.ofNat (sumB (k :: l) / 256).toNat, UInt8.ofNat (sumB (k :: l) % 256).toNat]).length - 2 = (k :: l).length := by simp
    have e2 : ((k :: l) ++ [UInt8.ofNat (sumB (k :: l) / 256).toNat, UInt8.ofNat (sumB (k :: l) % 256).toNat]).length - 1 = (k :: l).length + 1 := by simp
    rw [e1, e2, List.take_left]
    have e3 : ∀ (p q : UInt8), (((k :: l) ++ [p, q]).getD (k :: l).length 0) = p ∧ (((k :: l) ++ [p, q]).getD ((k :: l).length + 1) 0) = q := by
      intro p q
      constructor <;> simp [List.getD, List.getElem?_append_right]
    rw [(e3 _ _).1, (e3 _ _).2, UInt8.toNat_ofNat', UInt8.toNat_ofNat']
    simp only [Bool.and_eq_true, decide_eq_true_eq, beq_iff_eq]
    refine ⟨⟨by simp, by simp [List.getD]⟩, by omega⟩
theorem body_of (k : UInt8) (l : List UInt8) : bodyOk k (sealB (k :: l)) = true ∧ bodyB k (sealB (k :: l)) = l := by
  have hb : (((sealB (k :: l)).drop 1).take ((sealB (k :: l)).length - 3)) = l := by
    unfold sealB
    rw [show ((k :: l) ++ [UInt8.ofNat (sumB (k :: l) / 256).toNat, UInt8.ofNat (sumB (k :: l) % 256).toNat]).length - 3 = l.length by simp]
    rw [List.cons_append, List.drop_succ_cons, List.drop_zero, List.take_left]
  have h1 : bodyOk k (sealB (k :: l)) = true := by
    obtain ⟨s0, s1⟩ := sumB_bd (k :: l)
    unfold bodyOk sealB
    have e1 : ((k :: l) ++ [UInt8.ofNat (sumB (k :: l) / 256).toNat, UInt8.ofNat (sumB (k :: l) % 256).toNat]).length - 2 = (k :: l).length := by simp
    have e2 : ((k :: l) ++ [UInt8.ofNat (sumB (k :: l) / 256).toNat, UInt8.ofNat (sumB (k :: l) % 256).toNat]).length - 1 = (k :: l).length + 1 := by simp
    rw [e1, e2, List.take_left]
    have e3 : ∀ (p q : UInt8), (((k :: l) ++ [p, q]).getD (k :: l).length 0) = p ∧ (((k :: l) ++ [p, q]).getD ((k :: l).length + 1) 0) = q := by
      intro p q
      constructor <;> simp [List.getD, List.getElem?_append_right]
    rw [(e3 _ _).1, (e3 _ _).2, UInt8.toNat_ofNat', UInt8.toNat_ofNat']
    simp only [Bool.and_eq_true, decide_eq_true_eq, beq_iff_eq]
    refine ⟨⟨by simp, by simp [List.getD]⟩, by omega⟩
  exact ⟨h1, by unfold bodyB; rw [h1]; exact hb⟩
end Go.Proofs.Ytkfbfainhmkkdaa

namespace Go.Proofs.Ytkfbfainhmkkdaa
open Go.RowKit Go.Sort
theorem sealB_inj {a b : List UInt8} (h : sealB a = sealB b) : a = b := by
  have hl : a.length = b.length := by have := congrArg List.length h; simpa [sealB] using this
  exact List.append_inj_left h hl
theorem tk_more (bs more : List UInt8) (h : tkOk bs = true) : tkOk (bs ++ more) = true ∧ tkReg (bs ++ more) = tkReg bs ∧ tkRest (bs ++ more) = tkRest bs ++ more := by
  cases bs with
  | nil => cases h
  | cons b tl =>
    have hle : (wdt b + 1) / 2 ≤ tl.length := of_decide_eq_true h
    have hle2 : (wdt b + 1) / 2 ≤ (tl ++ more).length := by rw [List.length_append]; omega
    refine ⟨decide_eq_true hle2, ?_, ?_⟩
    · rw [List.cons_append]; simp only [tkReg]
      rw [if_pos hle, if_pos hle2]
      congr 1
      unfold digL
      refine List.map_congr_left fun k hk => ?_
      have hk : k < wdt b := List.mem_range.1 hk
      have : (tl ++ more).getD (k / 2) 0 = tl.getD (k / 2) 0 := by simp [List.getD, List.getElem?_append_left (show k / 2 < tl.length by omega)]
      unfold digK
      rw [this]
    · rw [List.cons_append]; simp only [tkRest]
      rw [if_pos hle, if_pos hle2, List.drop_append_of_le_length hle]
theorem tkFine_ok {bs : List UInt8} (h : tkFine bs = true) : tkOk bs = true := by
  cases bs with
  | nil => cases h
  | cons b tl => simp only [tkFine, Bool.and_eq_true] at h; exact h.1
/-- the bytes of what is read -/
theorem tk_bytes {bs : List UInt8} (h : tkFine bs = true) : bs = regB (tkReg bs).base (tkReg bs).digits ++ tkRest bs := by
  cases bs with
  | nil => cases h
  | cons b tl =>
    simp only [tkFine, Bool.and_eq_true, decide_eq_true_eq] at h
    obtain ⟨hle, hf⟩ := h
    simp only [tkReg, tkRest]
    rw [if_pos hle, if_pos hle]
    have h2 : fineL (tl.take ((wdt b + 1) / 2)) (wdt b) = true := by
      rw [← hf]; unfold fineL
      congr 3
      have hw : 1 ≤ wdt b := by unfold wdt; omega
      simp [List.getD, List.getElem?_take, show (wdt b + 1) / 2 - 1 < (wdt b + 1) / 2 by omega]
    have h3 := regB_digL b (tl.take ((wdt b + 1) / 2)) (by rw [List.length_take]; omega) h2
    have h4 : digL (tl.take ((wdt b + 1) / 2)) (wdt b) = digL tl (wdt b) := by
      unfold digL
      refine List.map_congr_left fun k hk => ?_
      have hk : k < wdt b := List.mem_range.1 hk
      have : (tl.take ((wdt b + 1) / 2)).getD (k / 2) 0 = tl.getD (k / 2) 0 := by simp [List.getD, List.getElem?_take, show k / 2 < (wdt b + 1) / 2 by omega]
      unfold digK
      rw [this]
    rw [h4] at h3
    rw [h3, List.cons_append, List.take_append_drop]
theorem unpR_spec (bs : List UInt8) : unpR bs = if bodyOk 82 bs && tkFine (bodyB 82 bs) && (tkRest (bodyB 82 bs)).isEmpty && (tkReg (bodyB 82 bs)).ok then some (tkReg (bodyB 82 bs)) else none := by
  by_cases h : (bodyOk 82 bs && tkFine (bodyB 82 bs) && (tkRest (bodyB 82 bs)).isEmpty && (tkReg (bodyB 82 bs)).ok) = true
  · rw [if_pos h]
    simp only [Bool.and_eq_true] at h
    obtain ⟨⟨⟨h1, h2⟩, h3⟩, h4⟩ := h
    obtain ⟨body, hbd⟩ : ∃ b, bodyB 82 bs = b := ⟨_, rfl⟩
    have hb := (body_iff 82 bs).1 h1
    rw [hbd] at hb h2 h3 h4 ⊢
    have h5 := tk_bytes h2
    rw [List.isEmpty_iff.1 h3, List.append_nil] at h5
    have hs : bs = 82 :: (body ++ [UInt8.ofNat (sumB (82 :: body) / 256).toNat, UInt8.ofNat (sumB (82 :: body) % 256).toNat]) := by rw [hb]; rfl
    obtain ⟨m1, m2, -⟩ := tk_more body [UInt8.ofNat (sumB (82 :: body) / 256).toNat, UInt8.ofNat (sumB (82 :: body) % 256).toNat] (tkFine_ok h2)
    have hp : packR (tkReg body).base (tkReg body).digits = bs := by unfold packR; rw [← h5]; exact hb.symm
    rw [hs]
    simp only [unpR]
    rw [m1, m2, h4, ← hs, hp]; simp
  · rw [if_neg h]
    cases bs with
    | nil => rfl
    | cons b tl =>
      simp only [unpR]
      rw [if_neg]
      intro h2
      simp only [Bool.and_eq_true, decide_eq_true_eq] at h2
      obtain ⟨⟨h1, h3⟩, h4⟩ := h2
      apply h
      obtain ⟨R, hR⟩ : ∃ R, tkReg tl = R := ⟨_, rfl⟩
      rw [hR] at h3 h4
      rw [← h4]
      obtain ⟨k1, k2⟩ := body_of 82 (regB R.base R.digits)
      obtain ⟨j1, j2, j3, j4⟩ := tk_regB R.base R.digits [] h3
      rw [List.append_nil] at j1 j2 j3 j4
      unfold packR
      rw [k1, k2, j2, j3, j4]
      simp [show (⟨R.base, R.digits⟩ : Reg).ok = true from h3]
set_option maxRecDepth 100000 in
set_option maxHeartbeats 1600000 in
theorem specUnpackRegister_any (s : ByteArray) (w : World) (hs : s.size ≤ 1048576) :
    Calls Try.prog 41 #[.string s] w fun e w' => ∃ A c, e = .returned (.tuple #[.agg #[.int .i64 (unpReg (strB s)).base, .slice A (unpReg (strB s)).digits.length c], .int .i64 (unpCode (strB s))]) ∧
      OwnI w' w.heap.size (.slice A (unpReg (strB s)).digits.length c) (unpReg (strB s)).digits ∧ Below w.heap.size w w' := by
  have HU := Lib.hid (unpR_spec (strB s))
  have KB := Lib.hid (fun W => l27Body_any s 82 W hs)
  obtain ⟨body, hbd⟩ : ∃ b, bodyB 82 (strB s) = b := ⟨_, rfl⟩
  obtain ⟨ok, hok⟩ : ∃ b, bodyOk 82 (strB s) = b := ⟨_, rfl⟩
  rw [hbd, hok] at HU KB
  have hbl : body.length ≤ 1048576 := by
    rw [← hbd]; unfold bodyB; have := strB_len s
    split
    · rw [List.length_take, List.length_drop]; omega
    · simp
  obtain ⟨R, hR⟩ : ∃ R, tkReg body = R := ⟨_, rfl⟩
  have hlen := tkReg_len body
  obtain ⟨fine, hfine⟩ : ∃ b, tkFine body = b := ⟨_, rfl⟩
  obtain ⟨rest, hrest⟩ : ∃ b, tkRest body = b := ⟨_, rfl⟩
  rw [hR, hfine, hrest] at HU
  rw [hR] at hlen
  have HX := Lib.hid (And.intro hR (And.intro hfine hrest))
  clear hbd hok hR hfine hrest
  go_enter Try.func41, Try.ntmps41
  go_wp2_with fail
  refine Calls.kn ((Kn.nil w).al [.int .i64 0, .slice none 0 0] 26) ?_; intro w1 hK1
  refine (KB.out w1).mono ?_; rintro e w2 ⟨r, rfl, hr, hw⟩
  have hK2 := hK1.keep hw
  have hrs : r.size ≤ 140737488355328 := by rw [← strB_len, hr]; omega
  have KT := fun W => l27Register_any r W hrs
  rw [hr, HX.out.1, HX.out.2.1, HX.out.2.2] at KT
  have KT := Lib.hid KT
  clear hK1 hw
  go_wp2_with fail
  have KT := Lib.hid (fun (Q : Ending → World → Prop) (h : ∀ A c r w3, strB r = rest → OwnI w3 w2.heap.size (.slice A R.digits.length c) R.digits → Below w2.heap.size w2 w3 → Q (.returned (.tuple #[.agg #[.int .i64 R.base, .slice A R.digits.length c], .string r, .bool fine])) w3) => (KT.out w2).mono (R' := Q) (by rintro e w3 ⟨A, c, r, rfl, h1, h2, h3⟩; exact h A c r w3 h1 h2 h3))
  cases ok with
  | false =>
    have HU := Lib.hid (unp_none (bs := strB s) (by rw [HU.out]; rfl))
    refine KT.out _ ?_
    intro A c r2 w3 hr2 ho hw
    have hK3 := hK2.addI hw ho
    have hem2 : r2.toList.isEmpty = rest.isEmpty := by rw [strB_toList, hr2]
    try (rw [hem] at hem2)
    clear hw hr hrs ho hr2 hK2
    go_wp2_with (first | (refine wpList.kn (hK3.al [.int .i64 0, .slice none 0 0] 26) ?_; intro w4 hK4; obtain ⟨c2, f2, l2, -⟩ := hK4.cells) | (refine wpList.kn ((hK4.st 0 _).st 1 _) ?_; intro w5 hK5; clear hK4 c2 f2 l2; obtain ⟨c2, f2, l2, c1, f1, l1, -⟩ := hK5.cells))
    refine bodyPost_ret (v := .tuple #[.agg #[.int .i64 0, .slice none 0 0], .int .i64 8]) (by simp [results, Try.results41, go_sem, c1, f1]) rfl ⟨none, 0, by rw [HU.out.1, HU.out.2]; rfl, by rw [HU.out.1]; exact OwnI.nil _ _, ?_⟩
    exact ((hK5.sw2.st 0 _).st 1 _).below
  | true =>
    cases fine with
    | false =>
      have HU := Lib.hid (unp_none (bs := strB s) (by rw [HU.out]; rfl))
      refine KT.out _ ?_
      intro A c r2 w3 hr2 ho hw
      have hK3 := hK2.addI hw ho
      have hem2 : r2.toList.isEmpty = rest.isEmpty := by rw [strB_toList, hr2]
      try (rw [hem] at hem2)
      clear hw hr hrs ho hr2 hK2
      go_wp2_with (first | (refine wpList.kn (hK3.al [.int .i64 0, .slice none 0 0] 26) ?_; intro w4 hK4; obtain ⟨c2, f2, l2, -⟩ := hK4.cells) | (refine wpList.kn ((hK4.st 0 _).st 1 _) ?_; intro w5 hK5; clear hK4 c2 f2 l2; obtain ⟨c2, f2, l2, c1, f1, l1, -⟩ := hK5.cells))
      refine bodyPost_ret (v := .tuple #[.agg #[.int .i64 0, .slice none 0 0], .int .i64 8]) (by simp [results, Try.results41, go_sem, c1, f1]) rfl ⟨none, 0, by rw [HU.out.1, HU.out.2]; rfl, by rw [HU.out.1]; exact OwnI.nil _ _, ?_⟩
      exact ((hK5.sw2.st 0 _).st 1 _).below
    | true =>
      rcases he : rest.isEmpty with _ | _
      · have HU := Lib.hid (unp_none (bs := strB s) (by rw [HU.out, he]; rfl))
        have hem := he
        clear he
        refine KT.out _ ?_
        intro A c r2 w3 hr2 ho hw
        have hK3 := hK2.addI hw ho
        have hem2 : r2.toList.isEmpty = rest.isEmpty := by rw [strB_toList, hr2]
        try (rw [hem] at hem2)
        clear hw hr hrs ho hr2 hK2
        go_wp2_with (first | (refine wpList.kn (hK3.al [.int .i64 0, .slice none 0 0] 26) ?_; intro w4 hK4; obtain ⟨c2, f2, l2, -⟩ := hK4.cells) | (refine wpList.kn ((hK4.st 0 _).st 1 _) ?_; intro w5 hK5; clear hK4 c2 f2 l2; obtain ⟨c2, f2, l2, c1, f1, l1, -⟩ := hK5.cells))
        refine bodyPost_ret (v := .tuple #[.agg #[.int .i64 0, .slice none 0 0], .int .i64 8]) (by simp [results, Try.results41, go_sem, c1, f1]) rfl ⟨none, 0, by rw [HU.out.1, HU.out.2]; rfl, by rw [HU.out.1]; exact OwnI.nil _ _, ?_⟩
        exact ((hK5.sw2.st 0 _).st 1 _).below
      · have hem := he
        rcases hk : R.ok with _ | _
        · have HU := Lib.hid (unp_none (bs := strB s) (by rw [HU.out, he, hk]; rfl))
          have HK := Lib.hid hk
          clear he hk
          refine KT.out _ ?_
          intro A c r2 w3 hr2 ho hw
          have hK3 := hK2.addI hw ho
          have hem2 : r2.toList.isEmpty = rest.isEmpty := by rw [strB_toList, hr2]
          try (rw [hem] at hem2)
          clear hw hr hrs ho hr2 hK2
          go_wp2_with (first | (refine wpList.kn (hK3.al [.int .i64 0, .slice none 0 0] 26) ?_; intro w4 hK4; obtain ⟨c2, f2, l2, -⟩ := hK4.cells) | (refine wpList.kn ((hK4.st 0 _).st 1 _) ?_; intro w5 hK5; clear hK4 c2 f2 l2; obtain ⟨c2, f2, l2, c1, f1, l1, -⟩ := hK5.cells))
          refine (l02Ok_reg ⟨w3.heap.size, 0, none⟩ R w5 ⟨A, c, ⟨by rw [c2]; rfl, by rw [c2]; rfl⟩, hK5.drop.ownI.ri⟩ (by unfold SmallReg; omega) _ HK.out).mono ?_; rintro e w6 ⟨rfl, m, rfl⟩
          replace hK5 := hK5.drewN m
          go_wp2_with fail
          refine bodyPost_ret (v := .tuple #[.agg #[.int .i64 0, .slice none 0 0], .int .i64 8]) (by simp [results, Try.results41, go_sem, c1, f1]) rfl ⟨none, 0, by rw [HU.out.1, HU.out.2]; rfl, by rw [HU.out.1]; exact OwnI.nil _ _, ?_⟩
          exact ((hK5.sw2.st 0 _).st 1 _).below
        · have HU := Lib.hid (unp_some (bs := strB s) (r := R) (by rw [HU.out, he, hk]; rfl))
          have HK := Lib.hid hk
          clear he hk
          refine KT.out _ ?_
          intro A c r2 w3 hr2 ho hw
          have hK3 := hK2.addI hw ho
          have hem2 : r2.toList.isEmpty = rest.isEmpty := by rw [strB_toList, hr2]
          try (rw [hem] at hem2)
          clear hw hr hrs ho hr2 hK2
          go_wp2_with (first | (refine wpList.kn (hK3.al [.int .i64 0, .slice none 0 0] 26) ?_; intro w4 hK4; obtain ⟨c2, f2, l2, -⟩ := hK4.cells) | (refine wpList.kn ((hK4.st 0 _).st 1 _) ?_; intro w5 hK5; clear hK4 c2 f2 l2; obtain ⟨c2, f2, l2, c1, f1, l1, -⟩ := hK5.cells))
          refine (l02Ok_reg ⟨w3.heap.size, 0, none⟩ R w5 ⟨A, c, ⟨by rw [c2]; rfl, by rw [c2]; rfl⟩, hK5.drop.ownI.ri⟩ (by unfold SmallReg; omega) _ HK.out).mono ?_; rintro e w6 ⟨rfl, m, rfl⟩
          replace hK5 := hK5.drewN m
          go_wp2_with fail
          have hK6 := (hK5.sw2.st 0 (.int .i64 R.base)).st 1 (.slice A R.digits.length c)
          refine bodyPost_ret (v := .tuple #[.agg #[.int .i64 R.base, .slice A R.digits.length c], .int .i64 0]) (by simp [results, Try.results41, go_sem, c1, f1]) rfl ⟨A, c, by rw [HU.out.1, HU.out.2], by rw [HU.out.1]; exact hK6.sw2.ownI, hK6.below⟩
end Go.Proofs.Ytkfbfainhmkkdaa

namespace Go.Proofs.Ytkfbfainhmkkdaa
open Go.RowKit Go.Sort
/-- a machine as sealed bytes -/
def packM (t : Tri) : List UInt8 := sealB (77 :: toB t.carry :: (regB t.a.base t.a.digits ++ regB t.b.base t.b.digits ++ regB t.s.base t.s.digits))
theorem vmach_five {t : Tri} (h : vmach t = true) : t.a.ok = true ∧ t.b.ok = true ∧ t.s.ok = true ∧ 0 ≤ t.carry ∧ t.carry ≤ 15 := by
  unfold vmach at h
  simp only [Bool.and_eq_true] at h
  obtain ⟨⟨⟨⟨h1, h2⟩, h3⟩, -⟩, -, h4⟩ := h
  have h5 := betB_iff.1 h4
  obtain ⟨-, -, p3⟩ := ok_bd h3
  unfold vplaces at h5
  exact ⟨h1, h2, h3, h5.1, by omega⟩
theorem KB_reg {r : Reg} (h : r.ok = true) {A : Option Addr} {c : Nat} {w : World} (hr : RI w A r.digits.length r.digits) :
    Calls Try.prog 91 #[.agg #[.int .i64 r.base, .slice A r.digits.length c]] w fun e w' => ∃ A' c', e = .returned (.slice A' (regB r.base r.digits).length c') ∧ OwnB w' w.heap.size (.slice A' (regB r.base r.digits).length c') (regB r.base r.digits) ∧ Below w.heap.size w w' := by
  obtain ⟨⟨b1, b2⟩, ⟨n1, n2⟩, hd, -⟩ := vreg_iff.1 h
  exact bytes_any r.base A r.digits.length c r.digits w hr b1 b2 (by omega) (by omega) hd
theorem regB_le {r : Reg} (h : r.ok = true) : 0 < (regB r.base r.digits).length ∧ (regB r.base r.digits).length ≤ 20 := by
  obtain ⟨-, ⟨n1, n2⟩, -, -⟩ := vreg_iff.1 h
  rw [regB_len]; omega
set_option maxRecDepth 100000 in
set_option maxHeartbeats 3200000 in
theorem PackMachine_true (t : Tri) (A1 A2 A3 : Option Addr) (c1 c2 c3 : Nat) (w : World) (r1 : RI w A1 t.a.digits.length t.a.digits) (r2 : RI w A2 t.b.digits.length t.b.digits) (r3 : RI w A3 t.s.digits.length t.s.digits) (hv : vmach t = true) :
    Calls Try.prog 29 #[.agg #[.int .i64 t.a.base, .slice A1 t.a.digits.length c1, .int .i64 t.b.base, .slice A2 t.b.digits.length c2, .int .i64 t.s.base, .slice A3 t.s.digits.length c3, .int .i64 t.carry]] w fun e w' => e = .returned (.tuple #[.string ⟨(packM t).toArray⟩, .int .i64 0]) ∧ Below w.heap.size w w' := by
  obtain ⟨k1, k2, k3, p1, p2⟩ := vmach_five hv
  obtain ⟨-, -, q1⟩ := ok_bd k1
  obtain ⟨-, -, q2⟩ := ok_bd k2
  obtain ⟨-, -, q3⟩ := ok_bd k3
  have K0 := Lib.hid (fun W (hW : Below w.heap.size w W) => calls_val (ValidMachine_any t A1 A2 A3 c1 c2 c3 W (r1.below hW) (r2.below hW) (r3.below hW) ⟨by unfold SmallReg; omega, by unfold SmallReg; omega, by unfold SmallReg; omega⟩) (congrArg Value.bool hv))
  have K1 := (fun W (hW : Below w.heap.size w W) => KB_reg k1 (c := c1) (r1.below hW))
  have K2 := (fun W (hW : Below w.heap.size w W) => KB_reg k2 (c := c2) (r2.below hW))
  have K3 := (fun W (hW : Below w.heap.size w W) => KB_reg k3 (c := c3) (r3.below hW))
  have HPK : packM t = sealB (77 :: toB t.carry :: (regB t.a.base t.a.digits ++ regB t.b.base t.b.digits ++ regB t.s.base t.s.digits)) := rfl
  have y1 : IntKind.u8.wrap t.carry = t.carry := wrapB (by omega)
  obtain ⟨z1, z2⟩ := regB_le k1
  obtain ⟨z3, z4⟩ := regB_le k2
  obtain ⟨z5, z6⟩ := regB_le k3
  have HT := Lib.hid (show byteV (toB t.carry) = .int .u8 t.carry from (ofNat_byte (by omega) (by omega)).symm)
  obtain ⟨X1, hX1⟩ : ∃ X, regB t.a.base t.a.digits = X := ⟨_, rfl⟩
  obtain ⟨X2, hX2⟩ : ∃ X, regB t.b.base t.b.digits = X := ⟨_, rfl⟩
  obtain ⟨X3, hX3⟩ : ∃ X, regB t.s.base t.s.digits = X := ⟨_, rfl⟩
  rw [hX1] at K1 z1 z2 HPK
  rw [hX2] at K2 z3 z4 HPK
  rw [hX3] at K3 z5 z6 HPK
  have HPK := Lib.hid HPK
  have K1 := Lib.hid K1
  have K2 := Lib.hid K2
  have K3 := Lib.hid K3
  clear hv r1 r2 r3 k1 k2 k3 hX1 hX2 hX3
  go_enter Try.func29, Try.ntmps29
  go_wp2_with fail
  refine Calls.kn ((Kn.nil w).al [.int .i64 t.a.base, .slice A1 t.a.digits.length c1, .int .i64 t.b.base, .slice A2 t.b.digits.length c2, .int .i64 t.s.base, .slice A3 t.s.digits.length c3, .int .i64 t.carry] 28) ?_; intro w1 hK1
  refine (K0.out w1 hK1.below).mono ?_; rintro e w2 ⟨rfl, hw⟩
  have hK2 := hK1.keep hw
  obtain ⟨g1, f1, l1, -⟩ := hK2.cells
  clear hw hK1
  go_upto_region 3 with fail
  go_cut [4] (fun v wx => Kn w [.row v 5 1 (2 + (X1).length) ([.int .u8 77, .int .u8 t.carry] ++ (X1).map byteV), .blk w.heap.size [.int .i64 t.a.base, .slice A1 t.a.digits.length c1, .int .i64 t.b.base, .slice A2 t.b.digits.length c2, .int .i64 t.s.base, .slice A3 t.s.digits.length c3, .int .i64 t.carry] 28] wx)
  case first =>
    have hA := (hK2.al [.int .u8 77, .int .u8 t.carry] 5).drew
    go_region_law (first
      | (go_simp; go_at_call 91; first | (refine (K1.out _ hA.below).mono ?_; rintro e w3 ⟨A', c', rfl, o, hw⟩; obtain ⟨-, -, -, g3, f3, l3, -⟩ := (hA.addB hw o).cells; have hK3 := hA.addB hw o) | (refine (K1.out _ hK2.drew.below).mono ?_; rintro e w3 ⟨A', c', rfl, o, hw⟩; obtain ⟨g3, f3, l3, -⟩ := (hK2.drew.addB hw o).cells; have hK3 := ((hK2.drew.addB hw o).al [.int .u8 77, .int .u8 t.carry] 5).sw1))
      | (refine kn_step_row tpB rfl _ _ rfl _ 2 [.int .u8 77, .int .u8 t.carry] rfl rfl z1 (hK3.sw1.litRow (n := 2) (size := 1) rfl (by decide)).sw1 (bytes_one _) (by omega) (by omega) ?_; intro v4 w4 hK4))
    all_goals
      go_wp2_with fail
      go_meet
      exact hK4.drop1
  case rest =>
    rename_i v4
    have HE := Lib.hid (show ([.int .u8 77, .int .u8 t.carry] ++ (X1).map byteV ++ (X2).map byteV ++ (X3).map byteV) = (77 :: toB t.carry :: (X1 ++ X2 ++ X3)).map byteV by
      simp only [List.map_cons, List.map_append]; rw [HT.out]; rfl)
    clear g1 f1 l1 hK2
    obtain ⟨g4, f4, l4, -⟩ := hcut.cells
    have hS := hcut.drew
    go_wp2_with fail
    go_region_law (first
      | (go_simp; go_at_call 91; (first | (with_reducible refine (K2.out _ hS.below).mono ?_) | (with_reducible refine (K3.out _ hS.below).mono ?_)); rintro e w5 ⟨A', c', rfl, o, hw⟩; replace hS := hS.addB hw o; obtain ⟨g5, f5, l5, -⟩ := hS.cells)
      | ((first
        | (refine kn_step_row tpB rfl (.tmp 16) (.tmp 19) rfl _ _ _ rfl rfl z3 hS (bytes_one _) (by omega) (by omega) ?_)
        | (refine kn_step_row tpB rfl (.tmp 16) (.tmp 19) rfl _ _ _ rfl rfl z3 hS.sw2.sw2 (bytes_one _) (by omega) (by omega) ?_)
        | (refine kn_step_row tpB rfl (.tmp 16) (.tmp 19) rfl _ _ _ rfl rfl z3 hS.sw2.sw1 (bytes_one _) (by omega) (by omega) ?_)
        | (refine kn_step_row tpB rfl (.tmp 20) (.tmp 23) rfl _ _ _ rfl rfl z5 hS (bytes_one _) (by omega) (by omega) ?_)
        | (refine kn_step_row tpB rfl (.tmp 20) (.tmp 23) rfl _ _ _ rfl rfl z5 hS.sw2 (bytes_one _) (by omega) (by omega) ?_)); clear hS; intro v5 w6 hS; obtain ⟨g5, f5, l5, -⟩ := hS.cells))
    all_goals
      go_wp2_with fail
      rw [HE.out] at hS
      have ho := hS.ownB
      obtain ⟨A5, c5, rfl, -⟩ := ho.reads
      refine (sealed_any w.heap.size A5 _ c5 _ _ ho (by simp; omega) hS.size).mono ?_; rintro e w7 ⟨rfl, hw⟩
      have HB := Lib.hid (hS.below.trans hw)
      clear hw hS
      go_wp2_with fail
      refine bodyPost_ret (v := .tuple #[.string ⟨(sealB (77 :: toB t.carry :: (X1 ++ X2 ++ X3))).toArray⟩, .int .i64 0]) (by simp [results, Try.results29, go_sem]) rfl ⟨by rw [HPK.out], HB.out⟩
set_option maxRecDepth 100000 in
set_option maxHeartbeats 1600000 in
theorem PackMachine_false (t : Tri) (A1 A2 A3 : Option Addr) (c1 c2 c3 : Nat) (w : World) (r1 : RI w A1 t.a.digits.length t.a.digits) (r2 : RI w A2 t.b.digits.length t.b.digits) (r3 : RI w A3 t.s.digits.length t.s.digits) (hs : SmallTri t) (hv : vmach t = false) :
    Calls Try.prog 29 #[.agg #[.int .i64 t.a.base, .slice A1 t.a.digits.length c1, .int .i64 t.b.base, .slice A2 t.b.digits.length c2, .int .i64 t.s.base, .slice A3 t.s.digits.length c3, .int .i64 t.carry]] w fun e w' => e = .returned (.tuple #[.string ⟨#[]⟩, .int .i64 1]) ∧ Below w.heap.size w w' := by
  have K0 := Lib.hid (fun W (hW : Below w.heap.size w W) => calls_val (ValidMachine_any t A1 A2 A3 c1 c2 c3 W (r1.below hW) (r2.below hW) (r3.below hW) hs) (congrArg Value.bool hv))
  clear hv r1 r2 r3
  go_enter Try.func29, Try.ntmps29
  go_wp2_with fail
  refine Calls.kn ((Kn.nil w).al [.int .i64 t.a.base, .slice A1 t.a.digits.length c1, .int .i64 t.b.base, .slice A2 t.b.digits.length c2, .int .i64 t.s.base, .slice A3 t.s.digits.length c3, .int .i64 t.carry] 28) ?_; intro w1 hK1
  refine (K0.out w1 hK1.below).mono ?_; rintro e w2 ⟨rfl, hw⟩
  have hK2 := hK1.keep hw
  clear hw hK1
  go_wp2_with fail
  refine bodyPost_ret (v := .tuple #[.string ⟨#[]⟩, .int .i64 1]) (by simp [results, Try.results29, go_sem]) rfl ⟨rfl, hK2.below⟩
end Go.Proofs.Ytkfbfainhmkkdaa
