import Derived.Test.YtcngeifkddhkmaaY2
import Derived.Test.YtcngeifkddhkmaaR8
namespace Go.Proofs.Ytcngeifkddhkmaa
open Go.RowKit Go.Sort
/-- byte j of the digits, two in a byte -/
def pairAt (ds : List Int) (j : Nat) : Int := 16 * ds.getD (j * 2) 0 + ds.getD (j * 2 + 1) 0
def toB (z : Int) : UInt8 := UInt8.ofNat z.toNat
def regB (base : Int) (ds : List Int) : List UInt8 := toB (16 * (base - 1) + (ds.length - 1)) :: (List.range ((ds.length + 1) / 2)).map (fun j => toB (pairAt ds j))
theorem wrapI {n : Int} (h : -9223372036854775808 ≤ n ∧ n ≤ 9223372036854775807) : IntKind.i64.wrap n = n := by
  rw [IntKind.wrap_i64]; omega
theorem wrapB {n : Int} (h : 0 ≤ n ∧ n < 256) : IntKind.u8.wrap n = n := by
  simp [IntKind.wrap, IntKind.bits, IntKind.signed]; omega
theorem riB {w W wr : World} {B : Nat} {A : Option Addr} {n : Nat} {ds : List Int} (h : RI w A n ds) (hb : Below B W wr) (hW : B = w.heap.size + 1 ∧ Below w.heap.size w W) : RI wr A n ds := by
  have h1 := h.below hW.2
  refine ⟨h.1, fun hn => ?_⟩
  obtain ⟨ad, e, hl, hc⟩ := h.2 hn
  obtain ⟨ad', e', hl', hc'⟩ := h1.2 hn
  have hs := hb.size
  rw [e] at e'
  injection e' with e'
  subst e'
  refine ⟨ad, e, by omega, fun j u hu => ?_⟩
  rw [hb.cell (by rw [block_of_add]; omega)]
  exact hc' j u hu
theorem ownB_below {w w' : World} {base : Nat} {v : Value} {bs : List UInt8} (h : OwnB w base v bs) (hb : Below w.heap.size w w') : OwnB w' base v bs := by
  refine ⟨h.1, ?_⟩
  rcases h.2 with hn | ⟨g, cap, cur, rfl, hbg, hg, rest⟩
  · exact .inl hn
  · exact .inr ⟨g, cap, cur, rfl, hbg, by rw [hb.block g (Array.getElem?_eq_some_iff.1 hg).1]; exact hg, rest⟩
theorem ownB_lo {w : World} {base : Nat} {v : Value} {bs : List UInt8} (h : OwnB w base v bs) : ∀ k, v.ownBlock = some k → base ≤ k := by
  intro k hk
  rcases h.2 with ⟨rfl, -⟩ | ⟨g, cap, cur, rfl, hb, -⟩
  · simp [Value.ownBlock] at hk
  · simp only [Value.ownBlock, Option.some.injEq] at hk; omega
theorem addr_pos (p : Addr) (j : Nat) (h : j ≠ 0) : p.add j = ⟨p.block, p.off + j, none⟩ := by unfold Addr.add; rw [if_neg h]
theorem ownB_mono {w : World} {base b' : Nat} {v : Value} {bs : List UInt8} (h : OwnB w base v bs) (hb : b' ≤ base) : OwnB w b' v bs := by
  refine ⟨h.1, ?_⟩
  rcases h.2 with hn | ⟨g, cap, cur, rfl, hbg, hg, rest⟩
  · exact .inl hn
  · exact .inr ⟨g, cap, cur, rfl, by omega, hg, rest⟩
theorem own_litB {w : World} {base g n size : Nat} {e : TypeId} {cs : Array Value} (hg : w.heap[g]? = some (.cells cs e (0, 0))) (hb : base ≤ g) (hs : cs.size = n * size) (hn : n ≤ maxLen) : w.ownsRow base e size (.slice (some ⟨g, 0, none⟩) n n) n cs.toList :=
  ⟨by rw [Array.length_toList]; exact hs, .inr ⟨g, n, cs, rfl, hb, hg, Nat.le_refl _, hn, hs, by rw [← hs, ← Array.length_toList]; exact List.take_length⟩⟩
set_option maxRecDepth 100000 in
set_option maxHeartbeats 3200000 in
theorem bytes_any (base : Int) (A : Option Addr) (n c : Nat) (ds : List Int) (w : World) (hr : RI w A n ds) (hb : 2 ≤ base) (hb2 : base ≤ 16) (hn1 : 1 ≤ n) (hn : n ≤ 16) (hd : ∀ d ∈ ds, 0 ≤ d ∧ d < base) :
    Calls Try.prog 151 #[.agg #[.int .i64 base, .slice A n c]] w fun e w' => ∃ A' c', e = .returned (.slice A' (regB base ds).length c') ∧ OwnB w' w.heap.size (.slice A' (regB base ds).length c') (regB base ds) ∧ Below w.heap.size w w' := by
  have HL := Lib.hid hr.1
  have hb0 : Below w.heap.size w (w.alloc (.cells #[.int .i64 base, .slice A n c] 26)) := (Below.refl _ _).alloc (Nat.le_refl _) _
  have KW := Lib.hid (fun W => width_any base A n c W)
  have x1 : IntKind.i64.wrap (base - 1) = base - 1 := wrapI (by omega)
  have x2 : IntKind.i64.wrap (16 * (base - 1)) = 16 * (base - 1) := wrapI (by omega)
  have x3 : IntKind.u8.wrap (16 * (base - 1)) = 16 * (base - 1) := wrapB (by omega)
  have x4 : IntKind.i64.wrap ((n : Int) - 1) = (n : Int) - 1 := wrapI (by omega)
  have x5 : IntKind.u8.wrap ((n : Int) - 1) = (n : Int) - 1 := wrapB (by omega)
  have x6 : IntKind.u8.wrap (16 * (base - 1) + ((n : Int) - 1)) = 16 * (base - 1) + ((n : Int) - 1) := wrapB (by omega)
  obtain ⟨h0, hh0⟩ : ∃ h0, h0 = 16 * (base - 1) + ((n : Int) - 1) := ⟨_, rfl⟩
  have hh1 : 0 ≤ h0 ∧ h0 < 256 := by omega
  have HH := Lib.hid hh0; clear hh0
  have HD := Lib.hid hd
  clear hd
  go_enter Try.func151, Try.ntmps151
  go_wp2_with fail
  go_region_with (go_at_call 56; refine (KW.out _).mono ?_; rintro e w1 ⟨rfl, hw1⟩; obtain ⟨hc, hf⟩ := bcell hw1)
  all_goals
    rw [← HH.out]
    have z1 : w.heap.size + 1 ≤ w1.heap.size := by have := hw1.size; simpa using this
    have hb1 : Below (w.heap.size + 1) (w.alloc (.cells #[.int .i64 base, .slice A n c] 26)) w1 := (below_drewN (Below.refl (w.heap.size + 1) _) 1).trans (hw1.mono (by simp))
    have HB1 := Lib.hid (hb1.alloc z1 (.cells #[.int .u8 h0] 5))
    have HO1 := Lib.hid (show OwnB (w1.alloc (.cells #[.int .u8 h0] 5)) (w.heap.size + 1) (.slice (some ⟨w1.heap.size, 0, none⟩) 1 1) [toB h0] from by
      unfold OwnB toB
      simp only [List.map_cons, List.map_nil, List.length_cons, List.length_nil]
      rw [← ofNat_byte hh1.1 hh1.2]
      exact own_litB (n := 1) (cs := #[.int .u8 h0]) (heap_alloc_new _ _) z1 rfl (by decide))
    clear hb1 hc hf hw1 x3 x5 x6
    go_wp2_with fail
    go_loopw [4, 3] (fun kk out wr => ∃ j : Nat, j ≤ (n + 1) / 2 ∧ kk = .int .i64 ((j * 2 : Nat) : Int) ∧ OwnB wr (w.heap.size + 1) out (toB h0 :: (List.range j).map (fun j => toB (pairAt ds j))) ∧ Below (w.heap.size + 1) (w.alloc (.cells #[.int .i64 base, .slice A n c] 26)) wr) (fun kk _ _ => n + 1 - (intOf kk).toNat)
    case atStart => exact ⟨0, Nat.zero_le _, rfl, by simpa using HO1.out, HB1.out⟩
    case round =>
      obtain ⟨j, hj, rfl, hown, hbr⟩ := hrel
      have c0 : wr.cell? ⟨w.heap.size, 0, none⟩ = some (.int .i64 base) := by rw [hbr.cell (by simp)]; go_simp
      have c1 : wr.cell? ⟨w.heap.size, 1, none⟩ = some (.slice A n c) := by rw [hbr.cell (by simp)]; go_simp
      have hwz : w.heap.size + 1 ≤ wr.heap.size := by have := hbr.size; simpa using this
      have HO := Lib.hid hown
      have HBR := Lib.hid hbr
      have hri : RI wr A n ds := riB hr hbr ⟨rfl, hb0⟩
      clear hown hbr
      by_cases hjn : j * 2 < n
      · obtain ⟨ad, hA, hlt, hkl, hc1⟩ := hri.at_ hjn
        have hd1 := HD.out _ (List.getElem_mem hkl)
        obtain ⟨d, hdd⟩ : ∃ d, d = ds[j * 2] := ⟨_, rfl⟩
        have HDD := Lib.hid hdd
        rw [← hdd] at hc1 hd1
        have hi1 : ((j * 2 : Nat) : Int) < (n : Int) := by omega
        have hi0 : (0 : Int) ≤ ((j * 2 : Nat) : Int) := by omega
        subst hA
        clear hdd
        go_wp2_with fail
        refine (KW.out _).mono ?_; rintro e w2 ⟨rfl, hw2⟩
        have hc1' : w2.cell? (ad.add (j * 2)) = some (.int .i64 d) := by rw [hw2.cell (by rw [block_of_add]; exact hlt)]; exact hc1
        have c0' : w2.cell? ⟨w.heap.size, 0, none⟩ = some (.int .i64 base) := by rw [hw2.cell (by show w.heap.size < _; omega)]; exact c0
        have c1' : w2.cell? ⟨w.heap.size, 1, none⟩ = some (.slice (some ad) n c) := by rw [hw2.cell (by show w.heap.size < _; omega)]; exact c1
        have hz2 := hw2.size
        have y1 : IntKind.u8.wrap (16 * d) = 16 * d := wrapB (by omega)
        go_wp2_with fail
        refine (KW.out _).mono ?_; rintro e w3 ⟨rfl, hw3⟩
        have hz3 := hw3.size
        have hbw3 : Below wr.heap.size wr w3 := hw2.trans (hw3.mono hz2)
        have c0'' : w3.cell? ⟨w.heap.size, 0, none⟩ = some (.int .i64 base) := by rw [hbw3.cell (by show w.heap.size < _; omega)]; exact c0
        have c1'' : w3.cell? ⟨w.heap.size, 1, none⟩ = some (.slice (some ad) n c) := by rw [hbw3.cell (by show w.heap.size < _; omega)]; exact c1
        have HO3 := Lib.hid (ownB_below HO.out hbw3)
        have HB3 := Lib.hid (HBR.out.trans (hbw3.mono hwz))
        have HP := Lib.hid (show (List.range (j + 1)).map (fun j => toB (pairAt ds j)) = (List.range j).map (fun j => toB (pairAt ds j)) ++ [toB (pairAt ds j)] by rw [List.range_succ, List.map_append]; rfl)
        have hg0 : ds.getD (j * 2) 0 = d := by rw [HDD.out]; simp [List.getD, List.getElem?_eq_getElem hkl]
        have hlo := Lib.hid (ownB_lo HO3.out)
        by_cases hj2 : j * 2 + 1 < n
        · obtain ⟨ad2, hA2, hlt2, hkl2, hc2⟩ := hri.at_ hj2
          have hd2 := HD.out _ (List.getElem_mem hkl2)
          obtain ⟨d2, hdd2⟩ : ∃ d2, d2 = ds[j * 2 + 1] := ⟨_, rfl⟩
          have hg1 : ds.getD (j * 2 + 1) 0 = d2 := by rw [hdd2]; simp [List.getD, List.getElem?_eq_getElem hkl2]
          rw [← hdd2] at hc2 hd2
          clear hdd2
          obtain rfl : ad = ad2 := by injection hA2
          have hc2' : w3.cell? (ad.add (j * 2 + 1)) = some (.int .i64 d2) := by rw [hbw3.cell (by rw [block_of_add]; exact hlt)]; exact hc2
          have hc2'' : w3.cell? ⟨ad.block, ad.off + (j * 2 + 1), none⟩ = some (.int .i64 d2) := by rw [← addr_pos ad (j * 2 + 1) (by omega)]; exact hc2'
          have hi3 : ((j * 2 : Nat) : Int) + 1 < (n : Int) := by omega
          have y2 : IntKind.u8.wrap d2 = d2 := wrapB (by omega)
          have y3 : IntKind.u8.wrap (16 * d + d2) = 16 * d + d2 := wrapB (by omega)
          have HV : Hid (pairAt ds j = 16 * d + d2) := by simp only [Hid, pairAt]; rw [hg0, hg1]
          clear hg0 hg1 hw2 hw3 hbw3
          have HOA := Lib.hid (fun (q : Nat) => ownB_below HO3.out ((Below.refl w3.heap.size w3).alloc (Nat.le_refl _) (.cells #[.int .u8 (16 * d + d2)] 5)))
          have hbb := HB3.out.alloc (by omega) (.cells #[.int .u8 (16 * d + d2)] 5)
          go_wp2_with (at_builtin; refine appG tpB rfl _ _ rfl (w.heap.size + 1) _ _ _ rfl (HOA.out 0) ⟨w3.heap.size, 0, none⟩ 1 1 [.int .u8 (16 * d + d2)] rfl rfl (World.news_of_block (heap_alloc_new _ _)) (by simp [Value.oneCell']) (by simp; omega) (by simp; omega) (by simp; omega) ?_; intro v5 w6 hown5 hg5 hv5)
          have hbf := hbb.grown hg5 (by simp; omega) hlo.out
          have HOF := Lib.hid (show OwnB w6 (w.heap.size + 1) v5 (toB h0 :: (List.range (j + 1)).map (fun j => toB (pairAt ds j))) by
            rw [HP.out, HV.out, ← List.cons_append]
            unfold OwnB
            rw [List.length_append, List.map_append]
            simp only [List.map_cons, List.map_nil, List.length_cons, List.length_nil]
            rw [show byteV (toB ((16 * d + d2))) = .int .u8 ((16 * d + d2)) from (ofNat_byte (by omega) (by omega)).symm]
            simpa using hown5)
          have HBF := Lib.hid hbf
          clear hown5 hbf hbb hg5 hv5
          go_roundw
          case rel => exact ⟨j + 1, by omega, by go_num, HOF.out, HBF.out⟩
          case measure => simp [intOf]; omega
        · have hg1 : ds.getD (j * 2 + 1) 0 = 0 := by simp [List.getD, List.getElem?_eq_none (show ds.length ≤ j * 2 + 1 by have := HL.out; omega)]
          have hi3 : ¬ ((j * 2 : Nat) : Int) + 1 < (n : Int) := by omega
          have HV : Hid (pairAt ds j = 16 * d) := by simp only [Hid, pairAt]; rw [hg0, hg1, Int.add_zero]
          clear hg0 hg1 hw2 hw3 hbw3
          have HOA := Lib.hid (fun (q : Nat) => ownB_below HO3.out ((Below.refl w3.heap.size w3).alloc (Nat.le_refl _) (.cells #[.int .u8 (16 * d)] 5)))
          have hbb := HB3.out.alloc (by omega) (.cells #[.int .u8 (16 * d)] 5)
          go_wp2_with (at_builtin; refine appG tpB rfl _ _ rfl (w.heap.size + 1) _ _ _ rfl (HOA.out 0) ⟨w3.heap.size, 0, none⟩ 1 1 [.int .u8 (16 * d)] rfl rfl (World.news_of_block (heap_alloc_new _ _)) (by simp [Value.oneCell']) (by simp; omega) (by simp; omega) (by simp; omega) ?_; intro v5 w6 hown5 hg5 hv5)
          have hbf := hbb.grown hg5 (by simp; omega) hlo.out
          have HOF := Lib.hid (show OwnB w6 (w.heap.size + 1) v5 (toB h0 :: (List.range (j + 1)).map (fun j => toB (pairAt ds j))) by
            rw [HP.out, HV.out, ← List.cons_append]
            unfold OwnB
            rw [List.length_append, List.map_append]
            simp only [List.map_cons, List.map_nil, List.length_cons, List.length_nil]
            rw [show byteV (toB ((16 * d))) = .int .u8 ((16 * d)) from (ofNat_byte (by omega) (by omega)).symm]
            simpa using hown5)
          have HBF := Lib.hid hbf
          clear hown5 hbf hbb hg5 hv5
          go_roundw
          case rel => exact ⟨j + 1, by omega, by go_num, HOF.out, HBF.out⟩
          case measure => simp [intOf]; omega
      · have HJ : Hid (j = (n + 1) / 2) := by simp only [Hid]; omega
        have HF : Hid (toB h0 :: (List.range j).map (fun j => toB (pairAt ds j)) = regB base ds) := by
          simp only [Hid, regB]
          rw [HJ.out, HL.out, HH.out]
        have hi3 : ¬ ((j * 2 : Nat) : Int) < (n : Int) := by omega
        obtain ⟨AO, cO, rfl, -⟩ := HO.out.reads
        have HOW := Lib.hid (show OwnB wr (w.heap.size + 1) (.slice AO (regB base ds).length cO) (regB base ds) by have h := HO.out; rw [HF.out] at h; exact h)
        rw [HF.out]
        go_wp2_with fail
        refine (KW.out _).mono ?_; rintro e w2 ⟨rfl, hw2⟩
        have HOX := Lib.hid (ownB_below HOW.out hw2)
        have HBX := Lib.hid ((hb0.trans (HBR.out.mono (by omega))).trans (hw2.mono (by omega)))
        clear hw2
        go_wp2_with fail
        go_ret
        exact ⟨AO, cO, rfl, ownB_mono HOX.out (by omega), HBX.out⟩
end Go.Proofs.Ytcngeifkddhkmaa
