/- For every input the law FnDivided returns true and leaves its arguments as they were: the quotient times the divisor and the rest are the dividend, and the rest is less than the divisor. No condition. -/
import Derived.Test.YtcapccadpbiecaaZC1
import Derived.Test.YtcapccadpbiecaaZC2
import Derived.Test.YtcapccadpbiecaaZC3
import Derived.Test.YtcapccadpbiecaaZC4
import Derived.Test.YtcapccadpbiecaaZC5
import Derived.Test.YtcapccadpbiecaaZC6
import Derived.Test.YtcapccadpbiecaaZC7
import Derived.ProofKit
import Derived.Carry
import Derived.OpenShut
import Derived.ChangeMaps5
import Derived.Deep.DeepHandedRow
import Derived.Lib.LaidTab
namespace Go.Proofs.Ytcapccadpbiecaa
open Go.RowKit Go.Sort
theorem dvC_mach {t : Tri} {x y : Int} (h : dvC t x y = 0) : vmach t = true := by
  cases hv : vmach t with
  | true => rfl
  | false => unfold dvC at h; rw [if_pos hv] at h; simp at h
theorem dpL_len (p : Int) : (dpL p).length ≤ 1000 := by
  unfold dpL
  by_cases h : betB p 1 16 = true
  · rw [if_pos h]
    have h1 := divUpto_len p.toNat p.toNat
    have h2 := betB_iff.1 h
    unfold divProg; omega
  · rw [if_neg h]; exact Nat.zero_le _
theorem spL_len (vs : List Int) : (spL vs).length ≤ 1000 := by
  unfold spL
  by_cases h : spC vs = 0
  · have := vprog_len (sumL_ok h)
    rw [if_pos h]; omega
  · rw [if_neg h]; exact Nat.zero_le _
theorem spL_ok {vs : List Int} (h : spC vs = 0) : vprog (spL vs) = true := by
  rw [(sp_fine h).2]; exact sumL_ok h
set_option maxRecDepth 100000 in
set_option maxHeartbeats 6400000 in
theorem law_Divided (A : Option Addr) (n c : Nat) (bs : List UInt8) (w : World) (hb : RB w A n bs) (hn : n ≤ 9223372036854775807) :
    Calls Try.prog 3 #[.slice A n c] w fun e w' => e = .returned (.bool true) ∧ Below w.heap.size w w' := by
  have KD := Lib.hid (DrawDivideOn_any A n c bs w hb hn)
  have KP := Lib.hid (fun W (hW : Below w.heap.size w W) => DrawDivideProgram_any A n c bs W (hb.below hW) hn)
  have KS := Lib.hid (fun W (hW : Below w.heap.size w W) => DrawSumOn_any A n c bs W (hb.below hW) hn)
  have KV := Lib.hid (fun W (hW : Below w.heap.size w W) => DrawSumProgram_any A n c bs W (hb.below hW) hn)
  clear hb
  have KG := (fun W => f6bigP_any A n c W)
  obtain ⟨bg, hbg⟩ : ∃ b, decide ((n : Int) > 4096) = b := ⟨_, rfl⟩
  rw [hbg] at KG
  replace KG := Lib.hid KG
  clear hbg
  rcases bg with _ | _
  rotate_left
  · go_enter Try.func3, Try.ntmps3
    go_wp2_with (go_at_call 6; refine (KG.out _).mono ?_; rintro e w' ⟨rfl, hww⟩; obtain rfl := hww.symm)
    go_ret
    exact ⟨rfl, Below.refl _ _⟩
  go_enter Try.func3, Try.ntmps3
  go_wp2_with (go_at_call 6; refine (KG.out _).mono ?_; rintro e w' ⟨rfl, hww⟩; obtain rfl := hww.symm)
  refine KD.out.mono ?_; rintro e w1 ⟨t, A1, c1, A2, c2, A3, c3, x, y, rfl, hl, K1⟩
  clear KD
  have hs : SmallTri t := ⟨by unfold SmallReg; omega, by unfold SmallReg; omega, by unfold SmallReg; omega⟩
  clear hl
  obtain ⟨g, hg⟩ : ∃ g, w1.heap.size = g := ⟨_, rfl⟩
  go_wp2_with fail
  refine Calls.kn (K1.al [.int .i64 t.a.base, .slice A1 t.a.digits.length c1, .int .i64 t.b.base, .slice A2 t.b.digits.length c2, .int .i64 t.s.base, .slice A3 t.s.digits.length c3, .int .i64 t.carry] 28) ?_; intro w2 K2
  rw [hg] at K2
  try rw [hg]
  clear K1 hg
  have HQ := Lib.hid (fun h : dvC t x y = 0 => dv_law (dvC_mach h) h)
  have KA := Lib.hid (DivideOn_any t A1 A2 A3 c1 c2 c3 x y w2 (K2.front 3 rfl).riv (K2.front 2 rfl).riv (K2.front 1 rfl).riv hs)
  have KB := Lib.hid (fun W (hW : Below w2.heap.size w2 W) => specDivideOn_any t A1 A2 A3 c1 c2 c3 x y W ((K2.front 3 rfl).riv.below hW) ((K2.front 2 rfl).riv.below hW) ((K2.front 1 rfl).riv.below hW) hs)
  unfold DVRet at KA KB
  obtain ⟨Q, hQ⟩ : ∃ v, dvQ t x y = v := ⟨_, rfl⟩
  obtain ⟨R, hR⟩ : ∃ v, dvR t x y = v := ⟨_, rfl⟩
  obtain ⟨N, hN⟩ : ∃ v, dvN t x y = v := ⟨_, rfl⟩
  obtain ⟨C, hC⟩ : ∃ v, dvC t x y = v := ⟨_, rfl⟩
  simp only [hQ, hR, hN, hC] at KA KB HQ
  clear hQ hR hN hC hs
  refine KA.out.mono ?_; rintro e w3 ⟨rfl, hw3⟩
  have K3 := K2.keep hw3
  clear KA
  obtain ⟨a1, a2, a3, -⟩ := K3.cells
  go_wp2_with fail
  refine (KB.out _ hw3).mono ?_; rintro e w4 ⟨rfl, hw4⟩
  have K4 := K3.keep hw4
  clear KB hw3 hw4 a1 a2 a3 K2 K3
  go_wp2_with fail
  refine (KP.out _ K4.below).mono ?_; rintro e w5 ⟨p, rfl, hp, hw5⟩
  have K5 := (K4.keep hw5).bare
  clear KP hw5 hp K4
  have KA := Lib.hid (fun W => DivideProgram_any p W)
  have KB := Lib.hid (fun W => specDivideProgram_any p W)
  have HP := Lib.hid (fun h : dpC p = 0 => dp_ok h)
  have HPL := Lib.hid (dpL_len p)
  unfold DPRet at KA KB
  obtain ⟨pl, hpl⟩ : ∃ v, dpL p = v := ⟨_, rfl⟩
  obtain ⟨pc, hpc⟩ : ∃ v, dpC p = v := ⟨_, rfl⟩
  simp only [hpl, hpc] at KA KB HP HPL
  clear hpl hpc
  go_wp2_with fail
  refine (KA.out _).mono ?_; rintro e w6 ⟨LA, lc, rfl, hK6⟩
  have K6 : Kn w [rowIns (.slice LA pl.length lc) pl] w6 := K5.join hK6
  clear KA hK6 K5
  go_wp2_with fail
  refine (KB.out _).mono ?_; rintro e w7 ⟨RA, rc, rfl, hK7⟩
  have K7 : Kn w [rowIns (.slice RA pl.length rc) pl, rowIns (.slice LA pl.length lc) pl] w7 := K6.join hK7
  clear KB hK7 K6
  go_wp2_with fail
  refine (KS.out _ K7.below).mono ?_; rintro e w8 ⟨s, B1, d1, B2, d2, B3, d3, VA, vc, vs, rfl, ⟨hl, hvl⟩, hK8⟩
  have K8 := K7.join hK8
  clear KS hK8 K7
  have hs : SmallTri s := ⟨by unfold SmallReg; omega, by unfold SmallReg; omega, by unfold SmallReg; omega⟩
  clear hl
  obtain ⟨g, hg⟩ : ∃ g, w8.heap.size = g := ⟨_, rfl⟩
  go_wp2_with fail
  refine Calls.kn (K8.al [.int .i64 s.a.base, .slice B1 s.a.digits.length d1, .int .i64 s.b.base, .slice B2 s.b.digits.length d2, .int .i64 s.s.base, .slice B3 s.s.digits.length d3, .int .i64 s.carry] 28) ?_; intro w9 K9
  rw [hg] at K9
  try rw [hg]
  clear K8 hg
  have KA := Lib.hid (SumOn_any s B1 B2 B3 VA d1 d2 d3 vs.length vc vs w9 (K9.front 3 rfl).riv (K9.front 2 rfl).riv (K9.front 1 rfl).riv hs (K9.front 4 rfl).riv (by omega))
  have KB := Lib.hid (fun W (hW : Below w9.heap.size w9 W) => specSumOn_any s B1 B2 B3 VA d1 d2 d3 vs.length vc vs W ((K9.front 3 rfl).riv.below hW) ((K9.front 2 rfl).riv.below hW) ((K9.front 1 rfl).riv.below hW) hs ((K9.front 4 rfl).riv.below hW) (by omega))
  unfold SORet MSRet at KA KB
  obtain ⟨M, hM⟩ : ∃ v, soM s vs = v := ⟨_, rfl⟩
  obtain ⟨sn, hsn⟩ : ∃ v, soN s vs = v := ⟨_, rfl⟩
  obtain ⟨sc, hsc⟩ : ∃ v, soC s vs = v := ⟨_, rfl⟩
  simp only [hM, hsn, hsc] at KA KB
  clear hM hsn hsc hs hvl
  refine KA.out.mono ?_; rintro e w10 ⟨E1, f1, E2, f2, E3, f3, rfl, hK10⟩
  have hb10 := hK10.below
  have K10 := K9.join hK10
  clear KA hK10
  obtain ⟨g2, hg2⟩ : ∃ g, w10.heap.size = g := ⟨_, rfl⟩
  go_upto_region 11 with fail
  have hb11 : Below w9.heap.size w9 (w10.alloc (.cells #[.int .i64 M.a.base, .slice E1 M.a.digits.length f1, .int .i64 M.b.base, .slice E2 M.b.digits.length f2, .int .i64 M.s.base, .slice E3 M.s.digits.length f3, .int .i64 M.carry] 28)) := hb10.alloc hb10.size _
  have K11 := K10.al [.int .i64 M.a.base, .slice E1 M.a.digits.length f1, .int .i64 M.b.base, .slice E2 M.b.digits.length f2, .int .i64 M.s.base, .slice E3 M.s.digits.length f3, .int .i64 M.carry] 28
  rw [hg2] at K11
  try rw [hg2]
  generalize w10.alloc (.cells #[.int .i64 M.a.base, .slice E1 M.a.digits.length f1, .int .i64 M.b.base, .slice E2 M.b.digits.length f2, .int .i64 M.s.base, .slice E3 M.s.digits.length f3, .int .i64 M.carry] 28) = w11 at hb11 K11 ⊢
  clear hg2
  obtain ⟨a1, a2, a3, -⟩ := (K11.front 4 rfl).cells
  go_wp2_with fail
  refine (KB.out _ hb11).mono ?_
  rintro e w12 ⟨G1, h1, G2, h2, G3, h3, rfl, hK12⟩
  have K12 := K11.join hK12
  clear a1 a2 a3
  clear KB hK12 K11 hb10 hb11
  obtain ⟨g3, hg3⟩ : ∃ g, w12.heap.size = g := ⟨_, rfl⟩
  go_wp2_with fail
  refine Calls.kn (K12.al [.int .i64 M.a.base, .slice G1 M.a.digits.length h1, .int .i64 M.b.base, .slice G2 M.b.digits.length h2, .int .i64 M.s.base, .slice G3 M.s.digits.length h3, .int .i64 M.carry] 28) ?_; intro w13 K13
  rw [hg3] at K13
  try rw [hg3]
  have K13' := K13.sel [0, 1, 2, 3, 4, 5, 6, 7, 13, 14] 99 (by decide) (by decide)
  clear K12 hg3 K13
  refine (KV.out _ K13'.below).mono ?_; rintro e w14 ⟨UA, uc, us, rfl, hul, hK14⟩
  have K14 := K13'.join hK14
  clear KV hK14 K13'
  have KA := Lib.hid (SumProgram_any UA us.length uc us w14 K14.riv (by omega))
  have KB := Lib.hid (fun W (hW : Below w14.heap.size w14 W) => specSumProgram_any UA us.length uc us W (K14.riv.below hW) (by omega))
  have HS := Lib.hid (fun h : spC us = 0 => spL_ok h)
  have HSL := Lib.hid (spL_len us)
  unfold SPRet at KA KB
  obtain ⟨ql, hql⟩ : ∃ v, spL us = v := ⟨_, rfl⟩
  obtain ⟨qc, hqc⟩ : ∃ v, spC us = v := ⟨_, rfl⟩
  simp only [hql, hqc] at KA KB HS HSL
  clear hql hqc hul
  go_wp2_with fail
  refine KA.out.mono ?_; rintro e w15 ⟨PA, pc1, rfl, hK15⟩
  have hb15 := hK15.below
  have K15 := K14.join hK15
  clear KA hK15 K14
  go_wp2_with fail
  refine (KB.out _ hb15).mono ?_; rintro e w16 ⟨PB, pc2, rfl, hK16⟩
  have K16 := (K15.join hK16).sel [0, 1, 3, 4, 5, 6, 7, 8, 9, 10, 11, 12] 99 (by decide) (by decide)
  clear KB hK16 K15 hb15
  go_wp2_with fail
  have i1 := (Kn.rlIns (K16.front 11 rfl)).2
  have i2 := (Kn.rlIns (K16.front 10 rfl)).2
  refine (f6instrs_same LA RA pl.length lc rc pl w16 i1 i2 (by have := HPL.out; omega)).mono ?_; rintro e w17 ⟨rfl, hw⟩
  have K17 := K16.keep hw
  clear K16 hw i1 i2
  obtain ⟨a1, a2, a3, -⟩ := (K17.front 2 rfl).cells
  obtain ⟨x1, x2, x3, -⟩ := (K17.front 6 rfl).cells
  go_wp2_with fail
  have hsm : SmallTri M := ⟨Kn.rowSmall (K17.front 9 rfl), Kn.rowSmall (K17.front 8 rfl), Kn.rowSmall (K17.front 7 rfl)⟩
  have hsame := specSameMachine_any M M E1 E2 E3 G1 G2 G3 f1 f2 f3 h1 h2 h3 w17 (K17.front 9 rfl).riv (K17.front 8 rfl).riv (K17.front 7 rfl).riv (K17.front 5 rfl).riv (K17.front 4 rfl).riv (K17.front 3 rfl).riv hsm hsm
  rw [sameM_refl] at hsame
  refine hsame.mono ?_; rintro e w18 ⟨rfl, hw⟩
  have K18 := (K17.keep hw).sel [0, 1, 11] 99 (by decide) (by decide)
  clear K17 hw hsame hsm a1 a2 a3 x1 x2 x3
  go_wp2_with fail
  have i1 := (Kn.rlIns (K18.front 1 rfl)).2
  have i2 := (Kn.rlIns (K18.front 0 rfl)).2
  refine (f6instrs_same PA PB ql.length pc1 pc2 ql w18 i1 i2 (by have := HSL.out; omega)).mono ?_; rintro e w19 ⟨rfl, hw⟩
  have K19 := K18.keep hw
  clear K18 hw i1 i2
  go_upto_region 17 with fail
  have i1 := (Kn.rlIns (K19.front 2 rfl)).2
  have i2 := (Kn.rlIns (K19.front 1 rfl)).2
  have V1 := Lib.hid (fun (h : pc = 0) (W : World) (hW : Below w19.heap.size w19 W) => calls_val (ValidProgram_any LA pl.length lc pl W (i1.below steady_InsM hW) (by have := HPL.out; omega)) (congrArg Value.bool (HP.out h)))
  have V2 := Lib.hid (fun (h : qc = 0) (W : World) (hW : Below w19.heap.size w19 W) => calls_val (ValidProgram_any PA ql.length pc1 ql W (i2.below steady_InsM hW) (by have := HSL.out; omega)) (congrArg Value.bool (HS.out h)))
  have b19 := K19.below
  clear i1 i2 K19 HP HS HPL HSL
  by_cases hp : pc = 0
  · have U1 := Lib.hid (V1.out hp)
    clear V1
    subst hp
    go_wp2_with fail
    refine (U1.out _ (Below.refl _ _)).mono ?_; rintro e w20 ⟨rfl, hw⟩
    have b20 := b19.trans (hw.mono b19.size)
    by_cases hq : qc = 0
    · have U2 := Lib.hid (V2.out hq)
      clear V2
      subst hq
      go_wp2_with fail
      refine (U2.out _ hw).mono ?_; rintro e w21 ⟨rfl, hw2⟩
      have b21 := b20.trans (hw2.mono b20.size)
      by_cases hc : C = 0
      · obtain ⟨q1, q2, q3, q4, q5, q6⟩ := HQ.out hc
        obtain ⟨z, hz⟩ : ∃ v, Q * y = v := ⟨_, rfl⟩
        rw [hz] at q1 q4 q5
        have e1 : IntKind.i64.wrap (Q * y) = z := by rw [hz]; exact wrapI64 (by omega)
        have e2 : IntKind.i64.wrap (z + R) = x := by rw [wrapI64 (by omega)]; exact q1
        have q7 : R ≥ 0 := q2
        clear HQ hz q1
        subst hc
        go_wp2_with fail
        go_ret
        exact ⟨by simp [q2, q3], b21⟩
      · have hc1 : (C == 0) = false := by simpa using hc
        have hc2 : (C != 0) = true := by simpa using hc
        clear HQ
        go_wp2_with fail
        go_ret
        exact ⟨rfl, b21⟩
    · have hq1 : (qc == 0) = false := by simpa using hq
      clear V2
      by_cases hc : C = 0
      · obtain ⟨q1, q2, q3, q4, q5, q6⟩ := HQ.out hc
        obtain ⟨z, hz⟩ : ∃ v, Q * y = v := ⟨_, rfl⟩
        rw [hz] at q1 q4 q5
        have e1 : IntKind.i64.wrap (Q * y) = z := by rw [hz]; exact wrapI64 (by omega)
        have e2 : IntKind.i64.wrap (z + R) = x := by rw [wrapI64 (by omega)]; exact q1
        have q7 : R ≥ 0 := q2
        clear HQ hz q1
        subst hc
        go_wp2_with fail
        go_ret
        exact ⟨by simp [q2, q3], b20⟩
      · have hc1 : (C == 0) = false := by simpa using hc
        have hc2 : (C != 0) = true := by simpa using hc
        clear HQ
        go_wp2_with fail
        go_ret
        exact ⟨rfl, b20⟩
  · have hp1 : (pc == 0) = false := by simpa using hp
    clear V1
    by_cases hq : qc = 0
    · have U2 := Lib.hid (V2.out hq)
      clear V2
      subst hq
      go_wp2_with fail
      refine (U2.out _ (Below.refl _ _)).mono ?_; rintro e w21 ⟨rfl, hw2⟩
      have b21 := b19.trans (hw2.mono b19.size)
      by_cases hc : C = 0
      · obtain ⟨q1, q2, q3, q4, q5, q6⟩ := HQ.out hc
        obtain ⟨z, hz⟩ : ∃ v, Q * y = v := ⟨_, rfl⟩
        rw [hz] at q1 q4 q5
        have e1 : IntKind.i64.wrap (Q * y) = z := by rw [hz]; exact wrapI64 (by omega)
        have e2 : IntKind.i64.wrap (z + R) = x := by rw [wrapI64 (by omega)]; exact q1
        have q7 : R ≥ 0 := q2
        clear HQ hz q1
        subst hc
        go_wp2_with fail
        go_ret
        exact ⟨by simp [q2, q3], b21⟩
      · have hc1 : (C == 0) = false := by simpa using hc
        have hc2 : (C != 0) = true := by simpa using hc
        clear HQ
        go_wp2_with fail
        go_ret
        exact ⟨rfl, b21⟩
    · have hq1 : (qc == 0) = false := by simpa using hq
      clear V2
      by_cases hc : C = 0
      · obtain ⟨q1, q2, q3, q4, q5, q6⟩ := HQ.out hc
        obtain ⟨z, hz⟩ : ∃ v, Q * y = v := ⟨_, rfl⟩
        rw [hz] at q1 q4 q5
        have e1 : IntKind.i64.wrap (Q * y) = z := by rw [hz]; exact wrapI64 (by omega)
        have e2 : IntKind.i64.wrap (z + R) = x := by rw [wrapI64 (by omega)]; exact q1
        have q7 : R ≥ 0 := q2
        clear HQ hz q1
        subst hc
        go_wp2_with fail
        go_ret
        exact ⟨by simp [q2, q3], b19⟩
      · have hc1 : (C == 0) = false := by simpa using hc
        have hc2 : (C != 0) = true := by simpa using hc
        clear HQ
        go_wp2_with fail
        go_ret
        exact ⟨rfl, b19⟩
end Go.Proofs.Ytcapccadpbiecaa

namespace Go.Proofs.Ytcapccadpbiecaa
open Go.RowKit Go.ChangeShapes Go.WideShapes Go.ChangeAt
section
variable {H : Type} {enc : TypeId × Value → H} {w : World} {base : Nat} {spare : Nat → Bool} {held : Bool} {fuel : Nat} {cs : List Value} {x : DataW H × List MemPlace}
theorem cellsU8 : Try.prog.cellsOf 5 = 1 := by kernel_rfl
theorem byteV_of (z : Int) (h0 : 0 ≤ z) (h1 : z ≤ 255) : Value.int .u8 z = byteV (UInt8.ofNat z.toNat) := by
  unfold byteV
  congr 1
  rw [UInt8.toNat_ofNat']
  omega
theorem rd_bytes (h : DataW.trod enc Try.prog w base spare held fuel 22 cs = some x) : ∃ A n c bs, cs = [.slice A n c] ∧ RB w A n bs ∧ n ≤ 9223372036854775807 := by
  rcases open_ints Try.underlying22 Try.underlying5 cellsU8 h with ⟨rfl, _⟩ | ⟨a, len, cap, zs, rfl, _, hl, hm, hz, _, hcell, hwf⟩
  · exact ⟨none, 0, 0, [], rfl, ⟨rfl, fun h => absurd h (by omega)⟩, by omega⟩
  · have hlen : len ≤ zs.length := by rw [hz]; split <;> omega
    have hw : ∀ z ∈ zs, 0 ≤ z ∧ z ≤ 255 := fun z hz => by
      have h := hwf z hz
      have h1 : IntKind.u8.min = 0 := by decide
      have h2 : IntKind.u8.max = 255 := by decide
      simp [Lit.wf] at h
      omega
    refine ⟨some a, len, cap, (zs.take len).map (fun z => UInt8.ofNat z.toNat), rfl, ⟨by simp; omega, fun h0 => ⟨a, rfl, ?_, fun j u hu => ?_⟩⟩, by simp only [maxLen] at hm; omega⟩
    · have := World.block_lt_of_cell? w _ (hcell 0 (by omega)); rwa [block_of_add] at this
    · rw [List.getElem?_map, List.getElem?_take] at hu
      split at hu
      · have hj : j < zs.length := by omega
        rw [List.getElem?_eq_getElem hj] at hu
        have hu' : UInt8.ofNat zs[j].toNat = u := by simpa using hu
        obtain ⟨z0, z1⟩ := hw zs[j] (List.getElem_mem _)
        rw [hcell j hj, ← hu', ← byteV_of _ z0 z1]
        simp [List.getD, List.getElem?_eq_getElem hj]
      · simp at hu
end
end Go.Proofs.Ytcapccadpbiecaa

namespace Go.Proofs.Ytcapccadpbiecaa.fnDivided
open Go.ChangeShapes Go.WideShapes Go.ChangeAt Go.RowKit
theorem own : ownKnob Try.prog.godebug = none := by kernel_rfl
theorem laidOut : laidOutB Try.prog = true := by kernel_rfl
set_option maxRecDepth 100000 in
theorem contract (H : Type) (enc : TypeId × Value → H) (W : World) (base : Nat) (args : Array Value) (ds gs : List (DataW H)) (before : List MemPlace)
    (hval : ∀ (j : Nat) t v, Try.f3.params[j]? = some t → args[j]? = some v → Value.okWide Try.prog W .any base t v)
    (hW : DataW.Whole enc Try.prog Try.f3.params.toList Rows.fnDividedSpec.vars false W args.toList ds gs before) :
    Calls Try.prog 3 args W fun e W' => ∃ v, e = .returned v ∧ Rows.fnDividedSpec.post enc Try.prog Try.f3 false true false false W args v W' := by
  have hW' := hW
  obtain ⟨p, q, hA0, hV, rfl, hfz, hnd⟩ := hW
  have hA : DataW.TrodAll enc Try.prog W 0 (fun _ => true) true Try.f3.params.toList args.toList ds p := hA0
  rw [Try.params3] at hA hval
  obtain ⟨v0, vs0, d0, ds0, p0, q0, hargs, rfl, rfl, h0, r0⟩ := trodAll_cons hA
  obtain ⟨rfl, rfl, rfl⟩ := trodAll_nil r0
  obtain rfl : args = #[v0] := by cases args; simp_all
  obtain ⟨rfl, rfl⟩ := trodVars_none hV
  clear hA0
  simp only [List.append_nil] at hW'
  have hlt : ∀ x ∈ p0, x.block < W.heap.size := fun x hx => by
    have := hW'.lt x (by simpa using hx)
    simpa using this
  obtain ⟨Y0A, Y0n, Y0c, rfl⟩ := okWide_slice Try.underlying22 (hval 0 _ _ rfl rfl)
  have t0 := h0
  obtain ⟨fuel0, hf0⟩ := h0
  obtain ⟨QA0, Qn0, Qc0, Y0xs, hcs0, hr0, hn0⟩ := rd_bytes hf0
  obtain ⟨rfl, rfl, rfl⟩ : QA0 = Y0A ∧ Qn0 = Y0n ∧ Qc0 = Y0c := by
    have : [Value.slice Y0A Y0n Y0c] = [.slice QA0 Qn0 Qc0] := hcs0
    injection this with this
    injection this with e1 e2 e3
    exact ⟨e1.symm, e2.symm, e3.symm⟩
  have walk : Calls Try.prog 3 #[.slice QA0 Qn0 Qc0] W fun e w' => e = .returned (.bool true) ∧ Below W.heap.size W w' :=
    law_Divided QA0 Qn0 Qc0 Y0xs W hr0 hn0 
  refine walk.mono fun e W' ⟨he, hb⟩ => ?_
  subst he
  have u0 := Below.trod laidOut (by kernel_rfl) (of_decide_eq_true (by kernel_rfl)) t0 hb hlt
  exact ⟨_, rfl, [d0], [], p0 ++ [], [], p0 ++ [], [], by simpa using hW', trodAll_cons_mk (shut_bool Try.underlying4 _) trodAll_mk0, (trodAll_cons_mk u0 trodAll_mk0), rfl, hb.frame _, fun h => by cases h⟩
theorem reads (os : Os) {H : Type} (enc : TypeId × Value → H) : ∃ places, DataW.whole enc Try.prog ((World.holding Try.prog os ⟨#[], #[], []⟩).forCall (fun _ _ => 0) ⟨#[], #[.slice none 0 0], []⟩).memory Try.f3.params.toList Rows.fnDividedSpec.vars false (#[.slice none 0 0] : Array Value).toList 8 = some ([.nil], [], places) :=
  ⟨[], by kernel_rfl⟩
set_option maxRecDepth 100000 in
theorem lifted (os : Os) (started : os.Started) (H : Type) (enc : TypeId × Value → H) (F : Stop.Interp) :
    ReturnsInHanded {} Try.checked os 3 .any ((OpenSpec.ofChange Rows.fnDividedSpec).preRow enc Try.prog Try.f3 Rows.fnDividedRow.domain false Rows.fnDividedRow.laid) (((OpenSpec.ofChange Rows.fnDividedSpec).at F).post enc Try.prog Try.f3 false true false false) := by
  obtain ⟨places, hx⟩ := reads os enc
  refine returnsInHanded_of_row (C := Try.checked) (s := OpenSpec.ofChange Rows.fnDividedSpec) own started (by kernel_rfl) Try.func3
    (witness_row_at (enc := enc) (C := Try.checked) false (World.holding Try.prog os ⟨#[], #[], []⟩) #[.slice none 0 0] rfl (by kernel_rfl) (by kernel_rfl) (by kernel_rfl)
      (OpenSpec.preRow_of_cond 8 hx (by kernel_rfl) (fun k hk => by cases hk) (by kernel_rfl) (laidMet_of_run' 8 (by kernel_rfl) (by kernel_rfl)))) ?_
  intro W base args ds gs before hval hW _ _ _ _ _ _
  exact contract H enc W base args ds gs before hval hW
theorem said : Rows.FnDividedSaid :=
  OpenClaim.holds_of_cond 3 Try.f3 rfl rfl rfl rfl rfl rfl rfl ⟨rfl, rfl, rfl, rfl, rfl⟩ rfl rfl rfl rfl rfl (by kernel_rfl) Try.func3 (by kernel_rfl)
    (of_decide_eq_true (by kernel_rfl)) (by unfold Func.isWrapper; first | (rw [if_pos (by decide +kernel)]; kernel_rfl) | (rw [if_neg (by decide +kernel)]; exact ⟨rfl, rfl⟩))
    (fun os started H enc _ F => by rw [OpenClaim.pre_eq_preRow]; exact lifted os started H enc F)
end Go.Proofs.Ytcapccadpbiecaa.fnDivided
