/- For every input the law FnProofs returns true and leaves its arguments as they were: factors with a proof keep their promise for all inputs, and a shortest program keeps its promise and is no longer than asked. No condition. -/
import Derived.Test.YtkfbfainhmkkdaaGreatZC1
import Derived.Test.YtkfbfainhmkkdaaGreatZC2
import Derived.Test.YtkfbfainhmkkdaaGreatZC3
import Derived.Test.YtkfbfainhmkkdaaGreatZC4
import Derived.Test.YtkfbfainhmkkdaaGreatZC5
import Derived.Test.YtkfbfainhmkkdaaGreatZC6
import Derived.Test.YtkfbfainhmkkdaaGreatZC7
import Derived.Test.YtkfbfainhmkkdaaGreatZC8
import Derived.Test.YtkfbfainhmkkdaaGreatZC9
import Derived.Test.YtkfbfainhmkkdaaGreatZC10
import Derived.Test.YtkfbfainhmkkdaaGreatZC11
import Derived.Test.YtkfbfainhmkkdaaGreatZC12
import Derived.ProofKit
import Derived.Carry
import Derived.OpenShut
import Derived.ChangeMaps5
import Derived.Deep.DeepHandedRow
import Derived.Lib.LaidTab
namespace Go.Proofs.YtkfbfainhmkkdaaGreat
open Go.RowKit Go.Sort
set_option maxRecDepth 100000 in
set_option maxHeartbeats 6400000 in
theorem law_Proofs (A : Option Addr) (n c : Nat) (bs : List UInt8) (w : World) (hb : RB w A n bs) (hn : n ≤ 9223372036854775807) :
    Calls Tryz.prog 5 #[.slice A n c] w fun e w' => e = .returned (.bool true) ∧ Below w.heap.size w w' := by
  have KF := Lib.hid (DrawFactorProofs_any A n c bs w hb hn)
  have KS := Lib.hid (fun W (hW : Below w.heap.size w W) => DrawShortestFor_any A n c bs W (hb.below hW) hn)
  have KI := Lib.hid (fun W (hW : Below w.heap.size w W) => DrawInputAt_any A n c bs W (hb.below hW) hn)
  have KO := Lib.hid (fun W (hW : Below w.heap.size w W) => DrawInputsOf_any A n c bs W (hb.below hW) hn)
  clear hb
  have KG := (fun W => f6bigP_any A n c W)
  obtain ⟨bg, hbg⟩ : ∃ b, decide ((n : Int) > 4096) = b := ⟨_, rfl⟩
  rw [hbg] at KG
  replace KG := Lib.hid KG
  clear hbg
  rcases bg with _ | _
  rotate_left
  · go_enter Tryz.func5, Tryz.ntmps5
    go_wp2_with (go_at_call 6; refine (KG.out _).mono ?_; rintro e w' ⟨rfl, hww⟩; obtain rfl := hww.symm)
    go_ret
    exact ⟨rfl, Below.refl _ _⟩
  go_enter Tryz.func5, Tryz.ntmps5
  go_wp2_with (go_at_call 6; refine (KG.out _).mono ?_; rintro e w' ⟨rfl, hww⟩; obtain rfl := hww.symm)
  refine KF.out.mono ?_; rintro e w1 ⟨x1, x2, x3, x4, x5, sh, rfl, hw1⟩
  have K1 := (Kn.nil w).keep hw1
  clear KF hw1
  have KA := Lib.hid (fun W => FactorProofs_any x1 x2 x3 x4 x5 sh W)
  have KB := Lib.hid (fun W => specFactorProofs_any x1 x2 x3 x4 x5 sh W)
  have HP := Lib.hid (fun (h : fpC x1 x2 x3 x4 x5 = 0) (f : Int) (hf : f ∈ fpL x1 x2 x3 x4 x5 sh) => fp_law h hf)
  have HPL := Lib.hid (fpL_len x1 x2 x3 x4 x5 sh)
  unfold FPRet at KA KB
  obtain ⟨pl, hpl⟩ : ∃ v, fpL x1 x2 x3 x4 x5 sh = v := ⟨_, rfl⟩
  obtain ⟨pc, hpc⟩ : ∃ v, fpC x1 x2 x3 x4 x5 = v := ⟨_, rfl⟩
  simp only [hpl, hpc] at KA KB HP HPL
  clear hpl hpc
  go_wp2_with fail
  refine (KA.out _).mono ?_; rintro e w2 ⟨LA, lc, rfl, hK⟩
  have K2 : Kn w [rowI LA lc pl] w2 := K1.join hK
  clear KA hK K1
  go_wp2_with fail
  refine (KB.out _).mono ?_; rintro e w3 ⟨MA, mc, rfl, hK⟩
  have K3 : Kn w [rowI MA mc pl, rowI LA lc pl] w3 := K2.join hK
  clear KB hK K2
  go_wp2_with fail
  refine (KS.out _ K3.below).mono ?_; rintro e w4 ⟨y1, y2, y3, y4, y5, y6, y7, rfl, hw⟩
  have K4 := K3.keep hw
  clear KS hw K3
  have KA := Lib.hid (fun W => ShortestFor_any y1 y2 y3 y4 y5 y6 y7 W)
  have KB := Lib.hid (fun W => specShortestFor_any y1 y2 y3 y4 y5 y6 y7 W)
  have HS := Lib.hid (fun (h : sfC y1 y2 y3 y4 y5 y6 y7 = 0) => sf_law h)
  have HSL := Lib.hid (sfL_len y1 y2 y3 y4 y5 y6 y7)
  unfold SFRet at KA KB
  obtain ⟨ql, hql⟩ : ∃ v, sfL y1 y2 y3 y4 y5 y6 y7 = v := ⟨_, rfl⟩
  obtain ⟨qc, hqc⟩ : ∃ v, sfC y1 y2 y3 y4 y5 y6 y7 = v := ⟨_, rfl⟩
  simp only [hql, hqc] at KA KB HS HSL
  clear hql hqc
  go_wp2_with fail
  refine (KA.out _).mono ?_; rintro e w5 ⟨PA, pc1, rfl, hK⟩
  have K5 : Kn w [rowIns (.slice PA ql.length pc1) ql, rowI MA mc pl, rowI LA lc pl] w5 := K4.join hK
  clear KA hK K4
  go_wp2_with fail
  refine (KB.out _).mono ?_; rintro e w6 ⟨PB, pc2, rfl, hK⟩
  have K6 : Kn w [rowIns (.slice PB ql.length pc2) ql, rowIns (.slice PA ql.length pc1) ql, rowI MA mc pl, rowI LA lc pl] w6 := K5.join hK
  clear KB hK K5
  go_wp2_with fail
  refine (KI.out _ K6.below).mono ?_; rintro e w7 ⟨z1, z2, z3, z4, z5, rfl, hw⟩
  have K7 := K6.keep hw
  clear KI hw K6
  have KA := Lib.hid (fun W => InputAt_any z1 z2 z3 z4 z5 W)
  have KB := Lib.hid (fun W => specInputAt_any z1 z2 z3 z4 z5 W)
  unfold IARet at KA KB
  obtain ⟨M, hM⟩ : ∃ v, iaM z1 z2 z3 z4 z5 = v := ⟨_, rfl⟩
  obtain ⟨ic, hic⟩ : ∃ v, iaC z1 z2 z3 z4 z5 = v := ⟨_, rfl⟩
  simp only [hM, hic] at KA KB
  clear hM hic
  go_wp2_with fail
  refine (KA.out _).mono ?_; rintro e w8 ⟨E1, f1, E2, f2, E3, f3, rfl, hK⟩
  have K8 := K7.join hK
  clear KA hK K7
  obtain ⟨g2, hg2⟩ : ∃ g, w8.heap.size = g := ⟨_, rfl⟩
  go_wp2_with fail
  refine Calls.kn (K8.al [.int .i64 M.a.base, .slice E1 M.a.digits.length f1, .int .i64 M.b.base, .slice E2 M.b.digits.length f2, .int .i64 M.s.base, .slice E3 M.s.digits.length f3, .int .i64 M.carry] 28) ?_; intro w9 K9
  rw [hg2] at K9
  try rw [hg2]
  clear K8 hg2
  refine (KB.out _).mono ?_; rintro e w10 ⟨G1, h1, G2, h2, G3, h3, rfl, hK⟩
  have K10 := K9.join hK
  clear KB hK K9
  obtain ⟨g3, hg3⟩ : ∃ g, w10.heap.size = g := ⟨_, rfl⟩
  go_wp2_with fail
  refine Calls.kn (K10.al [.int .i64 M.a.base, .slice G1 M.a.digits.length h1, .int .i64 M.b.base, .slice G2 M.b.digits.length h2, .int .i64 M.s.base, .slice G3 M.s.digits.length h3, .int .i64 M.carry] 28) ?_; intro w11 K11
  rw [hg3] at K11
  try rw [hg3]
  clear K10 hg3
  refine (KO.out _ K11.below).mono ?_; rintro e w12 ⟨u1, u2, u3, rfl, hw⟩
  have K12 := K11.keep hw
  clear KO hw K11
  have KA := Lib.hid (fun W => InputsOf_any u1 u2 u3 W)
  have KB := Lib.hid (fun W => specInputsOf_any u1 u2 u3 W)
  obtain ⟨ov, hov⟩ : ∃ v, ioV u1 u2 u3 = v := ⟨_, rfl⟩
  obtain ⟨oc, hoc⟩ : ∃ v, inC u1 u2 u3 1 = v := ⟨_, rfl⟩
  simp only [hov, hoc] at KA KB
  clear hov hoc
  go_wp2_with fail
  refine (KA.out _).mono ?_; rintro e w13 ⟨rfl, hw⟩
  have K13 := K12.keep hw
  clear KA hw K12
  go_wp2_with fail
  refine (KB.out _).mono ?_; rintro e w14 ⟨rfl, hw⟩
  have K14 := K13.keep hw
  clear KB hw K13
  go_wp2_with fail
  have hfi := f6ints_any LA MA pl.length lc pl.length mc pl pl w14 (K14.front 11 rfl).riv (K14.front 10 rfl).riv (by have := HPL.out; omega) (by have := HPL.out; omega)
  rw [show decide (pl = pl) = true from decide_eq_true rfl] at hfi
  refine hfi.mono ?_; rintro e w15 ⟨rfl, q, rfl⟩
  have K15 := K14.drewN q
  generalize w14.drewN q = w15 at K15 ⊢
  clear hfi K14
  go_wp2_with fail
  have i1 := (Kn.rlIns (K15.front 9 rfl)).2
  have i2 := (Kn.rlIns (K15.front 8 rfl)).2
  refine (f6instrs_same PA PB ql.length pc1 pc2 ql w15 i1 i2 (by have := HSL.out; omega)).mono ?_; rintro e w16 ⟨rfl, hw⟩
  have K16 := K15.keep hw
  clear K15 hw i1 i2
  obtain ⟨a1, a2, a3, -⟩ := (K16.front 4 rfl).cells
  obtain ⟨b1, b2, b3, -⟩ := (K16.front 0 rfl).cells
  go_wp2_with fail
  have hsm : SmallTri M := ⟨Kn.rowSmall (K16.front 7 rfl), Kn.rowSmall (K16.front 6 rfl), Kn.rowSmall (K16.front 5 rfl)⟩
  have hsame := specSameMachine_any M M E1 E2 E3 G1 G2 G3 f1 f2 f3 h1 h2 h3 w16 (K16.front 7 rfl).riv (K16.front 6 rfl).riv (K16.front 5 rfl).riv (K16.front 3 rfl).riv (K16.front 2 rfl).riv (K16.front 1 rfl).riv hsm hsm
  rw [sameM_refl] at hsame
  refine hsame.mono ?_; rintro e w17 ⟨rfl, hw⟩
  have K17 := (K16.keep hw).sel [9, 10] 99 (by decide) (by decide)
  clear K16 hw hsame hsm a1 a2 a3 b1 b2 b3
  go_upto_region 17 with fail
  have i1 := (Kn.rlIns (K17.front 0 rfl)).2
  by_cases hq : qc = 0
  · obtain ⟨hf, hlen⟩ := HS.out hq
    have KFF := FirstFailure_any (L := ql) (n := ql.length) (lc := pc1) (LA := PA) y1 y2 y3 y4 y5 y6 w17 i1 (by have := HSL.out; omega)
    unfold FFRet at KFF
    rw [hf] at KFF
    obtain ⟨fv, hfv⟩ : ∃ v, ffV y1 y2 y3 y4 ql y5 y6 = v := ⟨_, rfl⟩
    rw [hfv] at KFF
    have KFF := Lib.hid KFF
    have hl2 : ¬ (ql.length : Int) > y7 := by omega
    subst hq
    clear hf hlen hfv i1 HS HSL
    go_wp2_with fail
    refine KFF.out.mono ?_; rintro e w18 ⟨rfl, hw⟩
    have K18 := (K17.keep hw).sel [1] 99 (by decide) (by decide)
    clear K17 hw KFF
    go_upto_region 21 with fail
    by_cases hp : pc = 0
    · have HF := Lib.hid (HP.out hp)
      have hpb := HPL.out
      clear HP HPL
      subst hp
      go_wp2_with fail
      go_loopw [42] (fun ii wr => ∃ k : Nat, k ≤ pl.length ∧ ii = .int .i64 k ∧ Kn w [rowI MA mc pl] wr) (fun ii _ => pl.length - (intOf ii).toNat)
      case atStart => exact ⟨0, Nat.zero_le _, rfl, K18⟩
      case round =>
        obtain ⟨k, hk, rfl, hK⟩ := hrel
        clear K18
        by_cases hkn : k < pl.length
        · obtain ⟨ad, hA, hlt, hkl, hc⟩ := hK.riv.at_ hkn
          obtain ⟨q1, q2⟩ := HF.out _ (List.getElem_mem hkl)
          obtain ⟨f, hf⟩ : ∃ f, pl[k] = f := ⟨_, rfl⟩
          rw [hf] at hc q1 q2
          have KM := (fun W => (MultiplyProgram_any x1 f sh W).mono (fun e w' h => show ∃ A c, e = _ ∧ Kn W _ w' from h.elim (fun h => absurd (q1.symm.trans h.1) (by decide)) (fun h => h.2)))
          have KFF := (fun (LA : Option Addr) (lc : Nat) W (i1 : RL InsM 2 W LA (mulP (turnL sh x1 f)).length (mulP (turnL sh x1 f))) hl => FirstFailure_any (L := mulP (turnL sh x1 f)) (n := (mulP (turnL sh x1 f)).length) (lc := lc) (LA := LA) x1 x2 x3 x4 1 f W i1 hl)
          unfold FFRet at KFF
          have hLl : (mulP (turnL sh x1 f)).length ≤ 120 := by
            obtain ⟨t1, t2, t3, t4⟩ := (trnC_cases x1 f).elim (fun h2 => absurd (h2.symm.trans q1) (by decide)) (fun h => h.2)
            exact vprog_len (mulP_ok t1 t2 t3 t4)
          obtain ⟨L, hL⟩ : ∃ L, mulP (turnL sh x1 f) = L := ⟨_, rfl⟩
          rw [hL] at KM KFF q2 hLl
          rw [q2] at KFF
          obtain ⟨fv, hfv⟩ : ∃ v, ffV x1 x2 x3 x4 L 1 f = v := ⟨_, rfl⟩
          rw [hfv] at KFF
          have KM := Lib.hid KM
          have KFF := Lib.hid KFF
          have hi0 : (0 : Int) ≤ (k : Int) := by omega
          have hi1 : (k : Int) < (pl.length : Int) := by omega
          clear q1 q2 hfv hL
          subst hA
          go_wp2_with fail
          refine (KM.out _).mono ?_; rintro e w20 ⟨LB, lb, rfl, hKn⟩
          have K20 := hK.join hKn
          clear hKn KM hK hc
          obtain ⟨ad2, hA2, hlt2, hkl2, hc2⟩ := (K20.front 1 rfl).riv.at_ hkn
          obtain rfl : ad = ad2 := by injection hA2
          rw [hf] at hc2
          go_wp2_with fail
          refine (KFF.out _ _ _ (Kn.rlIns K20).2 (by omega)).mono ?_; rintro e w21 ⟨rfl, hw⟩
          have K21 := (K20.keep hw).sel [1] 99 (by decide) (by decide)
          clear K20 hw hc2 KFF
          go_wp2_with fail
          go_roundw
          case rel => exact ⟨k + 1, by omega, by go_num, K21⟩
          case measure => simp [intOf]; omega
        · have hi1 : ¬ (k : Int) < (pl.length : Int) := by omega
          go_wp2_with fail
          go_ret
          exact ⟨rfl, hK.below⟩
    · have hp1 : (pc != 0) = true := by simpa using hp
      have hp2 : (pc == 0) = false := by simpa using hp
      clear HP
      go_wp2_with fail
      go_ret
      exact ⟨rfl, K18.below⟩
  · have hq1 : (qc == 0) = false := by simpa using hq
    have K18 := K17.sel [1] 99 (by decide) (by decide)
    clear HS HSL i1 K17
    go_upto_region 21 with fail
    by_cases hp : pc = 0
    · have HF := Lib.hid (HP.out hp)
      have hpb := HPL.out
      clear HP HPL
      subst hp
      go_wp2_with fail
      go_loopw [42] (fun ii wr => ∃ k : Nat, k ≤ pl.length ∧ ii = .int .i64 k ∧ Kn w [rowI MA mc pl] wr) (fun ii _ => pl.length - (intOf ii).toNat)
      case atStart => exact ⟨0, Nat.zero_le _, rfl, K18⟩
      case round =>
        obtain ⟨k, hk, rfl, hK⟩ := hrel
        clear K18
        by_cases hkn : k < pl.length
        · obtain ⟨ad, hA, hlt, hkl, hc⟩ := hK.riv.at_ hkn
          obtain ⟨q1, q2⟩ := HF.out _ (List.getElem_mem hkl)
          obtain ⟨f, hf⟩ : ∃ f, pl[k] = f := ⟨_, rfl⟩
          rw [hf] at hc q1 q2
          have KM := (fun W => (MultiplyProgram_any x1 f sh W).mono (fun e w' h => show ∃ A c, e = _ ∧ Kn W _ w' from h.elim (fun h => absurd (q1.symm.trans h.1) (by decide)) (fun h => h.2)))
          have KFF := (fun (LA : Option Addr) (lc : Nat) W (i1 : RL InsM 2 W LA (mulP (turnL sh x1 f)).length (mulP (turnL sh x1 f))) hl => FirstFailure_any (L := mulP (turnL sh x1 f)) (n := (mulP (turnL sh x1 f)).length) (lc := lc) (LA := LA) x1 x2 x3 x4 1 f W i1 hl)
          unfold FFRet at KFF
          have hLl : (mulP (turnL sh x1 f)).length ≤ 120 := by
            obtain ⟨t1, t2, t3, t4⟩ := (trnC_cases x1 f).elim (fun h2 => absurd (h2.symm.trans q1) (by decide)) (fun h => h.2)
            exact vprog_len (mulP_ok t1 t2 t3 t4)
          obtain ⟨L, hL⟩ : ∃ L, mulP (turnL sh x1 f) = L := ⟨_, rfl⟩
          rw [hL] at KM KFF q2 hLl
          rw [q2] at KFF
          obtain ⟨fv, hfv⟩ : ∃ v, ffV x1 x2 x3 x4 L 1 f = v := ⟨_, rfl⟩
          rw [hfv] at KFF
          have KM := Lib.hid KM
          have KFF := Lib.hid KFF
          have hi0 : (0 : Int) ≤ (k : Int) := by omega
          have hi1 : (k : Int) < (pl.length : Int) := by omega
          clear q1 q2 hfv hL
          subst hA
          go_wp2_with fail
          refine (KM.out _).mono ?_; rintro e w20 ⟨LB, lb, rfl, hKn⟩
          have K20 := hK.join hKn
          clear hKn KM hK hc
          obtain ⟨ad2, hA2, hlt2, hkl2, hc2⟩ := (K20.front 1 rfl).riv.at_ hkn
          obtain rfl : ad = ad2 := by injection hA2
          rw [hf] at hc2
          go_wp2_with fail
          refine (KFF.out _ _ _ (Kn.rlIns K20).2 (by omega)).mono ?_; rintro e w21 ⟨rfl, hw⟩
          have K21 := (K20.keep hw).sel [1] 99 (by decide) (by decide)
          clear K20 hw hc2 KFF
          go_wp2_with fail
          go_roundw
          case rel => exact ⟨k + 1, by omega, by go_num, K21⟩
          case measure => simp [intOf]; omega
        · have hi1 : ¬ (k : Int) < (pl.length : Int) := by omega
          go_wp2_with fail
          go_ret
          exact ⟨rfl, hK.below⟩
    · have hp1 : (pc != 0) = true := by simpa using hp
      have hp2 : (pc == 0) = false := by simpa using hp
      clear HP
      go_wp2_with fail
      go_ret
      exact ⟨rfl, K18.below⟩
end Go.Proofs.YtkfbfainhmkkdaaGreat

namespace Go.Proofs.YtkfbfainhmkkdaaGreat
open Go.RowKit Go.ChangeShapes Go.WideShapes Go.ChangeAt
section
variable {H : Type} {enc : TypeId × Value → H} {w : World} {base : Nat} {spare : Nat → Bool} {held : Bool} {fuel : Nat} {cs : List Value} {x : DataW H × List MemPlace}
theorem cellsU8 : Tryz.prog.cellsOf 5 = 1 := by kernel_rfl
theorem byteV_of (z : Int) (h0 : 0 ≤ z) (h1 : z ≤ 255) : Value.int .u8 z = byteV (UInt8.ofNat z.toNat) := by
  unfold byteV
  congr 1
  rw [UInt8.toNat_ofNat']
  omega
theorem rd_bytes (h : DataW.trod enc Tryz.prog w base spare held fuel 22 cs = some x) : ∃ A n c bs, cs = [.slice A n c] ∧ RB w A n bs ∧ n ≤ 9223372036854775807 := by
  rcases open_ints Tryz.underlying22 Tryz.underlying5 cellsU8 h with ⟨rfl, _⟩ | ⟨a, len, cap, zs, rfl, _, hl, hm, hz, _, hcell, hwf⟩
  · exact ⟨none, 0, 0, [], rfl, ⟨rfl, fun h => absurd h (by omega)⟩, by omega⟩
  · have hlen : len ≤ zs.length := by rw [hz]; split <;> omega
    have hw : ∀ z ∈ zs, 0 ≤ z ∧ z ≤ 255 := fun z hz => by
      have h := hwf z hz
      have h1 : IntKind.u8.min = 0 := by decide
      have h2 : IntKind.u8.max = 255 := by decide
      simp [Lit.wf] at h
      omega
    refine ⟨some a, len, cap, (zs.take len).map (fun z => UInt8.ofNat z.toNat), rfl, ⟨by simp; omega, fun h0 => ⟨a, rfl, ?_, fun j u hu => ?_⟩⟩, by simp only [maxLen] at hm; omega⟩
    · have := World.block_lt_of_cell? w _ (hcell 0 (by omega)); rwa [block_of_add] at this
    · rw [List.getElem?_map, List.getElem?_take] at hu
      split at hu
      · have hj : j < zs.length := by omega
        rw [List.getElem?_eq_getElem hj] at hu
        have hu' : UInt8.ofNat zs[j].toNat = u := by simpa using hu
        obtain ⟨z0, z1⟩ := hw zs[j] (List.getElem_mem _)
        rw [hcell j hj, ← hu', ← byteV_of _ z0 z1]
        simp [List.getD, List.getElem?_eq_getElem hj]
      · simp at hu
end
end Go.Proofs.YtkfbfainhmkkdaaGreat

namespace Go.Proofs.YtkfbfainhmkkdaaGreat.fnProofs
open Go.ChangeShapes Go.WideShapes Go.ChangeAt Go.RowKit
theorem own : ownKnob Tryz.prog.godebug = none := by kernel_rfl
theorem laidOut : laidOutB Tryz.prog = true := by kernel_rfl
set_option maxRecDepth 100000 in
theorem contract (H : Type) (enc : TypeId × Value → H) (W : World) (base : Nat) (args : Array Value) (ds gs : List (DataW H)) (before : List MemPlace)
    (hval : ∀ (j : Nat) t v, Tryz.f5.params[j]? = some t → args[j]? = some v → Value.okWide Tryz.prog W .any base t v)
    (hW : DataW.Whole enc Tryz.prog Tryz.f5.params.toList Rows.fnProofsSpec.vars false W args.toList ds gs before) :
    Calls Tryz.prog 5 args W fun e W' => ∃ v, e = .returned v ∧ Rows.fnProofsSpec.post enc Tryz.prog Tryz.f5 false true false false W args v W' := by
  have hW' := hW
  obtain ⟨p, q, hA0, hV, rfl, hfz, hnd⟩ := hW
  have hA : DataW.TrodAll enc Tryz.prog W 0 (fun _ => true) true Tryz.f5.params.toList args.toList ds p := hA0
  rw [Tryz.params5] at hA hval
  obtain ⟨v0, vs0, d0, ds0, p0, q0, hargs, rfl, rfl, h0, r0⟩ := trodAll_cons hA
  obtain ⟨rfl, rfl, rfl⟩ := trodAll_nil r0
  obtain rfl : args = #[v0] := by cases args; simp_all
  obtain ⟨rfl, rfl⟩ := trodVars_none hV
  clear hA0
  simp only [List.append_nil] at hW'
  have hlt : ∀ x ∈ p0, x.block < W.heap.size := fun x hx => by
    have := hW'.lt x (by simpa using hx)
    simpa using this
  obtain ⟨Y0A, Y0n, Y0c, rfl⟩ := okWide_slice Tryz.underlying22 (hval 0 _ _ rfl rfl)
  have t0 := h0
  obtain ⟨fuel0, hf0⟩ := h0
  obtain ⟨QA0, Qn0, Qc0, Y0xs, hcs0, hr0, hn0⟩ := rd_bytes hf0
  obtain ⟨rfl, rfl, rfl⟩ : QA0 = Y0A ∧ Qn0 = Y0n ∧ Qc0 = Y0c := by
    have : [Value.slice Y0A Y0n Y0c] = [.slice QA0 Qn0 Qc0] := hcs0
    injection this with this
    injection this with e1 e2 e3
    exact ⟨e1.symm, e2.symm, e3.symm⟩
  have walk : Calls Tryz.prog 5 #[.slice QA0 Qn0 Qc0] W fun e w' => e = .returned (.bool true) ∧ Below W.heap.size W w' :=
    law_Proofs QA0 Qn0 Qc0 Y0xs W hr0 hn0 
  refine walk.mono fun e W' ⟨he, hb⟩ => ?_
  subst he
  have u0 := Below.trod laidOut (by kernel_rfl) (of_decide_eq_true (by kernel_rfl)) t0 hb hlt
  exact ⟨_, rfl, [d0], [], p0 ++ [], [], p0 ++ [], [], by simpa using hW', trodAll_cons_mk (shut_bool Tryz.underlying4 _) trodAll_mk0, (trodAll_cons_mk u0 trodAll_mk0), rfl, hb.frame _, fun h => by cases h⟩
theorem reads (os : Os) {H : Type} (enc : TypeId × Value → H) : ∃ places, DataW.whole enc Tryz.prog ((World.holding Tryz.prog os ⟨#[], #[], []⟩).forCall (fun _ _ => 0) ⟨#[], #[.slice none 0 0], []⟩).memory Tryz.f5.params.toList Rows.fnProofsSpec.vars false (#[.slice none 0 0] : Array Value).toList 8 = some ([.nil], [], places) :=
  ⟨[], by kernel_rfl⟩
set_option maxRecDepth 100000 in
theorem lifted (os : Os) (started : os.Started) (H : Type) (enc : TypeId × Value → H) (F : Stop.Interp) :
    ReturnsInHanded {} Tryz.checked os 5 .any ((OpenSpec.ofChange Rows.fnProofsSpec).preRow enc Tryz.prog Tryz.f5 Rows.fnProofsRow.domain false Rows.fnProofsRow.laid) (((OpenSpec.ofChange Rows.fnProofsSpec).at F).post enc Tryz.prog Tryz.f5 false true false false) := by
  obtain ⟨places, hx⟩ := reads os enc
  refine returnsInHanded_of_row (C := Tryz.checked) (s := OpenSpec.ofChange Rows.fnProofsSpec) own started (by kernel_rfl) Tryz.func5
    (witness_row_at (enc := enc) (C := Tryz.checked) false (World.holding Tryz.prog os ⟨#[], #[], []⟩) #[.slice none 0 0] rfl (by kernel_rfl) (by kernel_rfl) (by kernel_rfl)
      (OpenSpec.preRow_of_cond 8 hx (by kernel_rfl) (fun k hk => by cases hk) (by kernel_rfl) (laidMet_of_run' 8 (by kernel_rfl) (by kernel_rfl)))) ?_
  intro W base args ds gs before hval hW _ _ _ _ _ _
  exact contract H enc W base args ds gs before hval hW
theorem said : Rows.FnProofsSaid :=
  OpenClaim.holds_of_cond 5 Tryz.f5 rfl rfl rfl rfl rfl rfl rfl ⟨rfl, rfl, rfl, rfl, rfl⟩ rfl rfl rfl rfl rfl (by kernel_rfl) Tryz.func5 (by kernel_rfl)
    (of_decide_eq_true (by kernel_rfl)) (by unfold Func.isWrapper; first | (rw [if_pos (by decide +kernel)]; kernel_rfl) | (rw [if_neg (by decide +kernel)]; exact ⟨rfl, rfl⟩))
    (fun os started H enc _ F => by rw [OpenClaim.pre_eq_preRow]; exact lifted os started H enc F)
end Go.Proofs.YtkfbfainhmkkdaaGreat.fnProofs
