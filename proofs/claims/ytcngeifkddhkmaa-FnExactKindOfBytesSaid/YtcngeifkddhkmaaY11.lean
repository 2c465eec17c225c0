import Derived.Test.YtcngeifkddhkmaaY10
import Derived.Test.YtcngeifkddhkmaaM2
import Derived.Deep.DeepCutAuto
namespace Go.Proofs.Ytcngeifkddhkmaa
open Go.RowKit Go.Sort
/-- a machine as sealed bytes -/
def packM (t : Tri) : List UInt8 := sealB (77 :: toB t.carry :: (regB t.a.base t.a.digits ++ regB t.b.base t.b.digits ++ regB t.s.base t.s.digits))
theorem vmach_parts {t : Tri} (h : vmach t = true) : t.a.ok = true ∧ t.b.ok = true ∧ t.s.ok = true ∧ 0 ≤ t.carry ∧ t.carry ≤ 15 := by
  unfold vmach at h
  simp only [Bool.and_eq_true] at h
  obtain ⟨⟨⟨⟨h1, h2⟩, h3⟩, -⟩, -, h4⟩ := h
  have h5 := betB_iff.1 h4
  obtain ⟨-, -, p3⟩ := ok_bd h3
  unfold vplaces at h5
  exact ⟨h1, h2, h3, h5.1, by omega⟩
theorem KB_reg {r : Reg} (h : r.ok = true) {A : Option Addr} {c : Nat} {w : World} (hr : RI w A r.digits.length r.digits) :
    Calls Try.prog 151 #[.agg #[.int .i64 r.base, .slice A r.digits.length c]] w fun e w' => ∃ A' c', e = .returned (.slice A' (regB r.base r.digits).length c') ∧ OwnB w' w.heap.size (.slice A' (regB r.base r.digits).length c') (regB r.base r.digits) ∧ Below w.heap.size w w' := by
  obtain ⟨⟨b1, b2⟩, ⟨n1, n2⟩, hd, -⟩ := vreg_iff.1 h
  exact bytes_any r.base A r.digits.length c r.digits w hr b1 b2 (by omega) (by omega) hd
theorem regB_le {r : Reg} (h : r.ok = true) : 0 < (regB r.base r.digits).length ∧ (regB r.base r.digits).length ≤ 20 := by
  obtain ⟨-, ⟨n1, n2⟩, -, -⟩ := vreg_iff.1 h
  rw [regB_len]; omega
set_option maxRecDepth 100000 in
set_option maxHeartbeats 3200000 in
theorem PackMachine_true (t : Tri) (A1 A2 A3 : Option Addr) (c1 c2 c3 : Nat) (w : World) (r1 : RI w A1 t.a.digits.length t.a.digits) (r2 : RI w A2 t.b.digits.length t.b.digits) (r3 : RI w A3 t.s.digits.length t.s.digits) (hv : vmach t = true) :
    Calls Try.prog 130 #[.agg #[.int .i64 t.a.base, .slice A1 t.a.digits.length c1, .int .i64 t.b.base, .slice A2 t.b.digits.length c2, .int .i64 t.s.base, .slice A3 t.s.digits.length c3, .int .i64 t.carry]] w fun e w' => e = .returned (.tuple #[.string ⟨(packM t).toArray⟩, .int .i64 0]) ∧ Below w.heap.size w w' := by
  obtain ⟨k1, k2, k3, p1, p2⟩ := vmach_parts hv
  obtain ⟨-, -, q1⟩ := ok_bd k1
  obtain ⟨-, -, q2⟩ := ok_bd k2
  obtain ⟨-, -, q3⟩ := ok_bd k3
  have K0 := Lib.hid (fun W (hW : Below w.heap.size w W) => calls_val (ValidMachine_any t A1 A2 A3 c1 c2 c3 W (r1.below hW) (r2.below hW) (r3.below hW) ⟨by unfold SmallReg; omega, by unfold SmallReg; omega, by unfold SmallReg; omega⟩) (congrArg Value.bool hv))
  have K1 := (fun W (hW : Below w.heap.size w W) => KB_reg k1 (c := c1) (r1.below hW))
  have K2 := (fun W (hW : Below w.heap.size w W) => KB_reg k2 (c := c2) (r2.below hW))
  have K3 := (fun W (hW : Below w.heap.size w W) => KB_reg k3 (c := c3) (r3.below hW))
  have HPK : packM t = sealB (77 :: toB t.carry :: (regB t.a.base t.a.digits ++ regB t.b.base t.b.digits ++ regB t.s.base t.s.digits)) := rfl
  have y1 : IntKind.u8.wrap t.carry = t.carry := wrapB (by omega)
  obtain ⟨z1, z2⟩ := regB_le k1
  obtain ⟨z3, z4⟩ := regB_le k2
  obtain ⟨z5, z6⟩ := regB_le k3
  have HT := Lib.hid (show byteV (toB t.carry) = .int .u8 t.carry from (ofNat_byte (by omega) (by omega)).symm)
  obtain ⟨X1, hX1⟩ : ∃ X, regB t.a.base t.a.digits = X := ⟨_, rfl⟩
  obtain ⟨X2, hX2⟩ : ∃ X, regB t.b.base t.b.digits = X := ⟨_, rfl⟩
  obtain ⟨X3, hX3⟩ : ∃ X, regB t.s.base t.s.digits = X := ⟨_, rfl⟩
  rw [hX1] at K1 z1 z2 HPK
  rw [hX2] at K2 z3 z4 HPK
  rw [hX3] at K3 z5 z6 HPK
  have HPK := Lib.hid HPK
  have K1 := Lib.hid K1
  have K2 := Lib.hid K2
  have K3 := Lib.hid K3
  clear hv r1 r2 r3 k1 k2 k3 hX1 hX2 hX3
  go_enter Try.func130, Try.ntmps130
  go_wp2_with fail
  refine Calls.kn ((Kn.nil w).al [.int .i64 t.a.base, .slice A1 t.a.digits.length c1, .int .i64 t.b.base, .slice A2 t.b.digits.length c2, .int .i64 t.s.base, .slice A3 t.s.digits.length c3, .int .i64 t.carry] 67) ?_; intro w1 hK1
  refine (K0.out w1 hK1.below).mono ?_; rintro e w2 ⟨rfl, hw⟩
  have hK2 := hK1.keep hw
  obtain ⟨g1, f1, l1, -⟩ := hK2.cells
  clear hw hK1
  go_upto_region 3 with fail
  go_cut [4] (fun v wx => Kn w [.row v 5 1 (2 + (X1).length) ([.int .u8 77, .int .u8 t.carry] ++ (X1).map byteV), .blk w.heap.size [.int .i64 t.a.base, .slice A1 t.a.digits.length c1, .int .i64 t.b.base, .slice A2 t.b.digits.length c2, .int .i64 t.s.base, .slice A3 t.s.digits.length c3, .int .i64 t.carry] 67] wx)
  case first =>
    have hA := (hK2.al [.int .u8 77, .int .u8 t.carry] 5).drew
    go_region_law (first
      | (go_simp; go_at_call 151; first | (refine (K1.out _ hA.below).mono ?_; rintro e w3 ⟨A', c', rfl, o, hw⟩; obtain ⟨-, -, -, g3, f3, l3, -⟩ := (hA.addB hw o).cells; have hK3 := hA.addB hw o) | (refine (K1.out _ hK2.drew.below).mono ?_; rintro e w3 ⟨A', c', rfl, o, hw⟩; obtain ⟨g3, f3, l3, -⟩ := (hK2.drew.addB hw o).cells; have hK3 := ((hK2.drew.addB hw o).al [.int .u8 77, .int .u8 t.carry] 5).sw1))
      | (refine kn_step_row tpB rfl _ _ rfl _ 2 [.int .u8 77, .int .u8 t.carry] rfl rfl z1 (hK3.sw1.litRow (n := 2) (size := 1) rfl (by decide)).sw1 (bytes_one _) (by omega) (by omega) ?_; intro v4 w4 hK4))
    all_goals
      go_wp2_with fail
      go_meet
      exact hK4.drop1
  case rest =>
    rename_i v4
    have HE := Lib.hid (show ([.int .u8 77, .int .u8 t.carry] ++ (X1).map byteV ++ (X2).map byteV ++ (X3).map byteV) = (77 :: toB t.carry :: (X1 ++ X2 ++ X3)).map byteV by
      simp only [List.map_cons, List.map_append]; rw [HT.out]; rfl)
    clear g1 f1 l1 hK2
    obtain ⟨g4, f4, l4, -⟩ := hcut.cells
    have hS := hcut.drew
    go_wp2_with fail
    go_region_law (first
      | (go_simp; go_at_call 151; (first | (with_reducible refine (K2.out _ hS.below).mono ?_) | (with_reducible refine (K3.out _ hS.below).mono ?_)); rintro e w5 ⟨A', c', rfl, o, hw⟩; replace hS := hS.addB hw o; obtain ⟨g5, f5, l5, -⟩ := hS.cells)
      | ((first
        | (refine kn_step_row tpB rfl (.tmp 16) (.tmp 19) rfl _ _ _ rfl rfl z3 hS (bytes_one _) (by omega) (by omega) ?_)
        | (refine kn_step_row tpB rfl (.tmp 16) (.tmp 19) rfl _ _ _ rfl rfl z3 hS.sw2.sw2 (bytes_one _) (by omega) (by omega) ?_)
        | (refine kn_step_row tpB rfl (.tmp 16) (.tmp 19) rfl _ _ _ rfl rfl z3 hS.sw2.sw1 (bytes_one _) (by omega) (by omega) ?_)
        | (refine kn_step_row tpB rfl (.tmp 20) (.tmp 23) rfl _ _ _ rfl rfl z5 hS (bytes_one _) (by omega) (by omega) ?_)
        | (refine kn_step_row tpB rfl (.tmp 20) (.tmp 23) rfl _ _ _ rfl rfl z5 hS.sw2 (bytes_one _) (by omega) (by omega) ?_)); clear hS; intro v5 w6 hS; obtain ⟨g5, f5, l5, -⟩ := hS.cells))
    all_goals
      go_wp2_with fail
      rw [HE.out] at hS
      have ho := hS.ownB
      obtain ⟨A5, c5, rfl, -⟩ := ho.reads
      refine (sealed_any w.heap.size A5 _ c5 _ _ ho (by simp; omega) hS.size).mono ?_; rintro e w7 ⟨rfl, hw⟩
      have HB := Lib.hid (hS.below.trans hw)
      clear hw hS
      go_wp2_with fail
      refine bodyPost_ret (v := .tuple #[.string ⟨(sealB (77 :: toB t.carry :: (X1 ++ X2 ++ X3))).toArray⟩, .int .i64 0]) (by simp [results, Try.results130, go_sem]) rfl ⟨by rw [HPK.out], HB.out⟩
set_option maxRecDepth 100000 in
set_option maxHeartbeats 1600000 in
theorem PackMachine_false (t : Tri) (A1 A2 A3 : Option Addr) (c1 c2 c3 : Nat) (w : World) (r1 : RI w A1 t.a.digits.length t.a.digits) (r2 : RI w A2 t.b.digits.length t.b.digits) (r3 : RI w A3 t.s.digits.length t.s.digits) (hs : SmallTri t) (hv : vmach t = false) :
    Calls Try.prog 130 #[.agg #[.int .i64 t.a.base, .slice A1 t.a.digits.length c1, .int .i64 t.b.base, .slice A2 t.b.digits.length c2, .int .i64 t.s.base, .slice A3 t.s.digits.length c3, .int .i64 t.carry]] w fun e w' => e = .returned (.tuple #[.string ⟨#[]⟩, .int .i64 1]) ∧ Below w.heap.size w w' := by
  have K0 := Lib.hid (fun W (hW : Below w.heap.size w W) => calls_val (ValidMachine_any t A1 A2 A3 c1 c2 c3 W (r1.below hW) (r2.below hW) (r3.below hW) hs) (congrArg Value.bool hv))
  clear hv r1 r2 r3
  go_enter Try.func130, Try.ntmps130
  go_wp2_with fail
  refine Calls.kn ((Kn.nil w).al [.int .i64 t.a.base, .slice A1 t.a.digits.length c1, .int .i64 t.b.base, .slice A2 t.b.digits.length c2, .int .i64 t.s.base, .slice A3 t.s.digits.length c3, .int .i64 t.carry] 67) ?_; intro w1 hK1
  refine (K0.out w1 hK1.below).mono ?_; rintro e w2 ⟨rfl, hw⟩
  have hK2 := hK1.keep hw
  clear hw hK1
  go_wp2_with fail
  refine bodyPost_ret (v := .tuple #[.string ⟨#[]⟩, .int .i64 1]) (by simp [results, Try.results130, go_sem]) rfl ⟨rfl, hK2.below⟩
end Go.Proofs.Ytcngeifkddhkmaa
