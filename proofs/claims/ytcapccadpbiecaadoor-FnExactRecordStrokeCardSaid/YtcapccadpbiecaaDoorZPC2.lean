/- For every input the law FnExactRecordStroke returns true and leaves its arguments as they were: the program makes and notes a stroke as the reference does. Condition: the tables of strconv hold what the program's text lays (tied by the card). -/
import Derived.Test.YtcapccadpbiecaaDoorZC1
import Derived.Test.YtcapccadpbiecaaDoorZC2
import Derived.Test.YtcapccadpbiecaaDoorZC3
import Derived.Test.YtcapccadpbiecaaDoorZC4
import Derived.Test.YtcapccadpbiecaaDoorZC5
import Derived.Test.YtcapccadpbiecaaDoorZC6
import Derived.Test.YtcapccadpbiecaaDoorZC7
import Derived.Test.YtcapccadpbiecaaDoorZC8
import Derived.Test.YtcapccadpbiecaaDoorZC9
import Derived.OpenShut
import Derived.ProofKit
import Derived.Carry
import Derived.ChangeMaps5
namespace Go.Proofs.YtcapccadpbiecaaDoor
open Go.RowKit Go.Sort
set_option maxRecDepth 100000 in
set_option maxHeartbeats 6400000 in
theorem law_ReplayJournal (b1 b2 b3 cy : Int) (A1 A2 A3 : Option Addr) (n1 n2 n3 c1 c2 c3 : Nat) (d1 d2 d3 : List Int) (aS : ByteArray) (w : World) (r1 : RI w A1 n1 d1) (r2 : RI w A2 n2 d2) (r3 : RI w A3 n3 d3) (m1 : n1 ≤ 9223372036854775807) (m2 : n2 ≤ 9223372036854775807) (m3 : n3 ≤ 9223372036854775807) (hz_aS : aS.size ≤ 9223372036854775807) (ht : TB w) :
    Calls Tryd.prog 4 #[.agg #[.int .i64 b1, .slice A1 n1 c1, .int .i64 b2, .slice A2 n2 c2, .int .i64 b3, .slice A3 n3 c3, .int .i64 cy], .string aS] w fun e w' => e = .returned (.bool true) ∧ Below w.heap.size w w' := by
  have hB0 := (Kn.nil w).al [.int .i64 b1, .slice A1 n1 c1, .int .i64 b2, .slice A2 n2 c2, .int .i64 b3, .slice A3 n3 c3, .int .i64 cy] 33
  have HID0 := True.intro
  by_cases hvlLTaS : 1048576 < aS.size
  · have hviLTaS : (1048576 : Int) < (aS.size : Int) := by omega
    go_enter Tryd.func4, Tryd.ntmps4
    go_wp2_with fail
    go_ret
    exact ⟨rfl, hB0.below⟩
  have hviLTaS : ¬ (1048576 : Int) < (aS.size : Int) := by omega
  obtain ⟨v1, v2⟩ := lf3_lo n1 n2 n3 (by omega) (by omega) (by omega)
  by_cases hneg : lft3 1048576 n1 n2 n3 < 0
  · go_enter Tryd.func4, Tryd.ntmps4
    go_wp2_with fail
    refine Calls.kn hB0 ?_; intro w1 hK
    refine (szMachine_any b1 b2 b3 cy A1 A2 A3 _ _ _ c1 c2 c3 1048576 _ (by omega) (by omega) m1 m2 m3).mono ?_; rintro e w2 ⟨rfl, hw⟩
    have hK := hK.keep hw
    go_wp2_with fail
    go_ret
    exact ⟨rfl, hK.below⟩
  obtain ⟨s1, s2, s3⟩ := lf3_small (by omega) (by omega) (by omega) hneg
  have hl0 : 0 ≤ lft3 1048576 n1 n2 n3 := by omega
  have hl1 : lft3 1048576 n1 n2 n3 ≤ 1048576 := by omega
  obtain rfl : d1.length = n1 := r1.1
  obtain rfl : d2.length = n2 := r2.1
  obtain rfl : d3.length = n3 := r3.1
  have hsm : SmallTri ⟨⟨b1, d1⟩, ⟨b2, d2⟩, ⟨b3, d3⟩, cy⟩ := by unfold SmallTri SmallReg; simp only; omega
  have TM := Lib.hid (fun W (hW : Below w.heap.size w W) => toMachine_kn b1 b2 b3 cy A1 A2 A3 _ _ _ c1 c2 c3 d1 d2 d3 W (r1.below hW) (r2.below hW) (r3.below hW) (by omega) (by omega) (by omega))
  obtain ⟨mk, hmk⟩ : ∃ mk : Int, (1 : Int) + d1.length + d2.length + d3.length = mk := ⟨_, rfl⟩
  have hmk0 : ¬ mk < 0 := by omega
  have hmk1 : 0 ≤ mk ∧ mk ≤ 4000000 := by omega
  have HMK := Lib.hid hmk
  have HTB := Lib.hid (fun W (hW : Below w.heap.size w W) => TB.below ht hW)
  have KS := (fun (X1 : Option Addr) (x1 : Nat) (X2 : Option Addr) (x2 : Nat) (X3 : Option Addr) (x3 : Nat) W h1 h2 h3 (hW : Below w.heap.size w W) => specReplayJournal_any ⟨⟨b1, d1⟩, ⟨b2, d2⟩, ⟨b3, d3⟩, cy⟩ X1 X2 X3 x1 x2 x3 aS W h1 h2 h3 hsm (by omega))
  have KI := (fun (X1 : Option Addr) (x1 : Nat) (X2 : Option Addr) (x2 : Nat) (X3 : Option Addr) (x3 : Nat) W h1 h2 h3 (hW : Below w.heap.size w W) => ReplayJournal_any ⟨⟨b1, d1⟩, ⟨b2, d2⟩, ⟨b3, d3⟩, cy⟩ X1 X2 X3 x1 x2 x3 aS W h1 h2 h3 hsm (by omega) (HTB.out W hW))
  unfold RJRet M2Ret at KS KI
  obtain ⟨l1, l2, l3⟩ := rjM_len ⟨⟨b1, d1⟩, ⟨b2, d2⟩, ⟨b3, d3⟩, cy⟩ (strB aS)
  obtain ⟨RT, hRT⟩ : ∃ x : Tri, rjM ⟨⟨b1, d1⟩, ⟨b2, d2⟩, ⟨b3, d3⟩, cy⟩ (strB aS) = x := ⟨_, rfl⟩
  rw [hRT] at KS KI l1 l2 l3
  clear hRT
  obtain ⟨e1, he1⟩ : ∃ d, RT.a.digits = d := ⟨_, rfl⟩
  obtain ⟨e2, he2⟩ : ∃ d, RT.b.digits = d := ⟨_, rfl⟩
  obtain ⟨e3, he3⟩ : ∃ d, RT.s.digits = d := ⟨_, rfl⟩
  rw [he1, he2, he3] at KS KI
  rw [he1] at l1
  rw [he2] at l2
  rw [he3] at l3
  obtain ⟨k1, hk1⟩ : ∃ n, e1.length = n := ⟨_, rfl⟩
  obtain ⟨k2, hk2⟩ : ∃ n, e2.length = n := ⟨_, rfl⟩
  obtain ⟨k3, hk3⟩ : ∃ n, e3.length = n := ⟨_, rfl⟩
  unfold rowI at KI KS
  rw [hk1, hk2, hk3] at KI KS
  rw [hk1] at l1
  rw [hk2] at l2
  rw [hk3] at l3
  clear he1 he2 he3 hk1 hk2 hk3
  obtain ⟨rk, hrk⟩ : ∃ rk : Int, (1 : Int) + k1 + k2 + k3 = rk := ⟨_, rfl⟩
  have hrk0 : ¬ rk < 0 := by omega
  have HRK := Lib.hid hrk
  clear hrk
  obtain ⟨RI1, hRI1⟩ : ∃ x, rjN ⟨⟨b1, d1⟩, ⟨b2, d2⟩, ⟨b3, d3⟩, cy⟩ (strB aS) = x := ⟨_, rfl⟩
  rw [hRI1] at KS KI
  clear hRI1
  obtain ⟨RI2, hRI2⟩ : ∃ x, rjC ⟨⟨b1, d1⟩, ⟨b2, d2⟩, ⟨b3, d3⟩, cy⟩ (strB aS) = x := ⟨_, rfl⟩
  rw [hRI2] at KS KI
  clear hRI2
  have KS := Lib.hid KS
  have KI := Lib.hid KI
  clear hmk r1 r2 r3
  go_enter Tryd.func4, Tryd.ntmps4
  go_wp2_with fail
  refine Calls.kn hB0 ?_; intro w1 hK
  refine (szMachine_any b1 b2 b3 cy A1 A2 A3 _ _ _ c1 c2 c3 1048576 _ (by omega) (by omega) m1 m2 m3).mono ?_; rintro e w2 ⟨rfl, hw⟩
  have hK := hK.keep hw
  clear hB0
  have hK : Kn w [.blk w.heap.size [.int .i64 b1, .slice A1 d1.length c1, .int .i64 b2, .slice A2 d2.length c2, .int .i64 b3, .slice A3 d3.length c3, .int .i64 cy] 33] w2 := hK
  obtain ⟨q0, p0, o0, -⟩ := hK.cells
  go_wp2_with fail
  clear q0 p0 o0
  refine (TM.out _ hK.below).mono ?_; rintro e w4 ⟨X11, x11, X12, x12, X13, x13, rfl, hKn⟩
  have hK : Kn w [rowN X13 d3.length x13 d3, rowN X12 d2.length x12 d2, rowN X11 d1.length x11 d1, .blk w.heap.size [.int .i64 b1, .slice A1 d1.length c1, .int .i64 b2, .slice A2 d2.length c2, .int .i64 b3, .slice A3 d3.length c3, .int .i64 cy] 33] w4 := hK.join hKn
  clear hKn
  obtain ⟨q0, p0, o0, -⟩ := hK.cells
  go_wp2_with fail
  clear q0 p0 o0
  refine (KS.out X11 x11 X12 x12 X13 x13 _ (Kn.riN (hK.sel [2] 99 (by decide) (by decide))) (Kn.riN (hK.sel [1] 99 (by decide) (by decide))) (Kn.riN (hK.sel [0] 99 (by decide) (by decide))) hK.below).mono ?_; rintro e w5 ⟨S1, s1, S2, s2, S3, s3, rfl, hKn⟩
  have hK : Kn w [rowN S3 k3 s3 e3, rowN S2 k2 s2 e2, rowN S1 k1 s1 e1, rowN X13 d3.length x13 d3, rowN X12 d2.length x12 d2, rowN X11 d1.length x11 d1, .blk w.heap.size [.int .i64 b1, .slice A1 d1.length c1, .int .i64 b2, .slice A2 d2.length c2, .int .i64 b3, .slice A3 d3.length c3, .int .i64 cy] 33] w5 := hK.join hKn
  clear hKn
  obtain ⟨q0, p0, o0, -⟩ := hK.cells
  go_wp2_with fail
  have hK' := (hK.al [.int .i64 RT.a.base, .slice S1 k1 s1, .int .i64 RT.b.base, .slice S2 k2 s2, .int .i64 RT.s.base, .slice S3 k3 s3, .int .i64 RT.carry] 37)
  refine Calls.kn hK' ?_; clear hK'; intro w6 hK'
  clear q0 p0 o0
  have hK : Kn w [.blk w5.heap.size [.int .i64 RT.a.base, .slice S1 k1 s1, .int .i64 RT.b.base, .slice S2 k2 s2, .int .i64 RT.s.base, .slice S3 k3 s3, .int .i64 RT.carry] 37, rowN S3 k3 s3 e3, rowN S2 k2 s2 e2, rowN S1 k1 s1 e1, rowN X13 d3.length x13 d3, rowN X12 d2.length x12 d2, rowN X11 d1.length x11 d1, .blk w.heap.size [.int .i64 b1, .slice A1 d1.length c1, .int .i64 b2, .slice A2 d2.length c2, .int .i64 b3, .slice A3 d3.length c3, .int .i64 cy] 33] w6 := hK'
  clear hK'
  refine (TM.out _ hK.below).mono ?_; rintro e w7 ⟨X21, x21, X22, x22, X23, x23, rfl, hKn⟩
  have hK : Kn w [rowN X23 d3.length x23 d3, rowN X22 d2.length x22 d2, rowN X21 d1.length x21 d1, .blk w5.heap.size [.int .i64 RT.a.base, .slice S1 k1 s1, .int .i64 RT.b.base, .slice S2 k2 s2, .int .i64 RT.s.base, .slice S3 k3 s3, .int .i64 RT.carry] 37, rowN S3 k3 s3 e3, rowN S2 k2 s2 e2, rowN S1 k1 s1 e1, rowN X13 d3.length x13 d3, rowN X12 d2.length x12 d2, rowN X11 d1.length x11 d1, .blk w.heap.size [.int .i64 b1, .slice A1 d1.length c1, .int .i64 b2, .slice A2 d2.length c2, .int .i64 b3, .slice A3 d3.length c3, .int .i64 cy] 33] w7 := hK.join hKn
  clear hKn
  obtain ⟨q0, p0, o0, q1, p1, o1, -⟩ := hK.cells
  go_wp2_with fail
  have hK' := (hK.al [.int .i64 b1, .slice X21 d1.length x21, .int .i64 b2, .slice X22 d2.length x22, .int .i64 b3, .slice X23 d3.length x23, .int .i64 cy] 37)
  refine Calls.kn hK' ?_; clear hK'; intro w8 hK'
  clear q0 p0 o0 q1 p1 o1
  have hK : Kn w [.blk w7.heap.size [.int .i64 b1, .slice X21 d1.length x21, .int .i64 b2, .slice X22 d2.length x22, .int .i64 b3, .slice X23 d3.length x23, .int .i64 cy] 37, rowN X23 d3.length x23 d3, rowN X22 d2.length x22 d2, rowN X21 d1.length x21 d1, .blk w5.heap.size [.int .i64 RT.a.base, .slice S1 k1 s1, .int .i64 RT.b.base, .slice S2 k2 s2, .int .i64 RT.s.base, .slice S3 k3 s3, .int .i64 RT.carry] 37, rowN S3 k3 s3 e3, rowN S2 k2 s2 e2, rowN S1 k1 s1 e1, rowN X13 d3.length x13 d3, rowN X12 d2.length x12 d2, rowN X11 d1.length x11 d1, .blk w.heap.size [.int .i64 b1, .slice A1 d1.length c1, .int .i64 b2, .slice A2 d2.length c2, .int .i64 b3, .slice A3 d3.length c3, .int .i64 cy] 33] w8 := hK'
  clear hK'
  refine (KI.out X21 x21 X22 x22 X23 x23 _ (Kn.riN (hK.sel [3] 99 (by decide) (by decide))) (Kn.riN (hK.sel [2] 99 (by decide) (by decide))) (Kn.riN (hK.sel [1] 99 (by decide) (by decide))) hK.below).mono ?_; rintro e w9 ⟨G1, g1, G2, g2, G3, g3, rfl, hKn⟩
  have hK : Kn w [rowN G3 k3 g3 e3, rowN G2 k2 g2 e2, rowN G1 k1 g1 e1, .blk w7.heap.size [.int .i64 b1, .slice X21 d1.length x21, .int .i64 b2, .slice X22 d2.length x22, .int .i64 b3, .slice X23 d3.length x23, .int .i64 cy] 37, rowN X23 d3.length x23 d3, rowN X22 d2.length x22 d2, rowN X21 d1.length x21 d1, .blk w5.heap.size [.int .i64 RT.a.base, .slice S1 k1 s1, .int .i64 RT.b.base, .slice S2 k2 s2, .int .i64 RT.s.base, .slice S3 k3 s3, .int .i64 RT.carry] 37, rowN S3 k3 s3 e3, rowN S2 k2 s2 e2, rowN S1 k1 s1 e1, rowN X13 d3.length x13 d3, rowN X12 d2.length x12 d2, rowN X11 d1.length x11 d1, .blk w.heap.size [.int .i64 b1, .slice A1 d1.length c1, .int .i64 b2, .slice A2 d2.length c2, .int .i64 b3, .slice A3 d3.length c3, .int .i64 cy] 33] w9 := hK.join hKn
  clear hKn
  obtain ⟨q0, p0, o0, q1, p1, o1, q2, p2, o2, -⟩ := hK.cells
  go_wp2_with fail
  have hK' := (hK.al [.int .i64 RT.a.base, .slice G1 k1 g1, .int .i64 RT.b.base, .slice G2 k2 g2, .int .i64 RT.s.base, .slice G3 k3 g3, .int .i64 RT.carry] 37)
  refine Calls.kn hK' ?_; clear hK'; intro w10 hK'
  clear q0 p0 o0 q1 p1 o1 q2 p2 o2
  have hK : Kn w [.blk w9.heap.size [.int .i64 RT.a.base, .slice G1 k1 g1, .int .i64 RT.b.base, .slice G2 k2 g2, .int .i64 RT.s.base, .slice G3 k3 g3, .int .i64 RT.carry] 37, rowN G3 k3 g3 e3, rowN G2 k2 g2 e2, rowN G1 k1 g1 e1, .blk w7.heap.size [.int .i64 b1, .slice X21 d1.length x21, .int .i64 b2, .slice X22 d2.length x22, .int .i64 b3, .slice X23 d3.length x23, .int .i64 cy] 37, rowN X23 d3.length x23 d3, rowN X22 d2.length x22 d2, rowN X21 d1.length x21 d1, .blk w5.heap.size [.int .i64 RT.a.base, .slice S1 k1 s1, .int .i64 RT.b.base, .slice S2 k2 s2, .int .i64 RT.s.base, .slice S3 k3 s3, .int .i64 RT.carry] 37, rowN S3 k3 s3 e3, rowN S2 k2 s2 e2, rowN S1 k1 s1 e1, rowN X13 d3.length x13 d3, rowN X12 d2.length x12 d2, rowN X11 d1.length x11 d1, .blk w.heap.size [.int .i64 b1, .slice A1 d1.length c1, .int .i64 b2, .slice A2 d2.length c2, .int .i64 b3, .slice A3 d3.length c3, .int .i64 cy] 33] w10 := hK'
  clear hK'
  refine (eqM_same RT.a.base RT.b.base RT.s.base RT.carry G1 G2 G3 S1 S2 S3   k1 k2 k3 g1 g2 g3 s1 s2 s3 e1 e2 e3 _ (Kn.riN (hK.sel [3] 99 (by decide) (by decide))) (Kn.riN (hK.sel [2] 99 (by decide) (by decide))) (Kn.riN (hK.sel [1] 99 (by decide) (by decide))) (Kn.riN (hK.sel [11] 99 (by decide) (by decide))) (Kn.riN (hK.sel [10] 99 (by decide) (by decide))) (Kn.riN (hK.sel [9] 99 (by decide) (by decide))) (by omega) (by omega) (by omega)).mono ?_; rintro e w11 ⟨rfl, hw⟩
  have hK : Kn w [.blk w9.heap.size [.int .i64 RT.a.base, .slice G1 k1 g1, .int .i64 RT.b.base, .slice G2 k2 g2, .int .i64 RT.s.base, .slice G3 k3 g3, .int .i64 RT.carry] 37, rowN G3 k3 g3 e3, rowN G2 k2 g2 e2, rowN G1 k1 g1 e1, .blk w7.heap.size [.int .i64 b1, .slice X21 d1.length x21, .int .i64 b2, .slice X22 d2.length x22, .int .i64 b3, .slice X23 d3.length x23, .int .i64 cy] 37, rowN X23 d3.length x23 d3, rowN X22 d2.length x22 d2, rowN X21 d1.length x21 d1, .blk w5.heap.size [.int .i64 RT.a.base, .slice S1 k1 s1, .int .i64 RT.b.base, .slice S2 k2 s2, .int .i64 RT.s.base, .slice S3 k3 s3, .int .i64 RT.carry] 37, rowN S3 k3 s3 e3, rowN S2 k2 s2 e2, rowN S1 k1 s1 e1, rowN X13 d3.length x13 d3, rowN X12 d2.length x12 d2, rowN X11 d1.length x11 d1, .blk w.heap.size [.int .i64 b1, .slice A1 d1.length c1, .int .i64 b2, .slice A2 d2.length c2, .int .i64 b3, .slice A3 d3.length c3, .int .i64 cy] 33] w11 := hK.keep hw
  clear hw
  obtain ⟨q0, p0, o0, q1, p1, o1, q2, p2, o2, q3, p3, o3, -⟩ := hK.cells
  go_wp2_with fail
  have HG := Lib.hid (And.intro (box7at hK.drew 4 rfl) (box7at hK.drew 15 rfl))
  go_region_held3 (fun W => (W.cell? ⟨w7.heap.size, 0, none⟩ = some (.int .i64 b1) ∧ W.cell? ⟨w7.heap.size, 1, none⟩ = some (.slice X21 d1.length x21) ∧ W.cell? ⟨w7.heap.size, 2, none⟩ = some (.int .i64 b2) ∧ W.cell? ⟨w7.heap.size, 3, none⟩ = some (.slice X22 d2.length x22) ∧ W.cell? ⟨w7.heap.size, 4, none⟩ = some (.int .i64 b3) ∧ W.cell? ⟨w7.heap.size, 5, none⟩ = some (.slice X23 d3.length x23) ∧ W.cell? ⟨w7.heap.size, 6, none⟩ = some (.int .i64 cy)) ∧ (W.cell? ⟨w.heap.size, 0, none⟩ = some (.int .i64 b1) ∧ W.cell? ⟨w.heap.size, 1, none⟩ = some (.slice A1 d1.length c1) ∧ W.cell? ⟨w.heap.size, 2, none⟩ = some (.int .i64 b2) ∧ W.cell? ⟨w.heap.size, 3, none⟩ = some (.slice A2 d2.length c2) ∧ W.cell? ⟨w.heap.size, 4, none⟩ = some (.int .i64 b3) ∧ W.cell? ⟨w.heap.size, 5, none⟩ = some (.slice A3 d3.length c3) ∧ W.cell? ⟨w.heap.size, 6, none⟩ = some (.int .i64 cy)))
    (first | with_reducible exact HG.out | exact HG.out) (first
    | (go_at_call 21; refine (TM.out _ hK.drew.below).mono ?_; rintro e w12 ⟨X31, x31, X32, x32, X33, x33, rfl, hKn⟩; have hK2 : Kn w [rowN X33 d3.length x33 d3, rowN X32 d2.length x32 d2, rowN X31 d1.length x31 d1, .blk w9.heap.size [.int .i64 RT.a.base, .slice G1 k1 g1, .int .i64 RT.b.base, .slice G2 k2 g2, .int .i64 RT.s.base, .slice G3 k3 g3, .int .i64 RT.carry] 37, rowN G3 k3 g3 e3, rowN G2 k2 g2 e2, rowN G1 k1 g1 e1, .blk w7.heap.size [.int .i64 b1, .slice X21 d1.length x21, .int .i64 b2, .slice X22 d2.length x22, .int .i64 b3, .slice X23 d3.length x23, .int .i64 cy] 37, rowN X23 d3.length x23 d3, rowN X22 d2.length x22 d2, rowN X21 d1.length x21 d1, .blk w5.heap.size [.int .i64 RT.a.base, .slice S1 k1 s1, .int .i64 RT.b.base, .slice S2 k2 s2, .int .i64 RT.s.base, .slice S3 k3 s3, .int .i64 RT.carry] 37, rowN S3 k3 s3 e3, rowN S2 k2 s2 e2, rowN S1 k1 s1 e1, rowN X13 d3.length x13 d3, rowN X12 d2.length x12 d2, rowN X11 d1.length x11 d1, .blk w.heap.size [.int .i64 b1, .slice A1 d1.length c1, .int .i64 b2, .slice A2 d2.length c2, .int .i64 b3, .slice A3 d3.length c3, .int .i64 cy] 33] w12 := hK.drew.join hKn; clear HG; have HG := Lib.hid (And.intro (box7at hK2 7 rfl) (box7at hK2 18 rfl)))
    | (go_at_call 23; refine (eqM_same b1 b2 b3 cy X21 X22 X23 X31 X32 X33 _ _ _ x21 x22 x23 x31 x32 x33 d1 d2 d3 _ (Kn.riN (hK2.sel [10] 99 (by decide) (by decide))) (Kn.riN (hK2.sel [9] 99 (by decide) (by decide))) (Kn.riN (hK2.sel [8] 99 (by decide) (by decide))) (Kn.riN (hK2.sel [2] 99 (by decide) (by decide))) (Kn.riN (hK2.sel [1] 99 (by decide) (by decide))) (Kn.riN (hK2.sel [0] 99 (by decide) (by decide))) (by omega) (by omega) (by omega)).mono ?_; rintro e w13 ⟨rfl, hw⟩; have hK3 : Kn w [rowN X33 d3.length x33 d3, rowN X32 d2.length x32 d2, rowN X31 d1.length x31 d1, .blk w9.heap.size [.int .i64 RT.a.base, .slice G1 k1 g1, .int .i64 RT.b.base, .slice G2 k2 g2, .int .i64 RT.s.base, .slice G3 k3 g3, .int .i64 RT.carry] 37, rowN G3 k3 g3 e3, rowN G2 k2 g2 e2, rowN G1 k1 g1 e1, .blk w7.heap.size [.int .i64 b1, .slice X21 d1.length x21, .int .i64 b2, .slice X22 d2.length x22, .int .i64 b3, .slice X23 d3.length x23, .int .i64 cy] 37, rowN X23 d3.length x23 d3, rowN X22 d2.length x22 d2, rowN X21 d1.length x21 d1, .blk w5.heap.size [.int .i64 RT.a.base, .slice S1 k1 s1, .int .i64 RT.b.base, .slice S2 k2 s2, .int .i64 RT.s.base, .slice S3 k3 s3, .int .i64 RT.carry] 37, rowN S3 k3 s3 e3, rowN S2 k2 s2 e2, rowN S1 k1 s1 e1, rowN X13 d3.length x13 d3, rowN X12 d2.length x12 d2, rowN X11 d1.length x11 d1, .blk w.heap.size [.int .i64 b1, .slice A1 d1.length c1, .int .i64 b2, .slice A2 d2.length c2, .int .i64 b3, .slice A3 d3.length c3, .int .i64 cy] 33] w13 := hK2.keep hw; clear HG; have HG := Lib.hid (And.intro (box7at hK3 7 rfl) (box7at hK3 18 rfl))))
  clear q0 p0 o0 q1 p1 o1 q2 p2 o2 q3 p3 o3
  have hK := hK3
  clear HG hK2 hK3 hKn hw
  obtain ⟨q0, p0, o0, q1, p1, o1, q2, p2, o2, q3, p3, o3, -⟩ := hK.cells
  go_wp2_with fail
  clear q0 p0 o0 q1 p1 o1 q2 p2 o2 q3 p3 o3
  have hK : Kn w [rowN X23 d3.length x23 d3, rowN X22 d2.length x22 d2, rowN X21 d1.length x21 d1, rowN X33 d3.length x33 d3, rowN X32 d2.length x32 d2, rowN X31 d1.length x31 d1, .blk w9.heap.size [.int .i64 RT.a.base, .slice G1 k1 g1, .int .i64 RT.b.base, .slice G2 k2 g2, .int .i64 RT.s.base, .slice G3 k3 g3, .int .i64 RT.carry] 37, rowN G3 k3 g3 e3, rowN G2 k2 g2 e2, rowN G1 k1 g1 e1, .blk w7.heap.size [.int .i64 b1, .slice X21 d1.length x21, .int .i64 b2, .slice X22 d2.length x22, .int .i64 b3, .slice X23 d3.length x23, .int .i64 cy] 37, .blk w5.heap.size [.int .i64 RT.a.base, .slice S1 k1 s1, .int .i64 RT.b.base, .slice S2 k2 s2, .int .i64 RT.s.base, .slice S3 k3 s3, .int .i64 RT.carry] 37, rowN S3 k3 s3 e3, rowN S2 k2 s2 e2, rowN S1 k1 s1 e1, rowN X13 d3.length x13 d3, rowN X12 d2.length x12 d2, rowN X11 d1.length x11 d1, .blk w.heap.size [.int .i64 b1, .slice A1 d1.length c1, .int .i64 b2, .slice A2 d2.length c2, .int .i64 b3, .slice A3 d3.length c3, .int .i64 cy] 33] w13 := hK.sel [8, 9, 10, 0, 1, 2, 3, 4, 5, 6, 7, 11, 12, 13, 14, 15, 16, 17, 18] 19 (by decide) (by decide)
  refine (markMachine_kn w _ _ _ _ _ X21 X22 X23 d1.length d2.length d3.length x21 x22 x23 d1 d2 d3  1 _ hK (by omega) (by omega)).mono ?_; rintro e w14 ⟨rfl, hKn⟩
  have hK : Kn w [rowN X23 d3.length x23 (upto (1 + (d1.length : Int) + (d2.length : Int)) d3.length), rowN X22 d2.length x22 (upto (1 + (d1.length : Int)) d2.length), rowN X21 d1.length x21 (upto 1 d1.length), rowN X33 d3.length x33 d3, rowN X32 d2.length x32 d2, rowN X31 d1.length x31 d1, .blk w9.heap.size [.int .i64 RT.a.base, .slice G1 k1 g1, .int .i64 RT.b.base, .slice G2 k2 g2, .int .i64 RT.s.base, .slice G3 k3 g3, .int .i64 RT.carry] 37, rowN G3 k3 g3 e3, rowN G2 k2 g2 e2, rowN G1 k1 g1 e1, .blk w7.heap.size [.int .i64 b1, .slice X21 d1.length x21, .int .i64 b2, .slice X22 d2.length x22, .int .i64 b3, .slice X23 d3.length x23, .int .i64 cy] 37, .blk w5.heap.size [.int .i64 RT.a.base, .slice S1 k1 s1, .int .i64 RT.b.base, .slice S2 k2 s2, .int .i64 RT.s.base, .slice S3 k3 s3, .int .i64 RT.carry] 37, rowN S3 k3 s3 e3, rowN S2 k2 s2 e2, rowN S1 k1 s1 e1, rowN X13 d3.length x13 d3, rowN X12 d2.length x12 d2, rowN X11 d1.length x11 d1, .blk w.heap.size [.int .i64 b1, .slice A1 d1.length c1, .int .i64 b2, .slice A2 d2.length c2, .int .i64 b3, .slice A3 d3.length c3, .int .i64 cy] 33] w14 := hKn
  clear hKn
  rw [HMK.out]
  obtain ⟨q0, p0, o0, q1, p1, o1, q2, p2, o2, q3, p3, o3, -⟩ := hK.cells
  go_wp2_with fail
  clear q0 p0 o0 q1 p1 o1 q2 p2 o2 q3 p3 o3
  refine (eqM_same RT.a.base RT.b.base RT.s.base RT.carry G1 G2 G3 S1 S2 S3   k1 k2 k3 g1 g2 g3 s1 s2 s3 e1 e2 e3 _ (Kn.riN (hK.sel [9] 99 (by decide) (by decide))) (Kn.riN (hK.sel [8] 99 (by decide) (by decide))) (Kn.riN (hK.sel [7] 99 (by decide) (by decide))) (Kn.riN (hK.sel [14] 99 (by decide) (by decide))) (Kn.riN (hK.sel [13] 99 (by decide) (by decide))) (Kn.riN (hK.sel [12] 99 (by decide) (by decide))) (by omega) (by omega) (by omega)).mono ?_; rintro e w15 ⟨rfl, hw⟩
  have hK : Kn w [rowN X23 d3.length x23 (upto (1 + (d1.length : Int) + (d2.length : Int)) d3.length), rowN X22 d2.length x22 (upto (1 + (d1.length : Int)) d2.length), rowN X21 d1.length x21 (upto 1 d1.length), rowN X33 d3.length x33 d3, rowN X32 d2.length x32 d2, rowN X31 d1.length x31 d1, .blk w9.heap.size [.int .i64 RT.a.base, .slice G1 k1 g1, .int .i64 RT.b.base, .slice G2 k2 g2, .int .i64 RT.s.base, .slice G3 k3 g3, .int .i64 RT.carry] 37, rowN G3 k3 g3 e3, rowN G2 k2 g2 e2, rowN G1 k1 g1 e1, .blk w7.heap.size [.int .i64 b1, .slice X21 d1.length x21, .int .i64 b2, .slice X22 d2.length x22, .int .i64 b3, .slice X23 d3.length x23, .int .i64 cy] 37, .blk w5.heap.size [.int .i64 RT.a.base, .slice S1 k1 s1, .int .i64 RT.b.base, .slice S2 k2 s2, .int .i64 RT.s.base, .slice S3 k3 s3, .int .i64 RT.carry] 37, rowN S3 k3 s3 e3, rowN S2 k2 s2 e2, rowN S1 k1 s1 e1, rowN X13 d3.length x13 d3, rowN X12 d2.length x12 d2, rowN X11 d1.length x11 d1, .blk w.heap.size [.int .i64 b1, .slice A1 d1.length c1, .int .i64 b2, .slice A2 d2.length c2, .int .i64 b3, .slice A3 d3.length c3, .int .i64 cy] 33] w15 := hK.keep hw
  clear hw
  obtain ⟨q0, p0, o0, q1, p1, o1, q2, p2, o2, q3, p3, o3, -⟩ := hK.cells
  go_wp2_with fail
  clear q0 p0 o0 q1 p1 o1 q2 p2 o2 q3 p3 o3
  have hK : Kn w [rowN G3 k3 g3 e3, rowN G2 k2 g2 e2, rowN G1 k1 g1 e1, rowN X23 d3.length x23 (upto (1 + (d1.length : Int) + (d2.length : Int)) d3.length), rowN X22 d2.length x22 (upto (1 + (d1.length : Int)) d2.length), rowN X21 d1.length x21 (upto 1 d1.length), rowN X33 d3.length x33 d3, rowN X32 d2.length x32 d2, rowN X31 d1.length x31 d1, .blk w9.heap.size [.int .i64 RT.a.base, .slice G1 k1 g1, .int .i64 RT.b.base, .slice G2 k2 g2, .int .i64 RT.s.base, .slice G3 k3 g3, .int .i64 RT.carry] 37, .blk w7.heap.size [.int .i64 b1, .slice X21 d1.length x21, .int .i64 b2, .slice X22 d2.length x22, .int .i64 b3, .slice X23 d3.length x23, .int .i64 cy] 37, .blk w5.heap.size [.int .i64 RT.a.base, .slice S1 k1 s1, .int .i64 RT.b.base, .slice S2 k2 s2, .int .i64 RT.s.base, .slice S3 k3 s3, .int .i64 RT.carry] 37, rowN S3 k3 s3 e3, rowN S2 k2 s2 e2, rowN S1 k1 s1 e1, rowN X13 d3.length x13 d3, rowN X12 d2.length x12 d2, rowN X11 d1.length x11 d1, .blk w.heap.size [.int .i64 b1, .slice A1 d1.length c1, .int .i64 b2, .slice A2 d2.length c2, .int .i64 b3, .slice A3 d3.length c3, .int .i64 cy] 33] w15 := hK.sel [7, 8, 9, 0, 1, 2, 3, 4, 5, 6, 10, 11, 12, 13, 14, 15, 16, 17, 18] 19 (by decide) (by decide)
  refine (markMachine_kn w _ _ _ _ _ G1 G2 G3 k1 k2 k3 g1 g2 g3 e1 e2 e3  1 _ hK (by omega) (by omega)).mono ?_; rintro e w16 ⟨rfl, hKn⟩
  have hK : Kn w [rowN G3 k3 g3 (upto (1 + (k1 : Int) + (k2 : Int)) k3), rowN G2 k2 g2 (upto (1 + (k1 : Int)) k2), rowN G1 k1 g1 (upto 1 k1), rowN X23 d3.length x23 (upto (1 + (d1.length : Int) + (d2.length : Int)) d3.length), rowN X22 d2.length x22 (upto (1 + (d1.length : Int)) d2.length), rowN X21 d1.length x21 (upto 1 d1.length), rowN X33 d3.length x33 d3, rowN X32 d2.length x32 d2, rowN X31 d1.length x31 d1, .blk w9.heap.size [.int .i64 RT.a.base, .slice G1 k1 g1, .int .i64 RT.b.base, .slice G2 k2 g2, .int .i64 RT.s.base, .slice G3 k3 g3, .int .i64 RT.carry] 37, .blk w7.heap.size [.int .i64 b1, .slice X21 d1.length x21, .int .i64 b2, .slice X22 d2.length x22, .int .i64 b3, .slice X23 d3.length x23, .int .i64 cy] 37, .blk w5.heap.size [.int .i64 RT.a.base, .slice S1 k1 s1, .int .i64 RT.b.base, .slice S2 k2 s2, .int .i64 RT.s.base, .slice S3 k3 s3, .int .i64 RT.carry] 37, rowN S3 k3 s3 e3, rowN S2 k2 s2 e2, rowN S1 k1 s1 e1, rowN X13 d3.length x13 d3, rowN X12 d2.length x12 d2, rowN X11 d1.length x11 d1, .blk w.heap.size [.int .i64 b1, .slice A1 d1.length c1, .int .i64 b2, .slice A2 d2.length c2, .int .i64 b3, .slice A3 d3.length c3, .int .i64 cy] 33] w16 := hKn
  clear hKn
  rw [HRK.out]
  obtain ⟨q0, p0, o0, q1, p1, o1, q2, p2, o2, q3, p3, o3, -⟩ := hK.cells
  go_wp2_with fail
  clear q0 p0 o0 q1 p1 o1 q2 p2 o2 q3 p3 o3
  refine (heldMachine_any _ _ _ _ G1 G2 G3 k1 k2 k3 g1 g2 g3 1 _ (Kn.riN (hK.sel [2] 99 (by decide) (by decide))) (Kn.riN (hK.sel [1] 99 (by decide) (by decide))) (Kn.riN (hK.sel [0] 99 (by decide) (by decide))) (by omega) (by omega)).mono ?_; rintro e w17 ⟨rfl, hw⟩
  have hK : Kn w [rowN G3 k3 g3 (upto (1 + (k1 : Int) + (k2 : Int)) k3), rowN G2 k2 g2 (upto (1 + (k1 : Int)) k2), rowN G1 k1 g1 (upto 1 k1), rowN X23 d3.length x23 (upto (1 + (d1.length : Int) + (d2.length : Int)) d3.length), rowN X22 d2.length x22 (upto (1 + (d1.length : Int)) d2.length), rowN X21 d1.length x21 (upto 1 d1.length), rowN X33 d3.length x33 d3, rowN X32 d2.length x32 d2, rowN X31 d1.length x31 d1, .blk w9.heap.size [.int .i64 RT.a.base, .slice G1 k1 g1, .int .i64 RT.b.base, .slice G2 k2 g2, .int .i64 RT.s.base, .slice G3 k3 g3, .int .i64 RT.carry] 37, .blk w7.heap.size [.int .i64 b1, .slice X21 d1.length x21, .int .i64 b2, .slice X22 d2.length x22, .int .i64 b3, .slice X23 d3.length x23, .int .i64 cy] 37, .blk w5.heap.size [.int .i64 RT.a.base, .slice S1 k1 s1, .int .i64 RT.b.base, .slice S2 k2 s2, .int .i64 RT.s.base, .slice S3 k3 s3, .int .i64 RT.carry] 37, rowN S3 k3 s3 e3, rowN S2 k2 s2 e2, rowN S1 k1 s1 e1, rowN X13 d3.length x13 d3, rowN X12 d2.length x12 d2, rowN X11 d1.length x11 d1, .blk w.heap.size [.int .i64 b1, .slice A1 d1.length c1, .int .i64 b2, .slice A2 d2.length c2, .int .i64 b3, .slice A3 d3.length c3, .int .i64 cy] 33] w17 := hK.keep hw
  clear hw
  rw [HRK.out]
  obtain ⟨q0, p0, o0, q1, p1, o1, q2, p2, o2, q3, p3, o3, -⟩ := hK.cells
  go_wp2_with fail
  clear q0 p0 o0 q1 p1 o1 q2 p2 o2 q3 p3 o3
  refine (TM.out _ hK.below).mono ?_; rintro e w18 ⟨X41, x41, X42, x42, X43, x43, rfl, hKn⟩
  have hK : Kn w [rowN X43 d3.length x43 d3, rowN X42 d2.length x42 d2, rowN X41 d1.length x41 d1, rowN G3 k3 g3 (upto (1 + (k1 : Int) + (k2 : Int)) k3), rowN G2 k2 g2 (upto (1 + (k1 : Int)) k2), rowN G1 k1 g1 (upto 1 k1), rowN X23 d3.length x23 (upto (1 + (d1.length : Int) + (d2.length : Int)) d3.length), rowN X22 d2.length x22 (upto (1 + (d1.length : Int)) d2.length), rowN X21 d1.length x21 (upto 1 d1.length), rowN X33 d3.length x33 d3, rowN X32 d2.length x32 d2, rowN X31 d1.length x31 d1, .blk w9.heap.size [.int .i64 RT.a.base, .slice G1 k1 g1, .int .i64 RT.b.base, .slice G2 k2 g2, .int .i64 RT.s.base, .slice G3 k3 g3, .int .i64 RT.carry] 37, .blk w7.heap.size [.int .i64 b1, .slice X21 d1.length x21, .int .i64 b2, .slice X22 d2.length x22, .int .i64 b3, .slice X23 d3.length x23, .int .i64 cy] 37, .blk w5.heap.size [.int .i64 RT.a.base, .slice S1 k1 s1, .int .i64 RT.b.base, .slice S2 k2 s2, .int .i64 RT.s.base, .slice S3 k3 s3, .int .i64 RT.carry] 37, rowN S3 k3 s3 e3, rowN S2 k2 s2 e2, rowN S1 k1 s1 e1, rowN X13 d3.length x13 d3, rowN X12 d2.length x12 d2, rowN X11 d1.length x11 d1, .blk w.heap.size [.int .i64 b1, .slice A1 d1.length c1, .int .i64 b2, .slice A2 d2.length c2, .int .i64 b3, .slice A3 d3.length c3, .int .i64 cy] 33] w18 := hK.join hKn
  clear hKn
  obtain ⟨q0, p0, o0, q1, p1, o1, q2, p2, o2, q3, p3, o3, -⟩ := hK.cells
  go_wp2_with fail
  clear q0 p0 o0 q1 p1 o1 q2 p2 o2 q3 p3 o3
  refine (KI.out X41 x41 X42 x42 X43 x43 _ (Kn.riN (hK.sel [2] 99 (by decide) (by decide))) (Kn.riN (hK.sel [1] 99 (by decide) (by decide))) (Kn.riN (hK.sel [0] 99 (by decide) (by decide))) hK.below).mono ?_; rintro e w19 ⟨H1, h1, H2, h2, H3, h3, rfl, hKn⟩
  have hK : Kn w [rowN H3 k3 h3 e3, rowN H2 k2 h2 e2, rowN H1 k1 h1 e1, rowN X43 d3.length x43 d3, rowN X42 d2.length x42 d2, rowN X41 d1.length x41 d1, rowN G3 k3 g3 (upto (1 + (k1 : Int) + (k2 : Int)) k3), rowN G2 k2 g2 (upto (1 + (k1 : Int)) k2), rowN G1 k1 g1 (upto 1 k1), rowN X23 d3.length x23 (upto (1 + (d1.length : Int) + (d2.length : Int)) d3.length), rowN X22 d2.length x22 (upto (1 + (d1.length : Int)) d2.length), rowN X21 d1.length x21 (upto 1 d1.length), rowN X33 d3.length x33 d3, rowN X32 d2.length x32 d2, rowN X31 d1.length x31 d1, .blk w9.heap.size [.int .i64 RT.a.base, .slice G1 k1 g1, .int .i64 RT.b.base, .slice G2 k2 g2, .int .i64 RT.s.base, .slice G3 k3 g3, .int .i64 RT.carry] 37, .blk w7.heap.size [.int .i64 b1, .slice X21 d1.length x21, .int .i64 b2, .slice X22 d2.length x22, .int .i64 b3, .slice X23 d3.length x23, .int .i64 cy] 37, .blk w5.heap.size [.int .i64 RT.a.base, .slice S1 k1 s1, .int .i64 RT.b.base, .slice S2 k2 s2, .int .i64 RT.s.base, .slice S3 k3 s3, .int .i64 RT.carry] 37, rowN S3 k3 s3 e3, rowN S2 k2 s2 e2, rowN S1 k1 s1 e1, rowN X13 d3.length x13 d3, rowN X12 d2.length x12 d2, rowN X11 d1.length x11 d1, .blk w.heap.size [.int .i64 b1, .slice A1 d1.length c1, .int .i64 b2, .slice A2 d2.length c2, .int .i64 b3, .slice A3 d3.length c3, .int .i64 cy] 33] w19 := hK.join hKn
  clear hKn
  obtain ⟨q0, p0, o0, q1, p1, o1, q2, p2, o2, q3, p3, o3, -⟩ := hK.cells
  go_wp2_with fail
  have hK' := (hK.al [.int .i64 RT.a.base, .slice H1 k1 h1, .int .i64 RT.b.base, .slice H2 k2 h2, .int .i64 RT.s.base, .slice H3 k3 h3, .int .i64 RT.carry] 37)
  refine Calls.kn hK' ?_; clear hK'; intro w20 hK'
  clear q0 p0 o0 q1 p1 o1 q2 p2 o2 q3 p3 o3
  have hK : Kn w [.blk w19.heap.size [.int .i64 RT.a.base, .slice H1 k1 h1, .int .i64 RT.b.base, .slice H2 k2 h2, .int .i64 RT.s.base, .slice H3 k3 h3, .int .i64 RT.carry] 37, rowN H3 k3 h3 e3, rowN H2 k2 h2 e2, rowN H1 k1 h1 e1, rowN X43 d3.length x43 d3, rowN X42 d2.length x42 d2, rowN X41 d1.length x41 d1, rowN G3 k3 g3 (upto (1 + (k1 : Int) + (k2 : Int)) k3), rowN G2 k2 g2 (upto (1 + (k1 : Int)) k2), rowN G1 k1 g1 (upto 1 k1), rowN X23 d3.length x23 (upto (1 + (d1.length : Int) + (d2.length : Int)) d3.length), rowN X22 d2.length x22 (upto (1 + (d1.length : Int)) d2.length), rowN X21 d1.length x21 (upto 1 d1.length), rowN X33 d3.length x33 d3, rowN X32 d2.length x32 d2, rowN X31 d1.length x31 d1, .blk w9.heap.size [.int .i64 RT.a.base, .slice G1 k1 g1, .int .i64 RT.b.base, .slice G2 k2 g2, .int .i64 RT.s.base, .slice G3 k3 g3, .int .i64 RT.carry] 37, .blk w7.heap.size [.int .i64 b1, .slice X21 d1.length x21, .int .i64 b2, .slice X22 d2.length x22, .int .i64 b3, .slice X23 d3.length x23, .int .i64 cy] 37, .blk w5.heap.size [.int .i64 RT.a.base, .slice S1 k1 s1, .int .i64 RT.b.base, .slice S2 k2 s2, .int .i64 RT.s.base, .slice S3 k3 s3, .int .i64 RT.carry] 37, rowN S3 k3 s3 e3, rowN S2 k2 s2 e2, rowN S1 k1 s1 e1, rowN X13 d3.length x13 d3, rowN X12 d2.length x12 d2, rowN X11 d1.length x11 d1, .blk w.heap.size [.int .i64 b1, .slice A1 d1.length c1, .int .i64 b2, .slice A2 d2.length c2, .int .i64 b3, .slice A3 d3.length c3, .int .i64 cy] 33] w20 := hK'
  clear hK'
  refine (eqM_same RT.a.base RT.b.base RT.s.base RT.carry H1 H2 H3 S1 S2 S3   k1 k2 k3 h1 h2 h3 s1 s2 s3 e1 e2 e3 _ (Kn.riN (hK.sel [3] 99 (by decide) (by decide))) (Kn.riN (hK.sel [2] 99 (by decide) (by decide))) (Kn.riN (hK.sel [1] 99 (by decide) (by decide))) (Kn.riN (hK.sel [21] 99 (by decide) (by decide))) (Kn.riN (hK.sel [20] 99 (by decide) (by decide))) (Kn.riN (hK.sel [19] 99 (by decide) (by decide))) (by omega) (by omega) (by omega)).mono ?_; rintro e w21 ⟨rfl, hw⟩
  have hK : Kn w [.blk w19.heap.size [.int .i64 RT.a.base, .slice H1 k1 h1, .int .i64 RT.b.base, .slice H2 k2 h2, .int .i64 RT.s.base, .slice H3 k3 h3, .int .i64 RT.carry] 37, rowN H3 k3 h3 e3, rowN H2 k2 h2 e2, rowN H1 k1 h1 e1, rowN X43 d3.length x43 d3, rowN X42 d2.length x42 d2, rowN X41 d1.length x41 d1, rowN G3 k3 g3 (upto (1 + (k1 : Int) + (k2 : Int)) k3), rowN G2 k2 g2 (upto (1 + (k1 : Int)) k2), rowN G1 k1 g1 (upto 1 k1), rowN X23 d3.length x23 (upto (1 + (d1.length : Int) + (d2.length : Int)) d3.length), rowN X22 d2.length x22 (upto (1 + (d1.length : Int)) d2.length), rowN X21 d1.length x21 (upto 1 d1.length), rowN X33 d3.length x33 d3, rowN X32 d2.length x32 d2, rowN X31 d1.length x31 d1, .blk w9.heap.size [.int .i64 RT.a.base, .slice G1 k1 g1, .int .i64 RT.b.base, .slice G2 k2 g2, .int .i64 RT.s.base, .slice G3 k3 g3, .int .i64 RT.carry] 37, .blk w7.heap.size [.int .i64 b1, .slice X21 d1.length x21, .int .i64 b2, .slice X22 d2.length x22, .int .i64 b3, .slice X23 d3.length x23, .int .i64 cy] 37, .blk w5.heap.size [.int .i64 RT.a.base, .slice S1 k1 s1, .int .i64 RT.b.base, .slice S2 k2 s2, .int .i64 RT.s.base, .slice S3 k3 s3, .int .i64 RT.carry] 37, rowN S3 k3 s3 e3, rowN S2 k2 s2 e2, rowN S1 k1 s1 e1, rowN X13 d3.length x13 d3, rowN X12 d2.length x12 d2, rowN X11 d1.length x11 d1, .blk w.heap.size [.int .i64 b1, .slice A1 d1.length c1, .int .i64 b2, .slice A2 d2.length c2, .int .i64 b3, .slice A3 d3.length c3, .int .i64 cy] 33] w21 := hK.keep hw
  clear hw
  obtain ⟨q0, p0, o0, q1, p1, o1, q2, p2, o2, q3, p3, o3, q4, p4, o4, -⟩ := hK.cells
  go_wp2_with fail
  clear q0 p0 o0 q1 p1 o1 q2 p2 o2 q3 p3 o3 q4 p4 o4
  refine (heldMachine_any _ _ _ _ G1 G2 G3 k1 k2 k3 g1 g2 g3 1 _ (Kn.riN (hK.sel [9] 99 (by decide) (by decide))) (Kn.riN (hK.sel [8] 99 (by decide) (by decide))) (Kn.riN (hK.sel [7] 99 (by decide) (by decide))) (by omega) (by omega)).mono ?_; rintro e w22 ⟨rfl, hw⟩
  have hK : Kn w [.blk w19.heap.size [.int .i64 RT.a.base, .slice H1 k1 h1, .int .i64 RT.b.base, .slice H2 k2 h2, .int .i64 RT.s.base, .slice H3 k3 h3, .int .i64 RT.carry] 37, rowN H3 k3 h3 e3, rowN H2 k2 h2 e2, rowN H1 k1 h1 e1, rowN X43 d3.length x43 d3, rowN X42 d2.length x42 d2, rowN X41 d1.length x41 d1, rowN G3 k3 g3 (upto (1 + (k1 : Int) + (k2 : Int)) k3), rowN G2 k2 g2 (upto (1 + (k1 : Int)) k2), rowN G1 k1 g1 (upto 1 k1), rowN X23 d3.length x23 (upto (1 + (d1.length : Int) + (d2.length : Int)) d3.length), rowN X22 d2.length x22 (upto (1 + (d1.length : Int)) d2.length), rowN X21 d1.length x21 (upto 1 d1.length), rowN X33 d3.length x33 d3, rowN X32 d2.length x32 d2, rowN X31 d1.length x31 d1, .blk w9.heap.size [.int .i64 RT.a.base, .slice G1 k1 g1, .int .i64 RT.b.base, .slice G2 k2 g2, .int .i64 RT.s.base, .slice G3 k3 g3, .int .i64 RT.carry] 37, .blk w7.heap.size [.int .i64 b1, .slice X21 d1.length x21, .int .i64 b2, .slice X22 d2.length x22, .int .i64 b3, .slice X23 d3.length x23, .int .i64 cy] 37, .blk w5.heap.size [.int .i64 RT.a.base, .slice S1 k1 s1, .int .i64 RT.b.base, .slice S2 k2 s2, .int .i64 RT.s.base, .slice S3 k3 s3, .int .i64 RT.carry] 37, rowN S3 k3 s3 e3, rowN S2 k2 s2 e2, rowN S1 k1 s1 e1, rowN X13 d3.length x13 d3, rowN X12 d2.length x12 d2, rowN X11 d1.length x11 d1, .blk w.heap.size [.int .i64 b1, .slice A1 d1.length c1, .int .i64 b2, .slice A2 d2.length c2, .int .i64 b3, .slice A3 d3.length c3, .int .i64 cy] 33] w22 := hK.keep hw
  clear hw
  rw [HRK.out]
  obtain ⟨q0, p0, o0, q1, p1, o1, q2, p2, o2, q3, p3, o3, q4, p4, o4, -⟩ := hK.cells
  go_wp2_with fail
  go_ret
  exact ⟨rfl, hK.below⟩
set_option maxRecDepth 100000 in
set_option maxHeartbeats 6400000 in
theorem law_RecordStroke (b1 b2 b3 cy : Int) (A1 A2 A3 : Option Addr) (n1 n2 n3 c1 c2 c3 : Nat) (d1 d2 d3 : List Int) (aS : ByteArray) (aKind : Int) (w : World) (r1 : RI w A1 n1 d1) (r2 : RI w A2 n2 d2) (r3 : RI w A3 n3 d3) (m1 : n1 ≤ 9223372036854775807) (m2 : n2 ≤ 9223372036854775807) (m3 : n3 ≤ 9223372036854775807) (hz_aS : aS.size ≤ 9223372036854775807) (ht : TB w) :
    Calls Tryd.prog 5 #[.agg #[.int .i64 b1, .slice A1 n1 c1, .int .i64 b2, .slice A2 n2 c2, .int .i64 b3, .slice A3 n3 c3, .int .i64 cy], .string aS, .int .i64 aKind] w fun e w' => e = .returned (.bool true) ∧ Below w.heap.size w w' := by
  have hB0 := (Kn.nil w).al [.int .i64 b1, .slice A1 n1 c1, .int .i64 b2, .slice A2 n2 c2, .int .i64 b3, .slice A3 n3 c3, .int .i64 cy] 33
  have HID0 := True.intro
  by_cases hvlLTaS : 1048576 < aS.size
  · have hviLTaS : (1048576 : Int) < (aS.size : Int) := by omega
    go_enter Tryd.func5, Tryd.ntmps5
    go_wp2_with fail
    go_ret
    exact ⟨rfl, hB0.below⟩
  have hviLTaS : ¬ (1048576 : Int) < (aS.size : Int) := by omega
  obtain ⟨v1, v2⟩ := lf3_lo n1 n2 n3 (by omega) (by omega) (by omega)
  by_cases hneg : lft3 1048576 n1 n2 n3 < 0
  · go_enter Tryd.func5, Tryd.ntmps5
    go_wp2_with fail
    refine Calls.kn hB0 ?_; intro w1 hK
    refine (szMachine_any b1 b2 b3 cy A1 A2 A3 _ _ _ c1 c2 c3 1048576 _ (by omega) (by omega) m1 m2 m3).mono ?_; rintro e w2 ⟨rfl, hw⟩
    have hK := hK.keep hw
    go_wp2_with fail
    go_ret
    exact ⟨rfl, hK.below⟩
  obtain ⟨s1, s2, s3⟩ := lf3_small (by omega) (by omega) (by omega) hneg
  have hl0 : 0 ≤ lft3 1048576 n1 n2 n3 := by omega
  have hl1 : lft3 1048576 n1 n2 n3 ≤ 1048576 := by omega
  obtain rfl : d1.length = n1 := r1.1
  obtain rfl : d2.length = n2 := r2.1
  obtain rfl : d3.length = n3 := r3.1
  have hsm : SmallTri ⟨⟨b1, d1⟩, ⟨b2, d2⟩, ⟨b3, d3⟩, cy⟩ := by unfold SmallTri SmallReg; simp only; omega
  have TM := Lib.hid (fun W (hW : Below w.heap.size w W) => toMachine_kn b1 b2 b3 cy A1 A2 A3 _ _ _ c1 c2 c3 d1 d2 d3 W (r1.below hW) (r2.below hW) (r3.below hW) (by omega) (by omega) (by omega))
  obtain ⟨mk, hmk⟩ : ∃ mk : Int, (1 : Int) + d1.length + d2.length + d3.length = mk := ⟨_, rfl⟩
  have hmk0 : ¬ mk < 0 := by omega
  have hmk1 : 0 ≤ mk ∧ mk ≤ 4000000 := by omega
  have HMK := Lib.hid hmk
  have HTB := Lib.hid (fun W (hW : Below w.heap.size w W) => TB.below ht hW)
  have KS := (fun (X1 : Option Addr) (x1 : Nat) (X2 : Option Addr) (x2 : Nat) (X3 : Option Addr) (x3 : Nat) W h1 h2 h3 (hW : Below w.heap.size w W) => specRecordStroke_any ⟨⟨b1, d1⟩, ⟨b2, d2⟩, ⟨b3, d3⟩, cy⟩ X1 X2 X3 x1 x2 x3 aS aKind W h1 h2 h3 hsm (by omega))
  have KI := (fun (X1 : Option Addr) (x1 : Nat) (X2 : Option Addr) (x2 : Nat) (X3 : Option Addr) (x3 : Nat) W h1 h2 h3 (hW : Below w.heap.size w W) => RecordStroke_any ⟨⟨b1, d1⟩, ⟨b2, d2⟩, ⟨b3, d3⟩, cy⟩ X1 X2 X3 x1 x2 x3 aS aKind W h1 h2 h3 hsm (by omega) (HTB.out W hW))
  unfold RKRet M2Ret at KS KI
  obtain ⟨l1, l2, l3⟩ := rkM_len ⟨⟨b1, d1⟩, ⟨b2, d2⟩, ⟨b3, d3⟩, cy⟩ aS aKind
  obtain ⟨RT, hRT⟩ : ∃ x : Tri, rkM ⟨⟨b1, d1⟩, ⟨b2, d2⟩, ⟨b3, d3⟩, cy⟩ aS aKind = x := ⟨_, rfl⟩
  rw [hRT] at KS KI l1 l2 l3
  clear hRT
  obtain ⟨e1, he1⟩ : ∃ d, RT.a.digits = d := ⟨_, rfl⟩
  obtain ⟨e2, he2⟩ : ∃ d, RT.b.digits = d := ⟨_, rfl⟩
  obtain ⟨e3, he3⟩ : ∃ d, RT.s.digits = d := ⟨_, rfl⟩
  rw [he1, he2, he3] at KS KI
  rw [he1] at l1
  rw [he2] at l2
  rw [he3] at l3
  obtain ⟨k1, hk1⟩ : ∃ n, e1.length = n := ⟨_, rfl⟩
  obtain ⟨k2, hk2⟩ : ∃ n, e2.length = n := ⟨_, rfl⟩
  obtain ⟨k3, hk3⟩ : ∃ n, e3.length = n := ⟨_, rfl⟩
  unfold rowI at KI KS
  rw [hk1, hk2, hk3] at KI KS
  rw [hk1] at l1
  rw [hk2] at l2
  rw [hk3] at l3
  clear he1 he2 he3 hk1 hk2 hk3
  obtain ⟨rk, hrk⟩ : ∃ rk : Int, (1 : Int) + k1 + k2 + k3 = rk := ⟨_, rfl⟩
  have hrk0 : ¬ rk < 0 := by omega
  have HRK := Lib.hid hrk
  clear hrk
  obtain ⟨RI1, hRI1⟩ : ∃ x, rkT ⟨⟨b1, d1⟩, ⟨b2, d2⟩, ⟨b3, d3⟩, cy⟩ aS aKind = x := ⟨_, rfl⟩
  rw [hRI1] at KS KI
  clear hRI1
  obtain ⟨RI2, hRI2⟩ : ∃ x, rkC ⟨⟨b1, d1⟩, ⟨b2, d2⟩, ⟨b3, d3⟩, cy⟩ aS aKind = x := ⟨_, rfl⟩
  rw [hRI2] at KS KI
  clear hRI2
  have KS := Lib.hid KS
  have KI := Lib.hid KI
  clear hmk r1 r2 r3
  go_enter Tryd.func5, Tryd.ntmps5
  go_wp2_with fail
  refine Calls.kn hB0 ?_; intro w1 hK
  refine (szMachine_any b1 b2 b3 cy A1 A2 A3 _ _ _ c1 c2 c3 1048576 _ (by omega) (by omega) m1 m2 m3).mono ?_; rintro e w2 ⟨rfl, hw⟩
  have hK := hK.keep hw
  clear hB0
  have hK : Kn w [.blk w.heap.size [.int .i64 b1, .slice A1 d1.length c1, .int .i64 b2, .slice A2 d2.length c2, .int .i64 b3, .slice A3 d3.length c3, .int .i64 cy] 33] w2 := hK
  obtain ⟨q0, p0, o0, -⟩ := hK.cells
  go_wp2_with fail
  clear q0 p0 o0
  refine (TM.out _ hK.below).mono ?_; rintro e w4 ⟨X11, x11, X12, x12, X13, x13, rfl, hKn⟩
  have hK : Kn w [rowN X13 d3.length x13 d3, rowN X12 d2.length x12 d2, rowN X11 d1.length x11 d1, .blk w.heap.size [.int .i64 b1, .slice A1 d1.length c1, .int .i64 b2, .slice A2 d2.length c2, .int .i64 b3, .slice A3 d3.length c3, .int .i64 cy] 33] w4 := hK.join hKn
  clear hKn
  obtain ⟨q0, p0, o0, -⟩ := hK.cells
  go_wp2_with fail
  clear q0 p0 o0
  refine (KS.out X11 x11 X12 x12 X13 x13 _ (Kn.riN (hK.sel [2] 99 (by decide) (by decide))) (Kn.riN (hK.sel [1] 99 (by decide) (by decide))) (Kn.riN (hK.sel [0] 99 (by decide) (by decide))) hK.below).mono ?_; rintro e w5 ⟨S1, s1, S2, s2, S3, s3, rfl, hKn⟩
  have hK : Kn w [rowN S3 k3 s3 e3, rowN S2 k2 s2 e2, rowN S1 k1 s1 e1, rowN X13 d3.length x13 d3, rowN X12 d2.length x12 d2, rowN X11 d1.length x11 d1, .blk w.heap.size [.int .i64 b1, .slice A1 d1.length c1, .int .i64 b2, .slice A2 d2.length c2, .int .i64 b3, .slice A3 d3.length c3, .int .i64 cy] 33] w5 := hK.join hKn
  clear hKn
  obtain ⟨q0, p0, o0, -⟩ := hK.cells
  go_wp2_with fail
  have hK' := (hK.al [.int .i64 RT.a.base, .slice S1 k1 s1, .int .i64 RT.b.base, .slice S2 k2 s2, .int .i64 RT.s.base, .slice S3 k3 s3, .int .i64 RT.carry] 37)
  refine Calls.kn hK' ?_; clear hK'; intro w6 hK'
  clear q0 p0 o0
  have hK : Kn w [.blk w5.heap.size [.int .i64 RT.a.base, .slice S1 k1 s1, .int .i64 RT.b.base, .slice S2 k2 s2, .int .i64 RT.s.base, .slice S3 k3 s3, .int .i64 RT.carry] 37, rowN S3 k3 s3 e3, rowN S2 k2 s2 e2, rowN S1 k1 s1 e1, rowN X13 d3.length x13 d3, rowN X12 d2.length x12 d2, rowN X11 d1.length x11 d1, .blk w.heap.size [.int .i64 b1, .slice A1 d1.length c1, .int .i64 b2, .slice A2 d2.length c2, .int .i64 b3, .slice A3 d3.length c3, .int .i64 cy] 33] w6 := hK'
  clear hK'
  refine (TM.out _ hK.below).mono ?_; rintro e w7 ⟨X21, x21, X22, x22, X23, x23, rfl, hKn⟩
  have hK : Kn w [rowN X23 d3.length x23 d3, rowN X22 d2.length x22 d2, rowN X21 d1.length x21 d1, .blk w5.heap.size [.int .i64 RT.a.base, .slice S1 k1 s1, .int .i64 RT.b.base, .slice S2 k2 s2, .int .i64 RT.s.base, .slice S3 k3 s3, .int .i64 RT.carry] 37, rowN S3 k3 s3 e3, rowN S2 k2 s2 e2, rowN S1 k1 s1 e1, rowN X13 d3.length x13 d3, rowN X12 d2.length x12 d2, rowN X11 d1.length x11 d1, .blk w.heap.size [.int .i64 b1, .slice A1 d1.length c1, .int .i64 b2, .slice A2 d2.length c2, .int .i64 b3, .slice A3 d3.length c3, .int .i64 cy] 33] w7 := hK.join hKn
  clear hKn
  obtain ⟨q0, p0, o0, q1, p1, o1, -⟩ := hK.cells
  go_wp2_with fail
  have hK' := (hK.al [.int .i64 b1, .slice X21 d1.length x21, .int .i64 b2, .slice X22 d2.length x22, .int .i64 b3, .slice X23 d3.length x23, .int .i64 cy] 37)
  refine Calls.kn hK' ?_; clear hK'; intro w8 hK'
  clear q0 p0 o0 q1 p1 o1
  have hK : Kn w [.blk w7.heap.size [.int .i64 b1, .slice X21 d1.length x21, .int .i64 b2, .slice X22 d2.length x22, .int .i64 b3, .slice X23 d3.length x23, .int .i64 cy] 37, rowN X23 d3.length x23 d3, rowN X22 d2.length x22 d2, rowN X21 d1.length x21 d1, .blk w5.heap.size [.int .i64 RT.a.base, .slice S1 k1 s1, .int .i64 RT.b.base, .slice S2 k2 s2, .int .i64 RT.s.base, .slice S3 k3 s3, .int .i64 RT.carry] 37, rowN S3 k3 s3 e3, rowN S2 k2 s2 e2, rowN S1 k1 s1 e1, rowN X13 d3.length x13 d3, rowN X12 d2.length x12 d2, rowN X11 d1.length x11 d1, .blk w.heap.size [.int .i64 b1, .slice A1 d1.length c1, .int .i64 b2, .slice A2 d2.length c2, .int .i64 b3, .slice A3 d3.length c3, .int .i64 cy] 33] w8 := hK'
  clear hK'
  refine (KI.out X21 x21 X22 x22 X23 x23 _ (Kn.riN (hK.sel [3] 99 (by decide) (by decide))) (Kn.riN (hK.sel [2] 99 (by decide) (by decide))) (Kn.riN (hK.sel [1] 99 (by decide) (by decide))) hK.below).mono ?_; rintro e w9 ⟨G1, g1, G2, g2, G3, g3, rfl, hKn⟩
  have hK : Kn w [rowN G3 k3 g3 e3, rowN G2 k2 g2 e2, rowN G1 k1 g1 e1, .blk w7.heap.size [.int .i64 b1, .slice X21 d1.length x21, .int .i64 b2, .slice X22 d2.length x22, .int .i64 b3, .slice X23 d3.length x23, .int .i64 cy] 37, rowN X23 d3.length x23 d3, rowN X22 d2.length x22 d2, rowN X21 d1.length x21 d1, .blk w5.heap.size [.int .i64 RT.a.base, .slice S1 k1 s1, .int .i64 RT.b.base, .slice S2 k2 s2, .int .i64 RT.s.base, .slice S3 k3 s3, .int .i64 RT.carry] 37, rowN S3 k3 s3 e3, rowN S2 k2 s2 e2, rowN S1 k1 s1 e1, rowN X13 d3.length x13 d3, rowN X12 d2.length x12 d2, rowN X11 d1.length x11 d1, .blk w.heap.size [.int .i64 b1, .slice A1 d1.length c1, .int .i64 b2, .slice A2 d2.length c2, .int .i64 b3, .slice A3 d3.length c3, .int .i64 cy] 33] w9 := hK.join hKn
  clear hKn
  obtain ⟨q0, p0, o0, q1, p1, o1, q2, p2, o2, -⟩ := hK.cells
  go_wp2_with fail
  have hK' := (hK.al [.int .i64 RT.a.base, .slice G1 k1 g1, .int .i64 RT.b.base, .slice G2 k2 g2, .int .i64 RT.s.base, .slice G3 k3 g3, .int .i64 RT.carry] 37)
  refine Calls.kn hK' ?_; clear hK'; intro w10 hK'
  clear q0 p0 o0 q1 p1 o1 q2 p2 o2
  have hK : Kn w [.blk w9.heap.size [.int .i64 RT.a.base, .slice G1 k1 g1, .int .i64 RT.b.base, .slice G2 k2 g2, .int .i64 RT.s.base, .slice G3 k3 g3, .int .i64 RT.carry] 37, rowN G3 k3 g3 e3, rowN G2 k2 g2 e2, rowN G1 k1 g1 e1, .blk w7.heap.size [.int .i64 b1, .slice X21 d1.length x21, .int .i64 b2, .slice X22 d2.length x22, .int .i64 b3, .slice X23 d3.length x23, .int .i64 cy] 37, rowN X23 d3.length x23 d3, rowN X22 d2.length x22 d2, rowN X21 d1.length x21 d1, .blk w5.heap.size [.int .i64 RT.a.base, .slice S1 k1 s1, .int .i64 RT.b.base, .slice S2 k2 s2, .int .i64 RT.s.base, .slice S3 k3 s3, .int .i64 RT.carry] 37, rowN S3 k3 s3 e3, rowN S2 k2 s2 e2, rowN S1 k1 s1 e1, rowN X13 d3.length x13 d3, rowN X12 d2.length x12 d2, rowN X11 d1.length x11 d1, .blk w.heap.size [.int .i64 b1, .slice A1 d1.length c1, .int .i64 b2, .slice A2 d2.length c2, .int .i64 b3, .slice A3 d3.length c3, .int .i64 cy] 33] w10 := hK'
  clear hK'
  refine (eqM_same RT.a.base RT.b.base RT.s.base RT.carry G1 G2 G3 S1 S2 S3   k1 k2 k3 g1 g2 g3 s1 s2 s3 e1 e2 e3 _ (Kn.riN (hK.sel [3] 99 (by decide) (by decide))) (Kn.riN (hK.sel [2] 99 (by decide) (by decide))) (Kn.riN (hK.sel [1] 99 (by decide) (by decide))) (Kn.riN (hK.sel [11] 99 (by decide) (by decide))) (Kn.riN (hK.sel [10] 99 (by decide) (by decide))) (Kn.riN (hK.sel [9] 99 (by decide) (by decide))) (by omega) (by omega) (by omega)).mono ?_; rintro e w11 ⟨rfl, hw⟩
  have hK : Kn w [.blk w9.heap.size [.int .i64 RT.a.base, .slice G1 k1 g1, .int .i64 RT.b.base, .slice G2 k2 g2, .int .i64 RT.s.base, .slice G3 k3 g3, .int .i64 RT.carry] 37, rowN G3 k3 g3 e3, rowN G2 k2 g2 e2, rowN G1 k1 g1 e1, .blk w7.heap.size [.int .i64 b1, .slice X21 d1.length x21, .int .i64 b2, .slice X22 d2.length x22, .int .i64 b3, .slice X23 d3.length x23, .int .i64 cy] 37, rowN X23 d3.length x23 d3, rowN X22 d2.length x22 d2, rowN X21 d1.length x21 d1, .blk w5.heap.size [.int .i64 RT.a.base, .slice S1 k1 s1, .int .i64 RT.b.base, .slice S2 k2 s2, .int .i64 RT.s.base, .slice S3 k3 s3, .int .i64 RT.carry] 37, rowN S3 k3 s3 e3, rowN S2 k2 s2 e2, rowN S1 k1 s1 e1, rowN X13 d3.length x13 d3, rowN X12 d2.length x12 d2, rowN X11 d1.length x11 d1, .blk w.heap.size [.int .i64 b1, .slice A1 d1.length c1, .int .i64 b2, .slice A2 d2.length c2, .int .i64 b3, .slice A3 d3.length c3, .int .i64 cy] 33] w11 := hK.keep hw
  clear hw
  obtain ⟨q0, p0, o0, q1, p1, o1, q2, p2, o2, q3, p3, o3, -⟩ := hK.cells
  go_wp2_with fail
  have HG := Lib.hid (And.intro (box7at hK.drew 4 rfl) (box7at hK.drew 15 rfl))
  go_region_held3 (fun W => (W.cell? ⟨w7.heap.size, 0, none⟩ = some (.int .i64 b1) ∧ W.cell? ⟨w7.heap.size, 1, none⟩ = some (.slice X21 d1.length x21) ∧ W.cell? ⟨w7.heap.size, 2, none⟩ = some (.int .i64 b2) ∧ W.cell? ⟨w7.heap.size, 3, none⟩ = some (.slice X22 d2.length x22) ∧ W.cell? ⟨w7.heap.size, 4, none⟩ = some (.int .i64 b3) ∧ W.cell? ⟨w7.heap.size, 5, none⟩ = some (.slice X23 d3.length x23) ∧ W.cell? ⟨w7.heap.size, 6, none⟩ = some (.int .i64 cy)) ∧ (W.cell? ⟨w.heap.size, 0, none⟩ = some (.int .i64 b1) ∧ W.cell? ⟨w.heap.size, 1, none⟩ = some (.slice A1 d1.length c1) ∧ W.cell? ⟨w.heap.size, 2, none⟩ = some (.int .i64 b2) ∧ W.cell? ⟨w.heap.size, 3, none⟩ = some (.slice A2 d2.length c2) ∧ W.cell? ⟨w.heap.size, 4, none⟩ = some (.int .i64 b3) ∧ W.cell? ⟨w.heap.size, 5, none⟩ = some (.slice A3 d3.length c3) ∧ W.cell? ⟨w.heap.size, 6, none⟩ = some (.int .i64 cy)))
    (first | with_reducible exact HG.out | exact HG.out) (first
    | (go_at_call 21; refine (TM.out _ hK.drew.below).mono ?_; rintro e w12 ⟨X31, x31, X32, x32, X33, x33, rfl, hKn⟩; have hK2 : Kn w [rowN X33 d3.length x33 d3, rowN X32 d2.length x32 d2, rowN X31 d1.length x31 d1, .blk w9.heap.size [.int .i64 RT.a.base, .slice G1 k1 g1, .int .i64 RT.b.base, .slice G2 k2 g2, .int .i64 RT.s.base, .slice G3 k3 g3, .int .i64 RT.carry] 37, rowN G3 k3 g3 e3, rowN G2 k2 g2 e2, rowN G1 k1 g1 e1, .blk w7.heap.size [.int .i64 b1, .slice X21 d1.length x21, .int .i64 b2, .slice X22 d2.length x22, .int .i64 b3, .slice X23 d3.length x23, .int .i64 cy] 37, rowN X23 d3.length x23 d3, rowN X22 d2.length x22 d2, rowN X21 d1.length x21 d1, .blk w5.heap.size [.int .i64 RT.a.base, .slice S1 k1 s1, .int .i64 RT.b.base, .slice S2 k2 s2, .int .i64 RT.s.base, .slice S3 k3 s3, .int .i64 RT.carry] 37, rowN S3 k3 s3 e3, rowN S2 k2 s2 e2, rowN S1 k1 s1 e1, rowN X13 d3.length x13 d3, rowN X12 d2.length x12 d2, rowN X11 d1.length x11 d1, .blk w.heap.size [.int .i64 b1, .slice A1 d1.length c1, .int .i64 b2, .slice A2 d2.length c2, .int .i64 b3, .slice A3 d3.length c3, .int .i64 cy] 33] w12 := hK.drew.join hKn; clear HG; have HG := Lib.hid (And.intro (box7at hK2 7 rfl) (box7at hK2 18 rfl)))
    | (go_at_call 23; refine (eqM_same b1 b2 b3 cy X21 X22 X23 X31 X32 X33 _ _ _ x21 x22 x23 x31 x32 x33 d1 d2 d3 _ (Kn.riN (hK2.sel [10] 99 (by decide) (by decide))) (Kn.riN (hK2.sel [9] 99 (by decide) (by decide))) (Kn.riN (hK2.sel [8] 99 (by decide) (by decide))) (Kn.riN (hK2.sel [2] 99 (by decide) (by decide))) (Kn.riN (hK2.sel [1] 99 (by decide) (by decide))) (Kn.riN (hK2.sel [0] 99 (by decide) (by decide))) (by omega) (by omega) (by omega)).mono ?_; rintro e w13 ⟨rfl, hw⟩; have hK3 : Kn w [rowN X33 d3.length x33 d3, rowN X32 d2.length x32 d2, rowN X31 d1.length x31 d1, .blk w9.heap.size [.int .i64 RT.a.base, .slice G1 k1 g1, .int .i64 RT.b.base, .slice G2 k2 g2, .int .i64 RT.s.base, .slice G3 k3 g3, .int .i64 RT.carry] 37, rowN G3 k3 g3 e3, rowN G2 k2 g2 e2, rowN G1 k1 g1 e1, .blk w7.heap.size [.int .i64 b1, .slice X21 d1.length x21, .int .i64 b2, .slice X22 d2.length x22, .int .i64 b3, .slice X23 d3.length x23, .int .i64 cy] 37, rowN X23 d3.length x23 d3, rowN X22 d2.length x22 d2, rowN X21 d1.length x21 d1, .blk w5.heap.size [.int .i64 RT.a.base, .slice S1 k1 s1, .int .i64 RT.b.base, .slice S2 k2 s2, .int .i64 RT.s.base, .slice S3 k3 s3, .int .i64 RT.carry] 37, rowN S3 k3 s3 e3, rowN S2 k2 s2 e2, rowN S1 k1 s1 e1, rowN X13 d3.length x13 d3, rowN X12 d2.length x12 d2, rowN X11 d1.length x11 d1, .blk w.heap.size [.int .i64 b1, .slice A1 d1.length c1, .int .i64 b2, .slice A2 d2.length c2, .int .i64 b3, .slice A3 d3.length c3, .int .i64 cy] 33] w13 := hK2.keep hw; clear HG; have HG := Lib.hid (And.intro (box7at hK3 7 rfl) (box7at hK3 18 rfl))))
  clear q0 p0 o0 q1 p1 o1 q2 p2 o2 q3 p3 o3
  have hK := hK3
  clear HG hK2 hK3 hKn hw
  obtain ⟨q0, p0, o0, q1, p1, o1, q2, p2, o2, q3, p3, o3, -⟩ := hK.cells
  go_wp2_with fail
  clear q0 p0 o0 q1 p1 o1 q2 p2 o2 q3 p3 o3
  have hK : Kn w [rowN X23 d3.length x23 d3, rowN X22 d2.length x22 d2, rowN X21 d1.length x21 d1, rowN X33 d3.length x33 d3, rowN X32 d2.length x32 d2, rowN X31 d1.length x31 d1, .blk w9.heap.size [.int .i64 RT.a.base, .slice G1 k1 g1, .int .i64 RT.b.base, .slice G2 k2 g2, .int .i64 RT.s.base, .slice G3 k3 g3, .int .i64 RT.carry] 37, rowN G3 k3 g3 e3, rowN G2 k2 g2 e2, rowN G1 k1 g1 e1, .blk w7.heap.size [.int .i64 b1, .slice X21 d1.length x21, .int .i64 b2, .slice X22 d2.length x22, .int .i64 b3, .slice X23 d3.length x23, .int .i64 cy] 37, .blk w5.heap.size [.int .i64 RT.a.base, .slice S1 k1 s1, .int .i64 RT.b.base, .slice S2 k2 s2, .int .i64 RT.s.base, .slice S3 k3 s3, .int .i64 RT.carry] 37, rowN S3 k3 s3 e3, rowN S2 k2 s2 e2, rowN S1 k1 s1 e1, rowN X13 d3.length x13 d3, rowN X12 d2.length x12 d2, rowN X11 d1.length x11 d1, .blk w.heap.size [.int .i64 b1, .slice A1 d1.length c1, .int .i64 b2, .slice A2 d2.length c2, .int .i64 b3, .slice A3 d3.length c3, .int .i64 cy] 33] w13 := hK.sel [8, 9, 10, 0, 1, 2, 3, 4, 5, 6, 7, 11, 12, 13, 14, 15, 16, 17, 18] 19 (by decide) (by decide)
  refine (markMachine_kn w _ _ _ _ _ X21 X22 X23 d1.length d2.length d3.length x21 x22 x23 d1 d2 d3  1 _ hK (by omega) (by omega)).mono ?_; rintro e w14 ⟨rfl, hKn⟩
  have hK : Kn w [rowN X23 d3.length x23 (upto (1 + (d1.length : Int) + (d2.length : Int)) d3.length), rowN X22 d2.length x22 (upto (1 + (d1.length : Int)) d2.length), rowN X21 d1.length x21 (upto 1 d1.length), rowN X33 d3.length x33 d3, rowN X32 d2.length x32 d2, rowN X31 d1.length x31 d1, .blk w9.heap.size [.int .i64 RT.a.base, .slice G1 k1 g1, .int .i64 RT.b.base, .slice G2 k2 g2, .int .i64 RT.s.base, .slice G3 k3 g3, .int .i64 RT.carry] 37, rowN G3 k3 g3 e3, rowN G2 k2 g2 e2, rowN G1 k1 g1 e1, .blk w7.heap.size [.int .i64 b1, .slice X21 d1.length x21, .int .i64 b2, .slice X22 d2.length x22, .int .i64 b3, .slice X23 d3.length x23, .int .i64 cy] 37, .blk w5.heap.size [.int .i64 RT.a.base, .slice S1 k1 s1, .int .i64 RT.b.base, .slice S2 k2 s2, .int .i64 RT.s.base, .slice S3 k3 s3, .int .i64 RT.carry] 37, rowN S3 k3 s3 e3, rowN S2 k2 s2 e2, rowN S1 k1 s1 e1, rowN X13 d3.length x13 d3, rowN X12 d2.length x12 d2, rowN X11 d1.length x11 d1, .blk w.heap.size [.int .i64 b1, .slice A1 d1.length c1, .int .i64 b2, .slice A2 d2.length c2, .int .i64 b3, .slice A3 d3.length c3, .int .i64 cy] 33] w14 := hKn
  clear hKn
  rw [HMK.out]
  obtain ⟨q0, p0, o0, q1, p1, o1, q2, p2, o2, q3, p3, o3, -⟩ := hK.cells
  go_wp2_with fail
  clear q0 p0 o0 q1 p1 o1 q2 p2 o2 q3 p3 o3
  refine (eqM_same RT.a.base RT.b.base RT.s.base RT.carry G1 G2 G3 S1 S2 S3   k1 k2 k3 g1 g2 g3 s1 s2 s3 e1 e2 e3 _ (Kn.riN (hK.sel [9] 99 (by decide) (by decide))) (Kn.riN (hK.sel [8] 99 (by decide) (by decide))) (Kn.riN (hK.sel [7] 99 (by decide) (by decide))) (Kn.riN (hK.sel [14] 99 (by decide) (by decide))) (Kn.riN (hK.sel [13] 99 (by decide) (by decide))) (Kn.riN (hK.sel [12] 99 (by decide) (by decide))) (by omega) (by omega) (by omega)).mono ?_; rintro e w15 ⟨rfl, hw⟩
  have hK : Kn w [rowN X23 d3.length x23 (upto (1 + (d1.length : Int) + (d2.length : Int)) d3.length), rowN X22 d2.length x22 (upto (1 + (d1.length : Int)) d2.length), rowN X21 d1.length x21 (upto 1 d1.length), rowN X33 d3.length x33 d3, rowN X32 d2.length x32 d2, rowN X31 d1.length x31 d1, .blk w9.heap.size [.int .i64 RT.a.base, .slice G1 k1 g1, .int .i64 RT.b.base, .slice G2 k2 g2, .int .i64 RT.s.base, .slice G3 k3 g3, .int .i64 RT.carry] 37, rowN G3 k3 g3 e3, rowN G2 k2 g2 e2, rowN G1 k1 g1 e1, .blk w7.heap.size [.int .i64 b1, .slice X21 d1.length x21, .int .i64 b2, .slice X22 d2.length x22, .int .i64 b3, .slice X23 d3.length x23, .int .i64 cy] 37, .blk w5.heap.size [.int .i64 RT.a.base, .slice S1 k1 s1, .int .i64 RT.b.base, .slice S2 k2 s2, .int .i64 RT.s.base, .slice S3 k3 s3, .int .i64 RT.carry] 37, rowN S3 k3 s3 e3, rowN S2 k2 s2 e2, rowN S1 k1 s1 e1, rowN X13 d3.length x13 d3, rowN X12 d2.length x12 d2, rowN X11 d1.length x11 d1, .blk w.heap.size [.int .i64 b1, .slice A1 d1.length c1, .int .i64 b2, .slice A2 d2.length c2, .int .i64 b3, .slice A3 d3.length c3, .int .i64 cy] 33] w15 := hK.keep hw
  clear hw
  obtain ⟨q0, p0, o0, q1, p1, o1, q2, p2, o2, q3, p3, o3, -⟩ := hK.cells
  go_wp2_with fail
  clear q0 p0 o0 q1 p1 o1 q2 p2 o2 q3 p3 o3
  have hK : Kn w [rowN G3 k3 g3 e3, rowN G2 k2 g2 e2, rowN G1 k1 g1 e1, rowN X23 d3.length x23 (upto (1 + (d1.length : Int) + (d2.length : Int)) d3.length), rowN X22 d2.length x22 (upto (1 + (d1.length : Int)) d2.length), rowN X21 d1.length x21 (upto 1 d1.length), rowN X33 d3.length x33 d3, rowN X32 d2.length x32 d2, rowN X31 d1.length x31 d1, .blk w9.heap.size [.int .i64 RT.a.base, .slice G1 k1 g1, .int .i64 RT.b.base, .slice G2 k2 g2, .int .i64 RT.s.base, .slice G3 k3 g3, .int .i64 RT.carry] 37, .blk w7.heap.size [.int .i64 b1, .slice X21 d1.length x21, .int .i64 b2, .slice X22 d2.length x22, .int .i64 b3, .slice X23 d3.length x23, .int .i64 cy] 37, .blk w5.heap.size [.int .i64 RT.a.base, .slice S1 k1 s1, .int .i64 RT.b.base, .slice S2 k2 s2, .int .i64 RT.s.base, .slice S3 k3 s3, .int .i64 RT.carry] 37, rowN S3 k3 s3 e3, rowN S2 k2 s2 e2, rowN S1 k1 s1 e1, rowN X13 d3.length x13 d3, rowN X12 d2.length x12 d2, rowN X11 d1.length x11 d1, .blk w.heap.size [.int .i64 b1, .slice A1 d1.length c1, .int .i64 b2, .slice A2 d2.length c2, .int .i64 b3, .slice A3 d3.length c3, .int .i64 cy] 33] w15 := hK.sel [7, 8, 9, 0, 1, 2, 3, 4, 5, 6, 10, 11, 12, 13, 14, 15, 16, 17, 18] 19 (by decide) (by decide)
  refine (markMachine_kn w _ _ _ _ _ G1 G2 G3 k1 k2 k3 g1 g2 g3 e1 e2 e3  1 _ hK (by omega) (by omega)).mono ?_; rintro e w16 ⟨rfl, hKn⟩
  have hK : Kn w [rowN G3 k3 g3 (upto (1 + (k1 : Int) + (k2 : Int)) k3), rowN G2 k2 g2 (upto (1 + (k1 : Int)) k2), rowN G1 k1 g1 (upto 1 k1), rowN X23 d3.length x23 (upto (1 + (d1.length : Int) + (d2.length : Int)) d3.length), rowN X22 d2.length x22 (upto (1 + (d1.length : Int)) d2.length), rowN X21 d1.length x21 (upto 1 d1.length), rowN X33 d3.length x33 d3, rowN X32 d2.length x32 d2, rowN X31 d1.length x31 d1, .blk w9.heap.size [.int .i64 RT.a.base, .slice G1 k1 g1, .int .i64 RT.b.base, .slice G2 k2 g2, .int .i64 RT.s.base, .slice G3 k3 g3, .int .i64 RT.carry] 37, .blk w7.heap.size [.int .i64 b1, .slice X21 d1.length x21, .int .i64 b2, .slice X22 d2.length x22, .int .i64 b3, .slice X23 d3.length x23, .int .i64 cy] 37, .blk w5.heap.size [.int .i64 RT.a.base, .slice S1 k1 s1, .int .i64 RT.b.base, .slice S2 k2 s2, .int .i64 RT.s.base, .slice S3 k3 s3, .int .i64 RT.carry] 37, rowN S3 k3 s3 e3, rowN S2 k2 s2 e2, rowN S1 k1 s1 e1, rowN X13 d3.length x13 d3, rowN X12 d2.length x12 d2, rowN X11 d1.length x11 d1, .blk w.heap.size [.int .i64 b1, .slice A1 d1.length c1, .int .i64 b2, .slice A2 d2.length c2, .int .i64 b3, .slice A3 d3.length c3, .int .i64 cy] 33] w16 := hKn
  clear hKn
  rw [HRK.out]
  obtain ⟨q0, p0, o0, q1, p1, o1, q2, p2, o2, q3, p3, o3, -⟩ := hK.cells
  go_wp2_with fail
  clear q0 p0 o0 q1 p1 o1 q2 p2 o2 q3 p3 o3
  refine (heldMachine_any _ _ _ _ G1 G2 G3 k1 k2 k3 g1 g2 g3 1 _ (Kn.riN (hK.sel [2] 99 (by decide) (by decide))) (Kn.riN (hK.sel [1] 99 (by decide) (by decide))) (Kn.riN (hK.sel [0] 99 (by decide) (by decide))) (by omega) (by omega)).mono ?_; rintro e w17 ⟨rfl, hw⟩
  have hK : Kn w [rowN G3 k3 g3 (upto (1 + (k1 : Int) + (k2 : Int)) k3), rowN G2 k2 g2 (upto (1 + (k1 : Int)) k2), rowN G1 k1 g1 (upto 1 k1), rowN X23 d3.length x23 (upto (1 + (d1.length : Int) + (d2.length : Int)) d3.length), rowN X22 d2.length x22 (upto (1 + (d1.length : Int)) d2.length), rowN X21 d1.length x21 (upto 1 d1.length), rowN X33 d3.length x33 d3, rowN X32 d2.length x32 d2, rowN X31 d1.length x31 d1, .blk w9.heap.size [.int .i64 RT.a.base, .slice G1 k1 g1, .int .i64 RT.b.base, .slice G2 k2 g2, .int .i64 RT.s.base, .slice G3 k3 g3, .int .i64 RT.carry] 37, .blk w7.heap.size [.int .i64 b1, .slice X21 d1.length x21, .int .i64 b2, .slice X22 d2.length x22, .int .i64 b3, .slice X23 d3.length x23, .int .i64 cy] 37, .blk w5.heap.size [.int .i64 RT.a.base, .slice S1 k1 s1, .int .i64 RT.b.base, .slice S2 k2 s2, .int .i64 RT.s.base, .slice S3 k3 s3, .int .i64 RT.carry] 37, rowN S3 k3 s3 e3, rowN S2 k2 s2 e2, rowN S1 k1 s1 e1, rowN X13 d3.length x13 d3, rowN X12 d2.length x12 d2, rowN X11 d1.length x11 d1, .blk w.heap.size [.int .i64 b1, .slice A1 d1.length c1, .int .i64 b2, .slice A2 d2.length c2, .int .i64 b3, .slice A3 d3.length c3, .int .i64 cy] 33] w17 := hK.keep hw
  clear hw
  rw [HRK.out]
  obtain ⟨q0, p0, o0, q1, p1, o1, q2, p2, o2, q3, p3, o3, -⟩ := hK.cells
  go_wp2_with fail
  clear q0 p0 o0 q1 p1 o1 q2 p2 o2 q3 p3 o3
  refine (TM.out _ hK.below).mono ?_; rintro e w18 ⟨X41, x41, X42, x42, X43, x43, rfl, hKn⟩
  have hK : Kn w [rowN X43 d3.length x43 d3, rowN X42 d2.length x42 d2, rowN X41 d1.length x41 d1, rowN G3 k3 g3 (upto (1 + (k1 : Int) + (k2 : Int)) k3), rowN G2 k2 g2 (upto (1 + (k1 : Int)) k2), rowN G1 k1 g1 (upto 1 k1), rowN X23 d3.length x23 (upto (1 + (d1.length : Int) + (d2.length : Int)) d3.length), rowN X22 d2.length x22 (upto (1 + (d1.length : Int)) d2.length), rowN X21 d1.length x21 (upto 1 d1.length), rowN X33 d3.length x33 d3, rowN X32 d2.length x32 d2, rowN X31 d1.length x31 d1, .blk w9.heap.size [.int .i64 RT.a.base, .slice G1 k1 g1, .int .i64 RT.b.base, .slice G2 k2 g2, .int .i64 RT.s.base, .slice G3 k3 g3, .int .i64 RT.carry] 37, .blk w7.heap.size [.int .i64 b1, .slice X21 d1.length x21, .int .i64 b2, .slice X22 d2.length x22, .int .i64 b3, .slice X23 d3.length x23, .int .i64 cy] 37, .blk w5.heap.size [.int .i64 RT.a.base, .slice S1 k1 s1, .int .i64 RT.b.base, .slice S2 k2 s2, .int .i64 RT.s.base, .slice S3 k3 s3, .int .i64 RT.carry] 37, rowN S3 k3 s3 e3, rowN S2 k2 s2 e2, rowN S1 k1 s1 e1, rowN X13 d3.length x13 d3, rowN X12 d2.length x12 d2, rowN X11 d1.length x11 d1, .blk w.heap.size [.int .i64 b1, .slice A1 d1.length c1, .int .i64 b2, .slice A2 d2.length c2, .int .i64 b3, .slice A3 d3.length c3, .int .i64 cy] 33] w18 := hK.join hKn
  clear hKn
  obtain ⟨q0, p0, o0, q1, p1, o1, q2, p2, o2, q3, p3, o3, -⟩ := hK.cells
  go_wp2_with fail
  clear q0 p0 o0 q1 p1 o1 q2 p2 o2 q3 p3 o3
  refine (KI.out X41 x41 X42 x42 X43 x43 _ (Kn.riN (hK.sel [2] 99 (by decide) (by decide))) (Kn.riN (hK.sel [1] 99 (by decide) (by decide))) (Kn.riN (hK.sel [0] 99 (by decide) (by decide))) hK.below).mono ?_; rintro e w19 ⟨H1, h1, H2, h2, H3, h3, rfl, hKn⟩
  have hK : Kn w [rowN H3 k3 h3 e3, rowN H2 k2 h2 e2, rowN H1 k1 h1 e1, rowN X43 d3.length x43 d3, rowN X42 d2.length x42 d2, rowN X41 d1.length x41 d1, rowN G3 k3 g3 (upto (1 + (k1 : Int) + (k2 : Int)) k3), rowN G2 k2 g2 (upto (1 + (k1 : Int)) k2), rowN G1 k1 g1 (upto 1 k1), rowN X23 d3.length x23 (upto (1 + (d1.length : Int) + (d2.length : Int)) d3.length), rowN X22 d2.length x22 (upto (1 + (d1.length : Int)) d2.length), rowN X21 d1.length x21 (upto 1 d1.length), rowN X33 d3.length x33 d3, rowN X32 d2.length x32 d2, rowN X31 d1.length x31 d1, .blk w9.heap.size [.int .i64 RT.a.base, .slice G1 k1 g1, .int .i64 RT.b.base, .slice G2 k2 g2, .int .i64 RT.s.base, .slice G3 k3 g3, .int .i64 RT.carry] 37, .blk w7.heap.size [.int .i64 b1, .slice X21 d1.length x21, .int .i64 b2, .slice X22 d2.length x22, .int .i64 b3, .slice X23 d3.length x23, .int .i64 cy] 37, .blk w5.heap.size [.int .i64 RT.a.base, .slice S1 k1 s1, .int .i64 RT.b.base, .slice S2 k2 s2, .int .i64 RT.s.base, .slice S3 k3 s3, .int .i64 RT.carry] 37, rowN S3 k3 s3 e3, rowN S2 k2 s2 e2, rowN S1 k1 s1 e1, rowN X13 d3.length x13 d3, rowN X12 d2.length x12 d2, rowN X11 d1.length x11 d1, .blk w.heap.size [.int .i64 b1, .slice A1 d1.length c1, .int .i64 b2, .slice A2 d2.length c2, .int .i64 b3, .slice A3 d3.length c3, .int .i64 cy] 33] w19 := hK.join hKn
  clear hKn
  obtain ⟨q0, p0, o0, q1, p1, o1, q2, p2, o2, q3, p3, o3, -⟩ := hK.cells
  go_wp2_with fail
  have hK' := (hK.al [.int .i64 RT.a.base, .slice H1 k1 h1, .int .i64 RT.b.base, .slice H2 k2 h2, .int .i64 RT.s.base, .slice H3 k3 h3, .int .i64 RT.carry] 37)
  refine Calls.kn hK' ?_; clear hK'; intro w20 hK'
  clear q0 p0 o0 q1 p1 o1 q2 p2 o2 q3 p3 o3
  have hK : Kn w [.blk w19.heap.size [.int .i64 RT.a.base, .slice H1 k1 h1, .int .i64 RT.b.base, .slice H2 k2 h2, .int .i64 RT.s.base, .slice H3 k3 h3, .int .i64 RT.carry] 37, rowN H3 k3 h3 e3, rowN H2 k2 h2 e2, rowN H1 k1 h1 e1, rowN X43 d3.length x43 d3, rowN X42 d2.length x42 d2, rowN X41 d1.length x41 d1, rowN G3 k3 g3 (upto (1 + (k1 : Int) + (k2 : Int)) k3), rowN G2 k2 g2 (upto (1 + (k1 : Int)) k2), rowN G1 k1 g1 (upto 1 k1), rowN X23 d3.length x23 (upto (1 + (d1.length : Int) + (d2.length : Int)) d3.length), rowN X22 d2.length x22 (upto (1 + (d1.length : Int)) d2.length), rowN X21 d1.length x21 (upto 1 d1.length), rowN X33 d3.length x33 d3, rowN X32 d2.length x32 d2, rowN X31 d1.length x31 d1, .blk w9.heap.size [.int .i64 RT.a.base, .slice G1 k1 g1, .int .i64 RT.b.base, .slice G2 k2 g2, .int .i64 RT.s.base, .slice G3 k3 g3, .int .i64 RT.carry] 37, .blk w7.heap.size [.int .i64 b1, .slice X21 d1.length x21, .int .i64 b2, .slice X22 d2.length x22, .int .i64 b3, .slice X23 d3.length x23, .int .i64 cy] 37, .blk w5.heap.size [.int .i64 RT.a.base, .slice S1 k1 s1, .int .i64 RT.b.base, .slice S2 k2 s2, .int .i64 RT.s.base, .slice S3 k3 s3, .int .i64 RT.carry] 37, rowN S3 k3 s3 e3, rowN S2 k2 s2 e2, rowN S1 k1 s1 e1, rowN X13 d3.length x13 d3, rowN X12 d2.length x12 d2, rowN X11 d1.length x11 d1, .blk w.heap.size [.int .i64 b1, .slice A1 d1.length c1, .int .i64 b2, .slice A2 d2.length c2, .int .i64 b3, .slice A3 d3.length c3, .int .i64 cy] 33] w20 := hK'
  clear hK'
  refine (eqM_same RT.a.base RT.b.base RT.s.base RT.carry H1 H2 H3 S1 S2 S3   k1 k2 k3 h1 h2 h3 s1 s2 s3 e1 e2 e3 _ (Kn.riN (hK.sel [3] 99 (by decide) (by decide))) (Kn.riN (hK.sel [2] 99 (by decide) (by decide))) (Kn.riN (hK.sel [1] 99 (by decide) (by decide))) (Kn.riN (hK.sel [21] 99 (by decide) (by decide))) (Kn.riN (hK.sel [20] 99 (by decide) (by decide))) (Kn.riN (hK.sel [19] 99 (by decide) (by decide))) (by omega) (by omega) (by omega)).mono ?_; rintro e w21 ⟨rfl, hw⟩
  have hK : Kn w [.blk w19.heap.size [.int .i64 RT.a.base, .slice H1 k1 h1, .int .i64 RT.b.base, .slice H2 k2 h2, .int .i64 RT.s.base, .slice H3 k3 h3, .int .i64 RT.carry] 37, rowN H3 k3 h3 e3, rowN H2 k2 h2 e2, rowN H1 k1 h1 e1, rowN X43 d3.length x43 d3, rowN X42 d2.length x42 d2, rowN X41 d1.length x41 d1, rowN G3 k3 g3 (upto (1 + (k1 : Int) + (k2 : Int)) k3), rowN G2 k2 g2 (upto (1 + (k1 : Int)) k2), rowN G1 k1 g1 (upto 1 k1), rowN X23 d3.length x23 (upto (1 + (d1.length : Int) + (d2.length : Int)) d3.length), rowN X22 d2.length x22 (upto (1 + (d1.length : Int)) d2.length), rowN X21 d1.length x21 (upto 1 d1.length), rowN X33 d3.length x33 d3, rowN X32 d2.length x32 d2, rowN X31 d1.length x31 d1, .blk w9.heap.size [.int .i64 RT.a.base, .slice G1 k1 g1, .int .i64 RT.b.base, .slice G2 k2 g2, .int .i64 RT.s.base, .slice G3 k3 g3, .int .i64 RT.carry] 37, .blk w7.heap.size [.int .i64 b1, .slice X21 d1.length x21, .int .i64 b2, .slice X22 d2.length x22, .int .i64 b3, .slice X23 d3.length x23, .int .i64 cy] 37, .blk w5.heap.size [.int .i64 RT.a.base, .slice S1 k1 s1, .int .i64 RT.b.base, .slice S2 k2 s2, .int .i64 RT.s.base, .slice S3 k3 s3, .int .i64 RT.carry] 37, rowN S3 k3 s3 e3, rowN S2 k2 s2 e2, rowN S1 k1 s1 e1, rowN X13 d3.length x13 d3, rowN X12 d2.length x12 d2, rowN X11 d1.length x11 d1, .blk w.heap.size [.int .i64 b1, .slice A1 d1.length c1, .int .i64 b2, .slice A2 d2.length c2, .int .i64 b3, .slice A3 d3.length c3, .int .i64 cy] 33] w21 := hK.keep hw
  clear hw
  obtain ⟨q0, p0, o0, q1, p1, o1, q2, p2, o2, q3, p3, o3, q4, p4, o4, -⟩ := hK.cells
  go_wp2_with fail
  clear q0 p0 o0 q1 p1 o1 q2 p2 o2 q3 p3 o3 q4 p4 o4
  refine (heldMachine_any _ _ _ _ G1 G2 G3 k1 k2 k3 g1 g2 g3 1 _ (Kn.riN (hK.sel [9] 99 (by decide) (by decide))) (Kn.riN (hK.sel [8] 99 (by decide) (by decide))) (Kn.riN (hK.sel [7] 99 (by decide) (by decide))) (by omega) (by omega)).mono ?_; rintro e w22 ⟨rfl, hw⟩
  have hK : Kn w [.blk w19.heap.size [.int .i64 RT.a.base, .slice H1 k1 h1, .int .i64 RT.b.base, .slice H2 k2 h2, .int .i64 RT.s.base, .slice H3 k3 h3, .int .i64 RT.carry] 37, rowN H3 k3 h3 e3, rowN H2 k2 h2 e2, rowN H1 k1 h1 e1, rowN X43 d3.length x43 d3, rowN X42 d2.length x42 d2, rowN X41 d1.length x41 d1, rowN G3 k3 g3 (upto (1 + (k1 : Int) + (k2 : Int)) k3), rowN G2 k2 g2 (upto (1 + (k1 : Int)) k2), rowN G1 k1 g1 (upto 1 k1), rowN X23 d3.length x23 (upto (1 + (d1.length : Int) + (d2.length : Int)) d3.length), rowN X22 d2.length x22 (upto (1 + (d1.length : Int)) d2.length), rowN X21 d1.length x21 (upto 1 d1.length), rowN X33 d3.length x33 d3, rowN X32 d2.length x32 d2, rowN X31 d1.length x31 d1, .blk w9.heap.size [.int .i64 RT.a.base, .slice G1 k1 g1, .int .i64 RT.b.base, .slice G2 k2 g2, .int .i64 RT.s.base, .slice G3 k3 g3, .int .i64 RT.carry] 37, .blk w7.heap.size [.int .i64 b1, .slice X21 d1.length x21, .int .i64 b2, .slice X22 d2.length x22, .int .i64 b3, .slice X23 d3.length x23, .int .i64 cy] 37, .blk w5.heap.size [.int .i64 RT.a.base, .slice S1 k1 s1, .int .i64 RT.b.base, .slice S2 k2 s2, .int .i64 RT.s.base, .slice S3 k3 s3, .int .i64 RT.carry] 37, rowN S3 k3 s3 e3, rowN S2 k2 s2 e2, rowN S1 k1 s1 e1, rowN X13 d3.length x13 d3, rowN X12 d2.length x12 d2, rowN X11 d1.length x11 d1, .blk w.heap.size [.int .i64 b1, .slice A1 d1.length c1, .int .i64 b2, .slice A2 d2.length c2, .int .i64 b3, .slice A3 d3.length c3, .int .i64 cy] 33] w22 := hK.keep hw
  clear hw
  rw [HRK.out]
  obtain ⟨q0, p0, o0, q1, p1, o1, q2, p2, o2, q3, p3, o3, q4, p4, o4, -⟩ := hK.cells
  go_wp2_with fail
  go_ret
  exact ⟨rfl, hK.below⟩
end Go.Proofs.YtcapccadpbiecaaDoor

namespace Go.Proofs.YtcapccadpbiecaaDoor.fnExactRecordStroke
open Go.ChangeShapes Go.WideShapes Go.ChangeAt Go.RowKit
set_option maxRecDepth 100000 in
theorem contract (H : Type) (enc : TypeId × Value → H) (W : World) (base : Nat) (args : Array Value) (ds gs : List (DataW H)) (before : List MemPlace)
    (hval : ∀ (j : Nat) t v, Tryd.f5.params[j]? = some t → args[j]? = some v → Value.okWide Tryd.prog W .any base t v)
    (hW : DataW.Whole enc Tryd.prog Tryd.f5.params.toList Rows.fnExactRecordStrokeSpec.vars false W args.toList ds gs before) (hL : laidMetH Tryd.prog Rows.fnExactRecordStrokeRow.laid W) :
    Calls Tryd.prog 5 args W fun e W' => ∃ v, e = .returned v ∧ Rows.fnExactRecordStrokeSpec.post enc Tryd.prog Tryd.f5 false true false false W args v W' := by
  have hW' := hW
  obtain ⟨p, q, hA0, hV, rfl, hfz, hnd⟩ := hW
  have hA : DataW.TrodAll enc Tryd.prog W 0 (fun _ => true) true Tryd.f5.params.toList args.toList ds p := hA0
  rw [Tryd.params5] at hA hval
  obtain ⟨v0, vs0, d0, ds0, p0, q0, hargs, rfl, rfl, h0, r0⟩ := trodAll_cons hA
  obtain ⟨v1, vs1, d1, ds1, p1, q1, rfl, rfl, rfl, h1, r1⟩ := trodAll_cons r0
  obtain ⟨v2, vs2, d2, ds2, p2, q2, rfl, rfl, rfl, h2, r2⟩ := trodAll_cons r1
  obtain ⟨rfl, rfl, rfl⟩ := trodAll_nil r2
  obtain rfl : args = #[v0, v1, v2] := by cases args; simp_all
  obtain ⟨rfl, rfl⟩ := trodVars_none hV
  clear hA0
  simp only [List.append_nil] at hW'
  have hlt : ∀ x ∈ p0 ++ (p1 ++ (p2)), x.block < W.heap.size := fun x hx => by
    have := hW'.lt x (by simpa using hx)
    simpa using this
  obtain ⟨cs, rfl, hsz⟩ := okWide_struct Tryd.underlying33 (hval 0 _ _ rfl rfl)
  have t0 := h0
  obtain ⟨fuel0, hf0⟩ := h0
  obtain ⟨b1, A1, n1, c1, e1, b2, A2, n2, c2, e2, b3, A3, n3, c3, e3, cy, hcs, z1, z2, z3, m1, m2, m3⟩ := rd_lmachine hf0
  obtain rfl : cs = #[.int .i64 b1, .slice A1 n1 c1, .int .i64 b2, .slice A2 n2 c2, .int .i64 b3, .slice A3 n3 c3, .int .i64 cy] := by
    have : cs.toList = [.int .i64 b1, .slice A1 n1 c1, .int .i64 b2, .slice A2 n2 c2, .int .i64 b3, .slice A3 n3 c3, .int .i64 cy] := hcs
    rw [← Array.toArray_toList (xs := cs), this]
  have t1 := h1
  obtain ⟨s1, rfl, -, -, hs1⟩ := Go.ChangeMaps.open_string Tryd.underlying9 (hval 1 _ _ rfl rfl) h1
  obtain ⟨i2, rfl⟩ := okWide_int Tryd.underlying2 (hval 2 _ _ rfl rfl)
  have t2 := h2
  have ib2 : -9223372036854775808 ≤ i2 ∧ i2 ≤ 9223372036854775807 := by
    obtain ⟨fuel2, hf2⟩ := h2
    obtain ⟨z, e, hz⟩ := rd_i64 hf2
    have e' : [Value.int .i64 i2] = [.int .i64 z] := e
    injection e' with e'
    injection e' with _ e'
    omega
  have walk : Calls Tryd.prog 5 #[.agg #[.int .i64 b1, .slice A1 n1 c1, .int .i64 b2, .slice A2 n2 c2, .int .i64 b3, .slice A3 n3 c3, .int .i64 cy], .string s1, .int .i64 i2] W fun e w' => e = .returned (.bool true) ∧ Below W.heap.size W w' :=
    law_RecordStroke b1 b2 b3 cy A1 A2 A3 n1 n2 n3 c1 c2 c3 e1 e2 e3 s1 i2 W z1 z2 z3 m1 m2 m3 (by simp only [maxLen] at hs1; omega) (tb_of_laid hL)
  refine walk.mono fun e W' ⟨he, hb⟩ => ?_
  subst he
  have u0 := Below.trod laidOut (by kernel_rfl) (of_decide_eq_true (by kernel_rfl)) t0 hb (fun x hx => hlt x (by simp only [List.mem_append]; simp [hx]))
  have u1 := Below.trod laidOut (by kernel_rfl) (of_decide_eq_true (by kernel_rfl)) t1 hb (fun x hx => hlt x (by simp only [List.mem_append]; simp [hx]))
  have u2 := Below.trod laidOut (by kernel_rfl) (of_decide_eq_true (by kernel_rfl)) t2 hb (fun x hx => hlt x (by simp only [List.mem_append]; simp [hx]))
  exact ⟨_, rfl, [d0, d1, d2], [], p0 ++ (p1 ++ (p2 ++ [])), [], p0 ++ (p1 ++ (p2 ++ [])), [], by simpa using hW', trodAll_cons_mk (shut_bool Tryd.underlying4 _) trodAll_mk0, (trodAll_cons_mk u0 (trodAll_cons_mk u1 (trodAll_cons_mk u2 trodAll_mk0))), rfl, hb.frame _, fun h => by cases h⟩
theorem reads (os : Os) {H : Type} (enc : TypeId × Value → H) : ∃ places, DataW.whole enc Tryd.prog ((laidWorld os).forCall (fun _ _ => 0) ⟨#[], #[.agg #[.int .i64 0, .slice none 0 0, .int .i64 0, .slice none 0 0, .int .i64 0, .slice none 0 0, .int .i64 0], .string ⟨#[]⟩, .int .i64 0], []⟩).memory Tryd.f5.params.toList Rows.fnExactRecordStrokeSpec.vars false (#[.agg #[.int .i64 0, .slice none 0 0, .int .i64 0, .slice none 0 0, .int .i64 0, .slice none 0 0, .int .i64 0], .string ⟨#[]⟩, .int .i64 0] : Array Value).toList 8 = some ([.agg [.agg [.lit (.int .i64 0), .nil], .agg [.lit (.int .i64 0), .nil], .agg [.lit (.int .i64 0), .nil], .lit (.int .i64 0)], .lit (.string []), .lit (.int .i64 0)], [], places) :=
  ⟨[], by kernel_rfl⟩
set_option maxRecDepth 100000 in
theorem lifted (os : Os) (started : os.Started) (H : Type) (enc : TypeId × Value → H) (F : Stop.Interp) :
    ReturnsInHanded {} Tryd.checked os 5 .any ((OpenSpec.ofChange Rows.fnExactRecordStrokeSpec).preRow enc Tryd.prog Tryd.f5 Rows.fnExactRecordStrokeRow.domain false Rows.fnExactRecordStrokeRow.laid) (((OpenSpec.ofChange Rows.fnExactRecordStrokeSpec).at F).post enc Tryd.prog Tryd.f5 false true false false) := by
  obtain ⟨places, hx⟩ := reads os enc
  refine returnsInHanded_of_row (C := Tryd.checked) (s := OpenSpec.ofChange Rows.fnExactRecordStrokeSpec) own started (by kernel_rfl) Tryd.func5
    (witness_row_at (enc := enc) (C := Tryd.checked) false (laidWorld os) #[.agg #[.int .i64 0, .slice none 0 0, .int .i64 0, .slice none 0 0, .int .i64 0, .slice none 0 0, .int .i64 0], .string ⟨#[]⟩, .int .i64 0] rfl (by kernel_rfl) (by kernel_rfl) (by kernel_rfl)
      (OpenSpec.preRow_of_cond 8 hx (by kernel_rfl) (fun k hk => by cases hk) (by kernel_rfl) (laid_met os _))) ?_
  intro W base args ds gs before hval hW _ _ _ hL _ _
  exact contract H enc W base args ds gs before hval hW hL
theorem said : Rows.FnExactRecordStrokeSaid :=
  OpenClaim.holds_of_cond 5 Tryd.f5 rfl rfl rfl rfl rfl rfl rfl ⟨rfl, rfl, rfl, rfl, rfl⟩ rfl rfl rfl rfl rfl (by kernel_rfl) Tryd.func5 (by kernel_rfl)
    (of_decide_eq_true (by kernel_rfl)) (by unfold Func.isWrapper; first | (rw [if_pos (by decide +kernel)]; kernel_rfl) | (rw [if_neg (by decide +kernel)]; exact ⟨rfl, rfl⟩))
    (fun os started H enc _ F => by rw [OpenClaim.pre_eq_preRow]; exact lifted os started H enc F)
theorem plain (f : FuncId) (fn : Func) (hf : Tryd.pinned.checked.prog.funcNamed "loop.example/g00930/laws.FnExactRecordStroke" = some f) (hfn : Tryd.pinned.checked.prog.funcs[f]? = some fn) :
    false = Tryd.pinned.checked.prog.looks [] ∧ ∀ (j : Nat) t, fn.params[j]? = some t → Tryd.pinned.checked.prog.wantsStandIn t = false := by
  obtain rfl : f = 5 := Option.some.inj ((show Tryd.prog.funcNamed "loop.example/g00930/laws.FnExactRecordStroke" = some 5 by kernel_rfl).symm.trans hf) |>.symm
  obtain rfl : fn = Tryd.f5 := (Option.some.inj (Tryd.func5.symm.trans hfn)).symm
  refine ⟨by kernel_rfl, fun j t ht => ?_⟩
  rw [Tryd.params5] at ht
  have s0 : Tryd.prog.wantsStandIn 33 = false := by kernel_rfl
  have s1 : Tryd.prog.wantsStandIn 9 = false := by kernel_rfl
  have s2 : Tryd.prog.wantsStandIn 2 = false := by kernel_rfl
  have hm := Array.mem_of_getElem? ht
  have hm' : t = 33 ∨ t = 9 ∨ t = 2 := by simpa using hm
  rcases hm' with rfl | rfl | rfl
  · exact s0
  · exact s1
  · exact s2
/-- THE CARD. -/
theorem card : Rows.FnExactRecordStrokeCardSaid :=
  Claim7.holds_tied_plain_at .later [] _ _ _ _ said (fun _ h => by cases h) (by kernel_rfl) (fun _ h => by cases h) fnExactRecordStroke_row_tie rfl ⟨rfl, rfl⟩ (by kernel_rfl) rfl plain (by kernel_rfl)
end Go.Proofs.YtcapccadpbiecaaDoor.fnExactRecordStroke
