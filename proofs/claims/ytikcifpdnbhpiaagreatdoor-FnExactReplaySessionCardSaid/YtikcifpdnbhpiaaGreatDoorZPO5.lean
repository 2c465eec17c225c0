/- For every input the law FnExactReplaySession returns true and leaves its arguments as they were: the program's machine behind a session is the reference's. Condition: the tables of strconv hold what the program's text lays (tied by the card). -/
import Derived.Test.YtikcifpdnbhpiaaGreatDoorZC1
import Derived.Test.YtikcifpdnbhpiaaGreatDoorZC2
import Derived.Test.YtikcifpdnbhpiaaGreatDoorZC3
import Derived.Test.YtikcifpdnbhpiaaGreatDoorZC4
import Derived.Test.YtikcifpdnbhpiaaGreatDoorZC5
import Derived.Test.YtikcifpdnbhpiaaGreatDoorZC6
import Derived.Test.YtikcifpdnbhpiaaGreatDoorZC7
import Derived.Test.YtikcifpdnbhpiaaGreatDoorZC8
import Derived.OpenShut
import Derived.ProofKit
import Derived.Carry
import Derived.ChangeMaps5
namespace Go.Proofs.YtikcifpdnbhpiaaGreatDoor
open Go.RowKit Go.Sort
set_option maxRecDepth 100000 in
set_option maxHeartbeats 6400000 in
theorem law_ReplaySession (SA0 : Option Addr) (sn0 sc0 : Nat) (SL0 : List ByteArray) (w : World) (hs0 : RL StrM 1 w SA0 sn0 SL0) (hsn0 : sn0 ≤ 9223372036854775807) (hsz0 : ∀ s ∈ SL0, s.size ≤ 9223372036854775807) (ht : TB w) :
    Calls Tryz.prog 3 #[.slice SA0 sn0 sc0] w fun e w' => e = .returned (.bool true) ∧ Below w.heap.size w w' := by
  have HID0 := True.intro
  by_cases hsl0 : (sn0 : Int) + totS SL0 ≤ (1048576 : Int)
  rotate_left
  · have hsm0 : (-1 : Int) < 0 := by omega
    go_enter Tryz.func3, Tryz.ntmps3
    go_wp2_with fail
    refine (szStringS_any SA0 sn0 sc0 SL0 _ _ hs0 hsz0 (by first | exact hl0 | omega) (by first | exact hl1 | omega) hsn0).mono ?_; rintro e w3 ⟨rfl, hww⟩
    subst hww
    rw [if_neg (by omega)]
    go_wp2_with fail
    go_ret
    exact ⟨rfl, Below.refl _ _⟩
  have hsb0 : sn0 ≤ 1048576 := by omega
  have hsp0 : ¬ ((1048576 : Int) - (sn0 : Int) - totS SL0 < 0) := by omega
  have hst0 : ∀ s ∈ SL0, s.size ≤ 1048576 := fun s hs => by have := totS_mem hs; omega
  have TS0 := Lib.hid (fun W (hW : Below w.heap.size w W) => toStringS_kn SA0 sn0 sc0 SL0 W (hs0.below steady_StrM hW) hsb0)
  have HST0 := Lib.hid hst0
  have HSZ0 := Lib.hid hsz0
  have HTB := Lib.hid (fun W (hW : Below w.heap.size w W) => TB.below ht hW)
  have KS := (fun (SX0 : Option Addr) (sx0 : Nat) W ht0 (hW : Below w.heap.size w W) => specReplaySession_any SX0 sn0 sx0 SL0 W ht0 HST0.out)
  have KI := (fun (SX0 : Option Addr) (sx0 : Nat) W ht0 (hW : Below w.heap.size w W) => ReplaySession_any SX0 sn0 sx0 SL0 W ht0 HST0.out (HTB.out W hW))
  unfold RSRet MCRet at KS KI
  obtain ⟨l1, l2, l3⟩ := rsM_len (SL0.map strB)
  obtain ⟨RT, hRT⟩ : ∃ x : Tri, rsM (SL0.map strB) = x := ⟨_, rfl⟩
  rw [hRT] at KS KI l1 l2 l3
  clear hRT
  obtain ⟨e1, he1⟩ : ∃ d, RT.a.digits = d := ⟨_, rfl⟩
  obtain ⟨e2, he2⟩ : ∃ d, RT.b.digits = d := ⟨_, rfl⟩
  obtain ⟨e3, he3⟩ : ∃ d, RT.s.digits = d := ⟨_, rfl⟩
  rw [he1, he2, he3] at KS KI
  rw [he1] at l1
  rw [he2] at l2
  rw [he3] at l3
  obtain ⟨k1, hk1⟩ : ∃ n, e1.length = n := ⟨_, rfl⟩
  obtain ⟨k2, hk2⟩ : ∃ n, e2.length = n := ⟨_, rfl⟩
  obtain ⟨k3, hk3⟩ : ∃ n, e3.length = n := ⟨_, rfl⟩
  unfold rowI at KI KS
  rw [hk1, hk2, hk3] at KI KS
  rw [hk1] at l1
  rw [hk2] at l2
  rw [hk3] at l3
  clear he1 he2 he3 hk1 hk2 hk3
  obtain ⟨rk, hrk⟩ : ∃ rk : Int, (1 : Int) + k1 + k2 + k3 = rk := ⟨_, rfl⟩
  have hrk0 : ¬ rk < 0 := by omega
  have HRK := Lib.hid hrk
  clear hrk
  obtain ⟨RI1, hRI1⟩ : ∃ x, wholeC (SL0.map strB) = x := ⟨_, rfl⟩
  rw [hRI1] at KS KI
  clear hRI1
  have KS := Lib.hid KS
  have KI := Lib.hid KI
  clear hst0
  go_enter Tryz.func3, Tryz.ntmps3
  go_wp2_with fail
  refine (szStringS_any SA0 sn0 sc0 SL0 _ _ hs0 hsz0 (by first | exact hl0 | omega) (by first | exact hl1 | omega) hsn0).mono ?_; rintro e w3 ⟨rfl, hww⟩
  subst hww
  rw [if_pos (by omega)]
  have hK := Kn.nil w
  go_wp2_with fail
  refine (TS0.out _ hK.below).mono ?_; rintro e w4 ⟨X1, x1, rfl, hKn⟩
  have hK : Kn w [rowSN X1 sn0 x1 SL0] w4 := hK.join hKn
  clear hKn
  go_wp2_with fail
  refine (KS.out X1 x1 _ (Kn.rlSN (hK.sel [0] 99 (by decide) (by decide))).2 hK.below).mono ?_; rintro e w5 ⟨S1, s1, S2, s2, S3, s3, rfl, hKn⟩
  have hK : Kn w [rowN S3 k3 s3 e3, rowN S2 k2 s2 e2, rowN S1 k1 s1 e1, rowSN X1 sn0 x1 SL0] w5 := hK.join hKn
  clear hKn
  go_wp2_with fail
  have hK' := (hK.al [.int .i64 RT.a.base, .slice S1 k1 s1, .int .i64 RT.b.base, .slice S2 k2 s2, .int .i64 RT.s.base, .slice S3 k3 s3, .int .i64 RT.carry] 28)
  refine Calls.kn hK' ?_; clear hK'; intro w6 hK'
  have hK : Kn w [.blk w5.heap.size [.int .i64 RT.a.base, .slice S1 k1 s1, .int .i64 RT.b.base, .slice S2 k2 s2, .int .i64 RT.s.base, .slice S3 k3 s3, .int .i64 RT.carry] 28, rowN S3 k3 s3 e3, rowN S2 k2 s2 e2, rowN S1 k1 s1 e1, rowSN X1 sn0 x1 SL0] w6 := hK'
  clear hK'
  refine (TS0.out _ hK.below).mono ?_; rintro e w7 ⟨X2, x2, rfl, hKn⟩
  have hK : Kn w [rowSN X2 sn0 x2 SL0, .blk w5.heap.size [.int .i64 RT.a.base, .slice S1 k1 s1, .int .i64 RT.b.base, .slice S2 k2 s2, .int .i64 RT.s.base, .slice S3 k3 s3, .int .i64 RT.carry] 28, rowN S3 k3 s3 e3, rowN S2 k2 s2 e2, rowN S1 k1 s1 e1, rowSN X1 sn0 x1 SL0] w7 := hK.join hKn
  clear hKn
  obtain ⟨q0, p0, o0, -⟩ := hK.cells
  go_wp2_with fail
  clear q0 p0 o0
  refine (KI.out X2 x2 _ (Kn.rlSN (hK.sel [0] 99 (by decide) (by decide))).2 hK.below).mono ?_; rintro e w8 ⟨G1, g1, G2, g2, G3, g3, rfl, hKn⟩
  have hK : Kn w [rowN G3 k3 g3 e3, rowN G2 k2 g2 e2, rowN G1 k1 g1 e1, rowSN X2 sn0 x2 SL0, .blk w5.heap.size [.int .i64 RT.a.base, .slice S1 k1 s1, .int .i64 RT.b.base, .slice S2 k2 s2, .int .i64 RT.s.base, .slice S3 k3 s3, .int .i64 RT.carry] 28, rowN S3 k3 s3 e3, rowN S2 k2 s2 e2, rowN S1 k1 s1 e1, rowSN X1 sn0 x1 SL0] w8 := hK.join hKn
  clear hKn
  obtain ⟨q0, p0, o0, -⟩ := hK.cells
  go_wp2_with fail
  have hK' := (hK.al [.int .i64 RT.a.base, .slice G1 k1 g1, .int .i64 RT.b.base, .slice G2 k2 g2, .int .i64 RT.s.base, .slice G3 k3 g3, .int .i64 RT.carry] 28)
  refine Calls.kn hK' ?_; clear hK'; intro w9 hK'
  clear q0 p0 o0
  have hK : Kn w [.blk w8.heap.size [.int .i64 RT.a.base, .slice G1 k1 g1, .int .i64 RT.b.base, .slice G2 k2 g2, .int .i64 RT.s.base, .slice G3 k3 g3, .int .i64 RT.carry] 28, rowN G3 k3 g3 e3, rowN G2 k2 g2 e2, rowN G1 k1 g1 e1, rowSN X2 sn0 x2 SL0, .blk w5.heap.size [.int .i64 RT.a.base, .slice S1 k1 s1, .int .i64 RT.b.base, .slice S2 k2 s2, .int .i64 RT.s.base, .slice S3 k3 s3, .int .i64 RT.carry] 28, rowN S3 k3 s3 e3, rowN S2 k2 s2 e2, rowN S1 k1 s1 e1, rowSN X1 sn0 x1 SL0] w9 := hK'
  clear hK'
  refine (eqM_same RT.a.base RT.b.base RT.s.base RT.carry G1 G2 G3 S1 S2 S3   k1 k2 k3 g1 g2 g3 s1 s2 s3 e1 e2 e3 _ (Kn.riN (hK.sel [3] 99 (by decide) (by decide))) (Kn.riN (hK.sel [2] 99 (by decide) (by decide))) (Kn.riN (hK.sel [1] 99 (by decide) (by decide))) (Kn.riN (hK.sel [8] 99 (by decide) (by decide))) (Kn.riN (hK.sel [7] 99 (by decide) (by decide))) (Kn.riN (hK.sel [6] 99 (by decide) (by decide))) (by omega) (by omega) (by omega)).mono ?_; rintro e w10 ⟨rfl, hw⟩
  have hK : Kn w [.blk w8.heap.size [.int .i64 RT.a.base, .slice G1 k1 g1, .int .i64 RT.b.base, .slice G2 k2 g2, .int .i64 RT.s.base, .slice G3 k3 g3, .int .i64 RT.carry] 28, rowN G3 k3 g3 e3, rowN G2 k2 g2 e2, rowN G1 k1 g1 e1, rowSN X2 sn0 x2 SL0, .blk w5.heap.size [.int .i64 RT.a.base, .slice S1 k1 s1, .int .i64 RT.b.base, .slice S2 k2 s2, .int .i64 RT.s.base, .slice S3 k3 s3, .int .i64 RT.carry] 28, rowN S3 k3 s3 e3, rowN S2 k2 s2 e2, rowN S1 k1 s1 e1, rowSN X1 sn0 x1 SL0] w10 := hK.keep hw
  clear hw
  obtain ⟨q0, p0, o0, q1, p1, o1, -⟩ := hK.cells
  go_wp2_with fail
  clear q0 p0 o0 q1 p1 o1
  refine (TS0.out _ hK.below).mono ?_; rintro e w11 ⟨X3, x3, rfl, hKn⟩
  have hK : Kn w [rowSN X3 sn0 x3 SL0, .blk w8.heap.size [.int .i64 RT.a.base, .slice G1 k1 g1, .int .i64 RT.b.base, .slice G2 k2 g2, .int .i64 RT.s.base, .slice G3 k3 g3, .int .i64 RT.carry] 28, rowN G3 k3 g3 e3, rowN G2 k2 g2 e2, rowN G1 k1 g1 e1, rowSN X2 sn0 x2 SL0, .blk w5.heap.size [.int .i64 RT.a.base, .slice S1 k1 s1, .int .i64 RT.b.base, .slice S2 k2 s2, .int .i64 RT.s.base, .slice S3 k3 s3, .int .i64 RT.carry] 28, rowN S3 k3 s3 e3, rowN S2 k2 s2 e2, rowN S1 k1 s1 e1, rowSN X1 sn0 x1 SL0] w11 := hK.join hKn
  clear hKn
  obtain ⟨q0, p0, o0, q1, p1, o1, -⟩ := hK.cells
  go_wp2_with fail
  clear q0 p0 o0 q1 p1 o1
  refine (eqS_same _ _ _ _ _ _ _ ((Kn.rlSN (hK.sel [5] 99 (by decide) (by decide))).2) ((Kn.rlSN (hK.sel [0] 99 (by decide) (by decide))).2) (by omega)).mono ?_; rintro e w12 ⟨rfl, hw⟩
  have hK : Kn w [rowSN X3 sn0 x3 SL0, .blk w8.heap.size [.int .i64 RT.a.base, .slice G1 k1 g1, .int .i64 RT.b.base, .slice G2 k2 g2, .int .i64 RT.s.base, .slice G3 k3 g3, .int .i64 RT.carry] 28, rowN G3 k3 g3 e3, rowN G2 k2 g2 e2, rowN G1 k1 g1 e1, rowSN X2 sn0 x2 SL0, .blk w5.heap.size [.int .i64 RT.a.base, .slice S1 k1 s1, .int .i64 RT.b.base, .slice S2 k2 s2, .int .i64 RT.s.base, .slice S3 k3 s3, .int .i64 RT.carry] 28, rowN S3 k3 s3 e3, rowN S2 k2 s2 e2, rowN S1 k1 s1 e1, rowSN X1 sn0 x1 SL0] w12 := hK.keep hw
  clear hw
  obtain ⟨q0, p0, o0, q1, p1, o1, -⟩ := hK.cells
  go_wp2_with fail
  clear q0 p0 o0 q1 p1 o1
  have hK : Kn w [rowSN X2 sn0 x2 SL0, rowSN X3 sn0 x3 SL0, .blk w8.heap.size [.int .i64 RT.a.base, .slice G1 k1 g1, .int .i64 RT.b.base, .slice G2 k2 g2, .int .i64 RT.s.base, .slice G3 k3 g3, .int .i64 RT.carry] 28, rowN G3 k3 g3 e3, rowN G2 k2 g2 e2, rowN G1 k1 g1 e1, .blk w5.heap.size [.int .i64 RT.a.base, .slice S1 k1 s1, .int .i64 RT.b.base, .slice S2 k2 s2, .int .i64 RT.s.base, .slice S3 k3 s3, .int .i64 RT.carry] 28, rowN S3 k3 s3 e3, rowN S2 k2 s2 e2, rowN S1 k1 s1 e1, rowSN X1 sn0 x1 SL0] w12 := hK.sel [5, 0, 1, 2, 3, 4, 6, 7, 8, 9, 10] 11 (by decide) (by decide)
  refine (markS_kn w _ X2 sn0 x2 SL0 1 _ hK (by omega) (by omega)).mono ?_; rintro e w13 ⟨rfl, hKn⟩
  have hK : Kn w [rowSN X2 sn0 x2 (marksS 1 sn0), rowSN X3 sn0 x3 SL0, .blk w8.heap.size [.int .i64 RT.a.base, .slice G1 k1 g1, .int .i64 RT.b.base, .slice G2 k2 g2, .int .i64 RT.s.base, .slice G3 k3 g3, .int .i64 RT.carry] 28, rowN G3 k3 g3 e3, rowN G2 k2 g2 e2, rowN G1 k1 g1 e1, .blk w5.heap.size [.int .i64 RT.a.base, .slice S1 k1 s1, .int .i64 RT.b.base, .slice S2 k2 s2, .int .i64 RT.s.base, .slice S3 k3 s3, .int .i64 RT.carry] 28, rowN S3 k3 s3 e3, rowN S2 k2 s2 e2, rowN S1 k1 s1 e1, rowSN X1 sn0 x1 SL0] w13 := hKn
  clear hKn
  obtain ⟨pk1, hpk1⟩ : ∃ x : Int, 1 + (sn0 : Int) = x := ⟨_, rfl⟩
  have hpk1n : ¬ pk1 < 0 := by omega
  have hpk1b : 0 ≤ pk1 ∧ pk1 ≤ 40000000 := by omega
  rw [hpk1]
  have Hpk1 := Lib.hid hpk1
  clear hpk1
  obtain ⟨q0, p0, o0, q1, p1, o1, -⟩ := hK.cells
  go_wp2_with fail
  clear q0 p0 o0 q1 p1 o1
  refine (eqM_same RT.a.base RT.b.base RT.s.base RT.carry G1 G2 G3 S1 S2 S3   k1 k2 k3 g1 g2 g3 s1 s2 s3 e1 e2 e3 _ (Kn.riN (hK.sel [5] 99 (by decide) (by decide))) (Kn.riN (hK.sel [4] 99 (by decide) (by decide))) (Kn.riN (hK.sel [3] 99 (by decide) (by decide))) (Kn.riN (hK.sel [9] 99 (by decide) (by decide))) (Kn.riN (hK.sel [8] 99 (by decide) (by decide))) (Kn.riN (hK.sel [7] 99 (by decide) (by decide))) (by omega) (by omega) (by omega)).mono ?_; rintro e w14 ⟨rfl, hw⟩
  have hK : Kn w [rowSN X2 sn0 x2 (marksS 1 sn0), rowSN X3 sn0 x3 SL0, .blk w8.heap.size [.int .i64 RT.a.base, .slice G1 k1 g1, .int .i64 RT.b.base, .slice G2 k2 g2, .int .i64 RT.s.base, .slice G3 k3 g3, .int .i64 RT.carry] 28, rowN G3 k3 g3 e3, rowN G2 k2 g2 e2, rowN G1 k1 g1 e1, .blk w5.heap.size [.int .i64 RT.a.base, .slice S1 k1 s1, .int .i64 RT.b.base, .slice S2 k2 s2, .int .i64 RT.s.base, .slice S3 k3 s3, .int .i64 RT.carry] 28, rowN S3 k3 s3 e3, rowN S2 k2 s2 e2, rowN S1 k1 s1 e1, rowSN X1 sn0 x1 SL0] w14 := hK.keep hw
  clear hw
  obtain ⟨q0, p0, o0, q1, p1, o1, -⟩ := hK.cells
  go_wp2_with fail
  clear q0 p0 o0 q1 p1 o1
  have hK : Kn w [rowN G3 k3 g3 e3, rowN G2 k2 g2 e2, rowN G1 k1 g1 e1, rowSN X2 sn0 x2 (marksS 1 sn0), rowSN X3 sn0 x3 SL0, .blk w8.heap.size [.int .i64 RT.a.base, .slice G1 k1 g1, .int .i64 RT.b.base, .slice G2 k2 g2, .int .i64 RT.s.base, .slice G3 k3 g3, .int .i64 RT.carry] 28, .blk w5.heap.size [.int .i64 RT.a.base, .slice S1 k1 s1, .int .i64 RT.b.base, .slice S2 k2 s2, .int .i64 RT.s.base, .slice S3 k3 s3, .int .i64 RT.carry] 28, rowN S3 k3 s3 e3, rowN S2 k2 s2 e2, rowN S1 k1 s1 e1, rowSN X1 sn0 x1 SL0] w14 := hK.sel [3, 4, 5, 0, 1, 2, 6, 7, 8, 9, 10] 11 (by decide) (by decide)
  refine (markMachine_kn w _ _ _ _ _ G1 G2 G3 k1 k2 k3 g1 g2 g3 e1 e2 e3  1 _ hK (by omega) (by omega)).mono ?_; rintro e w15 ⟨rfl, hKn⟩
  have hK : Kn w [rowN G3 k3 g3 (upto (1 + (k1 : Int) + (k2 : Int)) k3), rowN G2 k2 g2 (upto (1 + (k1 : Int)) k2), rowN G1 k1 g1 (upto 1 k1), rowSN X2 sn0 x2 (marksS 1 sn0), rowSN X3 sn0 x3 SL0, .blk w8.heap.size [.int .i64 RT.a.base, .slice G1 k1 g1, .int .i64 RT.b.base, .slice G2 k2 g2, .int .i64 RT.s.base, .slice G3 k3 g3, .int .i64 RT.carry] 28, .blk w5.heap.size [.int .i64 RT.a.base, .slice S1 k1 s1, .int .i64 RT.b.base, .slice S2 k2 s2, .int .i64 RT.s.base, .slice S3 k3 s3, .int .i64 RT.carry] 28, rowN S3 k3 s3 e3, rowN S2 k2 s2 e2, rowN S1 k1 s1 e1, rowSN X1 sn0 x1 SL0] w15 := hKn
  clear hKn
  rw [HRK.out]
  obtain ⟨q0, p0, o0, q1, p1, o1, -⟩ := hK.cells
  go_wp2_with fail
  clear q0 p0 o0 q1 p1 o1
  refine (heldMachine_any _ _ _ _ G1 G2 G3 k1 k2 k3 g1 g2 g3 1 _ (Kn.riN (hK.sel [2] 99 (by decide) (by decide))) (Kn.riN (hK.sel [1] 99 (by decide) (by decide))) (Kn.riN (hK.sel [0] 99 (by decide) (by decide))) (by omega) (by omega)).mono ?_; rintro e w16 ⟨rfl, hw⟩
  have hK : Kn w [rowN G3 k3 g3 (upto (1 + (k1 : Int) + (k2 : Int)) k3), rowN G2 k2 g2 (upto (1 + (k1 : Int)) k2), rowN G1 k1 g1 (upto 1 k1), rowSN X2 sn0 x2 (marksS 1 sn0), rowSN X3 sn0 x3 SL0, .blk w8.heap.size [.int .i64 RT.a.base, .slice G1 k1 g1, .int .i64 RT.b.base, .slice G2 k2 g2, .int .i64 RT.s.base, .slice G3 k3 g3, .int .i64 RT.carry] 28, .blk w5.heap.size [.int .i64 RT.a.base, .slice S1 k1 s1, .int .i64 RT.b.base, .slice S2 k2 s2, .int .i64 RT.s.base, .slice S3 k3 s3, .int .i64 RT.carry] 28, rowN S3 k3 s3 e3, rowN S2 k2 s2 e2, rowN S1 k1 s1 e1, rowSN X1 sn0 x1 SL0] w16 := hK.keep hw
  clear hw
  rw [HRK.out]
  obtain ⟨q0, p0, o0, q1, p1, o1, -⟩ := hK.cells
  go_wp2_with fail
  clear q0 p0 o0 q1 p1 o1
  refine (TS0.out _ hK.below).mono ?_; rintro e w17 ⟨X4, x4, rfl, hKn⟩
  have hK : Kn w [rowSN X4 sn0 x4 SL0, rowN G3 k3 g3 (upto (1 + (k1 : Int) + (k2 : Int)) k3), rowN G2 k2 g2 (upto (1 + (k1 : Int)) k2), rowN G1 k1 g1 (upto 1 k1), rowSN X2 sn0 x2 (marksS 1 sn0), rowSN X3 sn0 x3 SL0, .blk w8.heap.size [.int .i64 RT.a.base, .slice G1 k1 g1, .int .i64 RT.b.base, .slice G2 k2 g2, .int .i64 RT.s.base, .slice G3 k3 g3, .int .i64 RT.carry] 28, .blk w5.heap.size [.int .i64 RT.a.base, .slice S1 k1 s1, .int .i64 RT.b.base, .slice S2 k2 s2, .int .i64 RT.s.base, .slice S3 k3 s3, .int .i64 RT.carry] 28, rowN S3 k3 s3 e3, rowN S2 k2 s2 e2, rowN S1 k1 s1 e1, rowSN X1 sn0 x1 SL0] w17 := hK.join hKn
  clear hKn
  obtain ⟨q0, p0, o0, q1, p1, o1, -⟩ := hK.cells
  go_wp2_with fail
  clear q0 p0 o0 q1 p1 o1
  refine (KI.out X4 x4 _ (Kn.rlSN (hK.sel [0] 99 (by decide) (by decide))).2 hK.below).mono ?_; rintro e w18 ⟨H1, h1, H2, h2, H3, h3, rfl, hKn⟩
  have hK : Kn w [rowN H3 k3 h3 e3, rowN H2 k2 h2 e2, rowN H1 k1 h1 e1, rowSN X4 sn0 x4 SL0, rowN G3 k3 g3 (upto (1 + (k1 : Int) + (k2 : Int)) k3), rowN G2 k2 g2 (upto (1 + (k1 : Int)) k2), rowN G1 k1 g1 (upto 1 k1), rowSN X2 sn0 x2 (marksS 1 sn0), rowSN X3 sn0 x3 SL0, .blk w8.heap.size [.int .i64 RT.a.base, .slice G1 k1 g1, .int .i64 RT.b.base, .slice G2 k2 g2, .int .i64 RT.s.base, .slice G3 k3 g3, .int .i64 RT.carry] 28, .blk w5.heap.size [.int .i64 RT.a.base, .slice S1 k1 s1, .int .i64 RT.b.base, .slice S2 k2 s2, .int .i64 RT.s.base, .slice S3 k3 s3, .int .i64 RT.carry] 28, rowN S3 k3 s3 e3, rowN S2 k2 s2 e2, rowN S1 k1 s1 e1, rowSN X1 sn0 x1 SL0] w18 := hK.join hKn
  clear hKn
  obtain ⟨q0, p0, o0, q1, p1, o1, -⟩ := hK.cells
  go_wp2_with fail
  have hK' := (hK.al [.int .i64 RT.a.base, .slice H1 k1 h1, .int .i64 RT.b.base, .slice H2 k2 h2, .int .i64 RT.s.base, .slice H3 k3 h3, .int .i64 RT.carry] 28)
  refine Calls.kn hK' ?_; clear hK'; intro w19 hK'
  clear q0 p0 o0 q1 p1 o1
  have hK : Kn w [.blk w18.heap.size [.int .i64 RT.a.base, .slice H1 k1 h1, .int .i64 RT.b.base, .slice H2 k2 h2, .int .i64 RT.s.base, .slice H3 k3 h3, .int .i64 RT.carry] 28, rowN H3 k3 h3 e3, rowN H2 k2 h2 e2, rowN H1 k1 h1 e1, rowSN X4 sn0 x4 SL0, rowN G3 k3 g3 (upto (1 + (k1 : Int) + (k2 : Int)) k3), rowN G2 k2 g2 (upto (1 + (k1 : Int)) k2), rowN G1 k1 g1 (upto 1 k1), rowSN X2 sn0 x2 (marksS 1 sn0), rowSN X3 sn0 x3 SL0, .blk w8.heap.size [.int .i64 RT.a.base, .slice G1 k1 g1, .int .i64 RT.b.base, .slice G2 k2 g2, .int .i64 RT.s.base, .slice G3 k3 g3, .int .i64 RT.carry] 28, .blk w5.heap.size [.int .i64 RT.a.base, .slice S1 k1 s1, .int .i64 RT.b.base, .slice S2 k2 s2, .int .i64 RT.s.base, .slice S3 k3 s3, .int .i64 RT.carry] 28, rowN S3 k3 s3 e3, rowN S2 k2 s2 e2, rowN S1 k1 s1 e1, rowSN X1 sn0 x1 SL0] w19 := hK'
  clear hK'
  refine (eqM_same RT.a.base RT.b.base RT.s.base RT.carry H1 H2 H3 S1 S2 S3   k1 k2 k3 h1 h2 h3 s1 s2 s3 e1 e2 e3 _ (Kn.riN (hK.sel [3] 99 (by decide) (by decide))) (Kn.riN (hK.sel [2] 99 (by decide) (by decide))) (Kn.riN (hK.sel [1] 99 (by decide) (by decide))) (Kn.riN (hK.sel [14] 99 (by decide) (by decide))) (Kn.riN (hK.sel [13] 99 (by decide) (by decide))) (Kn.riN (hK.sel [12] 99 (by decide) (by decide))) (by omega) (by omega) (by omega)).mono ?_; rintro e w20 ⟨rfl, hw⟩
  have hK : Kn w [.blk w18.heap.size [.int .i64 RT.a.base, .slice H1 k1 h1, .int .i64 RT.b.base, .slice H2 k2 h2, .int .i64 RT.s.base, .slice H3 k3 h3, .int .i64 RT.carry] 28, rowN H3 k3 h3 e3, rowN H2 k2 h2 e2, rowN H1 k1 h1 e1, rowSN X4 sn0 x4 SL0, rowN G3 k3 g3 (upto (1 + (k1 : Int) + (k2 : Int)) k3), rowN G2 k2 g2 (upto (1 + (k1 : Int)) k2), rowN G1 k1 g1 (upto 1 k1), rowSN X2 sn0 x2 (marksS 1 sn0), rowSN X3 sn0 x3 SL0, .blk w8.heap.size [.int .i64 RT.a.base, .slice G1 k1 g1, .int .i64 RT.b.base, .slice G2 k2 g2, .int .i64 RT.s.base, .slice G3 k3 g3, .int .i64 RT.carry] 28, .blk w5.heap.size [.int .i64 RT.a.base, .slice S1 k1 s1, .int .i64 RT.b.base, .slice S2 k2 s2, .int .i64 RT.s.base, .slice S3 k3 s3, .int .i64 RT.carry] 28, rowN S3 k3 s3 e3, rowN S2 k2 s2 e2, rowN S1 k1 s1 e1, rowSN X1 sn0 x1 SL0] w20 := hK.keep hw
  clear hw
  obtain ⟨q0, p0, o0, q1, p1, o1, q2, p2, o2, -⟩ := hK.cells
  go_wp2_with fail
  clear q0 p0 o0 q1 p1 o1 q2 p2 o2
  refine (heldMachine_any _ _ _ _ G1 G2 G3 k1 k2 k3 g1 g2 g3 1 _ (Kn.riN (hK.sel [7] 99 (by decide) (by decide))) (Kn.riN (hK.sel [6] 99 (by decide) (by decide))) (Kn.riN (hK.sel [5] 99 (by decide) (by decide))) (by omega) (by omega)).mono ?_; rintro e w21 ⟨rfl, hw⟩
  have hK : Kn w [.blk w18.heap.size [.int .i64 RT.a.base, .slice H1 k1 h1, .int .i64 RT.b.base, .slice H2 k2 h2, .int .i64 RT.s.base, .slice H3 k3 h3, .int .i64 RT.carry] 28, rowN H3 k3 h3 e3, rowN H2 k2 h2 e2, rowN H1 k1 h1 e1, rowSN X4 sn0 x4 SL0, rowN G3 k3 g3 (upto (1 + (k1 : Int) + (k2 : Int)) k3), rowN G2 k2 g2 (upto (1 + (k1 : Int)) k2), rowN G1 k1 g1 (upto 1 k1), rowSN X2 sn0 x2 (marksS 1 sn0), rowSN X3 sn0 x3 SL0, .blk w8.heap.size [.int .i64 RT.a.base, .slice G1 k1 g1, .int .i64 RT.b.base, .slice G2 k2 g2, .int .i64 RT.s.base, .slice G3 k3 g3, .int .i64 RT.carry] 28, .blk w5.heap.size [.int .i64 RT.a.base, .slice S1 k1 s1, .int .i64 RT.b.base, .slice S2 k2 s2, .int .i64 RT.s.base, .slice S3 k3 s3, .int .i64 RT.carry] 28, rowN S3 k3 s3 e3, rowN S2 k2 s2 e2, rowN S1 k1 s1 e1, rowSN X1 sn0 x1 SL0] w21 := hK.keep hw
  clear hw
  rw [HRK.out]
  obtain ⟨q0, p0, o0, q1, p1, o1, q2, p2, o2, -⟩ := hK.cells
  go_wp2_with fail
  go_ret
  exact ⟨rfl, hK.below⟩
end Go.Proofs.YtikcifpdnbhpiaaGreatDoor

namespace Go.Proofs.YtikcifpdnbhpiaaGreatDoor.fnExactReplaySession
open Go.ChangeShapes Go.WideShapes Go.ChangeAt Go.RowKit
set_option maxRecDepth 100000 in
theorem contract (H : Type) (enc : TypeId × Value → H) (W : World) (base : Nat) (args : Array Value) (ds gs : List (DataW H)) (before : List MemPlace)
    (hval : ∀ (j : Nat) t v, Tryz.f3.params[j]? = some t → args[j]? = some v → Value.okWide Tryz.prog W .any base t v)
    (hW : DataW.Whole enc Tryz.prog Tryz.f3.params.toList Rows.fnExactReplaySessionSpec.vars false W args.toList ds gs before) (hL : laidMetH Tryz.prog Rows.fnExactReplaySessionRow.laid W) :
    Calls Tryz.prog 3 args W fun e W' => ∃ v, e = .returned v ∧ Rows.fnExactReplaySessionSpec.post enc Tryz.prog Tryz.f3 false true false false W args v W' := by
  have hW' := hW
  obtain ⟨p, q, hA0, hV, rfl, hfz, hnd⟩ := hW
  have hA : DataW.TrodAll enc Tryz.prog W 0 (fun _ => true) true Tryz.f3.params.toList args.toList ds p := hA0
  rw [Tryz.params3] at hA hval
  obtain ⟨v0, vs0, d0, ds0, p0, q0, hargs, rfl, rfl, h0, r0⟩ := trodAll_cons hA
  obtain ⟨rfl, rfl, rfl⟩ := trodAll_nil r0
  obtain rfl : args = #[v0] := by cases args; simp_all
  obtain ⟨rfl, rfl⟩ := trodVars_none hV
  clear hA0
  simp only [List.append_nil] at hW'
  have hlt : ∀ x ∈ p0, x.block < W.heap.size := fun x hx => by
    have := hW'.lt x (by simpa using hx)
    simpa using this
  obtain ⟨S0A, S0n, S0c, rfl⟩ := okWide_slice Tryz.underlying22 (hval 0 _ _ rfl rfl)
  have t0 := h0
  obtain ⟨fuel0, hf0⟩ := h0
  obtain ⟨A0, n0, c0, S0xs, hcs0, hr0, hn0, hs0⟩ := rd_strings hf0
  obtain ⟨rfl, rfl, rfl⟩ : A0 = S0A ∧ n0 = S0n ∧ c0 = S0c := by
    have : [Value.slice S0A S0n S0c] = [.slice A0 n0 c0] := hcs0
    injection this with this
    injection this with e1 e2 e3
    exact ⟨e1.symm, e2.symm, e3.symm⟩
  have walk : Calls Tryz.prog 3 #[.slice A0 n0 c0] W fun e w' => e = .returned (.bool true) ∧ Below W.heap.size W w' :=
    law_ReplaySession A0 n0 c0 S0xs W hr0 hn0 hs0 (tb_of_laid hL)
  refine walk.mono fun e W' ⟨he, hb⟩ => ?_
  subst he
  have u0 := Below.trod laidOut (by kernel_rfl) (of_decide_eq_true (by kernel_rfl)) t0 hb hlt
  exact ⟨_, rfl, [d0], [], p0 ++ [], [], p0 ++ [], [], by simpa using hW', trodAll_cons_mk (shut_bool Tryz.underlying4 _) trodAll_mk0, (trodAll_cons_mk u0 trodAll_mk0), rfl, hb.frame _, fun h => by cases h⟩
theorem reads (os : Os) {H : Type} (enc : TypeId × Value → H) : ∃ places, DataW.whole enc Tryz.prog ((laidWorld os).forCall (fun _ _ => 0) ⟨#[], #[.slice none 0 0], []⟩).memory Tryz.f3.params.toList Rows.fnExactReplaySessionSpec.vars false (#[.slice none 0 0] : Array Value).toList 8 = some ([.nil], [], places) :=
  ⟨[], by kernel_rfl⟩
set_option maxRecDepth 100000 in
theorem lifted (os : Os) (started : os.Started) (H : Type) (enc : TypeId × Value → H) (F : Stop.Interp) :
    ReturnsInHanded {} Tryz.checked os 3 .any ((OpenSpec.ofChange Rows.fnExactReplaySessionSpec).preRow enc Tryz.prog Tryz.f3 Rows.fnExactReplaySessionRow.domain false Rows.fnExactReplaySessionRow.laid) (((OpenSpec.ofChange Rows.fnExactReplaySessionSpec).at F).post enc Tryz.prog Tryz.f3 false true false false) := by
  obtain ⟨places, hx⟩ := reads os enc
  refine returnsInHanded_of_row (C := Tryz.checked) (s := OpenSpec.ofChange Rows.fnExactReplaySessionSpec) own started (by kernel_rfl) Tryz.func3
    (witness_row_at (enc := enc) (C := Tryz.checked) false (laidWorld os) #[.slice none 0 0] rfl (by kernel_rfl) (by kernel_rfl) (by kernel_rfl)
      (OpenSpec.preRow_of_cond 8 hx (by kernel_rfl) (fun k hk => by cases hk) (by kernel_rfl) (laid_met os _))) ?_
  intro W base args ds gs before hval hW _ _ _ hL _ _
  exact contract H enc W base args ds gs before hval hW hL
theorem said : Rows.FnExactReplaySessionSaid :=
  OpenClaim.holds_of_cond 3 Tryz.f3 rfl rfl rfl rfl rfl rfl rfl ⟨rfl, rfl, rfl, rfl, rfl⟩ rfl rfl rfl rfl rfl (by kernel_rfl) Tryz.func3 (by kernel_rfl)
    (of_decide_eq_true (by kernel_rfl)) (by unfold Func.isWrapper; first | (rw [if_pos (by decide +kernel)]; kernel_rfl) | (rw [if_neg (by decide +kernel)]; exact ⟨rfl, rfl⟩))
    (fun os started H enc _ F => by rw [OpenClaim.pre_eq_preRow]; exact lifted os started H enc F)
theorem plain (f : FuncId) (fn : Func) (hf : Tryz.pinned.checked.prog.funcNamed "loop.example/g00930/laws.FnExactReplaySession" = some f) (hfn : Tryz.pinned.checked.prog.funcs[f]? = some fn) :
    false = Tryz.pinned.checked.prog.looks [] ∧ ∀ (j : Nat) t, fn.params[j]? = some t → Tryz.pinned.checked.prog.wantsStandIn t = false := by
  obtain rfl : f = 3 := Option.some.inj ((show Tryz.prog.funcNamed "loop.example/g00930/laws.FnExactReplaySession" = some 3 by kernel_rfl).symm.trans hf) |>.symm
  obtain rfl : fn = Tryz.f3 := (Option.some.inj (Tryz.func3.symm.trans hfn)).symm
  refine ⟨by kernel_rfl, fun j t ht => ?_⟩
  rw [Tryz.params3] at ht
  have s0 : Tryz.prog.wantsStandIn 22 = false := by kernel_rfl
  have hm := Array.mem_of_getElem? ht
  obtain rfl : t = 22 := by simpa using hm
  exact s0
/-- THE CARD. -/
theorem card : Rows.FnExactReplaySessionCardSaid :=
  Claim7.holds_tied_plain_at .later [] _ _ _ _ said (fun _ h => by cases h) (by kernel_rfl) (fun _ h => by cases h) fnExactReplaySession_row_tie rfl ⟨rfl, rfl⟩ (by kernel_rfl) rfl plain (by kernel_rfl)
end Go.Proofs.YtikcifpdnbhpiaaGreatDoor.fnExactReplaySession
