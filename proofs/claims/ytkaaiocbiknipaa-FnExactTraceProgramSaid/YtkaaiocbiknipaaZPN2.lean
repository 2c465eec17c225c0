/- For every input the law FnExactTraceProgram returns true and leaves its arguments as they were: the program's TraceProgram gives the reference's strokes and code, and shares no memory. No condition. -/
import Derived.Test.YtkaaiocbiknipaaZC1
import Derived.Test.YtkaaiocbiknipaaZC2
import Derived.Test.YtkaaiocbiknipaaZC3
import Derived.Test.YtkaaiocbiknipaaZC4
import Derived.Test.YtkaaiocbiknipaaZC5
import Derived.OpenShut
import Derived.Deep.DeepHandedRow
import Derived.Lib.LaidTab
namespace Go.Proofs.Ytkaaiocbiknipaa
open Go.RowKit Go.Sort
set_option maxRecDepth 100000 in
set_option maxHeartbeats 6400000 in
theorem law_TraceProgram (b1 b2 b3 cy : Int) (A1 A2 A3 : Option Addr) (n1 n2 n3 c1 c2 c3 : Nat) (d1 d2 d3 : List Int) (LA : Option Addr) (ln lc : Nat) (L : List Ins) (w : World) (r1 : RI w A1 n1 d1) (r2 : RI w A2 n2 d2) (r3 : RI w A3 n3 d3) (m1 : n1 ≤ 9223372036854775807) (m2 : n2 ≤ 9223372036854775807) (m3 : n3 ≤ 9223372036854775807) (hr : RL InsM 2 w LA ln L) (hln : ln ≤ 9223372036854775807) :
    Calls Try.prog 6 #[.agg #[.int .i64 b1, .slice A1 n1 c1, .int .i64 b2, .slice A2 n2 c2, .int .i64 b3, .slice A3 n3 c3, .int .i64 cy], .slice LA ln lc] w fun e w' => e = .returned (.bool true) ∧ Below w.heap.size w w' := by
  have hB0 := (Kn.nil w).al [.int .i64 b1, .slice A1 n1 c1, .int .i64 b2, .slice A2 n2 c2, .int .i64 b3, .slice A3 n3 c3, .int .i64 cy] 60
  have HID0 := True.intro
  obtain ⟨v1, v2⟩ := lf3_lo n1 n2 n3 (by omega) (by omega) (by omega)
  by_cases hneg : lft3 1048576 n1 n2 n3 < 0
  · go_enter Try.func6, Try.ntmps6
    go_wp2_with fail
    refine Calls.kn hB0 ?_; intro w1 hK
    refine (szMachine_any b1 b2 b3 cy A1 A2 A3 _ _ _ c1 c2 c3 1048576 _ (by omega) (by omega) m1 m2 m3).mono ?_; rintro e w2 ⟨rfl, hw⟩
    have hK := hK.keep hw
    go_wp2_with fail
    go_ret
    exact ⟨rfl, hK.below⟩
  obtain ⟨s1, s2, s3⟩ := lf3_small (by omega) (by omega) (by omega) hneg
  have hl0 : 0 ≤ lft3 1048576 n1 n2 n3 := by omega
  have hl1 : lft3 1048576 n1 n2 n3 ≤ 1048576 := by omega
  by_cases hpl : (ln : Int) ≤ lft3 1048576 n1 n2 n3
  rotate_left
  · have hpn := hpl
    go_enter Try.func6, Try.ntmps6
    go_wp2_with fail
    refine Calls.kn hB0 ?_; intro w1 hK
    refine (szMachine_any b1 b2 b3 cy A1 A2 A3 _ _ _ c1 c2 c3 1048576 _ (by omega) (by omega) m1 m2 m3).mono ?_; rintro e w2 ⟨rfl, hw⟩
    have hK := hK.keep hw
    go_wp2_with fail
    refine (szInstrS_any LA ln lc _ _ (by first | exact hl0 | omega) (by first | exact hl1 | omega) hln).mono ?_; rintro e w3 ⟨rfl, hww⟩
    subst hww
    rw [if_neg (by omega)]
    go_wp2_with fail
    go_ret
    exact ⟨rfl, hK.below⟩
  have hlb : ln ≤ 1048576 := by omega
  have hpm : ¬ (lft3 1048576 n1 n2 n3 - (ln : Int) < 0) := by omega
  obtain rfl : d1.length = n1 := r1.1
  obtain rfl : d2.length = n2 := r2.1
  obtain rfl : d3.length = n3 := r3.1
  have hsm : SmallTri ⟨⟨b1, d1⟩, ⟨b2, d2⟩, ⟨b3, d3⟩, cy⟩ := by unfold SmallTri SmallReg; simp only; omega
  have TM := Lib.hid (fun W (hW : Below w.heap.size w W) => toMachine_kn b1 b2 b3 cy A1 A2 A3 _ _ _ c1 c2 c3 d1 d2 d3 W (r1.below hW) (r2.below hW) (r3.below hW) (by omega) (by omega) (by omega))
  obtain ⟨mk, hmk⟩ : ∃ mk : Int, (1 : Int) + d1.length + d2.length + d3.length = mk := ⟨_, rfl⟩
  have hmk0 : ¬ mk < 0 := by omega
  have hmk1 : 0 ≤ mk ∧ mk ≤ 4000000 := by omega
  have HMK := Lib.hid hmk
  have TP := Lib.hid (fun W (hW : Below w.heap.size w W) => toInstrS_kn LA ln lc L W (hr.below steady_InsM hW) hlb)
  have HLL := Lib.hid hr.1
  have KS := (fun (X1 : Option Addr) (x1 : Nat) (X2 : Option Addr) (x2 : Nat) (X3 : Option Addr) (x3 : Nat) (PA : Option Addr) (pa : Nat) W h1 h2 h3 hp => specTraceProgram_any (lc := pa) ⟨⟨b1, d1⟩, ⟨b2, d2⟩, ⟨b3, d3⟩, cy⟩ X1 X2 X3 x1 x2 x3 W h1 h2 h3 hsm (LA := PA) (n := ln) (L := L) hp (by omega))
  have KI := (fun (X1 : Option Addr) (x1 : Nat) (X2 : Option Addr) (x2 : Nat) (X3 : Option Addr) (x3 : Nat) (PA : Option Addr) (pa : Nat) W h1 h2 h3 hp => TraceProgram_any (lc := pa) ⟨⟨b1, d1⟩, ⟨b2, d2⟩, ⟨b3, d3⟩, cy⟩ X1 X2 X3 x1 x2 x3 W h1 h2 h3 hsm (LA := PA) (n := ln) (L := L) hp (by omega))
  unfold TPRet at KS KI
  have lv := rpT_len L ⟨⟨b1, d1⟩, ⟨b2, d2⟩, ⟨b3, d3⟩, cy⟩
  obtain ⟨RV, hRV⟩ : ∃ x : List Int, rpT L ⟨⟨b1, d1⟩, ⟨b2, d2⟩, ⟨b3, d3⟩, cy⟩ = x := ⟨_, rfl⟩
  rw [hRV] at KS KI lv
  clear hRV
  obtain ⟨kv, hkv⟩ : ∃ n, RV.length = n := ⟨_, rfl⟩
  unfold rowI at KI KS
  rw [hkv] at KS KI lv
  clear hkv
  obtain ⟨RI1, hRI1⟩ : ∃ x, rpC L ⟨⟨b1, d1⟩, ⟨b2, d2⟩, ⟨b3, d3⟩, cy⟩ = x := ⟨_, rfl⟩
  rw [hRI1] at KS KI
  clear hRI1
  have KS := Lib.hid KS
  have KI := Lib.hid KI
  clear hmk r1 r2 r3 hr
  go_enter Try.func6, Try.ntmps6
  go_wp2_with fail
  refine Calls.kn hB0 ?_; intro w1 hK
  refine (szMachine_any b1 b2 b3 cy A1 A2 A3 _ _ _ c1 c2 c3 1048576 _ (by omega) (by omega) m1 m2 m3).mono ?_; rintro e w2 ⟨rfl, hw⟩
  have hK := hK.keep hw
  go_wp2_with fail
  refine (szInstrS_any LA ln lc _ _ (by first | exact hl0 | omega) (by first | exact hl1 | omega) hln).mono ?_; rintro e w3 ⟨rfl, hww⟩
  subst hww
  rw [if_pos (by omega)]
  clear hB0
  have hK : Kn w [.blk w.heap.size [.int .i64 b1, .slice A1 d1.length c1, .int .i64 b2, .slice A2 d2.length c2, .int .i64 b3, .slice A3 d3.length c3, .int .i64 cy] 60] w2 := hK
  obtain ⟨q0, p0, o0, -⟩ := hK.cells
  go_wp2_with fail
  clear q0 p0 o0
  refine (TM.out _ hK.below).mono ?_; rintro e w4 ⟨X11, x11, X12, x12, X13, x13, rfl, hKn⟩
  have hK : Kn w [rowN X13 d3.length x13 d3, rowN X12 d2.length x12 d2, rowN X11 d1.length x11 d1, .blk w.heap.size [.int .i64 b1, .slice A1 d1.length c1, .int .i64 b2, .slice A2 d2.length c2, .int .i64 b3, .slice A3 d3.length c3, .int .i64 cy] 60] w4 := hK.join hKn
  clear hKn
  obtain ⟨q0, p0, o0, -⟩ := hK.cells
  go_wp2_with fail
  clear q0 p0 o0
  refine (TP.out _ hK.below).mono ?_; rintro e w5 ⟨X2, x2, rfl, hKn⟩
  have hK : Kn w [rowInsN X2 ln x2 L, rowN X13 d3.length x13 d3, rowN X12 d2.length x12 d2, rowN X11 d1.length x11 d1, .blk w.heap.size [.int .i64 b1, .slice A1 d1.length c1, .int .i64 b2, .slice A2 d2.length c2, .int .i64 b3, .slice A3 d3.length c3, .int .i64 cy] 60] w5 := hK.join hKn
  clear hKn
  obtain ⟨q0, p0, o0, -⟩ := hK.cells
  go_wp2_with fail
  clear q0 p0 o0
  refine (KS.out X11 x11 X12 x12 X13 x13 X2 x2 _ (Kn.riN (hK.sel [3] 99 (by decide) (by decide))) (Kn.riN (hK.sel [2] 99 (by decide) (by decide))) (Kn.riN (hK.sel [1] 99 (by decide) (by decide))) ((hK.sel [0] 99 (by decide) (by decide)).rlInsN HLL.out)).mono ?_; rintro e w6 ⟨SV, sv, rfl, hKn⟩
  have hK : Kn w [rowN SV kv sv RV, rowInsN X2 ln x2 L, rowN X13 d3.length x13 d3, rowN X12 d2.length x12 d2, rowN X11 d1.length x11 d1, .blk w.heap.size [.int .i64 b1, .slice A1 d1.length c1, .int .i64 b2, .slice A2 d2.length c2, .int .i64 b3, .slice A3 d3.length c3, .int .i64 cy] 60] w6 := hK.join hKn
  clear hKn
  obtain ⟨q0, p0, o0, -⟩ := hK.cells
  go_wp2_with fail
  clear q0 p0 o0
  refine (TM.out _ hK.below).mono ?_; rintro e w7 ⟨X31, x31, X32, x32, X33, x33, rfl, hKn⟩
  have hK : Kn w [rowN X33 d3.length x33 d3, rowN X32 d2.length x32 d2, rowN X31 d1.length x31 d1, rowN SV kv sv RV, rowInsN X2 ln x2 L, rowN X13 d3.length x13 d3, rowN X12 d2.length x12 d2, rowN X11 d1.length x11 d1, .blk w.heap.size [.int .i64 b1, .slice A1 d1.length c1, .int .i64 b2, .slice A2 d2.length c2, .int .i64 b3, .slice A3 d3.length c3, .int .i64 cy] 60] w7 := hK.join hKn
  clear hKn
  obtain ⟨q0, p0, o0, -⟩ := hK.cells
  go_wp2_with fail
  have hK' := (hK.al [.int .i64 b1, .slice X31 d1.length x31, .int .i64 b2, .slice X32 d2.length x32, .int .i64 b3, .slice X33 d3.length x33, .int .i64 cy] 65)
  refine Calls.kn hK' ?_; clear hK'; intro w8 hK'
  clear q0 p0 o0
  have hK : Kn w [.blk w7.heap.size [.int .i64 b1, .slice X31 d1.length x31, .int .i64 b2, .slice X32 d2.length x32, .int .i64 b3, .slice X33 d3.length x33, .int .i64 cy] 65, rowN X33 d3.length x33 d3, rowN X32 d2.length x32 d2, rowN X31 d1.length x31 d1, rowN SV kv sv RV, rowInsN X2 ln x2 L, rowN X13 d3.length x13 d3, rowN X12 d2.length x12 d2, rowN X11 d1.length x11 d1, .blk w.heap.size [.int .i64 b1, .slice A1 d1.length c1, .int .i64 b2, .slice A2 d2.length c2, .int .i64 b3, .slice A3 d3.length c3, .int .i64 cy] 60] w8 := hK'
  clear hK'
  refine (TP.out _ hK.below).mono ?_; rintro e w9 ⟨X4, x4, rfl, hKn⟩
  have hK : Kn w [rowInsN X4 ln x4 L, .blk w7.heap.size [.int .i64 b1, .slice X31 d1.length x31, .int .i64 b2, .slice X32 d2.length x32, .int .i64 b3, .slice X33 d3.length x33, .int .i64 cy] 65, rowN X33 d3.length x33 d3, rowN X32 d2.length x32 d2, rowN X31 d1.length x31 d1, rowN SV kv sv RV, rowInsN X2 ln x2 L, rowN X13 d3.length x13 d3, rowN X12 d2.length x12 d2, rowN X11 d1.length x11 d1, .blk w.heap.size [.int .i64 b1, .slice A1 d1.length c1, .int .i64 b2, .slice A2 d2.length c2, .int .i64 b3, .slice A3 d3.length c3, .int .i64 cy] 60] w9 := hK.join hKn
  clear hKn
  obtain ⟨q0, p0, o0, q1, p1, o1, -⟩ := hK.cells
  go_wp2_with fail
  clear q0 p0 o0 q1 p1 o1
  refine (KI.out X31 x31 X32 x32 X33 x33 X4 x4 _ (Kn.riN (hK.sel [4] 99 (by decide) (by decide))) (Kn.riN (hK.sel [3] 99 (by decide) (by decide))) (Kn.riN (hK.sel [2] 99 (by decide) (by decide))) ((hK.sel [0] 99 (by decide) (by decide)).rlInsN HLL.out)).mono ?_; rintro e w10 ⟨GV, gv, rfl, hKn⟩
  have hK : Kn w [rowN GV kv gv RV, rowInsN X4 ln x4 L, .blk w7.heap.size [.int .i64 b1, .slice X31 d1.length x31, .int .i64 b2, .slice X32 d2.length x32, .int .i64 b3, .slice X33 d3.length x33, .int .i64 cy] 65, rowN X33 d3.length x33 d3, rowN X32 d2.length x32 d2, rowN X31 d1.length x31 d1, rowN SV kv sv RV, rowInsN X2 ln x2 L, rowN X13 d3.length x13 d3, rowN X12 d2.length x12 d2, rowN X11 d1.length x11 d1, .blk w.heap.size [.int .i64 b1, .slice A1 d1.length c1, .int .i64 b2, .slice A2 d2.length c2, .int .i64 b3, .slice A3 d3.length c3, .int .i64 cy] 60] w10 := hK.join hKn
  clear hKn
  obtain ⟨q0, p0, o0, q1, p1, o1, -⟩ := hK.cells
  go_wp2_with fail
  clear q0 p0 o0 q1 p1 o1
  refine (eqI_same _ _ _ _ _ _ _ (Kn.riN (hK.sel [0] 99 (by decide) (by decide))) (Kn.riN (hK.sel [6] 99 (by decide) (by decide))) (by omega)).mono ?_; rintro e w11 ⟨rfl, hw⟩
  have hK : Kn w [rowN GV kv gv RV, rowInsN X4 ln x4 L, .blk w7.heap.size [.int .i64 b1, .slice X31 d1.length x31, .int .i64 b2, .slice X32 d2.length x32, .int .i64 b3, .slice X33 d3.length x33, .int .i64 cy] 65, rowN X33 d3.length x33 d3, rowN X32 d2.length x32 d2, rowN X31 d1.length x31 d1, rowN SV kv sv RV, rowInsN X2 ln x2 L, rowN X13 d3.length x13 d3, rowN X12 d2.length x12 d2, rowN X11 d1.length x11 d1, .blk w.heap.size [.int .i64 b1, .slice A1 d1.length c1, .int .i64 b2, .slice A2 d2.length c2, .int .i64 b3, .slice A3 d3.length c3, .int .i64 cy] 60] w11 := hK.keep hw
  clear hw
  obtain ⟨q0, p0, o0, q1, p1, o1, -⟩ := hK.cells
  go_wp2_with fail
  have HG := Lib.hid (And.intro (box7at hK.drew 2 rfl) (box7at hK.drew 11 rfl))
  go_region_held3 (fun W => (W.cell? ⟨w7.heap.size, 0, none⟩ = some (.int .i64 b1) ∧ W.cell? ⟨w7.heap.size, 1, none⟩ = some (.slice X31 d1.length x31) ∧ W.cell? ⟨w7.heap.size, 2, none⟩ = some (.int .i64 b2) ∧ W.cell? ⟨w7.heap.size, 3, none⟩ = some (.slice X32 d2.length x32) ∧ W.cell? ⟨w7.heap.size, 4, none⟩ = some (.int .i64 b3) ∧ W.cell? ⟨w7.heap.size, 5, none⟩ = some (.slice X33 d3.length x33) ∧ W.cell? ⟨w7.heap.size, 6, none⟩ = some (.int .i64 cy)) ∧ (W.cell? ⟨w.heap.size, 0, none⟩ = some (.int .i64 b1) ∧ W.cell? ⟨w.heap.size, 1, none⟩ = some (.slice A1 d1.length c1) ∧ W.cell? ⟨w.heap.size, 2, none⟩ = some (.int .i64 b2) ∧ W.cell? ⟨w.heap.size, 3, none⟩ = some (.slice A2 d2.length c2) ∧ W.cell? ⟨w.heap.size, 4, none⟩ = some (.int .i64 b3) ∧ W.cell? ⟨w.heap.size, 5, none⟩ = some (.slice A3 d3.length c3) ∧ W.cell? ⟨w.heap.size, 6, none⟩ = some (.int .i64 cy)))
    (first | with_reducible exact HG.out | exact HG.out) (first
    | (go_at_call 44; refine (TM.out _ hK.drew.below).mono ?_; rintro e w12 ⟨X51, x51, X52, x52, X53, x53, rfl, hKn⟩; have hK2 : Kn w [rowN X53 d3.length x53 d3, rowN X52 d2.length x52 d2, rowN X51 d1.length x51 d1, rowN GV kv gv RV, rowInsN X4 ln x4 L, .blk w7.heap.size [.int .i64 b1, .slice X31 d1.length x31, .int .i64 b2, .slice X32 d2.length x32, .int .i64 b3, .slice X33 d3.length x33, .int .i64 cy] 65, rowN X33 d3.length x33 d3, rowN X32 d2.length x32 d2, rowN X31 d1.length x31 d1, rowN SV kv sv RV, rowInsN X2 ln x2 L, rowN X13 d3.length x13 d3, rowN X12 d2.length x12 d2, rowN X11 d1.length x11 d1, .blk w.heap.size [.int .i64 b1, .slice A1 d1.length c1, .int .i64 b2, .slice A2 d2.length c2, .int .i64 b3, .slice A3 d3.length c3, .int .i64 cy] 60] w12 := hK.drew.join hKn; clear HG; have HG := Lib.hid (And.intro (box7at hK2 5 rfl) (box7at hK2 14 rfl)))
    | (go_at_call 46; refine (eqM_same b1 b2 b3 cy X31 X32 X33 X51 X52 X53 _ _ _ x31 x32 x33 x51 x52 x53 d1 d2 d3 _ (Kn.riN (hK2.sel [8] 99 (by decide) (by decide))) (Kn.riN (hK2.sel [7] 99 (by decide) (by decide))) (Kn.riN (hK2.sel [6] 99 (by decide) (by decide))) (Kn.riN (hK2.sel [2] 99 (by decide) (by decide))) (Kn.riN (hK2.sel [1] 99 (by decide) (by decide))) (Kn.riN (hK2.sel [0] 99 (by decide) (by decide))) (by omega) (by omega) (by omega)).mono ?_; rintro e w13 ⟨rfl, hw⟩; have hK3 : Kn w [rowN X53 d3.length x53 d3, rowN X52 d2.length x52 d2, rowN X51 d1.length x51 d1, rowN GV kv gv RV, rowInsN X4 ln x4 L, .blk w7.heap.size [.int .i64 b1, .slice X31 d1.length x31, .int .i64 b2, .slice X32 d2.length x32, .int .i64 b3, .slice X33 d3.length x33, .int .i64 cy] 65, rowN X33 d3.length x33 d3, rowN X32 d2.length x32 d2, rowN X31 d1.length x31 d1, rowN SV kv sv RV, rowInsN X2 ln x2 L, rowN X13 d3.length x13 d3, rowN X12 d2.length x12 d2, rowN X11 d1.length x11 d1, .blk w.heap.size [.int .i64 b1, .slice A1 d1.length c1, .int .i64 b2, .slice A2 d2.length c2, .int .i64 b3, .slice A3 d3.length c3, .int .i64 cy] 60] w13 := hK2.keep hw; clear HG; have HG := Lib.hid (And.intro (box7at hK3 5 rfl) (box7at hK3 14 rfl))))
  clear q0 p0 o0 q1 p1 o1
  have hK := hK3
  clear HG hK2 hK3 hKn hw
  obtain ⟨q0, p0, o0, q1, p1, o1, -⟩ := hK.cells
  go_wp2_with fail
  clear q0 p0 o0 q1 p1 o1
  refine (TP.out _ hK.below).mono ?_; rintro e w14 ⟨X6, x6, rfl, hKn⟩
  have hK : Kn w [rowInsN X6 ln x6 L, rowN X53 d3.length x53 d3, rowN X52 d2.length x52 d2, rowN X51 d1.length x51 d1, rowN GV kv gv RV, rowInsN X4 ln x4 L, .blk w7.heap.size [.int .i64 b1, .slice X31 d1.length x31, .int .i64 b2, .slice X32 d2.length x32, .int .i64 b3, .slice X33 d3.length x33, .int .i64 cy] 65, rowN X33 d3.length x33 d3, rowN X32 d2.length x32 d2, rowN X31 d1.length x31 d1, rowN SV kv sv RV, rowInsN X2 ln x2 L, rowN X13 d3.length x13 d3, rowN X12 d2.length x12 d2, rowN X11 d1.length x11 d1, .blk w.heap.size [.int .i64 b1, .slice A1 d1.length c1, .int .i64 b2, .slice A2 d2.length c2, .int .i64 b3, .slice A3 d3.length c3, .int .i64 cy] 60] w14 := hK.join hKn
  clear hKn
  obtain ⟨q0, p0, o0, q1, p1, o1, -⟩ := hK.cells
  go_wp2_with fail
  clear q0 p0 o0 q1 p1 o1
  refine (eqInstrS_same _ _ _ _ _ _ _ ((hK.sel [5] 99 (by decide) (by decide)).rlInsN HLL.out) ((hK.sel [0] 99 (by decide) (by decide)).rlInsN HLL.out) (by omega)).mono ?_; rintro e w15 ⟨rfl, hw⟩
  have hK : Kn w [rowInsN X6 ln x6 L, rowN X53 d3.length x53 d3, rowN X52 d2.length x52 d2, rowN X51 d1.length x51 d1, rowN GV kv gv RV, rowInsN X4 ln x4 L, .blk w7.heap.size [.int .i64 b1, .slice X31 d1.length x31, .int .i64 b2, .slice X32 d2.length x32, .int .i64 b3, .slice X33 d3.length x33, .int .i64 cy] 65, rowN X33 d3.length x33 d3, rowN X32 d2.length x32 d2, rowN X31 d1.length x31 d1, rowN SV kv sv RV, rowInsN X2 ln x2 L, rowN X13 d3.length x13 d3, rowN X12 d2.length x12 d2, rowN X11 d1.length x11 d1, .blk w.heap.size [.int .i64 b1, .slice A1 d1.length c1, .int .i64 b2, .slice A2 d2.length c2, .int .i64 b3, .slice A3 d3.length c3, .int .i64 cy] 60] w15 := hK.keep hw
  clear hw
  obtain ⟨q0, p0, o0, q1, p1, o1, -⟩ := hK.cells
  go_wp2_with fail
  clear q0 p0 o0 q1 p1 o1
  have hK : Kn w [rowN X33 d3.length x33 d3, rowN X32 d2.length x32 d2, rowN X31 d1.length x31 d1, rowInsN X6 ln x6 L, rowN X53 d3.length x53 d3, rowN X52 d2.length x52 d2, rowN X51 d1.length x51 d1, rowN GV kv gv RV, rowInsN X4 ln x4 L, .blk w7.heap.size [.int .i64 b1, .slice X31 d1.length x31, .int .i64 b2, .slice X32 d2.length x32, .int .i64 b3, .slice X33 d3.length x33, .int .i64 cy] 65, rowN SV kv sv RV, rowInsN X2 ln x2 L, rowN X13 d3.length x13 d3, rowN X12 d2.length x12 d2, rowN X11 d1.length x11 d1, .blk w.heap.size [.int .i64 b1, .slice A1 d1.length c1, .int .i64 b2, .slice A2 d2.length c2, .int .i64 b3, .slice A3 d3.length c3, .int .i64 cy] 60] w15 := hK.sel [7, 8, 9, 0, 1, 2, 3, 4, 5, 6, 10, 11, 12, 13, 14, 15] 16 (by decide) (by decide)
  refine (markMachine_kn w _ _ _ _ _ X31 X32 X33 d1.length d2.length d3.length x31 x32 x33 d1 d2 d3  1 _ hK (by omega) (by omega)).mono ?_; rintro e w16 ⟨rfl, hKn⟩
  have hK : Kn w [rowN X33 d3.length x33 (upto (1 + (d1.length : Int) + (d2.length : Int)) d3.length), rowN X32 d2.length x32 (upto (1 + (d1.length : Int)) d2.length), rowN X31 d1.length x31 (upto 1 d1.length), rowInsN X6 ln x6 L, rowN X53 d3.length x53 d3, rowN X52 d2.length x52 d2, rowN X51 d1.length x51 d1, rowN GV kv gv RV, rowInsN X4 ln x4 L, .blk w7.heap.size [.int .i64 b1, .slice X31 d1.length x31, .int .i64 b2, .slice X32 d2.length x32, .int .i64 b3, .slice X33 d3.length x33, .int .i64 cy] 65, rowN SV kv sv RV, rowInsN X2 ln x2 L, rowN X13 d3.length x13 d3, rowN X12 d2.length x12 d2, rowN X11 d1.length x11 d1, .blk w.heap.size [.int .i64 b1, .slice A1 d1.length c1, .int .i64 b2, .slice A2 d2.length c2, .int .i64 b3, .slice A3 d3.length c3, .int .i64 cy] 60] w16 := hKn
  clear hKn
  rw [HMK.out]
  obtain ⟨q0, p0, o0, q1, p1, o1, -⟩ := hK.cells
  go_wp2_with fail
  clear q0 p0 o0 q1 p1 o1
  have hK : Kn w [rowInsN X4 ln x4 L, rowN X33 d3.length x33 (upto (1 + (d1.length : Int) + (d2.length : Int)) d3.length), rowN X32 d2.length x32 (upto (1 + (d1.length : Int)) d2.length), rowN X31 d1.length x31 (upto 1 d1.length), rowInsN X6 ln x6 L, rowN X53 d3.length x53 d3, rowN X52 d2.length x52 d2, rowN X51 d1.length x51 d1, rowN GV kv gv RV, .blk w7.heap.size [.int .i64 b1, .slice X31 d1.length x31, .int .i64 b2, .slice X32 d2.length x32, .int .i64 b3, .slice X33 d3.length x33, .int .i64 cy] 65, rowN SV kv sv RV, rowInsN X2 ln x2 L, rowN X13 d3.length x13 d3, rowN X12 d2.length x12 d2, rowN X11 d1.length x11 d1, .blk w.heap.size [.int .i64 b1, .slice A1 d1.length c1, .int .i64 b2, .slice A2 d2.length c2, .int .i64 b3, .slice A3 d3.length c3, .int .i64 cy] 60] w16 := hK.sel [8, 0, 1, 2, 3, 4, 5, 6, 7, 9, 10, 11, 12, 13, 14, 15] 16 (by decide) (by decide)
  refine (markInstrS_kn w _ X4 ln x4 _ mk _ hK (by omega) (by omega)).mono ?_; rintro e w17 ⟨rfl, hKn⟩
  have hK : Kn w [.row (.slice X4 ln x4) 156 2 ln ((upto mk (ln * 2)).map (Value.int .i64)), rowN X33 d3.length x33 (upto (1 + (d1.length : Int) + (d2.length : Int)) d3.length), rowN X32 d2.length x32 (upto (1 + (d1.length : Int)) d2.length), rowN X31 d1.length x31 (upto 1 d1.length), rowInsN X6 ln x6 L, rowN X53 d3.length x53 d3, rowN X52 d2.length x52 d2, rowN X51 d1.length x51 d1, rowN GV kv gv RV, .blk w7.heap.size [.int .i64 b1, .slice X31 d1.length x31, .int .i64 b2, .slice X32 d2.length x32, .int .i64 b3, .slice X33 d3.length x33, .int .i64 cy] 65, rowN SV kv sv RV, rowInsN X2 ln x2 L, rowN X13 d3.length x13 d3, rowN X12 d2.length x12 d2, rowN X11 d1.length x11 d1, .blk w.heap.size [.int .i64 b1, .slice A1 d1.length c1, .int .i64 b2, .slice A2 d2.length c2, .int .i64 b3, .slice A3 d3.length c3, .int .i64 cy] 60] w17 := hKn
  clear hKn
  obtain ⟨pk1, hpk1⟩ : ∃ x : Int, mk + (ln : Int) * 2 = x := ⟨_, rfl⟩
  have hpk1n : ¬ pk1 < 0 := by omega
  have hpk1b : 0 ≤ pk1 ∧ pk1 ≤ 40000000 := by omega
  rw [hpk1]
  have Hpk1 := Lib.hid hpk1
  clear hpk1
  obtain ⟨q0, p0, o0, q1, p1, o1, -⟩ := hK.cells
  go_wp2_with fail
  clear q0 p0 o0 q1 p1 o1
  refine (eqI_same _ _ _ _ _ _ _ (Kn.riN (hK.sel [8] 99 (by decide) (by decide))) (Kn.riN (hK.sel [10] 99 (by decide) (by decide))) (by omega)).mono ?_; rintro e w18 ⟨rfl, hw⟩
  have hK : Kn w [.row (.slice X4 ln x4) 156 2 ln ((upto mk (ln * 2)).map (Value.int .i64)), rowN X33 d3.length x33 (upto (1 + (d1.length : Int) + (d2.length : Int)) d3.length), rowN X32 d2.length x32 (upto (1 + (d1.length : Int)) d2.length), rowN X31 d1.length x31 (upto 1 d1.length), rowInsN X6 ln x6 L, rowN X53 d3.length x53 d3, rowN X52 d2.length x52 d2, rowN X51 d1.length x51 d1, rowN GV kv gv RV, .blk w7.heap.size [.int .i64 b1, .slice X31 d1.length x31, .int .i64 b2, .slice X32 d2.length x32, .int .i64 b3, .slice X33 d3.length x33, .int .i64 cy] 65, rowN SV kv sv RV, rowInsN X2 ln x2 L, rowN X13 d3.length x13 d3, rowN X12 d2.length x12 d2, rowN X11 d1.length x11 d1, .blk w.heap.size [.int .i64 b1, .slice A1 d1.length c1, .int .i64 b2, .slice A2 d2.length c2, .int .i64 b3, .slice A3 d3.length c3, .int .i64 cy] 60] w18 := hK.keep hw
  clear hw
  obtain ⟨q0, p0, o0, q1, p1, o1, -⟩ := hK.cells
  go_wp2_with fail
  clear q0 p0 o0 q1 p1 o1
  have hK : Kn w [rowN GV kv gv RV, .row (.slice X4 ln x4) 156 2 ln ((upto mk (ln * 2)).map (Value.int .i64)), rowN X33 d3.length x33 (upto (1 + (d1.length : Int) + (d2.length : Int)) d3.length), rowN X32 d2.length x32 (upto (1 + (d1.length : Int)) d2.length), rowN X31 d1.length x31 (upto 1 d1.length), rowInsN X6 ln x6 L, rowN X53 d3.length x53 d3, rowN X52 d2.length x52 d2, rowN X51 d1.length x51 d1, .blk w7.heap.size [.int .i64 b1, .slice X31 d1.length x31, .int .i64 b2, .slice X32 d2.length x32, .int .i64 b3, .slice X33 d3.length x33, .int .i64 cy] 65, rowN SV kv sv RV, rowInsN X2 ln x2 L, rowN X13 d3.length x13 d3, rowN X12 d2.length x12 d2, rowN X11 d1.length x11 d1, .blk w.heap.size [.int .i64 b1, .slice A1 d1.length c1, .int .i64 b2, .slice A2 d2.length c2, .int .i64 b3, .slice A3 d3.length c3, .int .i64 cy] 60] w18 := hK.sel [8, 0, 1, 2, 3, 4, 5, 6, 7, 9, 10, 11, 12, 13, 14, 15] 16 (by decide) (by decide)
  refine (markI_kn w _ GV kv gv RV 1 _ hK (by omega) (by omega)).mono ?_; rintro e w19 ⟨rfl, hKn⟩
  have hK : Kn w [rowN GV kv gv (upto 1 kv), .row (.slice X4 ln x4) 156 2 ln ((upto mk (ln * 2)).map (Value.int .i64)), rowN X33 d3.length x33 (upto (1 + (d1.length : Int) + (d2.length : Int)) d3.length), rowN X32 d2.length x32 (upto (1 + (d1.length : Int)) d2.length), rowN X31 d1.length x31 (upto 1 d1.length), rowInsN X6 ln x6 L, rowN X53 d3.length x53 d3, rowN X52 d2.length x52 d2, rowN X51 d1.length x51 d1, .blk w7.heap.size [.int .i64 b1, .slice X31 d1.length x31, .int .i64 b2, .slice X32 d2.length x32, .int .i64 b3, .slice X33 d3.length x33, .int .i64 cy] 65, rowN SV kv sv RV, rowInsN X2 ln x2 L, rowN X13 d3.length x13 d3, rowN X12 d2.length x12 d2, rowN X11 d1.length x11 d1, .blk w.heap.size [.int .i64 b1, .slice A1 d1.length c1, .int .i64 b2, .slice A2 d2.length c2, .int .i64 b3, .slice A3 d3.length c3, .int .i64 cy] 60] w19 := hKn
  clear hKn
  obtain ⟨pk2, hpk2⟩ : ∃ x : Int, 1 + (kv : Int) = x := ⟨_, rfl⟩
  have hpk2n : ¬ pk2 < 0 := by omega
  have hpk2b : 0 ≤ pk2 ∧ pk2 ≤ 40000000 := by omega
  rw [hpk2]
  have Hpk2 := Lib.hid hpk2
  clear hpk2
  obtain ⟨q0, p0, o0, q1, p1, o1, -⟩ := hK.cells
  go_wp2_with fail
  clear q0 p0 o0 q1 p1 o1
  refine (heldInt64S_any GV kv gv 1 _ (Kn.riN (hK.sel [0] 99 (by decide) (by decide))) (by omega) (by omega)).mono ?_; rintro e w20 ⟨rfl, hww⟩; subst hww
  rw [Hpk2.out]
  obtain ⟨q0, p0, o0, q1, p1, o1, -⟩ := hK.cells
  go_wp2_with fail
  clear q0 p0 o0 q1 p1 o1
  refine (TM.out _ hK.below).mono ?_; rintro e w21 ⟨X71, x71, X72, x72, X73, x73, rfl, hKn⟩
  have hK : Kn w [rowN X73 d3.length x73 d3, rowN X72 d2.length x72 d2, rowN X71 d1.length x71 d1, rowN GV kv gv (upto 1 kv), .row (.slice X4 ln x4) 156 2 ln ((upto mk (ln * 2)).map (Value.int .i64)), rowN X33 d3.length x33 (upto (1 + (d1.length : Int) + (d2.length : Int)) d3.length), rowN X32 d2.length x32 (upto (1 + (d1.length : Int)) d2.length), rowN X31 d1.length x31 (upto 1 d1.length), rowInsN X6 ln x6 L, rowN X53 d3.length x53 d3, rowN X52 d2.length x52 d2, rowN X51 d1.length x51 d1, .blk w7.heap.size [.int .i64 b1, .slice X31 d1.length x31, .int .i64 b2, .slice X32 d2.length x32, .int .i64 b3, .slice X33 d3.length x33, .int .i64 cy] 65, rowN SV kv sv RV, rowInsN X2 ln x2 L, rowN X13 d3.length x13 d3, rowN X12 d2.length x12 d2, rowN X11 d1.length x11 d1, .blk w.heap.size [.int .i64 b1, .slice A1 d1.length c1, .int .i64 b2, .slice A2 d2.length c2, .int .i64 b3, .slice A3 d3.length c3, .int .i64 cy] 60] w21 := hK.join hKn
  clear hKn
  obtain ⟨q0, p0, o0, q1, p1, o1, -⟩ := hK.cells
  go_wp2_with fail
  clear q0 p0 o0 q1 p1 o1
  refine (TP.out _ hK.below).mono ?_; rintro e w22 ⟨X8, x8, rfl, hKn⟩
  have hK : Kn w [rowInsN X8 ln x8 L, rowN X73 d3.length x73 d3, rowN X72 d2.length x72 d2, rowN X71 d1.length x71 d1, rowN GV kv gv (upto 1 kv), .row (.slice X4 ln x4) 156 2 ln ((upto mk (ln * 2)).map (Value.int .i64)), rowN X33 d3.length x33 (upto (1 + (d1.length : Int) + (d2.length : Int)) d3.length), rowN X32 d2.length x32 (upto (1 + (d1.length : Int)) d2.length), rowN X31 d1.length x31 (upto 1 d1.length), rowInsN X6 ln x6 L, rowN X53 d3.length x53 d3, rowN X52 d2.length x52 d2, rowN X51 d1.length x51 d1, .blk w7.heap.size [.int .i64 b1, .slice X31 d1.length x31, .int .i64 b2, .slice X32 d2.length x32, .int .i64 b3, .slice X33 d3.length x33, .int .i64 cy] 65, rowN SV kv sv RV, rowInsN X2 ln x2 L, rowN X13 d3.length x13 d3, rowN X12 d2.length x12 d2, rowN X11 d1.length x11 d1, .blk w.heap.size [.int .i64 b1, .slice A1 d1.length c1, .int .i64 b2, .slice A2 d2.length c2, .int .i64 b3, .slice A3 d3.length c3, .int .i64 cy] 60] w22 := hK.join hKn
  clear hKn
  obtain ⟨q0, p0, o0, q1, p1, o1, -⟩ := hK.cells
  go_wp2_with fail
  clear q0 p0 o0 q1 p1 o1
  refine (KI.out X71 x71 X72 x72 X73 x73 X8 x8 _ (Kn.riN (hK.sel [3] 99 (by decide) (by decide))) (Kn.riN (hK.sel [2] 99 (by decide) (by decide))) (Kn.riN (hK.sel [1] 99 (by decide) (by decide))) ((hK.sel [0] 99 (by decide) (by decide)).rlInsN HLL.out)).mono ?_; rintro e w23 ⟨HV, hv, rfl, hKn⟩
  have hK : Kn w [rowN HV kv hv RV, rowInsN X8 ln x8 L, rowN X73 d3.length x73 d3, rowN X72 d2.length x72 d2, rowN X71 d1.length x71 d1, rowN GV kv gv (upto 1 kv), .row (.slice X4 ln x4) 156 2 ln ((upto mk (ln * 2)).map (Value.int .i64)), rowN X33 d3.length x33 (upto (1 + (d1.length : Int) + (d2.length : Int)) d3.length), rowN X32 d2.length x32 (upto (1 + (d1.length : Int)) d2.length), rowN X31 d1.length x31 (upto 1 d1.length), rowInsN X6 ln x6 L, rowN X53 d3.length x53 d3, rowN X52 d2.length x52 d2, rowN X51 d1.length x51 d1, .blk w7.heap.size [.int .i64 b1, .slice X31 d1.length x31, .int .i64 b2, .slice X32 d2.length x32, .int .i64 b3, .slice X33 d3.length x33, .int .i64 cy] 65, rowN SV kv sv RV, rowInsN X2 ln x2 L, rowN X13 d3.length x13 d3, rowN X12 d2.length x12 d2, rowN X11 d1.length x11 d1, .blk w.heap.size [.int .i64 b1, .slice A1 d1.length c1, .int .i64 b2, .slice A2 d2.length c2, .int .i64 b3, .slice A3 d3.length c3, .int .i64 cy] 60] w23 := hK.join hKn
  clear hKn
  obtain ⟨q0, p0, o0, q1, p1, o1, -⟩ := hK.cells
  go_wp2_with fail
  clear q0 p0 o0 q1 p1 o1
  refine (eqI_same _ _ _ _ _ _ _ (Kn.riN (hK.sel [0] 99 (by decide) (by decide))) (Kn.riN (hK.sel [15] 99 (by decide) (by decide))) (by omega)).mono ?_; rintro e w24 ⟨rfl, hw⟩
  have hK : Kn w [rowN HV kv hv RV, rowInsN X8 ln x8 L, rowN X73 d3.length x73 d3, rowN X72 d2.length x72 d2, rowN X71 d1.length x71 d1, rowN GV kv gv (upto 1 kv), .row (.slice X4 ln x4) 156 2 ln ((upto mk (ln * 2)).map (Value.int .i64)), rowN X33 d3.length x33 (upto (1 + (d1.length : Int) + (d2.length : Int)) d3.length), rowN X32 d2.length x32 (upto (1 + (d1.length : Int)) d2.length), rowN X31 d1.length x31 (upto 1 d1.length), rowInsN X6 ln x6 L, rowN X53 d3.length x53 d3, rowN X52 d2.length x52 d2, rowN X51 d1.length x51 d1, .blk w7.heap.size [.int .i64 b1, .slice X31 d1.length x31, .int .i64 b2, .slice X32 d2.length x32, .int .i64 b3, .slice X33 d3.length x33, .int .i64 cy] 65, rowN SV kv sv RV, rowInsN X2 ln x2 L, rowN X13 d3.length x13 d3, rowN X12 d2.length x12 d2, rowN X11 d1.length x11 d1, .blk w.heap.size [.int .i64 b1, .slice A1 d1.length c1, .int .i64 b2, .slice A2 d2.length c2, .int .i64 b3, .slice A3 d3.length c3, .int .i64 cy] 60] w24 := hK.keep hw
  clear hw
  obtain ⟨q0, p0, o0, q1, p1, o1, -⟩ := hK.cells
  go_wp2_with fail
  clear q0 p0 o0 q1 p1 o1
  refine (heldInt64S_any GV kv gv 1 _ (Kn.riN (hK.sel [5] 99 (by decide) (by decide))) (by omega) (by omega)).mono ?_; rintro e w25 ⟨rfl, hww⟩; subst hww
  rw [Hpk2.out]
  obtain ⟨q0, p0, o0, q1, p1, o1, -⟩ := hK.cells
  go_wp2_with fail
  go_ret
  exact ⟨rfl, hK.below⟩
end Go.Proofs.Ytkaaiocbiknipaa

namespace Go.Proofs.Ytkaaiocbiknipaa.fnExactTraceProgram
open Go.ChangeShapes Go.WideShapes Go.ChangeAt Go.RowKit
theorem own : ownKnob Try.prog.godebug = none := by kernel_rfl
theorem laidOut : laidOutB Try.prog = true := by kernel_rfl
set_option maxRecDepth 100000 in
theorem contract (H : Type) (enc : TypeId × Value → H) (W : World) (base : Nat) (args : Array Value) (ds gs : List (DataW H)) (before : List MemPlace)
    (hval : ∀ (j : Nat) t v, Try.f6.params[j]? = some t → args[j]? = some v → Value.okWide Try.prog W .any base t v)
    (hW : DataW.Whole enc Try.prog Try.f6.params.toList Rows.fnExactTraceProgramSpec.vars false W args.toList ds gs before) :
    Calls Try.prog 6 args W fun e W' => ∃ v, e = .returned v ∧ Rows.fnExactTraceProgramSpec.post enc Try.prog Try.f6 false true false false W args v W' := by
  have hW' := hW
  obtain ⟨p, q, hA0, hV, rfl, hfz, hnd⟩ := hW
  have hA : DataW.TrodAll enc Try.prog W 0 (fun _ => true) true Try.f6.params.toList args.toList ds p := hA0
  rw [Try.params6] at hA hval
  obtain ⟨v0, vs0, d0, ds0, p0, q0, hargs, rfl, rfl, h0, r0⟩ := trodAll_cons hA
  obtain ⟨v1, vs1, d1, ds1, p1, q1, rfl, rfl, rfl, h1, r1⟩ := trodAll_cons r0
  obtain ⟨rfl, rfl, rfl⟩ := trodAll_nil r1
  obtain rfl : args = #[v0, v1] := by cases args; simp_all
  obtain ⟨rfl, rfl⟩ := trodVars_none hV
  clear hA0
  simp only [List.append_nil] at hW'
  have hlt : ∀ x ∈ p0 ++ (p1), x.block < W.heap.size := fun x hx => by
    have := hW'.lt x (by simpa using hx)
    simpa using this
  obtain ⟨cs, rfl, hsz⟩ := okWide_struct Try.underlying60 (hval 0 _ _ rfl rfl)
  have t0 := h0
  obtain ⟨fuel0, hf0⟩ := h0
  obtain ⟨b1, A1, n1, c1, e1, b2, A2, n2, c2, e2, b3, A3, n3, c3, e3, cy, hcs, z1, z2, z3, m1, m2, m3⟩ := rd_lmachine hf0
  obtain rfl : cs = #[.int .i64 b1, .slice A1 n1 c1, .int .i64 b2, .slice A2 n2 c2, .int .i64 b3, .slice A3 n3 c3, .int .i64 cy] := by
    have : cs.toList = [.int .i64 b1, .slice A1 n1 c1, .int .i64 b2, .slice A2 n2 c2, .int .i64 b3, .slice A3 n3 c3, .int .i64 cy] := hcs
    rw [← Array.toArray_toList (xs := cs), this]
  obtain ⟨LA, Ln, Lc, rfl⟩ := okWide_slice Try.underlying69 (hval 1 _ _ rfl rfl)
  have t1 := h1
  obtain ⟨fuel1, hf1⟩ := h1
  obtain ⟨A', n', c', Lxs, hcs1, hr1, hn1⟩ := rd_instrs hf1
  obtain ⟨rfl, rfl, rfl⟩ : A' = LA ∧ n' = Ln ∧ c' = Lc := by
    have : [Value.slice LA Ln Lc] = [.slice A' n' c'] := hcs1
    injection this with this
    injection this with e1 e2 e3
    exact ⟨e1.symm, e2.symm, e3.symm⟩
  have walk : Calls Try.prog 6 #[.agg #[.int .i64 b1, .slice A1 n1 c1, .int .i64 b2, .slice A2 n2 c2, .int .i64 b3, .slice A3 n3 c3, .int .i64 cy], .slice A' n' c'] W fun e w' => e = .returned (.bool true) ∧ Below W.heap.size W w' :=
    law_TraceProgram b1 b2 b3 cy A1 A2 A3 n1 n2 n3 c1 c2 c3 e1 e2 e3 A' n' c' Lxs W z1 z2 z3 m1 m2 m3 hr1 hn1
  refine walk.mono fun e W' ⟨he, hb⟩ => ?_
  subst he
  have u0 := Below.trod laidOut (by kernel_rfl) (of_decide_eq_true (by kernel_rfl)) t0 hb (fun x hx => hlt x (by simp only [List.mem_append]; simp [hx]))
  have u1 := Below.trod laidOut (by kernel_rfl) (of_decide_eq_true (by kernel_rfl)) t1 hb (fun x hx => hlt x (by simp only [List.mem_append]; simp [hx]))
  exact ⟨_, rfl, [d0, d1], [], p0 ++ (p1 ++ []), [], p0 ++ (p1 ++ []), [], by simpa using hW', trodAll_cons_mk (shut_bool Try.underlying4 _) trodAll_mk0, (trodAll_cons_mk u0 (trodAll_cons_mk u1 trodAll_mk0)), rfl, hb.frame _, fun h => by cases h⟩
theorem reads (os : Os) {H : Type} (enc : TypeId × Value → H) : ∃ places, DataW.whole enc Try.prog ((World.holding Try.prog os ⟨#[], #[], []⟩).forCall (fun _ _ => 0) ⟨#[], #[.agg #[.int .i64 0, .slice none 0 0, .int .i64 0, .slice none 0 0, .int .i64 0, .slice none 0 0, .int .i64 0], .slice none 0 0], []⟩).memory Try.f6.params.toList Rows.fnExactTraceProgramSpec.vars false (#[.agg #[.int .i64 0, .slice none 0 0, .int .i64 0, .slice none 0 0, .int .i64 0, .slice none 0 0, .int .i64 0], .slice none 0 0] : Array Value).toList 8 = some ([.agg [.agg [.lit (.int .i64 0), .nil], .agg [.lit (.int .i64 0), .nil], .agg [.lit (.int .i64 0), .nil], .lit (.int .i64 0)], .nil], [], places) :=
  ⟨[], by kernel_rfl⟩
set_option maxRecDepth 100000 in
theorem lifted (os : Os) (started : os.Started) (H : Type) (enc : TypeId × Value → H) (F : Stop.Interp) :
    ReturnsInHanded {} Try.checked os 6 .any ((OpenSpec.ofChange Rows.fnExactTraceProgramSpec).preRow enc Try.prog Try.f6 Rows.fnExactTraceProgramRow.domain false Rows.fnExactTraceProgramRow.laid) (((OpenSpec.ofChange Rows.fnExactTraceProgramSpec).at F).post enc Try.prog Try.f6 false true false false) := by
  obtain ⟨places, hx⟩ := reads os enc
  refine returnsInHanded_of_row (C := Try.checked) (s := OpenSpec.ofChange Rows.fnExactTraceProgramSpec) own started (by kernel_rfl) Try.func6
    (witness_row_at (enc := enc) (C := Try.checked) false (World.holding Try.prog os ⟨#[], #[], []⟩) #[.agg #[.int .i64 0, .slice none 0 0, .int .i64 0, .slice none 0 0, .int .i64 0, .slice none 0 0, .int .i64 0], .slice none 0 0] rfl (by kernel_rfl) (by kernel_rfl) (by kernel_rfl)
      (OpenSpec.preRow_of_cond 8 hx (by kernel_rfl) (fun k hk => by cases hk) (by kernel_rfl) (laidMet_of_run' 8 (by kernel_rfl) (by kernel_rfl)))) ?_
  intro W base args ds gs before hval hW _ _ _ _ _ _
  exact contract H enc W base args ds gs before hval hW
set_option maxRecDepth 100000 in
set_option maxHeartbeats 20000000 in
theorem closed : joinedFacts Try.pinned.checked.prog 6 Try.f6 (OpenSpec.ofChange Rows.fnExactTraceProgramSpec).bare Rows.fnExactTraceProgramRow = true := by
  unfold joinedFacts
  simp only [Bool.and_eq_true]
  repeat' apply And.intro
  all_goals (as_aux_lemma => kernel_rfl)
theorem named : Try.pinned.checked.prog.funcNamed Rows.fnExactTraceProgramRow.func = some 6 := by kernel_rfl
theorem said : Rows.FnExactTraceProgramSaid :=
  OpenClaim.holds_of_cond 6 Try.f6 rfl rfl rfl rfl rfl rfl rfl ⟨rfl, rfl, rfl, rfl, rfl⟩ rfl rfl rfl rfl rfl named Try.func6 closed
    (of_decide_eq_true (by kernel_rfl)) (by unfold Func.isWrapper; first | (rw [if_pos (by decide +kernel)]; kernel_rfl) | (rw [if_neg (by decide +kernel)]; exact ⟨rfl, rfl⟩))
    (fun os started H enc _ F => by rw [OpenClaim.pre_eq_preRow]; exact lifted os started H enc F)
end Go.Proofs.Ytkaaiocbiknipaa.fnExactTraceProgram
