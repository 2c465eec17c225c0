/- Part 7: lemmas and contracts of the claim's functions. -/
import Derived.Test.YtkaaiocbiknipaaZC1
import Derived.Test.YtkaaiocbiknipaaZC2
import Derived.Test.YtkaaiocbiknipaaZC3
import Derived.Test.YtkaaiocbiknipaaZC4
import Derived.Test.YtkaaiocbiknipaaZC5
import Derived.Test.YtkaaiocbiknipaaZC6
import Derived.Deep.DeepCutAuto
namespace Go.Proofs.Ytkaaiocbiknipaa
open Go.RowKit Go.Sort
set_option maxRecDepth 100000 in
set_option maxHeartbeats 3200000 in
theorem l14Keeps_any {L : List Ins} {n lc : Nat} {LA : Option Addr} (g0 : Nat) (t : Tri) (A1 A2 A3 : Option Addr) (c1 c2 c3 : Nat) (kind arg : Int) (w : World) (hT : TriC w ⟨g0, 0, none⟩ t A1 c1 A2 c2 A3 c3) (hv : vmach t = true) (hp : vprog L = true) (hr : RL InsM 2 w LA n L) (hk : isP kind arg = true) :
    Calls Try.prog 149 #[.pointer (some ⟨g0, 0, none⟩), .slice LA n lc, .int .i64 kind, .int .i64 arg] w fun e w' => e = .returned (.bool (kpB L t kind arg)) ∧ Below w.heap.size w w' := by
  have ha : g0 < w.heap.size := World.block_lt_of_cell? w _ hT.1.1
  have HT := Lib.hid (fun W (hW : Below w.heap.size w W) => hT.below ha hW)
  have HV := Lib.hid hv
  have HK := Lib.hid hk
  have KR := Lib.hid (fun W (hW : Below w.heap.size w W) => l11Run_any (lc := lc) g0 t A1 A2 A3 c1 c2 c3 W (hT.below ha hW) hv hp (hr.below steady_InsM hW))
  unfold RunPS at KR
  by_cases hk2 : kind = 2
  · subst hk2
    obtain ⟨k1, k2, k3, e1, e2, f1, f2, l1, p0, p1⟩ := vmach_all hv
    obtain ⟨⟨b1, b2⟩, ⟨n1, n2⟩, yd1, yl1⟩ := vreg_iff.1 k1
    have KVA := (fun W (hW : Below w.heap.size w W) => l14Value_any ⟨g0, 0, none⟩ t.a.base A1 t.a.digits.length c1 t.a.digits W (hT.below ha hW).regs.1 b1 b2 yd1 (hT.below ha hW).regs.2.2.2.1 n2)
    by_cases h0 : valL t.a.base t.a.digits = 0
    · have HF := Lib.hid (kp_zero (L := L) (arg := arg) h0)
      rw [h0] at KVA
      have KVA := Lib.hid KVA
      clear hT hv hp hr hk k1 k2 k3 e1 e2 f1 f2 l1 p0 p1 yd1 KR h0 HT HV HK
      go_enter Try.func149, Try.ntmps149
      go_wp2_with fail
      refine (KVA.out _ (Kn.nil w).below).mono ?_; rintro e w1 ⟨rfl, q, rfl⟩
      have hK1 := (Kn.nil w).drewN q
      go_wp2_with fail
      go_ret
      exact ⟨ret_bool HF.out.symm, hK1.below⟩
    · have hn : ¬ ((2 : Int) = 2 ∧ valL t.a.base t.a.digits = 0) := fun h => h0 h.2
      have HN := Lib.hid hn
      clear hn
      have hn0 : (valL t.a.base t.a.digits == 0) = false := by simpa using h0
      have KVA := Lib.hid KVA
      clear hT hv hp hr hk k1 k2 k3 e1 e2 f1 f2 l1 p0 p1 yd1
      go_enter Try.func149, Try.ntmps149
      go_wp2_with fail
      refine (KVA.out _ (Kn.nil w).below).mono ?_; rintro e w1 ⟨rfl, q, rfl⟩
      have hK1 := (Kn.nil w).drewN q
      generalize w.drewN q = w1 at hK1 ⊢
      go_wp2_with fail
      clear hn0 h0
      refine (KR.out _ hK1.below).mono ?_; rintro e w5 ⟨g, s, b', b2, rfl, he, ⟨SA, sc, M1, j1, M2, j2, M3, j3, hKr⟩, hg⟩
      have hK5 := hK1.join hKr
      clear hKr
      obtain ⟨d1, d2, d3, -⟩ := hK5.cells
      rcases hc0 : (s.code == 0) with _ | _
      · have hcn : ¬ s.code = 0 := by simpa using hc0
        have HB := Lib.hid (kp_code (t := t) (L := L) (kind := 2) (arg := arg) (by have := HN.out; simpa using this) he hcn)
        clear he hg
        go_wp2_with fail
        go_ret
        exact ⟨ret_bool HB.out.symm, hK5.below⟩
      · have hcn : s.code = 0 := by simpa using hc0
        have HB := Lib.hid (kp_fine (t := t) (L := L) (kind := 2) (arg := arg) (by have := HN.out; simpa using this) he hcn)
        have hcs := he.cs
        unfold startR at hcs
        simp only [] at hcs
        have KAF := Lib.hid (l14After_any g0 g t s.m A1 A2 A3 M1 M2 M3 c1 c2 c3 j1 j2 j3 2 arg w5 (HT.out _ hK5.below) ⟨box7' hK5, Kn.riv (hK5.sel [3] 99 (by decide) (by decide)), Kn.riv (hK5.sel [2] 99 (by decide) (by decide)), Kn.riv (hK5.sel [1] 99 (by decide) (by decide))⟩ HV.out hg.m hcs HK.out (by have := HN.out; simpa using this))
        clear he hg hcs
        go_wp2_with fail
        refine KAF.out.mono ?_; rintro e w6 ⟨rfl, hw⟩
        have hK6 := hK5.keep hw
        rcases hq : kpAfter t s.m 2 arg with _ | _
        all_goals
          rw [hq] at HB
          go_wp2_with fail
          go_ret
          exact ⟨ret_bool HB.out.symm, hK6.below⟩
  · have hn : ¬ (kind = 2 ∧ valL t.a.base t.a.digits = 0) := fun h => hk2 h.1
    have HN := Lib.hid hn
    clear hn
    have hk3 : (kind == 2) = false := by simpa using hk2
    clear hT hv hp hr hk
    go_enter Try.func149, Try.ntmps149
    go_wp2_with fail
    have hK1 := Kn.nil w
    refine (KR.out _ hK1.below).mono ?_; rintro e w5 ⟨g, s, b', b2, rfl, he, ⟨SA, sc, M1, j1, M2, j2, M3, j3, hKr⟩, hg⟩
    have hK5 := hK1.join hKr
    clear hKr
    obtain ⟨d1, d2, d3, -⟩ := hK5.cells
    rcases hc0 : (s.code == 0) with _ | _
    · have hcn : ¬ s.code = 0 := by simpa using hc0
      have HB := Lib.hid (kp_code (kind := kind) (arg := arg) HN.out he hcn)
      clear he hg
      go_wp2_with fail
      go_ret
      exact ⟨ret_bool HB.out.symm, hK5.below⟩
    · have hcn : s.code = 0 := by simpa using hc0
      have HB := Lib.hid (kp_fine (kind := kind) (arg := arg) HN.out he hcn)
      have hcs := he.cs
      unfold startR at hcs
      simp only [] at hcs
      have KAF := Lib.hid (l14After_any g0 g t s.m A1 A2 A3 M1 M2 M3 c1 c2 c3 j1 j2 j3 kind arg w5 (HT.out _ hK5.below) ⟨box7' hK5, Kn.riv (hK5.sel [3] 99 (by decide) (by decide)), Kn.riv (hK5.sel [2] 99 (by decide) (by decide)), Kn.riv (hK5.sel [1] 99 (by decide) (by decide))⟩ HV.out hg.m hcs HK.out HN.out)
      clear he hg hcs
      go_wp2_with fail
      refine KAF.out.mono ?_; rintro e w6 ⟨rfl, hw⟩
      have hK6 := hK5.keep hw
      rcases hq : kpAfter t s.m kind arg with _ | _
      all_goals
        rw [hq] at HB
        go_wp2_with fail
        go_ret
        exact ⟨ret_bool HB.out.symm, hK6.below⟩
def kqC (L : List Ins) (t : Tri) (kind arg : Int) : Int := if (vmach t && vprog L) = false then 1 else if isP kind arg = false then 2 else 0
noncomputable def kqB (L : List Ins) (t : Tri) (kind arg : Int) : Bool := if kqC L t kind arg = 0 then kpB L t kind arg else false
def KQRet (L : List Ins) (t : Tri) (kind arg : Int) (w : World) (e : Ending) (w' : World) : Prop := e = .returned (.tuple #[.bool (kqB L t kind arg), .int .i64 (kqC L t kind arg)]) ∧ Below w.heap.size w w'
theorem kq_bad {L : List Ins} {t : Tri} {kind arg c : Int} (h : kqC L t kind arg = c) (hc : ¬ c = 0) : kqB L t kind arg = false ∧ kqC L t kind arg = c := by
  refine ⟨?_, h⟩; unfold kqB; rw [h, if_neg hc]
theorem kq_fine {L : List Ins} {t : Tri} {kind arg : Int} (h : kqC L t kind arg = 0) : kqB L t kind arg = kpB L t kind arg ∧ kqC L t kind arg = 0 := by
  refine ⟨?_, h⟩; unfold kqB; rw [h, if_pos rfl]
set_option maxRecDepth 100000 in
set_option maxHeartbeats 3200000 in
theorem KeepsPromise_any {L : List Ins} {n lc : Nat} {LA : Option Addr} (t : Tri) (A1 A2 A3 : Option Addr) (c1 c2 c3 : Nat) (kind arg : Int) (w : World) (r1 : RI w A1 t.a.digits.length t.a.digits) (r2 : RI w A2 t.b.digits.length t.b.digits) (r3 : RI w A3 t.s.digits.length t.s.digits) (hs : SmallTri t) (hr : RL InsM 2 w LA n L) (hn : n ≤ 9223372036854775807) :
    Calls Try.prog 66 #[.agg #[.int .i64 t.a.base, .slice A1 t.a.digits.length c1, .int .i64 t.b.base, .slice A2 t.b.digits.length c2, .int .i64 t.s.base, .slice A3 t.s.digits.length c3, .int .i64 t.carry], .slice LA n lc, .int .i64 kind, .int .i64 arg] w (KQRet L t kind arg w) := by
  have hTC : ∀ W, Kn w [.blk w.heap.size [.int .i64 t.a.base, .slice A1 t.a.digits.length c1, .int .i64 t.b.base, .slice A2 t.b.digits.length c2, .int .i64 t.s.base, .slice A3 t.s.digits.length c3, .int .i64 t.carry] 65] W → TriC W ⟨w.heap.size, 0, none⟩ t A1 c1 A2 c2 A3 c3 := fun W h => ⟨⟨h.blkAt.1 0, h.blkAt.1 1, h.blkAt.1 2, h.blkAt.1 3, h.blkAt.1 4, h.blkAt.1 5, h.blkAt.1 6⟩, r1.below h.below, r2.below h.below, r3.below h.below⟩
  have KV := (fun W (hW : Kn w [.blk w.heap.size [.int .i64 t.a.base, .slice A1 t.a.digits.length c1, .int .i64 t.b.base, .slice A2 t.b.digits.length c2, .int .i64 t.s.base, .slice A3 t.s.digits.length c3, .int .i64 t.carry] 65] W) => ValidMachine_any t A1 A2 A3 c1 c2 c3 W (r1.below hW.below) (r2.below hW.below) (r3.below hW.below) hs)
  have KP := (fun W (hW : Kn w [.blk w.heap.size [.int .i64 t.a.base, .slice A1 t.a.digits.length c1, .int .i64 t.b.base, .slice A2 t.b.digits.length c2, .int .i64 t.s.base, .slice A3 t.s.digits.length c3, .int .i64 t.carry] 65] W) => ValidProgram_any LA n lc L W (hr.below steady_InsM hW.below) hn)
  have KI := Lib.hid (fun W => isPromise_any kind arg W)
  unfold KQRet
  rcases hv : vmach t with _ | _
  · rw [hv] at KV
    have HB := Lib.hid (kq_bad (kind := kind) (arg := arg) (show kqC L t kind arg = 1 by unfold kqC; rw [hv]; rfl) (by decide))
    have KV := Lib.hid KV
    clear hv KP r1 r2 r3 hr hs hTC
    go_enter Try.func66, Try.ntmps66
    go_wp2_with fail
    refine Calls.kn ((Kn.nil w).al [.int .i64 t.a.base, .slice A1 t.a.digits.length c1, .int .i64 t.b.base, .slice A2 t.b.digits.length c2, .int .i64 t.s.base, .slice A3 t.s.digits.length c3, .int .i64 t.carry] 65) ?_; intro w1 hK0
    (refine (KV.out _ hK0).mono ?_; rintro e w2 ⟨rfl, hw⟩; have hK1 := hK0.keep hw; clear hw)
    go_wp2_with fail
    go_ret2
    rw [HB.out.1, HB.out.2]
    exact ⟨rfl, hK1.below⟩
  rcases hp : vprog L with _ | _
  · rw [hv] at KV
    rw [hp] at KP
    have HB := Lib.hid (kq_bad (kind := kind) (arg := arg) (show kqC L t kind arg = 1 by unfold kqC; rw [hv, hp]; rfl) (by decide))
    have KV := Lib.hid KV
    have KP := Lib.hid KP
    clear hv hp r1 r2 r3 hr hs hTC
    go_enter Try.func66, Try.ntmps66
    go_wp2_with fail
    refine Calls.kn ((Kn.nil w).al [.int .i64 t.a.base, .slice A1 t.a.digits.length c1, .int .i64 t.b.base, .slice A2 t.b.digits.length c2, .int .i64 t.s.base, .slice A3 t.s.digits.length c3, .int .i64 t.carry] 65) ?_; intro w1 hK0
    (refine (KV.out _ hK0).mono ?_; rintro e w2 ⟨rfl, hw⟩; have hK1 := hK0.keep hw; clear hw)
    go_wp2_with fail
    (refine (KP.out _ hK1).mono ?_; rintro e w3 ⟨rfl, hw⟩; have hK2 := hK1.keep hw; clear hw)
    go_wp2_with fail
    go_ret2
    rw [HB.out.1, HB.out.2]
    exact ⟨rfl, hK2.below⟩
  rw [hv] at KV
  rw [hp] at KP
  rcases hk : isP kind arg with _ | _
  · have HB := Lib.hid (kq_bad (show kqC L t kind arg = 2 by unfold kqC; rw [hv, hp, hk]; rfl) (by decide))
    have KI := KI.out
    rw [hk] at KI
    have KI := Lib.hid KI
    have KV := Lib.hid KV
    have KP := Lib.hid KP
    clear hv hp hk r1 r2 r3 hr hs hTC
    go_enter Try.func66, Try.ntmps66
    go_wp2_with fail
    refine Calls.kn ((Kn.nil w).al [.int .i64 t.a.base, .slice A1 t.a.digits.length c1, .int .i64 t.b.base, .slice A2 t.b.digits.length c2, .int .i64 t.s.base, .slice A3 t.s.digits.length c3, .int .i64 t.carry] 65) ?_; intro w1 hK0
    (refine (KV.out _ hK0).mono ?_; rintro e w2 ⟨rfl, hw⟩; have hK1 := hK0.keep hw; clear hw)
    go_wp2_with fail
    (refine (KP.out _ hK1).mono ?_; rintro e w3 ⟨rfl, hw⟩; have hK2 := hK1.keep hw; clear hw)
    go_wp2_with fail
    refine (KI.out _).mono ?_; rintro e w4 ⟨rfl, rfl⟩
    go_wp2_with fail
    go_ret2
    rw [HB.out.1, HB.out.2]
    exact ⟨rfl, hK2.below⟩
  · have HB := Lib.hid (kq_fine (show kqC L t kind arg = 0 by unfold kqC; rw [hv, hp, hk]; rfl))
    have KI := KI.out
    rw [hk] at KI
    have KI := Lib.hid KI
    have KK := Lib.hid (fun W (hW : Kn w [.blk w.heap.size [.int .i64 t.a.base, .slice A1 t.a.digits.length c1, .int .i64 t.b.base, .slice A2 t.b.digits.length c2, .int .i64 t.s.base, .slice A3 t.s.digits.length c3, .int .i64 t.carry] 65] W) => keeps_any (lc := lc) t A1 A2 A3 c1 c2 c3 kind arg W (r1.below hW.below) (r2.below hW.below) (r3.below hW.below) hv hp (hr.below steady_InsM hW.below) hk)
    have KV := Lib.hid KV
    have KP := Lib.hid KP
    clear hv hp hk r1 r2 r3 hr hs hTC
    go_enter Try.func66, Try.ntmps66
    go_wp2_with fail
    refine Calls.kn ((Kn.nil w).al [.int .i64 t.a.base, .slice A1 t.a.digits.length c1, .int .i64 t.b.base, .slice A2 t.b.digits.length c2, .int .i64 t.s.base, .slice A3 t.s.digits.length c3, .int .i64 t.carry] 65) ?_; intro w1 hK0
    (refine (KV.out _ hK0).mono ?_; rintro e w2 ⟨rfl, hw⟩; have hK1 := hK0.keep hw; clear hw)
    obtain ⟨a1, a2, a3, -⟩ := hK1.cells
    go_wp2_with fail
    (refine (KP.out _ hK1).mono ?_; rintro e w3 ⟨rfl, hw⟩; have hK2 := hK1.keep hw; clear hw)
    clear a1 a2 a3
    obtain ⟨a1, a2, a3, -⟩ := hK2.cells
    go_wp2_with fail
    refine (KI.out _).mono ?_; rintro e w4 ⟨rfl, rfl⟩
    go_wp2_with fail
    refine (KK.out _ hK2).mono ?_; rintro e w5 ⟨rfl, hw⟩
    have hK3 := hK2.keep hw
    go_wp2_with fail
    go_ret2
    rw [HB.out.1, HB.out.2]
    exact ⟨rfl, hK3.below⟩
set_option maxRecDepth 100000 in
set_option maxHeartbeats 3200000 in
theorem specKeepsPromise_any {L : List Ins} {n lc : Nat} {LA : Option Addr} (t : Tri) (A1 A2 A3 : Option Addr) (c1 c2 c3 : Nat) (kind arg : Int) (w : World) (r1 : RI w A1 t.a.digits.length t.a.digits) (r2 : RI w A2 t.b.digits.length t.b.digits) (r3 : RI w A3 t.s.digits.length t.s.digits) (hs : SmallTri t) (hr : RL InsM 2 w LA n L) (hn : n ≤ 9223372036854775807) :
    Calls Try.prog 65 #[.agg #[.int .i64 t.a.base, .slice A1 t.a.digits.length c1, .int .i64 t.b.base, .slice A2 t.b.digits.length c2, .int .i64 t.s.base, .slice A3 t.s.digits.length c3, .int .i64 t.carry], .slice LA n lc, .int .i64 kind, .int .i64 arg] w (KQRet L t kind arg w) := by
  have hTC : ∀ W, Kn w [.blk w.heap.size [.int .i64 t.a.base, .slice A1 t.a.digits.length c1, .int .i64 t.b.base, .slice A2 t.b.digits.length c2, .int .i64 t.s.base, .slice A3 t.s.digits.length c3, .int .i64 t.carry] 65] W → TriC W ⟨w.heap.size, 0, none⟩ t A1 c1 A2 c2 A3 c3 := fun W h => ⟨⟨h.blkAt.1 0, h.blkAt.1 1, h.blkAt.1 2, h.blkAt.1 3, h.blkAt.1 4, h.blkAt.1 5, h.blkAt.1 6⟩, r1.below h.below, r2.below h.below, r3.below h.below⟩
  have KV := (fun W (hW : Kn w [.blk w.heap.size [.int .i64 t.a.base, .slice A1 t.a.digits.length c1, .int .i64 t.b.base, .slice A2 t.b.digits.length c2, .int .i64 t.s.base, .slice A3 t.s.digits.length c3, .int .i64 t.carry] 65] W) => l10Ok_any ⟨w.heap.size, 0, none⟩ t W (hTC W hW).tri hs)
  have KP := (fun W (hW : Kn w [.blk w.heap.size [.int .i64 t.a.base, .slice A1 t.a.digits.length c1, .int .i64 t.b.base, .slice A2 t.b.digits.length c2, .int .i64 t.s.base, .slice A3 t.s.digits.length c3, .int .i64 t.carry] 65] W) => l11Ok_any LA n lc L W (hr.below steady_InsM hW.below) hn)
  have KI := Lib.hid (fun W => l14Arg_any kind arg W)
  unfold KQRet
  rcases hv : vmach t with _ | _
  · rw [hv] at KV
    have HB := Lib.hid (kq_bad (kind := kind) (arg := arg) (show kqC L t kind arg = 1 by unfold kqC; rw [hv]; rfl) (by decide))
    have KV := Lib.hid KV
    clear hv KP r1 r2 r3 hr hs hTC
    go_enter Try.func65, Try.ntmps65
    go_wp2_with fail
    refine Calls.kn ((Kn.nil w).al [.int .i64 t.a.base, .slice A1 t.a.digits.length c1, .int .i64 t.b.base, .slice A2 t.b.digits.length c2, .int .i64 t.s.base, .slice A3 t.s.digits.length c3, .int .i64 t.carry] 65) ?_; intro w1 hK0
    (refine (KV.out _ hK0).mono ?_; rintro e w2 ⟨rfl, q, rfl⟩; have hK1 := hK0.drewN q; generalize w1.drewN q = w2 at hK1 ⊢)
    go_wp2_with fail
    go_ret2
    rw [HB.out.1, HB.out.2]
    exact ⟨rfl, hK1.below⟩
  rcases hp : vprog L with _ | _
  · rw [hv] at KV
    rw [hp] at KP
    have HB := Lib.hid (kq_bad (kind := kind) (arg := arg) (show kqC L t kind arg = 1 by unfold kqC; rw [hv, hp]; rfl) (by decide))
    have KV := Lib.hid KV
    have KP := Lib.hid KP
    clear hv hp r1 r2 r3 hr hs hTC
    go_enter Try.func65, Try.ntmps65
    go_wp2_with fail
    refine Calls.kn ((Kn.nil w).al [.int .i64 t.a.base, .slice A1 t.a.digits.length c1, .int .i64 t.b.base, .slice A2 t.b.digits.length c2, .int .i64 t.s.base, .slice A3 t.s.digits.length c3, .int .i64 t.carry] 65) ?_; intro w1 hK0
    (refine (KV.out _ hK0).mono ?_; rintro e w2 ⟨rfl, q, rfl⟩; have hK1 := hK0.drewN q; generalize w1.drewN q = w2 at hK1 ⊢)
    go_wp2_with fail
    (refine (KP.out _ hK1).mono ?_; rintro e w3 ⟨rfl, q, rfl⟩; have hK2 := hK1.drewN q; generalize w2.drewN q = w3 at hK2 ⊢)
    go_wp2_with fail
    go_ret2
    rw [HB.out.1, HB.out.2]
    exact ⟨rfl, hK2.below⟩
  rw [hv] at KV
  rw [hp] at KP
  rcases hk : isP kind arg with _ | _
  · have HB := Lib.hid (kq_bad (show kqC L t kind arg = 2 by unfold kqC; rw [hv, hp, hk]; rfl) (by decide))
    have KI := KI.out
    rw [hk] at KI
    have KI := Lib.hid KI
    have KV := Lib.hid KV
    have KP := Lib.hid KP
    clear hv hp hk r1 r2 r3 hr hs hTC
    go_enter Try.func65, Try.ntmps65
    go_wp2_with fail
    refine Calls.kn ((Kn.nil w).al [.int .i64 t.a.base, .slice A1 t.a.digits.length c1, .int .i64 t.b.base, .slice A2 t.b.digits.length c2, .int .i64 t.s.base, .slice A3 t.s.digits.length c3, .int .i64 t.carry] 65) ?_; intro w1 hK0
    (refine (KV.out _ hK0).mono ?_; rintro e w2 ⟨rfl, q, rfl⟩; have hK1 := hK0.drewN q; generalize w1.drewN q = w2 at hK1 ⊢)
    go_wp2_with fail
    (refine (KP.out _ hK1).mono ?_; rintro e w3 ⟨rfl, q, rfl⟩; have hK2 := hK1.drewN q; generalize w2.drewN q = w3 at hK2 ⊢)
    go_wp2_with fail
    refine (KI.out _).mono ?_; rintro e w4 ⟨rfl, rfl⟩
    go_wp2_with fail
    go_ret2
    rw [HB.out.1, HB.out.2]
    exact ⟨rfl, hK2.below⟩
  · have HB := Lib.hid (kq_fine (show kqC L t kind arg = 0 by unfold kqC; rw [hv, hp, hk]; rfl))
    have KI := KI.out
    rw [hk] at KI
    have KI := Lib.hid KI
    have KK := Lib.hid (fun W (hW : Kn w [.blk w.heap.size [.int .i64 t.a.base, .slice A1 t.a.digits.length c1, .int .i64 t.b.base, .slice A2 t.b.digits.length c2, .int .i64 t.s.base, .slice A3 t.s.digits.length c3, .int .i64 t.carry] 65] W) => l14Keeps_any (lc := lc) w.heap.size t A1 A2 A3 c1 c2 c3 kind arg W (hTC W hW) hv hp (hr.below steady_InsM hW.below) hk)
    have KV := Lib.hid KV
    have KP := Lib.hid KP
    clear hv hp hk r1 r2 r3 hr hs hTC
    go_enter Try.func65, Try.ntmps65
    go_wp2_with fail
    refine Calls.kn ((Kn.nil w).al [.int .i64 t.a.base, .slice A1 t.a.digits.length c1, .int .i64 t.b.base, .slice A2 t.b.digits.length c2, .int .i64 t.s.base, .slice A3 t.s.digits.length c3, .int .i64 t.carry] 65) ?_; intro w1 hK0
    (refine (KV.out _ hK0).mono ?_; rintro e w2 ⟨rfl, q, rfl⟩; have hK1 := hK0.drewN q; generalize w1.drewN q = w2 at hK1 ⊢)
    obtain ⟨a1, a2, a3, -⟩ := hK1.cells
    go_wp2_with fail
    (refine (KP.out _ hK1).mono ?_; rintro e w3 ⟨rfl, q, rfl⟩; have hK2 := hK1.drewN q; generalize w2.drewN q = w3 at hK2 ⊢)
    clear a1 a2 a3
    obtain ⟨a1, a2, a3, -⟩ := hK2.cells
    go_wp2_with fail
    refine (KI.out _).mono ?_; rintro e w4 ⟨rfl, rfl⟩
    go_wp2_with fail
    refine (KK.out _ hK2).mono ?_; rintro e w5 ⟨rfl, hw⟩
    have hK3 := hK2.keep hw
    go_wp2_with fail
    go_ret2
    rw [HB.out.1, HB.out.2]
    exact ⟨rfl, hK3.below⟩
end Go.Proofs.Ytkaaiocbiknipaa

namespace Go.Proofs.Ytkaaiocbiknipaa
open Go.RowKit Go.Sort
/-- the code of widths, a program and a promise -/
def pC (b z1 z2 z3 : Int) (L : List Ins) (kind arg : Int) : Int := if vprog L = false then 1 else if isP kind arg = false then 2 else inC b z1 z2 z3
theorem inC_cases (b z1 z2 z3 : Int) : inC b z1 z2 z3 ≠ 0 ∨ (inC b z1 z2 z3 = 0 ∧ ∃ n1 n2 n3 : Nat, z1 = n1 ∧ z2 = n2 ∧ z3 = n3 ∧ NmB b n1 n2 n3 ∧ ¬ 256 < pw b n1 * pw b n2) := by
  by_cases h : inC b z1 z2 z3 = 0
  · refine .inr ⟨h, ?_⟩
    rcases hn : nmOk b z1 z2 z3 with _ | _
    · rw [inC_no hn] at h; cases h
    · obtain ⟨n1, n2, n3, rfl, rfl, rfl, hB⟩ := nmOk_true hn
      exact ⟨n1, n2, n3, rfl, rfl, rfl, hB, fun hc => by rw [inC_full hn hc] at h; cases h⟩
  · exact .inl h
theorem promiseInputs_bad {L : List Ins} {n lc : Nat} {LA : Option Addr} (b z1 z2 z3 kind arg : Int) (w : World) (hr : RL InsM 2 w LA n L) (hn : n ≤ 9223372036854775807) (h : pC b z1 z2 z3 L kind arg ≠ 0) :
    Calls Try.prog 154 #[.int .i64 b, .int .i64 z1, .int .i64 z2, .int .i64 z3, .slice LA n lc, .int .i64 kind, .int .i64 arg] w fun e w' => e = .returned (.tuple #[.agg #[.int .i64 0, .slice none 0 0, .int .i64 0, .slice none 0 0, .int .i64 0, .slice none 0 0, .int .i64 0, .int .i64 0], .int .i64 (pC b z1 z2 z3 L kind arg)]) ∧ Below w.heap.size w w' := by
  have KP := (fun W (hW : Below w.heap.size w W) => ValidProgram_any LA n lc L W (hr.below steady_InsM hW) hn)
  have KI := (fun W => isPromise_any kind arg W)
  rcases hp : vprog L with _ | _
  · have HC := Lib.hid (show pC b z1 z2 z3 L kind arg = 1 by unfold pC; rw [if_pos hp])
    rw [hp] at KP
    have KP := Lib.hid KP
    rw [HC.out]
    clear h hp hr hn KI
    go_enter Try.func154, Try.ntmps154
    go_wp2_with fail
    refine Calls.kn ((Kn.nil w).al [.int .i64 0, .slice none 0 0, .int .i64 0, .slice none 0 0, .int .i64 0, .slice none 0 0, .int .i64 0, .int .i64 0] 175) ?_; intro w1 hK1
    refine (KP.out _ hK1.below).mono ?_; rintro e w2 ⟨rfl, hw⟩
    have hK2 := hK1.keep hw
    obtain ⟨a1, a2, a3, -⟩ := hK2.cells
    go_wp2_with fail
    refine bodyPost.kn ((((((((hK2.st 0 (.int .i64 0)).st 1 (.slice none 0 0)).st 2 (.int .i64 0)).st 3 (.slice none 0 0)).st 4 (.int .i64 0)).st 5 (.slice none 0 0)).st 6 (.int .i64 0)).st 7 (.int .i64 0)) ?_; intro w6 hK6
    clear a1 a2 a3
    obtain ⟨a1, a2, a3, -⟩ := hK6.cells
    exact bodyPost_ret (v := .tuple #[.agg #[.int .i64 0, .slice none 0 0, .int .i64 0, .slice none 0 0, .int .i64 0, .slice none 0 0, .int .i64 0, .int .i64 0], .int .i64 1]) (by simp [results, Try.results154, go_sem, a1]) rfl ⟨rfl, hK6.below⟩
  rcases hk : isP kind arg with _ | _
  · have HC := Lib.hid (show pC b z1 z2 z3 L kind arg = 2 by unfold pC; rw [if_neg (by rw [hp]; decide), if_pos hk])
    rw [hp] at KP
    rw [hk] at KI
    have KP := Lib.hid KP
    have KI := Lib.hid KI
    rw [HC.out]
    clear h hp hr hn hk
    go_enter Try.func154, Try.ntmps154
    go_wp2_with fail
    refine Calls.kn ((Kn.nil w).al [.int .i64 0, .slice none 0 0, .int .i64 0, .slice none 0 0, .int .i64 0, .slice none 0 0, .int .i64 0, .int .i64 0] 175) ?_; intro w1 hK1
    refine (KP.out _ hK1.below).mono ?_; rintro e w2 ⟨rfl, hw⟩
    have hK2 := hK1.keep hw
    obtain ⟨a1, a2, a3, -⟩ := hK2.cells
    go_wp2_with (go_at_call 150; refine (KI.out _).mono ?_; rintro e w4 ⟨rfl, rfl⟩)
    refine bodyPost.kn ((((((((hK2.st 0 (.int .i64 0)).st 1 (.slice none 0 0)).st 2 (.int .i64 0)).st 3 (.slice none 0 0)).st 4 (.int .i64 0)).st 5 (.slice none 0 0)).st 6 (.int .i64 0)).st 7 (.int .i64 0)) ?_; intro w6 hK6
    clear a1 a2 a3
    obtain ⟨a1, a2, a3, -⟩ := hK6.cells
    exact bodyPost_ret (v := .tuple #[.agg #[.int .i64 0, .slice none 0 0, .int .i64 0, .slice none 0 0, .int .i64 0, .slice none 0 0, .int .i64 0, .int .i64 0], .int .i64 2]) (by simp [results, Try.results154, go_sem, a1]) rfl ⟨rfl, hK6.below⟩
  · have HC := Lib.hid (show pC b z1 z2 z3 L kind arg = inC b z1 z2 z3 by unfold pC; rw [if_neg (by rw [hp]; decide), if_neg (by rw [hk]; decide)])
    rw [HC.out] at h
    have KB := Lib.hid (fun W => inputsOf_bad b z1 z2 z3 W h)
    rw [hp] at KP
    rw [hk] at KI
    rw [HC.out]
    obtain ⟨c, hc⟩ : ∃ c, inC b z1 z2 z3 = c := ⟨_, rfl⟩
    have KB := KB.out
    rw [hc] at KB
    rw [hc]
    have KB := Lib.hid KB
    have KP := Lib.hid KP
    have KI := Lib.hid KI
    clear h hp hr hn hk hc
    go_enter Try.func154, Try.ntmps154
    go_wp2_with fail
    refine Calls.kn ((Kn.nil w).al [.int .i64 0, .slice none 0 0, .int .i64 0, .slice none 0 0, .int .i64 0, .slice none 0 0, .int .i64 0, .int .i64 0] 175) ?_; intro w1 hK1
    refine (KP.out _ hK1.below).mono ?_; rintro e w2 ⟨rfl, hw⟩
    have hK2 := hK1.keep hw
    go_wp2_with (first | (go_at_call 150; refine (KI.out _).mono ?_; rintro e w4 ⟨rfl, rfl⟩) | (go_at_call 160; refine (KB.out _).mono ?_; rintro e w4 ⟨rfl, hw4⟩; have hK4 := hK2.keep hw4; obtain ⟨a1, a2, a3, -⟩ := hK4.cells))
    refine bodyPost.kn ((((((((hK4.st 0 (.int .i64 0)).st 1 (.slice none 0 0)).st 2 (.int .i64 0)).st 3 (.slice none 0 0)).st 4 (.int .i64 0)).st 5 (.slice none 0 0)).st 6 (.int .i64 0)).st 7 (.int .i64 0)) ?_; intro w6 hK6
    clear a1 a2 a3
    obtain ⟨a1, a2, a3, -⟩ := hK6.cells
    exact bodyPost_ret (v := .tuple #[.agg #[.int .i64 0, .slice none 0 0, .int .i64 0, .slice none 0 0, .int .i64 0, .slice none 0 0, .int .i64 0, .int .i64 0], .int .i64 c]) (by simp [results, Try.results154, go_sem, a1]) rfl ⟨rfl, hK6.below⟩
theorem promiseInputs_fine {L : List Ins} {n lc : Nat} {LA : Option Addr} {b : Int} {n1 n2 n3 : Nat} (kind arg : Int) (w : World) (hr : RL InsM 2 w LA n L) (hn : n ≤ 9223372036854775807) (hp : vprog L = true) (hk : isP kind arg = true) (hB : NmB b n1 n2 n3) (hbig : ¬ 256 < pw b n1 * pw b n2) :
    Calls Try.prog 154 #[.int .i64 b, .int .i64 n1, .int .i64 n2, .int .i64 n3, .slice LA n lc, .int .i64 kind, .int .i64 arg] w fun e w' => ∃ E1 g1 E2 g2 E3 g3, e = .returned (.tuple #[.agg #[.int .i64 b, .slice E1 (digD b n1 0).length g1, .int .i64 b, .slice E2 (digD b n2 0).length g2, .int .i64 b, .slice E3 (digD b n3 0).length g3, .int .i64 0, .int .i64 (pw b n1 * pw b n2)], .int .i64 0]) ∧ Kn w [rowI E3 g3 (digD b n3 0), rowI E2 g2 (digD b n2 0), rowI E1 g1 (digD b n1 0)] w' := by
  have KP := (fun W (hW : Below w.heap.size w W) => ValidProgram_any LA n lc L W (hr.below steady_InsM hW) hn)
  have KI := (fun W => isPromise_any kind arg W)
  have KF := (fun W => inputsOf_fine W hB hbig)
  obtain ⟨x1, hx1⟩ : ∃ x, digD b n1 0 = x := ⟨_, rfl⟩
  obtain ⟨x2, hx2⟩ : ∃ x, digD b n2 0 = x := ⟨_, rfl⟩
  obtain ⟨x3, hx3⟩ : ∃ x, digD b n3 0 = x := ⟨_, rfl⟩
  obtain ⟨PP, hPP⟩ : ∃ x, pw b n1 * pw b n2 = x := ⟨_, rfl⟩
  rw [hx1, hx2, hx3, hPP] at KF
  rw [hx1, hx2, hx3, hPP]
  rw [hp] at KP
  rw [hk] at KI
  have KF := Lib.hid KF
  have KP := Lib.hid KP
  have KI := Lib.hid KI
  clear hp hr hn hk hbig hB hx1 hx2 hx3 hPP
  go_enter Try.func154, Try.ntmps154
  go_wp2_with fail
  refine Calls.kn ((Kn.nil w).al [.int .i64 0, .slice none 0 0, .int .i64 0, .slice none 0 0, .int .i64 0, .slice none 0 0, .int .i64 0, .int .i64 0] 175) ?_; intro w1 hK1
  refine (KP.out _ hK1.below).mono ?_; rintro e w2 ⟨rfl, hw⟩
  have hK2 := hK1.keep hw
  go_wp2_with (first | (go_at_call 150; refine (KI.out _).mono ?_; rintro e w4 ⟨rfl, rfl⟩) | (go_at_call 160; refine (KF.out _).mono ?_; rintro e w4 ⟨E1, g1, E2, g2, E3, g3, rfl, hKn⟩; have hK4 := hK2.join hKn; obtain ⟨a1, a2, a3, -⟩ := hK4.cells))
  refine bodyPost.kn (((((((((hK4.front 3 rfl).st 0 (.int .i64 b)).st 1 (.slice E1 x1.length g1)).st 2 (.int .i64 b)).st 3 (.slice E2 x2.length g2)).st 4 (.int .i64 b)).st 5 (.slice E3 x3.length g3)).st 6 (.int .i64 0)).st 7 (.int .i64 PP)) ?_; intro w7 hK7
  clear a1 a2 a3
  obtain ⟨a1, a2, a3, -⟩ := hK7.cells
  exact bodyPost_ret (v := .tuple #[.agg #[.int .i64 b, .slice E1 x1.length g1, .int .i64 b, .slice E2 x2.length g2, .int .i64 b, .slice E3 x3.length g3, .int .i64 0, .int .i64 PP], .int .i64 0]) (by simp [results, Try.results154, go_sem, a1]) rfl ⟨E1, g1, E2, g2, E3, g3, rfl, hK7.sel [1, 2, 3] 99 (by decide) (by decide)⟩
theorem l14Code_any {L : List Ins} {n lc : Nat} {LA : Option Addr} (b z1 z2 z3 kind arg : Int) (w : World) (hr : RL InsM 2 w LA n L) (hn : n ≤ 9223372036854775807) :
    Calls Try.prog 152 #[.int .i64 b, .int .i64 z1, .int .i64 z2, .int .i64 z3, .slice LA n lc, .int .i64 kind, .int .i64 arg] w fun e w' => e = .returned (.int .i64 (pC b z1 z2 z3 L kind arg)) ∧ Below w.heap.size w w' := by
  have KP := (fun W (hW : Below w.heap.size w W) => l11Ok_any LA n lc L W (hr.below steady_InsM hW) hn)
  have KI := (fun W => l14Arg_any kind arg W)
  have KS := (fun W => l14Size_any b z1 z2 z3 W)
  obtain ⟨c, hc⟩ : ∃ c, inC b z1 z2 z3 = c := ⟨_, rfl⟩
  rw [hc] at KS
  have KS := Lib.hid KS
  rcases hp : vprog L with _ | _
  · have HC := Lib.hid (show pC b z1 z2 z3 L kind arg = 1 by unfold pC; rw [if_pos hp])
    rw [hp] at KP
    have KP := Lib.hid KP
    rw [HC.out]
    clear hp hr hn hc
    go_enter Try.func152, Try.ntmps152
    go_wp2_with fail
    refine (KP.out _ (Kn.nil w).below).mono ?_; rintro e w2 ⟨rfl, q, rfl⟩
    go_wp2_with fail
    go_ret
    exact ⟨rfl, ((Kn.nil w).drewN q).below⟩
  rw [hp] at KP
  have KP := Lib.hid KP
  rcases hn2 : nmOk b z1 z2 z3 with _ | _
  · have hcc := inC_no hn2
    have KN := Lib.hid (fun W => specNewMachine_no b z1 z2 z3 W hn2)
    have HC := Lib.hid (show pC b z1 z2 z3 L kind arg = 2 by unfold pC; rw [if_neg (by rw [hp]; decide), hcc]; split <;> rfl)
    rw [HC.out]
    clear hp hr hn hc hcc hn2
    go_enter Try.func152, Try.ntmps152
    go_wp2_with fail
    refine (KP.out _ (Kn.nil w).below).mono ?_; rintro e w2 ⟨rfl, q, rfl⟩
    have hK2 := (Kn.nil w).drewN q
    generalize w.drewN q = w2 at hK2 ⊢
    go_wp2_with fail
    (with_reducible refine (KN.out _).mono ?_); rintro e w3 ⟨rfl, hw⟩
    have hK3 := hK2.keep hw
    go_wp2_with fail
    go_ret
    exact ⟨rfl, (hK3.al_ _).below⟩
  obtain ⟨n1, n2, n3, rfl, rfl, rfl, hB⟩ := nmOk_true hn2
  have KN := Lib.hid (fun W => specNewMachine_yes W hB)
  rcases hk : isP kind arg with _ | _
  · have HC := Lib.hid (show pC b n1 n2 n3 L kind arg = 2 by unfold pC; rw [if_neg (by rw [hp]; decide), if_pos hk])
    rw [hk] at KI
    have KI := Lib.hid KI
    rw [HC.out]
    clear hp hr hn hc hn2 hk hB
    go_enter Try.func152, Try.ntmps152
    go_wp2_with fail
    refine (KP.out _ (Kn.nil w).below).mono ?_; rintro e w2 ⟨rfl, q, rfl⟩
    have hK2 := (Kn.nil w).drewN q
    generalize w.drewN q = w2 at hK2 ⊢
    go_wp2_with fail
    (with_reducible refine (KN.out _).mono ?_); rintro e w3 ⟨E1, g1, E2, g2, E3, g3, rfl, hKn⟩
    have hK3 := hK2.keep hKn.below
    go_wp2_with (go_at_call 148; refine (KI.out _).mono ?_; rintro e w4 ⟨rfl, rfl⟩)
    go_ret
    exact ⟨rfl, (hK3.al_ _).below⟩
  · have HC := Lib.hid (show pC b n1 n2 n3 L kind arg = c by unfold pC; rw [if_neg (by rw [hp]; decide), if_neg (by rw [hk]; decide), hc])
    rw [hk] at KI
    have KI := Lib.hid KI
    rw [HC.out]
    clear hp hr hn hc hn2 hk hB
    go_enter Try.func152, Try.ntmps152
    go_wp2_with fail
    refine (KP.out _ (Kn.nil w).below).mono ?_; rintro e w2 ⟨rfl, q, rfl⟩
    have hK2 := (Kn.nil w).drewN q
    generalize w.drewN q = w2 at hK2 ⊢
    go_wp2_with fail
    (with_reducible refine (KN.out _).mono ?_); rintro e w3 ⟨E1, g1, E2, g2, E3, g3, rfl, hKn⟩
    have hK3 := hK2.keep hKn.below
    go_wp2_with (first | (go_at_call 148; refine (KI.out _).mono ?_; rintro e w4 ⟨rfl, rfl⟩))
    refine Calls.kn (hK3.al_ _) ?_; intro w5 hK5
    refine (KS.out _).mono ?_; rintro e w6 ⟨rfl, hw⟩
    have hK6 := hK5.keep hw
    go_wp2_with fail
    go_ret
    exact ⟨rfl, hK6.below⟩
end Go.Proofs.Ytkaaiocbiknipaa

namespace Go.Proofs.Ytkaaiocbiknipaa
open Go.RowKit Go.Sort
/-- the numbers below n with p -/
def failsL (p : Nat → Bool) : Nat → List Int
  | 0 => []
  | k + 1 => if p k = true then failsL p k ++ [(k : Int)] else failsL p k
theorem failsL_len (p : Nat → Bool) (n : Nat) : (failsL p n).length ≤ n := by
  induction n with
  | zero => simp [failsL]
  | succ k ih =>
    unfold failsL
    split
    · rw [List.length_append]; simp; omega
    · omega
theorem failsL_succ (p : Nat → Bool) (k : Nat) : failsL p (k + 1) = if p k = true then failsL p k ++ [(k : Int)] else failsL p k := rfl
theorem failsL_pre (p : Nat → Bool) (k d : Nat) : ∃ ys, failsL p (k + d) = failsL p k ++ ys := by
  induction d with
  | zero => exact ⟨[], by simp⟩
  | succ d ih =>
    obtain ⟨ys, h⟩ := ih
    rw [show k + (d + 1) = (k + d) + 1 by omega, failsL_succ]
    split
    · exact ⟨ys ++ [((k + d : Nat) : Int)], by rw [h, List.append_assoc]⟩
    · exact ⟨ys, h⟩
theorem failsL_take {p : Nat → Bool} {k n m : Nat} (hk : k ≤ n) (hl : (failsL p k).length ≤ m) (h : k = n ∨ (failsL p k).length = m) : (failsL p n).take m = failsL p k := by
  rcases h with rfl | h
  · exact List.take_of_length_le hl
  · obtain ⟨ys, e⟩ := failsL_pre p k (n - k)
    rw [show k + (n - k) = n by omega] at e
    rw [e, List.take_append_of_le_length (by omega), ← h, List.take_length]
/-- an input for which a promise is not kept -/
noncomputable def badB (L : List Ins) (b : Int) (n1 n2 n3 : Nat) (kind arg : Int) (k : Nat) : Bool := !kpB L (atT b n1 n2 n3 k) kind arg
theorem at_t {b : Int} {n1 n2 n3 : Nat} (E1 E2 E3 : Option Addr) (g1 g2 g3 : Nat) (cn : Int) (k : Nat) (w : World) (hB : NmB b n1 n2 n3) (r1 : RI w E1 (digD b n1 0).length (digD b n1 0)) (r2 : RI w E2 (digD b n2 0).length (digD b n2 0)) (r3 : RI w E3 (digD b n3 0).length (digD b n3 0)) (hk1 : k ≤ 1000000) :
    Calls Try.prog 201 #[.agg #[.int .i64 b, .slice E1 (digD b n1 0).length g1, .int .i64 b, .slice E2 (digD b n2 0).length g2, .int .i64 b, .slice E3 (digD b n3 0).length g3, .int .i64 0, .int .i64 cn], .int .i64 k] w fun e w' => ∃ F1 f1 F2 f2 F3 f3,
      e = .returned (.agg #[.int .i64 (atT b n1 n2 n3 k).a.base, .slice F1 (atT b n1 n2 n3 k).a.digits.length f1, .int .i64 (atT b n1 n2 n3 k).b.base, .slice F2 (atT b n1 n2 n3 k).b.digits.length f2, .int .i64 (atT b n1 n2 n3 k).s.base, .slice F3 (atT b n1 n2 n3 k).s.digits.length f3, .int .i64 (atT b n1 n2 n3 k).carry]) ∧ Kn w [rowI F3 f3 (atT b n1 n2 n3 k).s.digits, rowI F2 f2 (atT b n1 n2 n3 k).b.digits, rowI F1 f1 (atT b n1 n2 n3 k).a.digits] w' := at_any E1 E2 E3 g1 g2 g3 cn k w hB r1 r2 r3 (by omega) (by omega)
theorem l14At_t {b : Int} {n1 n2 n3 : Nat} (k : Nat) (w : World) (hB : NmB b n1 n2 n3) (hk1 : k ≤ 1000000) :
    Calls Try.prog 153 #[.int .i64 b, .int .i64 n1, .int .i64 n2, .int .i64 n3, .int .i64 k] w fun e w' => ∃ F1 f1 F2 f2 F3 f3,
      e = .returned (.agg #[.int .i64 (atT b n1 n2 n3 k).a.base, .slice F1 (atT b n1 n2 n3 k).a.digits.length f1, .int .i64 (atT b n1 n2 n3 k).b.base, .slice F2 (atT b n1 n2 n3 k).b.digits.length f2, .int .i64 (atT b n1 n2 n3 k).s.base, .slice F3 (atT b n1 n2 n3 k).s.digits.length f3, .int .i64 (atT b n1 n2 n3 k).carry]) ∧ Kn w [rowI F3 f3 (atT b n1 n2 n3 k).s.digits, rowI F2 f2 (atT b n1 n2 n3 k).b.digits, rowI F1 f1 (atT b n1 n2 n3 k).a.digits] w' := l14At_any k w hB (by omega) (by omega)
set_option maxRecDepth 100000 in
set_option maxHeartbeats 3200000 in
theorem failures_any {L : List Ins} {n lc : Nat} {LA : Option Addr} {b : Int} {n1 n2 n3 N : Nat} (E1 E2 E3 : Option Addr) (g1 g2 g3 : Nat) (kind arg : Int) (M : Nat) (w : World) (hB : NmB b n1 n2 n3) (hN : pw b n1 * pw b n2 = (N : Int)) (hN2 : N ≤ 256)
    (r1 : RI w E1 (digD b n1 0).length (digD b n1 0)) (r2 : RI w E2 (digD b n2 0).length (digD b n2 0)) (r3 : RI w E3 (digD b n3 0).length (digD b n3 0)) (hp : vprog L = true) (hr : RL InsM 2 w LA n L) (hk : isP kind arg = true) (hM : M ≤ 256) :
    Calls Try.prog 155 #[.agg #[.int .i64 b, .slice E1 (digD b n1 0).length g1, .int .i64 b, .slice E2 (digD b n2 0).length g2, .int .i64 b, .slice E3 (digD b n3 0).length g3, .int .i64 0, .int .i64 (N : Int)], .slice LA n lc, .int .i64 kind, .int .i64 arg, .int .i64 (M : Int)] w
      fun e w' => ∃ A c, e = .returned (.slice A ((failsL (badB L b n1 n2 n3 kind arg) N).take M).length c) ∧ Kn w [rowI A c ((failsL (badB L b n1 n2 n3 kind arg) N).take M)] w' := by
  have KA := (fun (k : Nat) (hk : k < N) W (hW : Below w.heap.size w W) => at_t E1 E2 E3 g1 g2 g3 (N : Int) k W hB (r1.below hW) (r2.below hW) (r3.below hW) (by omega))
  have KV := Lib.hid (fun (k : Nat) (hk : k < N) => atT_ok hB (k := (k : Int)) (by omega) (by rw [hN]; omega))
  have KK := Lib.hid (fun (t : Tri) (F1 F2 F3 : Option Addr) (f1 f2 f3 : Nat) W (hv : vmach t = true) (hW : Below w.heap.size w W) q1 q2 q3 => keeps_any (lc := lc) t F1 F2 F3 f1 f2 f3 kind arg W q1 q2 q3 hv hp (hr.below steady_InsM hW) hk)
  have HBD := Lib.hid (fun k => show badB L b n1 n2 n3 kind arg k = !kpB L (atT b n1 n2 n3 k) kind arg from rfl)
  obtain ⟨p, hpp⟩ : ∃ p, badB L b n1 n2 n3 kind arg = p := ⟨_, rfl⟩
  rw [hpp] at HBD
  rw [hpp]
  obtain ⟨x1, hx1⟩ : ∃ x, digD b n1 0 = x := ⟨_, rfl⟩
  obtain ⟨x2, hx2⟩ : ∃ x, digD b n2 0 = x := ⟨_, rfl⟩
  obtain ⟨x3, hx3⟩ : ∃ x, digD b n3 0 = x := ⟨_, rfl⟩
  rw [hx1, hx2, hx3] at KA
  rw [hx1, hx2, hx3]
  have KA := Lib.hid KA
  have HFL := Lib.hid (failsL_len p)
  have HTK := (fun k => failsL_take (p := p) (k := k) (n := N) (m := M))
  obtain ⟨rs, hrs⟩ : ∃ rs, (failsL p N).take M = rs := ⟨_, rfl⟩
  rw [hrs]
  have HTK := Lib.hid (fun k (h1 : k ≤ N) (h2 : (failsL p k).length ≤ M) (h3 : k = N ∨ (failsL p k).length = M) => hrs.symm.trans (HTK k h1 h2 h3))
  clear hrs
  clear r1 r2 r3 hp hr hk hB hN hx1 hx2 hx3 hpp
  go_enter Try.func155, Try.ntmps155
  go_wp2_with fail
  have hK1 := (((Kn.nil w).al [.int .i64 b, .slice E1 x1.length g1, .int .i64 b, .slice E2 x2.length g2, .int .i64 b, .slice E3 x3.length g3, .int .i64 0, .int .i64 (N : Int)] 175).al [] 2).litRow (size := 1) (n := 0) rfl (by decide)
  simp only [World.size_alloc] at hK1
  go_loopw [11, 12] (fun oo ii wr => ∃ (k : Nat) (A : Option Addr) (c : Nat), k ≤ N ∧ (failsL p k).length ≤ M ∧ ii = .int .i64 k ∧ oo = .slice A (failsL p k).length c ∧ Kn w [rowI A c (failsL p k), .blk w.heap.size [.int .i64 b, .slice E1 x1.length g1, .int .i64 b, .slice E2 x2.length g2, .int .i64 b, .slice E3 x3.length g3, .int .i64 0, .int .i64 (N : Int)] 175] wr) (fun _ ii _ => N - (intOf ii).toNat)
  case atStart => exact ⟨0, some ⟨w.heap.size + 1, 0, none⟩, 0, Nat.zero_le _, Nat.zero_le _, rfl, rfl, hK1⟩
  case round =>
    obtain ⟨k, A, c, hkN, hlM, rfl, rfl, hK⟩ := hrel
    clear hK1
    have HT := Lib.hid (HTK.out k hkN hlM)
    have hds := HFL.out k
    have HSC := Lib.hid (failsL_succ p k)
    obtain ⟨ds, hd⟩ : ∃ ds, failsL p k = ds := ⟨_, rfl⟩
    rw [hd] at HT HSC hK hds hlM
    have HD := Lib.hid hd
    rw [hd]
    clear hd
    obtain ⟨q1, q2, q3⟩ := hK.drop.blkAt
    by_cases hkn : k < N
    · have hk1 : (k : Int) < (N : Int) := by omega
      by_cases hlt : ds.length < M
      · have hl1 : (ds.length : Int) < (M : Int) := by omega
        have KA1 := Lib.hid (KA.out k hkn)
        have hv := KV.out k hkn
        have KP := HBD.out k
        obtain ⟨t, ht⟩ : ∃ t, atT b n1 n2 n3 (k : Int) = t := ⟨_, rfl⟩
        rw [ht] at hv KP
        have KA1 := KA1.out
        rw [ht] at KA1
        have KA1 := Lib.hid KA1
        have HV := Lib.hid hv
        rcases hb : kpB L t kind arg with _ | _
        all_goals
          rw [hb] at KP
          have KP := Lib.hid KP
          have KK1 := Lib.hid (fun (F1 F2 F3 : Option Addr) (f1 f2 f3 : Nat) W (hK : Kn w (rowI F3 f3 t.s.digits :: rowI F2 f2 t.b.digits :: rowI F1 f1 t.a.digits :: [rowI A c ds, .blk w.heap.size [.int .i64 b, .slice E1 x1.length g1, .int .i64 b, .slice E2 x2.length g2, .int .i64 b, .slice E3 x3.length g3, .int .i64 0, .int .i64 (N : Int)] 175]) W) => calls_val (KK.out t F1 F2 F3 f1 f2 f3 W HV.out hK.below (Kn.riv (hK.sel [2] 99 (by decide) (by decide))) (Kn.riv (hK.sel [1] 99 (by decide) (by decide))) (Kn.riv hK)) (congrArg Value.bool hb))
          clear hv ht hb
          go_wp2_with fail
          (with_reducible refine (KA1.out _ hK.below).mono ?_); rintro e w3 ⟨F1, f1, F2, f2, F3, f3, rfl, hKn⟩
          have hK3 := hK.join hKn
          clear hKn q1 q2 q3
          go_wp2_with fail
          refine (KK1.out _ _ _ _ _ _ _ hK3).mono ?_; rintro e w4 ⟨rfl, hw⟩
          have hK4 := (hK3.keep hw).sel [3, 4] 99 (by decide) (by decide)
          clear hK3 hw hK KA1 KK1
          obtain ⟨q1, q2, q3⟩ := hK4.drop.blkAt
        · go_wp2_with (at_builtin; refine kn_pushI rfl _ _ rfl _ ds rfl rfl (hK4.al [.int .i64 (k : Int)] 2) (by omega) ?_; intro v5 w6 hK9; obtain ⟨A5, c5, rfl⟩ := row_form hK9.at0)
          go_roundw
          case rel =>
            have h2 : failsL p (k + 1) = ds ++ [(k : Int)] := by rw [HSC.out, if_pos (by rw [KP.out]; rfl)]
            refine ⟨k + 1, A5, c5, by omega, by rw [h2, List.length_append]; simp; omega, by go_num, by rw [h2]; simp, ?_⟩
            rw [h2]
            exact hK9
          case measure => simp [intOf]; omega
        · go_wp2_with fail
          go_roundw
          case rel =>
            have h2 : failsL p (k + 1) = ds := by rw [HSC.out, if_neg (by rw [KP.out]; decide)]
            refine ⟨k + 1, A, c, by omega, by rw [h2]; exact hlM, by go_num, by rw [h2], ?_⟩
            rw [h2]
            exact hK4
          case measure => simp [intOf]; omega
      · have hl1 : ¬ (ds.length : Int) < (M : Int) := by omega
        have HX := Lib.hid (HT.out (.inr (by omega)))
        go_wp2_with fail
        go_ret
        exact ⟨A, c, (by rw [HX.out]; rfl), by rw [HX.out]; exact hK.sel [0] 99 (by decide) (by decide)⟩
    · have hk1 : ¬ (k : Int) < (N : Int) := by omega
      have HX := Lib.hid (HT.out (.inl (by omega)))
      go_wp2_with fail
      go_ret
      exact ⟨A, c, (by rw [HX.out]; rfl), by rw [HX.out]; exact hK.sel [0] 99 (by decide) (by decide)⟩
theorem failsL_first {p : Nat → Bool} {k n : Nat} (hk : k < n) (h : failsL p k = []) (hp : p k = true) : (failsL p n).headD (-1) = k := by
  obtain ⟨ys, e⟩ := failsL_pre p (k + 1) (n - (k + 1))
  rw [show k + 1 + (n - (k + 1)) = n by omega, failsL_succ, h, if_pos hp] at e
  rw [e]
  rfl
set_option maxRecDepth 100000 in
set_option maxHeartbeats 3200000 in
theorem l14First_any {L : List Ins} {n lc : Nat} {LA : Option Addr} {b : Int} {n1 n2 n3 N : Nat} (kind arg : Int) (w : World) (hB : NmB b n1 n2 n3) (hN : pw b n1 * pw b n2 = (N : Int)) (hN2 : N ≤ 256)
    (hp : vprog L = true) (hr : RL InsM 2 w LA n L) (hk : isP kind arg = true) :
    Calls Try.prog 156 #[.int .i64 b, .int .i64 n1, .int .i64 n2, .int .i64 n3, .slice LA n lc, .int .i64 kind, .int .i64 arg] w
      fun e w' => e = .returned (.int .i64 ((failsL (badB L b n1 n2 n3 kind arg) N).headD (-1))) ∧ Below w.heap.size w w' := by
  have KA := (fun (k : Nat) (hk : k < N) W => l14At_t k W hB (by omega))
  have KV := Lib.hid (fun (k : Nat) (hk : k < N) => atT_ok hB (k := (k : Int)) (by omega) (by rw [hN]; omega))
  have KK := Lib.hid (fun (t : Tri) (g : Nat) (F1 F2 F3 : Option Addr) (f1 f2 f3 : Nat) W (hv : vmach t = true) (hW : Below w.heap.size w W) q => l14Keeps_any (lc := lc) g t F1 F2 F3 f1 f2 f3 kind arg W q hv hp (hr.below steady_InsM hW) hk)
  have V1 := (fun W => l10Power_any b n1 W hB.b1 hB.b2 (by have := hB.h1'; omega))
  have V2 := (fun W => l10Power_any b n2 W hB.b1 hB.b2 (by have := hB.h2'; omega))
  have hp1 : powS b n1 = pw b n1 := by have := hB.p1; unfold powS; omega
  have hp2 : powS b n2 = pw b n2 := by have := hB.p2; unfold powS; omega
  rw [hp1] at V1
  rw [hp2] at V2
  obtain ⟨P1, hP1⟩ : ∃ x, pw b n1 = x := ⟨_, rfl⟩
  obtain ⟨P2, hP2⟩ : ∃ x, pw b n2 = x := ⟨_, rfl⟩
  rw [hP1] at V1 hN
  rw [hP2] at V2 hN
  have V1 := Lib.hid V1
  have V2 := Lib.hid V2
  have hwm : IntKind.i64.wrap (P1 * P2) = (N : Int) := by rw [hN]; exact wrapI64 (by omega)
  have HBD := Lib.hid (fun k => show badB L b n1 n2 n3 kind arg k = !kpB L (atT b n1 n2 n3 k) kind arg from rfl)
  obtain ⟨p, hpp⟩ : ∃ p, badB L b n1 n2 n3 kind arg = p := ⟨_, rfl⟩
  rw [hpp] at HBD
  rw [hpp]
  have KA := Lib.hid KA
  have HFF := Lib.hid (fun k => failsL_first (p := p) (k := k) (n := N))
  have HSC := Lib.hid (failsL_succ p)
  obtain ⟨ans, hans⟩ : ∃ x, (failsL p N).headD (-1) = x := ⟨_, rfl⟩
  have HAN := Lib.hid hans
  rw [hans]
  clear hp hr hk hB hpp hP1 hP2 hp1 hp2 hans
  go_enter Try.func156, Try.ntmps156
  go_wp2_with (go_at_call 120; first | (with_reducible refine (V1.out _).mono ?_; rintro e w' ⟨rfl, rfl⟩) | (with_reducible refine (V2.out _).mono ?_; rintro e w' ⟨rfl, rfl⟩))
  go_loopw [16] (fun ii wr => ∃ (k : Nat), k ≤ N ∧ failsL p k = [] ∧ ii = .int .i64 k ∧ Kn w [] wr) (fun ii _ => N - (intOf ii).toNat)
  case atStart => exact ⟨0, Nat.zero_le _, rfl, rfl, Kn.nil w⟩
  case round =>
    obtain ⟨k, hkN, hE, rfl, hK⟩ := hrel
    have HE := Lib.hid hE
    clear hE
    by_cases hkn : k < N
    · have hk1 : (k : Int) < (N : Int) := by omega
      have KA1 := KA.out k hkn
      have hv := KV.out k hkn
      have KP := HBD.out k
      obtain ⟨t, ht⟩ : ∃ t, atT b n1 n2 n3 (k : Int) = t := ⟨_, rfl⟩
      rw [ht] at hv KP KA1
      have KA1 := Lib.hid KA1
      have HV := Lib.hid hv
      rcases hb : kpB L t kind arg with _ | _
      all_goals
        rw [hb] at KP
        have KP := Lib.hid KP
        have KK1 := Lib.hid (fun (g : Nat) (F1 F2 F3 : Option Addr) (f1 f2 f3 : Nat) W (hK : Kn w (.blk g [.int .i64 t.a.base, .slice F1 t.a.digits.length f1, .int .i64 t.b.base, .slice F2 t.b.digits.length f2, .int .i64 t.s.base, .slice F3 t.s.digits.length f3, .int .i64 t.carry] 65 :: [rowI F3 f3 t.s.digits, rowI F2 f2 t.b.digits, rowI F1 f1 t.a.digits]) W) => calls_val (KK.out t g F1 F2 F3 f1 f2 f3 W HV.out hK.below ⟨box7' hK, Kn.riv (hK.sel [3] 99 (by decide) (by decide)), Kn.riv (hK.sel [2] 99 (by decide) (by decide)), Kn.riv (hK.sel [1] 99 (by decide) (by decide))⟩) (congrArg Value.bool hb))
        clear hv ht hb
        go_wp2_with fail
        (with_reducible refine (KA1.out _).mono ?_); rintro e w3 ⟨F1, f1, F2, f2, F3, f3, rfl, hKn⟩
        have hK3 := (hK.join hKn).sel [0, 1, 2] 3 (by decide) (by decide)
        clear hKn
        go_wp2_with fail
        refine Calls.kn (hK3.al [.int .i64 t.a.base, .slice F1 t.a.digits.length f1, .int .i64 t.b.base, .slice F2 t.b.digits.length f2, .int .i64 t.s.base, .slice F3 t.s.digits.length f3, .int .i64 t.carry] 65) ?_; intro w4 hK4
        refine (KK1.out _ _ _ _ _ _ _ _ hK4).mono ?_; rintro e w5 ⟨rfl, hw⟩
        have hK5 := (hK4.keep hw).bare
        clear hK3 hw hK KA1 KK1 hK4
        go_wp2_with fail
      · go_ret
        exact ⟨ret_int (by rw [← HAN.out]; exact (HFF.out k hkn HE.out (by rw [KP.out]; rfl)).symm), hK5.below⟩
      · go_roundw
        case rel => exact ⟨k + 1, by omega, by rw [HSC.out, if_neg (by rw [KP.out]; decide)]; exact HE.out, by go_num, hK5⟩
        case measure => simp [intOf]; omega
    · have hk1 : ¬ (k : Int) < (N : Int) := by omega
      have hkk : k = N := by omega
      have HX := Lib.hid (show ans = -1 by rw [← HAN.out, ← hkk, HE.out]; rfl)
      clear hkk
      go_wp2_with fail
      go_ret
      exact ⟨ret_int HX.out.symm, hK.below⟩
end Go.Proofs.Ytkaaiocbiknipaa

namespace Go.Proofs.Ytkaaiocbiknipaa
open Go.RowKit Go.Sort
/-- the inputs for which a promise is not kept -/
noncomputable def ffL (b z1 z2 z3 : Int) (L : List Ins) (kind arg : Int) : List Int := failsL (badB L b z1.toNat z2.toNat z3.toNat kind arg) (pw b z1.toNat * pw b z2.toNat).toNat
noncomputable def ffC (b z1 z2 z3 : Int) (L : List Ins) (kind arg : Int) : Int := if pC b z1 z2 z3 L kind arg ≠ 0 then pC b z1 z2 z3 L kind arg else if ffL b z1 z2 z3 L kind arg = [] then 3 else 0
noncomputable def ffV (b z1 z2 z3 : Int) (L : List Ins) (kind arg : Int) : Int := if pC b z1 z2 z3 L kind arg ≠ 0 then 0 else (ffL b z1 z2 z3 L kind arg).headD 0
noncomputable def cfV (b z1 z2 z3 : Int) (L : List Ins) (kind arg : Int) : Int := if pC b z1 z2 z3 L kind arg ≠ 0 then 0 else ((ffL b z1 z2 z3 L kind arg).length : Int)
def FFRet (b z1 z2 z3 : Int) (L : List Ins) (kind arg : Int) (w : World) (e : Ending) (w' : World) : Prop := e = .returned (.tuple #[.int .i64 (ffV b z1 z2 z3 L kind arg), .int .i64 (ffC b z1 z2 z3 L kind arg)]) ∧ Below w.heap.size w w'
def CFRet (b z1 z2 z3 : Int) (L : List Ins) (kind arg : Int) (w : World) (e : Ending) (w' : World) : Prop := e = .returned (.tuple #[.int .i64 (cfV b z1 z2 z3 L kind arg), .int .i64 (pC b z1 z2 z3 L kind arg)]) ∧ Below w.heap.size w w'
theorem pC_cases (b z1 z2 z3 : Int) (L : List Ins) (kind arg : Int) : pC b z1 z2 z3 L kind arg ≠ 0 ∨ (pC b z1 z2 z3 L kind arg = 0 ∧ vprog L = true ∧ isP kind arg = true ∧ ∃ n1 n2 n3 N : Nat, z1 = n1 ∧ z2 = n2 ∧ z3 = n3 ∧ NmB b n1 n2 n3 ∧ ¬ 256 < pw b n1 * pw b n2 ∧ pw b n1 * pw b n2 = (N : Int) ∧ N ≤ 256) := by
  by_cases h : pC b z1 z2 z3 L kind arg = 0
  · refine .inr ⟨h, ?_⟩
    unfold pC at h
    split at h
    · cases h
    rename_i hp
    split at h
    · cases h
    rename_i hk
    rcases inC_cases b z1 z2 z3 with h2 | ⟨-, n1, n2, n3, e1, e2, e3, hB, hbig⟩
    · exact absurd h h2
    · have hm0 : 0 ≤ pw b n1 * pw b n2 := Int.mul_nonneg (by have := hB.q1; omega) (by have := hB.q2; omega)
      obtain ⟨N, hN⟩ := Int.eq_ofNat_of_zero_le hm0
      exact ⟨by simpa using hp, by simpa using hk, n1, n2, n3, N, e1, e2, e3, hB, hbig, hN, by omega⟩
  · exact .inl h
theorem ff_bad {b z1 z2 z3 : Int} {L : List Ins} {kind arg : Int} (h : pC b z1 z2 z3 L kind arg ≠ 0) : ffV b z1 z2 z3 L kind arg = 0 ∧ ffC b z1 z2 z3 L kind arg = pC b z1 z2 z3 L kind arg ∧ cfV b z1 z2 z3 L kind arg = 0 := by
  unfold ffV ffC cfV
  rw [if_pos h, if_pos h, if_pos h]
  exact ⟨rfl, rfl, rfl⟩
theorem ff_fine {b : Int} {n1 n2 n3 N : Nat} {L : List Ins} {kind arg : Int} (h : pC b n1 n2 n3 L kind arg = 0) (hN : pw b n1 * pw b n2 = (N : Int)) : ffV b n1 n2 n3 L kind arg = (failsL (badB L b n1 n2 n3 kind arg) N).headD 0 ∧ ffC b n1 n2 n3 L kind arg = (if failsL (badB L b n1 n2 n3 kind arg) N = [] then 3 else 0) ∧ cfV b n1 n2 n3 L kind arg = ((failsL (badB L b n1 n2 n3 kind arg) N).length : Int) := by
  have hL : ffL b n1 n2 n3 L kind arg = failsL (badB L b n1 n2 n3 kind arg) N := by
    unfold ffL
    simp only [Int.toNat_natCast, hN]
  unfold ffV ffC cfV
  have hn : ¬ (pC b n1 n2 n3 L kind arg ≠ 0) := fun h2 => h2 h
  rw [if_neg hn, if_neg hn, if_neg hn, hL]
  exact ⟨rfl, rfl, rfl⟩
set_option maxRecDepth 100000 in
set_option maxHeartbeats 3200000 in
theorem FirstFailure_any {L : List Ins} {n lc : Nat} {LA : Option Addr} (b z1 z2 z3 kind arg : Int) (w : World) (hr : RL InsM 2 w LA n L) (hn : n ≤ 9223372036854775807) :
    Calls Try.prog 70 #[.int .i64 b, .int .i64 z1, .int .i64 z2, .int .i64 z3, .slice LA n lc, .int .i64 kind, .int .i64 arg] w (FFRet b z1 z2 z3 L kind arg w) := by
  unfold FFRet
  rcases pC_cases b z1 z2 z3 L kind arg with hb | ⟨h0, hp, hk, n1, n2, n3, N, rfl, rfl, rfl, hB, hbig, hN, hN2⟩
  · have HF := Lib.hid (ff_bad hb)
    have KB := (fun W (hW : Below w.heap.size w W) => promiseInputs_bad (lc := lc) b z1 z2 z3 kind arg W (hr.below steady_InsM hW) hn hb)
    obtain ⟨c, hc⟩ : ∃ c, pC b z1 z2 z3 L kind arg = c := ⟨_, rfl⟩
    have HF := HF.out
    rw [hc] at KB HF hb
    have HC := Lib.hid hc
    have HF := Lib.hid HF
    have KB := Lib.hid KB
    have hcb : (c != 0) = true := by simpa using hb
    have hcb2 : (c == 0) = false := by simpa using hb
    clear hr hn hc hb
    go_enter Try.func70, Try.ntmps70
    go_wp2_with fail
    (with_reducible refine (KB.out _ (Kn.nil w).below).mono ?_); rintro e w2 ⟨rfl, hw⟩
    have hK2 := (Kn.nil w).keep hw
    go_wp2_with fail
    go_ret2
    rw [HF.out.1, HF.out.2.1]
    exact ⟨rfl, (hK2.al_ _).below⟩
  have HF := ff_fine h0 hN
  have KF := (fun W (hW : Below w.heap.size w W) => promiseInputs_fine (lc := lc) (n1 := n1) (n2 := n2) (n3 := n3) kind arg W (hr.below steady_InsM hW) hn hp hk hB hbig)
  have KL := (fun (E1 E2 E3 : Option Addr) (g1 g2 g3 : Nat) (M : Nat) (hM : M ≤ 256) W (hW : Below w.heap.size w W) q1 q2 q3 => failures_any (lc := lc) E1 E2 E3 g1 g2 g3 kind arg M W hB hN hN2 q1 q2 q3 hp (hr.below steady_InsM hW) hk hM)
  obtain ⟨rs, hrs⟩ : ∃ rs, failsL (badB L b n1 n2 n3 kind arg) N = rs := ⟨_, rfl⟩
  rw [hrs] at HF KL
  have HRS := Lib.hid (fun rs' (h : failsL (badB L b n1 n2 n3 kind arg) N = rs') => hrs.symm.trans h)
  rw [hN] at KF
  obtain ⟨x1, hx1⟩ : ∃ x, digD b n1 0 = x := ⟨_, rfl⟩
  obtain ⟨x2, hx2⟩ : ∃ x, digD b n2 0 = x := ⟨_, rfl⟩
  obtain ⟨x3, hx3⟩ : ∃ x, digD b n3 0 = x := ⟨_, rfl⟩
  rw [hx1, hx2, hx3] at KF KL
  have HF := Lib.hid HF
  have KF := Lib.hid KF
  have KL := Lib.hid KL
  clear h0 hr hn hp hk hB hbig hN hx1 hx2 hx3 hrs
  go_enter Try.func70, Try.ntmps70
  go_wp2_with fail
  (with_reducible refine (KF.out _ (Kn.nil w).below).mono ?_); rintro e w2 ⟨E1, g1, E2, g2, E3, g3, rfl, hK2⟩
  go_wp2_with fail
  refine Calls.kn (hK2.al [.int .i64 b, .slice E1 x1.length g1, .int .i64 b, .slice E2 x2.length g2, .int .i64 b, .slice E3 x3.length g3, .int .i64 0, .int .i64 (N : Int)] 175) ?_; intro w3 hK3
  (refine (KL.out E1 E2 E3 g1 g2 g3 1 (by decide) _ hK3.below (Kn.riv (hK3.sel [3] 99 (by decide) (by decide))) (Kn.riv (hK3.sel [2] 99 (by decide) (by decide))) (Kn.riv (hK3.sel [1] 99 (by decide) (by decide)))).mono ?_); rintro e w4 ⟨A, c, rfl, hKn⟩
  have hK4 := hK3.join hKn
  rcases rs with _ | ⟨x, rs⟩
  · go_wp2_with fail
    go_ret2
    rw [HF.out.1, HF.out.2.1]
    exact ⟨rfl, hK4.below⟩
  · obtain ⟨ga, ca, hfo⟩ := Kn.rowForm hKn (by simp)
    injection hfo with hfo hf2 hf3
    subst hfo hf3
    obtain ⟨cc, -⟩ := Kn.rowCell hK4 (j := 0) (u := .int .i64 x) rfl
    go_wp2_with fail
    go_ret2
    rw [HF.out.1, HF.out.2.1]
    exact ⟨rfl, hK4.below⟩
set_option maxRecDepth 100000 in
set_option maxHeartbeats 3200000 in
theorem CountFailures_any {L : List Ins} {n lc : Nat} {LA : Option Addr} (b z1 z2 z3 kind arg : Int) (w : World) (hr : RL InsM 2 w LA n L) (hn : n ≤ 9223372036854775807) :
    Calls Try.prog 68 #[.int .i64 b, .int .i64 z1, .int .i64 z2, .int .i64 z3, .slice LA n lc, .int .i64 kind, .int .i64 arg] w (CFRet b z1 z2 z3 L kind arg w) := by
  unfold CFRet
  rcases pC_cases b z1 z2 z3 L kind arg with hb | ⟨h0, hp, hk, n1, n2, n3, N, rfl, rfl, rfl, hB, hbig, hN, hN2⟩
  · have HF := Lib.hid (ff_bad hb)
    have KB := (fun W (hW : Below w.heap.size w W) => promiseInputs_bad (lc := lc) b z1 z2 z3 kind arg W (hr.below steady_InsM hW) hn hb)
    obtain ⟨c, hc⟩ : ∃ c, pC b z1 z2 z3 L kind arg = c := ⟨_, rfl⟩
    have HF := HF.out
    rw [hc] at KB HF hb
    have HC := Lib.hid hc
    have HF := Lib.hid HF
    have KB := Lib.hid KB
    have hcb : (c != 0) = true := by simpa using hb
    have hcb2 : (c == 0) = false := by simpa using hb
    clear hr hn hc hb
    go_enter Try.func68, Try.ntmps68
    go_wp2_with fail
    (with_reducible refine (KB.out _ (Kn.nil w).below).mono ?_); rintro e w2 ⟨rfl, hw⟩
    have hK2 := (Kn.nil w).keep hw
    go_wp2_with fail
    go_ret2
    rw [HF.out.2.2, HC.out]
    exact ⟨rfl, (hK2.al_ _).below⟩
  have HF := ff_fine h0 hN
  have H0 := Lib.hid h0
  have hLN : (failsL (badB L b n1 n2 n3 kind arg) N).take 256 = failsL (badB L b n1 n2 n3 kind arg) N := List.take_of_length_le (by have := failsL_len (badB L b n1 n2 n3 kind arg) N; omega)
  have hll := failsL_len (badB L b n1 n2 n3 kind arg) N
  obtain ⟨rs', hrs'⟩ : ∃ rs, failsL (badB L b n1 n2 n3 kind arg) N = rs := ⟨_, rfl⟩
  rw [hrs'] at hLN hll
  have HRS' := Lib.hid hrs'
  clear hrs'
  have KF := (fun W (hW : Below w.heap.size w W) => promiseInputs_fine (lc := lc) (n1 := n1) (n2 := n2) (n3 := n3) kind arg W (hr.below steady_InsM hW) hn hp hk hB hbig)
  have KL := (fun (E1 E2 E3 : Option Addr) (g1 g2 g3 : Nat) (M : Nat) (hM : M ≤ 256) W (hW : Below w.heap.size w W) q1 q2 q3 => failures_any (lc := lc) E1 E2 E3 g1 g2 g3 kind arg M W hB hN hN2 q1 q2 q3 hp (hr.below steady_InsM hW) hk hM)
  obtain ⟨rs, hrs⟩ : ∃ rs, failsL (badB L b n1 n2 n3 kind arg) N = rs := ⟨_, rfl⟩
  rw [hrs] at HF KL
  have HRS := Lib.hid (fun rs' (h : failsL (badB L b n1 n2 n3 kind arg) N = rs') => hrs.symm.trans h)
  rw [hN] at KF
  obtain ⟨x1, hx1⟩ : ∃ x, digD b n1 0 = x := ⟨_, rfl⟩
  obtain ⟨x2, hx2⟩ : ∃ x, digD b n2 0 = x := ⟨_, rfl⟩
  obtain ⟨x3, hx3⟩ : ∃ x, digD b n3 0 = x := ⟨_, rfl⟩
  rw [hx1, hx2, hx3] at KF KL
  have HF := Lib.hid HF
  have KF := Lib.hid KF
  have KL := Lib.hid KL
  clear h0 hr hn hp hk hB hbig hN hx1 hx2 hx3 hrs
  go_enter Try.func68, Try.ntmps68
  go_wp2_with fail
  (with_reducible refine (KF.out _ (Kn.nil w).below).mono ?_); rintro e w2 ⟨E1, g1, E2, g2, E3, g3, rfl, hK2⟩
  go_wp2_with fail
  refine Calls.kn (hK2.al [.int .i64 b, .slice E1 x1.length g1, .int .i64 b, .slice E2 x2.length g2, .int .i64 b, .slice E3 x3.length g3, .int .i64 0, .int .i64 (N : Int)] 175) ?_; intro w3 hK3
  obtain rfl : rs = rs' := HRS.out _ HRS'.out
  (refine (KL.out E1 E2 E3 g1 g2 g3 256 (by decide) _ hK3.below (Kn.riv (hK3.sel [3] 99 (by decide) (by decide))) (Kn.riv (hK3.sel [2] 99 (by decide) (by decide))) (Kn.riv (hK3.sel [1] 99 (by decide) (by decide)))).mono ?_); rintro e w4 ⟨A, c, rfl, hKn⟩
  rw [hLN] at hKn ⊢
  have hK4 := hK3.join hKn
  go_wp2_with fail
  go_ret2
  rw [HF.out.2.2, H0.out]
  exact ⟨rfl, hK4.below⟩
theorem head_neg {p : Nat → Bool} {N : Nat} : (failsL p N = [] ∧ (failsL p N).headD (-1) = -1) ∨ (failsL p N ≠ [] ∧ (failsL p N).headD (-1) = (failsL p N).headD 0 ∧ 0 ≤ (failsL p N).headD 0 ∧ (failsL p N).headD 0 ≤ N) := by
  have hall : ∀ n, ∀ x ∈ failsL p n, 0 ≤ x ∧ x ≤ n := by
    intro n
    induction n with
    | zero => intro x hx; simp [failsL] at hx
    | succ k ih =>
      intro x hx
      rw [failsL_succ] at hx
      split at hx
      · rcases List.mem_append.1 hx with hx | hx
        · have := ih x hx; omega
        · have := List.mem_singleton.1 hx; omega
      · have := ih x hx; omega
  have h := hall N
  rcases hf : failsL p N with _ | ⟨x, xs⟩
  · exact .inl ⟨rfl, rfl⟩
  · rw [hf] at h
    exact .inr ⟨by simp, rfl, h x (List.mem_cons_self ..)⟩
set_option maxRecDepth 100000 in
set_option maxHeartbeats 3200000 in
theorem specFirstFailure_any {L : List Ins} {n lc : Nat} {LA : Option Addr} (b z1 z2 z3 kind arg : Int) (w : World) (hr : RL InsM 2 w LA n L) (hn : n ≤ 9223372036854775807) :
    Calls Try.prog 69 #[.int .i64 b, .int .i64 z1, .int .i64 z2, .int .i64 z3, .slice LA n lc, .int .i64 kind, .int .i64 arg] w (FFRet b z1 z2 z3 L kind arg w) := by
  unfold FFRet
  rcases pC_cases b z1 z2 z3 L kind arg with hb | ⟨h0, hp, hk, n1, n2, n3, N, rfl, rfl, rfl, hB, hbig, hN, hN2⟩
  · have HF := Lib.hid (ff_bad hb)
    have KB := (fun W (hW : Below w.heap.size w W) => l14Code_any (lc := lc) b z1 z2 z3 kind arg W (hr.below steady_InsM hW) hn)
    obtain ⟨c, hc⟩ : ∃ c, pC b z1 z2 z3 L kind arg = c := ⟨_, rfl⟩
    have HF := HF.out
    rw [hc] at KB HF hb
    have HC := Lib.hid hc
    have HF := Lib.hid HF
    have KB := Lib.hid KB
    have hcb : (c != 0) = true := by simpa using hb
    have hcb2 : (c == 0) = false := by simpa using hb
    clear hr hn hc hb
    go_enter Try.func69, Try.ntmps69
    go_wp2_with fail
    (with_reducible refine (KB.out _ (Kn.nil w).below).mono ?_); rintro e w2 ⟨rfl, hw⟩
    have hK2 := (Kn.nil w).keep hw
    go_wp2_with fail
    go_ret2
    rw [HF.out.1, HF.out.2.1]
    exact ⟨rfl, hK2.below⟩
  have HF := ff_fine h0 hN
  have KB := (fun W (hW : Below w.heap.size w W) => calls_val (l14Code_any (lc := lc) b n1 n2 n3 kind arg W (hr.below steady_InsM hW) hn) (congrArg (Value.int .i64) h0))
  have KL := (fun W (hW : Below w.heap.size w W) => l14First_any (lc := lc) kind arg W hB hN hN2 hp (hr.below steady_InsM hW) hk)
  have hhd := head_neg (p := badB L b n1 n2 n3 kind arg) (N := N)
  obtain ⟨rs, hrs⟩ : ∃ rs, failsL (badB L b n1 n2 n3 kind arg) N = rs := ⟨_, rfl⟩
  rw [hrs] at HF KL hhd
  have HF := Lib.hid HF
  have KB := Lib.hid KB
  obtain ⟨x, hx⟩ : ∃ x, rs.headD (-1) = x := ⟨_, rfl⟩
  rw [hx] at KL hhd
  have KL := Lib.hid KL
  clear h0 hr hn hp hk hB hbig hN hrs hx
  rcases hhd with ⟨h1, rfl⟩ | ⟨h1, h2, h3, h4⟩
  · have HV := Lib.hid (show rs = [] from h1)
    clear h1
    go_enter Try.func69, Try.ntmps69
    go_wp2_with fail
    (with_reducible refine (KB.out _ (Kn.nil w).below).mono ?_); rintro e w2 ⟨rfl, hw⟩
    have hK2 := (Kn.nil w).keep hw
    go_wp2_with fail
    (refine (KL.out _ hK2.below).mono ?_); rintro e w3 ⟨rfl, hw3⟩
    have hK3 := hK2.keep hw3
    go_wp2_with fail
    go_ret2
    rw [HF.out.1, HF.out.2.1, HV.out]
    exact ⟨rfl, hK3.below⟩
  · have HV := Lib.hid (show ¬ rs = [] ∧ x = rs.headD 0 from ⟨h1, h2⟩)
    rw [← h2] at h3 h4
    have hx0 : ¬ x < 0 := by omega
    clear h1 h2
    go_enter Try.func69, Try.ntmps69
    go_wp2_with fail
    (with_reducible refine (KB.out _ (Kn.nil w).below).mono ?_); rintro e w2 ⟨rfl, hw⟩
    have hK2 := (Kn.nil w).keep hw
    go_wp2_with fail
    (refine (KL.out _ hK2.below).mono ?_); rintro e w3 ⟨rfl, hw3⟩
    have hK3 := hK2.keep hw3
    go_wp2_with fail
    go_ret2
    rw [HF.out.1, HF.out.2.1, if_neg HV.out.1, ← HV.out.2]
    exact ⟨rfl, hK3.below⟩
set_option maxRecDepth 100000 in
set_option maxHeartbeats 3200000 in
theorem specCountFailures_any {L : List Ins} {n lc : Nat} {LA : Option Addr} (b z1 z2 z3 kind arg : Int) (w : World) (hr : RL InsM 2 w LA n L) (hn : n ≤ 9223372036854775807) :
    Calls Try.prog 67 #[.int .i64 b, .int .i64 z1, .int .i64 z2, .int .i64 z3, .slice LA n lc, .int .i64 kind, .int .i64 arg] w (CFRet b z1 z2 z3 L kind arg w) := by
  unfold CFRet
  rcases pC_cases b z1 z2 z3 L kind arg with hb | ⟨h0, hp, hk, n1, n2, n3, N, rfl, rfl, rfl, hB, hbig, hN, hN2⟩
  · have HF := Lib.hid (ff_bad hb)
    have KB := (fun W (hW : Below w.heap.size w W) => l14Code_any (lc := lc) b z1 z2 z3 kind arg W (hr.below steady_InsM hW) hn)
    obtain ⟨c, hc⟩ : ∃ c, pC b z1 z2 z3 L kind arg = c := ⟨_, rfl⟩
    have HF := HF.out
    rw [hc] at KB HF hb
    have HC := Lib.hid hc
    have HF := Lib.hid HF
    have KB := Lib.hid KB
    have hcb : (c != 0) = true := by simpa using hb
    have hcb2 : (c == 0) = false := by simpa using hb
    clear hr hn hc hb
    go_enter Try.func67, Try.ntmps67
    go_wp2_with fail
    (with_reducible refine (KB.out _ (Kn.nil w).below).mono ?_); rintro e w2 ⟨rfl, hw⟩
    have hK2 := (Kn.nil w).keep hw
    go_wp2_with fail
    go_ret2
    rw [HF.out.2.2, HC.out]
    exact ⟨rfl, hK2.below⟩
  have HF := (ff_fine h0 hN).2.2
  have H0 := Lib.hid h0
  have KB := Lib.hid (fun W (hW : Below w.heap.size w W) => calls_val (l14Code_any (lc := lc) b n1 n2 n3 kind arg W (hr.below steady_InsM hW) hn) (congrArg (Value.int .i64) h0))
  have KA := (fun (k : Nat) (hk : k < N) W => l14At_t k W hB (by omega))
  have KV := Lib.hid (fun (k : Nat) (hk : k < N) => atT_ok hB (k := (k : Int)) (by omega) (by rw [hN]; omega))
  have KK := Lib.hid (fun (t : Tri) (g : Nat) (F1 F2 F3 : Option Addr) (f1 f2 f3 : Nat) W (hv : vmach t = true) (hW : Below w.heap.size w W) q => l14Keeps_any (lc := lc) g t F1 F2 F3 f1 f2 f3 kind arg W q hv hp (hr.below steady_InsM hW) hk)
  have V1 := (fun W => l10Power_any b n1 W hB.b1 hB.b2 (by have := hB.h1'; omega))
  have V2 := (fun W => l10Power_any b n2 W hB.b1 hB.b2 (by have := hB.h2'; omega))
  have hp1 : powS b n1 = pw b n1 := by have := hB.p1; unfold powS; omega
  have hp2 : powS b n2 = pw b n2 := by have := hB.p2; unfold powS; omega
  rw [hp1] at V1
  rw [hp2] at V2
  obtain ⟨P1, hP1⟩ : ∃ x, pw b n1 = x := ⟨_, rfl⟩
  obtain ⟨P2, hP2⟩ : ∃ x, pw b n2 = x := ⟨_, rfl⟩
  rw [hP1] at V1 hN
  rw [hP2] at V2 hN
  have V1 := Lib.hid V1
  have V2 := Lib.hid V2
  have hwm : IntKind.i64.wrap (P1 * P2) = (N : Int) := by rw [hN]; exact wrapI64 (by omega)
  have HBD := Lib.hid (fun k => show badB L b n1 n2 n3 kind arg k = !kpB L (atT b n1 n2 n3 k) kind arg from rfl)
  obtain ⟨p, hpp⟩ : ∃ p, badB L b n1 n2 n3 kind arg = p := ⟨_, rfl⟩
  rw [hpp] at HBD HF
  have HF := Lib.hid HF
  have KA := Lib.hid KA
  have HFL := Lib.hid (failsL_len p)
  have HSC := Lib.hid (failsL_succ p)
  clear hp hr hk hB hpp hP1 hP2 hp1 hp2 hbig hn h0
  go_enter Try.func67, Try.ntmps67
  go_wp2_with fail
  (with_reducible refine (KB.out _ (Kn.nil w).below).mono ?_); rintro e w2 ⟨rfl, hw⟩
  have hK2 := (Kn.nil w).keep hw
  clear hw
  go_wp2_with (go_at_call 120; first | (with_reducible refine (V1.out _).mono ?_; rintro e w' ⟨rfl, rfl⟩) | (with_reducible refine (V2.out _).mono ?_; rintro e w' ⟨rfl, rfl⟩))
  go_loopw [18, 19] (fun ss ii wr => ∃ (k : Nat), k ≤ N ∧ ss = .int .i64 ((failsL p k).length : Int) ∧ ii = .int .i64 k ∧ Kn w [] wr) (fun _ ii _ => N - (intOf ii).toNat)
  case atStart => exact ⟨0, Nat.zero_le _, rfl, rfl, hK2⟩
  case round =>
    obtain ⟨k, hkN, rfl, rfl, hK⟩ := hrel
    have hll := HFL.out k
    have HSK := Lib.hid (HSC.out k)
    obtain ⟨ds, hds⟩ : ∃ ds, failsL p k = ds := ⟨_, rfl⟩
    have HSK := HSK.out
    rw [hds] at hll HSK
    rw [hds]
    have HSK := Lib.hid HSK
    have HDS := Lib.hid hds
    clear hds
    by_cases hkn : k < N
    · have hk1 : (k : Int) < (N : Int) := by omega
      have KA1 := KA.out k hkn
      have hv := KV.out k hkn
      have KP := HBD.out k
      obtain ⟨t, ht⟩ : ∃ t, atT b n1 n2 n3 (k : Int) = t := ⟨_, rfl⟩
      rw [ht] at hv KP KA1
      have KA1 := Lib.hid KA1
      have HV := Lib.hid hv
      rcases hb : kpB L t kind arg with _ | _
      all_goals
        rw [hb] at KP
        have KP := Lib.hid KP
        have KK1 := Lib.hid (fun (g : Nat) (F1 F2 F3 : Option Addr) (f1 f2 f3 : Nat) W (hK : Kn w (.blk g [.int .i64 t.a.base, .slice F1 t.a.digits.length f1, .int .i64 t.b.base, .slice F2 t.b.digits.length f2, .int .i64 t.s.base, .slice F3 t.s.digits.length f3, .int .i64 t.carry] 65 :: [rowI F3 f3 t.s.digits, rowI F2 f2 t.b.digits, rowI F1 f1 t.a.digits]) W) => calls_val (KK.out t g F1 F2 F3 f1 f2 f3 W HV.out hK.below ⟨box7' hK, Kn.riv (hK.sel [3] 99 (by decide) (by decide)), Kn.riv (hK.sel [2] 99 (by decide) (by decide)), Kn.riv (hK.sel [1] 99 (by decide) (by decide))⟩) (congrArg Value.bool hb))
        clear hv ht hb
        go_wp2_with fail
        (with_reducible refine (KA1.out _).mono ?_); rintro e w3 ⟨F1, f1, F2, f2, F3, f3, rfl, hKn⟩
        have hK3 := (hK.join hKn).sel [0, 1, 2] 3 (by decide) (by decide)
        clear hKn
        go_wp2_with fail
        refine Calls.kn (hK3.al [.int .i64 t.a.base, .slice F1 t.a.digits.length f1, .int .i64 t.b.base, .slice F2 t.b.digits.length f2, .int .i64 t.s.base, .slice F3 t.s.digits.length f3, .int .i64 t.carry] 65) ?_; intro w4 hK4
        refine (KK1.out _ _ _ _ _ _ _ _ hK4).mono ?_; rintro e w5 ⟨rfl, hw⟩
        have hK5 := (hK4.keep hw).bare
        clear hK3 hw hK KA1 KK1 hK4
        go_wp2_with fail
        go_roundw
      case rel => exact ⟨k + 1, by omega, by rw [HSK.out, if_pos (by rw [KP.out]; rfl)]; simp, by go_num, hK5⟩
      case measure => simp [intOf]; omega
      case rel => exact ⟨k + 1, by omega, by rw [HSK.out, if_neg (by rw [KP.out]; decide)], by go_num, hK5⟩
      case measure => simp [intOf]; omega
    · have hk1 : ¬ (k : Int) < (N : Int) := by omega
      have hkk : k = N := by omega
      have HX := Lib.hid (show failsL p N = ds by rw [← hkk]; exact HDS.out)
      clear hkk
      go_wp2_with fail
      go_ret2
      try rw [HF.out]
      rw [H0.out, HX.out]
      exact ⟨rfl, hK.below⟩
end Go.Proofs.Ytkaaiocbiknipaa

namespace Go.Proofs.Ytkaaiocbiknipaa
open Go.RowKit Go.Sort
/-- whether a digit is turned as it is -/
def fewC (b n : Int) : Bool := decide (2 * n.tmod b < b) || (decide (2 * n.tmod b = b) && decide (2 * (n.tdiv b).tmod b < b - 1))
def turnD (sh : Bool) (b n : Int) : Int := if sh = true ∧ fewC b n = false then n.tmod b - b else n.tmod b
def turnN (sh : Bool) (b n : Int) : Int := if sh = true ∧ fewC b n = false then n.tdiv b + 1 else n.tdiv b
/-- the turns for a factor, at most so many -/
def turnF (sh : Bool) (b : Int) : Nat → Int → List Int
  | 0, _ => []
  | g + 1, n => if 0 < n then turnD sh b n :: turnF sh b g (turnN sh b n) else []
def fb : Nat → Int
  | 0 => 0
  | 1 => 1
  | 2 => 2
  | g + 3 => 2 * fb (g + 2) - 1
def turnL (sh : Bool) (b n : Int) : List Int := turnF sh b 30 n
theorem fb_pos (g : Nat) : 2 ≤ fb (g + 2) := by
  induction g with
  | zero => decide
  | succ g ih => show 2 ≤ 2 * fb (g + 2) - 1; omega
theorem tdm {b n : Int} (hb : 2 ≤ b) (h : 0 ≤ n) : 0 ≤ n.tmod b ∧ n.tmod b < b ∧ 0 ≤ n.tdiv b ∧ b * n.tdiv b + n.tmod b = n := by
  rw [Int.tmod_eq_emod_of_nonneg h, Int.tdiv_eq_ediv_of_nonneg h]
  exact ⟨Int.emod_nonneg _ (by omega), Int.emod_lt_of_pos _ (by omega), Int.ediv_nonneg h (by omega), Int.mul_ediv_add_emod n b⟩
theorem tdm_half {b n : Int} (hb : 2 ≤ b) (h : 0 ≤ n) : 2 * n.tdiv b ≤ n := by
  obtain ⟨h1, h2, h3, h4⟩ := tdm hb h
  have := Int.mul_le_mul_of_nonneg_right hb h3
  omega
theorem fewC_false {b n : Int} (h : fewC b n = false) : ¬ 2 * n.tmod b < b ∧ ¬ (2 * n.tmod b = b ∧ 2 * (n.tdiv b).tmod b < b - 1) := by
  unfold fewC at h
  simp only [Bool.or_eq_false_iff, decide_eq_false_iff_not, Bool.and_eq_false_iff] at h
  exact ⟨h.1, fun h2 => h.2.elim (fun x => x h2.1) (fun x => x h2.2)⟩
theorem turn_step {sh : Bool} {b n : Int} {g : Nat} (hb : 2 ≤ b) (h0 : 0 < n) (hg : n ≤ fb (g + 1)) : 0 ≤ turnN sh b n ∧ turnN sh b n < n ∧ turnN sh b n ≤ fb g := by
  have h2 := tdm_half hb (Int.le_of_lt h0)
  obtain ⟨q1, q2, q3, q4⟩ := tdm hb (Int.le_of_lt h0)
  have hlt : 0 ≤ turnN sh b n ∧ turnN sh b n < n ∧ 2 * turnN sh b n ≤ n + 2 := by
    unfold turnN
    split
    · rename_i hf
      have hc := fewC_false hf.2
      have hn : ¬ (n ≤ 2 ∧ n.tdiv b ≠ 0) ∨ n.tdiv b = 1 := by omega
      refine ⟨by omega, ?_, by omega⟩
      rcases Int.lt_or_le n 3 with h3 | h3
      · rcases Int.lt_or_le b 3 with h4 | h4
        · obtain rfl : b = 2 := by omega
          have : n = 1 ∨ n = 2 := by omega
          rcases this with rfl | rfl
          · exact absurd (by decide : (2 * Int.tmod 1 2 = 2 ∧ 2 * Int.tmod (Int.tdiv 1 2) 2 < 2 - 1)) hc.2
          · exact absurd (by decide : (2 * Int.tmod 2 2 < 2)) hc.1
        · have hz : n.tdiv b = 0 := by
            rw [Int.tdiv_eq_ediv_of_nonneg (by omega)]; exact Int.ediv_eq_zero_of_lt (by omega) (by omega)
          rw [hz] at q4 ⊢
          have : n ≠ 1 := by
            rintro rfl
            apply hc.1
            omega
          omega
      · omega
    · omega
  refine ⟨hlt.1, hlt.2.1, ?_⟩
  rcases g with _ | _ | g
  · have h5 : n ≤ 1 := hg
    show turnN sh b n ≤ 0
    omega
  · have h5 : n ≤ 2 := hg
    show turnN sh b n ≤ 1
    omega
  · have h5 : fb (g + 3) = 2 * fb (g + 2) - 1 := rfl
    have h6 : n ≤ fb (g + 3) := hg
    show turnN sh b n ≤ fb (g + 2)
    omega
theorem turnD_bd {sh : Bool} {b n : Int} (hb : 2 ≤ b) (h0 : 0 ≤ n) : -b ≤ turnD sh b n ∧ turnD sh b n ≤ b := by
  obtain ⟨q1, q2, q3, q4⟩ := tdm hb h0
  unfold turnD
  split <;> omega
theorem turnF_succ {sh : Bool} {b n : Int} {g : Nat} (h : 0 < n) : turnF sh b (g + 1) n = turnD sh b n :: turnF sh b g (turnN sh b n) := if_pos h
theorem turnF_zero {sh : Bool} {b n : Int} {g : Nat} (h : ¬ 0 < n) : turnF sh b g n = [] := by
  cases g with
  | zero => rfl
  | succ g => exact if_neg h
theorem turnF_len (sh : Bool) (b : Int) (g : Nat) (n : Int) : (turnF sh b g n).length ≤ g := by
  induction g generalizing n with
  | zero => simp [turnF]
  | succ g ih =>
    unfold turnF
    split
    · rw [List.length_cons]; have := ih (turnN sh b n); omega
    · rw [List.length_nil]; omega
theorem turnF_bd (sh : Bool) {b : Int} (hb : 2 ≤ b) (g : Nat) (n : Int) (h0 : 0 ≤ n) (hg : n ≤ fb g) : ∀ d ∈ turnF sh b g n, -b ≤ d ∧ d ≤ b := by
  induction g generalizing n with
  | zero => intro d hd; simp [turnF] at hd
  | succ g ih =>
    intro d hd
    by_cases h : 0 < n
    · rw [turnF_succ h] at hd
      rcases List.mem_cons.1 hd with rfl | hd
      · exact turnD_bd hb h0
      · have := turn_step (sh := sh) hb h hg
        exact ih _ this.1 this.2.2 d hd
    · rw [turnF_zero h] at hd; cases hd
/-- the program of turns -/
def mulIns (k : Nat) (n : Int) : List Ins := (if 0 < k then [⟨4, 1⟩] else []) ++ (if 0 < n then [⟨2, n⟩] else if n < 0 then [⟨3, -n⟩] else [])
def mulUpto (ts : List Int) : Nat → List Ins
  | 0 => []
  | k + 1 => mulUpto ts k ++ mulIns k (ts.getD k 0)
def mulP (ts : List Int) : List Ins := mulUpto ts ts.length
theorem mulIns_len (k : Nat) (n : Int) : (mulIns k n).length ≤ 2 := by
  unfold mulIns
  rw [List.length_append]
  repeat' split
  all_goals simp
theorem mulUpto_len (ts : List Int) (k : Nat) : (mulUpto ts k).length ≤ 2 * k := by
  induction k with
  | zero => simp [mulUpto]
  | succ k ih => unfold mulUpto; rw [List.length_append]; have := mulIns_len k (ts.getD k 0); omega
theorem vprog_simple {xs : List Ins} (h : ∀ x ∈ xs, instrOk x.op x.arg = true ∧ x.op ≤ 7) (hl : xs.length ≤ 120) : vprog xs = true := by
  have hd : ∀ (ys : List Ins), (∀ x ∈ ys, instrOk x.op x.arg = true ∧ x.op ≤ 7) → ys.foldl stepI (some 0) = some 0 := by
    intro ys
    induction ys with
    | nil => intro _; rfl
    | cons y ys ih =>
      intro hy
      obtain ⟨h1, h2⟩ := hy y (List.mem_cons_self ..)
      have hs : stepI (some 0) y = some 0 := by
        unfold stepI
        simp only [Option.bind_some, h1, if_true]
        unfold depthStep opens
        rw [if_neg (by omega), if_neg (by simp; omega)]
      rw [List.foldl_cons, hs]
      exact ih (fun x hx => hy x (List.mem_cons_of_mem _ hx))
  unfold vprog progD
  rw [hd xs h]
  simp [hl]
theorem mulUpto_ok {ts : List Int} (h : ∀ d ∈ ts, -16 ≤ d ∧ d ≤ 16) (k : Nat) (hk : k ≤ ts.length) : ∀ x ∈ mulUpto ts k, instrOk x.op x.arg = true ∧ x.op ≤ 7 := by
  induction k with
  | zero => intro x hx; simp [mulUpto] at hx
  | succ k ih =>
    intro x hx
    unfold mulUpto at hx
    rcases List.mem_append.1 hx with hx | hx
    · exact ih (by omega) x hx
    · have hd := h ts[k] (List.getElem_mem _)
      rw [getD_of (by omega)] at hx
      unfold mulIns at hx
      rcases List.mem_append.1 hx with hx | hx
      · split at hx
        · rw [List.mem_singleton.1 hx]; exact ⟨by decide, by decide⟩
        · cases hx
      · split at hx
        · rw [List.mem_singleton.1 hx]
          refine ⟨?_, by show (2 : Int) ≤ 7; decide⟩
          simp only [instrOk, betB]
          simp; omega
        · split at hx
          · rw [List.mem_singleton.1 hx]
            refine ⟨?_, by show (3 : Int) ≤ 7; decide⟩
            simp only [instrOk, betB]
            simp; omega
          · cases hx
theorem mulP_ok {sh : Bool} {b n : Int} (hb : 2 ≤ b) (hb2 : b ≤ 16) (h0 : 0 ≤ n) (h1 : n ≤ 62500000) : vprog (mulP (turnL sh b n)) = true := by
  have hl := turnF_len sh b 30 n
  have hbd := turnF_bd sh hb 30 n h0 (Int.le_trans h1 (by decide))
  refine vprog_simple (mulUpto_ok (fun d hd => by have := hbd d hd; omega) _ (Nat.le_refl _)) ?_
  have := mulUpto_len (turnL sh b n) (turnL sh b n).length
  show (mulUpto (turnL sh b n) (turnL sh b n).length).length ≤ 120
  unfold turnL at this ⊢
  omega
end Go.Proofs.Ytkaaiocbiknipaa

namespace Go.Proofs.Ytkaaiocbiknipaa
open Go.RowKit Go.Sort
def trnC (b f : Int) : Int := if (betB b 2 16 && betB f 0 62500000) = true then 0 else 2
theorem isTurnsInput_any (b f : Int) (w : World) : Calls Try.prog 193 #[.int .i64 b, .int .i64 f] w fun e w' => e = .returned (.bool (betB b 2 16 && betB f 0 62500000)) ∧ w = w' := by
  have KB := (fun W => isBase_any b W)
  rcases hb : betB b 2 16 with _ | _
  all_goals
    rw [hb] at KB
    have KB := Lib.hid KB
    clear hb
    go_enter Try.func193, Try.ntmps193
    go_wp2_with (first | (go_at_call 172; refine (KB.out _).mono ?_; rintro e w' ⟨rfl, rfl⟩) | (go_at_call 81; refine (between_any _ _ _ _).mono ?_; rintro e w' ⟨rfl, rfl⟩))
    go_ret
    exact ⟨by simp, rfl⟩
theorem l13Code_any (b f : Int) (w : World) : Calls Try.prog 216 #[.int .i64 b, .int .i64 f] w fun e w' => e = .returned (.int .i64 (trnC b f)) ∧ w = w' := by
  have KB := (fun W => l02Base_any b W)
  have KF := (fun W => l00In_any f 0 62500000 W)
  rcases hb : betB b 2 16 with _ | _
  · have HF := Lib.hid (show trnC b f = 2 by unfold trnC; rw [hb]; rfl)
    rw [hb] at KB
    have KB := Lib.hid KB
    clear hb
    go_enter Try.func216, Try.ntmps216
    go_wp2_with (first | (go_at_call 174; refine (KB.out _).mono ?_; rintro e w' ⟨rfl, rfl⟩))
    go_ret
    exact ⟨ret_int HF.out.symm, rfl⟩
  · rcases hf : betB f 0 62500000 with _ | _
    · have HF := Lib.hid (show trnC b f = 2 by unfold trnC; rw [hb, hf]; rfl)
      rw [hb] at KB
      rw [hf] at KF
      have KB := Lib.hid KB
      have KF := Lib.hid KF
      clear hb hf
      go_enter Try.func216, Try.ntmps216
      go_wp2_with (first | (go_at_call 174; refine (KB.out _).mono ?_; rintro e w' ⟨rfl, rfl⟩) | (go_at_call 107; refine (KF.out _).mono ?_; rintro e w' ⟨rfl, rfl⟩))
      go_ret
      exact ⟨ret_int HF.out.symm, rfl⟩
    · have HF := Lib.hid (show trnC b f = 0 by unfold trnC; rw [hb, hf]; rfl)
      rw [hb] at KB
      rw [hf] at KF
      have KB := Lib.hid KB
      have KF := Lib.hid KF
      clear hb hf
      go_enter Try.func216, Try.ntmps216
      go_wp2_with (first | (go_at_call 174; refine (KB.out _).mono ?_; rintro e w' ⟨rfl, rfl⟩) | (go_at_call 107; refine (KF.out _).mono ?_; rintro e w' ⟨rfl, rfl⟩))
      go_ret
      exact ⟨ret_int HF.out.symm, rfl⟩
/-- what a round of turns' loop knows -/
structure TL (sh : Bool) (b : Int) (R : List Int) (g : Nat) (n : Int) (ts : List Int) : Prop where
  n0 : 0 ≤ n
  ng : n ≤ fb g
  len : ts.length + g ≤ 30
  all : ts ++ turnF sh b g n = R
theorem TL.start {sh : Bool} {b f : Int} (h0 : 0 ≤ f) (h1 : f ≤ 62500000) : TL sh b (turnL sh b f) 30 f [] :=
  ⟨h0, Int.le_trans h1 (by decide), by simp, rfl⟩
theorem TL.next {sh : Bool} {b n : Int} {R ts : List Int} {g : Nat} (h : TL sh b R g n ts) (hb : 2 ≤ b) (hn : 0 < n) : ∃ g', g = g' + 1 ∧ TL sh b R g' (turnN sh b n) (ts ++ [turnD sh b n]) ∧ turnN sh b n < n := by
  rcases g with _ | g
  · have h2 := h.ng
    have : fb 0 = 0 := rfl
    omega
  · have h3 := turn_step (sh := sh) hb hn h.ng
    refine ⟨g, rfl, ⟨h3.1, h3.2.2, ?_, ?_⟩, h3.2.1⟩
    · rw [List.length_append]; have := h.len; simp; omega
    · rw [List.append_assoc, ← h.all, turnF_succ hn]; rfl
theorem TL.done {sh : Bool} {b n : Int} {R ts : List Int} {g : Nat} (h : TL sh b R g n ts) (hn : ¬ 0 < n) : ts = R := by
  have := h.all
  rw [turnF_zero hn, List.append_nil] at this
  exact this
theorem fb_bd {g : Nat} (h : g ≤ 30) : fb g ≤ 1000000000 := by
  have H : ∀ g : Fin 31, fb g.val ≤ 1000000000 := by decide +kernel
  exact H ⟨g, by omega⟩
set_option maxRecDepth 100000 in
set_option maxHeartbeats 1600000 in
theorem plainTurns_any (b f : Int) (w : World) (hb : 2 ≤ b) (hb2 : b ≤ 16) (h0 : 0 ≤ f) (h1 : f ≤ 62500000) :
    Calls Try.prog 194 #[.int .i64 b, .int .i64 f] w fun e w' => ∃ A c, e = .returned (.slice A (turnL false b f).length c) ∧ Kn w [rowI A c (turnL false b f)] w' := by
  have nz1 : b ≠ 0 := by omega
  have nz2 : (b == 0) = false := by simp; omega
  have HS := Lib.hid (TL.start (sh := false) (b := b) h0 h1)
  obtain ⟨R, hR⟩ : ∃ R, turnL false b f = R := ⟨_, rfl⟩
  have HS := HS.out
  rw [hR] at HS
  rw [hR]
  have HS := Lib.hid HS
  clear hR
  go_enter Try.func194, Try.ntmps194
  go_wp2_with fail
  have hK1 := ((Kn.nil w).al [] 2).litRow (size := 1) (n := 0) rfl (by decide)
  go_loopw [5, 6] (fun tt nn wr => ∃ (g : Nat) (n : Int) (ts : List Int) (A : Option Addr) (c : Nat), TL false b R g n ts ∧ tt = .slice A ts.length c ∧ nn = .int .i64 n ∧ Kn w [rowI A c ts] wr) (fun _ nn _ => (intOf nn).toNat)
  case atStart => exact ⟨30, f, [], some ⟨w.heap.size, 0, none⟩, 0, HS.out, rfl, rfl, hK1⟩
  case round =>
    obtain ⟨g, n, ts, A, c, hT, rfl, rfl, hK⟩ := hrel
    clear hK1
    have hl := hT.len
    have n0 := hT.n0
    have ng := Int.le_trans hT.ng (fb_bd (by omega))
    by_cases hn : 0 < n
    · obtain ⟨g', rfl, hT2, hlt⟩ := hT.next hb hn
      obtain ⟨q1, q2, q3, q4⟩ := tdm hb n0
      have e1 : turnD false b n = n.tmod b := rfl
      have e2 : turnN false b n = n.tdiv b := rfl
      rw [e1, e2] at hT2
      rw [e2] at hlt
      obtain ⟨d, hd⟩ : ∃ d, n.tmod b = d := ⟨_, rfl⟩
      obtain ⟨r, hr⟩ : ∃ r, n.tdiv b = r := ⟨_, rfl⟩
      rw [hd, hr] at hT2
      rw [hr] at hlt q3
      rw [hd] at q1 q2
      have HT := Lib.hid hT2
      have wd : IntKind.i64.wrap d = d := wrapI64 (by omega)
      have wr' : IntKind.i64.wrap r = r := wrapI64 (by omega)
      have wd2 : IntKind.i64.wrap (n.tmod b) = d := by rw [hd]; exact wd
      have wr2 : IntKind.i64.wrap (n.tdiv b) = r := by rw [hr]; exact wr'
      clear hT hT2 e1 e2 q4
      go_wp2_with (at_builtin; refine kn_pushI rfl _ _ rfl _ ts rfl rfl (hK.al [.int .i64 d] 2) (by omega) ?_; intro v5 w6 hK9; obtain ⟨A5, c5, rfl⟩ := row_form hK9.at0)
      go_roundw
      case rel => exact ⟨g', r, ts ++ [d], A5, c5, HT.out, by simp, by go_num, hK9⟩
      case measure => simp [intOf]; omega
    · have HD := Lib.hid (hT.done hn)
      clear hT
      go_wp2_with fail
      go_ret
      exact ⟨A, c, (by rw [← HD.out]; rfl), by rw [← HD.out]; exact hK⟩
end Go.Proofs.Ytkaaiocbiknipaa

namespace Go.Proofs.Ytkaaiocbiknipaa
open Go.RowKit Go.Sort
/-- the ways in which a digit is turned -/
theorem few_ways (b n : Int) :
    (2 * n.tmod b < b ∧ turnD true b n = n.tmod b ∧ turnN true b n = n.tdiv b) ∨
    (¬ 2 * n.tmod b < b ∧ ¬ 2 * n.tmod b = b ∧ turnD true b n = n.tmod b - b ∧ turnN true b n = n.tdiv b + 1) ∨
    (¬ 2 * n.tmod b < b ∧ 2 * n.tmod b = b ∧ 2 * (n.tdiv b).tmod b < b - 1 ∧ turnD true b n = n.tmod b ∧ turnN true b n = n.tdiv b) ∨
    (¬ 2 * n.tmod b < b ∧ 2 * n.tmod b = b ∧ ¬ 2 * (n.tdiv b).tmod b < b - 1 ∧ turnD true b n = n.tmod b - b ∧ turnN true b n = n.tdiv b + 1) := by
  unfold turnD turnN
  by_cases h1 : 2 * n.tmod b < b
  · exact .inl ⟨h1, by rw [if_neg (by unfold fewC; simp [h1])], by rw [if_neg (by unfold fewC; simp [h1])]⟩
  · by_cases h2 : 2 * n.tmod b = b
    · by_cases h3 : 2 * (n.tdiv b).tmod b < b - 1
      · have hf : fewC b n = true := by unfold fewC; rw [decide_eq_true h2, decide_eq_true h3]; simp
        exact .inr (.inr (.inl ⟨h1, h2, h3, by rw [if_neg (by simp [hf])], by rw [if_neg (by simp [hf])]⟩))
      · have hf : fewC b n = false := by unfold fewC; rw [decide_eq_false h1, decide_eq_false h3]; simp
        exact .inr (.inr (.inr ⟨h1, h2, h3, by rw [if_pos ⟨rfl, hf⟩], by rw [if_pos ⟨rfl, hf⟩]⟩))
    · have hf : fewC b n = false := by unfold fewC; rw [decide_eq_false h1, decide_eq_false h2]; simp
      exact .inr (.inl ⟨h1, h2, by rw [if_pos ⟨rfl, hf⟩], by rw [if_pos ⟨rfl, hf⟩]⟩)
set_option maxRecDepth 100000 in
set_option maxHeartbeats 1600000 in
theorem fewestTurns_any (b f : Int) (w : World) (hb : 2 ≤ b) (hb2 : b ≤ 16) (h0 : 0 ≤ f) (h1 : f ≤ 62500000) :
    Calls Try.prog 195 #[.int .i64 b, .int .i64 f] w fun e w' => ∃ A c, e = .returned (.slice A (turnL true b f).length c) ∧ Kn w [rowI A c (turnL true b f)] w' := by
  have nz1 : b ≠ 0 := by omega
  have nz2 : (b == 0) = false := by simp; omega
  have HS := Lib.hid (TL.start (sh := true) (b := b) h0 h1)
  obtain ⟨R, hR⟩ : ∃ R, turnL true b f = R := ⟨_, rfl⟩
  have HS := HS.out
  rw [hR] at HS
  rw [hR]
  have HS := Lib.hid HS
  clear hR
  go_enter Try.func195, Try.ntmps195
  go_wp2_with fail
  have hK1 := ((Kn.nil w).al [] 2).litRow (size := 1) (n := 0) rfl (by decide)
  go_loopw [5, 6] (fun tt nn wr => ∃ (g : Nat) (n : Int) (ts : List Int) (A : Option Addr) (c : Nat), TL true b R g n ts ∧ tt = .slice A ts.length c ∧ nn = .int .i64 n ∧ Kn w [rowI A c ts] wr) (fun _ nn _ => (intOf nn).toNat)
  case atStart => exact ⟨30, f, [], some ⟨w.heap.size, 0, none⟩, 0, HS.out, rfl, rfl, hK1⟩
  case round =>
    obtain ⟨g, n, ts, A, c, hT, rfl, rfl, hK⟩ := hrel
    clear hK1
    have hl := hT.len
    have n0 := hT.n0
    have ng := Int.le_trans hT.ng (fb_bd (by omega))
    by_cases hn : 0 < n
    · obtain ⟨g', rfl, hT2, hlt⟩ := hT.next hb hn
      obtain ⟨q1, q2, q3, q4⟩ := tdm hb n0
      have hh := tdm_half hb n0
      obtain ⟨s1, s2, s3, s4⟩ := tdm hb q3
      have hw := few_ways b n
      obtain ⟨d, hd⟩ : ∃ d, n.tmod b = d := ⟨_, rfl⟩
      obtain ⟨r, hr⟩ : ∃ r, n.tdiv b = r := ⟨_, rfl⟩
      rw [hd, hr] at hw
      rw [hr] at q3 hh s1 s2
      rw [hd] at q1 q2
      obtain ⟨x, hx⟩ : ∃ x, r.tmod b = x := ⟨_, rfl⟩
      rw [hx] at hw s1 s2
      have wd : IntKind.i64.wrap d = d := wrapI64 (by omega)
      have wr' : IntKind.i64.wrap r = r := wrapI64 (by omega)
      have wx : IntKind.i64.wrap x = x := wrapI64 (by omega)
      have wd2 : IntKind.i64.wrap (n.tmod b) = d := by rw [hd]; exact wd
      have wr2 : IntKind.i64.wrap (n.tdiv b) = r := by rw [hr]; exact wr'
      have wx2 : IntKind.i64.wrap (r.tmod b) = x := by rw [hx]; exact wx
      have wdd : IntKind.i64.wrap (2 * d) = 2 * d := wrapI64 (by omega)
      have wxx : IntKind.i64.wrap (2 * x) = 2 * x := wrapI64 (by omega)
      have wb1 : IntKind.i64.wrap (b - 1) = b - 1 := wrapI64 (by omega)
      have wdb : IntKind.i64.wrap (d - b) = d - b := wrapI64 (by omega)
      have wr1 : IntKind.i64.wrap (r + 1) = r + 1 := wrapI64 (by omega)
      clear hT q4 s3 s4
      rcases hw with ⟨c1, e1, e2⟩ | ⟨c1, c2, e1, e2⟩ | ⟨c1, c2, c3, e1, e2⟩ | ⟨c1, c2, c3, e1, e2⟩
      all_goals
        rw [e1, e2] at hT2
        rw [e2] at hlt
        have HT := Lib.hid hT2
        clear hT2 e1 e2
      · go_wp2_with fail
        go_quiet (fail)
        have hK := hK.drewN nq
        generalize wr.drewN nq = wq at hK ⊢
        go_wp2_with (at_builtin; refine kn_pushI rfl _ _ rfl _ ts rfl rfl (hK.al [.int .i64 (d)] 2) (by omega) ?_; intro v5 w6 hK9; obtain ⟨A5, c5, rfl⟩ := row_form hK9.at0)
        go_roundw
        case rel => exact ⟨g', r, ts ++ [d], A5, c5, HT.out, by simp, by go_num, hK9⟩
        case measure => simp [intOf]; omega
      · go_wp2_with fail
        go_quiet (fail)
        have hK := hK.drewN nq
        generalize wr.drewN nq = wq at hK ⊢
        go_wp2_with (at_builtin; refine kn_pushI rfl _ _ rfl _ ts rfl rfl (hK.al [.int .i64 (d - b)] 2) (by omega) ?_; intro v5 w6 hK9; obtain ⟨A5, c5, rfl⟩ := row_form hK9.at0)
        go_roundw
        case rel => exact ⟨g', r + 1, ts ++ [d - b], A5, c5, HT.out, by simp, by go_num, hK9⟩
        case measure => simp [intOf]; omega
      · go_wp2_with fail
        go_quiet (fail)
        have hK := hK.drewN nq
        generalize wr.drewN nq = wq at hK ⊢
        go_wp2_with (at_builtin; refine kn_pushI rfl _ _ rfl _ ts rfl rfl (hK.al [.int .i64 (d)] 2) (by omega) ?_; intro v5 w6 hK9; obtain ⟨A5, c5, rfl⟩ := row_form hK9.at0)
        go_roundw
        case rel => exact ⟨g', r, ts ++ [d], A5, c5, HT.out, by simp, by go_num, hK9⟩
        case measure => simp [intOf]; omega
      · go_wp2_with fail
        go_quiet (fail)
        have hK := hK.drewN nq
        generalize wr.drewN nq = wq at hK ⊢
        go_wp2_with (at_builtin; refine kn_pushI rfl _ _ rfl _ ts rfl rfl (hK.al [.int .i64 (d - b)] 2) (by omega) ?_; intro v5 w6 hK9; obtain ⟨A5, c5, rfl⟩ := row_form hK9.at0)
        go_roundw
        case rel => exact ⟨g', r + 1, ts ++ [d - b], A5, c5, HT.out, by simp, by go_num, hK9⟩
        case measure => simp [intOf]; omega
    · have HD := Lib.hid (hT.done hn)
      clear hT
      go_wp2_with fail
      go_ret
      exact ⟨A, c, (by rw [← HD.out]; rfl), by rw [← HD.out]; exact hK⟩
set_option maxRecDepth 100000 in
set_option maxHeartbeats 3200000 in
theorem l13Few_any (b f : Int) (w : World) (hb : 2 ≤ b) (hb2 : b ≤ 16) (h0 : 0 ≤ f) (h1 : f ≤ 62500000) :
    Calls Try.prog 217 #[.int .i64 b, .int .i64 f] w fun e w' => ∃ A c, e = .returned (.agg #[.int .i64 b, .slice A (turnL true b f).length c]) ∧ Kn w [rowI A c (turnL true b f)] w' := by
  have nz1 : b ≠ 0 := by omega
  have nz2 : (b == 0) = false := by simp; omega
  have HS := Lib.hid (TL.start (sh := true) (b := b) h0 h1)
  obtain ⟨R, hR⟩ : ∃ R, turnL true b f = R := ⟨_, rfl⟩
  have HS := HS.out
  rw [hR] at HS
  rw [hR]
  have HS := Lib.hid HS
  clear hR
  go_enter Try.func217, Try.ntmps217
  go_wp2_with fail
  have hK1 := ((((Kn.nil w).al [.int .i64 0, .slice none 0 0] 163).al [] 2).litRow (size := 1) (n := 0) rfl (by decide)).al [.int .i64 b, .slice (some ⟨w.heap.size + 1, 0, none⟩) 0 0] 163
  simp only [World.size_alloc] at hK1
  have hK2 := hK1.sel [1, 0, 2] 99 (by decide) (by decide)
  go_loopw [1] (fun nn wr => ∃ (g : Nat) (n : Int) (ts : List Int) (A : Option Addr) (c : Nat), TL true b R g n ts ∧ nn = .int .i64 n ∧ Kn w [rowI A c ts, .blk (w.heap.size + 1 + 1) [.int .i64 b, .slice A ts.length c] 163, .blk w.heap.size [.int .i64 0, .slice none 0 0] 163] wr) (fun nn _ => (intOf nn).toNat)
  case atStart => exact ⟨30, f, [], some ⟨w.heap.size + 1, 0, none⟩, 0, HS.out, rfl, hK2⟩
  case round =>
    obtain ⟨g, n, ts, A, c, hT, rfl, hK⟩ := hrel
    clear hK1 hK2
    have hl := hT.len
    have n0 := hT.n0
    have ng := Int.le_trans hT.ng (fb_bd (by omega))
    obtain ⟨a1, a2, a3, d1, d2, d3, -⟩ := hK.cells
    by_cases hn : 0 < n
    · obtain ⟨g', rfl, hT2, hlt⟩ := hT.next hb hn
      obtain ⟨q1, q2, q3, q4⟩ := tdm hb n0
      have hh := tdm_half hb n0
      obtain ⟨s1, s2, s3, s4⟩ := tdm hb q3
      have hw := few_ways b n
      obtain ⟨d, hd⟩ : ∃ d, n.tmod b = d := ⟨_, rfl⟩
      obtain ⟨r, hr⟩ : ∃ r, n.tdiv b = r := ⟨_, rfl⟩
      rw [hd, hr] at hw
      rw [hr] at q3 hh s1 s2
      rw [hd] at q1 q2
      obtain ⟨x, hx⟩ : ∃ x, r.tmod b = x := ⟨_, rfl⟩
      rw [hx] at hw s1 s2
      have wd : IntKind.i64.wrap d = d := wrapI64 (by omega)
      have wr' : IntKind.i64.wrap r = r := wrapI64 (by omega)
      have wx : IntKind.i64.wrap x = x := wrapI64 (by omega)
      have wd2 : IntKind.i64.wrap (n.tmod b) = d := by rw [hd]; exact wd
      have wr2 : IntKind.i64.wrap (n.tdiv b) = r := by rw [hr]; exact wr'
      have wx2 : IntKind.i64.wrap (r.tmod b) = x := by rw [hx]; exact wx
      have wdd : IntKind.i64.wrap (2 * d) = 2 * d := wrapI64 (by omega)
      have wxx : IntKind.i64.wrap (2 * x) = 2 * x := wrapI64 (by omega)
      have wb1 : IntKind.i64.wrap (b - 1) = b - 1 := wrapI64 (by omega)
      have wdb : IntKind.i64.wrap (d - b) = d - b := wrapI64 (by omega)
      have wr1 : IntKind.i64.wrap (r + 1) = r + 1 := wrapI64 (by omega)
      clear hT q4 s3 s4
      rcases hw with ⟨c1, e1, e2⟩ | ⟨c1, c2, e1, e2⟩ | ⟨c1, c2, c3, e1, e2⟩ | ⟨c1, c2, c3, e1, e2⟩
      all_goals
        rw [e1, e2] at hT2
        rw [e2] at hlt
        have HT := Lib.hid hT2
        clear hT2 e1 e2
      · go_wp2_with (at_builtin; refine kn_pushI rfl _ _ rfl _ ts rfl rfl (hK.al [.int .i64 (d)] 2) (by omega) ?_; intro v5 w6 hK9; obtain ⟨A5, c5, rfl⟩ := row_form hK9.at0; clear a1 a2 a3 d1 d2 d3; obtain ⟨a1, a2, a3, d1, d2, d3, -⟩ := hK9.cells)
        go_roundw
        case rel => exact ⟨g', r, ts ++ [d], A5, c5, HT.out, by go_num, by
          rw [show (ts ++ [d]).length = ts.length + 1 by simp] at hK9
          have h9 := ((hK9.front 1 rfl).st 1 (.slice A5 (ts.length + 1) c5)).sel [1, 0, 2] 99 (by decide) (by decide)
          unfold rowI
          rw [show (ts ++ [d]).length = ts.length + 1 by simp]
          exact h9⟩
        case measure => simp [intOf]; omega
      · go_wp2_with (at_builtin; refine kn_pushI rfl _ _ rfl _ ts rfl rfl (hK.al [.int .i64 (d - b)] 2) (by omega) ?_; intro v5 w6 hK9; obtain ⟨A5, c5, rfl⟩ := row_form hK9.at0; clear a1 a2 a3 d1 d2 d3; obtain ⟨a1, a2, a3, d1, d2, d3, -⟩ := hK9.cells)
        go_roundw
        case rel => exact ⟨g', r + 1, ts ++ [d - b], A5, c5, HT.out, by go_num, by
          rw [show (ts ++ [d - b]).length = ts.length + 1 by simp] at hK9
          have h9 := ((hK9.front 1 rfl).st 1 (.slice A5 (ts.length + 1) c5)).sel [1, 0, 2] 99 (by decide) (by decide)
          unfold rowI
          rw [show (ts ++ [d - b]).length = ts.length + 1 by simp]
          exact h9⟩
        case measure => simp [intOf]; omega
      · go_wp2_with (at_builtin; refine kn_pushI rfl _ _ rfl _ ts rfl rfl (hK.al [.int .i64 (d)] 2) (by omega) ?_; intro v5 w6 hK9; obtain ⟨A5, c5, rfl⟩ := row_form hK9.at0; clear a1 a2 a3 d1 d2 d3; obtain ⟨a1, a2, a3, d1, d2, d3, -⟩ := hK9.cells)
        go_roundw
        case rel => exact ⟨g', r, ts ++ [d], A5, c5, HT.out, by go_num, by
          rw [show (ts ++ [d]).length = ts.length + 1 by simp] at hK9
          have h9 := ((hK9.front 1 rfl).st 1 (.slice A5 (ts.length + 1) c5)).sel [1, 0, 2] 99 (by decide) (by decide)
          unfold rowI
          rw [show (ts ++ [d]).length = ts.length + 1 by simp]
          exact h9⟩
        case measure => simp [intOf]; omega
      · go_wp2_with (at_builtin; refine kn_pushI rfl _ _ rfl _ ts rfl rfl (hK.al [.int .i64 (d - b)] 2) (by omega) ?_; intro v5 w6 hK9; obtain ⟨A5, c5, rfl⟩ := row_form hK9.at0; clear a1 a2 a3 d1 d2 d3; obtain ⟨a1, a2, a3, d1, d2, d3, -⟩ := hK9.cells)
        go_roundw
        case rel => exact ⟨g', r + 1, ts ++ [d - b], A5, c5, HT.out, by go_num, by
          rw [show (ts ++ [d - b]).length = ts.length + 1 by simp] at hK9
          have h9 := ((hK9.front 1 rfl).st 1 (.slice A5 (ts.length + 1) c5)).sel [1, 0, 2] 99 (by decide) (by decide)
          unfold rowI
          rw [show (ts ++ [d - b]).length = ts.length + 1 by simp]
          exact h9⟩
        case measure => simp [intOf]; omega
    · have HD := Lib.hid (hT.done hn)
      clear hT
      go_wp2_with fail
      refine bodyPost.kn (((hK.front 2 rfl).st 0 (.int .i64 b)).st 1 (.slice A ts.length c)) ?_; intro w9 hK9
      clear a1 a2 a3 d1 d2 d3
      obtain ⟨a1, a2, a3, -⟩ := hK9.cells
      refine bodyPost_ret (v := .agg #[.int .i64 b, .slice A ts.length c]) (by simp [results, Try.results217, go_sem, a1]) rfl ⟨A, c, by rw [← HD.out], ?_⟩
      rw [← HD.out]
      exact hK9.sel [1] 99 (by decide) (by decide)
/-- what a function of turns returns -/
def TDRet (sh : Bool) (b f : Int) (w : World) (e : Ending) (w' : World) : Prop :=
  (trnC b f = 2 ∧ e = .returned (.tuple #[.agg #[.int .i64 0, .slice none 0 0], .int .i64 2]) ∧ Below w.heap.size w w') ∨
  (trnC b f = 0 ∧ ∃ A c, e = .returned (.tuple #[.agg #[.int .i64 b, .slice A (turnL sh b f).length c], .int .i64 0]) ∧ Kn w [rowI A c (turnL sh b f)] w')
theorem trnC_cases (b f : Int) : trnC b f = 2 ∨ (trnC b f = 0 ∧ 2 ≤ b ∧ b ≤ 16 ∧ 0 ≤ f ∧ f ≤ 62500000) := by
  unfold trnC
  split
  · rename_i h
    simp only [Bool.and_eq_true, betB_iff] at h
    exact .inr ⟨rfl, h.1.1, h.1.2, h.2.1, h.2.2⟩
  · exact .inl rfl
set_option maxRecDepth 100000 in
theorem FewestTurns_any (b f : Int) (w : World) : Calls Try.prog 191 #[.int .i64 b, .int .i64 f] w (TDRet true b f w) := by
  unfold TDRet
  rcases trnC_cases b f with hc | ⟨hc, hb, hb2, h0, h1⟩
  · have KC := Lib.hid (fun W => calls_val (l13Code_any b f W) (congrArg (Value.int .i64) hc))
    have HC := Lib.hid hc
    clear hc
    refine Calls.mono ?_ (fun e w' h => .inl ⟨HC.out, h⟩)
    clear HC
    go_enter Try.func191, Try.ntmps191
    go_wp2_with (go_at_call 216; refine (KC.out _).mono ?_; rintro e w' ⟨rfl, rfl⟩)
    refine bodyPost.kn ((Kn.nil w).al [.int .i64 0, .slice none 0 0] 163) ?_; intro w6 hK6
    obtain ⟨a1, a2, a3, -⟩ := hK6.cells
    exact bodyPost_ret (v := .tuple #[.agg #[.int .i64 0, .slice none 0 0], .int .i64 2]) (by simp [results, Try.results191, go_sem, a1]) rfl ⟨rfl, hK6.below⟩
  have KC := Lib.hid (fun W => calls_val (l13Code_any b f W) (congrArg (Value.int .i64) hc))
  have HC := Lib.hid hc
  have KF := (fun W => l13Few_any b f W hb hb2 h0 h1)
  obtain ⟨R, hR⟩ : ∃ R, turnL true b f = R := ⟨_, rfl⟩
  rw [hR] at KF ⊢
  have KF := Lib.hid KF
  clear hc hR
  refine Calls.mono ?_ (fun e w' h => .inr ⟨HC.out, h⟩)
  clear HC
  go_enter Try.func191, Try.ntmps191
  go_wp2_with (go_at_call 216; refine (KC.out _).mono ?_; rintro e w' ⟨rfl, rfl⟩)
  refine Calls.kn ((Kn.nil w).al [.int .i64 0, .slice none 0 0] 163) ?_; intro w1 hK1
  (with_reducible refine (KF.out _).mono ?_); rintro e w2 ⟨A, c, rfl, hKn⟩
  have hK2 := hK1.join hKn
  obtain ⟨a1, a2, a3, -⟩ := hK2.cells
  go_wp2_with fail
  refine bodyPost.kn (((hK2.front 1 rfl).st 0 (.int .i64 b)).st 1 (.slice A R.length c)) ?_; intro w9 hK9
  clear a1 a2 a3
  obtain ⟨a1, a2, a3, -⟩ := hK9.cells
  exact bodyPost_ret (v := .tuple #[.agg #[.int .i64 b, .slice A R.length c], .int .i64 0]) (by simp [results, Try.results191, go_sem, a1]) rfl ⟨A, c, rfl, hK9.sel [1] 99 (by decide) (by decide)⟩
set_option maxRecDepth 100000 in
set_option maxHeartbeats 3200000 in
theorem PlainTurns_any (b f : Int) (w : World) : Calls Try.prog 192 #[.int .i64 b, .int .i64 f] w (TDRet false b f w) := by
  unfold TDRet
  rcases trnC_cases b f with hc | ⟨hc, hb, hb2, h0, h1⟩
  · have KC := Lib.hid (fun W => calls_val (l13Code_any b f W) (congrArg (Value.int .i64) hc))
    have HC := Lib.hid hc
    clear hc
    refine Calls.mono ?_ (fun e w' h => .inl ⟨HC.out, h⟩)
    clear HC
    go_enter Try.func192, Try.ntmps192
    go_wp2_with (go_at_call 216; refine (KC.out _).mono ?_; rintro e w' ⟨rfl, rfl⟩)
    refine bodyPost.kn ((Kn.nil w).al [.int .i64 0, .slice none 0 0] 163) ?_; intro w6 hK6
    obtain ⟨a1, a2, a3, -⟩ := hK6.cells
    exact bodyPost_ret (v := .tuple #[.agg #[.int .i64 0, .slice none 0 0], .int .i64 2]) (by simp [results, Try.results192, go_sem, a1]) rfl ⟨rfl, hK6.below⟩
  have KC := Lib.hid (fun W => calls_val (l13Code_any b f W) (congrArg (Value.int .i64) hc))
  have HC := Lib.hid hc
  have nz1 : b ≠ 0 := by omega
  have nz2 : (b == 0) = false := by simp; omega
  have HS := Lib.hid (TL.start (sh := false) (b := b) h0 h1)
  obtain ⟨R, hR⟩ : ∃ R, turnL false b f = R := ⟨_, rfl⟩
  have HS := HS.out
  rw [hR] at HS
  rw [hR]
  have HS := Lib.hid HS
  clear hR hc
  refine Calls.mono ?_ (fun e w' h => .inr ⟨HC.out, h⟩)
  clear HC
  go_enter Try.func192, Try.ntmps192
  go_wp2_with (go_at_call 216; refine (KC.out _).mono ?_; rintro e w' ⟨rfl, rfl⟩)
  have hK1 := ((((Kn.nil w).al [.int .i64 0, .slice none 0 0] 163).al [] 2).litRow (size := 1) (n := 0) rfl (by decide)).al [.int .i64 b, .slice (some ⟨w.heap.size + 1, 0, none⟩) 0 0] 163
  simp only [World.size_alloc] at hK1
  have hK2 := hK1.sel [1, 0, 2] 99 (by decide) (by decide)
  go_loopw [8] (fun nn wr => ∃ (g : Nat) (n : Int) (ts : List Int) (A : Option Addr) (c : Nat), TL false b R g n ts ∧ nn = .int .i64 n ∧ Kn w [rowI A c ts, .blk (w.heap.size + 1 + 1) [.int .i64 b, .slice A ts.length c] 163, .blk w.heap.size [.int .i64 0, .slice none 0 0] 163] wr) (fun nn _ => (intOf nn).toNat)
  case atStart => exact ⟨30, f, [], some ⟨w.heap.size + 1, 0, none⟩, 0, HS.out, rfl, hK2⟩
  case round =>
    obtain ⟨g, n, ts, A, c, hT, rfl, hK⟩ := hrel
    clear hK1 hK2
    have hl := hT.len
    have n0 := hT.n0
    have ng := Int.le_trans hT.ng (fb_bd (by omega))
    obtain ⟨a1, a2, a3, d1, d2, d3, -⟩ := hK.cells
    by_cases hn : 0 < n
    · obtain ⟨g', rfl, hT2, hlt⟩ := hT.next hb hn
      obtain ⟨q1, q2, q3, q4⟩ := tdm hb n0
      have e1 : turnD false b n = n.tmod b := rfl
      have e2 : turnN false b n = n.tdiv b := rfl
      rw [e1, e2] at hT2
      rw [e2] at hlt
      obtain ⟨d, hd⟩ : ∃ d, n.tmod b = d := ⟨_, rfl⟩
      obtain ⟨r, hr⟩ : ∃ r, n.tdiv b = r := ⟨_, rfl⟩
      rw [hd, hr] at hT2
      rw [hr] at hlt q3
      rw [hd] at q1 q2
      have HT := Lib.hid hT2
      have wd : IntKind.i64.wrap d = d := wrapI64 (by omega)
      have wr' : IntKind.i64.wrap r = r := wrapI64 (by omega)
      have wd2 : IntKind.i64.wrap (n.tmod b) = d := by rw [hd]; exact wd
      have wr2 : IntKind.i64.wrap (n.tdiv b) = r := by rw [hr]; exact wr'
      clear hT hT2 e1 e2 q4
      go_wp2_with fail
      go_region_law (refine kn_stepI rfl _ _ rfl _ ts rfl rfl ((hK.al [.int .i64 d] 2).drew) (by omega) ?_; intro v5 w6 hK9; obtain ⟨A5, c5, rfl⟩ := row_form hK9.at0; rw [show (ts ++ [d]).length = ts.length + 1 by simp] at hK9; clear a1 a2 a3 d1 d2 d3; obtain ⟨a1, a2, a3, d1, d2, d3, -⟩ := hK9.cells)
      all_goals
        go_wp2_with fail
        go_roundw
        case rel => exact ⟨g', r, ts ++ [d], A5, c5, HT.out, by go_num, by
          have h9 := ((hK9.front 1 rfl).st 1 (.slice A5 (ts.length + 1) c5)).sel [1, 0, 2] 99 (by decide) (by decide)
          unfold rowI
          rw [show (ts ++ [d]).length = ts.length + 1 by simp]
          exact h9⟩
        case measure => simp [intOf]; omega
    · have HD := Lib.hid (hT.done hn)
      clear hT
      go_wp2_with fail
      refine bodyPost.kn (((hK.front 2 rfl).st 0 (.int .i64 b)).st 1 (.slice A ts.length c)) ?_; intro w9 hK9
      clear a1 a2 a3 d1 d2 d3
      obtain ⟨a1, a2, a3, -⟩ := hK9.cells
      refine bodyPost_ret (v := .tuple #[.agg #[.int .i64 b, .slice A ts.length c], .int .i64 0]) (by simp [results, Try.results192, go_sem, a1]) rfl ⟨A, c, by rw [← HD.out], ?_⟩
      rw [← HD.out]
      exact hK9.sel [1] 99 (by decide) (by decide)
set_option maxRecDepth 100000 in
theorem l12Digits_any (b f : Int) (sh : Bool) (w : World) : Calls Try.prog 145 #[.int .i64 b, .int .i64 f, .bool sh] w (TDRet sh b f w) := by
  have K1 := Lib.hid (fun W => FewestTurns_any b f W)
  have K0 := Lib.hid (fun W => PlainTurns_any b f W)
  rcases sh with _ | _
  all_goals
    go_enter Try.func145, Try.ntmps145
    go_wp2_with fail
    refine Calls.kn ((Kn.nil w).al [.int .i64 0, .slice none 0 0] 163) ?_; intro w1 hK1
    first
      | ((with_reducible refine (K1.out _).mono ?_); rintro e w2 (⟨hc, rfl, hw⟩ | ⟨hc, A, c, rfl, hKn⟩))
      | ((with_reducible refine (K0.out _).mono ?_); rintro e w2 (⟨hc, rfl, hw⟩ | ⟨hc, A, c, rfl, hKn⟩))
    · have HC := Lib.hid hc
      have hK2 := hK1.keep hw
      clear hc
      obtain ⟨a1, a2, a3, -⟩ := hK2.cells
      go_wp2_with fail
      refine bodyPost.kn ((hK2.st 0 (.int .i64 0)).st 1 (.slice none 0 0)) ?_; intro w9 hK9
      clear a1 a2 a3
      obtain ⟨a1, a2, a3, -⟩ := hK9.cells
      exact bodyPost_ret (v := .tuple #[.agg #[.int .i64 0, .slice none 0 0], .int .i64 2]) (by simp [results, Try.results145, go_sem, a1]) rfl (.inl ⟨HC.out, rfl, hK9.below⟩)
    · have HC := Lib.hid hc
      have hK2 := hK1.join hKn
      clear hc
      obtain ⟨a1, a2, a3, -⟩ := hK2.cells
      go_wp2_with fail
      refine bodyPost.kn (((hK2.front 1 rfl).st 0 (.int .i64 b)).st 1 (.slice A _ c)) ?_; intro w9 hK9
      clear a1 a2 a3
      obtain ⟨a1, a2, a3, -⟩ := hK9.cells
      exact bodyPost_ret (v := .tuple #[.agg #[.int .i64 b, .slice A _ c], .int .i64 0]) (by simp [results, Try.results145, go_sem, a1]) rfl (.inr ⟨HC.out, A, c, rfl, hK9.sel [1] 99 (by decide) (by decide)⟩)
end Go.Proofs.Ytkaaiocbiknipaa
