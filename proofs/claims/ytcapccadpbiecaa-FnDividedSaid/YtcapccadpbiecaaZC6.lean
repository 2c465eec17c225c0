/- Part 6: lemmas and contracts of the claim's functions. -/
import Derived.Test.YtcapccadpbiecaaZC1
import Derived.Test.YtcapccadpbiecaaZC2
import Derived.Test.YtcapccadpbiecaaZC3
import Derived.Test.YtcapccadpbiecaaZC4
import Derived.Test.YtcapccadpbiecaaZC5
namespace Go.Proofs.Ytcapccadpbiecaa
open Go.RowKit Go.Sort
set_option maxRecDepth 100000 in
set_option maxHeartbeats 3200000 in
theorem specRunProgram_any {L : List Ins} {n lc : Nat} {LA : Option Addr} (t : Tri) (A1 A2 A3 : Option Addr) (c1 c2 c3 : Nat) (w : World) (r1 : RI w A1 t.a.digits.length t.a.digits) (r2 : RI w A2 t.b.digits.length t.b.digits) (r3 : RI w A3 t.s.digits.length t.s.digits) (hs : SmallTri t) (hr : RL InsM 2 w LA n L) (hn : n ≤ 9223372036854775807) :
    Calls Try.prog 38 #[.agg #[.int .i64 t.a.base, .slice A1 t.a.digits.length c1, .int .i64 t.b.base, .slice A2 t.b.digits.length c2, .int .i64 t.s.base, .slice A3 t.s.digits.length c3, .int .i64 t.carry], .slice LA n lc] w (RPRet L t w) := by
  have hTC : ∀ W, Kn w ([.blk (w.heap.size + 1) [.int .i64 0, .slice none 0 0, .int .i64 0, .slice none 0 0, .int .i64 0, .slice none 0 0, .int .i64 0] 28, .blk w.heap.size [.int .i64 t.a.base, .slice A1 t.a.digits.length c1, .int .i64 t.b.base, .slice A2 t.b.digits.length c2, .int .i64 t.s.base, .slice A3 t.s.digits.length c3, .int .i64 t.carry] 28]) W → TriC W ⟨w.heap.size, 0, none⟩ t A1 c1 A2 c2 A3 c3 := fun W h => ⟨⟨h.drop.blkAt.1 0, h.drop.blkAt.1 1, h.drop.blkAt.1 2, h.drop.blkAt.1 3, h.drop.blkAt.1 4, h.drop.blkAt.1 5, h.drop.blkAt.1 6⟩, r1.below h.below, r2.below h.below, r3.below h.below⟩
  have KV := (fun W (hW : Kn w ([.blk (w.heap.size + 1) [.int .i64 0, .slice none 0 0, .int .i64 0, .slice none 0 0, .int .i64 0, .slice none 0 0, .int .i64 0] 28, .blk w.heap.size [.int .i64 t.a.base, .slice A1 t.a.digits.length c1, .int .i64 t.b.base, .slice A2 t.b.digits.length c2, .int .i64 t.s.base, .slice A3 t.s.digits.length c3, .int .i64 t.carry] 28]) W) => l10Ok_any ⟨w.heap.size, 0, none⟩ t W (hTC W hW).tri hs)
  have KP := (fun W (hW : Kn w ([.blk (w.heap.size + 1) [.int .i64 0, .slice none 0 0, .int .i64 0, .slice none 0 0, .int .i64 0, .slice none 0 0, .int .i64 0] 28, .blk w.heap.size [.int .i64 t.a.base, .slice A1 t.a.digits.length c1, .int .i64 t.b.base, .slice A2 t.b.digits.length c2, .int .i64 t.s.base, .slice A3 t.s.digits.length c3, .int .i64 t.carry] 28]) W) => l11Ok_any LA n lc L W (hr.below steady_InsM hW.below) hn)
  rcases hv : vmach t with _ | _
  · rw [hv] at KV
    have HB := Lib.hid (rp_bad (L := L) (t := t) (by rw [hv]; rfl))
    have KV := Lib.hid KV
    clear hv KP r1 r2 r3 hr hs hn hTC
    go_enter Try.func38, Try.ntmps38
    go_wp2_with fail
    refine Calls.kn (((Kn.nil w).al [.int .i64 t.a.base, .slice A1 t.a.digits.length c1, .int .i64 t.b.base, .slice A2 t.b.digits.length c2, .int .i64 t.s.base, .slice A3 t.s.digits.length c3, .int .i64 t.carry] 28).al [.int .i64 0, .slice none 0 0, .int .i64 0, .slice none 0 0, .int .i64 0, .slice none 0 0, .int .i64 0] 28) ?_; intro w1 hK0
    simp only [World.size_alloc] at hK0
    refine (KV.out _ hK0).mono ?_; rintro e w2 ⟨rfl, q, rfl⟩
    have hK1 := hK0.drewN q
    generalize w1.drewN q = w3 at hK1 ⊢
    obtain ⟨x1, x2, x3, -⟩ := hK1.cells
    go_wp2_with fail
    refine bodyPost.kn (((((((hK1.st 0 (.int .i64 0)).st 1 (.slice none 0 0)).st 2 (.int .i64 0)).st 3 (.slice none 0 0)).st 4 (.int .i64 0)).st 5 (.slice none 0 0)).st 6 (.int .i64 0)) ?_; intro w6 hK6
    clear x1 x2 x3
    obtain ⟨a1, a2, a3, -⟩ := hK6.cells
    refine bodyPost_ret (v := .tuple #[.agg #[.int .i64 0, .slice none 0 0, .int .i64 0, .slice none 0 0, .int .i64 0, .slice none 0 0, .int .i64 0], .int .i64 0, .int .i64 1]) (by simp [results, Try.results38, go_sem, a1]) rfl ?_
    refine ⟨none, 0, none, 0, none, 0, by rw [HB.out.1, HB.out.2.1, HB.out.2.2]; rfl, ?_⟩
    rw [HB.out.2.1]
    exact ((hK6.bare.nilRow _ _).nilRow _ _).nilRow _ _
  rcases hp : vprog L with _ | _
  · rw [hv] at KV
    rw [hp] at KP
    have HB := Lib.hid (rp_bad (L := L) (t := t) (by rw [hv, hp]; rfl))
    have KV := Lib.hid KV
    have KP := Lib.hid KP
    clear hv hp r1 r2 r3 hr hs hn hTC
    go_enter Try.func38, Try.ntmps38
    go_wp2_with fail
    refine Calls.kn (((Kn.nil w).al [.int .i64 t.a.base, .slice A1 t.a.digits.length c1, .int .i64 t.b.base, .slice A2 t.b.digits.length c2, .int .i64 t.s.base, .slice A3 t.s.digits.length c3, .int .i64 t.carry] 28).al [.int .i64 0, .slice none 0 0, .int .i64 0, .slice none 0 0, .int .i64 0, .slice none 0 0, .int .i64 0] 28) ?_; intro w1 hK0
    simp only [World.size_alloc] at hK0
    refine (KV.out _ hK0).mono ?_; rintro e w2 ⟨rfl, q, rfl⟩
    have hK2 := hK0.drewN q
    generalize w1.drewN q = w3 at hK2 ⊢
    go_wp2_with fail
    refine (KP.out _ hK2).mono ?_; rintro e w4 ⟨rfl, q2, rfl⟩
    have hK1 := hK2.drewN q2
    generalize w3.drewN q2 = w4 at hK1 ⊢
    obtain ⟨x1, x2, x3, -⟩ := hK1.cells
    go_wp2_with fail
    refine bodyPost.kn (((((((hK1.st 0 (.int .i64 0)).st 1 (.slice none 0 0)).st 2 (.int .i64 0)).st 3 (.slice none 0 0)).st 4 (.int .i64 0)).st 5 (.slice none 0 0)).st 6 (.int .i64 0)) ?_; intro w6 hK6
    clear x1 x2 x3
    obtain ⟨a1, a2, a3, -⟩ := hK6.cells
    refine bodyPost_ret (v := .tuple #[.agg #[.int .i64 0, .slice none 0 0, .int .i64 0, .slice none 0 0, .int .i64 0, .slice none 0 0, .int .i64 0], .int .i64 0, .int .i64 1]) (by simp [results, Try.results38, go_sem, a1]) rfl ?_
    refine ⟨none, 0, none, 0, none, 0, by rw [HB.out.1, HB.out.2.1, HB.out.2.2]; rfl, ?_⟩
    rw [HB.out.2.1]
    exact ((hK6.bare.nilRow _ _).nilRow _ _).nilRow _ _
  rw [hv] at KV
  rw [hp] at KP
  have KR := Lib.hid (fun W (hW : Kn w ([.blk (w.heap.size + 1) [.int .i64 0, .slice none 0 0, .int .i64 0, .slice none 0 0, .int .i64 0, .slice none 0 0, .int .i64 0] 28, .blk w.heap.size [.int .i64 t.a.base, .slice A1 t.a.digits.length c1, .int .i64 t.b.base, .slice A2 t.b.digits.length c2, .int .i64 t.s.base, .slice A3 t.s.digits.length c3, .int .i64 t.carry] 28]) W) => l11Run_any (lc := lc) w.heap.size t A1 A2 A3 c1 c2 c3 W (hTC W hW) hv hp (hr.below steady_InsM hW.below))
  have HV := Lib.hid hv
  have HP := Lib.hid hp
  have KV := Lib.hid KV
  have KP := Lib.hid KP
  clear hv hp r1 r2 r3 hr hs hn hTC
  go_enter Try.func38, Try.ntmps38
  go_wp2_with fail
  refine Calls.kn (((Kn.nil w).al [.int .i64 t.a.base, .slice A1 t.a.digits.length c1, .int .i64 t.b.base, .slice A2 t.b.digits.length c2, .int .i64 t.s.base, .slice A3 t.s.digits.length c3, .int .i64 t.carry] 28).al [.int .i64 0, .slice none 0 0, .int .i64 0, .slice none 0 0, .int .i64 0, .slice none 0 0, .int .i64 0] 28) ?_; intro w1 hK0
  simp only [World.size_alloc] at hK0
  refine (KV.out _ hK0).mono ?_; rintro e w2 ⟨rfl, q, rfl⟩
  have hK3 := hK0.drewN q
  generalize w1.drewN q = w3 at hK3 ⊢
  go_wp2_with fail
  refine (KP.out _ hK3).mono ?_; rintro e w4 ⟨rfl, q2, rfl⟩
  have hK2 := hK3.drewN q2
  generalize w3.drewN q2 = w4 at hK2 ⊢
  clear hK3 hK0
  go_wp2_with fail
  refine (KR.out _ hK2).mono ?_; rintro e w5 ⟨g, s, b', b2, rfl, he, ⟨SA, sc, B1, d1, B2, d2, B3, d3, hKr⟩, hg⟩
  have HE := Lib.hid he
  have HGD := Lib.hid hg
  clear he hg
  have hK3 := hK2.join hKr
  clear hK2 hKr
  obtain ⟨a1, a2, a3⟩ := hK3.blkAt
  rcases hc0 : (s.code == 0) with _ | _
  · have hcn : ¬ s.code = 0 := by simpa using hc0
    have hcb : (s.code != 0) = true := by simpa using hc0
    have HB := Lib.hid (rp_code HV.out HP.out HE.out hcn)
    clear hc0 hcn
    obtain ⟨q1, q2, q3⟩ := (hK3.front 5 rfl).blkAt
    go_wp2_with fail
    have HG := Lib.hid (hK3.drew.cellIs 11 (.int .i64 s.code) rfl)
    have hK4 := (((((((hK3.front 5 rfl).st 0 (.int .i64 0)).st 1 (.slice none 0 0)).st 2 (.int .i64 0)).st 3 (.slice none 0 0)).st 4 (.int .i64 0)).st 5 (.slice none 0 0)).st 6 (.int .i64 0)
    have HS := Lib.hid (hK4.drew.drop.cellIs 11 (.int .i64 s.code) rfl)
    go_region_held3 (fun W => W.cell? ⟨g, 11, none⟩ = some (.int .i64 s.code)) (first | with_reducible exact HG.out | with_reducible exact HS.out) (fail)
    all_goals
      go_wp2_with fail
      refine bodyPost.kn hK4.drew ?_; intro w6 hK6
      clear a1 a2 a3 q1 q2 q3
      obtain ⟨a1, a2, a3, -⟩ := hK6.cells
      refine bodyPost_ret (v := .tuple #[.agg #[.int .i64 0, .slice none 0 0, .int .i64 0, .slice none 0 0, .int .i64 0, .slice none 0 0, .int .i64 0], .int .i64 0, .int .i64 s.code]) (by simp [results, Try.results38, go_sem, a1]) rfl ?_
      refine ⟨none, 0, none, 0, none, 0, by rw [HB.out.1, HB.out.2.1, HB.out.2.2]; rfl, ?_⟩
      rw [HB.out.2.1]
      exact ((hK6.bare.nilRow _ _).nilRow _ _).nilRow _ _
  · have hcn : s.code = 0 := by simpa using hc0
    have hcb : (s.code != 0) = false := by simpa using hc0
    have HB := Lib.hid (rp_fine HV.out HP.out HE.out HGD.out hcn)
    clear hc0 hcn
    obtain ⟨q1, q2, q3⟩ := (hK3.front 5 rfl).blkAt
    go_wp2_with fail
    have HG := Lib.hid (And.intro (hK3.drew.cellIs 8 (.slice SA s.tr.length sc) rfl) (box7' hK3.drew))
    have hK4 := (((((((hK3.front 5 rfl).st 0 (.int .i64 s.m.a.base)).st 1 (.slice B1 s.m.a.digits.length d1)).st 2 (.int .i64 s.m.b.base)).st 3 (.slice B2 s.m.b.digits.length d2)).st 4 (.int .i64 s.m.s.base)).st 5 (.slice B3 s.m.s.digits.length d3)).st 6 (.int .i64 s.m.carry)
    have HS := Lib.hid (And.intro (hK4.drew.drop.cellIs 8 (.slice SA s.tr.length sc) rfl) (box7' hK4.drew.drop))
    go_region_held3 (fun W => W.cell? ⟨g, 8, none⟩ = some (.slice SA s.tr.length sc) ∧ W.cell? ⟨g, 0, none⟩ = some (.int .i64 s.m.a.base) ∧ W.cell? ⟨g, 1, none⟩ = some (.slice B1 s.m.a.digits.length d1) ∧ W.cell? ⟨g, 2, none⟩ = some (.int .i64 s.m.b.base) ∧ W.cell? ⟨g, 3, none⟩ = some (.slice B2 s.m.b.digits.length d2) ∧ W.cell? ⟨g, 4, none⟩ = some (.int .i64 s.m.s.base) ∧ W.cell? ⟨g, 5, none⟩ = some (.slice B3 s.m.s.digits.length d3) ∧ W.cell? ⟨g, 6, none⟩ = some (.int .i64 s.m.carry)) (first | with_reducible exact HG.out | with_reducible exact HS.out) (fail)
    all_goals
      go_wp2_with fail
      refine bodyPost.kn hK4.drew ?_; intro w6 hK6
      clear a1 a2 a3 q1 q2 q3
      obtain ⟨a1, a2, a3, -⟩ := hK6.cells
      refine bodyPost_ret (v := .tuple #[.agg #[.int .i64 s.m.a.base, .slice B1 s.m.a.digits.length d1, .int .i64 s.m.b.base, .slice B2 s.m.b.digits.length d2, .int .i64 s.m.s.base, .slice B3 s.m.s.digits.length d3, .int .i64 s.m.carry], .int .i64 s.tr.length, .int .i64 0]) (by simp [results, Try.results38, go_sem, a1]) rfl ?_
      refine ⟨B1, d1, B2, d2, B3, d3, by rw [HB.out.1, HB.out.2.1, HB.out.2.2], ?_⟩
      rw [HB.out.2.1]
      exact hK6.sel [2, 3, 4] 99 (by decide) (by decide)
set_option maxRecDepth 100000 in
set_option maxHeartbeats 3200000 in
theorem TraceProgram_any {L : List Ins} {n lc : Nat} {LA : Option Addr} (t : Tri) (A1 A2 A3 : Option Addr) (c1 c2 c3 : Nat) (w : World) (r1 : RI w A1 t.a.digits.length t.a.digits) (r2 : RI w A2 t.b.digits.length t.b.digits) (r3 : RI w A3 t.s.digits.length t.s.digits) (hs : SmallTri t) (hr : RL InsM 2 w LA n L) (hn : n ≤ 9223372036854775807) :
    Calls Try.prog 39 #[.agg #[.int .i64 t.a.base, .slice A1 t.a.digits.length c1, .int .i64 t.b.base, .slice A2 t.b.digits.length c2, .int .i64 t.s.base, .slice A3 t.s.digits.length c3, .int .i64 t.carry], .slice LA n lc] w (TPRet L t w) := by
  have KV := (fun W (hW : Below w.heap.size w W) => ValidMachine_any t A1 A2 A3 c1 c2 c3 W (r1.below hW) (r2.below hW) (r3.below hW) hs)
  have KP := (fun W (hW : Below w.heap.size w W) => ValidProgram_any LA n lc L W (hr.below steady_InsM hW) hn)
  rcases hv : vmach t with _ | _
  · rw [hv] at KV
    have HB := Lib.hid (rp_bad (L := L) (t := t) (by rw [hv]; rfl))
    have KV := Lib.hid KV
    clear hv KP r1 r2 r3 hr hs hn
    go_enter Try.func39, Try.ntmps39
    go_wp2_with fail
    refine Calls.kn ((Kn.nil w).al [.int .i64 t.a.base, .slice A1 t.a.digits.length c1, .int .i64 t.b.base, .slice A2 t.b.digits.length c2, .int .i64 t.s.base, .slice A3 t.s.digits.length c3, .int .i64 t.carry] 28) ?_; intro w1 hK0
    refine (KV.out _ hK0.below).mono ?_; rintro e w2 ⟨rfl, hw⟩
    have hK1 := hK0.keep hw
    go_wp2_with fail
    go_ret2
    refine ⟨none, 0, by rw [HB.out.1, HB.out.2.2]; rfl, ?_⟩
    rw [HB.out.2.2]
    exact hK1.bare.nilRow _ _
  rcases hp : vprog L with _ | _
  · rw [hv] at KV
    rw [hp] at KP
    have HB := Lib.hid (rp_bad (L := L) (t := t) (by rw [hv, hp]; rfl))
    have KV := Lib.hid KV
    have KP := Lib.hid KP
    clear hv hp r1 r2 r3 hr hs hn
    go_enter Try.func39, Try.ntmps39
    go_wp2_with fail
    refine Calls.kn ((Kn.nil w).al [.int .i64 t.a.base, .slice A1 t.a.digits.length c1, .int .i64 t.b.base, .slice A2 t.b.digits.length c2, .int .i64 t.s.base, .slice A3 t.s.digits.length c3, .int .i64 t.carry] 28) ?_; intro w1 hK0
    refine (KV.out _ hK0.below).mono ?_; rintro e w2 ⟨rfl, hw⟩
    have hK0 := hK0.keep hw
    go_wp2_with fail
    refine (KP.out _ hK0.below).mono ?_; rintro e w3 ⟨rfl, hw⟩
    have hK1 := hK0.keep hw
    go_wp2_with fail
    go_ret2
    refine ⟨none, 0, by rw [HB.out.1, HB.out.2.2]; rfl, ?_⟩
    rw [HB.out.2.2]
    exact hK1.bare.nilRow _ _
  rw [hv] at KV
  rw [hp] at KP
  have KR := Lib.hid (fun W (hW : Below w.heap.size w W) => runProgram_any (lc := lc) t A1 A2 A3 c1 c2 c3 W (r1.below hW) (r2.below hW) (r3.below hW) hv hp (hr.below steady_InsM hW))
  have HV := Lib.hid hv
  have HP := Lib.hid hp
  have KV := Lib.hid KV
  have KP := Lib.hid KP
  clear hv hp r1 r2 r3 hr hs hn
  go_enter Try.func39, Try.ntmps39
  go_wp2_with fail
  refine Calls.kn ((Kn.nil w).al [.int .i64 t.a.base, .slice A1 t.a.digits.length c1, .int .i64 t.b.base, .slice A2 t.b.digits.length c2, .int .i64 t.s.base, .slice A3 t.s.digits.length c3, .int .i64 t.carry] 28) ?_; intro w1 hK0
  refine (KV.out _ hK0.below).mono ?_; rintro e w2 ⟨rfl, hw⟩
  have hK0 := hK0.keep hw
  go_wp2_with fail
  refine (KP.out _ hK0.below).mono ?_; rintro e w3 ⟨rfl, hw⟩
  have hK2 := hK0.keep hw
  obtain ⟨x1, x2, x3, -⟩ := hK2.cells
  go_wp2_with fail
  refine (KR.out _ hK2.below).mono ?_; rintro e w4 ⟨g, s, b', rfl, he, ⟨SA, sc, B1, d1, B2, d2, B3, d3, hKr⟩, hg⟩
  have HE := Lib.hid he
  have HGD := Lib.hid hg
  clear he hg x1 x2 x3
  have hK3 := hK2.join hKr
  clear hK2 hKr
  obtain ⟨a1, a2, a3⟩ := hK3.blkAt
  rcases hc0 : (s.code == 0) with _ | _
  · have hcn : ¬ s.code = 0 := by simpa using hc0
    have hcb : (s.code != 0) = true := by simpa using hc0
    have HB := Lib.hid (rp_code HV.out HP.out HE.out hcn)
    clear hc0 hcn
    go_wp2_with fail
    have HG := Lib.hid (hK3.drew.cellIs 10 (.int .i64 s.code) rfl)
    go_region_held3 (fun W => W.cell? ⟨g, 10, none⟩ = some (.int .i64 s.code)) (first | with_reducible exact HG.out) (fail)
    all_goals
      go_wp2_with fail
      go_ret2
      refine ⟨none, 0, by rw [HB.out.1, HB.out.2.2]; rfl, ?_⟩
      rw [HB.out.2.2]
      exact hK3.drew.bare.nilRow _ _
  · have hcn : s.code = 0 := by simpa using hc0
    have hcb : (s.code != 0) = false := by simpa using hc0
    have HB := Lib.hid (rp_fine HV.out HP.out HE.out HGD.out hcn)
    clear hc0 hcn
    go_wp2_with fail
    go_ret2
    refine ⟨SA, sc, by rw [HB.out.1, HB.out.2.2]; rfl, ?_⟩
    rw [HB.out.2.2]
    exact hK3.sel [4] 99 (by decide) (by decide)
set_option maxRecDepth 100000 in
set_option maxHeartbeats 3200000 in
theorem specTraceProgram_any {L : List Ins} {n lc : Nat} {LA : Option Addr} (t : Tri) (A1 A2 A3 : Option Addr) (c1 c2 c3 : Nat) (w : World) (r1 : RI w A1 t.a.digits.length t.a.digits) (r2 : RI w A2 t.b.digits.length t.b.digits) (r3 : RI w A3 t.s.digits.length t.s.digits) (hs : SmallTri t) (hr : RL InsM 2 w LA n L) (hn : n ≤ 9223372036854775807) :
    Calls Try.prog 40 #[.agg #[.int .i64 t.a.base, .slice A1 t.a.digits.length c1, .int .i64 t.b.base, .slice A2 t.b.digits.length c2, .int .i64 t.s.base, .slice A3 t.s.digits.length c3, .int .i64 t.carry], .slice LA n lc] w (TPRet L t w) := by
  have hTC : ∀ W, Kn w ([.blk w.heap.size [.int .i64 t.a.base, .slice A1 t.a.digits.length c1, .int .i64 t.b.base, .slice A2 t.b.digits.length c2, .int .i64 t.s.base, .slice A3 t.s.digits.length c3, .int .i64 t.carry] 28]) W → TriC W ⟨w.heap.size, 0, none⟩ t A1 c1 A2 c2 A3 c3 := fun W h => ⟨⟨h.blkAt.1 0, h.blkAt.1 1, h.blkAt.1 2, h.blkAt.1 3, h.blkAt.1 4, h.blkAt.1 5, h.blkAt.1 6⟩, r1.below h.below, r2.below h.below, r3.below h.below⟩
  have KV := (fun W (hW : Kn w ([.blk w.heap.size [.int .i64 t.a.base, .slice A1 t.a.digits.length c1, .int .i64 t.b.base, .slice A2 t.b.digits.length c2, .int .i64 t.s.base, .slice A3 t.s.digits.length c3, .int .i64 t.carry] 28]) W) => l10Ok_any ⟨w.heap.size, 0, none⟩ t W (hTC W hW).tri hs)
  have KP := (fun W (hW : Kn w ([.blk w.heap.size [.int .i64 t.a.base, .slice A1 t.a.digits.length c1, .int .i64 t.b.base, .slice A2 t.b.digits.length c2, .int .i64 t.s.base, .slice A3 t.s.digits.length c3, .int .i64 t.carry] 28]) W) => l11Ok_any LA n lc L W (hr.below steady_InsM hW.below) hn)
  rcases hv : vmach t with _ | _
  · rw [hv] at KV
    have HB := Lib.hid (rp_bad (L := L) (t := t) (by rw [hv]; rfl))
    have KV := Lib.hid KV
    clear hv KP r1 r2 r3 hr hs hn hTC
    go_enter Try.func40, Try.ntmps40
    go_wp2_with fail
    refine Calls.kn ((Kn.nil w).al [.int .i64 t.a.base, .slice A1 t.a.digits.length c1, .int .i64 t.b.base, .slice A2 t.b.digits.length c2, .int .i64 t.s.base, .slice A3 t.s.digits.length c3, .int .i64 t.carry] 28) ?_; intro w1 hK0
    refine (KV.out _ hK0).mono ?_; rintro e w2 ⟨rfl, q, rfl⟩
    have hK1 := hK0.drewN q
    generalize w1.drewN q = w3 at hK1 ⊢
    go_wp2_with fail
    go_ret2
    refine ⟨none, 0, by rw [HB.out.1, HB.out.2.2]; rfl, ?_⟩
    rw [HB.out.2.2]
    exact hK1.bare.nilRow _ _
  rcases hp : vprog L with _ | _
  · rw [hv] at KV
    rw [hp] at KP
    have HB := Lib.hid (rp_bad (L := L) (t := t) (by rw [hv, hp]; rfl))
    have KV := Lib.hid KV
    have KP := Lib.hid KP
    clear hv hp r1 r2 r3 hr hs hn hTC
    go_enter Try.func40, Try.ntmps40
    go_wp2_with fail
    refine Calls.kn ((Kn.nil w).al [.int .i64 t.a.base, .slice A1 t.a.digits.length c1, .int .i64 t.b.base, .slice A2 t.b.digits.length c2, .int .i64 t.s.base, .slice A3 t.s.digits.length c3, .int .i64 t.carry] 28) ?_; intro w1 hK0
    refine (KV.out _ hK0).mono ?_; rintro e w2 ⟨rfl, q, rfl⟩
    have hK2 := hK0.drewN q
    generalize w1.drewN q = w3 at hK2 ⊢
    go_wp2_with fail
    refine (KP.out _ hK2).mono ?_; rintro e w4 ⟨rfl, q2, rfl⟩
    have hK1 := hK2.drewN q2
    generalize w3.drewN q2 = w4 at hK1 ⊢
    go_wp2_with fail
    go_ret2
    refine ⟨none, 0, by rw [HB.out.1, HB.out.2.2]; rfl, ?_⟩
    rw [HB.out.2.2]
    exact hK1.bare.nilRow _ _
  rw [hv] at KV
  rw [hp] at KP
  have KR := Lib.hid (fun W (hW : Kn w ([.blk w.heap.size [.int .i64 t.a.base, .slice A1 t.a.digits.length c1, .int .i64 t.b.base, .slice A2 t.b.digits.length c2, .int .i64 t.s.base, .slice A3 t.s.digits.length c3, .int .i64 t.carry] 28]) W) => l11Run_any (lc := lc) w.heap.size t A1 A2 A3 c1 c2 c3 W (hTC W hW) hv hp (hr.below steady_InsM hW.below))
  have HV := Lib.hid hv
  have HP := Lib.hid hp
  have KV := Lib.hid KV
  have KP := Lib.hid KP
  clear hv hp r1 r2 r3 hr hs hn hTC
  go_enter Try.func40, Try.ntmps40
  go_wp2_with fail
  refine Calls.kn ((Kn.nil w).al [.int .i64 t.a.base, .slice A1 t.a.digits.length c1, .int .i64 t.b.base, .slice A2 t.b.digits.length c2, .int .i64 t.s.base, .slice A3 t.s.digits.length c3, .int .i64 t.carry] 28) ?_; intro w1 hK0
  refine (KV.out _ hK0).mono ?_; rintro e w2 ⟨rfl, q, rfl⟩
  have hK3 := hK0.drewN q
  generalize w1.drewN q = w3 at hK3 ⊢
  go_wp2_with fail
  refine (KP.out _ hK3).mono ?_; rintro e w4 ⟨rfl, q2, rfl⟩
  have hK2 := hK3.drewN q2
  generalize w3.drewN q2 = w4 at hK2 ⊢
  clear hK3 hK0
  go_wp2_with fail
  refine (KR.out _ hK2).mono ?_; rintro e w5 ⟨g, s, b', b2, rfl, he, ⟨SA, sc, B1, d1, B2, d2, B3, d3, hKr⟩, hg⟩
  have HE := Lib.hid he
  have HGD := Lib.hid hg
  clear he hg
  have hK3 := hK2.join hKr
  clear hK2 hKr
  obtain ⟨a1, a2, a3⟩ := hK3.blkAt
  rcases hc0 : (s.code == 0) with _ | _
  · have hcn : ¬ s.code = 0 := by simpa using hc0
    have hcb : (s.code != 0) = true := by simpa using hc0
    have HB := Lib.hid (rp_code HV.out HP.out HE.out hcn)
    clear hc0 hcn
    go_wp2_with fail
    have HG := Lib.hid (hK3.drew.cellIs 11 (.int .i64 s.code) rfl)
    go_region_held3 (fun W => W.cell? ⟨g, 11, none⟩ = some (.int .i64 s.code)) (first | with_reducible exact HG.out) (fail)
    all_goals
      go_wp2_with fail
      go_ret2
      refine ⟨none, 0, by rw [HB.out.1, HB.out.2.2]; rfl, ?_⟩
      rw [HB.out.2.2]
      exact hK3.drew.bare.nilRow _ _
  · have hcn : s.code = 0 := by simpa using hc0
    have hcb : (s.code != 0) = false := by simpa using hc0
    have HB := Lib.hid (rp_fine HV.out HP.out HE.out HGD.out hcn)
    clear hc0 hcn
    go_wp2_with fail
    go_ret2
    refine ⟨SA, sc, by rw [HB.out.1, HB.out.2.2]; rfl, ?_⟩
    rw [HB.out.2.2]
    exact hK3.sel [4] 99 (by decide) (by decide)
end Go.Proofs.Ytcapccadpbiecaa

namespace Go.Proofs.Ytcapccadpbiecaa
open Go.RowKit
end Go.Proofs.Ytcapccadpbiecaa

namespace Go.Proofs.Ytcapccadpbiecaa
open Go.RowKit Go.Sort
def lftT (left : Int) (t : Tri) : Int := lft3 left t.a.digits.length t.b.digits.length t.s.digits.length
def lftS : Int → List Tri → Int
  | left, [] => left
  | left, t :: ts => if lftT left t < 0 then -1 else lftS (lftT left t) ts
def szS (left : Int) (ts : List Tri) : Int := if left - ts.length < 0 then -1 else lftS (left - ts.length) ts
theorem lftT_bd (left : Int) (t : Tri) (h : -1 ≤ left) : -1 ≤ lftT left t ∧ lftT left t ≤ left := by
  unfold lftT lft3
  have b1 := lft_bd left t.a.digits.length h (by omega)
  have b2 := lft_bd _ t.b.digits.length b1.1 (by omega)
  have b3 := lft_bd _ t.s.digits.length b2.1 (by omega)
  split
  · omega
  · split <;> omega
theorem lftT_small {left : Int} {t : Tri} (hl : left ≤ 1048576) (h0 : -1 ≤ left) (h : ¬ lftT left t < 0) : t.a.digits.length ≤ 1048576 ∧ t.b.digits.length ≤ 1048576 ∧ t.s.digits.length ≤ 1048576 := by
  unfold lftT lft3 at h
  split at h
  · omega
  · rename_i k1
    split at h
    · omega
    · rename_i k2
      have b1 := lft_bd left t.a.digits.length h0 (by omega)
      have b2 := lft_bd _ t.b.digits.length b1.1 (by omega)
      unfold lft at h k1 k2 b1 b2
      refine ⟨?_, ?_, ?_⟩
      · split at k1 <;> omega
      · split at k2 <;> split at k2 <;> omega
      · split at h <;> split at h <;> split at h <;> omega
theorem lftS_small : ∀ (ts : List Tri) (left : Int), 0 ≤ left → left ≤ 1048576 → ¬ lftS left ts < 0 → ∀ t ∈ ts, t.a.digits.length ≤ 1048576 ∧ t.b.digits.length ≤ 1048576 ∧ t.s.digits.length ≤ 1048576
  | [], _, _, _, _ => fun t h => by cases h
  | t :: ts, left, h0, hl, h => by
    unfold lftS at h
    split at h
    · omega
    · rename_i k1
      have hb := lftT_bd left t (by omega)
      intro u hu
      rcases List.mem_cons.1 hu with rfl | hu
      · exact lftT_small hl (by omega) k1
      · exact lftS_small ts (lftT left t) (by omega) (by omega) h u hu
theorem szS_small {ts : List Tri} (h : ¬ szS 1048576 ts < 0) : ts.length ≤ 1048576 ∧ ∀ t ∈ ts, t.a.digits.length ≤ 1048576 ∧ t.b.digits.length ≤ 1048576 ∧ t.s.digits.length ≤ 1048576 := by
  unfold szS at h
  split at h
  · omega
  · exact ⟨by omega, lftS_small ts _ (by omega) (by omega) h⟩
theorem smallTri_of {t : Tri} (h : t.a.digits.length ≤ 1048576 ∧ t.b.digits.length ≤ 1048576 ∧ t.s.digits.length ≤ 1048576) : SmallTri t := by
  unfold SmallTri SmallReg; omega
end Go.Proofs.Ytcapccadpbiecaa

namespace Go.Proofs.Ytcapccadpbiecaa
open Go.RowKit Go.Sort
theorem ownI_ri {w : World} {base n c : Nat} {A : Option Addr} {ds : List Int} (h : OwnI w base (.slice A n c) ds) : RI w A n ds := by
  obtain ⟨A', c', h1, h2, -⟩ := h.reads
  injection h1 with h1 h3 h4
  rw [h1, h3]; exact h2
theorem row_below {w w' : World} {base : Nat} {e : TypeId} {size : Nat} {v : Value} {n : Nat} {xs : List Value} (h : w.ownsRow base e size v n xs) (hb : Below w.heap.size w w') : w'.ownsRow base e size v n xs := by
  refine ⟨h.1, ?_⟩
  rcases h.2 with hn | ⟨g, cap, cur, rfl, hbg, hg, rest⟩
  · exact .inl hn
  · exact .inr ⟨g, cap, cur, rfl, hbg, by rw [hb.block g (Array.getElem?_eq_some_iff.1 hg).1]; exact hg, rest⟩
/-- trial i in the cells xs of an own row, its digits in own rows from block b on -/
def TriX (w : World) (b : Nat) (xs : List Value) (i : Nat) (t : Tri) : Prop := ∃ X1 x1 X2 x2 X3 x3, (xs[i * 7]? = some (.int .i64 t.a.base) ∧ xs[i * 7 + 1]? = some (.slice X1 t.a.digits.length x1) ∧ xs[i * 7 + 2]? = some (.int .i64 t.b.base) ∧ xs[i * 7 + 3]? = some (.slice X2 t.b.digits.length x2) ∧
    xs[i * 7 + 4]? = some (.int .i64 t.s.base) ∧ xs[i * 7 + 5]? = some (.slice X3 t.s.digits.length x3) ∧ xs[i * 7 + 6]? = some (.int .i64 t.carry)) ∧ OwnI w b (.slice X1 t.a.digits.length x1) t.a.digits ∧ OwnI w b (.slice X2 t.b.digits.length x2) t.b.digits ∧ OwnI w b (.slice X3 t.s.digits.length x3) t.s.digits
theorem TriX.below {w w' : World} {b : Nat} {xs : List Value} {i : Nat} {t : Tri} (h : TriX w b xs i t) (hb : Below w.heap.size w w') : TriX w' b xs i t := by
  obtain ⟨X1, x1, X2, x2, X3, x3, h1, h2, h3, h4⟩ := h
  exact ⟨X1, x1, X2, x2, X3, x3, h1, h2.below hb, h3.below hb, h4.below hb⟩
theorem TriX.setBelow {w : World} {b : Nat} {xs : List Value} {i : Nat} {t : Tri} (h : TriX w b xs i t) {a : Addr} (ha : a.block < b) (u : Value) : TriX (w.setCell a u) b xs i t := by
  obtain ⟨X1, x1, X2, x2, X3, x3, h1, h2, h3, h4⟩ := h
  exact ⟨X1, x1, X2, x2, X3, x3, h1, h2.setBelow ha u, h3.setBelow ha u, h4.setBelow ha u⟩
theorem row7 {w : World} {g n k : Nat} {T : TypeId} {xs : List Value} (h : w.ownsRow g T 7 (.slice (some ⟨g, 0, none⟩) n n) n xs) (hk : k < n) :
    (∃ u, w.cell? ⟨g, k * 7, none⟩ = some u) ∧ (∃ u, w.cell? ⟨g, k * 7 + 1, none⟩ = some u) ∧ (∃ u, w.cell? ⟨g, k * 7 + 2, none⟩ = some u) ∧ (∃ u, w.cell? ⟨g, k * 7 + 3, none⟩ = some u) ∧ (∃ u, w.cell? ⟨g, k * 7 + 4, none⟩ = some u) ∧ (∃ u, w.cell? ⟨g, k * 7 + 5, none⟩ = some u) ∧ (∃ u, w.cell? ⟨g, k * 7 + 6, none⟩ = some u) := by
  have hl := h.1
  have H : ∀ j, j < n * 7 → ∃ u, w.cell? ⟨g, j, none⟩ = some u := fun j hj => ⟨xs[j]'(by omega), (h.cellAt j (by omega)).trans (List.getElem?_eq_getElem (by omega))⟩
  exact ⟨H _ (by omega), H _ (by omega), H _ (by omega), H _ (by omega), H _ (by omega), H _ (by omega), H _ (by omega)⟩
def set7 (xs : List Value) (o : Nat) (v0 v1 v2 v3 v4 v5 v6 : Value) : List Value := ((((((xs.set o v0).set (o + 1) v1).set (o + 2) v2).set (o + 3) v3).set (o + 4) v4).set (o + 5) v5).set (o + 6) v6
theorem set7_ne {xs : List Value} {o i : Nat} {v0 v1 v2 v3 v4 v5 v6 : Value} (h : i < o) : (set7 xs o v0 v1 v2 v3 v4 v5 v6)[i]? = xs[i]? := by
  unfold set7
  rw [List.getElem?_set_ne (by omega), List.getElem?_set_ne (by omega), List.getElem?_set_ne (by omega), List.getElem?_set_ne (by omega), List.getElem?_set_ne (by omega), List.getElem?_set_ne (by omega), List.getElem?_set_ne (by omega)]
theorem set7_at {xs : List Value} {o : Nat} {v0 v1 v2 v3 v4 v5 v6 : Value} (h : o + 6 < xs.length) : (set7 xs o v0 v1 v2 v3 v4 v5 v6)[o]? = some v0 ∧ (set7 xs o v0 v1 v2 v3 v4 v5 v6)[o + 1]? = some v1 ∧ (set7 xs o v0 v1 v2 v3 v4 v5 v6)[o + 2]? = some v2 ∧ (set7 xs o v0 v1 v2 v3 v4 v5 v6)[o + 3]? = some v3 ∧
    (set7 xs o v0 v1 v2 v3 v4 v5 v6)[o + 4]? = some v4 ∧ (set7 xs o v0 v1 v2 v3 v4 v5 v6)[o + 5]? = some v5 ∧ (set7 xs o v0 v1 v2 v3 v4 v5 v6)[o + 6]? = some v6 := by
  unfold set7
  refine ⟨?_, ?_, ?_, ?_, ?_, ?_, ?_⟩ <;>
    (repeat rw [List.getElem?_set_ne (by omega)]) <;> rw [List.getElem?_set_self (by first | omega | (simp only [List.length_set]; omega))]
theorem stored7 {w : World} {g n : Nat} {T : TypeId} {xs : List Value} (h : w.ownsRow g T 7 (.slice (some ⟨g, 0, none⟩) n n) n xs) (o : Nat) (v0 v1 v2 v3 v4 v5 v6 : Value) :
    (((((((w.setCell ⟨g, o, none⟩ v0).setCell ⟨g, o + 1, none⟩ v1).setCell ⟨g, o + 2, none⟩ v2).setCell ⟨g, o + 3, none⟩ v3).setCell ⟨g, o + 4, none⟩ v4).setCell ⟨g, o + 5, none⟩ v5).setCell ⟨g, o + 6, none⟩ v6).ownsRow g T 7 (.slice (some ⟨g, 0, none⟩) n n) n (set7 xs o v0 v1 v2 v3 v4 v5 v6) :=
  ((((((((h.stored o v0).1.stored (o + 1) v1).1.stored (o + 2) v2).1.stored (o + 3) v3).1.stored (o + 4) v4).1.stored (o + 5) v5).1.stored (o + 6) v6)).1
end Go.Proofs.Ytcapccadpbiecaa

namespace Go.Proofs.Ytcapccadpbiecaa
open Go.RowKit Go.Sort
/-- numbers were stored into blocks of P -/
inductive Marks (P : Nat → Prop) : World → World → Prop
  | refl (w : World) : Marks P w w
  | step {w w' : World} {b : Nat} (h : Marks P w w') (hb : P b) (j : Nat) (u : Int) : Marks P w (w'.setCell ⟨b, j, none⟩ (.int .i64 u))
theorem Marks.trans {P : Nat → Prop} {a b c : World} (h1 : Marks P a b) (h2 : Marks P b c) : Marks P a c := by
  induction h2 with
  | refl => exact h1
  | step _ hb j u ih => exact ih.step hb j u
theorem Marks.weaken {P Q : Nat → Prop} {a b : World} (h : Marks P a b) (hq : ∀ k, P k → Q k) : Marks Q a b := by
  induction h with
  | refl => exact .refl _
  | step _ hb j u ih => exact ih.step (hq _ hb) j u
theorem Marks.under {P : Nat → Prop} {B : Nat} {a w w' : World} (h : Marks P w w') (hb : Below B a w) (hP : ∀ k, P k → B ≤ k) : Below B a w' := by
  induction h with
  | refl => exact hb
  | step _ hk j u ih => exact ih.setCell (hP _ hk) _
theorem Marks.size {P : Nat → Prop} {w w' : World} (h : Marks P w w') : w'.heap.size = w.heap.size := by
  induction h with
  | refl => rfl
  | step _ hk j u ih => rw [← ih]; simp [World.setCell]
theorem Marks.block {P : Nat → Prop} {w w' : World} (h : Marks P w w') {k : Nat} (hk : ¬ P k) : w'.heap[k]? = w.heap[k]? := by
  induction h with
  | refl => rfl
  | step _ hb j u ih => rw [← ih]; exact heap_setCell_other _ _ k _ (fun e => hk (by rw [e]; exact hb))
theorem map_set_int (ds : List Int) (j : Nat) (u : Int) : (ds.map (Value.int .i64)).set j (.int .i64 u) = (ds.set j u).map (Value.int .i64) := by
  rw [List.map_set]
theorem OwnI.setAny {w : World} {base : Nat} {v : Value} {ds : List Int} (h : OwnI w base v ds) (b j : Nat) (u : Int) : ∃ ds', ds'.length = ds.length ∧ OwnI (w.setCell ⟨b, j, none⟩ (.int .i64 u)) base v ds' := by
  have h' := h
  rcases h.2 with ⟨rfl, hn⟩ | ⟨g, cap, cur, rfl, hb, hg, rest⟩
  · exact ⟨ds, rfl, by simp [hn], .inl ⟨rfl, hn⟩⟩
  · by_cases hgb : g = b
    · subst hgb
      refine ⟨ds.set j u, by simp, ?_⟩
      have hs := (World.ownsRow.stored h j (.int .i64 u)).1
      rw [map_set_int] at hs
      unfold OwnI
      rw [List.length_set]
      exact hs
    · refine ⟨ds, rfl, h.1, .inr ⟨g, cap, cur, rfl, hb, ?_, rest⟩⟩
      rw [heap_setCell_other _ _ _ _ (by simpa using hgb)]
      exact hg
theorem Marks.ownI {P : Nat → Prop} {w w' : World} (h : Marks P w w') {base : Nat} {v : Value} {ds : List Int} (ho : OwnI w base v ds) : ∃ ds', ds'.length = ds.length ∧ OwnI w' base v ds' := by
  induction h with
  | refl => exact ⟨ds, rfl, ho⟩
  | step _ hb j u ih =>
    obtain ⟨d1, l1, o1⟩ := ih
    obtain ⟨d2, l2, o2⟩ := o1.setAny _ j u
    exact ⟨d2, l2.trans l1, o2⟩
/-- k, k + 1, .. -/
def upto (k : Int) (n : Nat) : List Int := (List.range n).map (fun (i : Nat) => k + (i : Int))
theorem upto_len (k : Int) (n : Nat) : (upto k n).length = n := by simp [upto]
theorem upto_get (k : Int) {n i : Nat} (h : i < n) : (upto k n)[i]? = some (k + i) := by simp [upto, h]
/-- the first j are marked -/
def marked (k : Int) (ds : List Int) (j : Nat) : List Int := upto k j ++ ds.drop j
theorem marked_len (k : Int) (ds : List Int) {j : Nat} (h : j ≤ ds.length) : (marked k ds j).length = ds.length := by simp [marked, upto_len]; omega
theorem marked_set (k : Int) (ds : List Int) {j : Nat} (h : j < ds.length) : (marked k ds j).set j (k + j) = marked k ds (j + 1) := by
  unfold marked
  rw [List.set_append_right _ _ (by rw [upto_len]; exact Nat.le_refl _), upto_len, Nat.sub_self, List.drop_eq_getElem_cons h, List.set_cons_zero]
  simp [upto, List.range_succ]
end Go.Proofs.Ytcapccadpbiecaa

namespace Go.Proofs.Ytcapccadpbiecaa
open Go.RowKit Go.Sort
theorem Marks.chg {P : Nat → Prop} {w w' : World} (h : Marks P w w') : Chg P w w' := by
  induction h with
  | refl => exact ⟨rfl, rfl, rfl, Nat.le_refl _, fun _ _ _ => rfl⟩
  | step h hb j u ih =>
    refine ⟨ih.os, ih.tape, ih.output, Nat.le_trans ih.size (by simp [World.setCell]), fun k hk hn => ?_⟩
    rw [Below.heap_setCell _ _ _ _ (fun e => hn (by rw [e]; exact hb))]
    exact ih.block k hk hn
def rowN (A : Option Addr) (n c : Nat) (ds : List Int) : Ent := .row (.slice A n c) 2 1 n (ds.map (Value.int .i64))
theorem Kn.marks {w0 w w' : World} {m : List Ent} {A : Option Addr} {n c : Nat} {ds ds' : List Int} (h : Kn w0 (rowN A n c ds :: m) w) (hm : Marks (fun b => (Value.slice A n c).ownBlock = some b) w w') (ho : OwnI w' 0 (.slice A n c) ds') (hl : ds'.length = n) : Kn w0 (rowN A n c ds' :: m) w' := by
  subst hl
  exact h.upd (e' := rowN A ds'.length c ds') hm.chg ho (fun k hk => .inl hk)
theorem Kn.ownN {w0 w : World} {m : List Ent} {A : Option Addr} {n c : Nat} {ds : List Int} (h : Kn w0 (rowN A n c ds :: m) w) : OwnI w 0 (.slice A n c) ds ∧ ds.length = n := by
  have h1 : w.ownsRow 0 2 1 (.slice A n c) n (ds.map (Value.int .i64)) := h.at0
  have h2 := h1.1
  rw [List.length_map, Nat.mul_one] at h2
  subst h2
  exact ⟨h1, rfl⟩
theorem Kn.riN {w0 w : World} {m : List Ent} {A : Option Addr} {n c : Nat} {ds : List Int} (h : Kn w0 (rowN A n c ds :: m) w) : RI w A n ds := h.ownN.1.ri
theorem Kn.tail3 {w0 w : World} {m : List Ent} {a b c d : Ent} (h : Kn w0 (a :: b :: c :: d :: m) w) : Kn w0 (b :: c :: d :: a :: m) w := h.perm (List.perm_middle (a := a) (l₁ := [b, c, d]) (l₂ := m)).symm
theorem Kn.rot3 {w0 w : World} {m : List Ent} {b c d : Ent} (h : Kn w0 (b :: c :: d :: m) w) : Kn w0 (c :: d :: b :: m) w := h.perm (List.perm_middle (a := b) (l₁ := [c, d]) (l₂ := m)).symm
theorem Kn.addN {w0 w w' : World} {m : List Ent} {A : Option Addr} {n c : Nat} {ds : List Int} (h : Kn w0 m w) (hb : Below w.heap.size w w') (ho : OwnI w' w.heap.size (.slice A n c) ds) (hl : ds.length = n) : Kn w0 (rowN A n c ds :: m) w' := by
  subst hl
  exact h.addI hb ho
theorem lf_small {left n : Int} (h : ¬ lft left n < 0) (hl : left ≤ 1048576) : n ≤ 1048576 := by unfold lft at h; split at h <;> omega
theorem lf3_small {n1 n2 n3 : Int} (p1 : 0 ≤ n1) (p2 : 0 ≤ n2) (_p3 : 0 ≤ n3) (h : ¬ lft3 1048576 n1 n2 n3 < 0) : n1 ≤ 1048576 ∧ n2 ≤ 1048576 ∧ n3 ≤ 1048576 := by
  unfold lft3 at h
  split at h
  · omega
  · rename_i k1
    split at h
    · omega
    · rename_i k2
      have h1 := lf_small k1 (Int.le_refl _)
      have b1 := lft_bd 1048576 n1 (by omega) p1
      have h2 := lf_small k2 b1.2
      have b2 := lft_bd _ n2 b1.1 p2
      have h3 := lf_small h (by omega)
      exact ⟨h1, h2, h3⟩
theorem lf3_lo (n1 n2 n3 : Int) (p1 : 0 ≤ n1) (p2 : 0 ≤ n2) (p3 : 0 ≤ n3) : lft3 1048576 n1 n2 n3 ≤ 1048576 ∧ -1 ≤ lft3 1048576 n1 n2 n3 := by
  unfold lft3
  have b1 := lft_bd 1048576 n1 (by omega) p1
  have b2 := lft_bd _ n2 b1.1 p2
  have b3 := lft_bd _ n3 b2.1 p3
  split
  · omega
  · split <;> omega
end Go.Proofs.Ytcapccadpbiecaa

namespace Go.Proofs.Ytcapccadpbiecaa
open Go.RowKit Go.Sort
def dvStart (t : Tri) (x y : Int) : Tri := ⟨⟨t.a.base, digD t.a.base t.a.digits.length y⟩, ⟨t.b.base, digD t.b.base t.b.digits.length x⟩, ⟨t.s.base, digD t.s.base t.s.digits.length 0⟩, 0⟩
def dvC (t : Tri) (x y : Int) : Int :=
  if vmach t = false then 1 else if betB x 0 (pw t.b.base t.b.digits.length - 1) = false then 2 else if betB y 1 (pw t.a.base t.a.digits.length - 1) = false then 2 else if pw t.a.base (vplaces t).toNat ≤ x.tdiv y then 5 else 0
noncomputable def dvEnd (t : Tri) (x y : Int) : RS := endR (divProg (vplaces t).toNat) (dvStart t x y)
noncomputable def dvQ (t : Tri) (x y : Int) : Int := if dvC t x y = 0 then (pw t.s.base t.s.digits.length - valL (dvEnd t x y).m.s.base (dvEnd t x y).m.s.digits).tmod (pw t.s.base t.s.digits.length) else 0
noncomputable def dvR (t : Tri) (x y : Int) : Int := if dvC t x y = 0 then valL (dvEnd t x y).m.b.base (dvEnd t x y).m.b.digits else 0
noncomputable def dvN (t : Tri) (x y : Int) : Int := if dvC t x y = 0 then ((dvEnd t x y).tr.length : Int) else 0
def DVRet (t : Tri) (x y : Int) (w : World) (e : Ending) (w' : World) : Prop := e = .returned (.tuple #[.int .i64 (dvQ t x y), .int .i64 (dvR t x y), .int .i64 (dvN t x y), .int .i64 (dvC t x y)]) ∧ Below w.heap.size w w'
theorem dv_code {t : Tri} {x y c : Int} (h : dvC t x y = c) (hc : ¬ c = 0) : dvQ t x y = 0 ∧ dvR t x y = 0 ∧ dvN t x y = 0 ∧ dvC t x y = c := by
  refine ⟨?_, ?_, ?_, h⟩
  · unfold dvQ; rw [h, if_neg hc]
  · unfold dvR; rw [h, if_neg hc]
  · unfold dvN; rw [h, if_neg hc]
theorem dv_fine {t : Tri} {x y : Int} (h : dvC t x y = 0) {s : RS} {b : Bool} (he : Ev (divProg (vplaces t).toNat) (.run 0 (divProg (vplaces t).toNat).length) (startR (dvStart t x y)) s b) :
    dvQ t x y = (pw t.s.base t.s.digits.length - valL s.m.s.base s.m.s.digits).tmod (pw t.s.base t.s.digits.length) ∧ dvR t x y = valL s.m.b.base s.m.b.digits ∧ dvN t x y = (s.tr.length : Int) ∧ dvC t x y = 0 := by
  have h1 : dvEnd t x y = s := endR_eq he
  refine ⟨?_, ?_, ?_, h⟩
  · unfold dvQ; rw [h, h1, if_pos rfl]
  · unfold dvR; rw [h, h1, if_pos rfl]
  · unfold dvN; rw [h, h1, if_pos rfl]
theorem dvStart_ok {t : Tri} {x y : Int} (hv : vmach t = true) (hx : betB x 0 (pw t.b.base t.b.digits.length - 1) = true) (hy : betB y 1 (pw t.a.base t.a.digits.length - 1) = true) : vmach (dvStart t x y) = true := by
  obtain ⟨k1, k2, k3, e1, e2, f1, f2, l1, p0, p1⟩ := vmach_all hv
  obtain ⟨⟨b1, b2⟩, ⟨n1, n2⟩, -⟩ := vreg_iff.1 k1
  obtain ⟨⟨b3, b4⟩, ⟨n3, n4⟩, -⟩ := vreg_iff.1 k2
  obtain ⟨⟨b5, b6⟩, ⟨n5, n6⟩, -⟩ := vreg_iff.1 k3
  have hx' := betB_iff.1 hx
  have hy' := betB_iff.1 hy
  have hm := pw_mono t.a.base (by omega) _ _ l1
  rw [← e1] at f1
  rw [← e1] at hx'
  refine vmach_mk (t := dvStart t x y) (digD_vreg _ b1 b2 _ (by omega) (by omega) y (by omega) (by omega) (by omega)) (digD_vreg _ b3 b4 _ (by omega) (by omega) x (by omega) (by rw [← e1]; omega) (by omega)) (zero_ok k3) e1 e2 ?_ ?_ ?_ (by simp [dvStart]) ?_
  · simp only [dvStart, digD_len]; rw [← e1]; exact f1
  · simp only [dvStart, digD_len]; exact f2
  · simp only [dvStart, digD_len]; exact l1
  · simp only [dvStart, vplaces, digD_len]; unfold vplaces at p1; omega
theorem vplaces_bd {t : Tri} (hv : vmach t = true) : 1 ≤ (vplaces t).toNat ∧ (vplaces t).toNat ≤ 16 ∧ ((vplaces t).toNat : Int) = vplaces t ∧ pw t.a.base (vplaces t).toNat ≤ 1000000000001 ∧ 1 ≤ pw t.a.base (vplaces t).toNat := by
  obtain ⟨k1, k2, k3, e1, e2, f1, f2, l1, p0, p1⟩ := vmach_all hv
  obtain ⟨⟨b1, b2⟩, ⟨n1, n2⟩, -⟩ := vreg_iff.1 k1
  obtain ⟨-, ⟨n5, n6⟩, -⟩ := vreg_iff.1 k3
  have h1 : vplaces t ≤ t.s.digits.length := by unfold vplaces; omega
  have hm := pw_mono t.a.base b1 (vplaces t).toNat t.s.digits.length (by omega)
  rw [e2] at f2
  rw [← e1] at f2
  exact ⟨by omega, by omega, by omega, by omega, pw_pos _ b1 _⟩
set_option maxRecDepth 100000 in
set_option maxHeartbeats 3200000 in
theorem DivideOn_any (t : Tri) (A1 A2 A3 : Option Addr) (c1 c2 c3 : Nat) (x y : Int) (w : World) (r1 : RI w A1 t.a.digits.length t.a.digits) (r2 : RI w A2 t.b.digits.length t.b.digits) (r3 : RI w A3 t.s.digits.length t.s.digits) (hs : SmallTri t) :
    Calls Try.prog 8 #[.agg #[.int .i64 t.a.base, .slice A1 t.a.digits.length c1, .int .i64 t.b.base, .slice A2 t.b.digits.length c2, .int .i64 t.s.base, .slice A3 t.s.digits.length c3, .int .i64 t.carry], .int .i64 x, .int .i64 y] w (DVRet t x y w) := by
  have KV := (fun W (hW : Below w.heap.size w W) => ValidMachine_any t A1 A2 A3 c1 c2 c3 W (r1.below hW) (r2.below hW) (r3.below hW) hs)
  rcases hv : vmach t with _ | _
  · rw [hv] at KV
    have HB := Lib.hid (dv_code (t := t) (x := x) (y := y) (c := 1) (by unfold dvC; rw [if_pos hv]) (by decide))
    have KV := Lib.hid KV
    clear hv r1 r2 r3 hs
    go_enter Try.func8, Try.ntmps8
    go_wp2_with fail
    refine Calls.kn ((Kn.nil w).al [.int .i64 t.a.base, .slice A1 t.a.digits.length c1, .int .i64 t.b.base, .slice A2 t.b.digits.length c2, .int .i64 t.s.base, .slice A3 t.s.digits.length c3, .int .i64 t.carry] 28) ?_; intro w1 hK0
    refine (KV.out _ hK0.below).mono ?_; rintro e w2 ⟨rfl, hw⟩
    have hK1 := hK0.keep hw
    go_wp2_with fail
    refine bodyPost_ret (v := .tuple #[.int .i64 0, .int .i64 0, .int .i64 0, .int .i64 1]) (by simp [results, Try.results8, go_sem]) rfl ⟨?_, hK1.below⟩
    rw [HB.out.1, HB.out.2.1, HB.out.2.2.1, HB.out.2.2.2]
  obtain ⟨k1, k2, k3, e1, e2, f1, f2, l1, p0, p1⟩ := vmach_all hv
  obtain ⟨⟨b1, b2⟩, ⟨n1, n2⟩, -⟩ := vreg_iff.1 k1
  obtain ⟨⟨b3, b4⟩, ⟨n3, n4⟩, -⟩ := vreg_iff.1 k2
  obtain ⟨⟨b5, b6⟩, ⟨n5, n6⟩, -⟩ := vreg_iff.1 k3
  have hmo := pw_mono t.a.base b1 _ _ l1
  rw [e1] at hmo
  have pb := pw_pos t.b.base b3 t.b.digits.length
  have pa := pw_pos t.a.base b1 t.a.digits.length
  rw [← e1] at hmo
  have pa2 : pw t.a.base t.a.digits.length ≤ 1000000000001 := by rw [e1] at hmo ⊢; omega
  have KN2 := (fun W => values_any t.b.base A2 t.b.digits.length c2 W b3 b4 (by omega))
  have hp2 : powC t.b.base t.b.digits.length = pw t.b.base t.b.digits.length := by unfold powC; rw [if_pos f1]
  rw [hp2] at KN2
  have KN1 := (fun W => values_any t.a.base A1 t.a.digits.length c1 W b1 b2 (by omega))
  have hp1 : powC t.a.base t.a.digits.length = pw t.a.base t.a.digits.length := by unfold powC; rw [if_pos pa2]
  rw [hp1] at KN1
  rw [hv] at KV
  have hC0 : dvC t x y = if betB x 0 (pw t.b.base t.b.digits.length - 1) = false then 2 else if betB y 1 (pw t.a.base t.a.digits.length - 1) = false then 2 else if pw t.a.base (vplaces t).toNat ≤ x.tdiv y then 5 else 0 := by unfold dvC; rw [if_neg (by rw [hv]; decide)]
  rcases hx : betB x 0 (pw t.b.base t.b.digits.length - 1) with _ | _
  · have KB := Lib.hid (fun W => calls_val (between_B x 0 (pw t.b.base t.b.digits.length - 1) W) (congrArg Value.bool hx))
    have HB := Lib.hid (dv_code (t := t) (x := x) (y := y) (c := 2) (by rw [hC0, if_pos hx]) (by decide))
    obtain ⟨N2, hN2⟩ : ∃ N, pw t.b.base t.b.digits.length = N := ⟨_, rfl⟩
    rw [hN2] at KN2 f1 pb
    have KB := KB.out
    rw [hN2] at KB
    have KB := Lib.hid KB
    have KV := Lib.hid KV
    have KN2 := Lib.hid KN2
    clear hv r1 r2 r3 hs k1 k2 k3 hx hN2 hmo pa2 pa hp1 hp2 hC0 KN1 e1 e2 f2 l1 p0 p1
    go_enter Try.func8, Try.ntmps8
    go_wp2_with fail
    refine Calls.kn ((Kn.nil w).al [.int .i64 t.a.base, .slice A1 t.a.digits.length c1, .int .i64 t.b.base, .slice A2 t.b.digits.length c2, .int .i64 t.s.base, .slice A3 t.s.digits.length c3, .int .i64 t.carry] 28) ?_; intro w1 hK0
    refine (KV.out _ hK0.below).mono ?_; rintro e w2 ⟨rfl, hw⟩
    have hK1 := hK0.keep hw
    clear hK0 hw
    obtain ⟨a1, a2, a3, -⟩ := hK1.cells
    go_wp2_with fail
    refine (KN2.out _).mono ?_; rintro e w3 ⟨rfl, hw⟩
    have hK2 := hK1.keep hw
    clear hK1 hw a1 a2 a3
    obtain ⟨a1, a2, a3, -⟩ := hK2.cells
    go_wp2_with fail
    refine (KB.out _).mono ?_; rintro e w4 ⟨rfl, hw⟩
    have hK3 := hK2.keep hw
    go_wp2_with fail
    refine bodyPost_ret (v := .tuple #[.int .i64 0, .int .i64 0, .int .i64 0, .int .i64 2]) (by simp [results, Try.results8, go_sem]) rfl ⟨?_, hK3.below⟩
    rw [HB.out.1, HB.out.2.1, HB.out.2.2.1, HB.out.2.2.2]
  have hx' := betB_iff.1 hx
  have KB := (fun W => calls_val (between_B x 0 (pw t.b.base t.b.digits.length - 1) W) (congrArg Value.bool hx))
  rcases hy : betB y 1 (pw t.a.base t.a.digits.length - 1) with _ | _
  · have KB2 := (fun W => calls_val (between_B y 1 (pw t.a.base t.a.digits.length - 1) W) (congrArg Value.bool hy))
    have HB := Lib.hid (dv_code (t := t) (x := x) (y := y) (c := 2) (by rw [hC0, if_neg (by rw [hx]; decide), if_pos hy]) (by decide))
    obtain ⟨N2, hN2⟩ : ∃ N, pw t.b.base t.b.digits.length = N := ⟨_, rfl⟩
    obtain ⟨N1, hN1⟩ : ∃ N, pw t.a.base t.a.digits.length = N := ⟨_, rfl⟩
    rw [hN2] at KN2 f1 pb KB
    rw [hN1] at KN1 pa pa2 KB2
    have KB := Lib.hid KB
    have KB2 := Lib.hid KB2
    have KV := Lib.hid KV
    have KN2 := Lib.hid KN2
    have KN1 := Lib.hid KN1
    clear hv r1 r2 r3 hs k1 k2 k3 hx hy hN2 hN1 hmo hp1 hp2 hC0 e1 e2 f2 l1 p0 p1 hx'
    go_enter Try.func8, Try.ntmps8
    go_wp2_with fail
    refine Calls.kn ((Kn.nil w).al [.int .i64 t.a.base, .slice A1 t.a.digits.length c1, .int .i64 t.b.base, .slice A2 t.b.digits.length c2, .int .i64 t.s.base, .slice A3 t.s.digits.length c3, .int .i64 t.carry] 28) ?_; intro w1 hK0
    refine (KV.out _ hK0.below).mono ?_; rintro e w2 ⟨rfl, hw⟩
    have hK1 := hK0.keep hw
    clear hK0 hw
    obtain ⟨a1, a2, a3, -⟩ := hK1.cells
    go_wp2_with fail
    refine (KN2.out _).mono ?_; rintro e w3 ⟨rfl, hw⟩
    have hK2 := hK1.keep hw
    clear hK1 hw a1 a2 a3
    obtain ⟨a1, a2, a3, -⟩ := hK2.cells
    go_wp2_with fail
    refine (KB.out _).mono ?_; rintro e w4 ⟨rfl, hw⟩
    have hK3 := hK2.keep hw
    clear hK2 hw a1 a2 a3
    obtain ⟨a1, a2, a3, -⟩ := hK3.cells
    go_wp2_with fail
    refine (KN1.out _).mono ?_; rintro e w5 ⟨rfl, hw⟩
    have hK4 := hK3.keep hw
    clear hK3 hw a1 a2 a3
    obtain ⟨a1, a2, a3, -⟩ := hK4.cells
    go_wp2_with fail
    refine (KB2.out _).mono ?_; rintro e w6 ⟨rfl, hw⟩
    have hK5 := hK4.keep hw
    clear hK4 hw a1 a2 a3
    go_wp2_with fail
    refine bodyPost_ret (v := .tuple #[.int .i64 0, .int .i64 0, .int .i64 0, .int .i64 2]) (by simp [results, Try.results8, go_sem]) rfl ⟨?_, hK5.below⟩
    rw [HB.out.1, HB.out.2.1, HB.out.2.2.1, HB.out.2.2.2]
  have hy' := betB_iff.1 hy
  have KB2 := (fun W => calls_val (between_B y 1 (pw t.a.base t.a.digits.length - 1) W) (congrArg Value.bool hy))
  obtain ⟨vp1, vp2, vp3, vp4, vp5⟩ := vplaces_bd hv
  have KP := (fun W (hW : Below w.heap.size w W) => places_any t A1 A2 A3 c1 c2 c3 W (r1.below hW) (r2.below hW) (r3.below hW) n2 n4 n6)
  have KW := (fun W => power_B t.a.base (vplaces t).toNat W b1 b2 (by omega))
  have hpw : powC t.a.base (vplaces t).toNat = pw t.a.base (vplaces t).toNat := by unfold powC; rw [if_pos vp4]
  rw [hpw, vp3] at KW
  have KD := (fun W => divideProgram_any (vplaces t).toNat W vp1 vp2)
  rw [vp3] at KD
  have hxy : 0 ≤ x.tdiv y ∧ x.tdiv y ≤ 1000000000001 := by
    rw [Int.tdiv_eq_ediv_of_nonneg hx'.1]
    have := Int.ediv_le_self y hx'.1
    exact ⟨Int.ediv_nonneg hx'.1 (by omega), by omega⟩
  have hqw : IntKind.i64.wrap (x.tdiv y) = x.tdiv y := wrapI64 (by omega)
  have ny1 : y ≠ 0 := by omega
  have ny2 : (y == 0) = false := by simp; omega
  have hC1 : dvC t x y = if pw t.a.base (vplaces t).toNat ≤ x.tdiv y then 5 else 0 := by rw [hC0, if_neg (by rw [hx]; decide), if_neg (by rw [hy]; decide)]
  have hst := dvStart_ok hv hx hy
  obtain ⟨N2, hN2⟩ : ∃ N, pw t.b.base t.b.digits.length = N := ⟨_, rfl⟩
  obtain ⟨N1, hN1⟩ : ∃ N, pw t.a.base t.a.digits.length = N := ⟨_, rfl⟩
  obtain ⟨PW, hPW⟩ : ∃ N, pw t.a.base (vplaces t).toNat = N := ⟨_, rfl⟩
  obtain ⟨PL, hPL⟩ : ∃ N, (vplaces t) = N := ⟨_, rfl⟩
  have hdq : pw t.a.base (vplaces t).toNat ≤ x.tdiv y ↔ PW ≤ x.tdiv y := by rw [hPW]
  rw [hN2] at KN2 f1 pb KB hx'
  rw [hN1] at KN1 pa pa2 KB2 hy'
  rw [hPW] at KW vp4 vp5
  obtain ⟨XY, hXY⟩ : ∃ q, x.tdiv y = q := ⟨_, rfl⟩
  have KC := (fun W => clearedM_any t A1 A2 A3 c1 c2 c3 W ⟨b1, b2⟩ ⟨b3, b4⟩ ⟨b5, b6⟩ (sized_of hv))
  have hszc : Sized (clrT t) := by have := sized_of hv; exact ⟨by simp only [clrT, digD_len]; exact this.a0, by simp only [clrT, digD_len]; exact this.b0, by simp only [clrT, digD_len]; exact this.s0, by simp only [clrT, digD_len]; exact this.a, by simp only [clrT, digD_len]; exact this.b, by simp only [clrT, digD_len]; exact this.s⟩
  have KS := (fun (B1 B2 B3 : Option Addr) (h1 h2 h3 : Nat) W q1 q2 q3 => withSetting_any (clrT t) B1 B2 B3 h1 h2 h3 y W q1 q2 q3 hszc b1 b2 (by omega) (by omega))
  have KX := (fun W => withValue_any t.b.base A2 t.b.digits.length c2 x W b3 b4 (by omega) (by omega) (by omega))
  simp only [clrT, digD_len, rowI] at KS KC KX
  have KN3 := (fun (A3 : Option Addr) (c3 : Nat) W => values_any t.s.base A3 t.s.digits.length c3 W b5 b6 (by omega))
  have hp3 : powC t.s.base t.s.digits.length = pw t.s.base t.s.digits.length := by unfold powC; rw [if_pos f2]
  rw [hp3] at KN3
  have p3 := pw_pos t.s.base b5 t.s.digits.length
  have KRP := (fun (LA : Option Addr) (lc : Nat) (E1 : Option Addr) (g1 : Nat) (E2 : Option Addr) (g2 : Nat) (E3 : Option Addr) (g3 : Nat) W q1 q2 q3 hq => runProgram_any (lc := lc) (LA := LA) (n := (divProg (vplaces t).toNat).length) (dvStart t x y) E1 E2 E3 g1 g2 g3 W q1 q2 q3 hst (divProg_ok vp1 vp2) hq)
  unfold RunPI at KRP
  simp only [dvStart, digD_len] at KRP
  have H5 := Lib.hid (fun (h : PW ≤ XY) => dv_code (t := t) (x := x) (y := y) (c := 5) (by rw [hC1, if_pos (hdq.2 (by rw [hXY]; exact h))]) (by decide))
  have H0 := Lib.hid (fun (h : ¬ PW ≤ XY) => show dvC t x y = 0 by rw [hC1, if_neg (fun h2 => h (by rw [← hXY]; exact hdq.1 h2))])
  have hdf := (fun (s : RS) (b : Bool) h he => dv_fine (t := t) (x := x) (y := y) (s := s) (b := b) h he)
  unfold dvStart at hdf
  obtain ⟨N3, hN3⟩ : ∃ N, pw t.s.base t.s.digits.length = N := ⟨_, rfl⟩
  rw [hN3] at KN3 f2 p3 hdf
  obtain ⟨ds, hds⟩ : ∃ l, digD t.a.base t.a.digits.length y = l := ⟨_, rfl⟩
  obtain ⟨es, hes⟩ : ∃ l, digD t.b.base t.b.digits.length x = l := ⟨_, rfl⟩
  obtain ⟨fs, hfs⟩ : ∃ l, digD t.s.base t.s.digits.length 0 = l := ⟨_, rfl⟩
  obtain ⟨zs, hzs⟩ : ∃ l, digD t.b.base t.b.digits.length 0 = l := ⟨_, rfl⟩
  obtain ⟨ys, hys⟩ : ∃ l, digD t.a.base t.a.digits.length 0 = l := ⟨_, rfl⟩
  obtain ⟨ok, hok⟩ : ∃ l, (restD t.a.base t.a.digits.length y == 0) = l := ⟨_, rfl⟩
  obtain ⟨LP, hLP⟩ : ∃ l, divProg (vplaces t).toNat = l := ⟨_, rfl⟩
  rw [hds, hes, hfs] at KRP hdf
  rw [hLP] at KRP KD hdf
  rw [hfs, hzs, hds, hys, hok] at KS
  rw [hfs, hzs, hys] at KC
  rw [hes] at KX
  rw [hPL] at KP KW KD
  have hplb : 0 ≤ PL ∧ PL ≤ 16 := by omega
  rw [hXY] at hqw hxy
  have HQW := Lib.hid hqw
  clear hqw
  have KB := Lib.hid KB
  have KB2 := Lib.hid KB2
  have KV := Lib.hid KV
  have KN2 := Lib.hid KN2
  have KN1 := Lib.hid KN1
  have KN3 := Lib.hid KN3
  have KP := Lib.hid KP
  have KW := Lib.hid KW
  have KD := Lib.hid KD
  have KC := Lib.hid KC
  have KS := Lib.hid KS
  have KX := Lib.hid KX
  have KRP := Lib.hid KRP
  have HDF := Lib.hid hdf
  have HXY := Lib.hid hXY
  clear hv r1 r2 r3 hs k1 k2 k3 hx hy hN2 hN1 hN3 hmo hp1 hp2 hp3 hC0 hC1 e1 e2 l1 p0 p1 hPW hPL hdq hXY hszc hst hdf hds hes hfs hzs hys hok hLP vp1 vp2 vp3 hpw
  go_enter Try.func8, Try.ntmps8
  go_wp2_with fail
  refine Calls.kn ((Kn.nil w).al [.int .i64 t.a.base, .slice A1 t.a.digits.length c1, .int .i64 t.b.base, .slice A2 t.b.digits.length c2, .int .i64 t.s.base, .slice A3 t.s.digits.length c3, .int .i64 t.carry] 28) ?_; intro w1 hK0
  refine (KV.out _ hK0.below).mono ?_; rintro e w2 ⟨rfl, hw⟩
  have hK1 := hK0.keep hw
  clear hK0 hw
  obtain ⟨a1, a2, a3, -⟩ := hK1.cells
  go_wp2_with fail
  refine (KN2.out _).mono ?_; rintro e w3 ⟨rfl, hw⟩
  have hK2 := hK1.keep hw
  clear hK1 hw a1 a2 a3
  obtain ⟨a1, a2, a3, -⟩ := hK2.cells
  go_wp2_with fail
  refine (KB.out _).mono ?_; rintro e w4 ⟨rfl, hw⟩
  have hK3 := hK2.keep hw
  clear hK2 hw a1 a2 a3
  obtain ⟨a1, a2, a3, -⟩ := hK3.cells
  go_wp2_with fail
  refine (KN1.out _).mono ?_; rintro e w5 ⟨rfl, hw⟩
  have hK4 := hK3.keep hw
  clear hK3 hw a1 a2 a3
  obtain ⟨a1, a2, a3, -⟩ := hK4.cells
  go_wp2_with fail
  refine (KB2.out _).mono ?_; rintro e w6 ⟨rfl, hw⟩
  have hK5 := hK4.keep hw
  clear hK4 hw a1 a2 a3
  go_wp2_with fail
  have HG := Lib.hid (box7 hK5.drew)
  go_cut [43] (fun bb wx => bb = .bool (decide (PW ≤ XY)) ∧ Kn w [.blk w.heap.size [.int .i64 t.a.base, .slice A1 t.a.digits.length c1, .int .i64 t.b.base, .slice A2 t.b.digits.length c2, .int .i64 t.s.base, .slice A3 t.s.digits.length c3, .int .i64 t.carry] 28] wx)
  case first =>
    go_region_held3 (fun W => W.cell? ⟨w.heap.size, 0, none⟩ = some (.int .i64 t.a.base) ∧ W.cell? ⟨w.heap.size, 1, none⟩ = some (.slice A1 t.a.digits.length c1) ∧ W.cell? ⟨w.heap.size, 2, none⟩ = some (.int .i64 t.b.base) ∧ W.cell? ⟨w.heap.size, 3, none⟩ = some (.slice A2 t.b.digits.length c2) ∧ W.cell? ⟨w.heap.size, 4, none⟩ = some (.int .i64 t.s.base) ∧ W.cell? ⟨w.heap.size, 5, none⟩ = some (.slice A3 t.s.digits.length c3) ∧ W.cell? ⟨w.heap.size, 6, none⟩ = some (.int .i64 t.carry)) (first | with_reducible exact HG.out | exact HG.out) (first
      | (go_at_call 60; (with_reducible refine (KP.out _ hK5.drew.below).mono ?_); rintro e w7 ⟨rfl, hw⟩; have hK6 := hK5.drew.keep hw; clear HG; have HG := Lib.hid (box7 hK6))
      | (go_at_call 59; (with_reducible refine (KW.out _).mono ?_); rintro e w8 ⟨rfl, hw⟩; have hK7 := hK6.keep hw; clear HG; have HG := Lib.hid (box7 hK7)))
    all_goals
      go_wp2_with fail
      go_meet
      exact ⟨by rw [HXY.out, HQW.out], hK7⟩
  case rest =>
    obtain ⟨rfl, hK8⟩ := hcut
    clear HG hK5
    obtain ⟨a1, a2, a3, -⟩ := hK8.cells
    rcases hle : decide (PW ≤ XY) with _ | _
    rotate_left
    · have HB := Lib.hid (H5.out (of_decide_eq_true hle))
      clear hle
      go_wp2_with fail
      refine bodyPost_ret (v := .tuple #[.int .i64 0, .int .i64 0, .int .i64 0, .int .i64 5]) (by simp [results, Try.results8, go_sem]) rfl ⟨?_, hK8.below⟩
      rw [HB.out.1, HB.out.2.1, HB.out.2.2.1, HB.out.2.2.2]
    have HZ := Lib.hid (H0.out (by simpa using hle))
    clear hle
    go_wp2_with fail
    refine (KC.out _).mono ?_; rintro e w9 ⟨B1, h1, B2, h2, B3, h3, rfl, hKc⟩
    have hK9 : Kn w [rowN B3 t.s.digits.length h3 fs, rowN B2 t.b.digits.length h2 zs, rowN B1 t.a.digits.length h1 ys, .blk w.heap.size [.int .i64 t.a.base, .slice A1 t.a.digits.length c1, .int .i64 t.b.base, .slice A2 t.b.digits.length c2, .int .i64 t.s.base, .slice A3 t.s.digits.length c3, .int .i64 t.carry] 28] w9 := hK8.join hKc
    clear hK8 hKc a1 a2 a3
    obtain ⟨a1, a2, a3, -⟩ := hK9.cells
    go_wp2_with fail
    refine (KS.out _ _ _ _ _ _ _ (Kn.riN hK9.drop.drop) (Kn.riN hK9.drop) (Kn.riN hK9)).mono ?_; rintro e w10 ⟨E1, g1, E2, g2, E3, g3, rfl, hKs⟩
    have hK10 : Kn w [rowN E3 t.s.digits.length g3 fs, rowN E2 t.b.digits.length g2 zs, rowN E1 t.a.digits.length g1 ds, .blk w.heap.size [.int .i64 t.a.base, .slice A1 t.a.digits.length c1, .int .i64 t.b.base, .slice A2 t.b.digits.length c2, .int .i64 t.s.base, .slice A3 t.s.digits.length c3, .int .i64 t.carry] 28] w10 := (hK9.drop.drop.drop).join hKs
    clear hK9 hKs a1 a2 a3
    obtain ⟨a1, a2, a3, -⟩ := hK10.cells
    go_wp2_with fail
    refine Calls.kn (hK10.al [.int .i64 t.a.base, .slice E1 t.a.digits.length g1, .int .i64 t.b.base, .slice E2 t.b.digits.length g2, .int .i64 t.s.base, .slice E3 t.s.digits.length g3, .int .i64 0] 28) ?_; intro w11 hK11
    refine (KX.out _).mono ?_; rintro e w12 ⟨F, f, rfl, hKx⟩
    have hK12 : Kn w [rowN F t.b.digits.length f es, .blk w10.heap.size [.int .i64 t.a.base, .slice E1 t.a.digits.length g1, .int .i64 t.b.base, .slice E2 t.b.digits.length g2, .int .i64 t.s.base, .slice E3 t.s.digits.length g3, .int .i64 0] 28, rowN E3 t.s.digits.length g3 fs, rowN E2 t.b.digits.length g2 zs, rowN E1 t.a.digits.length g1 ds, .blk w.heap.size [.int .i64 t.a.base, .slice A1 t.a.digits.length c1, .int .i64 t.b.base, .slice A2 t.b.digits.length c2, .int .i64 t.s.base, .slice A3 t.s.digits.length c3, .int .i64 t.carry] 28] w12 := hK11.join hKx
    clear hK10 hK11 hKx a1 a2 a3
    obtain ⟨d1, d2, d3, a1, a2, a3, -⟩ := hK12.cells
    go_wp2_with fail
    refine Code.wp.kn ((hK12.sw1.st 2 (.int .i64 t.b.base)).st 3 (.slice F t.b.digits.length f)) ?_; intro w13 hK13
    have hK14 : Kn w [.blk w10.heap.size [.int .i64 t.a.base, .slice E1 t.a.digits.length g1, .int .i64 t.b.base, .slice F t.b.digits.length f, .int .i64 t.s.base, .slice E3 t.s.digits.length g3, .int .i64 0] 28, .blk w.heap.size [.int .i64 t.a.base, .slice A1 t.a.digits.length c1, .int .i64 t.b.base, .slice A2 t.b.digits.length c2, .int .i64 t.s.base, .slice A3 t.s.digits.length c3, .int .i64 t.carry] 28, rowN F t.b.digits.length f es, rowN E3 t.s.digits.length g3 fs, rowN E1 t.a.digits.length g1 ds] w13 := hK13.sel [0, 5, 1, 2, 4] 99 (by decide) (by decide)
    clear hK12 hK13 d1 d2 d3 a1 a2 a3
    go_wp2_with fail
    have HG := Lib.hid (And.intro (box7at hK14.drew 0 rfl) (box7at hK14.drew 1 rfl))
    go_cut [12] (fun pp wx => ∃ (g : Nat) (s : RS) (b' : Bool) (LV : Value) (SA : Option Addr) (sc : Nat) (M1 : Option Addr) (j1 : Nat) (M2 : Option Addr) (j2 : Nat) (M3 : Option Addr) (j3 : Nat), pp = .pointer (some ⟨g, 0, none⟩) ∧ Ev LP (.run 0 LP.length) (startR ⟨⟨t.a.base, ds⟩, ⟨t.b.base, es⟩, ⟨t.s.base, fs⟩, 0⟩) s b' ∧ s.Good ∧
      Kn w [.blk g [.int .i64 s.m.a.base, .slice M1 s.m.a.digits.length j1, .int .i64 s.m.b.base, .slice M2 s.m.b.digits.length j2, .int .i64 s.m.s.base, .slice M3 s.m.s.digits.length j3, .int .i64 s.m.carry, LV, .int .i64 (s.done : Int), .slice SA s.tr.length sc, .int .i64 s.code] 89, rowI M3 j3 s.m.s.digits, rowI M2 j2 s.m.b.digits, .blk w.heap.size [.int .i64 t.a.base, .slice A1 t.a.digits.length c1, .int .i64 t.b.base, .slice A2 t.b.digits.length c2, .int .i64 t.s.base, .slice A3 t.s.digits.length c3, .int .i64 t.carry] 28] wx)
    case first =>
      go_region_held3 (fun W => (W.cell? ⟨w10.heap.size, 0, none⟩ = some (.int .i64 t.a.base) ∧ W.cell? ⟨w10.heap.size, 1, none⟩ = some (.slice E1 t.a.digits.length g1) ∧ W.cell? ⟨w10.heap.size, 2, none⟩ = some (.int .i64 t.b.base) ∧ W.cell? ⟨w10.heap.size, 3, none⟩ = some (.slice F t.b.digits.length f) ∧ W.cell? ⟨w10.heap.size, 4, none⟩ = some (.int .i64 t.s.base) ∧ W.cell? ⟨w10.heap.size, 5, none⟩ = some (.slice E3 t.s.digits.length g3) ∧ W.cell? ⟨w10.heap.size, 6, none⟩ = some (.int .i64 0)) ∧
          (W.cell? ⟨w.heap.size, 0, none⟩ = some (.int .i64 t.a.base) ∧ W.cell? ⟨w.heap.size, 1, none⟩ = some (.slice A1 t.a.digits.length c1) ∧ W.cell? ⟨w.heap.size, 2, none⟩ = some (.int .i64 t.b.base) ∧ W.cell? ⟨w.heap.size, 3, none⟩ = some (.slice A2 t.b.digits.length c2) ∧ W.cell? ⟨w.heap.size, 4, none⟩ = some (.int .i64 t.s.base) ∧ W.cell? ⟨w.heap.size, 5, none⟩ = some (.slice A3 t.s.digits.length c3) ∧ W.cell? ⟨w.heap.size, 6, none⟩ = some (.int .i64 t.carry)))
        (first | with_reducible exact HG.out | exact HG.out) (first
        | (go_at_call 60; (with_reducible refine (KP.out _ hK14.drew.below).mono ?_); rintro e w15 ⟨rfl, hw⟩; have hK15 := hK14.drew.keep hw; clear HG; have HG := Lib.hid (And.intro (box7at hK15 0 rfl) (box7at hK15 1 rfl)))
        | (go_at_call 65; (with_reducible refine (KD.out _).mono ?_); rintro e w16 ⟨LA, lc, rfl, hKd⟩; have hK16 : Kn w [rowIns (.slice LA LP.length lc) LP, .blk w10.heap.size [.int .i64 t.a.base, .slice E1 t.a.digits.length g1, .int .i64 t.b.base, .slice F t.b.digits.length f, .int .i64 t.s.base, .slice E3 t.s.digits.length g3, .int .i64 0] 28, .blk w.heap.size [.int .i64 t.a.base, .slice A1 t.a.digits.length c1, .int .i64 t.b.base, .slice A2 t.b.digits.length c2, .int .i64 t.s.base, .slice A3 t.s.digits.length c3, .int .i64 t.carry] 28, rowN F t.b.digits.length f es, rowN E3 t.s.digits.length g3 fs, rowN E1 t.a.digits.length g1 ds] w16 := hK15.join hKd; clear HG; have HG := Lib.hid (And.intro (box7at hK16 1 rfl) (box7at hK16 2 rfl)))
        | (go_at_call 64; refine (KRP.out _ _ _ _ _ _ _ _ _ (Kn.riN (hK16.sel [5] 99 (by decide) (by decide))) (Kn.riN (hK16.sel [3] 99 (by decide) (by decide))) (Kn.riN (hK16.sel [4] 99 (by decide) (by decide))) (Kn.rlIns hK16).2).mono ?_; rintro e w17 ⟨g, s, b', rfl, he, ⟨SA, sc, M1, j1, M2, j2, M3, j3, hKr⟩, hg⟩; have hK17 := hK16.join hKr; clear HG; have HG := Lib.hid (And.intro (box7at hK17 6 rfl) (box7at hK17 7 rfl))))
      all_goals
        go_wp2_with fail
        go_meet
        exact ⟨_, _, _, _, _, _, _, _, _, _, _, _, rfl, he, hg, hK17.sel [0, 1, 2, 7] 99 (by decide) (by decide)⟩
    case rest =>
      obtain ⟨g, s, b', LV, SA, sc, M1, j1, M2, j2, M3, j3, rfl, he, hg, hK18⟩ := hcut
      have HB := Lib.hid (HDF.out s b' HZ.out he)
      obtain ⟨k1, k2, k3, -, -, g1', g2', -⟩ := vmach_all hg.m
      obtain ⟨⟨y3, y4⟩, ⟨z3, z4⟩, yd2, -⟩ := vreg_iff.1 k2
      obtain ⟨⟨y5, y6⟩, ⟨z5, z6⟩, yd3, -⟩ := vreg_iff.1 k3
      have hv3 := (valL_bd s.m.s.base y5 s.m.s.digits (fun d h => (yd3 d h).1)).1
      have hv3' := valL_lt s.m.s.base y5 s.m.s.digits yd3
      have KVC := Lib.hid (fun W (h : RI W M3 s.m.s.digits.length s.m.s.digits) => value_any s.m.s.base M3 s.m.s.digits.length j3 s.m.s.digits W y5 y6 yd3 h (by omega))
      have KVR := Lib.hid (fun W (h : RI W M2 s.m.b.digits.length s.m.b.digits) => value_any s.m.b.base M2 s.m.b.digits.length j2 s.m.b.digits W y3 y4 yd2 h (by omega))
      obtain ⟨VC, hVC⟩ : ∃ v, valL s.m.s.base s.m.s.digits = v := ⟨_, rfl⟩
      obtain ⟨VR, hVR⟩ : ∃ v, valL s.m.b.base s.m.b.digits = v := ⟨_, rfl⟩
      have KVC := KVC.out
      have KVR := KVR.out
      have HB := HB.out
      rw [hVC] at KVC HB hv3 hv3'
      rw [hVR] at KVR HB
      have KVC := Lib.hid KVC
      have KVR := Lib.hid KVR
      have HB := Lib.hid HB
      have nz1 : N3 ≠ 0 := by omega
      have nz2 : (N3 == 0) = false := by simp; omega
      have hwq := wrapI64 (n := N3 - VC) (by omega)
      clear HG hK14 KP KD KRP k1 k2 k3 hVC hVR y3 y4 y5 y6 yd2 yd3 he hg
      obtain ⟨d1, d2, d3, a1, a2, a3, -⟩ := hK18.cells
      go_wp2_with fail
      refine (KN3.out _ _ _).mono ?_; rintro e w19 ⟨rfl, hw⟩
      have hK19 := hK18.keep hw
      clear hK18 hw a1 a2 a3 d1 d2 d3
      obtain ⟨d1, d2, d3, a1, a2, a3, -⟩ := hK19.cells
      go_wp2_with fail
      refine (KVC.out _ hK19.drop.riv).mono ?_; rintro e w20 ⟨rfl, hw⟩
      have hK20 := hK19.keep hw
      clear hK19 hw a1 a2 a3 d1 d2 d3
      obtain ⟨d1, d2, d3, a1, a2, a3, -⟩ := hK20.cells
      go_wp2_with fail
      have HG := Lib.hid (And.intro (hK20.drew.cellIs 2 (.int .i64 s.m.b.base) rfl) (And.intro (hK20.drew.cellIs 3 (.slice M2 s.m.b.digits.length j2) rfl) (hK20.drew.cellIs 9 (.slice SA s.tr.length sc) rfl)))
      go_region_held3 (fun W => W.cell? ⟨g, 2, none⟩ = some (.int .i64 s.m.b.base) ∧ W.cell? ⟨g, 3, none⟩ = some (.slice M2 s.m.b.digits.length j2) ∧ W.cell? ⟨g, 9, none⟩ = some (.slice SA s.tr.length sc)) (first | with_reducible exact HG.out | exact HG.out) (first
        | (go_at_call 66; (with_reducible refine (KVR.out _ hK20.drew.drop.drop.riv).mono ?_); rintro e w21 ⟨rfl, hw⟩; have hK21 := hK20.drew.keep hw; clear HG; have HG := Lib.hid (And.intro (hK21.cellIs 2 (.int .i64 s.m.b.base) rfl) (And.intro (hK21.cellIs 3 (.slice M2 s.m.b.digits.length j2) rfl) (hK21.cellIs 9 (.slice SA s.tr.length sc) rfl)))))
      all_goals
        go_wp2_with fail
        refine bodyPost_ret (v := .tuple #[.int .i64 ((N3 - VC).tmod N3), .int .i64 VR, .int .i64 s.tr.length, .int .i64 0]) (by simp [results, Try.results8, go_sem]) rfl ⟨?_, hK21.below⟩
        rw [HB.out.1, HB.out.2.1, HB.out.2.2.1, HB.out.2.2.2]
end Go.Proofs.Ytcapccadpbiecaa

namespace Go.Proofs.Ytcapccadpbiecaa
open Go.RowKit Go.Sort
/-! the division, plainly: what the program that divides leaves -/
/-- a machine with values -/
def mchV (b : Int) (n1 n2 n3 : Nat) (y R N c : Int) : Tri := ⟨⟨b, digD b n1 y⟩, ⟨b, digD b n2 R⟩, ⟨b, digD b n3 N⟩, c⟩
structure DvOk (b : Int) (n1 n2 n3 : Nat) (y : Int) : Prop where
  b2 : 2 ≤ b
  y0 : 0 ≤ y
  y1 : y < pw b n1
  p1 : pw b n1 ≤ 1000000000001
  p2 : pw b n2 ≤ 1000000000001
  p3 : pw b n3 ≤ 1000000000001
theorem valL_dig {b : Int} {n : Nat} {v : Int} (hb : 2 ≤ b) (hp : pw b n ≤ 1000000000001) (h0 : 0 ≤ v) (h1 : v < pw b n) : valL b (digD b n v) = v := valL_digD b hb n v h0 h1 (by omega)
theorem turn_mch {b : Int} {n1 n2 n3 : Nat} {y : Int} (h : DvOk b n1 n2 n3 y) {R N c : Int} (hR : 0 ≤ R ∧ R < pw b n2) (hN : 0 ≤ N ∧ N < pw b n3) (sign u : Int) (hu : pw b c.toNat = u) :
    turnT (mchV b n1 n2 n3 y R N c) sign = (mchV b n1 n2 n3 y ((R + sign * (y * u)) % pw b n2) ((N + sign * u) % pw b n3) c, decide (R + sign * (y * u) < 0) || decide (pw b n2 ≤ R + sign * (y * u))) := by
  have q1 := pw_pos b h.b2 n2
  have q2 := pw_pos b h.b2 n3
  simp only [turnT, mchV, shiftD, shiftB, digD_len, hu, valL_dig h.b2 h.p1 h.y0 h.y1, valL_dig h.b2 h.p2 hR.1 hR.2, valL_dig h.b2 h.p3 hN.1 hN.2]
  rw [tmod_wrap _ _ (by omega), tmod_wrap _ _ (by omega)]
/-- one stroke as a program's part -/
theorem run_one {L : List Ins} {i tt : Nat} (hi : i < tt) (hl : i < L.length) {op : Int} (hL : L[i] = ⟨op, 1⟩) (ho : opens op = false) (h1 : ¬ op = 1) {s s' : RS} {b' : Bool} (hc : s.code = 0) (hd : s.done < 3000) {r : Tri × Bool} (hr : strokeT (op - 1) s.m = r)
    (he : Ev L (.run (i + 1) tt) ⟨r.1, s.tr ++ [op - 1], s.done + 1, 0⟩ s' b') : Ev L (.run i tt) s s' (r.2 || b') := by
  have e1 : (L[i]).op = op := by rw [hL]
  have e2 : (L[i]).arg = 1 := by rw [hL]
  have hs : Ev L (.str ((L[i]).op - 1) (max 1 (L[i]).arg).toNat) s ⟨r.1, s.tr ++ [op - 1], s.done + 1, 0⟩ (r.2 || false) := by
    rw [e1, e2]
    have := @Ev.sStep L (op - 1) 0 s ⟨r.1, s.tr ++ [op - 1], s.done + 1, 0⟩ false (by omega) (by rw [hr]; exact Ev.s0)
    rw [hr] at this
    exact this
  have := Ev.rStr hi hl hc (by rw [e1]; exact ho) (by rw [e1]; exact h1) hs he
  simpa using this
theorem dv_loop {L : List Ins} {b : Int} {n1 n2 n3 : Nat} {y : Int} (h : DvOk b n1 n2 n3 y) {c u : Int} (hu : pw b c.toNat = u) {i : Nat} (hl1 : i + 1 < L.length) (hL1 : L[i + 1] = ⟨3, 1⟩) (hD : 0 ≤ y * u) :
    ∀ (q : Nat) (R N : Int) (tr : List Int) (dn k : Nat), 0 ≤ R → R < pw b n2 → 0 ≤ N → N < pw b n3 → (q : Int) * (y * u) ≤ R → R < ((q : Int) + 1) * (y * u) → dn + 2 * (q + 1) ≤ 3000 →
      ∃ tr', Ev L (.loop 9 0 (i + 1) (i + 2) k) ⟨mchV b n1 n2 n3 y R N c, tr, dn, 0⟩ ⟨mchV b n1 n2 n3 y ((R - ((q : Int) + 1) * (y * u)) % pw b n2) ((N - ((q : Int) + 1) * u) % pw b n3) c, tr', dn + 2 * (q + 1), 0⟩ false
  | 0, R, N, tr, dn, k, h0, h1, h2, h3, h4, h5, h6 => by
    have ht := turn_mch h (R := R) (N := N) ⟨h0, h1⟩ ⟨h2, h3⟩ (-1) u hu
    refine ⟨tr ++ [2], ?_⟩
    have hb : R + -1 * (y * u) < 0 := by simp at h5; omega
    have hst : strokeT 2 (mchV b n1 n2 n3 y R N c) = (mchV b n1 n2 n3 y ((R + -1 * (y * u)) % pw b n2) ((N + -1 * u) % pw b n3) c, true) := by
      rw [show strokeT 2 (mchV b n1 n2 n3 y R N c) = turnT (mchV b n1 n2 n3 y R N c) (-1) from rfl, ht, decide_eq_true hb, Bool.true_or]
    have hrun := run_one (L := L) (i := i + 1) (tt := i + 2) (by omega) hl1 hL1 rfl (by decide) (s := ⟨mchV b n1 n2 n3 y R N c, tr, dn + 1, 0⟩) rfl (by show dn + 1 < 3000; omega) hst (Ev.rEnd (by omega))
    have := Ev.lOut (L := L) (op := 9) (arg := 0) (i := i + 1) (e := i + 2) (k := k) (s := ⟨mchV b n1 n2 n3 y R N c, tr, dn, 0⟩) (by omega) (by show ¬ dn = 3000; omega) hrun (.inr ⟨rfl, rfl⟩)
    simpa [Int.sub_eq_add_neg] using this
  | q + 1, R, N, tr, dn, k, h0, h1, h2, h3, h4, h5, h6 => by
    have ht := turn_mch h (R := R) (N := N) ⟨h0, h1⟩ ⟨h2, h3⟩ (-1) u hu
    have q1 := pw_pos b h.b2 n3
    have m1 : ((q + 1 : Nat) : Int) * (y * u) = (q : Int) * (y * u) + y * u := by rw [Int.natCast_succ, Int.add_mul, Int.one_mul]
    have m2 : (((q + 1 : Nat) : Int) + 1) * (y * u) = ((q : Int) + 1) * (y * u) + y * u := by rw [Int.natCast_succ, Int.add_mul, Int.one_mul]
    have m3 : ((q : Int) + 1) * (y * u) = (q : Int) * (y * u) + y * u := by rw [Int.add_mul, Int.one_mul]
    have hqD : 0 ≤ (q : Int) * (y * u) := Int.mul_nonneg (by omega) hD
    have hb : ¬ R + -1 * (y * u) < 0 := by omega
    have hb2 : ¬ pw b n2 ≤ R + -1 * (y * u) := by omega
    have hst : strokeT 2 (mchV b n1 n2 n3 y R N c) = (mchV b n1 n2 n3 y (R - y * u) ((N + -1 * u) % pw b n3) c, false) := by
      rw [show strokeT 2 (mchV b n1 n2 n3 y R N c) = turnT (mchV b n1 n2 n3 y R N c) (-1) from rfl, ht, decide_eq_false hb, decide_eq_false hb2, Int.emod_eq_of_lt (by omega) (by omega), show R + -1 * (y * u) = R - y * u by omega]
      rfl
    have hrun := run_one (L := L) (i := i + 1) (tt := i + 2) (by omega) hl1 hL1 rfl (by decide) (s := ⟨mchV b n1 n2 n3 y R N c, tr, dn + 1, 0⟩) rfl (by show dn + 1 < 3000; omega) hst (Ev.rEnd (by omega))
    obtain ⟨tr', hev⟩ := dv_loop h hu hl1 hL1 hD q (R - y * u) ((N + -1 * u) % pw b n3) (tr ++ [2]) (dn + 2) (k + 1) (by omega) (by omega) (Int.emod_nonneg _ (by omega)) (Int.emod_lt_of_pos _ (by omega)) (by omega) (by omega) (by omega)
    refine ⟨tr', ?_⟩
    have e1 : (R - y * u - ((q : Int) + 1) * (y * u)) % pw b n2 = (R - (((q + 1 : Nat) : Int) + 1) * (y * u)) % pw b n2 := by congr 1; omega
    have e2 : ((N + -1 * u) % pw b n3 - ((q : Int) + 1) * u) % pw b n3 = (N - (((q + 1 : Nat) : Int) + 1) * u) % pw b n3 := by
      rw [Int.sub_eq_add_neg, Int.emod_add_emod]
      congr 1
      rw [Int.natCast_succ, Int.add_mul ((q : Int) + 1) 1 u]; omega
    rw [e1, e2, show dn + 2 + 2 * (q + 1) = dn + 2 * (q + 1 + 1) by omega] at hev
    exact Ev.lStep (L := L) (op := 9) (arg := 0) (i := i + 1) (e := i + 2) (k := k) (s := ⟨mchV b n1 n2 n3 y R N c, tr, dn, 0⟩) (by omega) (by show ¬ dn = 3000; omega) hrun ⟨rfl, by simp⟩ hev
theorem right_str {L : List Ins} {b : Int} {n1 n2 n3 : Nat} {y R N : Int} {p : Int} (hp : ∀ c, vplaces (mchV b n1 n2 n3 y R N c) = p) :
    ∀ (n : Nat) (c : Int) (tr : List Int) (dn : Nat), 0 ≤ c → c + n ≤ p - 1 → dn + n ≤ 3000 →
      ∃ tr', Ev L (.str 3 n) ⟨mchV b n1 n2 n3 y R N c, tr, dn, 0⟩ ⟨mchV b n1 n2 n3 y R N (c + n), tr', dn + n, 0⟩ false
  | 0, c, tr, dn, _, _, _ => ⟨tr, by simpa using Ev.s0⟩
  | n + 1, c, tr, dn, h0, h1, h2 => by
    have hst : strokeT 3 (mchV b n1 n2 n3 y R N c) = (mchV b n1 n2 n3 y R N (c + 1), false) := by
      have : ¬ (mchV b n1 n2 n3 y R N c).carry + 1 = vplaces (mchV b n1 n2 n3 y R N c) := by rw [hp]; show ¬ c + 1 = p; omega
      unfold strokeT
      rw [if_neg (by decide), if_neg (by decide), if_pos rfl, if_neg this]; rfl
    obtain ⟨tr', hev⟩ := right_str hp n (c + 1) (tr ++ [3]) (dn + 1) (by omega) (by omega) (by omega)
    refine ⟨tr', ?_⟩
    rw [show c + 1 + (n : Int) = c + ((n + 1 : Nat) : Int) by omega, show dn + 1 + n = dn + (n + 1) by omega] at hev
    have := @Ev.sStep L 3 n ⟨mchV b n1 n2 n3 y R N c, tr, dn, 0⟩ _ false (by show ¬ dn = 3000; omega) (by rw [hst]; exact hev)
    rw [hst] at this
    exact this
/-- where the parts of the program lie -/
def offP (p : Nat) : Nat := if 1 < p then 1 else 0
theorem div_shape : ∀ p : Fin 17, ∀ j : Fin 17, j.val < p.val → (divProg p.val).length = offP p.val + 5 * p.val - 1 ∧ (divProg p.val)[offP p.val + 5 * j.val]? = some ⟨9, 0⟩ ∧ (divProg p.val)[offP p.val + 5 * j.val + 1]? = some ⟨3, 1⟩ ∧ (divProg p.val)[offP p.val + 5 * j.val + 3]? = some ⟨2, 1⟩ ∧ (j.val + 1 < p.val → (divProg p.val)[offP p.val + 5 * j.val + 4]? = some ⟨5, 1⟩) ∧
    depA (divProg p.val) (offP p.val + 5 * j.val) = 0 ∧ depA (divProg p.val) (offP p.val + 5 * j.val + 1) = 1 ∧ depA (divProg p.val) (offP p.val + 5 * j.val + 2) = 1 ∧ depA (divProg p.val) (offP p.val + 5 * j.val + 3) = 0 := by decide +kernel
theorem div_match {p j : Nat} (hp : p ≤ 16) (hj : j < p) : IsMatch (divProg p) (offP p + 5 * j) (offP p + 5 * j + 2) := by
  obtain ⟨h1, h2, h3, h4, h5, d0, d1, d2, d3⟩ := div_shape ⟨p, by omega⟩ ⟨j, by omega⟩ hj
  simp only at h1 h2 h3 h4 h5 d0 d1 d2 d3
  refine ⟨by omega, by rw [h1]; omega, by rw [d3, d0], fun k hk1 hk2 => ?_⟩
  have : k = offP p + 5 * j + 1 ∨ k = offP p + 5 * j + 2 := by omega
  rcases this with rfl | rfl
  · rw [d0, d1]; decide
  · rw [d0, d2]; decide
theorem get_of {L : List Ins} {i : Nat} {x : Ins} (h : L[i]? = some x) : ∃ hl : i < L.length, L[i] = x := by
  obtain ⟨hl, e⟩ := List.getElem?_eq_some_iff.1 h
  exact ⟨hl, e⟩
theorem dv_place {b : Int} {n1 n2 n3 : Nat} {y : Int} (h : DvOk b n1 n2 n3 y) (hy : 1 ≤ y) {p j : Nat} (hp16 : p ≤ 16) (hj : j < p) {c u : Int} (hu : pw b c.toNat = u) (hu1 : 1 ≤ u) {q : Nat} {R N : Int} {tr : List Int} {dn : Nat}
    (h0 : 0 ≤ R) (h1 : R < pw b n2) (h2 : 0 ≤ N) (h3 : N < pw b n3) (h4 : (q : Int) * (y * u) ≤ R) (h5 : R < ((q : Int) + 1) * (y * u)) (h6 : dn + 2 * (q + 1) + 1 ≤ 3000) :
    ∃ tr', ∀ (s' : RS) (b' : Bool), Ev (divProg p) (.run (offP p + 5 * j + 4) (divProg p).length) ⟨mchV b n1 n2 n3 y (R - (q : Int) * (y * u)) ((N - (q : Int) * u) % pw b n3) c, tr', dn + 2 * (q + 1) + 1, 0⟩ s' b' →
      ∃ b'', Ev (divProg p) (.run (offP p + 5 * j) (divProg p).length) ⟨mchV b n1 n2 n3 y R N c, tr, dn, 0⟩ s' b'' := by
  obtain ⟨g1, g2, g3, g4, -⟩ := div_shape ⟨p, by omega⟩ ⟨j, by omega⟩ hj
  simp only at g1 g2 g3 g4
  obtain ⟨l0, e0⟩ := get_of g2
  obtain ⟨l1, e1⟩ := get_of g3
  obtain ⟨l3, e3⟩ := get_of g4
  have q1 := pw_pos b h.b2 n3
  have q2 := pw_pos b h.b2 n2
  have hD : 0 ≤ y * u := Int.mul_nonneg (by omega) (by omega)
  have hqD : 0 ≤ (q : Int) * (y * u) := Int.mul_nonneg (by omega) hD
  obtain ⟨tr1, hlp⟩ := dv_loop (L := divProg p) h hu l1 e1 hD q R N tr dn 0 h0 h1 h2 h3 h4 h5 (by omega)
  have ht := turn_mch h (c := c) (R := (R - ((q : Int) + 1) * (y * u)) % pw b n2) (N := (N - ((q : Int) + 1) * u) % pw b n3) ⟨Int.emod_nonneg _ (by omega), Int.emod_lt_of_pos _ (by omega)⟩ ⟨Int.emod_nonneg _ (by omega), Int.emod_lt_of_pos _ (by omega)⟩ 1 u hu
  have f1 : ((R - ((q : Int) + 1) * (y * u)) % pw b n2 + 1 * (y * u)) % pw b n2 = R - (q : Int) * (y * u) := by
    rw [Int.emod_add_emod, show R - ((q : Int) + 1) * (y * u) + 1 * (y * u) = R - (q : Int) * (y * u) by rw [Int.add_mul]; omega]
    exact Int.emod_eq_of_lt (by omega) (by omega)
  have f2 : ((N - ((q : Int) + 1) * u) % pw b n3 + 1 * u) % pw b n3 = (N - (q : Int) * u) % pw b n3 := by
    rw [Int.emod_add_emod, show N - ((q : Int) + 1) * u + 1 * u = N - (q : Int) * u by rw [Int.add_mul]; omega]
  rw [f1, f2] at ht
  refine ⟨tr1 ++ [1], fun s' b' he => ?_⟩
  have hst : strokeT (2 - 1) (mchV b n1 n2 n3 y ((R - ((q : Int) + 1) * (y * u)) % pw b n2) ((N - ((q : Int) + 1) * u) % pw b n3) c) = _ := ht
  have h7 := run_one (L := divProg p) (i := offP p + 5 * j + 3) (tt := (divProg p).length) l3 l3 e3 rfl (by decide) (s := ⟨mchV b n1 n2 n3 y ((R - ((q : Int) + 1) * (y * u)) % pw b n2) ((N - ((q : Int) + 1) * u) % pw b n3) c, tr1, dn + 2 * (q + 1), 0⟩) rfl (by show dn + 2 * (q + 1) < 3000; omega) hst he
  have hop : (divProg p)[offP p + 5 * j].op = 9 := by rw [e0]
  have har : (divProg p)[offP p + 5 * j].arg = 0 := by rw [e0]
  exact ⟨_, Ev.rLoop l0 l0 rfl (by rw [hop]; rfl) (div_match hp16 hj) (by rw [hop, har]; exact hlp) h7⟩
theorem dv_parts {b : Int} {n1 n2 n3 : Nat} {y x : Int} (h : DvOk b n1 n2 n3 y) (hb16 : b ≤ 16) (hy : 1 ≤ y) {p : Nat} (hp16 : p ≤ 16) :
    ∀ (r j : Nat) (R Q : Int) (tr : List Int) (dn : Nat), j + (r + 1) = p → 0 ≤ R → R < pw b n2 → R < y * pw b (r + 1) → x = Q * y + R → dn + 34 * (r + 1) ≤ 3000 →
      ∃ (R' Q' : Int) (s' : RS) (b' : Bool), Ev (divProg p) (.run (offP p + 5 * j) (divProg p).length) ⟨mchV b n1 n2 n3 y R ((-Q) % pw b n3) (r : Int), tr, dn, 0⟩ s' b' ∧ s'.code = 0 ∧ s'.m = mchV b n1 n2 n3 y R' ((-Q') % pw b n3) 0 ∧ 0 ≤ R' ∧ R' < y ∧ R' < pw b n2 ∧ x = Q' * y + R' := by
  intro r
  induction r with
  | zero =>
    intro j R Q tr dn hj h0 h1 h2 h3 h4
    obtain ⟨g1, -⟩ := div_shape ⟨p, by omega⟩ ⟨j, by omega⟩ (show j < p by omega)
    simp only at g1
    have q1 := pw_pos b h.b2 n3
    simp only [pw, Int.one_mul, Nat.zero_add] at h2
    have hq0 : 0 ≤ R / y := Int.ediv_nonneg h0 (by omega)
    have hqb : R / y < b := Int.ediv_lt_of_lt_mul (by omega) (by rw [Int.mul_comm]; exact h2)
    obtain ⟨q, hq⟩ : ∃ q : Nat, R / y = q := ⟨(R / y).toNat, by omega⟩
    have hmd := Int.emod_add_mul_ediv R y
    have hm0 := Int.emod_nonneg R (show y ≠ 0 by omega)
    have hm1 := Int.emod_lt_of_pos R (show 0 < y by omega)
    rw [hq, Int.mul_comm] at hmd
    obtain ⟨tr1, hk⟩ := dv_place h hy hp16 (show j < p by omega) (c := 0) (u := 1) rfl (by omega) (q := q) (R := R) (N := (-Q) % pw b n3) (tr := tr) (dn := dn) h0 h1 (Int.emod_nonneg _ (by omega)) (Int.emod_lt_of_pos _ (by omega)) (by rw [Int.mul_one]; omega) (by rw [Int.mul_one, Int.add_mul, Int.one_mul]; omega) (by omega)
    obtain ⟨b'', hev⟩ := hk _ _ (Ev.rEnd (by rw [g1]; omega))
    refine ⟨R - (q : Int) * (y * 1), Q + q, _, _, hev, rfl, ?_, by rw [Int.mul_one]; omega, by rw [Int.mul_one]; omega, ?_, ?_⟩
    · have e1 : ((-Q) % pw b n3 - (q : Int) * 1) % pw b n3 = (-(Q + q)) % pw b n3 := by
        rw [Int.sub_eq_add_neg, Int.emod_add_emod]; congr 1; omega
      show mchV b n1 n2 n3 y _ (((-Q) % pw b n3 - (q : Int) * 1) % pw b n3) 0 = _
      rw [e1]
    · have hqy : 0 ≤ (q : Int) * y := Int.mul_nonneg (by omega) (by omega)
      rw [Int.mul_one]; omega
    · rw [Int.mul_one, Int.add_mul]; omega
  | succ r ih =>
    intro j R Q tr dn hj h0 h1 h2 h3 h4
    obtain ⟨g1, -, -, -, g5, -⟩ := div_shape ⟨p, by omega⟩ ⟨j, by omega⟩ (show j < p by omega)
    simp only at g1 g5
    obtain ⟨l4, e4⟩ := get_of (g5 (by omega))
    have q1 := pw_pos b h.b2 n3
    obtain ⟨u, hu⟩ : ∃ u, pw b (r + 1) = u := ⟨_, rfl⟩
    have hu1 : 1 ≤ u := by rw [← hu]; exact pw_pos b h.b2 _
    have hub : pw b (r + 1 + 1) = u * b := by rw [pw_succ, hu]
    have hD1 : y * 1 ≤ y * u := Int.mul_le_mul_of_nonneg_left hu1 (by omega)
    rw [Int.mul_one] at hD1
    rw [hub, ← Int.mul_assoc] at h2
    obtain ⟨D, hD⟩ : ∃ D, y * u = D := ⟨_, rfl⟩
    rw [hD] at h2 hD1
    have hq0 : 0 ≤ R / D := Int.ediv_nonneg h0 (by omega)
    have hqb : R / D < b := Int.ediv_lt_of_lt_mul (by omega) (by rw [Int.mul_comm]; exact h2)
    obtain ⟨q, hq⟩ : ∃ q : Nat, R / D = q := ⟨(R / D).toNat, by omega⟩
    have hmd := Int.emod_add_mul_ediv R D
    have hm0 := Int.emod_nonneg R (show D ≠ 0 by omega)
    have hm1 := Int.emod_lt_of_pos R (show 0 < D by omega)
    rw [hq, Int.mul_comm] at hmd
    have hqD : 0 ≤ (q : Int) * D := Int.mul_nonneg (by omega) (by omega)
    obtain ⟨tr1, hk⟩ := dv_place h hy hp16 (show j < p by omega) (c := ((r + 1 : Nat) : Int)) (u := u) (by rw [Int.toNat_natCast]; exact hu) hu1 (q := q) (R := R) (N := (-Q) % pw b n3) (tr := tr) (dn := dn) h0 h1 (Int.emod_nonneg _ (by omega)) (Int.emod_lt_of_pos _ (by omega)) (by rw [hD]; omega) (by rw [hD, Int.add_mul, Int.one_mul]; omega) (by omega)
    rw [hD] at hk
    have e1 : ((-Q) % pw b n3 - (q : Int) * u) % pw b n3 = (-(Q + q * u)) % pw b n3 := by
      rw [Int.sub_eq_add_neg, Int.emod_add_emod]; congr 1; omega
    rw [e1] at hk
    have hx : x = (Q + q * u) * y + (R - (q : Int) * D) := by
      rw [Int.add_mul, Int.mul_assoc, Int.mul_comm u y, hD]; omega
    obtain ⟨R', Q', s', b', hev, hc, hm, r0, r1, r2, hxx⟩ := ih (j + 1) (R - (q : Int) * D) (Q + q * u) (tr1 ++ [4]) (dn + 2 * (q + 1) + 1 + 1) (by omega) (by omega) (by omega) (by rw [hu, hD]; omega) hx (by omega)
    rw [show offP p + 5 * (j + 1) = offP p + 5 * j + 4 + 1 by omega] at hev
    have hst : strokeT (5 - 1) (mchV b n1 n2 n3 y (R - (q : Int) * D) ((-(Q + q * u)) % pw b n3) ((r + 1 : Nat) : Int)) = (mchV b n1 n2 n3 y (R - (q : Int) * D) ((-(Q + q * u)) % pw b n3) (r : Int), false) := by
      have hne : ¬ (mchV b n1 n2 n3 y (R - (q : Int) * D) ((-(Q + q * u)) % pw b n3) ((r + 1 : Nat) : Int)).carry = 0 := by show ¬ ((r + 1 : Nat) : Int) = 0; omega
      unfold strokeT
      rw [if_neg (by decide), if_neg (by decide), if_neg (by decide), if_pos (by decide), if_neg hne]
      show (mchV b n1 n2 n3 y (R - (q : Int) * D) ((-(Q + q * u)) % pw b n3) (((r + 1 : Nat) : Int) - 1), false) = _
      rw [show ((r + 1 : Nat) : Int) - 1 = (r : Int) by omega]
    have h7 := run_one (L := divProg p) (i := offP p + 5 * j + 4) (tt := (divProg p).length) l4 l4 e4 rfl (by decide) (s := ⟨mchV b n1 n2 n3 y (R - (q : Int) * D) ((-(Q + q * u)) % pw b n3) ((r + 1 : Nat) : Int), tr1, dn + 2 * (q + 1) + 1, 0⟩) rfl (by show dn + 2 * (q + 1) + 1 < 3000; omega) hst hev
    obtain ⟨b'', h8⟩ := hk _ _ h7
    exact ⟨R', Q', s', b'', h8, hc, hm, r0, r1, r2, hxx⟩
/-- the whole program -/
theorem dv_run {b : Int} {n1 n2 n3 : Nat} {y x : Int} (h : DvOk b n1 n2 n3 y) (hb16 : b ≤ 16) (hy : 1 ≤ y) {p : Nat} (hp1 : 1 ≤ p) (hp16 : p ≤ 16) (hpl : ∀ R N c, vplaces (mchV b n1 n2 n3 y R N c) = p) (hx0 : 0 ≤ x) (hx1 : x < pw b n2) (hxy : x < y * pw b p) :
    ∃ (R' Q' : Int) (s' : RS) (b' : Bool), Ev (divProg p) (.run 0 (divProg p).length) (startR (mchV b n1 n2 n3 y x 0 0)) s' b' ∧ s'.code = 0 ∧ s'.m = mchV b n1 n2 n3 y R' ((-Q') % pw b n3) 0 ∧ 0 ≤ R' ∧ R' < y ∧ R' < pw b n2 ∧ x = Q' * y + R' := by
  obtain ⟨r, rfl⟩ : ∃ r, p = r + 1 := ⟨p - 1, by omega⟩
  rcases Nat.eq_zero_or_pos r with hr | hr
  · subst hr
    obtain ⟨R', Q', s', b', hev, rest⟩ := dv_parts (x := x) h hb16 hy hp16 0 0 x 0 [] 0 rfl hx0 hx1 hxy (by omega) (by omega)
    refine ⟨R', Q', s', b', ?_, rest⟩
    simpa [offP, startR] using hev
  · obtain ⟨tr1, hs⟩ := right_str (L := divProg (r + 1)) (R := x) (N := 0) (fun c => hpl x 0 c) r 0 [] 0 (by omega) (by omega) (by omega)
    obtain ⟨R', Q', s', b', hev, rest⟩ := dv_parts (x := x) h hb16 hy hp16 r 0 x 0 tr1 r (by omega) hx0 hx1 hxy (by omega) (by omega)
    have hL0 : (divProg (r + 1))[0]? = some ⟨4, ((r + 1 : Nat) : Int) - 1⟩ := by
      have H : ∀ p : Fin 17, 1 < p.val → (divProg p.val)[0]? = some ⟨4, (p.val : Int) - 1⟩ := by decide +kernel
      exact H ⟨r + 1, by omega⟩ (by show 1 < r + 1; omega)
    obtain ⟨l0, e0⟩ := get_of hL0
    have hop : (divProg (r + 1))[0].op = 4 := by rw [e0]
    have har : (max (1 : Int) (divProg (r + 1))[0].arg).toNat = r := by rw [e0]; show (max (1 : Int) (((r + 1 : Nat) : Int) - 1)).toNat = r; omega
    refine ⟨R', Q', s', false || b', ?_, rest⟩
    refine Ev.rStr (by omega) l0 rfl (by rw [hop]; rfl) (by rw [hop]; decide) (by rw [hop, har]; exact hs) ?_
    have ho : offP (r + 1) = 1 := by unfold offP; rw [if_pos (by omega)]
    rw [ho] at hev
    simpa using hev
theorem dv_law {t : Tri} {x y : Int} (hv : vmach t = true) (h : dvC t x y = 0) : dvQ t x y * y + dvR t x y = x ∧ 0 ≤ dvR t x y ∧ dvR t x y < y ∧ 0 ≤ dvQ t x y * y ∧ dvQ t x y * y ≤ x ∧ x ≤ 1000000000001 := by
  obtain ⟨k1, k2, k3, e1, e2, f1, f2, l1, c0, c1⟩ := vmach_all hv
  obtain ⟨⟨b1, b2⟩, ⟨n1, n2⟩, -⟩ := vreg_iff.1 k1
  obtain ⟨⟨b3, b4⟩, ⟨n3, n4⟩, -⟩ := vreg_iff.1 k2
  obtain ⟨⟨b5, b6⟩, ⟨n5, n6⟩, -⟩ := vreg_iff.1 k3
  obtain ⟨v1, v2, v3, v4, v5⟩ := vplaces_bd hv
  have hx : betB x 0 (pw t.b.base t.b.digits.length - 1) = true := by
    cases hb : betB x 0 (pw t.b.base t.b.digits.length - 1) with
    | true => rfl
    | false => unfold dvC at h; rw [hv, hb] at h; simp at h
  have hy : betB y 1 (pw t.a.base t.a.digits.length - 1) = true := by
    cases hb : betB y 1 (pw t.a.base t.a.digits.length - 1) with
    | true => rfl
    | false => unfold dvC at h; rw [hv, hx, hb] at h; simp at h
  have hq : ¬ pw t.a.base (vplaces t).toNat ≤ x.tdiv y := fun hc => by
    unfold dvC at h; rw [hv, hx, hy, if_neg (by decide), if_neg (by decide), if_neg (by decide), if_pos hc] at h; cases h
  obtain ⟨x0, x1⟩ := betB_iff.1 hx
  obtain ⟨y0, y1⟩ := betB_iff.1 hy
  have hm := pw_mono t.a.base (by omega) _ _ l1
  have hm3 := pw_mono t.a.base (by omega) (vplaces t).toNat t.s.digits.length (by unfold vplaces; omega)
  rw [← e1] at f1 x1
  have e3 : t.s.base = t.a.base := e2.trans e1.symm
  rw [e3] at f2
  have hok : DvOk t.a.base t.a.digits.length t.b.digits.length t.s.digits.length y := ⟨b1, by omega, by omega, by omega, f1, f2⟩
  obtain ⟨P, hP⟩ : ∃ P, pw t.a.base (vplaces t).toNat = P := ⟨_, rfl⟩
  rw [hP] at hq hm3
  have hdiv : x.tdiv y = x / y := Int.tdiv_eq_ediv_of_nonneg x0
  rw [hdiv] at hq
  have hxy : x < y * P := by
    rw [Int.mul_comm]; exact Int.lt_mul_of_ediv_lt (by omega) (by omega)
  obtain ⟨R', Q', s', b', hev, hc, hmm, r0, r1, r2, hxx⟩ := dv_run (x := x) hok b2 y0 v1 v2 (fun R N c => by rw [v3]; simp [vplaces, mchV, digD_len]) x0 (by omega) (by rw [hP]; exact hxy)
  have hstart : dvStart t x y = mchV t.a.base t.a.digits.length t.b.digits.length t.s.digits.length y x 0 0 := by
    unfold dvStart mchV; rw [← e1, e3]
  obtain ⟨a1, a2, -, -⟩ := dv_fine (x := x) (y := y) h (by rw [hstart]; exact hev)
  rw [hmm] at a1 a2
  have hQ0 : 0 ≤ Q' := by
    rcases Int.lt_or_le Q' 0 with hn | hn
    · have : Q' * y ≤ (-1) * y := Int.mul_le_mul_of_nonneg_right (by omega) (by omega)
      omega
    · exact hn
  have hQP : Q' < P := by
    rcases Int.lt_or_le Q' P with hn | hn
    · exact hn
    · have : P * y ≤ Q' * y := Int.mul_le_mul_of_nonneg_right hn (by omega)
      rw [Int.mul_comm] at hxy
      omega
  have q1 := pw_pos t.a.base b1 t.s.digits.length
  have hr : dvR t x y = R' := by
    rw [a2]; exact valL_dig b1 f1 r0 r2
  have hvn : valL t.a.base (digD t.a.base t.s.digits.length ((-Q') % pw t.a.base t.s.digits.length)) = (-Q') % pw t.a.base t.s.digits.length := valL_dig b1 f2 (Int.emod_nonneg _ (by omega)) (Int.emod_lt_of_pos _ (by omega))
  have hqq : dvQ t x y = Q' := by
    rw [a1]
    show (pw t.s.base t.s.digits.length - valL t.a.base (digD t.a.base t.s.digits.length ((-Q') % pw t.a.base t.s.digits.length))).tmod (pw t.s.base t.s.digits.length) = Q'
    rw [hvn, e3]
    have h1 := Int.emod_lt_of_pos (-Q') (show 0 < pw t.a.base t.s.digits.length by omega)
    rw [Int.tmod_eq_emod_of_nonneg (by omega), Int.sub_emod, Int.emod_emod, ← Int.sub_emod, show pw t.a.base t.s.digits.length - -Q' = Q' + pw t.a.base t.s.digits.length by omega, Int.add_emod_right]
    exact Int.emod_eq_of_lt hQ0 (by omega)
  have hq0 : 0 ≤ Q' * y := Int.mul_nonneg hQ0 (by omega)
  rw [hr, hqq]
  omega
end Go.Proofs.Ytcapccadpbiecaa
