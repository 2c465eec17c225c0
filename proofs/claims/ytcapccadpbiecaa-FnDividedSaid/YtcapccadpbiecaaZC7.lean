/- Part 7: lemmas and contracts of the claim's functions. -/
import Derived.Test.YtcapccadpbiecaaZC1
import Derived.Test.YtcapccadpbiecaaZC2
import Derived.Test.YtcapccadpbiecaaZC3
import Derived.Test.YtcapccadpbiecaaZC4
import Derived.Test.YtcapccadpbiecaaZC5
import Derived.Test.YtcapccadpbiecaaZC6
namespace Go.Proofs.Ytcapccadpbiecaa
open Go.RowKit Go.Sort
set_option maxRecDepth 100000 in
set_option maxHeartbeats 3200000 in
theorem specDivideOn_any (t : Tri) (A1 A2 A3 : Option Addr) (c1 c2 c3 : Nat) (x y : Int) (w : World) (r1 : RI w A1 t.a.digits.length t.a.digits) (r2 : RI w A2 t.b.digits.length t.b.digits) (r3 : RI w A3 t.s.digits.length t.s.digits) (hs : SmallTri t) :
    Calls Try.prog 9 #[.agg #[.int .i64 t.a.base, .slice A1 t.a.digits.length c1, .int .i64 t.b.base, .slice A2 t.b.digits.length c2, .int .i64 t.s.base, .slice A3 t.s.digits.length c3, .int .i64 t.carry], .int .i64 x, .int .i64 y] w (DVRet t x y w) := by
  have hTC : ∀ W, Kn w [.blk w.heap.size [.int .i64 t.a.base, .slice A1 t.a.digits.length c1, .int .i64 t.b.base, .slice A2 t.b.digits.length c2, .int .i64 t.s.base, .slice A3 t.s.digits.length c3, .int .i64 t.carry] 28] W → TriC W ⟨w.heap.size, 0, none⟩ t A1 c1 A2 c2 A3 c3 := fun W h => ⟨⟨h.blkAt.1 0, h.blkAt.1 1, h.blkAt.1 2, h.blkAt.1 3, h.blkAt.1 4, h.blkAt.1 5, h.blkAt.1 6⟩, r1.below h.below, r2.below h.below, r3.below h.below⟩
  have KV := (fun W (hW : Kn w [.blk w.heap.size [.int .i64 t.a.base, .slice A1 t.a.digits.length c1, .int .i64 t.b.base, .slice A2 t.b.digits.length c2, .int .i64 t.s.base, .slice A3 t.s.digits.length c3, .int .i64 t.carry] 28] W) => l10Ok_any ⟨w.heap.size, 0, none⟩ t W (hTC W hW).tri hs)
  rcases hv : vmach t with _ | _
  · rw [hv] at KV
    have HB := Lib.hid (dv_code (t := t) (x := x) (y := y) (c := 1) (by unfold dvC; rw [if_pos hv]) (by decide))
    have KV := Lib.hid KV
    clear hv r1 r2 r3 hs hTC
    go_enter Try.func9, Try.ntmps9
    go_wp2_with fail
    refine Calls.kn ((Kn.nil w).al [.int .i64 t.a.base, .slice A1 t.a.digits.length c1, .int .i64 t.b.base, .slice A2 t.b.digits.length c2, .int .i64 t.s.base, .slice A3 t.s.digits.length c3, .int .i64 t.carry] 28) ?_; intro w1 hK0
    refine (KV.out _ hK0).mono ?_; rintro e w2 ⟨rfl, q, rfl⟩
    have hK1 := hK0.drewN q
    generalize w1.drewN q = w2 at hK1 ⊢
    clear hK0
    obtain ⟨a1, a2, a3, -⟩ := hK1.cells
    go_wp2_with fail
    refine bodyPost_ret (v := .tuple #[.int .i64 0, .int .i64 0, .int .i64 0, .int .i64 1]) (by simp [results, Try.results9, go_sem]) rfl ⟨?_, hK1.below⟩
    rw [HB.out.1, HB.out.2.1, HB.out.2.2.1, HB.out.2.2.2]
  obtain ⟨k1, k2, k3, e1, e2, f1, f2, l1, p0, p1⟩ := vmach_all hv
  obtain ⟨⟨b1, b2⟩, ⟨n1, n2⟩, -⟩ := vreg_iff.1 k1
  obtain ⟨⟨b3, b4⟩, ⟨n3, n4⟩, -⟩ := vreg_iff.1 k2
  obtain ⟨⟨b5, b6⟩, ⟨n5, n6⟩, -⟩ := vreg_iff.1 k3
  have hmo := pw_mono t.a.base b1 _ _ l1
  rw [e1] at hmo
  have pb := pw_pos t.b.base b3 t.b.digits.length
  have pa := pw_pos t.a.base b1 t.a.digits.length
  rw [← e1] at hmo
  have pa2 : pw t.a.base t.a.digits.length ≤ 1000000000001 := by rw [e1] at hmo ⊢; omega
  have KN2 := (fun W (hW : Kn w [.blk w.heap.size [.int .i64 t.a.base, .slice A1 t.a.digits.length c1, .int .i64 t.b.base, .slice A2 t.b.digits.length c2, .int .i64 t.s.base, .slice A3 t.s.digits.length c3, .int .i64 t.carry] 28] W) => l12Room_any ⟨w.heap.size, 2, none⟩ t.b.base A2 t.b.digits.length c2 W ⟨hW.blkAt.1 2, hW.blkAt.1 3⟩ b3 b4 (by omega))
  have hp2 : powS t.b.base t.b.digits.length = pw t.b.base t.b.digits.length := by unfold powS; omega
  rw [hp2] at KN2
  have KN1 := (fun W (hW : Kn w [.blk w.heap.size [.int .i64 t.a.base, .slice A1 t.a.digits.length c1, .int .i64 t.b.base, .slice A2 t.b.digits.length c2, .int .i64 t.s.base, .slice A3 t.s.digits.length c3, .int .i64 t.carry] 28] W) => l12Room_any ⟨w.heap.size, 0, none⟩ t.a.base A1 t.a.digits.length c1 W ⟨hW.blkAt.1 0, hW.blkAt.1 1⟩ b1 b2 (by omega))
  have hp1 : powS t.a.base t.a.digits.length = pw t.a.base t.a.digits.length := by unfold powS; omega
  rw [hp1] at KN1
  rw [hv] at KV
  have hC0 : dvC t x y = if betB x 0 (pw t.b.base t.b.digits.length - 1) = false then 2 else if betB y 1 (pw t.a.base t.a.digits.length - 1) = false then 2 else if pw t.a.base (vplaces t).toNat ≤ x.tdiv y then 5 else 0 := by unfold dvC; rw [if_neg (by rw [hv]; decide)]
  have KB := (fun W => l00In_any x 0 (pw t.b.base t.b.digits.length - 1) W)
  have KB2 := (fun W => l00In_any y 1 (pw t.a.base t.a.digits.length - 1) W)
  rcases hx : betB x 0 (pw t.b.base t.b.digits.length - 1) with _ | _
  · have HB := Lib.hid (dv_code (t := t) (x := x) (y := y) (c := 2) (by rw [hC0, if_pos hx]) (by decide))
    rw [hx] at KB
    obtain ⟨N2, hN2⟩ : ∃ N, pw t.b.base t.b.digits.length = N := ⟨_, rfl⟩
    rw [hN2] at KN2 f1 pb KB
    have KB := Lib.hid KB
    have KV := Lib.hid KV
    have KN2 := Lib.hid KN2
    clear hv r1 r2 r3 hs k1 k2 k3 hx hN2 hmo pa2 pa hp1 hp2 hC0 KN1 KB2 e1 e2 f2 l1 p0 p1 hTC
    go_enter Try.func9, Try.ntmps9
    go_wp2_with fail
    refine Calls.kn ((Kn.nil w).al [.int .i64 t.a.base, .slice A1 t.a.digits.length c1, .int .i64 t.b.base, .slice A2 t.b.digits.length c2, .int .i64 t.s.base, .slice A3 t.s.digits.length c3, .int .i64 t.carry] 28) ?_; intro w1 hK0
    refine (KV.out _ hK0).mono ?_; rintro e w2 ⟨rfl, q, rfl⟩
    have hK1 := hK0.drewN q
    generalize w1.drewN q = w2 at hK1 ⊢
    clear hK0
    obtain ⟨a1, a2, a3, -⟩ := hK1.cells
    go_wp2_with fail
    refine (KN2.out _ hK1).mono ?_; rintro e w3 ⟨rfl, q, rfl⟩
    have hK2 := hK1.drewN q
    generalize w2.drewN q = w3 at hK2 ⊢
    clear hK1 a1 a2 a3
    obtain ⟨a1, a2, a3, -⟩ := hK2.cells
    go_wp2_with fail
    refine (KB.out _).mono ?_; rintro e w4 ⟨rfl, rfl⟩
    go_wp2_with fail
    refine bodyPost_ret (v := .tuple #[.int .i64 0, .int .i64 0, .int .i64 0, .int .i64 2]) (by simp [results, Try.results9, go_sem]) rfl ⟨?_, hK2.below⟩
    rw [HB.out.1, HB.out.2.1, HB.out.2.2.1, HB.out.2.2.2]
  have hx' := betB_iff.1 hx
  rw [hx] at KB
  rcases hy : betB y 1 (pw t.a.base t.a.digits.length - 1) with _ | _
  · have HB := Lib.hid (dv_code (t := t) (x := x) (y := y) (c := 2) (by rw [hC0, if_neg (by rw [hx]; decide), if_pos hy]) (by decide))
    rw [hy] at KB2
    obtain ⟨N2, hN2⟩ : ∃ N, pw t.b.base t.b.digits.length = N := ⟨_, rfl⟩
    obtain ⟨N1, hN1⟩ : ∃ N, pw t.a.base t.a.digits.length = N := ⟨_, rfl⟩
    rw [hN2] at KN2 f1 pb KB
    rw [hN1] at KN1 pa pa2 KB2
    have KB := Lib.hid KB
    have KB2 := Lib.hid KB2
    have KV := Lib.hid KV
    have KN2 := Lib.hid KN2
    have KN1 := Lib.hid KN1
    clear hv r1 r2 r3 hs k1 k2 k3 hx hy hN2 hN1 hmo hp1 hp2 hC0 e1 e2 f2 l1 p0 p1 hx' hTC
    go_enter Try.func9, Try.ntmps9
    go_wp2_with fail
    refine Calls.kn ((Kn.nil w).al [.int .i64 t.a.base, .slice A1 t.a.digits.length c1, .int .i64 t.b.base, .slice A2 t.b.digits.length c2, .int .i64 t.s.base, .slice A3 t.s.digits.length c3, .int .i64 t.carry] 28) ?_; intro w1 hK0
    refine (KV.out _ hK0).mono ?_; rintro e w2 ⟨rfl, q, rfl⟩
    have hK1 := hK0.drewN q
    generalize w1.drewN q = w2 at hK1 ⊢
    clear hK0
    obtain ⟨a1, a2, a3, -⟩ := hK1.cells
    go_wp2_with fail
    refine (KN2.out _ hK1).mono ?_; rintro e w3 ⟨rfl, q, rfl⟩
    have hK2 := hK1.drewN q
    generalize w2.drewN q = w3 at hK2 ⊢
    clear hK1 a1 a2 a3
    obtain ⟨a1, a2, a3, -⟩ := hK2.cells
    go_wp2_with fail
    refine (KB.out _).mono ?_; rintro e w4 ⟨rfl, rfl⟩
    go_wp2_with fail
    refine (KN1.out _ hK2).mono ?_; rintro e w5 ⟨rfl, q, rfl⟩
    have hK5 := hK2.drewN q
    generalize w3.drewN q = w5 at hK5 ⊢
    clear hK2 a1 a2 a3
    obtain ⟨a1, a2, a3, -⟩ := hK5.cells
    go_wp2_with fail
    refine (KB2.out _).mono ?_; rintro e w6 ⟨rfl, rfl⟩
    go_wp2_with fail
    refine bodyPost_ret (v := .tuple #[.int .i64 0, .int .i64 0, .int .i64 0, .int .i64 2]) (by simp [results, Try.results9, go_sem]) rfl ⟨?_, hK5.below⟩
    rw [HB.out.1, HB.out.2.1, HB.out.2.2.1, HB.out.2.2.2]
  have hy' := betB_iff.1 hy
  rw [hy] at KB2
  obtain ⟨vp1, vp2, vp3, vp4, vp5⟩ := vplaces_bd hv
  have KP := (fun W (hW : Kn w [.blk w.heap.size [.int .i64 t.a.base, .slice A1 t.a.digits.length c1, .int .i64 t.b.base, .slice A2 t.b.digits.length c2, .int .i64 t.s.base, .slice A3 t.s.digits.length c3, .int .i64 t.carry] 28] W) => l10Places_any ⟨w.heap.size, 0, none⟩ t W (hTC W hW).tri n2 n4 n6)
  have KW := (fun W => l10Power_any t.a.base (vplaces t).toNat W b1 b2 (by omega))
  have hpw : powS t.a.base (vplaces t).toNat = pw t.a.base (vplaces t).toNat := by unfold powS; omega
  rw [hpw, vp3] at KW
  have KD := (fun W => l12Divide_any (vplaces t).toNat W vp1 vp2)
  rw [vp3] at KD
  have hxy : 0 ≤ x.tdiv y ∧ x.tdiv y ≤ 1000000000001 := by
    rw [Int.tdiv_eq_ediv_of_nonneg hx'.1]
    have := Int.ediv_le_self y hx'.1
    exact ⟨Int.ediv_nonneg hx'.1 (by omega), by omega⟩
  have hqw : IntKind.i64.wrap (x.tdiv y) = x.tdiv y := wrapI64 (by omega)
  have ny1 : y ≠ 0 := by omega
  have ny2 : (y == 0) = false := by simp; omega
  have hC1 : dvC t x y = if pw t.a.base (vplaces t).toNat ≤ x.tdiv y then 5 else 0 := by rw [hC0, if_neg (by rw [hx]; decide), if_neg (by rw [hy]; decide)]
  have hst := dvStart_ok hv hx hy
  have KF : ∀ W, Kn w [.blk w.heap.size [.int .i64 t.a.base, .slice A1 t.a.digits.length c1, .int .i64 t.b.base, .slice A2 t.b.digits.length c2, .int .i64 t.s.base, .slice A3 t.s.digits.length c3, .int .i64 t.carry] 28] W → Calls Try.prog 72 #[.pointer (some ⟨w.heap.size, 0, none⟩), .int .i64 y] W fun e w' => ∃ E1 g1 E2 g2 E3 g3, e = .returned (.agg #[.int .i64 t.a.base, .slice E1 (digD t.a.base t.a.digits.length y).length g1, .int .i64 t.b.base, .slice E2 (digD t.b.base t.b.digits.length 0).length g2, .int .i64 t.s.base, .slice E3 (digD t.s.base t.s.digits.length 0).length g3, .int .i64 0]) ∧
      Kn W [rowI E3 g3 (digD t.s.base t.s.digits.length 0), rowI E2 g2 (digD t.b.base t.b.digits.length 0), rowI E1 g1 (digD t.a.base t.a.digits.length y)] w' := by
    intro W hW
    have := l12Fresh_any w.heap.size t.a.base A1 A2 A3 t.a.digits.length t.b.digits.length t.s.digits.length c1 c2 c3 y W (hW.blkAt.1 0) (hW.blkAt.1 1) (hW.blkAt.1 3) (hW.blkAt.1 5) b1 b2 (by omega) (by omega) (by omega) (by omega) (by omega)
    rw [e2, ← e1]
    exact this
  have KX := (fun W => l02NewV_any t.b.base t.b.digits.length x W b3 b4 (by omega) (by omega) (by omega))
  have KN3 := (fun W (h4 : W.cell? ⟨w.heap.size, 4, none⟩ = some (.int .i64 t.s.base)) (h5 : W.cell? ⟨w.heap.size, 5, none⟩ = some (.slice A3 t.s.digits.length c3)) => l12Room_any ⟨w.heap.size, 4, none⟩ t.s.base A3 t.s.digits.length c3 W ⟨h4, h5⟩ b5 b6 (by omega))
  have hp3 : powS t.s.base t.s.digits.length = pw t.s.base t.s.digits.length := by unfold powS; omega
  rw [hp3] at KN3
  have p3 := pw_pos t.s.base b5 t.s.digits.length
  have KRP := (fun (LA : Option Addr) (lc : Nat) (g0 : Nat) (E1 : Option Addr) (g1 : Nat) (E2 : Option Addr) (g2 : Nat) (E3 : Option Addr) (g3 : Nat) W q1 hq => l11Run_any (lc := lc) (LA := LA) (n := (divProg (vplaces t).toNat).length) g0 (dvStart t x y) E1 E2 E3 g1 g2 g3 W q1 hst (divProg_ok vp1 vp2) hq)
  unfold RunPS TriC at KRP
  simp only [dvStart, digD_len] at KRP
  have hdf := (fun (s : RS) (b : Bool) h he => dv_fine (t := t) (x := x) (y := y) (s := s) (b := b) h he)
  unfold dvStart at hdf
  simp only [digD_len, rowI] at KF KX
  obtain ⟨N2, hN2⟩ : ∃ N, pw t.b.base t.b.digits.length = N := ⟨_, rfl⟩
  obtain ⟨N1, hN1⟩ : ∃ N, pw t.a.base t.a.digits.length = N := ⟨_, rfl⟩
  obtain ⟨PW, hPW⟩ : ∃ N, pw t.a.base (vplaces t).toNat = N := ⟨_, rfl⟩
  obtain ⟨PL, hPL⟩ : ∃ N, (vplaces t) = N := ⟨_, rfl⟩
  have hdq : pw t.a.base (vplaces t).toNat ≤ x.tdiv y ↔ PW ≤ x.tdiv y := by rw [hPW]
  rw [hN2] at KN2 f1 pb KB hx'
  rw [hN1] at KN1 pa pa2 KB2 hy'
  rw [hPW] at KW vp4 vp5
  obtain ⟨XY, hXY⟩ : ∃ q, x.tdiv y = q := ⟨_, rfl⟩
  have H5 := Lib.hid (fun (h : PW ≤ XY) => dv_code (t := t) (x := x) (y := y) (c := 5) (by rw [hC1, if_pos (hdq.2 (by rw [hXY]; exact h))]) (by decide))
  have H0 := Lib.hid (fun (h : ¬ PW ≤ XY) => show dvC t x y = 0 by rw [hC1, if_neg (fun h2 => h (by rw [← hXY]; exact hdq.1 h2))])
  obtain ⟨N3, hN3⟩ : ∃ N, pw t.s.base t.s.digits.length = N := ⟨_, rfl⟩
  rw [hN3] at KN3 f2 p3 hdf
  obtain ⟨ds, hds⟩ : ∃ l, digD t.a.base t.a.digits.length y = l := ⟨_, rfl⟩
  obtain ⟨es, hes⟩ : ∃ l, digD t.b.base t.b.digits.length x = l := ⟨_, rfl⟩
  obtain ⟨fs, hfs⟩ : ∃ l, digD t.s.base t.s.digits.length 0 = l := ⟨_, rfl⟩
  obtain ⟨zs, hzs⟩ : ∃ l, digD t.b.base t.b.digits.length 0 = l := ⟨_, rfl⟩
  have dl : ds.length = t.a.digits.length := by rw [← hds, digD_len]
  have el : es.length = t.b.digits.length := by rw [← hes, digD_len]
  have fl : fs.length = t.s.digits.length := by rw [← hfs, digD_len]
  have zl : zs.length = t.b.digits.length := by rw [← hzs, digD_len]
  obtain ⟨LP, hLP⟩ : ∃ l, divProg (vplaces t).toNat = l := ⟨_, rfl⟩
  rw [hds, hes, hfs] at KRP hdf
  rw [hLP] at KRP KD hdf
  rw [hds, hzs, hfs] at KF
  rw [hes] at KX
  rw [hPL] at KP KW KD
  have hplb : 0 ≤ PL ∧ PL ≤ 16 := by omega
  rw [hXY] at hqw hxy
  have HQW := Lib.hid hqw
  have KB := Lib.hid KB
  have KB2 := Lib.hid KB2
  have KV := Lib.hid KV
  have KN2 := Lib.hid KN2
  have KN1 := Lib.hid KN1
  have KN3 := Lib.hid KN3
  have KP := Lib.hid KP
  have KW := Lib.hid KW
  have KD := Lib.hid KD
  have KF := Lib.hid KF
  have KX := Lib.hid KX
  have KRP := Lib.hid KRP
  have HDF := Lib.hid hdf
  have HXY := Lib.hid hXY
  have HDL := Lib.hid dl
  have HEL := Lib.hid el
  have HFL := Lib.hid fl
  clear hv r1 r2 r3 hs k1 k2 k3 hx hy hN2 hN1 hN3 hmo hp1 hp2 hp3 hC0 hC1 e1 e2 l1 p0 p1 hPW hPL hdq hXY hst hdf hds hes hfs hzs hLP vp1 vp2 vp3 hpw hTC hqw dl el fl zl
  go_enter Try.func9, Try.ntmps9
  go_wp2_with fail
  refine Calls.kn ((Kn.nil w).al [.int .i64 t.a.base, .slice A1 t.a.digits.length c1, .int .i64 t.b.base, .slice A2 t.b.digits.length c2, .int .i64 t.s.base, .slice A3 t.s.digits.length c3, .int .i64 t.carry] 28) ?_; intro w1 hK0
  refine (KV.out _ hK0).mono ?_; rintro e w2 ⟨rfl, q, rfl⟩
  have hK1 := hK0.drewN q
  generalize w1.drewN q = w2 at hK1 ⊢
  clear hK0
  obtain ⟨a1, a2, a3, -⟩ := hK1.cells
  go_wp2_with fail
  refine (KN2.out _ hK1).mono ?_; rintro e w3 ⟨rfl, q, rfl⟩
  have hK2 := hK1.drewN q
  generalize w2.drewN q = w3 at hK2 ⊢
  clear hK1 a1 a2 a3
  obtain ⟨a1, a2, a3, -⟩ := hK2.cells
  go_wp2_with fail
  refine (KB.out _).mono ?_; rintro e w4 ⟨rfl, rfl⟩
  go_wp2_with fail
  refine (KN1.out _ hK2).mono ?_; rintro e w5 ⟨rfl, q, rfl⟩
  have hK5 := hK2.drewN q
  generalize w3.drewN q = w5 at hK5 ⊢
  clear hK2 a1 a2 a3
  obtain ⟨a1, a2, a3, -⟩ := hK5.cells
  go_wp2_with fail
  refine (KB2.out _).mono ?_; rintro e w6 ⟨rfl, rfl⟩
  go_wp2_with fail
  refine (KP.out _ hK5).mono ?_; rintro e w7 ⟨rfl, q, rfl⟩
  have hK7 := hK5.drewN q
  generalize w5.drewN q = w7 at hK7 ⊢
  clear hK5 a1 a2 a3
  obtain ⟨a1, a2, a3, -⟩ := hK7.cells
  go_wp2_with fail
  have HG := Lib.hid (box7 hK7.drew)
  go_cut [43] (fun bb wx => bb = .bool (decide (PW ≤ XY)) ∧ Kn w [.blk w.heap.size [.int .i64 t.a.base, .slice A1 t.a.digits.length c1, .int .i64 t.b.base, .slice A2 t.b.digits.length c2, .int .i64 t.s.base, .slice A3 t.s.digits.length c3, .int .i64 t.carry] 28] wx)
  case first =>
    go_region_held3 (fun W => W.cell? ⟨w.heap.size, 0, none⟩ = some (.int .i64 t.a.base) ∧ W.cell? ⟨w.heap.size, 1, none⟩ = some (.slice A1 t.a.digits.length c1) ∧ W.cell? ⟨w.heap.size, 2, none⟩ = some (.int .i64 t.b.base) ∧ W.cell? ⟨w.heap.size, 3, none⟩ = some (.slice A2 t.b.digits.length c2) ∧ W.cell? ⟨w.heap.size, 4, none⟩ = some (.int .i64 t.s.base) ∧ W.cell? ⟨w.heap.size, 5, none⟩ = some (.slice A3 t.s.digits.length c3) ∧ W.cell? ⟨w.heap.size, 6, none⟩ = some (.int .i64 t.carry)) (first | with_reducible exact HG.out | exact HG.out) (first
      | (go_at_call 71; (with_reducible refine (KW.out _).mono ?_); rintro e w8 ⟨rfl, rfl⟩))
    all_goals
      go_wp2_with fail
      go_meet
      exact ⟨by rw [HXY.out, HQW.out], hK7.drew⟩
  case rest =>
    obtain ⟨rfl, hK8⟩ := hcut
    clear HG hK7
    obtain ⟨a1, a2, a3, -⟩ := hK8.cells
    rcases hle : decide (PW ≤ XY) with _ | _
    rotate_left
    · have HB := Lib.hid (H5.out (of_decide_eq_true hle))
      clear hle
      go_wp2_with fail
      refine bodyPost_ret (v := .tuple #[.int .i64 0, .int .i64 0, .int .i64 0, .int .i64 5]) (by simp [results, Try.results9, go_sem]) rfl ⟨?_, hK8.below⟩
      rw [HB.out.1, HB.out.2.1, HB.out.2.2.1, HB.out.2.2.2]
    have HZ := Lib.hid (H0.out (by simpa using hle))
    clear hle
    go_wp2_with fail
    refine (KF.out _ hK8).mono ?_; rintro e w9 ⟨E1, g1, E2, g2, E3, g3, rfl, hKc⟩
    have hK9 : Kn w [rowN E3 t.s.digits.length g3 fs, rowN E2 t.b.digits.length g2 zs, rowN E1 t.a.digits.length g1 ds, .blk w.heap.size [.int .i64 t.a.base, .slice A1 t.a.digits.length c1, .int .i64 t.b.base, .slice A2 t.b.digits.length c2, .int .i64 t.s.base, .slice A3 t.s.digits.length c3, .int .i64 t.carry] 28] w9 := hK8.join hKc
    clear hK8 hKc a1 a2 a3
    obtain ⟨a1, a2, a3, -⟩ := hK9.cells
    go_wp2_with fail
    refine Calls.kn (hK9.al [.int .i64 t.a.base, .slice E1 t.a.digits.length g1, .int .i64 t.b.base, .slice E2 t.b.digits.length g2, .int .i64 t.s.base, .slice E3 t.s.digits.length g3, .int .i64 0] 28) ?_; intro w11 hK11
    refine (KX.out _).mono ?_; rintro e w12 ⟨F, f, rfl, hKx⟩
    have hK12 : Kn w [rowN F t.b.digits.length f es, .blk w9.heap.size [.int .i64 t.a.base, .slice E1 t.a.digits.length g1, .int .i64 t.b.base, .slice E2 t.b.digits.length g2, .int .i64 t.s.base, .slice E3 t.s.digits.length g3, .int .i64 0] 28, rowN E3 t.s.digits.length g3 fs, rowN E2 t.b.digits.length g2 zs, rowN E1 t.a.digits.length g1 ds, .blk w.heap.size [.int .i64 t.a.base, .slice A1 t.a.digits.length c1, .int .i64 t.b.base, .slice A2 t.b.digits.length c2, .int .i64 t.s.base, .slice A3 t.s.digits.length c3, .int .i64 t.carry] 28] w12 := hK11.join hKx
    clear hK9 hK11 hKx a1 a2 a3
    obtain ⟨d1, d2, d3, a1, a2, a3, -⟩ := hK12.cells
    go_wp2_with fail
    refine Calls.kn (((hK12.sw1.st 2 (.int .i64 t.b.base)).st 3 (.slice F t.b.digits.length f)).al [.int .i64 t.b.base, .slice F t.b.digits.length f] 26) ?_; intro w13 hK13
    clear hK12 d1 d2 d3 a1 a2 a3
    have hK14 : Kn w [.blk w9.heap.size [.int .i64 t.a.base, .slice E1 t.a.digits.length g1, .int .i64 t.b.base, .slice F t.b.digits.length f, .int .i64 t.s.base, .slice E3 t.s.digits.length g3, .int .i64 0] 28, .blk w.heap.size [.int .i64 t.a.base, .slice A1 t.a.digits.length c1, .int .i64 t.b.base, .slice A2 t.b.digits.length c2, .int .i64 t.s.base, .slice A3 t.s.digits.length c3, .int .i64 t.carry] 28, rowN F t.b.digits.length f es, rowN E3 t.s.digits.length g3 fs, rowN E1 t.a.digits.length g1 ds] w13 := hK13.sel [1, 6, 2, 3, 5] 99 (by decide) (by decide)
    clear hK13
    refine (KD.out _).mono ?_; rintro e w16 ⟨LA, lc, rfl, hKd⟩
    have hK16 : Kn w [rowIns (.slice LA LP.length lc) LP, .blk w9.heap.size [.int .i64 t.a.base, .slice E1 t.a.digits.length g1, .int .i64 t.b.base, .slice F t.b.digits.length f, .int .i64 t.s.base, .slice E3 t.s.digits.length g3, .int .i64 0] 28, .blk w.heap.size [.int .i64 t.a.base, .slice A1 t.a.digits.length c1, .int .i64 t.b.base, .slice A2 t.b.digits.length c2, .int .i64 t.s.base, .slice A3 t.s.digits.length c3, .int .i64 t.carry] 28, rowN F t.b.digits.length f es, rowN E3 t.s.digits.length g3 fs, rowN E1 t.a.digits.length g1 ds] w16 := hK14.join hKd
    clear hK14 hKd
    go_wp2_with fail
    refine (KRP.out _ _ _ _ _ _ _ _ _ _ ⟨box7at hK16 1 rfl, Kn.riN (hK16.sel [5] 99 (by decide) (by decide)), Kn.riN (hK16.sel [3] 99 (by decide) (by decide)), Kn.riN (hK16.sel [4] 99 (by decide) (by decide))⟩ (Kn.rlIns hK16).2).mono ?_; rintro e w17 ⟨g, s, b', b2', rfl, he, ⟨SA, sc, M1, j1, M2, j2, M3, j3, hKr⟩, hg⟩
    have hK18 : Kn w [.blk g [.int .i64 s.m.a.base, .slice M1 s.m.a.digits.length j1, .int .i64 s.m.b.base, .slice M2 s.m.b.digits.length j2, .int .i64 s.m.s.base, .slice M3 s.m.s.digits.length j3, .int .i64 s.m.carry, .slice LA LP.length lc, .slice SA s.tr.length sc, .int .i64 (s.done : Int), .bool b2', .int .i64 s.code] 101, rowI M3 j3 s.m.s.digits, rowI M2 j2 s.m.b.digits, .blk w.heap.size [.int .i64 t.a.base, .slice A1 t.a.digits.length c1, .int .i64 t.b.base, .slice A2 t.b.digits.length c2, .int .i64 t.s.base, .slice A3 t.s.digits.length c3, .int .i64 t.carry] 28] w17 := (hK16.join hKr).sel [0, 1, 2, 7] 99 (by decide) (by decide)
    clear hK16 hKr
    have HB := Lib.hid (HDF.out s b' HZ.out he)
    obtain ⟨k1, k2, k3, -, -, g1', g2', -⟩ := vmach_all hg.m
    obtain ⟨⟨y3, y4⟩, ⟨z3, z4⟩, yd2, -⟩ := vreg_iff.1 k2
    obtain ⟨⟨y5, y6⟩, ⟨z5, z6⟩, yd3, -⟩ := vreg_iff.1 k3
    have hv3 := (valL_bd s.m.s.base y5 s.m.s.digits (fun d h => (yd3 d h).1)).1
    have hv3' := valL_lt s.m.s.base y5 s.m.s.digits yd3
    have KVC := (fun W (h : RI W M3 s.m.s.digits.length s.m.s.digits) => l02Value_any s.m.s.base M3 s.m.s.digits.length j3 s.m.s.digits W y5 y6 yd3 h (by omega))
    have KVR := (fun W (h : RI W M2 s.m.b.digits.length s.m.b.digits) => l02Value_any s.m.b.base M2 s.m.b.digits.length j2 s.m.b.digits W y3 y4 yd2 h (by omega))
    obtain ⟨VC, hVC⟩ : ∃ v, valL s.m.s.base s.m.s.digits = v := ⟨_, rfl⟩
    obtain ⟨VR, hVR⟩ : ∃ v, valL s.m.b.base s.m.b.digits = v := ⟨_, rfl⟩
    have HB := HB.out
    rw [hVC] at KVC HB hv3 hv3'
    rw [hVR] at KVR HB
    have KVC := Lib.hid KVC
    have KVR := Lib.hid KVR
    have HB := Lib.hid HB
    have nz1 : N3 ≠ 0 := by omega
    have nz2 : (N3 == 0) = false := by simp; omega
    have hwq := wrapI64 (n := N3 - VC) (by omega)
    clear KP KD KRP k1 k2 k3 hVC hVR y3 y4 y5 y6 yd2 yd3 he hg
    obtain ⟨d1, d2, d3, a1, a2, a3, -⟩ := hK18.cells
    go_wp2_with fail
    refine (KN3.out _ ((hK18.front 3 rfl).cellIs 4 _ rfl) ((hK18.front 3 rfl).cellIs 5 _ rfl)).mono ?_; rintro e w19 ⟨rfl, q, rfl⟩
    have hK19 := hK18.drewN q
    generalize w17.drewN q = w19 at hK19 ⊢
    clear hK18 d1 d2 d3 a1 a2 a3
    obtain ⟨d1, d2, d3, a1, a2, a3, -⟩ := hK19.cells
    go_wp2_with fail
    go_quiet ((go_at_call 76; exact quiet_left (KVC.out _ (hK19.drewN _).drop.riv)))
    have hK20 := hK19.drewN nq
    generalize w19.drewN nq = w20 at hK20 ⊢
    clear hK19 d1 d2 d3 a1 a2 a3
    obtain ⟨d1, d2, d3, a1, a2, a3, -⟩ := hK20.cells
    go_wp2_with fail
    go_quiet ((go_at_call 76; exact quiet_left (KVR.out _ (hK20.drewN _).drop.drop.riv)))
    have hK21 := hK20.drewN nq
    generalize w20.drewN nq = w21 at hK21 ⊢
    clear hK20 d1 d2 d3 a1 a2 a3
    obtain ⟨d1, d2, d3, a1, a2, a3, -⟩ := hK21.cells
    go_wp2_with fail
    go_quiet (fail)
    go_wp2_with fail
    refine bodyPost_ret (v := .tuple #[.int .i64 ((N3 - VC).tmod N3), .int .i64 VR, .int .i64 s.tr.length, .int .i64 0]) (by simp [results, Try.results9, go_sem]) rfl ⟨?_, (hK21.drewN _).below⟩
    rw [HB.out.1, HB.out.2.1, HB.out.2.2.1, HB.out.2.2.2]
end Go.Proofs.Ytcapccadpbiecaa

namespace Go.Proofs.Ytcapccadpbiecaa
open Go.RowKit Go.Sort
/-- the program that adds values -/
def inV (vs : List Int) : Bool := vs.all (fun v => betB v 0 1000000000000)
theorem inV_take_succ {vs : List Int} {k : Nat} (h : k < vs.length) : inV (vs.take (k + 1)) = (inV (vs.take k) && betB vs[k] 0 1000000000000) := by
  unfold inV; rw [List.take_succ_eq_append_getElem h, List.all_append]; simp only [List.all_cons, List.all_nil, Bool.and_true]
theorem inV_not {vs : List Int} {k : Nat} (h : k < vs.length) (h1 : betB vs[k] 0 1000000000000 = false) : inV vs = false := by
  simp only [inV, List.all_eq_false]; exact ⟨vs[k], List.getElem_mem _, by simp [h1]⟩
def sumL (vs : List Int) : List Ins := ⟨6, 0⟩ :: vs.flatMap (fun v => [⟨1, v⟩, ⟨2, 1⟩])
theorem sumL_step {vs : List Int} {k : Nat} (h : k < vs.length) : sumL (vs.take (k + 1)) = sumL (vs.take k) ++ [⟨1, vs[k]⟩, ⟨2, 1⟩] := by
  unfold sumL; rw [List.take_succ_eq_append_getElem h, List.flatMap_append]; rfl
theorem sumL_len (vs : List Int) : (sumL vs).length = 1 + 2 * vs.length := by
  unfold sumL
  induction vs with
  | nil => rfl
  | cons v vs ih => simp only [List.flatMap_cons, List.length_cons, List.length_append, List.length_nil] at ih ⊢; omega
def spC (vs : List Int) : Int := if inV vs = false then 2 else if 120 < 2 * (vs.length : Int) + 1 then 5 else 0
def spL (vs : List Int) : List Ins := if spC vs = 0 then sumL vs else []
theorem sp_bad {vs : List Int} {c : Int} (h : spC vs = c) (hc : ¬ c = 0) : spC vs = c ∧ spL vs = [] := ⟨h, by unfold spL; rw [h, if_neg hc]⟩
theorem sp_fine {vs : List Int} (h : spC vs = 0) : spC vs = 0 ∧ spL vs = sumL vs := ⟨h, by unfold spL; rw [h, if_pos rfl]⟩
def SPRet (vs : List Int) (w : World) (e : Ending) (w' : World) : Prop := ∃ LA lc, e = .returned (.tuple #[.slice LA (spL vs).length lc, .int .i64 (spC vs)]) ∧ Kn w [rowIns (.slice LA (spL vs).length lc) (spL vs)] w'
theorem SPRet.bad {vs : List Int} {c : Int} {w w' : World} (h : spC vs = c ∧ spL vs = []) (hk : Kn w [] w') : SPRet vs w (.returned (.tuple #[.slice none 0 0, .int .i64 c])) w' := by
  unfold SPRet
  rw [h.1, h.2]
  exact ⟨none, 0, rfl, hk.nilRow _ _⟩
theorem SPRet.fine {vs : List Int} {w w' : World} {A : Option Addr} {c : Nat} (h : spC vs = 0 ∧ spL vs = sumL vs) (hk : Kn w [rowIns (.slice A (sumL vs).length c) (sumL vs)] w') : SPRet vs w (.returned (.tuple #[.slice A (sumL vs).length c, .int .i64 0])) w' := by
  unfold SPRet
  rw [h.1, h.2]
  exact ⟨A, c, rfl, hk⟩
set_option maxRecDepth 100000 in
set_option maxHeartbeats 1600000 in
theorem l12Sum_any (A : Option Addr) (n c : Nat) (vs : List Int) (w : World) (hr : RI w A n vs) (hm : n ≤ 1048576) :
    Calls Try.prog 80 #[.slice A n c] w fun e w' => ∃ LA lc, e = .returned (.slice LA (sumL vs).length lc) ∧ Kn w [rowIns (.slice LA (sumL vs).length lc) (sumL vs)] w' := by
  have HL := Lib.hid hr.1
  have HLN := Lib.hid (fun (k : Nat) (h : k ≤ n) => show (sumL (vs.take k)).length ≤ 1 + 2 * n by rw [sumL_len, List.length_take]; omega)
  have HFN := Lib.hid (show sumL (vs.take n) = sumL vs by rw [List.take_of_length_le (by have := hr.1; omega)])
  have hK2 : Kn w [rowIns (.slice (some ⟨w.heap.size, 0, none⟩) 1 1) (sumL (vs.take 0))] _ := ((Kn.nil w).al [.int .i64 6, .int .i64 0] 71).litRow (size := 2) (n := 1) rfl (by decide)
  go_enter Try.func80, Try.ntmps80
  go_wp2_with fail
  go_loopw [3, 4] (fun vv kk wr => ∃ (k : Nat), k ≤ n ∧ kk = .int .i64 k ∧ Kn w [rowIns vv (sumL (vs.take k))] wr) (fun _ kk _ => n - (intOf kk).toNat)
  case atStart => exact ⟨0, Nat.zero_le _, rfl, hK2⟩
  case round =>
    clear hK2
    obtain ⟨k, hk, rfl, hK⟩ := hrel
    have hln := HLN.out k hk
    obtain ⟨ds, hds⟩ : ∃ ds, sumL (vs.take k) = ds := ⟨_, rfl⟩
    have HDJ := Lib.hid hds
    rw [hds] at hK hln
    obtain ⟨A0, c0, rfl⟩ := row_form hK.at0
    by_cases hkn : k < n
    · obtain ⟨ad, hA, hlt, hkl, hc⟩ := (hr.below hK.below).at_ hkn
      subst hA
      have HNX := Lib.hid (sumL_step hkl)
      obtain ⟨v, hv⟩ : ∃ v, vs[k] = v := ⟨_, rfl⟩
      have HNX := HNX.out
      rw [hv, hds] at HNX
      rw [hv] at hc
      have HNX := Lib.hid HNX
      clear hds hv
      go_wp2_with (at_builtin; refine kn_pushIns (m := []) (ys := [⟨1, v⟩, ⟨2, 1⟩]) rfl _ _ rfl _ ds rfl rfl (hK.al [.int .i64 1, .int .i64 v, .int .i64 2, .int .i64 1] 71) (by simp; omega) ?_; intro v3 w3 hK3)
      go_roundw
      case rel => exact ⟨k + 1, by omega, by go_num, by rw [HNX.out]; exact hK3⟩
      case measure => simp [intOf]; omega
    · obtain rfl : k = n := by omega
      have hfin := HFN.out
      rw [hds] at hfin
      subst hfin
      clear hds
      go_wp2_with fail
      (go_ret; exact ⟨_, _, rfl, hK⟩)
set_option maxRecDepth 100000 in
set_option maxHeartbeats 1600000 in
theorem SumProgram_any (A : Option Addr) (n c : Nat) (vs : List Int) (w : World) (hr : RI w A n vs) (hm : n ≤ 1048576) :
    Calls Try.prog 17 #[.slice A n c] w (SPRet vs w) := by
  have HL := Lib.hid hr.1
  go_enter Try.func17, Try.ntmps17
  go_wp2_with fail
  go_loop [11] (fun i => ∃ k : Nat, k ≤ n ∧ i = .int .i64 k ∧ inV (vs.take k) = true) (fun i => n - (intOf i).toNat)
  case atStart => exact ⟨0, Nat.zero_le _, rfl, by simp [inV]⟩
  case round =>
    obtain ⟨k, hk, rfl, hdg⟩ := hrel
    have HD := Lib.hid hdg; clear hdg
    by_cases hkn : k < n
    · obtain ⟨ad, hA, hlt, hkl, hc⟩ := hr.at_ hkn
      subst hA
      rcases hd : betB vs[k] 0 1000000000000 with _ | _
      · have HF := Lib.hid (sp_bad (vs := vs) (c := 2) (by unfold spC; rw [if_pos (inV_not hkl hd)]) (by decide))
        have hd' := Lib.hid hd; clear hd
        go_wp2_with (go_at_call 57; refine (between_any _ _ _ _).mono ?_; rintro e w' ⟨rfl, rfl⟩; rw [hd'.out])
        go_ret2
        exact SPRet.bad HF.out (Kn.nil w)
      · have hd' := Lib.hid hd; clear hd
        go_wp2_with (go_at_call 57; refine (between_any _ _ _ _).mono ?_; rintro e w' ⟨rfl, rfl⟩; rw [hd'.out])
        go_round
        case rel => exact ⟨k + 1, by omega, by go_num, by rw [inV_take_succ hkl, HD.out, hd'.out]; rfl⟩
        case measure => simp [intOf]; omega
    · have HK : Hid (inV vs = true) := by have h1 := HD.out; rwa [List.take_of_length_le (by have := HL.out; omega)] at h1
      have hs0 : spC vs = if 120 < 2 * (n : Int) + 1 then 5 else 0 := by unfold spC; rw [HK.out, if_neg (by decide), HL.out]
      clear HD hk
      by_cases hn : 120 < 2 * (n : Int) + 1
      · have HF := Lib.hid (sp_bad (vs := vs) (c := 5) (by rw [hs0, if_pos hn]) (by decide))
        clear hs0
        go_wp2_with fail
        go_ret2
        exact SPRet.bad HF.out (Kn.nil w)
      · have HF := Lib.hid (sp_fine (vs := vs) (by rw [hs0, if_neg hn]))
        clear hs0
        have HLN := Lib.hid (fun (k : Nat) (h : k ≤ n) => show (sumL (vs.take k)).length ≤ 1 + 2 * n by rw [sumL_len, List.length_take]; omega)
        have HFN := Lib.hid (show sumL (vs.take n) = sumL vs by rw [List.take_of_length_le (by have := hr.1; omega)])
        have hK2 : Kn w [rowIns (.slice (some ⟨w.heap.size, 0, none⟩) 1 1) (sumL (vs.take 0))] _ := ((Kn.nil w).al [.int .i64 6, .int .i64 0] 71).litRow (size := 2) (n := 1) rfl (by decide)
        go_wp2_with fail
        go_loopw [6, 28] (fun vv kk wr => ∃ (k : Nat), k ≤ n ∧ kk = .int .i64 k ∧ Kn w [rowIns vv (sumL (vs.take k))] wr) (fun _ kk _ => n - (intOf kk).toNat)
        case atStart => exact ⟨0, Nat.zero_le _, rfl, hK2⟩
        case round =>
          clear hK2
          obtain ⟨k, hk, rfl, hK⟩ := hrel
          have hln := HLN.out k hk
          obtain ⟨ds, hds⟩ : ∃ ds, sumL (vs.take k) = ds := ⟨_, rfl⟩
          have HDJ := Lib.hid hds
          rw [hds] at hK hln
          obtain ⟨A0, c0, rfl⟩ := row_form hK.at0
          by_cases hkn : k < n
          · obtain ⟨ad, hA, hlt, hkl, hc⟩ := (hr.below hK.below).at_ hkn
            subst hA
            have HNX := Lib.hid (sumL_step hkl)
            obtain ⟨v, hv⟩ : ∃ v, vs[k] = v := ⟨_, rfl⟩
            have HNX := HNX.out
            rw [hv, hds] at HNX
            rw [hv] at hc
            have HNX := Lib.hid HNX
            clear hds hv
            go_wp2_with (at_builtin; refine kn_pushIns (m := []) (ys := [⟨1, v⟩, ⟨2, 1⟩]) rfl _ _ rfl _ ds rfl rfl (hK.al [.int .i64 1, .int .i64 v, .int .i64 2, .int .i64 1] 71) (by simp; omega) ?_; intro v3 w3 hK3)
            go_roundw
            case rel => exact ⟨k + 1, by omega, by go_num, by rw [HNX.out]; exact hK3⟩
            case measure => simp [intOf]; omega
          · obtain rfl : k = n := by omega
            have hfin := HFN.out
            rw [hds] at hfin
            subst hfin
            clear hds
            go_wp2_with fail
            (go_ret2; exact SPRet.fine HF.out hK)
set_option maxRecDepth 100000 in
set_option maxHeartbeats 1600000 in
theorem specSumProgram_any (A : Option Addr) (n c : Nat) (vs : List Int) (w : World) (hr : RI w A n vs) (hm : n ≤ 1048576) :
    Calls Try.prog 18 #[.slice A n c] w (SPRet vs w) := by
  have HL := Lib.hid hr.1
  go_enter Try.func18, Try.ntmps18
  go_wp2_with fail
  go_loop [4] (fun i => ∃ k : Nat, k ≤ n ∧ i = .int .i64 k ∧ inV (vs.take k) = true) (fun i => n - (intOf i).toNat)
  case atStart => exact ⟨0, Nat.zero_le _, rfl, by simp [inV]⟩
  case round =>
    obtain ⟨k, hk, rfl, hdg⟩ := hrel
    have HD := Lib.hid hdg; clear hdg
    by_cases hkn : k < n
    · obtain ⟨ad, hA, hlt, hkl, hc⟩ := hr.at_ hkn
      subst hA
      rcases hd : betB vs[k] 0 1000000000000 with _ | _
      · have HF := Lib.hid (sp_bad (vs := vs) (c := 2) (by unfold spC; rw [if_pos (inV_not hkl hd)]) (by decide))
        have hd' := Lib.hid hd; clear hd
        go_wp2_with (go_at_call 68; refine (l00In_any _ _ _ _).mono ?_; rintro e w' ⟨rfl, rfl⟩; rw [hd'.out])
        go_ret2
        exact SPRet.bad HF.out (Kn.nil w)
      · have hd' := Lib.hid hd; clear hd
        go_wp2_with (go_at_call 68; refine (l00In_any _ _ _ _).mono ?_; rintro e w' ⟨rfl, rfl⟩; rw [hd'.out])
        go_round
        case rel => exact ⟨k + 1, by omega, by go_num, by rw [inV_take_succ hkl, HD.out, hd'.out]; rfl⟩
        case measure => simp [intOf]; omega
    · have HK : Hid (inV vs = true) := by have h1 := HD.out; rwa [List.take_of_length_le (by have := HL.out; omega)] at h1
      have hs0 : spC vs = if 120 < 2 * (n : Int) + 1 then 5 else 0 := by unfold spC; rw [HK.out, if_neg (by decide), HL.out]
      clear HD hk
      by_cases hn : 120 < 2 * (n : Int) + 1
      · have HF := Lib.hid (sp_bad (vs := vs) (c := 5) (by rw [hs0, if_pos hn]) (by decide))
        clear hs0
        go_wp2_with fail
        go_ret2
        exact SPRet.bad HF.out (Kn.nil w)
      · have HF := Lib.hid (sp_fine (vs := vs) (by rw [hs0, if_neg hn]))
        clear hs0
        (go_wp2_with fail; refine (l12Sum_any A n c vs w hr hm).mono ?_; rintro e w2 ⟨LA, lc, rfl, hK⟩; go_wp2_with fail; go_ret2; exact SPRet.fine HF.out hK)
end Go.Proofs.Ytcapccadpbiecaa

namespace Go.Proofs.Ytcapccadpbiecaa
open Go.RowKit Go.Sort
/-- a machine, a number, a code -/
def MSRet (M : Tri) (n c : Int) (w : World) (e : Ending) (w' : World) : Prop := ∃ A1 c1 A2 c2 A3 c3, e = .returned (.tuple #[.agg #[.int .i64 M.a.base, .slice A1 M.a.digits.length c1, .int .i64 M.b.base, .slice A2 M.b.digits.length c2, .int .i64 M.s.base, .slice A3 M.s.digits.length c3, .int .i64 M.carry], .int .i64 n, .int .i64 c]) ∧
  Kn w [rowI A3 c3 M.s.digits, rowI A2 c2 M.b.digits, rowI A1 c1 M.a.digits] w'
theorem MSRet.bad {w w' : World} {c : Int} (h : Kn w [] w') : MSRet zTri 0 c w (.returned (.tuple #[.agg #[.int .i64 0, .slice none 0 0, .int .i64 0, .slice none 0 0, .int .i64 0, .slice none 0 0, .int .i64 0], .int .i64 0, .int .i64 c])) w' :=
  ⟨none, 0, none, 0, none, 0, rfl, ((h.nilRow _ _).nilRow _ _).nilRow _ _⟩
noncomputable def soC (t : Tri) (vs : List Int) : Int := if vmach t = false then 1 else if spC vs = 0 then rpC (sumL vs) (clrT t) else spC vs
noncomputable def soM (t : Tri) (vs : List Int) : Tri := if vmach t = true ∧ spC vs = 0 then rpM (sumL vs) (clrT t) else zTri
noncomputable def soN (t : Tri) (vs : List Int) : Int := if vmach t = true ∧ spC vs = 0 then ((rpT (sumL vs) (clrT t)).length : Int) else 0
def SORet (t : Tri) (vs : List Int) (w : World) (e : Ending) (w' : World) : Prop := MSRet (soM t vs) (soN t vs) (soC t vs) w e w'
theorem so_bad {t : Tri} {vs : List Int} (h : vmach t = false) : soM t vs = zTri ∧ soN t vs = 0 ∧ soC t vs = 1 := by
  refine ⟨?_, ?_, ?_⟩
  · unfold soM; rw [if_neg (fun hh => by rw [h] at hh; exact absurd hh.1 (by decide))]
  · unfold soN; rw [if_neg (fun hh => by rw [h] at hh; exact absurd hh.1 (by decide))]
  · unfold soC; rw [if_pos h]
theorem so_bad2 {t : Tri} {vs : List Int} (h : vmach t = true) (h2 : ¬ spC vs = 0) : soM t vs = zTri ∧ soN t vs = 0 ∧ soC t vs = spC vs := by
  refine ⟨?_, ?_, ?_⟩
  · unfold soM; rw [if_neg (fun hh => h2 hh.2)]
  · unfold soN; rw [if_neg (fun hh => h2 hh.2)]
  · unfold soC; rw [if_neg (by rw [h]; decide), if_neg h2]
theorem so_fine {t : Tri} {vs : List Int} (h : vmach t = true) (h2 : spC vs = 0) : soM t vs = rpM (sumL vs) (clrT t) ∧ soN t vs = ((rpT (sumL vs) (clrT t)).length : Int) ∧ soC t vs = rpC (sumL vs) (clrT t) := by
  refine ⟨?_, ?_, ?_⟩
  · unfold soM; rw [if_pos ⟨h, h2⟩]
  · unfold soN; rw [if_pos ⟨h, h2⟩]
  · unfold soC; rw [if_neg (by rw [h]; decide), if_pos h2]
theorem soM_len (t : Tri) (vs : List Int) : (soM t vs).a.digits.length ≤ 16 ∧ (soM t vs).b.digits.length ≤ 16 ∧ (soM t vs).s.digits.length ≤ 16 := by
  unfold soM
  split
  · exact rpM_len _ _
  · exact ⟨by decide, by decide, by decide⟩
set_option maxRecDepth 100000 in
set_option maxHeartbeats 3200000 in
theorem SumOn_any (t : Tri) (A1 A2 A3 VA : Option Addr) (c1 c2 c3 n vc : Nat) (vs : List Int) (w : World) (r1 : RI w A1 t.a.digits.length t.a.digits) (r2 : RI w A2 t.b.digits.length t.b.digits) (r3 : RI w A3 t.s.digits.length t.s.digits) (hs : SmallTri t) (rv : RI w VA n vs) (hn : n ≤ 1048576) :
    Calls Try.prog 14 #[.agg #[.int .i64 t.a.base, .slice A1 t.a.digits.length c1, .int .i64 t.b.base, .slice A2 t.b.digits.length c2, .int .i64 t.s.base, .slice A3 t.s.digits.length c3, .int .i64 t.carry], .slice VA n vc] w (SORet t vs w) := by
  have KV := (fun W (hW : Below w.heap.size w W) => ValidMachine_any t A1 A2 A3 c1 c2 c3 W (r1.below hW) (r2.below hW) (r3.below hW) hs)
  rcases hv : vmach t with _ | _
  · rw [hv] at KV
    have HB := Lib.hid (so_bad (vs := vs) hv)
    have KV := Lib.hid KV
    clear hv r1 r2 r3 hs rv
    go_enter Try.func14, Try.ntmps14
    go_wp2_with fail
    refine Calls.kn (((Kn.nil w).al [.int .i64 t.a.base, .slice A1 t.a.digits.length c1, .int .i64 t.b.base, .slice A2 t.b.digits.length c2, .int .i64 t.s.base, .slice A3 t.s.digits.length c3, .int .i64 t.carry] 28).al [.int .i64 0, .slice none 0 0, .int .i64 0, .slice none 0 0, .int .i64 0, .slice none 0 0, .int .i64 0] 28) ?_; intro w1 hK0
    simp only [World.size_alloc] at hK0
    refine (KV.out _ hK0.below).mono ?_; rintro e w2 ⟨rfl, hw⟩
    have hK1 := hK0.keep hw
    obtain ⟨x1, x2, x3, -⟩ := hK1.cells
    go_wp2_with fail
    refine bodyPost.kn (((((((hK1.st 0 (.int .i64 0)).st 1 (.slice none 0 0)).st 2 (.int .i64 0)).st 3 (.slice none 0 0)).st 4 (.int .i64 0)).st 5 (.slice none 0 0)).st 6 (.int .i64 0)) ?_; intro w6 hK6
    clear x1 x2 x3
    obtain ⟨a1, a2, a3, -⟩ := hK6.cells
    refine bodyPost_ret (v := .tuple #[.agg #[.int .i64 0, .slice none 0 0, .int .i64 0, .slice none 0 0, .int .i64 0, .slice none 0 0, .int .i64 0], .int .i64 0, .int .i64 1]) (by simp [results, Try.results14, go_sem, a1]) rfl ?_
    unfold SORet
    rw [HB.out.1, HB.out.2.1, HB.out.2.2]
    exact MSRet.bad hK6.bare
  have KSP := (fun W (hW : Below w.heap.size w W) => SumProgram_any VA n vc vs W (rv.below hW) hn)
  rw [hv] at KV
  by_cases hc : spC vs = 0
  rotate_left
  · have hcb : (spC vs != 0) = true := by simpa using hc
    have HB := Lib.hid (so_bad2 hv hc)
    have KV := Lib.hid KV
    have KSP := Lib.hid KSP
    clear hv r1 r2 r3 hs rv hc
    go_enter Try.func14, Try.ntmps14
    go_wp2_with fail
    refine Calls.kn (((Kn.nil w).al [.int .i64 t.a.base, .slice A1 t.a.digits.length c1, .int .i64 t.b.base, .slice A2 t.b.digits.length c2, .int .i64 t.s.base, .slice A3 t.s.digits.length c3, .int .i64 t.carry] 28).al [.int .i64 0, .slice none 0 0, .int .i64 0, .slice none 0 0, .int .i64 0, .slice none 0 0, .int .i64 0] 28) ?_; intro w1 hK0
    simp only [World.size_alloc] at hK0
    refine (KV.out _ hK0.below).mono ?_; rintro e w2 ⟨rfl, hw⟩
    have hK1 := hK0.keep hw
    clear hK0 hw
    obtain ⟨a1, a2, a3, -⟩ := hK1.cells
    go_wp2_with fail
    refine (KSP.out _ hK1.below).mono ?_; rintro e w3 ⟨LA, lc, rfl, hKs⟩
    have hK1 := (hK1.join hKs).drop
    clear hKs a1 a2 a3
    obtain ⟨x1, x2, x3, -⟩ := hK1.cells
    go_wp2_with fail
    refine bodyPost.kn (((((((hK1.st 0 (.int .i64 0)).st 1 (.slice none 0 0)).st 2 (.int .i64 0)).st 3 (.slice none 0 0)).st 4 (.int .i64 0)).st 5 (.slice none 0 0)).st 6 (.int .i64 0)) ?_; intro w6 hK6
    clear x1 x2 x3
    obtain ⟨a1, a2, a3, -⟩ := hK6.cells
    refine bodyPost_ret (v := .tuple #[.agg #[.int .i64 0, .slice none 0 0, .int .i64 0, .slice none 0 0, .int .i64 0, .slice none 0 0, .int .i64 0], .int .i64 0, .int .i64 (spC vs)]) (by simp [results, Try.results14, go_sem, a1]) rfl ?_
    unfold SORet
    rw [HB.out.1, HB.out.2.1, HB.out.2.2]
    exact MSRet.bad hK6.bare
  obtain ⟨k1, k2, k3, e1, e2, f1, f2, l1, p0, p1⟩ := vmach_all hv
  obtain ⟨⟨b1, b2⟩, ⟨n1, n2⟩, -⟩ := vreg_iff.1 k1
  obtain ⟨⟨b3, b4⟩, ⟨n3, n4⟩, -⟩ := vreg_iff.1 k2
  obtain ⟨⟨b5, b6⟩, ⟨n5, n6⟩, -⟩ := vreg_iff.1 k3
  have hlen : (sumL vs).length ≤ 9223372036854775807 := by rw [sumL_len]; have := rv.1; omega
  have KC := (fun W => clearedM_any t A1 A2 A3 c1 c2 c3 W ⟨b1, b2⟩ ⟨b3, b4⟩ ⟨b5, b6⟩ (sized_of hv))
  simp only [digD_len, rowI] at KC
  have KRP := (fun (LA : Option Addr) (lc : Nat) (E1 E2 E3 : Option Addr) (g1 g2 g3 : Nat) W q1 q2 q3 hq => RunProgram_any (lc := lc) (LA := LA) (n := (sumL vs).length) (L := sumL vs) (clrT t) E1 E2 E3 g1 g2 g3 W q1 q2 q3 (by simp only [SmallTri, SmallReg, clrT, digD_len]; exact hs) hq hlen)
  unfold RPRet at KRP
  have HB := so_fine hv hc
  obtain ⟨RM, hRM⟩ : ∃ m, rpM (sumL vs) (clrT t) = m := ⟨_, rfl⟩
  obtain ⟨RN, hRN⟩ : ∃ m, ((rpT (sumL vs) (clrT t)).length : Int) = m := ⟨_, rfl⟩
  obtain ⟨RC, hRC⟩ : ∃ m, rpC (sumL vs) (clrT t) = m := ⟨_, rfl⟩
  rw [hRM, hRN, hRC] at HB
  simp only [hRM, hRN, hRC] at KRP
  clear hRM hRN hRC
  simp only [clrT, digD_len] at KRP
  obtain ⟨xs, hxs⟩ : ∃ l, digD t.a.base t.a.digits.length 0 = l := ⟨_, rfl⟩
  obtain ⟨ys, hys⟩ : ∃ l, digD t.b.base t.b.digits.length 0 = l := ⟨_, rfl⟩
  obtain ⟨zs, hzs⟩ : ∃ l, digD t.s.base t.s.digits.length 0 = l := ⟨_, rfl⟩
  obtain ⟨LL, hLL⟩ : ∃ l, sumL vs = l := ⟨_, rfl⟩
  rw [hxs, hys, hzs, hLL] at KRP
  rw [hxs, hys, hzs] at KC
  unfold SPRet at KSP
  rw [hc, (sp_fine hc).2, hLL] at KSP
  have HB := Lib.hid HB
  have KRP := Lib.hid KRP
  have KC := Lib.hid KC
  have KSP := Lib.hid KSP
  have KV := Lib.hid KV
  clear hv r1 r2 r3 hs rv hc k1 k2 k3 e1 e2 f1 f2 l1 p0 p1 hxs hys hzs hLL hlen
  go_enter Try.func14, Try.ntmps14
  go_wp2_with fail
  refine Calls.kn (((Kn.nil w).al [.int .i64 t.a.base, .slice A1 t.a.digits.length c1, .int .i64 t.b.base, .slice A2 t.b.digits.length c2, .int .i64 t.s.base, .slice A3 t.s.digits.length c3, .int .i64 t.carry] 28).al [.int .i64 0, .slice none 0 0, .int .i64 0, .slice none 0 0, .int .i64 0, .slice none 0 0, .int .i64 0] 28) ?_; intro w1 hK0
  simp only [World.size_alloc] at hK0
  refine (KV.out _ hK0.below).mono ?_; rintro e w2 ⟨rfl, hw⟩
  have hK1 := hK0.keep hw
  clear hK0 hw
  obtain ⟨a1, a2, a3, a4, a5, a6, -⟩ := hK1.cells
  go_wp2_with fail
  refine (KSP.out _ hK1.below).mono ?_; rintro e w3 ⟨LA, lc, rfl, hKs⟩
  have hK2 : Kn w [rowIns (.slice LA LL.length lc) LL, .blk (w.heap.size + 1) [.int .i64 0, .slice none 0 0, .int .i64 0, .slice none 0 0, .int .i64 0, .slice none 0 0, .int .i64 0] 28, .blk w.heap.size [.int .i64 t.a.base, .slice A1 t.a.digits.length c1, .int .i64 t.b.base, .slice A2 t.b.digits.length c2, .int .i64 t.s.base, .slice A3 t.s.digits.length c3, .int .i64 t.carry] 28] w3 := hK1.join hKs
  clear hK1 hKs a1 a2 a3 a4 a5 a6
  obtain ⟨a1, a2, a3, a4, a5, a6, -⟩ := hK2.cells
  go_wp2_with fail
  refine (KC.out _).mono ?_; rintro e w4 ⟨E1, g1, E2, g2, E3, g3, rfl, hKc⟩
  have hK3 : Kn w [rowN E3 t.s.digits.length g3 zs, rowN E2 t.b.digits.length g2 ys, rowN E1 t.a.digits.length g1 xs, rowIns (.slice LA LL.length lc) LL, .blk (w.heap.size + 1) [.int .i64 0, .slice none 0 0, .int .i64 0, .slice none 0 0, .int .i64 0, .slice none 0 0, .int .i64 0] 28, .blk w.heap.size [.int .i64 t.a.base, .slice A1 t.a.digits.length c1, .int .i64 t.b.base, .slice A2 t.b.digits.length c2, .int .i64 t.s.base, .slice A3 t.s.digits.length c3, .int .i64 t.carry] 28] w4 := hK2.join hKc
  clear hK2 hKc a1 a2 a3 a4 a5 a6
  go_wp2_with fail
  refine (KRP.out _ _ _ _ _ _ _ _ _ (Kn.riN (hK3.sel [2] 99 (by decide) (by decide))) (Kn.riN (hK3.sel [1] 99 (by decide) (by decide))) (Kn.riN hK3) (Kn.rlIns (hK3.sel [3] 99 (by decide) (by decide))).2).mono ?_; rintro e w9 ⟨B1, d1, B2, d2, B3, d3, rfl, hKr⟩
  have hK10 : Kn w [.blk (w.heap.size + 1) [.int .i64 0, .slice none 0 0, .int .i64 0, .slice none 0 0, .int .i64 0, .slice none 0 0, .int .i64 0] 28, rowI B3 d3 RM.s.digits, rowI B2 d2 RM.b.digits, rowI B1 d1 RM.a.digits] w9 := (hK3.join hKr).sel [7, 0, 1, 2] 99 (by decide) (by decide)
  clear hK3 hKr
  obtain ⟨a1, a2, a3, -⟩ := hK10.cells
  go_wp2_with fail
  refine bodyPost.kn (((((((hK10.st 0 (.int .i64 RM.a.base)).st 1 (.slice B1 RM.a.digits.length d1)).st 2 (.int .i64 RM.b.base)).st 3 (.slice B2 RM.b.digits.length d2)).st 4 (.int .i64 RM.s.base)).st 5 (.slice B3 RM.s.digits.length d3)).st 6 (.int .i64 RM.carry)) ?_; intro w11 hK11
  clear a1 a2 a3
  obtain ⟨a1, a2, a3, -⟩ := hK11.cells
  refine bodyPost_ret (v := .tuple #[.agg #[.int .i64 RM.a.base, .slice B1 RM.a.digits.length d1, .int .i64 RM.b.base, .slice B2 RM.b.digits.length d2, .int .i64 RM.s.base, .slice B3 RM.s.digits.length d3, .int .i64 RM.carry], .int .i64 RN, .int .i64 RC]) (by simp [results, Try.results14, go_sem, a1]) rfl ?_
  unfold SORet
  rw [HB.out.1, HB.out.2.1, HB.out.2.2]
  exact ⟨B1, d1, B2, d2, B3, d3, rfl, hK11.drop⟩
set_option maxRecDepth 100000 in
set_option maxHeartbeats 3200000 in
theorem specSumOn_any (t : Tri) (A1 A2 A3 VA : Option Addr) (c1 c2 c3 n vc : Nat) (vs : List Int) (w : World) (r1 : RI w A1 t.a.digits.length t.a.digits) (r2 : RI w A2 t.b.digits.length t.b.digits) (r3 : RI w A3 t.s.digits.length t.s.digits) (hs : SmallTri t) (rv : RI w VA n vs) (hn : n ≤ 1048576) :
    Calls Try.prog 15 #[.agg #[.int .i64 t.a.base, .slice A1 t.a.digits.length c1, .int .i64 t.b.base, .slice A2 t.b.digits.length c2, .int .i64 t.s.base, .slice A3 t.s.digits.length c3, .int .i64 t.carry], .slice VA n vc] w (SORet t vs w) := by
  have hTC : ∀ W, Kn w [.blk (w.heap.size + 1) [.int .i64 0, .slice none 0 0, .int .i64 0, .slice none 0 0, .int .i64 0, .slice none 0 0, .int .i64 0] 28, .blk w.heap.size [.int .i64 t.a.base, .slice A1 t.a.digits.length c1, .int .i64 t.b.base, .slice A2 t.b.digits.length c2, .int .i64 t.s.base, .slice A3 t.s.digits.length c3, .int .i64 t.carry] 28] W → TriC W ⟨w.heap.size, 0, none⟩ t A1 c1 A2 c2 A3 c3 := fun W h => ⟨⟨h.drop.blkAt.1 0, h.drop.blkAt.1 1, h.drop.blkAt.1 2, h.drop.blkAt.1 3, h.drop.blkAt.1 4, h.drop.blkAt.1 5, h.drop.blkAt.1 6⟩, r1.below h.below, r2.below h.below, r3.below h.below⟩
  have KV := (fun W (hW : Kn w [.blk (w.heap.size + 1) [.int .i64 0, .slice none 0 0, .int .i64 0, .slice none 0 0, .int .i64 0, .slice none 0 0, .int .i64 0] 28, .blk w.heap.size [.int .i64 t.a.base, .slice A1 t.a.digits.length c1, .int .i64 t.b.base, .slice A2 t.b.digits.length c2, .int .i64 t.s.base, .slice A3 t.s.digits.length c3, .int .i64 t.carry] 28] W) => l10Ok_any ⟨w.heap.size, 0, none⟩ t W (hTC W hW).tri hs)
  rcases hv : vmach t with _ | _
  · rw [hv] at KV
    have HB := Lib.hid (so_bad (vs := vs) hv)
    have KV := Lib.hid KV
    clear hv r1 r2 r3 hs rv hTC
    go_enter Try.func15, Try.ntmps15
    go_wp2_with fail
    refine Calls.kn (((Kn.nil w).al [.int .i64 t.a.base, .slice A1 t.a.digits.length c1, .int .i64 t.b.base, .slice A2 t.b.digits.length c2, .int .i64 t.s.base, .slice A3 t.s.digits.length c3, .int .i64 t.carry] 28).al [.int .i64 0, .slice none 0 0, .int .i64 0, .slice none 0 0, .int .i64 0, .slice none 0 0, .int .i64 0] 28) ?_; intro w1 hK0
    simp only [World.size_alloc] at hK0
    refine (KV.out _ hK0).mono ?_; rintro e w2 ⟨rfl, q, rfl⟩
    have hK1 := hK0.drewN q
    generalize w1.drewN q = w3 at hK1 ⊢
    obtain ⟨x1, x2, x3, -⟩ := hK1.cells
    go_wp2_with fail
    refine bodyPost.kn (((((((hK1.st 0 (.int .i64 0)).st 1 (.slice none 0 0)).st 2 (.int .i64 0)).st 3 (.slice none 0 0)).st 4 (.int .i64 0)).st 5 (.slice none 0 0)).st 6 (.int .i64 0)) ?_; intro w6 hK6
    clear x1 x2 x3
    obtain ⟨a1, a2, a3, -⟩ := hK6.cells
    refine bodyPost_ret (v := .tuple #[.agg #[.int .i64 0, .slice none 0 0, .int .i64 0, .slice none 0 0, .int .i64 0, .slice none 0 0, .int .i64 0], .int .i64 0, .int .i64 1]) (by simp [results, Try.results15, go_sem, a1]) rfl ?_
    unfold SORet
    rw [HB.out.1, HB.out.2.1, HB.out.2.2]
    exact MSRet.bad hK6.bare
  have KSP := (fun W (hW : Below w.heap.size w W) => specSumProgram_any VA n vc vs W (rv.below hW) hn)
  rw [hv] at KV
  by_cases hc : spC vs = 0
  rotate_left
  · have hcb : (spC vs != 0) = true := by simpa using hc
    have HB := Lib.hid (so_bad2 hv hc)
    have KV := Lib.hid KV
    have KSP := Lib.hid KSP
    clear hv r1 r2 r3 hs rv hc hTC
    go_enter Try.func15, Try.ntmps15
    go_wp2_with fail
    refine Calls.kn (((Kn.nil w).al [.int .i64 t.a.base, .slice A1 t.a.digits.length c1, .int .i64 t.b.base, .slice A2 t.b.digits.length c2, .int .i64 t.s.base, .slice A3 t.s.digits.length c3, .int .i64 t.carry] 28).al [.int .i64 0, .slice none 0 0, .int .i64 0, .slice none 0 0, .int .i64 0, .slice none 0 0, .int .i64 0] 28) ?_; intro w1 hK0
    simp only [World.size_alloc] at hK0
    refine (KV.out _ hK0).mono ?_; rintro e w2 ⟨rfl, q, rfl⟩
    have hK1 := hK0.drewN q
    generalize w1.drewN q = w3 at hK1 ⊢
    clear hK0
    go_wp2_with fail
    refine (KSP.out _ hK1.below).mono ?_; rintro e w4 ⟨LA, lc, rfl, hKs⟩
    have hK1 := (hK1.join hKs).drop
    clear hKs
    obtain ⟨x1, x2, x3, -⟩ := hK1.cells
    go_wp2_with fail
    refine bodyPost.kn (((((((hK1.st 0 (.int .i64 0)).st 1 (.slice none 0 0)).st 2 (.int .i64 0)).st 3 (.slice none 0 0)).st 4 (.int .i64 0)).st 5 (.slice none 0 0)).st 6 (.int .i64 0)) ?_; intro w6 hK6
    clear x1 x2 x3
    obtain ⟨a1, a2, a3, -⟩ := hK6.cells
    refine bodyPost_ret (v := .tuple #[.agg #[.int .i64 0, .slice none 0 0, .int .i64 0, .slice none 0 0, .int .i64 0, .slice none 0 0, .int .i64 0], .int .i64 0, .int .i64 (spC vs)]) (by simp [results, Try.results15, go_sem, a1]) rfl ?_
    unfold SORet
    rw [HB.out.1, HB.out.2.1, HB.out.2.2]
    exact MSRet.bad hK6.bare
  obtain ⟨k1, k2, k3, e1, e2, f1, f2, l1, p0, p1⟩ := vmach_all hv
  obtain ⟨⟨b1, b2⟩, ⟨n1, n2⟩, -⟩ := vreg_iff.1 k1
  obtain ⟨⟨b3, b4⟩, ⟨n3, n4⟩, -⟩ := vreg_iff.1 k2
  obtain ⟨⟨b5, b6⟩, ⟨n5, n6⟩, -⟩ := vreg_iff.1 k3
  have hlen : (sumL vs).length ≤ 9223372036854775807 := by rw [sumL_len]; have := rv.1; omega
  have KC : ∀ W, W.cell? ⟨w.heap.size, 0, none⟩ = some (.int .i64 t.a.base) → W.cell? ⟨w.heap.size, 1, none⟩ = some (.slice A1 t.a.digits.length c1) → W.cell? ⟨w.heap.size, 3, none⟩ = some (.slice A2 t.b.digits.length c2) → W.cell? ⟨w.heap.size, 5, none⟩ = some (.slice A3 t.s.digits.length c3) → Calls Try.prog 72 #[.pointer (some ⟨w.heap.size, 0, none⟩), .int .i64 0] W fun e w' => ∃ E1 g1 E2 g2 E3 g3, e = .returned (.agg #[.int .i64 t.a.base, .slice E1 (digD t.a.base t.a.digits.length 0).length g1, .int .i64 t.b.base, .slice E2 (digD t.b.base t.b.digits.length 0).length g2, .int .i64 t.s.base, .slice E3 (digD t.s.base t.s.digits.length 0).length g3, .int .i64 0]) ∧
      Kn W [rowI E3 g3 (digD t.s.base t.s.digits.length 0), rowI E2 g2 (digD t.b.base t.b.digits.length 0), rowI E1 g1 (digD t.a.base t.a.digits.length 0)] w' := by
    intro W q1 q2 q3 q4
    have := l12Fresh_any w.heap.size t.a.base A1 A2 A3 t.a.digits.length t.b.digits.length t.s.digits.length c1 c2 c3 0 W q1 q2 q3 q4 b1 b2 (by omega) (by omega) (by omega) (by decide) (by decide)
    rw [e2, ← e1]
    exact this
  simp only [digD_len, rowI] at KC
  have KRP := (fun (LA : Option Addr) (lc : Nat) (E1 E2 E3 : Option Addr) (g1 g2 g3 : Nat) W q1 q2 q3 hq => specRunProgram_any (lc := lc) (LA := LA) (n := (sumL vs).length) (L := sumL vs) (clrT t) E1 E2 E3 g1 g2 g3 W q1 q2 q3 (by simp only [SmallTri, SmallReg, clrT, digD_len]; exact hs) hq hlen)
  unfold RPRet at KRP
  have HB := so_fine hv hc
  obtain ⟨RM, hRM⟩ : ∃ m, rpM (sumL vs) (clrT t) = m := ⟨_, rfl⟩
  obtain ⟨RN, hRN⟩ : ∃ m, ((rpT (sumL vs) (clrT t)).length : Int) = m := ⟨_, rfl⟩
  obtain ⟨RC, hRC⟩ : ∃ m, rpC (sumL vs) (clrT t) = m := ⟨_, rfl⟩
  rw [hRM, hRN, hRC] at HB
  simp only [hRM, hRN, hRC] at KRP
  clear hRM hRN hRC
  simp only [clrT, digD_len] at KRP
  obtain ⟨xs, hxs⟩ : ∃ l, digD t.a.base t.a.digits.length 0 = l := ⟨_, rfl⟩
  obtain ⟨ys, hys⟩ : ∃ l, digD t.b.base t.b.digits.length 0 = l := ⟨_, rfl⟩
  obtain ⟨zs, hzs⟩ : ∃ l, digD t.s.base t.s.digits.length 0 = l := ⟨_, rfl⟩
  obtain ⟨LL, hLL⟩ : ∃ l, sumL vs = l := ⟨_, rfl⟩
  rw [hxs, hys, hzs, hLL] at KRP
  rw [hxs, hys, hzs] at KC
  unfold SPRet at KSP
  rw [hc, (sp_fine hc).2, hLL] at KSP
  have HB := Lib.hid HB
  have KRP := Lib.hid KRP
  have KC := Lib.hid KC
  have KSP := Lib.hid KSP
  have KV := Lib.hid KV
  clear hv r1 r2 r3 hs rv hc k1 k2 k3 e1 e2 f1 f2 l1 p0 p1 hxs hys hzs hLL hlen hTC
  go_enter Try.func15, Try.ntmps15
  go_wp2_with fail
  refine Calls.kn (((Kn.nil w).al [.int .i64 t.a.base, .slice A1 t.a.digits.length c1, .int .i64 t.b.base, .slice A2 t.b.digits.length c2, .int .i64 t.s.base, .slice A3 t.s.digits.length c3, .int .i64 t.carry] 28).al [.int .i64 0, .slice none 0 0, .int .i64 0, .slice none 0 0, .int .i64 0, .slice none 0 0, .int .i64 0] 28) ?_; intro w1 hK0
  simp only [World.size_alloc] at hK0
  refine (KV.out _ hK0).mono ?_; rintro e w2 ⟨rfl, q, rfl⟩
  have hK1 := hK0.drewN q
  generalize w1.drewN q = w2 at hK1 ⊢
  clear hK0
  go_wp2_with fail
  refine (KSP.out _ hK1.below).mono ?_; rintro e w3 ⟨LA, lc, rfl, hKs⟩
  have hK2 : Kn w [rowIns (.slice LA LL.length lc) LL, .blk (w.heap.size + 1) [.int .i64 0, .slice none 0 0, .int .i64 0, .slice none 0 0, .int .i64 0, .slice none 0 0, .int .i64 0] 28, .blk w.heap.size [.int .i64 t.a.base, .slice A1 t.a.digits.length c1, .int .i64 t.b.base, .slice A2 t.b.digits.length c2, .int .i64 t.s.base, .slice A3 t.s.digits.length c3, .int .i64 t.carry] 28] w3 := hK1.join hKs
  clear hK1 hKs
  go_wp2_with fail
  have hKb := hK2.drop.drop.blkAt.1
  refine (KC.out _ (hKb 0) (hKb 1) (hKb 3) (hKb 5)).mono ?_; rintro e w4 ⟨E1, g1, E2, g2, E3, g3, rfl, hKc⟩
  have hK3 : Kn w [rowN E3 t.s.digits.length g3 zs, rowN E2 t.b.digits.length g2 ys, rowN E1 t.a.digits.length g1 xs, rowIns (.slice LA LL.length lc) LL, .blk (w.heap.size + 1) [.int .i64 0, .slice none 0 0, .int .i64 0, .slice none 0 0, .int .i64 0, .slice none 0 0, .int .i64 0] 28, .blk w.heap.size [.int .i64 t.a.base, .slice A1 t.a.digits.length c1, .int .i64 t.b.base, .slice A2 t.b.digits.length c2, .int .i64 t.s.base, .slice A3 t.s.digits.length c3, .int .i64 t.carry] 28] w4 := hK2.join hKc
  clear hK2 hKc hKb
  go_wp2_with fail
  refine Calls.kn (hK3.al [.int .i64 t.a.base, .slice E1 t.a.digits.length g1, .int .i64 t.b.base, .slice E2 t.b.digits.length g2, .int .i64 t.s.base, .slice E3 t.s.digits.length g3, .int .i64 0] 28) ?_; intro w5 hK5
  refine (KRP.out _ _ _ _ _ _ _ _ _ (Kn.riN (hK5.sel [3] 99 (by decide) (by decide))) (Kn.riN (hK5.sel [2] 99 (by decide) (by decide))) (Kn.riN (hK5.sel [1] 99 (by decide) (by decide))) (Kn.rlIns (hK5.sel [4] 99 (by decide) (by decide))).2).mono ?_; rintro e w9 ⟨B1, d1, B2, d2, B3, d3, rfl, hKr⟩
  have hK10 : Kn w [.blk (w.heap.size + 1) [.int .i64 0, .slice none 0 0, .int .i64 0, .slice none 0 0, .int .i64 0, .slice none 0 0, .int .i64 0] 28, rowI B3 d3 RM.s.digits, rowI B2 d2 RM.b.digits, rowI B1 d1 RM.a.digits] w9 := (hK5.join hKr).sel [8, 0, 1, 2] 99 (by decide) (by decide)
  clear hK3 hK5 hKr
  obtain ⟨a1, a2, a3, -⟩ := hK10.cells
  go_wp2_with fail
  refine bodyPost.kn (((((((hK10.st 0 (.int .i64 RM.a.base)).st 1 (.slice B1 RM.a.digits.length d1)).st 2 (.int .i64 RM.b.base)).st 3 (.slice B2 RM.b.digits.length d2)).st 4 (.int .i64 RM.s.base)).st 5 (.slice B3 RM.s.digits.length d3)).st 6 (.int .i64 RM.carry)) ?_; intro w11 hK11
  clear a1 a2 a3
  obtain ⟨a1, a2, a3, -⟩ := hK11.cells
  refine bodyPost_ret (v := .tuple #[.agg #[.int .i64 RM.a.base, .slice B1 RM.a.digits.length d1, .int .i64 RM.b.base, .slice B2 RM.b.digits.length d2, .int .i64 RM.s.base, .slice B3 RM.s.digits.length d3, .int .i64 RM.carry], .int .i64 RN, .int .i64 RC]) (by simp [results, Try.results15, go_sem, a1]) rfl ?_
  unfold SORet
  rw [HB.out.1, HB.out.2.1, HB.out.2.2]
  exact ⟨B1, d1, B2, d2, B3, d3, rfl, hK11.drop⟩
end Go.Proofs.Ytcapccadpbiecaa

namespace Go.Proofs.Ytcapccadpbiecaa
open Go.RowKit Go.Sort
theorem info_ins : (Try.prog.info? 71).map (fun i => (i.zero, i.size, i.bytes)) = some (some (.agg #[.int .i64 0, .int .i64 0]), 2, 16) := by kernel_rfl
theorem cellsIns_ext {xs : List Ins} {cs : List Value} (hl : cs.length = xs.length * 2) (h : ∀ (i : Nat) (h : i < xs.length), cs[i * 2]? = some (.int .i64 xs[i].op) ∧ cs[i * 2 + 1]? = some (.int .i64 xs[i].arg)) : cs = cellsIns xs := by
  apply List.ext_getElem?
  intro j
  by_cases hj : j < xs.length * 2
  · obtain ⟨h1, h2⟩ := h (j / 2) (by omega)
    obtain ⟨h3, h4⟩ := cellsIns_get xs (j / 2) (by omega)
    rcases Nat.mod_two_eq_zero_or_one j with he | he
    · have e : j / 2 * 2 = j := by omega
      rw [e] at h1 h3; rw [h1, h3]
    · have e : j / 2 * 2 + 1 = j := by omega
      rw [e] at h2 h4; rw [h2, h4]
  · rw [List.getElem?_eq_none (by omega), List.getElem?_eq_none (by rw [cellsIns_len]; omega)]
def rowInsN (A : Option Addr) (n c : Nat) (xs : List Ins) : Ent := .row (.slice A n c) 71 2 n (cellsIns xs)
theorem Kn.rlInsN {w0 w : World} {m : List Ent} {A : Option Addr} {n c : Nat} {xs : List Ins} (h : Kn w0 (rowInsN A n c xs :: m) w) (hl : xs.length = n) : RL InsM 2 w A n xs := by
  subst hl
  exact (Kn.rlIns (m := m) h).2
/-- the first j cells are marked -/
def markedV (k : Int) (cs : List Value) (j : Nat) : List Value := (upto k j).map (Value.int .i64) ++ cs.drop j
theorem markedV_set (k : Int) (cs : List Value) {j : Nat} (h : j < cs.length) : (markedV k cs j).set j (.int .i64 (k + j)) = markedV k cs (j + 1) := by
  unfold markedV
  rw [List.set_append_right _ _ (by rw [List.length_map, upto_len]; exact Nat.le_refl _), List.length_map, upto_len, Nat.sub_self, List.drop_eq_getElem_cons h, List.set_cons_zero]
  simp [upto, List.range_succ]
theorem markedV_len (k : Int) (cs : List Value) {j : Nat} (h : j ≤ cs.length) : (markedV k cs j).length = cs.length := by simp [markedV, upto_len]; omega
end Go.Proofs.Ytcapccadpbiecaa

namespace Go.Proofs.Ytcapccadpbiecaa
open Go.RowKit Go.Sort
set_option maxHeartbeats 400000 in
theorem l00Same_any (A B : Option Addr) (n c m d : Nat) (ds es : List Int) (w : World) (hr : RI w A n ds) (hs : RI w B m es) (hm : n ≤ 9223372036854775807) (hm2 : m ≤ 9223372036854775807) :
    Calls Try.prog 128 #[.slice A n c, .slice B m d] w fun e w' => e = .returned (.bool (decide (ds = es))) ∧ ∃ q, w' = w.drewN q := by
  have HL := Lib.hid hr.1
  have HM := Lib.hid hs.1
  by_cases hnm : n = m
  · subst hnm
    go_enter Try.func128, Try.ntmps128
    go_wp2
    go_loopw [5] (fun i wr => ∃ k : Nat, k ≤ n ∧ i = .int .i64 k ∧ ds.take k = es.take k ∧ ∃ q, wr = w.drewN q) (fun i _ => n - (intOf i).toNat)
    case atStart => exact ⟨0, Nat.zero_le _, rfl, by simp, 0, rfl⟩
    case round =>
      obtain ⟨k, hk, rfl, hdg, q, rfl⟩ := hrel
      have HD := Lib.hid hdg; clear hdg
      by_cases hkn : k < n
      · obtain ⟨ad, hA, hlt, hkl, hc⟩ := hr.at_ hkn
        obtain ⟨ad2, hB, hlt2, hkl2, hc2⟩ := hs.at_ hkn
        subst hA; subst hB
        have hi0 : (0 : Int) ≤ (k : Int) := by omega
        have hi1 : (k : Int) < (n : Int) := by omega
        rcases hd : (ds[k] != es[k]) with _ | _
        · go_wp2
          go_quiet (fail)
          go_wp2
          have he : ds[k] = es[k] := by simpa using hd
          have HE := Lib.hid he; clear he
          go_roundw
          case rel => exact ⟨k + 1, by omega, by go_num, take_eq_of_succ HD.out hkl hkl2 HE.out, by first | exact ⟨_, rfl⟩ | exact ⟨_, World.drewN_drewN _ _ _⟩⟩
          case measure => simp [intOf]; omega
        · go_wp2
          go_quiet (fail)
          go_wp2
          go_ret
          refine ⟨ret_bool ?_, by first | exact ⟨_, rfl⟩ | exact ⟨_, World.drewN_drewN _ _ _⟩⟩
          have : ds ≠ es := by rintro rfl; simp at hd
          simp [this]
      · have HF : Hid (ds = es) := by
          have := HD.out
          rwa [List.take_of_length_le (by have := HL.out; omega), List.take_of_length_le (by have := HM.out; omega)] at this
        go_wp2
        go_ret
        exact ⟨ret_bool (by simp [HF.out]), q, rfl⟩
  · have HF : Hid (ds ≠ es) := by rintro rfl; exact hnm (hr.1.symm.trans hs.1)
    go_enter Try.func128, Try.ntmps128
    go_wp2
    go_ret
    exact ⟨ret_bool (by simp [HF.out]), 0, rfl⟩
def sameR (r s : Reg) : Bool := r.base == s.base && decide (r.digits = s.digits)
theorem l02Same_any (p q : Addr) (r s : Reg) (w : World) (hp : RegM w p r) (hq : RegM w q s) (hm : SmallReg r) (hm2 : SmallReg s) :
    Calls Try.prog 96 #[.pointer (some p), .pointer (some q)] w fun e w' => e = .returned (.bool (sameR r s)) ∧ ∃ m, w' = w.drewN m := by
  obtain ⟨A, c, ⟨ha, hb⟩, hr⟩ := hp
  obtain ⟨B, d, ⟨ha0, hb0⟩, hs⟩ := hq
  unfold SmallReg at hm hm2
  have K1 := Lib.hid (fun (m : Nat) => l00Same_any A B _ c _ d r.digits s.digits (w.drewN m) hr hs (by omega) (by omega))
  rcases k : (r.base == s.base) with _ | _
  · have HF : Hid (sameR r s = false) := by simp only [Hid, sameR]; rw [k]; rfl
    go_enter Try.func96, Try.ntmps96
    go_wp2_with fail
    go_quiet ((go_at_call 128; exact quiet_of_ex (K1.out _)))
    go_wp2
    go_ret
    exact ⟨ret_bool HF.out.symm, _, rfl⟩
  · have HF : Hid (sameR r s = decide (r.digits = s.digits)) := by simp only [Hid, sameR]; rw [k]; rfl
    go_enter Try.func96, Try.ntmps96
    go_wp2_with fail
    go_quiet ((go_at_call 128; exact quiet_of_ex (K1.out _)))
    go_wp2
    go_ret
    exact ⟨ret_bool HF.out.symm, _, rfl⟩
/-- the carry out of a digit with a kind of fault -/
def cstep (base t c kind : Int) : Int := if kind = 1 then 0 else if kind = 2 then 1 else if kind = 3 then (if t < base then 0 else 1) else if t + c < base then 0 else 1
end Go.Proofs.Ytcapccadpbiecaa

namespace Go.Proofs.Ytcapccadpbiecaa
open Go.RowKit Go.Sort
def sameM (t u : Tri) : Bool := sameR t.a u.a && sameR t.b u.b && sameR t.s u.s && (t.carry == u.carry)
theorem sameR_refl (r : Reg) : sameR r r = true := by simp [sameR]
theorem sameM_refl (t : Tri) : sameM t t = true := by simp [sameM, sameR_refl]
set_option maxRecDepth 100000 in
set_option maxHeartbeats 1600000 in
theorem l10Same_any (p q : Addr) (t u : Tri) (w : World) (hT : TriM w p t) (hU : TriM w q u) (hs : SmallTri t) (hu : SmallTri u) :
    Calls Try.prog 81 #[.pointer (some p), .pointer (some q)] w fun e w' => e = .returned (.bool (sameM t u)) ∧ ∃ m, w' = w.drewN m := by
  have HM := Lib.hid (show sameM t u = (sameR t.a u.a && sameR t.b u.b && sameR t.s u.s && (t.carry == u.carry)) from rfl)
  have K1 := (fun (m : Nat) => l02Same_any p q t.a u.a (w.drewN m) hT.1 hU.1 hs.1 hu.1)
  have K2 := (fun (m : Nat) => l02Same_any ⟨p.block, p.off + 2, none⟩ ⟨q.block, q.off + 2, none⟩ t.b u.b (w.drewN m) hT.2.1 hU.2.1 hs.2.1 hu.2.1)
  have K3 := (fun (m : Nat) => l02Same_any ⟨p.block, p.off + 4, none⟩ ⟨q.block, q.off + 4, none⟩ t.s u.s (w.drewN m) hT.2.2.1 hU.2.2.1 hs.2.2 hu.2.2)
  have hc1 := hT.2.2.2
  have hc2 := hU.2.2.2
  obtain ⟨e1, h1⟩ : ∃ b, sameR t.a u.a = b := ⟨_, rfl⟩
  obtain ⟨e2, h2⟩ : ∃ b, sameR t.b u.b = b := ⟨_, rfl⟩
  obtain ⟨e3, h3⟩ : ∃ b, sameR t.s u.s = b := ⟨_, rfl⟩
  rw [h1] at K1 HM
  rw [h2] at K2 HM
  rw [h3] at K3 HM
  replace K1 := Lib.hid K1
  replace K2 := Lib.hid K2
  replace K3 := Lib.hid K3
  obtain ⟨R, hR⟩ : ∃ R, sameM t u = R := ⟨_, rfl⟩
  rw [hR] at HM ⊢
  clear h1 h2 h3 hT hU hs hu hR
  rcases e1 with _ | _
  · have HQ : Hid (R = false) := by simp only [Hid]; rw [HM.out]; rfl
    go_enter Try.func81, Try.ntmps81
    go_wp2_with fail
    go_quiet ((go_at_call 96; first | (with_reducible exact quiet_of_ex (K1.out _)) | (with_reducible exact quiet_add_ex (K1.out _)) | (with_reducible exact quiet_of_ex (K2.out _)) | (with_reducible exact quiet_add_ex (K2.out _)) | (with_reducible exact quiet_of_ex (K3.out _)) | (with_reducible exact quiet_add_ex (K3.out _))))
    go_wp2_with fail
    go_ret
    exact ⟨ret_bool HQ.out.symm, by first | exact ⟨_, rfl⟩ | exact ⟨_, World.drewN_drewN _ _ _⟩⟩
  rcases e2 with _ | _
  · have HQ : Hid (R = false) := by simp only [Hid]; rw [HM.out]; rfl
    go_enter Try.func81, Try.ntmps81
    go_wp2_with fail
    go_quiet ((go_at_call 96; first | (with_reducible exact quiet_of_ex (K1.out _)) | (with_reducible exact quiet_add_ex (K1.out _)) | (with_reducible exact quiet_of_ex (K2.out _)) | (with_reducible exact quiet_add_ex (K2.out _)) | (with_reducible exact quiet_of_ex (K3.out _)) | (with_reducible exact quiet_add_ex (K3.out _))))
    go_wp2_with fail
    go_ret
    exact ⟨ret_bool HQ.out.symm, by first | exact ⟨_, rfl⟩ | exact ⟨_, World.drewN_drewN _ _ _⟩⟩
  rcases e3 with _ | _
  · have HQ : Hid (R = false) := by simp only [Hid]; rw [HM.out]; rfl
    go_enter Try.func81, Try.ntmps81
    go_wp2_with fail
    go_quiet ((go_at_call 96; first | (with_reducible exact quiet_of_ex (K1.out _)) | (with_reducible exact quiet_add_ex (K1.out _)) | (with_reducible exact quiet_of_ex (K2.out _)) | (with_reducible exact quiet_add_ex (K2.out _)) | (with_reducible exact quiet_of_ex (K3.out _)) | (with_reducible exact quiet_add_ex (K3.out _))))
    go_wp2_with fail
    go_ret
    exact ⟨ret_bool HQ.out.symm, by first | exact ⟨_, rfl⟩ | exact ⟨_, World.drewN_drewN _ _ _⟩⟩
  · have HQ : Hid (R = (t.carry == u.carry)) := by simp only [Hid]; rw [HM.out]; simp
    go_enter Try.func81, Try.ntmps81
    go_wp2_with fail
    go_quiet ((go_at_call 96; first | (with_reducible exact quiet_of_ex (K1.out _)) | (with_reducible exact quiet_add_ex (K1.out _)) | (with_reducible exact quiet_of_ex (K2.out _)) | (with_reducible exact quiet_add_ex (K2.out _)) | (with_reducible exact quiet_of_ex (K3.out _)) | (with_reducible exact quiet_add_ex (K3.out _))))
    go_wp2_with fail
    go_ret
    exact ⟨ret_bool HQ.out.symm, by first | exact ⟨_, rfl⟩ | exact ⟨_, World.drewN_drewN _ _ _⟩⟩
theorem specSameMachine_any (t u : Tri) (A1 A2 A3 B1 B2 B3 : Option Addr) (c1 c2 c3 d1 d2 d3 : Nat) (w : World) (r1 : RI w A1 t.a.digits.length t.a.digits) (r2 : RI w A2 t.b.digits.length t.b.digits) (r3 : RI w A3 t.s.digits.length t.s.digits)
    (q1 : RI w B1 u.a.digits.length u.a.digits) (q2 : RI w B2 u.b.digits.length u.b.digits) (q3 : RI w B3 u.s.digits.length u.s.digits) (hs : SmallTri t) (hu : SmallTri u) :
    Calls Try.prog 20 #[.agg #[.int .i64 t.a.base, .slice A1 t.a.digits.length c1, .int .i64 t.b.base, .slice A2 t.b.digits.length c2, .int .i64 t.s.base, .slice A3 t.s.digits.length c3, .int .i64 t.carry], .agg #[.int .i64 u.a.base, .slice B1 u.a.digits.length d1, .int .i64 u.b.base, .slice B2 u.b.digits.length d2, .int .i64 u.s.base, .slice B3 u.s.digits.length d3, .int .i64 u.carry]] w fun e w' => e = .returned (.bool (sameM t u)) ∧ Below w.heap.size w w' := by
  have KV := Lib.hid (fun W (hW : Kn w ([.blk (w.heap.size + 1) [.int .i64 u.a.base, .slice B1 u.a.digits.length d1, .int .i64 u.b.base, .slice B2 u.b.digits.length d2, .int .i64 u.s.base, .slice B3 u.s.digits.length d3, .int .i64 u.carry] 28, .blk w.heap.size [.int .i64 t.a.base, .slice A1 t.a.digits.length c1, .int .i64 t.b.base, .slice A2 t.b.digits.length c2, .int .i64 t.s.base, .slice A3 t.s.digits.length c3, .int .i64 t.carry] 28]) W) => l10Same_any ⟨w.heap.size, 0, none⟩ ⟨w.heap.size + 1, 0, none⟩ t u W
    (TriC.tri (A1 := A1) (c1 := c1) (A2 := A2) (c2 := c2) (A3 := A3) (c3 := c3) ⟨⟨hW.drop.blkAt.1 0, hW.drop.blkAt.1 1, hW.drop.blkAt.1 2, hW.drop.blkAt.1 3, hW.drop.blkAt.1 4, hW.drop.blkAt.1 5, hW.drop.blkAt.1 6⟩, r1.below hW.below, r2.below hW.below, r3.below hW.below⟩)
    (TriC.tri (A1 := B1) (c1 := d1) (A2 := B2) (c2 := d2) (A3 := B3) (c3 := d3) ⟨⟨hW.blkAt.1 0, hW.blkAt.1 1, hW.blkAt.1 2, hW.blkAt.1 3, hW.blkAt.1 4, hW.blkAt.1 5, hW.blkAt.1 6⟩, q1.below hW.below, q2.below hW.below, q3.below hW.below⟩) hs hu)
  clear r1 r2 r3 q1 q2 q3
  go_enter Try.func20, Try.ntmps20
  go_wp2_with fail
  refine Calls.kn (((Kn.nil w).al [.int .i64 t.a.base, .slice A1 t.a.digits.length c1, .int .i64 t.b.base, .slice A2 t.b.digits.length c2, .int .i64 t.s.base, .slice A3 t.s.digits.length c3, .int .i64 t.carry] 28).al [.int .i64 u.a.base, .slice B1 u.a.digits.length d1, .int .i64 u.b.base, .slice B2 u.b.digits.length d2, .int .i64 u.s.base, .slice B3 u.s.digits.length d3, .int .i64 u.carry] 28) ?_; intro w1 hK0
  simp only [World.size_alloc] at hK0
  refine (KV.out _ hK0).mono ?_; rintro e w2 ⟨rfl, m, rfl⟩
  go_wp2_with fail
  go_ret
  exact ⟨rfl, (hK0.drewN m).below⟩
end Go.Proofs.Ytcapccadpbiecaa

namespace Go.Proofs.Ytcapccadpbiecaa
open Go.RowKit Go.Sort
/-- a base and widths are those of machines -/
def nmOk (b n1 n2 n3 : Int) : Bool := (betB b 2 16 && betB n1 1 16 && betB n2 1 16 && betB n3 1 16) && vmach (newT b n1.toNat n2.toNat n3.toNat)
theorem regWidth_any (n : Int) (w : World) : Calls Try.prog 78 #[.int .i64 n] w fun e w' => e = .returned (.bool (betB n 1 16)) ∧ w = w' := by
  go_enter Try.func78, Try.ntmps78
  go_wp2_with (go_at_call 57; refine (between_any _ _ _ _).mono ?_; rintro e w' ⟨rfl, rfl⟩)
  go_ret
  exact ⟨rfl, rfl⟩
/-- what NewMachine returns for widths in range -/
def NMRet (b : Int) (n1 n2 n3 : Nat) (v : Bool) (w : World) (e : Ending) (w' : World) : Prop :=
  (v = true ∧ ∃ E1 g1 E2 g2 E3 g3, e = .returned (.tuple #[.agg #[.int .i64 b, .slice E1 (digD b n1 0).length g1, .int .i64 b, .slice E2 (digD b n2 0).length g2, .int .i64 b, .slice E3 (digD b n3 0).length g3, .int .i64 0], .int .i64 0]) ∧ Kn w [rowI E3 g3 (digD b n3 0), rowI E2 g2 (digD b n2 0), rowI E1 g1 (digD b n1 0)] w') ∨
  (v = false ∧ e = .returned (.tuple #[.agg #[.int .i64 0, .slice none 0 0, .int .i64 0, .slice none 0 0, .int .i64 0, .slice none 0 0, .int .i64 0], .int .i64 2]) ∧ Below w.heap.size w w')
end Go.Proofs.Ytcapccadpbiecaa

namespace Go.Proofs.Ytcapccadpbiecaa
open Go.RowKit Go.Sort
theorem f6bigP_any (A : Option Addr) (n c : Nat) (w : World) : Calls Try.prog 6 #[.slice A n c] w fun e w' => e = .returned (.bool (decide ((n : Int) > 4096))) ∧ w' = w := by
  go_enter Try.func6, Try.ntmps6
  go_wp2
  go_ret
  exact ⟨rfl, rfl⟩
theorem Kn.rowSmall {w0 w : World} {m : List Ent} {A : Option Addr} {c : Nat} {ds : List Int} (h : Kn w0 (rowI A c ds :: m) w) : ds.length ≤ 9223372036854775807 := by
  have h0 : w.ownsRow 0 2 1 (.slice A ds.length c) ds.length _ := h.at0
  rcases h0.2 with ⟨_, h2⟩ | ⟨g, cap, cur, hv, -, -, h5, h6, -⟩
  · omega
  · unfold maxLen at h6; omega
theorem sumL_fold : ∀ {vs : List Int}, inV vs = true → (vs.flatMap (fun v => [⟨1, v⟩, ⟨2, 1⟩] : Int → List Ins)).foldl stepI (some 0) = some 0
  | [], _ => rfl
  | v :: l, h => by
    simp only [inV, List.all_cons, Bool.and_eq_true] at h
    have h2 : inV l = true := h.2
    have e1 : stepI (some 0) ⟨1, v⟩ = some 0 := by simp [stepI, instrOk, h.1, depthStep, opens]
    have e2 : stepI (some 0) ⟨2, 1⟩ = some 0 := by decide
    simp only [List.flatMap_cons, List.foldl_append, List.foldl_cons, List.foldl_nil, e1, e2]
    exact sumL_fold h2
theorem sumL_ok {vs : List Int} (h : spC vs = 0) : vprog (sumL vs) = true := by
  unfold spC at h
  have hi : inV vs = true := by
    cases hv : inV vs with
    | true => rfl
    | false => rw [if_pos hv] at h; simp at h
  rw [if_neg (by rw [hi]; decide)] at h
  have hl : ¬ 120 < 2 * (vs.length : Int) + 1 := by
    intro h2; rw [if_pos h2] at h; simp at h
  have e1 : stepI (some 0) ⟨6, 0⟩ = some 0 := by decide
  unfold vprog
  simp only [Bool.and_eq_true, decide_eq_true_eq]
  refine ⟨?_, by rw [sumL_len]; omega⟩
  unfold progD sumL
  rw [List.foldl_cons, e1]
  exact sumL_fold hi
/-- the program that divides, and a code -/
def dpC (p : Int) : Int := if betB p 1 16 = true then 0 else 2
def dpL (p : Int) : List Ins := if betB p 1 16 = true then divProg p.toNat else []
def DPRet (p : Int) (w : World) (e : Ending) (w' : World) : Prop := ∃ LA lc, e = .returned (.tuple #[.slice LA (dpL p).length lc, .int .i64 (dpC p)]) ∧ Kn w [rowIns (.slice LA (dpL p).length lc) (dpL p)] w'
theorem dp_ok {p : Int} (h : dpC p = 0) : vprog (dpL p) = true := by
  unfold dpC at h
  unfold dpL
  split at h
  · rename_i hb
    rw [if_pos hb]
    have := betB_iff.1 hb
    exact divProg_ok (by omega) (by omega)
  · simp at h
set_option maxRecDepth 100000 in
theorem DivideProgram_any (p : Int) (w : World) : Calls Try.prog 11 #[.int .i64 p] w (DPRet p w) := by
  unfold DPRet
  cases hb : betB p 1 16 with
  | false =>
    have e1 : dpL p = [] := by unfold dpL; rw [if_neg (by rw [hb]; decide)]
    have e2 : dpC p = 2 := by unfold dpC; rw [if_neg (by rw [hb]; decide)]
    rw [e1, e2]
    clear e1 e2
    have HBB := Lib.hid hb
    clear hb
    go_enter Try.func11, Try.ntmps11
    go_wp2_with ((go_at_call 78; refine (regWidth_any _ _).mono ?_); rintro e w' ⟨rfl, rfl⟩; rw [HBB.out])
    go_ret2
    exact ⟨none, 0, rfl, (Kn.nil _).nilIns⟩
  | true =>
    have hp := betB_iff.1 hb
    obtain ⟨q, rfl⟩ : ∃ q : Nat, p = q := ⟨p.toNat, by omega⟩
    have e1 : dpL q = divProg q := by unfold dpL; rw [if_pos hb]; rfl
    have e2 : dpC q = 0 := by unfold dpC; rw [if_pos hb]
    rw [e1, e2]
    clear e1 e2
    have HBB := Lib.hid hb
    have KD := Lib.hid (fun W => divideProgram_any q W (by omega) (by omega))
    clear hb hp
    obtain ⟨L, hL⟩ : ∃ L, divProg q = L := ⟨_, rfl⟩
    rw [hL] at KD ⊢
    clear hL
    go_enter Try.func11, Try.ntmps11
    go_wp2_with ((go_at_call 78; refine (regWidth_any _ _).mono ?_); rintro e w' ⟨rfl, rfl⟩; rw [HBB.out])
    go_wp2_with fail
    refine (KD.out _).mono ?_; rintro e w2 ⟨A, c, rfl, hK⟩
    go_wp2_with fail
    go_ret2
    exact ⟨A, c, rfl, hK⟩
set_option maxRecDepth 100000 in
theorem specDivideProgram_any (p : Int) (w : World) : Calls Try.prog 12 #[.int .i64 p] w (DPRet p w) := by
  unfold DPRet
  cases hb : betB p 1 16 with
  | false =>
    have e1 : dpL p = [] := by unfold dpL; rw [if_neg (by rw [hb]; decide)]
    have e2 : dpC p = 2 := by unfold dpC; rw [if_neg (by rw [hb]; decide)]
    rw [e1, e2]
    clear e1 e2
    have HBB := Lib.hid hb
    clear hb
    go_enter Try.func12, Try.ntmps12
    go_wp2_with ((go_at_call 68; refine (l00In_any _ _ _ _).mono ?_); rintro e w' ⟨rfl, rfl⟩; rw [HBB.out])
    go_ret2
    exact ⟨none, 0, rfl, (Kn.nil _).nilIns⟩
  | true =>
    have hp := betB_iff.1 hb
    obtain ⟨q, rfl⟩ : ∃ q : Nat, p = q := ⟨p.toNat, by omega⟩
    have e1 : dpL q = divProg q := by unfold dpL; rw [if_pos hb]; rfl
    have e2 : dpC q = 0 := by unfold dpC; rw [if_pos hb]
    rw [e1, e2]
    clear e1 e2
    have HBB := Lib.hid hb
    have KD := Lib.hid (fun W => l12Divide_any q W (by omega) (by omega))
    clear hb hp
    obtain ⟨L, hL⟩ : ∃ L, divProg q = L := ⟨_, rfl⟩
    rw [hL] at KD ⊢
    clear hL
    go_enter Try.func12, Try.ntmps12
    go_wp2_with ((go_at_call 68; refine (l00In_any _ _ _ _).mono ?_); rintro e w' ⟨rfl, rfl⟩; rw [HBB.out])
    go_wp2_with fail
    refine (KD.out _).mono ?_; rintro e w2 ⟨A, c, rfl, hK⟩
    go_wp2_with fail
    go_ret2
    exact ⟨A, c, rfl, hK⟩
set_option maxRecDepth 100000 in
set_option maxHeartbeats 1600000 in
theorem f6instrs_same (A B : Option Addr) (n c d : Nat) (xs : List Ins) (w : World) (hr : RL InsM 2 w A n xs) (hs : RL InsM 2 w B n xs) (hm : n ≤ 1048576) :
    Calls Try.prog 19 #[.slice A n c, .slice B n d] w fun e w' => e = .returned (.bool true) ∧ Below w.heap.size w w' := by
  have HR := Lib.hid hr
  have HS := Lib.hid hs
  clear hr hs
  go_enter Try.func19, Try.ntmps19
  go_wp2_with fail
  go_loopw [5] (fun i wr => ∃ (k : Nat), k ≤ n ∧ i = .int .i64 k ∧ Kn w [] wr) (fun i _ => n - (intOf i).toNat)
  case atStart => exact ⟨0, Nat.zero_le _, rfl, Kn.nil w⟩
  case round =>
    obtain ⟨k, hk, rfl, hK⟩ := hrel
    by_cases hkn : k < n
    · obtain ⟨ad, hA, hlt, hkl, hx⟩ := (HR.out.below steady_InsM hK.drew.below).at_ hkn
      obtain ⟨bd, hB, hlt2, hkl2, hy⟩ := (HS.out.below steady_InsM hK.drew.below).at_ hkn
      obtain ⟨x, hxe⟩ : ∃ x, xs[k] = x := ⟨_, rfl⟩
      rw [hxe] at hx hy
      have HG := Lib.hid (show (_ ∧ _) ∧ _ ∧ _ from ⟨hx, hy⟩)
      have hi0 : (0 : Int) ≤ (k : Int) := by omega
      have hi1 : (k : Int) < (n : Int) := by omega
      subst hA
      subst hB
      clear hxe hx hy hlt hlt2
      go_wp2_with fail
      go_region_held3 (fun W => (W.cell? (ad.add (k * 2)) = some (.int .i64 x.op) ∧ W.cell? ⟨(ad.add (k * 2)).block, (ad.add (k * 2)).off + 1, none⟩ = some (.int .i64 x.arg)) ∧ W.cell? (bd.add (k * 2)) = some (.int .i64 x.op) ∧ W.cell? ⟨(bd.add (k * 2)).block, (bd.add (k * 2)).off + 1, none⟩ = some (.int .i64 x.arg)) (first | exact HG.out) (fail)
      all_goals
        go_wp2_with fail
        go_roundw
        case rel => exact ⟨k + 1, by omega, by go_num, hK.drew⟩
        case measure => simp [intOf]; omega
    · have hi1 : ¬ (k : Int) < (n : Int) := by omega
      go_wp2_with fail
      go_ret
      exact ⟨rfl, hK.below⟩
end Go.Proofs.Ytcapccadpbiecaa
