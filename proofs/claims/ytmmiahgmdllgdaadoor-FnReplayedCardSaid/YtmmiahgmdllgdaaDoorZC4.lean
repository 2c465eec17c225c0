/- Part 4: lemmas and contracts of the claim's functions. -/
import Derived.Test.YtmmiahgmdllgdaaDoorZC1
import Derived.Test.YtmmiahgmdllgdaaDoorZC2
import Derived.Test.YtmmiahgmdllgdaaDoorZC3
import Derived.Deep.DeepCutAuto
import Derived.Deep.DrawnRows
import Derived.Deep.RegionHeld3
namespace Go.Proofs.YtmmiahgmdllgdaaDoor
open Go.RowKit Go.Sort
set_option maxRecDepth 100000 in
set_option maxHeartbeats 6400000 in
theorem stroke_any (t : Tri) (A1 A2 A3 : Option Addr) (c1 c2 c3 : Nat) (k : Int) (w : World) (r1 : RI w A1 t.a.digits.length t.a.digits) (r2 : RI w A2 t.b.digits.length t.b.digits) (r3 : RI w A3 t.s.digits.length t.s.digits) (hv : vmach t = true) (hk16 : 1 ≤ k ∧ k ≤ 6) :
    Calls Tryd.prog 23 #[.agg #[.int .i64 t.a.base, .slice A1 t.a.digits.length c1, .int .i64 t.b.base, .slice A2 t.b.digits.length c2, .int .i64 t.s.base, .slice A3 t.s.digits.length c3, .int .i64 t.carry], .int .i64 k] w fun e w' => ∃ A1 c1 A2 c2 A3 c3, e = .returned (.tuple #[.agg #[.int .i64 (strokeT k t).1.a.base, .slice A1 (strokeT k t).1.a.digits.length c1, .int .i64 (strokeT k t).1.b.base, .slice A2 (strokeT k t).1.b.digits.length c2, .int .i64 (strokeT k t).1.s.base, .slice A3 (strokeT k t).1.s.digits.length c3, .int .i64 (strokeT k t).1.carry], .bool (strokeT k t).2]) ∧
      Kn w [rowI A3 c3 (strokeT k t).1.s.digits, rowI A2 c2 (strokeT k t).1.b.digits, rowI A1 c1 (strokeT k t).1.a.digits] w' := by
  obtain ⟨k1, k2, k3, e1, e2, f1, f2, l1, p0, p1⟩ := vmach_all hv
  obtain ⟨u1, u2, u3, u4⟩ := turn_bd hv
  obtain ⟨⟨b1, b2⟩, ⟨n1, n2⟩, hd1, -⟩ := vreg_iff.1 k1
  obtain ⟨⟨b3, b4⟩, ⟨n3, n4⟩, hd2, -⟩ := vreg_iff.1 k2
  obtain ⟨⟨b5, b6⟩, ⟨n5, n6⟩, hd3, -⟩ := vreg_iff.1 k3
  have hz : Sized t := ⟨n1, n3, n5, n2, n4, n6⟩
  have KC := Lib.hid (fun W (hW : Below w.heap.size w W) => copiedM_any t A1 A2 A3 c1 c2 c3 W (r1.below hW) (r2.below hW) (r3.below hW) hz)
  have KP := (fun W => power_B t.b.base t.carry.toNat W b3 b4 (by unfold vplaces at p1; omega))
  have hpc : powC t.b.base t.carry.toNat = pw t.b.base t.carry.toNat := by unfold powC; rw [if_pos u2]
  rw [hpc, show ((t.carry.toNat : Nat) : Int) = t.carry by omega] at KP
  obtain ⟨U, hU⟩ : ∃ U, pw t.b.base t.carry.toNat = U := ⟨_, rfl⟩
  have HU := Lib.hid hU
  rw [hU] at KP u1 u2 u3 u4
  have KP := Lib.hid KP
  have E1 := Lib.hid e1
  have E2 := Lib.hid e2
  clear hpc hU e1 e2 hz
  go_enter Tryd.func23, Tryd.ntmps23
  go_wp2_with fail
  refine Calls.kn (((Kn.nil w).al [.int .i64 t.a.base, .slice A1 t.a.digits.length c1, .int .i64 t.b.base, .slice A2 t.b.digits.length c2, .int .i64 t.s.base, .slice A3 t.s.digits.length c3, .int .i64 t.carry] 28).al [.int .i64 0, .slice none 0 0, .int .i64 0, .slice none 0 0, .int .i64 0, .slice none 0 0, .int .i64 0] 28) ?_; intro w1 hK1
  simp only [World.size_alloc] at hK1
  with_reducible refine (KC.out _ hK1.below).mono ?_; rintro e w2 ⟨B1, h1, B2, h2, B3, h3, rfl, hKC⟩
  have hK2 := hK1.join hKC
  obtain ⟨a1, a2, a3, d1, d2, d3, -⟩ := hK2.cells
  clear hK1 hKC
  go_wp2_with fail
  refine Calls.kn (hK2.al [.int .i64 t.a.base, .slice B1 t.a.digits.length h1, .int .i64 t.b.base, .slice B2 t.b.digits.length h2, .int .i64 t.s.base, .slice B3 t.s.digits.length h3, .int .i64 t.carry] 28) ?_; intro w3 hK3
  with_reducible refine (KP.out _).mono ?_; rintro e w4 ⟨rfl, hw⟩
  have hK4 := hK3.keep hw
  clear a1 a2 a3 d1 d2 d3 hK2 hK3 hw
  obtain ⟨x1, x2, x3, a1, a2, a3, d1, d2, d3, -⟩ := hK4.cells
  have hk' : k = 1 ∨ k = 2 ∨ k = 3 ∨ k = 4 ∨ k = 5 ∨ k = 6 := by omega
  clear hk16
  rcases hk' with hk | hk | hk | hk | hk | hk
  · subst hk
    have hT : strokeT 1 t = turnT t 1 := by unfold strokeT; simp
    have KV := (fun W (hW : Below w.heap.size w W) => value_any t.a.base A1 t.a.digits.length c1 t.a.digits W b1 b2 hd1 (r1.below hW) n2)
    have hTT : turnT t 1 = (⟨t.a, ⟨t.b.base, shiftD t.b.base t.b.digits (1 * (valL t.a.base t.a.digits * pw t.b.base t.carry.toNat))⟩, ⟨t.s.base, shiftD t.s.base t.s.digits (1 * pw t.b.base t.carry.toNat)⟩, t.carry⟩, shiftB t.b.base t.b.digits (1 * (valL t.a.base t.a.digits * pw t.b.base t.carry.toNat))) := rfl
    rw [HU.out] at hTT
    obtain ⟨V, hV⟩ : ∃ V, valL t.a.base t.a.digits = V := ⟨_, rfl⟩
    rw [hV] at KV hTT u3 u4
    obtain ⟨X, hX⟩ : ∃ X, 1 * (V * U) = X := ⟨_, rfl⟩
    obtain ⟨Y, hY⟩ : ∃ Y, 1 * U = Y := ⟨_, rfl⟩
    rw [hX, hY] at hTT
    have hXb : -1000000000001 ≤ X ∧ X ≤ 1000000000001 := by omega
    have hYb : -1000000000001 ≤ Y ∧ Y ≤ 1000000000001 := by omega
    have hV1 : 0 ≤ V := by
      have := (valL_bd t.a.base b1 t.a.digits (fun d h => (hd1 d h).1)).1
      omega
    have hV2 : V ≤ 1000000000001 := by
      have := Int.mul_le_mul_of_nonneg_left (show 1 ≤ U from u1) hV1
      rw [Int.mul_one] at this
      omega
    have KS2 := (fun W (hW : Below w.heap.size w W) => shifted_any t.b.base A2 c2 t.b.digits X W (r2.below hW) k2 f1 hXb.1 hXb.2)
    have KS3 := (fun W (hW : Below w.heap.size w W) => shifted_any t.s.base A3 c3 t.s.digits Y W (r3.below hW) k3 f2 hYb.1 hYb.2)
    obtain ⟨es, hes⟩ : ∃ es, shiftD t.b.base t.b.digits X = es := ⟨_, rfl⟩
    obtain ⟨fs, hfs⟩ : ∃ fs, shiftD t.s.base t.s.digits Y = fs := ⟨_, rfl⟩
    obtain ⟨bell, hbl⟩ : ∃ e, shiftB t.b.base t.b.digits X = e := ⟨_, rfl⟩
    obtain ⟨bell2, hbl2⟩ : ∃ e, shiftB t.s.base t.s.digits Y = e := ⟨_, rfl⟩
    rw [hes, hbl] at KS2
    rw [hfs, hbl2] at KS3
    rw [hes, hfs, hbl] at hTT
    have HS := Lib.hid (hT.trans hTT)
    have KV := Lib.hid KV
    have KS2 := Lib.hid KS2
    have KS3 := Lib.hid KS3
    have HYY := Lib.hid hY
    have HW2 := Lib.hid (show IntKind.i64.wrap (V * U) = X by rw [← hX, Int.one_mul]; exact wrapI64 (by omega))
    have HW1 := HW2
    clear hT hTT hV hX hY hes hfs hbl hbl2 hd1 hd2 hd3 r1 r2 r3 k1 k2 k3 KC KP f1 f2 l1 p0 p1
    go_wp2_with fail
    have HG := Lib.hid (box7 hK4.drew.drop.drop.drop.drop.drop)
    have HT := HG
    go_cut [7] (fun bb wx => bb = .bool bell ∧ ∃ (E2 : Option Addr) (g2 : Nat), Kn w [.blk w2.heap.size [.int .i64 t.a.base, .slice B1 t.a.digits.length h1, .int .i64 t.b.base, .slice E2 es.length g2, .int .i64 t.s.base, .slice B3 t.s.digits.length h3, .int .i64 t.carry] 28, rowI E2 g2 es, rowI B3 h3 t.s.digits, rowI B2 h2 t.b.digits, rowI B1 h1 t.a.digits, .blk (w.heap.size + 1) [.int .i64 0, .slice none 0 0, .int .i64 0, .slice none 0 0, .int .i64 0, .slice none 0 0, .int .i64 0] 28, .blk w.heap.size [.int .i64 t.a.base, .slice A1 t.a.digits.length c1, .int .i64 t.b.base, .slice A2 t.b.digits.length c2, .int .i64 t.s.base, .slice A3 t.s.digits.length c3, .int .i64 t.carry] 28] wx)
    case first =>
      go_region_held3 (fun W => W.cell? ⟨w.heap.size, 0, none⟩ = some (.int .i64 t.a.base) ∧ W.cell? ⟨w.heap.size, 1, none⟩ = some (.slice A1 t.a.digits.length c1) ∧ W.cell? ⟨w.heap.size, 2, none⟩ = some (.int .i64 t.b.base) ∧ W.cell? ⟨w.heap.size, 3, none⟩ = some (.slice A2 t.b.digits.length c2) ∧ W.cell? ⟨w.heap.size, 4, none⟩ = some (.int .i64 t.s.base) ∧ W.cell? ⟨w.heap.size, 5, none⟩ = some (.slice A3 t.s.digits.length c3) ∧ W.cell? ⟨w.heap.size, 6, none⟩ = some (.int .i64 t.carry))
        (first | with_reducible exact HG.out | with_reducible exact HT.out | exact HG.out | exact HT.out) (first
        | (go_at_call 51; (with_reducible refine (KV.out _ hK4.drew.below).mono ?_); rintro e w5 ⟨rfl, hw⟩; have hK5 := hK4.drew.keep hw; clear HG; have HG := Lib.hid (box7 hK5.drop.drop.drop.drop.drop))
        | (go_at_call 50; (first | (rw [HW1.out]; rw [HW2.out]) | rw [HW2.out]); (with_reducible refine (KS2.out _ hK5.below).mono ?_); rintro e w6 ⟨E2, g2, rfl, hK⟩; have hK6 := hK5.join hK; clear HG; have HG := Lib.hid (box7 hK6.drop.drop.drop.drop.drop.drop); have hK7 := (hK6.sw1.st 2 (.int .i64 t.b.base)).st 3 (.slice E2 es.length g2); have HT := Lib.hid (box7 hK7.drop.drop.drop.drop.drop.drop); obtain ⟨q1, q2, q3⟩ := hK6.drop.blkAt))
      all_goals
        go_wp2_with fail
        go_meet
        exact ⟨rfl, _, _, hK7⟩
    case rest =>
      obtain ⟨rfl, E2, g2, hK5⟩ := hcut
      clear HG HT x1 x2 x3 a1 a2 a3 d1 d2 d3 hK4 KV KS2
      obtain ⟨x1, x2, x3, a1, a2, a3, d1, d2, d3, -⟩ := hK5.cells
      go_wp2_with fail
      rw [show U = Y by rw [← HYY.out]; omega]
      refine (KS3.out _ hK5.below).mono ?_; rintro e w6 ⟨E3, g3, rfl, hK⟩
      have hK6 := hK5.join hK
      clear x1 x2 x3 a1 a2 a3 d1 d2 d3 hK5
      obtain ⟨x1, x2, x3, a1, a2, a3, d1, d2, d3, -⟩ := hK6.cells
      go_upto_region 22 with fail
      refine Code.wp.kn ((hK6.sw1.st 4 (.int .i64 t.s.base)).st 5 (.slice E3 fs.length g3)) ?_; intro w5 hK5
      clear x1 x2 x3 a1 a2 a3 d1 d2 d3
      obtain ⟨x1, x2, x3, a1, a2, a3, d1, d2, d3, -⟩ := hK5.cells
      go_wp2_with fail
      refine bodyPost.kn ((((((((hK5.front 6 rfl).st 0 (.int .i64 t.a.base)).st 1 (.slice B1 t.a.digits.length h1)).st 2 (.int .i64 t.b.base)).st 3 (.slice E2 es.length g2)).st 4 (.int .i64 t.s.base)).st 5 (.slice E3 fs.length g3)).st 6 (.int .i64 t.carry)) ?_; intro w6 hK6
      clear x1 x2 x3 a1 a2 a3 d1 d2 d3 hK5
      obtain ⟨a1, a2, a3, -⟩ := hK6.cells
      refine bodyPost_ret (v := .tuple #[.agg #[.int .i64 t.a.base, .slice B1 t.a.digits.length h1, .int .i64 t.b.base, .slice E2 es.length g2, .int .i64 t.s.base, .slice E3 fs.length g3, .int .i64 t.carry], .bool bell]) (by simp [results, Tryd.results23, go_sem, a1]) rfl ⟨B1, h1, E2, g2, E3, g3, by rw [HS.out], ?_⟩
      rw [HS.out]
      exact hK6.sel [2, 3, 6] 99 (by decide) (by decide)
  · subst hk
    have hT : strokeT 2 t = turnT t (-1) := by unfold strokeT; simp
    have KV := (fun W (hW : Below w.heap.size w W) => value_any t.a.base A1 t.a.digits.length c1 t.a.digits W b1 b2 hd1 (r1.below hW) n2)
    have hTT : turnT t (-1) = (⟨t.a, ⟨t.b.base, shiftD t.b.base t.b.digits ((-1) * (valL t.a.base t.a.digits * pw t.b.base t.carry.toNat))⟩, ⟨t.s.base, shiftD t.s.base t.s.digits ((-1) * pw t.b.base t.carry.toNat)⟩, t.carry⟩, shiftB t.b.base t.b.digits ((-1) * (valL t.a.base t.a.digits * pw t.b.base t.carry.toNat))) := rfl
    rw [HU.out] at hTT
    obtain ⟨V, hV⟩ : ∃ V, valL t.a.base t.a.digits = V := ⟨_, rfl⟩
    rw [hV] at KV hTT u3 u4
    obtain ⟨X, hX⟩ : ∃ X, (-1) * (V * U) = X := ⟨_, rfl⟩
    obtain ⟨Y, hY⟩ : ∃ Y, (-1) * U = Y := ⟨_, rfl⟩
    rw [hX, hY] at hTT
    have hXb : -1000000000001 ≤ X ∧ X ≤ 1000000000001 := by omega
    have hYb : -1000000000001 ≤ Y ∧ Y ≤ 1000000000001 := by omega
    have hV1 : 0 ≤ V := by
      have := (valL_bd t.a.base b1 t.a.digits (fun d h => (hd1 d h).1)).1
      omega
    have hV2 : V ≤ 1000000000001 := by
      have := Int.mul_le_mul_of_nonneg_left (show 1 ≤ U from u1) hV1
      rw [Int.mul_one] at this
      omega
    have KS2 := (fun W (hW : Below w.heap.size w W) => shifted_any t.b.base A2 c2 t.b.digits X W (r2.below hW) k2 f1 hXb.1 hXb.2)
    have KS3 := (fun W (hW : Below w.heap.size w W) => shifted_any t.s.base A3 c3 t.s.digits Y W (r3.below hW) k3 f2 hYb.1 hYb.2)
    obtain ⟨es, hes⟩ : ∃ es, shiftD t.b.base t.b.digits X = es := ⟨_, rfl⟩
    obtain ⟨fs, hfs⟩ : ∃ fs, shiftD t.s.base t.s.digits Y = fs := ⟨_, rfl⟩
    obtain ⟨bell, hbl⟩ : ∃ e, shiftB t.b.base t.b.digits X = e := ⟨_, rfl⟩
    obtain ⟨bell2, hbl2⟩ : ∃ e, shiftB t.s.base t.s.digits Y = e := ⟨_, rfl⟩
    rw [hes, hbl] at KS2
    rw [hfs, hbl2] at KS3
    rw [hes, hfs, hbl] at hTT
    have HS := Lib.hid (hT.trans hTT)
    have KV := Lib.hid KV
    have KS2 := Lib.hid KS2
    have KS3 := Lib.hid KS3
    have HYY := Lib.hid hY
    have HW1 := Lib.hid (show IntKind.i64.wrap (-V) = -V from wrapI64 (by omega))
    have HW2 := Lib.hid (show IntKind.i64.wrap (-V * U) = X by rw [← hX, Int.neg_one_mul, Int.neg_mul]; exact wrapI64 (by omega))
    clear hT hTT hV hX hY hes hfs hbl hbl2 hd1 hd2 hd3 r1 r2 r3 k1 k2 k3 KC KP f1 f2 l1 p0 p1
    go_wp2_with fail
    have HG := Lib.hid (box7 hK4.drew.drop.drop.drop.drop.drop)
    have HT := HG
    go_cut [7] (fun bb wx => bb = .bool bell ∧ ∃ (E2 : Option Addr) (g2 : Nat), Kn w [.blk w2.heap.size [.int .i64 t.a.base, .slice B1 t.a.digits.length h1, .int .i64 t.b.base, .slice E2 es.length g2, .int .i64 t.s.base, .slice B3 t.s.digits.length h3, .int .i64 t.carry] 28, rowI E2 g2 es, rowI B3 h3 t.s.digits, rowI B2 h2 t.b.digits, rowI B1 h1 t.a.digits, .blk (w.heap.size + 1) [.int .i64 0, .slice none 0 0, .int .i64 0, .slice none 0 0, .int .i64 0, .slice none 0 0, .int .i64 0] 28, .blk w.heap.size [.int .i64 t.a.base, .slice A1 t.a.digits.length c1, .int .i64 t.b.base, .slice A2 t.b.digits.length c2, .int .i64 t.s.base, .slice A3 t.s.digits.length c3, .int .i64 t.carry] 28] wx)
    case first =>
      go_region_held3 (fun W => W.cell? ⟨w.heap.size, 0, none⟩ = some (.int .i64 t.a.base) ∧ W.cell? ⟨w.heap.size, 1, none⟩ = some (.slice A1 t.a.digits.length c1) ∧ W.cell? ⟨w.heap.size, 2, none⟩ = some (.int .i64 t.b.base) ∧ W.cell? ⟨w.heap.size, 3, none⟩ = some (.slice A2 t.b.digits.length c2) ∧ W.cell? ⟨w.heap.size, 4, none⟩ = some (.int .i64 t.s.base) ∧ W.cell? ⟨w.heap.size, 5, none⟩ = some (.slice A3 t.s.digits.length c3) ∧ W.cell? ⟨w.heap.size, 6, none⟩ = some (.int .i64 t.carry))
        (first | with_reducible exact HG.out | with_reducible exact HT.out | exact HG.out | exact HT.out) (first
        | (go_at_call 51; (with_reducible refine (KV.out _ hK4.drew.below).mono ?_); rintro e w5 ⟨rfl, hw⟩; have hK5 := hK4.drew.keep hw; clear HG; have HG := Lib.hid (box7 hK5.drop.drop.drop.drop.drop))
        | (go_at_call 50; (first | (rw [HW1.out]; rw [HW2.out]) | rw [HW2.out]); (with_reducible refine (KS2.out _ hK5.below).mono ?_); rintro e w6 ⟨E2, g2, rfl, hK⟩; have hK6 := hK5.join hK; clear HG; have HG := Lib.hid (box7 hK6.drop.drop.drop.drop.drop.drop); have hK7 := (hK6.sw1.st 2 (.int .i64 t.b.base)).st 3 (.slice E2 es.length g2); have HT := Lib.hid (box7 hK7.drop.drop.drop.drop.drop.drop); obtain ⟨q1, q2, q3⟩ := hK6.drop.blkAt))
      all_goals
        go_wp2_with fail
        go_meet
        exact ⟨rfl, _, _, hK7⟩
    case rest =>
      obtain ⟨rfl, E2, g2, hK5⟩ := hcut
      clear HG HT x1 x2 x3 a1 a2 a3 d1 d2 d3 hK4 KV KS2
      obtain ⟨x1, x2, x3, a1, a2, a3, d1, d2, d3, -⟩ := hK5.cells
      go_wp2_with fail
      rw [show -U = Y by rw [← HYY.out]; omega]
      refine (KS3.out _ hK5.below).mono ?_; rintro e w6 ⟨E3, g3, rfl, hK⟩
      have hK6 := hK5.join hK
      clear x1 x2 x3 a1 a2 a3 d1 d2 d3 hK5
      obtain ⟨x1, x2, x3, a1, a2, a3, d1, d2, d3, -⟩ := hK6.cells
      go_upto_region 22 with fail
      refine Code.wp.kn ((hK6.sw1.st 4 (.int .i64 t.s.base)).st 5 (.slice E3 fs.length g3)) ?_; intro w5 hK5
      clear x1 x2 x3 a1 a2 a3 d1 d2 d3
      obtain ⟨x1, x2, x3, a1, a2, a3, d1, d2, d3, -⟩ := hK5.cells
      go_wp2_with fail
      refine bodyPost.kn ((((((((hK5.front 6 rfl).st 0 (.int .i64 t.a.base)).st 1 (.slice B1 t.a.digits.length h1)).st 2 (.int .i64 t.b.base)).st 3 (.slice E2 es.length g2)).st 4 (.int .i64 t.s.base)).st 5 (.slice E3 fs.length g3)).st 6 (.int .i64 t.carry)) ?_; intro w6 hK6
      clear x1 x2 x3 a1 a2 a3 d1 d2 d3 hK5
      obtain ⟨a1, a2, a3, -⟩ := hK6.cells
      refine bodyPost_ret (v := .tuple #[.agg #[.int .i64 t.a.base, .slice B1 t.a.digits.length h1, .int .i64 t.b.base, .slice E2 es.length g2, .int .i64 t.s.base, .slice E3 fs.length g3, .int .i64 t.carry], .bool bell]) (by simp [results, Tryd.results23, go_sem, a1]) rfl ⟨B1, h1, E2, g2, E3, g3, by rw [HS.out], ?_⟩
      rw [HS.out]
      exact hK6.sel [2, 3, 6] 99 (by decide) (by decide)
  · subst hk
    have KL := Lib.hid (fun W (hW : Below w.heap.size w W) => places_any t A1 A2 A3 c1 c2 c3 W (r1.below hW) (r2.below hW) (r3.below hW) n2 n4 n6)
    have hvp : vplaces t ≤ 16 := by unfold vplaces; omega
    have hwr := wrapI64 (n := t.carry + 1) (by omega)
    have hc4 : -9223372036854775808 ≤ t.carry + 1 ∧ t.carry + 1 ≤ 9223372036854775807 := by omega
    have hS1 : ¬ t.carry + 1 = vplaces t → strokeT 3 t = ({ t with carry := t.carry + 1 }, false) := fun h => by unfold strokeT; simp [h]
    have hS2 : t.carry + 1 = vplaces t → strokeT 3 t = (t, true) := fun h => by unfold strokeT; simp [h]
    obtain ⟨PL, hPL⟩ : ∃ p, vplaces t = p := ⟨_, rfl⟩
    rw [hPL] at KL hS1 hS2
    have HS1 := Lib.hid hS1
    have HS2 := Lib.hid hS2
    clear hS1 hS2 hPL hvp r1 r2 r3 KC KP u1 u2 u3 u4 f1 f2 l1 p0 p1
    go_wp2_with fail
    have HG := Lib.hid (box7 hK4.drew.drop.drop.drop.drop.drop)
    go_cut [7] (fun bb wx => bb = .bool (t.carry + 1 == PL) ∧ Kn w [.blk w2.heap.size [.int .i64 t.a.base, .slice B1 t.a.digits.length h1, .int .i64 t.b.base, .slice B2 t.b.digits.length h2, .int .i64 t.s.base, .slice B3 t.s.digits.length h3, .int .i64 t.carry] 28, rowI B3 h3 t.s.digits, rowI B2 h2 t.b.digits, rowI B1 h1 t.a.digits, .blk (w.heap.size + 1) [.int .i64 0, .slice none 0 0, .int .i64 0, .slice none 0 0, .int .i64 0, .slice none 0 0, .int .i64 0] 28, .blk w.heap.size [.int .i64 t.a.base, .slice A1 t.a.digits.length c1, .int .i64 t.b.base, .slice A2 t.b.digits.length c2, .int .i64 t.s.base, .slice A3 t.s.digits.length c3, .int .i64 t.carry] 28] wx)
    case first =>
      go_region_held3 (fun W => W.cell? ⟨w.heap.size, 0, none⟩ = some (.int .i64 t.a.base) ∧ W.cell? ⟨w.heap.size, 1, none⟩ = some (.slice A1 t.a.digits.length c1) ∧ W.cell? ⟨w.heap.size, 2, none⟩ = some (.int .i64 t.b.base) ∧ W.cell? ⟨w.heap.size, 3, none⟩ = some (.slice A2 t.b.digits.length c2) ∧ W.cell? ⟨w.heap.size, 4, none⟩ = some (.int .i64 t.s.base) ∧ W.cell? ⟨w.heap.size, 5, none⟩ = some (.slice A3 t.s.digits.length c3) ∧ W.cell? ⟨w.heap.size, 6, none⟩ = some (.int .i64 t.carry))
        (first | with_reducible exact HG.out | exact HG.out) (first
        | (go_at_call 46; (with_reducible refine (KL.out _ hK4.drew.below).mono ?_); rintro e w5 ⟨rfl, hw⟩; have hK5 := hK4.drew.keep hw; clear HG; have HG := Lib.hid (box7 hK5.drop.drop.drop.drop.drop)))
      all_goals
        go_wp2_with fail
        go_meet
        exact ⟨by first | rfl | rw [hwr], hK5⟩
    case rest =>
      obtain ⟨rfl, hK7⟩ := hcut
      clear HG x1 x2 x3 a1 a2 a3 d1 d2 d3 hK4 KL
      obtain ⟨x1, x2, x3, a1, a2, a3, d1, d2, d3, -⟩ := hK7.cells
      rcases hc0 : (t.carry + 1 == PL) with _ | _
      · have HS := Lib.hid (HS1.out (by simpa using hc0))
        clear hc0
        go_upto_region 22 with fail
        refine Code.wp.kn (hK7.st 6 (.int .i64 (t.carry + 1))) ?_; intro w5 hK5
        clear hK7
        clear x1 x2 x3 a1 a2 a3 d1 d2 d3
        obtain ⟨x1, x2, x3, a1, a2, a3, d1, d2, d3, -⟩ := hK5.cells
        go_wp2_with fail
        refine bodyPost.kn ((((((((hK5.front 4 rfl).st 0 (.int .i64 t.a.base)).st 1 (.slice B1 t.a.digits.length h1)).st 2 (.int .i64 t.b.base)).st 3 (.slice B2 t.b.digits.length h2)).st 4 (.int .i64 t.s.base)).st 5 (.slice B3 t.s.digits.length h3)).st 6 (.int .i64 (t.carry + 1))) ?_; intro w6 hK6
        clear x1 x2 x3 a1 a2 a3 d1 d2 d3 hK5
        obtain ⟨a1, a2, a3, -⟩ := hK6.cells
        refine bodyPost_ret (v := .tuple #[.agg #[.int .i64 t.a.base, .slice B1 t.a.digits.length h1, .int .i64 t.b.base, .slice B2 t.b.digits.length h2, .int .i64 t.s.base, .slice B3 t.s.digits.length h3, .int .i64 (t.carry + 1)], .bool false]) (by simp [results, Tryd.results23, go_sem, a1]) rfl ⟨B1, h1, B2, h2, B3, h3, by rw [HS.out], ?_⟩
        rw [HS.out]
        exact hK6.sel [2, 3, 4] 99 (by decide) (by decide)
      · have HS := Lib.hid (HS2.out (by simpa using hc0))
        clear hc0
        go_upto_region 22 with fail
        refine Code.wp.kn hK7 ?_; intro w5 hK5
        clear hK7
        clear x1 x2 x3 a1 a2 a3 d1 d2 d3
        obtain ⟨x1, x2, x3, a1, a2, a3, d1, d2, d3, -⟩ := hK5.cells
        go_wp2_with fail
        refine bodyPost.kn ((((((((hK5.front 4 rfl).st 0 (.int .i64 t.a.base)).st 1 (.slice B1 t.a.digits.length h1)).st 2 (.int .i64 t.b.base)).st 3 (.slice B2 t.b.digits.length h2)).st 4 (.int .i64 t.s.base)).st 5 (.slice B3 t.s.digits.length h3)).st 6 (.int .i64 t.carry)) ?_; intro w6 hK6
        clear x1 x2 x3 a1 a2 a3 d1 d2 d3 hK5
        obtain ⟨a1, a2, a3, -⟩ := hK6.cells
        refine bodyPost_ret (v := .tuple #[.agg #[.int .i64 t.a.base, .slice B1 t.a.digits.length h1, .int .i64 t.b.base, .slice B2 t.b.digits.length h2, .int .i64 t.s.base, .slice B3 t.s.digits.length h3, .int .i64 t.carry], .bool true]) (by simp [results, Tryd.results23, go_sem, a1]) rfl ⟨B1, h1, B2, h2, B3, h3, by rw [HS.out], ?_⟩
        rw [HS.out]
        exact hK6.sel [2, 3, 4] 99 (by decide) (by decide)
  · subst hk
    rcases hc0 : decide (t.carry = 0) with _ | _
    · have hc1 := of_decide_eq_false hc0
      have hc2 : (t.carry == 0) = false := by simp; exact hc1
      have hc3 : -9223372036854775808 ≤ t.carry - 1 ∧ t.carry - 1 ≤ 9223372036854775807 := by unfold vplaces at p1; omega
      have HC := Lib.hid hc1
      clear hc0 hc1 u1 u2 u3 u4 f1 f2 l1 p0 p1 KC KP
      go_upto_region 22 with fail
      refine Code.wp.kn (hK4.st 6 (.int .i64 (t.carry - 1))) ?_; intro w5 hK5
      have hS : strokeT 4 t = ({ t with carry := t.carry - 1 }, false) := by unfold strokeT; simp [HC.out]
      have HS := Lib.hid hS
      clear hS hK4
      clear x1 x2 x3 a1 a2 a3 d1 d2 d3
      obtain ⟨x1, x2, x3, a1, a2, a3, d1, d2, d3, -⟩ := hK5.cells
      go_wp2_with fail
      refine bodyPost.kn ((((((((hK5.front 4 rfl).st 0 (.int .i64 t.a.base)).st 1 (.slice B1 t.a.digits.length h1)).st 2 (.int .i64 t.b.base)).st 3 (.slice B2 t.b.digits.length h2)).st 4 (.int .i64 t.s.base)).st 5 (.slice B3 t.s.digits.length h3)).st 6 (.int .i64 (t.carry - 1))) ?_; intro w6 hK6
      clear x1 x2 x3 a1 a2 a3 d1 d2 d3 hK5
      obtain ⟨a1, a2, a3, -⟩ := hK6.cells
      refine bodyPost_ret (v := .tuple #[.agg #[.int .i64 t.a.base, .slice B1 t.a.digits.length h1, .int .i64 t.b.base, .slice B2 t.b.digits.length h2, .int .i64 t.s.base, .slice B3 t.s.digits.length h3, .int .i64 (t.carry - 1)], .bool false]) (by simp [results, Tryd.results23, go_sem, a1]) rfl ⟨B1, h1, B2, h2, B3, h3, by rw [HS.out], ?_⟩
      rw [HS.out]
      exact hK6.sel [2, 3, 4] 99 (by decide) (by decide)
    · have hc1 := of_decide_eq_true hc0
      have HC := Lib.hid hc1
      have hc2 : (t.carry == 0) = true := by simp; exact hc1
      clear hc0 hc1 u1 u2 u3 u4 f1 f2 l1 p0 p1 KC KP
      go_upto_region 22 with fail
      refine Code.wp.kn hK4 ?_; intro w5 hK5
      have hS : strokeT 4 t = (t, true) := by unfold strokeT; simp [HC.out]
      have HS := Lib.hid hS
      clear hS hK4
      clear x1 x2 x3 a1 a2 a3 d1 d2 d3
      obtain ⟨x1, x2, x3, a1, a2, a3, d1, d2, d3, -⟩ := hK5.cells
      go_wp2_with fail
      refine bodyPost.kn ((((((((hK5.front 4 rfl).st 0 (.int .i64 t.a.base)).st 1 (.slice B1 t.a.digits.length h1)).st 2 (.int .i64 t.b.base)).st 3 (.slice B2 t.b.digits.length h2)).st 4 (.int .i64 t.s.base)).st 5 (.slice B3 t.s.digits.length h3)).st 6 (.int .i64 t.carry)) ?_; intro w6 hK6
      clear x1 x2 x3 a1 a2 a3 d1 d2 d3 hK5
      obtain ⟨a1, a2, a3, -⟩ := hK6.cells
      refine bodyPost_ret (v := .tuple #[.agg #[.int .i64 t.a.base, .slice B1 t.a.digits.length h1, .int .i64 t.b.base, .slice B2 t.b.digits.length h2, .int .i64 t.s.base, .slice B3 t.s.digits.length h3, .int .i64 t.carry], .bool true]) (by simp [results, Tryd.results23, go_sem, a1]) rfl ⟨B1, h1, B2, h2, B3, h3, by rw [HS.out], ?_⟩
      rw [HS.out]
      exact hK6.sel [2, 3, 4] 99 (by decide) (by decide)
  · subst hk
    have KW2 := (fun W => withValue_any t.b.base A2 t.b.digits.length c2 0 W b3 b4 (by omega) (by decide) (by decide))
    have KW3 := (fun W => withValue_any t.s.base A3 t.s.digits.length c3 0 W b5 b6 (by omega) (by decide) (by decide))
    have hS : strokeT 5 t = (⟨t.a, ⟨t.b.base, digD t.b.base t.b.digits.length 0⟩, ⟨t.s.base, digD t.s.base t.s.digits.length 0⟩, t.carry⟩, false) := by unfold strokeT; simp
    obtain ⟨es, hes⟩ : ∃ es, digD t.b.base t.b.digits.length 0 = es := ⟨_, rfl⟩
    obtain ⟨fs, hfs⟩ : ∃ fs, digD t.s.base t.s.digits.length 0 = fs := ⟨_, rfl⟩
    rw [hes] at KW2
    rw [hfs] at KW3
    rw [hes, hfs] at hS
    have KW2 := Lib.hid KW2
    have KW3 := Lib.hid KW3
    have HS := Lib.hid hS
    clear hS hes hfs r1 r2 r3 KC KP u1 u2 u3 u4 f1 f2 l1 p0 p1
    go_wp2_with fail
    have HG := Lib.hid (box7 hK4.drew.drop.drop.drop.drop.drop)
    have HT := HG
    have HT2 := HG
    go_region_held3 (fun W => W.cell? ⟨w.heap.size, 0, none⟩ = some (.int .i64 t.a.base) ∧ W.cell? ⟨w.heap.size, 1, none⟩ = some (.slice A1 t.a.digits.length c1) ∧ W.cell? ⟨w.heap.size, 2, none⟩ = some (.int .i64 t.b.base) ∧ W.cell? ⟨w.heap.size, 3, none⟩ = some (.slice A2 t.b.digits.length c2) ∧ W.cell? ⟨w.heap.size, 4, none⟩ = some (.int .i64 t.s.base) ∧ W.cell? ⟨w.heap.size, 5, none⟩ = some (.slice A3 t.s.digits.length c3) ∧ W.cell? ⟨w.heap.size, 6, none⟩ = some (.int .i64 t.carry))
      (first | with_reducible exact HG.out | with_reducible exact HT.out | with_reducible exact HT2.out | exact HG.out | exact HT.out | exact HT2.out) (first
      | (go_at_call 52; (with_reducible refine (KW2.out _).mono ?_); rintro e w5 ⟨E2, g2, rfl, hK⟩; have hK5 := hK4.drew.join hK; clear HG; have HG := Lib.hid (box7 hK5.drop.drop.drop.drop.drop.drop))
      | (go_at_call 52; (with_reducible refine (KW3.out _).mono ?_); rintro e w6 ⟨E3, g3, rfl, hK⟩; have hK6 := hK5.join hK; clear HG; have HG := Lib.hid (box7 hK6.drop.drop.drop.drop.drop.drop.drop); have hK7 := (hK6.sw2.st 2 (.int .i64 t.b.base)).st 3 (.slice E2 es.length g2); have HT := Lib.hid (box7 hK7.drop.drop.drop.drop.drop.drop.drop); have hK8 := (hK7.st 4 (.int .i64 t.s.base)).st 5 (.slice E3 fs.length g3); have HT2 := Lib.hid (box7 hK8.drop.drop.drop.drop.drop.drop.drop); obtain ⟨q1, q2, q3⟩ := hK6.drop.drop.blkAt))
    all_goals
      clear x1 x2 x3 a1 a2 a3 d1 d2 d3
      go_upto_region 22 with fail
      refine Code.wp.kn hK8 ?_; intro w5 hK5
      clear hK7 hK8 HG HT HT2 hK6 hK4
      obtain ⟨x1, x2, x3, a1, a2, a3, d1, d2, d3, -⟩ := hK5.cells
      clear x1 x2 x3 a1 a2 a3 d1 d2 d3
      obtain ⟨x1, x2, x3, a1, a2, a3, d1, d2, d3, -⟩ := hK5.cells
      go_wp2_with fail
      refine bodyPost.kn ((((((((hK5.front 6 rfl).st 0 (.int .i64 t.a.base)).st 1 (.slice B1 t.a.digits.length h1)).st 2 (.int .i64 t.b.base)).st 3 (.slice E2 es.length g2)).st 4 (.int .i64 t.s.base)).st 5 (.slice E3 fs.length g3)).st 6 (.int .i64 t.carry)) ?_; intro w6 hK6
      clear x1 x2 x3 a1 a2 a3 d1 d2 d3 hK5
      obtain ⟨a1, a2, a3, -⟩ := hK6.cells
      refine bodyPost_ret (v := .tuple #[.agg #[.int .i64 t.a.base, .slice B1 t.a.digits.length h1, .int .i64 t.b.base, .slice E2 es.length g2, .int .i64 t.s.base, .slice E3 fs.length g3, .int .i64 t.carry], .bool false]) (by simp [results, Tryd.results23, go_sem, a1]) rfl ⟨B1, h1, E2, g2, E3, g3, by rw [HS.out], ?_⟩
      rw [HS.out]
      exact hK6.sel [2, 3, 6] 99 (by decide) (by decide)
  · subst hk
    have KW2 := (fun W => withValue_any t.a.base A1 t.a.digits.length c1 0 W b1 b2 (by omega) (by decide) (by decide))
    have hS : strokeT 6 t = ({ t with a := ⟨t.a.base, digD t.a.base t.a.digits.length 0⟩ }, false) := by unfold strokeT; simp
    obtain ⟨es, hes⟩ : ∃ es, digD t.a.base t.a.digits.length 0 = es := ⟨_, rfl⟩
    rw [hes] at KW2 hS
    have KW2 := Lib.hid KW2
    have HS := Lib.hid hS
    clear hS hes r1 r2 r3 KC KP u1 u2 u3 u4 f1 f2 l1 p0 p1
    go_upto_region 22 with (go_at_call 52; (with_reducible refine (KW2.out _).mono ?_); rintro e w5 ⟨E2, g2, rfl, hK⟩; have hK6 := hK4.join hK; clear x1 x2 x3 a1 a2 a3 d1 d2 d3; obtain ⟨x1, x2, x3, a1, a2, a3, d1, d2, d3, -⟩ := hK6.cells)
    refine Code.wp.kn ((hK6.sw1.st 0 (.int .i64 t.a.base)).st 1 (.slice E2 es.length g2)) ?_; intro w5 hK5
    clear hK6 hK4
    clear x1 x2 x3 a1 a2 a3 d1 d2 d3
    obtain ⟨x1, x2, x3, a1, a2, a3, d1, d2, d3, -⟩ := hK5.cells
    go_wp2_with fail
    refine bodyPost.kn ((((((((hK5.front 5 rfl).st 0 (.int .i64 t.a.base)).st 1 (.slice E2 es.length g2)).st 2 (.int .i64 t.b.base)).st 3 (.slice B2 t.b.digits.length h2)).st 4 (.int .i64 t.s.base)).st 5 (.slice B3 t.s.digits.length h3)).st 6 (.int .i64 t.carry)) ?_; intro w6 hK6
    clear x1 x2 x3 a1 a2 a3 d1 d2 d3 hK5
    obtain ⟨a1, a2, a3, -⟩ := hK6.cells
    refine bodyPost_ret (v := .tuple #[.agg #[.int .i64 t.a.base, .slice E2 es.length g2, .int .i64 t.b.base, .slice B2 t.b.digits.length h2, .int .i64 t.s.base, .slice B3 t.s.digits.length h3, .int .i64 t.carry], .bool false]) (by simp [results, Tryd.results23, go_sem, a1]) rfl ⟨E2, g2, B2, h2, B3, h3, by rw [HS.out], ?_⟩
    rw [HS.out]
    exact hK6.sel [3, 4, 2] 99 (by decide) (by decide)
end Go.Proofs.YtmmiahgmdllgdaaDoor

namespace Go.Proofs.YtmmiahgmdllgdaaDoor
open Go.RowKit Go.Sort
theorem RegAt.below {w w' : World} {p : Addr} {b : Int} {A : Option Addr} {n c : Nat} (h : RegAt w p b A n c) (hb : Below w.heap.size w w') : RegAt w' p b A n c := by
  have hp : p.block < w.heap.size := World.block_lt_of_cell? w p h.1
  exact ⟨by rw [hb.cell hp]; exact h.1, by rw [hb.cell (by exact hp)]; exact h.2⟩
theorem l02Own_any (p : Addr) (b : Int) (A : Option Addr) (n c : Nat) (ds : List Int) (w : World) (hp : RegAt w p b A n c) (hr : RI w A n ds) (h0 : 0 < n) (hm : n ≤ 1000000) :
    Calls Tryd.prog 60 #[.pointer (some p)] w fun e w' => ∃ A' c', e = .returned (.agg #[.int .i64 b, .slice A' ds.length c']) ∧ Kn w [rowI A' c' ds] w' := by
  have KC := Lib.hid (fun W (hW : Below w.heap.size w W) => l00Own_any A n c ds W (hr.below hW) h0 hm)
  have hl := hr.1
  subst hl
  clear hr
  have HP := Lib.hid (fun W (hW : Below w.heap.size w W) => hp.below hW)
  go_enter Tryd.func60, Tryd.ntmps60
  go_wp2_with fail
  have hK2 := (Kn.nil w).al [.int .i64 0, .slice none 0 0] 26
  generalize w.alloc (.cells #[.int .i64 0, .slice none 0 0] 26) = w2 at hK2 ⊢
  have HG := Lib.hid (show _ ∧ _ from HP.out _ hK2.drew.below)
  go_region_held3 (fun W => W.cell? p = some (.int .i64 b) ∧ W.cell? ⟨p.block, p.off + 1, none⟩ = some (.slice A ds.length c))
    (first | with_reducible exact HG.out | with_reducible exact HS.out | exact HG.out) (first
    | (go_at_call 81; refine (KC.out _ hK2.drew.below).mono ?_; rintro e w4 ⟨A', c', rfl, hK⟩; have hK4 := hK2.drew.join hK; clear HG; have hq := HP.out _ hK4.below; have HG := Lib.hid (show _ ∧ _ from hq); obtain ⟨g1, f1, l1⟩ := hK4.drop.blkAt; have hK5 := (hK4.sw1.st 0 (.int .i64 b)).st 1 (.slice A' ds.length c'); have HS := Lib.hid (show _ ∧ _ from HP.out _ hK5.below)))
  all_goals
    go_wp2_with fail
    refine bodyPost_ret (v := .agg #[.int .i64 b, .slice A' ds.length c']) (by simp [results, Tryd.results60, go_sem, g1]) rfl ⟨A', c', rfl, ?_⟩
    exact hK5.drop
set_option maxRecDepth 100000 in
set_option maxHeartbeats 1600000 in
theorem l10Own_any (g : Nat) (t : Tri) (A1 A2 A3 : Option Addr) (c1 c2 c3 : Nat) (w : World) (hT : TriC w ⟨g, 0, none⟩ t A1 c1 A2 c2 A3 c3) (hz : Sized t) :
    Calls Tryd.prog 32 #[.pointer (some ⟨g, 0, none⟩)] w fun e w' => ∃ A1 c1 A2 c2 A3 c3, e = .returned (.agg #[.int .i64 t.a.base, .slice A1 t.a.digits.length c1, .int .i64 t.b.base, .slice A2 t.b.digits.length c2, .int .i64 t.s.base, .slice A3 t.s.digits.length c3, .int .i64 t.carry]) ∧ Kn w [rowI A3 c3 t.s.digits, rowI A2 c2 t.b.digits, rowI A1 c1 t.a.digits] w' := by
  obtain ⟨⟨q1, q2, q3, q4, q5, q6, q7⟩, r1, r2, r3⟩ := hT
  simp only [Nat.zero_add] at q1 q2 q3 q4 q5 q6 q7
  have hlt : g < w.heap.size := World.block_lt_of_cell? w _ q1
  have K1 := Lib.hid (fun W (hW : Below w.heap.size w W) => l02Own_any ⟨g, 0, none⟩ t.a.base A1 t.a.digits.length c1 t.a.digits W (RegAt.below ⟨q1, q2⟩ hW) (r1.below hW) hz.a0 (by have := hz.a; omega))
  have K2 := Lib.hid (fun W (hW : Below w.heap.size w W) => l02Own_any ⟨g, 2, none⟩ t.b.base A2 t.b.digits.length c2 t.b.digits W (RegAt.below ⟨q3, q4⟩ hW) (r2.below hW) hz.b0 (by have := hz.b; omega))
  have K3 := Lib.hid (fun W (hW : Below w.heap.size w W) => l02Own_any ⟨g, 4, none⟩ t.s.base A3 t.s.digits.length c3 t.s.digits W (RegAt.below ⟨q5, q6⟩ hW) (r3.below hW) hz.s0 (by have := hz.s; omega))
  have HP := Lib.hid (fun W (hW : Below w.heap.size w W) => (hW.cell (p := ⟨g, 6, none⟩) hlt).trans q7)
  clear q1 q2 q3 q4 q5 q6 q7 r1 r2 r3 hz
  go_enter Tryd.func32, Tryd.ntmps32
  go_wp2_with fail
  have hK2 := (Kn.nil w).al [.int .i64 0, .slice none 0 0, .int .i64 0, .slice none 0 0, .int .i64 0, .slice none 0 0, .int .i64 0] 28
  generalize w.alloc (.cells #[.int .i64 0, .slice none 0 0, .int .i64 0, .slice none 0 0, .int .i64 0, .slice none 0 0, .int .i64 0] 28) = w2 at hK2 ⊢
  have HG := Lib.hid (HP.out _ hK2.drew.below)
  go_region_held3 (fun W => W.cell? ⟨g, 6, none⟩ = some (.int .i64 t.carry))
    (first | with_reducible exact HG.out | with_reducible exact HS.out | exact HG.out) (first
    | (go_at_call 60; (with_reducible refine (K1.out _ hK2.drew.below).mono ?_); rintro e w4 ⟨B1, e1, rfl, hK⟩; have hK4 := hK2.drew.join hK; clear HG; have hq := HP.out _ hK4.below; have HG := Lib.hid hq)
    | (go_at_call 60; (with_reducible refine (K2.out _ hK4.below).mono ?_); rintro e w5 ⟨B2, e2, rfl, hK⟩; have hK5 := hK4.join hK; clear HG; have hq := HP.out _ hK5.below; have HG := Lib.hid hq)
    | (go_at_call 60; (with_reducible refine (K3.out _ hK5.below).mono ?_); rintro e w6 ⟨B3, e3, rfl, hK⟩; have hK6 := hK5.join hK; clear HG; have hq := HP.out _ hK6.below; have HG := Lib.hid hq; have hK7 := ((((((hK6.sw3.st 0 (.int .i64 t.a.base)).st 1 (.slice B1 t.a.digits.length e1)).st 2 (.int .i64 t.b.base)).st 3 (.slice B2 t.b.digits.length e2)).st 4 (.int .i64 t.s.base)).st 5 (.slice B3 t.s.digits.length e3)).st 6 (.int .i64 t.carry); have hq2 := HP.out _ hK7.below; have HS := Lib.hid hq2; obtain ⟨g1, f1, l1⟩ := hK6.drop.drop.drop.blkAt))
  all_goals
    go_wp2_with fail
    refine bodyPost_ret (v := .agg #[.int .i64 t.a.base, .slice B1 t.a.digits.length e1, .int .i64 t.b.base, .slice B2 t.b.digits.length e2, .int .i64 t.s.base, .slice B3 t.s.digits.length e3, .int .i64 t.carry]) (by simp [results, Tryd.results32, go_sem, g1]) rfl ⟨B1, e1, B2, e2, B3, e3, rfl, ?_⟩
    exact hK7.drop
end Go.Proofs.YtmmiahgmdllgdaaDoor

namespace Go.Proofs.YtmmiahgmdllgdaaDoor
open Go.RowKit Go.Sort
/-- the first k numbers are 0 -/
def zeroUpto (k : Nat) (ds : List Int) : List Int := List.replicate k 0 ++ ds.drop k
theorem zeroUpto_len {k : Nat} {ds : List Int} (h : k ≤ ds.length) : (zeroUpto k ds).length = ds.length := by simp [zeroUpto]; omega
theorem zeroUpto_step {k : Nat} {ds : List Int} (h : k < ds.length) : (zeroUpto k ds).set k 0 = zeroUpto (k + 1) ds := by
  unfold zeroUpto
  rw [List.set_append_right _ _ (by simp), List.drop_eq_getElem_cons h, List.replicate_succ', List.length_replicate, Nat.sub_self, List.set_cons_zero, List.append_assoc]
  rfl
theorem zeroUpto_all (ds : List Int) : zeroUpto ds.length ds = List.replicate ds.length 0 := by simp [zeroUpto]
set_option maxHeartbeats 800000 in
/-- digits of numbers that are owned are set to 0 -/
theorem l10ZeroK {w0 : World} {m : List Ent} {cs : List Value} {T : TypeId} {g o : Nat} (A : Option Addr) (c : Nat) (ds : List Int) (w : World) (hK : Kn w0 (rowI A c ds :: .blk g cs T :: m) w) (ho : cs[o + 1]? = some (.slice A ds.length c)) (h0 : 0 < ds.length) (hl : ds.length ≤ 1000000) :
    Calls Tryd.prog 63 #[.pointer (some ⟨g, o, none⟩)] w fun e w' => e = .returned (.tuple #[]) ∧ Kn w0 (rowI A c (List.replicate ds.length 0) :: .blk g cs T :: m) w' := by
  obtain ⟨r, c', hA⟩ := Kn.rowForm hK h0
  injection hA with hA hA2 hA3
  subst hA; subst hA3
  have HO := Lib.hid ho; clear ho
  go_enter Tryd.func63, Tryd.ntmps63
  go_wp2_with fail
  go_loopw [2] (fun ii wr => ∃ k : Nat, k ≤ ds.length ∧ ii = .int .i64 k ∧ Kn w0 (rowI (some ⟨r, 0, none⟩) c (zeroUpto k ds) :: .blk g cs T :: m) wr) (fun i _ => ds.length - (intOf i).toNat)
  case atStart => exact ⟨0, Nat.zero_le _, rfl, hK⟩
  case round =>
    clear hK
    obtain ⟨k, hk, rfl, hK⟩ := hrel
    have x1 := (hK.drop.blkAt.1 (o + 1)).trans HO.out
    by_cases hlt : k < ds.length
    · have hz := zeroUpto_step hlt
      have hlen := zeroUpto_len hk
      have hj : ∃ z : Value, ((zeroUpto k ds).map (Value.int .i64))[k]? = some z := ⟨_, by rw [List.getElem?_map, List.getElem?_eq_getElem (show k < (zeroUpto k ds).length by omega)]; rfl⟩
      obtain ⟨z, hj⟩ := hj
      obtain ⟨x2, x3⟩ := Kn.rowCell hK hj
      have HZ := Lib.hid hz
      clear hz hj hlen
      have hi1 : (k : Int) < (ds.length : Int) := by omega
      go_wp2_with fail
      go_roundw
      case rel => exact ⟨k + 1, by omega, by go_num, by rw [← HZ.out]; exact Kn.setI hK k 0⟩
      case measure => simp [intOf]; omega
    · have hi1 : ¬ (k : Int) < (ds.length : Int) := by omega
      obtain rfl : k = ds.length := by omega
      go_wp2_with fail
      go_end0
      exact ⟨rfl, by rw [← zeroUpto_all]; exact hK⟩
end Go.Proofs.YtmmiahgmdllgdaaDoor

namespace Go.Proofs.YtmmiahgmdllgdaaDoor
open Go.RowKit Go.Sort
theorem l10PlacesK {w0 : World} {m : List Ent} {rest : List Value} {T : TypeId} {g : Nat} (t : Tri) (A1 A2 A3 : Option Addr) (c1 c2 c3 : Nat) (w : World) (hK : Kn w0 (.blk g (.int .i64 t.a.base :: .slice A1 t.a.digits.length c1 :: .int .i64 t.b.base :: .slice A2 t.b.digits.length c2 :: .int .i64 t.s.base :: .slice A3 t.s.digits.length c3 :: .int .i64 t.carry :: rest) T :: m) w) (h1 : t.a.digits.length ≤ 16) (h2 : t.b.digits.length ≤ 16) (_h3 : t.s.digits.length ≤ 16) :
    Calls Tryd.prog 39 #[.pointer (some ⟨g, 0, none⟩)] w fun e w' => e = .returned (.int .i64 (vplaces t)) ∧ ∃ q, w' = w.drewN q := by
  obtain ⟨a1, a2, a3⟩ := hK.blkAt
  clear hK
  go_enter Tryd.func39, Tryd.ntmps39
  go_wp2_with fail
  go_quiet ((go_at_call 66; exact quiet_left (l00Min_any _ _ _)))
  go_wp2
  go_ret
  exact ⟨ret_int (by unfold vplaces; omega), _, rfl⟩
set_option maxHeartbeats 1600000 in
theorem l10ShiftK {w0 : World} {m : List Ent} {rest : List Value} {T : TypeId} {g : Nat} (t : Tri) (A1 A2 A3 : Option Addr) (c1 c2 c3 : Nat) (by_ : Int) (w : World) (hK : Kn w0 (.blk g (.int .i64 t.a.base :: .slice A1 t.a.digits.length c1 :: .int .i64 t.b.base :: .slice A2 t.b.digits.length c2 :: .int .i64 t.s.base :: .slice A3 t.s.digits.length c3 :: .int .i64 t.carry :: rest) T :: m) w) (hv : vmach t = true) (hb : by_ = 1 ∨ by_ = -1) :
    Calls Tryd.prog 62 #[.pointer (some ⟨g, 0, none⟩), .int .i64 by_] w fun e w' => 
      (betB (t.carry + by_) 0 (vplaces t - 1) = true → e = .returned (.bool false) ∧ Kn w0 (.blk g (.int .i64 t.a.base :: .slice A1 t.a.digits.length c1 :: .int .i64 t.b.base :: .slice A2 t.b.digits.length c2 :: .int .i64 t.s.base :: .slice A3 t.s.digits.length c3 :: .int .i64 (t.carry + by_) :: rest) T :: m) w') ∧ (betB (t.carry + by_) 0 (vplaces t - 1) = false → e = .returned (.bool true) ∧ Kn w0 (.blk g (.int .i64 t.a.base :: .slice A1 t.a.digits.length c1 :: .int .i64 t.b.base :: .slice A2 t.b.digits.length c2 :: .int .i64 t.s.base :: .slice A3 t.s.digits.length c3 :: .int .i64 t.carry :: rest) T :: m) w') := by
  obtain ⟨k1, k2, k3, e1, e2, f1, f2, l1, p0, p1⟩ := vmach_all hv
  obtain ⟨-, ⟨n1, n2⟩, -, -⟩ := vreg_iff.1 k1
  obtain ⟨-, ⟨n3, n4⟩, -, -⟩ := vreg_iff.1 k2
  obtain ⟨-, ⟨n5, n6⟩, -, -⟩ := vreg_iff.1 k3
  have hp1 : -16 ≤ vplaces t ∧ vplaces t ≤ 16 := by unfold vplaces; omega
  have KP := Lib.hid (fun W (h : Kn w0 (.blk g (.int .i64 t.a.base :: .slice A1 t.a.digits.length c1 :: .int .i64 t.b.base :: .slice A2 t.b.digits.length c2 :: .int .i64 t.s.base :: .slice A3 t.s.digits.length c3 :: .int .i64 t.carry :: rest) T :: m) W) => l10PlacesK t A1 A2 A3 c1 c2 c3 W h n2 n4 n6)
  have hw := wrapI64 (n := t.carry + by_) (by omega)
  have hw2 := wrapI64 (n := vplaces t - 1) (by omega)
  obtain ⟨P, hP⟩ : ∃ P, vplaces t = P := ⟨_, rfl⟩
  rw [hP] at KP hw2 hp1 p1 ⊢
  obtain ⟨a1, a2, a3⟩ := hK.blkAt
  clear k1 k2 k3 f1 f2 l1 n1 n2 n3 n4 n5 n6 hP e1 e2 hv
  rcases hbt : betB (t.carry + by_) 0 (P - 1) with _ | _
  · have KI := Lib.hid (fun W => calls_val (l00In_any (t.carry + by_) 0 (P - 1) W) (congrArg Value.bool hbt))
    clear hbt
    go_enter Tryd.func62, Tryd.ntmps62
    go_wp2_with fail
    go_quiet ((first | (go_at_call 39; first | exact quiet_of_ex (KP.out _ (hK.drewN _)) | exact quiet_add_ex (KP.out _ (hK.drewN _))) | (go_at_call 59; first | exact quiet_left (KI.out _) | exact quiet_add_left (KI.out _))))
    go_wp2_with fail
    go_ret
    exact ⟨(fun h => by cases h), fun _ => ⟨rfl, hK.drewN _⟩⟩
  · have KI := Lib.hid (fun W => calls_val (l00In_any (t.carry + by_) 0 (P - 1) W) (congrArg Value.bool hbt))
    clear hbt
    go_enter Tryd.func62, Tryd.ntmps62
    go_wp2_with fail
    go_quiet ((first | (go_at_call 39; first | exact quiet_of_ex (KP.out _ (hK.drewN _)) | exact quiet_add_ex (KP.out _ (hK.drewN _))) | (go_at_call 59; first | exact quiet_left (KI.out _) | exact quiet_add_left (KI.out _))))
    go_wp2_with fail
    go_ret
    exact ⟨fun _ => ⟨rfl, (hK.drewN _).st 6 _⟩, (fun h => by cases h)⟩
end Go.Proofs.YtmmiahgmdllgdaaDoor

namespace Go.Proofs.YtmmiahgmdllgdaaDoor
open Go.RowKit Go.Sort
set_option maxRecDepth 100000 in
set_option maxHeartbeats 1600000 in
theorem l10Move_any (p : Addr) (b : Int) (A : Option Addr) (c : Nat) (ds : List Int) (x : Int) (w : World) (hp : RegAt w p b A ds.length c) (hr : RI w A ds.length ds) (hv : vreg b ds = true) (hpw : pw b ds.length ≤ 1000000000001) (hx0 : -1000000000001 ≤ x) (hx1 : x ≤ 1000000000001) :
    Calls Tryd.prog 82 #[.pointer (some p), .int .i64 x] w fun e w' => ∃ A' c', e = .returned (.tuple #[.agg #[.int .i64 b, .slice A' (shiftD b ds x).length c'], .bool (shiftB b ds x)]) ∧ Kn w [rowI A' c' (shiftD b ds x)] w' := by
  obtain ⟨⟨b1, b2⟩, ⟨n1, n2⟩, hd, hl⟩ := vreg_iff.1 hv
  have hp1 := pw_pos b b1 ds.length
  have hv0 := (valL_bd b b1 ds (fun d h => (hd d h).1)).1
  have KN := (fun W => l10Power_any b ds.length W b1 b2 (by omega))
  have hpc : powS b ds.length = pw b ds.length := by unfold powS; omega
  rw [hpc] at KN
  have KV := (fun W (hW : Below w.heap.size w W) => l02Value_any b A ds.length c ds W b1 b2 hd (hr.below hW) n2)
  have hsd : shiftD b ds x = digD b ds.length (((valL b ds + x).tmod (pw b ds.length) + pw b ds.length).tmod (pw b ds.length)) := rfl
  have hsb : shiftB b ds x = (decide (valL b ds + x < 0) || decide (pw b ds.length ≤ valL b ds + x)) := rfl
  obtain ⟨N, hN⟩ : ∃ N, pw b ds.length = N := ⟨_, rfl⟩
  obtain ⟨V, hV⟩ : ∃ V, valL b ds = V := ⟨_, rfl⟩
  rw [hN] at KN hsd hsb hpw hp1
  rw [hV] at KV hsd hsb hv0 hl
  obtain ⟨S, hS⟩ : ∃ S, V + x = S := ⟨_, rfl⟩
  rw [hS] at hsd hsb
  have hSb : -1000000000001 ≤ S ∧ S ≤ 2000000000001 := by omega
  have hm1 : -N < S.tmod N ∧ S.tmod N < N := by
    have h1 := Int.tmod_lt_of_pos S (show 0 < N by omega)
    have h2 := Int.lt_tmod_of_pos S (show 0 < N by omega)
    omega
  have hm2 : 0 ≤ (S.tmod N + N).tmod N ∧ (S.tmod N + N).tmod N < N := ⟨Int.tmod_nonneg _ (by omega), Int.tmod_lt_of_pos _ (by omega)⟩
  have hwr : IntKind.i64.wrap (S.tmod N + N) = S.tmod N + N := wrapI64 (by omega)
  have hwn : IntKind.i64.wrap (N - 1) = N - 1 := wrapI64 (by omega)
  have nz1 : N ≠ 0 := by omega
  have nz2 : (N == 0) = false := by simp; omega
  have nz3 : ¬ N = 0 := by omega
  have KW := (fun W => l02NewV_any b ds.length ((S.tmod N + N).tmod N) W b1 b2 (by omega) hm2.1 (by omega))
  rw [← hsd] at KW
  obtain ⟨es, hes⟩ : ∃ es, shiftD b ds x = es := ⟨_, rfl⟩
  rw [hes] at KW ⊢
  obtain ⟨bell, hbl⟩ : ∃ e, shiftB b ds x = e := ⟨_, rfl⟩
  have HSB := Lib.hid (show (!betB S 0 (N - 1)) = bell by
    rw [← hbl, hsb]
    rcases hb : betB S 0 (N - 1) with _ | _
    · have := betB_false.1 hb
      simp; omega
    · have := betB_iff.1 hb
      simp; omega)
  rw [hbl]
  have KI := Lib.hid (fun W => l00In_any S 0 (N - 1) W)
  have KN := Lib.hid KN
  have KV := Lib.hid KV
  have KW := Lib.hid KW
  have hSe : IntKind.i64.wrap (V + x) = S := by rw [hS]; exact wrapI64 (by omega)
  have HSE := Lib.hid hS
  have hV2 : -9223372036854775808 ≤ V + x ∧ V + x ≤ 9223372036854775807 := by omega
  have HP := Lib.hid (fun W (hW : Below w.heap.size w W) => hp.below hW)
  clear hsd hsb hes hbl hr hv hd hl hpc hN hV hS hp hSe
  go_enter Tryd.func82, Tryd.ntmps82
  go_wp2_with (first
    | (refine wpList.kn ((Kn.nil w).al [.int .i64 0, .slice none 0 0] 26) ?_; intro w2 hK2; obtain ⟨x1, x2⟩ := HP.out _ hK2.below)
    | (go_at_call 80; refine (KN.out _).mono ?_; rintro e w' ⟨rfl, rfl⟩))
  go_quiet ((go_at_call 79; exact quiet_left (KV.out _ (hK2.drewN _).below)))
  clear x1 x2
  have hK3 := hK2.drewN nq
  generalize w2.drewN nq = w3 at hK3 ⊢
  rw [HSE.out]
  have hq := HP.out _ hK3.drew.below
  have HG := Lib.hid (show _ ∧ _ from hq)
  have hq0 := HP.out _ (hK3.al [.int .i64 0, .slice none 0 0] 26).drew.below
  have HA := Lib.hid (show _ ∧ _ from hq0)
  have HS := HG
  clear hq hq0
  go_wp2_with fail
  go_cut [9] (fun pp wx => ∃ (g : Nat) (A' : Option Addr) (c' : Nat), pp = .pointer (some ⟨g, 0, none⟩) ∧ Kn w [.blk g [.int .i64 b, .slice A' es.length c'] 26, rowI A' c' es, .blk w.heap.size [.int .i64 0, .slice none 0 0] 26] wx)
  case first =>
    go_region_held3 (fun W => W.cell? p = some (.int .i64 b) ∧ W.cell? ⟨p.block, p.off + 1, none⟩ = some (.slice A ds.length c))
      (first | with_reducible exact HG.out | with_reducible exact HA.out | with_reducible exact HS.out | exact HG.out | exact HA.out | exact HS.out) (first
      | (go_at_call 65; (with_reducible refine (KW.out _).mono ?_); rintro e w4 ⟨A', c', rfl, hK⟩; clear HG HA; first
        | (have hK4 := hK3.drew.join hK; have hq := HP.out _ hK4.below; have HG := Lib.hid (show _ ∧ _ from hq); have hq1 := HP.out _ (hK4.al [.int .i64 0, .slice none 0 0] 26).below; have HA := Lib.hid (show _ ∧ _ from hq1); have hK5 := hK4.al [.int .i64 b, .slice A' es.length c'] 26; have hq2 := HP.out _ hK5.below; have HS := Lib.hid (show _ ∧ _ from hq2))
        | (have hK4 := (hK3.al [.int .i64 0, .slice none 0 0] 26).drew.join hK; have hq := HP.out _ hK4.below; have HG := Lib.hid (show _ ∧ _ from hq); obtain ⟨g1, f1, l1⟩ := hK4.drop.blkAt; have HA := HG; have hK5 := (hK4.sw1.st 0 (.int .i64 b)).st 1 (.slice A' es.length c'); have hq2 := HP.out _ hK5.below; have HS := Lib.hid (show _ ∧ _ from hq2))))
    all_goals
      go_wp2_with fail
      go_meet
      exact ⟨_, _, _, rfl, hK5⟩
  case rest =>
    obtain ⟨g, A', c', rfl, hK5⟩ := hcut
    clear HG HA HS KN KV KW hK2 hK3
    obtain ⟨a1, a2, a3, d1, d2, d3, -⟩ := hK5.cells
    go_wp2_with fail
    have HG := Lib.hid (box2 hK5.drew)
    have hK6 := ((hK5.sw2.st 0 (.int .i64 b)).st 1 (.slice A' es.length c')).drew
    have HS := Lib.hid (box2 hK6.drop)
    go_region_held3 (fun W => W.cell? ⟨g, 0, none⟩ = some (.int .i64 b) ∧ W.cell? ⟨g, 1, none⟩ = some (.slice A' es.length c'))
      (first | with_reducible exact HG.out | with_reducible exact HS.out | exact HG.out) (first
      | (go_at_call 59; (with_reducible refine (KI.out _).mono ?_); rintro e w7 ⟨rfl, rfl⟩))
    all_goals
      go_wp2_with fail
      refine bodyPost_ret (v := .tuple #[.agg #[.int .i64 b, .slice A' es.length c'], .bool bell]) (by simp [results, Tryd.results82, go_sem, d1]; first | exact HSB.out | (have := HSB.out; simp_all)) rfl ⟨A', c', rfl, ?_⟩
      exact hK6.drop.drop
end Go.Proofs.YtmmiahgmdllgdaaDoor

namespace Go.Proofs.YtmmiahgmdllgdaaDoor
open Go.RowKit Go.Sort
/-- the machine in block g, and its numbers -/
def MB (w0 : World) (g : Nat) (rest : List Value) (T : TypeId) (k : Tri) (m : List Ent) (w : World) : Prop := ∃ B1 d1 B2 d2 B3 d3, Kn w0 (.blk g (.int .i64 k.a.base :: .slice B1 k.a.digits.length d1 :: .int .i64 k.b.base :: .slice B2 k.b.digits.length d2 :: .int .i64 k.s.base :: .slice B3 k.s.digits.length d3 :: .int .i64 k.carry :: rest) T :: rowI B3 d3 k.s.digits :: rowI B2 d2 k.b.digits :: rowI B1 d1 k.a.digits :: m) w
set_option maxRecDepth 100000 in
set_option maxHeartbeats 1600000 in
theorem l10TurnK {w0 : World} {m : List Ent} {rest : List Value} {T : TypeId} {g : Nat} (t : Tri) (sign : Int) (w : World) (hM : MB w0 g rest T t m w) (hv : vmach t = true) (hs : sign = 1 ∨ sign = -1) :
    Calls Tryd.prog 61 #[.pointer (some ⟨g, 0, none⟩), .int .i64 sign] w fun e w' => e = .returned (.bool (turnT t sign).2) ∧ MB w0 g rest T (turnT t sign).1 m w' := by
  obtain ⟨A1, c1, A2, c2, A3, c3, hK⟩ := hM
  obtain ⟨k1, k2, k3, e1, e2, f1, f2, l1, p0, p1⟩ := vmach_all hv
  obtain ⟨u1, u2, u3, u4⟩ := turn_bd hv
  obtain ⟨⟨b1, b2⟩, ⟨n1, n2⟩, hd1, -⟩ := vreg_iff.1 k1
  obtain ⟨⟨b3, b4⟩, ⟨n3, n4⟩, hd2, -⟩ := vreg_iff.1 k2
  obtain ⟨⟨b5, b6⟩, ⟨n5, n6⟩, hd3, -⟩ := vreg_iff.1 k3
  have HT := Lib.hid (show turnT t sign = (⟨t.a, ⟨t.b.base, shiftD t.b.base t.b.digits (sign * (valL t.a.base t.a.digits * pw t.b.base t.carry.toNat))⟩, ⟨t.s.base, shiftD t.s.base t.s.digits (sign * pw t.b.base t.carry.toNat)⟩, t.carry⟩, shiftB t.b.base t.b.digits (sign * (valL t.a.base t.a.digits * pw t.b.base t.carry.toNat))) from rfl)
  have KP := (fun W => l10Power_any t.a.base t.carry.toNat W b1 b2 (by unfold vplaces at p1; omega))
  have hpc : powS t.a.base t.carry.toNat = pw t.b.base t.carry.toNat := by rw [e1]; unfold powS; omega
  rw [hpc, show ((t.carry.toNat : Nat) : Int) = t.carry by omega] at KP
  have KV := (fun W (hW : Kn w0 (.blk g (.int .i64 t.a.base :: .slice A1 t.a.digits.length c1 :: .int .i64 t.b.base :: .slice A2 t.b.digits.length c2 :: .int .i64 t.s.base :: .slice A3 t.s.digits.length c3 :: .int .i64 t.carry :: rest) T :: rowI A3 c3 t.s.digits :: rowI A2 c2 t.b.digits :: rowI A1 c1 t.a.digits :: m) W) => l02Value_any t.a.base A1 t.a.digits.length c1 t.a.digits W b1 b2 hd1 hW.drop.drop.drop.riv n2)
  obtain ⟨U, hU⟩ : ∃ U, pw t.b.base t.carry.toNat = U := ⟨_, rfl⟩
  obtain ⟨V, hV⟩ : ∃ V, valL t.a.base t.a.digits = V := ⟨_, rfl⟩
  rw [hU] at KP HT u1 u2 u3 u4
  rw [hV] at KV HT u3 u4
  obtain ⟨X, hX⟩ : ∃ X, sign * (V * U) = X := ⟨_, rfl⟩
  obtain ⟨Y, hY⟩ : ∃ Y, sign * U = Y := ⟨_, rfl⟩
  rw [hX, hY] at HT
  have hXb : -1000000000001 ≤ X ∧ X ≤ 1000000000001 := by rcases hs with rfl | rfl <;> omega
  have hYb : -1000000000001 ≤ Y ∧ Y ≤ 1000000000001 := by rcases hs with rfl | rfl <;> omega
  have hYX : Y * V = X := by rw [← hX, ← hY, Int.mul_assoc, Int.mul_comm U V]
  have w1' : IntKind.i64.wrap (sign * U) = Y := by rw [hY]; exact wrapI64 (by omega)
  have w2' : IntKind.i64.wrap (Y * V) = X := by rw [hYX]; exact wrapI64 (by omega)
  have KM2 := (fun W (hW : Kn w0 (.blk g (.int .i64 t.a.base :: .slice A1 t.a.digits.length c1 :: .int .i64 t.b.base :: .slice A2 t.b.digits.length c2 :: .int .i64 t.s.base :: .slice A3 t.s.digits.length c3 :: .int .i64 t.carry :: rest) T :: rowI A3 c3 t.s.digits :: rowI A2 c2 t.b.digits :: rowI A1 c1 t.a.digits :: m) W) => l10Move_any ⟨g, 2, none⟩ t.b.base A2 c2 t.b.digits X W ⟨hW.blkAt.1 2, hW.blkAt.1 3⟩ hW.drop.drop.riv k2 f1 hXb.1 hXb.2)
  have KM3 := (fun W (hW : Kn w0 (.blk g (.int .i64 t.a.base :: .slice A1 t.a.digits.length c1 :: .int .i64 t.b.base :: .slice A2 t.b.digits.length c2 :: .int .i64 t.s.base :: .slice A3 t.s.digits.length c3 :: .int .i64 t.carry :: rest) T :: rowI A3 c3 t.s.digits :: rowI A2 c2 t.b.digits :: rowI A1 c1 t.a.digits :: m) W) => l10Move_any ⟨g, 4, none⟩ t.s.base A3 c3 t.s.digits Y W ⟨hW.blkAt.1 4, hW.blkAt.1 5⟩ hW.drop.riv k3 f2 hYb.1 hYb.2)
  obtain ⟨es, hes⟩ : ∃ es, shiftD t.b.base t.b.digits X = es := ⟨_, rfl⟩
  obtain ⟨fs, hfs⟩ : ∃ fs, shiftD t.s.base t.s.digits Y = fs := ⟨_, rfl⟩
  obtain ⟨bell, hbl⟩ : ∃ e, shiftB t.b.base t.b.digits X = e := ⟨_, rfl⟩
  obtain ⟨bell2, hbl2⟩ : ∃ e, shiftB t.s.base t.s.digits Y = e := ⟨_, rfl⟩
  rw [hes, hbl] at KM2
  rw [hfs, hbl2] at KM3
  rw [hes, hfs, hbl] at HT
  rw [HT.out]
  have KP := Lib.hid KP
  have KV := Lib.hid KV
  have KM2 := Lib.hid KM2
  have KM3 := Lib.hid KM3
  have HW1 := Lib.hid w1'
  have HW2 := Lib.hid w2'
  have HY := Lib.hid hY
  have hYo : -9223372036854775808 ≤ sign * U ∧ sign * U ≤ 9223372036854775807 := by rw [hY]; omega
  have hXo : -9223372036854775808 ≤ sign * U * V ∧ sign * U * V ≤ 9223372036854775807 := by rw [hY, hYX]; omega
  clear hpc hU hV hX hY hYX w1' w2' hes hfs hbl hbl2 hd1 hd2 hd3 hv k1 k2 k3 e1 e2 hs
  obtain ⟨a1, a2, a3⟩ := hK.blkAt
  go_enter Tryd.func61, Tryd.ntmps61
  go_wp2_with fail
  go_quiet ((go_at_call 80; exact quiet_left (KP.out _)))
  have hK1 := hK.drewN nq
  generalize w.drewN nq = w1 at hK1 ⊢
  clear hK a1 a2 a3
  obtain ⟨a1, a2, a3⟩ := hK1.blkAt
  go_wp2_with fail
  have HG := Lib.hid (box2 hK1.drew)
  have HA := Lib.hid (box2 (hK1.al [.int .i64 0, .slice none 0 0] 26).drew.drop)
  have HS := HG
  go_cut [6, 7] (fun pp oo wx => ∃ (g6 : Nat) (A' : Option Addr) (c' : Nat), pp = .pointer (some ⟨g6, 0, none⟩) ∧ oo = .bool bell ∧ Kn w0 (.blk g6 [.int .i64 t.b.base, .slice A' es.length c'] 26 :: rowI A' c' es :: .blk g (.int .i64 t.a.base :: .slice A1 t.a.digits.length c1 :: .int .i64 t.b.base :: .slice A2 t.b.digits.length c2 :: .int .i64 t.s.base :: .slice A3 t.s.digits.length c3 :: .int .i64 t.carry :: rest) T :: rowI A3 c3 t.s.digits :: rowI A2 c2 t.b.digits :: rowI A1 c1 t.a.digits :: m) wx)
  case first =>
    go_region_held3 (fun W => W.cell? ⟨g, 0, none⟩ = some (.int .i64 t.a.base) ∧ W.cell? ⟨g, 1, none⟩ = some (.slice A1 t.a.digits.length c1))
      (first | with_reducible exact HG.out | with_reducible exact HA.out | with_reducible exact HS.out | exact HG.out | exact HA.out | exact HS.out) (first
      | (go_at_call 79; first | ((with_reducible refine (KV.out _ hK1.drew).mono ?_); rintro e w7 ⟨rfl, rfl⟩) | ((with_reducible refine (KV.out _ (hK1.al [.int .i64 0, .slice none 0 0] 26).drew.drop).mono ?_); rintro e w7 ⟨rfl, rfl⟩))
      | (go_at_call 82; rw [HW1.out, HW2.out]; clear HG HA; first
        | ((with_reducible refine (KM2.out _ hK1.drew).mono ?_); rintro e w4 ⟨A', c', rfl, hK⟩; have hK4 := hK1.drew.join hK; have HG := Lib.hid (box2 hK4.drop); have HA := Lib.hid (box2 (hK4.al [.int .i64 0, .slice none 0 0] 26).drop.drop); have hK5 := hK4.al [.int .i64 t.b.base, .slice A' es.length c'] 26; have HS := Lib.hid (box2 hK5.drop.drop))
        | ((refine (KM2.out _ (hK1.al [.int .i64 0, .slice none 0 0] 26).drew.drop).mono ?_); rintro e w4 ⟨A', c', rfl, hK⟩; have hK4 := (hK1.al [.int .i64 0, .slice none 0 0] 26).drew.join hK; have HG := Lib.hid (box2 hK4.drop.drop); obtain ⟨g1, f1, l1⟩ := hK4.drop.blkAt; have HA := HG; have hK5 := (hK4.sw1.st 0 (.int .i64 t.b.base)).st 1 (.slice A' es.length c'); have HS := Lib.hid (box2 hK5.drop.drop))))
    all_goals
      go_wp2_with fail
      go_meet
      exact ⟨_, _, _, rfl, rfl, hK5⟩
  case rest =>
    obtain ⟨g6, A', c', rfl, rfl, hK5⟩ := hcut
    clear HG HA HS KP KV KM2 hK1 a1 a2 a3
    obtain ⟨x1, x2, x3, a1, a2, a3, -⟩ := hK5.cells
    go_wp2_with fail
    rw [HY.out]
    refine (KM3.out _ hK5.drop.drop).mono ?_; rintro e w4 ⟨A2', c2', rfl, hK⟩
    have hK6 := hK5.join hK
    clear x1 x2 x3 a1 a2 a3
    obtain ⟨x1, x2, x3, a1, a2, a3, -⟩ := hK6.cells
    have hK7 := ((((hK6.sw3.st 2 (.int .i64 t.b.base)).st 3 (.slice A' es.length c')).st 4 (.int .i64 t.s.base)).st 5 (.slice A2' fs.length c2')).al [.int .i64 t.s.base, .slice A2' fs.length c2'] 26
    go_wp2_with fail
    go_ret
    refine ⟨rfl, A1, c1, A', c', A2', c2', ?_⟩
    refine Kn.only hK7 (by repeat (first | exact List.Sublist.refl _ | apply List.Sublist.cons_cons | apply List.Sublist.cons))
end Go.Proofs.YtmmiahgmdllgdaaDoor

namespace Go.Proofs.YtmmiahgmdllgdaaDoor
open Go.RowKit Go.Sort
theorem MB.congr {w0 w : World} {g : Nat} {rest : List Value} {T : TypeId} {k k' : Tri} {m : List Ent} (h : MB w0 g rest T k m w) (e : k = k') : MB w0 g rest T k' m w := e ▸ h
theorem l10ShiftM {w0 : World} {m : List Ent} {rest : List Value} {T : TypeId} {g : Nat} (t : Tri) (k by_ : Int) (w : World) (hM : MB w0 g rest T t m w) (hv : vmach t = true) (hb : (k = 3 ∧ by_ = 1) ∨ (k = 4 ∧ by_ = -1)) :
    Calls Tryd.prog 62 #[.pointer (some ⟨g, 0, none⟩), .int .i64 by_] w fun e w' => e = .returned (.bool (strokeT k t).2) ∧ MB w0 g rest T (strokeT k t).1 m w' := by
  obtain ⟨A1, c1, A2, c2, A3, c3, hK⟩ := hM
  obtain ⟨-, -, -, -, -, -, -, -, p0, p1⟩ := vmach_all hv
  refine (l10ShiftK t A1 A2 A3 c1 c2 c3 by_ w hK hv (by omega)).mono ?_
  rintro e w' ⟨h1, h2⟩
  rcases hbt : betB (t.carry + by_) 0 (vplaces t - 1) with _ | _
  · obtain ⟨rfl, hK'⟩ := h2 hbt
    have := betB_false.1 hbt
    have hs : strokeT k t = (t, true) := by
      rcases hb with ⟨rfl, rfl⟩ | ⟨rfl, rfl⟩
      · unfold strokeT; rw [if_neg (by decide), if_neg (by decide), if_pos rfl, if_pos (by omega)]
      · unfold strokeT; rw [if_neg (by decide), if_neg (by decide), if_neg (by decide), if_pos rfl, if_pos (by omega)]
    rw [hs]
    exact ⟨rfl, A1, c1, A2, c2, A3, c3, hK'⟩
  · obtain ⟨rfl, hK'⟩ := h1 hbt
    have := betB_iff.1 hbt
    have hs : strokeT k t = ({ t with carry := t.carry + by_ }, false) := by
      rcases hb with ⟨rfl, rfl⟩ | ⟨rfl, rfl⟩
      · unfold strokeT; rw [if_neg (by decide), if_neg (by decide), if_pos rfl, if_neg (by omega)]
      · unfold strokeT; rw [if_neg (by decide), if_neg (by decide), if_neg (by decide), if_pos rfl, if_neg (by omega)]; rfl
    rw [hs]
    exact ⟨rfl, A1, c1, A2, c2, A3, c3, hK'⟩
set_option maxRecDepth 100000 in
set_option maxHeartbeats 1600000 in
theorem l10DoK {w0 : World} {m : List Ent} {rest : List Value} {T : TypeId} {g : Nat} (t : Tri) (k : Int) (w : World) (hM : MB w0 g rest T t m w) (hv : vmach t = true) (hk : 1 ≤ k ∧ k ≤ 6) :
    Calls Tryd.prog 33 #[.pointer (some ⟨g, 0, none⟩), .int .i64 k] w fun e w' => e = .returned (.bool (strokeT k t).2) ∧ MB w0 g rest T (strokeT k t).1 m w' := by
  have hk' : k = 1 ∨ k = 2 ∨ k = 3 ∨ k = 4 ∨ k = 5 ∨ k = 6 := by omega
  clear hk
  rcases hk' with rfl | rfl | rfl | rfl | rfl | rfl
  · have KT := Lib.hid (l10TurnK t 1 w hM hv (.inl rfl))
    obtain ⟨r, hr⟩ : ∃ r, strokeT 1 t = r := ⟨_, rfl⟩
    have HR := Lib.hid (show turnT t 1 = r by rw [← hr]; rfl)
    rw [hr]
    clear hr hM hv
    go_enter Tryd.func33, Tryd.ntmps33
    go_wp2_with (go_at_call 61; refine KT.out.mono ?_; rw [HR.out]; rintro e w' ⟨rfl, hM⟩)
    go_ret
    exact ⟨rfl, hM⟩
  · have KT := Lib.hid (l10TurnK t (-1) w hM hv (.inr rfl))
    obtain ⟨r, hr⟩ : ∃ r, strokeT 2 t = r := ⟨_, rfl⟩
    have HR := Lib.hid (show turnT t (-1) = r by rw [← hr]; rfl)
    rw [hr]
    clear hr hM hv
    go_enter Tryd.func33, Tryd.ntmps33
    go_wp2_with (go_at_call 61; refine KT.out.mono ?_; rw [HR.out]; rintro e w' ⟨rfl, hM⟩)
    go_ret
    exact ⟨rfl, hM⟩
  · have KT := (l10ShiftM t 3 1 w hM hv (.inl ⟨rfl, rfl⟩))
    obtain ⟨r, hr⟩ : ∃ r, strokeT 3 t = r := ⟨_, rfl⟩
    rw [hr] at KT ⊢
    have KT := Lib.hid KT
    clear hr hM hv
    go_enter Tryd.func33, Tryd.ntmps33
    go_wp2_with (go_at_call 62; refine KT.out.mono ?_; rintro e w' ⟨rfl, hM⟩)
    go_ret
    exact ⟨rfl, hM⟩
  · have KT := (l10ShiftM t 4 (-1) w hM hv (.inr ⟨rfl, rfl⟩))
    obtain ⟨r, hr⟩ : ∃ r, strokeT 4 t = r := ⟨_, rfl⟩
    rw [hr] at KT ⊢
    have KT := Lib.hid KT
    clear hr hM hv
    go_enter Tryd.func33, Tryd.ntmps33
    go_wp2_with (go_at_call 62; refine KT.out.mono ?_; rintro e w' ⟨rfl, hM⟩)
    go_ret
    exact ⟨rfl, hM⟩
  · obtain ⟨k1, k2, k3, -⟩ := vmach_all hv
    obtain ⟨-, ⟨n3, n4⟩, -, -⟩ := vreg_iff.1 k2
    obtain ⟨-, ⟨n5, n6⟩, -, -⟩ := vreg_iff.1 k3
    have hS : strokeT 5 t = (⟨t.a, ⟨t.b.base, List.replicate t.b.digits.length 0⟩, ⟨t.s.base, List.replicate t.s.digits.length 0⟩, t.carry⟩, false) := by unfold strokeT; simp [digD_zero]
    rw [hS]
    obtain ⟨A1, c1, A2, c2, A3, c3, hK⟩ := hM
    clear hS hv k1 k2 k3
    obtain ⟨a1, a2, a3⟩ := hK.blkAt
    go_enter Tryd.func33, Tryd.ntmps33
    go_wp2_with fail
    refine (l10ZeroK (cs := (.int .i64 t.a.base :: .slice A1 t.a.digits.length c1 :: .int .i64 t.b.base :: .slice A2 t.b.digits.length c2 :: .int .i64 t.s.base :: .slice A3 t.s.digits.length c3 :: .int .i64 t.carry :: rest)) (o := 2) A2 c2 t.b.digits w hK.sw2 rfl (by omega) (by omega)).mono ?_; rintro e w1 ⟨rfl, hK1⟩
    go_wp2_with fail
    refine (l10ZeroK (cs := (.int .i64 t.a.base :: .slice A1 t.a.digits.length c1 :: .int .i64 t.b.base :: .slice A2 t.b.digits.length c2 :: .int .i64 t.s.base :: .slice A3 t.s.digits.length c3 :: .int .i64 t.carry :: rest)) (o := 4) A3 c3 t.s.digits w1 (hK1.sw1.sw2) rfl (by omega) (by omega)).mono ?_; rintro e w2 ⟨rfl, hK2⟩
    go_wp2_with fail
    go_ret
    refine ⟨rfl, A1, c1, A2, c2, A3, c3, ?_⟩
    simp only [List.length_replicate]
    exact hK2.sw1
  · obtain ⟨k1, k2, k3, -⟩ := vmach_all hv
    obtain ⟨-, ⟨n1, n2⟩, -, -⟩ := vreg_iff.1 k1
    have hS : strokeT 6 t = ({ t with a := ⟨t.a.base, List.replicate t.a.digits.length 0⟩ }, false) := by unfold strokeT; simp [digD_zero]
    rw [hS]
    obtain ⟨A1, c1, A2, c2, A3, c3, hK⟩ := hM
    clear hS hv k1 k2 k3
    go_enter Tryd.func33, Tryd.ntmps33
    go_wp2_with fail
    refine (l10ZeroK (cs := (.int .i64 t.a.base :: .slice A1 t.a.digits.length c1 :: .int .i64 t.b.base :: .slice A2 t.b.digits.length c2 :: .int .i64 t.s.base :: .slice A3 t.s.digits.length c3 :: .int .i64 t.carry :: rest)) (o := 0) A1 c1 t.a.digits w hK.sw3 rfl (by omega) (by omega)).mono ?_; rintro e w1 ⟨rfl, hK1⟩
    go_wp2_with fail
    go_ret
    refine ⟨rfl, A1, c1, A2, c2, A3, c3, ?_⟩
    simp only [List.length_replicate]
    exact hK1.sw3.sw3.sw3
end Go.Proofs.YtmmiahgmdllgdaaDoor

namespace Go.Proofs.YtmmiahgmdllgdaaDoor
open Go.RowKit Go.Sort
end Go.Proofs.YtmmiahgmdllgdaaDoor

namespace Go.Proofs.YtmmiahgmdllgdaaDoor
open Go.RowKit Go.Sort
/-- what SetValue returns for a valid machine -/
def SetRet (t : Tri) (v : Int) (w : World) (e : Ending) (w' : World) : Prop :=
  (v < pw t.a.base t.a.digits.length ∧ ∃ A1 c1 A2 c2 A3 c3, e = .returned (.tuple #[.agg #[.int .i64 t.a.base, .slice A1 (setT t v).a.digits.length c1, .int .i64 t.b.base, .slice A2 t.b.digits.length c2, .int .i64 t.s.base, .slice A3 t.s.digits.length c3, .int .i64 t.carry], .int .i64 0]) ∧
    Kn w [rowI A3 c3 t.s.digits, rowI A2 c2 t.b.digits, rowI A1 c1 (setT t v).a.digits] w') ∨
  (¬ v < pw t.a.base t.a.digits.length ∧ e = .returned (.tuple #[.agg #[.int .i64 0, .slice none 0 0, .int .i64 0, .slice none 0 0, .int .i64 0, .slice none 0 0, .int .i64 0], .int .i64 2]) ∧ Below w.heap.size w w')
end Go.Proofs.YtmmiahgmdllgdaaDoor

namespace Go.Proofs.YtmmiahgmdllgdaaDoor
open Go.RowKit Go.Sort
/-- does a number fit a machine's setting? -/
def fits (t : Tri) (v : Int) : Bool := decide (0 ≤ v ∧ v < pw t.a.base t.a.digits.length)
/-- what SetValue returns for a valid machine and any number -/
def SetG (t : Tri) (v : Int) (w : World) (e : Ending) (w' : World) : Prop :=
  (fits t v = true ∧ ∃ A1 c1 A2 c2 A3 c3, e = .returned (.tuple #[.agg #[.int .i64 t.a.base, .slice A1 (setT t v).a.digits.length c1, .int .i64 t.b.base, .slice A2 t.b.digits.length c2, .int .i64 t.s.base, .slice A3 t.s.digits.length c3, .int .i64 t.carry], .int .i64 0]) ∧
    Kn w [rowI A3 c3 t.s.digits, rowI A2 c2 t.b.digits, rowI A1 c1 (setT t v).a.digits] w') ∨
  (fits t v = false ∧ e = .returned (.tuple #[.agg #[.int .i64 0, .slice none 0 0, .int .i64 0, .slice none 0 0, .int .i64 0, .slice none 0 0, .int .i64 0], .int .i64 2]) ∧ Below w.heap.size w w')
end Go.Proofs.YtmmiahgmdllgdaaDoor

namespace Go.Proofs.YtmmiahgmdllgdaaDoor
open Go.RowKit Go.Sort
/-- the rows of a machine are among the things that are owned -/
def Own3 (m : List Ent) (A1 : Option Addr) (c1 : Nat) (A2 : Option Addr) (c2 : Nat) (A3 : Option Addr) (c3 : Nat) (t : Tri) : Prop := rowI A1 c1 t.a.digits ∈ m ∧ rowI A2 c2 t.b.digits ∈ m ∧ rowI A3 c3 t.s.digits ∈ m
theorem Own3.mono {m m' : List Ent} {A1 A2 A3 : Option Addr} {c1 c2 c3 : Nat} {t : Tri} (h : Own3 m A1 c1 A2 c2 A3 c3 t) (hs : ∀ e ∈ m, e ∈ m') : Own3 m' A1 c1 A2 c2 A3 c3 t := ⟨hs _ h.1, hs _ h.2.1, hs _ h.2.2⟩
theorem Kn.riM {w0 w : World} {m : List Ent} {A : Option Addr} {c : Nat} {ds : List Int} (h : Kn w0 m w) (he : rowI A c ds ∈ m) : RI w A ds.length ds := by
  obtain ⟨i, hi⟩ := List.getElem?_of_mem he
  exact Kn.riv (h.front i hi)
theorem Own3.ri {w0 w : World} {m m' : List Ent} {A1 A2 A3 : Option Addr} {c1 c2 c3 : Nat} {t : Tri} (h : Own3 m A1 c1 A2 c2 A3 c3 t) (hK : Kn w0 m' w) (hs : ∀ e ∈ m, e ∈ m') : RI w A1 t.a.digits.length t.a.digits ∧ RI w A2 t.b.digits.length t.b.digits ∧ RI w A3 t.s.digits.length t.s.digits :=
  ⟨hK.riM (hs _ h.1), hK.riM (hs _ h.2.1), hK.riM (hs _ h.2.2)⟩
/-- the same, and all things of F beside them -/
def Own3F (F m : List Ent) (A1 : Option Addr) (c1 : Nat) (A2 : Option Addr) (c2 : Nat) (A3 : Option Addr) (c3 : Nat) (t : Tri) : Prop := Own3 m A1 c1 A2 c2 A3 c3 t ∧ ∀ e ∈ F, e ∈ m
theorem Own3F.mono {F m m' : List Ent} {A1 A2 A3 : Option Addr} {c1 c2 c3 : Nat} {t : Tri} (h : Own3F F m A1 c1 A2 c2 A3 c3 t) (hs : ∀ e ∈ m, e ∈ m') : Own3F F m' A1 c1 A2 c2 A3 c3 t := ⟨h.1.mono hs, fun e he => hs _ (h.2 e he)⟩
theorem lineS_ended {s : SS} (i : Int) (bs : List UInt8) (h : s.ended = true) : lineS s i bs = (s, 5) := by unfold lineS; rw [if_pos h]
theorem box7s {w0 w : World} {m : List Ent} {g : Nat} {v0 v1 v2 v3 v4 v5 v6 p0 p1 p2 p3 p4 p5 p6 : Value} {l : List Value} {T : TypeId} (h : Kn w0 (.blk g (p0 :: p1 :: p2 :: p3 :: p4 :: p5 :: p6 :: v0 :: v1 :: v2 :: v3 :: v4 :: v5 :: v6 :: l) T :: m) w) :
    w.cell? ⟨g, 7, none⟩ = some v0 ∧ w.cell? ⟨g, 8, none⟩ = some v1 ∧ w.cell? ⟨g, 9, none⟩ = some v2 ∧ w.cell? ⟨g, 10, none⟩ = some v3 ∧ w.cell? ⟨g, 11, none⟩ = some v4 ∧ w.cell? ⟨g, 12, none⟩ = some v5 ∧ w.cell? ⟨g, 13, none⟩ = some v6 :=
  ⟨h.blkAt.1 7, h.blkAt.1 8, h.blkAt.1 9, h.blkAt.1 10, h.blkAt.1 11, h.blkAt.1 12, h.blkAt.1 13⟩
attribute [local go_sem ↓] Go.wp_at_zero Go.wp_at_succ
end Go.Proofs.YtmmiahgmdllgdaaDoor

namespace Go.Proofs.YtmmiahgmdllgdaaDoor
open Go.RowKit Go.Sort
end Go.Proofs.YtmmiahgmdllgdaaDoor

namespace Go.Proofs.YtmmiahgmdllgdaaDoor
open Go.RowKit Go.Sort
end Go.Proofs.YtmmiahgmdllgdaaDoor

namespace Go.Proofs.YtmmiahgmdllgdaaDoor
open Go.RowKit Go.Sort
theorem instrOk_bd1 {op arg : Int} (h : instrOk op arg = true) : 1 ≤ op ∧ op ≤ 10 ∧ 0 ≤ arg ∧ arg ≤ 1000000000000 := by
  rcases op_cases op with rfl | rfl | rfl | rfl | rfl | rfl | rfl | rfl | rfl | rfl | h1
  rotate_right 1
  · rw [instrOk_else h1] at h; cases h
  all_goals
    simp [instrOk, betB] at h
    omega
theorem Ev.mono {L : List Ins} {t : Task} {s s' : RS} {b : Bool} (h : Ev L t s s' b) : s.done ≤ s'.done := by
  induction h with
  | s0 => exact Nat.le_refl _
  | sFull h => simp [RS.tick]
  | sStep h he ih => simp only [] at ih; omega
  | rEnd h => exact Nat.le_refl _
  | rCode hi h => exact Nat.le_refl _
  | rSetFull hi hl hc ho h => simp [RS.tick]
  | rSetBad hi hl hc ho h hf => simp
  | rSet hi hl hc ho h hf he ih => simp only [] at ih; omega
  | rLoop hi hl hc ho hm h1 he ih1 ih2 => omega
  | rStr hi hl hc ho h1' h1 he ih1 ih2 => omega
  | lEnd h8 hk => exact Nat.le_refl _
  | lFull h8 h => simp [RS.tick]
  | lOut h8 h h1 ho ih => simp only [] at ih; omega
  | lStep h8 h h1 ho he ih1 ih2 => simp only [] at ih1; omega
/-- what holds at the head of a round of a loop -/
def AtRound (L : List Ins) (x : Ins) (i e : Nat) (s : RS) (k : Nat) (s1 : RS) : Prop :=
  (s1.code = 0 ∧ (x.op = 8 → (k : Int) ≤ x.arg) ∧ ∀ s' b', Ev L (.loop x.op x.arg i e k) s1 s' b' → Ev L (.loop x.op x.arg i e 0) s s' false) ∨ (¬ s1.code = 0 ∧ Ev L (.loop x.op x.arg i e 0) s s1 false)
theorem AtRound.next {L : List Ins} {x : Ins} {i e : Nat} {s s1 s3 : RS} {k : Nat} {b3 : Bool} (HE : ∀ s' b', Ev L (.loop x.op x.arg i e k) s1 s' b' → Ev L (.loop x.op x.arg i e 0) s s' false) (hne : ¬ (x.op = 8 ∧ x.arg ≤ (k : Int))) (hd : ¬ s1.done = 3000)
    (he : Ev L (.run i e) ⟨s1.m, s1.tr, s1.done + 1, 0⟩ s3 b3) (h9 : ¬ (x.op = 9 ∧ b3 = true)) (h8 : x.op = 8 → (k : Int) + 1 ≤ x.arg) : AtRound L x i e s (k + 1) s3 := by
  by_cases hc : s3.code = 0
  · exact .inl ⟨hc, fun h => by have := h8 h; omega, fun s' b' h => HE s' false (Ev.lStep hne hd he ⟨hc, h9⟩ h)⟩
  · exact .inr ⟨hc, HE s3 false (Ev.lOut hne hd he (.inl hc))⟩
end Go.Proofs.YtmmiahgmdllgdaaDoor

namespace Go.Proofs.YtmmiahgmdllgdaaDoor
open Go.RowKit Go.Sort
theorem Ev.stop {L : List Ins} {j tt : Nat} {s s' : RS} {b : Bool} (h : Ev L (.run j tt) s s' b) (hc : ¬ s.code = 0) : s' = s ∧ b = false := by
  cases h <;> first | exact ⟨rfl, rfl⟩ | contradiction
end Go.Proofs.YtmmiahgmdllgdaaDoor

namespace Go.Proofs.YtmmiahgmdllgdaaDoor
open Go.RowKit Go.Sort
end Go.Proofs.YtmmiahgmdllgdaaDoor

namespace Go.Proofs.YtmmiahgmdllgdaaDoor
open Go.RowKit Go.Sort
end Go.Proofs.YtmmiahgmdllgdaaDoor

namespace Go.Proofs.YtmmiahgmdllgdaaDoor
open Go.RowKit Go.Sort
theorem box8 {w0 w : World} {m : List Ent} {g g' : Nat} {v0 v1 v2 v3 v4 v5 v6 y0 y1 : Value} {l : List Value} {r1 r2 r3 r4 : Ent} {T T' : TypeId} (h : Kn w0 (.blk g (v0 :: v1 :: v2 :: v3 :: v4 :: v5 :: v6 :: l) T :: r1 :: r2 :: r3 :: r4 :: .blk g' [y0, y1] T' :: m) w) :
    w.cell? ⟨g, 0, none⟩ = some v0 ∧ w.cell? ⟨g, 1, none⟩ = some v1 ∧ w.cell? ⟨g, 2, none⟩ = some v2 ∧ w.cell? ⟨g, 3, none⟩ = some v3 ∧ w.cell? ⟨g, 4, none⟩ = some v4 ∧ w.cell? ⟨g, 5, none⟩ = some v5 ∧ w.cell? ⟨g, 6, none⟩ = some v6 ∧ w.cell? ⟨g', 1, none⟩ = some y1 :=
  ⟨h.blkAt.1 0, h.blkAt.1 1, h.blkAt.1 2, h.blkAt.1 3, h.blkAt.1 4, h.blkAt.1 5, h.blkAt.1 6, h.drop.drop.drop.drop.drop.blkAt.1 1⟩
end Go.Proofs.YtmmiahgmdllgdaaDoor

namespace Go.Proofs.YtmmiahgmdllgdaaDoor
open Go.RowKit Go.Sort
/-- how a run begins -/
def startR (t : Tri) : RS := ⟨t, [], 0, 0⟩
theorem startR_good {t : Tri} (h : vmach t = true) : (startR t).Good := ⟨h, Nat.le_refl _, fun _ => by simp [startR], by simp [startR]⟩
theorem sized_of {t : Tri} (h : vmach t = true) : Sized t := by
  obtain ⟨q1, q2, q3, -⟩ := vmach_all h
  obtain ⟨-, ⟨n1, n2⟩, -⟩ := vreg_iff.1 q1
  obtain ⟨-, ⟨n3, n4⟩, -⟩ := vreg_iff.1 q2
  obtain ⟨-, ⟨n5, n6⟩, -⟩ := vreg_iff.1 q3
  exact ⟨n1, n3, n5, n2, n4, n6⟩
end Go.Proofs.YtmmiahgmdllgdaaDoor

namespace Go.Proofs.YtmmiahgmdllgdaaDoor
open Go.RowKit Go.Sort
theorem rdN_bd (bs : List UInt8) : -9223372036854775807 ≤ rdN bs ∧ rdN bs ≤ 9223372036854775807 := by
  unfold rdN
  rcases h : rdDec bs with _ | n
  · simp
  · show -9223372036854775807 ≤ n ∧ n ≤ 9223372036854775807
    unfold rdDec at h
    split at h
    · rename_i hc
      injection h with h
      rw [Bool.and_eq_true, Bool.and_eq_true, decide_eq_true_eq] at hc
      have h1 := foldD_bd _ hc.1.2
      have h2 : 10 ^ (signOff bs).length ≤ 10 ^ 18 := Nat.pow_le_pow_right (by omega) hc.1.1.2
      unfold numOf at h
      split at h <;> omega
    · cases h
def setW : ByteArray := ⟨#[115, 101, 116, 32]⟩
def showW : ByteArray := ⟨#[115, 104, 111, 119, 32]⟩
theorem nameI0 {L : ByteArray} (hq : kindOf (strB L) = 0) : Hid (∀ W, Calls Tryd.prog 22 #[.string L] W fun e w' => e = .returned (.tuple #[.int .i64 0, .bool false]) ∧ Below W.heap.size W w') := by
  have h := (fun W => strokeNamed_any L W)
  rw [hq, decide_eq_false (fun h => h rfl)] at h
  exact h
theorem begins_ne {p bs : List UInt8} (h : begins p bs = true) {q : List UInt8} (hq : q.length ≤ p.length) : bs ≠ q := by
  rintro rfl
  have := (begins_iff.1 h).1
  omega
theorem show_not_set {bs : List UInt8} (h : begins showB bs = true) : begins setB bs = false := by
  rcases hb : begins setB bs with _ | _
  · rfl
  · have h1 := (begins_iff.1 h).2
    have h2 := (begins_iff.1 hb).2
    have h3 : (bs.take 5).take 4 = bs.take 4 := by rw [List.take_take]; rfl
    have h4 : bs.take 5 = showB := h1
    have h5 : bs.take 4 = setB := h2
    rw [h4, h5] at h3
    exact absurd h3 (by decide)
end Go.Proofs.YtmmiahgmdllgdaaDoor

namespace Go.Proofs.YtmmiahgmdllgdaaDoor
open Go.RowKit Go.Sort
/-! rows of strings -/
def StrM (w : World) (p : Addr) (s : ByteArray) : Prop := w.cell? p = some (.string s)
theorem steady_StrM : Steady StrM := by
  intro w w' p s hp hb h
  unfold StrM at *
  rw [hb.cell hp]; exact h
def rowSN (A : Option Addr) (n c : Nat) (ss : List ByteArray) : Ent := .row (.slice A n c) 9 1 n (ss.map Value.string)
theorem Kn.rlSN {w0 w : World} {m : List Ent} {A : Option Addr} {n c : Nat} {ss : List ByteArray} (h : Kn w0 (rowSN A n c ss :: m) w) : ss.length = n ∧ RL StrM 1 w A n ss := by
  have h0 : w.ownsRow 0 9 1 (.slice A n c) n (ss.map Value.string) := h.at0
  have hl : ss.length = n := by have := h0.1; simpa using this
  refine ⟨hl, hl, fun hn => ?_⟩
  rcases h0.2 with ⟨hv, hn'⟩ | ⟨g, cap, cur, hv, -, hg, -⟩
  · omega
  · injection hv with h1 h2 h3
    refine ⟨_, h1, (Array.getElem?_eq_some_iff.1 hg).1, fun k hk => ?_⟩
    rw [h1] at h0
    have := h0.cells (g := g) rfl k _ (by rw [List.getElem?_map, List.getElem?_eq_getElem hk]; rfl)
    rw [Nat.mul_one]
    exact this
theorem Kn.rlS {w0 w : World} {m : List Ent} {A : Option Addr} {n c : Nat} {ss : List ByteArray} (h : Kn w0 (rowS (.slice A n c) ss :: m) w) : n = ss.length ∧ RL StrM 1 w A n ss := by
  have h0 : w.ownsRow 0 9 1 (.slice A n c) ss.length (ss.map Value.string) := h.at0
  have hn : n = ss.length := by
    rcases h0.2 with ⟨hv, hn'⟩ | ⟨g, cap, cur, hv, -, hg, -⟩
    · injection hv with h1 h2 h3; omega
    · injection hv
  subst hn
  exact ⟨rfl, (Kn.rlSN (m := m) (c := c) h).2⟩
def totS (ss : List ByteArray) : Nat := (ss.map (·.size)).sum
theorem totS_mem {ss : List ByteArray} {s : ByteArray} (h : s ∈ ss) : s.size ≤ totS ss := by
  induction ss with
  | nil => cases h
  | cons a l ih =>
    unfold totS at *
    rw [List.map_cons, List.sum_cons]
    rcases List.mem_cons.1 h with rfl | h
    · omega
    · have := ih h; omega
theorem totS_snoc (ss : List ByteArray) (s : ByteArray) : totS (ss ++ [s]) = totS ss + s.size := by simp [totS]
theorem info_str : (Tryd.prog.info? 9).map (fun i => (i.zero, i.size, i.bytes)) = some (some (.string ⟨#[]⟩), 1, 16) := by kernel_rfl
end Go.Proofs.YtmmiahgmdllgdaaDoor

namespace Go.Proofs.YtmmiahgmdllgdaaDoor
open Go.RowKit Go.Sort
/-! marks of strings -/
def mkT (k : Int) : ByteArray := ⟨(109 :: digs k.toNat).toArray⟩
def marksS (k : Int) (n : Nat) : List ByteArray := (List.range n).map (fun (i : Nat) => mkT (k + (i : Int)))
theorem marksS_len (k : Int) (n : Nat) : (marksS k n).length = n := by simp [marksS]
theorem marksS_get (k : Int) (n i : Nat) (h : i < (marksS k n).length) : (marksS k n)[i] = mkT (k + i) := by simp [marksS]
theorem size_app (a b : ByteArray) : (a ++ b).size = a.size + b.size := ByteArray.size_append
theorem strB_app (a b : ByteArray) : strB (a ++ b) = strB a ++ strB b := by unfold strB; simp
end Go.Proofs.YtmmiahgmdllgdaaDoor

namespace Go.Proofs.YtmmiahgmdllgdaaDoor
open Go.RowKit Go.Sort
def startW : ByteArray := ⟨#[115, 116, 97, 114, 116, 32]⟩
theorem rdM_nil : rdM [] = none := rfl
/-- what a session begins with -/
def startOk (b : List UInt8) : Bool := begins startB b && (rdM (b.drop 6)).isSome
theorem runS_cons (b : List UInt8) (t : List (List UInt8)) : runS (b :: t) = if startOk b then goS ⟨rdMach (b.drop 6), rdMach (b.drop 6), [], [], false⟩ 1 t else (zSS, 0, 1) := rfl
theorem goS_cons (s : SS) (i : Int) (b : List UInt8) (t : List (List UInt8)) : goS s i (b :: t) = if (lineS s i b).2 ≠ 0 then ((lineS s i b).1, i, (lineS s i b).2) else goS (lineS s i b).1 (i + 1) t := rfl
theorem goS_nil (s : SS) (i : Int) : goS s i [] = if s.ended then (s, -1, 0) else (s, i, 5) := rfl
end Go.Proofs.YtmmiahgmdllgdaaDoor

namespace Go.Proofs.YtmmiahgmdllgdaaDoor
open Go.RowKit Go.Sort
theorem box7p {w0 w : World} {m : List Ent} {g : Nat} {v0 v1 p0 p1 p2 p3 p4 p5 p6 : Value} {l : List Value} {T : TypeId} (h : Kn w0 (.blk g (p0 :: p1 :: p2 :: p3 :: p4 :: p5 :: p6 :: v0 :: v1 :: l) T :: m) w) : w.cell? ⟨g, 7, none⟩ = some v0 ∧ w.cell? ⟨g, 8, none⟩ = some v1 := ⟨h.blkAt.1 7, h.blkAt.1 8⟩
theorem l10PlacesK7 {w0 : World} {m : List Ent} {rest : List Value} {p0 p1 p2 p3 p4 p5 p6 : Value} {T : TypeId} {g : Nat} (t : Tri) (A1 A2 A3 : Option Addr) (c1 c2 c3 : Nat) (w : World) (hK : Kn w0 (.blk g (p0 :: p1 :: p2 :: p3 :: p4 :: p5 :: p6 :: .int .i64 t.a.base :: .slice A1 t.a.digits.length c1 :: .int .i64 t.b.base :: .slice A2 t.b.digits.length c2 :: .int .i64 t.s.base :: .slice A3 t.s.digits.length c3 :: .int .i64 t.carry :: rest) T :: m) w) (h1 : t.a.digits.length ≤ 16) (h2 : t.b.digits.length ≤ 16) (_h3 : t.s.digits.length ≤ 16) :
    Calls Tryd.prog 39 #[.pointer (some ⟨g, 7, none⟩)] w fun e w' => e = .returned (.int .i64 (vplaces t)) ∧ ∃ q, w' = w.drewN q := by
  obtain ⟨a1, a2, a3⟩ := hK.blkAt
  clear hK
  go_enter Tryd.func39, Tryd.ntmps39
  go_wp2_with fail
  go_quiet ((go_at_call 66; exact quiet_left (l00Min_any _ _ _)))
  go_wp2
  go_ret
  exact ⟨ret_int (by unfold vplaces; omega), _, rfl⟩
set_option maxHeartbeats 1600000 in
theorem l10ShiftK7 {w0 : World} {m : List Ent} {rest : List Value} {p0 p1 p2 p3 p4 p5 p6 : Value} {T : TypeId} {g : Nat} (t : Tri) (A1 A2 A3 : Option Addr) (c1 c2 c3 : Nat) (by_ : Int) (w : World) (hK : Kn w0 (.blk g (p0 :: p1 :: p2 :: p3 :: p4 :: p5 :: p6 :: .int .i64 t.a.base :: .slice A1 t.a.digits.length c1 :: .int .i64 t.b.base :: .slice A2 t.b.digits.length c2 :: .int .i64 t.s.base :: .slice A3 t.s.digits.length c3 :: .int .i64 t.carry :: rest) T :: m) w) (hv : vmach t = true) (hb : by_ = 1 ∨ by_ = -1) :
    Calls Tryd.prog 62 #[.pointer (some ⟨g, 7, none⟩), .int .i64 by_] w fun e w' => 
      (betB (t.carry + by_) 0 (vplaces t - 1) = true → e = .returned (.bool false) ∧ Kn w0 (.blk g (p0 :: p1 :: p2 :: p3 :: p4 :: p5 :: p6 :: .int .i64 t.a.base :: .slice A1 t.a.digits.length c1 :: .int .i64 t.b.base :: .slice A2 t.b.digits.length c2 :: .int .i64 t.s.base :: .slice A3 t.s.digits.length c3 :: .int .i64 (t.carry + by_) :: rest) T :: m) w') ∧ (betB (t.carry + by_) 0 (vplaces t - 1) = false → e = .returned (.bool true) ∧ Kn w0 (.blk g (p0 :: p1 :: p2 :: p3 :: p4 :: p5 :: p6 :: .int .i64 t.a.base :: .slice A1 t.a.digits.length c1 :: .int .i64 t.b.base :: .slice A2 t.b.digits.length c2 :: .int .i64 t.s.base :: .slice A3 t.s.digits.length c3 :: .int .i64 t.carry :: rest) T :: m) w') := by
  obtain ⟨k1, k2, k3, e1, e2, f1, f2, l1, y0, y1⟩ := vmach_all hv
  obtain ⟨-, ⟨n1, n2⟩, -, -⟩ := vreg_iff.1 k1
  obtain ⟨-, ⟨n3, n4⟩, -, -⟩ := vreg_iff.1 k2
  obtain ⟨-, ⟨n5, n6⟩, -, -⟩ := vreg_iff.1 k3
  have hp1 : -16 ≤ vplaces t ∧ vplaces t ≤ 16 := by unfold vplaces; omega
  have KP := Lib.hid (fun W (h : Kn w0 (.blk g (p0 :: p1 :: p2 :: p3 :: p4 :: p5 :: p6 :: .int .i64 t.a.base :: .slice A1 t.a.digits.length c1 :: .int .i64 t.b.base :: .slice A2 t.b.digits.length c2 :: .int .i64 t.s.base :: .slice A3 t.s.digits.length c3 :: .int .i64 t.carry :: rest) T :: m) W) => l10PlacesK7 t A1 A2 A3 c1 c2 c3 W h n2 n4 n6)
  have hw := wrapI64 (n := t.carry + by_) (by omega)
  have hw2 := wrapI64 (n := vplaces t - 1) (by omega)
  obtain ⟨P, hP⟩ : ∃ P, vplaces t = P := ⟨_, rfl⟩
  rw [hP] at KP hw2 hp1 y1 ⊢
  obtain ⟨a1, a2, a3⟩ := hK.blkAt
  clear k1 k2 k3 f1 f2 l1 n1 n2 n3 n4 n5 n6 hP e1 e2 hv
  rcases hbt : betB (t.carry + by_) 0 (P - 1) with _ | _
  · have KI := Lib.hid (fun W => calls_val (l00In_any (t.carry + by_) 0 (P - 1) W) (congrArg Value.bool hbt))
    clear hbt
    go_enter Tryd.func62, Tryd.ntmps62
    go_wp2_with fail
    go_quiet ((first | (go_at_call 39; first | exact quiet_of_ex (KP.out _ (hK.drewN _)) | exact quiet_add_ex (KP.out _ (hK.drewN _))) | (go_at_call 59; first | exact quiet_left (KI.out _) | exact quiet_add_left (KI.out _))))
    go_wp2_with fail
    go_ret
    exact ⟨(fun h => by cases h), fun _ => ⟨rfl, hK.drewN _⟩⟩
  · have KI := Lib.hid (fun W => calls_val (l00In_any (t.carry + by_) 0 (P - 1) W) (congrArg Value.bool hbt))
    clear hbt
    go_enter Tryd.func62, Tryd.ntmps62
    go_wp2_with fail
    go_quiet ((first | (go_at_call 39; first | exact quiet_of_ex (KP.out _ (hK.drewN _)) | exact quiet_add_ex (KP.out _ (hK.drewN _))) | (go_at_call 59; first | exact quiet_left (KI.out _) | exact quiet_add_left (KI.out _))))
    go_wp2_with fail
    go_ret
    exact ⟨fun _ => ⟨rfl, (hK.drewN _).st 13 _⟩, (fun h => by cases h)⟩
/-- the machine in block g, and its numbers -/
def MB7 (w0 : World) (g : Nat) (p0 p1 p2 p3 p4 p5 p6 : Value) (rest : List Value) (T : TypeId) (k : Tri) (m : List Ent) (w : World) : Prop := ∃ B1 d1 B2 d2 B3 d3, Kn w0 (.blk g (p0 :: p1 :: p2 :: p3 :: p4 :: p5 :: p6 :: .int .i64 k.a.base :: .slice B1 k.a.digits.length d1 :: .int .i64 k.b.base :: .slice B2 k.b.digits.length d2 :: .int .i64 k.s.base :: .slice B3 k.s.digits.length d3 :: .int .i64 k.carry :: rest) T :: rowI B3 d3 k.s.digits :: rowI B2 d2 k.b.digits :: rowI B1 d1 k.a.digits :: m) w
set_option maxRecDepth 100000 in
set_option maxHeartbeats 1600000 in
theorem l10TurnK7 {w0 : World} {m : List Ent} {rest : List Value} {p0 p1 p2 p3 p4 p5 p6 : Value} {T : TypeId} {g : Nat} (t : Tri) (sign : Int) (w : World) (hM : MB7 w0 g p0 p1 p2 p3 p4 p5 p6 rest T t m w) (hv : vmach t = true) (hs : sign = 1 ∨ sign = -1) :
    Calls Tryd.prog 61 #[.pointer (some ⟨g, 7, none⟩), .int .i64 sign] w fun e w' => e = .returned (.bool (turnT t sign).2) ∧ MB7 w0 g p0 p1 p2 p3 p4 p5 p6 rest T (turnT t sign).1 m w' := by
  obtain ⟨A1, c1, A2, c2, A3, c3, hK⟩ := hM
  obtain ⟨k1, k2, k3, e1, e2, f1, f2, l1, y0, y1⟩ := vmach_all hv
  obtain ⟨u1, u2, u3, u4⟩ := turn_bd hv
  obtain ⟨⟨b1, b2⟩, ⟨n1, n2⟩, hd1, -⟩ := vreg_iff.1 k1
  obtain ⟨⟨b3, b4⟩, ⟨n3, n4⟩, hd2, -⟩ := vreg_iff.1 k2
  obtain ⟨⟨b5, b6⟩, ⟨n5, n6⟩, hd3, -⟩ := vreg_iff.1 k3
  have HT := Lib.hid (show turnT t sign = (⟨t.a, ⟨t.b.base, shiftD t.b.base t.b.digits (sign * (valL t.a.base t.a.digits * pw t.b.base t.carry.toNat))⟩, ⟨t.s.base, shiftD t.s.base t.s.digits (sign * pw t.b.base t.carry.toNat)⟩, t.carry⟩, shiftB t.b.base t.b.digits (sign * (valL t.a.base t.a.digits * pw t.b.base t.carry.toNat))) from rfl)
  have KP := (fun W => l10Power_any t.a.base t.carry.toNat W b1 b2 (by unfold vplaces at y1; omega))
  have hpc : powS t.a.base t.carry.toNat = pw t.b.base t.carry.toNat := by rw [e1]; unfold powS; omega
  rw [hpc, show ((t.carry.toNat : Nat) : Int) = t.carry by omega] at KP
  have KV := (fun W (hW : Kn w0 (.blk g (p0 :: p1 :: p2 :: p3 :: p4 :: p5 :: p6 :: .int .i64 t.a.base :: .slice A1 t.a.digits.length c1 :: .int .i64 t.b.base :: .slice A2 t.b.digits.length c2 :: .int .i64 t.s.base :: .slice A3 t.s.digits.length c3 :: .int .i64 t.carry :: rest) T :: rowI A3 c3 t.s.digits :: rowI A2 c2 t.b.digits :: rowI A1 c1 t.a.digits :: m) W) => l02Value_any t.a.base A1 t.a.digits.length c1 t.a.digits W b1 b2 hd1 hW.drop.drop.drop.riv n2)
  obtain ⟨U, hU⟩ : ∃ U, pw t.b.base t.carry.toNat = U := ⟨_, rfl⟩
  obtain ⟨V, hV⟩ : ∃ V, valL t.a.base t.a.digits = V := ⟨_, rfl⟩
  rw [hU] at KP HT u1 u2 u3 u4
  rw [hV] at KV HT u3 u4
  obtain ⟨X, hX⟩ : ∃ X, sign * (V * U) = X := ⟨_, rfl⟩
  obtain ⟨Y, hY⟩ : ∃ Y, sign * U = Y := ⟨_, rfl⟩
  rw [hX, hY] at HT
  have hXb : -1000000000001 ≤ X ∧ X ≤ 1000000000001 := by rcases hs with rfl | rfl <;> omega
  have hYb : -1000000000001 ≤ Y ∧ Y ≤ 1000000000001 := by rcases hs with rfl | rfl <;> omega
  have hYX : Y * V = X := by rw [← hX, ← hY, Int.mul_assoc, Int.mul_comm U V]
  have w1' : IntKind.i64.wrap (sign * U) = Y := by rw [hY]; exact wrapI64 (by omega)
  have w2' : IntKind.i64.wrap (Y * V) = X := by rw [hYX]; exact wrapI64 (by omega)
  have KM2 := (fun W (hW : Kn w0 (.blk g (p0 :: p1 :: p2 :: p3 :: p4 :: p5 :: p6 :: .int .i64 t.a.base :: .slice A1 t.a.digits.length c1 :: .int .i64 t.b.base :: .slice A2 t.b.digits.length c2 :: .int .i64 t.s.base :: .slice A3 t.s.digits.length c3 :: .int .i64 t.carry :: rest) T :: rowI A3 c3 t.s.digits :: rowI A2 c2 t.b.digits :: rowI A1 c1 t.a.digits :: m) W) => l10Move_any ⟨g, 9, none⟩ t.b.base A2 c2 t.b.digits X W ⟨hW.blkAt.1 9, hW.blkAt.1 10⟩ hW.drop.drop.riv k2 f1 hXb.1 hXb.2)
  have KM3 := (fun W (hW : Kn w0 (.blk g (p0 :: p1 :: p2 :: p3 :: p4 :: p5 :: p6 :: .int .i64 t.a.base :: .slice A1 t.a.digits.length c1 :: .int .i64 t.b.base :: .slice A2 t.b.digits.length c2 :: .int .i64 t.s.base :: .slice A3 t.s.digits.length c3 :: .int .i64 t.carry :: rest) T :: rowI A3 c3 t.s.digits :: rowI A2 c2 t.b.digits :: rowI A1 c1 t.a.digits :: m) W) => l10Move_any ⟨g, 11, none⟩ t.s.base A3 c3 t.s.digits Y W ⟨hW.blkAt.1 11, hW.blkAt.1 12⟩ hW.drop.riv k3 f2 hYb.1 hYb.2)
  obtain ⟨es, hes⟩ : ∃ es, shiftD t.b.base t.b.digits X = es := ⟨_, rfl⟩
  obtain ⟨fs, hfs⟩ : ∃ fs, shiftD t.s.base t.s.digits Y = fs := ⟨_, rfl⟩
  obtain ⟨bell, hbl⟩ : ∃ e, shiftB t.b.base t.b.digits X = e := ⟨_, rfl⟩
  obtain ⟨bell2, hbl2⟩ : ∃ e, shiftB t.s.base t.s.digits Y = e := ⟨_, rfl⟩
  rw [hes, hbl] at KM2
  rw [hfs, hbl2] at KM3
  rw [hes, hfs, hbl] at HT
  rw [HT.out]
  have KP := Lib.hid KP
  have KV := Lib.hid KV
  have KM2 := Lib.hid KM2
  have KM3 := Lib.hid KM3
  have HW1 := Lib.hid w1'
  have HW2 := Lib.hid w2'
  have HY := Lib.hid hY
  have hYo : -9223372036854775808 ≤ sign * U ∧ sign * U ≤ 9223372036854775807 := by rw [hY]; omega
  have hXo : -9223372036854775808 ≤ sign * U * V ∧ sign * U * V ≤ 9223372036854775807 := by rw [hY, hYX]; omega
  clear hpc hU hV hX hY hYX w1' w2' hes hfs hbl hbl2 hd1 hd2 hd3 hv k1 k2 k3 e1 e2 hs
  obtain ⟨a1, a2, a3⟩ := hK.blkAt
  go_enter Tryd.func61, Tryd.ntmps61
  go_wp2_with fail
  go_quiet ((go_at_call 80; exact quiet_left (KP.out _)))
  have hK1 := hK.drewN nq
  generalize w.drewN nq = w1 at hK1 ⊢
  clear hK a1 a2 a3
  obtain ⟨a1, a2, a3⟩ := hK1.blkAt
  go_wp2_with fail
  have HG := Lib.hid (box7p hK1.drew)
  have HA := Lib.hid (box7p (hK1.al [.int .i64 0, .slice none 0 0] 26).drew.drop)
  have HS := HG
  go_cut [6, 7] (fun pp oo wx => ∃ (g6 : Nat) (A' : Option Addr) (c' : Nat), pp = .pointer (some ⟨g6, 0, none⟩) ∧ oo = .bool bell ∧ Kn w0 (.blk g6 [.int .i64 t.b.base, .slice A' es.length c'] 26 :: rowI A' c' es :: .blk g (p0 :: p1 :: p2 :: p3 :: p4 :: p5 :: p6 :: .int .i64 t.a.base :: .slice A1 t.a.digits.length c1 :: .int .i64 t.b.base :: .slice A2 t.b.digits.length c2 :: .int .i64 t.s.base :: .slice A3 t.s.digits.length c3 :: .int .i64 t.carry :: rest) T :: rowI A3 c3 t.s.digits :: rowI A2 c2 t.b.digits :: rowI A1 c1 t.a.digits :: m) wx)
  case first =>
    go_region_held3 (fun W => W.cell? ⟨g, 7, none⟩ = some (.int .i64 t.a.base) ∧ W.cell? ⟨g, 8, none⟩ = some (.slice A1 t.a.digits.length c1))
      (first | with_reducible exact HG.out | with_reducible exact HA.out | with_reducible exact HS.out | exact HG.out | exact HA.out | exact HS.out) (first
      | (go_at_call 79; first | ((with_reducible refine (KV.out _ hK1.drew).mono ?_); rintro e w7 ⟨rfl, rfl⟩) | ((with_reducible refine (KV.out _ (hK1.al [.int .i64 0, .slice none 0 0] 26).drew.drop).mono ?_); rintro e w7 ⟨rfl, rfl⟩))
      | (go_at_call 82; rw [HW1.out, HW2.out]; clear HG HA; first
        | ((with_reducible refine (KM2.out _ hK1.drew).mono ?_); rintro e w4 ⟨A', c', rfl, hK⟩; have hK4 := hK1.drew.join hK; have HG := Lib.hid (box7p hK4.drop); have HA := Lib.hid (box7p (hK4.al [.int .i64 0, .slice none 0 0] 26).drop.drop); have hK5 := hK4.al [.int .i64 t.b.base, .slice A' es.length c'] 26; have HS := Lib.hid (box7p hK5.drop.drop))
        | ((refine (KM2.out _ (hK1.al [.int .i64 0, .slice none 0 0] 26).drew.drop).mono ?_); rintro e w4 ⟨A', c', rfl, hK⟩; have hK4 := (hK1.al [.int .i64 0, .slice none 0 0] 26).drew.join hK; have HG := Lib.hid (box7p hK4.drop.drop); obtain ⟨g1, f1, l1⟩ := hK4.drop.blkAt; have HA := HG; have hK5 := (hK4.sw1.st 0 (.int .i64 t.b.base)).st 1 (.slice A' es.length c'); have HS := Lib.hid (box7p hK5.drop.drop))))
    all_goals
      go_wp2_with fail
      go_meet
      exact ⟨_, _, _, rfl, rfl, hK5⟩
  case rest =>
    obtain ⟨g6, A', c', rfl, rfl, hK5⟩ := hcut
    clear HG HA HS KP KV KM2 hK1 a1 a2 a3
    obtain ⟨x1, x2, x3, a1, a2, a3, -⟩ := hK5.cells
    go_wp2_with fail
    rw [HY.out]
    refine (KM3.out _ hK5.drop.drop).mono ?_; rintro e w4 ⟨A2', c2', rfl, hK⟩
    have hK6 := hK5.join hK
    clear x1 x2 x3 a1 a2 a3
    obtain ⟨x1, x2, x3, a1, a2, a3, -⟩ := hK6.cells
    have hK7 := ((((hK6.sw3.st 9 (.int .i64 t.b.base)).st 10 (.slice A' es.length c')).st 11 (.int .i64 t.s.base)).st 12 (.slice A2' fs.length c2')).al [.int .i64 t.s.base, .slice A2' fs.length c2'] 26
    go_wp2_with fail
    go_ret
    refine ⟨rfl, A1, c1, A', c', A2', c2', ?_⟩
    refine Kn.only hK7 (by repeat (first | exact List.Sublist.refl _ | apply List.Sublist.cons_cons | apply List.Sublist.cons))
theorem MB7.congr {w0 w : World} {g : Nat} {rest : List Value} {p0 p1 p2 p3 p4 p5 p6 : Value} {T : TypeId} {k k' : Tri} {m : List Ent} (h : MB7 w0 g p0 p1 p2 p3 p4 p5 p6 rest T k m w) (e : k = k') : MB7 w0 g p0 p1 p2 p3 p4 p5 p6 rest T k' m w := e ▸ h
theorem l10ShiftM7 {w0 : World} {m : List Ent} {rest : List Value} {p0 p1 p2 p3 p4 p5 p6 : Value} {T : TypeId} {g : Nat} (t : Tri) (k by_ : Int) (w : World) (hM : MB7 w0 g p0 p1 p2 p3 p4 p5 p6 rest T t m w) (hv : vmach t = true) (hb : (k = 3 ∧ by_ = 1) ∨ (k = 4 ∧ by_ = -1)) :
    Calls Tryd.prog 62 #[.pointer (some ⟨g, 7, none⟩), .int .i64 by_] w fun e w' => e = .returned (.bool (strokeT k t).2) ∧ MB7 w0 g p0 p1 p2 p3 p4 p5 p6 rest T (strokeT k t).1 m w' := by
  obtain ⟨A1, c1, A2, c2, A3, c3, hK⟩ := hM
  obtain ⟨-, -, -, -, -, -, -, -, y0, y1⟩ := vmach_all hv
  refine (l10ShiftK7 t A1 A2 A3 c1 c2 c3 by_ w hK hv (by omega)).mono ?_
  rintro e w' ⟨h1, h2⟩
  rcases hbt : betB (t.carry + by_) 0 (vplaces t - 1) with _ | _
  · obtain ⟨rfl, hK'⟩ := h2 hbt
    have := betB_false.1 hbt
    have hs : strokeT k t = (t, true) := by
      rcases hb with ⟨rfl, rfl⟩ | ⟨rfl, rfl⟩
      · unfold strokeT; rw [if_neg (by decide), if_neg (by decide), if_pos rfl, if_pos (by omega)]
      · unfold strokeT; rw [if_neg (by decide), if_neg (by decide), if_neg (by decide), if_pos rfl, if_pos (by omega)]
    rw [hs]
    exact ⟨rfl, A1, c1, A2, c2, A3, c3, hK'⟩
  · obtain ⟨rfl, hK'⟩ := h1 hbt
    have := betB_iff.1 hbt
    have hs : strokeT k t = ({ t with carry := t.carry + by_ }, false) := by
      rcases hb with ⟨rfl, rfl⟩ | ⟨rfl, rfl⟩
      · unfold strokeT; rw [if_neg (by decide), if_neg (by decide), if_pos rfl, if_neg (by omega)]
      · unfold strokeT; rw [if_neg (by decide), if_neg (by decide), if_neg (by decide), if_pos rfl, if_neg (by omega)]; rfl
    rw [hs]
    exact ⟨rfl, A1, c1, A2, c2, A3, c3, hK'⟩
set_option maxRecDepth 100000 in
set_option maxHeartbeats 1600000 in
theorem l10DoK7 {w0 : World} {m : List Ent} {rest : List Value} {p0 p1 p2 p3 p4 p5 p6 : Value} {T : TypeId} {g : Nat} (t : Tri) (k : Int) (w : World) (hM : MB7 w0 g p0 p1 p2 p3 p4 p5 p6 rest T t m w) (hv : vmach t = true) (hk : 1 ≤ k ∧ k ≤ 6) :
    Calls Tryd.prog 33 #[.pointer (some ⟨g, 7, none⟩), .int .i64 k] w fun e w' => e = .returned (.bool (strokeT k t).2) ∧ MB7 w0 g p0 p1 p2 p3 p4 p5 p6 rest T (strokeT k t).1 m w' := by
  have hk' : k = 1 ∨ k = 2 ∨ k = 3 ∨ k = 4 ∨ k = 5 ∨ k = 6 := by omega
  clear hk
  rcases hk' with rfl | rfl | rfl | rfl | rfl | rfl
  · have KT := Lib.hid (l10TurnK7 t 1 w hM hv (.inl rfl))
    obtain ⟨r, hr⟩ : ∃ r, strokeT 1 t = r := ⟨_, rfl⟩
    have HR := Lib.hid (show turnT t 1 = r by rw [← hr]; rfl)
    rw [hr]
    clear hr hM hv
    go_enter Tryd.func33, Tryd.ntmps33
    go_wp2_with (go_at_call 61; refine KT.out.mono ?_; rw [HR.out]; rintro e w' ⟨rfl, hM⟩)
    go_ret
    exact ⟨rfl, hM⟩
  · have KT := Lib.hid (l10TurnK7 t (-1) w hM hv (.inr rfl))
    obtain ⟨r, hr⟩ : ∃ r, strokeT 2 t = r := ⟨_, rfl⟩
    have HR := Lib.hid (show turnT t (-1) = r by rw [← hr]; rfl)
    rw [hr]
    clear hr hM hv
    go_enter Tryd.func33, Tryd.ntmps33
    go_wp2_with (go_at_call 61; refine KT.out.mono ?_; rw [HR.out]; rintro e w' ⟨rfl, hM⟩)
    go_ret
    exact ⟨rfl, hM⟩
  · have KT := (l10ShiftM7 t 3 1 w hM hv (.inl ⟨rfl, rfl⟩))
    obtain ⟨r, hr⟩ : ∃ r, strokeT 3 t = r := ⟨_, rfl⟩
    rw [hr] at KT ⊢
    have KT := Lib.hid KT
    clear hr hM hv
    go_enter Tryd.func33, Tryd.ntmps33
    go_wp2_with (go_at_call 62; refine KT.out.mono ?_; rintro e w' ⟨rfl, hM⟩)
    go_ret
    exact ⟨rfl, hM⟩
  · have KT := (l10ShiftM7 t 4 (-1) w hM hv (.inr ⟨rfl, rfl⟩))
    obtain ⟨r, hr⟩ : ∃ r, strokeT 4 t = r := ⟨_, rfl⟩
    rw [hr] at KT ⊢
    have KT := Lib.hid KT
    clear hr hM hv
    go_enter Tryd.func33, Tryd.ntmps33
    go_wp2_with (go_at_call 62; refine KT.out.mono ?_; rintro e w' ⟨rfl, hM⟩)
    go_ret
    exact ⟨rfl, hM⟩
  · obtain ⟨k1, k2, k3, -⟩ := vmach_all hv
    obtain ⟨-, ⟨n3, n4⟩, -, -⟩ := vreg_iff.1 k2
    obtain ⟨-, ⟨n5, n6⟩, -, -⟩ := vreg_iff.1 k3
    have hS : strokeT 5 t = (⟨t.a, ⟨t.b.base, List.replicate t.b.digits.length 0⟩, ⟨t.s.base, List.replicate t.s.digits.length 0⟩, t.carry⟩, false) := by unfold strokeT; simp [digD_zero]
    rw [hS]
    obtain ⟨A1, c1, A2, c2, A3, c3, hK⟩ := hM
    clear hS hv k1 k2 k3
    obtain ⟨a1, a2, a3⟩ := hK.blkAt
    go_enter Tryd.func33, Tryd.ntmps33
    go_wp2_with fail
    refine (l10ZeroK (cs := (p0 :: p1 :: p2 :: p3 :: p4 :: p5 :: p6 :: .int .i64 t.a.base :: .slice A1 t.a.digits.length c1 :: .int .i64 t.b.base :: .slice A2 t.b.digits.length c2 :: .int .i64 t.s.base :: .slice A3 t.s.digits.length c3 :: .int .i64 t.carry :: rest)) (o := 9) A2 c2 t.b.digits w hK.sw2 rfl (by omega) (by omega)).mono ?_; rintro e w1 ⟨rfl, hK1⟩
    go_wp2_with fail
    refine (l10ZeroK (cs := (p0 :: p1 :: p2 :: p3 :: p4 :: p5 :: p6 :: .int .i64 t.a.base :: .slice A1 t.a.digits.length c1 :: .int .i64 t.b.base :: .slice A2 t.b.digits.length c2 :: .int .i64 t.s.base :: .slice A3 t.s.digits.length c3 :: .int .i64 t.carry :: rest)) (o := 11) A3 c3 t.s.digits w1 (hK1.sw1.sw2) rfl (by omega) (by omega)).mono ?_; rintro e w2 ⟨rfl, hK2⟩
    go_wp2_with fail
    go_ret
    refine ⟨rfl, A1, c1, A2, c2, A3, c3, ?_⟩
    simp only [List.length_replicate]
    exact hK2.sw1
  · obtain ⟨k1, k2, k3, -⟩ := vmach_all hv
    obtain ⟨-, ⟨n1, n2⟩, -, -⟩ := vreg_iff.1 k1
    have hS : strokeT 6 t = ({ t with a := ⟨t.a.base, List.replicate t.a.digits.length 0⟩ }, false) := by unfold strokeT; simp [digD_zero]
    rw [hS]
    obtain ⟨A1, c1, A2, c2, A3, c3, hK⟩ := hM
    clear hS hv k1 k2 k3
    go_enter Tryd.func33, Tryd.ntmps33
    go_wp2_with fail
    refine (l10ZeroK (cs := (p0 :: p1 :: p2 :: p3 :: p4 :: p5 :: p6 :: .int .i64 t.a.base :: .slice A1 t.a.digits.length c1 :: .int .i64 t.b.base :: .slice A2 t.b.digits.length c2 :: .int .i64 t.s.base :: .slice A3 t.s.digits.length c3 :: .int .i64 t.carry :: rest)) (o := 7) A1 c1 t.a.digits w hK.sw3 rfl (by omega) (by omega)).mono ?_; rintro e w1 ⟨rfl, hK1⟩
    go_wp2_with fail
    go_ret
    refine ⟨rfl, A1, c1, A2, c2, A3, c3, ?_⟩
    simp only [List.length_replicate]
    exact hK1.sw3.sw3.sw3
end Go.Proofs.YtmmiahgmdllgdaaDoor

namespace Go.Proofs.YtmmiahgmdllgdaaDoor
open Go.RowKit Go.Sort
end Go.Proofs.YtmmiahgmdllgdaaDoor

namespace Go.Proofs.YtmmiahgmdllgdaaDoor
open Go.RowKit Go.Sort
theorem extract_eq {L : ByteArray} {p : List UInt8} (h : (L.extract 0 p.length).toList = p) (h1 : p.length < L.size) : begins p (strB L) = true := by
  rw [strB_toList, strB_extract] at h
  refine begins_iff.2 ⟨by rw [strB_len]; exact h1, ?_⟩
  simpa using h
theorem extract_beg {L : ByteArray} {p : List UInt8} (h : begins p (strB L) = true) : p.length < L.size ∧ (L.extract 0 p.length).toList = p := by
  obtain ⟨h1, h2⟩ := begins_iff.1 h
  rw [strB_len] at h1
  refine ⟨h1, ?_⟩
  rw [strB_toList, strB_extract]
  simpa using h2
theorem begins_no {L : ByteArray} {p : List UInt8} (h : begins p (strB L) = false) : L.size ≤ p.length ∨ (p.length < L.size ∧ ((L.extract 0 p.length).toList == p) = false) := by
  by_cases h1 : p.length < L.size
  · refine .inr ⟨h1, ?_⟩
    rw [beq_eq_false_iff_ne]
    intro h2
    rw [extract_eq h2 h1] at h
    cases h
  · exact .inl (by omega)
end Go.Proofs.YtmmiahgmdllgdaaDoor

namespace Go.Proofs.YtmmiahgmdllgdaaDoor
open Go.RowKit Go.Sort
end Go.Proofs.YtmmiahgmdllgdaaDoor

namespace Go.Proofs.YtmmiahgmdllgdaaDoor
open Go.RowKit Go.Sort
end Go.Proofs.YtmmiahgmdllgdaaDoor

namespace Go.Proofs.YtmmiahgmdllgdaaDoor
open Go.RowKit Go.Sort
def rsM (bs : List (List UInt8)) : Tri := if wholeC bs = 0 then (runS bs).1.m else zTri
theorem rsM_len (bs : List (List UInt8)) : (rsM bs).a.digits.length ≤ 16 ∧ (rsM bs).b.digits.length ≤ 16 ∧ (rsM bs).s.digits.length ≤ 16 := by
  unfold rsM
  split
  · rename_i h
    have := sized_of (runS_good (wholeC_ok h).2).m
    exact ⟨this.a, this.b, this.s⟩
  · simp [zTri]
/-- a machine and a code -/
def MCRet (t : Tri) (C : Int) (w : World) (e : Ending) (w' : World) : Prop := ∃ A1 c1 A2 c2 A3 c3, e = .returned (.tuple #[.agg #[.int .i64 t.a.base, .slice A1 t.a.digits.length c1, .int .i64 t.b.base, .slice A2 t.b.digits.length c2, .int .i64 t.s.base, .slice A3 t.s.digits.length c3, .int .i64 t.carry], .int .i64 C]) ∧ Kn w [rowI A3 c3 t.s.digits, rowI A2 c2 t.b.digits, rowI A1 c1 t.a.digits] w'
def RSRet (bs : List (List UInt8)) (w : World) (e : Ending) (w' : World) : Prop := MCRet (rsM bs) (wholeC bs) w e w'
theorem MCRet.zero {C : Int} {w w' : World} (h : Below w.heap.size w w') : MCRet zTri C w (.returned (.tuple #[.agg #[.int .i64 0, .slice none 0 0, .int .i64 0, .slice none 0 0, .int .i64 0, .slice none 0 0, .int .i64 0], .int .i64 C])) w' :=
  ⟨none, 0, none, 0, none, 0, rfl, ((((Kn.nil w).keep h).nilRow _ _).nilRow _ _).nilRow _ _⟩
end Go.Proofs.YtmmiahgmdllgdaaDoor
