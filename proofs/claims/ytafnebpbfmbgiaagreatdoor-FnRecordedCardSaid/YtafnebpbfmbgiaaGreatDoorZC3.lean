/- Part 3: lemmas and contracts of the claim's functions. -/
import Derived.Test.YtafnebpbfmbgiaaGreatDoorZC1
import Derived.Test.YtafnebpbfmbgiaaGreatDoorZC2
import Derived.Deep.DeepCutAuto
namespace Go.Proofs.YtafnebpbfmbgiaaGreatDoor
open Go.RowKit Go.Sort
set_option maxRecDepth 100000 in
set_option maxHeartbeats 6400000 in
theorem stroke_any (t : Tri) (A1 A2 A3 : Option Addr) (c1 c2 c3 : Nat) (k : Int) (w : World) (r1 : RI w A1 t.a.digits.length t.a.digits) (r2 : RI w A2 t.b.digits.length t.b.digits) (r3 : RI w A3 t.s.digits.length t.s.digits) (hv : vmach t = true) (hk16 : 1 ≤ k ∧ k ≤ 6) :
    Calls Tryz.prog 76 #[.agg #[.int .i64 t.a.base, .slice A1 t.a.digits.length c1, .int .i64 t.b.base, .slice A2 t.b.digits.length c2, .int .i64 t.s.base, .slice A3 t.s.digits.length c3, .int .i64 t.carry], .int .i64 k] w fun e w' => ∃ A1 c1 A2 c2 A3 c3, e = .returned (.tuple #[.agg #[.int .i64 (strokeT k t).1.a.base, .slice A1 (strokeT k t).1.a.digits.length c1, .int .i64 (strokeT k t).1.b.base, .slice A2 (strokeT k t).1.b.digits.length c2, .int .i64 (strokeT k t).1.s.base, .slice A3 (strokeT k t).1.s.digits.length c3, .int .i64 (strokeT k t).1.carry], .bool (strokeT k t).2]) ∧
      Kn w [rowI A3 c3 (strokeT k t).1.s.digits, rowI A2 c2 (strokeT k t).1.b.digits, rowI A1 c1 (strokeT k t).1.a.digits] w' := by
  obtain ⟨k1, k2, k3, e1, e2, f1, f2, l1, p0, p1⟩ := vmach_all hv
  obtain ⟨u1, u2, u3, u4⟩ := turn_bd hv
  obtain ⟨⟨b1, b2⟩, ⟨n1, n2⟩, hd1, -⟩ := vreg_iff.1 k1
  obtain ⟨⟨b3, b4⟩, ⟨n3, n4⟩, hd2, -⟩ := vreg_iff.1 k2
  obtain ⟨⟨b5, b6⟩, ⟨n5, n6⟩, hd3, -⟩ := vreg_iff.1 k3
  have hz : Sized t := ⟨n1, n3, n5, n2, n4, n6⟩
  have KC := Lib.hid (fun W (hW : Below w.heap.size w W) => copiedM_any t A1 A2 A3 c1 c2 c3 W (r1.below hW) (r2.below hW) (r3.below hW) hz)
  have KP := (fun W => power_B t.b.base t.carry.toNat W b3 b4 (by unfold vplaces at p1; omega))
  have hpc : powC t.b.base t.carry.toNat = pw t.b.base t.carry.toNat := by unfold powC; rw [if_pos u2]
  rw [hpc, show ((t.carry.toNat : Nat) : Int) = t.carry by omega] at KP
  obtain ⟨U, hU⟩ : ∃ U, pw t.b.base t.carry.toNat = U := ⟨_, rfl⟩
  have HU := Lib.hid hU
  rw [hU] at KP u1 u2 u3 u4
  have KP := Lib.hid KP
  have E1 := Lib.hid e1
  have E2 := Lib.hid e2
  clear hpc hU e1 e2 hz
  go_enter Tryz.func76, Tryz.ntmps76
  go_wp2_with fail
  refine Calls.kn (((Kn.nil w).al [.int .i64 t.a.base, .slice A1 t.a.digits.length c1, .int .i64 t.b.base, .slice A2 t.b.digits.length c2, .int .i64 t.s.base, .slice A3 t.s.digits.length c3, .int .i64 t.carry] 32).al [.int .i64 0, .slice none 0 0, .int .i64 0, .slice none 0 0, .int .i64 0, .slice none 0 0, .int .i64 0] 32) ?_; intro w1 hK1
  simp only [World.size_alloc] at hK1
  with_reducible refine (KC.out _ hK1.below).mono ?_; rintro e w2 ⟨B1, h1, B2, h2, B3, h3, rfl, hKC⟩
  have hK2 := hK1.join hKC
  obtain ⟨a1, a2, a3, d1, d2, d3, -⟩ := hK2.cells
  clear hK1 hKC
  go_wp2_with fail
  refine Calls.kn (hK2.al [.int .i64 t.a.base, .slice B1 t.a.digits.length h1, .int .i64 t.b.base, .slice B2 t.b.digits.length h2, .int .i64 t.s.base, .slice B3 t.s.digits.length h3, .int .i64 t.carry] 32) ?_; intro w3 hK3
  with_reducible refine (KP.out _).mono ?_; rintro e w4 ⟨rfl, hw⟩
  have hK4 := hK3.keep hw
  clear a1 a2 a3 d1 d2 d3 hK2 hK3 hw
  obtain ⟨x1, x2, x3, a1, a2, a3, d1, d2, d3, -⟩ := hK4.cells
  have hk' : k = 1 ∨ k = 2 ∨ k = 3 ∨ k = 4 ∨ k = 5 ∨ k = 6 := by omega
  clear hk16
  rcases hk' with hk | hk | hk | hk | hk | hk
  · subst hk
    have hT : strokeT 1 t = turnT t 1 := by unfold strokeT; simp
    have KV := (fun W (hW : Below w.heap.size w W) => value_any t.a.base A1 t.a.digits.length c1 t.a.digits W b1 b2 hd1 (r1.below hW) n2)
    have hTT : turnT t 1 = (⟨t.a, ⟨t.b.base, shiftD t.b.base t.b.digits (1 * (valL t.a.base t.a.digits * pw t.b.base t.carry.toNat))⟩, ⟨t.s.base, shiftD t.s.base t.s.digits (1 * pw t.b.base t.carry.toNat)⟩, t.carry⟩, shiftB t.b.base t.b.digits (1 * (valL t.a.base t.a.digits * pw t.b.base t.carry.toNat))) := rfl
    rw [HU.out] at hTT
    obtain ⟨V, hV⟩ : ∃ V, valL t.a.base t.a.digits = V := ⟨_, rfl⟩
    rw [hV] at KV hTT u3 u4
    obtain ⟨X, hX⟩ : ∃ X, 1 * (V * U) = X := ⟨_, rfl⟩
    obtain ⟨Y, hY⟩ : ∃ Y, 1 * U = Y := ⟨_, rfl⟩
    rw [hX, hY] at hTT
    have hXb : -1000000000001 ≤ X ∧ X ≤ 1000000000001 := by omega
    have hYb : -1000000000001 ≤ Y ∧ Y ≤ 1000000000001 := by omega
    have hV1 : 0 ≤ V := by
      have := (valL_bd t.a.base b1 t.a.digits (fun d h => (hd1 d h).1)).1
      omega
    have hV2 : V ≤ 1000000000001 := by
      have := Int.mul_le_mul_of_nonneg_left (show 1 ≤ U from u1) hV1
      rw [Int.mul_one] at this
      omega
    have KS2 := (fun W (hW : Below w.heap.size w W) => shifted_any t.b.base A2 c2 t.b.digits X W (r2.below hW) k2 f1 hXb.1 hXb.2)
    have KS3 := (fun W (hW : Below w.heap.size w W) => shifted_any t.s.base A3 c3 t.s.digits Y W (r3.below hW) k3 f2 hYb.1 hYb.2)
    obtain ⟨es, hes⟩ : ∃ es, shiftD t.b.base t.b.digits X = es := ⟨_, rfl⟩
    obtain ⟨fs, hfs⟩ : ∃ fs, shiftD t.s.base t.s.digits Y = fs := ⟨_, rfl⟩
    obtain ⟨bell, hbl⟩ : ∃ e, shiftB t.b.base t.b.digits X = e := ⟨_, rfl⟩
    obtain ⟨bell2, hbl2⟩ : ∃ e, shiftB t.s.base t.s.digits Y = e := ⟨_, rfl⟩
    rw [hes, hbl] at KS2
    rw [hfs, hbl2] at KS3
    rw [hes, hfs, hbl] at hTT
    have HS := Lib.hid (hT.trans hTT)
    have KV := Lib.hid KV
    have KS2 := Lib.hid KS2
    have KS3 := Lib.hid KS3
    have HYY := Lib.hid hY
    have HW2 := Lib.hid (show IntKind.i64.wrap (V * U) = X by rw [← hX, Int.one_mul]; exact wrapI64 (by omega))
    have HW1 := HW2
    clear hT hTT hV hX hY hes hfs hbl hbl2 hd1 hd2 hd3 r1 r2 r3 k1 k2 k3 KC KP f1 f2 l1 p0 p1
    go_wp2_with fail
    have HG := Lib.hid (box7 hK4.drew.drop.drop.drop.drop.drop)
    have HT := HG
    go_cut [7] (fun bb wx => bb = .bool bell ∧ ∃ (E2 : Option Addr) (g2 : Nat), Kn w [.blk w2.heap.size [.int .i64 t.a.base, .slice B1 t.a.digits.length h1, .int .i64 t.b.base, .slice E2 es.length g2, .int .i64 t.s.base, .slice B3 t.s.digits.length h3, .int .i64 t.carry] 32, rowI E2 g2 es, rowI B3 h3 t.s.digits, rowI B2 h2 t.b.digits, rowI B1 h1 t.a.digits, .blk (w.heap.size + 1) [.int .i64 0, .slice none 0 0, .int .i64 0, .slice none 0 0, .int .i64 0, .slice none 0 0, .int .i64 0] 32, .blk w.heap.size [.int .i64 t.a.base, .slice A1 t.a.digits.length c1, .int .i64 t.b.base, .slice A2 t.b.digits.length c2, .int .i64 t.s.base, .slice A3 t.s.digits.length c3, .int .i64 t.carry] 32] wx)
    case first =>
      go_region_held3 (fun W => W.cell? ⟨w.heap.size, 0, none⟩ = some (.int .i64 t.a.base) ∧ W.cell? ⟨w.heap.size, 1, none⟩ = some (.slice A1 t.a.digits.length c1) ∧ W.cell? ⟨w.heap.size, 2, none⟩ = some (.int .i64 t.b.base) ∧ W.cell? ⟨w.heap.size, 3, none⟩ = some (.slice A2 t.b.digits.length c2) ∧ W.cell? ⟨w.heap.size, 4, none⟩ = some (.int .i64 t.s.base) ∧ W.cell? ⟨w.heap.size, 5, none⟩ = some (.slice A3 t.s.digits.length c3) ∧ W.cell? ⟨w.heap.size, 6, none⟩ = some (.int .i64 t.carry))
        (first | with_reducible exact HG.out | with_reducible exact HT.out | exact HG.out | exact HT.out) (first
        | (go_at_call 121; (with_reducible refine (KV.out _ hK4.drew.below).mono ?_); rintro e w5 ⟨rfl, hw⟩; have hK5 := hK4.drew.keep hw; clear HG; have HG := Lib.hid (box7 hK5.drop.drop.drop.drop.drop))
        | (go_at_call 120; (first | (rw [HW1.out]; rw [HW2.out]) | rw [HW2.out]); (with_reducible refine (KS2.out _ hK5.below).mono ?_); rintro e w6 ⟨E2, g2, rfl, hK⟩; have hK6 := hK5.join hK; clear HG; have HG := Lib.hid (box7 hK6.drop.drop.drop.drop.drop.drop); have hK7 := (hK6.sw1.st 2 (.int .i64 t.b.base)).st 3 (.slice E2 es.length g2); have HT := Lib.hid (box7 hK7.drop.drop.drop.drop.drop.drop); obtain ⟨q1, q2, q3⟩ := hK6.drop.blkAt))
      all_goals
        go_wp2_with fail
        go_meet
        exact ⟨rfl, _, _, hK7⟩
    case rest =>
      obtain ⟨rfl, E2, g2, hK5⟩ := hcut
      clear HG HT x1 x2 x3 a1 a2 a3 d1 d2 d3 hK4 KV KS2
      obtain ⟨x1, x2, x3, a1, a2, a3, d1, d2, d3, -⟩ := hK5.cells
      go_wp2_with fail
      rw [show U = Y by rw [← HYY.out]; omega]
      refine (KS3.out _ hK5.below).mono ?_; rintro e w6 ⟨E3, g3, rfl, hK⟩
      have hK6 := hK5.join hK
      clear x1 x2 x3 a1 a2 a3 d1 d2 d3 hK5
      obtain ⟨x1, x2, x3, a1, a2, a3, d1, d2, d3, -⟩ := hK6.cells
      go_upto_region 22 with fail
      refine Code.wp.kn ((hK6.sw1.st 4 (.int .i64 t.s.base)).st 5 (.slice E3 fs.length g3)) ?_; intro w5 hK5
      clear x1 x2 x3 a1 a2 a3 d1 d2 d3
      obtain ⟨x1, x2, x3, a1, a2, a3, d1, d2, d3, -⟩ := hK5.cells
      go_wp2_with fail
      refine bodyPost.kn ((((((((hK5.front 6 rfl).st 0 (.int .i64 t.a.base)).st 1 (.slice B1 t.a.digits.length h1)).st 2 (.int .i64 t.b.base)).st 3 (.slice E2 es.length g2)).st 4 (.int .i64 t.s.base)).st 5 (.slice E3 fs.length g3)).st 6 (.int .i64 t.carry)) ?_; intro w6 hK6
      clear x1 x2 x3 a1 a2 a3 d1 d2 d3 hK5
      obtain ⟨a1, a2, a3, -⟩ := hK6.cells
      refine bodyPost_ret (v := .tuple #[.agg #[.int .i64 t.a.base, .slice B1 t.a.digits.length h1, .int .i64 t.b.base, .slice E2 es.length g2, .int .i64 t.s.base, .slice E3 fs.length g3, .int .i64 t.carry], .bool bell]) (by simp [results, Tryz.results76, go_sem, a1]) rfl ⟨B1, h1, E2, g2, E3, g3, by rw [HS.out], ?_⟩
      rw [HS.out]
      exact hK6.sel [2, 3, 6] 99 (by decide) (by decide)
  · subst hk
    have hT : strokeT 2 t = turnT t (-1) := by unfold strokeT; simp
    have KV := (fun W (hW : Below w.heap.size w W) => value_any t.a.base A1 t.a.digits.length c1 t.a.digits W b1 b2 hd1 (r1.below hW) n2)
    have hTT : turnT t (-1) = (⟨t.a, ⟨t.b.base, shiftD t.b.base t.b.digits ((-1) * (valL t.a.base t.a.digits * pw t.b.base t.carry.toNat))⟩, ⟨t.s.base, shiftD t.s.base t.s.digits ((-1) * pw t.b.base t.carry.toNat)⟩, t.carry⟩, shiftB t.b.base t.b.digits ((-1) * (valL t.a.base t.a.digits * pw t.b.base t.carry.toNat))) := rfl
    rw [HU.out] at hTT
    obtain ⟨V, hV⟩ : ∃ V, valL t.a.base t.a.digits = V := ⟨_, rfl⟩
    rw [hV] at KV hTT u3 u4
    obtain ⟨X, hX⟩ : ∃ X, (-1) * (V * U) = X := ⟨_, rfl⟩
    obtain ⟨Y, hY⟩ : ∃ Y, (-1) * U = Y := ⟨_, rfl⟩
    rw [hX, hY] at hTT
    have hXb : -1000000000001 ≤ X ∧ X ≤ 1000000000001 := by omega
    have hYb : -1000000000001 ≤ Y ∧ Y ≤ 1000000000001 := by omega
    have hV1 : 0 ≤ V := by
      have := (valL_bd t.a.base b1 t.a.digits (fun d h => (hd1 d h).1)).1
      omega
    have hV2 : V ≤ 1000000000001 := by
      have := Int.mul_le_mul_of_nonneg_left (show 1 ≤ U from u1) hV1
      rw [Int.mul_one] at this
      omega
    have KS2 := (fun W (hW : Below w.heap.size w W) => shifted_any t.b.base A2 c2 t.b.digits X W (r2.below hW) k2 f1 hXb.1 hXb.2)
    have KS3 := (fun W (hW : Below w.heap.size w W) => shifted_any t.s.base A3 c3 t.s.digits Y W (r3.below hW) k3 f2 hYb.1 hYb.2)
    obtain ⟨es, hes⟩ : ∃ es, shiftD t.b.base t.b.digits X = es := ⟨_, rfl⟩
    obtain ⟨fs, hfs⟩ : ∃ fs, shiftD t.s.base t.s.digits Y = fs := ⟨_, rfl⟩
    obtain ⟨bell, hbl⟩ : ∃ e, shiftB t.b.base t.b.digits X = e := ⟨_, rfl⟩
    obtain ⟨bell2, hbl2⟩ : ∃ e, shiftB t.s.base t.s.digits Y = e := ⟨_, rfl⟩
    rw [hes, hbl] at KS2
    rw [hfs, hbl2] at KS3
    rw [hes, hfs, hbl] at hTT
    have HS := Lib.hid (hT.trans hTT)
    have KV := Lib.hid KV
    have KS2 := Lib.hid KS2
    have KS3 := Lib.hid KS3
    have HYY := Lib.hid hY
    have HW1 := Lib.hid (show IntKind.i64.wrap (-V) = -V from wrapI64 (by omega))
    have HW2 := Lib.hid (show IntKind.i64.wrap (-V * U) = X by rw [← hX, Int.neg_one_mul, Int.neg_mul]; exact wrapI64 (by omega))
    clear hT hTT hV hX hY hes hfs hbl hbl2 hd1 hd2 hd3 r1 r2 r3 k1 k2 k3 KC KP f1 f2 l1 p0 p1
    go_wp2_with fail
    have HG := Lib.hid (box7 hK4.drew.drop.drop.drop.drop.drop)
    have HT := HG
    go_cut [7] (fun bb wx => bb = .bool bell ∧ ∃ (E2 : Option Addr) (g2 : Nat), Kn w [.blk w2.heap.size [.int .i64 t.a.base, .slice B1 t.a.digits.length h1, .int .i64 t.b.base, .slice E2 es.length g2, .int .i64 t.s.base, .slice B3 t.s.digits.length h3, .int .i64 t.carry] 32, rowI E2 g2 es, rowI B3 h3 t.s.digits, rowI B2 h2 t.b.digits, rowI B1 h1 t.a.digits, .blk (w.heap.size + 1) [.int .i64 0, .slice none 0 0, .int .i64 0, .slice none 0 0, .int .i64 0, .slice none 0 0, .int .i64 0] 32, .blk w.heap.size [.int .i64 t.a.base, .slice A1 t.a.digits.length c1, .int .i64 t.b.base, .slice A2 t.b.digits.length c2, .int .i64 t.s.base, .slice A3 t.s.digits.length c3, .int .i64 t.carry] 32] wx)
    case first =>
      go_region_held3 (fun W => W.cell? ⟨w.heap.size, 0, none⟩ = some (.int .i64 t.a.base) ∧ W.cell? ⟨w.heap.size, 1, none⟩ = some (.slice A1 t.a.digits.length c1) ∧ W.cell? ⟨w.heap.size, 2, none⟩ = some (.int .i64 t.b.base) ∧ W.cell? ⟨w.heap.size, 3, none⟩ = some (.slice A2 t.b.digits.length c2) ∧ W.cell? ⟨w.heap.size, 4, none⟩ = some (.int .i64 t.s.base) ∧ W.cell? ⟨w.heap.size, 5, none⟩ = some (.slice A3 t.s.digits.length c3) ∧ W.cell? ⟨w.heap.size, 6, none⟩ = some (.int .i64 t.carry))
        (first | with_reducible exact HG.out | with_reducible exact HT.out | exact HG.out | exact HT.out) (first
        | (go_at_call 121; (with_reducible refine (KV.out _ hK4.drew.below).mono ?_); rintro e w5 ⟨rfl, hw⟩; have hK5 := hK4.drew.keep hw; clear HG; have HG := Lib.hid (box7 hK5.drop.drop.drop.drop.drop))
        | (go_at_call 120; (first | (rw [HW1.out]; rw [HW2.out]) | rw [HW2.out]); (with_reducible refine (KS2.out _ hK5.below).mono ?_); rintro e w6 ⟨E2, g2, rfl, hK⟩; have hK6 := hK5.join hK; clear HG; have HG := Lib.hid (box7 hK6.drop.drop.drop.drop.drop.drop); have hK7 := (hK6.sw1.st 2 (.int .i64 t.b.base)).st 3 (.slice E2 es.length g2); have HT := Lib.hid (box7 hK7.drop.drop.drop.drop.drop.drop); obtain ⟨q1, q2, q3⟩ := hK6.drop.blkAt))
      all_goals
        go_wp2_with fail
        go_meet
        exact ⟨rfl, _, _, hK7⟩
    case rest =>
      obtain ⟨rfl, E2, g2, hK5⟩ := hcut
      clear HG HT x1 x2 x3 a1 a2 a3 d1 d2 d3 hK4 KV KS2
      obtain ⟨x1, x2, x3, a1, a2, a3, d1, d2, d3, -⟩ := hK5.cells
      go_wp2_with fail
      rw [show -U = Y by rw [← HYY.out]; omega]
      refine (KS3.out _ hK5.below).mono ?_; rintro e w6 ⟨E3, g3, rfl, hK⟩
      have hK6 := hK5.join hK
      clear x1 x2 x3 a1 a2 a3 d1 d2 d3 hK5
      obtain ⟨x1, x2, x3, a1, a2, a3, d1, d2, d3, -⟩ := hK6.cells
      go_upto_region 22 with fail
      refine Code.wp.kn ((hK6.sw1.st 4 (.int .i64 t.s.base)).st 5 (.slice E3 fs.length g3)) ?_; intro w5 hK5
      clear x1 x2 x3 a1 a2 a3 d1 d2 d3
      obtain ⟨x1, x2, x3, a1, a2, a3, d1, d2, d3, -⟩ := hK5.cells
      go_wp2_with fail
      refine bodyPost.kn ((((((((hK5.front 6 rfl).st 0 (.int .i64 t.a.base)).st 1 (.slice B1 t.a.digits.length h1)).st 2 (.int .i64 t.b.base)).st 3 (.slice E2 es.length g2)).st 4 (.int .i64 t.s.base)).st 5 (.slice E3 fs.length g3)).st 6 (.int .i64 t.carry)) ?_; intro w6 hK6
      clear x1 x2 x3 a1 a2 a3 d1 d2 d3 hK5
      obtain ⟨a1, a2, a3, -⟩ := hK6.cells
      refine bodyPost_ret (v := .tuple #[.agg #[.int .i64 t.a.base, .slice B1 t.a.digits.length h1, .int .i64 t.b.base, .slice E2 es.length g2, .int .i64 t.s.base, .slice E3 fs.length g3, .int .i64 t.carry], .bool bell]) (by simp [results, Tryz.results76, go_sem, a1]) rfl ⟨B1, h1, E2, g2, E3, g3, by rw [HS.out], ?_⟩
      rw [HS.out]
      exact hK6.sel [2, 3, 6] 99 (by decide) (by decide)
  · subst hk
    have KL := Lib.hid (fun W (hW : Below w.heap.size w W) => places_any t A1 A2 A3 c1 c2 c3 W (r1.below hW) (r2.below hW) (r3.below hW) n2 n4 n6)
    have hvp : vplaces t ≤ 16 := by unfold vplaces; omega
    have hwr := wrapI64 (n := t.carry + 1) (by omega)
    have hc4 : -9223372036854775808 ≤ t.carry + 1 ∧ t.carry + 1 ≤ 9223372036854775807 := by omega
    have hS1 : ¬ t.carry + 1 = vplaces t → strokeT 3 t = ({ t with carry := t.carry + 1 }, false) := fun h => by unfold strokeT; simp [h]
    have hS2 : t.carry + 1 = vplaces t → strokeT 3 t = (t, true) := fun h => by unfold strokeT; simp [h]
    obtain ⟨PL, hPL⟩ : ∃ p, vplaces t = p := ⟨_, rfl⟩
    rw [hPL] at KL hS1 hS2
    have HS1 := Lib.hid hS1
    have HS2 := Lib.hid hS2
    clear hS1 hS2 hPL hvp r1 r2 r3 KC KP u1 u2 u3 u4 f1 f2 l1 p0 p1
    go_wp2_with fail
    have HG := Lib.hid (box7 hK4.drew.drop.drop.drop.drop.drop)
    go_cut [7] (fun bb wx => bb = .bool (t.carry + 1 == PL) ∧ Kn w [.blk w2.heap.size [.int .i64 t.a.base, .slice B1 t.a.digits.length h1, .int .i64 t.b.base, .slice B2 t.b.digits.length h2, .int .i64 t.s.base, .slice B3 t.s.digits.length h3, .int .i64 t.carry] 32, rowI B3 h3 t.s.digits, rowI B2 h2 t.b.digits, rowI B1 h1 t.a.digits, .blk (w.heap.size + 1) [.int .i64 0, .slice none 0 0, .int .i64 0, .slice none 0 0, .int .i64 0, .slice none 0 0, .int .i64 0] 32, .blk w.heap.size [.int .i64 t.a.base, .slice A1 t.a.digits.length c1, .int .i64 t.b.base, .slice A2 t.b.digits.length c2, .int .i64 t.s.base, .slice A3 t.s.digits.length c3, .int .i64 t.carry] 32] wx)
    case first =>
      go_region_held3 (fun W => W.cell? ⟨w.heap.size, 0, none⟩ = some (.int .i64 t.a.base) ∧ W.cell? ⟨w.heap.size, 1, none⟩ = some (.slice A1 t.a.digits.length c1) ∧ W.cell? ⟨w.heap.size, 2, none⟩ = some (.int .i64 t.b.base) ∧ W.cell? ⟨w.heap.size, 3, none⟩ = some (.slice A2 t.b.digits.length c2) ∧ W.cell? ⟨w.heap.size, 4, none⟩ = some (.int .i64 t.s.base) ∧ W.cell? ⟨w.heap.size, 5, none⟩ = some (.slice A3 t.s.digits.length c3) ∧ W.cell? ⟨w.heap.size, 6, none⟩ = some (.int .i64 t.carry))
        (first | with_reducible exact HG.out | exact HG.out) (first
        | (go_at_call 101; (with_reducible refine (KL.out _ hK4.drew.below).mono ?_); rintro e w5 ⟨rfl, hw⟩; have hK5 := hK4.drew.keep hw; clear HG; have HG := Lib.hid (box7 hK5.drop.drop.drop.drop.drop)))
      all_goals
        go_wp2_with fail
        go_meet
        exact ⟨by first | rfl | rw [hwr], hK5⟩
    case rest =>
      obtain ⟨rfl, hK7⟩ := hcut
      clear HG x1 x2 x3 a1 a2 a3 d1 d2 d3 hK4 KL
      obtain ⟨x1, x2, x3, a1, a2, a3, d1, d2, d3, -⟩ := hK7.cells
      rcases hc0 : (t.carry + 1 == PL) with _ | _
      · have HS := Lib.hid (HS1.out (by simpa using hc0))
        clear hc0
        go_upto_region 22 with fail
        refine Code.wp.kn (hK7.st 6 (.int .i64 (t.carry + 1))) ?_; intro w5 hK5
        clear hK7
        clear x1 x2 x3 a1 a2 a3 d1 d2 d3
        obtain ⟨x1, x2, x3, a1, a2, a3, d1, d2, d3, -⟩ := hK5.cells
        go_wp2_with fail
        refine bodyPost.kn ((((((((hK5.front 4 rfl).st 0 (.int .i64 t.a.base)).st 1 (.slice B1 t.a.digits.length h1)).st 2 (.int .i64 t.b.base)).st 3 (.slice B2 t.b.digits.length h2)).st 4 (.int .i64 t.s.base)).st 5 (.slice B3 t.s.digits.length h3)).st 6 (.int .i64 (t.carry + 1))) ?_; intro w6 hK6
        clear x1 x2 x3 a1 a2 a3 d1 d2 d3 hK5
        obtain ⟨a1, a2, a3, -⟩ := hK6.cells
        refine bodyPost_ret (v := .tuple #[.agg #[.int .i64 t.a.base, .slice B1 t.a.digits.length h1, .int .i64 t.b.base, .slice B2 t.b.digits.length h2, .int .i64 t.s.base, .slice B3 t.s.digits.length h3, .int .i64 (t.carry + 1)], .bool false]) (by simp [results, Tryz.results76, go_sem, a1]) rfl ⟨B1, h1, B2, h2, B3, h3, by rw [HS.out], ?_⟩
        rw [HS.out]
        exact hK6.sel [2, 3, 4] 99 (by decide) (by decide)
      · have HS := Lib.hid (HS2.out (by simpa using hc0))
        clear hc0
        go_upto_region 22 with fail
        refine Code.wp.kn hK7 ?_; intro w5 hK5
        clear hK7
        clear x1 x2 x3 a1 a2 a3 d1 d2 d3
        obtain ⟨x1, x2, x3, a1, a2, a3, d1, d2, d3, -⟩ := hK5.cells
        go_wp2_with fail
        refine bodyPost.kn ((((((((hK5.front 4 rfl).st 0 (.int .i64 t.a.base)).st 1 (.slice B1 t.a.digits.length h1)).st 2 (.int .i64 t.b.base)).st 3 (.slice B2 t.b.digits.length h2)).st 4 (.int .i64 t.s.base)).st 5 (.slice B3 t.s.digits.length h3)).st 6 (.int .i64 t.carry)) ?_; intro w6 hK6
        clear x1 x2 x3 a1 a2 a3 d1 d2 d3 hK5
        obtain ⟨a1, a2, a3, -⟩ := hK6.cells
        refine bodyPost_ret (v := .tuple #[.agg #[.int .i64 t.a.base, .slice B1 t.a.digits.length h1, .int .i64 t.b.base, .slice B2 t.b.digits.length h2, .int .i64 t.s.base, .slice B3 t.s.digits.length h3, .int .i64 t.carry], .bool true]) (by simp [results, Tryz.results76, go_sem, a1]) rfl ⟨B1, h1, B2, h2, B3, h3, by rw [HS.out], ?_⟩
        rw [HS.out]
        exact hK6.sel [2, 3, 4] 99 (by decide) (by decide)
  · subst hk
    rcases hc0 : decide (t.carry = 0) with _ | _
    · have hc1 := of_decide_eq_false hc0
      have hc2 : (t.carry == 0) = false := by simp; exact hc1
      have hc3 : -9223372036854775808 ≤ t.carry - 1 ∧ t.carry - 1 ≤ 9223372036854775807 := by unfold vplaces at p1; omega
      have HC := Lib.hid hc1
      clear hc0 hc1 u1 u2 u3 u4 f1 f2 l1 p0 p1 KC KP
      go_upto_region 22 with fail
      refine Code.wp.kn (hK4.st 6 (.int .i64 (t.carry - 1))) ?_; intro w5 hK5
      have hS : strokeT 4 t = ({ t with carry := t.carry - 1 }, false) := by unfold strokeT; simp [HC.out]
      have HS := Lib.hid hS
      clear hS hK4
      clear x1 x2 x3 a1 a2 a3 d1 d2 d3
      obtain ⟨x1, x2, x3, a1, a2, a3, d1, d2, d3, -⟩ := hK5.cells
      go_wp2_with fail
      refine bodyPost.kn ((((((((hK5.front 4 rfl).st 0 (.int .i64 t.a.base)).st 1 (.slice B1 t.a.digits.length h1)).st 2 (.int .i64 t.b.base)).st 3 (.slice B2 t.b.digits.length h2)).st 4 (.int .i64 t.s.base)).st 5 (.slice B3 t.s.digits.length h3)).st 6 (.int .i64 (t.carry - 1))) ?_; intro w6 hK6
      clear x1 x2 x3 a1 a2 a3 d1 d2 d3 hK5
      obtain ⟨a1, a2, a3, -⟩ := hK6.cells
      refine bodyPost_ret (v := .tuple #[.agg #[.int .i64 t.a.base, .slice B1 t.a.digits.length h1, .int .i64 t.b.base, .slice B2 t.b.digits.length h2, .int .i64 t.s.base, .slice B3 t.s.digits.length h3, .int .i64 (t.carry - 1)], .bool false]) (by simp [results, Tryz.results76, go_sem, a1]) rfl ⟨B1, h1, B2, h2, B3, h3, by rw [HS.out], ?_⟩
      rw [HS.out]
      exact hK6.sel [2, 3, 4] 99 (by decide) (by decide)
    · have hc1 := of_decide_eq_true hc0
      have HC := Lib.hid hc1
      have hc2 : (t.carry == 0) = true := by simp; exact hc1
      clear hc0 hc1 u1 u2 u3 u4 f1 f2 l1 p0 p1 KC KP
      go_upto_region 22 with fail
      refine Code.wp.kn hK4 ?_; intro w5 hK5
      have hS : strokeT 4 t = (t, true) := by unfold strokeT; simp [HC.out]
      have HS := Lib.hid hS
      clear hS hK4
      clear x1 x2 x3 a1 a2 a3 d1 d2 d3
      obtain ⟨x1, x2, x3, a1, a2, a3, d1, d2, d3, -⟩ := hK5.cells
      go_wp2_with fail
      refine bodyPost.kn ((((((((hK5.front 4 rfl).st 0 (.int .i64 t.a.base)).st 1 (.slice B1 t.a.digits.length h1)).st 2 (.int .i64 t.b.base)).st 3 (.slice B2 t.b.digits.length h2)).st 4 (.int .i64 t.s.base)).st 5 (.slice B3 t.s.digits.length h3)).st 6 (.int .i64 t.carry)) ?_; intro w6 hK6
      clear x1 x2 x3 a1 a2 a3 d1 d2 d3 hK5
      obtain ⟨a1, a2, a3, -⟩ := hK6.cells
      refine bodyPost_ret (v := .tuple #[.agg #[.int .i64 t.a.base, .slice B1 t.a.digits.length h1, .int .i64 t.b.base, .slice B2 t.b.digits.length h2, .int .i64 t.s.base, .slice B3 t.s.digits.length h3, .int .i64 t.carry], .bool true]) (by simp [results, Tryz.results76, go_sem, a1]) rfl ⟨B1, h1, B2, h2, B3, h3, by rw [HS.out], ?_⟩
      rw [HS.out]
      exact hK6.sel [2, 3, 4] 99 (by decide) (by decide)
  · subst hk
    have KW2 := (fun W => withValue_any t.b.base A2 t.b.digits.length c2 0 W b3 b4 (by omega) (by decide) (by decide))
    have KW3 := (fun W => withValue_any t.s.base A3 t.s.digits.length c3 0 W b5 b6 (by omega) (by decide) (by decide))
    have hS : strokeT 5 t = (⟨t.a, ⟨t.b.base, digD t.b.base t.b.digits.length 0⟩, ⟨t.s.base, digD t.s.base t.s.digits.length 0⟩, t.carry⟩, false) := by unfold strokeT; simp
    obtain ⟨es, hes⟩ : ∃ es, digD t.b.base t.b.digits.length 0 = es := ⟨_, rfl⟩
    obtain ⟨fs, hfs⟩ : ∃ fs, digD t.s.base t.s.digits.length 0 = fs := ⟨_, rfl⟩
    rw [hes] at KW2
    rw [hfs] at KW3
    rw [hes, hfs] at hS
    have KW2 := Lib.hid KW2
    have KW3 := Lib.hid KW3
    have HS := Lib.hid hS
    clear hS hes hfs r1 r2 r3 KC KP u1 u2 u3 u4 f1 f2 l1 p0 p1
    go_wp2_with fail
    have HG := Lib.hid (box7 hK4.drew.drop.drop.drop.drop.drop)
    have HT := HG
    have HT2 := HG
    go_region_held3 (fun W => W.cell? ⟨w.heap.size, 0, none⟩ = some (.int .i64 t.a.base) ∧ W.cell? ⟨w.heap.size, 1, none⟩ = some (.slice A1 t.a.digits.length c1) ∧ W.cell? ⟨w.heap.size, 2, none⟩ = some (.int .i64 t.b.base) ∧ W.cell? ⟨w.heap.size, 3, none⟩ = some (.slice A2 t.b.digits.length c2) ∧ W.cell? ⟨w.heap.size, 4, none⟩ = some (.int .i64 t.s.base) ∧ W.cell? ⟨w.heap.size, 5, none⟩ = some (.slice A3 t.s.digits.length c3) ∧ W.cell? ⟨w.heap.size, 6, none⟩ = some (.int .i64 t.carry))
      (first | with_reducible exact HG.out | with_reducible exact HT.out | with_reducible exact HT2.out | exact HG.out | exact HT.out | exact HT2.out) (first
      | (go_at_call 122; (with_reducible refine (KW2.out _).mono ?_); rintro e w5 ⟨E2, g2, rfl, hK⟩; have hK5 := hK4.drew.join hK; clear HG; have HG := Lib.hid (box7 hK5.drop.drop.drop.drop.drop.drop))
      | (go_at_call 122; (with_reducible refine (KW3.out _).mono ?_); rintro e w6 ⟨E3, g3, rfl, hK⟩; have hK6 := hK5.join hK; clear HG; have HG := Lib.hid (box7 hK6.drop.drop.drop.drop.drop.drop.drop); have hK7 := (hK6.sw2.st 2 (.int .i64 t.b.base)).st 3 (.slice E2 es.length g2); have HT := Lib.hid (box7 hK7.drop.drop.drop.drop.drop.drop.drop); have hK8 := (hK7.st 4 (.int .i64 t.s.base)).st 5 (.slice E3 fs.length g3); have HT2 := Lib.hid (box7 hK8.drop.drop.drop.drop.drop.drop.drop); obtain ⟨q1, q2, q3⟩ := hK6.drop.drop.blkAt))
    all_goals
      clear x1 x2 x3 a1 a2 a3 d1 d2 d3
      go_upto_region 22 with fail
      refine Code.wp.kn hK8 ?_; intro w5 hK5
      clear hK7 hK8 HG HT HT2 hK6 hK4
      obtain ⟨x1, x2, x3, a1, a2, a3, d1, d2, d3, -⟩ := hK5.cells
      clear x1 x2 x3 a1 a2 a3 d1 d2 d3
      obtain ⟨x1, x2, x3, a1, a2, a3, d1, d2, d3, -⟩ := hK5.cells
      go_wp2_with fail
      refine bodyPost.kn ((((((((hK5.front 6 rfl).st 0 (.int .i64 t.a.base)).st 1 (.slice B1 t.a.digits.length h1)).st 2 (.int .i64 t.b.base)).st 3 (.slice E2 es.length g2)).st 4 (.int .i64 t.s.base)).st 5 (.slice E3 fs.length g3)).st 6 (.int .i64 t.carry)) ?_; intro w6 hK6
      clear x1 x2 x3 a1 a2 a3 d1 d2 d3 hK5
      obtain ⟨a1, a2, a3, -⟩ := hK6.cells
      refine bodyPost_ret (v := .tuple #[.agg #[.int .i64 t.a.base, .slice B1 t.a.digits.length h1, .int .i64 t.b.base, .slice E2 es.length g2, .int .i64 t.s.base, .slice E3 fs.length g3, .int .i64 t.carry], .bool false]) (by simp [results, Tryz.results76, go_sem, a1]) rfl ⟨B1, h1, E2, g2, E3, g3, by rw [HS.out], ?_⟩
      rw [HS.out]
      exact hK6.sel [2, 3, 6] 99 (by decide) (by decide)
  · subst hk
    have KW2 := (fun W => withValue_any t.a.base A1 t.a.digits.length c1 0 W b1 b2 (by omega) (by decide) (by decide))
    have hS : strokeT 6 t = ({ t with a := ⟨t.a.base, digD t.a.base t.a.digits.length 0⟩ }, false) := by unfold strokeT; simp
    obtain ⟨es, hes⟩ : ∃ es, digD t.a.base t.a.digits.length 0 = es := ⟨_, rfl⟩
    rw [hes] at KW2 hS
    have KW2 := Lib.hid KW2
    have HS := Lib.hid hS
    clear hS hes r1 r2 r3 KC KP u1 u2 u3 u4 f1 f2 l1 p0 p1
    go_upto_region 22 with (go_at_call 122; (with_reducible refine (KW2.out _).mono ?_); rintro e w5 ⟨E2, g2, rfl, hK⟩; have hK6 := hK4.join hK; clear x1 x2 x3 a1 a2 a3 d1 d2 d3; obtain ⟨x1, x2, x3, a1, a2, a3, d1, d2, d3, -⟩ := hK6.cells)
    refine Code.wp.kn ((hK6.sw1.st 0 (.int .i64 t.a.base)).st 1 (.slice E2 es.length g2)) ?_; intro w5 hK5
    clear hK6 hK4
    clear x1 x2 x3 a1 a2 a3 d1 d2 d3
    obtain ⟨x1, x2, x3, a1, a2, a3, d1, d2, d3, -⟩ := hK5.cells
    go_wp2_with fail
    refine bodyPost.kn ((((((((hK5.front 5 rfl).st 0 (.int .i64 t.a.base)).st 1 (.slice E2 es.length g2)).st 2 (.int .i64 t.b.base)).st 3 (.slice B2 t.b.digits.length h2)).st 4 (.int .i64 t.s.base)).st 5 (.slice B3 t.s.digits.length h3)).st 6 (.int .i64 t.carry)) ?_; intro w6 hK6
    clear x1 x2 x3 a1 a2 a3 d1 d2 d3 hK5
    obtain ⟨a1, a2, a3, -⟩ := hK6.cells
    refine bodyPost_ret (v := .tuple #[.agg #[.int .i64 t.a.base, .slice E2 es.length g2, .int .i64 t.b.base, .slice B2 t.b.digits.length h2, .int .i64 t.s.base, .slice B3 t.s.digits.length h3, .int .i64 t.carry], .bool false]) (by simp [results, Tryz.results76, go_sem, a1]) rfl ⟨E2, g2, B2, h2, B3, h3, by rw [HS.out], ?_⟩
    rw [HS.out]
    exact hK6.sel [3, 4, 2] 99 (by decide) (by decide)
end Go.Proofs.YtafnebpbfmbgiaaGreatDoor

namespace Go.Proofs.YtafnebpbfmbgiaaGreatDoor
open Go.RowKit Go.Sort
theorem RegAt.below {w w' : World} {p : Addr} {b : Int} {A : Option Addr} {n c : Nat} (h : RegAt w p b A n c) (hb : Below w.heap.size w w') : RegAt w' p b A n c := by
  have hp : p.block < w.heap.size := World.block_lt_of_cell? w p h.1
  exact ⟨by rw [hb.cell hp]; exact h.1, by rw [hb.cell (by exact hp)]; exact h.2⟩
theorem l02Own_any (p : Addr) (b : Int) (A : Option Addr) (n c : Nat) (ds : List Int) (w : World) (hp : RegAt w p b A n c) (hr : RI w A n ds) (h0 : 0 < n) (hm : n ≤ 1000000) :
    Calls Tryz.prog 117 #[.pointer (some p)] w fun e w' => ∃ A' c', e = .returned (.agg #[.int .i64 b, .slice A' ds.length c']) ∧ Kn w [rowI A' c' ds] w' := by
  have KC := Lib.hid (fun W (hW : Below w.heap.size w W) => l00Own_any A n c ds W (hr.below hW) h0 hm)
  have hl := hr.1
  subst hl
  clear hr
  have HP := Lib.hid (fun W (hW : Below w.heap.size w W) => hp.below hW)
  go_enter Tryz.func117, Tryz.ntmps117
  go_wp2_with fail
  have hK2 := (Kn.nil w).al [.int .i64 0, .slice none 0 0] 30
  generalize w.alloc (.cells #[.int .i64 0, .slice none 0 0] 30) = w2 at hK2 ⊢
  have HG := Lib.hid (show _ ∧ _ from HP.out _ hK2.drew.below)
  go_region_held3 (fun W => W.cell? p = some (.int .i64 b) ∧ W.cell? ⟨p.block, p.off + 1, none⟩ = some (.slice A ds.length c))
    (first | with_reducible exact HG.out | with_reducible exact HS.out | exact HG.out) (first
    | (go_at_call 154; refine (KC.out _ hK2.drew.below).mono ?_; rintro e w4 ⟨A', c', rfl, hK⟩; have hK4 := hK2.drew.join hK; clear HG; have hq := HP.out _ hK4.below; have HG := Lib.hid (show _ ∧ _ from hq); obtain ⟨g1, f1, l1⟩ := hK4.drop.blkAt; have hK5 := (hK4.sw1.st 0 (.int .i64 b)).st 1 (.slice A' ds.length c'); have HS := Lib.hid (show _ ∧ _ from HP.out _ hK5.below)))
  all_goals
    go_wp2_with fail
    refine bodyPost_ret (v := .agg #[.int .i64 b, .slice A' ds.length c']) (by simp [results, Tryz.results117, go_sem, g1]) rfl ⟨A', c', rfl, ?_⟩
    exact hK5.drop
set_option maxRecDepth 100000 in
set_option maxHeartbeats 1600000 in
theorem l10Own_any (g : Nat) (t : Tri) (A1 A2 A3 : Option Addr) (c1 c2 c3 : Nat) (w : World) (hT : TriC w ⟨g, 0, none⟩ t A1 c1 A2 c2 A3 c3) (hz : Sized t) :
    Calls Tryz.prog 72 #[.pointer (some ⟨g, 0, none⟩)] w fun e w' => ∃ A1 c1 A2 c2 A3 c3, e = .returned (.agg #[.int .i64 t.a.base, .slice A1 t.a.digits.length c1, .int .i64 t.b.base, .slice A2 t.b.digits.length c2, .int .i64 t.s.base, .slice A3 t.s.digits.length c3, .int .i64 t.carry]) ∧ Kn w [rowI A3 c3 t.s.digits, rowI A2 c2 t.b.digits, rowI A1 c1 t.a.digits] w' := by
  obtain ⟨⟨q1, q2, q3, q4, q5, q6, q7⟩, r1, r2, r3⟩ := hT
  simp only [Nat.zero_add] at q1 q2 q3 q4 q5 q6 q7
  have hlt : g < w.heap.size := World.block_lt_of_cell? w _ q1
  have K1 := Lib.hid (fun W (hW : Below w.heap.size w W) => l02Own_any ⟨g, 0, none⟩ t.a.base A1 t.a.digits.length c1 t.a.digits W (RegAt.below ⟨q1, q2⟩ hW) (r1.below hW) hz.a0 (by have := hz.a; omega))
  have K2 := Lib.hid (fun W (hW : Below w.heap.size w W) => l02Own_any ⟨g, 2, none⟩ t.b.base A2 t.b.digits.length c2 t.b.digits W (RegAt.below ⟨q3, q4⟩ hW) (r2.below hW) hz.b0 (by have := hz.b; omega))
  have K3 := Lib.hid (fun W (hW : Below w.heap.size w W) => l02Own_any ⟨g, 4, none⟩ t.s.base A3 t.s.digits.length c3 t.s.digits W (RegAt.below ⟨q5, q6⟩ hW) (r3.below hW) hz.s0 (by have := hz.s; omega))
  have HP := Lib.hid (fun W (hW : Below w.heap.size w W) => (hW.cell (p := ⟨g, 6, none⟩) hlt).trans q7)
  clear q1 q2 q3 q4 q5 q6 q7 r1 r2 r3 hz
  go_enter Tryz.func72, Tryz.ntmps72
  go_wp2_with fail
  have hK2 := (Kn.nil w).al [.int .i64 0, .slice none 0 0, .int .i64 0, .slice none 0 0, .int .i64 0, .slice none 0 0, .int .i64 0] 32
  generalize w.alloc (.cells #[.int .i64 0, .slice none 0 0, .int .i64 0, .slice none 0 0, .int .i64 0, .slice none 0 0, .int .i64 0] 32) = w2 at hK2 ⊢
  have HG := Lib.hid (HP.out _ hK2.drew.below)
  go_region_held3 (fun W => W.cell? ⟨g, 6, none⟩ = some (.int .i64 t.carry))
    (first | with_reducible exact HG.out | with_reducible exact HS.out | exact HG.out) (first
    | (go_at_call 117; (with_reducible refine (K1.out _ hK2.drew.below).mono ?_); rintro e w4 ⟨B1, e1, rfl, hK⟩; have hK4 := hK2.drew.join hK; clear HG; have hq := HP.out _ hK4.below; have HG := Lib.hid hq)
    | (go_at_call 117; (with_reducible refine (K2.out _ hK4.below).mono ?_); rintro e w5 ⟨B2, e2, rfl, hK⟩; have hK5 := hK4.join hK; clear HG; have hq := HP.out _ hK5.below; have HG := Lib.hid hq)
    | (go_at_call 117; (with_reducible refine (K3.out _ hK5.below).mono ?_); rintro e w6 ⟨B3, e3, rfl, hK⟩; have hK6 := hK5.join hK; clear HG; have hq := HP.out _ hK6.below; have HG := Lib.hid hq; have hK7 := ((((((hK6.sw3.st 0 (.int .i64 t.a.base)).st 1 (.slice B1 t.a.digits.length e1)).st 2 (.int .i64 t.b.base)).st 3 (.slice B2 t.b.digits.length e2)).st 4 (.int .i64 t.s.base)).st 5 (.slice B3 t.s.digits.length e3)).st 6 (.int .i64 t.carry); have hq2 := HP.out _ hK7.below; have HS := Lib.hid hq2; obtain ⟨g1, f1, l1⟩ := hK6.drop.drop.drop.blkAt))
  all_goals
    go_wp2_with fail
    refine bodyPost_ret (v := .agg #[.int .i64 t.a.base, .slice B1 t.a.digits.length e1, .int .i64 t.b.base, .slice B2 t.b.digits.length e2, .int .i64 t.s.base, .slice B3 t.s.digits.length e3, .int .i64 t.carry]) (by simp [results, Tryz.results72, go_sem, g1]) rfl ⟨B1, e1, B2, e2, B3, e3, rfl, ?_⟩
    exact hK7.drop
end Go.Proofs.YtafnebpbfmbgiaaGreatDoor

namespace Go.Proofs.YtafnebpbfmbgiaaGreatDoor
open Go.RowKit Go.Sort
/-- the first k numbers are 0 -/
def zeroUpto (k : Nat) (ds : List Int) : List Int := List.replicate k 0 ++ ds.drop k
theorem zeroUpto_len {k : Nat} {ds : List Int} (h : k ≤ ds.length) : (zeroUpto k ds).length = ds.length := by simp [zeroUpto]; omega
theorem zeroUpto_step {k : Nat} {ds : List Int} (h : k < ds.length) : (zeroUpto k ds).set k 0 = zeroUpto (k + 1) ds := by
  unfold zeroUpto
  rw [List.set_append_right _ _ (by simp), List.drop_eq_getElem_cons h, List.replicate_succ', List.length_replicate, Nat.sub_self, List.set_cons_zero, List.append_assoc]
  rfl
theorem zeroUpto_all (ds : List Int) : zeroUpto ds.length ds = List.replicate ds.length 0 := by simp [zeroUpto]
set_option maxHeartbeats 800000 in
/-- digits of numbers that are owned are set to 0 -/
theorem l10ZeroK {w0 : World} {m : List Ent} {cs : List Value} {T : TypeId} {g o : Nat} (A : Option Addr) (c : Nat) (ds : List Int) (w : World) (hK : Kn w0 (rowI A c ds :: .blk g cs T :: m) w) (ho : cs[o + 1]? = some (.slice A ds.length c)) (h0 : 0 < ds.length) (hl : ds.length ≤ 1000000) :
    Calls Tryz.prog 131 #[.pointer (some ⟨g, o, none⟩)] w fun e w' => e = .returned (.tuple #[]) ∧ Kn w0 (rowI A c (List.replicate ds.length 0) :: .blk g cs T :: m) w' := by
  obtain ⟨r, c', hA⟩ := Kn.rowForm hK h0
  injection hA with hA hA2 hA3
  subst hA; subst hA3
  have HO := Lib.hid ho; clear ho
  go_enter Tryz.func131, Tryz.ntmps131
  go_wp2_with fail
  go_loopw [2] (fun ii wr => ∃ k : Nat, k ≤ ds.length ∧ ii = .int .i64 k ∧ Kn w0 (rowI (some ⟨r, 0, none⟩) c (zeroUpto k ds) :: .blk g cs T :: m) wr) (fun i _ => ds.length - (intOf i).toNat)
  case atStart => exact ⟨0, Nat.zero_le _, rfl, hK⟩
  case round =>
    clear hK
    obtain ⟨k, hk, rfl, hK⟩ := hrel
    have x1 := (hK.drop.blkAt.1 (o + 1)).trans HO.out
    by_cases hlt : k < ds.length
    · have hz := zeroUpto_step hlt
      have hlen := zeroUpto_len hk
      have hj : ∃ z : Value, ((zeroUpto k ds).map (Value.int .i64))[k]? = some z := ⟨_, by rw [List.getElem?_map, List.getElem?_eq_getElem (show k < (zeroUpto k ds).length by omega)]; rfl⟩
      obtain ⟨z, hj⟩ := hj
      obtain ⟨x2, x3⟩ := Kn.rowCell hK hj
      have HZ := Lib.hid hz
      clear hz hj hlen
      have hi1 : (k : Int) < (ds.length : Int) := by omega
      go_wp2_with fail
      go_roundw
      case rel => exact ⟨k + 1, by omega, by go_num, by rw [← HZ.out]; exact Kn.setI hK k 0⟩
      case measure => simp [intOf]; omega
    · have hi1 : ¬ (k : Int) < (ds.length : Int) := by omega
      obtain rfl : k = ds.length := by omega
      go_wp2_with fail
      go_end0
      exact ⟨rfl, by rw [← zeroUpto_all]; exact hK⟩
end Go.Proofs.YtafnebpbfmbgiaaGreatDoor

namespace Go.Proofs.YtafnebpbfmbgiaaGreatDoor
open Go.RowKit Go.Sort
theorem l10Places_any (p : Addr) (t : Tri) (w : World) (hT : TriM w p t) (h1 : t.a.digits.length ≤ 16) (h2 : t.b.digits.length ≤ 16) (_h3 : t.s.digits.length ≤ 16) :
    Calls Tryz.prog 94 #[.pointer (some p)] w fun e w' => e = .returned (.int .i64 (vplaces t)) ∧ ∃ m, w' = w.drewN m := by
  obtain ⟨A1, c1, A2, c2, A3, c3, ⟨g1, g2, g3, g4, g5, g6, g7⟩, r1, r2, r3⟩ := hT.cells
  go_enter Tryz.func94, Tryz.ntmps94
  go_wp2_with fail
  go_quiet ((go_at_call 134; exact quiet_left (l00Min_any _ _ _)))
  go_wp2
  go_ret
  exact ⟨ret_int (by unfold vplaces; omega), _, rfl⟩
set_option maxRecDepth 100000 in
set_option maxHeartbeats 1600000 in
theorem l10Ok_any (p : Addr) (t : Tri) (w : World) (hT : TriM w p t) (hs : SmallTri t) :
    Calls Tryz.prog 62 #[.pointer (some p)] w fun e w' => e = .returned (.bool (vmach t)) ∧ ∃ m, w' = w.drewN m := by
  have HV := Lib.hid (show vmach t = (((t.a.ok && t.b.ok && t.s.ok) && ((t.a.base == t.b.base) && (t.s.base == t.b.base) && fullB t.b && fullB t.s)) && (decide (t.a.digits.length ≤ t.b.digits.length) && betB t.carry 0 (vplaces t - 1))) from rfl)
  have K1 := Lib.hid (fun (m : Nat) => l02Ok_reg p t.a (w.drewN m) hT.1 hs.1)
  have K2 := Lib.hid (fun (m : Nat) => l02Ok_reg ⟨p.block, p.off + 2, none⟩ t.b (w.drewN m) hT.2.1 hs.2.1)
  have K3 := Lib.hid (fun (m : Nat) => l02Ok_reg ⟨p.block, p.off + 4, none⟩ t.s (w.drewN m) hT.2.2.1 hs.2.2)
  have KP := Lib.hid (fun (m : Nat) => l10Places_any p t (w.drewN m) hT)
  obtain ⟨A1, c1, A2, c2, A3, c3, ⟨g1, g2, g3, g4, g5, g6, g7⟩, r1, r2, r3⟩ := hT.cells
  clear r1 r2 r3 hT
  go_enter Tryz.func62, Tryz.ntmps62
  rcases k1 : t.a.ok with _ | _
  · have HF : Hid (vmach t = false) := by simp only [Hid]; rw [HV.out, k1]; rfl
    have H1 := Lib.hid k1; clear k1
    try (have H2 := Lib.hid k2; clear k2)
    try (have H3 := Lib.hid k3; clear k3)
    go_wp2_with fail
    go_quiet ((go_at_call 106; first | (with_reducible exact quiet_of_ex (K1.out _ _ H1.out)) | (with_reducible exact quiet_of_ex (K2.out _ _ H2.out)) | (with_reducible exact quiet_of_ex (K3.out _ _ H3.out)) | (with_reducible exact quiet_add_ex (K1.out _ _ H1.out)) | (with_reducible exact quiet_add_ex (K2.out _ _ H2.out)) | (with_reducible exact quiet_add_ex (K3.out _ _ H3.out))))
    go_wp2
    go_ret
    exact ⟨ret_bool HF.out.symm, by first | exact ⟨_, rfl⟩ | exact ⟨_, World.drewN_drewN _ _ _⟩⟩
  rcases k2 : t.b.ok with _ | _
  · have HF : Hid (vmach t = false) := by simp only [Hid]; rw [HV.out, k1, k2]; rfl
    have H1 := Lib.hid k1; clear k1
    try (have H2 := Lib.hid k2; clear k2)
    try (have H3 := Lib.hid k3; clear k3)
    go_wp2_with fail
    go_quiet ((go_at_call 106; first | (with_reducible exact quiet_of_ex (K1.out _ _ H1.out)) | (with_reducible exact quiet_of_ex (K2.out _ _ H2.out)) | (with_reducible exact quiet_of_ex (K3.out _ _ H3.out)) | (with_reducible exact quiet_add_ex (K1.out _ _ H1.out)) | (with_reducible exact quiet_add_ex (K2.out _ _ H2.out)) | (with_reducible exact quiet_add_ex (K3.out _ _ H3.out))))
    go_wp2
    go_ret
    exact ⟨ret_bool HF.out.symm, by first | exact ⟨_, rfl⟩ | exact ⟨_, World.drewN_drewN _ _ _⟩⟩
  rcases k3 : t.s.ok with _ | _
  · have HF : Hid (vmach t = false) := by simp only [Hid]; rw [HV.out, k1, k2, k3]; rfl
    have H1 := Lib.hid k1; clear k1
    try (have H2 := Lib.hid k2; clear k2)
    try (have H3 := Lib.hid k3; clear k3)
    go_wp2_with fail
    go_quiet ((go_at_call 106; first | (with_reducible exact quiet_of_ex (K1.out _ _ H1.out)) | (with_reducible exact quiet_of_ex (K2.out _ _ H2.out)) | (with_reducible exact quiet_of_ex (K3.out _ _ H3.out)) | (with_reducible exact quiet_add_ex (K1.out _ _ H1.out)) | (with_reducible exact quiet_add_ex (K2.out _ _ H2.out)) | (with_reducible exact quiet_add_ex (K3.out _ _ H3.out))))
    go_wp2
    go_ret
    exact ⟨ret_bool HF.out.symm, by first | exact ⟨_, rfl⟩ | exact ⟨_, World.drewN_drewN _ _ _⟩⟩
  rcases k4 : (t.a.base == t.b.base) with _ | _
  · have HF : Hid (vmach t = false) := by simp only [Hid]; rw [HV.out, k1, k2, k3, k4]; rfl
    have i4 : (t.a.base != t.b.base) = true := by simp [bne, k4]
    clear k4
    have H1 := Lib.hid k1; clear k1
    try (have H2 := Lib.hid k2; clear k2)
    try (have H3 := Lib.hid k3; clear k3)
    go_wp2_with fail
    go_quiet ((go_at_call 106; first | (with_reducible exact quiet_of_ex (K1.out _ _ H1.out)) | (with_reducible exact quiet_of_ex (K2.out _ _ H2.out)) | (with_reducible exact quiet_of_ex (K3.out _ _ H3.out)) | (with_reducible exact quiet_add_ex (K1.out _ _ H1.out)) | (with_reducible exact quiet_add_ex (K2.out _ _ H2.out)) | (with_reducible exact quiet_add_ex (K3.out _ _ H3.out))))
    go_wp2
    go_ret
    exact ⟨ret_bool HF.out.symm, by first | exact ⟨_, rfl⟩ | exact ⟨_, World.drewN_drewN _ _ _⟩⟩
  rcases k5 : (t.s.base == t.b.base) with _ | _
  · have HF : Hid (vmach t = false) := by simp only [Hid]; rw [HV.out, k1, k2, k3, k4, k5]; rfl
    have e4 := eq_of_beq k4
    have i4 : (t.a.base != t.b.base) = false := by simp [bne, k4]
    have i5 : (t.a.base != t.s.base) = true := by
      rw [e4, bne_iff_ne]; intro h; rw [h] at k5; simp at k5
    have i6 : (t.b.base != t.s.base) = true := by rw [← e4]; exact i5
    clear k4 k5 e4
    have H1 := Lib.hid k1; clear k1
    try (have H2 := Lib.hid k2; clear k2)
    try (have H3 := Lib.hid k3; clear k3)
    go_wp2_with fail
    go_quiet ((go_at_call 106; first | (with_reducible exact quiet_of_ex (K1.out _ _ H1.out)) | (with_reducible exact quiet_of_ex (K2.out _ _ H2.out)) | (with_reducible exact quiet_of_ex (K3.out _ _ H3.out)) | (with_reducible exact quiet_add_ex (K1.out _ _ H1.out)) | (with_reducible exact quiet_add_ex (K2.out _ _ H2.out)) | (with_reducible exact quiet_add_ex (K3.out _ _ H3.out))))
    go_wp2
    go_ret
    exact ⟨ret_bool HF.out.symm, by first | exact ⟨_, rfl⟩ | exact ⟨_, World.drewN_drewN _ _ _⟩⟩
  have e4 := eq_of_beq k4
  have e5 := eq_of_beq k5
  have i4 : (t.a.base != t.b.base) = false := by simp [bne, k4]
  have i5 : (t.a.base != t.s.base) = false := by simp [e4, e5]
  obtain ⟨p1, p2, p3⟩ := ok_bd k1
  obtain ⟨p4, p5, p6⟩ := ok_bd k2
  obtain ⟨p7, p8, p9⟩ := ok_bd k3
  have HV := Lib.hid (show vmach t = ((fullB t.b && fullB t.s) && (decide (t.a.digits.length ≤ t.b.digits.length) && betB t.carry 0 (vplaces t - 1))) by rw [HV.out, k1, k2, k3, k4, k5]; simp)
  have H1 := Lib.hid k1; have H2 := Lib.hid k2; have H3 := Lib.hid k3
  have F1 := Lib.hid (fun (v : Bool) (hv : fullB t.b = v) W => calls_val (l10Full_any t.a.base t.b.digits.length W p1 p2 (by omega)) (congrArg Value.bool (show _ = v by rw [← hv]; unfold fullB; rw [e4])))
  have F2 := Lib.hid (fun (v : Bool) (hv : fullB t.s = v) W => calls_val (l10Full_any t.a.base t.s.digits.length W p1 p2 (by omega)) (congrArg Value.bool (show _ = v by rw [← hv]; unfold fullB; rw [e4, ← e5])))
  have hvp : vplaces t ≤ 16 ∧ -16 ≤ vplaces t := by unfold vplaces; omega
  clear k1 k2 k3 k4 k5 e4 e5
  go_wp2_with fail
  go_quiet ((go_at_call 106; first | (with_reducible exact quiet_of_ex (K1.out _ _ H1.out)) | (with_reducible exact quiet_of_ex (K2.out _ _ H2.out)) | (with_reducible exact quiet_of_ex (K3.out _ _ H3.out)) | (with_reducible exact quiet_add_ex (K1.out _ _ H1.out)) | (with_reducible exact quiet_add_ex (K2.out _ _ H2.out)) | (with_reducible exact quiet_add_ex (K3.out _ _ H3.out))))
  rcases f1 : fullB t.b with _ | _
  · have FF1 := Lib.hid f1; clear f1
    go_wp2_with (go_at_call 107; refine (F1.out _ FF1.out _).mono ?_; rintro e w' ⟨rfl, rfl⟩)
    go_ret
    exact ⟨ret_bool (by rw [HV.out, FF1.out]; rfl), _, rfl⟩
  rcases f2 : fullB t.s with _ | _
  · have FF1 := Lib.hid f1; have FF2 := Lib.hid f2; clear f1 f2
    go_wp2_with (go_at_call 107; first | (with_reducible refine (F1.out _ FF1.out _).mono ?_; rintro e w' ⟨rfl, rfl⟩) | (with_reducible refine (F2.out _ FF2.out _).mono ?_; rintro e w' ⟨rfl, rfl⟩))
    go_ret
    exact ⟨ret_bool (by rw [HV.out, FF1.out, FF2.out]; rfl), _, rfl⟩
  have HV := Lib.hid (show vmach t = (decide (t.a.digits.length ≤ t.b.digits.length) && betB t.carry 0 (vplaces t - 1)) by rw [HV.out, f1, f2]; simp)
  have FF1 := Lib.hid f1; have FF2 := Lib.hid f2; clear f1 f2
  by_cases k6 : t.a.digits.length ≤ t.b.digits.length
  · have i6 : (t.a.digits.length : Int) ≤ (t.b.digits.length : Int) := by omega
    have K6 := Lib.hid k6; clear k6
    go_wp2_with (go_at_call 107; first | (with_reducible refine (F1.out _ FF1.out _).mono ?_; rintro e w' ⟨rfl, rfl⟩) | (with_reducible refine (F2.out _ FF2.out _).mono ?_; rintro e w' ⟨rfl, rfl⟩))
    go_quiet ((first | (go_at_call 94; first | (with_reducible exact quiet_of_ex (KP.out _ p3 p6 p9)) | (with_reducible exact quiet_add_ex (KP.out _ p3 p6 p9)) | exact Calls.quiet_of (l10Places_any _ _ _ (by assumption) p3 p6 p9)) | (go_at_call 54; first | exact quiet_left (l00In_any _ _ _ _) | exact quiet_add_left (l00In_any _ _ _ _))))
    go_wp2
    go_ret
    exact ⟨ret_bool (by rw [HV.out, decide_eq_true K6.out]; rfl), by first | exact ⟨_, rfl⟩ | exact ⟨_, World.drewN_drewN _ _ _⟩⟩
  · have i6 : decide ((t.a.digits.length : Int) ≤ (t.b.digits.length : Int)) = false := decide_eq_false (by omega)
    have i7 : decide (t.a.digits.length ≤ t.b.digits.length) = false := decide_eq_false (by omega)
    have K6 := Lib.hid k6; clear k6
    go_wp2_with (go_at_call 107; first | (with_reducible refine (F1.out _ FF1.out _).mono ?_; rintro e w' ⟨rfl, rfl⟩) | (with_reducible refine (F2.out _ FF2.out _).mono ?_; rintro e w' ⟨rfl, rfl⟩))
    go_quiet ((first | (go_at_call 94; first | (with_reducible exact quiet_of_ex (KP.out _ p3 p6 p9)) | (with_reducible exact quiet_add_ex (KP.out _ p3 p6 p9)) | exact Calls.quiet_of (l10Places_any _ _ _ (by assumption) p3 p6 p9)) | (go_at_call 54; first | exact quiet_left (l00In_any _ _ _ _) | exact quiet_add_left (l00In_any _ _ _ _))))
    go_wp2
    go_ret
    exact ⟨ret_bool (by rw [HV.out, decide_eq_false K6.out]; rfl), by first | exact ⟨_, rfl⟩ | exact ⟨_, World.drewN_drewN _ _ _⟩⟩
end Go.Proofs.YtafnebpbfmbgiaaGreatDoor

namespace Go.Proofs.YtafnebpbfmbgiaaGreatDoor
open Go.RowKit Go.Sort
theorem l10PlacesK {w0 : World} {m : List Ent} {rest : List Value} {T : TypeId} {g : Nat} (t : Tri) (A1 A2 A3 : Option Addr) (c1 c2 c3 : Nat) (w : World) (hK : Kn w0 (.blk g (.int .i64 t.a.base :: .slice A1 t.a.digits.length c1 :: .int .i64 t.b.base :: .slice A2 t.b.digits.length c2 :: .int .i64 t.s.base :: .slice A3 t.s.digits.length c3 :: .int .i64 t.carry :: rest) T :: m) w) (h1 : t.a.digits.length ≤ 16) (h2 : t.b.digits.length ≤ 16) (_h3 : t.s.digits.length ≤ 16) :
    Calls Tryz.prog 94 #[.pointer (some ⟨g, 0, none⟩)] w fun e w' => e = .returned (.int .i64 (vplaces t)) ∧ ∃ q, w' = w.drewN q := by
  obtain ⟨a1, a2, a3⟩ := hK.blkAt
  clear hK
  go_enter Tryz.func94, Tryz.ntmps94
  go_wp2_with fail
  go_quiet ((go_at_call 134; exact quiet_left (l00Min_any _ _ _)))
  go_wp2
  go_ret
  exact ⟨ret_int (by unfold vplaces; omega), _, rfl⟩
set_option maxHeartbeats 1600000 in
theorem l10ShiftK {w0 : World} {m : List Ent} {rest : List Value} {T : TypeId} {g : Nat} (t : Tri) (A1 A2 A3 : Option Addr) (c1 c2 c3 : Nat) (by_ : Int) (w : World) (hK : Kn w0 (.blk g (.int .i64 t.a.base :: .slice A1 t.a.digits.length c1 :: .int .i64 t.b.base :: .slice A2 t.b.digits.length c2 :: .int .i64 t.s.base :: .slice A3 t.s.digits.length c3 :: .int .i64 t.carry :: rest) T :: m) w) (hv : vmach t = true) (hb : by_ = 1 ∨ by_ = -1) :
    Calls Tryz.prog 130 #[.pointer (some ⟨g, 0, none⟩), .int .i64 by_] w fun e w' => 
      (betB (t.carry + by_) 0 (vplaces t - 1) = true → e = .returned (.bool false) ∧ Kn w0 (.blk g (.int .i64 t.a.base :: .slice A1 t.a.digits.length c1 :: .int .i64 t.b.base :: .slice A2 t.b.digits.length c2 :: .int .i64 t.s.base :: .slice A3 t.s.digits.length c3 :: .int .i64 (t.carry + by_) :: rest) T :: m) w') ∧ (betB (t.carry + by_) 0 (vplaces t - 1) = false → e = .returned (.bool true) ∧ Kn w0 (.blk g (.int .i64 t.a.base :: .slice A1 t.a.digits.length c1 :: .int .i64 t.b.base :: .slice A2 t.b.digits.length c2 :: .int .i64 t.s.base :: .slice A3 t.s.digits.length c3 :: .int .i64 t.carry :: rest) T :: m) w') := by
  obtain ⟨k1, k2, k3, e1, e2, f1, f2, l1, p0, p1⟩ := vmach_all hv
  obtain ⟨-, ⟨n1, n2⟩, -, -⟩ := vreg_iff.1 k1
  obtain ⟨-, ⟨n3, n4⟩, -, -⟩ := vreg_iff.1 k2
  obtain ⟨-, ⟨n5, n6⟩, -, -⟩ := vreg_iff.1 k3
  have hp1 : -16 ≤ vplaces t ∧ vplaces t ≤ 16 := by unfold vplaces; omega
  have KP := Lib.hid (fun W (h : Kn w0 (.blk g (.int .i64 t.a.base :: .slice A1 t.a.digits.length c1 :: .int .i64 t.b.base :: .slice A2 t.b.digits.length c2 :: .int .i64 t.s.base :: .slice A3 t.s.digits.length c3 :: .int .i64 t.carry :: rest) T :: m) W) => l10PlacesK t A1 A2 A3 c1 c2 c3 W h n2 n4 n6)
  have hw := wrapI64 (n := t.carry + by_) (by omega)
  have hw2 := wrapI64 (n := vplaces t - 1) (by omega)
  obtain ⟨P, hP⟩ : ∃ P, vplaces t = P := ⟨_, rfl⟩
  rw [hP] at KP hw2 hp1 p1 ⊢
  obtain ⟨a1, a2, a3⟩ := hK.blkAt
  clear k1 k2 k3 f1 f2 l1 n1 n2 n3 n4 n5 n6 hP e1 e2 hv
  rcases hbt : betB (t.carry + by_) 0 (P - 1) with _ | _
  · have KI := Lib.hid (fun W => calls_val (l00In_any (t.carry + by_) 0 (P - 1) W) (congrArg Value.bool hbt))
    clear hbt
    go_enter Tryz.func130, Tryz.ntmps130
    go_wp2_with fail
    go_quiet ((first | (go_at_call 94; first | exact quiet_of_ex (KP.out _ (hK.drewN _)) | exact quiet_add_ex (KP.out _ (hK.drewN _))) | (go_at_call 54; first | exact quiet_left (KI.out _) | exact quiet_add_left (KI.out _))))
    go_wp2_with fail
    go_ret
    exact ⟨(fun h => by cases h), fun _ => ⟨rfl, hK.drewN _⟩⟩
  · have KI := Lib.hid (fun W => calls_val (l00In_any (t.carry + by_) 0 (P - 1) W) (congrArg Value.bool hbt))
    clear hbt
    go_enter Tryz.func130, Tryz.ntmps130
    go_wp2_with fail
    go_quiet ((first | (go_at_call 94; first | exact quiet_of_ex (KP.out _ (hK.drewN _)) | exact quiet_add_ex (KP.out _ (hK.drewN _))) | (go_at_call 54; first | exact quiet_left (KI.out _) | exact quiet_add_left (KI.out _))))
    go_wp2_with fail
    go_ret
    exact ⟨fun _ => ⟨rfl, (hK.drewN _).st 6 _⟩, (fun h => by cases h)⟩
end Go.Proofs.YtafnebpbfmbgiaaGreatDoor

namespace Go.Proofs.YtafnebpbfmbgiaaGreatDoor
open Go.RowKit Go.Sort
set_option maxRecDepth 100000 in
set_option maxHeartbeats 1600000 in
theorem l10Move_any (p : Addr) (b : Int) (A : Option Addr) (c : Nat) (ds : List Int) (x : Int) (w : World) (hp : RegAt w p b A ds.length c) (hr : RI w A ds.length ds) (hv : vreg b ds = true) (hpw : pw b ds.length ≤ 1000000000001) (hx0 : -1000000000001 ≤ x) (hx1 : x ≤ 1000000000001) :
    Calls Tryz.prog 157 #[.pointer (some p), .int .i64 x] w fun e w' => ∃ A' c', e = .returned (.tuple #[.agg #[.int .i64 b, .slice A' (shiftD b ds x).length c'], .bool (shiftB b ds x)]) ∧ Kn w [rowI A' c' (shiftD b ds x)] w' := by
  obtain ⟨⟨b1, b2⟩, ⟨n1, n2⟩, hd, hl⟩ := vreg_iff.1 hv
  have hp1 := pw_pos b b1 ds.length
  have hv0 := (valL_bd b b1 ds (fun d h => (hd d h).1)).1
  have KN := (fun W => l10Power_any b ds.length W b1 b2 (by omega))
  have hpc : powS b ds.length = pw b ds.length := by unfold powS; omega
  rw [hpc] at KN
  have KV := (fun W (hW : Below w.heap.size w W) => l02Value_any b A ds.length c ds W b1 b2 hd (hr.below hW) n2)
  have hsd : shiftD b ds x = digD b ds.length (((valL b ds + x).tmod (pw b ds.length) + pw b ds.length).tmod (pw b ds.length)) := rfl
  have hsb : shiftB b ds x = (decide (valL b ds + x < 0) || decide (pw b ds.length ≤ valL b ds + x)) := rfl
  obtain ⟨N, hN⟩ : ∃ N, pw b ds.length = N := ⟨_, rfl⟩
  obtain ⟨V, hV⟩ : ∃ V, valL b ds = V := ⟨_, rfl⟩
  rw [hN] at KN hsd hsb hpw hp1
  rw [hV] at KV hsd hsb hv0 hl
  obtain ⟨S, hS⟩ : ∃ S, V + x = S := ⟨_, rfl⟩
  rw [hS] at hsd hsb
  have hSb : -1000000000001 ≤ S ∧ S ≤ 2000000000001 := by omega
  have hm1 : -N < S.tmod N ∧ S.tmod N < N := by
    have h1 := Int.tmod_lt_of_pos S (show 0 < N by omega)
    have h2 := Int.lt_tmod_of_pos S (show 0 < N by omega)
    omega
  have hm2 : 0 ≤ (S.tmod N + N).tmod N ∧ (S.tmod N + N).tmod N < N := ⟨Int.tmod_nonneg _ (by omega), Int.tmod_lt_of_pos _ (by omega)⟩
  have hwr : IntKind.i64.wrap (S.tmod N + N) = S.tmod N + N := wrapI64 (by omega)
  have hwn : IntKind.i64.wrap (N - 1) = N - 1 := wrapI64 (by omega)
  have nz1 : N ≠ 0 := by omega
  have nz2 : (N == 0) = false := by simp; omega
  have nz3 : ¬ N = 0 := by omega
  have KW := (fun W => l02NewV_any b ds.length ((S.tmod N + N).tmod N) W b1 b2 (by omega) hm2.1 (by omega))
  rw [← hsd] at KW
  obtain ⟨es, hes⟩ : ∃ es, shiftD b ds x = es := ⟨_, rfl⟩
  rw [hes] at KW ⊢
  obtain ⟨bell, hbl⟩ : ∃ e, shiftB b ds x = e := ⟨_, rfl⟩
  have HSB := Lib.hid (show (!betB S 0 (N - 1)) = bell by
    rw [← hbl, hsb]
    rcases hb : betB S 0 (N - 1) with _ | _
    · have := betB_false.1 hb
      simp; omega
    · have := betB_iff.1 hb
      simp; omega)
  rw [hbl]
  have KI := Lib.hid (fun W => l00In_any S 0 (N - 1) W)
  have KN := Lib.hid KN
  have KV := Lib.hid KV
  have KW := Lib.hid KW
  have hSe : IntKind.i64.wrap (V + x) = S := by rw [hS]; exact wrapI64 (by omega)
  have HSE := Lib.hid hS
  have hV2 : -9223372036854775808 ≤ V + x ∧ V + x ≤ 9223372036854775807 := by omega
  have HP := Lib.hid (fun W (hW : Below w.heap.size w W) => hp.below hW)
  clear hsd hsb hes hbl hr hv hd hl hpc hN hV hS hp hSe
  go_enter Tryz.func157, Tryz.ntmps157
  go_wp2_with (first
    | (refine wpList.kn ((Kn.nil w).al [.int .i64 0, .slice none 0 0] 30) ?_; intro w2 hK2; obtain ⟨x1, x2⟩ := HP.out _ hK2.below)
    | (go_at_call 127; refine (KN.out _).mono ?_; rintro e w' ⟨rfl, rfl⟩))
  go_quiet ((go_at_call 145; exact quiet_left (KV.out _ (hK2.drewN _).below)))
  clear x1 x2
  have hK3 := hK2.drewN nq
  generalize w2.drewN nq = w3 at hK3 ⊢
  rw [HSE.out]
  have hq := HP.out _ hK3.drew.below
  have HG := Lib.hid (show _ ∧ _ from hq)
  have hq0 := HP.out _ (hK3.al [.int .i64 0, .slice none 0 0] 30).drew.below
  have HA := Lib.hid (show _ ∧ _ from hq0)
  have HS := HG
  clear hq hq0
  go_wp2_with fail
  go_cut [9] (fun pp wx => ∃ (g : Nat) (A' : Option Addr) (c' : Nat), pp = .pointer (some ⟨g, 0, none⟩) ∧ Kn w [.blk g [.int .i64 b, .slice A' es.length c'] 30, rowI A' c' es, .blk w.heap.size [.int .i64 0, .slice none 0 0] 30] wx)
  case first =>
    go_region_held3 (fun W => W.cell? p = some (.int .i64 b) ∧ W.cell? ⟨p.block, p.off + 1, none⟩ = some (.slice A ds.length c))
      (first | with_reducible exact HG.out | with_reducible exact HA.out | with_reducible exact HS.out | exact HG.out | exact HA.out | exact HS.out) (first
      | (go_at_call 128; (with_reducible refine (KW.out _).mono ?_); rintro e w4 ⟨A', c', rfl, hK⟩; clear HG HA; first
        | (have hK4 := hK3.drew.join hK; have hq := HP.out _ hK4.below; have HG := Lib.hid (show _ ∧ _ from hq); have hq1 := HP.out _ (hK4.al [.int .i64 0, .slice none 0 0] 30).below; have HA := Lib.hid (show _ ∧ _ from hq1); have hK5 := hK4.al [.int .i64 b, .slice A' es.length c'] 30; have hq2 := HP.out _ hK5.below; have HS := Lib.hid (show _ ∧ _ from hq2))
        | (have hK4 := (hK3.al [.int .i64 0, .slice none 0 0] 30).drew.join hK; have hq := HP.out _ hK4.below; have HG := Lib.hid (show _ ∧ _ from hq); obtain ⟨g1, f1, l1⟩ := hK4.drop.blkAt; have HA := HG; have hK5 := (hK4.sw1.st 0 (.int .i64 b)).st 1 (.slice A' es.length c'); have hq2 := HP.out _ hK5.below; have HS := Lib.hid (show _ ∧ _ from hq2))))
    all_goals
      go_wp2_with fail
      go_meet
      exact ⟨_, _, _, rfl, hK5⟩
  case rest =>
    obtain ⟨g, A', c', rfl, hK5⟩ := hcut
    clear HG HA HS KN KV KW hK2 hK3
    obtain ⟨a1, a2, a3, d1, d2, d3, -⟩ := hK5.cells
    go_wp2_with fail
    have HG := Lib.hid (box2 hK5.drew)
    have hK6 := ((hK5.sw2.st 0 (.int .i64 b)).st 1 (.slice A' es.length c')).drew
    have HS := Lib.hid (box2 hK6.drop)
    go_region_held3 (fun W => W.cell? ⟨g, 0, none⟩ = some (.int .i64 b) ∧ W.cell? ⟨g, 1, none⟩ = some (.slice A' es.length c'))
      (first | with_reducible exact HG.out | with_reducible exact HS.out | exact HG.out) (first
      | (go_at_call 54; (with_reducible refine (KI.out _).mono ?_); rintro e w7 ⟨rfl, rfl⟩))
    all_goals
      go_wp2_with fail
      refine bodyPost_ret (v := .tuple #[.agg #[.int .i64 b, .slice A' es.length c'], .bool bell]) (by simp [results, Tryz.results157, go_sem, d1]; first | exact HSB.out | (have := HSB.out; simp_all)) rfl ⟨A', c', rfl, ?_⟩
      exact hK6.drop.drop
end Go.Proofs.YtafnebpbfmbgiaaGreatDoor

namespace Go.Proofs.YtafnebpbfmbgiaaGreatDoor
open Go.RowKit Go.Sort
/-- the machine in block g, and its numbers -/
def MB (w0 : World) (g : Nat) (rest : List Value) (T : TypeId) (k : Tri) (m : List Ent) (w : World) : Prop := ∃ B1 d1 B2 d2 B3 d3, Kn w0 (.blk g (.int .i64 k.a.base :: .slice B1 k.a.digits.length d1 :: .int .i64 k.b.base :: .slice B2 k.b.digits.length d2 :: .int .i64 k.s.base :: .slice B3 k.s.digits.length d3 :: .int .i64 k.carry :: rest) T :: rowI B3 d3 k.s.digits :: rowI B2 d2 k.b.digits :: rowI B1 d1 k.a.digits :: m) w
set_option maxRecDepth 100000 in
set_option maxHeartbeats 1600000 in
theorem l10TurnK {w0 : World} {m : List Ent} {rest : List Value} {T : TypeId} {g : Nat} (t : Tri) (sign : Int) (w : World) (hM : MB w0 g rest T t m w) (hv : vmach t = true) (hs : sign = 1 ∨ sign = -1) :
    Calls Tryz.prog 129 #[.pointer (some ⟨g, 0, none⟩), .int .i64 sign] w fun e w' => e = .returned (.bool (turnT t sign).2) ∧ MB w0 g rest T (turnT t sign).1 m w' := by
  obtain ⟨A1, c1, A2, c2, A3, c3, hK⟩ := hM
  obtain ⟨k1, k2, k3, e1, e2, f1, f2, l1, p0, p1⟩ := vmach_all hv
  obtain ⟨u1, u2, u3, u4⟩ := turn_bd hv
  obtain ⟨⟨b1, b2⟩, ⟨n1, n2⟩, hd1, -⟩ := vreg_iff.1 k1
  obtain ⟨⟨b3, b4⟩, ⟨n3, n4⟩, hd2, -⟩ := vreg_iff.1 k2
  obtain ⟨⟨b5, b6⟩, ⟨n5, n6⟩, hd3, -⟩ := vreg_iff.1 k3
  have HT := Lib.hid (show turnT t sign = (⟨t.a, ⟨t.b.base, shiftD t.b.base t.b.digits (sign * (valL t.a.base t.a.digits * pw t.b.base t.carry.toNat))⟩, ⟨t.s.base, shiftD t.s.base t.s.digits (sign * pw t.b.base t.carry.toNat)⟩, t.carry⟩, shiftB t.b.base t.b.digits (sign * (valL t.a.base t.a.digits * pw t.b.base t.carry.toNat))) from rfl)
  have KP := (fun W => l10Power_any t.a.base t.carry.toNat W b1 b2 (by unfold vplaces at p1; omega))
  have hpc : powS t.a.base t.carry.toNat = pw t.b.base t.carry.toNat := by rw [e1]; unfold powS; omega
  rw [hpc, show ((t.carry.toNat : Nat) : Int) = t.carry by omega] at KP
  have KV := (fun W (hW : Kn w0 (.blk g (.int .i64 t.a.base :: .slice A1 t.a.digits.length c1 :: .int .i64 t.b.base :: .slice A2 t.b.digits.length c2 :: .int .i64 t.s.base :: .slice A3 t.s.digits.length c3 :: .int .i64 t.carry :: rest) T :: rowI A3 c3 t.s.digits :: rowI A2 c2 t.b.digits :: rowI A1 c1 t.a.digits :: m) W) => l02Value_any t.a.base A1 t.a.digits.length c1 t.a.digits W b1 b2 hd1 hW.drop.drop.drop.riv n2)
  obtain ⟨U, hU⟩ : ∃ U, pw t.b.base t.carry.toNat = U := ⟨_, rfl⟩
  obtain ⟨V, hV⟩ : ∃ V, valL t.a.base t.a.digits = V := ⟨_, rfl⟩
  rw [hU] at KP HT u1 u2 u3 u4
  rw [hV] at KV HT u3 u4
  obtain ⟨X, hX⟩ : ∃ X, sign * (V * U) = X := ⟨_, rfl⟩
  obtain ⟨Y, hY⟩ : ∃ Y, sign * U = Y := ⟨_, rfl⟩
  rw [hX, hY] at HT
  have hXb : -1000000000001 ≤ X ∧ X ≤ 1000000000001 := by rcases hs with rfl | rfl <;> omega
  have hYb : -1000000000001 ≤ Y ∧ Y ≤ 1000000000001 := by rcases hs with rfl | rfl <;> omega
  have hYX : Y * V = X := by rw [← hX, ← hY, Int.mul_assoc, Int.mul_comm U V]
  have w1' : IntKind.i64.wrap (sign * U) = Y := by rw [hY]; exact wrapI64 (by omega)
  have w2' : IntKind.i64.wrap (Y * V) = X := by rw [hYX]; exact wrapI64 (by omega)
  have KM2 := (fun W (hW : Kn w0 (.blk g (.int .i64 t.a.base :: .slice A1 t.a.digits.length c1 :: .int .i64 t.b.base :: .slice A2 t.b.digits.length c2 :: .int .i64 t.s.base :: .slice A3 t.s.digits.length c3 :: .int .i64 t.carry :: rest) T :: rowI A3 c3 t.s.digits :: rowI A2 c2 t.b.digits :: rowI A1 c1 t.a.digits :: m) W) => l10Move_any ⟨g, 2, none⟩ t.b.base A2 c2 t.b.digits X W ⟨hW.blkAt.1 2, hW.blkAt.1 3⟩ hW.drop.drop.riv k2 f1 hXb.1 hXb.2)
  have KM3 := (fun W (hW : Kn w0 (.blk g (.int .i64 t.a.base :: .slice A1 t.a.digits.length c1 :: .int .i64 t.b.base :: .slice A2 t.b.digits.length c2 :: .int .i64 t.s.base :: .slice A3 t.s.digits.length c3 :: .int .i64 t.carry :: rest) T :: rowI A3 c3 t.s.digits :: rowI A2 c2 t.b.digits :: rowI A1 c1 t.a.digits :: m) W) => l10Move_any ⟨g, 4, none⟩ t.s.base A3 c3 t.s.digits Y W ⟨hW.blkAt.1 4, hW.blkAt.1 5⟩ hW.drop.riv k3 f2 hYb.1 hYb.2)
  obtain ⟨es, hes⟩ : ∃ es, shiftD t.b.base t.b.digits X = es := ⟨_, rfl⟩
  obtain ⟨fs, hfs⟩ : ∃ fs, shiftD t.s.base t.s.digits Y = fs := ⟨_, rfl⟩
  obtain ⟨bell, hbl⟩ : ∃ e, shiftB t.b.base t.b.digits X = e := ⟨_, rfl⟩
  obtain ⟨bell2, hbl2⟩ : ∃ e, shiftB t.s.base t.s.digits Y = e := ⟨_, rfl⟩
  rw [hes, hbl] at KM2
  rw [hfs, hbl2] at KM3
  rw [hes, hfs, hbl] at HT
  rw [HT.out]
  have KP := Lib.hid KP
  have KV := Lib.hid KV
  have KM2 := Lib.hid KM2
  have KM3 := Lib.hid KM3
  have HW1 := Lib.hid w1'
  have HW2 := Lib.hid w2'
  have HY := Lib.hid hY
  have hYo : -9223372036854775808 ≤ sign * U ∧ sign * U ≤ 9223372036854775807 := by rw [hY]; omega
  have hXo : -9223372036854775808 ≤ sign * U * V ∧ sign * U * V ≤ 9223372036854775807 := by rw [hY, hYX]; omega
  clear hpc hU hV hX hY hYX w1' w2' hes hfs hbl hbl2 hd1 hd2 hd3 hv k1 k2 k3 e1 e2 hs
  obtain ⟨a1, a2, a3⟩ := hK.blkAt
  go_enter Tryz.func129, Tryz.ntmps129
  go_wp2_with fail
  go_quiet ((go_at_call 127; exact quiet_left (KP.out _)))
  have hK1 := hK.drewN nq
  generalize w.drewN nq = w1 at hK1 ⊢
  clear hK a1 a2 a3
  obtain ⟨a1, a2, a3⟩ := hK1.blkAt
  go_wp2_with fail
  have HG := Lib.hid (box2 hK1.drew)
  have HA := Lib.hid (box2 (hK1.al [.int .i64 0, .slice none 0 0] 30).drew.drop)
  have HS := HG
  go_cut [6, 7] (fun pp oo wx => ∃ (g6 : Nat) (A' : Option Addr) (c' : Nat), pp = .pointer (some ⟨g6, 0, none⟩) ∧ oo = .bool bell ∧ Kn w0 (.blk g6 [.int .i64 t.b.base, .slice A' es.length c'] 30 :: rowI A' c' es :: .blk g (.int .i64 t.a.base :: .slice A1 t.a.digits.length c1 :: .int .i64 t.b.base :: .slice A2 t.b.digits.length c2 :: .int .i64 t.s.base :: .slice A3 t.s.digits.length c3 :: .int .i64 t.carry :: rest) T :: rowI A3 c3 t.s.digits :: rowI A2 c2 t.b.digits :: rowI A1 c1 t.a.digits :: m) wx)
  case first =>
    go_region_held3 (fun W => W.cell? ⟨g, 0, none⟩ = some (.int .i64 t.a.base) ∧ W.cell? ⟨g, 1, none⟩ = some (.slice A1 t.a.digits.length c1))
      (first | with_reducible exact HG.out | with_reducible exact HA.out | with_reducible exact HS.out | exact HG.out | exact HA.out | exact HS.out) (first
      | (go_at_call 145; first | ((with_reducible refine (KV.out _ hK1.drew).mono ?_); rintro e w7 ⟨rfl, rfl⟩) | ((with_reducible refine (KV.out _ (hK1.al [.int .i64 0, .slice none 0 0] 30).drew.drop).mono ?_); rintro e w7 ⟨rfl, rfl⟩))
      | (go_at_call 157; rw [HW1.out, HW2.out]; clear HG HA; first
        | ((with_reducible refine (KM2.out _ hK1.drew).mono ?_); rintro e w4 ⟨A', c', rfl, hK⟩; have hK4 := hK1.drew.join hK; have HG := Lib.hid (box2 hK4.drop); have HA := Lib.hid (box2 (hK4.al [.int .i64 0, .slice none 0 0] 30).drop.drop); have hK5 := hK4.al [.int .i64 t.b.base, .slice A' es.length c'] 30; have HS := Lib.hid (box2 hK5.drop.drop))
        | ((refine (KM2.out _ (hK1.al [.int .i64 0, .slice none 0 0] 30).drew.drop).mono ?_); rintro e w4 ⟨A', c', rfl, hK⟩; have hK4 := (hK1.al [.int .i64 0, .slice none 0 0] 30).drew.join hK; have HG := Lib.hid (box2 hK4.drop.drop); obtain ⟨g1, f1, l1⟩ := hK4.drop.blkAt; have HA := HG; have hK5 := (hK4.sw1.st 0 (.int .i64 t.b.base)).st 1 (.slice A' es.length c'); have HS := Lib.hid (box2 hK5.drop.drop))))
    all_goals
      go_wp2_with fail
      go_meet
      exact ⟨_, _, _, rfl, rfl, hK5⟩
  case rest =>
    obtain ⟨g6, A', c', rfl, rfl, hK5⟩ := hcut
    clear HG HA HS KP KV KM2 hK1 a1 a2 a3
    obtain ⟨x1, x2, x3, a1, a2, a3, -⟩ := hK5.cells
    go_wp2_with fail
    rw [HY.out]
    refine (KM3.out _ hK5.drop.drop).mono ?_; rintro e w4 ⟨A2', c2', rfl, hK⟩
    have hK6 := hK5.join hK
    clear x1 x2 x3 a1 a2 a3
    obtain ⟨x1, x2, x3, a1, a2, a3, -⟩ := hK6.cells
    have hK7 := ((((hK6.sw3.st 2 (.int .i64 t.b.base)).st 3 (.slice A' es.length c')).st 4 (.int .i64 t.s.base)).st 5 (.slice A2' fs.length c2')).al [.int .i64 t.s.base, .slice A2' fs.length c2'] 30
    go_wp2_with fail
    go_ret
    refine ⟨rfl, A1, c1, A', c', A2', c2', ?_⟩
    refine Kn.only hK7 (by repeat (first | exact List.Sublist.refl _ | apply List.Sublist.cons_cons | apply List.Sublist.cons))
end Go.Proofs.YtafnebpbfmbgiaaGreatDoor

namespace Go.Proofs.YtafnebpbfmbgiaaGreatDoor
open Go.RowKit Go.Sort
theorem MB.congr {w0 w : World} {g : Nat} {rest : List Value} {T : TypeId} {k k' : Tri} {m : List Ent} (h : MB w0 g rest T k m w) (e : k = k') : MB w0 g rest T k' m w := e ▸ h
theorem l10ShiftM {w0 : World} {m : List Ent} {rest : List Value} {T : TypeId} {g : Nat} (t : Tri) (k by_ : Int) (w : World) (hM : MB w0 g rest T t m w) (hv : vmach t = true) (hb : (k = 3 ∧ by_ = 1) ∨ (k = 4 ∧ by_ = -1)) :
    Calls Tryz.prog 130 #[.pointer (some ⟨g, 0, none⟩), .int .i64 by_] w fun e w' => e = .returned (.bool (strokeT k t).2) ∧ MB w0 g rest T (strokeT k t).1 m w' := by
  obtain ⟨A1, c1, A2, c2, A3, c3, hK⟩ := hM
  obtain ⟨-, -, -, -, -, -, -, -, p0, p1⟩ := vmach_all hv
  refine (l10ShiftK t A1 A2 A3 c1 c2 c3 by_ w hK hv (by omega)).mono ?_
  rintro e w' ⟨h1, h2⟩
  rcases hbt : betB (t.carry + by_) 0 (vplaces t - 1) with _ | _
  · obtain ⟨rfl, hK'⟩ := h2 hbt
    have := betB_false.1 hbt
    have hs : strokeT k t = (t, true) := by
      rcases hb with ⟨rfl, rfl⟩ | ⟨rfl, rfl⟩
      · unfold strokeT; rw [if_neg (by decide), if_neg (by decide), if_pos rfl, if_pos (by omega)]
      · unfold strokeT; rw [if_neg (by decide), if_neg (by decide), if_neg (by decide), if_pos rfl, if_pos (by omega)]
    rw [hs]
    exact ⟨rfl, A1, c1, A2, c2, A3, c3, hK'⟩
  · obtain ⟨rfl, hK'⟩ := h1 hbt
    have := betB_iff.1 hbt
    have hs : strokeT k t = ({ t with carry := t.carry + by_ }, false) := by
      rcases hb with ⟨rfl, rfl⟩ | ⟨rfl, rfl⟩
      · unfold strokeT; rw [if_neg (by decide), if_neg (by decide), if_pos rfl, if_neg (by omega)]
      · unfold strokeT; rw [if_neg (by decide), if_neg (by decide), if_neg (by decide), if_pos rfl, if_neg (by omega)]; rfl
    rw [hs]
    exact ⟨rfl, A1, c1, A2, c2, A3, c3, hK'⟩
set_option maxRecDepth 100000 in
set_option maxHeartbeats 1600000 in
theorem l10DoK {w0 : World} {m : List Ent} {rest : List Value} {T : TypeId} {g : Nat} (t : Tri) (k : Int) (w : World) (hM : MB w0 g rest T t m w) (hv : vmach t = true) (hk : 1 ≤ k ∧ k ≤ 6) :
    Calls Tryz.prog 91 #[.pointer (some ⟨g, 0, none⟩), .int .i64 k] w fun e w' => e = .returned (.bool (strokeT k t).2) ∧ MB w0 g rest T (strokeT k t).1 m w' := by
  have hk' : k = 1 ∨ k = 2 ∨ k = 3 ∨ k = 4 ∨ k = 5 ∨ k = 6 := by omega
  clear hk
  rcases hk' with rfl | rfl | rfl | rfl | rfl | rfl
  · have KT := Lib.hid (l10TurnK t 1 w hM hv (.inl rfl))
    obtain ⟨r, hr⟩ : ∃ r, strokeT 1 t = r := ⟨_, rfl⟩
    have HR := Lib.hid (show turnT t 1 = r by rw [← hr]; rfl)
    rw [hr]
    clear hr hM hv
    go_enter Tryz.func91, Tryz.ntmps91
    go_wp2_with (go_at_call 129; refine KT.out.mono ?_; rw [HR.out]; rintro e w' ⟨rfl, hM⟩)
    go_ret
    exact ⟨rfl, hM⟩
  · have KT := Lib.hid (l10TurnK t (-1) w hM hv (.inr rfl))
    obtain ⟨r, hr⟩ : ∃ r, strokeT 2 t = r := ⟨_, rfl⟩
    have HR := Lib.hid (show turnT t (-1) = r by rw [← hr]; rfl)
    rw [hr]
    clear hr hM hv
    go_enter Tryz.func91, Tryz.ntmps91
    go_wp2_with (go_at_call 129; refine KT.out.mono ?_; rw [HR.out]; rintro e w' ⟨rfl, hM⟩)
    go_ret
    exact ⟨rfl, hM⟩
  · have KT := (l10ShiftM t 3 1 w hM hv (.inl ⟨rfl, rfl⟩))
    obtain ⟨r, hr⟩ : ∃ r, strokeT 3 t = r := ⟨_, rfl⟩
    rw [hr] at KT ⊢
    have KT := Lib.hid KT
    clear hr hM hv
    go_enter Tryz.func91, Tryz.ntmps91
    go_wp2_with (go_at_call 130; refine KT.out.mono ?_; rintro e w' ⟨rfl, hM⟩)
    go_ret
    exact ⟨rfl, hM⟩
  · have KT := (l10ShiftM t 4 (-1) w hM hv (.inr ⟨rfl, rfl⟩))
    obtain ⟨r, hr⟩ : ∃ r, strokeT 4 t = r := ⟨_, rfl⟩
    rw [hr] at KT ⊢
    have KT := Lib.hid KT
    clear hr hM hv
    go_enter Tryz.func91, Tryz.ntmps91
    go_wp2_with (go_at_call 130; refine KT.out.mono ?_; rintro e w' ⟨rfl, hM⟩)
    go_ret
    exact ⟨rfl, hM⟩
  · obtain ⟨k1, k2, k3, -⟩ := vmach_all hv
    obtain ⟨-, ⟨n3, n4⟩, -, -⟩ := vreg_iff.1 k2
    obtain ⟨-, ⟨n5, n6⟩, -, -⟩ := vreg_iff.1 k3
    have hS : strokeT 5 t = (⟨t.a, ⟨t.b.base, List.replicate t.b.digits.length 0⟩, ⟨t.s.base, List.replicate t.s.digits.length 0⟩, t.carry⟩, false) := by unfold strokeT; simp [digD_zero]
    rw [hS]
    obtain ⟨A1, c1, A2, c2, A3, c3, hK⟩ := hM
    clear hS hv k1 k2 k3
    obtain ⟨a1, a2, a3⟩ := hK.blkAt
    go_enter Tryz.func91, Tryz.ntmps91
    go_wp2_with fail
    refine (l10ZeroK (cs := (.int .i64 t.a.base :: .slice A1 t.a.digits.length c1 :: .int .i64 t.b.base :: .slice A2 t.b.digits.length c2 :: .int .i64 t.s.base :: .slice A3 t.s.digits.length c3 :: .int .i64 t.carry :: rest)) (o := 2) A2 c2 t.b.digits w hK.sw2 rfl (by omega) (by omega)).mono ?_; rintro e w1 ⟨rfl, hK1⟩
    go_wp2_with fail
    refine (l10ZeroK (cs := (.int .i64 t.a.base :: .slice A1 t.a.digits.length c1 :: .int .i64 t.b.base :: .slice A2 t.b.digits.length c2 :: .int .i64 t.s.base :: .slice A3 t.s.digits.length c3 :: .int .i64 t.carry :: rest)) (o := 4) A3 c3 t.s.digits w1 (hK1.sw1.sw2) rfl (by omega) (by omega)).mono ?_; rintro e w2 ⟨rfl, hK2⟩
    go_wp2_with fail
    go_ret
    refine ⟨rfl, A1, c1, A2, c2, A3, c3, ?_⟩
    simp only [List.length_replicate]
    exact hK2.sw1
  · obtain ⟨k1, k2, k3, -⟩ := vmach_all hv
    obtain ⟨-, ⟨n1, n2⟩, -, -⟩ := vreg_iff.1 k1
    have hS : strokeT 6 t = ({ t with a := ⟨t.a.base, List.replicate t.a.digits.length 0⟩ }, false) := by unfold strokeT; simp [digD_zero]
    rw [hS]
    obtain ⟨A1, c1, A2, c2, A3, c3, hK⟩ := hM
    clear hS hv k1 k2 k3
    go_enter Tryz.func91, Tryz.ntmps91
    go_wp2_with fail
    refine (l10ZeroK (cs := (.int .i64 t.a.base :: .slice A1 t.a.digits.length c1 :: .int .i64 t.b.base :: .slice A2 t.b.digits.length c2 :: .int .i64 t.s.base :: .slice A3 t.s.digits.length c3 :: .int .i64 t.carry :: rest)) (o := 0) A1 c1 t.a.digits w hK.sw3 rfl (by omega) (by omega)).mono ?_; rintro e w1 ⟨rfl, hK1⟩
    go_wp2_with fail
    go_ret
    refine ⟨rfl, A1, c1, A2, c2, A3, c3, ?_⟩
    simp only [List.length_replicate]
    exact hK1.sw3.sw3.sw3
end Go.Proofs.YtafnebpbfmbgiaaGreatDoor

namespace Go.Proofs.YtafnebpbfmbgiaaGreatDoor
open Go.RowKit Go.Sort
/-- the program's runner in block g -/
def RunI (w0 : World) (g : Nat) (LV : Value) (s : RS) (m : List Ent) (w : World) : Prop := ∃ SA sc, MB w0 g [LV, .int .i64 (s.done : Int), .slice SA s.tr.length sc, .int .i64 s.code] 100 s.m (rowI SA sc s.tr :: m) w
/-- the reference's runner in block g -/
def RunS (w0 : World) (g : Nat) (LV : Value) (s : RS) (bell : Bool) (m : List Ent) (w : World) : Prop := ∃ SA sc, MB w0 g [LV, .slice SA s.tr.length sc, .int .i64 (s.done : Int), .bool bell, .int .i64 s.code] 105 s.m (rowI SA sc s.tr :: m) w
theorem counted_full {w0 : World} {g : Nat} {LV : Value} {m : List Ent} (s : RS) (w : World) (hM : RunI w0 g LV s m w) (hc : s.code = 0) (hd : s.done = 3000) :
    Calls Tryz.prog 139 #[.pointer (some ⟨g, 0, none⟩)] w fun e w' => e = .returned (.bool false) ∧ RunI w0 g LV ⟨s.m, s.tr, s.done + 1, 5⟩ m w' := by
  obtain ⟨SA, sc, A1, c1, A2, c2, A3, c3, hK⟩ := hM
  obtain ⟨a1, a2, a3⟩ := hK.blkAt
  have h1 : ((s.done : Int) == 3000) = true := by simp; omega
  have h2 : (s.code == 0) = true := by simp [hc]
  have hb : (s.done : Int) ≤ 3000 := by omega
  clear hc hd
  go_enter Tryz.func139, Tryz.ntmps139
  go_wp2_with fail
  go_ret
  exact ⟨rfl, SA, sc, A1, c1, A2, c2, A3, c3, (hK.st 10 _).st 8 _⟩
theorem counted_ok {w0 : World} {g : Nat} {LV : Value} {m : List Ent} (s : RS) (w : World) (hM : RunI w0 g LV s m w) (hc : s.code = 0) (hd : ¬ s.done = 3000) (hb : s.done ≤ 3000) :
    Calls Tryz.prog 139 #[.pointer (some ⟨g, 0, none⟩)] w fun e w' => e = .returned (.bool true) ∧ RunI w0 g LV ⟨s.m, s.tr, s.done + 1, 0⟩ m w' := by
  obtain ⟨SA, sc, A1, c1, A2, c2, A3, c3, hK⟩ := hM
  obtain ⟨a1, a2, a3⟩ := hK.blkAt
  have h1 : ((s.done : Int) == 3000) = false := by simp; omega
  have h2 : (s.code == 0) = true := by simp [hc]
  have HC := Lib.hid hc
  clear hc hd
  go_enter Tryz.func139, Tryz.ntmps139
  go_wp2_with fail
  go_ret
  refine ⟨rfl, SA, sc, A1, c1, A2, c2, A3, c3, ?_⟩
  have hK2 := hK.st 8 (.int .i64 ((s.done : Int) + 1))
  rw [HC.out] at hK2
  exact hK2
theorem tick_full {w0 : World} {g : Nat} {LV : Value} {m : List Ent} {bell : Bool} (s : RS) (w : World) (hM : RunS w0 g LV s bell m w) (hc : s.code = 0) (hd : s.done = 3000) :
    Calls Tryz.prog 158 #[.pointer (some ⟨g, 0, none⟩)] w fun e w' => e = .returned (.bool false) ∧ RunS w0 g LV ⟨s.m, s.tr, s.done + 1, 5⟩ bell m w' := by
  obtain ⟨SA, sc, A1, c1, A2, c2, A3, c3, hK⟩ := hM
  obtain ⟨a1, a2, a3⟩ := hK.blkAt
  have hb : (3000 : Int) < (s.done : Int) + 1 := by omega
  have hb2 : (s.done : Int) ≤ 3000 := by omega
  have h2 : (s.code == 0) = true := by simp [hc]
  clear hc hd
  go_enter Tryz.func158, Tryz.ntmps158
  go_wp2_with fail
  go_ret
  exact ⟨rfl, SA, sc, A1, c1, A2, c2, A3, c3, (hK.st 9 _).st 11 _⟩
theorem tick_ok {w0 : World} {g : Nat} {LV : Value} {m : List Ent} {bell : Bool} (s : RS) (w : World) (hM : RunS w0 g LV s bell m w) (hc : s.code = 0) (hd : ¬ s.done = 3000) (hb0 : s.done ≤ 3000) :
    Calls Tryz.prog 158 #[.pointer (some ⟨g, 0, none⟩)] w fun e w' => e = .returned (.bool true) ∧ RunS w0 g LV ⟨s.m, s.tr, s.done + 1, 0⟩ bell m w' := by
  obtain ⟨SA, sc, A1, c1, A2, c2, A3, c3, hK⟩ := hM
  obtain ⟨a1, a2, a3⟩ := hK.blkAt
  have hb : ¬ (3000 : Int) < (s.done : Int) + 1 := by omega
  have hb2 : (s.done : Int) ≤ 3000 := by omega
  have h2 : (s.code == 0) = true := by simp [hc]
  have HC := Lib.hid hc
  clear hc hd hb0
  go_enter Tryz.func158, Tryz.ntmps158
  go_wp2_with fail
  go_ret
  refine ⟨rfl, SA, sc, A1, c1, A2, c2, A3, c3, ?_⟩
  have hK2 := hK.st 9 (.int .i64 ((s.done : Int) + 1))
  rw [HC.out] at hK2
  exact hK2
end Go.Proofs.YtafnebpbfmbgiaaGreatDoor

namespace Go.Proofs.YtafnebpbfmbgiaaGreatDoor
open Go.RowKit Go.Sort
/-- what SetValue returns for a valid machine -/
def SetRet (t : Tri) (v : Int) (w : World) (e : Ending) (w' : World) : Prop :=
  (v < pw t.a.base t.a.digits.length ∧ ∃ A1 c1 A2 c2 A3 c3, e = .returned (.tuple #[.agg #[.int .i64 t.a.base, .slice A1 (setT t v).a.digits.length c1, .int .i64 t.b.base, .slice A2 t.b.digits.length c2, .int .i64 t.s.base, .slice A3 t.s.digits.length c3, .int .i64 t.carry], .int .i64 0]) ∧
    Kn w [rowI A3 c3 t.s.digits, rowI A2 c2 t.b.digits, rowI A1 c1 (setT t v).a.digits] w') ∨
  (¬ v < pw t.a.base t.a.digits.length ∧ e = .returned (.tuple #[.agg #[.int .i64 0, .slice none 0 0, .int .i64 0, .slice none 0 0, .int .i64 0, .slice none 0 0, .int .i64 0], .int .i64 2]) ∧ Below w.heap.size w w')
set_option maxRecDepth 100000 in
set_option maxHeartbeats 3200000 in
theorem SetValueV_any (t : Tri) (A1 A2 A3 : Option Addr) (c1 c2 c3 : Nat) (v : Int) (w : World) (r1 : RI w A1 t.a.digits.length t.a.digits) (r2 : RI w A2 t.b.digits.length t.b.digits) (r3 : RI w A3 t.s.digits.length t.s.digits) (hv : vmach t = true) (h0 : 0 ≤ v) (h1 : v ≤ 1000000000000) :
    Calls Tryz.prog 90 #[.agg #[.int .i64 t.a.base, .slice A1 t.a.digits.length c1, .int .i64 t.b.base, .slice A2 t.b.digits.length c2, .int .i64 t.s.base, .slice A3 t.s.digits.length c3, .int .i64 t.carry], .int .i64 v] w (SetRet t v w) := by
  obtain ⟨k1, k2, k3, e1, e2, f1, f2, l1, p0, p1⟩ := vmach_all hv
  obtain ⟨⟨b1, b2⟩, ⟨n1, n2⟩, hd1, -⟩ := vreg_iff.1 k1
  obtain ⟨⟨b3, b4⟩, ⟨n3, n4⟩, hd2, -⟩ := vreg_iff.1 k2
  obtain ⟨⟨b5, b6⟩, ⟨n5, n6⟩, hd3, -⟩ := vreg_iff.1 k3
  have hz : Sized t := ⟨n1, n3, n5, n2, n4, n6⟩
  have hT : ∀ W, Kn w [.blk (w.heap.size + 1) [.int .i64 0, .slice none 0 0, .int .i64 0, .slice none 0 0, .int .i64 0, .slice none 0 0, .int .i64 0] 32, .blk w.heap.size [.int .i64 t.a.base, .slice A1 t.a.digits.length c1, .int .i64 t.b.base, .slice A2 t.b.digits.length c2, .int .i64 t.s.base, .slice A3 t.s.digits.length c3, .int .i64 t.carry] 32] W → TriC W ⟨w.heap.size, 0, none⟩ t A1 c1 A2 c2 A3 c3 := fun W h =>
    ⟨⟨h.drop.blkAt.1 0, h.drop.blkAt.1 1, h.drop.blkAt.1 2, h.drop.blkAt.1 3, h.drop.blkAt.1 4, h.drop.blkAt.1 5, h.drop.blkAt.1 6⟩, r1.below h.below, r2.below h.below, r3.below h.below⟩
  have KO := Lib.hid (fun W h => calls_val (l10Ok_any ⟨w.heap.size, 0, none⟩ t W (hT W h).tri ⟨by unfold SmallReg; omega, by unfold SmallReg; omega, by unfold SmallReg; omega⟩) (congrArg Value.bool hv))
  have KN := (fun W => l10Power_any t.a.base t.a.digits.length W b1 b2 (by omega))
  have hmo := pw_mono t.a.base (by omega) _ _ l1
  rw [← e1] at f1
  have hpc : powS t.a.base t.a.digits.length = pw t.a.base t.a.digits.length := by unfold powS; omega
  rw [hpc] at KN
  have hp1 := pw_pos t.a.base b1 t.a.digits.length
  have KW := Lib.hid (fun W h => l10Own_any w.heap.size t A1 A2 A3 c1 c2 c3 W (hT W h) hz)
  have KD := (fun W => l02NewV_any t.a.base t.a.digits.length v W b1 b2 (by omega) h0 (by omega))
  have hst : (setT t v).a.digits = digD t.a.base t.a.digits.length v := rfl
  obtain ⟨N, hN⟩ : ∃ N, pw t.a.base t.a.digits.length = N := ⟨_, rfl⟩
  have HN := Lib.hid hN
  rw [hN] at KN hp1 hmo
  obtain ⟨ds, hds⟩ : ∃ ds, digD t.a.base t.a.digits.length v = ds := ⟨_, rfl⟩
  rw [hds] at KD hst
  have HST := Lib.hid hst
  have KN := Lib.hid KN
  have KD := Lib.hid KD
  have hwn : IntKind.i64.wrap (N - 1) = N - 1 := wrapI64 (by omega)
  clear hst hds hN hpc hT r1 r2 r3 k1 k2 k3 hd1 hd2 hd3 e1 e2 hv hz
  rcases hbt : betB v 0 (N - 1) with _ | _
  · have KI := Lib.hid (fun W => calls_val (l00In_any v 0 (N - 1) W) (congrArg Value.bool hbt))
    have HV := Lib.hid (show ¬ v < N by have := betB_false.1 hbt; omega)
    clear hbt h0 h1 p0 p1
    go_enter Tryz.func90, Tryz.ntmps90
    go_wp2_with fail
    refine Calls.kn (((Kn.nil w).al [.int .i64 t.a.base, .slice A1 t.a.digits.length c1, .int .i64 t.b.base, .slice A2 t.b.digits.length c2, .int .i64 t.s.base, .slice A3 t.s.digits.length c3, .int .i64 t.carry] 32).al [.int .i64 0, .slice none 0 0, .int .i64 0, .slice none 0 0, .int .i64 0, .slice none 0 0, .int .i64 0] 32) ?_; intro w1 hK1
    simp only [World.size_alloc] at hK1
    refine (KO.out _ hK1).mono ?_; rintro e w2 ⟨rfl, q, rfl⟩
    have hK2 := hK1.drewN q
    generalize w1.drewN q = w2 at hK2 ⊢
    clear hK1
    obtain ⟨a1, a2, a3, d1, d2, d3, -⟩ := hK2.cells
    go_wp2_with (first | (go_at_call 127; refine (KN.out _).mono ?_; rintro e w' ⟨rfl, rfl⟩) | (go_at_call 54; refine (KI.out _).mono ?_; rintro e w' ⟨rfl, rfl⟩))
    refine bodyPost.kn (((((((hK2.st 0 (.int .i64 0)).st 1 (.slice none 0 0)).st 2 (.int .i64 0)).st 3 (.slice none 0 0)).st 4 (.int .i64 0)).st 5 (.slice none 0 0)).st 6 (.int .i64 0)) ?_; intro w6 hK6
    clear a1 a2 a3 d1 d2 d3
    obtain ⟨a1, a2, a3, -⟩ := hK6.cells
    exact bodyPost_ret (v := .tuple #[.agg #[.int .i64 0, .slice none 0 0, .int .i64 0, .slice none 0 0, .int .i64 0, .slice none 0 0, .int .i64 0], .int .i64 2]) (by simp [results, Tryz.results90, go_sem, a1]) rfl (.inr ⟨by rw [HN.out]; have := HV.out; omega, rfl, hK6.below⟩)
  · have KI := Lib.hid (fun W => calls_val (l00In_any v 0 (N - 1) W) (congrArg Value.bool hbt))
    have HV : Hid (v < N) := by have := betB_iff.1 hbt; simp only [Hid]; omega
    clear hbt h0 h1 p0 p1
    go_enter Tryz.func90, Tryz.ntmps90
    go_wp2_with fail
    refine Calls.kn (((Kn.nil w).al [.int .i64 t.a.base, .slice A1 t.a.digits.length c1, .int .i64 t.b.base, .slice A2 t.b.digits.length c2, .int .i64 t.s.base, .slice A3 t.s.digits.length c3, .int .i64 t.carry] 32).al [.int .i64 0, .slice none 0 0, .int .i64 0, .slice none 0 0, .int .i64 0, .slice none 0 0, .int .i64 0] 32) ?_; intro w1 hK1
    simp only [World.size_alloc] at hK1
    refine (KO.out _ hK1).mono ?_; rintro e w2 ⟨rfl, q, rfl⟩
    have hK2 := hK1.drewN q
    generalize w1.drewN q = w2 at hK2 ⊢
    clear hK1
    obtain ⟨a1, a2, a3, d1, d2, d3, -⟩ := hK2.cells
    go_wp2_with (first | (go_at_call 127; refine (KN.out _).mono ?_; rintro e w' ⟨rfl, rfl⟩) | (go_at_call 54; refine (KI.out _).mono ?_; rintro e w' ⟨rfl, rfl⟩))
    refine (KW.out _ hK2).mono ?_; rintro e w3 ⟨B1, h1, B2, h2, B3, h3, rfl, hKC⟩
    have hK3 := hK2.join hKC
    clear hK2 hKC a1 a2 a3 d1 d2 d3
    obtain ⟨a1, a2, a3, d1, d2, d3, -⟩ := hK3.cells
    go_wp2_with fail
    refine Calls.kn (hK3.al [.int .i64 t.a.base, .slice B1 t.a.digits.length h1, .int .i64 t.b.base, .slice B2 t.b.digits.length h2, .int .i64 t.s.base, .slice B3 t.s.digits.length h3, .int .i64 t.carry] 32) ?_; intro w4 hK4
    refine (KD.out _).mono ?_; rintro e w5 ⟨E1, g1, rfl, hKD⟩
    have hK5 := hK4.join hKD
    clear hK3 hK4 hKD a1 a2 a3 d1 d2 d3
    obtain ⟨x1, x2, x3, a1, a2, a3, d1, d2, d3, -⟩ := hK5.cells
    have ne1 := hK5.ne 1 5 rfl rfl (by decide)
    have ne2 := ne1.symm
    go_wp2_with fail
    refine bodyPost.kn ((((((((((((hK5.sw1.st 0 (.int .i64 t.a.base)).st 1 (.slice E1 ds.length g1)).front 5 rfl).st 0 (.int .i64 t.a.base)).st 1 (.slice E1 ds.length g1)).st 2 (.int .i64 t.b.base)).st 3 (.slice B2 t.b.digits.length h2)).st 4 (.int .i64 t.s.base)).st 5 (.slice B3 t.s.digits.length h3)).st 6 (.int .i64 t.carry))).al_ _) ?_; intro w6 hK6
    clear x1 x2 x3 a1 a2 a3 d1 d2 d3
    obtain ⟨a1, a2, a3, -⟩ := hK6.cells
    refine bodyPost_ret (v := .tuple #[.agg #[.int .i64 t.a.base, .slice E1 ds.length g1, .int .i64 t.b.base, .slice B2 t.b.digits.length h2, .int .i64 t.s.base, .slice B3 t.s.digits.length h3, .int .i64 t.carry], .int .i64 0]) (by simp [results, Tryz.results90, go_sem, a1]) rfl (.inl ⟨by rw [HN.out]; exact HV.out, E1, g1, B2, h2, B3, h3, by rw [HST.out], ?_⟩)
    rw [HST.out]
    exact hK6.sel [3, 4, 2] 99 (by decide) (by decide)
end Go.Proofs.YtafnebpbfmbgiaaGreatDoor

namespace Go.Proofs.YtafnebpbfmbgiaaGreatDoor
open Go.RowKit Go.Sort
def StrS (L : List Ins) (w0 : World) (g : Nat) (LV : Value) (m : List Ent) (kind : Int) (N : Nat) (s : RS) (b : Bool) (e : Ending) (w' : World) : Prop := ∃ s' b', e = .returned (.tuple #[]) ∧ Ev L (.str kind N) s s' b' ∧ RunS w0 g LV s' (b || b') m w' ∧ s'.Good
set_option maxRecDepth 100000 in
set_option maxHeartbeats 1600000 in
theorem strokesS_any {L : List Ins} {w0 : World} {g : Nat} {LV : Value} {m : List Ent} {b : Bool} (s : RS) (kind : Int) (N : Nat) (w : World) (hM : RunS w0 g LV s b m w) (hg : s.Good) (hc : s.code = 0) (hk : 1 ≤ kind ∧ kind ≤ 6) (hN : N ≤ 1000000) :
    Calls Tryz.prog 149 #[.pointer (some ⟨g, 0, none⟩), .int .i64 kind, .int .i64 N] w (StrS L w0 g LV m kind N s b) := by
  go_enter Tryz.func149, Tryz.ntmps149
  go_wp2_with fail
  go_loopw [6] (fun kk wr => ∃ (j : Nat) (s1 : RS) (b1 : Bool), j ≤ N ∧ kk = .int .i64 j ∧ RunS w0 g LV s1 (b || b1) m wr ∧ s1.Good ∧ s1.code = 0 ∧ ∀ s' b', Ev L (.str kind (N - j)) s1 s' b' → Ev L (.str kind N) s s' (b1 || b')) (fun kk _ => N - (intOf kk).toNat)
  case atStart => exact ⟨0, s, false, Nat.zero_le _, rfl, by simpa using hM, hg, hc, fun s' b' h => by simpa using h⟩
  case round =>
    clear hM
    obtain ⟨j, s1, b1, hj, rfl, hM, hg1, hc1, hev⟩ := hrel
    have HM := Lib.hid hM
    have HG := Lib.hid hg1
    have HC := Lib.hid hc1
    have HE := Lib.hid hev
    have h2 : (s1.code == 0) = true := by simp [hc1]
    have hdn := hg1.done hc1
    have htl := hg1.tr
    obtain ⟨SA, sc, A1, c1, A2, c2, A3, c3, hK⟩ := hM
    obtain ⟨a1, a2, a3⟩ := hK.blkAt
    clear hg1 hc1 hev hg hc hK
    by_cases hjn : j < N
    · have hi1 : (j : Int) < (N : Int) := by omega
      by_cases hd : s1.done = 3000
      · have HD := Lib.hid hd
        clear hd
        go_wp2_with (go_at_call 158; refine (tick_full s1 _ HM.out HC.out HD.out).mono ?_; rintro e w2 ⟨rfl, hM2⟩)
        go_end0
        have hev := Ev.sFull (L := L) (kind := kind) (n := N - j - 1) HD.out
        rw [show N - j - 1 + 1 = N - j by omega] at hev
        exact ⟨_, b1, rfl, by have := HE.out _ _ hev; simpa using this, by rw [RS.tick_full HD.out]; exact hM2, HG.out.tick HC.out⟩
      · have HD := Lib.hid hd
        clear hd
        obtain ⟨tr', htr⟩ : ∃ tr', s1.tr ++ [kind] = tr' := ⟨_, rfl⟩
        have HTR := Lib.hid htr
        obtain ⟨r, hr⟩ : ∃ r, strokeT kind s1.m = r := ⟨_, rfl⟩
        have KT := Lib.hid (fun (rest : List Value) (m' : List Ent) W (h : MB w0 g rest 105 s1.m m' W) => l10DoK s1.m kind W h HG.out.m hk)
        have HR := Lib.hid hr
        have HGN := Lib.hid (show (RS.mk r.1 tr' (s1.done + 1) 0).Good by rw [← hr, ← htr]; exact HG.out.stroke HC.out HD.out kind)
        have HEV := Lib.hid (fun s' b' (h : Ev L (.str kind (N - (j + 1))) ⟨r.1, tr', s1.done + 1, 0⟩ s' b') => HE.out s' (r.2 || b') (by rw [show N - j = (N - (j + 1)) + 1 by omega, ← hr]; exact Ev.sStep HD.out (by rw [hr, htr]; exact h)))
        rcases hrb : r.2 with _ | _
        · have HRB := Lib.hid hrb
          clear htr hr hrb
          go_wp2_with (first
            | (go_at_call 158; refine (tick_ok s1 _ HM.out HC.out HD.out hdn).mono ?_; rintro e w2 ⟨rfl, hM2⟩; obtain ⟨SA', sc', A1', c1', A2', c2', A3', c3', hK2⟩ := hM2; clear a1 a2 a3; obtain ⟨a1, a2, a3⟩ := hK2.blkAt)
            | (at_builtin; refine kn_pushI (m := .blk g _ _ :: _) rfl _ _ rfl _ s1.tr rfl rfl ((hK2.al [.int .i64 kind] 2).sel [0, 5, 1, 2, 3, 4] 6 (by decide) (by decide)) (by omega) ?_; intro v3 w3 hK3; rw [HTR.out] at hK3; obtain ⟨SB, sb, rfl⟩ := row_form hK3.at0; clear a1 a2 a3; obtain ⟨a1, a2, a3⟩ := hK3.drop.blkAt)
            | (go_at_call 91; refine (KT.out _ (rowI SB sb tr' :: m) _ ⟨A1', c1', A2', c2', A3', c3', (hK3.sw1.st 8 (.slice SB tr'.length sb)).sel [0, 2, 3, 4, 1] 5 (by decide) (by decide)⟩).mono ?_; rw [HR.out, HRB.out]; rintro e w4 ⟨rfl, hM4⟩; obtain ⟨B1, d1, B2, d2, B3, d3, hK5⟩ := hM4; clear a1 a2 a3; obtain ⟨a1, a2, a3⟩ := hK5.blkAt))
          go_roundw
          case rel => exact ⟨j + 1, ⟨r.1, tr', s1.done + 1, 0⟩, b1, by omega, by go_num, ⟨SB, sb, B1, d1, B2, d2, B3, d3, hK5⟩, HGN.out, rfl, fun s' b' h => by have := HEV.out s' b' h; rw [HRB.out, Bool.false_or] at this; exact this⟩
          case measure => simp [intOf]; omega
        · have HRB := Lib.hid hrb
          clear htr hr hrb
          go_wp2_with (first
            | (go_at_call 158; refine (tick_ok s1 _ HM.out HC.out HD.out hdn).mono ?_; rintro e w2 ⟨rfl, hM2⟩; obtain ⟨SA', sc', A1', c1', A2', c2', A3', c3', hK2⟩ := hM2; clear a1 a2 a3; obtain ⟨a1, a2, a3⟩ := hK2.blkAt)
            | (at_builtin; refine kn_pushI (m := .blk g _ _ :: _) rfl _ _ rfl _ s1.tr rfl rfl ((hK2.al [.int .i64 kind] 2).sel [0, 5, 1, 2, 3, 4] 6 (by decide) (by decide)) (by omega) ?_; intro v3 w3 hK3; rw [HTR.out] at hK3; obtain ⟨SB, sb, rfl⟩ := row_form hK3.at0; clear a1 a2 a3; obtain ⟨a1, a2, a3⟩ := hK3.drop.blkAt)
            | (go_at_call 91; refine (KT.out _ (rowI SB sb tr' :: m) _ ⟨A1', c1', A2', c2', A3', c3', (hK3.sw1.st 8 (.slice SB tr'.length sb)).sel [0, 2, 3, 4, 1] 5 (by decide) (by decide)⟩).mono ?_; rw [HR.out, HRB.out]; rintro e w4 ⟨rfl, hM4⟩; obtain ⟨B1, d1, B2, d2, B3, d3, hK5⟩ := hM4; clear a1 a2 a3; obtain ⟨a1, a2, a3⟩ := hK5.blkAt))
          go_roundw
          case rel => exact ⟨j + 1, ⟨r.1, tr', s1.done + 1, 0⟩, true, by omega, by go_num, ⟨SB, sb, B1, d1, B2, d2, B3, d3, by rw [Bool.or_true]; exact hK5.st 10 (.bool true)⟩, HGN.out, rfl, fun s' b' h => by have := HEV.out s' b' h; rw [HRB.out, Bool.true_or, Bool.or_true] at this; exact this⟩
          case measure => simp [intOf]; omega
    · have hi1 : ¬ (j : Int) < (N : Int) := by omega
      obtain rfl : j = N := by omega
      go_wp2_with fail
      go_end0
      have hev := HE.out _ _ (by rw [Nat.sub_self]; exact Ev.s0)
      exact ⟨s1, b1, rfl, by simpa using hev, HM.out, HG.out⟩
end Go.Proofs.YtafnebpbfmbgiaaGreatDoor

namespace Go.Proofs.YtafnebpbfmbgiaaGreatDoor
open Go.RowKit Go.Sort
/-- the reference's runner sets the setting -/
def SetS (s : RS) (v : Int) (w0 : World) (g : Nat) (LV : Value) (m : List Ent) (b : Bool) (e : Ending) (w' : World) : Prop :=
  e = .returned (.tuple #[]) ∧ ((s.done = 3000 ∧ RunS w0 g LV s.tick b m w') ∨ (¬ s.done = 3000 ∧ setFits s.m v = false ∧ RunS w0 g LV ⟨s.m, s.tr, s.done + 1, 10⟩ b m w') ∨ (¬ s.done = 3000 ∧ setFits s.m v = true ∧ RunS w0 g LV ⟨setT s.m v, s.tr, s.done + 1, 0⟩ b m w'))
set_option maxRecDepth 100000 in
set_option maxHeartbeats 3200000 in
theorem setS_any {w0 : World} {g : Nat} {LV : Value} {m : List Ent} {b : Bool} (s : RS) (v : Int) (w : World) (hM : RunS w0 g LV s b m w) (hg : s.Good) (hc : s.code = 0) (h0 : 0 ≤ v) (h1 : v ≤ 1000000000000) :
    Calls Tryz.prog 148 #[.pointer (some ⟨g, 0, none⟩), .int .i64 v] w (SetS s v w0 g LV m b) := by
  have HM := Lib.hid hM
  have HG := Lib.hid hg
  have HC := Lib.hid hc
  have hdn := hg.done hc
  obtain ⟨k1, -⟩ := vmach_all hg.m
  obtain ⟨⟨b1, b2⟩, -⟩ := vreg_iff.1 k1
  have hrz := restD_zero s.m.a.base b1 s.m.a.digits.length v h0
  by_cases hd : s.done = 3000
  · have HD := Lib.hid hd
    clear hd hM hg hc h0 h1 k1 b1 b2 hrz
    go_enter Tryz.func148, Tryz.ntmps148
    go_wp2_with (go_at_call 158; refine (tick_full s _ HM.out HC.out HD.out).mono ?_; rintro e w2 ⟨rfl, hM2⟩)
    go_end0
    exact ⟨rfl, .inl ⟨HD.out, by rw [RS.tick_full HD.out]; exact hM2⟩⟩
  · have HD := Lib.hid hd
    have KS := Lib.hid (fun (A1 A2 A3 : Option Addr) (c1 c2 c3 : Nat) (m' : List Ent) W cs T (h : Kn w0 (.blk g cs T :: rowI A3 c3 s.m.s.digits :: rowI A2 c2 s.m.b.digits :: rowI A1 c1 s.m.a.digits :: m') W) => SetValueV_any s.m A1 A2 A3 c1 c2 c3 v W h.drop.drop.drop.riv h.drop.drop.riv h.drop.riv HG.out.m h0 h1)
    have HF := Lib.hid (show setFits s.m v = decide (v < pw s.m.a.base s.m.a.digits.length) from hrz)
    clear hd hM hg hc h0 h1 k1 b1 b2 hrz
    go_enter Tryz.func148, Tryz.ntmps148
    go_wp2_with (go_at_call 158; refine (tick_ok s _ HM.out HC.out HD.out hdn).mono ?_; rintro e w2 ⟨rfl, hM2⟩; obtain ⟨SA, sc, A1, c1, A2, c2, A3, c3, hK2⟩ := hM2; obtain ⟨a1, a2, a3⟩ := hK2.blkAt)
    refine (KS.out _ _ _ _ _ _ _ _ _ _ hK2).mono ?_; rintro e w3 (⟨hlt, B1, d1, B2, d2, B3, d3, rfl, hK3⟩ | ⟨hlt, rfl, hw⟩)
    · have hfit : setFits s.m v = true := by rw [HF.out, decide_eq_true hlt]
      have HFT := Lib.hid hfit
      have hK4 := hK2.join hK3
      clear a1 a2 a3 hK2 hK3 hlt hfit
      obtain ⟨ds, hds⟩ : ∃ ds, (setT s.m v).a.digits = ds := ⟨_, rfl⟩
      rw [hds] at hK4 ⊢
      have HDS := Lib.hid hds
      clear hds
      obtain ⟨a1, a2, a3⟩ := hK4.drop.drop.drop.blkAt
      go_wp2_with fail
      go_end0
      have hK5 := (((((((hK4.sw3.st 0 (.int .i64 s.m.a.base)).st 1 (.slice B1 ds.length d1)).st 2 (.int .i64 s.m.b.base)).st 3 (.slice B2 s.m.b.digits.length d2)).st 4 (.int .i64 s.m.s.base)).st 5 (.slice B3 s.m.s.digits.length d3)).st 6 (.int .i64 s.m.carry)).al_ (.cells #[.int .i64 s.m.a.base, .slice B1 ds.length d1, .int .i64 s.m.b.base, .slice B2 s.m.b.digits.length d2, .int .i64 s.m.s.base, .slice B3 s.m.s.digits.length d3, .int .i64 s.m.carry] 32)
      refine ⟨rfl, .inr (.inr ⟨HD.out, HFT.out, SA, sc, B1, d1, B2, d2, B3, d3, ?_⟩)⟩
      rw [HDS.out]
      exact hK5.sel [0, 1, 2, 3, 7] 8 (by decide) (by decide)
    · have hfit : setFits s.m v = false := by rw [HF.out, decide_eq_false hlt]
      have HFT := Lib.hid hfit
      have hK4 := hK2.keep hw
      clear a1 a2 a3 hK2 hw hlt hfit
      obtain ⟨a1, a2, a3⟩ := hK4.blkAt
      go_wp2_with fail
      go_end0
      exact ⟨rfl, .inr (.inl ⟨HD.out, HFT.out, SA, sc, A1, c1, A2, c2, A3, c3, (hK4.st 11 (.int .i64 10)).al_ _⟩)⟩
end Go.Proofs.YtafnebpbfmbgiaaGreatDoor

namespace Go.Proofs.YtafnebpbfmbgiaaGreatDoor
open Go.RowKit Go.Sort
theorem instrOk_bd1 {op arg : Int} (h : instrOk op arg = true) : 1 ≤ op ∧ op ≤ 10 ∧ 0 ≤ arg ∧ arg ≤ 1000000000000 := by
  rcases op_cases op with rfl | rfl | rfl | rfl | rfl | rfl | rfl | rfl | rfl | rfl | h1
  rotate_right 1
  · rw [instrOk_else h1] at h; cases h
  all_goals
    simp [instrOk, betB] at h
    omega
theorem Ev.mono {L : List Ins} {t : Task} {s s' : RS} {b : Bool} (h : Ev L t s s' b) : s.done ≤ s'.done := by
  induction h with
  | s0 => exact Nat.le_refl _
  | sFull h => simp [RS.tick]
  | sStep h he ih => simp only [] at ih; omega
  | rEnd h => exact Nat.le_refl _
  | rCode hi h => exact Nat.le_refl _
  | rSetFull hi hl hc ho h => simp [RS.tick]
  | rSetBad hi hl hc ho h hf => simp
  | rSet hi hl hc ho h hf he ih => simp only [] at ih; omega
  | rLoop hi hl hc ho hm h1 he ih1 ih2 => omega
  | rStr hi hl hc ho h1' h1 he ih1 ih2 => omega
  | lEnd h8 hk => exact Nat.le_refl _
  | lFull h8 h => simp [RS.tick]
  | lOut h8 h h1 ho ih => simp only [] at ih; omega
  | lStep h8 h h1 ho he ih1 ih2 => simp only [] at ih1; omega
theorem RunS.drop {w0 w : World} {g : Nat} {LV : Value} {s : RS} {b : Bool} {m : List Ent} {e : Ent} (h : RunS w0 g LV s b (e :: m) w) : RunS w0 g LV s b m w := by
  obtain ⟨SA, sc, A1, c1, A2, c2, A3, c3, hK⟩ := h
  exact ⟨SA, sc, A1, c1, A2, c2, A3, c3, hK.sel [0, 1, 2, 3, 4] 6 (by decide) (by decide)⟩
theorem RunI.drop {w0 w : World} {g : Nat} {LV : Value} {s : RS} {m : List Ent} {e : Ent} (h : RunI w0 g LV s (e :: m) w) : RunI w0 g LV s m w := by
  obtain ⟨SA, sc, A1, c1, A2, c2, A3, c3, hK⟩ := h
  exact ⟨SA, sc, A1, c1, A2, c2, A3, c3, hK.sel [0, 1, 2, 3, 4] 6 (by decide) (by decide)⟩
def RunSRet (L : List Ins) (w0 : World) (g : Nat) (LV : Value) (m : List Ent) (tk : Task) (s : RS) (b : Bool) (e : Ending) (w' : World) : Prop := ∃ s' b', e = .returned (.tuple #[]) ∧ Ev L tk s s' b' ∧ RunS w0 g LV s' (b || b') m w' ∧ s'.Good
def LoopSRet (L : List Ins) (w0 : World) (g : Nat) (LV : Value) (m : List Ent) (tk : Task) (s : RS) (e : Ending) (w' : World) : Prop := ∃ s' b', e = .returned (.tuple #[]) ∧ Ev L tk s s' false ∧ RunS w0 g LV s' b' m w' ∧ s'.Good
def RunSOK (L : List Ins) (LA : Option Addr) (n lc : Nat) (w0 : World) (N : Nat) : Prop := ∀ (g : Nat) (m : List Ent) (s : RS) (b : Bool) (i tt : Nat) (w : World), 3001 - s.done ≤ N → s.code = 0 → s.Good → Seg L i tt → RunS w0 g (.slice LA n lc) s b m w →
  Calls Tryz.prog 110 #[.pointer (some ⟨g, 0, none⟩), .int .i64 i, .int .i64 tt] w (RunSRet L w0 g (.slice LA n lc) m (.run i tt) s b)
def LoopSOK (L : List Ins) (LA : Option Addr) (n lc : Nat) (w0 : World) (N : Nat) : Prop := ∀ (g : Nat) (m : List Ent) (s : RS) (b : Bool) (i e : Nat) (w : World) (hi : i < L.length), 3001 - s.done ≤ N → s.code = 0 → s.Good → opens L[i].op = true → instrOk L[i].op L[i].arg = true → Seg L (i + 1) e → RunS w0 g (.slice LA n lc) s b m w →
  Calls Tryz.prog 147 #[.pointer (some ⟨g, 0, none⟩), .int .i64 i, .int .i64 e] w (LoopSRet L w0 g (.slice LA n lc) m (.loop L[i].op L[i].arg (i + 1) e 0) s)
/-- what holds at the head of a round of a loop -/
def AtRound (L : List Ins) (x : Ins) (i e : Nat) (s : RS) (k : Nat) (s1 : RS) : Prop :=
  (s1.code = 0 ∧ (x.op = 8 → (k : Int) ≤ x.arg) ∧ ∀ s' b', Ev L (.loop x.op x.arg i e k) s1 s' b' → Ev L (.loop x.op x.arg i e 0) s s' false) ∨ (¬ s1.code = 0 ∧ Ev L (.loop x.op x.arg i e 0) s s1 false)
theorem AtRound.next {L : List Ins} {x : Ins} {i e : Nat} {s s1 s3 : RS} {k : Nat} {b3 : Bool} (HE : ∀ s' b', Ev L (.loop x.op x.arg i e k) s1 s' b' → Ev L (.loop x.op x.arg i e 0) s s' false) (hne : ¬ (x.op = 8 ∧ x.arg ≤ (k : Int))) (hd : ¬ s1.done = 3000)
    (he : Ev L (.run i e) ⟨s1.m, s1.tr, s1.done + 1, 0⟩ s3 b3) (h9 : ¬ (x.op = 9 ∧ b3 = true)) (h8 : x.op = 8 → (k : Int) + 1 ≤ x.arg) : AtRound L x i e s (k + 1) s3 := by
  by_cases hc : s3.code = 0
  · exact .inl ⟨hc, fun h => by have := h8 h; omega, fun s' b' h => HE s' false (Ev.lStep hne hd he ⟨hc, h9⟩ h)⟩
  · exact .inr ⟨hc, HE s3 false (Ev.lOut hne hd he (.inl hc))⟩
set_option maxRecDepth 100000 in
set_option maxHeartbeats 3200000 in
theorem loopS_of {L : List Ins} {LA : Option Addr} {n lc : Nat} {w0 : World} {N : Nat} (hr : RL InsM 2 w0 LA n L) (hL : L.length ≤ 120) (ih : ∀ N', N' < N → RunSOK L LA n lc w0 N') : LoopSOK L LA n lc w0 N := by
  intro g m s b i e w hi hN hc hg hop hok hseg hM
  have HLn := Lib.hid hr.1
  obtain ⟨x, hx⟩ : ∃ x, L[i] = x := ⟨_, rfl⟩
  obtain ⟨SA, sc, A1, c1, A2, c2, A3, c3, hK⟩ := hM
  have hin : i < n := by rw [← hr.1]; exact hi
  have hn9 : n ≤ 120 := by rw [← hr.1]; exact hL
  obtain ⟨ad, hA, hlt2, hkl, hx'⟩ := (hr.below steady_InsM hK.below).at_ hin
  obtain ⟨x1, x2⟩ := hx'
  rw [hx] at x1 x2 hop hok ⊢
  subst hA
  obtain ⟨a1, a2, a3⟩ := hK.blkAt
  have hi0 : (0 : Int) ≤ (i : Int) := by omega
  have hi1 : (i : Int) < (n : Int) := by omega
  have HIH := Lib.hid ih
  have HSEG := Lib.hid hseg
  have hx9 : x.op = 8 ∨ x.op = 9 := by simpa [opens] using hop
  have hax : 0 ≤ x.arg ∧ x.arg ≤ 1000000000000 := by have := instrOk_bd1 hok; omega
  have ha1 : x.op = 8 → x.arg ≤ 100 := fun h => by rw [h] at hok; simp [instrOk, betB] at hok; omega
  have HC0 := Lib.hid hc
  have HG0 := Lib.hid hg
  have HX := Lib.hid hx
  have HN0 := Lib.hid hN
  have hle : e ≤ 120 := by have := hseg.len; omega
  clear hr hx ih hseg hc hg hop hok hN
  go_enter Tryz.func147, Tryz.ntmps147
  go_wp2_with fail
  have hK1 := hK.al [.int .i64 x.op, .int .i64 x.arg] 93
  generalize w.alloc (.cells #[.int .i64 x.op, .int .i64 x.arg] 93) = w1 at hK1 ⊢
  have hK2 : Kn w0 _ w1 := hK1.sel [1, 2, 3, 4, 5, 0] 6 (by decide) (by decide)
  obtain ⟨g6, hg6⟩ : ∃ g6, w.heap.size = g6 := ⟨_, rfl⟩
  have hM2 : RunS w0 g (.slice (some ad) n lc) s b (.blk g6 [.int .i64 x.op, .int .i64 x.arg] 93 :: m) w1 := ⟨SA, sc, A1, c1, A2, c2, A3, c3, by rw [← hg6]; exact hK2⟩
  rw [hg6]
  clear hK1 hK2 hK a1 a2 a3 hg6 x1 x2
  go_loopw [7] (fun kk wr => ∃ (k : Nat) (s1 : RS) (b1 : Bool), kk = .int .i64 k ∧ k ≤ s1.done ∧ RunS w0 g (.slice (some ad) n lc) s1 b1 (.blk g6 [.int .i64 x.op, .int .i64 x.arg] 93 :: m) wr ∧ s1.Good ∧ s.done ≤ s1.done ∧ AtRound L x (i + 1) e s k s1) (fun kk _ => 4000 - (intOf kk).toNat)
  case atStart => exact ⟨0, s, b, rfl, Nat.zero_le _, hM2, HG0.out, Nat.le_refl _, .inl ⟨HC0.out, fun _ => hax.1, fun s' b' h => by cases h with
    | lEnd a1 a2 => exact .lEnd a1 a2
    | lFull a1 a2 => exact .lFull a1 a2
    | lOut a1 a2 a3 a4 => exact .lOut a1 a2 a3 a4
    | lStep a1 a2 a3 a4 a5 => exact .lStep a1 a2 a3 a4 a5⟩⟩
  case round =>
    clear hM2
    obtain ⟨k, s1, b1, rfl, hkd, hM, hg1, hmono, hat⟩ := hrel
    have HM := Lib.hid hM
    have HG := Lib.hid hg1
    obtain ⟨SA, sc, A1, c1, A2, c2, A3, c3, hK⟩ := hM
    obtain ⟨a1, a2, a3⟩ := hK.blkAt
    obtain ⟨x1, x2, x3⟩ := hK.drop.drop.drop.drop.drop.blkAt
    have htop := hg1.top
    rcases hat with ⟨hc1, hka, hev⟩ | ⟨hc1, hev⟩
    · have HC := Lib.hid hc1
      have HE := Lib.hid hev
      have h2 : (s1.code == 0) = true := by simp [hc1]
      have hdn := hg1.done hc1
      have KR := Lib.hid (fun (m' : List Ent) (b' : Bool) W (hd : ¬ s1.done = 3000) (h : RunS w0 g (.slice (some ad) n lc) ⟨s1.m, s1.tr, s1.done + 1, 0⟩ b' m' W) => HIH.out (3001 - (s1.done + 1)) (by have := HN0.out; omega) g m' ⟨s1.m, s1.tr, s1.done + 1, 0⟩ b' (i + 1) e W (Nat.le_refl _) rfl (HG.out.more HC.out hd _ HG.out.m 0) HSEG.out h)
      clear hc1 hev hg1 hK
      rcases hx9 with h8 | h9
      · have o8 : (x.op == 8) = true := by simp [h8]
        have o9 : (x.op == 9) = false := by simp [h8]
        have HX8 := Lib.hid h8
        have hka' := hka h8
        have ha1' := ha1 h8
        clear h8 hka ha1
        rcases hk : ((k : Int) == x.arg) with _ | _
        · have HNE := Lib.hid (show ¬ (x.op = 8 ∧ x.arg ≤ (k : Int)) by rintro ⟨-, h⟩; simp at hk; omega)
          have hk2 : (k : Int) + 1 ≤ x.arg := by simp at hk; omega
          by_cases hd : s1.done = 3000
          · have HD := Lib.hid hd
            clear hd
            go_wp2_with (go_at_call 158; refine (tick_full s1 _ HM.out HC.out HD.out).mono ?_; rintro e w2 ⟨rfl, hM2⟩)
            go_end0
            exact ⟨s1.tick, b1, rfl, HE.out s1.tick false (Ev.lFull HNE.out HD.out), by rw [RS.tick_full HD.out]; exact hM2.drop, HG.out.tick HC.out⟩
          · have HD := Lib.hid hd
            clear hd
            go_wp2_with (go_at_call 158; refine (tick_ok s1 _ HM.out HC.out HD.out hdn).mono ?_; rintro e w2 ⟨rfl, hM2⟩; obtain ⟨SA', sc', A1', c1', A2', c2', A3', c3', hK2⟩ := hM2; clear a1 a2 a3 x1 x2 x3; obtain ⟨a1, a2, a3⟩ := hK2.blkAt; obtain ⟨x1, x2, x3⟩ := hK2.drop.drop.drop.drop.drop.blkAt)
            refine (KR.out _ false _ HD.out ⟨SA', sc', A1', c1', A2', c2', A3', c3', hK2.st 10 (.bool false)⟩).mono ?_; rintro e w3 ⟨s3, b3, rfl, he3, hM3, hg3⟩
            rw [Bool.false_or] at hM3
            have HM3 := Lib.hid hM3
            have HE3 := Lib.hid he3
            have HG3 := Lib.hid hg3
            have hmo3 := he3.mono
            simp only [] at hmo3
            obtain ⟨SA3, sc3, A13, c13, A23, c23, A33, c33, hK3⟩ := hM3
            clear a1 a2 a3 x1 x2 x3 hK2
            obtain ⟨a1, a2, a3⟩ := hK3.blkAt
            obtain ⟨x1, x2, x3⟩ := hK3.drop.drop.drop.drop.drop.blkAt
            clear hK3 he3 hg3
            go_wp2_with fail
            go_roundw
            case rel => exact ⟨k + 1, s3, _, by go_num, by omega, HM3.out, HG3.out, by omega, AtRound.next HE.out HNE.out HD.out HE3.out (by first | (rintro ⟨h, -⟩; have := HX8.out; omega) | (rintro ⟨-, h⟩; cases h)) (fun h => by first | (have := HX9.out; omega) | omega)⟩
            case measure => simp [intOf]; omega
        · have HEQ := Lib.hid (show x.arg ≤ (k : Int) by simp at hk; omega)
          go_wp2_with fail
          go_end0
          exact ⟨s1, b1, rfl, HE.out s1 false (Ev.lEnd HX8.out HEQ.out), HM.out.drop, HG.out⟩
      · have o8 : (x.op == 8) = false := by simp [h9]
        have o9 : (x.op == 9) = true := by simp [h9]
        have HX9 := Lib.hid h9
        have HNE := Lib.hid (show ¬ (x.op = 8 ∧ x.arg ≤ (k : Int)) by omega)
        clear h9 hka ha1
        by_cases hd : s1.done = 3000
        · have HD := Lib.hid hd
          clear hd
          go_wp2_with (go_at_call 158; refine (tick_full s1 _ HM.out HC.out HD.out).mono ?_; rintro e w2 ⟨rfl, hM2⟩)
          go_end0
          exact ⟨s1.tick, b1, rfl, HE.out s1.tick false (Ev.lFull HNE.out HD.out), by rw [RS.tick_full HD.out]; exact hM2.drop, HG.out.tick HC.out⟩
        · have HD := Lib.hid hd
          clear hd
          go_wp2_with (go_at_call 158; refine (tick_ok s1 _ HM.out HC.out HD.out hdn).mono ?_; rintro e w2 ⟨rfl, hM2⟩; obtain ⟨SA', sc', A1', c1', A2', c2', A3', c3', hK2⟩ := hM2; clear a1 a2 a3 x1 x2 x3; obtain ⟨a1, a2, a3⟩ := hK2.blkAt; obtain ⟨x1, x2, x3⟩ := hK2.drop.drop.drop.drop.drop.blkAt)
          refine (KR.out _ false _ HD.out ⟨SA', sc', A1', c1', A2', c2', A3', c3', hK2.st 10 (.bool false)⟩).mono ?_; rintro e w3 ⟨s3, b3, rfl, he3, hM3, hg3⟩
          rw [Bool.false_or] at hM3
          have HM3 := Lib.hid hM3
          have HE3 := Lib.hid he3
          have HG3 := Lib.hid hg3
          have hmo3 := he3.mono
          simp only [] at hmo3
          obtain ⟨SA3, sc3, A13, c13, A23, c23, A33, c33, hK3⟩ := hM3
          clear a1 a2 a3 x1 x2 x3 hK2
          obtain ⟨a1, a2, a3⟩ := hK3.blkAt
          obtain ⟨x1, x2, x3⟩ := hK3.drop.drop.drop.drop.drop.blkAt
          clear hK3 he3 hg3
          cases b3
          · go_wp2_with fail
            go_roundw
            case rel => exact ⟨k + 1, s3, _, by go_num, by omega, HM3.out, HG3.out, by omega, AtRound.next HE.out HNE.out HD.out HE3.out (by first | (rintro ⟨h, -⟩; have := HX8.out; omega) | (rintro ⟨-, h⟩; cases h)) (fun h => by first | (have := HX9.out; omega) | omega)⟩
            case measure => simp [intOf]; omega
          · go_wp2_with fail
            go_end0
            exact ⟨s3, true, rfl, HE.out s3 false (Ev.lOut HNE.out HD.out HE3.out (.inr ⟨HX9.out, rfl⟩)), HM3.out.drop, HG3.out⟩
    · have HC := Lib.hid hc1
      have HE := Lib.hid hev
      have h2 : (s1.code == 0) = false := by simp [hc1]
      clear hc1 hev hg1 hK
      go_wp2_with fail
      go_end0
      exact ⟨s1, b1, rfl, HE.out, HM.out.drop, HG.out⟩
end Go.Proofs.YtafnebpbfmbgiaaGreatDoor
