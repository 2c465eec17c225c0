/- Part 7: lemmas and contracts of the claim's functions. -/
import Derived.Test.YtikcifpdnbhpiaaDoorZC1
import Derived.Test.YtikcifpdnbhpiaaDoorZC2
import Derived.Test.YtikcifpdnbhpiaaDoorZC3
import Derived.Test.YtikcifpdnbhpiaaDoorZC4
import Derived.Test.YtikcifpdnbhpiaaDoorZC5
import Derived.Test.YtikcifpdnbhpiaaDoorZC6
import Derived.Deep.RegionHeld3
import Derived.ProofKit
import Derived.Carry
import Derived.SliceStrings
import Derived.Test.YtikcifpdnbhpiaaDoorTie
import Derived.Test.YtikcifpdnbhpiaaDoorCards
import Derived.Deep.DeepHandedRow
import Derived.Lib.LaidTab
namespace Go.Proofs.YtikcifpdnbhpiaaDoor
open Go.RowKit Go.Sort
def saB (a b : List (List UInt8)) : Bool := decide (wholeC a = 0) && decide (wholeC b = 0) && sameM (runS a).1.start (runS b).1.start && sameM (runS a).1.m (runS b).1.m
theorem small_of {t : Tri} (h : vmach t = true) : SmallTri t := by
  have hz := sized_of h
  exact ⟨by have := hz.a; unfold SmallReg; omega, by have := hz.b; unfold SmallReg; omega, by have := hz.s; unfold SmallReg; omega⟩
/-- the cells of two sessions -/
theorem two_cells {w0 w : World} {m1 m2 : List Ent} {x y : SS} {g h : Nat} {T1 T2 : TypeId} {U1 U2 U3 V1 V2 V3 A1 A2 A3 B1 B2 B3 SA BA SB BB : Option Addr} {u1 u2 u3 v1 v2 v3 c1 c2 c3 d1 d2 d3 sc bc sd bd : Nat}
    (h1 : Kn w0 (.blk g [.int .i64 x.start.a.base, .slice U1 x.start.a.digits.length u1, .int .i64 x.start.b.base, .slice U2 x.start.b.digits.length u2, .int .i64 x.start.s.base, .slice U3 x.start.s.digits.length u3, .int .i64 x.start.carry, .int .i64 x.m.a.base, .slice A1 x.m.a.digits.length c1, .int .i64 x.m.b.base, .slice A2 x.m.b.digits.length c2, .int .i64 x.m.s.base, .slice A3 x.m.s.digits.length c3, .int .i64 x.m.carry, .slice SA x.str.length sc, .slice BA x.bel.length bc, .bool x.ended] T1 :: m1) w) (h2 : Kn w0 (.blk h [.int .i64 y.start.a.base, .slice V1 y.start.a.digits.length v1, .int .i64 y.start.b.base, .slice V2 y.start.b.digits.length v2, .int .i64 y.start.s.base, .slice V3 y.start.s.digits.length v3, .int .i64 y.start.carry, .int .i64 y.m.a.base, .slice B1 y.m.a.digits.length d1, .int .i64 y.m.b.base, .slice B2 y.m.b.digits.length d2, .int .i64 y.m.s.base, .slice B3 y.m.s.digits.length d3, .int .i64 y.m.carry, .slice SB y.str.length sd, .slice BB y.bel.length bd, .bool y.ended] T2 :: m2) w) : (fun W => (W.cell? ⟨g, 0, none⟩ = some (.int .i64 x.start.a.base) ∧ W.cell? ⟨g, 1, none⟩ = some (.slice U1 x.start.a.digits.length u1) ∧ W.cell? ⟨g, 2, none⟩ = some (.int .i64 x.start.b.base) ∧ W.cell? ⟨g, 3, none⟩ = some (.slice U2 x.start.b.digits.length u2) ∧ W.cell? ⟨g, 4, none⟩ = some (.int .i64 x.start.s.base) ∧ W.cell? ⟨g, 5, none⟩ = some (.slice U3 x.start.s.digits.length u3) ∧ W.cell? ⟨g, 6, none⟩ = some (.int .i64 x.start.carry)) ∧ (W.cell? ⟨h, 0, none⟩ = some (.int .i64 y.start.a.base) ∧ W.cell? ⟨h, 1, none⟩ = some (.slice V1 y.start.a.digits.length v1) ∧ W.cell? ⟨h, 2, none⟩ = some (.int .i64 y.start.b.base) ∧ W.cell? ⟨h, 3, none⟩ = some (.slice V2 y.start.b.digits.length v2) ∧ W.cell? ⟨h, 4, none⟩ = some (.int .i64 y.start.s.base) ∧ W.cell? ⟨h, 5, none⟩ = some (.slice V3 y.start.s.digits.length v3) ∧ W.cell? ⟨h, 6, none⟩ = some (.int .i64 y.start.carry)) ∧ (W.cell? ⟨g, 7, none⟩ = some (.int .i64 x.m.a.base) ∧ W.cell? ⟨g, 8, none⟩ = some (.slice A1 x.m.a.digits.length c1) ∧ W.cell? ⟨g, 9, none⟩ = some (.int .i64 x.m.b.base) ∧ W.cell? ⟨g, 10, none⟩ = some (.slice A2 x.m.b.digits.length c2) ∧ W.cell? ⟨g, 11, none⟩ = some (.int .i64 x.m.s.base) ∧ W.cell? ⟨g, 12, none⟩ = some (.slice A3 x.m.s.digits.length c3) ∧ W.cell? ⟨g, 13, none⟩ = some (.int .i64 x.m.carry)) ∧ (W.cell? ⟨h, 7, none⟩ = some (.int .i64 y.m.a.base) ∧ W.cell? ⟨h, 8, none⟩ = some (.slice B1 y.m.a.digits.length d1) ∧ W.cell? ⟨h, 9, none⟩ = some (.int .i64 y.m.b.base) ∧ W.cell? ⟨h, 10, none⟩ = some (.slice B2 y.m.b.digits.length d2) ∧ W.cell? ⟨h, 11, none⟩ = some (.int .i64 y.m.s.base) ∧ W.cell? ⟨h, 12, none⟩ = some (.slice B3 y.m.s.digits.length d3) ∧ W.cell? ⟨h, 13, none⟩ = some (.int .i64 y.m.carry))) w :=
  ⟨⟨h1.blkAt.1 0, h1.blkAt.1 1, h1.blkAt.1 2, h1.blkAt.1 3, h1.blkAt.1 4, h1.blkAt.1 5, h1.blkAt.1 6⟩, ⟨h2.blkAt.1 0, h2.blkAt.1 1, h2.blkAt.1 2, h2.blkAt.1 3, h2.blkAt.1 4, h2.blkAt.1 5, h2.blkAt.1 6⟩, ⟨h1.blkAt.1 7, h1.blkAt.1 8, h1.blkAt.1 9, h1.blkAt.1 10, h1.blkAt.1 11, h1.blkAt.1 12, h1.blkAt.1 13⟩, ⟨h2.blkAt.1 7, h2.blkAt.1 8, h2.blkAt.1 9, h2.blkAt.1 10, h2.blkAt.1 11, h2.blkAt.1 12, h2.blkAt.1 13⟩⟩
set_option maxRecDepth 100000 in
set_option maxHeartbeats 6400000 in
theorem SessionsAgree_any (AA : Option Addr) (an ac : Nat) (xs : List ByteArray) (AB : Option Addr) (bn bc' : Nat) (ys : List ByteArray) (w : World) (hr : RL StrM 1 w AA an xs) (hsz : ∀ s ∈ xs, s.size ≤ 1048576) (hr2 : RL StrM 1 w AB bn ys) (hsz2 : ∀ s ∈ ys, s.size ≤ 1048576) (ht : TB w) :
    Calls Tryd.prog 44 #[.slice AA an ac, .slice AB bn bc'] w fun e w' => e = .returned (.bool (saB (xs.map strB) (ys.map strB))) ∧ Below w.heap.size w w' := by
  have KA := (wholeSession_any AA an ac xs w hr hsz ht)
  have KB := (fun W (hW : Below w.heap.size w W) => wholeSession_any AB bn bc' ys W (hr2.below steady_StrM hW) hsz2 (TB.below ht hW))
  unfold WholeI at KA KB
  have HS := (show saB (xs.map strB) (ys.map strB) = (decide (wholeC (xs.map strB) = 0) && decide (wholeC (ys.map strB) = 0) && sameM (runS (xs.map strB)).1.start (runS (ys.map strB)).1.start && sameM (runS (xs.map strB)).1.m (runS (ys.map strB)).1.m) from rfl)
  have GA := (fun (h : wholeC (xs.map strB) = 0) => runS_good (wholeC_ok h).2)
  have GB := (fun (h : wholeC (ys.map strB) = 0) => runS_good (wholeC_ok h).2)
  obtain ⟨R, hR⟩ : ∃ R, saB (xs.map strB) (ys.map strB) = R := ⟨_, rfl⟩
  rw [hR] at HS ⊢
  obtain ⟨C, hC⟩ : ∃ C, wholeC (xs.map strB) = C := ⟨_, rfl⟩
  obtain ⟨D, hD⟩ : ∃ C, wholeC (ys.map strB) = C := ⟨_, rfl⟩
  obtain ⟨x, hx⟩ : ∃ s, (runS (xs.map strB)).1 = s := ⟨_, rfl⟩
  obtain ⟨y, hy⟩ : ∃ s, (runS (ys.map strB)).1 = s := ⟨_, rfl⟩
  rw [hC, hx] at KA HS
  rw [hC, hx] at GA
  rw [hD, hy] at KB HS
  rw [hD, hy] at GB
  replace KA := Lib.hid KA
  replace KB := Lib.hid KB
  replace HS := Lib.hid HS
  clear hR hC hD hx hy hr hsz hr2 hsz2 ht
  rcases hc : (C == 0) with _ | _
  · have HC := Lib.hid (show C ≠ 0 by simpa using hc)
    have HQ : Hid (R = false) := by simp only [Hid]; rw [HS.out, decide_eq_false HC.out]; rfl
    have hc2 : decide (C = 0) = false := decide_eq_false HC.out
    go_enter Tryd.func44, Tryd.ntmps44
    go_wp2_with fail
    refine KA.out.mono ?_; rintro e w1 (⟨h0, -⟩ | ⟨-, rfl, hw⟩)
    · exact absurd h0 HC.out
    go_wp2_with fail
    refine (KB.out _ hw).mono ?_; rintro e w2 (⟨h0, g, rfl, hS⟩ | ⟨h0, rfl, hw2⟩)
    · have hb := hw.trans (hS.below.mono hw.size)
      go_wp2_with fail
      go_quiet (fail)
      go_wp2_with fail
      go_ret
      exact ⟨ret_bool HQ.out.symm, below_drewN hb _⟩
    · have hb := hw.trans (hw2.mono hw.size)
      go_wp2_with fail
      go_quiet (fail)
      go_wp2_with fail
      go_ret
      exact ⟨ret_bool HQ.out.symm, below_drewN hb _⟩
  · obtain rfl : C = 0 := by simpa using hc
    rcases hd : (D == 0) with _ | _
    · have HD := Lib.hid (show D ≠ 0 by simpa using hd)
      have HQ : Hid (R = false) := by simp only [Hid]; rw [HS.out, decide_eq_false HD.out]; simp
      have hd2 : decide (D = 0) = false := decide_eq_false HD.out
      go_enter Tryd.func44, Tryd.ntmps44
      go_wp2_with fail
      refine KA.out.mono ?_; rintro e w1 (⟨-, g, rfl, hS⟩ | ⟨h0, -⟩)
      rotate_left
      · exact absurd rfl h0
      have hw := hS.below
      go_wp2_with fail
      refine (KB.out _ hw).mono ?_; rintro e w2 (⟨h0, -⟩ | ⟨-, rfl, hw2⟩)
      · exact absurd h0 HD.out
      have hb := hw.trans (hw2.mono hw.size)
      go_wp2_with fail
      go_quiet (fail)
      go_wp2_with fail
      go_ret
      exact ⟨ret_bool HQ.out.symm, below_drewN hb _⟩
    · obtain rfl : D = 0 := by simpa using hd
      have ga := GA rfl
      have gb := GB rfl
      go_enter Tryd.func44, Tryd.ntmps44
      go_wp2_with fail
      refine KA.out.mono ?_; rintro e w1 (⟨-, g, rfl, hS⟩ | ⟨h0, -⟩)
      rotate_left
      · exact absurd rfl h0
      have hw := hS.below
      go_wp2_with fail
      refine (KB.out _ hw).mono ?_; rintro e w2 (⟨-, h, rfl, hS2⟩ | ⟨h0, -⟩)
      rotate_left
      · exact absurd rfl h0
      obtain ⟨U1, u1, U2, u2, U3, u3, A1, c1, A2, c2, A3, c3, SA, sc, BA, bc, m, hK, hu, hm⟩ := hS
      obtain ⟨V1, v1, V2, v2, V3, v3, B1, d1, B2, d2, B3, d3, SB, sd, BB, bd, m2, hK2, hu2, hm2⟩ := hS2
      have hK1 := (hK.keep hK2.below).drew
      have hL := (Kn.mono hK2 hw).drew
      obtain ⟨p1, p2, p3⟩ := hu.1.ri hK1 (fun e h => by simp [h])
      obtain ⟨p4, p5, p6⟩ := hm.ri hK1 (fun e h => by simp [h])
      obtain ⟨q1, q2, q3⟩ := hu2.1.ri hL (fun e h => by simp [h])
      obtain ⟨q4, q5, q6⟩ := hm2.ri hL (fun e h => by simp [h])
      have K1 := (fun W (hW : Below w2.drew.heap.size w2.drew W) => SameMachine_any x.start y.start U1 U2 U3 V1 V2 V3 u1 u2 u3 v1 v2 v3 W (p1.below hW) (p2.below hW) (p3.below hW) (q1.below hW) (q2.below hW) (q3.below hW) (small_of ga.start) (small_of gb.start))
      have K2 := (fun W (hW : Below w2.drew.heap.size w2.drew W) => SameMachine_any x.m y.m A1 A2 A3 B1 B2 B3 c1 c2 c3 d1 d2 d3 W (p4.below hW) (p5.below hW) (p6.below hW) (q4.below hW) (q5.below hW) (q6.below hW) (small_of ga.m) (small_of gb.m))
      obtain ⟨e1, h1⟩ : ∃ b, sameM x.start y.start = b := ⟨_, rfl⟩
      obtain ⟨e2, h2⟩ : ∃ b, sameM x.m y.m = b := ⟨_, rfl⟩
      rw [h1] at K1
      rw [h2] at K2
      have HR := Lib.hid (show R = (e1 && e2) by rw [HS.out, h1, h2]; simp)
      replace K1 := Lib.hid K1
      replace K2 := Lib.hid K2
      have HG := Lib.hid (two_cells hK1 hL)
      have hb0 := hL.below
      have HC := Lib.hid (fun W (hW : Below w2.drew.heap.size w2.drew W) => two_cells (hK1.keep hW) (hL.keep hW))
      clear h1 h2 p1 p2 p3 p4 p5 p6 q1 q2 q3 q4 q5 q6 ga gb hK1 hL hK hK2 hu hm hu2 hm2 hw
      rcases e1 with _ | _
      · have HQ : Hid (R = false) := by simp only [Hid]; rw [HR.out]; rfl
        go_wp2_with fail
        refine wp_region_held_drew (S := (fun W => (W.cell? ⟨g, 0, none⟩ = some (.int .i64 x.start.a.base) ∧ W.cell? ⟨g, 1, none⟩ = some (.slice U1 x.start.a.digits.length u1) ∧ W.cell? ⟨g, 2, none⟩ = some (.int .i64 x.start.b.base) ∧ W.cell? ⟨g, 3, none⟩ = some (.slice U2 x.start.b.digits.length u2) ∧ W.cell? ⟨g, 4, none⟩ = some (.int .i64 x.start.s.base) ∧ W.cell? ⟨g, 5, none⟩ = some (.slice U3 x.start.s.digits.length u3) ∧ W.cell? ⟨g, 6, none⟩ = some (.int .i64 x.start.carry)) ∧ (W.cell? ⟨h, 0, none⟩ = some (.int .i64 y.start.a.base) ∧ W.cell? ⟨h, 1, none⟩ = some (.slice V1 y.start.a.digits.length v1) ∧ W.cell? ⟨h, 2, none⟩ = some (.int .i64 y.start.b.base) ∧ W.cell? ⟨h, 3, none⟩ = some (.slice V2 y.start.b.digits.length v2) ∧ W.cell? ⟨h, 4, none⟩ = some (.int .i64 y.start.s.base) ∧ W.cell? ⟨h, 5, none⟩ = some (.slice V3 y.start.s.digits.length v3) ∧ W.cell? ⟨h, 6, none⟩ = some (.int .i64 y.start.carry)) ∧ (W.cell? ⟨g, 7, none⟩ = some (.int .i64 x.m.a.base) ∧ W.cell? ⟨g, 8, none⟩ = some (.slice A1 x.m.a.digits.length c1) ∧ W.cell? ⟨g, 9, none⟩ = some (.int .i64 x.m.b.base) ∧ W.cell? ⟨g, 10, none⟩ = some (.slice A2 x.m.b.digits.length c2) ∧ W.cell? ⟨g, 11, none⟩ = some (.int .i64 x.m.s.base) ∧ W.cell? ⟨g, 12, none⟩ = some (.slice A3 x.m.s.digits.length c3) ∧ W.cell? ⟨g, 13, none⟩ = some (.int .i64 x.m.carry)) ∧ (W.cell? ⟨h, 7, none⟩ = some (.int .i64 y.m.a.base) ∧ W.cell? ⟨h, 8, none⟩ = some (.slice B1 y.m.a.digits.length d1) ∧ W.cell? ⟨h, 9, none⟩ = some (.int .i64 y.m.b.base) ∧ W.cell? ⟨h, 10, none⟩ = some (.slice B2 y.m.b.digits.length d2) ∧ W.cell? ⟨h, 11, none⟩ = some (.int .i64 y.m.s.base) ∧ W.cell? ⟨h, 12, none⟩ = some (.slice B3 y.m.s.digits.length d3) ∧ W.cell? ⟨h, 13, none⟩ = some (.int .i64 y.m.carry)))) (by kernel_rfl) ?_ (fun hHeld => ?_)
        · exact HG.out
        try dsimp only
        refine wpAnyH_take (i := 0) (v := ?_) rfl (by kernel_rfl) (by kernel_rfl) (by kernel_rfl) (fun _ _ _ h => h) (Or.inl ⟨by rfl, ?_⟩) hHeld ?_
        rotate_left
        · (intro w hSw; (try dsimp only at hSw); go_simp; try with_reducible rfl)
        try simp only [Act.put, List.setIfInBounds_toArray, List.set_cons_zero, List.set_cons_succ, List.getElem_toArray, List.getElem_cons_succ, List.getElem_cons_zero]
        refine wpAnyH_take (i := 1) (v := ?_) rfl (by kernel_rfl) (by kernel_rfl) (by kernel_rfl) (fun _ _ _ h => h) (Or.inl ⟨by rfl, ?_⟩) hHeld ?_
        rotate_left
        · (intro w hSw; (try dsimp only at hSw); go_simp; try with_reducible rfl)
        try simp only [Act.put, List.setIfInBounds_toArray, List.set_cons_zero, List.set_cons_succ, List.getElem_toArray, List.getElem_cons_succ, List.getElem_cons_zero]
        refine wpAnyH_take (i := 2) (v := ?_) rfl (by kernel_rfl) (by kernel_rfl) (by kernel_rfl) (fun _ _ _ h => h) (Or.inl ⟨by rfl, ?_⟩) hHeld ?_
        rotate_left
        · (intro w hSw; (try dsimp only at hSw); go_simp; try with_reducible rfl)
        try simp only [Act.put, List.setIfInBounds_toArray, List.set_cons_zero, List.set_cons_succ, List.getElem_toArray, List.getElem_cons_succ, List.getElem_cons_zero]
        refine wpAnyH_take (i := 3) (v := ?_) rfl (by kernel_rfl) (by kernel_rfl) (by kernel_rfl) (fun _ _ _ h => h) (Or.inl ⟨by rfl, ?_⟩) hHeld ?_
        rotate_left
        · (intro w hSw; (try dsimp only at hSw); go_simp; try with_reducible rfl)
        try simp only [Act.put, List.setIfInBounds_toArray, List.set_cons_zero, List.set_cons_succ, List.getElem_toArray, List.getElem_cons_succ, List.getElem_cons_zero]
        refine wpAnyH_take (i := 4) (v := ?_) rfl (by kernel_rfl) (by kernel_rfl) (by kernel_rfl) (fun _ _ _ h => h) (Or.inl ⟨by rfl, ?_⟩) hHeld ?_
        rotate_left
        · (intro w hSw; (try dsimp only at hSw); go_simp; try with_reducible rfl)
        try simp only [Act.put, List.setIfInBounds_toArray, List.set_cons_zero, List.set_cons_succ, List.getElem_toArray, List.getElem_cons_succ, List.getElem_cons_zero]
        refine wpAnyH_take (i := 5) (v := ?_) rfl (by kernel_rfl) (by kernel_rfl) (by kernel_rfl) (fun _ _ _ h => h) (Or.inl ⟨by rfl, ?_⟩) hHeld ?_
        rotate_left
        · (intro w hSw; (try dsimp only at hSw); go_simp; try with_reducible rfl)
        try simp only [Act.put, List.setIfInBounds_toArray, List.set_cons_zero, List.set_cons_succ, List.getElem_toArray, List.getElem_cons_succ, List.getElem_cons_zero]
        refine wpAnyH_take (i := 6) (v := ?_) rfl (by kernel_rfl) (by kernel_rfl) (by kernel_rfl) (fun _ _ _ h => h) (Or.inl ⟨by rfl, ?_⟩) hHeld ?_
        rotate_left
        · (intro w hSw; (try dsimp only at hSw); go_simp; try with_reducible rfl)
        try simp only [Act.put, List.setIfInBounds_toArray, List.set_cons_zero, List.set_cons_succ, List.getElem_toArray, List.getElem_cons_succ, List.getElem_cons_zero]
        refine wpAnyH_take (i := 7) (v := ?_) rfl (by kernel_rfl) (by kernel_rfl) (by kernel_rfl) (fun _ _ _ h => h) (Or.inl ⟨by rfl, ?_⟩) hHeld ?_
        rotate_left
        · (intro w hSw; (try dsimp only at hSw); go_simp; try with_reducible rfl)
        try simp only [Act.put, List.setIfInBounds_toArray, List.set_cons_zero, List.set_cons_succ, List.getElem_toArray, List.getElem_cons_succ, List.getElem_cons_zero]
        refine wpAnyH_take (i := 8) (v := ?_) rfl (by kernel_rfl) (by kernel_rfl) (by kernel_rfl) (fun _ _ _ h => h) (Or.inl ⟨by rfl, ?_⟩) hHeld ?_
        rotate_left
        · (intro w hSw; (try dsimp only at hSw); go_simp; try with_reducible rfl)
        try simp only [Act.put, List.setIfInBounds_toArray, List.set_cons_zero, List.set_cons_succ, List.getElem_toArray, List.getElem_cons_succ, List.getElem_cons_zero]
        refine wpAnyH_take (i := 9) (v := ?_) rfl (by kernel_rfl) (by kernel_rfl) (by kernel_rfl) (fun _ _ _ h => h) (Or.inl ⟨by rfl, ?_⟩) hHeld ?_
        rotate_left
        · (intro w hSw; (try dsimp only at hSw); go_simp; try with_reducible rfl)
        try simp only [Act.put, List.setIfInBounds_toArray, List.set_cons_zero, List.set_cons_succ, List.getElem_toArray, List.getElem_cons_succ, List.getElem_cons_zero]
        refine wpAnyH_take (i := 10) (v := ?_) rfl (by kernel_rfl) (by kernel_rfl) (by kernel_rfl) (fun _ _ _ h => h) (Or.inl ⟨by rfl, ?_⟩) hHeld ?_
        rotate_left
        · (intro w hSw; (try dsimp only at hSw); go_simp; try with_reducible rfl)
        try simp only [Act.put, List.setIfInBounds_toArray, List.set_cons_zero, List.set_cons_succ, List.getElem_toArray, List.getElem_cons_succ, List.getElem_cons_zero]
        refine wpAnyH_take (i := 11) (v := ?_) rfl (by kernel_rfl) (by kernel_rfl) (by kernel_rfl) (fun _ _ _ h => h) (Or.inl ⟨by rfl, ?_⟩) hHeld ?_
        rotate_left
        · (intro w hSw; (try dsimp only at hSw); go_simp; try with_reducible rfl)
        try simp only [Act.put, List.setIfInBounds_toArray, List.set_cons_zero, List.set_cons_succ, List.getElem_toArray, List.getElem_cons_succ, List.getElem_cons_zero]
        refine wpAnyH_take (i := 12) (v := ?_) rfl (by kernel_rfl) (by kernel_rfl) (by kernel_rfl) (fun _ _ _ h => h) (Or.inl ⟨by rfl, ?_⟩) hHeld ?_
        rotate_left
        · (intro w hSw; (try dsimp only at hSw); go_simp; try with_reducible rfl)
        try simp only [Act.put, List.setIfInBounds_toArray, List.set_cons_zero, List.set_cons_succ, List.getElem_toArray, List.getElem_cons_succ, List.getElem_cons_zero]
        refine wpAnyH_take (i := 13) (v := ?_) rfl (by kernel_rfl) (by kernel_rfl) (by kernel_rfl) (fun _ _ _ h => h) (Or.inl ⟨by rfl, ?_⟩) hHeld ?_
        rotate_left
        · (intro w hSw; (try dsimp only at hSw); go_simp; try with_reducible rfl)
        try simp only [Act.put, List.setIfInBounds_toArray, List.set_cons_zero, List.set_cons_succ, List.getElem_toArray, List.getElem_cons_succ, List.getElem_cons_zero]
        refine wpAnyH_take (i := 14) (v := ?_) rfl (by kernel_rfl) (by kernel_rfl) (by kernel_rfl) (fun _ _ _ h => h) (Or.inl ⟨by rfl, ?_⟩) hHeld ?_
        rotate_left
        · (intro w hSw; (try dsimp only at hSw); go_simp; try with_reducible rfl)
        try simp only [Act.put, List.setIfInBounds_toArray, List.set_cons_zero, List.set_cons_succ, List.getElem_toArray, List.getElem_cons_succ, List.getElem_cons_zero]
        refine wpAnyH_ready (rs := [15]) (by kernel_rfl) (by decide) (AllReadyH.cons (o := _) rfl (fun K hK => ?_) AllReadyH.nil)
        go_simp
        go_at_call 91
        (with_reducible refine (K1.out _ (Below.refl _ _)).mono ?_); rintro e w8 ⟨rfl, hw8⟩
        refine hK.out _ _ (HC.out _ hw8) (fun hHeld2 => ?_)
        clear hK K hHeld
        have hHeld := hHeld2
        clear hHeld2
        try simp only [Act.put, List.setIfInBounds_toArray]
        refine wpAnyH_take (i := 16) (v := ?_) rfl (by kernel_rfl) (by kernel_rfl) (by kernel_rfl) (fun _ _ _ h => h) (Or.inl ⟨by rfl, ?_⟩) hHeld ?_
        rotate_left
        · (intro w hSw; (try dsimp only at hSw); go_simp; try with_reducible rfl)
        try simp only [Act.put, List.setIfInBounds_toArray, List.set_cons_zero, List.set_cons_succ, List.getElem_toArray, List.getElem_cons_succ, List.getElem_cons_zero]
        refine wpAnyH_take (i := 17) (v := ?_) rfl (by kernel_rfl) (by kernel_rfl) (by kernel_rfl) (fun _ _ _ h => h) (Or.inl ⟨by rfl, ?_⟩) hHeld ?_
        rotate_left
        · (intro w hSw; (try dsimp only at hSw); go_simp; try with_reducible rfl)
        try simp only [Act.put, List.setIfInBounds_toArray, List.set_cons_zero, List.set_cons_succ, List.getElem_toArray, List.getElem_cons_succ, List.getElem_cons_zero]
        refine wpAnyH_take (i := 18) (v := undef) rfl (by kernel_rfl) (by kernel_rfl) (by kernel_rfl) (fun _ _ _ h => h) (Or.inr ⟨by rfl, rfl⟩) hHeld ?_
        try simp only [Act.put, List.setIfInBounds_toArray, List.set_cons_zero, List.set_cons_succ, List.getElem_toArray, List.getElem_cons_succ, List.getElem_cons_zero]
        refine wpAnyH_take (i := 19) (v := undef) rfl (by kernel_rfl) (by kernel_rfl) (by kernel_rfl) (fun _ _ _ h => h) (Or.inr ⟨by rfl, rfl⟩) hHeld ?_
        try simp only [Act.put, List.setIfInBounds_toArray, List.set_cons_zero, List.set_cons_succ, List.getElem_toArray, List.getElem_cons_succ, List.getElem_cons_zero]
        refine wpAnyH_take (i := 20) (v := undef) rfl (by kernel_rfl) (by kernel_rfl) (by kernel_rfl) (fun _ _ _ h => h) (Or.inr ⟨by rfl, rfl⟩) hHeld ?_
        try simp only [Act.put, List.setIfInBounds_toArray, List.set_cons_zero, List.set_cons_succ, List.getElem_toArray, List.getElem_cons_succ, List.getElem_cons_zero]
        refine wpAnyH_take (i := 21) (v := undef) rfl (by kernel_rfl) (by kernel_rfl) (by kernel_rfl) (fun _ _ _ h => h) (Or.inr ⟨by rfl, rfl⟩) hHeld ?_
        try simp only [Act.put, List.setIfInBounds_toArray, List.set_cons_zero, List.set_cons_succ, List.getElem_toArray, List.getElem_cons_succ, List.getElem_cons_zero]
        refine wpAnyH_take (i := 22) (v := undef) rfl (by kernel_rfl) (by kernel_rfl) (by kernel_rfl) (fun _ _ _ h => h) (Or.inr ⟨by rfl, rfl⟩) hHeld ?_
        try simp only [Act.put, List.setIfInBounds_toArray, List.set_cons_zero, List.set_cons_succ, List.getElem_toArray, List.getElem_cons_succ, List.getElem_cons_zero]
        refine wpAnyH_take (i := 23) (v := undef) rfl (by kernel_rfl) (by kernel_rfl) (by kernel_rfl) (fun _ _ _ h => h) (Or.inr ⟨by rfl, rfl⟩) hHeld ?_
        try simp only [Act.put, List.setIfInBounds_toArray, List.set_cons_zero, List.set_cons_succ, List.getElem_toArray, List.getElem_cons_succ, List.getElem_cons_zero]
        refine wpAnyH_take (i := 24) (v := undef) rfl (by kernel_rfl) (by kernel_rfl) (by kernel_rfl) (fun _ _ _ h => h) (Or.inr ⟨by rfl, rfl⟩) hHeld ?_
        try simp only [Act.put, List.setIfInBounds_toArray, List.set_cons_zero, List.set_cons_succ, List.getElem_toArray, List.getElem_cons_succ, List.getElem_cons_zero]
        refine wpAnyH_take (i := 25) (v := undef) rfl (by kernel_rfl) (by kernel_rfl) (by kernel_rfl) (fun _ _ _ h => h) (Or.inr ⟨by rfl, rfl⟩) hHeld ?_
        try simp only [Act.put, List.setIfInBounds_toArray, List.set_cons_zero, List.set_cons_succ, List.getElem_toArray, List.getElem_cons_succ, List.getElem_cons_zero]
        refine wpAnyH_take (i := 26) (v := undef) rfl (by kernel_rfl) (by kernel_rfl) (by kernel_rfl) (fun _ _ _ h => h) (Or.inr ⟨by rfl, rfl⟩) hHeld ?_
        try simp only [Act.put, List.setIfInBounds_toArray, List.set_cons_zero, List.set_cons_succ, List.getElem_toArray, List.getElem_cons_succ, List.getElem_cons_zero]
        refine wpAnyH_take (i := 27) (v := ?_) rfl (by kernel_rfl) (by kernel_rfl) (by kernel_rfl) (fun _ _ _ h => h) (Or.inl ⟨by rfl, ?_⟩) hHeld ?_
        rotate_left
        · (intro w hSw; (try dsimp only at hSw); go_simp; try with_reducible rfl)
        try simp only [Act.put, List.setIfInBounds_toArray, List.set_cons_zero, List.set_cons_succ, List.getElem_toArray, List.getElem_cons_succ, List.getElem_cons_zero]
        refine wpAnyH_take (i := 28) (v := ?_) rfl (by kernel_rfl) (by kernel_rfl) (by kernel_rfl) (fun _ _ _ h => h) (Or.inl ⟨by rfl, ?_⟩) hHeld ?_
        rotate_left
        · (intro w hSw; (try dsimp only at hSw); go_simp; try with_reducible rfl)
        try simp only [Act.put, List.setIfInBounds_toArray, List.set_cons_zero, List.set_cons_succ, List.getElem_toArray, List.getElem_cons_succ, List.getElem_cons_zero]
        refine wpAnyH_done (by kernel_rfl) ?_ _
        go_wp2_with fail
        go_ret
        exact ⟨ret_bool HQ.out.symm, hb0.trans (hw8.mono hb0.size)⟩
      · have HQ : Hid (R = e2) := by simp only [Hid]; rw [HR.out]; simp
        go_wp2_with fail
        go_region_held3 (fun W => (W.cell? ⟨g, 0, none⟩ = some (.int .i64 x.start.a.base) ∧ W.cell? ⟨g, 1, none⟩ = some (.slice U1 x.start.a.digits.length u1) ∧ W.cell? ⟨g, 2, none⟩ = some (.int .i64 x.start.b.base) ∧ W.cell? ⟨g, 3, none⟩ = some (.slice U2 x.start.b.digits.length u2) ∧ W.cell? ⟨g, 4, none⟩ = some (.int .i64 x.start.s.base) ∧ W.cell? ⟨g, 5, none⟩ = some (.slice U3 x.start.s.digits.length u3) ∧ W.cell? ⟨g, 6, none⟩ = some (.int .i64 x.start.carry)) ∧ (W.cell? ⟨h, 0, none⟩ = some (.int .i64 y.start.a.base) ∧ W.cell? ⟨h, 1, none⟩ = some (.slice V1 y.start.a.digits.length v1) ∧ W.cell? ⟨h, 2, none⟩ = some (.int .i64 y.start.b.base) ∧ W.cell? ⟨h, 3, none⟩ = some (.slice V2 y.start.b.digits.length v2) ∧ W.cell? ⟨h, 4, none⟩ = some (.int .i64 y.start.s.base) ∧ W.cell? ⟨h, 5, none⟩ = some (.slice V3 y.start.s.digits.length v3) ∧ W.cell? ⟨h, 6, none⟩ = some (.int .i64 y.start.carry)) ∧ (W.cell? ⟨g, 7, none⟩ = some (.int .i64 x.m.a.base) ∧ W.cell? ⟨g, 8, none⟩ = some (.slice A1 x.m.a.digits.length c1) ∧ W.cell? ⟨g, 9, none⟩ = some (.int .i64 x.m.b.base) ∧ W.cell? ⟨g, 10, none⟩ = some (.slice A2 x.m.b.digits.length c2) ∧ W.cell? ⟨g, 11, none⟩ = some (.int .i64 x.m.s.base) ∧ W.cell? ⟨g, 12, none⟩ = some (.slice A3 x.m.s.digits.length c3) ∧ W.cell? ⟨g, 13, none⟩ = some (.int .i64 x.m.carry)) ∧ (W.cell? ⟨h, 7, none⟩ = some (.int .i64 y.m.a.base) ∧ W.cell? ⟨h, 8, none⟩ = some (.slice B1 y.m.a.digits.length d1) ∧ W.cell? ⟨h, 9, none⟩ = some (.int .i64 y.m.b.base) ∧ W.cell? ⟨h, 10, none⟩ = some (.slice B2 y.m.b.digits.length d2) ∧ W.cell? ⟨h, 11, none⟩ = some (.int .i64 y.m.s.base) ∧ W.cell? ⟨h, 12, none⟩ = some (.slice B3 y.m.s.digits.length d3) ∧ W.cell? ⟨h, 13, none⟩ = some (.int .i64 y.m.carry))) (first | with_reducible exact HG.out | exact HC.out _ hw8 | exact HC.out _ hw9) (first
          | (go_at_call 91; (with_reducible refine (K1.out _ (Below.refl _ _)).mono ?_); rintro e w8 ⟨rfl, hw8⟩; clear HG; have HG := Lib.hid (HC.out _ hw8))
          | (go_at_call 91; (with_reducible refine (K2.out _ hw8).mono ?_); rintro e w9 ⟨rfl, hw9⟩; have hw10 := hw8.trans (hw9.mono hw8.size); clear HG; have HG := Lib.hid (HC.out _ hw10)))
        all_goals
          go_wp2_with fail
          go_ret
          exact ⟨ret_bool HQ.out.symm, hb0.trans (hw10.mono hb0.size)⟩
set_option maxRecDepth 100000 in
set_option maxHeartbeats 6400000 in
theorem specSessionsAgree_any (AA : Option Addr) (an ac : Nat) (xs : List ByteArray) (AB : Option Addr) (bn bc' : Nat) (ys : List ByteArray) (w : World) (hr : RL StrM 1 w AA an xs) (hsz : ∀ s ∈ xs, s.size ≤ 1048576) (hr2 : RL StrM 1 w AB bn ys) (hsz2 : ∀ s ∈ ys, s.size ≤ 1048576) :
    Calls Tryd.prog 43 #[.slice AA an ac, .slice AB bn bc'] w fun e w' => e = .returned (.bool (saB (xs.map strB) (ys.map strB))) ∧ Below w.heap.size w w' := by
  have KA := (l24Ask_any AA an ac xs w hr hsz)
  have KB := (fun W (hW : Below w.heap.size w W) => l24Ask_any AB bn bc' ys W (hr2.below steady_StrM hW) hsz2)
  unfold WholeS at KA KB
  have HS := (show saB (xs.map strB) (ys.map strB) = (decide (wholeC (xs.map strB) = 0) && decide (wholeC (ys.map strB) = 0) && sameM (runS (xs.map strB)).1.start (runS (ys.map strB)).1.start && sameM (runS (xs.map strB)).1.m (runS (ys.map strB)).1.m) from rfl)
  have GA := (fun (h : wholeC (xs.map strB) = 0) => runS_good (wholeC_ok h).2)
  have GB := (fun (h : wholeC (ys.map strB) = 0) => runS_good (wholeC_ok h).2)
  obtain ⟨R, hR⟩ : ∃ R, saB (xs.map strB) (ys.map strB) = R := ⟨_, rfl⟩
  rw [hR] at HS ⊢
  obtain ⟨C, hC⟩ : ∃ C, wholeC (xs.map strB) = C := ⟨_, rfl⟩
  obtain ⟨D, hD⟩ : ∃ C, wholeC (ys.map strB) = C := ⟨_, rfl⟩
  obtain ⟨x, hx⟩ : ∃ s, (runS (xs.map strB)).1 = s := ⟨_, rfl⟩
  obtain ⟨y, hy⟩ : ∃ s, (runS (ys.map strB)).1 = s := ⟨_, rfl⟩
  rw [hC, hx] at KA HS
  rw [hC, hx] at GA
  rw [hD, hy] at KB HS
  rw [hD, hy] at GB
  replace KA := Lib.hid KA
  replace KB := Lib.hid KB
  replace HS := Lib.hid HS
  clear hR hC hD hx hy hr hsz hr2 hsz2
  rcases hc : (C == 0) with _ | _
  · have HC := Lib.hid (show C ≠ 0 by simpa using hc)
    have HQ : Hid (R = false) := by simp only [Hid]; rw [HS.out, decide_eq_false HC.out]; rfl
    have hc2 : decide (C = 0) = false := decide_eq_false HC.out
    go_enter Tryd.func43, Tryd.ntmps43
    go_wp2_with fail
    refine KA.out.mono ?_; rintro e w1 (⟨h0, -⟩ | ⟨-, g, rfl, hw⟩)
    · exact absurd h0 HC.out
    go_wp2_with fail
    refine (KB.out _ hw).mono ?_; rintro e w2 (⟨h0, g, rfl, hS⟩ | ⟨h0, g, rfl, hw2⟩)
    · have hb := hw.trans (hS.below.mono hw.size)
      go_wp2_with fail
      go_quiet (fail)
      go_wp2_with fail
      go_ret
      exact ⟨ret_bool HQ.out.symm, below_drewN hb _⟩
    · have hb := hw.trans (hw2.mono hw.size)
      go_wp2_with fail
      go_quiet (fail)
      go_wp2_with fail
      go_ret
      exact ⟨ret_bool HQ.out.symm, below_drewN hb _⟩
  · obtain rfl : C = 0 := by simpa using hc
    rcases hd : (D == 0) with _ | _
    · have HD := Lib.hid (show D ≠ 0 by simpa using hd)
      have HQ : Hid (R = false) := by simp only [Hid]; rw [HS.out, decide_eq_false HD.out]; simp
      have hd2 : decide (D = 0) = false := decide_eq_false HD.out
      go_enter Tryd.func43, Tryd.ntmps43
      go_wp2_with fail
      refine KA.out.mono ?_; rintro e w1 (⟨-, g, rfl, hS⟩ | ⟨h0, -⟩)
      rotate_left
      · exact absurd rfl h0
      have hw := hS.below
      go_wp2_with fail
      refine (KB.out _ hw).mono ?_; rintro e w2 (⟨h0, -⟩ | ⟨-, g2, rfl, hw2⟩)
      · exact absurd h0 HD.out
      have hb := hw.trans (hw2.mono hw.size)
      go_wp2_with fail
      go_quiet (fail)
      go_wp2_with fail
      go_ret
      exact ⟨ret_bool HQ.out.symm, below_drewN hb _⟩
    · obtain rfl : D = 0 := by simpa using hd
      have ga := GA rfl
      have gb := GB rfl
      go_enter Tryd.func43, Tryd.ntmps43
      go_wp2_with fail
      refine KA.out.mono ?_; rintro e w1 (⟨-, g, rfl, hS⟩ | ⟨h0, -⟩)
      rotate_left
      · exact absurd rfl h0
      have hw := hS.below
      go_wp2_with fail
      refine (KB.out _ hw).mono ?_; rintro e w2 (⟨-, h, rfl, hS2⟩ | ⟨h0, -⟩)
      rotate_left
      · exact absurd rfl h0
      obtain ⟨U1, u1, U2, u2, U3, u3, A1, c1, A2, c2, A3, c3, SA, sc, BA, bc, m, hK, hu⟩ := hS
      obtain ⟨V1, v1, V2, v2, V3, v3, B1, d1, B2, d2, B3, d3, SB, sd, BB, bd, m2, hK2, hu2⟩ := hS2
      have hK1 := (hK.keep hK2.below)
      have hL := (Kn.mono hK2 hw)
      have T1 := Lib.hid (fun (q : Nat) => TriC.tri (w := w2.drewN q) (b := g) (o := 0) (t := x.start) ⟨(two_cells (hK1.drewN q) (hL.drewN q)).1, hu.ri (hK1.drewN q) (fun e h => by simp [h])⟩)
      have T2 := Lib.hid (fun (q : Nat) => TriC.tri (w := w2.drewN q) (b := h) (o := 0) (t := y.start) ⟨(two_cells (hK1.drewN q) (hL.drewN q)).2.1, hu2.ri (hL.drewN q) (fun e h => by simp [h])⟩)
      have T3 := Lib.hid (fun (q : Nat) => TriC.tri (w := w2.drewN q) (b := g) (o := 7) (t := x.m) ⟨(two_cells (hK1.drewN q) (hL.drewN q)).2.2.1, ((hK1.drewN q).front 3 rfl).riv, ((hK1.drewN q).front 2 rfl).riv, ((hK1.drewN q).front 1 rfl).riv⟩)
      have T4 := Lib.hid (fun (q : Nat) => TriC.tri (w := w2.drewN q) (b := h) (o := 7) (t := y.m) ⟨(two_cells (hK1.drewN q) (hL.drewN q)).2.2.2, ((hL.drewN q).front 3 rfl).riv, ((hL.drewN q).front 2 rfl).riv, ((hL.drewN q).front 1 rfl).riv⟩)
      have K1 := (fun (q : Nat) => l10Same_any ⟨g, 0, none⟩ ⟨h, 0, none⟩ x.start y.start (w2.drewN q) (T1.out q) (T2.out q) (small_of ga.start) (small_of gb.start))
      have K2 := (fun (q : Nat) => l10Same_any ⟨g, 7, none⟩ ⟨h, 7, none⟩ x.m y.m (w2.drewN q) (T3.out q) (T4.out q) (small_of ga.m) (small_of gb.m))
      obtain ⟨e1, h1⟩ : ∃ b, sameM x.start y.start = b := ⟨_, rfl⟩
      obtain ⟨e2, h2⟩ : ∃ b, sameM x.m y.m = b := ⟨_, rfl⟩
      rw [h1] at K1
      rw [h2] at K2
      have HR := Lib.hid (show R = (e1 && e2) by rw [HS.out, h1, h2]; simp)
      replace K1 := Lib.hid K1
      replace K2 := Lib.hid K2
      have hb0 := hL.below
      clear h1 h2 ga gb hK1 hL hK hK2 hu hu2 hw
      rcases e1 with _ | _
      · have HQ : Hid (R = false) := by simp only [Hid]; rw [HR.out]; rfl
        go_wp2_with fail
        go_quiet ((go_at_call 90; first | (with_reducible exact quiet_of_ex (K1.out _)) | (with_reducible exact quiet_add_ex (K1.out _))))
        go_wp2_with fail
        go_ret
        exact ⟨ret_bool HQ.out.symm, below_drewN hb0 _⟩
      · have HQ : Hid (R = e2) := by simp only [Hid]; rw [HR.out]; simp
        go_wp2_with fail
        go_quiet ((go_at_call 90; first | (with_reducible exact quiet_of_ex (K1.out _)) | (with_reducible exact quiet_add_ex (K1.out _)) | (with_reducible exact quiet_of_ex (K2.out _)) | (with_reducible exact quiet_add_ex (K2.out _))))
        go_wp2_with fail
        go_ret
        exact ⟨ret_bool HQ.out.symm, below_drewN hb0 _⟩
end Go.Proofs.YtikcifpdnbhpiaaDoor

/- rows of instructions -/
namespace Go.Proofs.YtikcifpdnbhpiaaDoor
open Go.RowKit Go.Sort
def cellsIns (xs : List Ins) : List Value := xs.flatMap fun x => [.int .i64 x.op, .int .i64 x.arg]
theorem cellsIns_len (xs : List Ins) : (cellsIns xs).length = xs.length * 2 := by
  induction xs with
  | nil => rfl
  | cons x xs ih => unfold cellsIns at *; rw [List.flatMap_cons, List.length_append, ih]; simp; omega
theorem cellsIns_snoc (xs : List Ins) (x : Ins) : cellsIns (xs ++ [x]) = cellsIns xs ++ [.int .i64 x.op, .int .i64 x.arg] := by simp [cellsIns]
theorem cellsIns_get : ∀ (xs : List Ins) (k : Nat) (h : k < xs.length), (cellsIns xs)[k * 2]? = some (.int .i64 xs[k].op) ∧ (cellsIns xs)[k * 2 + 1]? = some (.int .i64 xs[k].arg)
  | [], k, h => by simp at h
  | x :: xs, 0, h => by simp [cellsIns]
  | x :: xs, k + 1, h => by
    have h1 := cellsIns_get xs k (by simpa using h)
    have h2 : cellsIns (x :: xs) = .int .i64 x.op :: .int .i64 x.arg :: cellsIns xs := by simp [cellsIns]
    rw [h2, show (k + 1) * 2 = k * 2 + 1 + 1 by omega]
    simp only [List.getElem?_cons_succ, List.getElem_cons_succ]
    exact h1
theorem cellsIns_one (xs : List Ins) : ∀ u ∈ cellsIns xs, u.oneCell' = true := by
  intro u hu
  obtain ⟨x, -, h⟩ := List.mem_flatMap.1 hu
  simp at h
  rcases h with rfl | rfl <;> rfl
end Go.Proofs.YtikcifpdnbhpiaaDoor

namespace Go.Proofs.YtikcifpdnbhpiaaDoor
open Go.RowKit Go.Sort
def lftT (left : Int) (t : Tri) : Int := lft3 left t.a.digits.length t.b.digits.length t.s.digits.length
def lftS : Int → List Tri → Int
  | left, [] => left
  | left, t :: ts => if lftT left t < 0 then -1 else lftS (lftT left t) ts
def szS (left : Int) (ts : List Tri) : Int := if left - ts.length < 0 then -1 else lftS (left - ts.length) ts
theorem lftT_bd (left : Int) (t : Tri) (h : -1 ≤ left) : -1 ≤ lftT left t ∧ lftT left t ≤ left := by
  unfold lftT lft3
  have b1 := lft_bd left t.a.digits.length h (by omega)
  have b2 := lft_bd _ t.b.digits.length b1.1 (by omega)
  have b3 := lft_bd _ t.s.digits.length b2.1 (by omega)
  split
  · omega
  · split <;> omega
theorem lftT_small {left : Int} {t : Tri} (hl : left ≤ 1048576) (h0 : -1 ≤ left) (h : ¬ lftT left t < 0) : t.a.digits.length ≤ 1048576 ∧ t.b.digits.length ≤ 1048576 ∧ t.s.digits.length ≤ 1048576 := by
  unfold lftT lft3 at h
  split at h
  · omega
  · rename_i k1
    split at h
    · omega
    · rename_i k2
      have b1 := lft_bd left t.a.digits.length h0 (by omega)
      have b2 := lft_bd _ t.b.digits.length b1.1 (by omega)
      unfold lft at h k1 k2 b1 b2
      refine ⟨?_, ?_, ?_⟩
      · split at k1 <;> omega
      · split at k2 <;> split at k2 <;> omega
      · split at h <;> split at h <;> split at h <;> omega
theorem lftS_small : ∀ (ts : List Tri) (left : Int), 0 ≤ left → left ≤ 1048576 → ¬ lftS left ts < 0 → ∀ t ∈ ts, t.a.digits.length ≤ 1048576 ∧ t.b.digits.length ≤ 1048576 ∧ t.s.digits.length ≤ 1048576
  | [], _, _, _, _ => fun t h => by cases h
  | t :: ts, left, h0, hl, h => by
    unfold lftS at h
    split at h
    · omega
    · rename_i k1
      have hb := lftT_bd left t (by omega)
      intro u hu
      rcases List.mem_cons.1 hu with rfl | hu
      · exact lftT_small hl (by omega) k1
      · exact lftS_small ts (lftT left t) (by omega) (by omega) h u hu
theorem szS_small {ts : List Tri} (h : ¬ szS 1048576 ts < 0) : ts.length ≤ 1048576 ∧ ∀ t ∈ ts, t.a.digits.length ≤ 1048576 ∧ t.b.digits.length ≤ 1048576 ∧ t.s.digits.length ≤ 1048576 := by
  unfold szS at h
  split at h
  · omega
  · exact ⟨by omega, lftS_small ts _ (by omega) (by omega) h⟩
theorem smallTri_of {t : Tri} (h : t.a.digits.length ≤ 1048576 ∧ t.b.digits.length ≤ 1048576 ∧ t.s.digits.length ≤ 1048576) : SmallTri t := by
  unfold SmallTri SmallReg; omega
end Go.Proofs.YtikcifpdnbhpiaaDoor

namespace Go.Proofs.YtikcifpdnbhpiaaDoor
open Go.RowKit Go.Sort
theorem ownI_ri {w : World} {base n c : Nat} {A : Option Addr} {ds : List Int} (h : OwnI w base (.slice A n c) ds) : RI w A n ds := by
  obtain ⟨A', c', h1, h2, -⟩ := h.reads
  injection h1 with h1 h3 h4
  rw [h1, h3]; exact h2
theorem row_below {w w' : World} {base : Nat} {e : TypeId} {size : Nat} {v : Value} {n : Nat} {xs : List Value} (h : w.ownsRow base e size v n xs) (hb : Below w.heap.size w w') : w'.ownsRow base e size v n xs := by
  refine ⟨h.1, ?_⟩
  rcases h.2 with hn | ⟨g, cap, cur, rfl, hbg, hg, rest⟩
  · exact .inl hn
  · exact .inr ⟨g, cap, cur, rfl, hbg, by rw [hb.block g (Array.getElem?_eq_some_iff.1 hg).1]; exact hg, rest⟩
/-- trial i in the cells xs of an own row, its digits in own rows from block b on -/
def TriX (w : World) (b : Nat) (xs : List Value) (i : Nat) (t : Tri) : Prop := ∃ X1 x1 X2 x2 X3 x3, (xs[i * 7]? = some (.int .i64 t.a.base) ∧ xs[i * 7 + 1]? = some (.slice X1 t.a.digits.length x1) ∧ xs[i * 7 + 2]? = some (.int .i64 t.b.base) ∧ xs[i * 7 + 3]? = some (.slice X2 t.b.digits.length x2) ∧
    xs[i * 7 + 4]? = some (.int .i64 t.s.base) ∧ xs[i * 7 + 5]? = some (.slice X3 t.s.digits.length x3) ∧ xs[i * 7 + 6]? = some (.int .i64 t.carry)) ∧ OwnI w b (.slice X1 t.a.digits.length x1) t.a.digits ∧ OwnI w b (.slice X2 t.b.digits.length x2) t.b.digits ∧ OwnI w b (.slice X3 t.s.digits.length x3) t.s.digits
theorem TriX.below {w w' : World} {b : Nat} {xs : List Value} {i : Nat} {t : Tri} (h : TriX w b xs i t) (hb : Below w.heap.size w w') : TriX w' b xs i t := by
  obtain ⟨X1, x1, X2, x2, X3, x3, h1, h2, h3, h4⟩ := h
  exact ⟨X1, x1, X2, x2, X3, x3, h1, h2.below hb, h3.below hb, h4.below hb⟩
theorem TriX.setBelow {w : World} {b : Nat} {xs : List Value} {i : Nat} {t : Tri} (h : TriX w b xs i t) {a : Addr} (ha : a.block < b) (u : Value) : TriX (w.setCell a u) b xs i t := by
  obtain ⟨X1, x1, X2, x2, X3, x3, h1, h2, h3, h4⟩ := h
  exact ⟨X1, x1, X2, x2, X3, x3, h1, h2.setBelow ha u, h3.setBelow ha u, h4.setBelow ha u⟩
theorem row7 {w : World} {g n k : Nat} {T : TypeId} {xs : List Value} (h : w.ownsRow g T 7 (.slice (some ⟨g, 0, none⟩) n n) n xs) (hk : k < n) :
    (∃ u, w.cell? ⟨g, k * 7, none⟩ = some u) ∧ (∃ u, w.cell? ⟨g, k * 7 + 1, none⟩ = some u) ∧ (∃ u, w.cell? ⟨g, k * 7 + 2, none⟩ = some u) ∧ (∃ u, w.cell? ⟨g, k * 7 + 3, none⟩ = some u) ∧ (∃ u, w.cell? ⟨g, k * 7 + 4, none⟩ = some u) ∧ (∃ u, w.cell? ⟨g, k * 7 + 5, none⟩ = some u) ∧ (∃ u, w.cell? ⟨g, k * 7 + 6, none⟩ = some u) := by
  have hl := h.1
  have H : ∀ j, j < n * 7 → ∃ u, w.cell? ⟨g, j, none⟩ = some u := fun j hj => ⟨xs[j]'(by omega), (h.cellAt j (by omega)).trans (List.getElem?_eq_getElem (by omega))⟩
  exact ⟨H _ (by omega), H _ (by omega), H _ (by omega), H _ (by omega), H _ (by omega), H _ (by omega), H _ (by omega)⟩
def set7 (xs : List Value) (o : Nat) (v0 v1 v2 v3 v4 v5 v6 : Value) : List Value := ((((((xs.set o v0).set (o + 1) v1).set (o + 2) v2).set (o + 3) v3).set (o + 4) v4).set (o + 5) v5).set (o + 6) v6
theorem set7_ne {xs : List Value} {o i : Nat} {v0 v1 v2 v3 v4 v5 v6 : Value} (h : i < o) : (set7 xs o v0 v1 v2 v3 v4 v5 v6)[i]? = xs[i]? := by
  unfold set7
  rw [List.getElem?_set_ne (by omega), List.getElem?_set_ne (by omega), List.getElem?_set_ne (by omega), List.getElem?_set_ne (by omega), List.getElem?_set_ne (by omega), List.getElem?_set_ne (by omega), List.getElem?_set_ne (by omega)]
theorem set7_at {xs : List Value} {o : Nat} {v0 v1 v2 v3 v4 v5 v6 : Value} (h : o + 6 < xs.length) : (set7 xs o v0 v1 v2 v3 v4 v5 v6)[o]? = some v0 ∧ (set7 xs o v0 v1 v2 v3 v4 v5 v6)[o + 1]? = some v1 ∧ (set7 xs o v0 v1 v2 v3 v4 v5 v6)[o + 2]? = some v2 ∧ (set7 xs o v0 v1 v2 v3 v4 v5 v6)[o + 3]? = some v3 ∧
    (set7 xs o v0 v1 v2 v3 v4 v5 v6)[o + 4]? = some v4 ∧ (set7 xs o v0 v1 v2 v3 v4 v5 v6)[o + 5]? = some v5 ∧ (set7 xs o v0 v1 v2 v3 v4 v5 v6)[o + 6]? = some v6 := by
  unfold set7
  refine ⟨?_, ?_, ?_, ?_, ?_, ?_, ?_⟩ <;>
    (repeat rw [List.getElem?_set_ne (by omega)]) <;> rw [List.getElem?_set_self (by first | omega | (simp only [List.length_set]; omega))]
theorem stored7 {w : World} {g n : Nat} {T : TypeId} {xs : List Value} (h : w.ownsRow g T 7 (.slice (some ⟨g, 0, none⟩) n n) n xs) (o : Nat) (v0 v1 v2 v3 v4 v5 v6 : Value) :
    (((((((w.setCell ⟨g, o, none⟩ v0).setCell ⟨g, o + 1, none⟩ v1).setCell ⟨g, o + 2, none⟩ v2).setCell ⟨g, o + 3, none⟩ v3).setCell ⟨g, o + 4, none⟩ v4).setCell ⟨g, o + 5, none⟩ v5).setCell ⟨g, o + 6, none⟩ v6).ownsRow g T 7 (.slice (some ⟨g, 0, none⟩) n n) n (set7 xs o v0 v1 v2 v3 v4 v5 v6) :=
  ((((((((h.stored o v0).1.stored (o + 1) v1).1.stored (o + 2) v2).1.stored (o + 3) v3).1.stored (o + 4) v4).1.stored (o + 5) v5).1.stored (o + 6) v6)).1
end Go.Proofs.YtikcifpdnbhpiaaDoor

namespace Go.Proofs.YtikcifpdnbhpiaaDoor
open Go.RowKit Go.Sort
/-- numbers were stored into blocks of P -/
inductive Marks (P : Nat → Prop) : World → World → Prop
  | refl (w : World) : Marks P w w
  | step {w w' : World} {b : Nat} (h : Marks P w w') (hb : P b) (j : Nat) (u : Int) : Marks P w (w'.setCell ⟨b, j, none⟩ (.int .i64 u))
theorem Marks.trans {P : Nat → Prop} {a b c : World} (h1 : Marks P a b) (h2 : Marks P b c) : Marks P a c := by
  induction h2 with
  | refl => exact h1
  | step _ hb j u ih => exact ih.step hb j u
theorem Marks.weaken {P Q : Nat → Prop} {a b : World} (h : Marks P a b) (hq : ∀ k, P k → Q k) : Marks Q a b := by
  induction h with
  | refl => exact .refl _
  | step _ hb j u ih => exact ih.step (hq _ hb) j u
theorem Marks.under {P : Nat → Prop} {B : Nat} {a w w' : World} (h : Marks P w w') (hb : Below B a w) (hP : ∀ k, P k → B ≤ k) : Below B a w' := by
  induction h with
  | refl => exact hb
  | step _ hk j u ih => exact ih.setCell (hP _ hk) _
theorem Marks.size {P : Nat → Prop} {w w' : World} (h : Marks P w w') : w'.heap.size = w.heap.size := by
  induction h with
  | refl => rfl
  | step _ hk j u ih => rw [← ih]; simp [World.setCell]
theorem Marks.block {P : Nat → Prop} {w w' : World} (h : Marks P w w') {k : Nat} (hk : ¬ P k) : w'.heap[k]? = w.heap[k]? := by
  induction h with
  | refl => rfl
  | step _ hb j u ih => rw [← ih]; exact heap_setCell_other _ _ k _ (fun e => hk (by rw [e]; exact hb))
theorem map_set_int (ds : List Int) (j : Nat) (u : Int) : (ds.map (Value.int .i64)).set j (.int .i64 u) = (ds.set j u).map (Value.int .i64) := by
  rw [List.map_set]
theorem OwnI.setAny {w : World} {base : Nat} {v : Value} {ds : List Int} (h : OwnI w base v ds) (b j : Nat) (u : Int) : ∃ ds', ds'.length = ds.length ∧ OwnI (w.setCell ⟨b, j, none⟩ (.int .i64 u)) base v ds' := by
  have h' := h
  rcases h.2 with ⟨rfl, hn⟩ | ⟨g, cap, cur, rfl, hb, hg, rest⟩
  · exact ⟨ds, rfl, by simp [hn], .inl ⟨rfl, hn⟩⟩
  · by_cases hgb : g = b
    · subst hgb
      refine ⟨ds.set j u, by simp, ?_⟩
      have hs := (World.ownsRow.stored h j (.int .i64 u)).1
      rw [map_set_int] at hs
      unfold OwnI
      rw [List.length_set]
      exact hs
    · refine ⟨ds, rfl, h.1, .inr ⟨g, cap, cur, rfl, hb, ?_, rest⟩⟩
      rw [heap_setCell_other _ _ _ _ (by simpa using hgb)]
      exact hg
theorem Marks.ownI {P : Nat → Prop} {w w' : World} (h : Marks P w w') {base : Nat} {v : Value} {ds : List Int} (ho : OwnI w base v ds) : ∃ ds', ds'.length = ds.length ∧ OwnI w' base v ds' := by
  induction h with
  | refl => exact ⟨ds, rfl, ho⟩
  | step _ hb j u ih =>
    obtain ⟨d1, l1, o1⟩ := ih
    obtain ⟨d2, l2, o2⟩ := o1.setAny _ j u
    exact ⟨d2, l2.trans l1, o2⟩
/-- k, k + 1, .. -/
def upto (k : Int) (n : Nat) : List Int := (List.range n).map (fun (i : Nat) => k + (i : Int))
theorem upto_len (k : Int) (n : Nat) : (upto k n).length = n := by simp [upto]
theorem upto_get (k : Int) {n i : Nat} (h : i < n) : (upto k n)[i]? = some (k + i) := by simp [upto, h]
/-- the first j are marked -/
def marked (k : Int) (ds : List Int) (j : Nat) : List Int := upto k j ++ ds.drop j
theorem marked_len (k : Int) (ds : List Int) {j : Nat} (h : j ≤ ds.length) : (marked k ds j).length = ds.length := by simp [marked, upto_len]; omega
theorem marked_set (k : Int) (ds : List Int) {j : Nat} (h : j < ds.length) : (marked k ds j).set j (k + j) = marked k ds (j + 1) := by
  unfold marked
  rw [List.set_append_right _ _ (by rw [upto_len]; exact Nat.le_refl _), upto_len, Nat.sub_self, List.drop_eq_getElem_cons h, List.set_cons_zero]
  simp [upto, List.range_succ]
set_option maxHeartbeats 800000 in
theorem markInt64S_any (base : Nat) (A : Option Addr) (n c : Nat) (ds : List Int) (k : Int) (w : World) (ho : OwnI w base (.slice A n c) ds) (hl : ds.length = n) (h0 : 0 ≤ k) (hk : k + n ≤ 4611686018427387904) :
    Calls Tryd.prog 39 #[.slice A n c, .int .i64 k] w fun e w' => e = .returned (.int .i64 (k + n)) ∧ Marks (fun b => (Value.slice A n c).ownBlock = some b) w w' ∧ OwnI w' base (.slice A n c) (upto k n) := by
  have HL := Lib.hid hl
  rcases ho.2 with ⟨hv, hn⟩ | ⟨g, cap, cur, hv, hb, hg, rest⟩
  · injection hv with e1 e2 e3
    subst e1; subst e3
    have hn0 : n = 0 := by rw [← hl]; exact hn
    subst hn0
    go_enter Tryd.func39, Tryd.ntmps39
    go_wp2
    go_loopw [5, 1] (fun i kk wr => i = .int .i64 0 ∧ kk = .int .i64 k ∧ w = wr) (fun _ _ _ => 0)
    case atStart => exact ⟨rfl, rfl, rfl⟩
    case round =>
      obtain ⟨rfl, rfl, rfl⟩ := hrel
      have HN := Lib.hid (List.eq_nil_of_length_eq_zero HL.out)
      have HO := Lib.hid ho
      clear ho hl
      go_wp2
      go_ret
      exact ⟨ret_int (by simp), .refl _, by have h := HO.out; rw [HN.out] at h; simpa [upto] using h⟩
  · injection hv with e1 e2 e3
    subst e1; subst e3
    clear hg rest
    have hz : (marked k ds 0) = ds := by simp [marked, upto]
    have HO := Lib.hid ho
    have HZ := Lib.hid hz
    clear hz hl ho
    go_enter Tryd.func39, Tryd.ntmps39
    go_wp2
    go_loopw [5, 1] (fun i kk wr => ∃ j : Nat, j ≤ n ∧ i = .int .i64 j ∧ kk = .int .i64 (k + j) ∧ OwnI wr base (.slice (some ⟨g, 0, none⟩) n c) (marked k ds j) ∧ Marks (fun b => (some g : Option Nat) = some b) w wr) (fun i _ _ => n - (intOf i).toNat)
    case atStart => exact ⟨0, Nat.zero_le _, rfl, by simp, by rw [HZ.out]; exact HO.out, .refl _⟩
    case round =>
      obtain ⟨j, hj, rfl, rfl, hown, hmk⟩ := hrel
      by_cases hjn : j < n
      · have hlen := marked_len k ds (j := j) (by have := HL.out; omega)
        have hi0 : (0 : Int) ≤ (j : Int) := by omega
        have hi1 : (j : Int) < (n : Int) := by omega
        unfold OwnI at hown
        rw [hlen, HL.out] at hown
        obtain ⟨u, hu⟩ : ∃ u, ((marked k ds j).map (Value.int .i64))[j]? = some u := ⟨_, List.getElem?_eq_getElem (by rw [List.length_map]; have := HL.out; omega)⟩
        have hcell := (World.ownsRow.cellAt hown j (by have := HL.out; omega)).trans hu
        clear hu
        have hfz := World.ownsRow.frozenAt hown j
        have hst := (World.ownsRow.stored hown j (.int .i64 (k + j))).1
        rw [map_set_int, marked_set k ds (by have := HL.out; omega)] at hst
        have hst2 : OwnI (wr.setCell ⟨g, j, none⟩ (.int .i64 (k + j))) base (.slice (some ⟨g, 0, none⟩) n c) (marked k ds (j + 1)) := by
          unfold OwnI
          rw [marked_len k ds (by have := HL.out; omega), HL.out]
          exact hst
        have HST := Lib.hid hst2
        have HMK := Lib.hid hmk
        clear hst hst2 hown hmk hlen
        go_wp2
        go_roundw
        case rel => exact ⟨j + 1, by omega, by go_num, by go_num, HST.out, HMK.out.step rfl j (k + j)⟩
        case measure => simp [intOf]; omega
      · have HJ : Hid (j = n) := by simp only [Hid]; omega
        have HM : Hid (marked k ds j = upto k n) := by
          simp only [Hid]
          rw [HJ.out]
          simp [marked, List.drop_eq_nil_of_le (Nat.le_of_eq HL.out)]
        have HOWN := Lib.hid hown
        have HMK := Lib.hid hmk
        clear hown hmk
        go_wp2
        go_ret
        exact ⟨ret_int (by rw [HJ.out]), HMK.out, by rw [← HM.out]; exact HOWN.out⟩
set_option maxHeartbeats 800000 in
theorem heldInt64S_any (A : Option Addr) (n c : Nat) (k : Int) (w : World) (hr : RI w A n (upto k n)) (h0 : 0 ≤ k) (hk : k + n ≤ 4611686018427387904) :
    Calls Tryd.prog 40 #[.slice A n c, .int .i64 k] w fun e w' => e = .returned (.int .i64 (k + n)) ∧ w = w' := by
  go_enter Tryd.func40, Tryd.ntmps40
  go_wp2
  go_loopw [5, 1] (fun i kk wr => ∃ j : Nat, j ≤ n ∧ i = .int .i64 j ∧ kk = .int .i64 (k + j) ∧ w = wr) (fun i _ _ => n - (intOf i).toNat)
  case atStart => exact ⟨0, Nat.zero_le _, rfl, by simp, rfl⟩
  case round =>
    obtain ⟨j, hj, rfl, rfl, rfl⟩ := hrel
    by_cases hjn : j < n
    · obtain ⟨ad, hA, hlt, hkl, hc⟩ := hr.at_ hjn
      have hv : (upto k n)[j] = k + j := by have h := upto_get k hjn; rw [List.getElem?_eq_getElem hkl] at h; exact Option.some.inj h
      rw [hv] at hc
      have hi0 : (0 : Int) ≤ (j : Int) := by omega
      have hi1 : (j : Int) < (n : Int) := by omega
      subst hA
      clear hv
      go_wp2
      go_roundw
      case rel => exact ⟨j + 1, by omega, by go_num, by go_num, by simp⟩
      case measure => simp [intOf]; omega
    · have HJ : Hid (j = n) := by simp only [Hid]; omega
      go_wp2
      go_ret
      exact ⟨ret_int (by rw [HJ.out]), rfl⟩
end Go.Proofs.YtikcifpdnbhpiaaDoor

namespace Go.Proofs.YtikcifpdnbhpiaaDoor
open Go.RowKit Go.Sort
theorem Marks.chg {P : Nat → Prop} {w w' : World} (h : Marks P w w') : Chg P w w' := by
  induction h with
  | refl => exact ⟨rfl, rfl, rfl, Nat.le_refl _, fun _ _ _ => rfl⟩
  | step h hb j u ih =>
    refine ⟨ih.os, ih.tape, ih.output, Nat.le_trans ih.size (by simp [World.setCell]), fun k hk hn => ?_⟩
    rw [Below.heap_setCell _ _ _ _ (fun e => hn (by rw [e]; exact hb))]
    exact ih.block k hk hn
def rowN (A : Option Addr) (n c : Nat) (ds : List Int) : Ent := .row (.slice A n c) 2 1 n (ds.map (Value.int .i64))
theorem Kn.marks {w0 w w' : World} {m : List Ent} {A : Option Addr} {n c : Nat} {ds ds' : List Int} (h : Kn w0 (rowN A n c ds :: m) w) (hm : Marks (fun b => (Value.slice A n c).ownBlock = some b) w w') (ho : OwnI w' 0 (.slice A n c) ds') (hl : ds'.length = n) : Kn w0 (rowN A n c ds' :: m) w' := by
  subst hl
  exact h.upd (e' := rowN A ds'.length c ds') hm.chg ho (fun k hk => .inl hk)
theorem Kn.ownN {w0 w : World} {m : List Ent} {A : Option Addr} {n c : Nat} {ds : List Int} (h : Kn w0 (rowN A n c ds :: m) w) : OwnI w 0 (.slice A n c) ds ∧ ds.length = n := by
  have h1 : w.ownsRow 0 2 1 (.slice A n c) n (ds.map (Value.int .i64)) := h.at0
  have h2 := h1.1
  rw [List.length_map, Nat.mul_one] at h2
  subst h2
  exact ⟨h1, rfl⟩
theorem Kn.riN {w0 w : World} {m : List Ent} {A : Option Addr} {n c : Nat} {ds : List Int} (h : Kn w0 (rowN A n c ds :: m) w) : RI w A n ds := h.ownN.1.ri
theorem Kn.tail3 {w0 w : World} {m : List Ent} {a b c d : Ent} (h : Kn w0 (a :: b :: c :: d :: m) w) : Kn w0 (b :: c :: d :: a :: m) w := h.perm (List.perm_middle (a := a) (l₁ := [b, c, d]) (l₂ := m)).symm
theorem Kn.rot3 {w0 w : World} {m : List Ent} {b c d : Ent} (h : Kn w0 (b :: c :: d :: m) w) : Kn w0 (c :: d :: b :: m) w := h.perm (List.perm_middle (a := b) (l₁ := [c, d]) (l₂ := m)).symm
theorem markRegister_kn (w0 : World) (m : List Ent) (b : Int) (A : Option Addr) (n c : Nat) (ds : List Int) (k : Int) (w : World) (hK : Kn w0 (rowN A n c ds :: m) w) (h0 : 0 ≤ k) (hk : k + n ≤ 4611686018427387904) :
    Calls Tryd.prog 113 #[.agg #[.int .i64 b, .slice A n c], .int .i64 k] w fun e w' => e = .returned (.int .i64 (k + n)) ∧ Kn w0 (rowN A n c (upto k n) :: m) w' := by
  have hKa := hK.al_ (.cells #[.int .i64 b, .slice A n c] 28)
  go_enter Tryd.func113, Tryd.ntmps113
  go_wp2_with fail
  refine Calls.kn hKa ?_; intro w1 hK1
  obtain ⟨ho, hl⟩ := hK1.ownN
  refine (markInt64S_any 0 A n c ds k w1 ho hl h0 hk).mono ?_; rintro e w2 ⟨rfl, hm, ho2⟩
  have hK2 := hK1.marks hm ho2 (upto_len k n)
  clear ho hl hm ho2 hKa
  go_wp2_with fail
  go_ret
  exact ⟨rfl, hK2⟩
theorem heldRegister_any (b : Int) (A : Option Addr) (n c : Nat) (k : Int) (w : World) (hr : RI w A n (upto k n)) (h0 : 0 ≤ k) (hk : k + n ≤ 4611686018427387904) :
    Calls Tryd.prog 114 #[.agg #[.int .i64 b, .slice A n c], .int .i64 k] w fun e w' => e = .returned (.int .i64 (k + n)) ∧ Below w.heap.size w w' := by
  have hK := (Kn.nil w).al [.int .i64 b, .slice A n c] 28
  have hr' := hr.below hK.below
  have i0 : ¬ k + (n : Int) < 0 := by omega
  go_enter Tryd.func114, Tryd.ntmps114
  go_wp2_with fail
  refine (heldInt64S_any A n c k _ hr' h0 hk).mono ?_; rintro e w2 ⟨rfl, rfl⟩
  go_wp2_with fail
  go_ret
  exact ⟨rfl, hK.below⟩
set_option maxHeartbeats 800000 in
theorem markMachine_kn (w0 : World) (m : List Ent) (b1 b2 b3 cy : Int) (A1 A2 A3 : Option Addr) (n1 n2 n3 c1 c2 c3 : Nat) (d1 d2 d3 : List Int) (k : Int) (w : World) (hK : Kn w0 (rowN A3 n3 c3 d3 :: rowN A2 n2 c2 d2 :: rowN A1 n1 c1 d1 :: m) w) (h0 : 0 ≤ k) (hk : k + n1 + n2 + n3 ≤ 4611686018427387904) :
    Calls Tryd.prog 55 #[.agg #[.int .i64 b1, .slice A1 n1 c1, .int .i64 b2, .slice A2 n2 c2, .int .i64 b3, .slice A3 n3 c3, .int .i64 cy], .int .i64 k] w fun e w' => e = .returned (.int .i64 (k + n1 + n2 + n3)) ∧ Kn w0 (rowN A3 n3 c3 (upto (k + n1 + n2) n3) :: rowN A2 n2 c2 (upto (k + n1) n2) :: rowN A1 n1 c1 (upto k n1) :: m) w' := by
  have hKb := (hK.al [.int .i64 b1, .slice A1 n1 c1, .int .i64 b2, .slice A2 n2 c2, .int .i64 b3, .slice A3 n3 c3, .int .i64 cy] 58).sw3
  go_enter Tryd.func55, Tryd.ntmps55
  go_wp2_with fail
  refine (markRegister_kn w0 _ b1 A1 n1 c1 d1 k _ hKb h0 (by omega)).mono ?_; rintro e w1 ⟨rfl, hK1⟩
  obtain ⟨a1, a2, a3, -⟩ := hK1.cells
  go_wp2_with fail
  refine (markRegister_kn w0 _ b2 A2 n2 c2 d2 _ _ hK1.sw3 (by omega) (by omega)).mono ?_; rintro e w2 ⟨rfl, hK2⟩
  clear a1 a2 a3
  obtain ⟨a1, a2, a3, -⟩ := hK2.cells
  go_wp2_with fail
  refine (markRegister_kn w0 _ b3 A3 n3 c3 d3 _ _ hK2.sw3 (by omega) (by omega)).mono ?_; rintro e w3 ⟨rfl, hK3⟩
  go_wp2_with fail
  go_ret
  exact ⟨rfl, hK3.sw3.drop⟩
set_option maxHeartbeats 800000 in
theorem heldMachine_any (b1 b2 b3 cy : Int) (A1 A2 A3 : Option Addr) (n1 n2 n3 c1 c2 c3 : Nat) (k : Int) (w : World) (r1 : RI w A1 n1 (upto k n1)) (r2 : RI w A2 n2 (upto (k + n1) n2)) (r3 : RI w A3 n3 (upto (k + n1 + n2) n3)) (h0 : 0 ≤ k) (hk : k + n1 + n2 + n3 ≤ 4611686018427387904) :
    Calls Tryd.prog 56 #[.agg #[.int .i64 b1, .slice A1 n1 c1, .int .i64 b2, .slice A2 n2 c2, .int .i64 b3, .slice A3 n3 c3, .int .i64 cy], .int .i64 k] w fun e w' => e = .returned (.int .i64 (k + n1 + n2 + n3)) ∧ Below w.heap.size w w' := by
  have R1 := Lib.hid (fun W (hW : Below w.heap.size w W) => heldRegister_any b1 A1 n1 c1 k W (r1.below hW) h0 (by omega))
  have R2 := Lib.hid (fun W (hW : Below w.heap.size w W) => heldRegister_any b2 A2 n2 c2 (k + n1) W (r2.below hW) (by omega) (by omega))
  have R3 := Lib.hid (fun W (hW : Below w.heap.size w W) => heldRegister_any b3 A3 n3 c3 (k + n1 + n2) W (r3.below hW) (by omega) (by omega))
  have i1 : ¬ k + (n1 : Int) < 0 := by omega
  have i2 : ¬ k + (n1 : Int) + (n2 : Int) < 0 := by omega
  have i3 : ¬ k + (n1 : Int) + (n2 : Int) + (n3 : Int) < 0 := by omega
  have hKb := (Kn.nil w).al [.int .i64 b1, .slice A1 n1 c1, .int .i64 b2, .slice A2 n2 c2, .int .i64 b3, .slice A3 n3 c3, .int .i64 cy] 58
  clear r1 r2 r3
  go_enter Tryd.func56, Tryd.ntmps56
  go_wp2_with fail
  refine (R1.out _ hKb.below).mono ?_; rintro e w1 ⟨rfl, hw⟩
  have hK1 := hKb.keep hw
  clear hw hKb
  obtain ⟨a1, a2, a3, -⟩ := hK1.cells
  go_wp2_with fail
  refine (R2.out _ hK1.below).mono ?_; rintro e w2 ⟨rfl, hw⟩
  have hK2 := hK1.keep hw
  clear hw hK1 a1 a2 a3
  obtain ⟨a1, a2, a3, -⟩ := hK2.cells
  go_wp2_with fail
  refine (R3.out _ hK2.below).mono ?_; rintro e w3 ⟨rfl, hw⟩
  have hK3 := hK2.keep hw
  clear hw hK2 a1 a2 a3
  go_wp2_with fail
  go_ret
  exact ⟨rfl, hK3.below⟩
theorem eqM_same (b1 b2 b3 cy : Int) (A1 A2 A3 B1 B2 B3 : Option Addr) (n1 n2 n3 c1 c2 c3 e1 e2 e3 : Nat) (d1 d2 d3 : List Int) (w : World)
    (r1 : RI w A1 n1 d1) (r2 : RI w A2 n2 d2) (r3 : RI w A3 n3 d3) (s1 : RI w B1 n1 d1) (s2 : RI w B2 n2 d2) (s3 : RI w B3 n3 d3)
    (hm1 : n1 ≤ 1048576) (hm2 : n2 ≤ 1048576) (hm3 : n3 ≤ 1048576) :
    Calls Tryd.prog 54 #[.agg #[.int .i64 b1, .slice A1 n1 c1, .int .i64 b2, .slice A2 n2 c2, .int .i64 b3, .slice A3 n3 c3, .int .i64 cy], .agg #[.int .i64 b1, .slice B1 n1 e1, .int .i64 b2, .slice B2 n2 e2, .int .i64 b3, .slice B3 n3 e3, .int .i64 cy]] w fun e w' => e = .returned (.bool true) ∧ Below w.heap.size w w' :=
  (eqMachine_any b1 b2 b3 cy b1 b2 b3 cy A1 A2 A3 B1 B2 B3 n1 n2 n3 c1 c2 c3 n1 n2 n3 e1 e2 e3 d1 d2 d3 d1 d2 d3 w r1 r2 r3 s1 s2 s3 hm1 hm2 hm3 hm1 hm2 hm3).mono fun e w' ⟨h, hb⟩ => ⟨by rw [h]; simp, hb⟩
theorem Kn.addN {w0 w w' : World} {m : List Ent} {A : Option Addr} {n c : Nat} {ds : List Int} (h : Kn w0 m w) (hb : Below w.heap.size w w') (ho : OwnI w' w.heap.size (.slice A n c) ds) (hl : ds.length = n) : Kn w0 (rowN A n c ds :: m) w' := by
  subst hl
  exact h.addI hb ho
theorem toInt64S_kn (A : Option Addr) (n c : Nat) (ds : List Int) (w : World) (hr : RI w A n ds) (hm : n ≤ 1048576) :
    Calls Tryd.prog 157 #[.slice A n c] w fun e w' => ∃ X x, e = .returned (.slice X n x) ∧ Kn w [rowN X n x ds] w' :=
  (toInt64S_any A n c ds w hr hm).mono fun _ _ ⟨X, x, h1, ho, hb⟩ => ⟨X, x, h1, (Kn.nil w).addN hb ho hr.1⟩
theorem lf_small {left n : Int} (h : ¬ lft left n < 0) (hl : left ≤ 1048576) : n ≤ 1048576 := by unfold lft at h; split at h <;> omega
theorem lf3_small {n1 n2 n3 : Int} (p1 : 0 ≤ n1) (p2 : 0 ≤ n2) (_p3 : 0 ≤ n3) (h : ¬ lft3 1048576 n1 n2 n3 < 0) : n1 ≤ 1048576 ∧ n2 ≤ 1048576 ∧ n3 ≤ 1048576 := by
  unfold lft3 at h
  split at h
  · omega
  · rename_i k1
    split at h
    · omega
    · rename_i k2
      have h1 := lf_small k1 (Int.le_refl _)
      have b1 := lft_bd 1048576 n1 (by omega) p1
      have h2 := lf_small k2 b1.2
      have b2 := lft_bd _ n2 b1.1 p2
      have h3 := lf_small h (by omega)
      exact ⟨h1, h2, h3⟩
theorem lf3_lo (n1 n2 n3 : Int) (p1 : 0 ≤ n1) (p2 : 0 ≤ n2) (p3 : 0 ≤ n3) : lft3 1048576 n1 n2 n3 ≤ 1048576 ∧ -1 ≤ lft3 1048576 n1 n2 n3 := by
  unfold lft3
  have b1 := lft_bd 1048576 n1 (by omega) p1
  have b2 := lft_bd _ n2 b1.1 p2
  have b3 := lft_bd _ n3 b2.1 p3
  split
  · omega
  · split <;> omega
theorem eqI_same (A B : Option Addr) (n c d : Nat) (ds : List Int) (w : World) (hr : RI w A n ds) (hs : RI w B n ds) (hm : n ≤ 1048576) :
    Calls Tryd.prog 37 #[.slice A n c, .slice B n d] w fun e w' => e = .returned (.bool true) ∧ Below w.heap.size w w' :=
  (eqInt64S_any A B n c n d ds ds w hr hs (by omega) (by omega)).mono fun e w' ⟨h, q, hq⟩ => ⟨by rw [h]; simp, by rw [hq]; exact drewN_below q⟩
theorem markI_kn (w0 : World) (m : List Ent) (A : Option Addr) (n c : Nat) (ds : List Int) (k : Int) (w : World) (hK : Kn w0 (rowN A n c ds :: m) w) (h0 : 0 ≤ k) (hk : k + n ≤ 4611686018427387904) :
    Calls Tryd.prog 39 #[.slice A n c, .int .i64 k] w fun e w' => e = .returned (.int .i64 (k + n)) ∧ Kn w0 (rowN A n c (upto k n) :: m) w' := by
  obtain ⟨ho, hl⟩ := hK.ownN
  exact (markInt64S_any 0 A n c ds k w ho hl h0 hk).mono fun e w' ⟨h, hm, ho2⟩ => ⟨h, hK.marks hm ho2 (upto_len k n)⟩
set_option maxRecDepth 100000 in
set_option maxHeartbeats 1600000 in
theorem toMachine_kn (b1 b2 b3 cy : Int) (A1 A2 A3 : Option Addr) (n1 n2 n3 c1 c2 c3 : Nat) (d1 d2 d3 : List Int) (w : World) (r1 : RI w A1 n1 d1) (r2 : RI w A2 n2 d2) (r3 : RI w A3 n3 d3) (hm1 : n1 ≤ 1048576) (hm2 : n2 ≤ 1048576) (hm3 : n3 ≤ 1048576) :
    Calls Tryd.prog 52 #[.agg #[.int .i64 b1, .slice A1 n1 c1, .int .i64 b2, .slice A2 n2 c2, .int .i64 b3, .slice A3 n3 c3, .int .i64 cy]] w fun e w' => ∃ X1 x1 X2 x2 X3 x3, e = .returned (.agg #[.int .i64 b1, .slice X1 n1 x1, .int .i64 b2, .slice X2 n2 x2, .int .i64 b3, .slice X3 n3 x3, .int .i64 cy]) ∧
      Kn w [rowN X3 n3 x3 d3, rowN X2 n2 x2 d2, rowN X1 n1 x1 d1] w' := by
  have K1 := Lib.hid (fun W (hW : Below w.heap.size w W) => toRegister_any b1 A1 n1 c1 d1 W (r1.below hW) hm1)
  have K2 := Lib.hid (fun W (hW : Below w.heap.size w W) => toRegister_any b2 A2 n2 c2 d2 W (r2.below hW) hm2)
  have K3 := Lib.hid (fun W (hW : Below w.heap.size w W) => toRegister_any b3 A3 n3 c3 d3 W (r3.below hW) hm3)
  have L1 := Lib.hid r1.1
  have L2 := Lib.hid r2.1
  have L3 := Lib.hid r3.1
  clear r1 r2 r3
  go_enter Tryd.func52, Tryd.ntmps52
  go_wp2_with fail
  refine Calls.kn ((((Kn.nil w).al [.int .i64 b1, .slice A1 n1 c1, .int .i64 b2, .slice A2 n2 c2, .int .i64 b3, .slice A3 n3 c3, .int .i64 cy] 55).al [.int .i64 0, .slice none 0 0, .int .i64 0, .slice none 0 0, .int .i64 0, .slice none 0 0, .int .i64 0] 58).al [.int .i64 0, .slice none 0 0, .int .i64 0, .slice none 0 0, .int .i64 0, .slice none 0 0, .int .i64 0] 58) ?_; intro w1 hK1
  simp only [World.size_alloc] at hK1
  (with_reducible refine (K1.out _ hK1.below).mono ?_); rintro e w2 ⟨X1, x1, rfl, ho, hb⟩
  have hK2 := hK1.addN hb ho L1.out
  clear hK1 ho hb
  obtain ⟨a1, a2, a3, d1', d2', d3', e1, e2, e3, -⟩ := hK2.cells
  go_wp2_with fail
  refine Calls.kn ((hK2.sw1.st 0 (.int .i64 b1)).st 1 (.slice X1 n1 x1)) ?_; intro w3 hK3
  clear hK2 a1 a2 a3 d1' d2' d3' e1 e2 e3
  (with_reducible refine (K2.out _ hK3.below).mono ?_); rintro e w4 ⟨X2, x2, rfl, ho, hb⟩
  have hK4 := hK3.addN hb ho L2.out
  clear hK3 ho hb
  obtain ⟨a1, a2, a3, d1', d2', d3', e1, e2, e3, -⟩ := hK4.cells
  go_wp2_with fail
  refine Calls.kn ((hK4.sw1.st 2 (.int .i64 b2)).st 3 (.slice X2 n2 x2)) ?_; intro w5 hK5
  clear hK4 a1 a2 a3 d1' d2' d3' e1 e2 e3
  (with_reducible refine (K3.out _ hK5.below).mono ?_); rintro e w6 ⟨X3, x3, rfl, ho, hb⟩
  have hK6 := hK5.addN hb ho L3.out
  clear hK5 ho hb
  obtain ⟨a1, a2, a3, d1', d2', d3', e1, e2, e3, -⟩ := hK6.cells
  have ne1 := hK6.ne 1 5 rfl rfl (by decide)
  have ne2 := ne1.symm
  have ne3 := hK6.ne 1 4 rfl rfl (by decide)
  have ne4 := ne3.symm
  go_wp2_with fail
  refine bodyPost.kn ((((((((((hK6.sw1.st 4 (.int .i64 b3)).st 5 (.slice X3 n3 x3)).st 6 (.int .i64 cy)).front 4 rfl).st 0 (.int .i64 b1)).st 1 (.slice X1 n1 x1)).st 2 (.int .i64 b2)).st 3 (.slice X2 n2 x2)).st 4 (.int .i64 b3)).st 5 (.slice X3 n3 x3) |>.st 6 (.int .i64 cy)) ?_; intro w7 hK7
  clear a1 a2 a3 d1' d2' d3' e1 e2 e3
  obtain ⟨a1, a2, a3, -⟩ := hK7.cells
  refine bodyPost_ret (v := .agg #[.int .i64 b1, .slice X1 n1 x1, .int .i64 b2, .slice X2 n2 x2, .int .i64 b3, .slice X3 n3 x3, .int .i64 cy]) (by simp [results, Tryd.results52, go_sem, a1]) rfl ⟨X1, x1, X2, x2, X3, x3, rfl, ?_⟩
  exact hK7.sel [2, 3, 4] 99 (by decide) (by decide)
end Go.Proofs.YtikcifpdnbhpiaaDoor

namespace Go.Proofs.YtikcifpdnbhpiaaDoor
open Go.RowKit Go.Sort
theorem cellsIns_ext {xs : List Ins} {cs : List Value} (hl : cs.length = xs.length * 2) (h : ∀ (i : Nat) (h : i < xs.length), cs[i * 2]? = some (.int .i64 xs[i].op) ∧ cs[i * 2 + 1]? = some (.int .i64 xs[i].arg)) : cs = cellsIns xs := by
  apply List.ext_getElem?
  intro j
  by_cases hj : j < xs.length * 2
  · obtain ⟨h1, h2⟩ := h (j / 2) (by omega)
    obtain ⟨h3, h4⟩ := cellsIns_get xs (j / 2) (by omega)
    rcases Nat.mod_two_eq_zero_or_one j with he | he
    · have e : j / 2 * 2 = j := by omega
      rw [e] at h1 h3; rw [h1, h3]
    · have e : j / 2 * 2 + 1 = j := by omega
      rw [e] at h2 h4; rw [h2, h4]
  · rw [List.getElem?_eq_none (by omega), List.getElem?_eq_none (by rw [cellsIns_len]; omega)]
/-- the first j cells are marked -/
def markedV (k : Int) (cs : List Value) (j : Nat) : List Value := (upto k j).map (Value.int .i64) ++ cs.drop j
theorem markedV_set (k : Int) (cs : List Value) {j : Nat} (h : j < cs.length) : (markedV k cs j).set j (.int .i64 (k + j)) = markedV k cs (j + 1) := by
  unfold markedV
  rw [List.set_append_right _ _ (by rw [List.length_map, upto_len]; exact Nat.le_refl _), List.length_map, upto_len, Nat.sub_self, List.drop_eq_getElem_cons h, List.set_cons_zero]
  simp [upto, List.range_succ]
theorem markedV_len (k : Int) (cs : List Value) {j : Nat} (h : j ≤ cs.length) : (markedV k cs j).length = cs.length := by simp [markedV, upto_len]; omega
end Go.Proofs.YtikcifpdnbhpiaaDoor

namespace Go.Proofs.YtikcifpdnbhpiaaDoor
open Go.RowKit Go.ChangeShapes Go.WideShapes Go.ChangeAt
section
variable {H : Type} {enc : TypeId × Value → H} {w : World} {base : Nat} {spare : Nat → Bool} {held : Bool} {fuel : Nat} {cs : List Value} {x : DataW H × List MemPlace}
theorem cellsI64 : Tryd.prog.cellsOf 2 = 1 := by kernel_rfl
theorem cellsInts : Tryd.prog.cellsOf 26 = 1 := by kernel_rfl
theorem rd_i64 (h : DataW.trod enc Tryd.prog w base spare held fuel 2 cs = some x) : ∃ n, cs = [.int .i64 n] ∧ -9223372036854775808 ≤ n ∧ n ≤ 9223372036854775807 := by
  obtain ⟨n, rfl, _, hw⟩ := DataW.trod_int Tryd.underlying2 h
  refine ⟨n, rfl, ?_⟩
  have h1 : IntKind.i64.min = -9223372036854775808 := by decide
  have h2 : IntKind.i64.max = 9223372036854775807 := by decide
  simp [Lit.wf] at hw
  omega
theorem rd_ints (h : DataW.trod enc Tryd.prog w base spare held fuel 26 cs = some x) : ∃ A n c ds, cs = [.slice A n c] ∧ RI w A n ds ∧ n ≤ 9223372036854775807 := by
  rcases open_ints Tryd.underlying26 Tryd.underlying2 cellsI64 h with ⟨rfl, _⟩ | ⟨a, len, cap, zs, rfl, _, hl, hm, hz, _, hcell, _⟩
  · exact ⟨none, 0, 0, [], rfl, ⟨rfl, fun h => absurd h (by omega)⟩, by omega⟩
  · have hlen : len ≤ zs.length := by rw [hz]; split <;> omega
    refine ⟨some a, len, cap, zs.take len, rfl, ⟨by simp; omega, fun h0 => ⟨a, rfl, ?_, fun j u hu => ?_⟩⟩, by simp only [maxLen] at hm; omega⟩
    · have := World.block_lt_of_cell? w _ (hcell 0 (by omega)); rwa [block_of_add] at this
    · rw [List.getElem?_take] at hu
      split at hu
      · rw [hcell j (by omega)]; simp [List.getD, hu]
      · cases hu
theorem cellsLR : Tryd.prog.cellsOf 53 = 2 := by kernel_rfl
set_option maxRecDepth 100000 in
theorem rd_lreg (h : DataW.trod enc Tryd.prog w base spare held fuel 53 cs = some x) : ∃ b A n c ds, cs = [.int .i64 b, .slice A n c] ∧ RI w A n ds ∧ n ≤ 9223372036854775807 ∧ -9223372036854775808 ≤ b ∧ b ≤ 9223372036854775807 := by
  obtain ⟨xs, m, _, _, hl, hxl, hf⟩ := DataW.trod_struct Tryd.underlying53 h
  rw [cellsLR] at hl
  match cs, hl with
  | [c0, c1], _ =>
    obtain ⟨y0, hy0⟩ : ∃ y, xs[0]? = some y := ⟨_, List.getElem?_eq_getElem (by rw [hxl]; decide)⟩
    obtain ⟨y1, hy1⟩ : ∃ y, xs[1]? = some y := ⟨_, List.getElem?_eq_getElem (by rw [hxl]; decide)⟩
    have h0 : DataW.trod enc Tryd.prog w base spare held m 2 (([c0, c1].drop 0).take (Tryd.prog.cellsOf 2)) = xs[0]? := hf 0 _ rfl
    have h1 : DataW.trod enc Tryd.prog w base spare held m 26 (([c0, c1].drop 1).take (Tryd.prog.cellsOf 26)) = xs[1]? := hf 1 _ rfl
    simp only [cellsI64, cellsInts, List.drop_zero, List.drop_succ_cons, List.take_succ_cons, List.take_zero] at h0 h1
    rw [hy0] at h0
    rw [hy1] at h1
    obtain ⟨b, e0, hb1, hb2⟩ := rd_i64 h0
    obtain ⟨A, n, c, ds, e1, hr, hn⟩ := rd_ints h1
    injection e0 with e0
    injection e1 with e1
    exact ⟨b, A, n, c, ds, by rw [e0, e1], hr, hn, hb1, hb2⟩
end
end Go.Proofs.YtikcifpdnbhpiaaDoor

namespace Go.Proofs.YtikcifpdnbhpiaaDoor
open Go.RowKit Go.ChangeShapes Go.WideShapes Go.ChangeAt
section
variable {H : Type} {enc : TypeId × Value → H} {w : World} {base : Nat} {spare : Nat → Bool} {held : Bool} {fuel : Nat} {cs : List Value} {x : DataW H × List MemPlace}
theorem cellsStr : Tryd.prog.cellsOf 9 = 1 := by kernel_rfl
theorem rd_strings (h : DataW.trod enc Tryd.prog w base spare held fuel 41 cs = some x) : ∃ A n c ss, cs = [.slice A n c] ∧ RL StrM 1 w A n ss ∧ n ≤ 9223372036854775807 ∧ ∀ s ∈ ss, s.size ≤ 9223372036854775807 := by
  rcases open_strings Tryd.underlying41 Tryd.underlying9 cellsStr h with ⟨rfl, _⟩ | ⟨a, len, cap, ss, rfl, _, hl, hm, hz, _, hcell, hsz⟩
  · exact ⟨none, 0, 0, [], rfl, ⟨rfl, fun h => absurd h (by omega)⟩, by omega, fun s hs => by cases hs⟩
  · have hlen : len ≤ ss.length := by rw [hz]; split <;> omega
    refine ⟨some a, len, cap, ss.take len, rfl, ⟨by simp; omega, fun h0 => ⟨a, rfl, ?_, fun k hk => ?_⟩⟩, by simp only [maxLen] at hm; omega, fun s hs => ?_⟩
    · have := World.block_lt_of_cell? w _ (hcell 0 (by omega)); rwa [block_of_add] at this
    · have hk' : k < len := by simp at hk; omega
      have h1 := hcell k (by omega)
      unfold StrM
      rw [Nat.mul_one, h1, List.getD_eq_getElem?_getD, List.getElem?_eq_getElem (by omega), List.getElem_take]; rfl
    · have := hsz s (List.mem_of_mem_take hs)
      simp only [maxLen] at this; omega
end
end Go.Proofs.YtikcifpdnbhpiaaDoor

namespace Go.Proofs.YtikcifpdnbhpiaaDoor
open Go.RowKit Go.ChangeShapes Go.WideShapes Go.ChangeAt
theorem laid_tail {P : Program} {W : World} {x : String × DataW Unit} {rest : List (String × DataW Unit)} (h : laidMet P (x :: rest) W) : laidMet P rest W := by
  obtain ⟨ps, ⟨g, t, cs, fuel, p, q, h1, h2, h3, h4, h5, rfl⟩, hn, hr⟩ := h
  exact ⟨q, h5, (List.nodup_append.1 hn).2.1, fun b off hb => hr b off (List.mem_append_right _ hb)⟩
theorem cellsU64 : Tryd.prog.cellsOf 142 = 1 := by kernel_rfl
theorem cellsTab : Tryd.prog.cellsOf 192 = 20 := by kernel_rfl
theorem gTab : Tryd.prog.globalNamed "internal/strconv.uint64pow10" = some 0 := by kernel_rfl
theorem gTabType : (Tryd.prog.globals[0]?).map (·.type) = some 192 := by kernel_rfl
theorem tb_of_laid {W : World} (h : laidMetH Tryd.prog [("math/bits.deBruijn32tab", Rows.laid_math_bits_deBruijn32tab), ("math/bits.deBruijn64tab", Rows.laid_math_bits_deBruijn64tab), ("internal/strconv.uint64pow10", Rows.laid_internal_strconv_uint64pow10)] W) : TB W := by
  have h1 : laidMet Tryd.prog [("math/bits.deBruijn32tab", Rows.laid_math_bits_deBruijn32tab), ("math/bits.deBruijn64tab", Rows.laid_math_bits_deBruijn64tab), ("internal/strconv.uint64pow10", Rows.laid_internal_strconv_uint64pow10)] W := h
  exact Lib.tabIs_of_head (rest := []) gTab gTabType Tryd.underlying192 Tryd.underlying142 cellsU64 cellsTab (laid_tail (laid_tail h1))
def tabCells (l : DataW Unit) (k : IntKind) : Array Value := match l with
  | .agg ds => (ds.map fun d => match d with | .lit (.int _ n) => Value.int k n | _ => .int k 0).toArray
  | _ => #[]
def setTab (cs : Array Value) (o : Obj) : Obj := match o with
  | .cells _ t frozen => .cells cs t frozen
  | o => o
noncomputable def laidWorld (os : Os) : World :=
  { World.holding Tryd.prog os ⟨#[], #[], []⟩ with heap := (((World.holding Tryd.prog os ⟨#[], #[], []⟩).heap.modify 0 (setTab (tabCells Rows.laid_internal_strconv_uint64pow10 .u64))).modify 1 (setTab (tabCells Rows.laid_math_bits_deBruijn32tab .u8))).modify 2 (setTab (tabCells Rows.laid_math_bits_deBruijn64tab .u8)) }
theorem laid_met (os : Os) (args : Array Value) : laidMet Tryd.prog [("math/bits.deBruijn32tab", Rows.laid_math_bits_deBruijn32tab), ("math/bits.deBruijn64tab", Rows.laid_math_bits_deBruijn64tab), ("internal/strconv.uint64pow10", Rows.laid_internal_strconv_uint64pow10)] ((laidWorld os).forCall (fun _ _ => 0) ⟨#[], args, []⟩).memory :=
  laidMet_of_run' 8 (by kernel_rfl) (by kernel_rfl)
theorem own : ownKnob Tryd.prog.godebug = none := by kernel_rfl
theorem laidOut : laidOutB Tryd.prog = true := by kernel_rfl
end Go.Proofs.YtikcifpdnbhpiaaDoor
