/- Part 7: lemmas and contracts of the claim's functions. -/
import Derived.Test.YtkfbfainhmkkdaaGreatZC1
import Derived.Test.YtkfbfainhmkkdaaGreatZC2
import Derived.Test.YtkfbfainhmkkdaaGreatZC3
import Derived.Test.YtkfbfainhmkkdaaGreatZC4
import Derived.Test.YtkfbfainhmkkdaaGreatZC5
import Derived.Test.YtkfbfainhmkkdaaGreatZC6
namespace Go.Proofs.YtkfbfainhmkkdaaGreat
open Go.RowKit Go.Sort
set_option maxRecDepth 100000 in
set_option maxHeartbeats 6400000 in
theorem keeps_any {L : List Ins} {n lc : Nat} {LA : Option Addr} (t : Tri) (A1 A2 A3 : Option Addr) (c1 c2 c3 : Nat) (kind arg : Int) (w : World) (r1 : RI w A1 t.a.digits.length t.a.digits) (r2 : RI w A2 t.b.digits.length t.b.digits) (r3 : RI w A3 t.s.digits.length t.s.digits) (hv : vmach t = true) (hp : vprog L = true) (hr : RL InsM 2 w LA n L) (hk : isP kind arg = true) :
    Calls Tryz.prog 88 #[.agg #[.int .i64 t.a.base, .slice A1 t.a.digits.length c1, .int .i64 t.b.base, .slice A2 t.b.digits.length c2, .int .i64 t.s.base, .slice A3 t.s.digits.length c3, .int .i64 t.carry], .slice LA n lc, .int .i64 kind, .int .i64 arg] w fun e w' => e = .returned (.bool (kpB L t kind arg)) ∧ Below w.heap.size w w' := by
  obtain ⟨k1, k2, k3, e1, e2, f1, f2, l1, p0, p1⟩ := vmach_all hv
  obtain ⟨⟨b1, b2⟩, ⟨n1, n2⟩, yd1, yl1⟩ := vreg_iff.1 k1
  obtain ⟨⟨b3, b4⟩, ⟨n3, n4⟩, yd2, yl2⟩ := vreg_iff.1 k2
  obtain ⟨⟨b5, b6⟩, ⟨n5, n6⟩, yd3, yl3⟩ := vreg_iff.1 k3
  have hva := (valL_bd t.a.base b1 t.a.digits (fun d h => (yd1 d h).1)).1
  have hvb := (valL_bd t.b.base b3 t.b.digits (fun d h => (yd2 d h).1)).1
  have KVA := (fun W (hW : Below w.heap.size w W) => value_any t.a.base A1 t.a.digits.length c1 t.a.digits W b1 b2 yd1 (r1.below hW) n2)
  have KVB := (fun W (hW : Below w.heap.size w W) => value_any t.b.base A2 t.b.digits.length c2 t.b.digits W b3 b4 yd2 (r2.below hW) n4)
  have KRP := (fun W (hW : Below w.heap.size w W) => runProgram_any (lc := lc) t A1 A2 A3 c1 c2 c3 W (r1.below hW) (r2.below hW) (r3.below hW) hv hp (hr.below steady_InsM hW))
  unfold RunPI at KRP
  have KN3 := (fun (A3 : Option Addr) (c3 : Nat) W => values_any t.s.base A3 t.s.digits.length c3 W b5 b6 (by omega))
  have hp3 : powC t.s.base t.s.digits.length = pw t.s.base t.s.digits.length := by unfold powC; rw [if_pos f2]
  rw [hp3] at KN3
  have p3 := pw_pos t.s.base b5 t.s.digits.length
  have HR1 := Lib.hid (fun W (hW : Below w.heap.size w W) => r1.below hW)
  have HR2 := Lib.hid (fun W (hW : Below w.heap.size w W) => r2.below hW)
  have kk : kind = 1 ∧ -1000 ≤ arg ∧ arg ≤ 1000 ∨ kind = 2 ∧ valL t.a.base t.a.digits = 0 ∨ kind = 2 ∧ ¬ valL t.a.base t.a.digits = 0 ∨ kind = 3 ∨ kind = 4 := by
    rcases isP_kinds hk with h | h | h | h
    · exact Or.inl h
    · by_cases h0 : valL t.a.base t.a.digits = 0
      · exact Or.inr (Or.inl ⟨h, h0⟩)
      · exact Or.inr (Or.inr (Or.inl ⟨h, h0⟩))
    · exact Or.inr (Or.inr (Or.inr (Or.inl h)))
    · exact Or.inr (Or.inr (Or.inr (Or.inr h)))
  have hs1 : SmallReg t.a := by unfold SmallReg; omega
  have hs2 : SmallReg t.b := by unfold SmallReg; omega
  have hmsz := fun (s : RS) (hg : s.Good) => sized_of hg.m
  rcases kk with ⟨rfl, x1, x2⟩ | ⟨rfl, h0⟩ | ⟨rfl, h0⟩ | rfl | rfl
  · -- times
    have HKC := Lib.hid (fun (s : RS) (b : Bool) he hc => kp_code (L := L) (t := t) (kind := 1) (arg := arg) (s := s) (b := b) (by omega) he hc)
    have HKF := Lib.hid (fun (s : RS) (b : Bool) he hc => kp_fine (L := L) (t := t) (kind := 1) (arg := arg) (s := s) (b := b) (by omega) he hc)
    have hxb : -2000000000000000 ≤ arg * valL t.a.base t.a.digits ∧ arg * valL t.a.base t.a.digits ≤ 2000000000000000 := by
      have h1 : arg * valL t.a.base t.a.digits ≤ 1000 * valL t.a.base t.a.digits := Int.mul_le_mul_of_nonneg_right x2 hva
      have h2 : -1000 * valL t.a.base t.a.digits ≤ arg * valL t.a.base t.a.digits := Int.mul_le_mul_of_nonneg_right x1 hva
      omega
    have KSH := (fun W (hW : Below w.heap.size w W) => shiftedW_any t.b.base A2 c2 t.b.digits (arg * valL t.a.base t.a.digits) W (r2.below hW) k2 f1 hxb.1 hxb.2)
    have hsl := shiftD_len t.b.base t.b.digits (arg * valL t.a.base t.a.digits)
    have HKD := Lib.hid (fun (s : Tri) => show kpAfter t s 1 arg = (sameR s.b ⟨t.b.base, shiftD t.b.base t.b.digits (arg * valL t.a.base t.a.digits)⟩ && sameR s.a t.a) from rfl)
    obtain ⟨VA, hVA⟩ : ∃ v, valL t.a.base t.a.digits = v := ⟨_, rfl⟩
    obtain ⟨VB, hVB⟩ : ∃ v, valL t.b.base t.b.digits = v := ⟨_, rfl⟩
    rw [hVA] at KVA KSH hxb hva hsl
    rw [hVB] at KVB hvb
    have HKD := HKD.out
    rw [hVA] at HKD
    obtain ⟨XX, hXX⟩ : ∃ v, arg * VA = v := ⟨_, rfl⟩
    rw [hXX] at KSH hxb hsl HKD
    have hxw : -9223372036854775808 ≤ arg * VA ∧ arg * VA ≤ 9223372036854775807 := by rw [hXX]; omega
    have HXX := Lib.hid hXX
    obtain ⟨SH, hSH⟩ : ∃ v, shiftD t.b.base t.b.digits XX = v := ⟨_, rfl⟩
    rw [hSH] at KSH hsl HKD
    obtain ⟨SB, hSB⟩ : ∃ v, shiftB t.b.base t.b.digits XX = v := ⟨_, rfl⟩
    rw [hSB] at KSH
    have hs3 : SmallReg ⟨t.b.base, SH⟩ := by unfold SmallReg; simp only; omega
    have KE1 := (fun (s : Tri) (h1 : SmallReg s.b) (B D : Option Addr) (c d : Nat) W q1 q2 => SameRegister_any s.b ⟨t.b.base, SH⟩ B D c d W q1 q2 h1 hs3)
    have KE2 := (fun (s : Tri) (h1 : SmallReg s.a) (B : Option Addr) (c : Nat) W q1 q2 => SameRegister_any s.a t.a B A1 c c1 W q1 q2 h1 hs1)
    dsimp only at KE1
    have HKD := Lib.hid HKD
    have KVA := Lib.hid KVA
    have KVB := Lib.hid KVB
    have KRP := Lib.hid KRP
    have KSH := Lib.hid KSH
    have KE1 := Lib.hid KE1
    have KE2 := Lib.hid KE2
    clear r1 r2 r3 hr hv hp hk k1 k2 k3 e1 e2 l1 p0 p1 yd1 yd2 yd3 hVA hVB hXX hSH hSB hsl hs2 KN3 hp3
    go_enter Tryz.func88, Tryz.ntmps88
    go_wp2_with fail
    have hK1 := (Kn.nil w).al [.int .i64 t.a.base, .slice A1 t.a.digits.length c1, .int .i64 t.b.base, .slice A2 t.b.digits.length c2, .int .i64 t.s.base, .slice A3 t.s.digits.length c3, .int .i64 t.carry] 28
    generalize w.alloc (.cells #[.int .i64 t.a.base, .slice A1 t.a.digits.length c1, .int .i64 t.b.base, .slice A2 t.b.digits.length c2, .int .i64 t.s.base, .slice A3 t.s.digits.length c3, .int .i64 t.carry] 28) = w1 at hK1 ⊢
    have HG := Lib.hid (box7 hK1.drew)
    go_cut [9, 10] (fun pp oo wx => pp = .int .i64 VA ∧ oo = .int .i64 VB ∧ Kn w [.blk w.heap.size [.int .i64 t.a.base, .slice A1 t.a.digits.length c1, .int .i64 t.b.base, .slice A2 t.b.digits.length c2, .int .i64 t.s.base, .slice A3 t.s.digits.length c3, .int .i64 t.carry] 28] wx)
    case first =>
      go_region_held3 (fun W => W.cell? ⟨w.heap.size, 0, none⟩ = some (.int .i64 t.a.base) ∧ W.cell? ⟨w.heap.size, 1, none⟩ = some (.slice A1 t.a.digits.length c1) ∧ W.cell? ⟨w.heap.size, 2, none⟩ = some (.int .i64 t.b.base) ∧ W.cell? ⟨w.heap.size, 3, none⟩ = some (.slice A2 t.b.digits.length c2) ∧ W.cell? ⟨w.heap.size, 4, none⟩ = some (.int .i64 t.s.base) ∧ W.cell? ⟨w.heap.size, 5, none⟩ = some (.slice A3 t.s.digits.length c3) ∧ W.cell? ⟨w.heap.size, 6, none⟩ = some (.int .i64 t.carry)) (first | with_reducible exact HG.out | exact HG.out) (first
        | (go_at_call 76; (with_reducible refine (KVA.out _ hK1.drew.below).mono ?_); rintro e w3 ⟨rfl, hw3⟩; have hK3 := hK1.drew.keep hw3; clear HG; have HG := Lib.hid (box7 hK3))
        | (go_at_call 76; (with_reducible refine (KVB.out _ hK3.below).mono ?_); rintro e w4 ⟨rfl, hw4⟩; have hK4 := hK3.keep hw4; clear HG; have HG := Lib.hid (box7 hK4)))
      all_goals
        go_wp2_with fail
        go_meet
        exact ⟨rfl, rfl, hK4⟩
    case rest =>
      obtain ⟨rfl, rfl, hK2⟩ := hcut
      clear HG hK1
      obtain ⟨a1, a2, a3, -⟩ := hK2.cells
      go_wp2_with fail
      refine (KRP.out _ hK2.below).mono ?_; rintro e w5 ⟨g, s, b', rfl, he, ⟨SA, sc, M1, j1, M2, j2, M3, j3, hKr⟩, hg⟩
      have hK5 : Kn w [.blk g [.int .i64 s.m.a.base, .slice M1 s.m.a.digits.length j1, .int .i64 s.m.b.base, .slice M2 s.m.b.digits.length j2, .int .i64 s.m.s.base, .slice M3 s.m.s.digits.length j3, .int .i64 s.m.carry, .slice LA n lc, .int .i64 (s.done : Int), .slice SA s.tr.length sc, .int .i64 s.code] 87, rowI M3 j3 s.m.s.digits, rowI M2 j2 s.m.b.digits, rowI M1 j1 s.m.a.digits, .blk w.heap.size [.int .i64 t.a.base, .slice A1 t.a.digits.length c1, .int .i64 t.b.base, .slice A2 t.b.digits.length c2, .int .i64 t.s.base, .slice A3 t.s.digits.length c3, .int .i64 t.carry] 28] w5 := (hK2.join hKr).sel [0, 1, 2, 3, 5] 99 (by decide) (by decide)
      clear hK2 hKr a1 a2 a3
      obtain ⟨d1, d2, d3, a1, a2, a3, -⟩ := hK5.cells
      rcases hc0 : (s.code == 0) with _ | _
      · have hcn : ¬ s.code = 0 := by simpa using hc0
        have hcb : (s.code != 0) = true := by simpa using hc0
        have HB := Lib.hid (HKC.out s b' he hcn)
        clear hc0 hcn he hg
        go_wp2_with fail
        go_ret
        exact ⟨ret_bool HB.out.symm, hK5.below⟩
      have hcn : s.code = 0 := by simpa using hc0
      have hcb : (s.code != 0) = false := by simpa using hc0
      have HB := HKF.out s b' he hcn
      have hcs := he.cs
      unfold startR at hcs
      simp only [] at hcs
      have HCS := Lib.hid hcs
      clear hcs
      clear hc0 hcn he
      rw [HKD.out] at HB
      have hz := hmsz s hg
      have hz1 : SmallReg s.m.a := by unfold SmallReg; have := hz.a; omega
      have hz2 : SmallReg s.m.b := by unfold SmallReg; have := hz.b; omega
      go_wp2_with fail
      refine Calls.kn (hK5.al [.int .i64 s.m.a.base, .slice M1 s.m.a.digits.length j1, .int .i64 s.m.b.base, .slice M2 s.m.b.digits.length j2, .int .i64 s.m.s.base, .slice M3 s.m.s.digits.length j3, .int .i64 s.m.carry] 28) ?_; intro w6 hK6r
      have hK6 : Kn w [.blk w5.heap.size [.int .i64 s.m.a.base, .slice M1 s.m.a.digits.length j1, .int .i64 s.m.b.base, .slice M2 s.m.b.digits.length j2, .int .i64 s.m.s.base, .slice M3 s.m.s.digits.length j3, .int .i64 s.m.carry] 28, rowI M3 j3 s.m.s.digits, rowI M2 j2 s.m.b.digits, rowI M1 j1 s.m.a.digits, .blk w.heap.size [.int .i64 t.a.base, .slice A1 t.a.digits.length c1, .int .i64 t.b.base, .slice A2 t.b.digits.length c2, .int .i64 t.s.base, .slice A3 t.s.digits.length c3, .int .i64 t.carry] 28] w6 := hK6r.sel [0, 2, 3, 4, 5] 99 (by decide) (by decide)
      clear hK6r hK5 d1 d2 d3 a1 a2 a3
      rw [HXX.out]
      refine (KSH.out _ hK6.below).mono ?_; rintro e w7 ⟨X, x, rfl, hKx⟩
      have hK7 := hK6.join hKx
      clear hK6 hKx
      obtain ⟨d1, d2, d3, a1, a2, a3, -⟩ := hK7.cells
      go_wp2_with fail
      refine Calls.kn (hK7.al [.int .i64 t.b.base, .slice X SH.length x] 26) ?_; intro w8 hK8
      have KE1 := Lib.hid (KE1.out s.m hz2)
      have KE2 := Lib.hid (KE2.out s.m hz1)
      refine (KE1.out _ _ _ _ _ (Kn.riv (hK8.sel [4] 99 (by decide) (by decide))) (Kn.riv (hK8.sel [1] 99 (by decide) (by decide)))).mono ?_; rintro e w9 ⟨rfl, hw⟩
      have hK9 := hK8.keep hw
      clear hK7 hK8 hw d1 d2 d3 a1 a2 a3
      obtain ⟨f1', f2', f3', d1, d2, d3, a1, a2, a3, -⟩ := hK9.cells
      rcases hq1 : sameR s.m.b ⟨t.b.base, SH⟩ with _ | _
      · have HF := Lib.hid (show kpB L t 1 arg = false by rw [HB, hq1]; rfl)
        go_wp2_with fail
        go_ret
        exact ⟨ret_bool HF.out.symm, hK9.below⟩
      · have HF := Lib.hid (show kpB L t 1 arg = sameR s.m.a t.a by rw [HB, hq1]; rfl)
        go_wp2_with fail
        refine (KE2.out _ _ _ (Kn.riv (hK9.sel [5] 99 (by decide) (by decide))) (HR1.out _ hK9.below)).mono ?_; rintro e w10 ⟨rfl, hw⟩
        have hK10 := hK9.keep hw
        go_wp2_with fail
        go_ret
        exact ⟨ret_bool HF.out.symm, hK10.below⟩
  · -- quotient, setting 0
    have HF := Lib.hid (kp_zero (L := L) (t := t) (arg := arg) h0)
    rw [h0] at KVA
    obtain ⟨VB, hVB⟩ : ∃ v, valL t.b.base t.b.digits = v := ⟨_, rfl⟩
    rw [hVB] at KVB hvb
    obtain ⟨VA, hVA⟩ : ∃ v : Int, 0 = v := ⟨_, rfl⟩
    rw [hVA] at KVA
    have KVA := Lib.hid KVA
    have KVB := Lib.hid KVB
    clear r1 r2 r3 hr hv hp hk k1 k2 k3 e1 e2 l1 p0 p1 yd1 yd2 yd3 hVB hs2 KN3 hp3 KRP
    go_enter Tryz.func88, Tryz.ntmps88
    go_wp2_with fail
    have hK1 := (Kn.nil w).al [.int .i64 t.a.base, .slice A1 t.a.digits.length c1, .int .i64 t.b.base, .slice A2 t.b.digits.length c2, .int .i64 t.s.base, .slice A3 t.s.digits.length c3, .int .i64 t.carry] 28
    generalize w.alloc (.cells #[.int .i64 t.a.base, .slice A1 t.a.digits.length c1, .int .i64 t.b.base, .slice A2 t.b.digits.length c2, .int .i64 t.s.base, .slice A3 t.s.digits.length c3, .int .i64 t.carry] 28) = w1 at hK1 ⊢
    have HG := Lib.hid (box7 hK1.drew)
    go_cut [9, 10] (fun pp oo wx => pp = .int .i64 VA ∧ oo = .int .i64 VB ∧ Kn w [.blk w.heap.size [.int .i64 t.a.base, .slice A1 t.a.digits.length c1, .int .i64 t.b.base, .slice A2 t.b.digits.length c2, .int .i64 t.s.base, .slice A3 t.s.digits.length c3, .int .i64 t.carry] 28] wx)
    case first =>
      go_region_held3 (fun W => W.cell? ⟨w.heap.size, 0, none⟩ = some (.int .i64 t.a.base) ∧ W.cell? ⟨w.heap.size, 1, none⟩ = some (.slice A1 t.a.digits.length c1) ∧ W.cell? ⟨w.heap.size, 2, none⟩ = some (.int .i64 t.b.base) ∧ W.cell? ⟨w.heap.size, 3, none⟩ = some (.slice A2 t.b.digits.length c2) ∧ W.cell? ⟨w.heap.size, 4, none⟩ = some (.int .i64 t.s.base) ∧ W.cell? ⟨w.heap.size, 5, none⟩ = some (.slice A3 t.s.digits.length c3) ∧ W.cell? ⟨w.heap.size, 6, none⟩ = some (.int .i64 t.carry)) (first | with_reducible exact HG.out | exact HG.out) (first
        | (go_at_call 76; (with_reducible refine (KVA.out _ hK1.drew.below).mono ?_); rintro e w3 ⟨rfl, hw3⟩; have hK3 := hK1.drew.keep hw3; clear HG; have HG := Lib.hid (box7 hK3))
        | (go_at_call 76; (with_reducible refine (KVB.out _ hK3.below).mono ?_); rintro e w4 ⟨rfl, hw4⟩; have hK4 := hK3.keep hw4; clear HG; have HG := Lib.hid (box7 hK4)))
      all_goals
        go_wp2_with fail
        go_meet
        exact ⟨rfl, rfl, hK4⟩
    case rest =>
      obtain ⟨rfl, rfl, hK2⟩ := hcut
      subst hVA
      go_wp2_with fail
      go_ret
      exact ⟨ret_bool HF.out.symm, hK2.below⟩
  · -- quotient
    have HKC := Lib.hid (fun (s : RS) (b : Bool) he hc => kp_code (L := L) (t := t) (kind := 2) (arg := arg) (s := s) (b := b) (fun h => h0 h.2) he hc)
    have HKF := Lib.hid (fun (s : RS) (b : Bool) he hc => kp_fine (L := L) (t := t) (kind := 2) (arg := arg) (s := s) (b := b) (fun h => h0 h.2) he hc)
    have HKD := (fun (s : Tri) => show kpAfter t s 2 arg = ((valL s.b.base s.b.digits == (valL t.b.base t.b.digits).tmod (valL t.a.base t.a.digits)) && ((pw t.s.base t.s.digits.length - valL s.s.base s.s.digits).tmod (pw t.s.base t.s.digits.length) == (valL t.b.base t.b.digits).tdiv (valL t.a.base t.a.digits))) from rfl)
    have hdv : 0 ≤ (valL t.b.base t.b.digits).tdiv (valL t.a.base t.a.digits) ∧ (valL t.b.base t.b.digits).tdiv (valL t.a.base t.a.digits) ≤ 1000000000001 := by
      rw [Int.tdiv_eq_ediv_of_nonneg hvb]
      have := Int.ediv_le_self (valL t.a.base t.a.digits) hvb
      exact ⟨Int.ediv_nonneg hvb hva, by omega⟩
    obtain ⟨VA, hVA⟩ : ∃ v, valL t.a.base t.a.digits = v := ⟨_, rfl⟩
    obtain ⟨VB, hVB⟩ : ∃ v, valL t.b.base t.b.digits = v := ⟨_, rfl⟩
    rw [hVA] at KVA hva h0
    rw [hVB] at KVB hvb
    simp only [hVA, hVB] at HKD hdv
    have hqw : IntKind.i64.wrap (VB.tdiv VA) = VB.tdiv VA := wrapI64 (by omega)
    have nv1 : VA ≠ 0 := h0
    have nv2 : (VA == 0) = false := by simpa using h0
    have HKD := Lib.hid HKD
    have KVA := Lib.hid KVA
    have KVB := Lib.hid KVB
    have KRP := Lib.hid KRP
    clear r1 r2 r3 hr hv hp hk k1 k2 k3 e1 e2 l1 p0 p1 yd1 yd2 yd3 hVA hVB hs2 KN3 hp3 h0
    go_enter Tryz.func88, Tryz.ntmps88
    go_wp2_with fail
    have hK1 := (Kn.nil w).al [.int .i64 t.a.base, .slice A1 t.a.digits.length c1, .int .i64 t.b.base, .slice A2 t.b.digits.length c2, .int .i64 t.s.base, .slice A3 t.s.digits.length c3, .int .i64 t.carry] 28
    generalize w.alloc (.cells #[.int .i64 t.a.base, .slice A1 t.a.digits.length c1, .int .i64 t.b.base, .slice A2 t.b.digits.length c2, .int .i64 t.s.base, .slice A3 t.s.digits.length c3, .int .i64 t.carry] 28) = w1 at hK1 ⊢
    have HG := Lib.hid (box7 hK1.drew)
    go_cut [9, 10] (fun pp oo wx => pp = .int .i64 VA ∧ oo = .int .i64 VB ∧ Kn w [.blk w.heap.size [.int .i64 t.a.base, .slice A1 t.a.digits.length c1, .int .i64 t.b.base, .slice A2 t.b.digits.length c2, .int .i64 t.s.base, .slice A3 t.s.digits.length c3, .int .i64 t.carry] 28] wx)
    case first =>
      go_region_held3 (fun W => W.cell? ⟨w.heap.size, 0, none⟩ = some (.int .i64 t.a.base) ∧ W.cell? ⟨w.heap.size, 1, none⟩ = some (.slice A1 t.a.digits.length c1) ∧ W.cell? ⟨w.heap.size, 2, none⟩ = some (.int .i64 t.b.base) ∧ W.cell? ⟨w.heap.size, 3, none⟩ = some (.slice A2 t.b.digits.length c2) ∧ W.cell? ⟨w.heap.size, 4, none⟩ = some (.int .i64 t.s.base) ∧ W.cell? ⟨w.heap.size, 5, none⟩ = some (.slice A3 t.s.digits.length c3) ∧ W.cell? ⟨w.heap.size, 6, none⟩ = some (.int .i64 t.carry)) (first | with_reducible exact HG.out | exact HG.out) (first
        | (go_at_call 76; (with_reducible refine (KVA.out _ hK1.drew.below).mono ?_); rintro e w3 ⟨rfl, hw3⟩; have hK3 := hK1.drew.keep hw3; clear HG; have HG := Lib.hid (box7 hK3))
        | (go_at_call 76; (with_reducible refine (KVB.out _ hK3.below).mono ?_); rintro e w4 ⟨rfl, hw4⟩; have hK4 := hK3.keep hw4; clear HG; have HG := Lib.hid (box7 hK4)))
      all_goals
        go_wp2_with fail
        go_meet
        exact ⟨rfl, rfl, hK4⟩
    case rest =>
      obtain ⟨rfl, rfl, hK2⟩ := hcut
      clear HG hK1
      obtain ⟨a1, a2, a3, -⟩ := hK2.cells
      go_wp2_with fail
      refine (KRP.out _ hK2.below).mono ?_; rintro e w5 ⟨g, s, b', rfl, he, ⟨SA, sc, M1, j1, M2, j2, M3, j3, hKr⟩, hg⟩
      have hK5 : Kn w [.blk g [.int .i64 s.m.a.base, .slice M1 s.m.a.digits.length j1, .int .i64 s.m.b.base, .slice M2 s.m.b.digits.length j2, .int .i64 s.m.s.base, .slice M3 s.m.s.digits.length j3, .int .i64 s.m.carry, .slice LA n lc, .int .i64 (s.done : Int), .slice SA s.tr.length sc, .int .i64 s.code] 87, rowI M3 j3 s.m.s.digits, rowI M2 j2 s.m.b.digits, rowI M1 j1 s.m.a.digits, .blk w.heap.size [.int .i64 t.a.base, .slice A1 t.a.digits.length c1, .int .i64 t.b.base, .slice A2 t.b.digits.length c2, .int .i64 t.s.base, .slice A3 t.s.digits.length c3, .int .i64 t.carry] 28] w5 := (hK2.join hKr).sel [0, 1, 2, 3, 5] 99 (by decide) (by decide)
      clear hK2 hKr a1 a2 a3
      obtain ⟨d1, d2, d3, a1, a2, a3, -⟩ := hK5.cells
      rcases hc0 : (s.code == 0) with _ | _
      · have hcn : ¬ s.code = 0 := by simpa using hc0
        have hcb : (s.code != 0) = true := by simpa using hc0
        have HB := Lib.hid (HKC.out s b' he hcn)
        clear hc0 hcn he hg
        go_wp2_with fail
        go_ret
        exact ⟨ret_bool HB.out.symm, hK5.below⟩
      have hcn : s.code = 0 := by simpa using hc0
      have hcb : (s.code != 0) = false := by simpa using hc0
      have HB := HKF.out s b' he hcn
      have hcs := he.cs
      unfold startR at hcs
      simp only [] at hcs
      have HCS := Lib.hid hcs
      clear hcs
      clear hc0 hcn he
      rw [HKD.out] at HB
      obtain ⟨k1, k2, k3, -, -, g1', g2', -⟩ := vmach_all hg.m
      obtain ⟨⟨y3, y4⟩, ⟨z3, z4⟩, yd2, -⟩ := vreg_iff.1 k2
      obtain ⟨⟨y5, y6⟩, ⟨z5, z6⟩, yd3, -⟩ := vreg_iff.1 k3
      have hv3 := (valL_bd s.m.s.base y5 s.m.s.digits (fun d h => (yd3 d h).1)).1
      have hv3' := valL_lt s.m.s.base y5 s.m.s.digits yd3
      rw [← HCS.out.1, ← HCS.out.2] at HB
      have KVC := (fun W (h : RI W M3 s.m.s.digits.length s.m.s.digits) => value_any s.m.s.base M3 s.m.s.digits.length j3 s.m.s.digits W y5 y6 yd3 h (by omega))
      have KVR := (fun W (h : RI W M2 s.m.b.digits.length s.m.b.digits) => value_any s.m.b.base M2 s.m.b.digits.length j2 s.m.b.digits W y3 y4 yd2 h (by omega))
      have KN := (fun W => values_any s.m.s.base M3 s.m.s.digits.length j3 W y5 y6 (by omega))
      have hp3 : powC s.m.s.base s.m.s.digits.length = pw s.m.s.base s.m.s.digits.length := by unfold powC; rw [if_pos g2']
      rw [hp3] at KN
      have p4 := pw_pos s.m.s.base y5 s.m.s.digits.length
      obtain ⟨VC, hVC⟩ : ∃ v, valL s.m.s.base s.m.s.digits = v := ⟨_, rfl⟩
      obtain ⟨VR, hVR⟩ : ∃ v, valL s.m.b.base s.m.b.digits = v := ⟨_, rfl⟩
      obtain ⟨N, hN⟩ : ∃ v, pw s.m.s.base s.m.s.digits.length = v := ⟨_, rfl⟩
      rw [hVC, hVR, hN] at HB
      rw [hVC] at KVC hv3 hv3'
      rw [hVR] at KVR
      rw [hN] at KN hv3' p4 g2'
      have HB := Lib.hid HB
      have KVC := Lib.hid KVC
      have KVR := Lib.hid KVR
      have KN := Lib.hid KN
      have nz1 : N ≠ 0 := by omega
      have nz2 : (N == 0) = false := by simp; omega
      have hwq := wrapI64 (n := N - VC) (by omega)
      clear k1 k2 k3 hVC hVR hN y3 y4 y5 y6 yd2 yd3 hg g1' hp3 z3 z4 z5 z6
      go_wp2_with fail
      refine Calls.kn (hK5.al [.int .i64 s.m.a.base, .slice M1 s.m.a.digits.length j1, .int .i64 s.m.b.base, .slice M2 s.m.b.digits.length j2, .int .i64 s.m.s.base, .slice M3 s.m.s.digits.length j3, .int .i64 s.m.carry] 28) ?_; intro w6 hK6r
      have hK6 : Kn w [.blk w5.heap.size [.int .i64 s.m.a.base, .slice M1 s.m.a.digits.length j1, .int .i64 s.m.b.base, .slice M2 s.m.b.digits.length j2, .int .i64 s.m.s.base, .slice M3 s.m.s.digits.length j3, .int .i64 s.m.carry] 28, rowI M3 j3 s.m.s.digits, rowI M2 j2 s.m.b.digits, rowI M1 j1 s.m.a.digits, .blk w.heap.size [.int .i64 t.a.base, .slice A1 t.a.digits.length c1, .int .i64 t.b.base, .slice A2 t.b.digits.length c2, .int .i64 t.s.base, .slice A3 t.s.digits.length c3, .int .i64 t.carry] 28] w6 := hK6r.sel [0, 2, 3, 4, 5] 99 (by decide) (by decide)
      clear hK6r hK5 d1 d2 d3 a1 a2 a3
      refine (KN.out _).mono ?_; rintro e w7 ⟨rfl, hw⟩
      have hK7 := hK6.keep hw
      clear hK6 hw
      obtain ⟨a1, a2, a3, d1, d2, d3, -⟩ := hK7.cells
      have HG := Lib.hid (box7 hK7.drew)
      rcases hq1 : (VR == VB.tmod VA) with _ | _
      · have HF := Lib.hid (show kpB L t 2 arg = false by rw [HB.out, hq1]; rfl)
        have hd1 : decide (VR = VB.tmod VA) = false := by simpa using hq1
        go_wp2_with fail
        refine wp_region_held_drew (S := (fun W => W.cell? ⟨w5.heap.size, 0, none⟩ = some (.int .i64 s.m.a.base) ∧ W.cell? ⟨w5.heap.size, 1, none⟩ = some (.slice M1 s.m.a.digits.length j1) ∧ W.cell? ⟨w5.heap.size, 2, none⟩ = some (.int .i64 s.m.b.base) ∧ W.cell? ⟨w5.heap.size, 3, none⟩ = some (.slice M2 s.m.b.digits.length j2) ∧ W.cell? ⟨w5.heap.size, 4, none⟩ = some (.int .i64 s.m.s.base) ∧ W.cell? ⟨w5.heap.size, 5, none⟩ = some (.slice M3 s.m.s.digits.length j3) ∧ W.cell? ⟨w5.heap.size, 6, none⟩ = some (.int .i64 s.m.carry))) (by kernel_rfl) ?_ (fun hHeld => ?_)
        · exact HG.out
        try dsimp only
        refine wpAnyH_take (i := 0) (v := ?_) rfl (by kernel_rfl) (by kernel_rfl) (by kernel_rfl) (fun _ _ _ h => h) (Or.inl ⟨by rfl, ?_⟩) hHeld ?_
        rotate_left
        · (intro w hSw; (try dsimp only at hSw); go_simp; try with_reducible rfl)
        try simp only [Act.put, List.setIfInBounds_toArray, List.set_cons_zero, List.set_cons_succ, List.getElem_toArray, List.getElem_cons_zero]
        refine wpAnyH_take (i := 1) (v := ?_) rfl (by kernel_rfl) (by kernel_rfl) (by kernel_rfl) (fun _ _ _ h => h) (Or.inl ⟨by rfl, ?_⟩) hHeld ?_
        rotate_left
        · (intro w hSw; (try dsimp only at hSw); go_simp; try with_reducible rfl)
        try simp only [Act.put, List.setIfInBounds_toArray, List.set_cons_zero, List.set_cons_succ, List.getElem_toArray, List.getElem_cons_succ, List.getElem_cons_zero]
        refine wpAnyH_take (i := 3) (v := ?_) rfl (by kernel_rfl) (by kernel_rfl) (by kernel_rfl) (fun _ _ _ h => h) (Or.inl ⟨by rfl, ?_⟩) hHeld ?_
        rotate_left
        · (intro w hSw; (try dsimp only at hSw); go_simp; try with_reducible rfl)
        try simp only [Act.put, List.setIfInBounds_toArray, List.set_cons_zero, List.set_cons_succ, List.getElem_toArray, List.getElem_cons_succ, List.getElem_cons_zero]
        refine wpAnyH_take (i := 4) (v := ?_) rfl (by kernel_rfl) (by kernel_rfl) (by kernel_rfl) (fun _ _ _ h => h) (Or.inl ⟨by rfl, ?_⟩) hHeld ?_
        rotate_left
        · (intro w hSw; (try dsimp only at hSw); go_simp; try with_reducible rfl)
        try simp only [Act.put, List.setIfInBounds_toArray, List.set_cons_zero, List.set_cons_succ, List.getElem_toArray, List.getElem_cons_succ, List.getElem_cons_zero]
        refine wpAnyH_take (i := 5) (v := ?_) rfl (by kernel_rfl) (by kernel_rfl) (by kernel_rfl) (fun _ _ _ h => h) (Or.inl ⟨by rfl, ?_⟩) hHeld ?_
        rotate_left
        · (intro w hSw; (try dsimp only at hSw); go_simp; try with_reducible rfl)
        try simp only [Act.put, List.setIfInBounds_toArray, List.set_cons_zero, List.set_cons_succ, List.getElem_toArray, List.getElem_cons_succ, List.getElem_cons_zero]
        refine wpAnyH_ready (rs := [2]) (by kernel_rfl) (by decide) (AllReadyH.cons (o := _) rfl (fun K hK => ?_) AllReadyH.nil)
        go_simp
        go_at_call 76
        (with_reducible refine (KVR.out _ (Kn.riv (hK7.drew.sel [2] 99 (by decide) (by decide)))).mono ?_); rintro e w8 ⟨rfl, hw⟩
        have hK8 := hK7.drew.keep hw
        have HG := Lib.hid (box7 hK8)
        refine hK.out _ _ HG.out (fun hHeld2 => ?_)
        clear hK K hHeld
        have hHeld := hHeld2
        clear hHeld2
        try simp only [Act.put, List.setIfInBounds_toArray]
        refine wpAnyH_take (i := 6) (v := .bool false) rfl (by kernel_rfl) (by kernel_rfl) (by kernel_rfl) (fun _ _ _ h => h) (Or.inl ⟨by rfl, ?_⟩) hHeld ?_
        · intro w hSw
          clear hSw
          go_simp
        try simp only [Act.put, List.setIfInBounds_toArray]
        refine wpAnyH_take (i := 7) (v := ?_) rfl (by kernel_rfl) (by kernel_rfl) (by kernel_rfl) (fun _ _ _ h => h) (Or.inl ⟨by rfl, ?_⟩) hHeld ?_
        rotate_left
        · (intro w hSw; (try dsimp only at hSw); go_simp; try with_reducible rfl)
        try simp only [Act.put, List.setIfInBounds_toArray, List.set_cons_zero, List.set_cons_succ, List.getElem_toArray, List.getElem_cons_succ, List.getElem_cons_zero]
        refine wpAnyH_take (i := 8) (v := undef) rfl (by kernel_rfl) (by kernel_rfl) (by kernel_rfl) (fun _ _ _ h => h) (Or.inr ⟨by rfl, rfl⟩) hHeld ?_
        try simp only [Act.put, List.setIfInBounds_toArray, List.set_cons_zero, List.set_cons_succ, List.getElem_toArray, List.getElem_cons_succ, List.getElem_cons_zero]
        refine wpAnyH_take (i := 9) (v := undef) rfl (by kernel_rfl) (by kernel_rfl) (by kernel_rfl) (fun _ _ _ h => h) (Or.inr ⟨by rfl, rfl⟩) hHeld ?_
        try simp only [Act.put, List.setIfInBounds_toArray, List.set_cons_zero, List.set_cons_succ, List.getElem_toArray, List.getElem_cons_succ, List.getElem_cons_zero]
        refine wpAnyH_take (i := 10) (v := undef) rfl (by kernel_rfl) (by kernel_rfl) (by kernel_rfl) (fun _ _ _ h => h) (Or.inr ⟨by rfl, rfl⟩) hHeld ?_
        try simp only [Act.put, List.setIfInBounds_toArray, List.set_cons_zero, List.set_cons_succ, List.getElem_toArray, List.getElem_cons_succ, List.getElem_cons_zero]
        refine wpAnyH_take (i := 11) (v := undef) rfl (by kernel_rfl) (by kernel_rfl) (by kernel_rfl) (fun _ _ _ h => h) (Or.inr ⟨by rfl, rfl⟩) hHeld ?_
        try simp only [Act.put, List.setIfInBounds_toArray, List.set_cons_zero, List.set_cons_succ, List.getElem_toArray, List.getElem_cons_succ, List.getElem_cons_zero]
        refine wpAnyH_take (i := 12) (v := undef) rfl (by kernel_rfl) (by kernel_rfl) (by kernel_rfl) (fun _ _ _ h => h) (Or.inr ⟨by rfl, rfl⟩) hHeld ?_
        try simp only [Act.put, List.setIfInBounds_toArray, List.set_cons_zero, List.set_cons_succ, List.getElem_toArray, List.getElem_cons_succ, List.getElem_cons_zero]
        refine wpAnyH_take (i := 13) (v := undef) rfl (by kernel_rfl) (by kernel_rfl) (by kernel_rfl) (fun _ _ _ h => h) (Or.inr ⟨by rfl, rfl⟩) hHeld ?_
        try simp only [Act.put, List.setIfInBounds_toArray, List.set_cons_zero, List.set_cons_succ, List.getElem_toArray, List.getElem_cons_succ, List.getElem_cons_zero]
        refine wpAnyH_take (i := 14) (v := undef) rfl (by kernel_rfl) (by kernel_rfl) (by kernel_rfl) (fun _ _ _ h => h) (Or.inr ⟨by rfl, rfl⟩) hHeld ?_
        try simp only [Act.put, List.setIfInBounds_toArray, List.set_cons_zero, List.set_cons_succ, List.getElem_toArray, List.getElem_cons_succ, List.getElem_cons_zero]
        refine wpAnyH_take (i := 15) (v := undef) rfl (by kernel_rfl) (by kernel_rfl) (by kernel_rfl) (fun _ _ _ h => h) (Or.inr ⟨by rfl, rfl⟩) hHeld ?_
        try simp only [Act.put, List.setIfInBounds_toArray, List.set_cons_zero, List.set_cons_succ, List.getElem_toArray, List.getElem_cons_succ, List.getElem_cons_zero]
        refine wpAnyH_take (i := 16) (v := undef) rfl (by kernel_rfl) (by kernel_rfl) (by kernel_rfl) (fun _ _ _ h => h) (Or.inr ⟨by rfl, rfl⟩) hHeld ?_
        try simp only [Act.put, List.setIfInBounds_toArray, List.set_cons_zero, List.set_cons_succ, List.getElem_toArray, List.getElem_cons_succ, List.getElem_cons_zero]
        refine wpAnyH_take (i := 17) (v := undef) rfl (by kernel_rfl) (by kernel_rfl) (by kernel_rfl) (fun _ _ _ h => h) (Or.inr ⟨by rfl, rfl⟩) hHeld ?_
        try simp only [Act.put, List.setIfInBounds_toArray, List.set_cons_zero, List.set_cons_succ, List.getElem_toArray, List.getElem_cons_succ, List.getElem_cons_zero]
        refine wpAnyH_take (i := 18) (v := undef) rfl (by kernel_rfl) (by kernel_rfl) (by kernel_rfl) (fun _ _ _ h => h) (Or.inr ⟨by rfl, rfl⟩) hHeld ?_
        try simp only [Act.put, List.setIfInBounds_toArray, List.set_cons_zero, List.set_cons_succ, List.getElem_toArray, List.getElem_cons_succ, List.getElem_cons_zero]
        refine wpAnyH_take (i := 19) (v := ?_) rfl (by kernel_rfl) (by kernel_rfl) (by kernel_rfl) (fun _ _ _ h => h) (Or.inl ⟨by rfl, ?_⟩) hHeld ?_
        rotate_left
        · (intro w hSw; (try dsimp only at hSw); go_simp; try with_reducible rfl)
        try simp only [Act.put, List.setIfInBounds_toArray, List.set_cons_zero, List.set_cons_succ, List.getElem_toArray, List.getElem_cons_succ, List.getElem_cons_zero]
        refine wpAnyH_take (i := 20) (v := ?_) rfl (by kernel_rfl) (by kernel_rfl) (by kernel_rfl) (fun _ _ _ h => h) (Or.inl ⟨by rfl, ?_⟩) hHeld ?_
        rotate_left
        · (intro w hSw; (try dsimp only at hSw); go_simp; try with_reducible rfl)
        try simp only [Act.put, List.setIfInBounds_toArray, List.set_cons_zero, List.set_cons_succ, List.getElem_toArray, List.getElem_cons_succ, List.getElem_cons_zero]
        refine wpAnyH_done (by kernel_rfl) ?_ _
        go_wp2_with fail
        go_ret
        exact ⟨ret_bool HF.out.symm, hK8.below⟩
      · have hd1 : decide (VR = VB.tmod VA) = true := by simpa using hq1
        rcases hq2 : ((N - VC).tmod N == VB.tdiv VA) with _ | _
        · have HF := Lib.hid (show kpB L t 2 arg = false by rw [HB.out, hq1, hq2]; rfl)
          have hd2 : decide ((N - VC).tmod N = VB.tdiv VA) = false := by simpa using hq2
          go_wp2_with fail
          go_region_held3 (fun W => W.cell? ⟨w5.heap.size, 0, none⟩ = some (.int .i64 s.m.a.base) ∧ W.cell? ⟨w5.heap.size, 1, none⟩ = some (.slice M1 s.m.a.digits.length j1) ∧ W.cell? ⟨w5.heap.size, 2, none⟩ = some (.int .i64 s.m.b.base) ∧ W.cell? ⟨w5.heap.size, 3, none⟩ = some (.slice M2 s.m.b.digits.length j2) ∧ W.cell? ⟨w5.heap.size, 4, none⟩ = some (.int .i64 s.m.s.base) ∧ W.cell? ⟨w5.heap.size, 5, none⟩ = some (.slice M3 s.m.s.digits.length j3) ∧ W.cell? ⟨w5.heap.size, 6, none⟩ = some (.int .i64 s.m.carry)) (first | with_reducible exact HG.out | exact HG.out) (first
            | (go_at_call 76; (with_reducible refine (KVR.out _ (Kn.riv (hK7.drew.sel [2] 99 (by decide) (by decide)))).mono ?_); rintro e w8 ⟨rfl, hw⟩; have hK8 := hK7.drew.keep hw; clear HG; have HG := Lib.hid (box7 hK8))
            | (go_at_call 76; (with_reducible refine (KVC.out _ (Kn.riv (hK8.sel [1] 99 (by decide) (by decide)))).mono ?_); rintro e w9 ⟨rfl, hw⟩; have hK9 := hK8.keep hw; clear HG; have HG := Lib.hid (box7 hK9)))
          all_goals
            go_wp2_with fail
            go_ret
            exact ⟨ret_bool HF.out.symm, hK9.below⟩
        · have HF := Lib.hid (show kpB L t 2 arg = true by rw [HB.out, hq1, hq2]; rfl)
          have hd2 : decide ((N - VC).tmod N = VB.tdiv VA) = true := by simpa using hq2
          go_wp2_with fail
          go_region_held3 (fun W => W.cell? ⟨w5.heap.size, 0, none⟩ = some (.int .i64 s.m.a.base) ∧ W.cell? ⟨w5.heap.size, 1, none⟩ = some (.slice M1 s.m.a.digits.length j1) ∧ W.cell? ⟨w5.heap.size, 2, none⟩ = some (.int .i64 s.m.b.base) ∧ W.cell? ⟨w5.heap.size, 3, none⟩ = some (.slice M2 s.m.b.digits.length j2) ∧ W.cell? ⟨w5.heap.size, 4, none⟩ = some (.int .i64 s.m.s.base) ∧ W.cell? ⟨w5.heap.size, 5, none⟩ = some (.slice M3 s.m.s.digits.length j3) ∧ W.cell? ⟨w5.heap.size, 6, none⟩ = some (.int .i64 s.m.carry)) (first | with_reducible exact HG.out | exact HG.out) (first
            | (go_at_call 76; (with_reducible refine (KVR.out _ (Kn.riv (hK7.drew.sel [2] 99 (by decide) (by decide)))).mono ?_); rintro e w8 ⟨rfl, hw⟩; have hK8 := hK7.drew.keep hw; clear HG; have HG := Lib.hid (box7 hK8))
            | (go_at_call 76; (with_reducible refine (KVC.out _ (Kn.riv (hK8.sel [1] 99 (by decide) (by decide)))).mono ?_); rintro e w9 ⟨rfl, hw⟩; have hK9 := hK8.keep hw; clear HG; have HG := Lib.hid (box7 hK9)))
          all_goals
            go_wp2_with fail
            go_ret
            exact ⟨ret_bool HF.out.symm, hK9.below⟩
  · -- keep
    have HKC := Lib.hid (fun (s : RS) (b : Bool) he hc => kp_code (L := L) (t := t) (kind := 3) (arg := arg) (s := s) (b := b) (by omega) he hc)
    have HKF := Lib.hid (fun (s : RS) (b : Bool) he hc => kp_fine (L := L) (t := t) (kind := 3) (arg := arg) (s := s) (b := b) (by omega) he hc)
    have HKD := Lib.hid (fun (s : Tri) => show kpAfter t s 3 arg = (sameR s.b t.b && sameR s.a t.a) from rfl)
    obtain ⟨VA, hVA⟩ : ∃ v, valL t.a.base t.a.digits = v := ⟨_, rfl⟩
    obtain ⟨VB, hVB⟩ : ∃ v, valL t.b.base t.b.digits = v := ⟨_, rfl⟩
    rw [hVA] at KVA hva
    rw [hVB] at KVB hvb
    have KE1 := (fun (s : Tri) (h1 : SmallReg s.b) (B : Option Addr) (c : Nat) W q1 q2 => SameRegister_any s.b t.b B A2 c c2 W q1 q2 h1 hs2)
    have KE2 := (fun (s : Tri) (h1 : SmallReg s.a) (B : Option Addr) (c : Nat) W q1 q2 => SameRegister_any s.a t.a B A1 c c1 W q1 q2 h1 hs1)
    have KVA := Lib.hid KVA
    have KVB := Lib.hid KVB
    have KRP := Lib.hid KRP
    have KE1 := Lib.hid KE1
    have KE2 := Lib.hid KE2
    clear r1 r2 r3 hr hv hp hk k1 k2 k3 e1 e2 l1 p0 p1 yd1 yd2 yd3 hVA hVB KN3 hp3
    go_enter Tryz.func88, Tryz.ntmps88
    go_wp2_with fail
    have hK1 := (Kn.nil w).al [.int .i64 t.a.base, .slice A1 t.a.digits.length c1, .int .i64 t.b.base, .slice A2 t.b.digits.length c2, .int .i64 t.s.base, .slice A3 t.s.digits.length c3, .int .i64 t.carry] 28
    generalize w.alloc (.cells #[.int .i64 t.a.base, .slice A1 t.a.digits.length c1, .int .i64 t.b.base, .slice A2 t.b.digits.length c2, .int .i64 t.s.base, .slice A3 t.s.digits.length c3, .int .i64 t.carry] 28) = w1 at hK1 ⊢
    have HG := Lib.hid (box7 hK1.drew)
    go_cut [9, 10] (fun pp oo wx => pp = .int .i64 VA ∧ oo = .int .i64 VB ∧ Kn w [.blk w.heap.size [.int .i64 t.a.base, .slice A1 t.a.digits.length c1, .int .i64 t.b.base, .slice A2 t.b.digits.length c2, .int .i64 t.s.base, .slice A3 t.s.digits.length c3, .int .i64 t.carry] 28] wx)
    case first =>
      go_region_held3 (fun W => W.cell? ⟨w.heap.size, 0, none⟩ = some (.int .i64 t.a.base) ∧ W.cell? ⟨w.heap.size, 1, none⟩ = some (.slice A1 t.a.digits.length c1) ∧ W.cell? ⟨w.heap.size, 2, none⟩ = some (.int .i64 t.b.base) ∧ W.cell? ⟨w.heap.size, 3, none⟩ = some (.slice A2 t.b.digits.length c2) ∧ W.cell? ⟨w.heap.size, 4, none⟩ = some (.int .i64 t.s.base) ∧ W.cell? ⟨w.heap.size, 5, none⟩ = some (.slice A3 t.s.digits.length c3) ∧ W.cell? ⟨w.heap.size, 6, none⟩ = some (.int .i64 t.carry)) (first | with_reducible exact HG.out | exact HG.out) (first
        | (go_at_call 76; (with_reducible refine (KVA.out _ hK1.drew.below).mono ?_); rintro e w3 ⟨rfl, hw3⟩; have hK3 := hK1.drew.keep hw3; clear HG; have HG := Lib.hid (box7 hK3))
        | (go_at_call 76; (with_reducible refine (KVB.out _ hK3.below).mono ?_); rintro e w4 ⟨rfl, hw4⟩; have hK4 := hK3.keep hw4; clear HG; have HG := Lib.hid (box7 hK4)))
      all_goals
        go_wp2_with fail
        go_meet
        exact ⟨rfl, rfl, hK4⟩
    case rest =>
      obtain ⟨rfl, rfl, hK2⟩ := hcut
      clear HG hK1
      obtain ⟨a1, a2, a3, -⟩ := hK2.cells
      go_wp2_with fail
      refine (KRP.out _ hK2.below).mono ?_; rintro e w5 ⟨g, s, b', rfl, he, ⟨SA, sc, M1, j1, M2, j2, M3, j3, hKr⟩, hg⟩
      have hK5 : Kn w [.blk g [.int .i64 s.m.a.base, .slice M1 s.m.a.digits.length j1, .int .i64 s.m.b.base, .slice M2 s.m.b.digits.length j2, .int .i64 s.m.s.base, .slice M3 s.m.s.digits.length j3, .int .i64 s.m.carry, .slice LA n lc, .int .i64 (s.done : Int), .slice SA s.tr.length sc, .int .i64 s.code] 87, rowI M3 j3 s.m.s.digits, rowI M2 j2 s.m.b.digits, rowI M1 j1 s.m.a.digits, .blk w.heap.size [.int .i64 t.a.base, .slice A1 t.a.digits.length c1, .int .i64 t.b.base, .slice A2 t.b.digits.length c2, .int .i64 t.s.base, .slice A3 t.s.digits.length c3, .int .i64 t.carry] 28] w5 := (hK2.join hKr).sel [0, 1, 2, 3, 5] 99 (by decide) (by decide)
      clear hK2 hKr a1 a2 a3
      obtain ⟨d1, d2, d3, a1, a2, a3, -⟩ := hK5.cells
      rcases hc0 : (s.code == 0) with _ | _
      · have hcn : ¬ s.code = 0 := by simpa using hc0
        have hcb : (s.code != 0) = true := by simpa using hc0
        have HB := Lib.hid (HKC.out s b' he hcn)
        clear hc0 hcn he hg
        go_wp2_with fail
        go_ret
        exact ⟨ret_bool HB.out.symm, hK5.below⟩
      have hcn : s.code = 0 := by simpa using hc0
      have hcb : (s.code != 0) = false := by simpa using hc0
      have HB := HKF.out s b' he hcn
      have hcs := he.cs
      unfold startR at hcs
      simp only [] at hcs
      have HCS := Lib.hid hcs
      clear hcs
      clear hc0 hcn he
      rw [HKD.out] at HB
      have hz := hmsz s hg
      have hz1 : SmallReg s.m.a := by unfold SmallReg; have := hz.a; omega
      have hz2 : SmallReg s.m.b := by unfold SmallReg; have := hz.b; omega
      go_wp2_with fail
      refine Calls.kn (hK5.al [.int .i64 s.m.a.base, .slice M1 s.m.a.digits.length j1, .int .i64 s.m.b.base, .slice M2 s.m.b.digits.length j2, .int .i64 s.m.s.base, .slice M3 s.m.s.digits.length j3, .int .i64 s.m.carry] 28) ?_; intro w6 hK6r
      have hK6 : Kn w [.blk w5.heap.size [.int .i64 s.m.a.base, .slice M1 s.m.a.digits.length j1, .int .i64 s.m.b.base, .slice M2 s.m.b.digits.length j2, .int .i64 s.m.s.base, .slice M3 s.m.s.digits.length j3, .int .i64 s.m.carry] 28, rowI M3 j3 s.m.s.digits, rowI M2 j2 s.m.b.digits, rowI M1 j1 s.m.a.digits, .blk w.heap.size [.int .i64 t.a.base, .slice A1 t.a.digits.length c1, .int .i64 t.b.base, .slice A2 t.b.digits.length c2, .int .i64 t.s.base, .slice A3 t.s.digits.length c3, .int .i64 t.carry] 28] w6 := hK6r.sel [0, 2, 3, 4, 5] 99 (by decide) (by decide)
      clear hK6r hK5 d1 d2 d3 a1 a2 a3
      have KE1 := Lib.hid (KE1.out s.m hz2)
      have KE2 := Lib.hid (KE2.out s.m hz1)
      refine (KE1.out _ _ _ (Kn.riv (hK6.sel [2] 99 (by decide) (by decide))) (HR2.out _ hK6.below)).mono ?_; rintro e w9 ⟨rfl, hw⟩
      have hK9 := hK6.keep hw
      clear hK6 hw
      obtain ⟨d1, d2, d3, a1, a2, a3, -⟩ := hK9.cells
      rcases hq1 : sameR s.m.b t.b with _ | _
      · have HF := Lib.hid (show kpB L t 3 arg = false by rw [HB, hq1]; rfl)
        go_wp2_with fail
        go_ret
        exact ⟨ret_bool HF.out.symm, hK9.below⟩
      · have HF := Lib.hid (show kpB L t 3 arg = sameR s.m.a t.a by rw [HB, hq1]; rfl)
        go_wp2_with fail
        refine (KE2.out _ _ _ (Kn.riv (hK9.sel [3] 99 (by decide) (by decide))) (HR1.out _ hK9.below)).mono ?_; rintro e w10 ⟨rfl, hw⟩
        have hK10 := hK9.keep hw
        go_wp2_with fail
        go_ret
        exact ⟨ret_bool HF.out.symm, hK10.below⟩
  · -- zero
    have HKC := Lib.hid (fun (s : RS) (b : Bool) he hc => kp_code (L := L) (t := t) (kind := 4) (arg := arg) (s := s) (b := b) (by omega) he hc)
    have HKF := Lib.hid (fun (s : RS) (b : Bool) he hc => kp_fine (L := L) (t := t) (kind := 4) (arg := arg) (s := s) (b := b) (by omega) he hc)
    have HKD := Lib.hid (fun (s : Tri) => show kpAfter t s 4 arg = ((valL s.b.base s.b.digits == 0) && (valL s.s.base s.s.digits == 0)) from rfl)
    obtain ⟨VA, hVA⟩ : ∃ v, valL t.a.base t.a.digits = v := ⟨_, rfl⟩
    obtain ⟨VB, hVB⟩ : ∃ v, valL t.b.base t.b.digits = v := ⟨_, rfl⟩
    rw [hVA] at KVA hva
    rw [hVB] at KVB hvb
    have KVA := Lib.hid KVA
    have KVB := Lib.hid KVB
    have KRP := Lib.hid KRP
    clear r1 r2 r3 hr hv hp hk k1 k2 k3 e1 e2 l1 p0 p1 yd1 yd2 yd3 hVA hVB hs2 KN3 hp3
    go_enter Tryz.func88, Tryz.ntmps88
    go_wp2_with fail
    have hK1 := (Kn.nil w).al [.int .i64 t.a.base, .slice A1 t.a.digits.length c1, .int .i64 t.b.base, .slice A2 t.b.digits.length c2, .int .i64 t.s.base, .slice A3 t.s.digits.length c3, .int .i64 t.carry] 28
    generalize w.alloc (.cells #[.int .i64 t.a.base, .slice A1 t.a.digits.length c1, .int .i64 t.b.base, .slice A2 t.b.digits.length c2, .int .i64 t.s.base, .slice A3 t.s.digits.length c3, .int .i64 t.carry] 28) = w1 at hK1 ⊢
    have HG := Lib.hid (box7 hK1.drew)
    go_cut [9, 10] (fun pp oo wx => pp = .int .i64 VA ∧ oo = .int .i64 VB ∧ Kn w [.blk w.heap.size [.int .i64 t.a.base, .slice A1 t.a.digits.length c1, .int .i64 t.b.base, .slice A2 t.b.digits.length c2, .int .i64 t.s.base, .slice A3 t.s.digits.length c3, .int .i64 t.carry] 28] wx)
    case first =>
      go_region_held3 (fun W => W.cell? ⟨w.heap.size, 0, none⟩ = some (.int .i64 t.a.base) ∧ W.cell? ⟨w.heap.size, 1, none⟩ = some (.slice A1 t.a.digits.length c1) ∧ W.cell? ⟨w.heap.size, 2, none⟩ = some (.int .i64 t.b.base) ∧ W.cell? ⟨w.heap.size, 3, none⟩ = some (.slice A2 t.b.digits.length c2) ∧ W.cell? ⟨w.heap.size, 4, none⟩ = some (.int .i64 t.s.base) ∧ W.cell? ⟨w.heap.size, 5, none⟩ = some (.slice A3 t.s.digits.length c3) ∧ W.cell? ⟨w.heap.size, 6, none⟩ = some (.int .i64 t.carry)) (first | with_reducible exact HG.out | exact HG.out) (first
        | (go_at_call 76; (with_reducible refine (KVA.out _ hK1.drew.below).mono ?_); rintro e w3 ⟨rfl, hw3⟩; have hK3 := hK1.drew.keep hw3; clear HG; have HG := Lib.hid (box7 hK3))
        | (go_at_call 76; (with_reducible refine (KVB.out _ hK3.below).mono ?_); rintro e w4 ⟨rfl, hw4⟩; have hK4 := hK3.keep hw4; clear HG; have HG := Lib.hid (box7 hK4)))
      all_goals
        go_wp2_with fail
        go_meet
        exact ⟨rfl, rfl, hK4⟩
    case rest =>
      obtain ⟨rfl, rfl, hK2⟩ := hcut
      clear HG hK1
      obtain ⟨a1, a2, a3, -⟩ := hK2.cells
      go_wp2_with fail
      refine (KRP.out _ hK2.below).mono ?_; rintro e w5 ⟨g, s, b', rfl, he, ⟨SA, sc, M1, j1, M2, j2, M3, j3, hKr⟩, hg⟩
      have hK5 : Kn w [.blk g [.int .i64 s.m.a.base, .slice M1 s.m.a.digits.length j1, .int .i64 s.m.b.base, .slice M2 s.m.b.digits.length j2, .int .i64 s.m.s.base, .slice M3 s.m.s.digits.length j3, .int .i64 s.m.carry, .slice LA n lc, .int .i64 (s.done : Int), .slice SA s.tr.length sc, .int .i64 s.code] 87, rowI M3 j3 s.m.s.digits, rowI M2 j2 s.m.b.digits, rowI M1 j1 s.m.a.digits, .blk w.heap.size [.int .i64 t.a.base, .slice A1 t.a.digits.length c1, .int .i64 t.b.base, .slice A2 t.b.digits.length c2, .int .i64 t.s.base, .slice A3 t.s.digits.length c3, .int .i64 t.carry] 28] w5 := (hK2.join hKr).sel [0, 1, 2, 3, 5] 99 (by decide) (by decide)
      clear hK2 hKr a1 a2 a3
      obtain ⟨d1, d2, d3, a1, a2, a3, -⟩ := hK5.cells
      rcases hc0 : (s.code == 0) with _ | _
      · have hcn : ¬ s.code = 0 := by simpa using hc0
        have hcb : (s.code != 0) = true := by simpa using hc0
        have HB := Lib.hid (HKC.out s b' he hcn)
        clear hc0 hcn he hg
        go_wp2_with fail
        go_ret
        exact ⟨ret_bool HB.out.symm, hK5.below⟩
      have hcn : s.code = 0 := by simpa using hc0
      have hcb : (s.code != 0) = false := by simpa using hc0
      have HB := HKF.out s b' he hcn
      have hcs := he.cs
      unfold startR at hcs
      simp only [] at hcs
      have HCS := Lib.hid hcs
      clear hcs
      clear hc0 hcn he
      rw [HKD.out] at HB
      obtain ⟨k1, k2, k3, -, -, g1', g2', -⟩ := vmach_all hg.m
      obtain ⟨⟨y3, y4⟩, ⟨z3, z4⟩, yd2, -⟩ := vreg_iff.1 k2
      obtain ⟨⟨y5, y6⟩, ⟨z5, z6⟩, yd3, -⟩ := vreg_iff.1 k3
      have KVC := (fun W (h : RI W M3 s.m.s.digits.length s.m.s.digits) => value_any s.m.s.base M3 s.m.s.digits.length j3 s.m.s.digits W y5 y6 yd3 h (by omega))
      have KVR := (fun W (h : RI W M2 s.m.b.digits.length s.m.b.digits) => value_any s.m.b.base M2 s.m.b.digits.length j2 s.m.b.digits W y3 y4 yd2 h (by omega))
      obtain ⟨VC, hVC⟩ : ∃ v, valL s.m.s.base s.m.s.digits = v := ⟨_, rfl⟩
      obtain ⟨VR, hVR⟩ : ∃ v, valL s.m.b.base s.m.b.digits = v := ⟨_, rfl⟩
      rw [hVC, hVR] at HB
      rw [hVC] at KVC
      rw [hVR] at KVR
      have HB := Lib.hid HB
      have KVC := Lib.hid KVC
      have KVR := Lib.hid KVR
      clear k1 k2 k3 hVC hVR y3 y4 y5 y6 yd2 yd3 hg g1' g2' z3 z4 z5 z6
      go_wp2_with fail
      refine Calls.kn (hK5.al [.int .i64 s.m.a.base, .slice M1 s.m.a.digits.length j1, .int .i64 s.m.b.base, .slice M2 s.m.b.digits.length j2, .int .i64 s.m.s.base, .slice M3 s.m.s.digits.length j3, .int .i64 s.m.carry] 28) ?_; intro w6 hK6r
      have hK6 : Kn w [.blk w5.heap.size [.int .i64 s.m.a.base, .slice M1 s.m.a.digits.length j1, .int .i64 s.m.b.base, .slice M2 s.m.b.digits.length j2, .int .i64 s.m.s.base, .slice M3 s.m.s.digits.length j3, .int .i64 s.m.carry] 28, rowI M3 j3 s.m.s.digits, rowI M2 j2 s.m.b.digits, rowI M1 j1 s.m.a.digits, .blk w.heap.size [.int .i64 t.a.base, .slice A1 t.a.digits.length c1, .int .i64 t.b.base, .slice A2 t.b.digits.length c2, .int .i64 t.s.base, .slice A3 t.s.digits.length c3, .int .i64 t.carry] 28] w6 := hK6r.sel [0, 2, 3, 4, 5] 99 (by decide) (by decide)
      clear hK6r hK5 d1 d2 d3 a1 a2 a3
      refine (KVR.out _ (Kn.riv (hK6.sel [2] 99 (by decide) (by decide)))).mono ?_; rintro e w7 ⟨rfl, hw⟩
      have hK7 := hK6.keep hw
      clear hK6 hw
      obtain ⟨a1, a2, a3, d1, d2, d3, -⟩ := hK7.cells
      rcases hq1 : (VR == 0) with _ | _
      · have HF := Lib.hid (show kpB L t 4 arg = false by rw [HB.out, hq1]; rfl)
        go_wp2_with fail
        go_ret
        exact ⟨ret_bool HF.out.symm, hK7.below⟩
      · have HF := Lib.hid (show kpB L t 4 arg = (VC == 0) by rw [HB.out, hq1]; rfl)
        go_wp2_with fail
        refine (KVC.out _ (Kn.riv (hK7.sel [1] 99 (by decide) (by decide)))).mono ?_; rintro e w8 ⟨rfl, hw⟩
        have hK8 := hK7.keep hw
        rcases hq2 : (VC == 0) with _ | _
        · rw [hq2] at HF
          go_wp2_with fail
          go_ret
          exact ⟨ret_bool HF.out.symm, hK8.below⟩
        · rw [hq2] at HF
          go_wp2_with fail
          go_ret
          exact ⟨ret_bool HF.out.symm, hK8.below⟩
end Go.Proofs.YtkfbfainhmkkdaaGreat

namespace Go.Proofs.YtkfbfainhmkkdaaGreat
open Go.RowKit Go.Sort
theorem TriC.regs {w : World} {g : Nat} {t : Tri} {A1 A2 A3 : Option Addr} {c1 c2 c3 : Nat} (h : TriC w ⟨g, 0, none⟩ t A1 c1 A2 c2 A3 c3) :
    RegAt w ⟨g, 0, none⟩ t.a.base A1 t.a.digits.length c1 ∧ RegAt w ⟨g, 2, none⟩ t.b.base A2 t.b.digits.length c2 ∧ RegAt w ⟨g, 4, none⟩ t.s.base A3 t.s.digits.length c3 ∧ RI w A1 t.a.digits.length t.a.digits ∧ RI w A2 t.b.digits.length t.b.digits ∧ RI w A3 t.s.digits.length t.s.digits :=
  ⟨⟨h.1.1, h.1.2.1⟩, ⟨h.1.2.2.1, h.1.2.2.2.1⟩, ⟨h.1.2.2.2.2.1, h.1.2.2.2.2.2.1⟩, h.2.1, h.2.2.1, h.2.2.2⟩
set_option maxRecDepth 100000 in
set_option maxHeartbeats 6400000 in
theorem l14After_any (ga gb : Nat) (t s : Tri) (A1 A2 A3 B1 B2 B3 : Option Addr) (c1 c2 c3 d1 d2 d3 : Nat) (kind arg : Int) (w : World) (hT : TriC w ⟨ga, 0, none⟩ t A1 c1 A2 c2 A3 c3) (hS : TriC w ⟨gb, 0, none⟩ s B1 d1 B2 d2 B3 d3) (hv : vmach t = true) (hv2 : vmach s = true)
    (hcs : s.s.base = t.s.base ∧ s.s.digits.length = t.s.digits.length) (hk : isP kind arg = true) (hz : ¬ (kind = 2 ∧ valL t.a.base t.a.digits = 0)) :
    Calls Tryz.prog 125 #[.pointer (some ⟨ga, 0, none⟩), .pointer (some ⟨gb, 0, none⟩), .int .i64 kind, .int .i64 arg] w fun e w' => e = .returned (.bool (kpAfter t s kind arg)) ∧ Below w.heap.size w w' := by
  have ha : ga < w.heap.size := World.block_lt_of_cell? w _ hT.1.1
  have hb : gb < w.heap.size := World.block_lt_of_cell? w _ hS.1.1
  have HT := (fun W (hW : Below w.heap.size w W) => (hT.below ha hW).regs)
  have HS := (fun W (hW : Below w.heap.size w W) => (hS.below hb hW).regs)
  obtain ⟨k1, k2, k3, e1, e2, f1, f2, l1, p0, p1⟩ := vmach_all hv
  obtain ⟨⟨b1, b2⟩, ⟨n1, n2⟩, yd1, yl1⟩ := vreg_iff.1 k1
  obtain ⟨⟨b3, b4⟩, ⟨n3, n4⟩, yd2, yl2⟩ := vreg_iff.1 k2
  obtain ⟨⟨b5, b6⟩, ⟨n5, n6⟩, yd3, yl3⟩ := vreg_iff.1 k3
  obtain ⟨m1, m2, m3, -, -, -, -, -, -, -⟩ := vmach_all hv2
  obtain ⟨⟨o1, o2⟩, ⟨i1, i2⟩, zd1, zl1⟩ := vreg_iff.1 m1
  obtain ⟨⟨o3, o4⟩, ⟨i3, i4⟩, zd2, zl2⟩ := vreg_iff.1 m2
  obtain ⟨⟨o5, o6⟩, ⟨i5, i6⟩, zd3, zl3⟩ := vreg_iff.1 m3
  have hva := (valL_bd t.a.base b1 t.a.digits (fun d h => (yd1 d h).1)).1
  have hvb := (valL_bd t.b.base b3 t.b.digits (fun d h => (yd2 d h).1)).1
  have KVA := (fun W (hW : Below w.heap.size w W) => l14Value_any ⟨ga, 0, none⟩ t.a.base A1 t.a.digits.length c1 t.a.digits W (HT W hW).1 b1 b2 yd1 (HT W hW).2.2.2.1 n2)
  have KVB := (fun W (hW : Below w.heap.size w W) => l14Value_any ⟨ga, 2, none⟩ t.b.base A2 t.b.digits.length c2 t.b.digits W (HT W hW).2.1 b3 b4 yd2 (HT W hW).2.2.2.2.1 n4)
  have KVR := (fun W (hW : Below w.heap.size w W) => l14Value_any ⟨gb, 2, none⟩ s.b.base B2 s.b.digits.length d2 s.b.digits W (HS W hW).2.1 o3 o4 zd2 (HS W hW).2.2.2.2.1 i4)
  have KVC := (fun W (hW : Below w.heap.size w W) => l14Value_any ⟨gb, 4, none⟩ s.s.base B3 s.s.digits.length d3 s.s.digits W (HS W hW).2.2.1 o5 o6 zd3 (HS W hW).2.2.2.2.2 i6)
  have KN := (fun W (hW : Below w.heap.size w W) => l12Room_any ⟨ga, 4, none⟩ t.s.base A3 t.s.digits.length c3 W (HT W hW).2.2.1 b5 b6 (by omega))
  have hp3 : powS t.s.base t.s.digits.length = pw t.s.base t.s.digits.length := by unfold powS; omega
  rw [hp3] at KN
  have p3 := pw_pos t.s.base b5 t.s.digits.length
  have sa : SmallReg t.a := by unfold SmallReg; omega
  have sb : SmallReg t.b := by unfold SmallReg; omega
  have sa2 : SmallReg s.a := by unfold SmallReg; omega
  have sb2 : SmallReg s.b := by unfold SmallReg; omega
  have KA := (fun W (hW : Below w.heap.size w W) (m : Nat) => l02Same_any ⟨ga, 0, none⟩ ⟨gb, 0, none⟩ t.a s.a (W.drewN m) ⟨A1, c1, (HT _ (below_drewN hW m)).1, (HT _ (below_drewN hW m)).2.2.2.1⟩ ⟨B1, d1, (HS _ (below_drewN hW m)).1, (HS _ (below_drewN hW m)).2.2.2.1⟩ sa sa2)
  have KB := (fun W (hW : Below w.heap.size w W) (m : Nat) => l02Same_any ⟨ga, 2, none⟩ ⟨gb, 2, none⟩ t.b s.b (W.drewN m) ⟨A2, c2, (HT _ (below_drewN hW m)).2.1, (HT _ (below_drewN hW m)).2.2.2.2.1⟩ ⟨B2, d2, (HS _ (below_drewN hW m)).2.1, (HS _ (below_drewN hW m)).2.2.2.2.1⟩ sb sb2)
  rw [sameR_comm t.a s.a] at KA
  rw [sameR_comm t.b s.b] at KB
  have HSB := Lib.hid (fun W (hW : Below w.heap.size w W) => And.intro (HS W hW).2.1 (HS W hW).2.2.2.2.1)
  rcases isP_kinds hk with ⟨rfl, x1, x2⟩ | rfl | rfl | rfl
  · have HKD := (show kpAfter t s 1 arg = (sameR s.b ⟨t.b.base, shiftD t.b.base t.b.digits (arg * valL t.a.base t.a.digits)⟩ && sameR s.a t.a) from rfl)
    have hxb : -2000000000000000 ≤ arg * valL t.a.base t.a.digits ∧ arg * valL t.a.base t.a.digits ≤ 2000000000000000 := by
      have h1 : arg * valL t.a.base t.a.digits ≤ 1000 * valL t.a.base t.a.digits := Int.mul_le_mul_of_nonneg_right x2 hva
      have h2 : -1000 * valL t.a.base t.a.digits ≤ arg * valL t.a.base t.a.digits := Int.mul_le_mul_of_nonneg_right x1 hva
      omega
    have KMV := (fun W (hW : Below w.heap.size w W) => l10MoveW_any ⟨ga, 2, none⟩ t.b.base A2 c2 t.b.digits (arg * valL t.a.base t.a.digits) W (HT W hW).2.1 (HT W hW).2.2.2.2.1 k2 f1 hxb.1 hxb.2)
    have hsl := shiftD_len t.b.base t.b.digits (arg * valL t.a.base t.a.digits)
    obtain ⟨VA, hVA⟩ : ∃ v, valL t.a.base t.a.digits = v := ⟨_, rfl⟩
    obtain ⟨VB, hVB⟩ : ∃ v, valL t.b.base t.b.digits = v := ⟨_, rfl⟩
    rw [hVA] at KVA KMV hxb hva hsl HKD
    rw [hVB] at KVB hvb
    rw [Int.mul_comm arg VA] at KMV hsl HKD hxb
    obtain ⟨XX, hXX⟩ : ∃ v, VA * arg = v := ⟨_, rfl⟩
    rw [hXX] at KMV hxb hsl HKD
    have hxw : -9223372036854775808 ≤ VA * arg ∧ VA * arg ≤ 9223372036854775807 := by rw [hXX]; omega
    have HXX := Lib.hid hXX
    obtain ⟨SH, hSH⟩ : ∃ v, shiftD t.b.base t.b.digits XX = v := ⟨_, rfl⟩
    rw [hSH] at KMV hsl HKD
    obtain ⟨SB, hSB⟩ : ∃ v, shiftB t.b.base t.b.digits XX = v := ⟨_, rfl⟩
    rw [hSB] at KMV
    have hs3 : SmallReg ⟨t.b.base, SH⟩ := by unfold SmallReg; simp only; omega
    have KE := (fun (g X : _) (x : Nat) W (hW : Below w.heap.size w W) (m : Nat) (q1 : RegAt (W.drewN m) ⟨g, 0, none⟩ t.b.base X SH.length x) (q2 : RI (W.drewN m) X SH.length SH) => l02Same_any ⟨g, 0, none⟩ ⟨gb, 2, none⟩ ⟨t.b.base, SH⟩ s.b (W.drewN m) ⟨X, x, q1, q2⟩ ⟨B2, d2, (HS _ (below_drewN hW m)).2.1, (HS _ (below_drewN hW m)).2.2.2.2.1⟩ hs3 sb2)
    rw [sameR_comm ⟨t.b.base, SH⟩ s.b] at KE
    have KVA := Lib.hid KVA
    have KVB := Lib.hid KVB
    have KMV := Lib.hid KMV
    clear hT hS HT HS hv hv2 hk hz k1 k2 k3 e1 e2 l1 p0 p1 yd1 yd2 yd3 m1 m2 m3 zd1 zd2 zd3 hVA hVB hXX hSH hSB hsl KVR KVC KN hp3
    rcases hq1 : sameR s.b ⟨t.b.base, SH⟩ with _ | _ <;> rcases hq2 : sameR s.a t.a with _ | _
    all_goals
      rw [hq1] at KE HKD
      rw [hq2] at KA HKD
      have KE := Lib.hid KE
      have KA := Lib.hid KA
      have HF := Lib.hid HKD
      clear HKD hq1 hq2
      go_enter Tryz.func125, Tryz.ntmps125
      go_wp2_with fail
      refine (KVA.out _ (Kn.nil w).below).mono ?_; rintro e w1 ⟨rfl, q, rfl⟩
      have hK1 := (Kn.nil w).drewN q
      generalize w.drewN q = w1 at hK1 ⊢
      go_wp2_with fail
      refine (KVB.out _ hK1.below).mono ?_; rintro e w2 ⟨rfl, q, rfl⟩
      have hK2 := hK1.drewN q
      generalize w1.drewN q = w2 at hK2 ⊢
      go_wp2_with fail
      rw [HXX.out]
      refine (KMV.out _ hK2.below).mono ?_; rintro e w3 ⟨X, x, rfl, hKx⟩
      have hK3 := hK2.join hKx
      go_wp2_with fail
      have hK4 := hK3.al [.int .i64 t.b.base, .slice X SH.length x] 26
      generalize w3.alloc (.cells #[.int .i64 t.b.base, .slice X SH.length x] 26) = w4 at hK4 ⊢
      have KE1 := Lib.hid (fun m => KE.out _ X x _ hK4.below m ⟨(hK4.drewN m).cellIs 0 _ rfl, (hK4.drewN m).cellIs 1 _ rfl⟩ ((hK4.drewN m).drop.riv))
      have KA1 := Lib.hid (KA.out _ hK4.below)
      go_quiet ((go_at_call 118; first | (with_reducible exact quiet_of_ex (KE1.out _)) | (with_reducible exact quiet_of_ex (KA1.out _)) | (with_reducible exact quiet_add_ex (KE1.out _)) | (with_reducible exact quiet_add_ex (KA1.out _))))
      go_wp2_with fail
      go_ret
      exact ⟨ret_bool HF.out.symm, (hK4.drewN _).below⟩
  · have HKD := (show kpAfter t s 2 arg = ((valL s.b.base s.b.digits == (valL t.b.base t.b.digits).tmod (valL t.a.base t.a.digits)) && ((pw t.s.base t.s.digits.length - valL s.s.base s.s.digits).tmod (pw t.s.base t.s.digits.length) == (valL t.b.base t.b.digits).tdiv (valL t.a.base t.a.digits))) from rfl)
    have h0 : ¬ valL t.a.base t.a.digits = 0 := fun h => hz ⟨rfl, h⟩
    have hdv : 0 ≤ (valL t.b.base t.b.digits).tdiv (valL t.a.base t.a.digits) ∧ (valL t.b.base t.b.digits).tdiv (valL t.a.base t.a.digits) ≤ 1000000000001 := by
      rw [Int.tdiv_eq_ediv_of_nonneg hvb]
      have := Int.ediv_le_self (valL t.a.base t.a.digits) hvb
      exact ⟨Int.ediv_nonneg hvb hva, by omega⟩
    have hv3 := (valL_bd s.s.base o5 s.s.digits (fun d h => (zd3 d h).1)).1
    have hv3' := valL_lt s.s.base o5 s.s.digits zd3
    rw [hcs.1, hcs.2] at hv3'
    rw [← hcs.1] at hv3'
    obtain ⟨VA, hVA⟩ : ∃ v, valL t.a.base t.a.digits = v := ⟨_, rfl⟩
    obtain ⟨VB, hVB⟩ : ∃ v, valL t.b.base t.b.digits = v := ⟨_, rfl⟩
    obtain ⟨VC, hVC⟩ : ∃ v, valL s.s.base s.s.digits = v := ⟨_, rfl⟩
    obtain ⟨VR, hVR⟩ : ∃ v, valL s.b.base s.b.digits = v := ⟨_, rfl⟩
    rw [hcs.1] at hv3'
    obtain ⟨N, hN⟩ : ∃ v, pw t.s.base t.s.digits.length = v := ⟨_, rfl⟩
    rw [hVA] at KVA hva h0
    rw [hVB] at KVB hvb
    rw [hVA, hVB] at hdv
    rw [hVA, hVB, hVC, hVR, hN] at HKD
    have hv4 : VC < N := by rw [← hVC, ← hN, hcs.1]; exact hv3'
    rw [hVC] at KVC hv3
    rw [hVR] at KVR
    rw [hN] at KN p3 f2
    have hqw : IntKind.i64.wrap (VB.tdiv VA) = VB.tdiv VA := wrapI64 (by omega)
    have nv1 : VA ≠ 0 := h0
    have nv2 : (VA == 0) = false := by simpa using h0
    have nz1 : N ≠ 0 := by omega
    have nz2 : (N == 0) = false := by simp; omega
    have hwq := wrapI64 (n := N - VC) (by omega)
    have HEM := Lib.hid (show -VC % N = (N - VC).tmod N by rw [Int.tmod_eq_emod_of_nonneg (by omega), show N - VC = -VC + N by omega, Int.add_emod_right])
    have KVA := Lib.hid KVA
    have KVB := Lib.hid KVB
    have KVC := Lib.hid KVC
    have KVR := Lib.hid (fun W (hW : Below w.heap.size w W) (m : Nat) => KVR (W.drewN m) (below_drewN hW m))
    have KN := Lib.hid KN
    clear hT hS HT HS hv hv2 hk hz k1 k2 k3 e1 e2 l1 p0 p1 yd1 yd2 yd3 m1 m2 m3 zd1 zd2 zd3 hVA hVB hVC hVR hN KA KB hp3 hv3' h0 hcs
    rcases hq1 : (VR == VB.tmod VA) with _ | _ <;> rcases hq2 : ((N - VC).tmod N == VB.tdiv VA) with _ | _
    all_goals
      rw [hq1, hq2] at HKD
      have HF := Lib.hid HKD
      clear HKD
      have hd1 := hq1
      have hd2 := hq2
      simp only [beq_eq_false_iff_ne, beq_iff_eq] at hd1 hd2
      go_enter Tryz.func125, Tryz.ntmps125
      go_wp2_with fail
      refine (KVA.out _ (Kn.nil w).below).mono ?_; rintro e w1 ⟨rfl, q, rfl⟩
      have hK1 := (Kn.nil w).drewN q
      generalize w.drewN q = w1 at hK1 ⊢
      go_wp2_with fail
      refine (KVB.out _ hK1.below).mono ?_; rintro e w2 ⟨rfl, q, rfl⟩
      have hK2 := hK1.drewN q
      generalize w1.drewN q = w2 at hK2 ⊢
      go_wp2_with fail
      refine (KN.out _ hK2.below).mono ?_; rintro e w3 ⟨rfl, q, rfl⟩
      have hK3 := hK2.drewN q
      generalize w2.drewN q = w3 at hK3 ⊢
      go_wp2_with fail
      refine (KVC.out _ hK3.below).mono ?_; rintro e w4 ⟨rfl, q, rfl⟩
      have hK4 := hK3.drewN q
      generalize w3.drewN q = w4 at hK4 ⊢
      go_wp2_with fail
      have KR1 := Lib.hid (KVR.out _ hK4.below)
      go_quiet ((go_at_call 124; first | (with_reducible exact quiet_of_ex (KR1.out _)) | (with_reducible exact quiet_add_ex (KR1.out _))))
      go_wp2_with fail
      go_ret
      exact ⟨ret_bool (by first | (rw [HF.out]; rfl) | (rw [HF.out, HEM.out, hq2]; rfl)), (hK4.drewN _).below⟩
  · have HKD := (show kpAfter t s 3 arg = (sameR s.b t.b && sameR s.a t.a) from rfl)
    obtain ⟨VA, hVA⟩ : ∃ v, valL t.a.base t.a.digits = v := ⟨_, rfl⟩
    obtain ⟨VB, hVB⟩ : ∃ v, valL t.b.base t.b.digits = v := ⟨_, rfl⟩
    rw [hVA] at KVA hva
    rw [hVB] at KVB hvb
    have KVA := Lib.hid KVA
    have KVB := Lib.hid KVB
    clear hT hS HT HS hv hv2 hk hz k1 k2 k3 e1 e2 l1 p0 p1 yd1 yd2 yd3 m1 m2 m3 zd1 zd2 zd3 hVA hVB KVR KVC KN hp3
    rcases hq1 : sameR s.b t.b with _ | _ <;> rcases hq2 : sameR s.a t.a with _ | _
    all_goals
      rw [hq1] at KB HKD
      rw [hq2] at KA HKD
      have KB := Lib.hid KB
      have KA := Lib.hid KA
      have HF := Lib.hid HKD
      clear HKD hq1 hq2
      go_enter Tryz.func125, Tryz.ntmps125
      go_wp2_with fail
      refine (KVA.out _ (Kn.nil w).below).mono ?_; rintro e w1 ⟨rfl, q, rfl⟩
      have hK1 := (Kn.nil w).drewN q
      generalize w.drewN q = w1 at hK1 ⊢
      go_wp2_with fail
      refine (KVB.out _ hK1.below).mono ?_; rintro e w2 ⟨rfl, q, rfl⟩
      have hK2 := hK1.drewN q
      generalize w1.drewN q = w2 at hK2 ⊢
      go_wp2_with fail
      have KB1 := Lib.hid (KB.out _ hK2.below)
      have KA1 := Lib.hid (KA.out _ hK2.below)
      go_quiet ((go_at_call 118; first | (with_reducible exact quiet_of_ex (KA1.out _)) | (with_reducible exact quiet_of_ex (KB1.out _)) | (with_reducible exact quiet_add_ex (KA1.out _)) | (with_reducible exact quiet_add_ex (KB1.out _))))
      go_wp2_with fail
      go_ret
      exact ⟨ret_bool HF.out.symm, (hK2.drewN _).below⟩
  · have HKD := (show kpAfter t s 4 arg = ((valL s.b.base s.b.digits == 0) && (valL s.s.base s.s.digits == 0)) from rfl)
    obtain ⟨VA, hVA⟩ : ∃ v, valL t.a.base t.a.digits = v := ⟨_, rfl⟩
    obtain ⟨VB, hVB⟩ : ∃ v, valL t.b.base t.b.digits = v := ⟨_, rfl⟩
    obtain ⟨VC, hVC⟩ : ∃ v, valL s.s.base s.s.digits = v := ⟨_, rfl⟩
    obtain ⟨VR, hVR⟩ : ∃ v, valL s.b.base s.b.digits = v := ⟨_, rfl⟩
    rw [hVA] at KVA hva
    rw [hVB] at KVB hvb
    rw [hVC, hVR] at HKD
    rw [hVC] at KVC
    rw [hVR] at KVR
    have KVA := Lib.hid KVA
    have KVB := Lib.hid KVB
    have KVC := Lib.hid KVC
    have KVR := Lib.hid KVR
    clear hT hS HT HS hv hv2 hk hz k1 k2 k3 e1 e2 l1 p0 p1 yd1 yd2 yd3 m1 m2 m3 zd1 zd2 zd3 hVA hVB hVC hVR KA KB KN hp3
    rcases hq1 : (VR == 0) with _ | _
    · have HF := Lib.hid (show kpAfter t s 4 arg = false by rw [HKD, hq1]; rfl)
      go_enter Tryz.func125, Tryz.ntmps125
      go_wp2_with fail
      refine (KVA.out _ (Kn.nil w).below).mono ?_; rintro e w1 ⟨rfl, q, rfl⟩
      have hK1 := (Kn.nil w).drewN q
      generalize w.drewN q = w1 at hK1 ⊢
      go_wp2_with fail
      refine (KVB.out _ hK1.below).mono ?_; rintro e w2 ⟨rfl, q, rfl⟩
      have hK2 := hK1.drewN q
      generalize w1.drewN q = w2 at hK2 ⊢
      go_wp2_with fail
      refine (KVR.out _ hK2.below).mono ?_; rintro e w3 ⟨rfl, q, rfl⟩
      go_wp2_with fail
      go_ret
      exact ⟨ret_bool HF.out.symm, (hK2.drewN _).below⟩
    · rcases hq2 : (VC == 0) with _ | _
      all_goals
        rw [hq1, hq2] at HKD
        have HF := Lib.hid HKD
        go_enter Tryz.func125, Tryz.ntmps125
        go_wp2_with fail
        refine (KVA.out _ (Kn.nil w).below).mono ?_; rintro e w1 ⟨rfl, q, rfl⟩
        have hK1 := (Kn.nil w).drewN q
        generalize w.drewN q = w1 at hK1 ⊢
        go_wp2_with fail
        refine (KVB.out _ hK1.below).mono ?_; rintro e w2 ⟨rfl, q, rfl⟩
        have hK2 := hK1.drewN q
        generalize w1.drewN q = w2 at hK2 ⊢
        go_wp2_with fail
        refine (KVR.out _ hK2.below).mono ?_; rintro e w3 ⟨rfl, q, rfl⟩
        have hK3 := hK2.drewN q
        generalize w2.drewN q = w3 at hK3 ⊢
        go_wp2_with fail
        refine (KVC.out _ hK3.below).mono ?_; rintro e w4 ⟨rfl, q, rfl⟩
        go_wp2_with fail
        go_ret
        exact ⟨ret_bool (by rw [HF.out]; rfl), (hK3.drewN _).below⟩
end Go.Proofs.YtkfbfainhmkkdaaGreat

namespace Go.Proofs.YtkfbfainhmkkdaaGreat
open Go.RowKit Go.Sort
set_option maxRecDepth 100000 in
set_option maxHeartbeats 3200000 in
theorem l14Keeps_any {L : List Ins} {n lc : Nat} {LA : Option Addr} (g0 : Nat) (t : Tri) (A1 A2 A3 : Option Addr) (c1 c2 c3 : Nat) (kind arg : Int) (w : World) (hT : TriC w ⟨g0, 0, none⟩ t A1 c1 A2 c2 A3 c3) (hv : vmach t = true) (hp : vprog L = true) (hr : RL InsM 2 w LA n L) (hk : isP kind arg = true) :
    Calls Tryz.prog 85 #[.pointer (some ⟨g0, 0, none⟩), .slice LA n lc, .int .i64 kind, .int .i64 arg] w fun e w' => e = .returned (.bool (kpB L t kind arg)) ∧ Below w.heap.size w w' := by
  have ha : g0 < w.heap.size := World.block_lt_of_cell? w _ hT.1.1
  have HT := Lib.hid (fun W (hW : Below w.heap.size w W) => hT.below ha hW)
  have HV := Lib.hid hv
  have HK := Lib.hid hk
  have KR := Lib.hid (fun W (hW : Below w.heap.size w W) => l11Run_any (lc := lc) g0 t A1 A2 A3 c1 c2 c3 W (hT.below ha hW) hv hp (hr.below steady_InsM hW))
  unfold RunPS at KR
  by_cases hk2 : kind = 2
  · subst hk2
    obtain ⟨k1, k2, k3, e1, e2, f1, f2, l1, p0, p1⟩ := vmach_all hv
    obtain ⟨⟨b1, b2⟩, ⟨n1, n2⟩, yd1, yl1⟩ := vreg_iff.1 k1
    have KVA := (fun W (hW : Below w.heap.size w W) => l14Value_any ⟨g0, 0, none⟩ t.a.base A1 t.a.digits.length c1 t.a.digits W (hT.below ha hW).regs.1 b1 b2 yd1 (hT.below ha hW).regs.2.2.2.1 n2)
    by_cases h0 : valL t.a.base t.a.digits = 0
    · have HF := Lib.hid (kp_zero (L := L) (arg := arg) h0)
      rw [h0] at KVA
      have KVA := Lib.hid KVA
      clear hT hv hp hr hk k1 k2 k3 e1 e2 f1 f2 l1 p0 p1 yd1 KR h0 HT HV HK
      go_enter Tryz.func85, Tryz.ntmps85
      go_wp2_with fail
      refine (KVA.out _ (Kn.nil w).below).mono ?_; rintro e w1 ⟨rfl, q, rfl⟩
      have hK1 := (Kn.nil w).drewN q
      go_wp2_with fail
      go_ret
      exact ⟨ret_bool HF.out.symm, hK1.below⟩
    · have hn : ¬ ((2 : Int) = 2 ∧ valL t.a.base t.a.digits = 0) := fun h => h0 h.2
      have HN := Lib.hid hn
      clear hn
      have hn0 : (valL t.a.base t.a.digits == 0) = false := by simpa using h0
      have KVA := Lib.hid KVA
      clear hT hv hp hr hk k1 k2 k3 e1 e2 f1 f2 l1 p0 p1 yd1
      go_enter Tryz.func85, Tryz.ntmps85
      go_wp2_with fail
      refine (KVA.out _ (Kn.nil w).below).mono ?_; rintro e w1 ⟨rfl, q, rfl⟩
      have hK1 := (Kn.nil w).drewN q
      generalize w.drewN q = w1 at hK1 ⊢
      go_wp2_with fail
      clear hn0 h0
      refine (KR.out _ hK1.below).mono ?_; rintro e w5 ⟨g, s, b', b2, rfl, he, ⟨SA, sc, M1, j1, M2, j2, M3, j3, hKr⟩, hg⟩
      have hK5 := hK1.join hKr
      clear hKr
      obtain ⟨d1, d2, d3, -⟩ := hK5.cells
      rcases hc0 : (s.code == 0) with _ | _
      · have hcn : ¬ s.code = 0 := by simpa using hc0
        have HB := Lib.hid (kp_code (t := t) (L := L) (kind := 2) (arg := arg) (by have := HN.out; simpa using this) he hcn)
        clear he hg
        go_wp2_with fail
        go_ret
        exact ⟨ret_bool HB.out.symm, hK5.below⟩
      · have hcn : s.code = 0 := by simpa using hc0
        have HB := Lib.hid (kp_fine (t := t) (L := L) (kind := 2) (arg := arg) (by have := HN.out; simpa using this) he hcn)
        have hcs := he.cs
        unfold startR at hcs
        simp only [] at hcs
        have KAF := Lib.hid (l14After_any g0 g t s.m A1 A2 A3 M1 M2 M3 c1 c2 c3 j1 j2 j3 2 arg w5 (HT.out _ hK5.below) ⟨box7' hK5, Kn.riv (hK5.sel [3] 99 (by decide) (by decide)), Kn.riv (hK5.sel [2] 99 (by decide) (by decide)), Kn.riv (hK5.sel [1] 99 (by decide) (by decide))⟩ HV.out hg.m hcs HK.out (by have := HN.out; simpa using this))
        clear he hg hcs
        go_wp2_with fail
        refine KAF.out.mono ?_; rintro e w6 ⟨rfl, hw⟩
        have hK6 := hK5.keep hw
        rcases hq : kpAfter t s.m 2 arg with _ | _
        all_goals
          rw [hq] at HB
          go_wp2_with fail
          go_ret
          exact ⟨ret_bool HB.out.symm, hK6.below⟩
  · have hn : ¬ (kind = 2 ∧ valL t.a.base t.a.digits = 0) := fun h => hk2 h.1
    have HN := Lib.hid hn
    clear hn
    have hk3 : (kind == 2) = false := by simpa using hk2
    clear hT hv hp hr hk
    go_enter Tryz.func85, Tryz.ntmps85
    go_wp2_with fail
    have hK1 := Kn.nil w
    refine (KR.out _ hK1.below).mono ?_; rintro e w5 ⟨g, s, b', b2, rfl, he, ⟨SA, sc, M1, j1, M2, j2, M3, j3, hKr⟩, hg⟩
    have hK5 := hK1.join hKr
    clear hKr
    obtain ⟨d1, d2, d3, -⟩ := hK5.cells
    rcases hc0 : (s.code == 0) with _ | _
    · have hcn : ¬ s.code = 0 := by simpa using hc0
      have HB := Lib.hid (kp_code (kind := kind) (arg := arg) HN.out he hcn)
      clear he hg
      go_wp2_with fail
      go_ret
      exact ⟨ret_bool HB.out.symm, hK5.below⟩
    · have hcn : s.code = 0 := by simpa using hc0
      have HB := Lib.hid (kp_fine (kind := kind) (arg := arg) HN.out he hcn)
      have hcs := he.cs
      unfold startR at hcs
      simp only [] at hcs
      have KAF := Lib.hid (l14After_any g0 g t s.m A1 A2 A3 M1 M2 M3 c1 c2 c3 j1 j2 j3 kind arg w5 (HT.out _ hK5.below) ⟨box7' hK5, Kn.riv (hK5.sel [3] 99 (by decide) (by decide)), Kn.riv (hK5.sel [2] 99 (by decide) (by decide)), Kn.riv (hK5.sel [1] 99 (by decide) (by decide))⟩ HV.out hg.m hcs HK.out HN.out)
      clear he hg hcs
      go_wp2_with fail
      refine KAF.out.mono ?_; rintro e w6 ⟨rfl, hw⟩
      have hK6 := hK5.keep hw
      rcases hq : kpAfter t s.m kind arg with _ | _
      all_goals
        rw [hq] at HB
        go_wp2_with fail
        go_ret
        exact ⟨ret_bool HB.out.symm, hK6.below⟩
def kqC (L : List Ins) (t : Tri) (kind arg : Int) : Int := if (vmach t && vprog L) = false then 1 else if isP kind arg = false then 2 else 0
noncomputable def kqB (L : List Ins) (t : Tri) (kind arg : Int) : Bool := if kqC L t kind arg = 0 then kpB L t kind arg else false
def KQRet (L : List Ins) (t : Tri) (kind arg : Int) (w : World) (e : Ending) (w' : World) : Prop := e = .returned (.tuple #[.bool (kqB L t kind arg), .int .i64 (kqC L t kind arg)]) ∧ Below w.heap.size w w'
theorem kq_bad {L : List Ins} {t : Tri} {kind arg c : Int} (h : kqC L t kind arg = c) (hc : ¬ c = 0) : kqB L t kind arg = false ∧ kqC L t kind arg = c := by
  refine ⟨?_, h⟩; unfold kqB; rw [h, if_neg hc]
theorem kq_fine {L : List Ins} {t : Tri} {kind arg : Int} (h : kqC L t kind arg = 0) : kqB L t kind arg = kpB L t kind arg ∧ kqC L t kind arg = 0 := by
  refine ⟨?_, h⟩; unfold kqB; rw [h, if_pos rfl]
set_option maxRecDepth 100000 in
set_option maxHeartbeats 3200000 in
theorem KeepsPromise_any {L : List Ins} {n lc : Nat} {LA : Option Addr} (t : Tri) (A1 A2 A3 : Option Addr) (c1 c2 c3 : Nat) (kind arg : Int) (w : World) (r1 : RI w A1 t.a.digits.length t.a.digits) (r2 : RI w A2 t.b.digits.length t.b.digits) (r3 : RI w A3 t.s.digits.length t.s.digits) (hs : SmallTri t) (hr : RL InsM 2 w LA n L) (hn : n ≤ 9223372036854775807) :
    Calls Tryz.prog 27 #[.agg #[.int .i64 t.a.base, .slice A1 t.a.digits.length c1, .int .i64 t.b.base, .slice A2 t.b.digits.length c2, .int .i64 t.s.base, .slice A3 t.s.digits.length c3, .int .i64 t.carry], .slice LA n lc, .int .i64 kind, .int .i64 arg] w (KQRet L t kind arg w) := by
  have hTC : ∀ W, Kn w [.blk w.heap.size [.int .i64 t.a.base, .slice A1 t.a.digits.length c1, .int .i64 t.b.base, .slice A2 t.b.digits.length c2, .int .i64 t.s.base, .slice A3 t.s.digits.length c3, .int .i64 t.carry] 28] W → TriC W ⟨w.heap.size, 0, none⟩ t A1 c1 A2 c2 A3 c3 := fun W h => ⟨⟨h.blkAt.1 0, h.blkAt.1 1, h.blkAt.1 2, h.blkAt.1 3, h.blkAt.1 4, h.blkAt.1 5, h.blkAt.1 6⟩, r1.below h.below, r2.below h.below, r3.below h.below⟩
  have KV := (fun W (hW : Kn w [.blk w.heap.size [.int .i64 t.a.base, .slice A1 t.a.digits.length c1, .int .i64 t.b.base, .slice A2 t.b.digits.length c2, .int .i64 t.s.base, .slice A3 t.s.digits.length c3, .int .i64 t.carry] 28] W) => ValidMachine_any t A1 A2 A3 c1 c2 c3 W (r1.below hW.below) (r2.below hW.below) (r3.below hW.below) hs)
  have KP := (fun W (hW : Kn w [.blk w.heap.size [.int .i64 t.a.base, .slice A1 t.a.digits.length c1, .int .i64 t.b.base, .slice A2 t.b.digits.length c2, .int .i64 t.s.base, .slice A3 t.s.digits.length c3, .int .i64 t.carry] 28] W) => ValidProgram_any LA n lc L W (hr.below steady_InsM hW.below) hn)
  have KI := Lib.hid (fun W => isPromise_any kind arg W)
  unfold KQRet
  rcases hv : vmach t with _ | _
  · rw [hv] at KV
    have HB := Lib.hid (kq_bad (kind := kind) (arg := arg) (show kqC L t kind arg = 1 by unfold kqC; rw [hv]; rfl) (by decide))
    have KV := Lib.hid KV
    clear hv KP r1 r2 r3 hr hs hTC
    go_enter Tryz.func27, Tryz.ntmps27
    go_wp2_with fail
    refine Calls.kn ((Kn.nil w).al [.int .i64 t.a.base, .slice A1 t.a.digits.length c1, .int .i64 t.b.base, .slice A2 t.b.digits.length c2, .int .i64 t.s.base, .slice A3 t.s.digits.length c3, .int .i64 t.carry] 28) ?_; intro w1 hK0
    (refine (KV.out _ hK0).mono ?_; rintro e w2 ⟨rfl, hw⟩; have hK1 := hK0.keep hw; clear hw)
    go_wp2_with fail
    go_ret2
    rw [HB.out.1, HB.out.2]
    exact ⟨rfl, hK1.below⟩
  rcases hp : vprog L with _ | _
  · rw [hv] at KV
    rw [hp] at KP
    have HB := Lib.hid (kq_bad (kind := kind) (arg := arg) (show kqC L t kind arg = 1 by unfold kqC; rw [hv, hp]; rfl) (by decide))
    have KV := Lib.hid KV
    have KP := Lib.hid KP
    clear hv hp r1 r2 r3 hr hs hTC
    go_enter Tryz.func27, Tryz.ntmps27
    go_wp2_with fail
    refine Calls.kn ((Kn.nil w).al [.int .i64 t.a.base, .slice A1 t.a.digits.length c1, .int .i64 t.b.base, .slice A2 t.b.digits.length c2, .int .i64 t.s.base, .slice A3 t.s.digits.length c3, .int .i64 t.carry] 28) ?_; intro w1 hK0
    (refine (KV.out _ hK0).mono ?_; rintro e w2 ⟨rfl, hw⟩; have hK1 := hK0.keep hw; clear hw)
    go_wp2_with fail
    (refine (KP.out _ hK1).mono ?_; rintro e w3 ⟨rfl, hw⟩; have hK2 := hK1.keep hw; clear hw)
    go_wp2_with fail
    go_ret2
    rw [HB.out.1, HB.out.2]
    exact ⟨rfl, hK2.below⟩
  rw [hv] at KV
  rw [hp] at KP
  rcases hk : isP kind arg with _ | _
  · have HB := Lib.hid (kq_bad (show kqC L t kind arg = 2 by unfold kqC; rw [hv, hp, hk]; rfl) (by decide))
    have KI := KI.out
    rw [hk] at KI
    have KI := Lib.hid KI
    have KV := Lib.hid KV
    have KP := Lib.hid KP
    clear hv hp hk r1 r2 r3 hr hs hTC
    go_enter Tryz.func27, Tryz.ntmps27
    go_wp2_with fail
    refine Calls.kn ((Kn.nil w).al [.int .i64 t.a.base, .slice A1 t.a.digits.length c1, .int .i64 t.b.base, .slice A2 t.b.digits.length c2, .int .i64 t.s.base, .slice A3 t.s.digits.length c3, .int .i64 t.carry] 28) ?_; intro w1 hK0
    (refine (KV.out _ hK0).mono ?_; rintro e w2 ⟨rfl, hw⟩; have hK1 := hK0.keep hw; clear hw)
    go_wp2_with fail
    (refine (KP.out _ hK1).mono ?_; rintro e w3 ⟨rfl, hw⟩; have hK2 := hK1.keep hw; clear hw)
    go_wp2_with fail
    refine (KI.out _).mono ?_; rintro e w4 ⟨rfl, rfl⟩
    go_wp2_with fail
    go_ret2
    rw [HB.out.1, HB.out.2]
    exact ⟨rfl, hK2.below⟩
  · have HB := Lib.hid (kq_fine (show kqC L t kind arg = 0 by unfold kqC; rw [hv, hp, hk]; rfl))
    have KI := KI.out
    rw [hk] at KI
    have KI := Lib.hid KI
    have KK := Lib.hid (fun W (hW : Kn w [.blk w.heap.size [.int .i64 t.a.base, .slice A1 t.a.digits.length c1, .int .i64 t.b.base, .slice A2 t.b.digits.length c2, .int .i64 t.s.base, .slice A3 t.s.digits.length c3, .int .i64 t.carry] 28] W) => keeps_any (lc := lc) t A1 A2 A3 c1 c2 c3 kind arg W (r1.below hW.below) (r2.below hW.below) (r3.below hW.below) hv hp (hr.below steady_InsM hW.below) hk)
    have KV := Lib.hid KV
    have KP := Lib.hid KP
    clear hv hp hk r1 r2 r3 hr hs hTC
    go_enter Tryz.func27, Tryz.ntmps27
    go_wp2_with fail
    refine Calls.kn ((Kn.nil w).al [.int .i64 t.a.base, .slice A1 t.a.digits.length c1, .int .i64 t.b.base, .slice A2 t.b.digits.length c2, .int .i64 t.s.base, .slice A3 t.s.digits.length c3, .int .i64 t.carry] 28) ?_; intro w1 hK0
    (refine (KV.out _ hK0).mono ?_; rintro e w2 ⟨rfl, hw⟩; have hK1 := hK0.keep hw; clear hw)
    obtain ⟨a1, a2, a3, -⟩ := hK1.cells
    go_wp2_with fail
    (refine (KP.out _ hK1).mono ?_; rintro e w3 ⟨rfl, hw⟩; have hK2 := hK1.keep hw; clear hw)
    clear a1 a2 a3
    obtain ⟨a1, a2, a3, -⟩ := hK2.cells
    go_wp2_with fail
    refine (KI.out _).mono ?_; rintro e w4 ⟨rfl, rfl⟩
    go_wp2_with fail
    refine (KK.out _ hK2).mono ?_; rintro e w5 ⟨rfl, hw⟩
    have hK3 := hK2.keep hw
    go_wp2_with fail
    go_ret2
    rw [HB.out.1, HB.out.2]
    exact ⟨rfl, hK3.below⟩
set_option maxRecDepth 100000 in
set_option maxHeartbeats 3200000 in
theorem specKeepsPromise_any {L : List Ins} {n lc : Nat} {LA : Option Addr} (t : Tri) (A1 A2 A3 : Option Addr) (c1 c2 c3 : Nat) (kind arg : Int) (w : World) (r1 : RI w A1 t.a.digits.length t.a.digits) (r2 : RI w A2 t.b.digits.length t.b.digits) (r3 : RI w A3 t.s.digits.length t.s.digits) (hs : SmallTri t) (hr : RL InsM 2 w LA n L) (hn : n ≤ 9223372036854775807) :
    Calls Tryz.prog 28 #[.agg #[.int .i64 t.a.base, .slice A1 t.a.digits.length c1, .int .i64 t.b.base, .slice A2 t.b.digits.length c2, .int .i64 t.s.base, .slice A3 t.s.digits.length c3, .int .i64 t.carry], .slice LA n lc, .int .i64 kind, .int .i64 arg] w (KQRet L t kind arg w) := by
  have hTC : ∀ W, Kn w [.blk w.heap.size [.int .i64 t.a.base, .slice A1 t.a.digits.length c1, .int .i64 t.b.base, .slice A2 t.b.digits.length c2, .int .i64 t.s.base, .slice A3 t.s.digits.length c3, .int .i64 t.carry] 28] W → TriC W ⟨w.heap.size, 0, none⟩ t A1 c1 A2 c2 A3 c3 := fun W h => ⟨⟨h.blkAt.1 0, h.blkAt.1 1, h.blkAt.1 2, h.blkAt.1 3, h.blkAt.1 4, h.blkAt.1 5, h.blkAt.1 6⟩, r1.below h.below, r2.below h.below, r3.below h.below⟩
  have KV := (fun W (hW : Kn w [.blk w.heap.size [.int .i64 t.a.base, .slice A1 t.a.digits.length c1, .int .i64 t.b.base, .slice A2 t.b.digits.length c2, .int .i64 t.s.base, .slice A3 t.s.digits.length c3, .int .i64 t.carry] 28] W) => l10Ok_any ⟨w.heap.size, 0, none⟩ t W (hTC W hW).tri hs)
  have KP := (fun W (hW : Kn w [.blk w.heap.size [.int .i64 t.a.base, .slice A1 t.a.digits.length c1, .int .i64 t.b.base, .slice A2 t.b.digits.length c2, .int .i64 t.s.base, .slice A3 t.s.digits.length c3, .int .i64 t.carry] 28] W) => l11Ok_any LA n lc L W (hr.below steady_InsM hW.below) hn)
  have KI := Lib.hid (fun W => l14Arg_any kind arg W)
  unfold KQRet
  rcases hv : vmach t with _ | _
  · rw [hv] at KV
    have HB := Lib.hid (kq_bad (kind := kind) (arg := arg) (show kqC L t kind arg = 1 by unfold kqC; rw [hv]; rfl) (by decide))
    have KV := Lib.hid KV
    clear hv KP r1 r2 r3 hr hs hTC
    go_enter Tryz.func28, Tryz.ntmps28
    go_wp2_with fail
    refine Calls.kn ((Kn.nil w).al [.int .i64 t.a.base, .slice A1 t.a.digits.length c1, .int .i64 t.b.base, .slice A2 t.b.digits.length c2, .int .i64 t.s.base, .slice A3 t.s.digits.length c3, .int .i64 t.carry] 28) ?_; intro w1 hK0
    (refine (KV.out _ hK0).mono ?_; rintro e w2 ⟨rfl, q, rfl⟩; have hK1 := hK0.drewN q; generalize w1.drewN q = w2 at hK1 ⊢)
    go_wp2_with fail
    go_ret2
    rw [HB.out.1, HB.out.2]
    exact ⟨rfl, hK1.below⟩
  rcases hp : vprog L with _ | _
  · rw [hv] at KV
    rw [hp] at KP
    have HB := Lib.hid (kq_bad (kind := kind) (arg := arg) (show kqC L t kind arg = 1 by unfold kqC; rw [hv, hp]; rfl) (by decide))
    have KV := Lib.hid KV
    have KP := Lib.hid KP
    clear hv hp r1 r2 r3 hr hs hTC
    go_enter Tryz.func28, Tryz.ntmps28
    go_wp2_with fail
    refine Calls.kn ((Kn.nil w).al [.int .i64 t.a.base, .slice A1 t.a.digits.length c1, .int .i64 t.b.base, .slice A2 t.b.digits.length c2, .int .i64 t.s.base, .slice A3 t.s.digits.length c3, .int .i64 t.carry] 28) ?_; intro w1 hK0
    (refine (KV.out _ hK0).mono ?_; rintro e w2 ⟨rfl, q, rfl⟩; have hK1 := hK0.drewN q; generalize w1.drewN q = w2 at hK1 ⊢)
    go_wp2_with fail
    (refine (KP.out _ hK1).mono ?_; rintro e w3 ⟨rfl, q, rfl⟩; have hK2 := hK1.drewN q; generalize w2.drewN q = w3 at hK2 ⊢)
    go_wp2_with fail
    go_ret2
    rw [HB.out.1, HB.out.2]
    exact ⟨rfl, hK2.below⟩
  rw [hv] at KV
  rw [hp] at KP
  rcases hk : isP kind arg with _ | _
  · have HB := Lib.hid (kq_bad (show kqC L t kind arg = 2 by unfold kqC; rw [hv, hp, hk]; rfl) (by decide))
    have KI := KI.out
    rw [hk] at KI
    have KI := Lib.hid KI
    have KV := Lib.hid KV
    have KP := Lib.hid KP
    clear hv hp hk r1 r2 r3 hr hs hTC
    go_enter Tryz.func28, Tryz.ntmps28
    go_wp2_with fail
    refine Calls.kn ((Kn.nil w).al [.int .i64 t.a.base, .slice A1 t.a.digits.length c1, .int .i64 t.b.base, .slice A2 t.b.digits.length c2, .int .i64 t.s.base, .slice A3 t.s.digits.length c3, .int .i64 t.carry] 28) ?_; intro w1 hK0
    (refine (KV.out _ hK0).mono ?_; rintro e w2 ⟨rfl, q, rfl⟩; have hK1 := hK0.drewN q; generalize w1.drewN q = w2 at hK1 ⊢)
    go_wp2_with fail
    (refine (KP.out _ hK1).mono ?_; rintro e w3 ⟨rfl, q, rfl⟩; have hK2 := hK1.drewN q; generalize w2.drewN q = w3 at hK2 ⊢)
    go_wp2_with fail
    refine (KI.out _).mono ?_; rintro e w4 ⟨rfl, rfl⟩
    go_wp2_with fail
    go_ret2
    rw [HB.out.1, HB.out.2]
    exact ⟨rfl, hK2.below⟩
  · have HB := Lib.hid (kq_fine (show kqC L t kind arg = 0 by unfold kqC; rw [hv, hp, hk]; rfl))
    have KI := KI.out
    rw [hk] at KI
    have KI := Lib.hid KI
    have KK := Lib.hid (fun W (hW : Kn w [.blk w.heap.size [.int .i64 t.a.base, .slice A1 t.a.digits.length c1, .int .i64 t.b.base, .slice A2 t.b.digits.length c2, .int .i64 t.s.base, .slice A3 t.s.digits.length c3, .int .i64 t.carry] 28] W) => l14Keeps_any (lc := lc) w.heap.size t A1 A2 A3 c1 c2 c3 kind arg W (hTC W hW) hv hp (hr.below steady_InsM hW.below) hk)
    have KV := Lib.hid KV
    have KP := Lib.hid KP
    clear hv hp hk r1 r2 r3 hr hs hTC
    go_enter Tryz.func28, Tryz.ntmps28
    go_wp2_with fail
    refine Calls.kn ((Kn.nil w).al [.int .i64 t.a.base, .slice A1 t.a.digits.length c1, .int .i64 t.b.base, .slice A2 t.b.digits.length c2, .int .i64 t.s.base, .slice A3 t.s.digits.length c3, .int .i64 t.carry] 28) ?_; intro w1 hK0
    (refine (KV.out _ hK0).mono ?_; rintro e w2 ⟨rfl, q, rfl⟩; have hK1 := hK0.drewN q; generalize w1.drewN q = w2 at hK1 ⊢)
    obtain ⟨a1, a2, a3, -⟩ := hK1.cells
    go_wp2_with fail
    (refine (KP.out _ hK1).mono ?_; rintro e w3 ⟨rfl, q, rfl⟩; have hK2 := hK1.drewN q; generalize w2.drewN q = w3 at hK2 ⊢)
    clear a1 a2 a3
    obtain ⟨a1, a2, a3, -⟩ := hK2.cells
    go_wp2_with fail
    refine (KI.out _).mono ?_; rintro e w4 ⟨rfl, rfl⟩
    go_wp2_with fail
    refine (KK.out _ hK2).mono ?_; rintro e w5 ⟨rfl, hw⟩
    have hK3 := hK2.keep hw
    go_wp2_with fail
    go_ret2
    rw [HB.out.1, HB.out.2]
    exact ⟨rfl, hK3.below⟩
end Go.Proofs.YtkfbfainhmkkdaaGreat

namespace Go.Proofs.YtkfbfainhmkkdaaGreat
open Go.RowKit Go.Sort
/-- the code of widths, a program and a promise -/
def pC (b z1 z2 z3 : Int) (L : List Ins) (kind arg : Int) : Int := if vprog L = false then 1 else if isP kind arg = false then 2 else inC b z1 z2 z3
theorem inC_cases (b z1 z2 z3 : Int) : inC b z1 z2 z3 ≠ 0 ∨ (inC b z1 z2 z3 = 0 ∧ ∃ n1 n2 n3 : Nat, z1 = n1 ∧ z2 = n2 ∧ z3 = n3 ∧ NmB b n1 n2 n3 ∧ ¬ 256 < pw b n1 * pw b n2) := by
  by_cases h : inC b z1 z2 z3 = 0
  · refine .inr ⟨h, ?_⟩
    rcases hn : nmOk b z1 z2 z3 with _ | _
    · rw [inC_no hn] at h; cases h
    · obtain ⟨n1, n2, n3, rfl, rfl, rfl, hB⟩ := nmOk_true hn
      exact ⟨n1, n2, n3, rfl, rfl, rfl, hB, fun hc => by rw [inC_full hn hc] at h; cases h⟩
  · exact .inl h
theorem promiseInputs_bad {L : List Ins} {n lc : Nat} {LA : Option Addr} (b z1 z2 z3 kind arg : Int) (w : World) (hr : RL InsM 2 w LA n L) (hn : n ≤ 9223372036854775807) (h : pC b z1 z2 z3 L kind arg ≠ 0) :
    Calls Tryz.prog 80 #[.int .i64 b, .int .i64 z1, .int .i64 z2, .int .i64 z3, .slice LA n lc, .int .i64 kind, .int .i64 arg] w fun e w' => e = .returned (.tuple #[.agg #[.int .i64 0, .slice none 0 0, .int .i64 0, .slice none 0 0, .int .i64 0, .slice none 0 0, .int .i64 0, .int .i64 0], .int .i64 (pC b z1 z2 z3 L kind arg)]) ∧ Below w.heap.size w w' := by
  have KP := (fun W (hW : Below w.heap.size w W) => ValidProgram_any LA n lc L W (hr.below steady_InsM hW) hn)
  have KI := (fun W => isPromise_any kind arg W)
  rcases hp : vprog L with _ | _
  · have HC := Lib.hid (show pC b z1 z2 z3 L kind arg = 1 by unfold pC; rw [if_pos hp])
    rw [hp] at KP
    have KP := Lib.hid KP
    rw [HC.out]
    clear h hp hr hn KI
    go_enter Tryz.func80, Tryz.ntmps80
    go_wp2_with fail
    refine Calls.kn ((Kn.nil w).al [.int .i64 0, .slice none 0 0, .int .i64 0, .slice none 0 0, .int .i64 0, .slice none 0 0, .int .i64 0, .int .i64 0] 115) ?_; intro w1 hK1
    refine (KP.out _ hK1.below).mono ?_; rintro e w2 ⟨rfl, hw⟩
    have hK2 := hK1.keep hw
    obtain ⟨a1, a2, a3, -⟩ := hK2.cells
    go_wp2_with fail
    refine bodyPost.kn ((((((((hK2.st 0 (.int .i64 0)).st 1 (.slice none 0 0)).st 2 (.int .i64 0)).st 3 (.slice none 0 0)).st 4 (.int .i64 0)).st 5 (.slice none 0 0)).st 6 (.int .i64 0)).st 7 (.int .i64 0)) ?_; intro w6 hK6
    clear a1 a2 a3
    obtain ⟨a1, a2, a3, -⟩ := hK6.cells
    exact bodyPost_ret (v := .tuple #[.agg #[.int .i64 0, .slice none 0 0, .int .i64 0, .slice none 0 0, .int .i64 0, .slice none 0 0, .int .i64 0, .int .i64 0], .int .i64 1]) (by simp [results, Tryz.results80, go_sem, a1]) rfl ⟨rfl, hK6.below⟩
  rcases hk : isP kind arg with _ | _
  · have HC := Lib.hid (show pC b z1 z2 z3 L kind arg = 2 by unfold pC; rw [if_neg (by rw [hp]; decide), if_pos hk])
    rw [hp] at KP
    rw [hk] at KI
    have KP := Lib.hid KP
    have KI := Lib.hid KI
    rw [HC.out]
    clear h hp hr hn hk
    go_enter Tryz.func80, Tryz.ntmps80
    go_wp2_with fail
    refine Calls.kn ((Kn.nil w).al [.int .i64 0, .slice none 0 0, .int .i64 0, .slice none 0 0, .int .i64 0, .slice none 0 0, .int .i64 0, .int .i64 0] 115) ?_; intro w1 hK1
    refine (KP.out _ hK1.below).mono ?_; rintro e w2 ⟨rfl, hw⟩
    have hK2 := hK1.keep hw
    obtain ⟨a1, a2, a3, -⟩ := hK2.cells
    go_wp2_with (go_at_call 87; refine (KI.out _).mono ?_; rintro e w4 ⟨rfl, rfl⟩)
    refine bodyPost.kn ((((((((hK2.st 0 (.int .i64 0)).st 1 (.slice none 0 0)).st 2 (.int .i64 0)).st 3 (.slice none 0 0)).st 4 (.int .i64 0)).st 5 (.slice none 0 0)).st 6 (.int .i64 0)).st 7 (.int .i64 0)) ?_; intro w6 hK6
    clear a1 a2 a3
    obtain ⟨a1, a2, a3, -⟩ := hK6.cells
    exact bodyPost_ret (v := .tuple #[.agg #[.int .i64 0, .slice none 0 0, .int .i64 0, .slice none 0 0, .int .i64 0, .slice none 0 0, .int .i64 0, .int .i64 0], .int .i64 2]) (by simp [results, Tryz.results80, go_sem, a1]) rfl ⟨rfl, hK6.below⟩
  · have HC := Lib.hid (show pC b z1 z2 z3 L kind arg = inC b z1 z2 z3 by unfold pC; rw [if_neg (by rw [hp]; decide), if_neg (by rw [hk]; decide)])
    rw [HC.out] at h
    have KB := Lib.hid (fun W => inputsOf_bad b z1 z2 z3 W h)
    rw [hp] at KP
    rw [hk] at KI
    rw [HC.out]
    obtain ⟨c, hc⟩ : ∃ c, inC b z1 z2 z3 = c := ⟨_, rfl⟩
    have KB := KB.out
    rw [hc] at KB
    rw [hc]
    have KB := Lib.hid KB
    have KP := Lib.hid KP
    have KI := Lib.hid KI
    clear h hp hr hn hk hc
    go_enter Tryz.func80, Tryz.ntmps80
    go_wp2_with fail
    refine Calls.kn ((Kn.nil w).al [.int .i64 0, .slice none 0 0, .int .i64 0, .slice none 0 0, .int .i64 0, .slice none 0 0, .int .i64 0, .int .i64 0] 115) ?_; intro w1 hK1
    refine (KP.out _ hK1.below).mono ?_; rintro e w2 ⟨rfl, hw⟩
    have hK2 := hK1.keep hw
    go_wp2_with (first | (go_at_call 87; refine (KI.out _).mono ?_; rintro e w4 ⟨rfl, rfl⟩) | (go_at_call 92; refine (KB.out _).mono ?_; rintro e w4 ⟨rfl, hw4⟩; have hK4 := hK2.keep hw4; obtain ⟨a1, a2, a3, -⟩ := hK4.cells))
    refine bodyPost.kn ((((((((hK4.st 0 (.int .i64 0)).st 1 (.slice none 0 0)).st 2 (.int .i64 0)).st 3 (.slice none 0 0)).st 4 (.int .i64 0)).st 5 (.slice none 0 0)).st 6 (.int .i64 0)).st 7 (.int .i64 0)) ?_; intro w6 hK6
    clear a1 a2 a3
    obtain ⟨a1, a2, a3, -⟩ := hK6.cells
    exact bodyPost_ret (v := .tuple #[.agg #[.int .i64 0, .slice none 0 0, .int .i64 0, .slice none 0 0, .int .i64 0, .slice none 0 0, .int .i64 0, .int .i64 0], .int .i64 c]) (by simp [results, Tryz.results80, go_sem, a1]) rfl ⟨rfl, hK6.below⟩
theorem promiseInputs_fine {L : List Ins} {n lc : Nat} {LA : Option Addr} {b : Int} {n1 n2 n3 : Nat} (kind arg : Int) (w : World) (hr : RL InsM 2 w LA n L) (hn : n ≤ 9223372036854775807) (hp : vprog L = true) (hk : isP kind arg = true) (hB : NmB b n1 n2 n3) (hbig : ¬ 256 < pw b n1 * pw b n2) :
    Calls Tryz.prog 80 #[.int .i64 b, .int .i64 n1, .int .i64 n2, .int .i64 n3, .slice LA n lc, .int .i64 kind, .int .i64 arg] w fun e w' => ∃ E1 g1 E2 g2 E3 g3, e = .returned (.tuple #[.agg #[.int .i64 b, .slice E1 (digD b n1 0).length g1, .int .i64 b, .slice E2 (digD b n2 0).length g2, .int .i64 b, .slice E3 (digD b n3 0).length g3, .int .i64 0, .int .i64 (pw b n1 * pw b n2)], .int .i64 0]) ∧ Kn w [rowI E3 g3 (digD b n3 0), rowI E2 g2 (digD b n2 0), rowI E1 g1 (digD b n1 0)] w' := by
  have KP := (fun W (hW : Below w.heap.size w W) => ValidProgram_any LA n lc L W (hr.below steady_InsM hW) hn)
  have KI := (fun W => isPromise_any kind arg W)
  have KF := (fun W => inputsOf_fine W hB hbig)
  obtain ⟨x1, hx1⟩ : ∃ x, digD b n1 0 = x := ⟨_, rfl⟩
  obtain ⟨x2, hx2⟩ : ∃ x, digD b n2 0 = x := ⟨_, rfl⟩
  obtain ⟨x3, hx3⟩ : ∃ x, digD b n3 0 = x := ⟨_, rfl⟩
  obtain ⟨PP, hPP⟩ : ∃ x, pw b n1 * pw b n2 = x := ⟨_, rfl⟩
  rw [hx1, hx2, hx3, hPP] at KF
  rw [hx1, hx2, hx3, hPP]
  rw [hp] at KP
  rw [hk] at KI
  have KF := Lib.hid KF
  have KP := Lib.hid KP
  have KI := Lib.hid KI
  clear hp hr hn hk hbig hB hx1 hx2 hx3 hPP
  go_enter Tryz.func80, Tryz.ntmps80
  go_wp2_with fail
  refine Calls.kn ((Kn.nil w).al [.int .i64 0, .slice none 0 0, .int .i64 0, .slice none 0 0, .int .i64 0, .slice none 0 0, .int .i64 0, .int .i64 0] 115) ?_; intro w1 hK1
  refine (KP.out _ hK1.below).mono ?_; rintro e w2 ⟨rfl, hw⟩
  have hK2 := hK1.keep hw
  go_wp2_with (first | (go_at_call 87; refine (KI.out _).mono ?_; rintro e w4 ⟨rfl, rfl⟩) | (go_at_call 92; refine (KF.out _).mono ?_; rintro e w4 ⟨E1, g1, E2, g2, E3, g3, rfl, hKn⟩; have hK4 := hK2.join hKn; obtain ⟨a1, a2, a3, -⟩ := hK4.cells))
  refine bodyPost.kn (((((((((hK4.front 3 rfl).st 0 (.int .i64 b)).st 1 (.slice E1 x1.length g1)).st 2 (.int .i64 b)).st 3 (.slice E2 x2.length g2)).st 4 (.int .i64 b)).st 5 (.slice E3 x3.length g3)).st 6 (.int .i64 0)).st 7 (.int .i64 PP)) ?_; intro w7 hK7
  clear a1 a2 a3
  obtain ⟨a1, a2, a3, -⟩ := hK7.cells
  exact bodyPost_ret (v := .tuple #[.agg #[.int .i64 b, .slice E1 x1.length g1, .int .i64 b, .slice E2 x2.length g2, .int .i64 b, .slice E3 x3.length g3, .int .i64 0, .int .i64 PP], .int .i64 0]) (by simp [results, Tryz.results80, go_sem, a1]) rfl ⟨E1, g1, E2, g2, E3, g3, rfl, hK7.sel [1, 2, 3] 99 (by decide) (by decide)⟩
theorem l14Code_any {L : List Ins} {n lc : Nat} {LA : Option Addr} (b z1 z2 z3 kind arg : Int) (w : World) (hr : RL InsM 2 w LA n L) (hn : n ≤ 9223372036854775807) :
    Calls Tryz.prog 82 #[.int .i64 b, .int .i64 z1, .int .i64 z2, .int .i64 z3, .slice LA n lc, .int .i64 kind, .int .i64 arg] w fun e w' => e = .returned (.int .i64 (pC b z1 z2 z3 L kind arg)) ∧ Below w.heap.size w w' := by
  have KP := (fun W (hW : Below w.heap.size w W) => l11Ok_any LA n lc L W (hr.below steady_InsM hW) hn)
  have KI := (fun W => l14Arg_any kind arg W)
  have KS := (fun W => l14Size_any b z1 z2 z3 W)
  obtain ⟨c, hc⟩ : ∃ c, inC b z1 z2 z3 = c := ⟨_, rfl⟩
  rw [hc] at KS
  have KS := Lib.hid KS
  rcases hp : vprog L with _ | _
  · have HC := Lib.hid (show pC b z1 z2 z3 L kind arg = 1 by unfold pC; rw [if_pos hp])
    rw [hp] at KP
    have KP := Lib.hid KP
    rw [HC.out]
    clear hp hr hn hc
    go_enter Tryz.func82, Tryz.ntmps82
    go_wp2_with fail
    refine (KP.out _ (Kn.nil w).below).mono ?_; rintro e w2 ⟨rfl, q, rfl⟩
    go_wp2_with fail
    go_ret
    exact ⟨rfl, ((Kn.nil w).drewN q).below⟩
  rw [hp] at KP
  have KP := Lib.hid KP
  rcases hn2 : nmOk b z1 z2 z3 with _ | _
  · have hcc := inC_no hn2
    have KN := Lib.hid (fun W => specNewMachine_no b z1 z2 z3 W hn2)
    have HC := Lib.hid (show pC b z1 z2 z3 L kind arg = 2 by unfold pC; rw [if_neg (by rw [hp]; decide), hcc]; split <;> rfl)
    rw [HC.out]
    clear hp hr hn hc hcc hn2
    go_enter Tryz.func82, Tryz.ntmps82
    go_wp2_with fail
    refine (KP.out _ (Kn.nil w).below).mono ?_; rintro e w2 ⟨rfl, q, rfl⟩
    have hK2 := (Kn.nil w).drewN q
    generalize w.drewN q = w2 at hK2 ⊢
    go_wp2_with fail
    (with_reducible refine (KN.out _).mono ?_); rintro e w3 ⟨rfl, hw⟩
    have hK3 := hK2.keep hw
    go_wp2_with fail
    go_ret
    exact ⟨rfl, (hK3.al_ _).below⟩
  obtain ⟨n1, n2, n3, rfl, rfl, rfl, hB⟩ := nmOk_true hn2
  have KN := Lib.hid (fun W => specNewMachine_yes W hB)
  rcases hk : isP kind arg with _ | _
  · have HC := Lib.hid (show pC b n1 n2 n3 L kind arg = 2 by unfold pC; rw [if_neg (by rw [hp]; decide), if_pos hk])
    rw [hk] at KI
    have KI := Lib.hid KI
    rw [HC.out]
    clear hp hr hn hc hn2 hk hB
    go_enter Tryz.func82, Tryz.ntmps82
    go_wp2_with fail
    refine (KP.out _ (Kn.nil w).below).mono ?_; rintro e w2 ⟨rfl, q, rfl⟩
    have hK2 := (Kn.nil w).drewN q
    generalize w.drewN q = w2 at hK2 ⊢
    go_wp2_with fail
    (with_reducible refine (KN.out _).mono ?_); rintro e w3 ⟨E1, g1, E2, g2, E3, g3, rfl, hKn⟩
    have hK3 := hK2.keep hKn.below
    go_wp2_with (go_at_call 90; refine (KI.out _).mono ?_; rintro e w4 ⟨rfl, rfl⟩)
    go_ret
    exact ⟨rfl, (hK3.al_ _).below⟩
  · have HC := Lib.hid (show pC b n1 n2 n3 L kind arg = c by unfold pC; rw [if_neg (by rw [hp]; decide), if_neg (by rw [hk]; decide), hc])
    rw [hk] at KI
    have KI := Lib.hid KI
    rw [HC.out]
    clear hp hr hn hc hn2 hk hB
    go_enter Tryz.func82, Tryz.ntmps82
    go_wp2_with fail
    refine (KP.out _ (Kn.nil w).below).mono ?_; rintro e w2 ⟨rfl, q, rfl⟩
    have hK2 := (Kn.nil w).drewN q
    generalize w.drewN q = w2 at hK2 ⊢
    go_wp2_with fail
    (with_reducible refine (KN.out _).mono ?_); rintro e w3 ⟨E1, g1, E2, g2, E3, g3, rfl, hKn⟩
    have hK3 := hK2.keep hKn.below
    go_wp2_with (first | (go_at_call 90; refine (KI.out _).mono ?_; rintro e w4 ⟨rfl, rfl⟩))
    refine Calls.kn (hK3.al_ _) ?_; intro w5 hK5
    refine (KS.out _).mono ?_; rintro e w6 ⟨rfl, hw⟩
    have hK6 := hK5.keep hw
    go_wp2_with fail
    go_ret
    exact ⟨rfl, hK6.below⟩
end Go.Proofs.YtkfbfainhmkkdaaGreat
