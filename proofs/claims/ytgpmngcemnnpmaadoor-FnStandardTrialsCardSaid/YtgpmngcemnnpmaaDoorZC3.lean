/- Part 3: lemmas and contracts of the claim's functions. -/
import Derived.Test.YtgpmngcemnnpmaaDoorZC1
import Derived.Test.YtgpmngcemnnpmaaDoorZC2
namespace Go.Proofs.YtgpmngcemnnpmaaDoor
open Go.RowKit Go.Sort
def TOK (t : Tri) : Prop := t.a.digits.length = t.b.digits.length ∧ t.a.digits.length ≤ 16 ∧ 2 ≤ t.a.base ∧ t.a.base ≤ 16 ∧ (∀ d ∈ t.a.digits, 0 ≤ d ∧ d < t.a.base) ∧ (∀ d ∈ t.b.digits, 0 ≤ d ∧ d < t.a.base) ∧ SmallTri t
theorem tok_of {r0 : Reg} {t : Tri} (h : triGood r0 t = true) (hs : SmallTri t) : TOK t := by
  simp only [triGood, vlike, Bool.and_eq_true, decide_eq_true_eq, beq_iff_eq] at h
  obtain ⟨⟨⟨⟨⟨h1, h2⟩, h3⟩, ⟨h4, h5⟩, h6⟩, -⟩, -⟩ := h
  obtain ⟨⟨p1, p2⟩, ⟨-, p4⟩, p5, -⟩ := vreg_iff.1 h1
  obtain ⟨-, -, q5, -⟩ := vreg_iff.1 h4
  refine ⟨by omega, by omega, p1, p2, p5, ?_, hs⟩
  rw [h2, ← h5]; exact q5
def sumReg (t : Tri) (fs : List Flt) : Reg := ⟨t.a.base, sumL t.a.base t.a.digits t.b.digits fs t.a.digits.length⟩
def expl (t : Tri) (fs : List Flt) : Bool := sameR (sumReg t fs) t.s && (carryAt t.a.base t.a.digits t.b.digits fs t.a.digits.length == t.carry)
set_option maxHeartbeats 1600000 in
theorem explained_any (t : Tri) (A1 A2 A3 : Option Addr) (c1 c2 c3 : Nat) (A : Option Addr) (m c : Nat) (fs : List Flt) (w : World) (r1 : RI w A1 t.a.digits.length t.a.digits) (r2 : RI w A2 t.b.digits.length t.b.digits) (r3 : RI w A3 t.s.digits.length t.s.digits)
    (hr : RL FltM 2 w A m fs) (ht : TOK t) (hg : GoodF t.a.digits.length fs) (hm : m ≤ 1000000) :
    Calls Tryd.prog 46 #[.agg #[.int .i64 t.a.base, .slice A1 t.a.digits.length c1, .int .i64 t.b.base, .slice A2 t.b.digits.length c2, .int .i64 t.s.base, .slice A3 t.s.digits.length c3, .int .i64 t.carry], .slice A m c] w fun e w' => e = .returned (.bool (expl t fs)) ∧ Below w.heap.size w w' := by
  obtain ⟨t1, t2, t3, t4, t5, t6, -, -, s3⟩ := ht
  unfold SmallReg at s3
  have hb0 : Below w.heap.size w (w.alloc (.cells #[.int .i64 t.a.base, .slice A1 t.a.digits.length c1, .int .i64 t.b.base, .slice A2 t.b.digits.length c2, .int .i64 t.s.base, .slice A3 t.s.digits.length c3, .int .i64 t.carry] 43)) := (Below.refl _ _).alloc (Nat.le_refl _) _
  have T1 := Lib.hid t1; clear t1
  go_enter Tryd.func46, Tryd.ntmps46
  go_wp2_with fail
  refine (addedWith_any t.a t.b A1 A2 c1 c2 A m c fs _ (r1.below hb0) (r2.below hb0) (hr.below steady_FltM hb0) T1.out t2 t3 t4 t5 t6 hg hm).mono ?_; rintro e w1 ⟨X, x, rfl, ox, hw1⟩
  have hb1 : Below w.heap.size w w1 := hb0.trans (hw1.mono (by simp))
  obtain ⟨hc, hf⟩ := bcellB (B := w.heap.size + 1) (hw1.mono (by simp))
  have z1 : w.heap.size + 1 ≤ w1.heap.size := by have := hw1.size; simpa using this
  have rX := ox.ri
  have hl := sumL_len t.a.base t.a.digits t.b.digits fs t.a.digits.length
  have x0 : w1.cell? ⟨w.heap.size, 4, none⟩ = some (.int .i64 t.s.base) := by go_simp
  have x1 : w1.cell? ⟨w.heap.size, 5, none⟩ = some (.slice A3 t.s.digits.length c3) := by go_simp
  have x2 : w1.cell? ⟨w.heap.size, 6, none⟩ = some (.int .i64 t.carry) := by go_simp
  have hbA : Below w1.heap.size w1 (w1.alloc (.cells #[.int .i64 t.a.base, .slice X t.a.digits.length x] 41)) := (Below.refl _ _).alloc (Nat.le_refl _) _
  have y0 : (w1.alloc (.cells #[.int .i64 t.a.base, .slice X t.a.digits.length x] 41)).cell? ⟨w.heap.size, 4, none⟩ = some (.int .i64 t.s.base) := by rw [hbA.cell (by exact z1)]; exact x0
  have y1 : (w1.alloc (.cells #[.int .i64 t.a.base, .slice X t.a.digits.length x] 41)).cell? ⟨w.heap.size, 5, none⟩ = some (.slice A3 t.s.digits.length c3) := by rw [hbA.cell (by exact z1)]; exact x1
  have y2 : (w1.alloc (.cells #[.int .i64 t.a.base, .slice X t.a.digits.length x] 41)).cell? ⟨w.heap.size, 6, none⟩ = some (.int .i64 t.carry) := by rw [hbA.cell (by exact z1)]; exact x2
  have K := SameRegister_any (sumReg t fs) t.s X A3 x c3 (w1.alloc (.cells #[.int .i64 t.a.base, .slice X t.a.digits.length x] 41)) (by show RI _ X (sumL t.a.base t.a.digits t.b.digits fs t.a.digits.length).length _; rw [hl]; exact rX.below hbA) ((r3.below hb1).below hbA) (by unfold SmallReg sumReg; simp only; omega) s3
  rw [show (sumReg t fs).digits.length = t.a.digits.length from hl] at K
  have KK := Lib.hid K
  clear K hc hf ox hl
  rcases k : sameR (sumReg t fs) t.s with _ | _
  all_goals
    have HF := Lib.hid (show expl t fs = (sameR (sumReg t fs) t.s && (carryAt t.a.base t.a.digits t.b.digits fs t.a.digits.length == t.carry)) from rfl)
    have K1 := Lib.hid k; clear k
    obtain ⟨cy, hcy⟩ : ∃ cy, cy = carryAt t.a.base t.a.digits t.b.digits fs t.a.digits.length := ⟨_, rfl⟩
    rw [← hcy] at HF
    rw [← hcy]
    clear hcy
    go_wp2_with fail
    refine (calls_val KK.out (congrArg Value.bool K1.out)).mono ?_; rintro e w2 ⟨rfl, hw2⟩
    have hb2 := hb1.trans ((hbA.mono (by omega)).trans (hw2.mono (by simp; omega)))
    have u2 : w2.cell? ⟨w.heap.size, 6, none⟩ = some (.int .i64 t.carry) := by rw [hw2.cell (by simp; omega)]; exact y2
    go_wp2
    go_ret
    exact ⟨ret_bool (by rw [HF.out, K1.out]; rfl), hb2⟩
end Go.Proofs.YtgpmngcemnnpmaaDoor

namespace Go.Proofs.YtgpmngcemnnpmaaDoor
open Go.RowKit Go.Sort
def Asc (fs : List Flt) : Prop := ∀ (k : Nat) (h : k + 1 < fs.length), (fs[k]'(by omega)).lever < fs[k + 1].lever
def vexpl (ts : List Tri) (fs : List Flt) : Bool := ts.all (fun t => expl t fs)
theorem between_b (a b c : Int) (w : World) : Calls Tryd.prog 71 #[.int .i64 a, .int .i64 b, .int .i64 c] w fun e w' => e = .returned (.bool (betB a b c)) ∧ Below w.heap.size w w' :=
  (between_any a b c w).mono fun _ _ ⟨h, e⟩ => ⟨h, e ▸ Below.refl _ _⟩
theorem isFault_any (n : Nat) (f : Flt) (w : World) (hn : n ≤ 16) (h1 : 1 ≤ f.kind) (h2 : f.kind ≤ 3) (h3 : 0 ≤ f.lever) (h4 : f.lever < n) :
    Calls Tryd.prog 72 #[.int .i64 n, .agg #[.int .i64 f.kind, .int .i64 f.lever]] w fun e w' => e = .returned (.bool true) ∧ Below w.heap.size w w' := by
  have k1 : betB f.kind 1 3 = true := betB_iff.2 ⟨h1, h2⟩
  have k2 : betB f.lever 0 (n - 1) = true := betB_iff.2 ⟨h3, by omega⟩
  have K1 := Lib.hid k1; have K2 := Lib.hid k2
  clear k1 k2
  go_enter Tryd.func72, Tryd.ntmps72
  go_wp2_with (go_at_call 71; refine (between_any _ _ _ _).mono ?_; rintro e w' ⟨rfl, rfl⟩; first | rw [K1.out] | rw [K2.out])
  go_ret
  exact ⟨rfl, (Below.refl _ _).alloc (Nat.le_refl _) _⟩
set_option maxHeartbeats 1600000 in
theorem ValidFaults_true (n : Nat) (A : Option Addr) (m c : Nat) (fs : List Flt) (w : World) (hr : RL FltM 2 w A m fs) (hg : GoodF n fs) (ha : Asc fs) (hn1 : 1 ≤ n) (hn : n ≤ 16) (hm : m ≤ 1000000) :
    Calls Tryd.prog 38 #[.int .i64 n, .slice A m c] w fun e w' => e = .returned (.bool true) ∧ Below w.heap.size w w' := by
  have HL := Lib.hid hr.1
  go_enter Tryd.func38, Tryd.ntmps38
  go_wp2
  go_loopw [9] (fun i wr => ∃ k : Nat, k ≤ m ∧ i = .int .i64 k ∧ Below w.heap.size w wr) (fun i _ => m - (intOf i).toNat)
  case atStart => exact ⟨0, Nat.zero_le _, rfl, Below.refl _ _⟩
  case round =>
    obtain ⟨k, hk, rfl, hbr⟩ := hrel
    by_cases hkn : k < m
    · obtain ⟨ad, hA, hlt, hkl, f1, f2⟩ := (hr.below steady_FltM hbr).at_ hkn
      obtain ⟨q1, q2, q3, q4⟩ := hg fs[k] (List.getElem_mem _)
      have KF := Lib.hid (fun (W : World) => isFault_any n fs[k] W hn q1 q2 q3 q4)
      have hi0 : (0 : Int) ≤ (k : Int) := by omega
      have hi1 : (k : Int) < (m : Int) := by omega
      have hfb : Below wr.heap.size wr (wr.alloc (.cells #[.int .i64 fs[k].kind, .int .i64 fs[k].lever] 38)) := (Below.refl _ _).alloc (Nat.le_refl _) _
      have x1 := cell_regrown (show (wr.alloc (.cells #[.int .i64 fs[k].kind, .int .i64 fs[k].lever] 38)).cell? ⟨wr.heap.size, 0, none⟩ = some (.int .i64 fs[k].kind) by go_simp)
      have x2 := cell_regrown (show (wr.alloc (.cells #[.int .i64 fs[k].kind, .int .i64 fs[k].lever] 38)).cell? ⟨wr.heap.size, 1, none⟩ = some (.int .i64 fs[k].lever) by go_simp)
      rcases Nat.eq_zero_or_pos k with hk0 | hk0
      · subst hk0
        rw [Nat.zero_mul, addr_add_zero] at f1 f2
        subst hA
        go_wp2_with fail
        refine wp_region_quiet_below (by kernel_rfl) (by kernel_rfl) ?_
        repeat (go_big_quiet_step ((go_at_call 72; exact quietB (fun W _ => KF.out W))))
        refine wpQuiet_nil ?_
        intro W1 hw'
        have hB1 : Below wr.heap.size wr W1 := by
          obtain ⟨⟨dq, osq⟩, hw''⟩ := hw'
          rw [hw'']; exact hfb.trans ((below_regrown _ dq osq).mono hfb.size)
        clear hw'
        go_wp2
        go_roundw
        case rel => exact ⟨1, by omega, by go_num, hbr.trans (hB1.mono hbr.size)⟩
        case measure => simp [intOf]; omega
      · obtain ⟨ad', hA', -, hkl', g1, g2⟩ := (hr.below steady_FltM hbr).at_ (show k - 1 < m by omega)
        obtain rfl : ad = ad' := by rw [hA] at hA'; injection hA'
        clear hA'
        have hasc := ha (k - 1) (by omega)
        have he : fs[k - 1 + 1] = fs[k] := by congr 1; omega
        rw [he] at hasc
        obtain ⟨lv, hlv⟩ : ∃ lv, lv = fs[k - 1].lever := ⟨_, rfl⟩
        rw [← hlv] at g2 hasc
        clear hlv he g1
        have y2 := cell_regrown ((hfb.cell (by rw [show (⟨(ad.add ((k - 1) * 2)).block, (ad.add ((k - 1) * 2)).off + 1, none⟩ : Addr).block = ad.block from block_of_add _ _]; exact hlt)).trans g2)
        have hd : decide ((0 : Int) < (k : Int)) = true := decide_eq_true (by omega)
        have hd2 : decide (fs[k].lever ≤ lv) = false := decide_eq_false (by omega)
        have hi2 : (0 : Int) < (k : Int) := by omega
        subst hA
        go_wp2_with fail
        refine wp_region_quiet_below (by kernel_rfl) (by kernel_rfl) ?_
        repeat (go_big_quiet_step ((go_at_call 72; exact quietB (fun W _ => KF.out W))))
        refine wpQuiet_nil ?_
        intro W1 hw'
        have hB1 : Below wr.heap.size wr W1 := by
          obtain ⟨⟨dq, osq⟩, hw''⟩ := hw'
          rw [hw'']; exact hfb.trans ((below_regrown _ dq osq).mono hfb.size)
        clear hw'
        go_wp2
        go_roundw
        case rel => exact ⟨k + 1, by omega, by go_num, hbr.trans (hB1.mono hbr.size)⟩
        case measure => simp [intOf]; omega
    · have K1 : betB (n : Int) 1 16 = true := betB_iff.2 ⟨by omega, by omega⟩
      have KK := Lib.hid K1; clear K1
      go_wp2_with (go_at_call 73; refine (isRegisterWidth_any _ _).mono ?_; rintro e w' ⟨rfl, rfl⟩; rw [KK.out])
      go_ret
      exact ⟨rfl, hbr⟩
end Go.Proofs.YtgpmngcemnnpmaaDoor

namespace Go.Proofs.YtgpmngcemnnpmaaDoor
open Go.RowKit Go.Sort
theorem l07SizeW_any (n : Int) (w : World) : Calls Tryd.prog 78 #[.int .i64 n] w fun e w' => e = .returned (.bool (betB n 1 16)) ∧ w = w' := by
  go_enter Tryd.func78, Tryd.ntmps78
  go_wp2_with (go_at_call 77; refine (l00In_any _ _ _ _).mono ?_; rintro e w' ⟨rfl, rfl⟩)
  go_ret
  exact ⟨rfl, rfl⟩
set_option maxHeartbeats 1600000 in
theorem l08Ok_true (n : Nat) (A : Option Addr) (m c : Nat) (fs : List Flt) (w : World) (hr : RL FltM 2 w A m fs) (hg : GoodF n fs) (ha : Asc fs) (hn1 : 1 ≤ n) (hn : n ≤ 16) (hm : m ≤ 1000000) :
    Calls Tryd.prog 43 #[.int .i64 n, .slice A m c] w fun e w' => e = .returned (.bool true) ∧ ∃ q, w' = w.drewN q := by
  have HL := Lib.hid hr.1
  have HB : Hid (betB (n : Int) 1 16 = true) := by simp only [Hid]; rw [betB_iff]; omega
  go_enter Tryd.func43, Tryd.ntmps43
  go_wp2_with (go_at_call 78; refine (l07SizeW_any _ _).mono ?_; rintro e w' ⟨rfl, rfl⟩; rw [HB.out])
  go_loopw [5] (fun i wr => ∃ k : Nat, k ≤ m ∧ i = .int .i64 k ∧ ∃ q, wr = w.drewN q) (fun i _ => m - (intOf i).toNat)
  case atStart => exact ⟨0, Nat.zero_le _, rfl, 0, rfl⟩
  case round =>
    obtain ⟨k, hk, rfl, q, rfl⟩ := hrel
    by_cases hkn : k < m
    · obtain ⟨ad, hA, hlt, hkl, f1, f2⟩ := hr.at_ hkn
      obtain ⟨q1, q2, q3, q4⟩ := hg fs[k] (List.getElem_mem _)
      have hb1 : betB fs[k].kind 1 3 = true := by rw [betB_iff]; omega
      have hb2 : betB fs[k].lever 0 ((n : Int) - 1) = true := by rw [betB_iff]; omega
      have hi0 : (0 : Int) ≤ (k : Int) := by omega
      have hi1 : (k : Int) < (m : Int) := by omega
      rcases Nat.eq_zero_or_pos k with hk0 | hk0
      · subst hk0
        rw [Nat.zero_mul, addr_add_zero] at f1 f2
        subst hA
        go_wp2_with fail
        go_quiet ((go_at_call 77; first | exact quiet_left (l00In_any _ _ _ _) | exact quiet_add_left (l00In_any _ _ _ _)))
        go_wp2
        go_roundw
        case rel => exact ⟨1, by omega, by go_num, by first | exact ⟨_, rfl⟩ | exact ⟨_, World.drewN_drewN _ _ _⟩⟩
        case measure => simp [intOf]; omega
      · obtain ⟨ad', hA', -, hkl', g1, g2⟩ := hr.at_ (show k - 1 < m by omega)
        obtain rfl : ad = ad' := by rw [hA] at hA'; injection hA'
        clear hA'
        have hasc := ha (k - 1) (by omega)
        have he : fs[k - 1 + 1] = fs[k] := by congr 1; omega
        rw [he] at hasc
        obtain ⟨lv, hlv⟩ : ∃ lv, lv = fs[k - 1].lever := ⟨_, rfl⟩
        rw [← hlv] at g2 hasc
        clear hlv he g1
        have hd : decide ((0 : Int) < (k : Int)) = true := decide_eq_true (by omega)
        have hd2 : decide (fs[k].lever ≤ lv) = false := decide_eq_false (by omega)
        have hi2 : (0 : Int) < (k : Int) := by omega
        subst hA
        go_wp2_with fail
        go_quiet ((go_at_call 77; first | exact quiet_left (l00In_any _ _ _ _) | exact quiet_add_left (l00In_any _ _ _ _)))
        go_wp2
        go_roundw
        case rel => exact ⟨k + 1, by omega, by go_num, by first | exact ⟨_, rfl⟩ | exact ⟨_, World.drewN_drewN _ _ _⟩⟩
        case measure => simp [intOf]; omega
    · go_wp2
      go_ret
      exact ⟨rfl, q, rfl⟩
end Go.Proofs.YtgpmngcemnnpmaaDoor

namespace Go.Proofs.YtgpmngcemnnpmaaDoor
open Go.RowKit Go.Sort
set_option maxRecDepth 100000 in
set_option maxHeartbeats 1600000 in
theorem l02New_any (base : Int) (width : Nat) (w : World) (hb : 2 ≤ base) (hb2 : base ≤ 16) (hw : width ≤ 16) :
    Calls Tryd.prog 162 #[.int .i64 base, .int .i64 width, .int .i64 0] w fun e w' => ∃ A c, e = .returned (.tuple #[.agg #[.int .i64 base, .slice A width c], .int .i64 0]) ∧ OwnI w' w.heap.size (.slice A width c) (List.replicate width 0) ∧ Below w.heap.size w w' := by
  obtain ⟨i0, hi, hz0, hz1, hz2⟩ := info_parts info_i64
  have hba : Below w.heap.size w (w.alloc (.cells #[.int .i64 0, .slice none 0 0] 41)) := (Below.refl _ _).alloc (Nat.le_refl _) _
  obtain ⟨w1, hw1⟩ : ∃ w1, w1 = w.alloc (.cells #[.int .i64 0, .slice none 0 0] 41) := ⟨_, rfl⟩
  have z1 : w1.heap.size = w.heap.size + 1 := by rw [hw1]; simp
  have q0 : w1.cell? ⟨w.heap.size, 0, none⟩ = some (.int .i64 0) := by rw [hw1]; go_simp
  have q1 : w1.cell? ⟨w.heap.size, 1, none⟩ = some (.slice none 0 0) := by rw [hw1]; go_simp
  have q2 : w1.frozen? ⟨w.heap.size, 0, none⟩ = false := by rw [hw1]; go_simp
  have q3 : w1.frozen? ⟨w.heap.size, 1, none⟩ = false := by rw [hw1]; go_simp
  rw [← hw1] at hba
  have HW1 := Lib.hid hw1
  have HZ1 := Lib.hid z1
  have HBA := Lib.hid hba
  clear hba z1
  go_enter Tryd.func162, Tryd.ntmps162
  go_wp2_with fail
  rw [← hw1]
  clear hw1
  go_loopw [9, 2] (fun kk vv wr => ∃ (k : Nat) (v : Value), k ≤ width ∧ kk = .int .i64 k ∧ vv = .int .i64 0 ∧ SumAt wr (w.heap.size + 1) base v (List.replicate k 0) ∧ Below (w.heap.size + 1) w1 wr) (fun kk _ _ => width - (intOf kk).toNat)
  case atStart => exact ⟨0, .slice none 0 0, Nat.zero_le _, rfl, rfl, ⟨by rw [← HZ1.out]; exact heap_alloc_new _ _, OwnI.nil _ _⟩, (Below.refl _ _).alloc (Nat.le_of_eq HZ1.out.symm) _⟩
  case round =>
    obtain ⟨k, v, hk, rfl, rfl, hS, hbr⟩ := hrel
    by_cases hkn : k < width
    · have hk1 : (k : Int) < (width : Int) := by omega
      obtain ⟨s1, s2, s3⟩ := hS.cells
      have hS' := Lib.hid hS
      have HO := Lib.hid (fun (n : Nat) (o : Obj) => World.ownsRow.alloc (w := (wr.drewN n).drew) hS.2 o)
      have hbr' := Lib.hid hbr
      have hGl := hS.lt
      have hrl : (List.replicate k (0 : Int)).length = k := List.length_replicate
      have HRL := Lib.hid hrl
      clear hS hbr hrl
      go_wp2_with fail
      have nz1 : base ≠ 0 := by omega
      have nz2 : (base == 0) = false := by simp; omega
      have nz3 : ¬ base = 0 := by omega
      have sA : (wr.drew.alloc (.cells #[.int .i64 0] 2)).cell? ⟨w.heap.size + 1, 1, none⟩ = some v := by rw [World.cell?_alloc_lt _ _ _ (by exact hGl)]; exact s2
      go_region_law (refine step_append_lies _ rfl (.tmp 18) (.tmp 22) 34 rfl (w.heap.size + 1 + 1) 2 i0 _ 1 8 Tryd.underlying34 hi hz0 hz1 hz2 rfl (by decide) v _ _ (by simp [Act.eval]) (HO.out 0 _) ⟨wr.heap.size, 0, none⟩ 1 1 [.int .i64 0] (by simp [Act.eval, Act.put]) rfl (World.news_of_block (heap_alloc_new _ _)) (by simp [Value.oneCell']) (by decide) (by rw [HRL.out]; unfold maxLen; omega) (by rw [HRL.out]; omega) (by simp; omega) _ rfl ?_; intro gg cap w2 hown2 hgrow2 hat2 hlt2; obtain ⟨t1, t2, t3, t4⟩ := SumAt.far (w := wr.drew) hS'.out hgrow2)
      all_goals
        obtain ⟨hS3, hB3⟩ := SumAt.step (w := wr.drew) hS'.out hgrow2 hown2
        rw [HRL.out] at hS3 hB3
        obtain ⟨w3, hw3⟩ : ∃ w3, w3 = w2.setCell ⟨w.heap.size + 1, 1, none⟩ (.slice (some ⟨gg, 0, none⟩) (k + 1) cap) := ⟨_, rfl⟩
        rw [← hw3] at hS3 hB3
        have hb3 : Below (w.heap.size + 1) wr w3 := (below_drewN (Below.refl (w.heap.size + 1) wr) 1).trans (hB3 _ (Nat.le_refl _))
        have HS3 := Lib.hid hS3
        have HB3 := Lib.hid (hbr'.out.trans hb3)
        clear hgrow2 hown2 t1 t2 t3 t4 sA hat2 hS3 hB3 hb3
        rw [← hw3]
        clear hw3
        go_wp2
        go_roundw
        case rel => exact ⟨k + 1, _, by omega, by go_num, rfl, by rw [List.replicate_succ']; exact HS3.out, HB3.out⟩
        case measure => simp [intOf]; omega
    · have HK : Hid (k = width) := by simp only [Hid]; omega
      obtain ⟨s1, s2, s3⟩ := hS.cells
      have m0 : wr.cell? ⟨w.heap.size, 0, none⟩ = some (.int .i64 0) := by rw [hbr.cell (by simp)]; exact q0
      have m1 : wr.cell? ⟨w.heap.size, 1, none⟩ = some (.slice none 0 0) := by rw [hbr.cell (by simp)]; exact q1
      have m2 : wr.frozen? ⟨w.heap.size, 0, none⟩ = false := by rw [hbr.frozen (by simp)]; exact q2
      have m3 : wr.frozen? ⟨w.heap.size, 1, none⟩ = false := by rw [hbr.frozen (by simp)]; exact q3
      have hO := hS.2
      obtain ⟨A', c', rfl, hri, hge⟩ := hS.2.reads
      rw [List.length_replicate, HK.out] at s2 hO
      have HO := Lib.hid hO
      have hbr' := Lib.hid hbr
      clear hS hbr hri hge hO
      go_wp2_with fail
      refine bodyPost_ret (v := .tuple #[.agg #[.int .i64 base, .slice A' width c'], .int .i64 0]) (by simp [results, Tryd.results162, go_sem, m0, m1, m2, m3]) rfl ⟨A', c', rfl, ?_, ?_⟩
      · exact (((HO.out.setBelow (by simp <;> omega) _).setBelow (by simp <;> omega) _)).mono (by omega)
      · exact ((HBA.out.trans (hbr'.out.mono (by omega))).setCell (by simp) _).setCell (by simp) _
end Go.Proofs.YtgpmngcemnnpmaaDoor

namespace Go.Proofs.YtgpmngcemnnpmaaDoor
open Go.RowKit Go.Sort
theorem own_set {W : World} {base g n c j : Nat} {ds : List Int} (h : OwnI W base (.slice (some ⟨g, 0, none⟩) n c) ds) (hl : ds.length = n) (x : Int) : OwnI (W.setCell ⟨g, j, none⟩ (.int .i64 x)) base (.slice (some ⟨g, 0, none⟩) n c) (ds.set j x) := by
  unfold OwnI at h ⊢
  rw [hl] at h
  have hs := (World.ownsRow.stored h j (.int .i64 x)).1
  rw [← List.map_set] at hs
  rw [List.length_set, hl]
  exact hs
theorem own_far {W : World} {base g n c : Nat} {ds : List Int} {a : Addr} (h : OwnI W base (.slice (some ⟨g, 0, none⟩) n c) ds) (hne : a.block ≠ g) (u : Value) : OwnI (W.setCell a u) base (.slice (some ⟨g, 0, none⟩) n c) ds := by
  refine ⟨h.1, ?_⟩
  rcases h.2 with ⟨e, -⟩ | ⟨g', cap, cur, e, hbg, hc, rest⟩
  · cases e
  · refine .inr ⟨g', cap, cur, e, hbg, ?_, rest⟩
    injection e with e _ _
    injection e with e
    injection e with e _ _
    rw [heap_setCell_other _ _ _ _ (by rw [← e]; exact hne.symm)]
    exact hc
theorem own_some {W : World} {base n c : Nat} {A : Option Addr} {ds : List Int} (h : OwnI W base (.slice A n c) ds) (hl : ds.length = n) (hn : 0 < n) : ∃ g, A = some ⟨g, 0, none⟩ ∧ base ≤ g ∧ g < W.heap.size := by
  rcases h.2 with ⟨e, hz⟩ | ⟨g, cap, cur, e, hbg, hc, -⟩
  · omega
  · injection e with e _ _
    exact ⟨g, e, hbg, (Array.getElem?_eq_some_iff.1 hc).1⟩
theorem own_cell {W : World} {base g n c j : Nat} {ds : List Int} (h : OwnI W base (.slice (some ⟨g, 0, none⟩) n c) ds) (hl : ds.length = n) (hj : j < n) : (∃ u, W.cell? ⟨g, j, none⟩ = some u) ∧ W.frozen? ⟨g, j, none⟩ = false := by
  unfold OwnI at h
  rw [hl] at h
  exact ⟨⟨_, (World.ownsRow.cellAt h j (by omega)).trans (List.getElem?_eq_getElem (by rw [List.length_map]; omega))⟩, World.ownsRow.frozenAt h j⟩
/-- digits of a base -/
def DigB (base : Int) (n : Nat) (ds : List Int) : Prop := ds.length = n ∧ ∀ d ∈ ds, 0 ≤ d ∧ d < base
theorem DigB.zero {base : Int} (n : Nat) (h : 2 ≤ base) : DigB base n (List.replicate n 0) := ⟨List.length_replicate, fun d hd => by rw [List.eq_of_mem_replicate hd]; omega⟩
theorem DigB.set {base : Int} {n : Nat} {ds : List Int} (h : DigB base n ds) (j : Nat) {x : Int} (h0 : 0 ≤ x) (h1 : x < base) : DigB base n (ds.set j x) :=
  ⟨by rw [List.length_set]; exact h.1, fun d hd => by
    rcases List.mem_or_eq_of_mem_set hd with h2 | h2
    · exact h.2 d h2
    · rw [h2]; exact ⟨h0, h1⟩⟩
abbrev st7 (V : World) (R : Nat) (v0 v1 v2 v3 v4 v5 v6 : Value) : World := ((((((V.setCell ⟨R, 0, none⟩ v0).setCell ⟨R, 1, none⟩ v1).setCell ⟨R, 2, none⟩ v2).setCell ⟨R, 3, none⟩ v3).setCell ⟨R, 4, none⟩ v4).setCell ⟨R, 5, none⟩ v5).setCell ⟨R, 6, none⟩ v6
theorem st7_own {V : World} {R base g n c : Nat} {ds : List Int} (h : OwnI V base (.slice (some ⟨g, 0, none⟩) n c) ds) (hne : R ≠ g) (v0 v1 v2 v3 v4 v5 v6 : Value) : OwnI (st7 V R v0 v1 v2 v3 v4 v5 v6) base (.slice (some ⟨g, 0, none⟩) n c) ds :=
  own_far (own_far (own_far (own_far (own_far (own_far (own_far h hne _) hne _) hne _) hne _) hne _) hne _) hne _
theorem st7_below {V a : World} {B R : Nat} (h : Below B a V) (hR : B ≤ R) (v0 v1 v2 v3 v4 v5 v6 : Value) : Below B a (st7 V R v0 v1 v2 v3 v4 v5 v6) :=
  ((((((h.setCell (p := ⟨R, 0, none⟩) hR v0).setCell (p := ⟨R, 1, none⟩) hR v1).setCell (p := ⟨R, 2, none⟩) hR v2).setCell (p := ⟨R, 3, none⟩) hR v3).setCell (p := ⟨R, 4, none⟩) hR v4).setCell (p := ⟨R, 5, none⟩) hR v5).setCell (p := ⟨R, 6, none⟩) hR v6
end Go.Proofs.YtgpmngcemnnpmaaDoor

namespace Go.Proofs.YtgpmngcemnnpmaaDoor
open Go.RowKit Go.Sort
def lftT (left : Int) (t : Tri) : Int := lft3 left t.a.digits.length t.b.digits.length t.s.digits.length
def lftS : Int → List Tri → Int
  | left, [] => left
  | left, t :: ts => if lftT left t < 0 then -1 else lftS (lftT left t) ts
def szS (left : Int) (ts : List Tri) : Int := if left - ts.length < 0 then -1 else lftS (left - ts.length) ts
theorem lftT_bd (left : Int) (t : Tri) (h : -1 ≤ left) : -1 ≤ lftT left t ∧ lftT left t ≤ left := by
  unfold lftT lft3
  have b1 := lft_bd left t.a.digits.length h (by omega)
  have b2 := lft_bd _ t.b.digits.length b1.1 (by omega)
  have b3 := lft_bd _ t.s.digits.length b2.1 (by omega)
  split
  · omega
  · split <;> omega
theorem lftT_small {left : Int} {t : Tri} (hl : left ≤ 1048576) (h0 : -1 ≤ left) (h : ¬ lftT left t < 0) : t.a.digits.length ≤ 1048576 ∧ t.b.digits.length ≤ 1048576 ∧ t.s.digits.length ≤ 1048576 := by
  unfold lftT lft3 at h
  split at h
  · omega
  · rename_i k1
    split at h
    · omega
    · rename_i k2
      have b1 := lft_bd left t.a.digits.length h0 (by omega)
      have b2 := lft_bd _ t.b.digits.length b1.1 (by omega)
      unfold lft at h k1 k2 b1 b2
      refine ⟨?_, ?_, ?_⟩
      · split at k1 <;> omega
      · split at k2 <;> split at k2 <;> omega
      · split at h <;> split at h <;> split at h <;> omega
theorem lftS_small : ∀ (ts : List Tri) (left : Int), 0 ≤ left → left ≤ 1048576 → ¬ lftS left ts < 0 → ∀ t ∈ ts, t.a.digits.length ≤ 1048576 ∧ t.b.digits.length ≤ 1048576 ∧ t.s.digits.length ≤ 1048576
  | [], _, _, _, _ => fun t h => by cases h
  | t :: ts, left, h0, hl, h => by
    unfold lftS at h
    split at h
    · omega
    · rename_i k1
      have hb := lftT_bd left t (by omega)
      intro u hu
      rcases List.mem_cons.1 hu with rfl | hu
      · exact lftT_small hl (by omega) k1
      · exact lftS_small ts (lftT left t) (by omega) (by omega) h u hu
theorem szS_small {ts : List Tri} (h : ¬ szS 1048576 ts < 0) : ts.length ≤ 1048576 ∧ ∀ t ∈ ts, t.a.digits.length ≤ 1048576 ∧ t.b.digits.length ≤ 1048576 ∧ t.s.digits.length ≤ 1048576 := by
  unfold szS at h
  split at h
  · omega
  · exact ⟨by omega, lftS_small ts _ (by omega) (by omega) h⟩
theorem smallTri_of {t : Tri} (h : t.a.digits.length ≤ 1048576 ∧ t.b.digits.length ≤ 1048576 ∧ t.s.digits.length ≤ 1048576) : SmallTri t := by
  unfold SmallTri SmallReg; omega
end Go.Proofs.YtgpmngcemnnpmaaDoor

namespace Go.Proofs.YtgpmngcemnnpmaaDoor
open Go.RowKit Go.Sort
theorem ownI_ri {w : World} {base n c : Nat} {A : Option Addr} {ds : List Int} (h : OwnI w base (.slice A n c) ds) : RI w A n ds := by
  obtain ⟨A', c', h1, h2, -⟩ := h.reads
  injection h1 with h1 h3 h4
  rw [h1, h3]; exact h2
theorem row_below {w w' : World} {base : Nat} {e : TypeId} {size : Nat} {v : Value} {n : Nat} {xs : List Value} (h : w.ownsRow base e size v n xs) (hb : Below w.heap.size w w') : w'.ownsRow base e size v n xs := by
  refine ⟨h.1, ?_⟩
  rcases h.2 with hn | ⟨g, cap, cur, rfl, hbg, hg, rest⟩
  · exact .inl hn
  · exact .inr ⟨g, cap, cur, rfl, hbg, by rw [hb.block g (Array.getElem?_eq_some_iff.1 hg).1]; exact hg, rest⟩
/-- trial i in the cells xs of an own row, its digits in own rows from block b on -/
def TriX (w : World) (b : Nat) (xs : List Value) (i : Nat) (t : Tri) : Prop := ∃ X1 x1 X2 x2 X3 x3, (xs[i * 7]? = some (.int .i64 t.a.base) ∧ xs[i * 7 + 1]? = some (.slice X1 t.a.digits.length x1) ∧ xs[i * 7 + 2]? = some (.int .i64 t.b.base) ∧ xs[i * 7 + 3]? = some (.slice X2 t.b.digits.length x2) ∧
    xs[i * 7 + 4]? = some (.int .i64 t.s.base) ∧ xs[i * 7 + 5]? = some (.slice X3 t.s.digits.length x3) ∧ xs[i * 7 + 6]? = some (.int .i64 t.carry)) ∧ OwnI w b (.slice X1 t.a.digits.length x1) t.a.digits ∧ OwnI w b (.slice X2 t.b.digits.length x2) t.b.digits ∧ OwnI w b (.slice X3 t.s.digits.length x3) t.s.digits
theorem TriX.below {w w' : World} {b : Nat} {xs : List Value} {i : Nat} {t : Tri} (h : TriX w b xs i t) (hb : Below w.heap.size w w') : TriX w' b xs i t := by
  obtain ⟨X1, x1, X2, x2, X3, x3, h1, h2, h3, h4⟩ := h
  exact ⟨X1, x1, X2, x2, X3, x3, h1, h2.below hb, h3.below hb, h4.below hb⟩
theorem TriX.setBelow {w : World} {b : Nat} {xs : List Value} {i : Nat} {t : Tri} (h : TriX w b xs i t) {a : Addr} (ha : a.block < b) (u : Value) : TriX (w.setCell a u) b xs i t := by
  obtain ⟨X1, x1, X2, x2, X3, x3, h1, h2, h3, h4⟩ := h
  exact ⟨X1, x1, X2, x2, X3, x3, h1, h2.setBelow ha u, h3.setBelow ha u, h4.setBelow ha u⟩
/-- trials in an own row at block g -/
def OwnTS (w : World) (g n : Nat) (ts : List Tri) : Prop := ts.length = n ∧ ∃ xs, w.ownsRow g 43 7 (.slice (some ⟨g, 0, none⟩) n n) n xs ∧ ∀ (i : Nat) (h : i < ts.length), TriX w (g + 1) xs i ts[i]
theorem OwnTS.below {w w' : World} {g n : Nat} {ts : List Tri} (h : OwnTS w g n ts) (hb : Below w.heap.size w w') : OwnTS w' g n ts := by
  obtain ⟨h1, xs, h2, h3⟩ := h
  exact ⟨h1, xs, row_below h2 hb, fun i hi => (h3 i hi).below hb⟩
theorem OwnTS.rl {w : World} {g n : Nat} {ts : List Tri} (h : OwnTS w g n ts) : RL TriM 7 w (some ⟨g, 0, none⟩) n ts := by
  obtain ⟨h1, xs, h2, h3⟩ := h
  have hc := h2.cells (g := g) rfl
  refine ⟨h1, fun hn => ⟨_, rfl, ?_, fun k hk => ?_⟩⟩
  · rcases h2.2 with ⟨h, -⟩ | ⟨g', cap, cur, e, hbg, hg, -⟩
    · cases h
    · injection e with e; injection e with e; injection e with e
      subst e
      exact (Array.getElem?_eq_some_iff.1 hg).1
  · obtain ⟨X1, x1, X2, x2, X3, x3, ⟨e0, e1, e2, e3, e4, e5, e6⟩, o1, o2, o3⟩ := h3 k hk
    have f0 := hc _ _ e0
    have f1 := hc _ _ e1
    have f2 := hc _ _ e2
    have f3 := hc _ _ e3
    have f4 := hc _ _ e4
    have f5 := hc _ _ e5
    have f6 := hc _ _ e6
    rw [add_zero_block] at f0 f1 f2 f3 f4 f5 f6 ⊢
    exact ⟨⟨X1, x1, ⟨f0, f1⟩, ownI_ri o1⟩, ⟨X2, x2, ⟨f2, f3⟩, ownI_ri o2⟩, ⟨X3, x3, ⟨f4, f5⟩, ownI_ri o3⟩, f6⟩
theorem row7 {w : World} {g n k : Nat} {T : TypeId} {xs : List Value} (h : w.ownsRow g T 7 (.slice (some ⟨g, 0, none⟩) n n) n xs) (hk : k < n) :
    (∃ u, w.cell? ⟨g, k * 7, none⟩ = some u) ∧ (∃ u, w.cell? ⟨g, k * 7 + 1, none⟩ = some u) ∧ (∃ u, w.cell? ⟨g, k * 7 + 2, none⟩ = some u) ∧ (∃ u, w.cell? ⟨g, k * 7 + 3, none⟩ = some u) ∧ (∃ u, w.cell? ⟨g, k * 7 + 4, none⟩ = some u) ∧ (∃ u, w.cell? ⟨g, k * 7 + 5, none⟩ = some u) ∧ (∃ u, w.cell? ⟨g, k * 7 + 6, none⟩ = some u) := by
  have hl := h.1
  have H : ∀ j, j < n * 7 → ∃ u, w.cell? ⟨g, j, none⟩ = some u := fun j hj => ⟨xs[j]'(by omega), (h.cellAt j (by omega)).trans (List.getElem?_eq_getElem (by omega))⟩
  exact ⟨H _ (by omega), H _ (by omega), H _ (by omega), H _ (by omega), H _ (by omega), H _ (by omega), H _ (by omega)⟩
def set7 (xs : List Value) (o : Nat) (v0 v1 v2 v3 v4 v5 v6 : Value) : List Value := ((((((xs.set o v0).set (o + 1) v1).set (o + 2) v2).set (o + 3) v3).set (o + 4) v4).set (o + 5) v5).set (o + 6) v6
theorem set7_ne {xs : List Value} {o i : Nat} {v0 v1 v2 v3 v4 v5 v6 : Value} (h : i < o) : (set7 xs o v0 v1 v2 v3 v4 v5 v6)[i]? = xs[i]? := by
  unfold set7
  rw [List.getElem?_set_ne (by omega), List.getElem?_set_ne (by omega), List.getElem?_set_ne (by omega), List.getElem?_set_ne (by omega), List.getElem?_set_ne (by omega), List.getElem?_set_ne (by omega), List.getElem?_set_ne (by omega)]
theorem set7_at {xs : List Value} {o : Nat} {v0 v1 v2 v3 v4 v5 v6 : Value} (h : o + 6 < xs.length) : (set7 xs o v0 v1 v2 v3 v4 v5 v6)[o]? = some v0 ∧ (set7 xs o v0 v1 v2 v3 v4 v5 v6)[o + 1]? = some v1 ∧ (set7 xs o v0 v1 v2 v3 v4 v5 v6)[o + 2]? = some v2 ∧ (set7 xs o v0 v1 v2 v3 v4 v5 v6)[o + 3]? = some v3 ∧
    (set7 xs o v0 v1 v2 v3 v4 v5 v6)[o + 4]? = some v4 ∧ (set7 xs o v0 v1 v2 v3 v4 v5 v6)[o + 5]? = some v5 ∧ (set7 xs o v0 v1 v2 v3 v4 v5 v6)[o + 6]? = some v6 := by
  unfold set7
  refine ⟨?_, ?_, ?_, ?_, ?_, ?_, ?_⟩ <;>
    (repeat rw [List.getElem?_set_ne (by omega)]) <;> rw [List.getElem?_set_self (by first | omega | (simp only [List.length_set]; omega))]
theorem stored7 {w : World} {g n : Nat} {T : TypeId} {xs : List Value} (h : w.ownsRow g T 7 (.slice (some ⟨g, 0, none⟩) n n) n xs) (o : Nat) (v0 v1 v2 v3 v4 v5 v6 : Value) :
    (((((((w.setCell ⟨g, o, none⟩ v0).setCell ⟨g, o + 1, none⟩ v1).setCell ⟨g, o + 2, none⟩ v2).setCell ⟨g, o + 3, none⟩ v3).setCell ⟨g, o + 4, none⟩ v4).setCell ⟨g, o + 5, none⟩ v5).setCell ⟨g, o + 6, none⟩ v6).ownsRow g T 7 (.slice (some ⟨g, 0, none⟩) n n) n (set7 xs o v0 v1 v2 v3 v4 v5 v6) :=
  ((((((((h.stored o v0).1.stored (o + 1) v1).1.stored (o + 2) v2).1.stored (o + 3) v3).1.stored (o + 4) v4).1.stored (o + 5) v5).1.stored (o + 6) v6)).1
theorem info_tri : (Tryd.prog.info? 43).map (fun i => (i.zero, i.size, i.bytes)) = some (some (.agg #[.int .i64 0, .slice none 0 0, .int .i64 0, .slice none 0 0, .int .i64 0, .slice none 0 0, .int .i64 0]), 7, 104) := by kernel_rfl
end Go.Proofs.YtgpmngcemnnpmaaDoor

namespace Go.Proofs.YtgpmngcemnnpmaaDoor
open Go.RowKit Go.Sort
set_option maxRecDepth 100000 in
set_option maxHeartbeats 1600000 in
theorem l20One_any (p : Addr) (t : Tri) (A : Option Addr) (m c : Nat) (fs : List Flt) (w : World) (hT : TriM w p t) (hpl : p.block < w.heap.size) (hr : RL FltM 2 w A m fs) (ht : TOK t) (hg : GoodF t.a.digits.length fs) (hm : m ≤ 1000000) :
    Calls Tryd.prog 79 #[.pointer (some p), .slice A m c] w fun e w' => e = .returned (.bool (expl t fs)) ∧ Below w.heap.size w w' := by
  obtain ⟨t1, t2, t3, t4, t5, t6, -, -, s3⟩ := ht
  have x6 := hT.2.2.2
  have hb0 : Below w.heap.size w (w.alloc (.cells #[.int .i64 0, .slice none 0 0] 41)) := (Below.refl _ _).alloc (Nat.le_refl _) _
  have KA := Lib.hid (fun (W : World) (hW : Below w.heap.size w W) => l08Add_any p ⟨p.block, p.off + 2, none⟩ t.a t.b A m c fs W (steady_TriM _ _ _ _ hpl hW hT).1 (steady_TriM _ _ _ _ hpl hW hT).2.1 (Nat.lt_of_lt_of_le hpl hW.size) (Nat.lt_of_lt_of_le hpl hW.size) (hr.below steady_FltM hW) t1 t2 t3 t4 t5 t6 hg (by omega))
  clear t1
  go_enter Tryd.func79, Tryd.ntmps79
  go_wp2_with fail
  go_region_with (go_at_call 104; refine (KA.out _ (by first | exact hb0.drew | exact (Below.refl _ _).drew)).mono ?_; rintro e w1 ⟨X, x, rfl, ox, hw1⟩; obtain ⟨hc, hf⟩ := bcell hw1)
  all_goals
    have hl : (sumReg t fs).digits.length = t.a.digits.length := sumL_len _ _ _ _ _
    have hsm : SmallReg (sumReg t fs) := by unfold SmallReg; omega
    have HF := Lib.hid (show expl t fs = (sameR (sumReg t fs) t.s && (carryAt t.a.base t.a.digits t.b.digits fs t.a.digits.length == t.carry)) from rfl)
    obtain ⟨cy, hcy⟩ : ∃ cy, cy = carryAt t.a.base t.a.digits t.b.digits fs t.a.digits.length := ⟨_, rfl⟩
    rw [← hcy] at HF
    rw [← hcy]
    clear hcy
    first
      | (have hb1 : Below w.heap.size w w1 := ((Below.refl w.heap.size w).drew).trans (hw1.mono (by simp))
         have hbA : Below w.heap.size w (w1.alloc (.cells #[.int .i64 t.a.base, .slice X t.a.digits.length x] 41)) := hb1.alloc hb1.size _
         have e0 : (w1.alloc (.cells #[.int .i64 t.a.base, .slice X t.a.digits.length x] 41)).cell? ⟨w1.heap.size, 0, none⟩ = some (.int .i64 t.a.base) := by go_simp
         have e1 : (w1.alloc (.cells #[.int .i64 t.a.base, .slice X t.a.digits.length x] 41)).cell? ⟨w1.heap.size, 1, none⟩ = some (.slice X t.a.digits.length x) := by go_simp
         have rX : RI (w1.alloc (.cells #[.int .i64 t.a.base, .slice X t.a.digits.length x] 41)) X t.a.digits.length (sumReg t fs).digits := ox.ri.below ((Below.refl _ _).alloc (Nat.le_refl _) _)
         have hT2 := steady_TriM _ _ _ _ hpl hbA hT
         have K := Lib.hid (l02Same_any ⟨w1.heap.size, 0, none⟩ ⟨p.block, p.off + 4, none⟩ (sumReg t fs) t.s _ ⟨X, x, ⟨e0, by rw [hl]; exact e1⟩, by rw [hl]; exact rX⟩ hT2.2.2.1 hsm s3)
         have y6 := hT2.2.2.2
         clear e0 e1 rX hT2 hc hf hl
         rcases k : sameR (sumReg t fs) t.s with _ | _
         all_goals
           have K1 := Lib.hid k; clear k
           go_wp2_with (go_at_call 105; refine (calls_val K.out (congrArg Value.bool K1.out)).mono ?_; rintro e w2 ⟨rfl, q, rfl⟩)
           go_ret
           exact ⟨ret_bool (by rw [HF.out, K1.out]; rfl), below_drewN hbA _⟩)
      | (have hbB : Below w.heap.size w w1 := hb0.drew.trans (hw1.mono (by simp))
         have e0 : (((w1.setCell ⟨w.heap.size, 0, none⟩ (.int .i64 t.a.base)).setCell ⟨w.heap.size, 1, none⟩ (.slice X t.a.digits.length x))).cell? ⟨w.heap.size, 0, none⟩ = some (.int .i64 t.a.base) := by go_simp
         have e1 : (((w1.setCell ⟨w.heap.size, 0, none⟩ (.int .i64 t.a.base)).setCell ⟨w.heap.size, 1, none⟩ (.slice X t.a.digits.length x))).cell? ⟨w.heap.size, 1, none⟩ = some (.slice X t.a.digits.length x) := by go_simp
         have hbA : Below w.heap.size w ((w1.setCell ⟨w.heap.size, 0, none⟩ (.int .i64 t.a.base)).setCell ⟨w.heap.size, 1, none⟩ (.slice X t.a.digits.length x)) := (hbB.setCell (by simp) _).setCell (by simp) _
         have rX : RI ((w1.setCell ⟨w.heap.size, 0, none⟩ (.int .i64 t.a.base)).setCell ⟨w.heap.size, 1, none⟩ (.slice X t.a.digits.length x)) X t.a.digits.length (sumReg t fs).digits := ((ox.setBelow (a := ⟨w.heap.size, 0, none⟩) (by simp) _).setBelow (a := ⟨w.heap.size, 1, none⟩) (by simp) _).ri
         have hT2 := steady_TriM _ _ _ _ hpl hbA hT
         have K := Lib.hid (l02Same_any ⟨w.heap.size, 0, none⟩ ⟨p.block, p.off + 4, none⟩ (sumReg t fs) t.s _ ⟨X, x, ⟨e0, by rw [hl]; exact e1⟩, by rw [hl]; exact rX⟩ hT2.2.2.1 hsm s3)
         have y6 := hT2.2.2.2
         clear e0 e1 rX hT2 hc hf hl
         rcases k : sameR (sumReg t fs) t.s with _ | _
         all_goals
           have K1 := Lib.hid k; clear k
           go_wp2_with (go_at_call 105; refine (calls_val K.out (congrArg Value.bool K1.out)).mono ?_; rintro e w2 ⟨rfl, q, rfl⟩)
           go_ret
           exact ⟨ret_bool (by rw [HF.out, K1.out]; rfl), below_drewN hbA _⟩)
end Go.Proofs.YtgpmngcemnnpmaaDoor

namespace Go.Proofs.YtgpmngcemnnpmaaDoor
open Go.RowKit Go.Sort
set_option maxHeartbeats 800000 in
theorem l20All_any (A : Option Addr) (n c : Nat) (ts : List Tri) (F : Option Addr) (m d : Nat) (fs : List Flt) (n0 : Nat) (w : World) (hr : RL TriM 7 w A n ts) (ht : ∀ t ∈ ts, TOK t ∧ t.a.digits.length = n0) (hf : RL FltM 2 w F m fs)
    (hg : GoodF n0 fs) (hn : n ≤ 1000000) (hm : m ≤ 1000000) :
    Calls Tryd.prog 44 #[.slice A n c, .slice F m d] w fun e w' => e = .returned (.bool (vexpl ts fs)) ∧ Below w.heap.size w w' := by
  have HL := Lib.hid hr.1
  have HT := Lib.hid ht; clear ht
  go_enter Tryd.func44, Tryd.ntmps44
  go_wp2
  go_loopw [5] (fun i wr => ∃ k : Nat, k ≤ n ∧ i = .int .i64 k ∧ (ts.take k).all (fun t => expl t fs) = true ∧ Below w.heap.size w wr) (fun i _ => n - (intOf i).toNat)
  case atStart => exact ⟨0, Nat.zero_le _, rfl, by simp, Below.refl _ _⟩
  case round =>
    obtain ⟨k, hk, rfl, hall, hbr⟩ := hrel
    have HD := Lib.hid hall; clear hall
    by_cases hkn : k < n
    · obtain ⟨ad, hA, hlt, hkl, htk⟩ := (hr.below steady_TriM hbr).at_ hkn
      obtain ⟨tok, tn⟩ := HT.out ts[k] (List.getElem_mem _)
      have hi0 : (0 : Int) ≤ (k : Int) := by omega
      have hi1 : (k : Int) < (n : Int) := by omega
      have KE := Lib.hid (l20One_any (ad.add (k * 7)) ts[k] F m d fs wr htk (by rw [block_of_add]; exact hlt) (hf.below steady_FltM hbr) tok (by rw [tn]; exact hg) hm)
      subst hA
      clear tok tn htk
      rcases hv : expl ts[k] fs with _ | _
      · have HF : Hid (vexpl ts fs = false) := by simp only [Hid, vexpl]; exact all_not hkl hv
        have HV := Lib.hid hv; clear hv
        go_wp2_with (go_at_call 79; refine (calls_val KE.out (congrArg Value.bool HV.out)).mono ?_; rintro e w1 ⟨rfl, hw1⟩)
        go_ret
        exact ⟨ret_bool HF.out.symm, hbr.trans (hw1.mono hbr.size)⟩
      · have HV := Lib.hid hv; clear hv
        go_wp2_with (go_at_call 79; refine (calls_val KE.out (congrArg Value.bool HV.out)).mono ?_; rintro e w1 ⟨rfl, hw1⟩)
        go_roundw
        case rel => exact ⟨k + 1, by omega, by go_num, by rw [all_take_succ hkl, HD.out, HV.out]; rfl, hbr.trans (hw1.mono hbr.size)⟩
        case measure => simp [intOf]; omega
    · have HK : Hid (vexpl ts fs = true) := by have h1 := HD.out; rwa [List.take_of_length_le (by have := HL.out; omega)] at h1
      go_wp2
      go_ret
      exact ⟨ret_bool HK.out.symm, hbr⟩
/-- the first lever behind a list of faults -/
def nextL (l : List Flt) : Nat := match l.getLast? with
  | none => 0
  | some f => f.lever.toNat + 1
def grown3 (l : List Flt) (k : Nat) : List (List Flt) := [l ++ [⟨1, k⟩], l ++ [⟨2, k⟩], l ++ [⟨3, k⟩]]
def grownL (n : Nat) (l : List Flt) : List (List Flt) := (List.range' (nextL l) (n - nextL l)).flatMap (grown3 l)
def fsets (n : Nat) : Nat → List (List Flt)
  | 0 => [[]]
  | m + 1 => (fsets n m).flatMap (grownL n)
/-- lists of faults of a width, rising -/
def FOK (n : Nat) (fs : List Flt) : Prop := GoodF n fs ∧ Asc fs ∧ fs.length ≤ 2
end Go.Proofs.YtgpmngcemnnpmaaDoor

namespace Go.Proofs.YtgpmngcemnnpmaaDoor
open Go.RowKit Go.Sort
theorem tpF : TP 25 38 (.agg #[.int .i64 0, .int .i64 0]) 2 16 := ⟨Tryd.underlying25, by kernel_rfl, rfl, by decide⟩
def fcells (fs : List Flt) : List Value := fs.flatMap (fun f => [Value.int .i64 f.kind, .int .i64 f.lever])
theorem fcells_len (fs : List Flt) : (fcells fs).length = fs.length * 2 := by
  induction fs with
  | nil => rfl
  | cons f fs ih => simp only [fcells, List.flatMap_cons, List.length_append, List.length_cons, List.length_nil] at ih ⊢; omega
theorem fcells_app (fs gs : List Flt) : fcells (fs ++ gs) = fcells fs ++ fcells gs := by simp [fcells]
theorem fcells_one (fs : List Flt) : ∀ u ∈ fcells fs, u.oneCell' = true := by
  intro u hu
  simp only [fcells, List.mem_flatMap, List.mem_cons, List.not_mem_nil, or_false] at hu
  obtain ⟨f, -, rfl | rfl⟩ := hu <;> rfl
theorem fcells_get (fs : List Flt) (k : Nat) (h : k < fs.length) : (fcells fs)[k * 2]? = some (.int .i64 fs[k].kind) ∧ (fcells fs)[k * 2 + 1]? = some (.int .i64 fs[k].lever) := by
  induction fs generalizing k with
  | nil => simp at h
  | cons f fs ih =>
    cases k with
    | zero => exact ⟨rfl, rfl⟩
    | succ k =>
      have h' : k < fs.length := by simpa using h
      obtain ⟨h1, h2⟩ := ih k h'
      refine ⟨?_, ?_⟩
      · rw [show (k + 1) * 2 = k * 2 + 1 + 1 by omega]; exact h1
      · rw [show (k + 1) * 2 + 1 = k * 2 + 1 + 1 + 1 by omega]; exact h2
theorem row_kept {w w' : World} {base : Nat} {e : TypeId} {size : Nat} {v : Value} {n : Nat} {xs : List Value} (h : w.ownsRow base e size v n xs) (hb : ∀ g, v.ownBlock = some g → w'.heap[g]? = w.heap[g]?) : w'.ownsRow base e size v n xs := by
  refine ⟨h.1, ?_⟩
  rcases h.2 with hn | ⟨g, cap, cur, rfl, hbg, hg, rest⟩
  · exact .inl hn
  · exact .inr ⟨g, cap, cur, rfl, hbg, by rw [hb g rfl]; exact hg, rest⟩
theorem row_mono {w : World} {base b' : Nat} {e : TypeId} {size : Nat} {v : Value} {n : Nat} {xs : List Value} (h : w.ownsRow base e size v n xs) (hb : b' ≤ base) : w.ownsRow b' e size v n xs := by
  refine ⟨h.1, ?_⟩
  rcases h.2 with hn | ⟨g, cap, cur, rfl, hbg, hg, rest⟩
  · exact .inl hn
  · exact .inr ⟨g, cap, cur, rfl, by omega, hg, rest⟩
/-- a list of faults in an own row at block g, which is not the row's -/
def Inner (w : World) (base : Nat) (row : Option Nat) (u : Value) (fs : List Flt) : Prop := ∃ g c, u = .slice (some ⟨g, 0, none⟩) fs.length c ∧ base ≤ g ∧ g < w.heap.size ∧ some g ≠ row ∧ w.ownsRow base 38 2 u fs.length (fcells fs)
theorem Inner.rl {w : World} {base : Nat} {row : Option Nat} {u : Value} {fs : List Flt} (h : Inner w base row u fs) : ∃ g c, u = .slice (some ⟨g, 0, none⟩) fs.length c ∧ RL FltM 2 w (some ⟨g, 0, none⟩) fs.length fs := by
  obtain ⟨g, c, rfl, h0, h1, h2, h3⟩ := h
  refine ⟨g, c, rfl, rfl, fun hn => ⟨_, rfl, h1, fun k hk => ?_⟩⟩
  obtain ⟨e1, e2⟩ := fcells_get fs k hk
  have f1 := h3.cells (g := g) rfl _ _ e1
  have f2 := h3.cells (g := g) rfl _ _ e2
  rw [add_zero_block] at f1 f2 ⊢
  exact ⟨f1, f2⟩
theorem Inner.kept {w w' : World} {base : Nat} {row row' : Option Nat} {u : Value} {fs : List Flt} (h : Inner w base row u fs) (hs : w.heap.size ≤ w'.heap.size) (hb : ∀ g, base ≤ g → g < w.heap.size → some g ≠ row → w'.heap[g]? = w.heap[g]? ∧ some g ≠ row') : Inner w' base row' u fs := by
  obtain ⟨g, c, rfl, h0, h1, h2, h3⟩ := h
  obtain ⟨b1, b2⟩ := hb g h0 h1 h2
  exact ⟨g, c, rfl, h0, Nat.lt_of_lt_of_le h1 hs, b2, row_kept h3 (fun k hk => by simp only [Value.ownBlock, Option.some.injEq] at hk; rw [← hk]; exact b1)⟩
/-- lists of faults in an own row of own rows -/
def Sets (w : World) (base : Nat) (v : Value) (L : List (List Flt)) : Prop := ∃ us : List Value, w.ownsRow base 25 1 v L.length us ∧ us.length = L.length ∧ ∀ (i : Nat) (h : i < L.length) (h' : i < us.length), Inner w base v.ownBlock us[i] L[i]
theorem Sets.below {w w' : World} {base : Nat} {v : Value} {L : List (List Flt)} (h : Sets w base v L) (hb : Below w.heap.size w w') : Sets w' base v L := by
  obtain ⟨us, h1, h2, h3⟩ := h
  refine ⟨us, ⟨h1.1, ?_⟩, h2, fun i hi hi' => (h3 i hi hi').kept hb.size (fun g _ hg hne => ⟨hb.block g hg, hne⟩)⟩
  rcases h1.2 with hn | ⟨g, cap, cur, rfl, hbg, hg, rest⟩
  · exact .inl hn
  · exact .inr ⟨g, cap, cur, rfl, hbg, by rw [hb.block g (Array.getElem?_eq_some_iff.1 hg).1]; exact hg, rest⟩
theorem own_lt {w : World} {base : Nat} {e : TypeId} {size : Nat} {v : Value} {n : Nat} {xs : List Value} (h : w.ownsRow base e size v n xs) : ∀ k, v.ownBlock = some k → base ≤ k ∧ k < w.heap.size := by
  intro k hk
  rcases h.2 with ⟨rfl, _⟩ | ⟨g, cap, cur, rfl, hbg, hg, _⟩
  · simp [Value.ownBlock] at hk
  · have : g = k := by simpa [Value.ownBlock] using hk
    subst this
    exact ⟨hbg, (Array.getElem?_eq_some_iff.1 hg).1⟩
theorem Sets.above {w w' : World} {base : Nat} {v : Value} {L : List (List Flt)} (h : Sets w base v L) (hs : w.heap.size ≤ w'.heap.size) (hb : ∀ g, base ≤ g → g < w.heap.size → w'.heap[g]? = w.heap[g]?) : Sets w' base v L := by
  obtain ⟨us, h1, h2, h3⟩ := h
  refine ⟨us, ⟨h1.1, ?_⟩, h2, fun i hi hi' => (h3 i hi hi').kept hs (fun g hb0 hg hne => ⟨hb g hb0 hg, hne⟩)⟩
  rcases h1.2 with hn | ⟨g, cap, cur, rfl, hbg, hg, rest⟩
  · exact .inl hn
  · exact .inr ⟨g, cap, cur, rfl, hbg, by rw [hb g hbg (Array.getElem?_eq_some_iff.1 hg).1]; exact hg, rest⟩
/-- one list more -/
theorem sets_push {wr w5 w6 : World} {B : Nat} {v v' : Value} {L : List (List Flt)} {us : List Value} {fs : List Flt} {g2 c2 : Nat} (hS : wr.ownsRow B 25 1 v L.length us) (hl : us.length = L.length)
    (hI : ∀ (i : Nat) (h : i < L.length) (h' : i < us.length), Inner wr B v.ownBlock us[i] L[i]) (hb : Below wr.heap.size wr w5) (hBz : B ≤ wr.heap.size) (hg1 : wr.heap.size ≤ g2) (hg2 : g2 < w5.heap.size)
    (hc : w5.ownsRow B 38 2 (.slice (some ⟨g2, 0, none⟩) fs.length c2) fs.length (fcells fs)) (ho : w6.ownsRow B 25 1 v' (L.length + 1) (us ++ [.slice (some ⟨g2, 0, none⟩) fs.length c2])) (hg : w5.grownBy w6 v.ownBlock)
    (hv : v'.ownBlock = v.ownBlock ∨ v'.ownBlock = some w5.heap.size) : Sets w6 B v' (L ++ [fs]) := by
  refine ⟨_, by simpa using ho, by simp [hl], fun i h h' => ?_⟩
  have hne2 : some g2 ≠ v.ownBlock := fun e => by have := (own_lt hS g2 e.symm).2; omega
  by_cases hi : i < L.length
  · rw [List.getElem_append_left (by omega), List.getElem_append_left hi]
    refine (hI i hi (by omega)).kept (Nat.le_trans hb.size hg.size) fun g _ hgl hne => ⟨?_, ?_⟩
    · rw [hg.block g (Nat.lt_of_lt_of_le hgl hb.size) hne, hb.block g hgl]
    · rcases hv with e | e
      · rw [e]; exact hne
      · rw [e]; intro e'; injection e' with e'; have := hb.size; omega
  · have : i = L.length := by simp at h; omega
    subst this
    rw [List.getElem_append_right (by omega), List.getElem_append_right (by omega)]
    simp only [hl, Nat.sub_self, List.getElem_cons_zero]
    refine ⟨g2, c2, rfl, by omega, Nat.lt_of_lt_of_le hg2 hg.size, ?_, row_kept hc (fun k hk => ?_)⟩
    · rcases hv with e | e
      · rw [e]; exact hne2
      · rw [e]; intro e'; injection e' with e'; omega
    · simp only [Value.ownBlock, Option.some.injEq] at hk
      rw [← hk]; exact hg.block g2 hg2 hne2
theorem mem_grownL {n : Nat} {l l' : List Flt} (h : l' ∈ grownL n l) : ∃ (q : Int) (k : Nat), l' = l ++ [⟨q, k⟩] ∧ 1 ≤ q ∧ q ≤ 3 ∧ nextL l ≤ k ∧ k < n := by
  simp only [grownL, List.mem_flatMap, List.mem_range'_1, grown3, List.mem_cons, List.not_mem_nil, or_false] at h
  obtain ⟨k, ⟨h1, h2⟩, h3⟩ := h
  rcases h3 with rfl | rfl | rfl
  · exact ⟨1, k, rfl, by omega, by omega, h1, by omega⟩
  · exact ⟨2, k, rfl, by omega, by omega, h1, by omega⟩
  · exact ⟨3, k, rfl, by omega, by omega, h1, by omega⟩
theorem nextL_last {l : List Flt} (h : 0 < l.length) : nextL l = (l[l.length - 1]'(by omega)).lever.toNat + 1 := by
  unfold nextL
  rw [List.getLast?_eq_getElem?, List.getElem?_eq_getElem (by omega)]
theorem fsets_ok (n : Nat) : ∀ (m : Nat) (l : List Flt), l ∈ fsets n m → GoodF n l ∧ Asc l ∧ l.length = m := by
  intro m
  induction m with
  | zero =>
    intro l h
    simp only [fsets, List.mem_cons, List.not_mem_nil, or_false] at h
    subst h
    exact ⟨fun f hf => (by cases hf), fun k hk => (by simp at hk), rfl⟩
  | succ m ih =>
    intro l' h
    simp only [fsets, List.mem_flatMap] at h
    obtain ⟨l, hl, hl'⟩ := h
    obtain ⟨g1, g2, g3⟩ := ih l hl
    obtain ⟨q, k, rfl, q1, q2, q3, q4⟩ := mem_grownL hl'
    refine ⟨fun f hf => ?_, fun i hi => ?_, by simp [g3]⟩
    · rcases List.mem_append.1 hf with h1 | h1
      · exact g1 f h1
      · simp only [List.mem_cons, List.not_mem_nil, or_false] at h1
        subst h1
        exact ⟨q1, q2, by simp, by simp; omega⟩
    · simp only [List.length_append, List.length_cons, List.length_nil] at hi
      by_cases hlast : i + 1 < l.length
      · rw [List.getElem_append_left (by omega), List.getElem_append_left hlast]; exact g2 i hlast
      · have hi' : i = l.length - 1 := by omega
        subst hi'
        have hpos : 0 < l.length := by omega
        rw [List.getElem_append_left (by omega), List.getElem_append_right (by omega)]
        have h0 := (g1 (l[l.length - 1]'(by omega)) (List.getElem_mem _)).2.2.1
        rw [nextL_last hpos] at q3
        simp only [show l.length - 1 + 1 - l.length = 0 by omega, List.getElem_cons_zero]
        omega
theorem grownL_len (n : Nat) (l : List Flt) : (grownL n l).length ≤ 3 * n := by
  unfold grownL
  have : ∀ (ks : List Nat), (ks.flatMap (grown3 l)).length = 3 * ks.length := by
    intro ks
    induction ks with
    | nil => rfl
    | cons k ks ih => simp only [List.flatMap_cons, List.length_append, ih, grown3, List.length_cons, List.length_nil]; omega
  rw [this, List.length_range']; omega
theorem flat_len (n : Nat) (S : List (List Flt)) : (S.flatMap (grownL n)).length ≤ 3 * n * S.length := by
  induction S with
  | nil => simp
  | cons l S ih =>
    have := grownL_len n l
    simp only [List.flatMap_cons, List.length_append, List.length_cons, Nat.mul_succ]; omega
theorem fsets_len (n m : Nat) : (fsets n (m + 1)).length ≤ 3 * n * (fsets n m).length := flat_len n _
end Go.Proofs.YtgpmngcemnnpmaaDoor

namespace Go.Proofs.YtgpmngcemnnpmaaDoor
open Go.RowKit Go.Sort
theorem Sets.reads {w : World} {base : Nat} {v : Value} {L : List (List Flt)} (h : Sets w base v L) : ∃ A c, v = .slice A L.length c ∧ (∀ i (hi : i < L.length), ∃ ad, A = some ad ∧ ad.block < w.heap.size ∧ ∃ g c', w.cell? (ad.add i) = some (.slice (some ⟨g, 0, none⟩) L[i].length c') ∧ RL FltM 2 w (some ⟨g, 0, none⟩) L[i].length L[i]) := by
  obtain ⟨us, h1, h2, h3⟩ := h
  rcases h1.2 with ⟨rfl, hn⟩ | ⟨g, cap, cur, rfl, hb, hg, hnc, _, hcs, htake⟩
  · exact ⟨none, 0, by rw [hn], fun i hi => by omega⟩
  · refine ⟨_, cap, rfl, fun i hi => ⟨_, rfl, (Array.getElem?_eq_some_iff.1 hg).1, ?_⟩⟩
    obtain ⟨g', c', e, hr⟩ := (h3 i hi (by omega)).rl
    exact ⟨g', c', by rw [← e]; exact h1.cells (g := g) rfl i us[i] (by simp [List.getElem?_eq_getElem (show i < us.length by omega)]), hr⟩
theorem Sets.mono {w : World} {b b' : Nat} {v : Value} {L : List (List Flt)} (h : Sets w b v L) (hb : b' ≤ b) : Sets w b' v L := by
  obtain ⟨us, h1, h2, h3⟩ := h
  refine ⟨us, ⟨h1.1, ?_⟩, h2, fun i hi hi' => by obtain ⟨g, c, e, h4⟩ := h3 i hi hi'; exact ⟨g, c, e, Nat.le_trans hb h4.1, h4.2.1, h4.2.2.1, row_mono h4.2.2.2 hb⟩⟩
  rcases h1.2 with hn | ⟨g, cap, cur, rfl, hbg, hg, rest⟩
  · exact .inl hn
  · exact .inr ⟨g, cap, cur, rfl, by omega, hg, rest⟩
theorem own_lit {w : World} {base g n size : Nat} {e : TypeId} {cs : Array Value} (hg : w.heap[g]? = some (.cells cs e (0, 0))) (hb : base ≤ g) (hs : cs.size = n * size) (hn : n ≤ maxLen) : w.ownsRow base e size (.slice (some ⟨g, 0, none⟩) n n) n cs.toList :=
  ⟨by rw [Array.length_toList]; exact hs, .inr ⟨g, n, cs, rfl, hb, hg, Nat.le_refl _, hn, hs, by rw [← hs, ← Array.length_toList]; exact List.take_length⟩⟩
theorem sets_zero (w : World) : Sets ((w.alloc (.cells #[] 38)).alloc (.cells #[.slice (some ⟨w.heap.size, 0, none⟩) 0 0] 25)) w.heap.size (.slice (some ⟨w.heap.size + 1, 0, none⟩) 1 1) [[]] := by
  have hg : ((w.alloc (.cells #[] 38)).alloc (.cells #[.slice (some ⟨w.heap.size, 0, none⟩) 0 0] 25)).heap[w.heap.size + 1]? = some (.cells #[.slice (some ⟨w.heap.size, 0, none⟩) 0 0] 25 (0, 0)) := by
    rw [show w.heap.size + 1 = (w.alloc (.cells #[] 38)).heap.size by simp]; exact heap_alloc_new _ _
  refine ⟨[.slice (some ⟨w.heap.size, 0, none⟩) 0 0], own_lit hg (by omega) rfl (by decide), rfl, fun i h h' => ?_⟩
  obtain rfl : i = 0 := by simp at h; omega
  refine ⟨w.heap.size, 0, rfl, Nat.le_refl _, by simp; omega, by simp [Value.ownBlock], ?_⟩
  exact own_lit (n := 0) (cs := #[]) ((((Below.refl (w.alloc (.cells #[] 38)).heap.size (w.alloc (.cells #[] 38))).alloc (Nat.le_refl _) _).block w.heap.size (by simp)).trans (heap_alloc_new _ _)) (Nat.le_refl _) rfl (by decide)
theorem sets_nil {w : World} {g base : Nat} (hg : w.heap[g]? = some (.cells #[] 25 (0, 0))) (hb : base ≤ g) : Sets w base (.slice (some ⟨g, 0, none⟩) 0 0) [] :=
  ⟨[], own_lit hg hb rfl (by decide), rfl, fun i h => by simp at h⟩
theorem rl_fcells {w : World} {g : Nat} {fs : List Flt} (h : RL FltM 2 w (some ⟨g, 0, none⟩) fs.length fs) : ∀ j x, (fcells fs)[j]? = some x → w.cell? ((⟨g, 0, none⟩ : Addr).add j) = some x := by
  intro j x hx
  have hj : j < fs.length * 2 := by rw [← fcells_len]; exact (List.getElem?_eq_some_iff.1 hx).1
  obtain ⟨ad, e, _, hk, h1, h2⟩ := h.at_ (show j / 2 < fs.length by omega)
  injection e with e; subst e
  obtain ⟨g1, g2⟩ := fcells_get fs (j / 2) hk
  rw [add_zero_block] at h1 h2 ⊢
  rcases Nat.mod_two_eq_zero_or_one j with hm | hm
  · rw [show j / 2 * 2 = j by omega] at g1 h1
    rw [h1, ← hx, g1]
  · rw [show j / 2 * 2 + 1 = j by omega] at g2
    rw [g2] at hx
    have h3 : w.cell? ⟨g, j / 2 * 2 + 1, none⟩ = some (.int .i64 fs[j / 2].lever) := h2
    rw [show j / 2 * 2 + 1 = j by omega] at h3
    rw [h3, hx]
theorem ownsRow_below {w w' : World} {base : Nat} {e : TypeId} {size : Nat} {v : Value} {n : Nat} {xs : List Value} (h : w.ownsRow base e size v n xs) (hb : Below w.heap.size w w') : w'.ownsRow base e size v n xs := by
  refine ⟨h.1, ?_⟩
  rcases h.2 with hn | ⟨g, cap, cur, rfl, hbg, hg, rest⟩
  · exact .inl hn
  · exact .inr ⟨g, cap, cur, rfl, hbg, by rw [hb.block g (Array.getElem?_eq_some_iff.1 hg).1]; exact hg, rest⟩
theorem grown3_take {l : List Flt} {L r : Nat} (h : r < 3) : (grown3 l L).take (r + 1) = (grown3 l L).take r ++ [l ++ [⟨(r : Int) + 1, L⟩]] := by
  match r, h with
  | 0, _ => rfl
  | 1, _ => rfl
  | 2, _ => rfl
theorem flat3_len (l : List Flt) (ks : List Nat) : (ks.flatMap (grown3 l)).length = 3 * ks.length := by
  induction ks with
  | nil => rfl
  | cons k ks ih => simp only [List.flatMap_cons, List.length_append, ih, grown3, List.length_cons, List.length_nil]; omega
theorem fsets_small {n k : Nat} (hn : n ≤ 6) (hk : k ≤ 1) : (fsets n k).length ≤ 18 := by
  match k, hk with
  | 0, _ => simp [fsets]
  | 1, _ => have := fsets_len n 0; simp only [fsets, List.length_cons, List.length_nil] at this ⊢; omega
end Go.Proofs.YtgpmngcemnnpmaaDoor

namespace Go.Proofs.YtgpmngcemnnpmaaDoor
open Go.RowKit Go.Sort
theorem tpT : TP 27 43 (.agg #[.int .i64 0, .slice none 0 0, .int .i64 0, .slice none 0 0, .int .i64 0, .slice none 0 0, .int .i64 0]) 7 104 := ⟨Tryd.underlying27, by kernel_rfl, rfl, by decide⟩
/-- digits in an own row that is not the row of the trials -/
def OwnD (w : World) (base : Nat) (row : Option Nat) (v : Value) (ds : List Int) : Prop := OwnI w base v ds ∧ ∀ k, v.ownBlock = some k → some k ≠ row ∧ k < w.heap.size
theorem OwnD.kept {w w' : World} {base : Nat} {row row' : Option Nat} {v : Value} {ds : List Int} (h : OwnD w base row v ds) (hs : w.heap.size ≤ w'.heap.size) (hb : ∀ g, base ≤ g → g < w.heap.size → some g ≠ row → w'.heap[g]? = w.heap[g]? ∧ some g ≠ row') : OwnD w' base row' v ds := by
  have hlo := ownI_lo h.1
  refine ⟨row_kept h.1 (fun g hg => ?_), fun k hk => ?_⟩
  · obtain ⟨h1, h2⟩ := h.2 g hg
    exact (hb g (hlo g hg) h2 h1).1
  · obtain ⟨h1, h2⟩ := h.2 k hk
    exact ⟨(hb k (hlo k hk) h2 h1).2, Nat.lt_of_lt_of_le h2 hs⟩
/-- trial i in the cells xs of a row -/
def TriP (w : World) (base : Nat) (row : Option Nat) (xs : List Value) (i : Nat) (t : Tri) : Prop := ∃ X1 x1 X2 x2 X3 x3, (xs[i * 7]? = some (.int .i64 t.a.base) ∧ xs[i * 7 + 1]? = some (.slice X1 t.a.digits.length x1) ∧ xs[i * 7 + 2]? = some (.int .i64 t.b.base) ∧ xs[i * 7 + 3]? = some (.slice X2 t.b.digits.length x2) ∧
    xs[i * 7 + 4]? = some (.int .i64 t.s.base) ∧ xs[i * 7 + 5]? = some (.slice X3 t.s.digits.length x3) ∧ xs[i * 7 + 6]? = some (.int .i64 t.carry)) ∧ OwnD w base row (.slice X1 t.a.digits.length x1) t.a.digits ∧ OwnD w base row (.slice X2 t.b.digits.length x2) t.b.digits ∧ OwnD w base row (.slice X3 t.s.digits.length x3) t.s.digits
theorem TriP.kept {w w' : World} {base : Nat} {row row' : Option Nat} {xs : List Value} {i : Nat} {t : Tri} (h : TriP w base row xs i t) (hs : w.heap.size ≤ w'.heap.size) (hb : ∀ g, base ≤ g → g < w.heap.size → some g ≠ row → w'.heap[g]? = w.heap[g]? ∧ some g ≠ row') : TriP w' base row' xs i t := by
  obtain ⟨X1, x1, X2, x2, X3, x3, h1, h2, h3, h4⟩ := h
  exact ⟨X1, x1, X2, x2, X3, x3, h1, h2.kept hs hb, h3.kept hs hb, h4.kept hs hb⟩
theorem TriP.app {w : World} {base : Nat} {row : Option Nat} {xs : List Value} {i : Nat} {t : Tri} (h : TriP w base row xs i t) (ys : List Value) : TriP w base row (xs ++ ys) i t := by
  obtain ⟨X1, x1, X2, x2, X3, x3, ⟨e0, e1, e2, e3, e4, e5, e6⟩, h2, h3, h4⟩ := h
  have H : ∀ {j : Nat} {u : Value}, xs[j]? = some u → (xs ++ ys)[j]? = some u := fun {j u} hj => by rw [List.getElem?_append_left (List.getElem?_eq_some_iff.1 hj).1]; exact hj
  exact ⟨X1, x1, X2, x2, X3, x3, ⟨H e0, H e1, H e2, H e3, H e4, H e5, H e6⟩, h2, h3, h4⟩
/-- trials in an own row -/
def PL (w : World) (base : Nat) (v : Value) (ts : List Tri) : Prop := ∃ xs, w.ownsRow base 43 7 v ts.length xs ∧ ∀ (i : Nat) (h : i < ts.length), TriP w base v.ownBlock xs i ts[i]
theorem PL.kept {w w' : World} {base : Nat} {v : Value} {ts : List Tri} (h : PL w base v ts) (hs : w.heap.size ≤ w'.heap.size) (hb : ∀ g, base ≤ g → g < w.heap.size → w'.heap[g]? = w.heap[g]?) : PL w' base v ts := by
  obtain ⟨xs, h1, h2⟩ := h
  have hlt := own_lt h1
  exact ⟨xs, row_kept h1 (fun g hg => hb g (hlt g hg).1 (hlt g hg).2), fun i hi => (h2 i hi).kept hs (fun g h3 h4 h5 => ⟨hb g h3 h4, h5⟩)⟩
theorem PL.below {w w' : World} {base : Nat} {v : Value} {ts : List Tri} (h : PL w base v ts) (hb : Below w.heap.size w w') : PL w' base v ts := h.kept hb.size (fun g _ hg => hb.block g hg)
theorem PL.grown {w w' : World} {base b : Nat} {v : Value} {ts : List Tri} (h : PL w base v ts) (hg : w.grownBy w' (some b)) (hb : b < base) : PL w' base v ts := h.kept hg.size (fun g h1 h2 => hg.block g h2 (fun e => by injection e with e; omega))
/-- the cells of a trial -/
def tcells (t : Tri) (X1 : Option Addr) (x1 : Nat) (X2 : Option Addr) (x2 : Nat) (X3 : Option Addr) (x3 : Nat) : List Value := [.int .i64 t.a.base, .slice X1 t.a.digits.length x1, .int .i64 t.b.base, .slice X2 t.b.digits.length x2, .int .i64 t.s.base, .slice X3 t.s.digits.length x3, .int .i64 t.carry]
theorem pl_push {w5 w6 : World} {base : Nat} {v v' : Value} {ts : List Tri} {t : Tri} {xs : List Value} {X1 X2 X3 : Option Addr} {x1 x2 x3 : Nat} (hS : w5.ownsRow base 43 7 v ts.length xs)
    (hI : ∀ (i : Nat) (h : i < ts.length), TriP w5 base v.ownBlock xs i ts[i]) (d1 : OwnD w5 base v.ownBlock (.slice X1 t.a.digits.length x1) t.a.digits) (d2 : OwnD w5 base v.ownBlock (.slice X2 t.b.digits.length x2) t.b.digits) (d3 : OwnD w5 base v.ownBlock (.slice X3 t.s.digits.length x3) t.s.digits)
    (ho : w6.ownsRow base 43 7 v' (ts.length + 1) (xs ++ tcells t X1 x1 X2 x2 X3 x3)) (hg : w5.grownBy w6 v.ownBlock) (hv : v'.ownBlock = v.ownBlock ∨ v'.ownBlock = some w5.heap.size) : PL w6 base v' (ts ++ [t]) := by
  have hk : ∀ g, base ≤ g → g < w5.heap.size → some g ≠ v.ownBlock → w6.heap[g]? = w5.heap[g]? ∧ some g ≠ v'.ownBlock := fun g _ hgl hne => ⟨hg.block g hgl hne, by
    rcases hv with e | e
    · rw [e]; exact hne
    · rw [e]; intro e'; injection e' with e'; omega⟩
  have hxl := hS.1
  refine ⟨_, by rw [List.length_append]; exact ho, fun i hi => ?_⟩
  by_cases hlt : i < ts.length
  · rw [List.getElem_append_left hlt]
    exact ((hI i hlt).kept hg.size hk).app _
  · have he : i = ts.length := by rw [List.length_append, List.length_cons, List.length_nil] at hi; omega
    subst he
    rw [List.getElem_append_right (Nat.le_refl _)]
    simp only [Nat.sub_self, List.getElem_cons_zero]
    have H : ∀ (j : Nat) (u : Value), (tcells t X1 x1 X2 x2 X3 x3)[j]? = some u → (xs ++ tcells t X1 x1 X2 x2 X3 x3)[ts.length * 7 + j]? = some u := fun j u hj => by
      rw [List.getElem?_append_right (by omega), show ts.length * 7 + j - xs.length = j by omega]; exact hj
    exact ⟨X1, x1, X2, x2, X3, x3, ⟨H 0 _ rfl, H 1 _ rfl, H 2 _ rfl, H 3 _ rfl, H 4 _ rfl, H 5 _ rfl, H 6 _ rfl⟩, d1.kept hg.size hk, d2.kept hg.size hk, d3.kept hg.size hk⟩
theorem PL.nil {w : World} {g base : Nat} (hg : w.heap[g]? = some (.cells #[] 43 (0, 0))) (hb : base ≤ g) : PL w base (.slice (some ⟨g, 0, none⟩) 0 0) [] :=
  ⟨[], own_lit hg hb rfl (by decide), fun i h => by simp at h⟩
theorem PL.rl {w : World} {base : Nat} {v : Value} {ts : List Tri} (h : PL w base v ts) : ∃ A c, v = .slice A ts.length c ∧ RL TriM 7 w A ts.length ts := by
  obtain ⟨xs, h1, h2⟩ := h
  rcases h1.2 with ⟨rfl, hn⟩ | ⟨g, cap, cur, rfl, hb, hg, -⟩
  · exact ⟨none, 0, by rw [hn], rfl, fun h => by omega⟩
  · have hc := h1.cells (g := g) rfl
    refine ⟨_, cap, rfl, rfl, fun hn => ⟨_, rfl, (Array.getElem?_eq_some_iff.1 hg).1, fun k hk => ?_⟩⟩
    obtain ⟨X1, x1, X2, x2, X3, x3, ⟨e0, e1, e2, e3, e4, e5, e6⟩, o1, o2, o3⟩ := h2 k hk
    have f0 := hc _ _ e0
    have f1 := hc _ _ e1
    have f2 := hc _ _ e2
    have f3 := hc _ _ e3
    have f4 := hc _ _ e4
    have f5 := hc _ _ e5
    have f6 := hc _ _ e6
    rw [add_zero_block] at f0 f1 f2 f3 f4 f5 f6 ⊢
    exact ⟨⟨X1, x1, ⟨f0, f1⟩, ownI_ri o1.1⟩, ⟨X2, x2, ⟨f2, f3⟩, ownI_ri o2.1⟩, ⟨X3, x3, ⟨f4, f5⟩, ownI_ri o3.1⟩, f6⟩
/-- a pair of registers without a sum -/
def PairOK (base : Int) (width : Nat) (t : Tri) : Prop := t.a.base = base ∧ DigB base width t.a.digits ∧ t.b.base = base ∧ DigB base width t.b.digits ∧ t.s = ⟨0, []⟩ ∧ t.carry = 0
theorem ownD_of {w : World} {base b0 : Nat} {row : Option Nat} {v : Value} {ds : List Int} (h : OwnI w b0 v ds) (hb : base ≤ b0) (hr : ∀ k, row = some k → k < b0) : OwnD w base row v ds :=
  ⟨h.mono hb, fun k hk => ⟨fun e => by have h1 := ownI_lo h k hk; have h2 := hr k e.symm; omega, (own_lt h k hk).2⟩⟩
theorem OwnD.nil (w : World) (base : Nat) (row : Option Nat) : OwnD w base row (.slice none 0 0) [] := ⟨OwnI.nil _ _, fun k hk => by simp [Value.ownBlock] at hk⟩
end Go.Proofs.YtgpmngcemnnpmaaDoor

namespace Go.Proofs.YtgpmngcemnnpmaaDoor
open Go.RowKit Go.Sort
/-- a trial in memory -/
structure TE where
  t : Tri
  X1 : Option Addr
  x1 : Nat
  X2 : Option Addr
  x2 : Nat
  X3 : Option Addr
  x3 : Nat
def TE.cells (x : TE) : List Value := tcells x.t x.X1 x.x1 x.X2 x.x2 x.X3 x.x3
def cellsT (L : List TE) : List Value := L.flatMap TE.cells
def TE.rows (x : TE) : List Ent := [rowI x.X1 x.x1 x.t.a.digits, rowI x.X2 x.x2 x.t.b.digits, rowI x.X3 x.x3 x.t.s.digits]
def rowsT (L : List TE) : List Ent := L.flatMap TE.rows
theorem cellsT_app (L M : List TE) : cellsT (L ++ M) = cellsT L ++ cellsT M := by unfold cellsT; rw [List.flatMap_append]
theorem rowsT_app (L M : List TE) : rowsT (L ++ M) = rowsT L ++ rowsT M := by unfold rowsT; rw [List.flatMap_append]
/-- the digits that a function tells -/
def digF (f : Int → Int) (n : Nat) : List Int := (List.range n).map fun (k : Nat) => f (k : Int)
theorem digF_len (f : Int → Int) (n : Nat) : (digF f n).length = n := by simp [digF]
theorem digF_succ (f : Int → Int) (n : Nat) : digF f (n + 1) = digF f n ++ [f (n : Int)] := by unfold digF; rw [List.range_succ, List.map_append]; rfl
/-- a trial of a machine with faults -/
def mkT (b : Int) (n : Nat) (fs : List Flt) (fa fb : Int → Int) : Tri := ⟨⟨b, digF fa n⟩, ⟨b, digF fb n⟩, ⟨b, sumL b (digF fa n) (digF fb n) fs n⟩, carryAt b (digF fa n) (digF fb n) fs n⟩
set_option maxRecDepth 100000 in
set_option maxHeartbeats 6400000 in
theorem stdAdd_ok {w0 : World} {m : List Ent} (b : Int) (n : Nat) (FA : Option Addr) (fm fc : Nat) (fs : List Flt) (vt : Value) (L : List TE) (gt gb gw gf : Nat) (ma mb : Value) (fa fb : Int → Int) (w : World)
    (hK : Kn w0 (.row vt 43 7 L.length (cellsT L) :: bun (rowsT L) :: .blk gt [vt] 27 :: .blk gb [.int .i64 b] 2 :: .blk gw [.int .i64 (n : Int)] 2 :: .blk gf [.slice FA fm fc] 25 :: m) w) (hb : 2 ≤ b) (hb2 : b ≤ 16) (h1 : 1 ≤ n) (hn : n ≤ 16) (hf : RL FltM 2 w0 FA fm fs) (hg : GoodF n fs) (hm : fm ≤ 1000) (hL : L.length ≤ 1000)
    (la : ∀ W, Kn w0 m W → ∀ k : Nat, k ≤ 100 → (Instr.lookup 69 ma (.int .i64 (k : Int)) false).run Tryd.prog W = .ok (.int .i64 (fa k)) W)
    (lb : ∀ W, Kn w0 m W → ∀ k : Nat, k ≤ 100 → (Instr.lookup 69 mb (.int .i64 (k : Int)) false).run Tryd.prog W = .ok (.int .i64 (fb k)) W)
    (ha : ∀ k, 0 ≤ fa k ∧ fa k < b) (hbb : ∀ k, 0 ≤ fb k ∧ fb k < b) :
    Calls Tryd.prog 39 #[ma, mb, .pointer (some ⟨gb, 0, none⟩), .pointer (some ⟨gw, 0, none⟩), .pointer (some ⟨gf, 0, none⟩), .pointer (some ⟨gt, 0, none⟩)] w
      fun e w' => e = .returned (.tuple #[]) ∧ ∃ vt' x, x.t = mkT b n fs fa fb ∧ Kn w0 (.row vt' 43 7 (L.length + 1) (cellsT (L ++ [x])) :: bun (rowsT (L ++ [x])) :: .blk gt [vt'] 27 :: .blk gb [.int .i64 b] 2 :: .blk gw [.int .i64 (n : Int)] 2 :: .blk gf [.slice FA fm fc] 25 :: m) w' := by
  have HF := Lib.hid (fun W (hW : Below w0.heap.size w0 W) => hf.below steady_FltM hW)
  have HG := Lib.hid hg
  have LA := Lib.hid la
  have LB := Lib.hid lb
  have HA := Lib.hid ha
  have HB := Lib.hid hbb
  clear hf hg la lb ha hbb
  obtain ⟨a1, a2, a3, d1, d2, d3, e1, e2, e3, f1, f2, f3, -⟩ := hK.cells
  obtain ⟨g8, hg8⟩ : ∃ g, w.heap.size = g := ⟨_, rfl⟩
  go_enter Tryd.func39, Tryd.ntmps39
  go_upto_region 1 with fail
  have K1 := hK.al [.int .i64 b, .slice none 0 0, .int .i64 b, .slice none 0 0, .int .i64 0, .slice none 0 0, .int .i64 0] 43
  rw [hg8] at K1
  try rw [hg8]
  refine Code.wp.kn K1 ?_; clear hK K1 a1 a2 a3 d1 d2 d3 e1 e2 e3 f1 f2 f3 hg8; intro w1 K1
  have K2 : Kn w0 (.row (.slice none 0 0) 2 1 (digF fa 0).length ((digF fa 0).map (Value.int .i64)) :: .row (.slice none 0 0) 2 1 (digF fb 0).length ((digF fb 0).map (Value.int .i64)) :: .blk g8 [.int .i64 b, .slice none 0 0, .int .i64 b, .slice none 0 0, .int .i64 0, .slice none 0 0, .int .i64 0] 43 :: .row vt 43 7 L.length (cellsT L) :: bun (rowsT L) :: .blk gt [vt] 27 :: .blk gb [.int .i64 b] 2 :: .blk gw [.int .i64 (n : Int)] 2 :: .blk gf [.slice FA fm fc] 25 :: m) w1 := (K1.nilRow _ _).nilRow _ _
  clear K1
  obtain ⟨o1, o2, o3, a1, a2, a3, d1, d2, d3, e1, e2, e3, f1, f2, f3, -⟩ := K2.cells
  go_wp2_with fail
  clear o1 o2 o3 a1 a2 a3 d1 d2 d3 e1 e2 e3 f1 f2 f3
  go_loopw [16] (fun ii wr => ∃ (k : Nat) (va vb : Value), k ≤ n ∧ ii = .int .i64 (k : Int) ∧ Kn w0 (.row va 2 1 (digF fa k).length ((digF fa k).map (Value.int .i64)) :: .row vb 2 1 (digF fb k).length ((digF fb k).map (Value.int .i64)) :: .blk g8 [.int .i64 b, va, .int .i64 b, vb, .int .i64 0, .slice none 0 0, .int .i64 0] 43 :: .row vt 43 7 L.length (cellsT L) :: bun (rowsT L) :: .blk gt [vt] 27 :: .blk gb [.int .i64 b] 2 :: .blk gw [.int .i64 (n : Int)] 2 :: .blk gf [.slice FA fm fc] 25 :: m) wr) (fun ii _ => n - (intOf ii).toNat)
  case atStart => exact ⟨0, _, _, Nat.zero_le _, rfl, K2⟩
  case round =>
    clear K2
    obtain ⟨k, va, vb, hk, rfl, KR⟩ := hrel
    by_cases hkn : k < n
    · have i1 : (k : Int) < (n : Int) := by omega
      have i0 : (0 : Int) ≤ (k : Int) := by omega
      have HL1 := Lib.hid (show (digF fa k).length ≤ 10000000 by rw [digF_len]; omega)
      have HL2 := Lib.hid (show (digF fb k).length ≤ 10000000 by rw [digF_len]; omega)
      have hs1 := digF_succ fa k
      have hs2 := digF_succ fb k
      have lk := LA.out wr (KR.sel [] 9 (by decide) (by decide)) k (by omega)
      have lk2 := (fun W h => LB.out W h k (by omega))
      obtain ⟨xa, hxa⟩ : ∃ x, fa (k : Int) = x := ⟨_, rfl⟩
      obtain ⟨xb, hxb⟩ : ∃ x, fb (k : Int) = x := ⟨_, rfl⟩
      rw [hxa] at hs1 lk
      rw [hxb] at hs2
      simp only [hxb] at lk2
      obtain ⟨da, hda⟩ : ∃ x, digF fa k = x := ⟨_, rfl⟩
      obtain ⟨db, hdb⟩ : ∃ x, digF fb k = x := ⟨_, rfl⟩
      rw [hda] at hs1 HL1 KR
      rw [hdb] at hs2 HL2 KR
      have HS1 := Lib.hid hs1
      have HS2 := Lib.hid hs2
      replace lk2 := Lib.hid lk2
      clear hxa hxb hda hdb hs1 hs2
      obtain ⟨o1, o2, o3, a1, a2, a3, d1, d2, d3, e1, e2, e3, f1, f2, f3, -⟩ := KR.cells
      go_upto_region 5 with (at_builtin; refine kn_pushI rfl _ _ rfl va da rfl rfl (KR.al [.int .i64 xa] 2) HL1.out ?_; intro v' w' K10; obtain ⟨A', c', rfl⟩ := row_form K10.at0; obtain ⟨m9, hm9⟩ : ∃ m, (da ++ [xa]).length = m := ⟨_, rfl⟩; rw [hm9] at K10; try rw [hm9]; have HM9 := Lib.hid hm9; clear hm9 o1 o2 o3; obtain ⟨s1, s2, s3⟩ := (K10.front 2 rfl).blkAt)
      have KS := ((K10.front 2 rfl).st 1 (.slice A' m9 c')).sel [1, 2, 0, 3, 4, 5, 6, 7, 8] 9 (by decide) (by decide)
      refine Code.wp.kn KS ?_; clear KS K10 KR s1 s2 s3 a1 a2 a3 d1 d2 d3 e1 e2 e3 f1 f2 f3 lk; intro w5 K5
      have lk := lk2.out w5 (K5.sel [] 9 (by decide) (by decide))
      obtain ⟨o1, o2, o3, a1, a2, a3, d1, d2, d3, e1, e2, e3, f1, f2, f3, -⟩ := K5.cells
      go_wp2_with (at_builtin; refine kn_pushI rfl _ _ rfl vb db rfl rfl ((K5.front 1 rfl).al [.int .i64 xb] 2) HL2.out ?_; intro v' w' K10; obtain ⟨B', d', rfl⟩ := row_form K10.at0; obtain ⟨m8, hm8⟩ : ∃ m, (db ++ [xb]).length = m := ⟨_, rfl⟩; rw [hm8] at K10; try rw [hm8]; have HM8 := Lib.hid hm8; clear hm8 o1 o2 o3; obtain ⟨s1, s2, s3⟩ := (K10.front 2 rfl).blkAt)
      have KS := ((K10.front 2 rfl).st 3 (.slice B' m8 d')).sel [2, 1, 0, 3, 4, 5, 6, 7, 8] 9 (by decide) (by decide)
      go_roundw
      case rel => exact ⟨k + 1, _, _, by omega, by go_num, by rw [HS1.out, HS2.out, HM9.out, HM8.out]; exact KS⟩
      case measure => simp [intOf] <;> omega
    · have i1 : ¬ (k : Int) < (n : Int) := by omega
      obtain rfl : n = k := by omega
      obtain ⟨A1, c1, rfl⟩ := row_form KR.at0
      obtain ⟨A2, c2, rfl⟩ := row_form (KR.front 1 rfl).at0
      have hla := digF_len fa n
      have hlb := digF_len fb n
      have hda : ∀ d ∈ digF fa n, 0 ≤ d ∧ d < b := fun d h => by
        obtain ⟨j, -, rfl⟩ := List.mem_map.1 h
        exact HA.out _
      have hdb : ∀ d ∈ digF fb n, 0 ≤ d ∧ d < b := fun d h => by
        obtain ⟨j, -, rfl⟩ := List.mem_map.1 h
        exact HB.out _
      have hmk : mkT b n fs fa fb = ⟨⟨b, digF fa n⟩, ⟨b, digF fb n⟩, ⟨b, sumL b (digF fa n) (digF fb n) fs n⟩, carryAt b (digF fa n) (digF fb n) fs n⟩ := rfl
      have hsl := sumL_len b (digF fa n) (digF fb n) fs n
      obtain ⟨da, hdaa⟩ : ∃ x, digF fa n = x := ⟨_, rfl⟩
      obtain ⟨db, hdbb⟩ : ∃ x, digF fb n = x := ⟨_, rfl⟩
      rw [hdaa] at hla hda hmk KR hsl
      rw [hdbb] at hlb hdb hmk KR hsl
      have KA := (fun W r1 r2 r3 => addedWith_any ⟨b, da⟩ ⟨b, db⟩ A1 A2 c1 c2 FA fm fc fs W r1 r2 r3 (by show da.length = db.length; omega) (by show da.length ≤ 16; omega) hb hb2 hda hdb (by show GoodF da.length fs; rw [hla]; exact HG.out) (by omega))
      dsimp only at KA
      rw [hla] at KA KR
      rw [hlb] at KA KR
      obtain ⟨sm, hsm⟩ : ∃ x, sumL b da db fs n = x := ⟨_, rfl⟩
      obtain ⟨cy, hcy⟩ : ∃ x, carryAt b da db fs n = x := ⟨_, rfl⟩
      rw [hsm] at hmk hsl
      rw [hcy] at hmk
      simp only [hsm, hcy] at KA
      replace KA := Lib.hid KA
      have HMK := Lib.hid hmk
      have HLA := Lib.hid hla
      have HLB := Lib.hid hlb
      have HSL := Lib.hid hsl
      clear hmk hla hlb hsl hda hdb hdaa hdbb hsm hcy LA LB HA HB
      have K3 : Kn w0 (rowI A1 c1 da :: rowI A2 c2 db :: .blk g8 [.int .i64 b, .slice A1 n c1, .int .i64 b, .slice A2 n c2, .int .i64 0, .slice none 0 0, .int .i64 0] 43 :: .row vt 43 7 L.length (cellsT L) :: bun (rowsT L) :: .blk gt [vt] 27 :: .blk gb [.int .i64 b] 2 :: .blk gw [.int .i64 (n : Int)] 2 :: .blk gf [.slice FA fm fc] 25 :: m) wr := by unfold rowI; rw [HLA.out, HLB.out]; exact KR
      clear KR
      obtain ⟨o1, o2, o3, a1, a2, a3, d1, d2, d3, e1, e2, e3, f1, f2, f3, -⟩ := K3.cells
      go_upto_region 8 with (go_at_call 40; (refine (KA.out _ (by have h := K3.riv; rw [HLA.out] at h; exact h) (by have h := (K3.front 1 rfl).riv; rw [HLB.out] at h; exact h) (HF.out _ K3.below)).mono ?_); rintro e w4 ⟨A3, c3, rfl, hO, hw⟩; have K4 := K3.addI hw hO; clear hw o1 o2 o3 a1 a2 a3 d1 d2 d3 e1 e2 e3 f1 f2 f3; obtain ⟨o1, o2, o3, a1, a2, a3, d1, d2, d3, e1, e2, e3, f1, f2, f3, -⟩ := K4.cells)
      have K5 : Kn w0 (rowI A3 c3 sm :: rowI A1 c1 da :: rowI A2 c2 db :: .blk g8 [.int .i64 b, .slice A1 n c1, .int .i64 b, .slice A2 n c2, .int .i64 0, .slice none 0 0, .int .i64 0] 43 :: .row vt 43 7 L.length (cellsT L) :: bun (rowsT L) :: .blk gt [vt] 27 :: .blk gb [.int .i64 b] 2 :: .blk gw [.int .i64 (n : Int)] 2 :: .blk gf [.slice FA fm fc] 25 :: m) w4 := by unfold rowI at K4 ⊢; rw [HSL.out] at K4 ⊢; exact K4
      have K6 := (((K5.front 3 rfl).st 4 (.int .i64 b)).st 5 (.slice A3 n c3)).st 6 (.int .i64 cy)
      refine Code.wp.kn K6 ?_; clear K4 K5 K6 K3 o1 o2 o3 a1 a2 a3 d1 d2 d3 e1 e2 e3 f1 f2 f3; intro w6 K6
      obtain ⟨o1, o2, o3, a1, a2, a3, d1, d2, d3, e1, e2, e3, f1, f2, f3, -⟩ := K6.cells
      have hq := (K6.front 4 rfl).al [.int .i64 b, .slice A1 n c1, .int .i64 b, .slice A2 n c2, .int .i64 b, .slice A3 n c3, .int .i64 cy] 43
      go_wp2_with (at_builtin; refine kn_app tpT rfl _ _ rfl vt L.length (cellsT L) rfl (l := [.int .i64 b, .slice A1 n c1, .int .i64 b, .slice A2 n c2, .int .i64 b, .slice A3 n c3, .int .i64 cy]) (k := 1) rfl hq rfl (by simp [Value.oneCell']) (by omega) (by omega) ?_; intro v7 w7 K7; obtain ⟨A7, c7, rfl⟩ := row_form K7.at0; clear o1 o2 o3 a1 a2 a3 d1 d2 d3 e1 e2 e3 f1 f2 f3; obtain ⟨a1, a2, a3⟩ := (K7.front 6 rfl).blkAt)
      have K8 := (K7.front 6 rfl).st 0 (.slice A7 (L.length + 1) c7)
      go_end0
      have K9 := (K8.sel [4, 6, 5, 3, 1, 0, 7, 8, 9] 10 (by decide) (by decide)).bunAdd.sw1.bunAdd.sw1.bunAdd
      refine ⟨rfl, .slice A7 (L.length + 1) c7, ⟨mkT b n fs fa fb, A1, c1, A2, c2, A3, c3⟩, rfl, ?_⟩
      rw [cellsT_app, rowsT_app]
      have e1 : cellsT [⟨mkT b n fs fa fb, A1, c1, A2, c2, A3, c3⟩] = [.int .i64 b, .slice A1 n c1, .int .i64 b, .slice A2 n c2, .int .i64 b, .slice A3 n c3, .int .i64 cy] := by
        rw [HMK.out]
        simp only [cellsT, List.flatMap_cons, List.flatMap_nil, List.append_nil, TE.cells, tcells, HLA.out, HLB.out, HSL.out]
      have e2 : rowsT [⟨mkT b n fs fa fb, A1, c1, A2, c2, A3, c3⟩] = [rowI A1 c1 da, rowI A2 c2 db, rowI A3 c3 sm] := by
        rw [HMK.out]
        simp only [rowsT, List.flatMap_cons, List.flatMap_nil, List.append_nil, TE.rows]
      rw [e1, e2]
      rw [List.append_assoc, List.append_assoc] at K9
      exact K9.sw1
end Go.Proofs.YtgpmngcemnnpmaaDoor

namespace Go.Proofs.YtgpmngcemnnpmaaDoor
open Go.RowKit Go.Sort Go.Maps
theorem cellsT_get : ∀ (L : List TE) (k : Nat) (x : TE), L[k]? = some x → ∀ j u, x.cells[j]? = some u → (cellsT L)[k * 7 + j]? = some u
  | [], k, x, h => by simp at h
  | y :: L, 0, x, h => by
    have h : y = x := by simpa using h
    subst h
    intro j u hu
    have hl : j < y.cells.length := by
      by_cases hj : j < y.cells.length
      · exact hj
      · rw [List.getElem?_eq_none (by omega)] at hu; cases hu
    have h2 : cellsT (y :: L) = y.cells ++ cellsT L := by simp [cellsT]
    rw [h2, List.getElem?_append_left (by omega), Nat.zero_mul, Nat.zero_add]
    exact hu
  | y :: L, k + 1, x, h => by
    intro j u hu
    have h1 := cellsT_get L k x (by simpa using h) j u hu
    have h2 : cellsT (y :: L) = y.cells ++ cellsT L := by simp [cellsT]
    have h3 : y.cells.length = 7 := rfl
    rw [h2, List.getElem?_append_right (by omega), h3, show (k + 1) * 7 + j - 7 = k * 7 + j by omega]
    exact h1
/-- trials that the call owns, read as a list -/
theorem Kn.rlT {w0 w : World} {m : List Ent} {vt : Value} {L : List TE} (h : Kn w0 (.row vt 43 7 L.length (cellsT L) :: bun (rowsT L) :: m) w) :
    ∃ A c, vt = .slice A L.length c ∧ RL TriM 7 w A L.length (L.map (·.t)) := by
  obtain ⟨A, c, rfl⟩ := row_form h.at0
  refine ⟨A, c, rfl, by rw [List.length_map], fun h0 => ?_⟩
  have hr : w.ownsRow 0 43 7 (.slice A L.length c) L.length (cellsT L) := h.at0
  rcases hr.2 with ⟨hv, hn⟩ | ⟨g, cap, cur, hv, -, hg, -⟩
  · injection hv with h1 h2 h3
    omega
  · injection hv with h1 h2 h3
    refine ⟨_, h1, (Array.getElem?_eq_some_iff.1 hg).1, fun k hk => ?_⟩
    have hk' : k < L.length := by rw [List.length_map] at hk; exact hk
    rw [List.getElem_map]
    have hx : L[k]? = some L[k] := List.getElem?_eq_getElem hk'
    have hm : ∀ e ∈ L[k].rows, e ∈ rowsT L := fun e he => List.mem_flatMap.2 ⟨_, List.getElem_mem hk', he⟩
    have r1 := (((h.front 1 rfl).bunPick (hm _ (List.mem_cons_self ..)))).riv
    have r2 := (((h.front 1 rfl).bunPick (hm _ (List.mem_cons_of_mem _ (List.mem_cons_self ..))))).riv
    have r3 := (((h.front 1 rfl).bunPick (hm _ (List.mem_cons_of_mem _ (List.mem_cons_of_mem _ (List.mem_cons_self ..)))))).riv
    rw [h1] at hr
    have hc : ∀ j u, (L[k].cells)[j]? = some u → w.cell? ⟨g, k * 7 + j, none⟩ = some u := fun j u hu => by
      have hq := hr.cells (g := g) rfl _ _ (cellsT_get L k _ hx j u hu)
      rw [add_zero_block] at hq
      exact hq
    rw [add_zero_block]
    exact ⟨⟨_, _, And.intro (hc 0 _ rfl) (hc 1 _ rfl), r1⟩, ⟨_, _, And.intro (hc 2 _ rfl) (hc 3 _ rfl), r2⟩, ⟨_, _, And.intro (hc 4 _ rfl) (hc 5 _ rfl), r3⟩, hc 6 _ rfl⟩
theorem lookNil (k : Value) (w : World) : (Instr.lookup 69 (.map none) k false).run Tryd.prog w = .ok (.int .i64 0) w := by
  kernel_rfl
section
variable {ops : Array Oper} {rest : List Oper} {o : Oper} {a : Act} {Q : Exit → Act → World → Prop} {w0 w : World} {m : List Ent}
theorem kn_insMI (hg : o.guard = none) (mm x v : Operand) (ho : o.op = .insert 69 mm x v) {b n : Nat} {f : Int → Int} (hm : a.eval mm = .map (some b)) (hK : Kn w0 (entMI b n f :: m) w) (hn : n ≤ 1000000)
    {k : Int} (hx : a.eval x = .int .i64 k) (hk : (Lit.int .i64 k).wf = true) {y : Int} (hyw : (Lit.int .i64 y).wf = true) (hv : a.eval v = .int .i64 y)
    (h : ∀ w', Kn w0 (entMI b (n + 1) (fun j => if j = k then y else f j) :: m) w' → wpList Tryd.prog ops Q rest (a.put o.dst undef) w') : wpList Tryd.prog ops Q (o :: rest) a w := by
  refine wpList_plain hg fun K' hK' => ?_
  obtain ⟨w', hrun, r1⟩ := hK.putMI hn hk y hyw
  unfold Oper.wp
  simp [execOp, ho, hm, hx, hv, hrun, Result.andThen]
  exact hK' _ _ (h w' r1)
end
end Go.Proofs.YtgpmngcemnnpmaaDoor
