import Derived.Test.YtmnegfhigfipbaaR4
namespace Go.Proofs.Ytmnegfhigfipbaa
open Go.RowKit
def lft3 (left n1 n2 n3 : Int) : Int := if lft left n1 < 0 then -1 else if lft (lft left n1) n2 < 0 then -1 else lft (lft (lft left n1) n2) n3
set_option maxHeartbeats 800000 in
theorem szTrial_any (b1 b2 b3 cy : Int) (A1 A2 A3 : Option Addr) (n1 n2 n3 c1 c2 c3 : Nat) (left : Int) (w : World) (h1 : -1 ≤ left) (h2 : left ≤ 1048576) (hm1 : n1 ≤ 9223372036854775807) (hm2 : n2 ≤ 9223372036854775807) (hm3 : n3 ≤ 9223372036854775807) :
    Calls Try.prog 31 #[.agg #[.int .i64 b1, .slice A1 n1 c1, .int .i64 b2, .slice A2 n2 c2, .int .i64 b3, .slice A3 n3 c3, .int .i64 cy], .int .i64 left] w
      fun e w' => e = .returned (.int .i64 (lft3 left n1 n2 n3)) ∧ Below w.heap.size w w' := by
  obtain ⟨g1, g2⟩ := lft_bd left n1 h1 (by omega)
  obtain ⟨g3, g4⟩ := lft_bd (lft left n1) n2 g1 (by omega)
  obtain ⟨g5, g6⟩ := lft_bd (lft (lft left n1) n2) n3 g3 (by omega)
  have hb0 : Below w.heap.size w (w.alloc (.cells #[.int .i64 b1, .slice A1 n1 c1, .int .i64 b2, .slice A2 n2 c2, .int .i64 b3, .slice A3 n3 c3, .int .i64 cy] 56)) := (Below.refl _ _).alloc (Nat.le_refl _) _
  by_cases k1 : lft left n1 < 0
  · have HF : Hid (lft3 left n1 n2 n3 = -1) := by simp only [Hid, lft3]; rw [if_pos k1]
    go_enter Try.func31, Try.ntmps31
    go_wp2_with fail
    refine (szRegister_any _ _ _ _ _ _ h1 h2 hm1).mono ?_; rintro e w1 ⟨rfl, hw1⟩
    go_wp2_with fail
    go_ret
    exact ⟨ret_int HF.out.symm, hb0.trans (hw1.mono (by simp))⟩
  by_cases k2 : lft (lft left n1) n2 < 0
  · have HF : Hid (lft3 left n1 n2 n3 = -1) := by simp only [Hid, lft3]; rw [if_neg k1, if_pos k2]
    go_enter Try.func31, Try.ntmps31
    go_wp2_with fail
    refine (szRegister_any _ _ _ _ _ _ h1 h2 hm1).mono ?_; rintro e w1 ⟨rfl, hw1⟩; obtain ⟨hc1, -⟩ := bcell hw1
    go_wp2_with fail
    refine (szRegister_any _ _ _ _ _ _ g1 (by omega) hm2).mono ?_; rintro e w2 ⟨rfl, hw2⟩
    go_wp2_with fail
    go_ret
    have hs := hw1.size
    exact ⟨ret_int HF.out.symm, (hb0.trans (hw1.mono (by simp))).trans (hw2.mono (by simp at hs; omega))⟩
  by_cases k3 : lft (lft (lft left n1) n2) n3 < 0
  all_goals
    have HF : Hid (lft3 left n1 n2 n3 = lft (lft (lft left n1) n2) n3) := by simp only [Hid, lft3]; rw [if_neg k1, if_neg k2]
    have HG : Hid (lft (lft (lft left n1) n2) n3 < 0 → lft (lft (lft left n1) n2) n3 = -1) := by simp only [Hid]; omega
    go_enter Try.func31, Try.ntmps31
    go_wp2_with fail
    refine (szRegister_any _ _ _ _ _ _ h1 h2 hm1).mono ?_; rintro e w1 ⟨rfl, hw1⟩; obtain ⟨hc1, -⟩ := bcellB (B := w.heap.size + 1) (hw1.mono (by simp)); have hs1 : w.heap.size + 1 ≤ w1.heap.size := by have := hw1.size; simpa using this
    go_wp2_with fail
    refine (szRegister_any _ _ _ _ _ _ g1 (by omega) hm2).mono ?_; rintro e w2 ⟨rfl, hw2⟩; clear hc1; obtain ⟨hc2, -⟩ := bcellB (B := w.heap.size + 1) ((hw1.mono (by simp)).trans (hw2.mono (by omega))); have hs2 : w1.heap.size ≤ w2.heap.size := hw2.size
    go_wp2_with fail
    refine (szRegister_any _ _ _ _ _ _ g3 (by omega) hm3).mono ?_; rintro e w3 ⟨rfl, hw3⟩
    go_wp2_with fail
    go_ret
    refine ⟨ret_int ?_, ((hb0.trans (hw1.mono (by simp))).trans (hw2.mono (by omega))).trans (hw3.mono (by omega))⟩
    first | (rw [HF.out]; done) | (rw [HF.out, HG.out k3]; done)
set_option maxHeartbeats 800000 in
theorem toTrial_any (b1 b2 b3 cy : Int) (A1 A2 A3 : Option Addr) (n1 n2 n3 c1 c2 c3 : Nat) (d1 d2 d3 : List Int) (w : World) (r1 : RI w A1 n1 d1) (r2 : RI w A2 n2 d2) (r3 : RI w A3 n3 d3) (hm1 : n1 ≤ 1048576) (hm2 : n2 ≤ 1048576) (hm3 : n3 ≤ 1048576) :
    Calls Try.prog 34 #[.agg #[.int .i64 b1, .slice A1 n1 c1, .int .i64 b2, .slice A2 n2 c2, .int .i64 b3, .slice A3 n3 c3, .int .i64 cy]] w
      fun e w' => ∃ X1 x1 X2 x2 X3 x3, e = .returned (.agg #[.int .i64 b1, .slice X1 n1 x1, .int .i64 b2, .slice X2 n2 x2, .int .i64 b3, .slice X3 n3 x3, .int .i64 cy]) ∧
        OwnI w' w.heap.size (.slice X1 n1 x1) d1 ∧ OwnI w' w.heap.size (.slice X2 n2 x2) d2 ∧ OwnI w' w.heap.size (.slice X3 n3 x3) d3 ∧ Below w.heap.size w w' := by
  go_enter Try.func34, Try.ntmps34
  have hb0 : Below w.heap.size w (((w.alloc (.cells #[.int .i64 b1, .slice A1 n1 c1, .int .i64 b2, .slice A2 n2 c2, .int .i64 b3, .slice A3 n3 c3, .int .i64 cy] 56)).alloc (.cells #[.int .i64 0, .slice none 0 0, .int .i64 0, .slice none 0 0, .int .i64 0, .slice none 0 0, .int .i64 0] 62)).alloc (.cells #[.int .i64 0, .slice none 0 0, .int .i64 0, .slice none 0 0, .int .i64 0, .slice none 0 0, .int .i64 0] 62)) := (((Below.refl _ _).alloc (Nat.le_refl _) _).alloc (by simp) _).alloc (by simp <;> omega) _
  go_wp2_with fail
  refine (toRegister_any _ _ _ _ d1 _ (r1.below hb0) hm1).mono ?_; rintro e w1 ⟨X1, x1, rfl, o1, hw1⟩; obtain ⟨hc, hf⟩ := bcellB (B := w.heap.size + 3) (hw1.mono (by simp)); have hs1 : w.heap.size + 3 ≤ w1.heap.size := by have := hw1.size; simp at this; omega
  go_wp2_with fail
  have hbA : Below w.heap.size w ((w1.setCell ⟨w.heap.size + 1 + 1, 0, none⟩ (.int .i64 b1)).setCell ⟨w.heap.size + 1 + 1, 1, none⟩ (.slice X1 n1 x1)) := ((hb0.trans (hw1.mono (by simp <;> omega))).setCell (by simp <;> omega) _).setCell (by simp <;> omega) _
  have o1A := (o1.setBelow (a := ⟨w.heap.size + 1 + 1, 0, none⟩) (by simp) (.int .i64 b1)).setBelow (a := ⟨w.heap.size + 1 + 1, 1, none⟩) (by simp) (.slice X1 n1 x1)
  refine (toRegister_any _ _ _ _ d2 _ (r2.below hbA) hm2).mono ?_; rintro e w2 ⟨X2, x2, rfl, o2, hw2⟩; obtain ⟨hc2, hf2⟩ := bcellB (B := w.heap.size + 3) (hw2.mono (by simp <;> omega)); have hs2 : w1.heap.size ≤ w2.heap.size := by have := hw2.size; simp at this; omega
  have o1B := o1A.below hw2
  have hbB := hbA.trans (hw2.mono (by simp <;> omega))
  clear hbA o1A o1
  go_wp2_with fail
  have hbC : Below w.heap.size w ((w2.setCell ⟨w.heap.size + 1 + 1, 2, none⟩ (.int .i64 b2)).setCell ⟨w.heap.size + 1 + 1, 3, none⟩ (.slice X2 n2 x2)) := (hbB.setCell (by simp <;> omega) _).setCell (by simp <;> omega) _
  have o1C := (o1B.setBelow (a := ⟨w.heap.size + 1 + 1, 2, none⟩) (by simp) (.int .i64 b2)).setBelow (a := ⟨w.heap.size + 1 + 1, 3, none⟩) (by simp) (.slice X2 n2 x2)
  have o2C := (o2.setBelow (a := ⟨w.heap.size + 1 + 1, 2, none⟩) (by simp <;> omega) (.int .i64 b2)).setBelow (a := ⟨w.heap.size + 1 + 1, 3, none⟩) (by simp <;> omega) (.slice X2 n2 x2)
  refine (toRegister_any _ _ _ _ d3 _ (r3.below hbC) hm3).mono ?_; rintro e w3 ⟨X3, x3, rfl, o3, hw3⟩; obtain ⟨hc3, hf3⟩ := bcellB (B := w.heap.size + 3) (hw3.mono (by simp <;> omega)); have hs3 : w2.heap.size ≤ w3.heap.size := by have := hw3.size; simp at this; omega
  have o1D := o1C.below hw3
  have o2D := o2C.below hw3
  have hbD := hbC.trans (hw3.mono (by simp <;> omega))
  clear hbC o1C o2C o1B o2 hbB
  go_wp2_with fail
  refine bodyPost_ret (v := .agg #[.int .i64 b1, .slice X1 n1 x1, .int .i64 b2, .slice X2 n2 x2, .int .i64 b3, .slice X3 n3 x3, .int .i64 cy]) (by simp [results, Try.results34, go_sem, hc, hf, hc2, hf2, hc3, hf3]) rfl ⟨_, _, _, _, _, _, rfl, ?_, ?_, ?_, ?_⟩
  · refine OwnI.mono (b := w.heap.size + 3) ?_ (by omega)
    repeat (refine OwnI.setBelow ?_ (by simp <;> omega) _)
    exact o1D.mono (by simp)
  · refine OwnI.mono (b := w.heap.size + 3) ?_ (by omega)
    repeat (refine OwnI.setBelow ?_ (by simp <;> omega) _)
    exact o2D.mono (by simp <;> omega)
  · refine OwnI.mono (b := w.heap.size + 3) ?_ (by omega)
    repeat (refine OwnI.setBelow ?_ (by simp <;> omega) _)
    exact o3.mono (by simp <;> omega)
  · repeat (refine Below.setCell ?_ (by simp <;> omega) _)
    exact hbD
set_option maxHeartbeats 800000 in
theorem eqTrial_any (b1 b2 b3 cy b1' b2' b3' cy' : Int) (A1 A2 A3 B1 B2 B3 : Option Addr) (n1 n2 n3 c1 c2 c3 m1 m2 m3 e1 e2 e3 : Nat) (d1 d2 d3 d1' d2' d3' : List Int) (w : World)
    (r1 : RI w A1 n1 d1) (r2 : RI w A2 n2 d2) (r3 : RI w A3 n3 d3) (s1 : RI w B1 m1 d1') (s2 : RI w B2 m2 d2') (s3 : RI w B3 m3 d3')
    (hm1 : n1 ≤ 1048576) (hm2 : n2 ≤ 1048576) (hm3 : n3 ≤ 1048576) (hk1 : m1 ≤ 1048576) (hk2 : m2 ≤ 1048576) (hk3 : m3 ≤ 1048576) :
    Calls Try.prog 37 #[.agg #[.int .i64 b1, .slice A1 n1 c1, .int .i64 b2, .slice A2 n2 c2, .int .i64 b3, .slice A3 n3 c3, .int .i64 cy], .agg #[.int .i64 b1', .slice B1 m1 e1, .int .i64 b2', .slice B2 m2 e2, .int .i64 b3', .slice B3 m3 e3, .int .i64 cy']] w
      fun e w' => e = .returned (.bool (decide (b1 = b1' ∧ d1 = d1') && decide (b2 = b2' ∧ d2 = d2') && decide (b3 = b3' ∧ d3 = d3') && decide (cy = cy'))) ∧ Below w.heap.size w w' := by
  have hb0 : Below w.heap.size w ((w.alloc (.cells #[.int .i64 b1, .slice A1 n1 c1, .int .i64 b2, .slice A2 n2 c2, .int .i64 b3, .slice A3 n3 c3, .int .i64 cy] 62)).alloc (.cells #[.int .i64 b1', .slice B1 m1 e1, .int .i64 b2', .slice B2 m2 e2, .int .i64 b3', .slice B3 m3 e3, .int .i64 cy'] 62)) := ((Below.refl _ _).alloc (Nat.le_refl _) _).alloc (by simp) _
  rcases k1 : decide (b1 = b1' ∧ d1 = d1') with _ | _
  · go_enter Try.func37, Try.ntmps37
    go_wp2_with fail
    refine (eqRegister_any _ _ _ _ _ _ _ _ d1 d1' _ (r1.below hb0) (s1.below hb0) (by omega) (by omega)).mono ?_; rintro e w1 ⟨rfl, hw1⟩; rw [k1]
    go_wp2_with fail
    go_ret
    exact ⟨rfl, hb0.trans (hw1.mono (by simp <;> omega))⟩
  rcases k2 : decide (b2 = b2' ∧ d2 = d2') with _ | _
  · go_enter Try.func37, Try.ntmps37
    go_wp2_with fail
    refine (eqRegister_any _ _ _ _ _ _ _ _ d1 d1' _ (r1.below hb0) (s1.below hb0) (by omega) (by omega)).mono ?_; rintro e w1 ⟨rfl, hw1⟩; rw [k1]
    have hbA := hb0.trans (hw1.mono (by simp <;> omega))
    obtain ⟨hc, -⟩ := bcellB (B := w.heap.size + 2) (hw1.mono (by simp <;> omega)); have hs1 : w.heap.size + 2 ≤ w1.heap.size := by have := hw1.size; simp at this; omega
    go_wp2_with fail
    refine (eqRegister_any _ _ _ _ _ _ _ _ d2 d2' _ (r2.below hbA) (s2.below hbA) (by omega) (by omega)).mono ?_; rintro e w2 ⟨rfl, hw2⟩; rw [k2]
    go_wp2_with fail
    go_ret
    exact ⟨rfl, hbA.trans (hw2.mono (by omega))⟩
  go_enter Try.func37, Try.ntmps37
  go_wp2_with fail
  refine (eqRegister_any _ _ _ _ _ _ _ _ d1 d1' _ (r1.below hb0) (s1.below hb0) (by omega) (by omega)).mono ?_; rintro e w1 ⟨rfl, hw1⟩; rw [k1]
  have hbA := hb0.trans (hw1.mono (by simp <;> omega))
  obtain ⟨hc, -⟩ := bcellB (B := w.heap.size + 2) (hw1.mono (by simp <;> omega)); have hs1 : w.heap.size + 2 ≤ w1.heap.size := by have := hw1.size; simp at this; omega
  go_wp2_with fail
  refine (eqRegister_any _ _ _ _ _ _ _ _ d2 d2' _ (r2.below hbA) (s2.below hbA) (by omega) (by omega)).mono ?_; rintro e w2 ⟨rfl, hw2⟩; rw [k2]
  have hbB := hbA.trans (hw2.mono (by omega))
  clear hc
  obtain ⟨hc, -⟩ := bcellB (B := w.heap.size + 2) ((hw1.mono (by simp <;> omega)).trans (hw2.mono (by omega))); have hs2 : w1.heap.size ≤ w2.heap.size := hw2.size
  go_wp2_with fail
  refine (eqRegister_any _ _ _ _ _ _ _ _ d3 d3' _ (r3.below hbB) (s3.below hbB) (by omega) (by omega)).mono ?_; rintro e w3 ⟨rfl, hw3⟩
  have hbC := hbB.trans (hw3.mono (by omega))
  clear hc
  obtain ⟨hc, -⟩ := bcellB (B := w.heap.size + 2) (((hw1.mono (by simp <;> omega)).trans (hw2.mono (by omega))).trans (hw3.mono (by omega))); have hs3 : w2.heap.size ≤ w3.heap.size := hw3.size
  rcases k3 : decide (b3 = b3' ∧ d3 = d3') with _ | _
  · go_wp2_with fail
    go_ret
    exact ⟨ret_bool (by simp [k3]), hbC⟩
  · by_cases k4 : cy = cy'
    · have k5 : (cy != cy') = false := by simp [k4]
      have K4 := Lib.hid k4; clear k4
      go_wp2_with fail
      go_ret
      exact ⟨ret_bool (by simp [k3, K4.out]), hbC⟩
    · have k5 : (cy != cy') = true := by simp [k4]
      have K4 := Lib.hid k4; clear k4
      go_wp2_with fail
      go_ret
      exact ⟨ret_bool (by simp [k3, K4.out]), hbC⟩
end Go.Proofs.Ytmnegfhigfipbaa
