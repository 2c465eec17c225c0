import Derived.Test.YtcngeifkddhkmaaDoorR8
namespace Go.Proofs.YtcngeifkddhkmaaDoor
open Go.RowKit
set_option maxHeartbeats 800000 in
theorem eqMachine_any (b1 b2 b3 cy b1' b2' b3' cy' : Int) (A1 A2 A3 B1 B2 B3 : Option Addr) (n1 n2 n3 c1 c2 c3 m1 m2 m3 e1 e2 e3 : Nat) (d1 d2 d3 d1' d2' d3' : List Int) (w : World)
    (r1 : RI w A1 n1 d1) (r2 : RI w A2 n2 d2) (r3 : RI w A3 n3 d3) (s1 : RI w B1 m1 d1') (s2 : RI w B2 m2 d2') (s3 : RI w B3 m3 d3')
    (hm1 : n1 ≤ 1048576) (hm2 : n2 ≤ 1048576) (hm3 : n3 ≤ 1048576) (hk1 : m1 ≤ 1048576) (hk2 : m2 ≤ 1048576) (hk3 : m3 ≤ 1048576) :
    Calls Tryd.prog 63 #[.agg #[.int .i64 b1, .slice A1 n1 c1, .int .i64 b2, .slice A2 n2 c2, .int .i64 b3, .slice A3 n3 c3, .int .i64 cy], .agg #[.int .i64 b1', .slice B1 m1 e1, .int .i64 b2', .slice B2 m2 e2, .int .i64 b3', .slice B3 m3 e3, .int .i64 cy']] w
      fun e w' => e = .returned (.bool (decide (b1 = b1' ∧ d1 = d1') && decide (b2 = b2' ∧ d2 = d2') && decide (b3 = b3' ∧ d3 = d3') && decide (cy = cy'))) ∧ Below w.heap.size w w' := by
  have hb0 : Below w.heap.size w ((w.alloc (.cells #[.int .i64 b1, .slice A1 n1 c1, .int .i64 b2, .slice A2 n2 c2, .int .i64 b3, .slice A3 n3 c3, .int .i64 cy] 91)).alloc (.cells #[.int .i64 b1', .slice B1 m1 e1, .int .i64 b2', .slice B2 m2 e2, .int .i64 b3', .slice B3 m3 e3, .int .i64 cy'] 91)) := ((Below.refl _ _).alloc (Nat.le_refl _) _).alloc (by simp) _
  rcases k1 : decide (b1 = b1' ∧ d1 = d1') with _ | _
  · go_enter Tryd.func63, Tryd.ntmps63
    go_wp2_with fail
    refine (eqRegister_any _ _ _ _ _ _ _ _ d1 d1' _ (r1.below hb0) (s1.below hb0) (by omega) (by omega)).mono ?_; rintro e w1 ⟨rfl, hw1⟩; rw [k1]
    go_wp2_with fail
    go_ret
    exact ⟨rfl, hb0.trans (hw1.mono (by simp <;> omega))⟩
  rcases k2 : decide (b2 = b2' ∧ d2 = d2') with _ | _
  · go_enter Tryd.func63, Tryd.ntmps63
    go_wp2_with fail
    refine (eqRegister_any _ _ _ _ _ _ _ _ d1 d1' _ (r1.below hb0) (s1.below hb0) (by omega) (by omega)).mono ?_; rintro e w1 ⟨rfl, hw1⟩; rw [k1]
    have hbA := hb0.trans (hw1.mono (by simp <;> omega))
    obtain ⟨hc, -⟩ := bcellB (B := w.heap.size + 2) (hw1.mono (by simp <;> omega)); have hs1 : w.heap.size + 2 ≤ w1.heap.size := by have := hw1.size; simp at this; omega
    go_wp2_with fail
    refine (eqRegister_any _ _ _ _ _ _ _ _ d2 d2' _ (r2.below hbA) (s2.below hbA) (by omega) (by omega)).mono ?_; rintro e w2 ⟨rfl, hw2⟩; rw [k2]
    go_wp2_with fail
    go_ret
    exact ⟨rfl, hbA.trans (hw2.mono (by omega))⟩
  go_enter Tryd.func63, Tryd.ntmps63
  go_wp2_with fail
  refine (eqRegister_any _ _ _ _ _ _ _ _ d1 d1' _ (r1.below hb0) (s1.below hb0) (by omega) (by omega)).mono ?_; rintro e w1 ⟨rfl, hw1⟩; rw [k1]
  have hbA := hb0.trans (hw1.mono (by simp <;> omega))
  obtain ⟨hc, -⟩ := bcellB (B := w.heap.size + 2) (hw1.mono (by simp <;> omega)); have hs1 : w.heap.size + 2 ≤ w1.heap.size := by have := hw1.size; simp at this; omega
  go_wp2_with fail
  refine (eqRegister_any _ _ _ _ _ _ _ _ d2 d2' _ (r2.below hbA) (s2.below hbA) (by omega) (by omega)).mono ?_; rintro e w2 ⟨rfl, hw2⟩; rw [k2]
  have hbB := hbA.trans (hw2.mono (by omega))
  clear hc
  obtain ⟨hc, -⟩ := bcellB (B := w.heap.size + 2) ((hw1.mono (by simp <;> omega)).trans (hw2.mono (by omega))); have hs2 : w1.heap.size ≤ w2.heap.size := hw2.size
  go_wp2_with fail
  refine (eqRegister_any _ _ _ _ _ _ _ _ d3 d3' _ (r3.below hbB) (s3.below hbB) (by omega) (by omega)).mono ?_; rintro e w3 ⟨rfl, hw3⟩
  have hbC := hbB.trans (hw3.mono (by omega))
  clear hc
  obtain ⟨hc, -⟩ := bcellB (B := w.heap.size + 2) (((hw1.mono (by simp <;> omega)).trans (hw2.mono (by omega))).trans (hw3.mono (by omega))); have hs3 : w2.heap.size ≤ w3.heap.size := hw3.size
  rcases k3 : decide (b3 = b3' ∧ d3 = d3') with _ | _
  · go_wp2_with fail
    go_ret
    exact ⟨ret_bool (by simp [k3]), hbC⟩
  · by_cases k4 : cy = cy'
    · have k5 : (cy != cy') = false := by simp [k4]
      have K4 := Lib.hid k4; clear k4
      go_wp2_with fail
      go_ret
      exact ⟨ret_bool (by simp [k3, K4.out]), hbC⟩
    · have k5 : (cy != cy') = true := by simp [k4]
      have K4 := Lib.hid k4; clear k4
      go_wp2_with fail
      go_ret
      exact ⟨ret_bool (by simp [k3, K4.out]), hbC⟩
end Go.Proofs.YtcngeifkddhkmaaDoor
