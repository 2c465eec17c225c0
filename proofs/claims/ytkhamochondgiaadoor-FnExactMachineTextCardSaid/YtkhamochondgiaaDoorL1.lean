import Derived.Test.YtkhamochondgiaaDoorD2
namespace Go.Proofs.YtkhamochondgiaaDoor
open Go.RowKit Go.Sort
theorem OwnI.ri {w : World} {base n c : Nat} {A : Option Addr} {ds : List Int} (h : OwnI w base (.slice A n c) ds) : RI w A n ds := by
  obtain ⟨A', c', h1, h2, -⟩ := h.reads
  injection h1 with h1 h3 h4
  rw [h1, h3]; exact h2
theorem lft_small {left n : Int} (h : ¬ lft left n < 0) (hl : left ≤ 1048576) : n ≤ 1048576 := by unfold lft at h; split at h <;> omega
theorem lft3_small {n1 n2 n3 : Int} (p1 : 0 ≤ n1) (p2 : 0 ≤ n2) (p3 : 0 ≤ n3) (h : ¬ lft3 1048576 n1 n2 n3 < 0) : n1 ≤ 1048576 ∧ n2 ≤ 1048576 ∧ n3 ≤ 1048576 := by
  unfold lft3 at h
  split at h
  · omega
  · rename_i k1
    split at h
    · omega
    · rename_i k2
      have h1 := lft_small k1 (Int.le_refl _)
      have b1 := lft_bd 1048576 n1 (by omega) p1
      have h2 := lft_small k2 b1.2
      have b2 := lft_bd _ n2 b1.1 p2
      have h3 := lft_small h (by omega)
      exact ⟨h1, h2, h3⟩
theorem lft3_lo (n1 n2 n3 : Int) (p1 : 0 ≤ n1) (p2 : 0 ≤ n2) (p3 : 0 ≤ n3) : lft3 1048576 n1 n2 n3 ≤ 1048576 ∧ -1 ≤ lft3 1048576 n1 n2 n3 := by
  unfold lft3
  have b1 := lft_bd 1048576 n1 (by omega) p1
  have b2 := lft_bd _ n2 b1.1 p2
  have b3 := lft_bd _ n3 b2.1 p3
  split
  · omega
  · split <;> omega
set_option maxRecDepth 100000 in
set_option maxHeartbeats 1600000 in
theorem law_TrialText (b1 b2 b3 cy : Int) (A1 A2 A3 : Option Addr) (n1 n2 n3 c1 c2 c3 : Nat) (d1 d2 d3 : List Int) (w : World) (r1 : RI w A1 n1 d1) (r2 : RI w A2 n2 d2) (r3 : RI w A3 n3 d3)
    (m1 : n1 ≤ 9223372036854775807) (m2 : n2 ≤ 9223372036854775807) (m3 : n3 ≤ 9223372036854775807) (ht : TB w) :
    Calls Tryd.prog 3 #[.agg #[.int .i64 b1, .slice A1 n1 c1, .int .i64 b2, .slice A2 n2 c2, .int .i64 b3, .slice A3 n3 c3, .int .i64 cy]] w fun e w' => e = .returned (.bool true) ∧ Below w.heap.size w w' := by
  have hb0 : Below w.heap.size w (w.alloc (.cells #[.int .i64 b1, .slice A1 n1 c1, .int .i64 b2, .slice A2 n2 c2, .int .i64 b3, .slice A3 n3 c3, .int .i64 cy] 26)) := (Below.refl _ _).alloc (Nat.le_refl _) _
  obtain ⟨v1, v2⟩ := lft3_lo n1 n2 n3 (by omega) (by omega) (by omega)
  by_cases hneg : lft3 1048576 n1 n2 n3 < 0
  · go_enter Tryd.func3, Tryd.ntmps3
    go_wp2_with fail
    refine (szTrial_any _ _ _ _ _ _ _ _ _ _ _ _ _ _ _ (by omega) (by omega) m1 m2 m3).mono ?_; rintro e w1 ⟨rfl, hw1⟩
    go_wp2_with fail
    go_ret
    exact ⟨rfl, hb0.trans (hw1.mono (by simp))⟩
  obtain ⟨s1, s2, s3⟩ := lft3_small (by omega) (by omega) (by omega) hneg
  obtain rfl : d1.length = n1 := r1.1
  obtain rfl : d2.length = n2 := r2.1
  obtain rfl : d3.length = n3 := r3.1
  have hsm : SmallTri ⟨⟨b1, d1⟩, ⟨b2, d2⟩, ⟨b3, d3⟩, cy⟩ := by unfold SmallTri SmallReg; simp only; omega
  go_enter Tryd.func3, Tryd.ntmps3
  go_wp2_with fail
  refine (szTrial_any _ _ _ _ _ _ _ _ _ _ _ _ _ _ _ (by omega) (by omega) m1 m2 m3).mono ?_; rintro e w1 ⟨rfl, hw1⟩
  have hbA := hb0.trans (hw1.mono (by simp))
  have hA0 := hw1.mono (show w.heap.size + 1 ≤ _ by simp)
  obtain ⟨hc, hf⟩ := bcellB hA0
  have z1 : w.heap.size + 1 ≤ w1.heap.size := by have := hA0.size; simpa using this
  go_wp2_with fail
  refine (toTrial_any b1 b2 b3 cy A1 A2 A3 _ _ _ c1 c2 c3 d1 d2 d3 w1 (r1.below hbA) (r2.below hbA) (r3.below hbA) (by omega) (by omega) (by omega)).mono ?_
  rintro e w2 ⟨X1, x1, X2, x2, X3, x3, rfl, o1, o2, o3, hw2⟩
  have hbB := hbA.trans (hw2.mono (by omega))
  have hB0 := hA0.trans (hw2.mono z1)
  have z2 := hw2.size
  clear hc hf
  obtain ⟨hc, hf⟩ := bcellB hB0
  go_wp2_with fail
  refine (specTrialText_any ⟨⟨b1, d1⟩, ⟨b2, d2⟩, ⟨b3, d3⟩, cy⟩ X1 X2 X3 x1 x2 x3 w2 o1.ri o2.ri o3.ri hsm).mono ?_
  rintro e w3 ⟨rfl, hw3⟩
  have hbC := hbB.trans (hw3.mono (by omega))
  have hC0 := hB0.trans (hw3.mono (by omega))
  have z3 := hw3.size
  clear hc hf o1 o2 o3
  obtain ⟨hc, hf⟩ := bcellB hC0
  go_wp2_with fail
  refine (toTrial_any b1 b2 b3 cy A1 A2 A3 _ _ _ c1 c2 c3 d1 d2 d3 w3 (r1.below hbC) (r2.below hbC) (r3.below hbC) (by omega) (by omega) (by omega)).mono ?_
  rintro e w4 ⟨Y1, y1, Y2, y2, Y3, y3, rfl, o1, o2, o3, hw4⟩
  have hbD := hbC.trans (hw4.mono (by omega))
  have hD0 := hC0.trans (hw4.mono (by omega))
  have z4 := hw4.size
  clear hc hf
  obtain ⟨hc, hf⟩ := bcellB hD0
  go_wp2_with fail
  have hE0 : Below (w.heap.size + 1) (w.alloc (.cells #[.int .i64 b1, .slice A1 d1.length c1, .int .i64 b2, .slice A2 d2.length c2, .int .i64 b3, .slice A3 d3.length c3, .int .i64 cy] 26)) (w4.alloc (.cells #[.int .i64 b1, .slice Y1 d1.length y1, .int .i64 b2, .slice Y2 d2.length y2, .int .i64 b3, .slice Y3 d3.length y3, .int .i64 cy] 31)) := hD0.alloc (by omega) _
  have hbE : Below w.heap.size w (w4.alloc (.cells #[.int .i64 b1, .slice Y1 d1.length y1, .int .i64 b2, .slice Y2 d2.length y2, .int .i64 b3, .slice Y3 d3.length y3, .int .i64 cy] 31)) := hbD.alloc (by omega) _
  have hbE4 : Below w4.heap.size w4 (w4.alloc (.cells #[.int .i64 b1, .slice Y1 d1.length y1, .int .i64 b2, .slice Y2 d2.length y2, .int .i64 b3, .slice Y3 d3.length y3, .int .i64 cy] 31)) := (Below.refl _ _).alloc (Nat.le_refl _) _
  refine (TrialText_any ⟨⟨b1, d1⟩, ⟨b2, d2⟩, ⟨b3, d3⟩, cy⟩ Y1 Y2 Y3 y1 y2 y3 _ (o1.ri.below hbE4) (o2.ri.below hbE4) (o3.ri.below hbE4) hsm (ht.below hbE)).mono ?_
  rintro e w5 ⟨rfl, hw5⟩
  have z5 : w4.heap.size + 1 ≤ w5.heap.size := by have := hw5.size; simpa using this
  have hbF := hbE.trans (hw5.mono (by simp; omega))
  have hF0 := hE0.trans (hw5.mono (by simp; omega))
  obtain ⟨hx, -⟩ := bcellB (B := w4.heap.size + 1) (hw5.mono (by simp))
  have p1 : RI w5.drew Y1 d1.length d1 := by have h := (o1.ri.below hbE4).below hw5; exact h
  have p2 : RI w5.drew Y2 d2.length d2 := by have h := (o2.ri.below hbE4).below hw5; exact h
  have p3 : RI w5.drew Y3 d3.length d3 := by have h := (o3.ri.below hbE4).below hw5; exact h
  clear hc hf o1 o2 o3
  obtain ⟨hc, -⟩ := bcellB hF0
  go_wp2_with fail
  have e0 : w5.cell? ⟨w4.heap.size, 0, none⟩ = some (.int .i64 b1) := by go_simp
  have e1 : w5.cell? ⟨w4.heap.size, 1, none⟩ = some (.slice Y1 d1.length y1) := by go_simp
  have e2 : w5.cell? ⟨w4.heap.size, 2, none⟩ = some (.int .i64 b2) := by go_simp
  have e3 : w5.cell? ⟨w4.heap.size, 3, none⟩ = some (.slice Y2 d2.length y2) := by go_simp
  have e4 : w5.cell? ⟨w4.heap.size, 4, none⟩ = some (.int .i64 b3) := by go_simp
  have e5 : w5.cell? ⟨w4.heap.size, 5, none⟩ = some (.slice Y3 d3.length y3) := by go_simp
  have e6 : w5.cell? ⟨w4.heap.size, 6, none⟩ = some (.int .i64 cy) := by go_simp
  have e7 : w5.cell? ⟨w.heap.size, 0, none⟩ = some (.int .i64 b1) := by go_simp
  have e8 : w5.cell? ⟨w.heap.size, 1, none⟩ = some (.slice A1 d1.length c1) := by go_simp
  have e9 : w5.cell? ⟨w.heap.size, 2, none⟩ = some (.int .i64 b2) := by go_simp
  have e10 : w5.cell? ⟨w.heap.size, 3, none⟩ = some (.slice A2 d2.length c2) := by go_simp
  have e11 : w5.cell? ⟨w.heap.size, 4, none⟩ = some (.int .i64 b3) := by go_simp
  have e12 : w5.cell? ⟨w.heap.size, 5, none⟩ = some (.slice A3 d3.length c3) := by go_simp
  have e13 : w5.cell? ⟨w.heap.size, 6, none⟩ = some (.int .i64 cy) := by go_simp
  clear hx hc
  go_region_held3 (fun w' => w'.cell? ⟨w4.heap.size, 0, none⟩ = some (.int .i64 b1) ∧ w'.cell? ⟨w4.heap.size, 1, none⟩ = some (.slice Y1 d1.length y1) ∧ w'.cell? ⟨w4.heap.size, 2, none⟩ = some (.int .i64 b2) ∧ w'.cell? ⟨w4.heap.size, 3, none⟩ = some (.slice Y2 d2.length y2) ∧ w'.cell? ⟨w4.heap.size, 4, none⟩ = some (.int .i64 b3) ∧ w'.cell? ⟨w4.heap.size, 5, none⟩ = some (.slice Y3 d3.length y3) ∧ w'.cell? ⟨w4.heap.size, 6, none⟩ = some (.int .i64 cy) ∧ w'.cell? ⟨w.heap.size, 0, none⟩ = some (.int .i64 b1) ∧ w'.cell? ⟨w.heap.size, 1, none⟩ = some (.slice A1 d1.length c1) ∧ w'.cell? ⟨w.heap.size, 2, none⟩ = some (.int .i64 b2) ∧ w'.cell? ⟨w.heap.size, 3, none⟩ = some (.slice A2 d2.length c2) ∧ w'.cell? ⟨w.heap.size, 4, none⟩ = some (.int .i64 b3) ∧ w'.cell? ⟨w.heap.size, 5, none⟩ = some (.slice A3 d3.length c3) ∧ w'.cell? ⟨w.heap.size, 6, none⟩ = some (.int .i64 cy))
    (first | go_keep | (refine ⟨?_, ?_, ?_, ?_, ?_, ?_, ?_, ?_, ?_, ?_, ?_, ?_, ?_, ?_⟩ <;> (rw [hw6.cell (by simp <;> omega)]; assumption)) | (go_split_ands; refine ⟨?_, ?_, ?_, ?_, ?_, ?_, ?_, ?_, ?_, ?_, ?_, ?_, ?_, ?_⟩ <;> (rw [hw7.cell (by simp <;> omega)]; assumption)))
    ((first
    | (go_at_call 7; refine (toTrial_any b1 b2 b3 cy A1 A2 A3 _ _ _ c1 c2 c3 d1 d2 d3 _ (r1.below hbF.drew) (r2.below hbF.drew) (r3.below hbF.drew) (by omega) (by omega) (by omega)).mono ?_; rintro e w6 ⟨Z1, x1, Z2, x2, Z3, x3, rfl, q1, q2, q3, hw6⟩; have z6 : w5.heap.size ≤ w6.heap.size := hw6.size)
    | (go_at_call 9; refine (eqTrial_any b1 b2 b3 cy b1 b2 b3 cy Y1 Y2 Y3 Z1 Z2 Z3 _ _ _ y1 y2 y3 _ _ _ x1 x2 x3 d1 d2 d3 d1 d2 d3 _ (p1.below hw6) (p2.below hw6) (p3.below hw6) q1.ri q2.ri q3.ri (by omega) (by omega) (by omega) (by omega) (by omega) (by omega)).mono ?_; rintro e w7 ⟨rfl, hw7⟩; simp only [and_self, decide_true, Bool.and_self])))
  all_goals
    go_wp2
    go_ret
    exact ⟨rfl, (hbF.drew.trans (hw6.mono hbF.size)).trans (hw7.mono (Nat.le_trans hbF.size hw6.size))⟩
end Go.Proofs.YtkhamochondgiaaDoor
