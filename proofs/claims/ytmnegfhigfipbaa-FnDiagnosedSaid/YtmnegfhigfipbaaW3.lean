import Derived.Test.YtmnegfhigfipbaaW2
import Derived.Test.YtmnegfhigfipbaaG3
namespace Go.Proofs.Ytmnegfhigfipbaa
open Go.RowKit Go.Sort
set_option maxRecDepth 100000 in
set_option maxHeartbeats 1600000 in
theorem l02New_any (base : Int) (width : Nat) (w : World) (hb : 2 ≤ base) (hb2 : base ≤ 16) (hw : width ≤ 16) :
    Calls Try.prog 120 #[.int .i64 base, .int .i64 width, .int .i64 0] w fun e w' => ∃ A c, e = .returned (.tuple #[.agg #[.int .i64 base, .slice A width c], .int .i64 0]) ∧ OwnI w' w.heap.size (.slice A width c) (List.replicate width 0) ∧ Below w.heap.size w w' := by
  obtain ⟨i0, hi, hz0, hz1, hz2⟩ := info_parts info_i64
  have hba : Below w.heap.size w (w.alloc (.cells #[.int .i64 0, .slice none 0 0] 60)) := (Below.refl _ _).alloc (Nat.le_refl _) _
  obtain ⟨w1, hw1⟩ : ∃ w1, w1 = w.alloc (.cells #[.int .i64 0, .slice none 0 0] 60) := ⟨_, rfl⟩
  have z1 : w1.heap.size = w.heap.size + 1 := by rw [hw1]; simp
  have q0 : w1.cell? ⟨w.heap.size, 0, none⟩ = some (.int .i64 0) := by rw [hw1]; go_simp
  have q1 : w1.cell? ⟨w.heap.size, 1, none⟩ = some (.slice none 0 0) := by rw [hw1]; go_simp
  have q2 : w1.frozen? ⟨w.heap.size, 0, none⟩ = false := by rw [hw1]; go_simp
  have q3 : w1.frozen? ⟨w.heap.size, 1, none⟩ = false := by rw [hw1]; go_simp
  rw [← hw1] at hba
  have HW1 := Lib.hid hw1
  have HZ1 := Lib.hid z1
  have HBA := Lib.hid hba
  clear hba z1
  go_enter Try.func120, Try.ntmps120
  go_wp2_with fail
  rw [← hw1]
  clear hw1
  go_loopw [9, 2] (fun kk vv wr => ∃ (k : Nat) (v : Value), k ≤ width ∧ kk = .int .i64 k ∧ vv = .int .i64 0 ∧ SumAt wr (w.heap.size + 1) base v (List.replicate k 0) ∧ Below (w.heap.size + 1) w1 wr) (fun kk _ _ => width - (intOf kk).toNat)
  case atStart => exact ⟨0, .slice none 0 0, Nat.zero_le _, rfl, rfl, ⟨by rw [← HZ1.out]; exact heap_alloc_new _ _, OwnI.nil _ _⟩, (Below.refl _ _).alloc (Nat.le_of_eq HZ1.out.symm) _⟩
  case round =>
    obtain ⟨k, v, hk, rfl, rfl, hS, hbr⟩ := hrel
    by_cases hkn : k < width
    · have hk1 : (k : Int) < (width : Int) := by omega
      obtain ⟨s1, s2, s3⟩ := hS.cells
      have hS' := Lib.hid hS
      have HO := Lib.hid (fun (n : Nat) (o : Obj) => World.ownsRow.alloc (w := (wr.drewN n).drew) hS.2 o)
      have hbr' := Lib.hid hbr
      have hGl := hS.lt
      have hrl : (List.replicate k (0 : Int)).length = k := List.length_replicate
      have HRL := Lib.hid hrl
      clear hS hbr hrl
      go_wp2_with fail
      have nz1 : base ≠ 0 := by omega
      have nz2 : (base == 0) = false := by simp; omega
      have nz3 : ¬ base = 0 := by omega
      have sA : (wr.drew.alloc (.cells #[.int .i64 0] 2)).cell? ⟨w.heap.size + 1, 1, none⟩ = some v := by rw [World.cell?_alloc_lt _ _ _ (by exact hGl)]; exact s2
      go_region_law (refine step_append_lies _ rfl (.tmp 18) (.tmp 22) 37 rfl (w.heap.size + 1 + 1) 2 i0 _ 1 8 Try.underlying37 hi hz0 hz1 hz2 rfl (by decide) v _ _ (by simp [Act.eval]) (HO.out 0 _) ⟨wr.heap.size, 0, none⟩ 1 1 [.int .i64 0] (by simp [Act.eval, Act.put]) rfl (World.news_of_block (heap_alloc_new _ _)) (by simp [Value.oneCell']) (by decide) (by rw [HRL.out]; unfold maxLen; omega) (by rw [HRL.out]; omega) (by simp; omega) _ rfl ?_; intro gg cap w2 hown2 hgrow2 hat2 hlt2; obtain ⟨t1, t2, t3, t4⟩ := SumAt.far (w := wr.drew) hS'.out hgrow2)
      all_goals
        obtain ⟨hS3, hB3⟩ := SumAt.step (w := wr.drew) hS'.out hgrow2 hown2
        rw [HRL.out] at hS3 hB3
        obtain ⟨w3, hw3⟩ : ∃ w3, w3 = w2.setCell ⟨w.heap.size + 1, 1, none⟩ (.slice (some ⟨gg, 0, none⟩) (k + 1) cap) := ⟨_, rfl⟩
        rw [← hw3] at hS3 hB3
        have hb3 : Below (w.heap.size + 1) wr w3 := (below_drewN (Below.refl (w.heap.size + 1) wr) 1).trans (hB3 _ (Nat.le_refl _))
        have HS3 := Lib.hid hS3
        have HB3 := Lib.hid (hbr'.out.trans hb3)
        clear hgrow2 hown2 t1 t2 t3 t4 sA hat2 hS3 hB3 hb3
        rw [← hw3]
        clear hw3
        go_wp2
        go_roundw
        case rel => exact ⟨k + 1, _, by omega, by go_num, rfl, by rw [List.replicate_succ']; exact HS3.out, HB3.out⟩
        case measure => simp [intOf]; omega
    · have HK : Hid (k = width) := by simp only [Hid]; omega
      obtain ⟨s1, s2, s3⟩ := hS.cells
      have m0 : wr.cell? ⟨w.heap.size, 0, none⟩ = some (.int .i64 0) := by rw [hbr.cell (by simp)]; exact q0
      have m1 : wr.cell? ⟨w.heap.size, 1, none⟩ = some (.slice none 0 0) := by rw [hbr.cell (by simp)]; exact q1
      have m2 : wr.frozen? ⟨w.heap.size, 0, none⟩ = false := by rw [hbr.frozen (by simp)]; exact q2
      have m3 : wr.frozen? ⟨w.heap.size, 1, none⟩ = false := by rw [hbr.frozen (by simp)]; exact q3
      have hO := hS.2
      obtain ⟨A', c', rfl, hri, hge⟩ := hS.2.reads
      rw [List.length_replicate, HK.out] at s2 hO
      have HO := Lib.hid hO
      have hbr' := Lib.hid hbr
      clear hS hbr hri hge hO
      go_wp2_with fail
      refine bodyPost_ret (v := .tuple #[.agg #[.int .i64 base, .slice A' width c'], .int .i64 0]) (by simp [results, Try.results120, go_sem, m0, m1, m2, m3]) rfl ⟨A', c', rfl, ?_, ?_⟩
      · exact (((HO.out.setBelow (by simp <;> omega) _).setBelow (by simp <;> omega) _)).mono (by omega)
      · exact ((HBA.out.trans (hbr'.out.mono (by omega))).setCell (by simp) _).setCell (by simp) _
end Go.Proofs.Ytmnegfhigfipbaa
