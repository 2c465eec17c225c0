import Derived.Test.YtmnegfhigfipbaaW3
namespace Go.Proofs.Ytmnegfhigfipbaa
open Go.RowKit Go.Sort
theorem own_set {W : World} {base g n c j : Nat} {ds : List Int} (h : OwnI W base (.slice (some ⟨g, 0, none⟩) n c) ds) (hl : ds.length = n) (x : Int) : OwnI (W.setCell ⟨g, j, none⟩ (.int .i64 x)) base (.slice (some ⟨g, 0, none⟩) n c) (ds.set j x) := by
  unfold OwnI at h ⊢
  rw [hl] at h
  have hs := (World.ownsRow.stored h j (.int .i64 x)).1
  rw [← List.map_set] at hs
  rw [List.length_set, hl]
  exact hs
theorem own_far {W : World} {base g n c : Nat} {ds : List Int} {a : Addr} (h : OwnI W base (.slice (some ⟨g, 0, none⟩) n c) ds) (hne : a.block ≠ g) (u : Value) : OwnI (W.setCell a u) base (.slice (some ⟨g, 0, none⟩) n c) ds := by
  refine ⟨h.1, ?_⟩
  rcases h.2 with ⟨e, -⟩ | ⟨g', cap, cur, e, hbg, hc, rest⟩
  · cases e
  · refine .inr ⟨g', cap, cur, e, hbg, ?_, rest⟩
    injection e with e _ _
    injection e with e
    injection e with e _ _
    rw [heap_setCell_other _ _ _ _ (by rw [← e]; exact hne.symm)]
    exact hc
theorem own_some {W : World} {base n c : Nat} {A : Option Addr} {ds : List Int} (h : OwnI W base (.slice A n c) ds) (hl : ds.length = n) (hn : 0 < n) : ∃ g, A = some ⟨g, 0, none⟩ ∧ base ≤ g ∧ g < W.heap.size := by
  rcases h.2 with ⟨e, hz⟩ | ⟨g, cap, cur, e, hbg, hc, -⟩
  · omega
  · injection e with e _ _
    exact ⟨g, e, hbg, (Array.getElem?_eq_some_iff.1 hc).1⟩
theorem own_cell {W : World} {base g n c j : Nat} {ds : List Int} (h : OwnI W base (.slice (some ⟨g, 0, none⟩) n c) ds) (hl : ds.length = n) (hj : j < n) : (∃ u, W.cell? ⟨g, j, none⟩ = some u) ∧ W.frozen? ⟨g, j, none⟩ = false := by
  unfold OwnI at h
  rw [hl] at h
  exact ⟨⟨_, (World.ownsRow.cellAt h j (by omega)).trans (List.getElem?_eq_getElem (by rw [List.length_map]; omega))⟩, World.ownsRow.frozenAt h j⟩
/-- digits of a base -/
def DigB (base : Int) (n : Nat) (ds : List Int) : Prop := ds.length = n ∧ ∀ d ∈ ds, 0 ≤ d ∧ d < base
theorem DigB.zero {base : Int} (n : Nat) (h : 2 ≤ base) : DigB base n (List.replicate n 0) := ⟨List.length_replicate, fun d hd => by rw [List.eq_of_mem_replicate hd]; omega⟩
theorem DigB.set {base : Int} {n : Nat} {ds : List Int} (h : DigB base n ds) (j : Nat) {x : Int} (h0 : 0 ≤ x) (h1 : x < base) : DigB base n (ds.set j x) :=
  ⟨by rw [List.length_set]; exact h.1, fun d hd => by
    rcases List.mem_or_eq_of_mem_set hd with h2 | h2
    · exact h.2 d h2
    · rw [h2]; exact ⟨h0, h1⟩⟩
abbrev st7 (V : World) (R : Nat) (v0 v1 v2 v3 v4 v5 v6 : Value) : World := ((((((V.setCell ⟨R, 0, none⟩ v0).setCell ⟨R, 1, none⟩ v1).setCell ⟨R, 2, none⟩ v2).setCell ⟨R, 3, none⟩ v3).setCell ⟨R, 4, none⟩ v4).setCell ⟨R, 5, none⟩ v5).setCell ⟨R, 6, none⟩ v6
theorem st7_own {V : World} {R base g n c : Nat} {ds : List Int} (h : OwnI V base (.slice (some ⟨g, 0, none⟩) n c) ds) (hne : R ≠ g) (v0 v1 v2 v3 v4 v5 v6 : Value) : OwnI (st7 V R v0 v1 v2 v3 v4 v5 v6) base (.slice (some ⟨g, 0, none⟩) n c) ds :=
  own_far (own_far (own_far (own_far (own_far (own_far (own_far h hne _) hne _) hne _) hne _) hne _) hne _) hne _
theorem st7_below {V a : World} {B R : Nat} (h : Below B a V) (hR : B ≤ R) (v0 v1 v2 v3 v4 v5 v6 : Value) : Below B a (st7 V R v0 v1 v2 v3 v4 v5 v6) :=
  ((((((h.setCell (p := ⟨R, 0, none⟩) hR v0).setCell (p := ⟨R, 1, none⟩) hR v1).setCell (p := ⟨R, 2, none⟩) hR v2).setCell (p := ⟨R, 3, none⟩) hR v3).setCell (p := ⟨R, 4, none⟩) hR v4).setCell (p := ⟨R, 5, none⟩) hR v5).setCell (p := ⟨R, 6, none⟩) hR v6
set_option maxRecDepth 100000 in
set_option maxHeartbeats 3200000 in
theorem l20Pair_none (base : Int) (width : Nat) (w : World) (hb : 2 ≤ base) (hb2 : base ≤ 16) (hw : width ≤ 16) (h1 : 0 < width) :
    Calls Try.prog 111 #[.int .i64 base, .int .i64 width, .int .i64 (-1), .bool false] w fun e w' => ∃ A c B d ds es, e = .returned (.agg #[.int .i64 base, .slice A width c, .int .i64 base, .slice B width d, .int .i64 0, .slice none 0 0, .int .i64 0]) ∧ OwnI w' w.heap.size (.slice A width c) ds ∧ OwnI w' w.heap.size (.slice B width d) es ∧ DigB base width ds ∧ DigB base width es ∧ Below w.heap.size w w' := by
  obtain ⟨r0, hr0⟩ : ∃ r0, r0 = w.alloc (.cells #[.int .i64 0, .slice none 0 0, .int .i64 0, .slice none 0 0, .int .i64 0, .slice none 0 0, .int .i64 0] 62) := ⟨_, rfl⟩
  have hba : Below w.heap.size w r0 := by rw [hr0]; exact (Below.refl _ _).alloc (Nat.le_refl _) _
  have z0 : r0.heap.size = w.heap.size + 1 := by rw [hr0]; simp
  have hR : r0.heap[w.heap.size]? = some (.cells #[.int .i64 0, .slice none 0 0, .int .i64 0, .slice none 0 0, .int .i64 0, .slice none 0 0, .int .i64 0] 62 (0, 0)) := by rw [hr0]; exact heap_alloc_new _ _
  have HZ0 := Lib.hid z0
  have HR := Lib.hid hR
  have HBA := Lib.hid hba
  clear z0 hR hba
  go_enter Try.func111, Try.ntmps111
  go_wp2_with fail
  rw [← hr0]
  clear hr0
  refine (l02New_any base width r0 hb hb2 hw).mono ?_; rintro e w1 ⟨A1, c1, rfl, o1, hw1⟩
  have hz1 : w.heap.size + 1 ≤ w1.heap.size := by have := hw1.size; have := HZ0.out; omega
  have HW1 := Lib.hid hw1
  have HO1 := Lib.hid o1
  clear hw1 o1
  go_wp2_with fail
  refine (l02New_any base width _ hb hb2 hw).mono ?_; rintro e w2 ⟨A2, c2, rfl, o2, hw2⟩
  have hz2 : w1.heap.size + 1 ≤ w2.heap.size := by have := hw2.size; simpa using this
  obtain ⟨gb, rfl, gb1, gb2⟩ := own_some (o2.mono (show w1.heap.size + 1 ≤ _ by simp)) List.length_replicate h1
  have hba1 : Below w1.heap.size w1 (w1.alloc (.cells #[.int .i64 base, .slice A1 width c1] 60)) := (Below.refl _ _).alloc (Nat.le_refl _) _
  obtain ⟨W, hW⟩ : ∃ W, w2.alloc (.cells #[.int .i64 base, .slice (some ⟨gb, 0, none⟩) width c2] 60) = W := ⟨_, rfl⟩
  have hba2 : Below w2.heap.size w2 W := by rw [← hW]; exact (Below.refl _ _).alloc (Nat.le_refl _) _
  have hzW : W.heap.size = w2.heap.size + 1 := by rw [← hW]; simp
  have hTb : W.heap[w2.heap.size]? = some (.cells #[.int .i64 base, .slice (some ⟨gb, 0, none⟩) width c2] 60 (0, 0)) := by rw [← hW]; exact heap_alloc_new _ _
  have hTa : W.heap[w1.heap.size]? = some (.cells #[.int .i64 base, .slice A1 width c1] 60 (0, 0)) := by
    rw [hba2.block _ (by omega), hw2.block _ (by simp)]; exact heap_alloc_new _ _
  have hRW : W.heap[w.heap.size]? = some (.cells #[.int .i64 0, .slice none 0 0, .int .i64 0, .slice none 0 0, .int .i64 0, .slice none 0 0, .int .i64 0] 62 (0, 0)) := by
    rw [hba2.block _ (by omega), hw2.block _ (by simp; omega), hba1.block _ (by omega), HW1.out.block _ (by have := HZ0.out; omega)]; exact HR.out
  have oa : OwnI W (w.heap.size + 1) (.slice A1 width c1) (List.replicate width 0) := (((HO1.out.below hba1).below hw2).below hba2).mono (Nat.le_of_eq HZ0.out.symm)
  have ob : OwnI W (w1.heap.size + 1) (.slice (some ⟨gb, 0, none⟩) width c2) (List.replicate width 0) := (o2.below hba2).mono (by simp)
  have hbW : Below w.heap.size w W := (((HBA.out.trans (HW1.out.mono (by have := HZ0.out; omega))).trans (hba1.mono (by omega))).trans (hw2.mono (by simp; omega))).trans (hba2.mono (by omega))
  have HZW := Lib.hid hzW
  obtain ⟨ga, rfl, ga1, ga2⟩ := own_some (HO1.out) List.length_replicate h1
  have ga3 : w.heap.size + 1 ≤ ga := by have := HZ0.out; omega
  have HBW := Lib.hid hbW
  have a0 : W.cell? ⟨w1.heap.size, 0, none⟩ = some (.int .i64 base) := by rw [cell_of_row _ _ _ _ _ _ hTa]; rfl
  have a1 : W.cell? ⟨w1.heap.size, 1, none⟩ = some (.slice (some ⟨ga, 0, none⟩) width c1) := by rw [cell_of_row _ _ _ _ _ _ hTa]; rfl
  have b0 : W.cell? ⟨w2.heap.size, 0, none⟩ = some (.int .i64 base) := by rw [cell_of_row _ _ _ _ _ _ hTb]; rfl
  have b1 : W.cell? ⟨w2.heap.size, 1, none⟩ = some (.slice (some ⟨gb, 0, none⟩) width c2) := by rw [cell_of_row _ _ _ _ _ _ hTb]; rfl
  have q0 : W.cell? ⟨w.heap.size, 0, none⟩ = some (.int .i64 0) := by rw [cell_of_row _ _ _ _ _ _ hRW]; rfl
  have q1 : W.cell? ⟨w.heap.size, 1, none⟩ = some (.slice none 0 0) := by rw [cell_of_row _ _ _ _ _ _ hRW]; rfl
  have q2 : W.cell? ⟨w.heap.size, 2, none⟩ = some (.int .i64 0) := by rw [cell_of_row _ _ _ _ _ _ hRW]; rfl
  have q3 : W.cell? ⟨w.heap.size, 3, none⟩ = some (.slice none 0 0) := by rw [cell_of_row _ _ _ _ _ _ hRW]; rfl
  have q4 : W.cell? ⟨w.heap.size, 4, none⟩ = some (.int .i64 0) := by rw [cell_of_row _ _ _ _ _ _ hRW]; rfl
  have q5 : W.cell? ⟨w.heap.size, 5, none⟩ = some (.slice none 0 0) := by rw [cell_of_row _ _ _ _ _ _ hRW]; rfl
  have q6 : W.cell? ⟨w.heap.size, 6, none⟩ = some (.int .i64 0) := by rw [cell_of_row _ _ _ _ _ _ hRW]; rfl
  have fz : ∀ o, W.frozen? ⟨w.heap.size, o, none⟩ = false := fun o => frozen_of_row _ _ _ _ _ hRW
  have OA := Lib.hid oa
  have OB := Lib.hid ob
  clear hTa hTb hRW oa ob hbW hw2 o2 hba1 hba2 hzW
  have n1 : w.heap.size ≠ ga := by omega
  have n2 : w.heap.size ≠ gb := by omega
  have n3 : w1.heap.size ≠ ga := by have := HW1.out.size; omega
  have n4 : w1.heap.size ≠ gb := by omega
  have n5 : w2.heap.size ≠ ga := by omega
  have n6 : ga ≠ gb := by omega
  have n7 : w2.heap.size ≠ gb := by omega
  have OA2 := OA
  have OB2 := OB
  have HB2 := HBW
  have DA := Lib.hid (DigB.zero (base := base) width hb)
  have DB := DA
  go_wp2_with fail
  refine bodyPost_ret (v := .agg #[.int .i64 base, .slice (some ⟨ga, 0, none⟩) width c1, .int .i64 base, .slice (some ⟨gb, 0, none⟩) width c2, .int .i64 0, .slice none 0 0, .int .i64 0]) (by simp [results, Try.results111, go_sem, q0, q1, q2, q3, q4, q5, q6, fz, n1, n2, n1.symm, n2.symm]) rfl ⟨_, _, _, _, _, _, rfl, (st7_own OA2.out n1 _ _ _ _ _ _ _).mono (by omega), (st7_own OB2.out n2 _ _ _ _ _ _ _).mono (by omega), DA.out, DB.out, st7_below HB2.out (Nat.le_refl _) _ _ _ _ _ _ _⟩
set_option maxRecDepth 100000 in
set_option maxHeartbeats 3200000 in
theorem l20Pair_at (base : Int) (width k : Nat) (w : World) (hb : 2 ≤ base) (hb2 : base ≤ 16) (hw : width ≤ 16) (hk : k < width) :
    Calls Try.prog 111 #[.int .i64 base, .int .i64 width, .int .i64 k, .bool false] w fun e w' => ∃ A c B d ds es, e = .returned (.agg #[.int .i64 base, .slice A width c, .int .i64 base, .slice B width d, .int .i64 0, .slice none 0 0, .int .i64 0]) ∧ OwnI w' w.heap.size (.slice A width c) ds ∧ OwnI w' w.heap.size (.slice B width d) es ∧ DigB base width ds ∧ DigB base width es ∧ Below w.heap.size w w' := by
  have h1 : 0 < width := by omega
  have hk0 : (0 : Int) ≤ (k : Int) := by omega
  have hk1 : (k : Int) < (width : Int) := by omega
  obtain ⟨r0, hr0⟩ : ∃ r0, r0 = w.alloc (.cells #[.int .i64 0, .slice none 0 0, .int .i64 0, .slice none 0 0, .int .i64 0, .slice none 0 0, .int .i64 0] 62) := ⟨_, rfl⟩
  have hba : Below w.heap.size w r0 := by rw [hr0]; exact (Below.refl _ _).alloc (Nat.le_refl _) _
  have z0 : r0.heap.size = w.heap.size + 1 := by rw [hr0]; simp
  have hR : r0.heap[w.heap.size]? = some (.cells #[.int .i64 0, .slice none 0 0, .int .i64 0, .slice none 0 0, .int .i64 0, .slice none 0 0, .int .i64 0] 62 (0, 0)) := by rw [hr0]; exact heap_alloc_new _ _
  have HZ0 := Lib.hid z0
  have HR := Lib.hid hR
  have HBA := Lib.hid hba
  clear z0 hR hba
  go_enter Try.func111, Try.ntmps111
  go_wp2_with fail
  rw [← hr0]
  clear hr0
  refine (l02New_any base width r0 hb hb2 hw).mono ?_; rintro e w1 ⟨A1, c1, rfl, o1, hw1⟩
  have hz1 : w.heap.size + 1 ≤ w1.heap.size := by have := hw1.size; have := HZ0.out; omega
  have HW1 := Lib.hid hw1
  have HO1 := Lib.hid o1
  clear hw1 o1
  go_wp2_with fail
  refine (l02New_any base width _ hb hb2 hw).mono ?_; rintro e w2 ⟨A2, c2, rfl, o2, hw2⟩
  have hz2 : w1.heap.size + 1 ≤ w2.heap.size := by have := hw2.size; simpa using this
  obtain ⟨gb, rfl, gb1, gb2⟩ := own_some (o2.mono (show w1.heap.size + 1 ≤ _ by simp)) List.length_replicate h1
  have hba1 : Below w1.heap.size w1 (w1.alloc (.cells #[.int .i64 base, .slice A1 width c1] 60)) := (Below.refl _ _).alloc (Nat.le_refl _) _
  obtain ⟨W, hW⟩ : ∃ W, w2.alloc (.cells #[.int .i64 base, .slice (some ⟨gb, 0, none⟩) width c2] 60) = W := ⟨_, rfl⟩
  have hba2 : Below w2.heap.size w2 W := by rw [← hW]; exact (Below.refl _ _).alloc (Nat.le_refl _) _
  have hzW : W.heap.size = w2.heap.size + 1 := by rw [← hW]; simp
  have hTb : W.heap[w2.heap.size]? = some (.cells #[.int .i64 base, .slice (some ⟨gb, 0, none⟩) width c2] 60 (0, 0)) := by rw [← hW]; exact heap_alloc_new _ _
  have hTa : W.heap[w1.heap.size]? = some (.cells #[.int .i64 base, .slice A1 width c1] 60 (0, 0)) := by
    rw [hba2.block _ (by omega), hw2.block _ (by simp)]; exact heap_alloc_new _ _
  have hRW : W.heap[w.heap.size]? = some (.cells #[.int .i64 0, .slice none 0 0, .int .i64 0, .slice none 0 0, .int .i64 0, .slice none 0 0, .int .i64 0] 62 (0, 0)) := by
    rw [hba2.block _ (by omega), hw2.block _ (by simp; omega), hba1.block _ (by omega), HW1.out.block _ (by have := HZ0.out; omega)]; exact HR.out
  have oa : OwnI W (w.heap.size + 1) (.slice A1 width c1) (List.replicate width 0) := (((HO1.out.below hba1).below hw2).below hba2).mono (Nat.le_of_eq HZ0.out.symm)
  have ob : OwnI W (w1.heap.size + 1) (.slice (some ⟨gb, 0, none⟩) width c2) (List.replicate width 0) := (o2.below hba2).mono (by simp)
  have hbW : Below w.heap.size w W := (((HBA.out.trans (HW1.out.mono (by have := HZ0.out; omega))).trans (hba1.mono (by omega))).trans (hw2.mono (by simp; omega))).trans (hba2.mono (by omega))
  have HZW := Lib.hid hzW
  obtain ⟨ga, rfl, ga1, ga2⟩ := own_some (HO1.out) List.length_replicate h1
  have ga3 : w.heap.size + 1 ≤ ga := by have := HZ0.out; omega
  have HBW := Lib.hid hbW
  have a0 : W.cell? ⟨w1.heap.size, 0, none⟩ = some (.int .i64 base) := by rw [cell_of_row _ _ _ _ _ _ hTa]; rfl
  have a1 : W.cell? ⟨w1.heap.size, 1, none⟩ = some (.slice (some ⟨ga, 0, none⟩) width c1) := by rw [cell_of_row _ _ _ _ _ _ hTa]; rfl
  have b0 : W.cell? ⟨w2.heap.size, 0, none⟩ = some (.int .i64 base) := by rw [cell_of_row _ _ _ _ _ _ hTb]; rfl
  have b1 : W.cell? ⟨w2.heap.size, 1, none⟩ = some (.slice (some ⟨gb, 0, none⟩) width c2) := by rw [cell_of_row _ _ _ _ _ _ hTb]; rfl
  have q0 : W.cell? ⟨w.heap.size, 0, none⟩ = some (.int .i64 0) := by rw [cell_of_row _ _ _ _ _ _ hRW]; rfl
  have q1 : W.cell? ⟨w.heap.size, 1, none⟩ = some (.slice none 0 0) := by rw [cell_of_row _ _ _ _ _ _ hRW]; rfl
  have q2 : W.cell? ⟨w.heap.size, 2, none⟩ = some (.int .i64 0) := by rw [cell_of_row _ _ _ _ _ _ hRW]; rfl
  have q3 : W.cell? ⟨w.heap.size, 3, none⟩ = some (.slice none 0 0) := by rw [cell_of_row _ _ _ _ _ _ hRW]; rfl
  have q4 : W.cell? ⟨w.heap.size, 4, none⟩ = some (.int .i64 0) := by rw [cell_of_row _ _ _ _ _ _ hRW]; rfl
  have q5 : W.cell? ⟨w.heap.size, 5, none⟩ = some (.slice none 0 0) := by rw [cell_of_row _ _ _ _ _ _ hRW]; rfl
  have q6 : W.cell? ⟨w.heap.size, 6, none⟩ = some (.int .i64 0) := by rw [cell_of_row _ _ _ _ _ _ hRW]; rfl
  have fz : ∀ o, W.frozen? ⟨w.heap.size, o, none⟩ = false := fun o => frozen_of_row _ _ _ _ _ hRW
  have OA := Lib.hid oa
  have OB := Lib.hid ob
  clear hTa hTb hRW oa ob hbW hw2 o2 hba1 hba2 hzW
  have n1 : w.heap.size ≠ ga := by omega
  have n2 : w.heap.size ≠ gb := by omega
  have n3 : w1.heap.size ≠ ga := by have := HW1.out.size; omega
  have n4 : w1.heap.size ≠ gb := by omega
  have n5 : w2.heap.size ≠ ga := by omega
  have n6 : ga ≠ gb := by omega
  have n7 : w2.heap.size ≠ gb := by omega
  obtain ⟨⟨ua, ca⟩, fa⟩ := own_cell OA.out List.length_replicate hk
  obtain ⟨⟨ub, cb⟩, fb⟩ := own_cell OB.out List.length_replicate hk
  have OA2 := Lib.hid (own_far (a := ⟨gb, k, none⟩) (own_set (j := k) OA.out List.length_replicate (base - 1)) n6.symm (.int .i64 1))
  have OB2 := Lib.hid (own_set (j := k) (own_far (a := ⟨ga, k, none⟩) OB.out n6 (.int .i64 (base - 1))) List.length_replicate 1)
  have HB2 := Lib.hid ((HBW.out.setCell (p := ⟨ga, k, none⟩) (by show w.heap.size ≤ ga; omega) (.int .i64 (base - 1))).setCell (p := ⟨gb, k, none⟩) (by show w.heap.size ≤ gb; omega) (.int .i64 1))
  have DA := Lib.hid ((DigB.zero (base := base) width hb).set k (x := base - 1) (by omega) (by omega))
  have DB := Lib.hid ((DigB.zero (base := base) width hb).set k (x := 1) (by omega) (by omega))
  go_wp2_with fail
  refine bodyPost_ret (v := .agg #[.int .i64 base, .slice (some ⟨ga, 0, none⟩) width c1, .int .i64 base, .slice (some ⟨gb, 0, none⟩) width c2, .int .i64 0, .slice none 0 0, .int .i64 0]) (by simp [results, Try.results111, go_sem, q0, q1, q2, q3, q4, q5, q6, fz, n1, n2, n1.symm, n2.symm]) rfl ⟨_, _, _, _, _, _, rfl, (st7_own OA2.out n1 _ _ _ _ _ _ _).mono (by omega), (st7_own OB2.out n2 _ _ _ _ _ _ _).mono (by omega), DA.out, DB.out, st7_below HB2.out (Nat.le_refl _) _ _ _ _ _ _ _⟩
set_option maxRecDepth 100000 in
set_option maxHeartbeats 3200000 in
theorem l20Pair_late (base : Int) (width k : Nat) (w : World) (hb : 2 ≤ base) (hb2 : base ≤ 16) (hw : width ≤ 16) (hk : k < width) (hkp : 1 ≤ k) :
    Calls Try.prog 111 #[.int .i64 base, .int .i64 width, .int .i64 k, .bool true] w fun e w' => ∃ A c B d ds es, e = .returned (.agg #[.int .i64 base, .slice A width c, .int .i64 base, .slice B width d, .int .i64 0, .slice none 0 0, .int .i64 0]) ∧ OwnI w' w.heap.size (.slice A width c) ds ∧ OwnI w' w.heap.size (.slice B width d) es ∧ DigB base width ds ∧ DigB base width es ∧ Below w.heap.size w w' := by
  have h1 : 0 < width := by omega
  have hk0 : (0 : Int) ≤ (k : Int) := by omega
  have hk1 : (k : Int) < (width : Int) := by omega
  obtain ⟨j, hj⟩ : ∃ j : Nat, k = j + 1 := ⟨k - 1, by omega⟩
  subst hj
  have hj0 : (0 : Int) ≤ (j : Int) := by omega
  have hj1 : (j : Int) < (width : Int) := by omega
  obtain ⟨r0, hr0⟩ : ∃ r0, r0 = w.alloc (.cells #[.int .i64 0, .slice none 0 0, .int .i64 0, .slice none 0 0, .int .i64 0, .slice none 0 0, .int .i64 0] 62) := ⟨_, rfl⟩
  have hba : Below w.heap.size w r0 := by rw [hr0]; exact (Below.refl _ _).alloc (Nat.le_refl _) _
  have z0 : r0.heap.size = w.heap.size + 1 := by rw [hr0]; simp
  have hR : r0.heap[w.heap.size]? = some (.cells #[.int .i64 0, .slice none 0 0, .int .i64 0, .slice none 0 0, .int .i64 0, .slice none 0 0, .int .i64 0] 62 (0, 0)) := by rw [hr0]; exact heap_alloc_new _ _
  have HZ0 := Lib.hid z0
  have HR := Lib.hid hR
  have HBA := Lib.hid hba
  clear z0 hR hba
  go_enter Try.func111, Try.ntmps111
  go_wp2_with fail
  rw [← hr0]
  clear hr0
  refine (l02New_any base width r0 hb hb2 hw).mono ?_; rintro e w1 ⟨A1, c1, rfl, o1, hw1⟩
  have hz1 : w.heap.size + 1 ≤ w1.heap.size := by have := hw1.size; have := HZ0.out; omega
  have HW1 := Lib.hid hw1
  have HO1 := Lib.hid o1
  clear hw1 o1
  go_wp2_with fail
  refine (l02New_any base width _ hb hb2 hw).mono ?_; rintro e w2 ⟨A2, c2, rfl, o2, hw2⟩
  have hz2 : w1.heap.size + 1 ≤ w2.heap.size := by have := hw2.size; simpa using this
  obtain ⟨gb, rfl, gb1, gb2⟩ := own_some (o2.mono (show w1.heap.size + 1 ≤ _ by simp)) List.length_replicate h1
  have hba1 : Below w1.heap.size w1 (w1.alloc (.cells #[.int .i64 base, .slice A1 width c1] 60)) := (Below.refl _ _).alloc (Nat.le_refl _) _
  obtain ⟨W, hW⟩ : ∃ W, w2.alloc (.cells #[.int .i64 base, .slice (some ⟨gb, 0, none⟩) width c2] 60) = W := ⟨_, rfl⟩
  have hba2 : Below w2.heap.size w2 W := by rw [← hW]; exact (Below.refl _ _).alloc (Nat.le_refl _) _
  have hzW : W.heap.size = w2.heap.size + 1 := by rw [← hW]; simp
  have hTb : W.heap[w2.heap.size]? = some (.cells #[.int .i64 base, .slice (some ⟨gb, 0, none⟩) width c2] 60 (0, 0)) := by rw [← hW]; exact heap_alloc_new _ _
  have hTa : W.heap[w1.heap.size]? = some (.cells #[.int .i64 base, .slice A1 width c1] 60 (0, 0)) := by
    rw [hba2.block _ (by omega), hw2.block _ (by simp)]; exact heap_alloc_new _ _
  have hRW : W.heap[w.heap.size]? = some (.cells #[.int .i64 0, .slice none 0 0, .int .i64 0, .slice none 0 0, .int .i64 0, .slice none 0 0, .int .i64 0] 62 (0, 0)) := by
    rw [hba2.block _ (by omega), hw2.block _ (by simp; omega), hba1.block _ (by omega), HW1.out.block _ (by have := HZ0.out; omega)]; exact HR.out
  have oa : OwnI W (w.heap.size + 1) (.slice A1 width c1) (List.replicate width 0) := (((HO1.out.below hba1).below hw2).below hba2).mono (Nat.le_of_eq HZ0.out.symm)
  have ob : OwnI W (w1.heap.size + 1) (.slice (some ⟨gb, 0, none⟩) width c2) (List.replicate width 0) := (o2.below hba2).mono (by simp)
  have hbW : Below w.heap.size w W := (((HBA.out.trans (HW1.out.mono (by have := HZ0.out; omega))).trans (hba1.mono (by omega))).trans (hw2.mono (by simp; omega))).trans (hba2.mono (by omega))
  have HZW := Lib.hid hzW
  obtain ⟨ga, rfl, ga1, ga2⟩ := own_some (HO1.out) List.length_replicate h1
  have ga3 : w.heap.size + 1 ≤ ga := by have := HZ0.out; omega
  have HBW := Lib.hid hbW
  have a0 : W.cell? ⟨w1.heap.size, 0, none⟩ = some (.int .i64 base) := by rw [cell_of_row _ _ _ _ _ _ hTa]; rfl
  have a1 : W.cell? ⟨w1.heap.size, 1, none⟩ = some (.slice (some ⟨ga, 0, none⟩) width c1) := by rw [cell_of_row _ _ _ _ _ _ hTa]; rfl
  have b0 : W.cell? ⟨w2.heap.size, 0, none⟩ = some (.int .i64 base) := by rw [cell_of_row _ _ _ _ _ _ hTb]; rfl
  have b1 : W.cell? ⟨w2.heap.size, 1, none⟩ = some (.slice (some ⟨gb, 0, none⟩) width c2) := by rw [cell_of_row _ _ _ _ _ _ hTb]; rfl
  have q0 : W.cell? ⟨w.heap.size, 0, none⟩ = some (.int .i64 0) := by rw [cell_of_row _ _ _ _ _ _ hRW]; rfl
  have q1 : W.cell? ⟨w.heap.size, 1, none⟩ = some (.slice none 0 0) := by rw [cell_of_row _ _ _ _ _ _ hRW]; rfl
  have q2 : W.cell? ⟨w.heap.size, 2, none⟩ = some (.int .i64 0) := by rw [cell_of_row _ _ _ _ _ _ hRW]; rfl
  have q3 : W.cell? ⟨w.heap.size, 3, none⟩ = some (.slice none 0 0) := by rw [cell_of_row _ _ _ _ _ _ hRW]; rfl
  have q4 : W.cell? ⟨w.heap.size, 4, none⟩ = some (.int .i64 0) := by rw [cell_of_row _ _ _ _ _ _ hRW]; rfl
  have q5 : W.cell? ⟨w.heap.size, 5, none⟩ = some (.slice none 0 0) := by rw [cell_of_row _ _ _ _ _ _ hRW]; rfl
  have q6 : W.cell? ⟨w.heap.size, 6, none⟩ = some (.int .i64 0) := by rw [cell_of_row _ _ _ _ _ _ hRW]; rfl
  have fz : ∀ o, W.frozen? ⟨w.heap.size, o, none⟩ = false := fun o => frozen_of_row _ _ _ _ _ hRW
  have OA := Lib.hid oa
  have OB := Lib.hid ob
  clear hTa hTb hRW oa ob hbW hw2 o2 hba1 hba2 hzW
  have n1 : w.heap.size ≠ ga := by omega
  have n2 : w.heap.size ≠ gb := by omega
  have n3 : w1.heap.size ≠ ga := by have := HW1.out.size; omega
  have n4 : w1.heap.size ≠ gb := by omega
  have n5 : w2.heap.size ≠ ga := by omega
  have n6 : ga ≠ gb := by omega
  have n7 : w2.heap.size ≠ gb := by omega
  obtain ⟨⟨ua, ca⟩, fa⟩ := own_cell OA.out List.length_replicate hk
  obtain ⟨⟨ua2, ca2⟩, fa2⟩ := own_cell OA.out List.length_replicate (show j < width by omega)
  obtain ⟨⟨ub, cb⟩, fb⟩ := own_cell OB.out List.length_replicate (show j < width by omega)
  have OA2 := Lib.hid (own_far (a := ⟨gb, j, none⟩) (own_set (j := j) (own_set (j := j + 1) OA.out List.length_replicate (base - 1)) (by rw [List.length_set]; exact List.length_replicate) (base - 1)) n6.symm (.int .i64 1))
  have OB2 := Lib.hid (own_set (j := j) (own_far (a := ⟨ga, j, none⟩) (own_far (a := ⟨ga, j + 1, none⟩) OB.out n6 (.int .i64 (base - 1))) n6 (.int .i64 (base - 1))) List.length_replicate 1)
  have HB2 := Lib.hid (((HBW.out.setCell (p := ⟨ga, j + 1, none⟩) (by show w.heap.size ≤ ga; omega) (.int .i64 (base - 1))).setCell (p := ⟨ga, j, none⟩) (by show w.heap.size ≤ ga; omega) (.int .i64 (base - 1))).setCell (p := ⟨gb, j, none⟩) (by show w.heap.size ≤ gb; omega) (.int .i64 1))
  have DA := Lib.hid (((DigB.zero (base := base) width hb).set (j + 1) (x := base - 1) (by omega) (by omega)).set j (x := base - 1) (by omega) (by omega))
  have DB := Lib.hid ((DigB.zero (base := base) width hb).set j (x := 1) (by omega) (by omega))
  go_wp2_with fail
  refine bodyPost_ret (v := .agg #[.int .i64 base, .slice (some ⟨ga, 0, none⟩) width c1, .int .i64 base, .slice (some ⟨gb, 0, none⟩) width c2, .int .i64 0, .slice none 0 0, .int .i64 0]) (by simp [results, Try.results111, go_sem, q0, q1, q2, q3, q4, q5, q6, fz, n1, n2, n1.symm, n2.symm]) rfl ⟨_, _, _, _, _, _, rfl, (st7_own OA2.out n1 _ _ _ _ _ _ _).mono (by omega), (st7_own OB2.out n2 _ _ _ _ _ _ _).mono (by omega), DA.out, DB.out, st7_below HB2.out (Nat.le_refl _) _ _ _ _ _ _ _⟩
end Go.Proofs.Ytmnegfhigfipbaa
