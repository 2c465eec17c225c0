/- Part 6: lemmas and contracts of the claim's functions. -/
import Derived.Test.YtgpmngcemnnpmaaDoorZC1
import Derived.Test.YtgpmngcemnnpmaaDoorZC2
import Derived.Test.YtgpmngcemnnpmaaDoorZC3
import Derived.Test.YtgpmngcemnnpmaaDoorZC4
import Derived.Test.YtgpmngcemnnpmaaDoorZC5
namespace Go.Proofs.YtgpmngcemnnpmaaDoor
open Go.RowKit Go.Sort
theorem Kn.rivNN {w0 w : World} {m : List Ent} {A : Option Addr} {n c : Nat} {ds : List Int} (h : Kn w0 (rowNN A n c ds :: m) w) (hl : ds.length = n) : RI w A n ds := by
  subst hl
  exact Kn.riv h
theorem EngR.keepL {w w' : World} {wd n : Nat} {ds : List Int} {e : Ending} (h : EngR wd n ds w e w') : ∃ gr ec, e = .returned (.agg #[.int .i64 (wd : Int), .slice (some ⟨gr, 0, none⟩) n ec]) ∧ Kn w [rowNN (some ⟨gr, 0, none⟩) n ec ds] w' := h
set_option maxRecDepth 100000 in
set_option maxHeartbeats 6400000 in
theorem prepared_ok (wd n : Nat) (A : Option Addr) (c : Nat) (cs : List Int) (w : World) (h1 : 1 ≤ wd) (h12 : wd ≤ 12) (n0 : 0 < n) (n9 : n ≤ 9) (hr : RI w A n cs) (hv : InM (pw 10 wd) n (fnL cs)) :
    Calls Tryd.prog 53 #[.agg #[.int .i64 (wd : Int), .slice A n c]] w (EngR wd n ((List.range n).map (prF (pw 10 wd) n (fnL cs))) w) := by
  have hM := pw10_bd h1 h12
  have KC := Lib.hid (fun W (hW : Below w.heap.size w W) => copied_ok wd n A c cs W n0 n9 (hr.below hW))
  have hlr := fun j => (show ((List.range n).map (itB (pw 10 wd) n j (fnL cs))).length = n by simp)
  have KB := (fun (j : Nat) (B : Option Addr) (bc : Nat) W (hW : RI W B n ((List.range n).map (itB (pw 10 wd) n j (fnL cs)))) => by
    have h := back_ok wd n B bc _ W h1 h12 n0 n9 hW (fun i hi => by
      have h2 := hv.it (show 0 < pw 10 wd by omega) j i hi
      have e : fnL ((List.range n).map (itB (pw 10 wd) n j (fnL cs))) i = itB (pw 10 wd) n j (fnL cs) i := by simp [fnL, List.getD, hi]
      rw [e]; exact h2)
    have e : (List.range n).map (bkF (pw 10 wd) n (fnL ((List.range n).map (itB (pw 10 wd) n j (fnL cs))))) = (List.range n).map (itB (pw 10 wd) n (j + 1) (fnL cs)) := List.map_congr_left fun i hi => bkF_congr (fun k hk => by simp [fnL, List.getD, hk]) i (List.mem_range.1 hi)
    rw [e] at h
    exact h)
  have hcs : cs = mixG (prF (pw 10 wd) n (fnL cs)) (fnL cs) n 0 := by rw [mixG_zero, ← hr.1, map_fnL]
  have HFU := Lib.hid (mixG_full (prF (pw 10 wd) n (fnL cs)) (fnL cs) n (k := n) (fun i hi hk => by omega))
  have HR0 := Lib.hid (fun W (hW : Below w.heap.size w W) => (show RI W A n ((List.range n).map (itB (pw 10 wd) n 0 (fnL cs))) by
    have e : (List.range n).map (itB (pw 10 wd) n 0 (fnL cs)) = cs := by show (List.range n).map (fnL cs) = cs; rw [← hr.1]; exact map_fnL cs
    rw [e]; exact hr.below hW))
  obtain ⟨M, hMM⟩ : ∃ M, pw 10 wd = M := ⟨_, rfl⟩
  rw [hMM] at hcs
  rw [hMM] at HFU
  simp only [hMM] at KB HR0 ⊢
  unfold EngR rowNN at KC
  obtain ⟨f, hf⟩ : ∃ f, fnL cs = f := ⟨_, rfl⟩
  simp only [hf] at hcs HFU KB HR0 ⊢
  rw [hcs] at KC
  replace KB := Lib.hid KB
  clear hr hv hMM hf hcs hlr hM
  obtain ⟨g, hg⟩ : ∃ g, w.heap.size = g := ⟨_, rfl⟩
  have K0 := ((Kn.nil w).al [.int .i64 (wd : Int), .slice A n c] 45).al [.int .i64 0, .slice none 0 0] 45
  simp only [World.size_alloc, hg] at K0
  go_enter Tryd.func53, Tryd.ntmps53
  go_upto_region 1 with fail
  try rw [hg]
  refine Code.wp.kn K0 ?_; clear K0 hg; intro w1 K1
  have HB := Lib.hid (fun W (h : Kn w [.blk g [.int .i64 (wd : Int), .slice A n c] 45] W) => box2 h)
  have hKd := K1.drew
  have HG := Lib.hid (HB.out _ (hKd.sel [1] 99 (by decide) (by decide)))
  go_cut [3, 4] (fun pp qq wx => ∃ (g3 g4 gr ec : Nat), pp = .pointer (some ⟨g3, 0, none⟩) ∧ qq = .pointer (some ⟨g4, 0, none⟩) ∧ Kn w [.blk g4 [.int .i64 (wd : Int), .slice A n c] 45, .blk g3 [.int .i64 (wd : Int), .slice (some ⟨gr, 0, none⟩) n ec] 45, .row (.slice (some ⟨gr, 0, none⟩) n ec) 2 1 n ((mixG (prF M n f) f n 0).map (Value.int .i64)), .blk (g + 1) [.int .i64 0, .slice none 0 0] 45, .blk g [.int .i64 (wd : Int), .slice A n c] 45] wx)
  case first =>
    refine wp_region_held_drew (S := fun W => W.cell? ⟨g, 0, none⟩ = some (.int .i64 (wd : Int)) ∧ W.cell? ⟨g, 1, none⟩ = some (.slice A n c)) (by kernel_rfl) ?_ (fun hHeld => ?_)
    · exact HG.out
    try dsimp only
    generalize w1.drew = wd' at hKd HG hHeld ⊢
    clear K1
    refine wpAnyH_take (i := 0) (v := ?_) rfl (by kernel_rfl) (by kernel_rfl) (by kernel_rfl) (fun _ _ _ h => h) (Or.inl ⟨by rfl, ?_⟩) hHeld ?_
    rotate_left
    · (intro w hSw; (try dsimp only at hSw); go_simp; try with_reducible rfl)
    try simp only [Act.put, List.setIfInBounds_toArray, List.set_cons_zero, List.set_cons_succ, List.getElem_toArray, List.getElem_cons_succ, List.getElem_cons_zero]
    refine wpAnyH_take (i := 2) (v := ?_) rfl (by kernel_rfl) (by kernel_rfl) (by kernel_rfl) (fun _ _ _ h => h) (Or.inl ⟨by rfl, ?_⟩) hHeld ?_
    rotate_left
    · (intro w hSw; (try dsimp only at hSw); go_simp; try with_reducible rfl)
    try simp only [Act.put, List.setIfInBounds_toArray, List.set_cons_zero, List.set_cons_succ, List.getElem_toArray, List.getElem_cons_succ, List.getElem_cons_zero]
    refine wpAnyH_ready (rs := [1, 3, 4]) (by kernel_rfl) (by decide) (AllReadyH.cons (o := _) rfl (fun K hK' => ?_) (AllReadyH.cons (o := _) rfl (fun K hK' => ?_) (AllReadyH.cons (o := _) rfl (fun K hK' => ?_) AllReadyH.nil)))
    · skip
      go_simp
      go_at_call 85
      refine (KC.out _ hKd.below).mono ?_
      rintro e wo2 ⟨gr2, ec2, rfl, hK⟩
      have KO2 := hKd.join hK
      clear hK
      have HG := Lib.hid (HB.out _ (KO2.sel [2] 99 (by decide) (by decide)))
      refine hK'.out _ _ HG.out (fun hHeld2 => ?_)
      clear hK' hHeld
      have hHeld := hHeld2
      clear hHeld2
      try simp only [Act.put, List.setIfInBounds_toArray]
      refine wpAnyH_ready (rs := [3, 4]) (by kernel_rfl) (by decide) (AllReadyH.cons (o := _) rfl (fun K hK' => ?_) (AllReadyH.cons (o := _) rfl (fun K hK' => ?_) AllReadyH.nil))
      · skip
        go_simp
        have KO3 := KO2.al [.int .i64 0, .slice none 0 0] 45
        have HG := Lib.hid (HB.out _ (KO3.sel [3] 99 (by decide) (by decide)))
        refine hK'.out _ _ HG.out (fun hHeld2 => ?_)
        clear hK' hHeld
        have hHeld := hHeld2
        clear hHeld2
        try simp only [Act.put, List.setIfInBounds_toArray]
        generalize wo2.alloc (.cells #[.int .i64 0, .slice none 0 0] 45) = wo3 at KO3 hHeld ⊢
        obtain ⟨gal3, hgal3⟩ : ∃ g, wo2.heap.size = g := ⟨_, rfl⟩
        rw [hgal3] at KO3 ⊢
        clear hgal3
        refine wpAnyH_ready (rs := [4]) (by kernel_rfl) (by decide) (AllReadyH.cons (o := _) rfl (fun K hK' => ?_) AllReadyH.nil)
        go_simp
        have KO4 := KO3.al [.int .i64 0, .slice none 0 0] 45
        have HG := Lib.hid (HB.out _ (KO4.sel [4] 99 (by decide) (by decide)))
        refine hK'.out _ _ HG.out (fun hHeld2 => ?_)
        clear hK' hHeld
        have hHeld := hHeld2
        clear hHeld2
        try simp only [Act.put, List.setIfInBounds_toArray]
        generalize wo3.alloc (.cells #[.int .i64 0, .slice none 0 0] 45) = wo4 at KO4 hHeld ⊢
        obtain ⟨gam4, hgam4⟩ : ∃ g, wo3.heap.size = g := ⟨_, rfl⟩
        rw [hgam4] at KO4 ⊢
        clear hgam4
        refine wpAnyH_ready (rs := [5]) (by kernel_rfl) (by decide) (AllReadyH.cons (o := _) rfl (fun K hK' => ?_) AllReadyH.nil)
        obtain ⟨s1, s2, s3, -⟩ := (KO4.front 1 rfl).cells
        have KO5 := (((KO4.front 1 rfl).st 0 (.int .i64 (wd : Int))).st 1 (.slice (some ⟨gr2, 0, none⟩) n ec2))
        go_simp
        clear s1 s2 s3
        have HG := Lib.hid (HB.out _ (KO5.sel [4] 99 (by decide) (by decide)))
        refine hK'.out _ _ HG.out (fun hHeld2 => ?_)
        clear hK' hHeld
        have hHeld := hHeld2
        clear hHeld2
        try simp only [Act.put, List.setIfInBounds_toArray]
        refine wpAnyH_ready (rs := [6]) (by kernel_rfl) (by decide) (AllReadyH.cons (o := _) rfl (fun K hK' => ?_) AllReadyH.nil)
        obtain ⟨s1, s2, s3, -⟩ := (KO5.front 1 rfl).cells
        have KO6 := (((KO5.front 1 rfl).st 0 (.int .i64 (wd : Int))).st 1 (.slice A n c))
        go_simp
        clear s1 s2 s3
        have HG := Lib.hid (HB.out _ (KO6.sel [4] 99 (by decide) (by decide)))
        refine hK'.out _ _ HG.out (fun hHeld2 => ?_)
        clear hK' hHeld
        have hHeld := hHeld2
        clear hHeld2
        try simp only [Act.put, List.setIfInBounds_toArray]
        refine wpAnyH_done (by kernel_rfl) ?_ _
        go_wp2_with fail
        go_meet
        exact ⟨_, _, _, _, rfl, rfl, (KO6.sel [0, 1, 2, 3, 4] 99 (by decide) (by decide))⟩
      · skip
        go_simp
        have KO7 := KO2.al [.int .i64 0, .slice none 0 0] 45
        have HG := Lib.hid (HB.out _ (KO7.sel [3] 99 (by decide) (by decide)))
        refine hK'.out _ _ HG.out (fun hHeld2 => ?_)
        clear hK' hHeld
        have hHeld := hHeld2
        clear hHeld2
        try simp only [Act.put, List.setIfInBounds_toArray]
        generalize wo2.alloc (.cells #[.int .i64 0, .slice none 0 0] 45) = wo7 at KO7 hHeld ⊢
        obtain ⟨gam7, hgam7⟩ : ∃ g, wo2.heap.size = g := ⟨_, rfl⟩
        rw [hgam7] at KO7 ⊢
        clear hgam7
        refine wpAnyH_ready (rs := [3]) (by kernel_rfl) (by decide) (AllReadyH.cons (o := _) rfl (fun K hK' => ?_) AllReadyH.nil)
        go_simp
        have KO8 := KO7.al [.int .i64 0, .slice none 0 0] 45
        have HG := Lib.hid (HB.out _ (KO8.sel [4] 99 (by decide) (by decide)))
        refine hK'.out _ _ HG.out (fun hHeld2 => ?_)
        clear hK' hHeld
        have hHeld := hHeld2
        clear hHeld2
        try simp only [Act.put, List.setIfInBounds_toArray]
        generalize wo7.alloc (.cells #[.int .i64 0, .slice none 0 0] 45) = wo8 at KO8 hHeld ⊢
        obtain ⟨gal8, hgal8⟩ : ∃ g, wo7.heap.size = g := ⟨_, rfl⟩
        rw [hgal8] at KO8 ⊢
        clear hgal8
        refine wpAnyH_ready (rs := [5]) (by kernel_rfl) (by decide) (AllReadyH.cons (o := _) rfl (fun K hK' => ?_) AllReadyH.nil)
        obtain ⟨s1, s2, s3, -⟩ := (KO8.front 0 rfl).cells
        have KO9 := (((KO8.front 0 rfl).st 0 (.int .i64 (wd : Int))).st 1 (.slice (some ⟨gr2, 0, none⟩) n ec2))
        go_simp
        clear s1 s2 s3
        have HG := Lib.hid (HB.out _ (KO9.sel [4] 99 (by decide) (by decide)))
        refine hK'.out _ _ HG.out (fun hHeld2 => ?_)
        clear hK' hHeld
        have hHeld := hHeld2
        clear hHeld2
        try simp only [Act.put, List.setIfInBounds_toArray]
        refine wpAnyH_ready (rs := [6]) (by kernel_rfl) (by decide) (AllReadyH.cons (o := _) rfl (fun K hK' => ?_) AllReadyH.nil)
        obtain ⟨s1, s2, s3, -⟩ := (KO9.front 1 rfl).cells
        have KO10 := (((KO9.front 1 rfl).st 0 (.int .i64 (wd : Int))).st 1 (.slice A n c))
        go_simp
        clear s1 s2 s3
        have HG := Lib.hid (HB.out _ (KO10.sel [4] 99 (by decide) (by decide)))
        refine hK'.out _ _ HG.out (fun hHeld2 => ?_)
        clear hK' hHeld
        have hHeld := hHeld2
        clear hHeld2
        try simp only [Act.put, List.setIfInBounds_toArray]
        refine wpAnyH_done (by kernel_rfl) ?_ _
        go_wp2_with fail
        go_meet
        exact ⟨_, _, _, _, rfl, rfl, (KO10.sel [0, 1, 2, 3, 4] 99 (by decide) (by decide))⟩
    · skip
      go_simp
      have KO11 := hKd.al [.int .i64 0, .slice none 0 0] 45
      have HG := Lib.hid (HB.out _ (KO11.sel [2] 99 (by decide) (by decide)))
      refine hK'.out _ _ HG.out (fun hHeld2 => ?_)
      clear hK' hHeld
      have hHeld := hHeld2
      clear hHeld2
      try simp only [Act.put, List.setIfInBounds_toArray]
      generalize wd'.alloc (.cells #[.int .i64 0, .slice none 0 0] 45) = wo11 at KO11 hHeld ⊢
      obtain ⟨gal11, hgal11⟩ : ∃ g, wd'.heap.size = g := ⟨_, rfl⟩
      rw [hgal11] at KO11 ⊢
      clear hgal11
      refine wpAnyH_ready (rs := [1, 4]) (by kernel_rfl) (by decide) (AllReadyH.cons (o := _) rfl (fun K hK' => ?_) (AllReadyH.cons (o := _) rfl (fun K hK' => ?_) AllReadyH.nil))
      · skip
        go_simp
        go_at_call 85
        refine (KC.out _ KO11.below).mono ?_
        rintro e wo12 ⟨gr12, ec12, rfl, hK⟩
        have KO12 := KO11.join hK
        clear hK
        have HG := Lib.hid (HB.out _ (KO12.sel [3] 99 (by decide) (by decide)))
        refine hK'.out _ _ HG.out (fun hHeld2 => ?_)
        clear hK' hHeld
        have hHeld := hHeld2
        clear hHeld2
        try simp only [Act.put, List.setIfInBounds_toArray]
        refine wpAnyH_ready (rs := [4]) (by kernel_rfl) (by decide) (AllReadyH.cons (o := _) rfl (fun K hK' => ?_) AllReadyH.nil)
        go_simp
        have KO13 := KO12.al [.int .i64 0, .slice none 0 0] 45
        have HG := Lib.hid (HB.out _ (KO13.sel [4] 99 (by decide) (by decide)))
        refine hK'.out _ _ HG.out (fun hHeld2 => ?_)
        clear hK' hHeld
        have hHeld := hHeld2
        clear hHeld2
        try simp only [Act.put, List.setIfInBounds_toArray]
        generalize wo12.alloc (.cells #[.int .i64 0, .slice none 0 0] 45) = wo13 at KO13 hHeld ⊢
        obtain ⟨gam13, hgam13⟩ : ∃ g, wo12.heap.size = g := ⟨_, rfl⟩
        rw [hgam13] at KO13 ⊢
        clear hgam13
        refine wpAnyH_ready (rs := [5]) (by kernel_rfl) (by decide) (AllReadyH.cons (o := _) rfl (fun K hK' => ?_) AllReadyH.nil)
        obtain ⟨s1, s2, s3, -⟩ := (KO13.front 2 rfl).cells
        have KO14 := (((KO13.front 2 rfl).st 0 (.int .i64 (wd : Int))).st 1 (.slice (some ⟨gr12, 0, none⟩) n ec12))
        go_simp
        clear s1 s2 s3
        have HG := Lib.hid (HB.out _ (KO14.sel [4] 99 (by decide) (by decide)))
        refine hK'.out _ _ HG.out (fun hHeld2 => ?_)
        clear hK' hHeld
        have hHeld := hHeld2
        clear hHeld2
        try simp only [Act.put, List.setIfInBounds_toArray]
        refine wpAnyH_ready (rs := [6]) (by kernel_rfl) (by decide) (AllReadyH.cons (o := _) rfl (fun K hK' => ?_) AllReadyH.nil)
        obtain ⟨s1, s2, s3, -⟩ := (KO14.front 1 rfl).cells
        have KO15 := (((KO14.front 1 rfl).st 0 (.int .i64 (wd : Int))).st 1 (.slice A n c))
        go_simp
        clear s1 s2 s3
        have HG := Lib.hid (HB.out _ (KO15.sel [4] 99 (by decide) (by decide)))
        refine hK'.out _ _ HG.out (fun hHeld2 => ?_)
        clear hK' hHeld
        have hHeld := hHeld2
        clear hHeld2
        try simp only [Act.put, List.setIfInBounds_toArray]
        refine wpAnyH_done (by kernel_rfl) ?_ _
        go_wp2_with fail
        go_meet
        exact ⟨_, _, _, _, rfl, rfl, (KO15.sel [0, 1, 2, 3, 4] 99 (by decide) (by decide))⟩
      · skip
        go_simp
        have KO16 := KO11.al [.int .i64 0, .slice none 0 0] 45
        have HG := Lib.hid (HB.out _ (KO16.sel [3] 99 (by decide) (by decide)))
        refine hK'.out _ _ HG.out (fun hHeld2 => ?_)
        clear hK' hHeld
        have hHeld := hHeld2
        clear hHeld2
        try simp only [Act.put, List.setIfInBounds_toArray]
        generalize wo11.alloc (.cells #[.int .i64 0, .slice none 0 0] 45) = wo16 at KO16 hHeld ⊢
        obtain ⟨gam16, hgam16⟩ : ∃ g, wo11.heap.size = g := ⟨_, rfl⟩
        rw [hgam16] at KO16 ⊢
        clear hgam16
        refine wpAnyH_ready (rs := [1]) (by kernel_rfl) (by decide) (AllReadyH.cons (o := _) rfl (fun K hK' => ?_) AllReadyH.nil)
        go_simp
        go_at_call 85
        refine (KC.out _ KO16.below).mono ?_
        rintro e wo17 ⟨gr17, ec17, rfl, hK⟩
        have KO17 := KO16.join hK
        clear hK
        have HG := Lib.hid (HB.out _ (KO17.sel [4] 99 (by decide) (by decide)))
        refine hK'.out _ _ HG.out (fun hHeld2 => ?_)
        clear hK' hHeld
        have hHeld := hHeld2
        clear hHeld2
        try simp only [Act.put, List.setIfInBounds_toArray]
        refine wpAnyH_ready (rs := [5]) (by kernel_rfl) (by decide) (AllReadyH.cons (o := _) rfl (fun K hK' => ?_) AllReadyH.nil)
        obtain ⟨s1, s2, s3, -⟩ := (KO17.front 2 rfl).cells
        have KO18 := (((KO17.front 2 rfl).st 0 (.int .i64 (wd : Int))).st 1 (.slice (some ⟨gr17, 0, none⟩) n ec17))
        go_simp
        clear s1 s2 s3
        have HG := Lib.hid (HB.out _ (KO18.sel [4] 99 (by decide) (by decide)))
        refine hK'.out _ _ HG.out (fun hHeld2 => ?_)
        clear hK' hHeld
        have hHeld := hHeld2
        clear hHeld2
        try simp only [Act.put, List.setIfInBounds_toArray]
        refine wpAnyH_ready (rs := [6]) (by kernel_rfl) (by decide) (AllReadyH.cons (o := _) rfl (fun K hK' => ?_) AllReadyH.nil)
        obtain ⟨s1, s2, s3, -⟩ := (KO18.front 2 rfl).cells
        have KO19 := (((KO18.front 2 rfl).st 0 (.int .i64 (wd : Int))).st 1 (.slice A n c))
        go_simp
        clear s1 s2 s3
        have HG := Lib.hid (HB.out _ (KO19.sel [4] 99 (by decide) (by decide)))
        refine hK'.out _ _ HG.out (fun hHeld2 => ?_)
        clear hK' hHeld
        have hHeld := hHeld2
        clear hHeld2
        try simp only [Act.put, List.setIfInBounds_toArray]
        refine wpAnyH_done (by kernel_rfl) ?_ _
        go_wp2_with fail
        go_meet
        exact ⟨_, _, _, _, rfl, rfl, (KO19.sel [0, 1, 2, 3, 4] 99 (by decide) (by decide))⟩
    · skip
      go_simp
      have KO20 := hKd.al [.int .i64 0, .slice none 0 0] 45
      have HG := Lib.hid (HB.out _ (KO20.sel [2] 99 (by decide) (by decide)))
      refine hK'.out _ _ HG.out (fun hHeld2 => ?_)
      clear hK' hHeld
      have hHeld := hHeld2
      clear hHeld2
      try simp only [Act.put, List.setIfInBounds_toArray]
      generalize wd'.alloc (.cells #[.int .i64 0, .slice none 0 0] 45) = wo20 at KO20 hHeld ⊢
      obtain ⟨gam20, hgam20⟩ : ∃ g, wd'.heap.size = g := ⟨_, rfl⟩
      rw [hgam20] at KO20 ⊢
      clear hgam20
      refine wpAnyH_ready (rs := [1, 3]) (by kernel_rfl) (by decide) (AllReadyH.cons (o := _) rfl (fun K hK' => ?_) (AllReadyH.cons (o := _) rfl (fun K hK' => ?_) AllReadyH.nil))
      · skip
        go_simp
        go_at_call 85
        refine (KC.out _ KO20.below).mono ?_
        rintro e wo21 ⟨gr21, ec21, rfl, hK⟩
        have KO21 := KO20.join hK
        clear hK
        have HG := Lib.hid (HB.out _ (KO21.sel [3] 99 (by decide) (by decide)))
        refine hK'.out _ _ HG.out (fun hHeld2 => ?_)
        clear hK' hHeld
        have hHeld := hHeld2
        clear hHeld2
        try simp only [Act.put, List.setIfInBounds_toArray]
        refine wpAnyH_ready (rs := [3]) (by kernel_rfl) (by decide) (AllReadyH.cons (o := _) rfl (fun K hK' => ?_) AllReadyH.nil)
        go_simp
        have KO22 := KO21.al [.int .i64 0, .slice none 0 0] 45
        have HG := Lib.hid (HB.out _ (KO22.sel [4] 99 (by decide) (by decide)))
        refine hK'.out _ _ HG.out (fun hHeld2 => ?_)
        clear hK' hHeld
        have hHeld := hHeld2
        clear hHeld2
        try simp only [Act.put, List.setIfInBounds_toArray]
        generalize wo21.alloc (.cells #[.int .i64 0, .slice none 0 0] 45) = wo22 at KO22 hHeld ⊢
        obtain ⟨gal22, hgal22⟩ : ∃ g, wo21.heap.size = g := ⟨_, rfl⟩
        rw [hgal22] at KO22 ⊢
        clear hgal22
        refine wpAnyH_ready (rs := [5]) (by kernel_rfl) (by decide) (AllReadyH.cons (o := _) rfl (fun K hK' => ?_) AllReadyH.nil)
        obtain ⟨s1, s2, s3, -⟩ := (KO22.front 0 rfl).cells
        have KO23 := (((KO22.front 0 rfl).st 0 (.int .i64 (wd : Int))).st 1 (.slice (some ⟨gr21, 0, none⟩) n ec21))
        go_simp
        clear s1 s2 s3
        have HG := Lib.hid (HB.out _ (KO23.sel [4] 99 (by decide) (by decide)))
        refine hK'.out _ _ HG.out (fun hHeld2 => ?_)
        clear hK' hHeld
        have hHeld := hHeld2
        clear hHeld2
        try simp only [Act.put, List.setIfInBounds_toArray]
        refine wpAnyH_ready (rs := [6]) (by kernel_rfl) (by decide) (AllReadyH.cons (o := _) rfl (fun K hK' => ?_) AllReadyH.nil)
        obtain ⟨s1, s2, s3, -⟩ := (KO23.front 2 rfl).cells
        have KO24 := (((KO23.front 2 rfl).st 0 (.int .i64 (wd : Int))).st 1 (.slice A n c))
        go_simp
        clear s1 s2 s3
        have HG := Lib.hid (HB.out _ (KO24.sel [4] 99 (by decide) (by decide)))
        refine hK'.out _ _ HG.out (fun hHeld2 => ?_)
        clear hK' hHeld
        have hHeld := hHeld2
        clear hHeld2
        try simp only [Act.put, List.setIfInBounds_toArray]
        refine wpAnyH_done (by kernel_rfl) ?_ _
        go_wp2_with fail
        go_meet
        exact ⟨_, _, _, _, rfl, rfl, (KO24.sel [0, 1, 2, 3, 4] 99 (by decide) (by decide))⟩
      · skip
        go_simp
        have KO25 := KO20.al [.int .i64 0, .slice none 0 0] 45
        have HG := Lib.hid (HB.out _ (KO25.sel [3] 99 (by decide) (by decide)))
        refine hK'.out _ _ HG.out (fun hHeld2 => ?_)
        clear hK' hHeld
        have hHeld := hHeld2
        clear hHeld2
        try simp only [Act.put, List.setIfInBounds_toArray]
        generalize wo20.alloc (.cells #[.int .i64 0, .slice none 0 0] 45) = wo25 at KO25 hHeld ⊢
        obtain ⟨gal25, hgal25⟩ : ∃ g, wo20.heap.size = g := ⟨_, rfl⟩
        rw [hgal25] at KO25 ⊢
        clear hgal25
        refine wpAnyH_ready (rs := [1]) (by kernel_rfl) (by decide) (AllReadyH.cons (o := _) rfl (fun K hK' => ?_) AllReadyH.nil)
        go_simp
        go_at_call 85
        refine (KC.out _ KO25.below).mono ?_
        rintro e wo26 ⟨gr26, ec26, rfl, hK⟩
        have KO26 := KO25.join hK
        clear hK
        have HG := Lib.hid (HB.out _ (KO26.sel [4] 99 (by decide) (by decide)))
        refine hK'.out _ _ HG.out (fun hHeld2 => ?_)
        clear hK' hHeld
        have hHeld := hHeld2
        clear hHeld2
        try simp only [Act.put, List.setIfInBounds_toArray]
        refine wpAnyH_ready (rs := [5]) (by kernel_rfl) (by decide) (AllReadyH.cons (o := _) rfl (fun K hK' => ?_) AllReadyH.nil)
        obtain ⟨s1, s2, s3, -⟩ := (KO26.front 1 rfl).cells
        have KO27 := (((KO26.front 1 rfl).st 0 (.int .i64 (wd : Int))).st 1 (.slice (some ⟨gr26, 0, none⟩) n ec26))
        go_simp
        clear s1 s2 s3
        have HG := Lib.hid (HB.out _ (KO27.sel [4] 99 (by decide) (by decide)))
        refine hK'.out _ _ HG.out (fun hHeld2 => ?_)
        clear hK' hHeld
        have hHeld := hHeld2
        clear hHeld2
        try simp only [Act.put, List.setIfInBounds_toArray]
        refine wpAnyH_ready (rs := [6]) (by kernel_rfl) (by decide) (AllReadyH.cons (o := _) rfl (fun K hK' => ?_) AllReadyH.nil)
        obtain ⟨s1, s2, s3, -⟩ := (KO27.front 2 rfl).cells
        have KO28 := (((KO27.front 2 rfl).st 0 (.int .i64 (wd : Int))).st 1 (.slice A n c))
        go_simp
        clear s1 s2 s3
        have HG := Lib.hid (HB.out _ (KO28.sel [4] 99 (by decide) (by decide)))
        refine hK'.out _ _ HG.out (fun hHeld2 => ?_)
        clear hK' hHeld
        have hHeld := hHeld2
        clear hHeld2
        try simp only [Act.put, List.setIfInBounds_toArray]
        refine wpAnyH_done (by kernel_rfl) ?_ _
        go_wp2_with fail
        go_meet
        exact ⟨_, _, _, _, rfl, rfl, (KO28.sel [0, 1, 2, 3, 4] 99 (by decide) (by decide))⟩
  case rest =>
    obtain ⟨g3, g4, gr, ec, rfl, rfl, K4⟩ := hcut
    clear HB HG hKd K1
    have K5 : ∃ (B : Option Addr) (bc : Nat) (es : List Ent), (∀ W, Kn w [bun es] W → RI W B n ((List.range n).map (itB M n ((0 - 1) / 2) f))) ∧ Kn w [.blk g4 [.int .i64 (wd : Int), .slice B n bc] 45, .blk g3 [.int .i64 (wd : Int), .slice (some ⟨gr, 0, none⟩) n ec] 45, .row (.slice (some ⟨gr, 0, none⟩) n ec) 2 1 n ((mixG (prF M n f) f n 0).map (Value.int .i64)), .blk (g + 1) [.int .i64 0, .slice none 0 0] 45, .blk g [.int .i64 (wd : Int), .slice A n c] 45, bun es] wc := ⟨A, c, [], fun W h => HR0.out W h.below, K4.bunNil.sel [1, 2, 3, 4, 5, 0] 99 (by decide) (by decide)⟩
    obtain ⟨-, -, -, o1, o2, o3, -⟩ := K4.cells
    clear K4
    obtain ⟨B, bc, es, hRB, K5⟩ := K5
    have HRB := Lib.hid hRB
    clear hRB
    go_wp2_with fail
    go_loopw [12] (fun kk wr => ∃ (k : Nat) (B : Option Addr) (bc : Nat) (es : List Ent), k ≤ n ∧ kk = .int .i64 (k : Int) ∧ Hid (∀ W, Kn w [bun es] W → RI W B n ((List.range n).map (itB M n ((k - 1) / 2) f))) ∧ Kn w [.blk g4 [.int .i64 (wd : Int), .slice B n bc] 45, .blk g3 [.int .i64 (wd : Int), .slice (some ⟨gr, 0, none⟩) n ec] 45, .row (.slice (some ⟨gr, 0, none⟩) n ec) 2 1 n ((mixG (prF M n f) f n k).map (Value.int .i64)), .blk (g + 1) [.int .i64 0, .slice none 0 0] 45, .blk g [.int .i64 (wd : Int), .slice A n c] 45, bun es] wr) (fun kk _ => n - (intOf kk).toNat)
    case atStart => exact ⟨0, B, bc, es, Nat.zero_le _, rfl, HRB, K5⟩
    case round =>
      clear K5 o1 o2 o3 HRB es bc B
      obtain ⟨k, B, bc, es, hk, rfl, HRB, KR⟩ := hrel
      by_cases hk1 : k < n
      · have i1 : (k : Int) < (n : Int) := by omega
        have i0 : (0 : Int) ≤ (k : Int) := by omega
        by_cases hc : 0 < k ∧ k % 2 = 0
        · have c1 : (0 : Int) < (k : Int) := by omega
          have c2 : (k : Int).tmod 2 = 0 := by rw [Int.tmod_eq_emod_of_nonneg (by omega)]; omega
          have c3 : 0 < k := hc.1
          obtain ⟨n1, n2, n3, o1, o2, o3, -, -, -, e1, e2, e3, -⟩ := KR.cells
          have hj := Lib.hid (show (k - 1) / 2 + 1 = k / 2 by omega)
          go_upto_region 7 with (go_at_call 58; refine (KB.out _ B bc _ (HRB.out _ (KR.sel [5] 99 (by decide) (by decide)))).mono ?_; rintro e w5 ⟨gr2, ec2, rfl, hK⟩; have K5 := KR.join hK; clear hK KR n1 n2 n3 o1 o2 o3 e1 e2 e3; obtain ⟨n1, n2, n3, o1, o2, o3, -, -, -, e1, e2, e3, -⟩ := K5.cells)
          have K6 := ((K5.front 1 rfl).st 0 (.int .i64 (wd : Int))).st 1 (.slice (some ⟨gr2, 0, none⟩) n ec2)
          refine Code.wp.kn K6 ?_; clear K5 K6 n1 n2 n3 o1 o2 o3 e1 e2 e3 HRB; intro wz K6
          rw [hj.out] at K6
          have K7 := K6.sel [1, 0, 2, 3, 4, 5] 99 (by decide) (by decide)
          have KM : ∃ (B : Option Addr) (bc : Nat) (es : List Ent), (∀ W, Kn w [bun es] W → RI W B n ((List.range n).map (itB M n (k / 2) f))) ∧ Kn w [.blk g4 [.int .i64 (wd : Int), .slice B n bc] 45, .blk g3 [.int .i64 (wd : Int), .slice (some ⟨gr, 0, none⟩) n ec] 45, .row (.slice (some ⟨gr, 0, none⟩) n ec) 2 1 n ((mixG (prF M n f) f n k).map (Value.int .i64)), .blk (g + 1) [.int .i64 0, .slice none 0 0] 45, .blk g [.int .i64 (wd : Int), .slice A n c] 45, bun es] wz :=
            ⟨some ⟨gr2, 0, none⟩, ec2, [rowNN (some ⟨gr2, 0, none⟩) n ec2 ((List.range n).map (itB M n (k / 2) f))], fun W h => (h.bunPick (List.mem_cons_self ..)).rivNN (by simp), (K7.bunNil.sw1.bunAdd).sel [1, 2, 3, 4, 5, 0] 99 (by decide) (by decide)⟩
          clear K6 K7 c1 c2 c3 hc
          obtain ⟨B, bc, es, hRB, KM⟩ := KM
          obtain ⟨v, hvv⟩ : ∃ v, itB M n (k / 2) f k = v := ⟨_, rfl⟩
          have hL1 : ((mixG (prF M n f) f n k).map (Value.int .i64))[k]? = some (.int .i64 (f k)) := by rw [List.getElem?_map, mixG_at _ _ _ hk1, if_neg (by omega)]; rfl
          have hL3 : (mixG (prF M n f) f n (k + 1)).map (Value.int .i64) = ((mixG (prF M n f) f n k).map (Value.int .i64)).set k (.int .i64 v) := by
            rw [← mixG_set, List.map_set]
            congr 2
          have HSET := Lib.hid hL3
          obtain ⟨L0, hL0⟩ : ∃ L, (mixG (prF M n f) f n k).map (Value.int .i64) = L := ⟨_, rfl⟩
          rw [hL0] at hL1 HSET KM
          have HI := Lib.hid hL1
          obtain ⟨ad, hBA, -, hkl, hcl⟩ := (hRB _ (KM.sel [5] 99 (by decide) (by decide))).at_ hk1
          subst hBA
          have HB := Lib.hid (fun (L : List Value) W (h : Kn w [.blk g4 [.int .i64 (wd : Int), .slice (some ad) n bc] 45, .blk g3 [.int .i64 (wd : Int), .slice (some ⟨gr, 0, none⟩) n ec] 45, .row (.slice (some ⟨gr, 0, none⟩) n ec) 2 1 n L, bun es] W) => (And.intro (And.intro (box2 (h.front 1 rfl)).2 (box2 h).2) (by
              obtain ⟨ad2, hA2, -, hk2, hc2⟩ := (hRB W (h.sel [3] 99 (by decide) (by decide))).at_ hk1
              injection hA2 with hA2
              subst hA2
              rw [List.getElem_map, List.getElem_range, hvv] at hc2
              exact hc2) : (W.cell? ⟨g3, 1, none⟩ = some (.slice (some ⟨gr, 0, none⟩) n ec) ∧ W.cell? ⟨g4, 1, none⟩ = some (.slice (some ad) n bc)) ∧ W.cell? (ad.add k) = some (.int .i64 v)))
          have HRB := Lib.hid hRB
          clear hRB hcl hkl hL0 hL1 hL3 hvv
          go_upto_region 7 with fail
          have hKd := KM.drew
          have HG := Lib.hid (HB.out _ _ (hKd.sel [0, 1, 2, 5] 99 (by decide) (by decide)))
          refine wp_region_held_drew (S := fun W => (W.cell? ⟨g3, 1, none⟩ = some (.slice (some ⟨gr, 0, none⟩) n ec) ∧ W.cell? ⟨g4, 1, none⟩ = some (.slice (some ad) n bc)) ∧ W.cell? (ad.add k) = some (.int .i64 v)) (by kernel_rfl) ?_ (fun hHeld => ?_)
          · exact HG.out
          try dsimp only
          generalize wz.drew = wd' at hKd HG hHeld ⊢
          clear KM
          refine wpAnyH_take (i := 0) (v := ?_) rfl (by kernel_rfl) (by kernel_rfl) (by kernel_rfl) (fun _ _ _ h => h) (Or.inl ⟨by rfl, ?_⟩) hHeld ?_
          rotate_left
          · (intro w hSw; (try dsimp only at hSw); go_simp; try with_reducible rfl)
          try simp only [Act.put, List.setIfInBounds_toArray, List.set_cons_zero, List.set_cons_succ, List.getElem_toArray, List.getElem_cons_succ, List.getElem_cons_zero]
          refine wpAnyH_take (i := 1) (v := ?_) rfl (by kernel_rfl) (by kernel_rfl) (by kernel_rfl) (fun _ _ _ h => h) (Or.inl ⟨by rfl, ?_⟩) hHeld ?_
          rotate_left
          · (intro w hSw; (try dsimp only at hSw); go_simp; try with_reducible rfl)
          try simp only [Act.put, List.setIfInBounds_toArray, List.set_cons_zero, List.set_cons_succ, List.getElem_toArray, List.getElem_cons_succ, List.getElem_cons_zero]
          refine wpAnyH_take (i := 2) (v := ?_) rfl (by kernel_rfl) (by kernel_rfl) (by kernel_rfl) (fun _ _ _ h => h) (Or.inl ⟨by rfl, ?_⟩) hHeld ?_
          rotate_left
          · (intro w hSw; (try dsimp only at hSw); go_simp; try with_reducible rfl)
          try simp only [Act.put, List.setIfInBounds_toArray, List.set_cons_zero, List.set_cons_succ, List.getElem_toArray, List.getElem_cons_succ, List.getElem_cons_zero]
          refine wpAnyH_take (i := 3) (v := ?_) rfl (by kernel_rfl) (by kernel_rfl) (by kernel_rfl) (fun _ _ _ h => h) (Or.inl ⟨by rfl, ?_⟩) hHeld ?_
          rotate_left
          · (intro w hSw; (try dsimp only at hSw); go_simp; try with_reducible rfl)
          try simp only [Act.put, List.setIfInBounds_toArray, List.set_cons_zero, List.set_cons_succ, List.getElem_toArray, List.getElem_cons_succ, List.getElem_cons_zero]
          refine wpAnyH_take (i := 4) (v := ?_) rfl (by kernel_rfl) (by kernel_rfl) (by kernel_rfl) (fun _ _ _ h => h) (Or.inl ⟨by rfl, ?_⟩) hHeld ?_
          rotate_left
          · (intro w hSw; (try dsimp only at hSw); go_simp; try with_reducible rfl)
          try simp only [Act.put, List.setIfInBounds_toArray, List.set_cons_zero, List.set_cons_succ, List.getElem_toArray, List.getElem_cons_succ, List.getElem_cons_zero]
          refine wpAnyH_take (i := 5) (v := ?_) rfl (by kernel_rfl) (by kernel_rfl) (by kernel_rfl) (fun _ _ _ h => h) (Or.inl ⟨by rfl, ?_⟩) hHeld ?_
          rotate_left
          · (intro w hSw; (try dsimp only at hSw); go_simp; try with_reducible rfl)
          try simp only [Act.put, List.setIfInBounds_toArray, List.set_cons_zero, List.set_cons_succ, List.getElem_toArray, List.getElem_cons_succ, List.getElem_cons_zero]
          refine wpAnyH_take (i := 6) (v := ?_) rfl (by kernel_rfl) (by kernel_rfl) (by kernel_rfl) (fun _ _ _ h => h) (Or.inl ⟨by rfl, ?_⟩) hHeld ?_
          rotate_left
          · (intro w hSw; (try dsimp only at hSw); go_simp; try with_reducible rfl)
          try simp only [Act.put, List.setIfInBounds_toArray, List.set_cons_zero, List.set_cons_succ, List.getElem_toArray, List.getElem_cons_succ, List.getElem_cons_zero]
          refine wpAnyH_take (i := 7) (v := ?_) rfl (by kernel_rfl) (by kernel_rfl) (by kernel_rfl) (fun _ _ _ h => h) (Or.inl ⟨by rfl, ?_⟩) hHeld ?_
          rotate_left
          · (intro w hSw; (try dsimp only at hSw); go_simp; try with_reducible rfl)
          try simp only [Act.put, List.setIfInBounds_toArray, List.set_cons_zero, List.set_cons_succ, List.getElem_toArray, List.getElem_cons_succ, List.getElem_cons_zero]
          refine wpAnyH_take (i := 8) (v := ?_) rfl (by kernel_rfl) (by kernel_rfl) (by kernel_rfl) (fun _ _ _ h => h) (Or.inl ⟨by rfl, ?_⟩) hHeld ?_
          rotate_left
          · (intro w hSw; (try dsimp only at hSw); go_simp; try with_reducible rfl)
          try simp only [Act.put, List.setIfInBounds_toArray, List.set_cons_zero, List.set_cons_succ, List.getElem_toArray, List.getElem_cons_succ, List.getElem_cons_zero]
          refine wpAnyH_ready (rs := [9]) (by kernel_rfl) (by decide) (AllReadyH.cons (o := _) rfl (fun K hK' => ?_) AllReadyH.nil)
          obtain ⟨x1, x2⟩ := Kn.rowCell (hKd.front 2 rfl) HI.out
          have KO1 := Kn.rowSt (hKd.front 2 rfl) k (.int .i64 v)
          go_simp
          clear x1 x2
          have HG := Lib.hid (HB.out _ _ (KO1.sel [1, 2, 0, 5] 99 (by decide) (by decide)))
          refine hK'.out _ _ HG.out (fun hHeld2 => ?_)
          clear hK' hHeld
          have hHeld := hHeld2
          clear hHeld2
          try simp only [Act.put, List.setIfInBounds_toArray]
          refine wpAnyH_done (by kernel_rfl) ?_ _
          go_wp2_with fail
          go_roundw
          case rel => exact ⟨k + 1, _, _, es, by omega, by go_num, HRB.out, by rw [HSET.out]; exact (KO1.sel [1, 2, 0, 3, 4, 5] 99 (by decide) (by decide))⟩
          case measure => simp [intOf] <;> omega
        · obtain ⟨wz, hwz⟩ : ∃ wz, wz = wr := ⟨_, rfl⟩
          subst hwz
          have hj : (k - 1) / 2 = k / 2 := by omega
          rw [hj] at HRB
          have KM : ∃ (B : Option Addr) (bc : Nat) (es : List Ent), (∀ W, Kn w [bun es] W → RI W B n ((List.range n).map (itB M n (k / 2) f))) ∧ Kn w [.blk g4 [.int .i64 (wd : Int), .slice B n bc] 45, .blk g3 [.int .i64 (wd : Int), .slice (some ⟨gr, 0, none⟩) n ec] 45, .row (.slice (some ⟨gr, 0, none⟩) n ec) 2 1 n ((mixG (prF M n f) f n k).map (Value.int .i64)), .blk (g + 1) [.int .i64 0, .slice none 0 0] 45, .blk g [.int .i64 (wd : Int), .slice A n c] 45, bun es] wz := ⟨B, bc, es, HRB.out, KR⟩
          clear KR HRB hj
          by_cases hk0 : k = 0
          · have c1 : ¬ (0 : Int) < (k : Int) := by omega
            have c3 : ¬ 0 < k := by omega
            clear hc hk0
            obtain ⟨B, bc, es, hRB, KM⟩ := KM
            obtain ⟨v, hvv⟩ : ∃ v, itB M n (k / 2) f k = v := ⟨_, rfl⟩
            have hL1 : ((mixG (prF M n f) f n k).map (Value.int .i64))[k]? = some (.int .i64 (f k)) := by rw [List.getElem?_map, mixG_at _ _ _ hk1, if_neg (by omega)]; rfl
            have hL3 : (mixG (prF M n f) f n (k + 1)).map (Value.int .i64) = ((mixG (prF M n f) f n k).map (Value.int .i64)).set k (.int .i64 v) := by
              rw [← mixG_set, List.map_set]
              congr 2
            have HSET := Lib.hid hL3
            obtain ⟨L0, hL0⟩ : ∃ L, (mixG (prF M n f) f n k).map (Value.int .i64) = L := ⟨_, rfl⟩
            rw [hL0] at hL1 HSET KM
            have HI := Lib.hid hL1
            obtain ⟨ad, hBA, -, hkl, hcl⟩ := (hRB _ (KM.sel [5] 99 (by decide) (by decide))).at_ hk1
            subst hBA
            have HB := Lib.hid (fun (L : List Value) W (h : Kn w [.blk g4 [.int .i64 (wd : Int), .slice (some ad) n bc] 45, .blk g3 [.int .i64 (wd : Int), .slice (some ⟨gr, 0, none⟩) n ec] 45, .row (.slice (some ⟨gr, 0, none⟩) n ec) 2 1 n L, bun es] W) => (And.intro (And.intro (box2 (h.front 1 rfl)).2 (box2 h).2) (by
                obtain ⟨ad2, hA2, -, hk2, hc2⟩ := (hRB W (h.sel [3] 99 (by decide) (by decide))).at_ hk1
                injection hA2 with hA2
                subst hA2
                rw [List.getElem_map, List.getElem_range, hvv] at hc2
                exact hc2) : (W.cell? ⟨g3, 1, none⟩ = some (.slice (some ⟨gr, 0, none⟩) n ec) ∧ W.cell? ⟨g4, 1, none⟩ = some (.slice (some ad) n bc)) ∧ W.cell? (ad.add k) = some (.int .i64 v)))
            have HRB := Lib.hid hRB
            clear hRB hcl hkl hL0 hL1 hL3 hvv
            go_upto_region 7 with fail
            have hKd := KM.drew
            have HG := Lib.hid (HB.out _ _ (hKd.sel [0, 1, 2, 5] 99 (by decide) (by decide)))
            refine wp_region_held_drew (S := fun W => (W.cell? ⟨g3, 1, none⟩ = some (.slice (some ⟨gr, 0, none⟩) n ec) ∧ W.cell? ⟨g4, 1, none⟩ = some (.slice (some ad) n bc)) ∧ W.cell? (ad.add k) = some (.int .i64 v)) (by kernel_rfl) ?_ (fun hHeld => ?_)
            · exact HG.out
            try dsimp only
            generalize wz.drew = wd' at hKd HG hHeld ⊢
            clear KM
            refine wpAnyH_take (i := 0) (v := ?_) rfl (by kernel_rfl) (by kernel_rfl) (by kernel_rfl) (fun _ _ _ h => h) (Or.inl ⟨by rfl, ?_⟩) hHeld ?_
            rotate_left
            · (intro w hSw; (try dsimp only at hSw); go_simp; try with_reducible rfl)
            try simp only [Act.put, List.setIfInBounds_toArray, List.set_cons_zero, List.set_cons_succ, List.getElem_toArray, List.getElem_cons_succ, List.getElem_cons_zero]
            refine wpAnyH_take (i := 1) (v := ?_) rfl (by kernel_rfl) (by kernel_rfl) (by kernel_rfl) (fun _ _ _ h => h) (Or.inl ⟨by rfl, ?_⟩) hHeld ?_
            rotate_left
            · (intro w hSw; (try dsimp only at hSw); go_simp; try with_reducible rfl)
            try simp only [Act.put, List.setIfInBounds_toArray, List.set_cons_zero, List.set_cons_succ, List.getElem_toArray, List.getElem_cons_succ, List.getElem_cons_zero]
            refine wpAnyH_take (i := 2) (v := ?_) rfl (by kernel_rfl) (by kernel_rfl) (by kernel_rfl) (fun _ _ _ h => h) (Or.inl ⟨by rfl, ?_⟩) hHeld ?_
            rotate_left
            · (intro w hSw; (try dsimp only at hSw); go_simp; try with_reducible rfl)
            try simp only [Act.put, List.setIfInBounds_toArray, List.set_cons_zero, List.set_cons_succ, List.getElem_toArray, List.getElem_cons_succ, List.getElem_cons_zero]
            refine wpAnyH_take (i := 3) (v := ?_) rfl (by kernel_rfl) (by kernel_rfl) (by kernel_rfl) (fun _ _ _ h => h) (Or.inl ⟨by rfl, ?_⟩) hHeld ?_
            rotate_left
            · (intro w hSw; (try dsimp only at hSw); go_simp; try with_reducible rfl)
            try simp only [Act.put, List.setIfInBounds_toArray, List.set_cons_zero, List.set_cons_succ, List.getElem_toArray, List.getElem_cons_succ, List.getElem_cons_zero]
            refine wpAnyH_take (i := 4) (v := ?_) rfl (by kernel_rfl) (by kernel_rfl) (by kernel_rfl) (fun _ _ _ h => h) (Or.inl ⟨by rfl, ?_⟩) hHeld ?_
            rotate_left
            · (intro w hSw; (try dsimp only at hSw); go_simp; try with_reducible rfl)
            try simp only [Act.put, List.setIfInBounds_toArray, List.set_cons_zero, List.set_cons_succ, List.getElem_toArray, List.getElem_cons_succ, List.getElem_cons_zero]
            refine wpAnyH_take (i := 5) (v := ?_) rfl (by kernel_rfl) (by kernel_rfl) (by kernel_rfl) (fun _ _ _ h => h) (Or.inl ⟨by rfl, ?_⟩) hHeld ?_
            rotate_left
            · (intro w hSw; (try dsimp only at hSw); go_simp; try with_reducible rfl)
            try simp only [Act.put, List.setIfInBounds_toArray, List.set_cons_zero, List.set_cons_succ, List.getElem_toArray, List.getElem_cons_succ, List.getElem_cons_zero]
            refine wpAnyH_take (i := 6) (v := ?_) rfl (by kernel_rfl) (by kernel_rfl) (by kernel_rfl) (fun _ _ _ h => h) (Or.inl ⟨by rfl, ?_⟩) hHeld ?_
            rotate_left
            · (intro w hSw; (try dsimp only at hSw); go_simp; try with_reducible rfl)
            try simp only [Act.put, List.setIfInBounds_toArray, List.set_cons_zero, List.set_cons_succ, List.getElem_toArray, List.getElem_cons_succ, List.getElem_cons_zero]
            refine wpAnyH_take (i := 7) (v := ?_) rfl (by kernel_rfl) (by kernel_rfl) (by kernel_rfl) (fun _ _ _ h => h) (Or.inl ⟨by rfl, ?_⟩) hHeld ?_
            rotate_left
            · (intro w hSw; (try dsimp only at hSw); go_simp; try with_reducible rfl)
            try simp only [Act.put, List.setIfInBounds_toArray, List.set_cons_zero, List.set_cons_succ, List.getElem_toArray, List.getElem_cons_succ, List.getElem_cons_zero]
            refine wpAnyH_take (i := 8) (v := ?_) rfl (by kernel_rfl) (by kernel_rfl) (by kernel_rfl) (fun _ _ _ h => h) (Or.inl ⟨by rfl, ?_⟩) hHeld ?_
            rotate_left
            · (intro w hSw; (try dsimp only at hSw); go_simp; try with_reducible rfl)
            try simp only [Act.put, List.setIfInBounds_toArray, List.set_cons_zero, List.set_cons_succ, List.getElem_toArray, List.getElem_cons_succ, List.getElem_cons_zero]
            refine wpAnyH_ready (rs := [9]) (by kernel_rfl) (by decide) (AllReadyH.cons (o := _) rfl (fun K hK' => ?_) AllReadyH.nil)
            obtain ⟨x1, x2⟩ := Kn.rowCell (hKd.front 2 rfl) HI.out
            have KO1 := Kn.rowSt (hKd.front 2 rfl) k (.int .i64 v)
            go_simp
            clear x1 x2
            have HG := Lib.hid (HB.out _ _ (KO1.sel [1, 2, 0, 5] 99 (by decide) (by decide)))
            refine hK'.out _ _ HG.out (fun hHeld2 => ?_)
            clear hK' hHeld
            have hHeld := hHeld2
            clear hHeld2
            try simp only [Act.put, List.setIfInBounds_toArray]
            refine wpAnyH_done (by kernel_rfl) ?_ _
            go_wp2_with fail
            go_roundw
            case rel => exact ⟨k + 1, _, _, es, by omega, by go_num, HRB.out, by rw [HSET.out]; exact (KO1.sel [1, 2, 0, 3, 4, 5] 99 (by decide) (by decide))⟩
            case measure => simp [intOf] <;> omega
          · have c1 : (0 : Int) < (k : Int) := by omega
            have c3 : 0 < k := by omega
            have c2 : ¬ (k : Int).tmod 2 = 0 := by rw [Int.tmod_eq_emod_of_nonneg (by omega)]; omega
            have c4 : (k : Int).tmod 2 = 1 := by rw [Int.tmod_eq_emod_of_nonneg (by omega)]; omega
            clear hc
            obtain ⟨B, bc, es, hRB, KM⟩ := KM
            obtain ⟨v, hvv⟩ : ∃ v, itB M n (k / 2) f k = v := ⟨_, rfl⟩
            have hL1 : ((mixG (prF M n f) f n k).map (Value.int .i64))[k]? = some (.int .i64 (f k)) := by rw [List.getElem?_map, mixG_at _ _ _ hk1, if_neg (by omega)]; rfl
            have hL3 : (mixG (prF M n f) f n (k + 1)).map (Value.int .i64) = ((mixG (prF M n f) f n k).map (Value.int .i64)).set k (.int .i64 v) := by
              rw [← mixG_set, List.map_set]
              congr 2
            have HSET := Lib.hid hL3
            obtain ⟨L0, hL0⟩ : ∃ L, (mixG (prF M n f) f n k).map (Value.int .i64) = L := ⟨_, rfl⟩
            rw [hL0] at hL1 HSET KM
            have HI := Lib.hid hL1
            obtain ⟨ad, hBA, -, hkl, hcl⟩ := (hRB _ (KM.sel [5] 99 (by decide) (by decide))).at_ hk1
            subst hBA
            have HB := Lib.hid (fun (L : List Value) W (h : Kn w [.blk g4 [.int .i64 (wd : Int), .slice (some ad) n bc] 45, .blk g3 [.int .i64 (wd : Int), .slice (some ⟨gr, 0, none⟩) n ec] 45, .row (.slice (some ⟨gr, 0, none⟩) n ec) 2 1 n L, bun es] W) => (And.intro (And.intro (box2 (h.front 1 rfl)).2 (box2 h).2) (by
                obtain ⟨ad2, hA2, -, hk2, hc2⟩ := (hRB W (h.sel [3] 99 (by decide) (by decide))).at_ hk1
                injection hA2 with hA2
                subst hA2
                rw [List.getElem_map, List.getElem_range, hvv] at hc2
                exact hc2) : (W.cell? ⟨g3, 1, none⟩ = some (.slice (some ⟨gr, 0, none⟩) n ec) ∧ W.cell? ⟨g4, 1, none⟩ = some (.slice (some ad) n bc)) ∧ W.cell? (ad.add k) = some (.int .i64 v)))
            have HRB := Lib.hid hRB
            clear hRB hcl hkl hL0 hL1 hL3 hvv
            go_upto_region 7 with fail
            have hKd := KM.drew
            have HG := Lib.hid (HB.out _ _ (hKd.sel [0, 1, 2, 5] 99 (by decide) (by decide)))
            refine wp_region_held_drew (S := fun W => (W.cell? ⟨g3, 1, none⟩ = some (.slice (some ⟨gr, 0, none⟩) n ec) ∧ W.cell? ⟨g4, 1, none⟩ = some (.slice (some ad) n bc)) ∧ W.cell? (ad.add k) = some (.int .i64 v)) (by kernel_rfl) ?_ (fun hHeld => ?_)
            · exact HG.out
            try dsimp only
            generalize wz.drew = wd' at hKd HG hHeld ⊢
            clear KM
            refine wpAnyH_take (i := 0) (v := ?_) rfl (by kernel_rfl) (by kernel_rfl) (by kernel_rfl) (fun _ _ _ h => h) (Or.inl ⟨by rfl, ?_⟩) hHeld ?_
            rotate_left
            · (intro w hSw; (try dsimp only at hSw); go_simp; try with_reducible rfl)
            try simp only [Act.put, List.setIfInBounds_toArray, List.set_cons_zero, List.set_cons_succ, List.getElem_toArray, List.getElem_cons_succ, List.getElem_cons_zero]
            refine wpAnyH_take (i := 1) (v := ?_) rfl (by kernel_rfl) (by kernel_rfl) (by kernel_rfl) (fun _ _ _ h => h) (Or.inl ⟨by rfl, ?_⟩) hHeld ?_
            rotate_left
            · (intro w hSw; (try dsimp only at hSw); go_simp; try with_reducible rfl)
            try simp only [Act.put, List.setIfInBounds_toArray, List.set_cons_zero, List.set_cons_succ, List.getElem_toArray, List.getElem_cons_succ, List.getElem_cons_zero]
            refine wpAnyH_take (i := 2) (v := ?_) rfl (by kernel_rfl) (by kernel_rfl) (by kernel_rfl) (fun _ _ _ h => h) (Or.inl ⟨by rfl, ?_⟩) hHeld ?_
            rotate_left
            · (intro w hSw; (try dsimp only at hSw); go_simp; try with_reducible rfl)
            try simp only [Act.put, List.setIfInBounds_toArray, List.set_cons_zero, List.set_cons_succ, List.getElem_toArray, List.getElem_cons_succ, List.getElem_cons_zero]
            refine wpAnyH_take (i := 3) (v := ?_) rfl (by kernel_rfl) (by kernel_rfl) (by kernel_rfl) (fun _ _ _ h => h) (Or.inl ⟨by rfl, ?_⟩) hHeld ?_
            rotate_left
            · (intro w hSw; (try dsimp only at hSw); go_simp; try with_reducible rfl)
            try simp only [Act.put, List.setIfInBounds_toArray, List.set_cons_zero, List.set_cons_succ, List.getElem_toArray, List.getElem_cons_succ, List.getElem_cons_zero]
            refine wpAnyH_take (i := 4) (v := ?_) rfl (by kernel_rfl) (by kernel_rfl) (by kernel_rfl) (fun _ _ _ h => h) (Or.inl ⟨by rfl, ?_⟩) hHeld ?_
            rotate_left
            · (intro w hSw; (try dsimp only at hSw); go_simp; try with_reducible rfl)
            try simp only [Act.put, List.setIfInBounds_toArray, List.set_cons_zero, List.set_cons_succ, List.getElem_toArray, List.getElem_cons_succ, List.getElem_cons_zero]
            refine wpAnyH_take (i := 5) (v := ?_) rfl (by kernel_rfl) (by kernel_rfl) (by kernel_rfl) (fun _ _ _ h => h) (Or.inl ⟨by rfl, ?_⟩) hHeld ?_
            rotate_left
            · (intro w hSw; (try dsimp only at hSw); go_simp; try with_reducible rfl)
            try simp only [Act.put, List.setIfInBounds_toArray, List.set_cons_zero, List.set_cons_succ, List.getElem_toArray, List.getElem_cons_succ, List.getElem_cons_zero]
            refine wpAnyH_take (i := 6) (v := ?_) rfl (by kernel_rfl) (by kernel_rfl) (by kernel_rfl) (fun _ _ _ h => h) (Or.inl ⟨by rfl, ?_⟩) hHeld ?_
            rotate_left
            · (intro w hSw; (try dsimp only at hSw); go_simp; try with_reducible rfl)
            try simp only [Act.put, List.setIfInBounds_toArray, List.set_cons_zero, List.set_cons_succ, List.getElem_toArray, List.getElem_cons_succ, List.getElem_cons_zero]
            refine wpAnyH_take (i := 7) (v := ?_) rfl (by kernel_rfl) (by kernel_rfl) (by kernel_rfl) (fun _ _ _ h => h) (Or.inl ⟨by rfl, ?_⟩) hHeld ?_
            rotate_left
            · (intro w hSw; (try dsimp only at hSw); go_simp; try with_reducible rfl)
            try simp only [Act.put, List.setIfInBounds_toArray, List.set_cons_zero, List.set_cons_succ, List.getElem_toArray, List.getElem_cons_succ, List.getElem_cons_zero]
            refine wpAnyH_take (i := 8) (v := ?_) rfl (by kernel_rfl) (by kernel_rfl) (by kernel_rfl) (fun _ _ _ h => h) (Or.inl ⟨by rfl, ?_⟩) hHeld ?_
            rotate_left
            · (intro w hSw; (try dsimp only at hSw); go_simp; try with_reducible rfl)
            try simp only [Act.put, List.setIfInBounds_toArray, List.set_cons_zero, List.set_cons_succ, List.getElem_toArray, List.getElem_cons_succ, List.getElem_cons_zero]
            refine wpAnyH_ready (rs := [9]) (by kernel_rfl) (by decide) (AllReadyH.cons (o := _) rfl (fun K hK' => ?_) AllReadyH.nil)
            obtain ⟨x1, x2⟩ := Kn.rowCell (hKd.front 2 rfl) HI.out
            have KO1 := Kn.rowSt (hKd.front 2 rfl) k (.int .i64 v)
            go_simp
            clear x1 x2
            have HG := Lib.hid (HB.out _ _ (KO1.sel [1, 2, 0, 5] 99 (by decide) (by decide)))
            refine hK'.out _ _ HG.out (fun hHeld2 => ?_)
            clear hK' hHeld
            have hHeld := hHeld2
            clear hHeld2
            try simp only [Act.put, List.setIfInBounds_toArray]
            refine wpAnyH_done (by kernel_rfl) ?_ _
            go_wp2_with fail
            go_roundw
            case rel => exact ⟨k + 1, _, _, es, by omega, by go_num, HRB.out, by rw [HSET.out]; exact (KO1.sel [1, 2, 0, 3, 4, 5] 99 (by decide) (by decide))⟩
            case measure => simp [intOf] <;> omega
      · have i1 : ¬ (k : Int) < (n : Int) := by omega
        obtain rfl : k = n := by omega
        have K5 := KR
        rw [HFU.out] at K5
        clear KR
        obtain ⟨-, -, -, o1, o2, o3, z1, z2, z3, -⟩ := K5.cells
        go_wp2_with fail
        have K9 := ((K5.front 3 rfl).st 0 (.int .i64 (wd : Int))).st 1 (.slice (some ⟨gr, 0, none⟩) k ec)
        refine bodyPost.kn K9 ?_; clear K9; intro w9 K9
        obtain ⟨b1, b2, b3, -⟩ := K9.cells
        refine bodyPost_ret (v := .agg #[.int .i64 (wd : Int), .slice (some ⟨gr, 0, none⟩) k ec]) (by simp [results, Tryd.results53, go_sem, b1]) rfl ⟨_, _, rfl, ?_⟩
        exact K9.sel [3] 99 (by decide) (by decide)
end Go.Proofs.YtgpmngcemnnpmaaDoor

namespace Go.Proofs.YtgpmngcemnnpmaaDoor
open Go.RowKit Go.Sort
/-- so many steps -/
def itF (st : (Nat → Int) → Nat → Int) : Nat → (Nat → Int) → Nat → Int
  | 0, f => f
  | k + 1, f => st (itF st k f)
def resL (st : (Nat → Int) → Nat → Int) (f : Nat → Int) (k : Nat) : List Int := (List.range k).map (fun t => itF st t f 0)
theorem resL_succ (st : (Nat → Int) → Nat → Int) (f : Nat → Int) (k : Nat) : resL st f (k + 1) = resL st f k ++ [itF st k f 0] := by unfold resL; rw [List.range_succ, List.map_append]; rfl
theorem resL_len (st : (Nat → Int) → Nat → Int) (f : Nat → Int) (k : Nat) : (resL st f k).length = k := by simp [resL]
def hvF (M : Int) (n : Nat) (c : Nat → Int) : Nat → Int := haF M n 2 (haF M n 1 c)
set_option maxRecDepth 100000 in
set_option maxHeartbeats 6400000 in
theorem results_cyc (wd n N : Nat) (A : Option Addr) (c : Nat) (cs : List Int) (w : World) (n0 : 0 < n) (n9 : n ≤ 9) (hN : N ≤ 40) (hr : RI w A n cs) (M : Int)
    (KB : Hid (∀ (k : Nat) (B : Option Addr) (bc : Nat) (W : World), RI W B n ((List.range n).map (itF (cyF M n) k (fnL cs))) → Calls Tryd.prog 52 #[.agg [.int .i64 (wd : Int), .slice B n bc].toArray] W (EngR wd n ((List.range n).map (itF (cyF M n) (k + 1) (fnL cs))) W))) :
    Calls Tryd.prog 51 #[.agg #[.int .i64 (wd : Int), .slice A n c], .int .i64 (N : Int), .func (.func 52) #[] #[]] w fun e w' => ∃ R rc, e = .returned (.slice R N rc) ∧ Kn w [rowNN R N rc (resL (cyF M n) (fnL cs) N)] w' := by
  have HR0 := Lib.hid (fun W (hW : Below w.heap.size w W) => (show RI W A n ((List.range n).map (itF (cyF M n) 0 (fnL cs))) by
    have e : (List.range n).map (itF (cyF M n) 0 (fnL cs)) = cs := by show (List.range n).map (fnL cs) = cs; rw [← hr.1]; exact map_fnL cs
    rw [e]; exact hr.below hW))
  obtain ⟨f, hf⟩ : ∃ f, fnL cs = f := ⟨_, rfl⟩
  simp only [hf] at KB HR0 ⊢
  clear hr hf
  obtain ⟨g, hg⟩ : ∃ g, w.heap.size = g := ⟨_, rfl⟩
  have K0 := (Kn.nil w).al [.int .i64 (wd : Int), .slice A n c] 45
  simp only [World.size_alloc, hg] at K0
  go_enter Tryd.func51, Tryd.ntmps51
  go_upto_region 1 with fail
  try rw [hg]
  refine Code.wp.kn K0 ?_; clear K0 hg; intro w1 K1
  have K2 := (K1.al [] 2).litRow (size := 1) (n := 0) rfl (by decide)
  obtain ⟨h, hh⟩ : ∃ h, w1.heap.size = h := ⟨_, rfl⟩
  rw [hh] at K2
  go_upto_region 2 with fail
  try rw [hh]
  refine Code.wp.kn K2 ?_; clear K1 K2 hh; intro w2 K2
  have K3 : Kn w [.row (.slice (some ⟨h, 0, none⟩) 0 0) 2 1 (resL (cyF M n) f 0).length ((resL (cyF M n) f 0).map (Value.int .i64)), .blk g [.int .i64 (wd : Int), .slice A n c] 45, bun []] w2 := (K2.bunNil).sel [1, 2, 0] 99 (by decide) (by decide)
  clear K2
  go_wp2_with fail
  go_loopw [7, 10] (fun oo kk wr => ∃ (k : Nat) (B : Option Addr) (bc : Nat) (es : List Ent), k ≤ N ∧ kk = .int .i64 (k : Int) ∧ Hid (∀ W, Kn w [bun es] W → RI W B n ((List.range n).map (itF (cyF M n) k f))) ∧ Kn w [.row oo 2 1 (resL (cyF M n) f k).length ((resL (cyF M n) f k).map (Value.int .i64)), .blk g [.int .i64 (wd : Int), .slice B n bc] 45, bun es] wr) (fun _ kk _ => N - (intOf kk).toNat)
  case atStart => exact ⟨0, A, c, [], Nat.zero_le _, rfl, fun W hW => HR0.out W hW.below, K3⟩
  case round =>
    clear K3 HR0
    obtain ⟨k, B, bc, es, hk, rfl, HRB, KR⟩ := hrel
    by_cases hk1 : k < N
    · have i1 : (k : Int) < (N : Int) := by omega
      obtain ⟨ad, hBA, -, hkl, hcl⟩ := (HRB.out _ (KR.sel [2] 99 (by decide) (by decide))).at_ n0
      rw [addr_add_zero, List.getElem_map, List.getElem_range] at hcl
      subst hBA
      have i0 : (0 : Int) < (n : Int) := by omega
      have HX := Lib.hid (show resL (cyF M n) f (k + 1) = resL (cyF M n) f k ++ [itF (cyF M n) k f 0] from resL_succ ..)
      obtain ⟨x, hx⟩ : ∃ x, itF (cyF M n) k f 0 = x := ⟨_, rfl⟩
      rw [hx] at hcl HX
      have HL := Lib.hid (show (resL (cyF M n) f k).length ≤ 10000000 by rw [resL_len]; omega)
      clear hx hkl
      obtain ⟨n1, n2, n3, -⟩ := KR.cells
      go_upto_region 5 with (at_builtin; refine kn_pushI rfl _ _ rfl _ (resL (cyF M n) f k) rfl rfl (KR.al [.int .i64 x] 2) HL.out ?_; intro v' w' K10)
      rw [← HX.out] at K10
      clear KR n1 n2 n3 hcl
      obtain ⟨n1, n2, n3, -⟩ := K10.cells
      go_upto_region 6 with (go_at_call 52; refine (KB.out k (some ad) bc _ (HRB.out _ (K10.sel [2] 99 (by decide) (by decide)))).mono ?_; rintro e w5 ⟨gr2, ec2, rfl, hK⟩; have K5 := K10.join hK; clear hK K10 n1 n2 n3; obtain ⟨n1, n2, n3, -⟩ := K5.cells)
      have K6 := ((K5.front 2 rfl).st 0 (.int .i64 (wd : Int))).st 1 (.slice (some ⟨gr2, 0, none⟩) n ec2)
      refine Code.wp.kn K6 ?_; clear K5 K6 n1 n2 n3 HRB; intro wz K6
      have K7 := (K6.sel [1, 2, 0] 99 (by decide) (by decide)).bunNil.sw1.bunAdd
      go_wp2_with fail
      go_roundw
      case rel => exact ⟨k + 1, some ⟨gr2, 0, none⟩, ec2, _, by omega, by go_num, fun W h => (h.bunPick (List.mem_cons_self ..)).rivNN (by simp), K7.sel [1, 2, 0] 99 (by decide) (by decide)⟩
      case measure => simp [intOf] <;> omega
    · have i1 : ¬ (k : Int) < (N : Int) := by omega
      obtain rfl : k = N := by omega
      obtain ⟨R, rc, hR⟩ := row_form KR.at0
      rw [resL_len] at KR hR
      subst hR
      go_wp2_with fail
      go_ret
      exact ⟨_, _, rfl, KR.sel [0] 99 (by decide) (by decide)⟩
set_option maxRecDepth 100000 in
set_option maxHeartbeats 6400000 in
theorem results_hal (wd n N : Nat) (A : Option Addr) (c : Nat) (cs : List Int) (w : World) (n0 : 0 < n) (n9 : n ≤ 9) (hN : N ≤ 40) (hr : RI w A n cs) (M : Int)
    (KB : Hid (∀ (k : Nat) (B : Option Addr) (bc : Nat) (W : World), RI W B n ((List.range n).map (itF (hvF M n) k (fnL cs))) → Calls Tryd.prog 54 #[.agg [.int .i64 (wd : Int), .slice B n bc].toArray] W (EngR wd n ((List.range n).map (itF (hvF M n) (k + 1) (fnL cs))) W))) :
    Calls Tryd.prog 51 #[.agg #[.int .i64 (wd : Int), .slice A n c], .int .i64 (N : Int), .func (.func 54) #[] #[]] w fun e w' => ∃ R rc, e = .returned (.slice R N rc) ∧ Kn w [rowNN R N rc (resL (hvF M n) (fnL cs) N)] w' := by
  have HR0 := Lib.hid (fun W (hW : Below w.heap.size w W) => (show RI W A n ((List.range n).map (itF (hvF M n) 0 (fnL cs))) by
    have e : (List.range n).map (itF (hvF M n) 0 (fnL cs)) = cs := by show (List.range n).map (fnL cs) = cs; rw [← hr.1]; exact map_fnL cs
    rw [e]; exact hr.below hW))
  obtain ⟨f, hf⟩ : ∃ f, fnL cs = f := ⟨_, rfl⟩
  simp only [hf] at KB HR0 ⊢
  clear hr hf
  obtain ⟨g, hg⟩ : ∃ g, w.heap.size = g := ⟨_, rfl⟩
  have K0 := (Kn.nil w).al [.int .i64 (wd : Int), .slice A n c] 45
  simp only [World.size_alloc, hg] at K0
  go_enter Tryd.func51, Tryd.ntmps51
  go_upto_region 1 with fail
  try rw [hg]
  refine Code.wp.kn K0 ?_; clear K0 hg; intro w1 K1
  have K2 := (K1.al [] 2).litRow (size := 1) (n := 0) rfl (by decide)
  obtain ⟨h, hh⟩ : ∃ h, w1.heap.size = h := ⟨_, rfl⟩
  rw [hh] at K2
  go_upto_region 2 with fail
  try rw [hh]
  refine Code.wp.kn K2 ?_; clear K1 K2 hh; intro w2 K2
  have K3 : Kn w [.row (.slice (some ⟨h, 0, none⟩) 0 0) 2 1 (resL (hvF M n) f 0).length ((resL (hvF M n) f 0).map (Value.int .i64)), .blk g [.int .i64 (wd : Int), .slice A n c] 45, bun []] w2 := (K2.bunNil).sel [1, 2, 0] 99 (by decide) (by decide)
  clear K2
  go_wp2_with fail
  go_loopw [7, 10] (fun oo kk wr => ∃ (k : Nat) (B : Option Addr) (bc : Nat) (es : List Ent), k ≤ N ∧ kk = .int .i64 (k : Int) ∧ Hid (∀ W, Kn w [bun es] W → RI W B n ((List.range n).map (itF (hvF M n) k f))) ∧ Kn w [.row oo 2 1 (resL (hvF M n) f k).length ((resL (hvF M n) f k).map (Value.int .i64)), .blk g [.int .i64 (wd : Int), .slice B n bc] 45, bun es] wr) (fun _ kk _ => N - (intOf kk).toNat)
  case atStart => exact ⟨0, A, c, [], Nat.zero_le _, rfl, fun W hW => HR0.out W hW.below, K3⟩
  case round =>
    clear K3 HR0
    obtain ⟨k, B, bc, es, hk, rfl, HRB, KR⟩ := hrel
    by_cases hk1 : k < N
    · have i1 : (k : Int) < (N : Int) := by omega
      obtain ⟨ad, hBA, -, hkl, hcl⟩ := (HRB.out _ (KR.sel [2] 99 (by decide) (by decide))).at_ n0
      rw [addr_add_zero, List.getElem_map, List.getElem_range] at hcl
      subst hBA
      have i0 : (0 : Int) < (n : Int) := by omega
      have HX := Lib.hid (show resL (hvF M n) f (k + 1) = resL (hvF M n) f k ++ [itF (hvF M n) k f 0] from resL_succ ..)
      obtain ⟨x, hx⟩ : ∃ x, itF (hvF M n) k f 0 = x := ⟨_, rfl⟩
      rw [hx] at hcl HX
      have HL := Lib.hid (show (resL (hvF M n) f k).length ≤ 10000000 by rw [resL_len]; omega)
      clear hx hkl
      obtain ⟨n1, n2, n3, -⟩ := KR.cells
      go_upto_region 5 with (at_builtin; refine kn_pushI rfl _ _ rfl _ (resL (hvF M n) f k) rfl rfl (KR.al [.int .i64 x] 2) HL.out ?_; intro v' w' K10)
      rw [← HX.out] at K10
      clear KR n1 n2 n3 hcl
      obtain ⟨n1, n2, n3, -⟩ := K10.cells
      go_upto_region 6 with (go_at_call 54; refine (KB.out k (some ad) bc _ (HRB.out _ (K10.sel [2] 99 (by decide) (by decide)))).mono ?_; rintro e w5 ⟨gr2, ec2, rfl, hK⟩; have K5 := K10.join hK; clear hK K10 n1 n2 n3; obtain ⟨n1, n2, n3, -⟩ := K5.cells)
      have K6 := ((K5.front 2 rfl).st 0 (.int .i64 (wd : Int))).st 1 (.slice (some ⟨gr2, 0, none⟩) n ec2)
      refine Code.wp.kn K6 ?_; clear K5 K6 n1 n2 n3 HRB; intro wz K6
      have K7 := (K6.sel [1, 2, 0] 99 (by decide) (by decide)).bunNil.sw1.bunAdd
      go_wp2_with fail
      go_roundw
      case rel => exact ⟨k + 1, some ⟨gr2, 0, none⟩, ec2, _, by omega, by go_num, fun W h => (h.bunPick (List.mem_cons_self ..)).rivNN (by simp), K7.sel [1, 2, 0] 99 (by decide) (by decide)⟩
      case measure => simp [intOf] <;> omega
    · have i1 : ¬ (k : Int) < (N : Int) := by omega
      obtain rfl : k = N := by omega
      obtain ⟨R, rc, hR⟩ := row_form KR.at0
      rw [resL_len] at KR hR
      subst hR
      go_wp2_with fail
      go_ret
      exact ⟨_, _, rfl, KR.sel [0] 99 (by decide) (by decide)⟩
end Go.Proofs.YtgpmngcemnnpmaaDoor

namespace Go.Proofs.YtgpmngcemnnpmaaDoor
open Go.RowKit Go.Sort
def EngR2 (wd n : Nat) (ds : List Int) (w : World) (e : Ending) (w' : World) : Prop := ∃ gr ec, e = .returned (.tuple #[.agg #[.int .i64 (wd : Int), .slice (some ⟨gr, 0, none⟩) n ec], .int .i64 0]) ∧ Kn w [rowNN (some ⟨gr, 0, none⟩) n ec ds] w'
theorem isEngineWidth_any (x : Int) (w : World) : Calls Tryd.prog 87 #[.int .i64 x] w fun e w' => e = .returned (.bool (betB x 1 12)) ∧ w = w' := by
  go_enter Tryd.func87, Tryd.ntmps87
  go_wp2_with (go_at_call 71; refine (between_any _ _ _ _).mono ?_; rintro e w' ⟨rfl, rfl⟩)
  go_ret
  exact ⟨rfl, rfl⟩
set_option maxRecDepth 100000 in
set_option maxHeartbeats 1600000 in
theorem ValidEngine_true (wd n : Nat) (A : Option Addr) (c : Nat) (cs : List Int) (w : World) (h1 : 1 ≤ wd) (h12 : wd ≤ 12) (n0 : 0 < n) (n9 : n ≤ 9) (hr : RI w A n cs) (hv : InM (pw 10 wd) n (fnL cs)) :
    Calls Tryd.prog 56 #[.agg #[.int .i64 (wd : Int), .slice A n c]] w fun e w' => e = .returned (.bool true) ∧ Below w.heap.size w w' := by
  have hM := pw10_bd h1 h12
  have KM := Lib.hid (fun W => modulus_any wd W h12)
  have hb1 : betB (wd : Int) 1 12 = true := betB_iff.2 (by omega)
  have hb2 : betB (n : Int) 1 9 = true := betB_iff.2 (by omega)
  have HR := Lib.hid (fun W (hW : Below w.heap.size w W) => hr.below hW)
  obtain ⟨M, hMM⟩ : ∃ M, pw 10 wd = M := ⟨_, rfl⟩
  rw [hMM] at hM hv
  simp only [hMM] at KM
  have HV := Lib.hid hv
  have HL := Lib.hid hr.1
  have hwM : IntKind.i64.wrap (M - 1) = M - 1 := wrapI64 (by omega)
  clear hr hv hMM
  obtain ⟨g, hg⟩ : ∃ g, w.heap.size = g := ⟨_, rfl⟩
  have K0 := (Kn.nil w).al [.int .i64 (wd : Int), .slice A n c] 45
  simp only [World.size_alloc, hg] at K0
  go_enter Tryd.func56, Tryd.ntmps56
  go_upto_region 1 with fail
  try rw [hg]
  refine Code.wp.kn K0 ?_; clear K0 hg; intro w1 K1
  obtain ⟨e1, e2, e3, -⟩ := K1.cells
  go_wp2_with (first | (go_at_call 87; refine (isEngineWidth_any _ _).mono ?_; rintro e w' ⟨rfl, rfl⟩; try rw [hb1]) | (go_at_call 71; refine (between_any _ _ _ _).mono ?_; rintro e w' ⟨rfl, rfl⟩; try rw [hb2]))
  go_loopw [19] (fun kk wr => ∃ k : Nat, k ≤ n ∧ kk = .int .i64 (k : Int) ∧ Kn w [.blk g [.int .i64 (wd : Int), .slice A n c] 45] wr) (fun kk _ => n - (intOf kk).toNat)
  case atStart => exact ⟨0, Nat.zero_le _, rfl, K1⟩
  case round =>
    clear K1 e1 e2 e3
    obtain ⟨k, hk, rfl, K⟩ := hrel
    obtain ⟨e1, e2, e3, -⟩ := K.cells
    by_cases hk1 : k < n
    · have i1 : (k : Int) < (n : Int) := by omega
      have i0 : (0 : Int) ≤ (k : Int) := by omega
      obtain ⟨ad, hA, -, hkl, hcl⟩ := (HR.out _ K.below).at_ hk1
      obtain ⟨x, hx⟩ : ∃ x, cs[k] = x := ⟨_, rfl⟩
      have hxb := HV.out k hk1
      have e : fnL cs k = x := by rw [← hx]; simp [fnL, List.getD, hkl]
      rw [e] at hxb
      rw [hx] at hcl
      have hb3 : betB x 0 (M - 1) = true := betB_iff.2 (by omega)
      subst hA
      clear hx e hkl
      go_wp2_with (first | (go_at_call 86; refine (KM.out _).mono ?_; rintro e w' ⟨rfl, rfl⟩) | (go_at_call 71; refine (between_any _ _ _ _).mono ?_; rintro e w' ⟨rfl, rfl⟩; try rw [hb3]))
      go_roundw
      case rel => exact ⟨k + 1, by omega, by go_num, K⟩
      case measure => simp [intOf] <;> omega
    · have i1 : ¬ (k : Int) < (n : Int) := by omega
      go_wp2_with fail
      go_ret
      exact ⟨rfl, K.below⟩
set_option maxRecDepth 100000 in
set_option maxHeartbeats 1600000 in
theorem CycleEngine_ok (wd n : Nat) (A : Option Addr) (c : Nat) (cs : List Int) (w : World) (h1 : 1 ≤ wd) (h12 : wd ≤ 12) (n0 : 0 < n) (n9 : n ≤ 9) (hr : RI w A n cs) (hv : InM (pw 10 wd) n (fnL cs)) :
    Calls Tryd.prog 18 #[.agg #[.int .i64 (wd : Int), .slice A n c]] w (EngR2 wd n ((List.range n).map (cyF (pw 10 wd) n (fnL cs))) w) := by
  have KV := Lib.hid (fun W (hW : Below w.heap.size w W) => ValidEngine_true wd n A c cs W h1 h12 n0 n9 (hr.below hW) hv)
  have KC := (fun W (hW : Below w.heap.size w W) => cycled_ok wd n A c cs W h1 h12 n0 n9 (hr.below hW) hv)
  unfold EngR rowNN at KC
  replace KC := Lib.hid KC
  obtain ⟨ds, hds⟩ : ∃ d, (List.range n).map (cyF (pw 10 wd) n (fnL cs)) = d := ⟨_, rfl⟩
  rw [hds] at KC ⊢
  clear hr hv hds
  obtain ⟨g, hg⟩ : ∃ g, w.heap.size = g := ⟨_, rfl⟩
  have K0 := ((Kn.nil w).al [.int .i64 (wd : Int), .slice A n c] 45).al [.int .i64 0, .slice none 0 0] 45
  simp only [World.size_alloc, hg] at K0
  go_enter Tryd.func18, Tryd.ntmps18
  go_upto_region 1 with fail
  try rw [hg]
  refine Code.wp.kn K0 ?_; clear K0 hg; intro w1 K1
  obtain ⟨a1, a2, a3, e1, e2, e3, -⟩ := K1.cells
  go_upto_region 3 with (go_at_call 56; refine (KV.out _ K1.below).mono ?_; rintro e w2 ⟨rfl, hw⟩; have K2 := K1.keep hw; clear hw K1 a1 a2 a3 e1 e2 e3; obtain ⟨a1, a2, a3, e1, e2, e3, -⟩ := K2.cells)
  go_wp2_with (go_at_call 52; refine (KC.out _ K2.below).mono ?_; rintro e w3 ⟨gr, ec, rfl, hK⟩; have K3 := K2.join hK; clear hK K2 a1 a2 a3 e1 e2 e3; obtain ⟨a1, a2, a3, e1, e2, e3, -⟩ := K3.cells)
  have K9 := ((K3.front 1 rfl).st 0 (.int .i64 (wd : Int))).st 1 (.slice (some ⟨gr, 0, none⟩) n ec)
  refine bodyPost.kn K9 ?_; clear K9; intro w9 K9
  obtain ⟨b1, b2, b3, -⟩ := K9.cells
  refine bodyPost_ret (v := .tuple #[.agg #[.int .i64 (wd : Int), .slice (some ⟨gr, 0, none⟩) n ec], .int .i64 0]) (by simp [results, Tryd.results18, go_sem, b1]) rfl ⟨_, _, rfl, ?_⟩
  exact K9.sel [1] 99 (by decide) (by decide)
set_option maxRecDepth 100000 in
set_option maxHeartbeats 1600000 in
theorem BackCycle_ok (wd n : Nat) (A : Option Addr) (c : Nat) (cs : List Int) (w : World) (h1 : 1 ≤ wd) (h12 : wd ≤ 12) (n0 : 0 < n) (n9 : n ≤ 9) (hr : RI w A n cs) (hv : InM (pw 10 wd) n (fnL cs)) :
    Calls Tryd.prog 21 #[.agg #[.int .i64 (wd : Int), .slice A n c]] w (EngR2 wd n ((List.range n).map (bkF (pw 10 wd) n (fnL cs))) w) := by
  have KV := Lib.hid (fun W (hW : Below w.heap.size w W) => ValidEngine_true wd n A c cs W h1 h12 n0 n9 (hr.below hW) hv)
  have KC := (fun W (hW : Below w.heap.size w W) => back_ok wd n A c cs W h1 h12 n0 n9 (hr.below hW) hv)
  unfold EngR rowNN at KC
  replace KC := Lib.hid KC
  obtain ⟨ds, hds⟩ : ∃ d, (List.range n).map (bkF (pw 10 wd) n (fnL cs)) = d := ⟨_, rfl⟩
  rw [hds] at KC ⊢
  clear hr hv hds
  obtain ⟨g, hg⟩ : ∃ g, w.heap.size = g := ⟨_, rfl⟩
  have K0 := ((Kn.nil w).al [.int .i64 (wd : Int), .slice A n c] 45).al [.int .i64 0, .slice none 0 0] 45
  simp only [World.size_alloc, hg] at K0
  go_enter Tryd.func21, Tryd.ntmps21
  go_upto_region 1 with fail
  try rw [hg]
  refine Code.wp.kn K0 ?_; clear K0 hg; intro w1 K1
  obtain ⟨a1, a2, a3, e1, e2, e3, -⟩ := K1.cells
  go_upto_region 3 with (go_at_call 56; refine (KV.out _ K1.below).mono ?_; rintro e w2 ⟨rfl, hw⟩; have K2 := K1.keep hw; clear hw K1 a1 a2 a3 e1 e2 e3; obtain ⟨a1, a2, a3, e1, e2, e3, -⟩ := K2.cells)
  go_wp2_with (go_at_call 58; refine (KC.out _ K2.below).mono ?_; rintro e w3 ⟨gr, ec, rfl, hK⟩; have K3 := K2.join hK; clear hK K2 a1 a2 a3 e1 e2 e3; obtain ⟨a1, a2, a3, e1, e2, e3, -⟩ := K3.cells)
  have K9 := ((K3.front 1 rfl).st 0 (.int .i64 (wd : Int))).st 1 (.slice (some ⟨gr, 0, none⟩) n ec)
  refine bodyPost.kn K9 ?_; clear K9; intro w9 K9
  obtain ⟨b1, b2, b3, -⟩ := K9.cells
  refine bodyPost_ret (v := .tuple #[.agg #[.int .i64 (wd : Int), .slice (some ⟨gr, 0, none⟩) n ec], .int .i64 0]) (by simp [results, Tryd.results21, go_sem, b1]) rfl ⟨_, _, rfl, ?_⟩
  exact K9.sel [1] 99 (by decide) (by decide)
set_option maxRecDepth 100000 in
set_option maxHeartbeats 1600000 in
theorem PrepareHalves_ok (wd n : Nat) (A : Option Addr) (c : Nat) (cs : List Int) (w : World) (h1 : 1 ≤ wd) (h12 : wd ≤ 12) (n0 : 0 < n) (n9 : n ≤ 9) (hr : RI w A n cs) (hv : InM (pw 10 wd) n (fnL cs)) :
    Calls Tryd.prog 24 #[.agg #[.int .i64 (wd : Int), .slice A n c]] w (EngR2 wd n ((List.range n).map (prF (pw 10 wd) n (fnL cs))) w) := by
  have KV := Lib.hid (fun W (hW : Below w.heap.size w W) => ValidEngine_true wd n A c cs W h1 h12 n0 n9 (hr.below hW) hv)
  have KC := (fun W (hW : Below w.heap.size w W) => prepared_ok wd n A c cs W h1 h12 n0 n9 (hr.below hW) hv)
  unfold EngR rowNN at KC
  replace KC := Lib.hid KC
  obtain ⟨ds, hds⟩ : ∃ d, (List.range n).map (prF (pw 10 wd) n (fnL cs)) = d := ⟨_, rfl⟩
  rw [hds] at KC ⊢
  clear hr hv hds
  obtain ⟨g, hg⟩ : ∃ g, w.heap.size = g := ⟨_, rfl⟩
  have K0 := ((Kn.nil w).al [.int .i64 (wd : Int), .slice A n c] 45).al [.int .i64 0, .slice none 0 0] 45
  simp only [World.size_alloc, hg] at K0
  go_enter Tryd.func24, Tryd.ntmps24
  go_upto_region 1 with fail
  try rw [hg]
  refine Code.wp.kn K0 ?_; clear K0 hg; intro w1 K1
  obtain ⟨a1, a2, a3, e1, e2, e3, -⟩ := K1.cells
  go_upto_region 3 with (go_at_call 56; refine (KV.out _ K1.below).mono ?_; rintro e w2 ⟨rfl, hw⟩; have K2 := K1.keep hw; clear hw K1 a1 a2 a3 e1 e2 e3; obtain ⟨a1, a2, a3, e1, e2, e3, -⟩ := K2.cells)
  go_wp2_with (go_at_call 53; refine (KC.out _ K2.below).mono ?_; rintro e w3 ⟨gr, ec, rfl, hK⟩; have K3 := K2.join hK; clear hK K2 a1 a2 a3 e1 e2 e3; obtain ⟨a1, a2, a3, e1, e2, e3, -⟩ := K3.cells)
  have K9 := ((K3.front 1 rfl).st 0 (.int .i64 (wd : Int))).st 1 (.slice (some ⟨gr, 0, none⟩) n ec)
  refine bodyPost.kn K9 ?_; clear K9; intro w9 K9
  obtain ⟨b1, b2, b3, -⟩ := K9.cells
  refine bodyPost_ret (v := .tuple #[.agg #[.int .i64 (wd : Int), .slice (some ⟨gr, 0, none⟩) n ec], .int .i64 0]) (by simp [results, Tryd.results24, go_sem, b1]) rfl ⟨_, _, rfl, ?_⟩
  exact K9.sel [1] 99 (by decide) (by decide)
end Go.Proofs.YtgpmngcemnnpmaaDoor

namespace Go.Proofs.YtgpmngcemnnpmaaDoor
open Go.RowKit Go.Sort
theorem fnL_map (n : Nat) (g : Nat → Int) {i : Nat} (h : i < n) : fnL ((List.range n).map g) i = g i := by simp [fnL, List.getD, h]
theorem haF_congr {M : Int} {n first : Nat} {c d : Nat → Int} (h : ∀ i, i < n → c i = d i) : ∀ i, i < n → haF M n first c i = haF M n first d i := fun i hi => by
  unfold haF
  split
  · rename_i e; rw [h i hi, h (i + 1) e.1]
  · exact h i hi
theorem prF_congr {M : Int} {n : Nat} {c d : Nat → Int} (h : ∀ i, i < n → c i = d i) : ∀ i, i < n → prF M n c i = prF M n d i := fun i hi => by
  have e : ∀ j, ∀ i, i < n → itB M n j c i = itB M n j d i := fun j => by
    induction j with
    | zero => exact h
    | succ j ih => exact fun i hi => bkF_congr ih i hi
  exact e _ i hi
theorem InM.congr {M : Int} {n : Nat} {c d : Nat → Int} (h : InM M n c) (e : ∀ i, i < n → d i = c i) : InM M n d := fun i hi => by rw [e i hi]; exact h i hi
theorem InM.map {M : Int} {n : Nat} {g : Nat → Int} (h : InM M n g) : InM M n (fnL ((List.range n).map g)) := h.congr fun i hi => fnL_map n g hi
set_option maxRecDepth 100000 in
set_option maxHeartbeats 1600000 in
theorem HalfOdd_ok (wd n : Nat) (A : Option Addr) (c : Nat) (cs : List Int) (w : World) (h1 : 1 ≤ wd) (h12 : wd ≤ 12) (n0 : 0 < n) (n9 : n ≤ 9) (hr : RI w A n cs) (hv : InM (pw 10 wd) n (fnL cs)) :
    Calls Tryd.prog 25 #[.agg #[.int .i64 (wd : Int), .slice A n c], .bool true] w (EngR2 wd n ((List.range n).map (haF (pw 10 wd) n 1 (fnL cs))) w) := by
  have KV := Lib.hid (fun W (hW : Below w.heap.size w W) => ValidEngine_true wd n A c cs W h1 h12 n0 n9 (hr.below hW) hv)
  have KC := (fun W (hW : Below w.heap.size w W) => (show Calls Tryd.prog 55 #[.agg #[.int .i64 (wd : Int), .slice A n c], .int .i64 1] W _ from half_ok wd n A c cs 1 (.inl rfl) W h1 h12 n0 n9 (hr.below hW) hv))
  unfold EngR rowNN at KC
  replace KC := Lib.hid KC
  obtain ⟨ds, hds⟩ : ∃ d, (List.range n).map (haF (pw 10 wd) n 1 (fnL cs)) = d := ⟨_, rfl⟩
  rw [hds] at KC ⊢
  clear hr hv hds
  obtain ⟨g, hg⟩ : ∃ g, w.heap.size = g := ⟨_, rfl⟩
  have K0 := ((Kn.nil w).al [.int .i64 (wd : Int), .slice A n c] 45).al [.int .i64 0, .slice none 0 0] 45
  simp only [World.size_alloc, hg] at K0
  go_enter Tryd.func25, Tryd.ntmps25
  go_upto_region 1 with fail
  try rw [hg]
  refine Code.wp.kn K0 ?_; clear K0 hg; intro w1 K1
  obtain ⟨a1, a2, a3, e1, e2, e3, -⟩ := K1.cells
  go_upto_region 3 with (go_at_call 56; refine (KV.out _ K1.below).mono ?_; rintro e w2 ⟨rfl, hw⟩; have K2 := K1.keep hw; clear hw K1 a1 a2 a3 e1 e2 e3; obtain ⟨a1, a2, a3, e1, e2, e3, -⟩ := K2.cells)
  go_wp2_with (go_at_call 55; refine (KC.out _ K2.below).mono ?_; rintro e w3 ⟨gr, ec, rfl, hK⟩; have K3 := K2.join hK; clear hK K2 a1 a2 a3 e1 e2 e3; obtain ⟨a1, a2, a3, e1, e2, e3, -⟩ := K3.cells)
  have K9 := ((K3.front 1 rfl).st 0 (.int .i64 (wd : Int))).st 1 (.slice (some ⟨gr, 0, none⟩) n ec)
  refine bodyPost.kn K9 ?_; clear K9; intro w9 K9
  obtain ⟨b1, b2, b3, -⟩ := K9.cells
  refine bodyPost_ret (v := .tuple #[.agg #[.int .i64 (wd : Int), .slice (some ⟨gr, 0, none⟩) n ec], .int .i64 0]) (by simp [results, Tryd.results25, go_sem, b1]) rfl ⟨_, _, rfl, ?_⟩
  exact K9.sel [1] 99 (by decide) (by decide)
set_option maxRecDepth 100000 in
set_option maxHeartbeats 1600000 in
theorem HalfEven_ok (wd n : Nat) (A : Option Addr) (c : Nat) (cs : List Int) (w : World) (h1 : 1 ≤ wd) (h12 : wd ≤ 12) (n0 : 0 < n) (n9 : n ≤ 9) (hr : RI w A n cs) (hv : InM (pw 10 wd) n (fnL cs)) :
    Calls Tryd.prog 25 #[.agg #[.int .i64 (wd : Int), .slice A n c], .bool false] w (EngR2 wd n ((List.range n).map (haF (pw 10 wd) n 2 (fnL cs))) w) := by
  have KV := Lib.hid (fun W (hW : Below w.heap.size w W) => ValidEngine_true wd n A c cs W h1 h12 n0 n9 (hr.below hW) hv)
  have KC := (fun W (hW : Below w.heap.size w W) => (show Calls Tryd.prog 55 #[.agg #[.int .i64 (wd : Int), .slice A n c], .int .i64 2] W _ from half_ok wd n A c cs 2 (.inr rfl) W h1 h12 n0 n9 (hr.below hW) hv))
  unfold EngR rowNN at KC
  replace KC := Lib.hid KC
  obtain ⟨ds, hds⟩ : ∃ d, (List.range n).map (haF (pw 10 wd) n 2 (fnL cs)) = d := ⟨_, rfl⟩
  rw [hds] at KC ⊢
  clear hr hv hds
  obtain ⟨g, hg⟩ : ∃ g, w.heap.size = g := ⟨_, rfl⟩
  have K0 := ((Kn.nil w).al [.int .i64 (wd : Int), .slice A n c] 45).al [.int .i64 0, .slice none 0 0] 45
  simp only [World.size_alloc, hg] at K0
  go_enter Tryd.func25, Tryd.ntmps25
  go_upto_region 1 with fail
  try rw [hg]
  refine Code.wp.kn K0 ?_; clear K0 hg; intro w1 K1
  obtain ⟨a1, a2, a3, e1, e2, e3, -⟩ := K1.cells
  go_upto_region 3 with (go_at_call 56; refine (KV.out _ K1.below).mono ?_; rintro e w2 ⟨rfl, hw⟩; have K2 := K1.keep hw; clear hw K1 a1 a2 a3 e1 e2 e3; obtain ⟨a1, a2, a3, e1, e2, e3, -⟩ := K2.cells)
  go_wp2_with (go_at_call 55; refine (KC.out _ K2.below).mono ?_; rintro e w3 ⟨gr, ec, rfl, hK⟩; have K3 := K2.join hK; clear hK K2 a1 a2 a3 e1 e2 e3; obtain ⟨a1, a2, a3, e1, e2, e3, -⟩ := K3.cells)
  have K9 := ((K3.front 1 rfl).st 0 (.int .i64 (wd : Int))).st 1 (.slice (some ⟨gr, 0, none⟩) n ec)
  refine bodyPost.kn K9 ?_; clear K9; intro w9 K9
  obtain ⟨b1, b2, b3, -⟩ := K9.cells
  refine bodyPost_ret (v := .tuple #[.agg #[.int .i64 (wd : Int), .slice (some ⟨gr, 0, none⟩) n ec], .int .i64 0]) (by simp [results, Tryd.results25, go_sem, b1]) rfl ⟨_, _, rfl, ?_⟩
  exact K9.sel [1] 99 (by decide) (by decide)
set_option maxRecDepth 100000 in
set_option maxHeartbeats 1600000 in
theorem RunHalves1_ok (wd n : Nat) (A : Option Addr) (c : Nat) (cs : List Int) (w : World) (h1 : 1 ≤ wd) (h12 : wd ≤ 12) (n0 : 0 < n) (n9 : n ≤ 9) (hr : RI w A n cs) (hv : InM (pw 10 wd) n (fnL cs)) :
    Calls Tryd.prog 54 #[.agg #[.int .i64 (wd : Int), .slice A n c]] w (EngR wd n ((List.range n).map (hvF (pw 10 wd) n (fnL cs))) w) := by
  have hM := pw10_bd h1 h12
  have KC := (fun W (hW : Below w.heap.size w W) => (show Calls Tryd.prog 55 #[.agg #[.int .i64 (wd : Int), .slice A n c], .int .i64 1] W _ from half_ok wd n A c cs 1 (.inl rfl) W h1 h12 n0 n9 (hr.below hW) hv))
  have KD := (fun (B : Option Addr) (d : Nat) W (hW : RI W B n ((List.range n).map (haF (pw 10 wd) n 1 (fnL cs)))) => by
    have h := (show Calls Tryd.prog 55 #[.agg #[.int .i64 (wd : Int), .slice B n d], .int .i64 2] W _ from half_ok wd n B d _ 2 (.inr rfl) W h1 h12 n0 n9 hW ((hv.ha (show 0 < pw 10 wd by omega) 1).map))
    have e : (List.range n).map (haF (pw 10 wd) n 2 (fnL ((List.range n).map (haF (pw 10 wd) n 1 (fnL cs))))) = (List.range n).map (hvF (pw 10 wd) n (fnL cs)) := List.map_congr_left fun i hi => haF_congr (fun k hk => fnL_map n _ hk) i (List.mem_range.1 hi)
    rw [e] at h
    exact h)
  unfold EngR at KC KD
  obtain ⟨es, hes⟩ : ∃ d, (List.range n).map (haF (pw 10 wd) n 1 (fnL cs)) = d := ⟨_, rfl⟩
  obtain ⟨ds, hds⟩ : ∃ d, (List.range n).map (hvF (pw 10 wd) n (fnL cs)) = d := ⟨_, rfl⟩
  have HE := Lib.hid (show es.length = n by rw [← hes]; simp)
  rw [hes] at KC
  simp only [hes, hds] at KD ⊢
  replace KC := Lib.hid KC
  replace KD := Lib.hid KD
  clear hr hv hds hes hM
  obtain ⟨g, hg⟩ : ∃ g, w.heap.size = g := ⟨_, rfl⟩
  have K0 := ((Kn.nil w).al [.int .i64 (wd : Int), .slice A n c] 45).al [.int .i64 0, .slice none 0 0] 45
  simp only [World.size_alloc, hg] at K0
  go_enter Tryd.func54, Tryd.ntmps54
  go_upto_region 1 with fail
  try rw [hg]
  refine Code.wp.kn K0 ?_; clear K0 hg; intro w1 K1
  obtain ⟨a1, a2, a3, e1, e2, e3, -⟩ := K1.cells
  go_wp2_with fail
  refine (KC.out _ K1.below).mono ?_; rintro e w3 ⟨gr, ec, rfl, hK⟩
  have K2 := K1.join hK
  clear hK K1 a1 a2 a3 e1 e2 e3
  obtain ⟨a1, a2, a3, e1, e2, e3, -⟩ := (K2.sel [1, 2] 99 (by decide) (by decide)).cells
  go_wp2_with fail
  refine (KD.out _ ec _ (K2.rivNN HE.out)).mono ?_; rintro e w4 ⟨gr4, ec4, rfl, hK⟩
  have K3 := K2.join hK
  clear hK K2 a1 a2 a3 e1 e2 e3
  obtain ⟨a1, a2, a3, e1, e2, e3, -⟩ := (K3.sel [2, 3] 99 (by decide) (by decide)).cells
  go_wp2_with fail
  have K9 := ((K3.front 2 rfl).st 0 (.int .i64 (wd : Int))).st 1 (.slice (some ⟨gr4, 0, none⟩) n ec4)
  refine bodyPost.kn K9 ?_; clear K9; intro w9 K9
  obtain ⟨b1, b2, b3, -⟩ := K9.cells
  refine bodyPost_ret (v := .agg #[.int .i64 (wd : Int), .slice (some ⟨gr4, 0, none⟩) n ec4]) (by simp [results, Tryd.results54, go_sem, b1]) rfl ⟨_, _, rfl, ?_⟩
  exact K9.sel [1] 99 (by decide) (by decide)
theorem cyclesCode_ok (wd n N : Nat) (A : Option Addr) (c : Nat) (cs : List Int) (w : World) (h1 : 1 ≤ wd) (h12 : wd ≤ 12) (n0 : 0 < n) (n9 : n ≤ 9) (hN : N ≤ 40) (hr : RI w A n cs) (hv : InM (pw 10 wd) n (fnL cs)) :
    Calls Tryd.prog 50 #[.agg #[.int .i64 (wd : Int), .slice A n c], .int .i64 (N : Int)] w fun e w' => e = .returned (.int .i64 0) ∧ Below w.heap.size w w' := by
  have KV := Lib.hid (fun W (hW : Below w.heap.size w W) => ValidEngine_true wd n A c cs W h1 h12 n0 n9 (hr.below hW) hv)
  have hb1 : betB (N : Int) 0 40 = true := betB_iff.2 (by omega)
  clear hr hv
  obtain ⟨g, hg⟩ : ∃ g, w.heap.size = g := ⟨_, rfl⟩
  have K0 := (Kn.nil w).al [.int .i64 (wd : Int), .slice A n c] 45
  simp only [World.size_alloc, hg] at K0
  go_enter Tryd.func50, Tryd.ntmps50
  go_upto_region 1 with fail
  try rw [hg]
  refine Code.wp.kn K0 ?_; clear K0 hg; intro w1 K1
  obtain ⟨a1, a2, a3, -⟩ := K1.cells
  go_wp2_with (first | (go_at_call 56; refine (KV.out _ K1.below).mono ?_; rintro e w2 ⟨rfl, hw⟩; have K2 := K1.keep hw; clear hw K1 a1 a2 a3) | (go_at_call 71; refine (between_any _ _ _ _).mono ?_; rintro e w' ⟨rfl, rfl⟩; try rw [hb1]))
  go_ret
  exact ⟨rfl, K2.below⟩
end Go.Proofs.YtgpmngcemnnpmaaDoor

namespace Go.Proofs.YtgpmngcemnnpmaaDoor
open Go.RowKit Go.Sort
theorem it_in {M : Int} {n : Nat} {f : Nat → Int} (h : InM M n f) (hM : 0 < M) : ∀ k, InM M n (itF (cyF M n) k f)
  | 0 => h
  | k + 1 => (it_in h hM k).cy hM
theorem hv_in {M : Int} {n : Nat} {f : Nat → Int} (h : InM M n f) (hM : 0 < M) : ∀ k, InM M n (itF (hvF M n) k f)
  | 0 => h
  | k + 1 => (((hv_in h hM k).ha hM 1).ha hM 2)
theorem hvF_congr {M : Int} {n : Nat} {c d : Nat → Int} (h : ∀ i, i < n → c i = d i) : ∀ i, i < n → hvF M n c i = hvF M n d i := fun i hi => haF_congr (fun k hk => haF_congr h k hk) i hi
/-- cycles in halves, from prepared columns -/
theorem hv_pr {M : Int} {n : Nat} {f p : Nat → Int} (h : InM M n f) (hM : 0 < M) (hp : ∀ i, i < n → p i = prF M n f i) : ∀ k i, i < n → itF (hvF M n) k p i = prF M n (itF (cyF M n) k f) i
  | 0, i, hi => hp i hi
  | k + 1, i, hi => by
    show hvF M n (itF (hvF M n) k p) i = prF M n (cyF M n (itF (cyF M n) k f)) i
    rw [hvF_congr (fun i hi => hv_pr h hM hp k i hi) i hi]
    exact halves (it_in h hM k) hM i hi
theorem res_halves {M : Int} {n : Nat} {f p : Nat → Int} (h : InM M n f) (hM : 0 < M) (n0 : 0 < n) (hp : ∀ i, i < n → p i = prF M n f i) (N : Nat) : resL (hvF M n) p N = resL (cyF M n) f N :=
  List.map_congr_left fun t _ => hv_pr h hM hp t 0 n0
theorem resL_tail (st : (Nat → Int) → Nat → Int) (f : Nat → Int) (k : Nat) : (resL st f (k + 1)).tail = resL st (st f) k := by
  have e : ∀ t, itF st (t + 1) f = itF st t (st f) := fun t => by
    induction t with
    | zero => rfl
    | succ t ih => show st (itF st (t + 1) f) = st (itF st t (st f)); rw [ih]
  unfold resL
  rw [List.range_succ_eq_map, List.map_cons, List.tail_cons, List.map_map]
  exact List.map_congr_left fun t _ => by show itF st (t + 1) f 0 = _; rw [e]
theorem cyF_congrL {M : Int} {n : Nat} {f : Nat → Int} (g : Nat → Int) (h : ∀ i, i < n → f i = g i) : ∀ k i, i < n → itF (cyF M n) k f i = itF (cyF M n) k g i
  | 0, i, hi => h i hi
  | k + 1, i, hi => cyF_congr (fun j hj => cyF_congrL g h k j hj) i hi
theorem resL_congr {M : Int} {n : Nat} {f g : Nat → Int} (n0 : 0 < n) (h : ∀ i, i < n → f i = g i) (N : Nat) : resL (cyF M n) f N = resL (cyF M n) g N :=
  List.map_congr_left fun t _ => cyF_congrL g h t 0 n0
def RunR (N : Nat) (ds : List Int) (w : World) (e : Ending) (w' : World) : Prop := ∃ R rc, e = .returned (.tuple #[.slice R N rc, .int .i64 0]) ∧ Kn w [rowNN R N rc ds] w'
set_option maxRecDepth 100000 in
set_option maxHeartbeats 1600000 in
theorem RunEngine_ok (wd n N : Nat) (A : Option Addr) (c : Nat) (cs : List Int) (w : World) (h1 : 1 ≤ wd) (h12 : wd ≤ 12) (n0 : 0 < n) (n9 : n ≤ 9) (hN : N ≤ 40) (hr : RI w A n cs) (hv : InM (pw 10 wd) n (fnL cs)) :
    Calls Tryd.prog 16 #[.agg #[.int .i64 (wd : Int), .slice A n c], .int .i64 (N : Int)] w (RunR N (resL (cyF (pw 10 wd) n) (fnL cs) N) w) := by
  unfold RunR rowNN
  have hM := pw10_bd h1 h12
  have KC := Lib.hid (fun W (hW : Below w.heap.size w W) => cyclesCode_ok wd n N A c cs W h1 h12 n0 n9 hN (hr.below hW) hv)
  have KB : Hid (∀ (k : Nat) (B : Option Addr) (bc : Nat) (W : World), RI W B n ((List.range n).map (itF (cyF (pw 10 wd) n) k (fnL cs))) → Calls Tryd.prog 52 #[.agg #[.int .i64 (wd : Int), .slice B n bc]] W (EngR wd n ((List.range n).map (itF (cyF (pw 10 wd) n) (k + 1) (fnL cs))) W)) := fun k B bc W hW => by
    have h := cycled_ok wd n B bc _ W h1 h12 n0 n9 hW (it_in hv (by omega) k).map
    rw [show (List.range n).map (cyF (pw 10 wd) n (fnL ((List.range n).map (itF (cyF (pw 10 wd) n) k (fnL cs))))) = (List.range n).map (itF (cyF (pw 10 wd) n) (k + 1) (fnL cs)) from List.map_congr_left fun i hi => cyF_congr (fun j hj => fnL_map n _ hj) i (List.mem_range.1 hi)] at h
    exact h
  have KR := Lib.hid (fun W (hW : Below w.heap.size w W) => results_cyc wd n N A c cs W n0 n9 hN (hr.below hW) (pw 10 wd) KB)
  clear hr hv KB hM
  obtain ⟨ds, hds⟩ : ∃ d, resL (cyF (pw 10 wd) n) (fnL cs) N = d := ⟨_, rfl⟩
  rw [hds] at KR ⊢
  clear hds
  unfold rowNN at KR
  obtain ⟨g, hg⟩ : ∃ g, w.heap.size = g := ⟨_, rfl⟩
  have K0 := (Kn.nil w).al [.int .i64 (wd : Int), .slice A n c] 45
  simp only [World.size_alloc, hg] at K0
  go_enter Tryd.func16, Tryd.ntmps16
  go_upto_region 1 with fail
  try rw [hg]
  refine Code.wp.kn K0 ?_; clear K0 hg; intro w1 K1
  obtain ⟨e1, e2, e3, -⟩ := K1.cells
  go_upto_region 4 with (go_at_call 50; refine (KC.out _ K1.below).mono ?_; rintro e w2 ⟨rfl, hw⟩; have K2 := K1.keep hw; clear hw K1 e1 e2 e3; obtain ⟨e1, e2, e3, -⟩ := K2.cells)
  go_wp2_with (go_at_call 51; refine (KR.out _ K2.below).mono ?_; rintro e w3 ⟨R, rc, rfl, hK⟩; have K3 := K2.join hK; clear hK K2 e1 e2 e3)
  go_ret2
  exact ⟨R, rc, rfl, K3.sel [0] 99 (by decide) (by decide)⟩
set_option maxRecDepth 100000 in
set_option maxHeartbeats 1600000 in
theorem RunHalves_ok (wd n N : Nat) (A : Option Addr) (c : Nat) (cs : List Int) (w : World) (h1 : 1 ≤ wd) (h12 : wd ≤ 12) (n0 : 0 < n) (n9 : n ≤ 9) (hN : N ≤ 40) (hr : RI w A n cs) (hv : InM (pw 10 wd) n (fnL cs)) :
    Calls Tryd.prog 17 #[.agg #[.int .i64 (wd : Int), .slice A n c], .int .i64 (N : Int)] w (RunR N (resL (cyF (pw 10 wd) n) (fnL cs) N) w) := by
  unfold RunR rowNN
  have hM := pw10_bd h1 h12
  have hM0 : 0 < pw 10 wd := by omega
  have KC := Lib.hid (fun W (hW : Below w.heap.size w W) => cyclesCode_ok wd n N A c cs W h1 h12 n0 n9 hN (hr.below hW) hv)
  have KP := (fun W (hW : Below w.heap.size w W) => prepared_ok wd n A c cs W h1 h12 n0 n9 (hr.below hW) hv)
  have hvp : InM (pw 10 wd) n (fnL ((List.range n).map (prF (pw 10 wd) n (fnL cs)))) := (hv.pr hM0).map
  obtain ⟨ps, hps⟩ : ∃ p, (List.range n).map (prF (pw 10 wd) n (fnL cs)) = p := ⟨_, rfl⟩
  have hpf : ∀ i, i < n → fnL ps i = prF (pw 10 wd) n (fnL cs) i := fun i hi => by rw [← hps]; exact fnL_map n _ hi
  have hres := res_halves hv hM0 n0 hpf N
  have HPL := Lib.hid (show ps.length = n by rw [← hps]; simp)
  rw [hps] at KP hvp
  unfold EngR at KP
  replace KP := Lib.hid KP
  have KB : Hid (∀ (k : Nat) (B : Option Addr) (bc : Nat) (W : World), RI W B n ((List.range n).map (itF (hvF (pw 10 wd) n) k (fnL ps))) → Calls Tryd.prog 54 #[.agg #[.int .i64 (wd : Int), .slice B n bc]] W (EngR wd n ((List.range n).map (itF (hvF (pw 10 wd) n) (k + 1) (fnL ps))) W)) := fun k B bc W hW => by
    have h := RunHalves1_ok wd n B bc _ W h1 h12 n0 n9 hW (hv_in hvp hM0 k).map
    rw [show (List.range n).map (hvF (pw 10 wd) n (fnL ((List.range n).map (itF (hvF (pw 10 wd) n) k (fnL ps))))) = (List.range n).map (itF (hvF (pw 10 wd) n) (k + 1) (fnL ps)) from List.map_congr_left fun i hi => hvF_congr (fun j hj => fnL_map n _ hj) i (List.mem_range.1 hi)] at h
    exact h
  have KR := (fun (B : Option Addr) (d : Nat) W (hW : RI W B n ps) => results_hal wd n N B d ps W n0 n9 hN hW (pw 10 wd) KB)
  rw [hres] at KR
  clear hr hv KB hM hvp hps hpf hres hM0
  obtain ⟨ds, hds⟩ : ∃ d, resL (cyF (pw 10 wd) n) (fnL cs) N = d := ⟨_, rfl⟩
  rw [hds] at KR ⊢
  clear hds
  unfold rowNN at KR
  replace KR := Lib.hid KR
  obtain ⟨g, hg⟩ : ∃ g, w.heap.size = g := ⟨_, rfl⟩
  have K0 := (Kn.nil w).al [.int .i64 (wd : Int), .slice A n c] 45
  simp only [World.size_alloc, hg] at K0
  go_enter Tryd.func17, Tryd.ntmps17
  go_upto_region 1 with fail
  try rw [hg]
  refine Code.wp.kn K0 ?_; clear K0 hg; intro w1 K1
  obtain ⟨e1, e2, e3, -⟩ := K1.cells
  go_upto_region 4 with (go_at_call 50; refine (KC.out _ K1.below).mono ?_; rintro e w2 ⟨rfl, hw⟩; have K2 := K1.keep hw; clear hw K1 e1 e2 e3; obtain ⟨e1, e2, e3, -⟩ := K2.cells)
  go_wp2_with (first
    | (go_at_call 53; refine (KP.out _ K2.below).mono ?_; rintro e w3 ⟨gr, ec, rfl, hK⟩; have K3 := K2.join hK; clear hK K2 e1 e2 e3)
    | (go_at_call 51; refine (KR.out _ ec _ (K3.rivNN HPL.out)).mono ?_; rintro e w4 ⟨R, rc, rfl, hK⟩; have K4 := K3.join hK; clear hK K3))
  go_ret2
  exact ⟨R, rc, rfl, K4.sel [0] 99 (by decide) (by decide)⟩
set_option maxRecDepth 100000 in
set_option maxHeartbeats 3200000 in
theorem EngineCarries_ok (wd n : Nat) (A : Option Addr) (c : Nat) (cs : List Int) (w : World) (h1 : 1 ≤ wd) (h12 : wd ≤ 12) (n0 : 0 < n) (n9 : n ≤ 9) (hr : RI w A n cs) (hv : InM (pw 10 wd) n (fnL cs)) :
    Calls Tryd.prog 27 #[.agg #[.int .i64 (wd : Int), .slice A n c]] w fun e w' => (∃ s : Int, e = .returned (.tuple #[.int .i64 s, .int .i64 0]) ∧ 0 ≤ s ∧ s ≤ (((n - 1) * (wd - 1) : Nat) : Int)) ∧ Below w.heap.size w w' := by
  have KV := Lib.hid (fun W (hW : Below w.heap.size w W) => ValidEngine_true wd n A c cs W h1 h12 n0 n9 (hr.below hW) hv)
  have HR := Lib.hid (fun W (hW : Below w.heap.size w W) => hr.below hW)
  have hM := pw10_bd h1 h12
  have HV := Lib.hid (fun i (hi : i < n) => (show 0 ≤ fnL cs i ∧ fnL cs i ≤ 1000000000000 by have := hv i hi; omega))
  obtain ⟨q, hq⟩ : ∃ q : Nat, wd - 1 = q := ⟨_, rfl⟩
  have hq1 : IntKind.i64.wrap ((wd : Int) - 1) = (q : Int) := by rw [wrapI64 (by omega)]; omega
  have hq2 : (wd : Int) - 1 = (q : Int) := by omega
  have hq11 : q ≤ 11 := by omega
  rw [hq]
  clear hr hv hM hq
  obtain ⟨g, hg⟩ : ∃ g, w.heap.size = g := ⟨_, rfl⟩
  have K0 := (Kn.nil w).al [.int .i64 (wd : Int), .slice A n c] 45
  simp only [World.size_alloc, hg] at K0
  go_enter Tryd.func27, Tryd.ntmps27
  go_upto_region 1 with fail
  try rw [hg]
  refine Code.wp.kn K0 ?_; clear K0 hg; intro w1 K1
  obtain ⟨e1, e2, e3, -⟩ := K1.cells
  go_upto_region 3 with (go_at_call 56; refine (KV.out _ K1.below).mono ?_; rintro e w2 ⟨rfl, hw⟩; have K2 := K1.keep hw; clear hw K1 e1 e2 e3)
  obtain ⟨e1, e2, e3, -⟩ := K2.cells
  go_wp2_with fail
  go_loopw [4, 5] (fun ss kk wr => ∃ (k : Nat) (s : Int), k < n ∧ kk = .int .i64 (k : Int) ∧ ss = .int .i64 s ∧ (0 ≤ s ∧ s ≤ ((k * q : Nat) : Int)) ∧ Kn w [.blk g [.int .i64 (wd : Int), .slice A n c] 45] wr) (fun _ kk _ => n - (intOf kk).toNat)
  case atStart => exact ⟨0, 0, n0, rfl, rfl, by simp, K2⟩
  case round =>
    clear K2 e1 e2 e3
    obtain ⟨k, s, hk, rfl, rfl, hs, K⟩ := hrel
    obtain ⟨e1, e2, e3, -⟩ := K.cells
    have hw0 : IntKind.i64.wrap ((k : Int) + 1) = (k : Int) + 1 := wrapI64 (by omega)
    obtain ⟨p, hp⟩ : ∃ p : Nat, k * q = p := ⟨_, rfl⟩
    have hp99 : p ≤ 99 := by
      have := Nat.mul_le_mul (show k ≤ 9 by omega) hq11
      omega
    by_cases hk1 : k + 1 < n
    · have i1 : (k : Int) + 1 < (n : Int) := by omega
      have i0 : (0 : Int) ≤ (k : Int) := by omega
      have i2 : (k : Int) < (n : Int) := by omega
      have i3 : (0 : Int) ≤ (k : Int) + 1 := by omega
      obtain ⟨ad, hA, -, hkl, hcl⟩ := (HR.out _ K.below).at_ hk
      obtain ⟨ad2, hA2, -, hkl2, hcl2⟩ := (HR.out _ K.below).at_ hk1
      rw [hA] at hA2
      injection hA2 with hA2
      subst hA2
      subst hA
      have ha := HV.out k hk
      have hb := HV.out (k + 1) hk1
      have e : fnL cs k = cs[k] := by simp [fnL, List.getD, hkl]
      have e' : fnL cs (k + 1) = cs[k + 1] := by simp [fnL, List.getD, hkl2]
      rw [e] at ha
      rw [e'] at hb
      obtain ⟨x, hx⟩ : ∃ x, cs[k] = x := ⟨_, rfl⟩
      obtain ⟨y, hy⟩ : ∃ y, cs[k + 1] = y := ⟨_, rfl⟩
      rw [hx] at ha hcl
      rw [hy] at hb hcl2
      have HA := Lib.hid ha
      have HB := Lib.hid hb
      rw [hp] at hs
      have HS := Lib.hid hs
      have HP := Lib.hid hp
      clear e e' hx hy hkl hkl2 ha hb hs hp
      go_upto_region 7 with fail
      have K0 := K.drew
      rw [show ad.add (k + 1) = ⟨ad.block, ad.off + (k + 1), none⟩ by unfold Addr.add; simp] at hcl2
      have HC1 := Lib.hid (show (wr.drew.cell? ⟨g, 1, none⟩ = some (.slice (some ad) n c) ∧ wr.drew.cell? (ad.add k) = some (.int .i64 x)) ∧ wr.drew.cell? ⟨ad.block, ad.off + (k + 1), none⟩ = some (.int .i64 y) from ⟨⟨K0.cellIs 1 _ rfl, hcl⟩, hcl2⟩)
      clear e1 e2 e3 hcl hcl2 K
      refine wp_region_held_drew (S := fun W => (W.cell? ⟨g, 1, none⟩ = some (.slice (some ad) n c) ∧ W.cell? (ad.add k) = some (.int .i64 x)) ∧ W.cell? ⟨ad.block, ad.off + (k + 1), none⟩ = some (.int .i64 y)) (by kernel_rfl) ?_ (fun hHeld => ?_)
      · exact HC1.out
      try dsimp only
      generalize wr.drew = wd' at K0 HC1 hHeld ⊢
      refine wpAnyH_take (i := 0) (v := ?_) rfl (by kernel_rfl) (by kernel_rfl) (by kernel_rfl) (fun _ _ _ h => h) (Or.inl ⟨by rfl, ?_⟩) hHeld ?_
      rotate_left
      · (intro w hSw; (try dsimp only at hSw); go_simp; try with_reducible rfl)
      try simp only [Act.put, List.setIfInBounds_toArray, List.set_cons_zero, List.set_cons_succ, List.getElem_toArray, List.getElem_cons_succ, List.getElem_cons_zero]
      refine wpAnyH_take (i := 1) (v := ?_) rfl (by kernel_rfl) (by kernel_rfl) (by kernel_rfl) (fun _ _ _ h => h) (Or.inl ⟨by rfl, ?_⟩) hHeld ?_
      rotate_left
      · (intro w hSw; (try dsimp only at hSw); go_simp; try with_reducible rfl)
      try simp only [Act.put, List.setIfInBounds_toArray, List.set_cons_zero, List.set_cons_succ, List.getElem_toArray, List.getElem_cons_succ, List.getElem_cons_zero]
      refine wpAnyH_take (i := 2) (v := ?_) rfl (by kernel_rfl) (by kernel_rfl) (by kernel_rfl) (fun _ _ _ h => h) (Or.inl ⟨by rfl, ?_⟩) hHeld ?_
      rotate_left
      · (intro w hSw; (try dsimp only at hSw); go_simp; try with_reducible rfl)
      try simp only [Act.put, List.setIfInBounds_toArray, List.set_cons_zero, List.set_cons_succ, List.getElem_toArray, List.getElem_cons_succ, List.getElem_cons_zero]
      refine wpAnyH_take (i := 3) (v := ?_) rfl (by kernel_rfl) (by kernel_rfl) (by kernel_rfl) (fun _ _ _ h => h) (Or.inl ⟨by rfl, ?_⟩) hHeld ?_
      rotate_left
      · (intro w hSw; (try dsimp only at hSw); go_simp; try with_reducible rfl)
      try simp only [Act.put, List.setIfInBounds_toArray, List.set_cons_zero, List.set_cons_succ, List.getElem_toArray, List.getElem_cons_succ, List.getElem_cons_zero]
      refine wpAnyH_take (i := 4) (v := ?_) rfl (by kernel_rfl) (by kernel_rfl) (by kernel_rfl) (fun _ _ _ h => h) (Or.inl ⟨by rfl, ?_⟩) hHeld ?_
      rotate_left
      · (intro w hSw; (try dsimp only at hSw); go_simp; try with_reducible rfl)
      try simp only [Act.put, List.setIfInBounds_toArray, List.set_cons_zero, List.set_cons_succ, List.getElem_toArray, List.getElem_cons_succ, List.getElem_cons_zero]
      refine wpAnyH_take (i := 5) (v := ?_) rfl (by kernel_rfl) (by kernel_rfl) (by kernel_rfl) (fun _ _ _ h => h) (Or.inl ⟨by rfl, ?_⟩) hHeld ?_
      rotate_left
      · (intro w hSw; (try dsimp only at hSw); go_simp; try with_reducible rfl)
      try simp only [Act.put, List.setIfInBounds_toArray, List.set_cons_zero, List.set_cons_succ, List.getElem_toArray, List.getElem_cons_succ, List.getElem_cons_zero]
      refine wpAnyH_take (i := 6) (v := ?_) rfl (by kernel_rfl) (by kernel_rfl) (by kernel_rfl) (fun _ _ _ h => h) (Or.inl ⟨by rfl, ?_⟩) hHeld ?_
      rotate_left
      · (intro w hSw; (try dsimp only at hSw); go_simp; try with_reducible rfl)
      try simp only [Act.put, List.setIfInBounds_toArray, List.set_cons_zero, List.set_cons_succ, List.getElem_toArray, List.getElem_cons_succ, List.getElem_cons_zero]
      refine wpAnyH_take (i := 7) (v := ?_) rfl (by kernel_rfl) (by kernel_rfl) (by kernel_rfl) (fun _ _ _ h => h) (Or.inl ⟨by rfl, ?_⟩) hHeld ?_
      rotate_left
      · (intro w hSw; (try dsimp only at hSw); go_simp; try with_reducible rfl)
      try simp only [Act.put, List.setIfInBounds_toArray, List.set_cons_zero, List.set_cons_succ, List.getElem_toArray, List.getElem_cons_succ, List.getElem_cons_zero]
      refine wpAnyH_take (i := 8) (v := ?_) rfl (by kernel_rfl) (by kernel_rfl) (by kernel_rfl) (fun _ _ _ h => h) (Or.inl ⟨by rfl, ?_⟩) hHeld ?_
      rotate_left
      · (intro w hSw; (try dsimp only at hSw); go_simp; try with_reducible rfl)
      try simp only [Act.put, List.setIfInBounds_toArray, List.set_cons_zero, List.set_cons_succ, List.getElem_toArray, List.getElem_cons_succ, List.getElem_cons_zero]
      refine wpAnyH_take (i := 9) (v := ?_) rfl (by kernel_rfl) (by kernel_rfl) (by kernel_rfl) (fun _ _ _ h => h) (Or.inl ⟨by rfl, ?_⟩) hHeld ?_
      rotate_left
      · (intro w hSw; (try dsimp only at hSw); go_simp; try with_reducible rfl)
      try simp only [Act.put, List.setIfInBounds_toArray, List.set_cons_zero, List.set_cons_succ, List.getElem_toArray, List.getElem_cons_succ, List.getElem_cons_zero]
      refine wpAnyH_take (i := 10) (v := ?_) rfl (by kernel_rfl) (by kernel_rfl) (by kernel_rfl) (fun _ _ _ h => h) (Or.inl ⟨by rfl, ?_⟩) hHeld ?_
      rotate_left
      · (intro w hSw; (try dsimp only at hSw); go_simp; try with_reducible rfl)
      try simp only [Act.put, List.setIfInBounds_toArray, List.set_cons_zero, List.set_cons_succ, List.getElem_toArray, List.getElem_cons_succ, List.getElem_cons_zero]
      refine wpAnyH_take (i := 11) (v := ?_) rfl (by kernel_rfl) (by kernel_rfl) (by kernel_rfl) (fun _ _ _ h => h) (Or.inl ⟨by rfl, ?_⟩) hHeld ?_
      rotate_left
      · (intro w hSw; (try dsimp only at hSw); go_simp; try with_reducible rfl)
      try simp only [Act.put, List.setIfInBounds_toArray, List.set_cons_zero, List.set_cons_succ, List.getElem_toArray, List.getElem_cons_succ, List.getElem_cons_zero]
      refine wpAnyH_take (i := 12) (v := ?_) rfl (by kernel_rfl) (by kernel_rfl) (by kernel_rfl) (fun _ _ _ h => h) (Or.inl ⟨by rfl, ?_⟩) hHeld ?_
      rotate_left
      · (intro w hSw; (try dsimp only at hSw); go_simp; try with_reducible rfl)
      try simp only [Act.put, List.setIfInBounds_toArray, List.set_cons_zero, List.set_cons_succ, List.getElem_toArray, List.getElem_cons_succ, List.getElem_cons_zero]
      refine wpAnyH_take (i := 13) (v := ?_) rfl (by kernel_rfl) (by kernel_rfl) (by kernel_rfl) (fun _ _ _ h => h) (Or.inl ⟨by rfl, ?_⟩) hHeld ?_
      rotate_left
      · (intro w hSw; (try dsimp only at hSw); go_simp; try with_reducible rfl)
      try simp only [Act.put, List.setIfInBounds_toArray, List.set_cons_zero, List.set_cons_succ, List.getElem_toArray, List.getElem_cons_succ, List.getElem_cons_zero]
      refine wpAnyH_done (by kernel_rfl) ?_ _
      clear HC1
      obtain ⟨e1, e2, e3, -⟩ := K0.cells
      go_wp2_with fail
      go_loopw [4, 6, 7, 8, 34] (fun ss aa bb cc jj wq => ∃ (j : Nat) (t a b v : Int), j ≤ q ∧ jj = .int .i64 (j : Int) ∧ ss = .int .i64 t ∧ aa = .int .i64 a ∧ bb = .int .i64 b ∧ cc = .int .i64 v ∧ Hid ((0 ≤ v ∧ v ≤ 1) ∧ (0 ≤ a ∧ a ≤ 1000000000000) ∧ (0 ≤ b ∧ b ≤ 1000000000000) ∧ s ≤ t ∧ t ≤ s + j) ∧ Kn w [.blk g [.int .i64 (wd : Int), .slice (some ad) n c] 45] wq) (fun _ _ _ _ jj _ => q - (intOf jj).toNat)
      case atStart => exact ⟨0, s, x, y, 0, Nat.zero_le _, rfl, rfl, rfl, rfl, rfl, ⟨by omega, HA.out, HB.out, by omega, by omega⟩, K0⟩
      case round =>
        clear K0 e1 e2 e3
        obtain ⟨j, t, a, b, v, hj, rfl, rfl, rfl, rfl, rfl, HH, KQ⟩ := hrel
        by_cases hjq : j < q
        · have j1 : (j : Int) < (q : Int) := by omega
          obtain ⟨⟨v0, v1⟩, ⟨a0, a1⟩, ⟨b0, b1⟩, t0, t1⟩ := HH.out
          obtain ⟨x1, hx1⟩ : ∃ x1, a.tmod 10 = x1 := ⟨_, rfl⟩
          obtain ⟨y1, hy1⟩ : ∃ y1, b.tmod 10 = y1 := ⟨_, rfl⟩
          obtain ⟨x2, hx2⟩ : ∃ x2, a.tdiv 10 = x2 := ⟨_, rfl⟩
          obtain ⟨y2, hy2⟩ : ∃ y2, b.tdiv 10 = y2 := ⟨_, rfl⟩
          obtain ⟨z, hz⟩ : ∃ z, (x1 + y1 + v).tdiv 10 = z := ⟨_, rfl⟩
          have bx1 : 0 ≤ x1 ∧ x1 ≤ 9 := by rw [← hx1, Int.tmod_eq_emod_of_nonneg a0]; omega
          have by1 : 0 ≤ y1 ∧ y1 ≤ 9 := by rw [← hy1, Int.tmod_eq_emod_of_nonneg b0]; omega
          have bx2 : 0 ≤ x2 ∧ x2 ≤ 1000000000000 := by rw [← hx2, Int.tdiv_eq_ediv_of_nonneg a0]; omega
          have by2 : 0 ≤ y2 ∧ y2 ≤ 1000000000000 := by rw [← hy2, Int.tdiv_eq_ediv_of_nonneg b0]; omega
          have bz : 0 ≤ z ∧ z ≤ 1 := by rw [← hz, Int.tdiv_eq_ediv_of_nonneg (by omega)]; omega
          have u1 : IntKind.i64.wrap (x1 + y1) = x1 + y1 := wrapI64 (by omega)
          have u2 : IntKind.i64.wrap (x1 + y1 + v) = x1 + y1 + v := wrapI64 (by omega)
          have hs := HS.out
          have u3 : IntKind.i64.wrap (t + z) = t + z := wrapI64 (by omega)
          have u4 : IntKind.i64.wrap z = z := wrapI64 (by omega)
          have u5 : IntKind.i64.wrap x2 = x2 := wrapI64 (by omega)
          have u6 : IntKind.i64.wrap y2 = y2 := wrapI64 (by omega)
          have HH2 : Hid ((0 ≤ z ∧ z ≤ 1) ∧ (0 ≤ x2 ∧ x2 ≤ 1000000000000) ∧ (0 ≤ y2 ∧ y2 ≤ 1000000000000) ∧ s ≤ t + z ∧ t + z ≤ s + ((j + 1 : Nat) : Int)) := ⟨bz, bx2, by2, by omega, by omega⟩
          clear HH v0 v1 a0 a1 b0 b1 t0 t1 bx1 by1 bx2 by2 bz hs
          go_wp2_with fail
          go_roundw
          case rel => exact ⟨j + 1, t + z, x2, y2, z, by omega, by go_num, rfl, rfl, rfl, rfl, HH2, KQ⟩
          case measure => simp [intOf] <;> omega
        · have j1 : ¬ (j : Int) < (q : Int) := by omega
          go_wp2_with fail
          go_roundw
          case rel => exact ⟨k + 1, t, hk1, by go_num, rfl, by
            have hs := HS.out
            have hh := HH.out.2.2.2
            have e : (((k + 1) * q : Nat) : Int) = (p : Int) + (q : Int) := by rw [Nat.succ_mul, HP.out]; omega
            rw [e]
            have : j = q := by omega
            omega, KQ⟩
          case measure => simp [intOf] <;> omega
    · have i1 : ¬ (k : Int) + 1 < (n : Int) := by omega
      have hkn : k = n - 1 := by omega
      have HS := Lib.hid hs
      clear hs hp hp99
      go_wp2_with fail
      go_ret2
      exact ⟨⟨s, rfl, HS.out.1, by have := HS.out.2; rw [hkn] at this; exact this⟩, K.below⟩
end Go.Proofs.YtgpmngcemnnpmaaDoor
