/- Part 5: lemmas and contracts of the claim's functions. -/
import Derived.Test.YtmmiahgmdllgdaaZC1
import Derived.Test.YtmmiahgmdllgdaaZC2
import Derived.Test.YtmmiahgmdllgdaaZC3
import Derived.Test.YtmmiahgmdllgdaaZC4
namespace Go.Proofs.Ytmmiahgmdllgdaa
open Go.RowKit Go.Sort
theorem PL_last (b : Int) (xs ys : List Int) {n k : Nat} (h : n ≤ k + 1) : digPL b xs ys n (k + 1) = digPL b xs ys n k ∧ levPL b xs ys n (k + 1) = levPL b xs ys n k := by
  constructor
  · refine List.map_congr_left fun i hi => ?_
    have := List.mem_range.1 hi
    unfold digP
    rw [if_pos (by omega), if_pos (by omega)]
  · refine List.map_congr_left fun i hi => ?_
    have := List.mem_range.1 hi
    unfold levP
    rw [if_pos (by omega), if_pos (by omega)]
theorem digPL_at (b : Int) (xs ys : List Int) {n k i : Nat} (h : i < n) : (digPL b xs ys n k)[i]? = some (digP b xs ys k i) := by simp [digPL, h]
theorem levPL_at (b : Int) (xs ys : List Int) {n k i : Nat} (h : i < n) : (levPL b xs ys n k)[i]? = some (levP b xs ys k i) := by simp [levPL, h]
theorem set_id {α : Type} {l : List α} {i : Nat} {v : α} (h : l[i]? = some v) : l.set i v = l := by
  apply List.ext_getElem?
  intro k
  rw [List.getElem?_set]
  split
  · rename_i hk
    subst hk
    split
    · exact h.symm
    · rename_i hl
      rw [List.getElem?_eq_none (by omega)] at h
      cases h
  · rfl
theorem bl_one (cs : List Bool) : ∀ u ∈ cs.map Value.bool, u.oneCell' = true := by
  intro u hu
  obtain ⟨x, -, rfl⟩ := List.mem_map.1 hu
  rfl
def PRet (b : Int) (n : Nat) (ds : List Int) (bs : List Bool) (w : World) (e : Ending) (w' : World) : Prop := ∃ E ec C cc, e = .returned (.tuple #[.agg #[.int .i64 b, .slice E n ec], .slice C n cc]) ∧ ds.length = n ∧ bs.length = n ∧ Kn w [rowI E ec ds, rowBl C cc bs] w'
set_option maxRecDepth 100000 in
set_option maxHeartbeats 6400000 in
theorem pushed_any (b : Int) (xs ys : List Int) (hb : 2 ≤ b) (hb16 : b ≤ 16) (hdx : Digs b xs) (hdy : Digs b ys) (n : Nat) (ts : List Int) (cs : List Bool) (hts : digPL b xs ys n 0 = ts) (hcs : levPL b xs ys n 0 = cs) (XA : Option Addr) (xc : Nat) (C : Option Addr) (cc : Nat) (w : World) (hx : RI w XA n ts) (hc : RL BlM 1 w C n cs) (h0 : 0 < n) (hn : n ≤ 16) :
    Calls Try.prog 41 #[.agg #[.int .i64 b, .slice XA n xc], .slice C n cc] w (PRet b n (addD b xs ys n) (levL b xs ys n) w) := by
  unfold PRet
  have hnl : ts.length = n := by rw [← hts, digPL_len]
  have hcl : cs.length = n := by rw [← hcs, levPL_len]
  have HTS := Lib.hid hts
  have HCS := Lib.hid hcs
  have HNL := Lib.hid hnl
  have HCL := Lib.hid hcl
  have KC := Lib.hid (fun W (hW : Below w.heap.size w W) => copyNumbers_any XA n xc ts W (hx.below hW) h0 (by omega))
  obtain ⟨adC, hAC, hltC, -⟩ := hc.at_ h0
  have HCC := Lib.hid (fun W (hW : Below w.heap.size w W) => (show ∀ (j : Nat) (u : Value), (cs.map Value.bool)[j]? = some u → W.cell? (adC.add j) = some u from fun j u hu => by
    rw [List.getElem?_map] at hu
    obtain ⟨x, hx1, rfl⟩ := Option.map_eq_some_iff.1 hu
    obtain ⟨hj, rfl⟩ := List.getElem?_eq_some_iff.1 hx1
    obtain ⟨ad2, hA2, _, _, h2⟩ := (hc.below steady_BlM hW).at_ (show j < n by omega)
    rw [hAC] at hA2
    injection hA2 with hA2
    subst hA2
    unfold BlM at h2
    rw [Nat.mul_one] at h2
    exact h2))
  have HPN := Lib.hid (fun k (h : carK b xs ys (k + 1) = 0) => PL_no (n := n) hb hdx hdy h)
  have HPY := Lib.hid (fun k (h : carK b xs ys (k + 1) = 1) => pp_yes (k := k) hb hdx hdy h)
  have HC1 := Lib.hid (fun k => car_one hb hdx hdy k)
  have HTB := Lib.hid (fun k => (show 0 ≤ turnK b xs ys k ∧ turnK b xs ys k < b from ⟨Int.emod_nonneg _ (by omega), Int.emod_lt_of_pos _ (by omega)⟩))
  subst hAC
  clear hts hcs hdx hdy hx hc hcl hltC hnl
  obtain ⟨g, hg⟩ : ∃ g, w.heap.size = g := ⟨_, rfl⟩
  have K0 := ((Kn.nil w).al [.int .i64 b, .slice XA n xc] 26).al [.int .i64 0, .slice none 0 0] 26
  simp only [World.size_alloc, hg] at K0
  go_enter Try.func41, Try.ntmps41
  go_upto_region 1 with fail
  try rw [hg]
  refine Code.wp.kn K0 ?_; clear K0; intro w1 K1
  have HF := Lib.hid (fun W (h : Kn w [.blk g [.int .i64 b, .slice XA n xc] 26] W) => box2 h)
  have hKd := K1.drew
  have HG := Lib.hid (HF.out _ (hKd.sel [1] 99 (by decide) (by decide)))
  go_cut [6, 7] (fun pp oo wx => ∃ (gO : Nat) (E : Option Addr) (ec : Nat) (C : Option Addr) (cc : Nat), pp = .pointer (some ⟨gO, 0, none⟩) ∧ oo = .slice C n cc ∧ Kn w [.blk gO [.int .i64 b, .slice E n ec] 26, rowI E ec ts, .row (.slice C n cc) 4 1 n (cs.map Value.bool), .blk (g + 1) [.int .i64 0, .slice none 0 0] 26, .blk g [.int .i64 b, .slice XA n xc] 26] wx)
  case first =>
    refine wp_region_held_drew (S := fun W => W.cell? ⟨g, 0, none⟩ = some (.int .i64 b) ∧ W.cell? ⟨g, 1, none⟩ = some (.slice XA n xc)) (by kernel_rfl) ?_ (fun hHeld => ?_)
    · exact HG.out
    try dsimp only
    generalize w1.drew = wd at hKd HG hHeld ⊢
    clear K1
    refine wpAnyH_take (i := 0) (v := ?_) rfl (by kernel_rfl) (by kernel_rfl) (by kernel_rfl) (fun _ _ _ h => h) (Or.inl ⟨by rfl, ?_⟩) hHeld ?_
    rotate_left
    · (intro w hSw; (try dsimp only at hSw); go_simp; try with_reducible rfl)
    try simp only [Act.put, List.setIfInBounds_toArray, List.set_cons_zero, List.set_cons_succ, List.getElem_toArray, List.getElem_cons_succ, List.getElem_cons_zero]
    refine wpAnyH_take (i := 1) (v := ?_) rfl (by kernel_rfl) (by kernel_rfl) (by kernel_rfl) (fun _ _ _ h => h) (Or.inl ⟨by rfl, ?_⟩) hHeld ?_
    rotate_left
    · (intro w hSw; (try dsimp only at hSw); go_simp; try with_reducible rfl)
    try simp only [Act.put, List.setIfInBounds_toArray, List.set_cons_zero, List.set_cons_succ, List.getElem_toArray, List.getElem_cons_succ, List.getElem_cons_zero]
    refine wpAnyH_take (i := 2) (v := ?_) rfl (by kernel_rfl) (by kernel_rfl) (by kernel_rfl) (fun _ _ _ h => h) (Or.inl ⟨by rfl, ?_⟩) hHeld ?_
    rotate_left
    · (intro w hSw; (try dsimp only at hSw); go_simp; try with_reducible rfl)
    try simp only [Act.put, List.setIfInBounds_toArray, List.set_cons_zero, List.set_cons_succ, List.getElem_toArray, List.getElem_cons_succ, List.getElem_cons_zero]
    refine wpAnyH_take (i := 3) (v := ?_) rfl (by kernel_rfl) (by kernel_rfl) (by kernel_rfl) (fun _ _ _ h => h) (Or.inl ⟨by rfl, ?_⟩) hHeld ?_
    rotate_left
    · (intro w hSw; (try dsimp only at hSw); go_simp; try with_reducible rfl)
    try simp only [Act.put, List.setIfInBounds_toArray, List.set_cons_zero, List.set_cons_succ, List.getElem_toArray, List.getElem_cons_succ, List.getElem_cons_zero]
    refine wpAnyH_take (i := 7) (v := ?_) rfl (by kernel_rfl) (by kernel_rfl) (by kernel_rfl) (fun _ _ _ h => h) (Or.inl ⟨by rfl, ?_⟩) hHeld ?_
    rotate_left
    · (intro w hSw; (try dsimp only at hSw); go_simp; try with_reducible rfl)
    try simp only [Act.put, List.setIfInBounds_toArray, List.set_cons_zero, List.set_cons_succ, List.getElem_toArray, List.getElem_cons_succ, List.getElem_cons_zero]
    refine wpAnyH_ready (rs := [4, 6, 9]) (by kernel_rfl) (by decide) (AllReadyH.cons (o := _) rfl (fun K hK' => ?_) (AllReadyH.cons (o := _) rfl (fun K hK' => ?_) (AllReadyH.cons (o := _) rfl (fun K hK' => ?_) AllReadyH.nil)))
    · skip
      go_simp
      go_at_call 100
      refine (KC.out _ hKd.below).mono ?_
      rintro e wo1 ⟨E1, ec1, rfl, hK⟩
      have KO1 := hKd.join hK
      clear hK
      have HG := Lib.hid (HF.out _ (KO1.sel [2] 99 (by decide) (by decide)))
      refine hK'.out _ _ HG.out (fun hHeld2 => ?_)
      clear hK' K hHeld
      have hHeld := hHeld2
      clear hHeld2
      try simp only [Act.put, List.setIfInBounds_toArray]
      refine wpAnyH_take (i := 5) (v := ?_) rfl (by kernel_rfl) (by kernel_rfl) (by kernel_rfl) (fun _ _ _ h => h) (Or.inl ⟨by rfl, ?_⟩) hHeld ?_
      rotate_left
      · (intro w hSw; (try dsimp only at hSw); go_simp; try with_reducible rfl)
      try simp only [Act.put, List.setIfInBounds_toArray, List.set_cons_zero, List.set_cons_succ, List.getElem_toArray, List.getElem_cons_succ, List.getElem_cons_zero]
      refine wpAnyH_ready (rs := [6, 9]) (by kernel_rfl) (by decide) (AllReadyH.cons (o := _) rfl (fun K hK' => ?_) (AllReadyH.cons (o := _) rfl (fun K hK' => ?_) AllReadyH.nil))
      · skip
        go_simp
        have KO2 := KO1.al [] 4
        have HG := Lib.hid (HF.out _ (KO2.sel [3] 99 (by decide) (by decide)))
        refine hK'.out _ _ HG.out (fun hHeld2 => ?_)
        clear hK' K hHeld
        have hHeld := hHeld2
        clear hHeld2
        try simp only [Act.put, List.setIfInBounds_toArray]
        generalize wo1.alloc (.cells #[] 4) = wo2 at KO2 hHeld ⊢
        obtain ⟨gs2, hgs2⟩ : ∃ g, wo1.heap.size = g := ⟨_, rfl⟩
        rw [hgs2] at KO2 ⊢
        clear hgs2
        refine wpAnyH_ready (rs := [8, 9]) (by kernel_rfl) (by decide) (AllReadyH.cons (o := _) rfl (fun K hK' => ?_) (AllReadyH.cons (o := _) rfl (fun K hK' => ?_) AllReadyH.nil))
        · skip
          have KO3 := (KO2.front 0 rfl).litRow (size := 1) (n := 0) rfl (by decide)
          refine kn_step_appC tpBl (by rfl) _ _ (by rfl) _ 0 [] (by rfl) (by rfl) (HCC.out _ KO3.below) KO3 (by rw [List.length_map, HCL.out, Nat.mul_one]) (bl_one _) (by omega) (by omega) ?_
          intro v' wo3 KO3
          rw [Nat.zero_add, List.nil_append] at KO3
          obtain ⟨C3, cc3, rfl⟩ := row_form KO3.at0
          have HG := Lib.hid (HF.out _ (KO3.sel [3] 99 (by decide) (by decide)))
          refine hK'.out _ _ HG.out (fun hHeld2 => ?_)
          clear hK' K hHeld
          have hHeld := hHeld2
          clear hHeld2
          try simp only [Act.put, List.setIfInBounds_toArray]
          refine wpAnyH_ready (rs := [9]) (by kernel_rfl) (by decide) (AllReadyH.cons (o := _) rfl (fun K hK' => ?_) AllReadyH.nil)
          go_simp
          have KO4 := KO3.al [.int .i64 0, .slice none 0 0] 26
          have HG := Lib.hid (HF.out _ (KO4.sel [4] 99 (by decide) (by decide)))
          refine hK'.out _ _ HG.out (fun hHeld2 => ?_)
          clear hK' K hHeld
          have hHeld := hHeld2
          clear hHeld2
          try simp only [Act.put, List.setIfInBounds_toArray]
          generalize wo3.alloc (.cells #[.int .i64 0, .slice none 0 0] 26) = wo4 at KO4 hHeld ⊢
          obtain ⟨go4, hgo4⟩ : ∃ g, wo3.heap.size = g := ⟨_, rfl⟩
          rw [hgo4] at KO4 ⊢
          clear hgo4
          refine wpAnyH_ready (rs := [10]) (by kernel_rfl) (by decide) (AllReadyH.cons (o := _) rfl (fun K hK' => ?_) AllReadyH.nil)
          obtain ⟨s1, s2, s3⟩ := (KO4.front 0 rfl).blkAt
          have KO5 := (((KO4.front 0 rfl).st 0 (.int .i64 b)).st 1 (.slice E1 n ec1))
          go_simp
          clear s1 s2 s3
          have HG := Lib.hid (HF.out _ (KO5.sel [4] 99 (by decide) (by decide)))
          refine hK'.out _ _ HG.out (fun hHeld2 => ?_)
          clear hK' K hHeld
          have hHeld := hHeld2
          clear hHeld2
          try simp only [Act.put, List.setIfInBounds_toArray]
          refine wpAnyH_take (i := 11) (v := ?_) rfl (by kernel_rfl) (by kernel_rfl) (by kernel_rfl) (fun _ _ _ h => h) (Or.inl ⟨by rfl, ?_⟩) hHeld ?_
          rotate_left
          · (intro w hSw; (try dsimp only at hSw); go_simp; try with_reducible rfl)
          try simp only [Act.put, List.setIfInBounds_toArray, List.set_cons_zero, List.set_cons_succ, List.getElem_toArray, List.getElem_cons_succ, List.getElem_cons_zero]
          refine wpAnyH_done (by kernel_rfl) ?_ _
          go_wp2_with fail
          go_meet
          exact ⟨_, _, _, _, _, rfl, rfl, (KO5.sel [0, 2, 1, 3, 4] 99 (by decide) (by decide))⟩
        · skip
          go_simp
          have KO6 := KO2.al [.int .i64 0, .slice none 0 0] 26
          have HG := Lib.hid (HF.out _ (KO6.sel [4] 99 (by decide) (by decide)))
          refine hK'.out _ _ HG.out (fun hHeld2 => ?_)
          clear hK' K hHeld
          have hHeld := hHeld2
          clear hHeld2
          try simp only [Act.put, List.setIfInBounds_toArray]
          generalize wo2.alloc (.cells #[.int .i64 0, .slice none 0 0] 26) = wo6 at KO6 hHeld ⊢
          obtain ⟨go6, hgo6⟩ : ∃ g, wo2.heap.size = g := ⟨_, rfl⟩
          rw [hgo6] at KO6 ⊢
          clear hgo6
          refine wpAnyH_ready (rs := [8]) (by kernel_rfl) (by decide) (AllReadyH.cons (o := _) rfl (fun K hK' => ?_) AllReadyH.nil)
          have KO7 := (KO6.front 1 rfl).litRow (size := 1) (n := 0) rfl (by decide)
          refine kn_step_appC tpBl (by rfl) _ _ (by rfl) _ 0 [] (by rfl) (by rfl) (HCC.out _ KO7.below) KO7 (by rw [List.length_map, HCL.out, Nat.mul_one]) (bl_one _) (by omega) (by omega) ?_
          intro v' wo7 KO7
          rw [Nat.zero_add, List.nil_append] at KO7
          obtain ⟨C7, cc7, rfl⟩ := row_form KO7.at0
          have HG := Lib.hid (HF.out _ (KO7.sel [4] 99 (by decide) (by decide)))
          refine hK'.out _ _ HG.out (fun hHeld2 => ?_)
          clear hK' K hHeld
          have hHeld := hHeld2
          clear hHeld2
          try simp only [Act.put, List.setIfInBounds_toArray]
          refine wpAnyH_ready (rs := [10]) (by kernel_rfl) (by decide) (AllReadyH.cons (o := _) rfl (fun K hK' => ?_) AllReadyH.nil)
          obtain ⟨s1, s2, s3⟩ := (KO7.front 1 rfl).blkAt
          have KO8 := (((KO7.front 1 rfl).st 0 (.int .i64 b)).st 1 (.slice E1 n ec1))
          go_simp
          clear s1 s2 s3
          have HG := Lib.hid (HF.out _ (KO8.sel [4] 99 (by decide) (by decide)))
          refine hK'.out _ _ HG.out (fun hHeld2 => ?_)
          clear hK' K hHeld
          have hHeld := hHeld2
          clear hHeld2
          try simp only [Act.put, List.setIfInBounds_toArray]
          refine wpAnyH_take (i := 11) (v := ?_) rfl (by kernel_rfl) (by kernel_rfl) (by kernel_rfl) (fun _ _ _ h => h) (Or.inl ⟨by rfl, ?_⟩) hHeld ?_
          rotate_left
          · (intro w hSw; (try dsimp only at hSw); go_simp; try with_reducible rfl)
          try simp only [Act.put, List.setIfInBounds_toArray, List.set_cons_zero, List.set_cons_succ, List.getElem_toArray, List.getElem_cons_succ, List.getElem_cons_zero]
          refine wpAnyH_done (by kernel_rfl) ?_ _
          go_wp2_with fail
          go_meet
          exact ⟨_, _, _, _, _, rfl, rfl, (KO8.sel [0, 2, 1, 3, 4] 99 (by decide) (by decide))⟩
      · skip
        go_simp
        have KO9 := KO1.al [.int .i64 0, .slice none 0 0] 26
        have HG := Lib.hid (HF.out _ (KO9.sel [3] 99 (by decide) (by decide)))
        refine hK'.out _ _ HG.out (fun hHeld2 => ?_)
        clear hK' K hHeld
        have hHeld := hHeld2
        clear hHeld2
        try simp only [Act.put, List.setIfInBounds_toArray]
        generalize wo1.alloc (.cells #[.int .i64 0, .slice none 0 0] 26) = wo9 at KO9 hHeld ⊢
        obtain ⟨go9, hgo9⟩ : ∃ g, wo1.heap.size = g := ⟨_, rfl⟩
        rw [hgo9] at KO9 ⊢
        clear hgo9
        refine wpAnyH_ready (rs := [6]) (by kernel_rfl) (by decide) (AllReadyH.cons (o := _) rfl (fun K hK' => ?_) AllReadyH.nil)
        go_simp
        have KO10 := KO9.al [] 4
        have HG := Lib.hid (HF.out _ (KO10.sel [4] 99 (by decide) (by decide)))
        refine hK'.out _ _ HG.out (fun hHeld2 => ?_)
        clear hK' K hHeld
        have hHeld := hHeld2
        clear hHeld2
        try simp only [Act.put, List.setIfInBounds_toArray]
        generalize wo9.alloc (.cells #[] 4) = wo10 at KO10 hHeld ⊢
        obtain ⟨gs10, hgs10⟩ : ∃ g, wo9.heap.size = g := ⟨_, rfl⟩
        rw [hgs10] at KO10 ⊢
        clear hgs10
        refine wpAnyH_ready (rs := [8]) (by kernel_rfl) (by decide) (AllReadyH.cons (o := _) rfl (fun K hK' => ?_) AllReadyH.nil)
        have KO11 := (KO10.front 0 rfl).litRow (size := 1) (n := 0) rfl (by decide)
        refine kn_step_appC tpBl (by rfl) _ _ (by rfl) _ 0 [] (by rfl) (by rfl) (HCC.out _ KO11.below) KO11 (by rw [List.length_map, HCL.out, Nat.mul_one]) (bl_one _) (by omega) (by omega) ?_
        intro v' wo11 KO11
        rw [Nat.zero_add, List.nil_append] at KO11
        obtain ⟨C11, cc11, rfl⟩ := row_form KO11.at0
        have HG := Lib.hid (HF.out _ (KO11.sel [4] 99 (by decide) (by decide)))
        refine hK'.out _ _ HG.out (fun hHeld2 => ?_)
        clear hK' K hHeld
        have hHeld := hHeld2
        clear hHeld2
        try simp only [Act.put, List.setIfInBounds_toArray]
        refine wpAnyH_ready (rs := [10]) (by kernel_rfl) (by decide) (AllReadyH.cons (o := _) rfl (fun K hK' => ?_) AllReadyH.nil)
        obtain ⟨s1, s2, s3⟩ := (KO11.front 1 rfl).blkAt
        have KO12 := (((KO11.front 1 rfl).st 0 (.int .i64 b)).st 1 (.slice E1 n ec1))
        go_simp
        clear s1 s2 s3
        have HG := Lib.hid (HF.out _ (KO12.sel [4] 99 (by decide) (by decide)))
        refine hK'.out _ _ HG.out (fun hHeld2 => ?_)
        clear hK' K hHeld
        have hHeld := hHeld2
        clear hHeld2
        try simp only [Act.put, List.setIfInBounds_toArray]
        refine wpAnyH_take (i := 11) (v := ?_) rfl (by kernel_rfl) (by kernel_rfl) (by kernel_rfl) (fun _ _ _ h => h) (Or.inl ⟨by rfl, ?_⟩) hHeld ?_
        rotate_left
        · (intro w hSw; (try dsimp only at hSw); go_simp; try with_reducible rfl)
        try simp only [Act.put, List.setIfInBounds_toArray, List.set_cons_zero, List.set_cons_succ, List.getElem_toArray, List.getElem_cons_succ, List.getElem_cons_zero]
        refine wpAnyH_done (by kernel_rfl) ?_ _
        go_wp2_with fail
        go_meet
        exact ⟨_, _, _, _, _, rfl, rfl, (KO12.sel [0, 2, 1, 3, 4] 99 (by decide) (by decide))⟩
    · skip
      go_simp
      have KO13 := hKd.al [] 4
      have HG := Lib.hid (HF.out _ (KO13.sel [2] 99 (by decide) (by decide)))
      refine hK'.out _ _ HG.out (fun hHeld2 => ?_)
      clear hK' K hHeld
      have hHeld := hHeld2
      clear hHeld2
      try simp only [Act.put, List.setIfInBounds_toArray]
      generalize wd.alloc (.cells #[] 4) = wo13 at KO13 hHeld ⊢
      obtain ⟨gs13, hgs13⟩ : ∃ g, wd.heap.size = g := ⟨_, rfl⟩
      rw [hgs13] at KO13 ⊢
      clear hgs13
      refine wpAnyH_ready (rs := [4, 9]) (by kernel_rfl) (by decide) (AllReadyH.cons (o := _) rfl (fun K hK' => ?_) (AllReadyH.cons (o := _) rfl (fun K hK' => ?_) AllReadyH.nil))
      · skip
        go_simp
        go_at_call 100
        refine (KC.out _ KO13.below).mono ?_
        rintro e wo14 ⟨E14, ec14, rfl, hK⟩
        have KO14 := KO13.join hK
        clear hK
        have HG := Lib.hid (HF.out _ (KO14.sel [3] 99 (by decide) (by decide)))
        refine hK'.out _ _ HG.out (fun hHeld2 => ?_)
        clear hK' K hHeld
        have hHeld := hHeld2
        clear hHeld2
        try simp only [Act.put, List.setIfInBounds_toArray]
        refine wpAnyH_take (i := 5) (v := ?_) rfl (by kernel_rfl) (by kernel_rfl) (by kernel_rfl) (fun _ _ _ h => h) (Or.inl ⟨by rfl, ?_⟩) hHeld ?_
        rotate_left
        · (intro w hSw; (try dsimp only at hSw); go_simp; try with_reducible rfl)
        try simp only [Act.put, List.setIfInBounds_toArray, List.set_cons_zero, List.set_cons_succ, List.getElem_toArray, List.getElem_cons_succ, List.getElem_cons_zero]
        refine wpAnyH_ready (rs := [8, 9]) (by kernel_rfl) (by decide) (AllReadyH.cons (o := _) rfl (fun K hK' => ?_) (AllReadyH.cons (o := _) rfl (fun K hK' => ?_) AllReadyH.nil))
        · skip
          have KO15 := (KO14.front 1 rfl).litRow (size := 1) (n := 0) rfl (by decide)
          refine kn_step_appC tpBl (by rfl) _ _ (by rfl) _ 0 [] (by rfl) (by rfl) (HCC.out _ KO15.below) KO15 (by rw [List.length_map, HCL.out, Nat.mul_one]) (bl_one _) (by omega) (by omega) ?_
          intro v' wo15 KO15
          rw [Nat.zero_add, List.nil_append] at KO15
          obtain ⟨C15, cc15, rfl⟩ := row_form KO15.at0
          have HG := Lib.hid (HF.out _ (KO15.sel [3] 99 (by decide) (by decide)))
          refine hK'.out _ _ HG.out (fun hHeld2 => ?_)
          clear hK' K hHeld
          have hHeld := hHeld2
          clear hHeld2
          try simp only [Act.put, List.setIfInBounds_toArray]
          refine wpAnyH_ready (rs := [9]) (by kernel_rfl) (by decide) (AllReadyH.cons (o := _) rfl (fun K hK' => ?_) AllReadyH.nil)
          go_simp
          have KO16 := KO15.al [.int .i64 0, .slice none 0 0] 26
          have HG := Lib.hid (HF.out _ (KO16.sel [4] 99 (by decide) (by decide)))
          refine hK'.out _ _ HG.out (fun hHeld2 => ?_)
          clear hK' K hHeld
          have hHeld := hHeld2
          clear hHeld2
          try simp only [Act.put, List.setIfInBounds_toArray]
          generalize wo15.alloc (.cells #[.int .i64 0, .slice none 0 0] 26) = wo16 at KO16 hHeld ⊢
          obtain ⟨go16, hgo16⟩ : ∃ g, wo15.heap.size = g := ⟨_, rfl⟩
          rw [hgo16] at KO16 ⊢
          clear hgo16
          refine wpAnyH_ready (rs := [10]) (by kernel_rfl) (by decide) (AllReadyH.cons (o := _) rfl (fun K hK' => ?_) AllReadyH.nil)
          obtain ⟨s1, s2, s3⟩ := (KO16.front 0 rfl).blkAt
          have KO17 := (((KO16.front 0 rfl).st 0 (.int .i64 b)).st 1 (.slice E14 n ec14))
          go_simp
          clear s1 s2 s3
          have HG := Lib.hid (HF.out _ (KO17.sel [4] 99 (by decide) (by decide)))
          refine hK'.out _ _ HG.out (fun hHeld2 => ?_)
          clear hK' K hHeld
          have hHeld := hHeld2
          clear hHeld2
          try simp only [Act.put, List.setIfInBounds_toArray]
          refine wpAnyH_take (i := 11) (v := ?_) rfl (by kernel_rfl) (by kernel_rfl) (by kernel_rfl) (fun _ _ _ h => h) (Or.inl ⟨by rfl, ?_⟩) hHeld ?_
          rotate_left
          · (intro w hSw; (try dsimp only at hSw); go_simp; try with_reducible rfl)
          try simp only [Act.put, List.setIfInBounds_toArray, List.set_cons_zero, List.set_cons_succ, List.getElem_toArray, List.getElem_cons_succ, List.getElem_cons_zero]
          refine wpAnyH_done (by kernel_rfl) ?_ _
          go_wp2_with fail
          go_meet
          exact ⟨_, _, _, _, _, rfl, rfl, (KO17.sel [0, 2, 1, 3, 4] 99 (by decide) (by decide))⟩
        · skip
          go_simp
          have KO18 := KO14.al [.int .i64 0, .slice none 0 0] 26
          have HG := Lib.hid (HF.out _ (KO18.sel [4] 99 (by decide) (by decide)))
          refine hK'.out _ _ HG.out (fun hHeld2 => ?_)
          clear hK' K hHeld
          have hHeld := hHeld2
          clear hHeld2
          try simp only [Act.put, List.setIfInBounds_toArray]
          generalize wo14.alloc (.cells #[.int .i64 0, .slice none 0 0] 26) = wo18 at KO18 hHeld ⊢
          obtain ⟨go18, hgo18⟩ : ∃ g, wo14.heap.size = g := ⟨_, rfl⟩
          rw [hgo18] at KO18 ⊢
          clear hgo18
          refine wpAnyH_ready (rs := [8]) (by kernel_rfl) (by decide) (AllReadyH.cons (o := _) rfl (fun K hK' => ?_) AllReadyH.nil)
          have KO19 := (KO18.front 2 rfl).litRow (size := 1) (n := 0) rfl (by decide)
          refine kn_step_appC tpBl (by rfl) _ _ (by rfl) _ 0 [] (by rfl) (by rfl) (HCC.out _ KO19.below) KO19 (by rw [List.length_map, HCL.out, Nat.mul_one]) (bl_one _) (by omega) (by omega) ?_
          intro v' wo19 KO19
          rw [Nat.zero_add, List.nil_append] at KO19
          obtain ⟨C19, cc19, rfl⟩ := row_form KO19.at0
          have HG := Lib.hid (HF.out _ (KO19.sel [4] 99 (by decide) (by decide)))
          refine hK'.out _ _ HG.out (fun hHeld2 => ?_)
          clear hK' K hHeld
          have hHeld := hHeld2
          clear hHeld2
          try simp only [Act.put, List.setIfInBounds_toArray]
          refine wpAnyH_ready (rs := [10]) (by kernel_rfl) (by decide) (AllReadyH.cons (o := _) rfl (fun K hK' => ?_) AllReadyH.nil)
          obtain ⟨s1, s2, s3⟩ := (KO19.front 1 rfl).blkAt
          have KO20 := (((KO19.front 1 rfl).st 0 (.int .i64 b)).st 1 (.slice E14 n ec14))
          go_simp
          clear s1 s2 s3
          have HG := Lib.hid (HF.out _ (KO20.sel [4] 99 (by decide) (by decide)))
          refine hK'.out _ _ HG.out (fun hHeld2 => ?_)
          clear hK' K hHeld
          have hHeld := hHeld2
          clear hHeld2
          try simp only [Act.put, List.setIfInBounds_toArray]
          refine wpAnyH_take (i := 11) (v := ?_) rfl (by kernel_rfl) (by kernel_rfl) (by kernel_rfl) (fun _ _ _ h => h) (Or.inl ⟨by rfl, ?_⟩) hHeld ?_
          rotate_left
          · (intro w hSw; (try dsimp only at hSw); go_simp; try with_reducible rfl)
          try simp only [Act.put, List.setIfInBounds_toArray, List.set_cons_zero, List.set_cons_succ, List.getElem_toArray, List.getElem_cons_succ, List.getElem_cons_zero]
          refine wpAnyH_done (by kernel_rfl) ?_ _
          go_wp2_with fail
          go_meet
          exact ⟨_, _, _, _, _, rfl, rfl, (KO20.sel [0, 2, 1, 3, 4] 99 (by decide) (by decide))⟩
      · skip
        go_simp
        have KO21 := KO13.al [.int .i64 0, .slice none 0 0] 26
        have HG := Lib.hid (HF.out _ (KO21.sel [3] 99 (by decide) (by decide)))
        refine hK'.out _ _ HG.out (fun hHeld2 => ?_)
        clear hK' K hHeld
        have hHeld := hHeld2
        clear hHeld2
        try simp only [Act.put, List.setIfInBounds_toArray]
        generalize wo13.alloc (.cells #[.int .i64 0, .slice none 0 0] 26) = wo21 at KO21 hHeld ⊢
        obtain ⟨go21, hgo21⟩ : ∃ g, wo13.heap.size = g := ⟨_, rfl⟩
        rw [hgo21] at KO21 ⊢
        clear hgo21
        refine wpAnyH_ready (rs := [4]) (by kernel_rfl) (by decide) (AllReadyH.cons (o := _) rfl (fun K hK' => ?_) AllReadyH.nil)
        go_simp
        go_at_call 100
        refine (KC.out _ KO21.below).mono ?_
        rintro e wo22 ⟨E22, ec22, rfl, hK⟩
        have KO22 := KO21.join hK
        clear hK
        have HG := Lib.hid (HF.out _ (KO22.sel [4] 99 (by decide) (by decide)))
        refine hK'.out _ _ HG.out (fun hHeld2 => ?_)
        clear hK' K hHeld
        have hHeld := hHeld2
        clear hHeld2
        try simp only [Act.put, List.setIfInBounds_toArray]
        refine wpAnyH_take (i := 5) (v := ?_) rfl (by kernel_rfl) (by kernel_rfl) (by kernel_rfl) (fun _ _ _ h => h) (Or.inl ⟨by rfl, ?_⟩) hHeld ?_
        rotate_left
        · (intro w hSw; (try dsimp only at hSw); go_simp; try with_reducible rfl)
        try simp only [Act.put, List.setIfInBounds_toArray, List.set_cons_zero, List.set_cons_succ, List.getElem_toArray, List.getElem_cons_succ, List.getElem_cons_zero]
        refine wpAnyH_ready (rs := [8]) (by kernel_rfl) (by decide) (AllReadyH.cons (o := _) rfl (fun K hK' => ?_) AllReadyH.nil)
        have KO23 := (KO22.front 2 rfl).litRow (size := 1) (n := 0) rfl (by decide)
        refine kn_step_appC tpBl (by rfl) _ _ (by rfl) _ 0 [] (by rfl) (by rfl) (HCC.out _ KO23.below) KO23 (by rw [List.length_map, HCL.out, Nat.mul_one]) (bl_one _) (by omega) (by omega) ?_
        intro v' wo23 KO23
        rw [Nat.zero_add, List.nil_append] at KO23
        obtain ⟨C23, cc23, rfl⟩ := row_form KO23.at0
        have HG := Lib.hid (HF.out _ (KO23.sel [4] 99 (by decide) (by decide)))
        refine hK'.out _ _ HG.out (fun hHeld2 => ?_)
        clear hK' K hHeld
        have hHeld := hHeld2
        clear hHeld2
        try simp only [Act.put, List.setIfInBounds_toArray]
        refine wpAnyH_ready (rs := [10]) (by kernel_rfl) (by decide) (AllReadyH.cons (o := _) rfl (fun K hK' => ?_) AllReadyH.nil)
        obtain ⟨s1, s2, s3⟩ := (KO23.front 2 rfl).blkAt
        have KO24 := (((KO23.front 2 rfl).st 0 (.int .i64 b)).st 1 (.slice E22 n ec22))
        go_simp
        clear s1 s2 s3
        have HG := Lib.hid (HF.out _ (KO24.sel [4] 99 (by decide) (by decide)))
        refine hK'.out _ _ HG.out (fun hHeld2 => ?_)
        clear hK' K hHeld
        have hHeld := hHeld2
        clear hHeld2
        try simp only [Act.put, List.setIfInBounds_toArray]
        refine wpAnyH_take (i := 11) (v := ?_) rfl (by kernel_rfl) (by kernel_rfl) (by kernel_rfl) (fun _ _ _ h => h) (Or.inl ⟨by rfl, ?_⟩) hHeld ?_
        rotate_left
        · (intro w hSw; (try dsimp only at hSw); go_simp; try with_reducible rfl)
        try simp only [Act.put, List.setIfInBounds_toArray, List.set_cons_zero, List.set_cons_succ, List.getElem_toArray, List.getElem_cons_succ, List.getElem_cons_zero]
        refine wpAnyH_done (by kernel_rfl) ?_ _
        go_wp2_with fail
        go_meet
        exact ⟨_, _, _, _, _, rfl, rfl, (KO24.sel [0, 2, 1, 3, 4] 99 (by decide) (by decide))⟩
    · skip
      go_simp
      have KO25 := hKd.al [.int .i64 0, .slice none 0 0] 26
      have HG := Lib.hid (HF.out _ (KO25.sel [2] 99 (by decide) (by decide)))
      refine hK'.out _ _ HG.out (fun hHeld2 => ?_)
      clear hK' K hHeld
      have hHeld := hHeld2
      clear hHeld2
      try simp only [Act.put, List.setIfInBounds_toArray]
      generalize wd.alloc (.cells #[.int .i64 0, .slice none 0 0] 26) = wo25 at KO25 hHeld ⊢
      obtain ⟨go25, hgo25⟩ : ∃ g, wd.heap.size = g := ⟨_, rfl⟩
      rw [hgo25] at KO25 ⊢
      clear hgo25
      refine wpAnyH_ready (rs := [4, 6]) (by kernel_rfl) (by decide) (AllReadyH.cons (o := _) rfl (fun K hK' => ?_) (AllReadyH.cons (o := _) rfl (fun K hK' => ?_) AllReadyH.nil))
      · skip
        go_simp
        go_at_call 100
        refine (KC.out _ KO25.below).mono ?_
        rintro e wo26 ⟨E26, ec26, rfl, hK⟩
        have KO26 := KO25.join hK
        clear hK
        have HG := Lib.hid (HF.out _ (KO26.sel [3] 99 (by decide) (by decide)))
        refine hK'.out _ _ HG.out (fun hHeld2 => ?_)
        clear hK' K hHeld
        have hHeld := hHeld2
        clear hHeld2
        try simp only [Act.put, List.setIfInBounds_toArray]
        refine wpAnyH_take (i := 5) (v := ?_) rfl (by kernel_rfl) (by kernel_rfl) (by kernel_rfl) (fun _ _ _ h => h) (Or.inl ⟨by rfl, ?_⟩) hHeld ?_
        rotate_left
        · (intro w hSw; (try dsimp only at hSw); go_simp; try with_reducible rfl)
        try simp only [Act.put, List.setIfInBounds_toArray, List.set_cons_zero, List.set_cons_succ, List.getElem_toArray, List.getElem_cons_succ, List.getElem_cons_zero]
        refine wpAnyH_ready (rs := [6]) (by kernel_rfl) (by decide) (AllReadyH.cons (o := _) rfl (fun K hK' => ?_) AllReadyH.nil)
        go_simp
        have KO27 := KO26.al [] 4
        have HG := Lib.hid (HF.out _ (KO27.sel [4] 99 (by decide) (by decide)))
        refine hK'.out _ _ HG.out (fun hHeld2 => ?_)
        clear hK' K hHeld
        have hHeld := hHeld2
        clear hHeld2
        try simp only [Act.put, List.setIfInBounds_toArray]
        generalize wo26.alloc (.cells #[] 4) = wo27 at KO27 hHeld ⊢
        obtain ⟨gs27, hgs27⟩ : ∃ g, wo26.heap.size = g := ⟨_, rfl⟩
        rw [hgs27] at KO27 ⊢
        clear hgs27
        refine wpAnyH_ready (rs := [8]) (by kernel_rfl) (by decide) (AllReadyH.cons (o := _) rfl (fun K hK' => ?_) AllReadyH.nil)
        have KO28 := (KO27.front 0 rfl).litRow (size := 1) (n := 0) rfl (by decide)
        refine kn_step_appC tpBl (by rfl) _ _ (by rfl) _ 0 [] (by rfl) (by rfl) (HCC.out _ KO28.below) KO28 (by rw [List.length_map, HCL.out, Nat.mul_one]) (bl_one _) (by omega) (by omega) ?_
        intro v' wo28 KO28
        rw [Nat.zero_add, List.nil_append] at KO28
        obtain ⟨C28, cc28, rfl⟩ := row_form KO28.at0
        have HG := Lib.hid (HF.out _ (KO28.sel [4] 99 (by decide) (by decide)))
        refine hK'.out _ _ HG.out (fun hHeld2 => ?_)
        clear hK' K hHeld
        have hHeld := hHeld2
        clear hHeld2
        try simp only [Act.put, List.setIfInBounds_toArray]
        refine wpAnyH_ready (rs := [10]) (by kernel_rfl) (by decide) (AllReadyH.cons (o := _) rfl (fun K hK' => ?_) AllReadyH.nil)
        obtain ⟨s1, s2, s3⟩ := (KO28.front 2 rfl).blkAt
        have KO29 := (((KO28.front 2 rfl).st 0 (.int .i64 b)).st 1 (.slice E26 n ec26))
        go_simp
        clear s1 s2 s3
        have HG := Lib.hid (HF.out _ (KO29.sel [4] 99 (by decide) (by decide)))
        refine hK'.out _ _ HG.out (fun hHeld2 => ?_)
        clear hK' K hHeld
        have hHeld := hHeld2
        clear hHeld2
        try simp only [Act.put, List.setIfInBounds_toArray]
        refine wpAnyH_take (i := 11) (v := ?_) rfl (by kernel_rfl) (by kernel_rfl) (by kernel_rfl) (fun _ _ _ h => h) (Or.inl ⟨by rfl, ?_⟩) hHeld ?_
        rotate_left
        · (intro w hSw; (try dsimp only at hSw); go_simp; try with_reducible rfl)
        try simp only [Act.put, List.setIfInBounds_toArray, List.set_cons_zero, List.set_cons_succ, List.getElem_toArray, List.getElem_cons_succ, List.getElem_cons_zero]
        refine wpAnyH_done (by kernel_rfl) ?_ _
        go_wp2_with fail
        go_meet
        exact ⟨_, _, _, _, _, rfl, rfl, (KO29.sel [0, 2, 1, 3, 4] 99 (by decide) (by decide))⟩
      · skip
        go_simp
        have KO30 := KO25.al [] 4
        have HG := Lib.hid (HF.out _ (KO30.sel [3] 99 (by decide) (by decide)))
        refine hK'.out _ _ HG.out (fun hHeld2 => ?_)
        clear hK' K hHeld
        have hHeld := hHeld2
        clear hHeld2
        try simp only [Act.put, List.setIfInBounds_toArray]
        generalize wo25.alloc (.cells #[] 4) = wo30 at KO30 hHeld ⊢
        obtain ⟨gs30, hgs30⟩ : ∃ g, wo25.heap.size = g := ⟨_, rfl⟩
        rw [hgs30] at KO30 ⊢
        clear hgs30
        refine wpAnyH_ready (rs := [4]) (by kernel_rfl) (by decide) (AllReadyH.cons (o := _) rfl (fun K hK' => ?_) AllReadyH.nil)
        go_simp
        go_at_call 100
        refine (KC.out _ KO30.below).mono ?_
        rintro e wo31 ⟨E31, ec31, rfl, hK⟩
        have KO31 := KO30.join hK
        clear hK
        have HG := Lib.hid (HF.out _ (KO31.sel [4] 99 (by decide) (by decide)))
        refine hK'.out _ _ HG.out (fun hHeld2 => ?_)
        clear hK' K hHeld
        have hHeld := hHeld2
        clear hHeld2
        try simp only [Act.put, List.setIfInBounds_toArray]
        refine wpAnyH_take (i := 5) (v := ?_) rfl (by kernel_rfl) (by kernel_rfl) (by kernel_rfl) (fun _ _ _ h => h) (Or.inl ⟨by rfl, ?_⟩) hHeld ?_
        rotate_left
        · (intro w hSw; (try dsimp only at hSw); go_simp; try with_reducible rfl)
        try simp only [Act.put, List.setIfInBounds_toArray, List.set_cons_zero, List.set_cons_succ, List.getElem_toArray, List.getElem_cons_succ, List.getElem_cons_zero]
        refine wpAnyH_ready (rs := [8]) (by kernel_rfl) (by decide) (AllReadyH.cons (o := _) rfl (fun K hK' => ?_) AllReadyH.nil)
        have KO32 := (KO31.front 1 rfl).litRow (size := 1) (n := 0) rfl (by decide)
        refine kn_step_appC tpBl (by rfl) _ _ (by rfl) _ 0 [] (by rfl) (by rfl) (HCC.out _ KO32.below) KO32 (by rw [List.length_map, HCL.out, Nat.mul_one]) (bl_one _) (by omega) (by omega) ?_
        intro v' wo32 KO32
        rw [Nat.zero_add, List.nil_append] at KO32
        obtain ⟨C32, cc32, rfl⟩ := row_form KO32.at0
        have HG := Lib.hid (HF.out _ (KO32.sel [4] 99 (by decide) (by decide)))
        refine hK'.out _ _ HG.out (fun hHeld2 => ?_)
        clear hK' K hHeld
        have hHeld := hHeld2
        clear hHeld2
        try simp only [Act.put, List.setIfInBounds_toArray]
        refine wpAnyH_ready (rs := [10]) (by kernel_rfl) (by decide) (AllReadyH.cons (o := _) rfl (fun K hK' => ?_) AllReadyH.nil)
        obtain ⟨s1, s2, s3⟩ := (KO32.front 2 rfl).blkAt
        have KO33 := (((KO32.front 2 rfl).st 0 (.int .i64 b)).st 1 (.slice E31 n ec31))
        go_simp
        clear s1 s2 s3
        have HG := Lib.hid (HF.out _ (KO33.sel [4] 99 (by decide) (by decide)))
        refine hK'.out _ _ HG.out (fun hHeld2 => ?_)
        clear hK' K hHeld
        have hHeld := hHeld2
        clear hHeld2
        try simp only [Act.put, List.setIfInBounds_toArray]
        refine wpAnyH_take (i := 11) (v := ?_) rfl (by kernel_rfl) (by kernel_rfl) (by kernel_rfl) (fun _ _ _ h => h) (Or.inl ⟨by rfl, ?_⟩) hHeld ?_
        rotate_left
        · (intro w hSw; (try dsimp only at hSw); go_simp; try with_reducible rfl)
        try simp only [Act.put, List.setIfInBounds_toArray, List.set_cons_zero, List.set_cons_succ, List.getElem_toArray, List.getElem_cons_succ, List.getElem_cons_zero]
        refine wpAnyH_done (by kernel_rfl) ?_ _
        go_wp2_with fail
        go_meet
        exact ⟨_, _, _, _, _, rfl, rfl, (KO33.sel [0, 2, 1, 3, 4] 99 (by decide) (by decide))⟩
  case rest =>
    obtain ⟨gO, E, ec, C', cc', rfl, rfl, K3⟩ := hcut
    clear KC HCC HF HG hKd K1
    unfold rowI at K3
    rw [HNL.out] at K3
    obtain ⟨gd, d1, hE⟩ := Kn.rowForm (K3.front 1 rfl) h0
    injection hE with hE hE2 hE3
    subst hE hE3
    obtain ⟨gc, d2, hC⟩ := Kn.rowForm (K3.front 2 rfl) h0
    injection hC with hC hC2 hC3
    subst hC hC3
    rw [← HTS.out, ← HCS.out] at K3
    have K4 := K3.sel [1, 2, 0, 3, 4] 99 (by decide) (by decide)
    clear K3
    go_wp2_with fail
    go_loopw [20] (fun ii wr => ∃ (k : Nat), k ≤ n ∧ ii = .int .i64 (k : Int) ∧ Kn w [.row (.slice (some ⟨gd, 0, none⟩) n ec) 2 1 n ((digPL b xs ys n k).map (Value.int .i64)), .row (.slice (some ⟨gc, 0, none⟩) n cc') 4 1 n ((levPL b xs ys n k).map Value.bool), .blk gO [.int .i64 b, .slice (some ⟨gd, 0, none⟩) n ec] 26, .blk (g + 1) [.int .i64 0, .slice none 0 0] 26, .blk g [.int .i64 b, .slice XA n xc] 26] wr) (fun ii _ => n - (intOf ii).toNat)
    case atStart => exact ⟨0, Nat.zero_le _, rfl, K4⟩
    case round =>
      clear K4
      obtain ⟨k, hk, rfl, KR⟩ := hrel
      by_cases hkn : k < n
      · have i1 : (k : Int) < (n : Int) := by omega
        have i0 : (0 : Int) ≤ (k : Int) := by omega
        obtain ⟨l1, l2⟩ := Kn.rowCell (KR.front 1 rfl) (j := k) (u := .bool (levP b xs ys k k)) (by rw [List.getElem?_map, levPL_at b xs ys hkn]; rfl)
        have hlv : levP b xs ys k k = decide (carK b xs ys (k + 1) = 1) := by unfold levP; rw [if_pos (Nat.le_refl _)]
        rw [hlv] at l1
        clear hlv
        rcases HC1.out (k + 1) with hc | hc
        · have hN := Lib.hid (HPN.out k hc)
          rw [hc, show decide ((0 : Int) = 1) = false from rfl] at l1
          clear hc
          go_wp2_with fail
          go_roundw
          case rel => exact ⟨k + 1, by omega, by go_num, by rw [hN.out.1, hN.out.2]; exact KR⟩
          case measure => simp [intOf]; omega
        · rw [hc, show decide ((1 : Int) = 1) = true from rfl] at l1
          have hY := HPY.out k hc
          clear hc
          obtain ⟨j, hj⟩ : ∃ j : Nat, k + 1 = j := ⟨_, rfl⟩
          have q1 : IntKind.i64.wrap ((k : Int) + 1) = (j : Int) := by rw [wrapI64 (by omega)]; omega
          by_cases hk2 : k + 1 < n
          · have i2 : ¬ (j : Int) = (n : Int) := by omega
            have i3 : ((j : Int) == (n : Int)) = false := beq_eq_false_iff_ne.2 i2
            have i4 : (0 : Int) ≤ (j : Int) := by omega
            have i5 : (j : Int) < (n : Int) := by omega
            obtain ⟨x1, x2⟩ := Kn.rowCell KR (j := j) (u := .int .i64 (turnK b xs ys (k + 1))) (by rw [← hj, List.getElem?_map, digPL_at b xs ys hk2]; unfold digP; rw [if_neg (by omega)]; rfl)
            have hset := Lib.hid (digPL_set (b := b) (xs := xs) (ys := ys) n k hk2)
            have hset2 := Lib.hid (levPL_set (b := b) (xs := xs) (ys := ys) n k hk2)
            have hat := levPL_at b xs ys (k := k) hk2
            have htb := HTB.out (k + 1)
            have hle : levP b xs ys k (k + 1) = cockK b xs ys (k + 1) := by unfold levP; rw [if_neg (by omega)]
            rw [hle] at hat
            have HAT := Lib.hid hat
            clear hat hle
            obtain ⟨t, ht⟩ : ∃ t, turnK b xs ys (k + 1) = t := ⟨_, rfl⟩
            rw [ht] at x1 hY htb
            obtain ⟨v, hv⟩ : ∃ v, t + 1 = v := ⟨_, rfl⟩
            have q2 : IntKind.i64.wrap (t + 1) = v := by rw [wrapI64 (by omega)]; exact hv
            rw [hv] at hY
            have HY := Lib.hid hY
            have HJ := Lib.hid hj
            clear ht hv hY hj
            obtain ⟨p1, p2, p3, -⟩ := (KR.front 2 rfl).cells
            go_upto_region 7 with fail
            have KS := Kn.rowSt KR j (.int .i64 v)
            refine Code.wp.kn KS ?_; clear KS x1 x2 l1 l2 p1 p2 p3 q2; intro wx KS
            clear KR
            obtain ⟨p1, p2, p3, -⟩ := (KS.front 2 rfl).cells
            obtain ⟨r1, r2, r3, -⟩ := (KS.front 4 rfl).cells
            obtain ⟨x1, x2⟩ := Kn.rowCell KS (j := j) (u := .int .i64 v) (by rw [List.getElem?_set_self (by rw [List.length_map, digPL_len, ← HJ.out]; exact hk2)])
            obtain ⟨y1, y2⟩ := Kn.rowCell (KS.front 1 rfl) (j := j) (u := .bool (cockK b xs ys (k + 1))) (by rw [List.getElem?_map, ← HJ.out, HAT.out]; rfl)
            by_cases hvb : v = b
            · have HS := HY.out.resolve_right (fun h => h.1 hvb)
              have hD : digPL b xs ys n j = ((digPL b xs ys n k).set j v).set j 0 := by rw [List.set_set, ← HJ.out, hset.out, HS.2.1]
              have hL : levPL b xs ys n j = (levPL b xs ys n k).set j true := by rw [← HJ.out, hset2.out, HS.2.2]; rfl
              have HD := Lib.hid hD
              have HL := Lib.hid hL
              clear hset hset2 HY HS hD hL HAT
              subst hvb
              go_quiet (fail)
              go_upto_region 9 with fail
              refine Code.wp.kn (Kn.rowSt (KS.drewN _) j (.int .i64 0)) ?_; clear KS x1 x2 y1 y2 p1 p2 p3 r1 r2 r3; intro wz KZ
              obtain ⟨y1, y2⟩ := Kn.rowCell (KZ.front 1 rfl) (j := j) (u := .bool (cockK v xs ys (k + 1))) (by rw [List.getElem?_map, ← HJ.out, levPL_at v xs ys hk2]; unfold levP; rw [if_neg (by omega)]; rfl)
              go_wp2_with fail
              have KB := (Kn.rowSt (KZ.front 1 rfl) j (.bool true)).sel [1, 0, 2, 3, 4] 99 (by decide) (by decide)
              go_roundw
              case rel => exact ⟨j, by have := HJ.out; omega, rfl, by rw [HD.out, HL.out, List.map_set, List.map_set, List.map_set]; exact KB⟩
              case measure => have := HJ.out; simp [intOf]; omega
            · have HS := HY.out.resolve_left (fun h => hvb h.1)
              have hD : digPL b xs ys n j = (digPL b xs ys n k).set j v := by rw [← HJ.out, hset.out, HS.2.1]
              have hL : levPL b xs ys n j = levPL b xs ys n k := by rw [← HJ.out, hset2.out, HS.2.2]; exact set_id HAT.out
              have HD := Lib.hid hD
              have HL := Lib.hid hL
              clear hset hset2 HY HS hD hL HAT
              have v1 : (v == b) = false := beq_eq_false_iff_ne.2 hvb
              go_quiet (fail)
              go_wp2_with fail
              go_roundw
              case rel => exact ⟨j, by have := HJ.out; omega, rfl, by rw [HD.out, HL.out, List.map_set]; exact KS.drewN _⟩
              case measure => have := HJ.out; simp [intOf]; omega
          · have i2 : (j : Int) = (n : Int) := by omega
            have hN := Lib.hid (PL_last b xs ys (n := n) (k := k) (by omega))
            go_wp2_with fail
            go_roundw
            case rel => exact ⟨k + 1, by omega, by go_num, by rw [hN.out.1, hN.out.2]; exact KR⟩
            case measure => simp [intOf]; omega
      · have i1 : ¬ (k : Int) < (n : Int) := by omega
        obtain rfl : k = n := by omega
        obtain ⟨e1, e2⟩ := digPL_end (b := b) (xs := xs) (ys := ys) k
        rw [e1, e2] at KR
        have HE1 := Lib.hid (show (addD b xs ys k).length = k by rw [← e1, digPL_len])
        have HE2 := Lib.hid (show (levL b xs ys k).length = k by rw [levL_len])
        clear e1 e2
        obtain ⟨a1, a2, a3, c1, c2, c3, -⟩ := (KR.front 2 rfl).cells
        go_wp2_with fail
        have K9 := ((KR.front 3 rfl).st 0 (.int .i64 b)).st 1 (.slice (some ⟨gd, 0, none⟩) k ec)
        refine bodyPost.kn K9 ?_; clear K9 KR a1 a2 a3 c1 c2 c3; intro w9 K9
        obtain ⟨a1, a2, a3, -⟩ := K9.cells
        refine bodyPost_ret (v := .tuple #[.agg #[.int .i64 b, .slice (some ⟨gd, 0, none⟩) k ec], .slice (some ⟨gc, 0, none⟩) k cc']) (by simp [results, Try.results41, go_sem, a1]) rfl ⟨_, ec, _, cc', rfl, HE1.out, HE2.out, ?_⟩
        unfold rowI rowBl
        rw [HE1.out, HE2.out]
        exact K9.sel [1, 2] 99 (by decide) (by decide)
theorem Kn.rivN {w0 w : World} {m : List Ent} {A : Option Addr} {c n : Nat} {ds : List Int} (h : Kn w0 (rowI A c ds :: m) w) (hn : ds.length = n) : RI w A n ds := by
  subst hn; exact h.riv
theorem Kn.rlBlN {w0 w : World} {m : List Ent} {A : Option Addr} {c n : Nat} {bs : List Bool} (h : Kn w0 (rowBl A c bs :: m) w) (hn : bs.length = n) : RL BlM 1 w A n bs := by
  subst hn; exact h.rlBl
theorem pushed_ok (b : Int) (xs ys : List Int) (hv1 : vreg b xs = true) (hv2 : vreg b ys = true) (n : Nat) (h0 : 0 < n) (hn : n ≤ 16) (E : Option Addr) (ec : Nat) (C : Option Addr) (cc : Nat) (w : World) (hx : RI w E n (turnD b xs ys n)) (hc : RL BlM 1 w C n (cockL b xs ys n)) :
    Calls Try.prog 41 #[.agg #[.int .i64 b, .slice E n ec], .slice C n cc] w (PRet b n (addD b xs ys n) (levL b xs ys n) w) := by
  obtain ⟨⟨b1, b2⟩, -, hdx, -⟩ := vreg_iff.1 hv1
  have hdy := (vreg_iff.1 hv2).2.2.1
  exact pushed_any b xs ys b1 b2 hdx hdy n _ _ (digPL_zero b1 hdx hdy n) (levPL_zero b1 hdx hdy n) E ec C cc w hx hc h0 hn
end Go.Proofs.Ytmmiahgmdllgdaa

namespace Go.Proofs.Ytmmiahgmdllgdaa
open Go.RowKit Go.Sort
set_option maxRecDepth 100000 in
set_option maxHeartbeats 6400000 in
theorem AddSlowly_ok (b : Int) (n : Nat) (XA : Option Addr) (xc : Nat) (xs : List Int) (YA : Option Addr) (yc : Nat) (ys : List Int) (w : World) (hx : RI w XA n xs) (hy : RI w YA n ys) (hv1 : vreg b xs = true) (hv2 : vreg b ys = true) (hva : vreg b (addD b xs ys n) = true) :
    Calls Try.prog 8 #[.agg [.int .i64 b, .slice XA n xc].toArray, .agg [.int .i64 b, .slice YA n yc].toArray] w (SumR b n (addD b xs ys n) (carK b xs ys n) w) := by
  have hxl := hx.1
  have hyl := hy.1
  obtain ⟨⟨b1, b2⟩, ⟨n1, n2⟩, hdx, -⟩ := vreg_iff.1 hv1
  have hdy := (vreg_iff.1 hv2).2.2.1
  rw [hxl] at n1 n2
  have KP := (fun W (hW : Below w.heap.size w W) => pairCode_ok b XA xc xs YA yc ys W (by rw [hxl]; exact hx.below hW) (by rw [hyl]; exact hy.below hW) hv1 hv2 (by omega))
  have KT := (fun W (hW : Below w.heap.size w W) => turned_any b XA xc xs YA yc ys W (by rw [hxl]; exact hx.below hW) (by rw [hyl]; exact hy.below hW) b1 b2 hdx hdy (by omega) (by omega))
  rw [hxl, hyl] at KP KT
  have KU := (fun (E : Option Addr) ec (C : Option Addr) cc W hE hC => pushed_ok b xs ys hv1 hv2 n (by omega) n2 E ec C cc W hE hC)
  unfold PRet at KU
  obtain ⟨m, hm⟩ : ∃ m, n = m + 1 := ⟨n - 1, by omega⟩
  have hlast : (levL b xs ys n).getD m false = decide (carK b xs ys n = 1) := by
    rw [List.getD_eq_getElem?_getD, levL_get (by omega), Option.getD_some, hm]
  have hcar := car_one b1 hdx hdy n
  have hal := addD_len b xs ys n
  have htl := turnD_len b xs ys n
  have KL := (fun D dc W (hr : RL BlM 1 W D n (levL b xs ys n)) => (by
    have h := lastCarry_any D m dc (levL b xs ys n) W (by rw [← hm]; exact hr) (by omega)
    rw [hlast, ← hm] at h
    exact h : Calls Try.prog 44 #[.slice D n dc] W fun e w' => e = .returned (.int .i64 (if decide (carK b xs ys n = 1) = true then 1 else 0)) ∧ Below W.heap.size W w'))
  have hcv : (if decide (carK b xs ys n = 1) = true then (1 : Int) else 0) = carK b xs ys n := by
    rcases hcar with h | h <;> rw [h] <;> rfl
  rw [hcv] at KL
  have hll : (levL b xs ys n).length = n := by rw [levL_len]
  have hcl : (cockL b xs ys n).length = n := by simp [cockL]
  obtain ⟨ls, hls⟩ : ∃ s, levL b xs ys n = s := ⟨_, rfl⟩
  obtain ⟨ds, hds⟩ : ∃ s, addD b xs ys n = s := ⟨_, rfl⟩
  obtain ⟨cr, hcr⟩ : ∃ s, carK b xs ys n = s := ⟨_, rfl⟩
  obtain ⟨us, hus⟩ : ∃ s, turnD b xs ys n = s := ⟨_, rfl⟩
  obtain ⟨ks, hks⟩ : ∃ s, cockL b xs ys n = s := ⟨_, rfl⟩
  rw [hls] at hll
  rw [hds] at hal hva
  rw [hus] at htl
  rw [hks] at hcl
  simp only [hus, hks] at KT
  simp only [hls, hds, hcr, hus, hks] at KU KL ⊢
  have KW := (fun F fc W (hr : RI W F n ds) => (by
    have h := whole_ok b cr F fc ds W (by rw [hal]; exact hr) hva
    rw [hal] at h
    exact h : Calls Try.prog 43 #[.agg #[.int .i64 b, .slice F n fc], .int .i64 cr] W fun e w' => e = .returned (.tuple #[.agg #[.int .i64 b, .slice F n fc], .int .i64 cr, .int .i64 0]) ∧ Below W.heap.size W w'))
  replace KP := Lib.hid KP
  replace KT := Lib.hid KT
  replace KU := Lib.hid KU
  replace KL := Lib.hid KL
  replace KW := Lib.hid KW
  have HAL := Lib.hid hal
  have HTL := Lib.hid htl
  have HLL := Lib.hid hll
  have HCL := Lib.hid hcl
  unfold SumR
  clear hls hds hcr hus hks hal htl hll hcl hva hcar hlast hcv hm hdx hdy hv1 hv2 hx hy hxl hyl
  obtain ⟨g, hg⟩ : ∃ g, w.heap.size = g := ⟨_, rfl⟩
  have K0 := (((Kn.nil w).al [.int .i64 b, .slice XA n xc] 26).al [.int .i64 b, .slice YA n yc] 26).al [.int .i64 0, .slice none 0 0] 26
  simp only [World.size_alloc, hg] at K0
  go_enter Try.func8, Try.ntmps8
  go_upto_region 1 with fail
  try rw [hg]
  refine Code.wp.kn K0 ?_; clear K0 hg; intro w1 K1
  obtain ⟨z1, z2, z3, y1, y2, y3, x1, x2, x3, -⟩ := K1.cells
  go_upto_region 4 with (go_at_call 40; refine (KP.out _ K1.below).mono ?_; rintro e w2 ⟨rfl, hw⟩; have K2 := K1.keep hw; clear hw K1 z1 z2 z3 y1 y2 y3 x1 x2 x3; obtain ⟨z1, z2, z3, y1, y2, y3, x1, x2, x3, -⟩ := K2.cells)
  go_upto_region 5 with (first
    | (go_at_call 42; refine (KT.out _ K2.below).mono ?_; rintro e w3 ⟨E, ec, C, cc, rfl, hK⟩; have K3 := K2.join hK; clear hK K2 z1 z2 z3 y1 y2 y3 x1 x2 x3)
    | (go_at_call 41; refine (KU.out E ec C cc _ (by have h := (K3.front 0 rfl).riv; rw [HTL.out] at h; exact h) (by have h := Kn.rlBl (K3.front 1 rfl); rw [HCL.out] at h; exact h)).mono ?_; rintro e w4 ⟨F, fc, D, dc, rfl, -, -, hK⟩; have K4 := (K3.join hK).al [.int .i64 b, .slice F n fc] 26; clear hK K3))
  obtain ⟨g8, hg⟩ : ∃ g, w4.heap.size = g := ⟨_, rfl⟩
  rw [hg] at K4
  try rw [hg]
  refine Code.wp.kn K4 ?_; clear K4 hg; intro w5 K5
  have K6 : Kn w [.blk g8 [.int .i64 b, .slice F n fc] 26, rowI F fc ds, rowBl D dc ls, .blk (g + 1 + 1) [.int .i64 0, .slice none 0 0] 26] w5 := K5.sel [0, 1, 2, 5] 99 (by decide) (by decide)
  clear K5
  have HB := Lib.hid (fun W (h : Kn w [.blk g8 [.int .i64 b, .slice F n fc] 26] W) => box2 h)
  have hKd := K6.drew
  have HG := Lib.hid (HB.out _ (hKd.sel [0] 99 (by decide) (by decide)))
  refine wp_region_held_drew (S := fun W => W.cell? ⟨g8, 0, none⟩ = some (.int .i64 b) ∧ W.cell? ⟨g8, 1, none⟩ = some (.slice F n fc)) (by kernel_rfl) ?_ (fun hHeld => ?_)
  · exact HG.out
  try dsimp only
  generalize w5.drew = wd' at hKd HG hHeld ⊢
  clear K6
  refine wpAnyH_take (i := 0) (v := ?_) rfl (by kernel_rfl) (by kernel_rfl) (by kernel_rfl) (fun _ _ _ h => h) (Or.inl ⟨by rfl, ?_⟩) hHeld ?_
  rotate_left
  · (intro w hSw; (try dsimp only at hSw); go_simp; try with_reducible rfl)
  try simp only [Act.put, List.setIfInBounds_toArray, List.set_cons_zero, List.set_cons_succ, List.getElem_toArray, List.getElem_cons_succ, List.getElem_cons_zero]
  refine wpAnyH_take (i := 1) (v := ?_) rfl (by kernel_rfl) (by kernel_rfl) (by kernel_rfl) (fun _ _ _ h => h) (Or.inl ⟨by rfl, ?_⟩) hHeld ?_
  rotate_left
  · (intro w hSw; (try dsimp only at hSw); go_simp; try with_reducible rfl)
  try simp only [Act.put, List.setIfInBounds_toArray, List.set_cons_zero, List.set_cons_succ, List.getElem_toArray, List.getElem_cons_succ, List.getElem_cons_zero]
  refine wpAnyH_ready (rs := [2]) (by kernel_rfl) (by decide) (AllReadyH.cons (o := _) rfl (fun K hK' => ?_) AllReadyH.nil)
  go_simp
  go_at_call 44
  refine (KL.out D dc _ (by have h := Kn.rlBl (hKd.front 2 rfl); rw [HLL.out] at h; exact h)).mono ?_
  rintro e wo1 ⟨rfl, hw⟩
  have KO1 := hKd.keep hw
  clear hw
  have HG := Lib.hid (HB.out _ (KO1.sel [0] 99 (by decide) (by decide)))
  refine hK'.out _ _ HG.out (fun hHeld2 => ?_)
  clear hK' hHeld
  have hHeld := hHeld2
  clear hHeld2
  try simp only [Act.put, List.setIfInBounds_toArray]
  refine wpAnyH_ready (rs := [3]) (by kernel_rfl) (by decide) (AllReadyH.cons (o := _) rfl (fun K hK' => ?_) AllReadyH.nil)
  go_simp
  go_at_call 43
  refine (KW.out F fc _ (by have h := (KO1.front 1 rfl).riv; rw [HAL.out] at h; exact h)).mono ?_
  rintro e wo2 ⟨rfl, hw⟩
  have KO2 := KO1.keep hw
  clear hw
  have HG := Lib.hid (HB.out _ (KO2.sel [0] 99 (by decide) (by decide)))
  refine hK'.out _ _ HG.out (fun hHeld2 => ?_)
  clear hK' hHeld
  have hHeld := hHeld2
  clear hHeld2
  try simp only [Act.put, List.setIfInBounds_toArray]
  refine wpAnyH_take (i := 4) (v := ?_) rfl (by kernel_rfl) (by kernel_rfl) (by kernel_rfl) (fun _ _ _ h => h) (Or.inl ⟨by rfl, ?_⟩) hHeld ?_
  rotate_left
  · (intro w hSw; (try dsimp only at hSw); go_simp; try with_reducible rfl)
  try simp only [Act.put, List.setIfInBounds_toArray, List.set_cons_zero, List.set_cons_succ, List.getElem_toArray, List.getElem_cons_succ, List.getElem_cons_zero]
  refine wpAnyH_take (i := 5) (v := ?_) rfl (by kernel_rfl) (by kernel_rfl) (by kernel_rfl) (fun _ _ _ h => h) (Or.inl ⟨by rfl, ?_⟩) hHeld ?_
  rotate_left
  · (intro w hSw; (try dsimp only at hSw); go_simp; try with_reducible rfl)
  try simp only [Act.put, List.setIfInBounds_toArray, List.set_cons_zero, List.set_cons_succ, List.getElem_toArray, List.getElem_cons_succ, List.getElem_cons_zero]
  refine wpAnyH_take (i := 6) (v := ?_) rfl (by kernel_rfl) (by kernel_rfl) (by kernel_rfl) (fun _ _ _ h => h) (Or.inl ⟨by rfl, ?_⟩) hHeld ?_
  rotate_left
  · (intro w hSw; (try dsimp only at hSw); go_simp; try with_reducible rfl)
  try simp only [Act.put, List.setIfInBounds_toArray, List.set_cons_zero, List.set_cons_succ, List.getElem_toArray, List.getElem_cons_succ, List.getElem_cons_zero]
  refine wpAnyH_ready (rs := [7]) (by kernel_rfl) (by decide) (AllReadyH.cons (o := _) rfl (fun K hK' => ?_) AllReadyH.nil)
  obtain ⟨s1, s2, s3, -⟩ := (KO2.front 3 rfl).cells
  have KO3 := (((KO2.front 3 rfl).st 0 (.int .i64 b)).st 1 (.slice F n fc))
  go_simp
  clear s1 s2 s3
  have HG := Lib.hid (HB.out _ (KO3.sel [1] 99 (by decide) (by decide)))
  refine hK'.out _ _ HG.out (fun hHeld2 => ?_)
  clear hK' hHeld
  have hHeld := hHeld2
  clear hHeld2
  try simp only [Act.put, List.setIfInBounds_toArray]
  refine wpAnyH_take (i := 8) (v := ?_) rfl (by kernel_rfl) (by kernel_rfl) (by kernel_rfl) (fun _ _ _ h => h) (Or.inl ⟨by rfl, ?_⟩) hHeld ?_
  rotate_left
  · (intro w hSw; (try dsimp only at hSw); go_simp; try with_reducible rfl)
  try simp only [Act.put, List.setIfInBounds_toArray, List.set_cons_zero, List.set_cons_succ, List.getElem_toArray, List.getElem_cons_succ, List.getElem_cons_zero]
  refine wpAnyH_take (i := 9) (v := ?_) rfl (by kernel_rfl) (by kernel_rfl) (by kernel_rfl) (fun _ _ _ h => h) (Or.inl ⟨by rfl, ?_⟩) hHeld ?_
  rotate_left
  · (intro w hSw; (try dsimp only at hSw); go_simp; try with_reducible rfl)
  try simp only [Act.put, List.setIfInBounds_toArray, List.set_cons_zero, List.set_cons_succ, List.getElem_toArray, List.getElem_cons_succ, List.getElem_cons_zero]
  refine wpAnyH_done (by kernel_rfl) ?_ _
  go_wp2_with fail
  refine bodyPost.kn KO3 ?_; clear KO3; intro w9 K9
  obtain ⟨a1, a2, a3, -⟩ := K9.cells
  refine bodyPost_ret (v := .tuple #[.agg #[.int .i64 b, .slice F n fc], .int .i64 cr, .int .i64 0]) (by simp [results, Try.results8, go_sem, a1]) rfl ⟨F, fc, rfl, ?_⟩
  have h := K9.sel [2] 99 (by decide) (by decide)
  unfold rowI at h
  rw [HAL.out] at h
  exact h
end Go.Proofs.Ytmmiahgmdllgdaa

namespace Go.Proofs.Ytmmiahgmdllgdaa
open Go.RowKit Go.Sort
abbrev Sig := Bool × Bool
def joinG (l h : Sig) : Sig := (h.1 || (h.2 && l.1), l.2 && h.2)
def thrG (s : Sig) (c : Int) : Int := if s.1 || (s.2 && c == 1) then 1 else 0
def cellsG (ss : List Sig) : List Value := ss.flatMap fun s => [.bool s.1, .bool s.2]
theorem cellsG_snoc (ss : List Sig) (s : Sig) : cellsG (ss ++ [s]) = cellsG ss ++ [.bool s.1, .bool s.2] := by simp [cellsG]
theorem cellsG_get : ∀ (xs : List Sig) (k : Nat) (h : k < xs.length), (cellsG xs)[k * 2]? = some (.bool xs[k].1) ∧ (cellsG xs)[k * 2 + 1]? = some (.bool xs[k].2)
  | [], k, h => by simp at h
  | x :: xs, 0, h => by simp [cellsG]
  | x :: xs, k + 1, h => by
    have h1 := cellsG_get xs k (by simpa using h)
    have h2 : cellsG (x :: xs) = .bool x.1 :: .bool x.2 :: cellsG xs := by simp [cellsG]
    rw [h2, show (k + 1) * 2 = k * 2 + 1 + 1 by omega]
    simp only [List.getElem?_cons_succ, List.getElem_cons_succ]
    exact h1
theorem tpG : TP 92 147 (.agg #[.bool false, .bool false]) 2 2 := ⟨Try.underlying92, by kernel_rfl, rfl, by decide⟩
theorem thrG_join (l h : Sig) (c : Int) : thrG (joinG l h) c = thrG h (thrG l c) := by
  obtain ⟨lm, lp⟩ := l
  obtain ⟨hm, hp⟩ := h
  unfold thrG joinG
  dsimp only
  cases lm <;> cases lp <;> cases hm <;> cases hp <;> by_cases hc : c = 1 <;> simp [hc]
theorem thrG_bd (s : Sig) (c : Int) : thrG s c = 0 ∨ thrG s c = 1 := by unfold thrG; split <;> simp
/-- the signals of a part of a list, at their places -/
def SgAt (w : World) (g o n : Nat) (ss : List Sig) : Prop := ss.length = n ∧ g < w.heap.size ∧ ∀ (j : Nat) (h : j < ss.length), w.cell? ⟨g, (o + j) * 2, none⟩ = some (.bool ss[j].1) ∧ w.cell? ⟨g, (o + j) * 2 + 1, none⟩ = some (.bool ss[j].2)
theorem SgAt.below {w w' : World} {g o n : Nat} {ss : List Sig} (h : SgAt w g o n ss) (hb : Below w.heap.size w w') : SgAt w' g o n ss :=
  ⟨h.1, Nat.lt_of_lt_of_le h.2.1 hb.size, fun j hj => by
    obtain ⟨h1, h2⟩ := h.2.2 j hj
    exact ⟨by rw [hb.cell h.2.1]; exact h1, by rw [hb.cell h.2.1]; exact h2⟩⟩
theorem Kn.sgAt {w0 w : World} {m : List Ent} {g c n : Nat} {ss : List Sig} (h : Kn w0 (.row (.slice (some ⟨g, 0, none⟩) n c) 147 2 n (cellsG ss) :: m) w) (hl : ss.length = n) {o k : Nat} (hk : o + k ≤ n) : SgAt w g o k ((ss.drop o).take k) := by
  have h0 : w.ownsRow 0 147 2 (.slice (some ⟨g, 0, none⟩) n c) n (cellsG ss) := h.at0
  have hlen : ((ss.drop o).take k).length = k := by rw [List.length_take, List.length_drop]; omega
  refine ⟨hlen, (h0.lt g rfl).2, fun j hj => ?_⟩
  rw [hlen] at hj
  have hoj : o + j < ss.length := by omega
  obtain ⟨c1, c2⟩ := cellsG_get ss (o + j) hoj
  have e : ((ss.drop o).take k)[j]'(by rw [hlen]; exact hj) = ss[o + j] := by simp
  rw [e]
  exact ⟨(Kn.rowCell h c1).1, (Kn.rowCell h c2).1⟩
set_option maxHeartbeats 6400000 in
theorem JoinSignals_any (l h : Sig) (w : World) :
    Calls Try.prog 150 #[.agg #[.bool l.1, .bool l.2], .agg #[.bool h.1, .bool h.2]] w fun e w' => e = .returned (.agg #[.bool (joinG l h).1, .bool (joinG l h).2]) ∧ Below w.heap.size w w' := by
  obtain ⟨lm, lp⟩ := l
  obtain ⟨hm, hp⟩ := h
  have K0 := (((Kn.nil w).al [.bool lm, .bool lp] 147).al [.bool hm, .bool hp] 147).al [.bool false, .bool false] 147
  obtain ⟨g, hg⟩ : ∃ g, w.heap.size = g := ⟨_, rfl⟩
  simp only [World.size_alloc, hg] at K0
  dsimp only
  cases lm <;> cases lp <;> cases hm <;> cases hp <;>
  · go_enter Try.func150, Try.ntmps150
    go_upto_region 1 with fail
    try rw [hg]
    refine Code.wp.kn K0 ?_; clear K0 hg; intro w1 K1
    obtain ⟨z1, z2, z3, y1, y2, y3, x1, x2, x3, -⟩ := K1.cells
    go_wp2_with fail
    refine bodyPost.kn ((K1.st 0 _).st 1 _) ?_; intro w9 K9
    clear z1 z2 z3 y1 y2 y3 x1 x2 x3
    obtain ⟨a1, a2, a3, -⟩ := K9.cells
    refine bodyPost_ret (v := .agg #[.bool _, .bool _]) (by simp [results, Try.results150, go_sem, a1]; first | exact ⟨rfl, rfl⟩ | rfl) rfl ⟨rfl, K9.below⟩
set_option maxHeartbeats 3200000 in
theorem through_any (s : Sig) (c : Int) (w : World) (hc : c = 0 ∨ c = 1) :
    Calls Try.prog 103 #[.agg #[.bool s.1, .bool s.2], .int .i64 c] w fun e w' => e = .returned (.int .i64 (thrG s c)) ∧ Below w.heap.size w w' := by
  obtain ⟨sm, sp⟩ := s
  have K0 := (Kn.nil w).al [.bool sm, .bool sp] 147
  obtain ⟨g, hg⟩ : ∃ g, w.heap.size = g := ⟨_, rfl⟩
  simp only [hg] at K0
  dsimp only
  rcases hc with rfl | rfl <;> cases sm <;> cases sp <;>
  · go_enter Try.func103, Try.ntmps103
    go_upto_region 1 with fail
    try rw [hg]
    refine Code.wp.kn K0 ?_; clear K0 hg; intro w1 K1
    obtain ⟨x1, x2, x3, -⟩ := K1.cells
    go_wp2_with fail
    go_ret
    exact ⟨rfl, K1.below⟩
def foldG (ss : List Sig) : Sig := ss.tail.foldl joinG (ss.headD (false, false))
theorem foldG_thr : ∀ (ss : List Sig) (s : Sig) (c : Int), thrG (ss.foldl joinG s) c = ss.foldl (fun c s => thrG s c) (thrG s c)
  | [], _, _ => rfl
  | x :: ss, s, c => by
    show thrG (ss.foldl joinG (joinG s x)) c = ss.foldl _ (thrG x (thrG s c))
    rw [foldG_thr ss, thrG_join]
set_option maxRecDepth 100000 in
set_option maxHeartbeats 3200000 in
theorem joined_ok (g o n c : Nat) (ss : List Sig) (w : World) (hp : SgAt w g o n ss) (n0 : 0 < n) (n16 : n ≤ 16) (hc : n ≤ c) (hc2 : c ≤ 9223372036854775807) :
    Calls Try.prog 125 #[.slice (some ⟨g, o * 2, none⟩) n c] w fun e w' => e = .returned (.agg #[.bool (foldG ss).1, .bool (foldG ss).2]) ∧ Below w.heap.size w w' := by
  have HP := Lib.hid (fun W (hW : Below w.heap.size w W) => hp.below hW)
  have hl := hp.1
  obtain ⟨q, rfl⟩ : ∃ q, n = q + 1 := ⟨n - 1, by omega⟩
  obtain ⟨s0, r, rfl⟩ : ∃ s r, ss = s :: r := by
    cases ss with
    | nil => simp at hl
    | cons x r => exact ⟨x, r, rfl⟩
  have hrl : r.length = q := by simpa using hl
  have HRL := Lib.hid hrl
  have K0 := (Kn.nil w).al [.bool false, .bool false] 147
  obtain ⟨h, hh⟩ : ∃ h, w.heap.size = h := ⟨_, rfl⟩
  rw [hh] at K0
  have i1 : (0 : Int) < ((q : Int) + 1) := by omega
  clear hl hrl n0 hp
  go_enter Try.func125, Try.ntmps125
  go_upto_region 1 with fail
  try rw [hh]
  refine Code.wp.kn K0 ?_; clear K0 hh; intro w1 K1
  obtain ⟨h1, h2⟩ := (HP.out _ K1.below).2.2 0 (by simp)
  simp only [Nat.add_zero, List.getElem_cons_zero] at h1 h2
  obtain ⟨sm, sp⟩ := s0
  dsimp only at h1 h2
  have K2 := K1.al [.bool sm, .bool sp] 147
  obtain ⟨g3, hg⟩ : ∃ h, w1.heap.size = h := ⟨_, rfl⟩
  rw [hg] at K2
  go_upto_region 2 with fail
  try rw [hg]
  refine Code.wp.kn K2 ?_; clear K1 K2 hg h1 h2; intro w2 K2
  have K3 : Kn w [.blk g3 [.bool ((r.take 0).foldl joinG (sm, sp)).1, .bool ((r.take 0).foldl joinG (sm, sp)).2] 147, .blk h [.bool false, .bool false] 147] w2 := K2
  clear K2
  by_cases hc1 : c = 1
  · subst hc1
    obtain rfl : q = 0 := by omega
    have hr0 : r = [] := List.eq_nil_of_length_eq_zero HRL.out
    subst hr0
    obtain ⟨d1, d2, d3, z1, z2, z3, -⟩ := K3.cells
    go_wp2_with fail
    go_loopw [12] (fun kk wr => kk = .int .i64 0 ∧ Kn w [.blk g3 [.bool sm, .bool sp] 147, .blk h [.bool false, .bool false] 147] wr) (fun kk _ => 0)
    case atStart => exact ⟨rfl, K3⟩
    case round =>
      clear K3 d1 d2 d3 z1 z2 z3
      obtain ⟨rfl, KR⟩ := hrel
      obtain ⟨d1, d2, d3, z1, z2, z3, -⟩ := KR.cells
      go_wp2_with fail
      have K9 := ((KR.front 1 rfl).st 0 (.bool sm)).st 1 (.bool sp)
      refine bodyPost.kn K9 ?_; clear K9; intro w9 K9
      obtain ⟨b1, b2, b3, -⟩ := K9.cells
      refine bodyPost_ret (v := .agg #[.bool sm, .bool sp]) (by simp [results, Try.results125, go_sem, b1]) rfl ⟨rfl, K9.below⟩
  · have hc3 : 1 < c := by omega
    have hc4 : ¬ c - 1 = 0 := by omega
    have hc5 : ¬ (c : Int) = 1 := by omega
    obtain ⟨d1, d2, d3, z1, z2, z3, -⟩ := K3.cells
    go_wp2_with fail
    go_loopw [12] (fun kk wr => ∃ k : Nat, k ≤ q ∧ kk = .int .i64 (k : Int) ∧ Kn w [.blk g3 [.bool ((r.take k).foldl joinG (sm, sp)).1, .bool ((r.take k).foldl joinG (sm, sp)).2] 147, .blk h [.bool false, .bool false] 147] wr) (fun kk _ => q - (intOf kk).toNat)
    case atStart => exact ⟨0, Nat.zero_le _, rfl, K3⟩
    case round =>
      clear K3 d1 d2 d3 z1 z2 z3
      obtain ⟨k, hk, rfl, KR⟩ := hrel
      obtain ⟨d1, d2, d3, z1, z2, z3, -⟩ := KR.cells
      by_cases hk1 : k < q
      · have j1 : (k : Int) < (q : Int) := by omega
        have j0 : (0 : Int) ≤ (k : Int) := by omega
        have hkr : k < r.length := by rw [HRL.out]; exact hk1
        obtain ⟨h1, h2⟩ := (HP.out _ KR.below).2.2 (k + 1) (by simp only [List.length_cons]; omega)
        rw [List.getElem_cons_succ] at h1 h2
        rw [show (o + (k + 1)) * 2 = o * 2 + 2 + k * 2 by omega] at h1 h2
        have HT := Lib.hid (show (r.take (k + 1)).foldl joinG (sm, sp) = joinG ((r.take k).foldl joinG (sm, sp)) r[k] by rw [List.take_succ_eq_append_getElem hkr, List.foldl_append]; rfl)
        obtain ⟨s1, hs1⟩ : ∃ s, (r.take k).foldl joinG (sm, sp) = s := ⟨_, rfl⟩
        obtain ⟨s2, hs2⟩ : ∃ s, r[k] = s := ⟨_, rfl⟩
        rw [hs1, hs2] at HT
        rw [hs1] at KR d1
        rw [hs2] at h1 h2
        have K5 := KR.al [.bool s2.1, .bool s2.2] 147
        obtain ⟨g5, hg⟩ : ∃ h, wr.heap.size = h := ⟨_, rfl⟩
        rw [hg] at K5
        clear hs1 hs2 hkr
        go_upto_region 5 with fail
        try rw [hg]
        refine Code.wp.kn K5 ?_; clear KR K5 hg h1 h2 d1 d2 d3 z1 z2 z3; intro w5 K5
        obtain ⟨c1, c2, c3, d1, d2, d3, -⟩ := K5.cells
        have KJ := Lib.hid (fun W => JoinSignals_any s1 s2 W)
        obtain ⟨s3, hs3⟩ : ∃ s, joinG s1 s2 = s := ⟨_, rfl⟩
        rw [hs3] at HT
        simp only [hs3] at KJ
        clear hs3
        go_wp2_with (go_at_call 150; refine (KJ.out _).mono ?_; rintro e w6 ⟨rfl, hw⟩; have K6 := K5.keep hw; clear hw K5 c1 c2 c3 d1 d2 d3; obtain ⟨c1, c2, c3, d1, d2, d3, -⟩ := K6.cells)
        go_roundw
        case rel => exact ⟨k + 1, by omega, by go_num, by rw [HT.out]; exact (((K6.front 1 rfl).st 0 (.bool s3.1)).st 1 (.bool s3.2)).sel [0, 2] 99 (by decide) (by decide)⟩
        case measure => simp [intOf] <;> omega
      · have j1 : ¬ (k : Int) < (q : Int) := by omega
        obtain rfl : k = q := by omega
        have HT := Lib.hid (show (r.take k).foldl joinG (sm, sp) = foldG ((sm, sp) :: r) by rw [List.take_of_length_le (by rw [HRL.out]; exact Nat.le_refl _)]; rfl)
        obtain ⟨s1, hs1⟩ : ∃ s, (r.take k).foldl joinG (sm, sp) = s := ⟨_, rfl⟩
        rw [hs1] at HT KR d1
        clear hs1
        go_wp2_with fail
        have K9 := ((KR.front 1 rfl).st 0 (.bool s1.1)).st 1 (.bool s1.2)
        refine bodyPost.kn K9 ?_; clear K9; intro w9 K9
        obtain ⟨b1, b2, b3, -⟩ := K9.cells
        refine bodyPost_ret (v := .agg #[.bool s1.1, .bool s1.2]) (by simp [results, Try.results125, go_sem, b1]) rfl ⟨by rw [HT.out], K9.below⟩
end Go.Proofs.Ytmmiahgmdllgdaa

namespace Go.Proofs.Ytmmiahgmdllgdaa
open Go.RowKit Go.Sort
def sigK (b : Int) (xs ys : List Int) (i : Nat) : Sig := (decide (b ≤ xs.getD i 0 + ys.getD i 0), xs.getD i 0 + ys.getD i 0 == b - 1)
def sigL (b : Int) (xs ys : List Int) (n : Nat) : List Sig := (List.range n).map (sigK b xs ys)
theorem sigL_len (b : Int) (xs ys : List Int) (n : Nat) : (sigL b xs ys n).length = n := by simp [sigL]
theorem sigL_succ (b : Int) (xs ys : List Int) (n : Nat) : sigL b xs ys (n + 1) = sigL b xs ys n ++ [sigK b xs ys n] := by unfold sigL; rw [List.range_succ, List.map_append]; rfl
theorem SgAt.part {w : World} {g n : Nat} {ss : List Sig} (h : SgAt w g 0 n ss) {o k : Nat} (hk : o + k ≤ n) : SgAt w g o k ((ss.drop o).take k) := by
  have hl := h.1
  have hlen : ((ss.drop o).take k).length = k := by rw [List.length_take, List.length_drop]; omega
  refine ⟨hlen, h.2.1, fun j hj => ?_⟩
  rw [hlen] at hj
  obtain ⟨c1, c2⟩ := h.2.2 (o + j) (by omega)
  rw [Nat.zero_add] at c1 c2
  have e : ((ss.drop o).take k)[j]'(by rw [hlen]; exact hj) = ss[o + j]'(by omega) := by simp
  rw [e]
  exact ⟨c1, c2⟩
theorem Kn.sgAt0 {w0 w : World} {m : List Ent} {g c n : Nat} {ss : List Sig} (h : Kn w0 (.row (.slice (some ⟨g, 0, none⟩) n c) 147 2 n (cellsG ss) :: m) w) (hl : ss.length = n) : SgAt w g 0 n ss := by
  have h1 := h.sgAt hl (o := 0) (k := n) (by omega)
  rw [List.drop_zero, List.take_of_length_le (by omega)] at h1
  exact h1
set_option maxRecDepth 100000 in
set_option maxHeartbeats 3200000 in
theorem signals_ok (b : Int) (n : Nat) (XA : Option Addr) (xc : Nat) (xs : List Int) (YA : Option Addr) (yc : Nat) (ys : List Int) (w : World) (b1 : 2 ≤ b) (b2 : b ≤ 16) (n0 : 0 < n) (n16 : n ≤ 16) (hx : RI w XA n xs) (hy : RI w YA n ys) (hdx : Digs b xs) (hdy : Digs b ys) :
    Calls Try.prog 48 #[.agg [.int .i64 b, .slice XA n xc].toArray, .agg [.int .i64 b, .slice YA n yc].toArray] w fun e w' => ∃ gs sc, e = .returned (.slice (some ⟨gs, 0, none⟩) n sc) ∧ Kn w [.row (.slice (some ⟨gs, 0, none⟩) n sc) 147 2 n (cellsG (sigL b xs ys n))] w' := by
  have HX := Lib.hid (fun W (hW : Below w.heap.size w W) => hx.below hW)
  have HY := Lib.hid (fun W (hW : Below w.heap.size w W) => hy.below hW)
  have HDX := Lib.hid hdx
  have HDY := Lib.hid hdy
  clear hx hy hdx hdy
  have f0 : IntKind.i64.wrap (b - 1) = b - 1 := wrapI64 (by omega)
  obtain ⟨g, hg⟩ : ∃ g, w.heap.size = g := ⟨_, rfl⟩
  have K0 := ((Kn.nil w).al [.int .i64 b, .slice XA n xc] 26).al [.int .i64 b, .slice YA n yc] 26
  simp only [World.size_alloc, hg] at K0
  go_enter Try.func48, Try.ntmps48
  go_upto_region 1 with fail
  try rw [hg]
  refine Code.wp.kn K0 ?_; clear K0 hg; intro w1 K1
  have K2 := (K1.al [] 147).litRow (size := 2) (n := 0) rfl (by decide)
  obtain ⟨h, hh⟩ : ∃ h, w1.heap.size = h := ⟨_, rfl⟩
  rw [hh] at K2
  go_upto_region 2 with fail
  try rw [hh]
  refine Code.wp.kn K2 ?_; clear K1 K2 hh; intro w2 K2
  have K3 : Kn w [.row (.slice (some ⟨h, 0, none⟩) 0 0) 147 2 0 (cellsG (sigL b xs ys 0)), .blk (g + 1) [.int .i64 b, .slice YA n yc] 26, .blk g [.int .i64 b, .slice XA n xc] 26] w2 := K2
  clear K2
  obtain ⟨y1, y2, y3, x1, x2, x3, -⟩ := K3.cells
  go_wp2_with fail
  go_loopw [5, 13] (fun oo kk wr => ∃ k : Nat, k ≤ n ∧ kk = .int .i64 (k : Int) ∧ Kn w [.row oo 147 2 k (cellsG (sigL b xs ys k)), .blk (g + 1) [.int .i64 b, .slice YA n yc] 26, .blk g [.int .i64 b, .slice XA n xc] 26] wr) (fun _ kk _ => n - (intOf kk).toNat)
  case atStart => exact ⟨0, Nat.zero_le _, rfl, K3⟩
  case round =>
    clear K3 y1 y2 y3 x1 x2 x3
    obtain ⟨k, hk, rfl, KR⟩ := hrel
    obtain ⟨y1, y2, y3, x1, x2, x3, -⟩ := KR.cells
    by_cases hk1 : k < n
    · have i1 : (k : Int) < (n : Int) := by omega
      have i0 : (0 : Int) ≤ (k : Int) := by omega
      obtain ⟨adx, hXA, -, hkx, hcx⟩ := (HX.out _ KR.below).at_ hk1
      obtain ⟨ady, hYA, -, hky, hcy⟩ := (HY.out _ KR.below).at_ hk1
      have hxb := HDX.out xs[k] (List.getElem_mem _)
      have hyb := HDY.out ys[k] (List.getElem_mem _)
      have hgx : xs.getD k 0 = xs[k] := getD_of hkx
      have hgy : ys.getD k 0 = ys[k] := getD_of hky
      have HS := Lib.hid (sigL_succ b xs ys k)
      have hsk : sigK b xs ys k = (decide (b ≤ xs[k] + ys[k]), xs[k] + ys[k] == b - 1) := by unfold sigK; rw [hgx, hgy]
      rw [hsk] at HS
      obtain ⟨x, hxx⟩ : ∃ x, xs[k] = x := ⟨_, rfl⟩
      obtain ⟨y, hyy⟩ : ∃ x, ys[k] = x := ⟨_, rfl⟩
      rw [hxx] at hcx hxb HS
      rw [hyy] at hcy hyb HS
      obtain ⟨mm, hmm⟩ : ∃ m, decide (b ≤ x + y) = m := ⟨_, rfl⟩
      obtain ⟨pp, hpp⟩ : ∃ m, (x + y == b - 1) = m := ⟨_, rfl⟩
      rw [hmm, hpp] at HS
      have f1 : IntKind.i64.wrap (x + y) = x + y := wrapI64 (by omega)
      subst hXA hYA
      clear hgx hgy hsk hxx hyy hkx hky hxb hyb
      go_wp2_with (at_builtin; refine kn_app tpG rfl _ _ rfl _ k (cellsG (sigL b xs ys k)) rfl (l := [.bool mm, .bool pp]) (k := 1) rfl (KR.al [.bool mm, .bool pp] 147) rfl (by simp [Value.oneCell']) (by omega) (by omega) ?_; intro v7 w7 K7)
      go_roundw
      case rel => exact ⟨k + 1, by omega, by go_num, by rw [HS.out, cellsG_snoc]; exact K7⟩
      case measure => simp [intOf] <;> omega
    · have i1 : ¬ (k : Int) < (n : Int) := by omega
      obtain rfl : k = n := by omega
      obtain ⟨gs, sc, hv⟩ := KR.rowForm n0
      subst hv
      go_wp2_with fail
      go_ret
      exact ⟨gs, sc, rfl, KR.sel [0] 99 (by decide) (by decide)⟩
/-- the signal of a group -/
def grpK (ss : List Sig) (n size k : Nat) : Sig := foldG ((ss.drop (k * size)).take (min size (n - k * size)))
def grpL (ss : List Sig) (n size k : Nat) : List Sig := (List.range k).map (grpK ss n size)
theorem grpL_len (ss : List Sig) (n size k : Nat) : (grpL ss n size k).length = k := by simp [grpL]
theorem grpL_succ (ss : List Sig) (n size k : Nat) : grpL ss n size (k + 1) = grpL ss n size k ++ [grpK ss n size k] := by unfold grpL; rw [List.range_succ, List.map_append]; rfl
set_option maxRecDepth 100000 in
set_option maxHeartbeats 3200000 in
theorem groups_ok (g n c size : Nat) (ss : List Sig) (w : World) (n0 : 0 < n) (n16 : n ≤ 16) (s1 : 1 ≤ size) (s16 : size ≤ 16) (hc : n ≤ c) (hc2 : c ≤ 9223372036854775807) (hp : SgAt w g 0 n ss) :
    Calls Try.prog 102 #[.slice (some ⟨g, 0, none⟩) n c, .int .i64 (size : Int)] w fun e w' => ∃ G gr rc, e = .returned (.slice (some ⟨gr, 0, none⟩) G rc) ∧ (1 ≤ G ∧ G ≤ 16 ∧ n ≤ G * size ∧ (G - 1) * size < n) ∧ Kn w [.row (.slice (some ⟨gr, 0, none⟩) G rc) 147 2 G (cellsG (grpL ss n size G))] w' := by
  have HP := Lib.hid (fun W (hW : Below w.heap.size w W) o k (h : o + k ≤ n) => (hp.below hW).part h)
  clear hp
  have K0 := ((Kn.nil w).al [] 147).litRow (size := 2) (n := 0) rfl (by decide)
  obtain ⟨h, hh⟩ : ∃ h, w.heap.size = h := ⟨_, rfl⟩
  rw [hh] at K0
  go_enter Try.func102, Try.ntmps102
  go_upto_region 2 with fail
  try rw [hh]
  refine Code.wp.kn K0 ?_; clear K0 hh; intro w1 K1
  have K2 : Kn w [.row (.slice (some ⟨h, 0, none⟩) 0 0) 147 2 0 (cellsG (grpL ss n size 0))] w1 := K1
  clear K1
  go_wp2_with fail
  go_loopw [5, 6] (fun oo kk wr => ∃ k f : Nat, k ≤ 16 ∧ Hid (k * size = f ∧ (k = 0 ∨ (k - 1) * size < n)) ∧ kk = .int .i64 (f : Int) ∧ f ≤ 32 ∧ Kn w [.row oo 147 2 k (cellsG (grpL ss n size k))] wr) (fun _ kk _ => 40 - (intOf kk).toNat)
  case atStart => exact ⟨0, 0, Nat.zero_le _, ⟨by simp, .inl rfl⟩, rfl, by omega, K2⟩
  case round =>
    clear K2
    obtain ⟨k, f, hk, HF, rfl, hf, KR⟩ := hrel
    by_cases hf1 : f < n
    · have i1 : (f : Int) < (n : Int) := by omega
      have i0 : (0 : Int) ≤ (f : Int) := by omega
      have f1 : IntKind.i64.wrap ((f : Int) + (size : Int)) = (f : Int) + (size : Int) := wrapI64 (by omega)
      have hkn : k < 16 := by
        have h1 := HF.out.1
        have h2 : k * 1 ≤ k * size := Nat.mul_le_mul_left _ s1
        omega
      have HF2 := Lib.hid (show (k + 1) * size = f + size ∧ (k + 1 = 0 ∨ (k + 1 - 1) * size < n) from ⟨by rw [Nat.succ_mul, HF.out.1], .inr (by rw [Nat.add_sub_cancel, HF.out.1]; exact hf1)⟩)
      obtain ⟨q, hq⟩ : ∃ q, min size (n - f) = q := ⟨_, rfl⟩
      have hq1 : 1 ≤ q ∧ f + q ≤ n := by omega
      have HS := Lib.hid (show grpL ss n size (k + 1) = grpL ss n size k ++ [foldG ((ss.drop f).take q)] by
        rw [grpL_succ]
        unfold grpK
        rw [HF.out.1, hq])
      have KJ := (fun W (hW : Below w.heap.size w W) => joined_ok g f q (c - f) ((ss.drop f).take q) W (HP.out W hW f q hq1.2) (by omega) (by omega) (by omega) (by omega))
      obtain ⟨s3, hs3⟩ : ∃ s, foldG ((ss.drop f).take q) = s := ⟨_, rfl⟩
      rw [hs3] at HS
      simp only [hs3] at KJ
      replace KJ := Lib.hid KJ
      have g1 : f < c := by omega
      have g2 : ¬ c - f = 0 := by omega
      have g4 : (f : Int) ≤ (c : Int) := by omega
      clear hs3
      by_cases hm : f + size ≤ n
      · obtain rfl : q = size := by omega
        have m1 : (f : Int) + (q : Int) ≤ (n : Int) := by omega
        have m2 : ¬ (n : Int) < (f : Int) + (q : Int) := by omega
        clear HF hq hq1
        go_wp2_with (first
          | (go_at_call 125; refine (KJ.out _ KR.below).mono ?_; rintro e w4 ⟨rfl, hw⟩; have K4 := KR.keep hw; clear hw KR)
          | (at_builtin; refine kn_app tpG rfl _ _ rfl _ k (cellsG (grpL ss n _ k)) rfl (l := [.bool s3.1, .bool s3.2]) (k := 1) rfl (K4.al [.bool s3.1, .bool s3.2] 147) rfl (by simp [Value.oneCell']) (by omega) (by omega) ?_; intro v7 w7 K7))
        go_roundw
        case rel => exact ⟨k + 1, _, by omega, HF2.out, by go_num, by omega, by rw [HS.out, cellsG_snoc]; exact K7⟩
        case measure => simp [intOf] <;> omega
      · obtain rfl : q = n - f := by omega
        have m1 : (n : Int) ≤ (f : Int) + (size : Int) := by omega
        have m2 : (n : Int) < (f : Int) + (size : Int) := by omega
        clear HF hq hq1
        go_wp2_with (first
          | (go_at_call 125; refine (KJ.out _ KR.below).mono ?_; rintro e w4 ⟨rfl, hw⟩; have K4 := KR.keep hw; clear hw KR)
          | (at_builtin; refine kn_app tpG rfl _ _ rfl _ k (cellsG (grpL ss n _ k)) rfl (l := [.bool s3.1, .bool s3.2]) (k := 1) rfl (K4.al [.bool s3.1, .bool s3.2] 147) rfl (by simp [Value.oneCell']) (by omega) (by omega) ?_; intro v7 w7 K7))
        go_roundw
        case rel => exact ⟨k + 1, _, by omega, HF2.out, by go_num, by omega, by rw [HS.out, cellsG_snoc]; exact K7⟩
        case measure => simp [intOf] <;> omega
    · have i1 : ¬ (f : Int) < (n : Int) := by omega
      have hk0 : 0 < k := by
        have h1 := HF.out.1
        rcases Nat.eq_zero_or_pos k with e | e
        · subst e; rw [Nat.zero_mul] at h1; omega
        · exact e
      have hlast : (k - 1) * size < n := by
        rcases HF.out.2 with h | h
        · omega
        · exact h
      have HG := Lib.hid (show 1 ≤ k ∧ k ≤ 16 ∧ n ≤ k * size ∧ (k - 1) * size < n from ⟨hk0, hk, by rw [HF.out.1]; omega, hlast⟩)
      clear hlast
      obtain ⟨gr, rc, hv⟩ := KR.rowForm hk0
      subst hv
      go_wp2_with fail
      go_ret
      exact ⟨k, gr, rc, rfl, HG.out, KR⟩
end Go.Proofs.Ytmmiahgmdllgdaa

namespace Go.Proofs.Ytmmiahgmdllgdaa
open Go.RowKit Go.Sort
theorem thr_sig {b : Int} {xs ys : List Int} (hb : 2 ≤ b) (hx : Digs b xs) (hy : Digs b ys) (k : Nat) : thrG (sigK b xs ys k) (carK b xs ys k) = carK b xs ys (k + 1) := by
  have h1 := hx.at hb k
  have h2 := hy.at hb k
  have h3 := carK_bd hb hx hy k
  show _ = (xs.getD k 0 + ys.getD k 0 + carK b xs ys k) / b
  unfold thrG sigK
  obtain ⟨c, hc⟩ : ∃ c, carK b xs ys k = c := ⟨_, rfl⟩
  obtain ⟨t, ht⟩ : ∃ t, xs.getD k 0 + ys.getD k 0 = t := ⟨_, rfl⟩
  rw [hc] at h3
  rw [hc, ht]
  have hq := qstep b t c (by omega) (by omega)
  rw [hq]
  dsimp only
  by_cases hA : b ≤ t
  · rw [if_pos (by simp [hA]), if_neg (by omega)]
  · by_cases hB : t = b - 1 ∧ c = 1
    · rw [if_pos (by simp [hB.1, hB.2]), if_neg (by omega)]
    · have hB' : ((t == b - 1) && (c == 1)) = false := by
        rw [Bool.and_eq_false_iff]
        by_cases e : t = b - 1
        · exact .inr (by simp; intro e2; exact hB ⟨e, e2⟩)
        · exact .inl (by simp [e])
      rw [if_neg (by simp [hA]; intro e1 e2; exact hB ⟨e1, e2⟩), if_pos (by omega)]
theorem fold_sig {b : Int} {xs ys : List Int} (hb : 2 ≤ b) (hx : Digs b xs) (hy : Digs b ys) (n o : Nat) : ∀ q, o + q ≤ n → (((sigL b xs ys n).drop o).take q).foldl (fun c s => thrG s c) (carK b xs ys o) = carK b xs ys (o + q)
  | 0, _ => by simp
  | q + 1, h => by
    have hl : q < ((sigL b xs ys n).drop o).length := by rw [List.length_drop, sigL_len]; omega
    rw [List.take_succ_eq_append_getElem hl, List.foldl_append, fold_sig hb hx hy n o q (by omega)]
    have e : ((sigL b xs ys n).drop o)[q] = sigK b xs ys (o + q) := by simp [sigL]
    rw [e]
    exact thr_sig hb hx hy (o + q)
def entK (b : Int) (xs ys : List Int) (n size i : Nat) : Int := carK b xs ys (min (i * size) n)
def entL (b : Int) (xs ys : List Int) (n size k : Nat) : List Int := (List.range k).map (entK b xs ys n size)
theorem entL_len (b : Int) (xs ys : List Int) (n size k : Nat) : (entL b xs ys n size k).length = k := by simp [entL]
theorem entL_succ (b : Int) (xs ys : List Int) (n size k : Nat) : entL b xs ys n size (k + 1) = entL b xs ys n size k ++ [entK b xs ys n size k] := by unfold entL; rw [List.range_succ, List.map_append]; rfl
theorem entL_at (b : Int) (xs ys : List Int) (n size : Nat) {k i : Nat} (h : i < k) : ((entL b xs ys n size k).map (Value.int .i64))[i]? = some (.int .i64 (entK b xs ys n size i)) := by simp [entL, h]
theorem ent_step {b : Int} {xs ys : List Int} (hb : 2 ≤ b) (hx : Digs b xs) (hy : Digs b ys) {n size k : Nat} (s1 : 1 ≤ size) (hk : k * size < n) : thrG (grpK (sigL b xs ys n) n size k) (entK b xs ys n size k) = entK b xs ys n size (k + 1) := by
  obtain ⟨q, hq⟩ : ∃ q, min size (n - k * size) = q := ⟨_, rfl⟩
  have h1 := fold_sig hb hx hy n (k * size) q (by omega)
  have hl : (((sigL b xs ys n).drop (k * size)).take q).length = q := by rw [List.length_take, List.length_drop, sigL_len]; omega
  unfold grpK entK
  rw [hq, show min (k * size) n = k * size by omega, show min ((k + 1) * size) n = k * size + q by rw [Nat.succ_mul]; omega, ← h1]
  cases hc : ((sigL b xs ys n).drop (k * size)).take q with
  | nil => rw [hc] at hl; simp at hl; omega
  | cons s r =>
    unfold foldG
    rw [List.tail_cons, List.headD_cons, foldG_thr]
    rfl
set_option maxRecDepth 100000 in
set_option maxHeartbeats 6400000 in
theorem carriesAhead_ok (b : Int) (g n c size : Nat) (xs ys : List Int) (w : World) (b1 : 2 ≤ b) (n0 : 0 < n) (n16 : n ≤ 16) (s1 : 1 ≤ size) (s16 : size ≤ 16) (hc : n ≤ c) (hc2 : c ≤ 9223372036854775807) (hdx : Digs b xs) (hdy : Digs b ys) (hp : SgAt w g 0 n (sigL b xs ys n)) :
    Calls Try.prog 47 #[.slice (some ⟨g, 0, none⟩) n c, .int .i64 (size : Int)] w fun e w' => ∃ E ec, e = .returned (.slice E (n + 1) ec) ∧ Kn w [.row (.slice E (n + 1) ec) 2 1 (n + 1) ((carL b xs ys (n + 1)).map (Value.int .i64))] w' := by
  have KG := Lib.hid (fun W (hW : Below w.heap.size w W) => groups_ok g n c size (sigL b xs ys n) W n0 n16 s1 s16 hc hc2 (hp.below hW))
  have HP := Lib.hid (fun W (hW : Below w.heap.size w W) => hp.below hW)
  have HCB := Lib.hid (fun k => carK_bd b1 hdx hdy k)
  have HST := Lib.hid (fun k (h : k * size < n) => ent_step b1 hdx hdy (n := n) s1 h)
  have HTS := Lib.hid (fun k => thr_sig b1 hdx hdy k)
  clear hp hdx hdy
  obtain ⟨h, hh⟩ : ∃ h, w.heap.size = h := ⟨_, rfl⟩
  have K0 := ((Kn.nil w).al [.int .i64 0] 2).litRow (size := 1) (n := 1) rfl (by decide)
  rw [hh] at K0
  go_enter Try.func47, Try.ntmps47
  go_upto_region 2 with fail
  try rw [hh]
  refine Code.wp.kn K0 ?_; clear K0 hh; intro w1 K1
  have e0 : entL b xs ys n size 1 = [0] := by
    show [carK b xs ys (min (0 * size) n)] = [0]
    rw [show min (0 * size) n = 0 by rw [Nat.zero_mul]; omega]
    rfl
  have K2 : Kn w [.row (.slice (some ⟨h, 0, none⟩) 1 1) 2 1 (entL b xs ys n size 1).length ((entL b xs ys n size 1).map (Value.int .i64))] w1 := by rw [e0]; exact K1
  clear K1 e0
  go_wp2_with (go_at_call 102; refine (KG.out _ K2.below).mono ?_; rintro e w2 ⟨G, gr, rc, rfl, hG, hK⟩; have K3 := K2.join hK; clear hK K2)
  obtain ⟨g1, g2, g3, g4⟩ := hG
  have K4 : Kn w [.row (.slice (some ⟨h, 0, none⟩) 1 1) 2 1 (entL b xs ys n size (0 + 1)).length ((entL b xs ys n size (0 + 1)).map (Value.int .i64)), .row (.slice (some ⟨gr, 0, none⟩) G rc) 147 2 G (cellsG (grpL (sigL b xs ys n) n size G))] w2 := K3.sel [1, 0] 99 (by decide) (by decide)
  clear K3 KG
  have HGL := Lib.hid (show ∀ k, k < G → k * size < n from fun k hk => Nat.lt_of_le_of_lt (Nat.mul_le_mul_right _ (by omega)) g4)
  have HEL := Lib.hid (show entK b xs ys n size G = carK b xs ys n by unfold entK; rw [Nat.min_eq_right g3])
  have HG3 := Lib.hid g3
  clear g3 g4
  go_loopw [5, 17] (fun oo kk wr => ∃ k : Nat, k ≤ G ∧ kk = .int .i64 (k : Int) ∧ Kn w [.row oo 2 1 (entL b xs ys n size (k + 1)).length ((entL b xs ys n size (k + 1)).map (Value.int .i64)), .row (.slice (some ⟨gr, 0, none⟩) G rc) 147 2 G (cellsG (grpL (sigL b xs ys n) n size G))] wr) (fun _ kk _ => G - (intOf kk).toNat)
  case atStart => exact ⟨0, by omega, rfl, K4⟩
  case round =>
    clear K4
    obtain ⟨k, hk, rfl, KR⟩ := hrel
    by_cases hk1 : k < G
    · have i1 : (k : Int) < (G : Int) := by omega
      have i0 : (0 : Int) ≤ (k : Int) := by omega
      obtain ⟨ge, ce, hv⟩ := KR.rowForm (by rw [entL_len]; omega)
      subst hv
      have i3 : (k : Int) < ((entL b xs ys n size (k + 1)).length : Int) := by rw [entL_len]; omega
      obtain ⟨h1, h2⟩ := ((KR.front 1 rfl).sgAt0 (by rw [grpL_len])).2.2 k (by rw [grpL_len]; exact hk1)
      have hgk : (grpL (sigL b xs ys n) n size G)[k]'(by rw [grpL_len]; exact hk1) = grpK (sigL b xs ys n) n size k := by simp [grpL]
      rw [hgk, Nat.zero_add] at h1 h2
      have HE := Lib.hid (entL_at b xs ys n size (show k < k + 1 by omega))
      have HT := HST.out k (HGL.out k hk1)
      have hbd : entK b xs ys n size k = 0 ∨ entK b xs ys n size k = 1 := by unfold entK; have := HCB.out (min (k * size) n); omega
      have HS := Lib.hid (entL_succ b xs ys n size (k + 1))
      have HL := Lib.hid (show (entL b xs ys n size (k + 1)).length ≤ 10000000 by rw [entL_len]; omega)
      obtain ⟨s, hs⟩ : ∃ s, grpK (sigL b xs ys n) n size k = s := ⟨_, rfl⟩
      obtain ⟨v, hv⟩ : ∃ s, entK b xs ys n size k = s := ⟨_, rfl⟩
      obtain ⟨d, hd⟩ : ∃ s, entK b xs ys n size (k + 1) = s := ⟨_, rfl⟩
      obtain ⟨ts, hts⟩ : ∃ t, entL b xs ys n size (k + 1) = t := ⟨_, rfl⟩
      rw [hs] at h1 h2 HT
      rw [hv] at HE HT hbd
      rw [hd] at HS HT
      rw [hts] at HE HS HL i3 KR
      try rw [hts]
      have KT := (fun W => through_any s v W hbd)
      rw [HT] at KT
      replace KT := Lib.hid KT
      have K5 := KR.al [.bool s.1, .bool s.2] 147
      obtain ⟨gb, hg⟩ : ∃ h, wr.heap.size = h := ⟨_, rfl⟩
      rw [hg] at K5
      clear hs hv hd hts hgk HT hbd
      go_upto_region 5 with fail
      try rw [hg]
      refine Code.wp.kn K5 ?_; clear KR K5 hg h1 h2; intro w5 K5
      go_upto_region 5 with fail
      have hKd := K5.drew
      refine wp_region_held_drew (S := fun _ => True) (by kernel_rfl) trivial (fun hHeld => ?_)
      try dsimp only
      generalize w5.drew = wd' at hKd hHeld ⊢
      clear K5
      refine wpAnyH_take (i := 0) (v := ?_) rfl (by kernel_rfl) (by kernel_rfl) (by kernel_rfl) (fun _ _ _ h => h) (Or.inl ⟨by rfl, ?_⟩) hHeld ?_
      rotate_left
      · (intro w hSw; (try dsimp only at hSw); go_simp; try with_reducible rfl)
      try simp only [Act.put, List.setIfInBounds_toArray, List.set_cons_zero, List.set_cons_succ, List.getElem_toArray, List.getElem_cons_succ, List.getElem_cons_zero]
      refine wpAnyH_take (i := 2) (v := ?_) rfl (by kernel_rfl) (by kernel_rfl) (by kernel_rfl) (fun _ _ _ h => h) (Or.inl ⟨by rfl, ?_⟩) hHeld ?_
      rotate_left
      · (intro w hSw; (try dsimp only at hSw); go_simp; try with_reducible rfl)
      try simp only [Act.put, List.setIfInBounds_toArray, List.set_cons_zero, List.set_cons_succ, List.getElem_toArray, List.getElem_cons_succ, List.getElem_cons_zero]
      refine wpAnyH_take (i := 3) (v := ?_) rfl (by kernel_rfl) (by kernel_rfl) (by kernel_rfl) (fun _ _ _ h => h) (Or.inl ⟨by rfl, ?_⟩) hHeld ?_
      rotate_left
      · (intro w hSw; (try dsimp only at hSw); go_simp; try with_reducible rfl)
      try simp only [Act.put, List.setIfInBounds_toArray, List.set_cons_zero, List.set_cons_succ, List.getElem_toArray, List.getElem_cons_succ, List.getElem_cons_zero]
      refine wpAnyH_take (i := 4) (v := ?_) rfl (by kernel_rfl) (by kernel_rfl) (by kernel_rfl) (fun _ _ _ h => h) (Or.inl ⟨by rfl, ?_⟩) hHeld ?_
      rotate_left
      · (intro w hSw; (try dsimp only at hSw); go_simp; try with_reducible rfl)
      try simp only [Act.put, List.setIfInBounds_toArray, List.set_cons_zero, List.set_cons_succ, List.getElem_toArray, List.getElem_cons_succ, List.getElem_cons_zero]
      refine wpAnyH_ready (rs := [1, 5]) (by kernel_rfl) (by decide) (AllReadyH.cons (o := _) rfl (fun K hK' => ?_) (AllReadyH.cons (o := _) rfl (fun K hK' => ?_) AllReadyH.nil))
      · skip
        obtain ⟨o1, o2, o3, -⟩ := (hKd.front 0 rfl).cells
        go_simp
        clear o1 o2 o3
        have KO1 := hKd
        have HG := Lib.hid (trivial)
        refine hK'.out _ _ HG.out (fun hHeld2 => ?_)
        clear hK' hHeld
        have hHeld := hHeld2
        clear hHeld2
        try simp only [Act.put, List.setIfInBounds_toArray]
        refine wpAnyH_ready (rs := [5]) (by kernel_rfl) (by decide) (AllReadyH.cons (o := _) rfl (fun K hK' => ?_) AllReadyH.nil)
        have o1 := (Kn.rowCell (KO1.front 1 rfl) HE.out).1
        go_simp
        clear o1
        have KO2 := KO1
        have HG := Lib.hid (trivial)
        refine hK'.out _ _ HG.out (fun hHeld2 => ?_)
        clear hK' hHeld
        have hHeld := hHeld2
        clear hHeld2
        try simp only [Act.put, List.setIfInBounds_toArray]
        refine wpAnyH_ready (rs := [6]) (by kernel_rfl) (by decide) (AllReadyH.cons (o := _) rfl (fun K hK' => ?_) AllReadyH.nil)
        go_simp
        go_at_call 103
        refine (KT.out _).mono ?_
        rintro e wo3 ⟨rfl, hw⟩
        have KO3 := KO2.keep hw
        clear hw
        have HG := Lib.hid (trivial)
        refine hK'.out _ _ HG.out (fun hHeld2 => ?_)
        clear hK' hHeld
        have hHeld := hHeld2
        clear hHeld2
        try simp only [Act.put, List.setIfInBounds_toArray]
        refine wpAnyH_ready (rs := [7]) (by kernel_rfl) (by decide) (AllReadyH.cons (o := _) rfl (fun K hK' => ?_) AllReadyH.nil)
        go_simp
        have KO4 := KO3.al [.int .i64 d] 2
        have HG := Lib.hid (trivial)
        refine hK'.out _ _ HG.out (fun hHeld2 => ?_)
        clear hK' hHeld
        have hHeld := hHeld2
        clear hHeld2
        try simp only [Act.put, List.setIfInBounds_toArray]
        generalize wo3.alloc (.cells #[.int .i64 d] 2) = wo4 at KO4 hHeld ⊢
        obtain ⟨gl4, hgl4⟩ : ∃ g, wo3.heap.size = g := ⟨_, rfl⟩
        rw [hgl4] at KO4 ⊢
        clear hgl4
        refine wpAnyH_ready (rs := [8]) (by kernel_rfl) (by decide) (AllReadyH.cons (o := _) rfl (fun K hK' => ?_) AllReadyH.nil)
        refine kn_stepI (by rfl) _ _ (by rfl) _ ts (by rfl) (by rfl) (KO4.sel [0, 2, 1, 3] 99 (by decide) (by decide)) HL.out ?_
        intro v' wo5 hK7
        rw [← HS.out] at hK7
        obtain ⟨A5, c5, rfl⟩ := row_form hK7.at0
        have KO5 := hK7
        clear hK7
        have HG := Lib.hid (trivial)
        refine hK'.out _ _ HG.out (fun hHeld2 => ?_)
        clear hK' hHeld
        have hHeld := hHeld2
        clear hHeld2
        try simp only [Act.put, List.setIfInBounds_toArray]
        refine wpAnyH_take (i := 9) (v := ?_) rfl (by kernel_rfl) (by kernel_rfl) (by kernel_rfl) (fun _ _ _ h => h) (Or.inl ⟨by rfl, ?_⟩) hHeld ?_
        rotate_left
        · (intro w hSw; (try dsimp only at hSw); go_simp; try with_reducible rfl)
        try simp only [Act.put, List.setIfInBounds_toArray, List.set_cons_zero, List.set_cons_succ, List.getElem_toArray, List.getElem_cons_succ, List.getElem_cons_zero]
        refine wpAnyH_done (by kernel_rfl) ?_ _
        go_wp2_with fail
        go_roundw
        case rel => exact ⟨k + 1, by omega, by go_num, (KO5.sel [0, 2] 99 (by decide) (by decide))⟩
        case measure => simp [intOf] <;> omega
      · skip
        have o1 := (Kn.rowCell (hKd.front 1 rfl) HE.out).1
        go_simp
        clear o1
        have KO6 := hKd
        have HG := Lib.hid (trivial)
        refine hK'.out _ _ HG.out (fun hHeld2 => ?_)
        clear hK' hHeld
        have hHeld := hHeld2
        clear hHeld2
        try simp only [Act.put, List.setIfInBounds_toArray]
        refine wpAnyH_ready (rs := [1]) (by kernel_rfl) (by decide) (AllReadyH.cons (o := _) rfl (fun K hK' => ?_) AllReadyH.nil)
        obtain ⟨o1, o2, o3, -⟩ := (KO6.front 0 rfl).cells
        go_simp
        clear o1 o2 o3
        have KO7 := KO6
        have HG := Lib.hid (trivial)
        refine hK'.out _ _ HG.out (fun hHeld2 => ?_)
        clear hK' hHeld
        have hHeld := hHeld2
        clear hHeld2
        try simp only [Act.put, List.setIfInBounds_toArray]
        refine wpAnyH_ready (rs := [6]) (by kernel_rfl) (by decide) (AllReadyH.cons (o := _) rfl (fun K hK' => ?_) AllReadyH.nil)
        go_simp
        go_at_call 103
        refine (KT.out _).mono ?_
        rintro e wo8 ⟨rfl, hw⟩
        have KO8 := KO7.keep hw
        clear hw
        have HG := Lib.hid (trivial)
        refine hK'.out _ _ HG.out (fun hHeld2 => ?_)
        clear hK' hHeld
        have hHeld := hHeld2
        clear hHeld2
        try simp only [Act.put, List.setIfInBounds_toArray]
        refine wpAnyH_ready (rs := [7]) (by kernel_rfl) (by decide) (AllReadyH.cons (o := _) rfl (fun K hK' => ?_) AllReadyH.nil)
        go_simp
        have KO9 := KO8.al [.int .i64 d] 2
        have HG := Lib.hid (trivial)
        refine hK'.out _ _ HG.out (fun hHeld2 => ?_)
        clear hK' hHeld
        have hHeld := hHeld2
        clear hHeld2
        try simp only [Act.put, List.setIfInBounds_toArray]
        generalize wo8.alloc (.cells #[.int .i64 d] 2) = wo9 at KO9 hHeld ⊢
        obtain ⟨gl9, hgl9⟩ : ∃ g, wo8.heap.size = g := ⟨_, rfl⟩
        rw [hgl9] at KO9 ⊢
        clear hgl9
        refine wpAnyH_ready (rs := [8]) (by kernel_rfl) (by decide) (AllReadyH.cons (o := _) rfl (fun K hK' => ?_) AllReadyH.nil)
        refine kn_stepI (by rfl) _ _ (by rfl) _ ts (by rfl) (by rfl) (KO9.sel [0, 2, 1, 3] 99 (by decide) (by decide)) HL.out ?_
        intro v' wo10 hK7
        rw [← HS.out] at hK7
        obtain ⟨A10, c10, rfl⟩ := row_form hK7.at0
        have KO10 := hK7
        clear hK7
        have HG := Lib.hid (trivial)
        refine hK'.out _ _ HG.out (fun hHeld2 => ?_)
        clear hK' hHeld
        have hHeld := hHeld2
        clear hHeld2
        try simp only [Act.put, List.setIfInBounds_toArray]
        refine wpAnyH_take (i := 9) (v := ?_) rfl (by kernel_rfl) (by kernel_rfl) (by kernel_rfl) (fun _ _ _ h => h) (Or.inl ⟨by rfl, ?_⟩) hHeld ?_
        rotate_left
        · (intro w hSw; (try dsimp only at hSw); go_simp; try with_reducible rfl)
        try simp only [Act.put, List.setIfInBounds_toArray, List.set_cons_zero, List.set_cons_succ, List.getElem_toArray, List.getElem_cons_succ, List.getElem_cons_zero]
        refine wpAnyH_done (by kernel_rfl) ?_ _
        go_wp2_with fail
        go_roundw
        case rel => exact ⟨k + 1, by omega, by go_num, (KO10.sel [0, 2] 99 (by decide) (by decide))⟩
        case measure => simp [intOf] <;> omega
    · have i1 : ¬ (k : Int) < (G : Int) := by omega
      obtain rfl : k = G := by omega
      obtain ⟨ge, ce, hv⟩ := KR.rowForm (by rw [entL_len]; omega)
      subst hv
      rw [entL_len] at KR
      try rw [entL_len]
      go_upto_region 7 with fail
      have K5 := (KR.al [] 2).litRow (size := 1) (n := 0) rfl (by decide)
      obtain ⟨gc, hg⟩ : ∃ h, wr.heap.size = h := ⟨_, rfl⟩
      rw [hg] at K5
      go_upto_region 8 with fail
      try rw [hg]
      refine Code.wp.kn K5 ?_; clear KR K5 hg; intro w5 K5
      have K6 : Kn w [.row (.slice (some ⟨gc, 0, none⟩) 0 0) 2 1 (carL b xs ys 0).length ((carL b xs ys 0).map (Value.int .i64)), .row (.slice (some ⟨ge, 0, none⟩) (k + 1) ce) 2 1 (k + 1) ((entL b xs ys n size (k + 1)).map (Value.int .i64))] w5 := K5.sel [0, 1] 99 (by decide) (by decide)
      clear K5
      go_wp2_with fail
      go_loopw [8, 9, 35] (fun oo cc kk wr => ∃ i : Nat, i ≤ n ∧ kk = .int .i64 (i : Int) ∧ cc = .int .i64 (carK b xs ys i) ∧ Kn w [.row oo 2 1 (carL b xs ys i).length ((carL b xs ys i).map (Value.int .i64)), .row (.slice (some ⟨ge, 0, none⟩) (k + 1) ce) 2 1 (k + 1) ((entL b xs ys n size (k + 1)).map (Value.int .i64))] wr) (fun _ _ kk _ => n - (intOf kk).toNat)
      case atStart => exact ⟨0, by omega, rfl, rfl, K6⟩
      case round =>
        clear K6
        obtain ⟨i, hi, rfl, rfl, KR⟩ := hrel
        by_cases hi1 : i < n
        · have i1 : (i : Int) < (n : Int) := by omega
          have i0 : (0 : Int) ≤ (i : Int) := by omega
          obtain ⟨h1, h2⟩ := (HP.out _ KR.below).2.2 i (by rw [sigL_len]; exact hi1)
          have hgi : (sigL b xs ys n)[i]'(by rw [sigL_len]; exact hi1) = sigK b xs ys i := by simp [sigL]
          rw [hgi, Nat.zero_add] at h1 h2
          have HT := HTS.out i
          have hbd : carK b xs ys i = 0 ∨ carK b xs ys i = 1 := by have := HCB.out i; omega
          have HS := Lib.hid (carL_succ b xs ys i)
          have HL := Lib.hid (show (carL b xs ys i).length ≤ 10000000 by rw [carL_len]; omega)
          have hqk : i / size < k + 1 := by
            have h1 : i / size * size ≤ i := Nat.div_mul_le_self i size
            have h2 := HG3.out
            rcases Nat.lt_or_ge (i / size) (k + 1) with h | h
            · exact h
            · have : (k + 1) * size ≤ i / size * size := Nat.mul_le_mul_right _ h
              rw [Nat.succ_mul] at this
              omega
          have HE := entL_at b xs ys n size hqk
          have hent : i % size = 0 → entK b xs ys n size (i / size) = carK b xs ys i := fun h => by
            unfold entK
            rw [Nat.div_mul_cancel (Nat.dvd_of_mod_eq_zero h), show min i n = i by omega]
          have r1 : (i : Int).tmod (size : Int) = ((i % size : Nat) : Int) := rfl
          have r2 : (i : Int).tdiv (size : Int) = ((i / size : Nat) : Int) := rfl
          have rm : i % size < size := Nat.mod_lt _ s1
          obtain ⟨s, hs⟩ : ∃ s, sigK b xs ys i = s := ⟨_, rfl⟩
          obtain ⟨v, hv⟩ : ∃ s, carK b xs ys i = s := ⟨_, rfl⟩
          obtain ⟨d, hd⟩ : ∃ s, carK b xs ys (i + 1) = s := ⟨_, rfl⟩
          obtain ⟨ts, hts⟩ : ∃ t, carL b xs ys i = t := ⟨_, rfl⟩
          obtain ⟨m, hm⟩ : ∃ m, i % size = m := ⟨_, rfl⟩
          obtain ⟨q, hq⟩ : ∃ m, i / size = m := ⟨_, rfl⟩
          have HD := Lib.hid hd
          rw [hm] at r1 hent rm
          rw [hq] at r2 hqk hent HE
          rw [hs] at h1 h2 HT
          rw [hv] at HT hbd HS hent
          rw [hd] at HT
          rw [hts] at HS HL KR
          try rw [hv]
          have KT := (fun W => through_any s v W hbd)
          rw [HT] at KT
          replace KT := Lib.hid KT
          have f1 : IntKind.i64.wrap (m : Int) = (m : Int) := wrapI64 (by omega)
          have f2 : IntKind.i64.wrap (q : Int) = (q : Int) := wrapI64 (by omega)
          have f3 : ¬ (size : Int) = 0 := by omega
          have f4 : (q : Int) < ((k : Int) + 1) := by omega
          have f5 : (0 : Int) ≤ (q : Int) := by omega
          have K5 := KR.al [.bool s.1, .bool s.2] 147
          obtain ⟨gb, hg⟩ : ∃ h, wr.heap.size = h := ⟨_, rfl⟩
          rw [hg] at K5
          clear hs hv hd hts hgi HT hbd
          go_upto_region 12 with fail
          try rw [hg]
          refine Code.wp.kn K5 ?_; clear KR K5 hg h1 h2; intro w5 K5
          by_cases hm0 : m = 0
          · subst hm0
            have hen := hent rfl
            rw [hen] at HE
            have c1 := (Kn.rowCell (K5.front 2 rfl) HE).1
            obtain ⟨z1, z2, z3, -⟩ := K5.cells
            clear hent hen
            go_wp2_with (first
              | (go_at_call 103; refine (KT.out _).mono ?_; rintro e w8 ⟨rfl, hw⟩; have K8 := K7.keep hw; clear hw K7 z1 z2 z3)
              | (at_builtin; refine kn_pushI rfl _ _ rfl _ ts rfl rfl ((K5.sel [1, 0, 2] 99 (by decide) (by decide)).al [.int .i64 v] 2) HL.out ?_; intro v' w' K7; rw [← HS.out] at K7; clear z1 z2 z3; obtain ⟨z1, z2, z3, -⟩ := (K7.front 1 rfl).cells))
            go_roundw
            case rel => exact ⟨i + 1, by omega, by go_num, by rw [HD.out], K8.sel [0, 2] 99 (by decide) (by decide)⟩
            case measure => simp [intOf] <;> omega
          · have hm1 : ¬ (m : Int) = 0 := by omega
            obtain ⟨z1, z2, z3, -⟩ := K5.cells
            clear hent HE
            go_wp2_with (first
              | (go_at_call 103; refine (KT.out _).mono ?_; rintro e w8 ⟨rfl, hw⟩; have K8 := K7.keep hw; clear hw K7 z1 z2 z3)
              | (at_builtin; refine kn_pushI rfl _ _ rfl _ ts rfl rfl ((K5.sel [1, 0, 2] 99 (by decide) (by decide)).al [.int .i64 v] 2) HL.out ?_; intro v' w' K7; rw [← HS.out] at K7; clear z1 z2 z3; obtain ⟨z1, z2, z3, -⟩ := (K7.front 1 rfl).cells))
            go_roundw
            case rel => exact ⟨i + 1, by omega, by go_num, by rw [HD.out], K8.sel [0, 2] 99 (by decide) (by decide)⟩
            case measure => simp [intOf] <;> omega
        · have i1 : ¬ (i : Int) < (n : Int) := by omega
          obtain rfl : i = n := by omega
          have HE := entL_at b xs ys i size (show k < k + 1 by omega)
          rw [HEL.out] at HE
          have c1 := (Kn.rowCell (KR.front 1 rfl) HE).1
          have HS := Lib.hid (carL_succ b xs ys i)
          have HL := Lib.hid (show (carL b xs ys i).length ≤ 10000000 by rw [carL_len]; omega)
          have HL2 := Lib.hid (carL_len b xs ys (i + 1))
          obtain ⟨v, hv⟩ : ∃ s, carK b xs ys i = s := ⟨_, rfl⟩
          obtain ⟨ts, hts⟩ : ∃ t, carL b xs ys i = t := ⟨_, rfl⟩
          rw [hv] at c1 HS
          rw [hts] at HS HL KR
          try rw [hv]
          clear hts HE HEL hv
          have f1 : IntKind.i64.wrap ((k : Int) + 1 - 1) = (k : Int) := by rw [Int.add_sub_cancel]; exact wrapI64 (by omega)
          have f2 : (k : Int) < (k : Int) + 1 := by omega
          have f3 : (0 : Int) ≤ (k : Int) := by omega
          go_wp2_with (at_builtin; refine kn_pushI rfl _ _ rfl _ ts rfl rfl (KR.al [.int .i64 v] 2) HL.out ?_; intro v' w' K7; rw [← HS.out] at K7; obtain ⟨E, ec, rfl⟩ := row_form K7.at0; rw [HL2.out] at K7; try rw [HL2.out])
          go_ret
          exact ⟨_, _, rfl, K7.sel [0] 99 (by decide) (by decide)⟩
end Go.Proofs.Ytmmiahgmdllgdaa
