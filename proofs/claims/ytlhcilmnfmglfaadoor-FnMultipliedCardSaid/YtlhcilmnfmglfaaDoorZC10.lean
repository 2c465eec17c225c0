/- Part 10: lemmas and contracts of the claim's functions. -/
import Derived.Test.YtlhcilmnfmglfaaDoorZC1
import Derived.Test.YtlhcilmnfmglfaaDoorZC2
import Derived.Test.YtlhcilmnfmglfaaDoorZC3
import Derived.Test.YtlhcilmnfmglfaaDoorZC4
import Derived.Test.YtlhcilmnfmglfaaDoorZC5
import Derived.Test.YtlhcilmnfmglfaaDoorZC6
import Derived.Test.YtlhcilmnfmglfaaDoorZC7
import Derived.Test.YtlhcilmnfmglfaaDoorZC8
import Derived.Test.YtlhcilmnfmglfaaDoorZC9
import Derived.Test.YtlhcilmnfmglfaaDoorTie
import Derived.Test.YtlhcilmnfmglfaaDoorCards
import Derived.Deep.DeepHandedRow
import Derived.Lib.LaidTab
import Derived.ProofKit
import Derived.Carry
namespace Go.Proofs.YtlhcilmnfmglfaaDoor
open Go.RowKit Go.Sort
theorem base_mem7 {b : Int} (h : b ∈ [(10 : Int), 10, 2, 3, 8, 12, 16]) : 2 ≤ b ∧ b ≤ 16 := by
  have H : ∀ b ∈ [(10 : Int), 10, 2, 3, 8, 12, 16], 2 ≤ b ∧ b ≤ 16 := by decide
  exact H b h
/-- drawn turns -/
def DTur (b M : Nat) (w : World) (e : Ending) (w' : World) : Prop := ∃ (bs : Int) (A : Option Addr) (c : Nat) (ts : List Int), e = .returned (.agg #[.int .i64 bs, .slice A ts.length c]) ∧ vtur bs ts = true ∧ DR b M w [rowI A c ts] w'
set_option maxRecDepth 100000 in
set_option maxHeartbeats 6400000 in
theorem l13Draw_dr (b N : Nat) (w : World) (h : Src w b N) (hN : N ≤ 700000) :
    Calls Tryd.prog 78 #[.pointer (some ⟨b, 0, none⟩)] w (DTur b (N + 100) w) := by
  unfold DTur
  have D0 := DR.nil h
  clear h
  obtain ⟨g2, hg2⟩ : ∃ g, w.heap.size = g := ⟨_, rfl⟩
  go_enter Tryd.func78, Tryd.ntmps78
  go_wp2_with fail
  refine Calls.dr ((D0.al [.int .i64 0, .slice none 0 0] 27).al [.int .i64 10, .int .i64 10, .int .i64 2, .int .i64 3, .int .i64 8, .int .i64 12, .int .i64 16] 2) ?_; intro w1 D1
  simp only [World.size_alloc, hg2] at D1
  obtain ⟨hr, hA⟩ := DR.lit (ds := [10, 10, 2, 3, 8, 12, 16]) D1 (by decide)
  try rw [hg2]
  refine (among_dr b _ _ 7 7 _ w1 D1.src (by omega) hr hA (by omega) (by omega)).mono ?_; rintro e w2 ⟨bs, rfl, hx, h2⟩
  obtain ⟨b1, b2⟩ := base_mem7 hx
  have D2 := (D1.add h2).sel [1] 99 (by decide) (by decide)
  clear D0 D1 h2 hr hA hx
  go_wp2_with fail
  refine (one_dr b _ 2 w2 D2.src (by omega)).mono ?_; rintro e w3 ⟨y, rfl, h3⟩
  have D3 := D2.add h3
  clear D2 h3
  rcases y with _ | _
  rotate_left
  · go_wp2_with fail
    refine (pick_dr b _ 100000 w3 D3.src (by omega)).mono ?_; rintro e w4 ⟨x, rfl, hx, h4⟩
    have D4 := D3.add h4
    clear D3 h4
    have hv := turnL_vtur b1 b2 (n := x) (by omega) (by omega)
    have KF := (fun W => l13Few_any bs x W b1 b2 (by omega) (by omega))
    obtain ⟨L, hL⟩ : ∃ L, turnL true bs x = L := ⟨_, rfl⟩
    rw [hL] at hv
    simp only [hL] at KF
    replace KF := Lib.hid KF
    have HV := Lib.hid hv.1
    clear hL hv hx
    go_wp2_with (go_at_call 61; (refine (KF.out _).mono ?_); rintro e w5 ⟨A, c, rfl, hK⟩; have D5 := D4.kn (fun v hv => hv.join hK); clear hK; obtain ⟨a1, a2, a3, -⟩ := (D5.front 1 rfl).cells)
    refine bodyPost.dr (((D5.front 1 rfl).st 0 (.int .i64 bs)).st 1 (.slice A L.length c)) ?_; intro w6 D6
    clear a1 a2 a3
    obtain ⟨a1, a2, a3, -⟩ := D6.cells
    refine bodyPost_ret (v := .agg #[.int .i64 bs, .slice A L.length c]) (by simp [results, Tryd.results78, go_sem, a1]) rfl ⟨bs, A, c, L, rfl, HV.out, ?_⟩
    exact (D6.sel [1] 99 (by decide) (by decide)).mono (by omega)
  · obtain ⟨g4, hg4⟩ : ∃ g, w3.heap.size + 1 = g := ⟨_, rfl⟩
    have D4 := (D3.al [] 2).al [.int .i64 bs, .slice (some ⟨w3.heap.size, 0, none⟩) 0 0] 27
    simp only [World.size_alloc, hg4] at D4
    go_upto_region 5 with fail
    try rw [hg4]
    refine Code.wp.dr D4 ?_; clear D4 D3 hg4; intro w4 D4
    have D5 : DR b _ w [.row (.slice (some ⟨w3.heap.size, 0, none⟩) 0 0) 2 1 ([] : List Int).length (([] : List Int).map (Value.int .i64)), .blk g4 [.int .i64 bs, .slice (some ⟨w3.heap.size, 0, none⟩) 0 0] 27, .blk g2 [.int .i64 0, .slice none 0 0] 27] w4 := (D4.sel [1, 0, 2] 99 (by decide) (by decide)).kn (fun v hv => hv.litRow (size := 1) (n := 0) rfl (by decide))
    clear D4
    go_wp2_with fail
    refine (pick_dr b _ 6 w4 D5.src (by omega)).mono ?_; rintro e w6 ⟨y, rfl, hy, h6⟩
    have D6 := D5.add h6
    obtain ⟨k0, rfl, hk0⟩ : ∃ q : Nat, y = q ∧ q ≤ 5 := ⟨y.toNat, by omega, by omega⟩
    clear D5 h6 hy
    go_wp2_with fail
    go_loopw [5] (fun kk wr => ∃ (k : Nat) (ts : List Int) (vv : Value), k ≤ 5 ∧ kk = .int .i64 (k : Int) ∧ ts.length + k ≤ 5 ∧ Hid (∀ t ∈ ts, -4 ≤ t ∧ t ≤ 4) ∧ DR b (N + 60 - 2 * k) w [.row vv 2 1 ts.length (ts.map (Value.int .i64)), .blk g4 [.int .i64 bs, vv] 27, .blk g2 [.int .i64 0, .slice none 0 0] 27] wr) (fun kk _ => (intOf kk).toNat)
    case atStart => exact ⟨k0, [], _, hk0, rfl, by simp; omega, Lib.hid (fun t h => nomatch h), D6.mono (by omega)⟩
    case round =>
      clear D6 hk0
      obtain ⟨k, ts, vv, hk, rfl, htk, HT4, D⟩ := hrel
      have HL := Lib.hid (show ts.length ≤ 10000000 by omega)
      by_cases hk0 : 0 < k
      · have i1 : (0 : Int) < (k : Int) := by omega
        go_upto_region 8 with fail
        refine wp_region_held_drew (S := fun _ => True) (by kernel_rfl) trivial (fun hHeld => ?_)
        have D0 := D.drew
        try dsimp only
        generalize wr.drew = wd at D0 hHeld ⊢
        clear D
        refine wpAnyH_take (i := 0) (v := ?_) rfl (by kernel_rfl) (by kernel_rfl) (by kernel_rfl) (fun _ _ _ h => h) (Or.inl ⟨by rfl, ?_⟩) hHeld ?_
        rotate_left
        · (intro w hSw; (try dsimp only at hSw); go_simp; try with_reducible rfl)
        try simp only [Act.put, List.setIfInBounds_toArray, List.set_cons_zero, List.set_cons_succ, List.getElem_toArray, List.getElem_cons_succ, List.getElem_cons_zero]
        refine wpAnyH_take (i := 2) (v := ?_) rfl (by kernel_rfl) (by kernel_rfl) (by kernel_rfl) (fun _ _ _ h => h) (Or.inl ⟨by rfl, ?_⟩) hHeld ?_
        rotate_left
        · (intro w hSw; (try dsimp only at hSw); go_simp; try with_reducible rfl)
        try simp only [Act.put, List.setIfInBounds_toArray, List.set_cons_zero, List.set_cons_succ, List.getElem_toArray, List.getElem_cons_succ, List.getElem_cons_zero]
        refine wpAnyH_ready (rs := [1, 3]) (by kernel_rfl) (by decide) (AllReadyH.cons (o := _) rfl (fun K hK' => ?_) (AllReadyH.cons (o := _) rfl (fun K hK' => ?_) AllReadyH.nil))
        · skip
          obtain ⟨o1, o2, o3, -⟩ := (D0.front 1 rfl).cells
          go_simp
          clear o1 o2 o3
          have KO1 := D0
          have HG := Lib.hid (trivial)
          refine hK'.out _ _ HG.out (fun hHeld2 => ?_)
          clear hK' K hHeld
          have hHeld := hHeld2
          clear hHeld2
          try simp only [Act.put, List.setIfInBounds_toArray]
          refine wpAnyH_ready (rs := [3]) (by kernel_rfl) (by decide) (AllReadyH.cons (o := _) rfl (fun K hK' => ?_) AllReadyH.nil)
          go_simp
          go_at_call 146
          refine (pick_dr b _ 9 _ KO1.src (by omega)).mono ?_
          rintro e wo2 ⟨x2, rfl, hx, hw⟩
          have KO2 := KO1.add hw
          clear hw
          obtain ⟨z2, hz⟩ : ∃ z, x2 - 4 = z := ⟨_, rfl⟩
          have HB := Lib.hid (show -4 ≤ z2 ∧ z2 ≤ 4 by omega)
          have hq : IntKind.i64.wrap (x2 - 4) = z2 := by rw [hz]; exact wrapI64 (by omega)
          clear hz hx
          have HG := Lib.hid (trivial)
          refine hK'.out _ _ HG.out (fun hHeld2 => ?_)
          clear hK' K hHeld
          have hHeld := hHeld2
          clear hHeld2
          try simp only [Act.put, List.setIfInBounds_toArray]
          refine wpAnyH_take (i := 4) (v := ?_) rfl (by kernel_rfl) (by kernel_rfl) (by kernel_rfl) (fun _ _ _ h => h) (Or.inl ⟨by rfl, ?_⟩) hHeld ?_
          rotate_left
          · (intro w hSw; (try dsimp only at hSw); go_simp; try with_reducible rfl)
          try simp only [Act.put, List.setIfInBounds_toArray, List.set_cons_zero, List.set_cons_succ, List.getElem_toArray, List.getElem_cons_succ, List.getElem_cons_zero]
          refine wpAnyH_ready (rs := [5]) (by kernel_rfl) (by decide) (AllReadyH.cons (o := _) rfl (fun K hK' => ?_) AllReadyH.nil)
          go_simp
          have KO3 := KO2.al [.int .i64 z2] 2
          have HG := Lib.hid (trivial)
          refine hK'.out _ _ HG.out (fun hHeld2 => ?_)
          clear hK' K hHeld
          have hHeld := hHeld2
          clear hHeld2
          try simp only [Act.put, List.setIfInBounds_toArray]
          generalize wo2.alloc (.cells #[.int .i64 z2] 2) = wo3 at KO3 hHeld ⊢
          obtain ⟨gl3, hgl3⟩ : ∃ g, wo2.heap.size = g := ⟨_, rfl⟩
          rw [hgl3] at KO3 ⊢
          clear hgl3
          refine wpAnyH_ready (rs := [6]) (by kernel_rfl) (by decide) (AllReadyH.cons (o := _) rfl (fun K hK' => ?_) AllReadyH.nil)
          obtain ⟨vd, hT, hS, hK6⟩ := (KO3.sel [0, 1, 2, 3] 99 (by decide) (by decide))
          refine kn_stepI (by rfl) _ _ (by rfl) vv ts (by rfl) (by rfl) hK6 HL.out ?_
          intro v' wo4 hK7
          obtain ⟨A4, c4, rfl⟩ := row_form hK7.at0
          obtain ⟨m9, hm9⟩ : ∃ m, (ts ++ [z2]).length = m := ⟨_, rfl⟩
          rw [hm9] at hK7
          try rw [hm9]
          have HM9 := Lib.hid hm9
          clear hm9
          have KO4 : DR b _ w _ wo4 := ⟨vd, hT, hS, hK7⟩
          clear hT hS hK7 hK6
          have HG := Lib.hid (trivial)
          refine hK'.out _ _ HG.out (fun hHeld2 => ?_)
          clear hK' K hHeld
          have hHeld := hHeld2
          clear hHeld2
          try simp only [Act.put, List.setIfInBounds_toArray]
          refine wpAnyH_take (i := 7) (v := ?_) rfl (by kernel_rfl) (by kernel_rfl) (by kernel_rfl) (fun _ _ _ h => h) (Or.inl ⟨by rfl, ?_⟩) hHeld ?_
          rotate_left
          · (intro w hSw; (try dsimp only at hSw); go_simp; try with_reducible rfl)
          try simp only [Act.put, List.setIfInBounds_toArray, List.set_cons_zero, List.set_cons_succ, List.getElem_toArray, List.getElem_cons_succ, List.getElem_cons_zero]
          refine wpAnyH_ready (rs := [8]) (by kernel_rfl) (by decide) (AllReadyH.cons (o := _) rfl (fun K hK' => ?_) AllReadyH.nil)
          obtain ⟨s1, s2, s3, -⟩ := (KO4.front 1 rfl).cells
          have KO5 := ((KO4.front 1 rfl).st 1 (.slice A4 m9 c4))
          go_simp
          clear s1 s2 s3
          have HG := Lib.hid (trivial)
          refine hK'.out _ _ HG.out (fun hHeld2 => ?_)
          clear hK' K hHeld
          have hHeld := hHeld2
          clear hHeld2
          try simp only [Act.put, List.setIfInBounds_toArray]
          refine wpAnyH_done (by kernel_rfl) ?_ _
          go_wp2_with fail
          go_roundw
          case rel => exact ⟨k - 1, ts ++ [z2], _, by omega, by go_num, by simp; omega, Lib.hid (fun t ht => by
            rcases List.mem_append.1 ht with ht | ht
            · exact HT4.out t ht
            · rw [List.mem_singleton.1 ht]; exact HB.out), by rw [HM9.out]; exact ((KO5.sel [1, 0, 2] 99 (by decide) (by decide))).mono (by omega)⟩
          case measure => simp [intOf] <;> omega
        · skip
          go_simp
          go_at_call 146
          refine (pick_dr b _ 9 _ D0.src (by omega)).mono ?_
          rintro e wo6 ⟨x6, rfl, hx, hw⟩
          have KO6 := D0.add hw
          clear hw
          obtain ⟨z6, hz⟩ : ∃ z, x6 - 4 = z := ⟨_, rfl⟩
          have HB := Lib.hid (show -4 ≤ z6 ∧ z6 ≤ 4 by omega)
          have hq : IntKind.i64.wrap (x6 - 4) = z6 := by rw [hz]; exact wrapI64 (by omega)
          clear hz hx
          have HG := Lib.hid (trivial)
          refine hK'.out _ _ HG.out (fun hHeld2 => ?_)
          clear hK' K hHeld
          have hHeld := hHeld2
          clear hHeld2
          try simp only [Act.put, List.setIfInBounds_toArray]
          refine wpAnyH_take (i := 4) (v := ?_) rfl (by kernel_rfl) (by kernel_rfl) (by kernel_rfl) (fun _ _ _ h => h) (Or.inl ⟨by rfl, ?_⟩) hHeld ?_
          rotate_left
          · (intro w hSw; (try dsimp only at hSw); go_simp; try with_reducible rfl)
          try simp only [Act.put, List.setIfInBounds_toArray, List.set_cons_zero, List.set_cons_succ, List.getElem_toArray, List.getElem_cons_succ, List.getElem_cons_zero]
          refine wpAnyH_ready (rs := [1, 5]) (by kernel_rfl) (by decide) (AllReadyH.cons (o := _) rfl (fun K hK' => ?_) (AllReadyH.cons (o := _) rfl (fun K hK' => ?_) AllReadyH.nil))
          · skip
            obtain ⟨o1, o2, o3, -⟩ := (KO6.front 1 rfl).cells
            go_simp
            clear o1 o2 o3
            have KO7 := KO6
            have HG := Lib.hid (trivial)
            refine hK'.out _ _ HG.out (fun hHeld2 => ?_)
            clear hK' K hHeld
            have hHeld := hHeld2
            clear hHeld2
            try simp only [Act.put, List.setIfInBounds_toArray]
            refine wpAnyH_ready (rs := [5]) (by kernel_rfl) (by decide) (AllReadyH.cons (o := _) rfl (fun K hK' => ?_) AllReadyH.nil)
            go_simp
            have KO8 := KO7.al [.int .i64 z6] 2
            have HG := Lib.hid (trivial)
            refine hK'.out _ _ HG.out (fun hHeld2 => ?_)
            clear hK' K hHeld
            have hHeld := hHeld2
            clear hHeld2
            try simp only [Act.put, List.setIfInBounds_toArray]
            generalize wo6.alloc (.cells #[.int .i64 z6] 2) = wo8 at KO8 hHeld ⊢
            obtain ⟨gl8, hgl8⟩ : ∃ g, wo6.heap.size = g := ⟨_, rfl⟩
            rw [hgl8] at KO8 ⊢
            clear hgl8
            refine wpAnyH_ready (rs := [6]) (by kernel_rfl) (by decide) (AllReadyH.cons (o := _) rfl (fun K hK' => ?_) AllReadyH.nil)
            obtain ⟨vd, hT, hS, hK6⟩ := (KO8.sel [0, 1, 2, 3] 99 (by decide) (by decide))
            refine kn_stepI (by rfl) _ _ (by rfl) vv ts (by rfl) (by rfl) hK6 HL.out ?_
            intro v' wo9 hK7
            obtain ⟨A9, c9, rfl⟩ := row_form hK7.at0
            obtain ⟨m9, hm9⟩ : ∃ m, (ts ++ [z6]).length = m := ⟨_, rfl⟩
            rw [hm9] at hK7
            try rw [hm9]
            have HM9 := Lib.hid hm9
            clear hm9
            have KO9 : DR b _ w _ wo9 := ⟨vd, hT, hS, hK7⟩
            clear hT hS hK7 hK6
            have HG := Lib.hid (trivial)
            refine hK'.out _ _ HG.out (fun hHeld2 => ?_)
            clear hK' K hHeld
            have hHeld := hHeld2
            clear hHeld2
            try simp only [Act.put, List.setIfInBounds_toArray]
            refine wpAnyH_take (i := 7) (v := ?_) rfl (by kernel_rfl) (by kernel_rfl) (by kernel_rfl) (fun _ _ _ h => h) (Or.inl ⟨by rfl, ?_⟩) hHeld ?_
            rotate_left
            · (intro w hSw; (try dsimp only at hSw); go_simp; try with_reducible rfl)
            try simp only [Act.put, List.setIfInBounds_toArray, List.set_cons_zero, List.set_cons_succ, List.getElem_toArray, List.getElem_cons_succ, List.getElem_cons_zero]
            refine wpAnyH_ready (rs := [8]) (by kernel_rfl) (by decide) (AllReadyH.cons (o := _) rfl (fun K hK' => ?_) AllReadyH.nil)
            obtain ⟨s1, s2, s3, -⟩ := (KO9.front 1 rfl).cells
            have KO10 := ((KO9.front 1 rfl).st 1 (.slice A9 m9 c9))
            go_simp
            clear s1 s2 s3
            have HG := Lib.hid (trivial)
            refine hK'.out _ _ HG.out (fun hHeld2 => ?_)
            clear hK' K hHeld
            have hHeld := hHeld2
            clear hHeld2
            try simp only [Act.put, List.setIfInBounds_toArray]
            refine wpAnyH_done (by kernel_rfl) ?_ _
            go_wp2_with fail
            go_roundw
            case rel => exact ⟨k - 1, ts ++ [z6], _, by omega, by go_num, by simp; omega, Lib.hid (fun t ht => by
              rcases List.mem_append.1 ht with ht | ht
              · exact HT4.out t ht
              · rw [List.mem_singleton.1 ht]; exact HB.out), by rw [HM9.out]; exact ((KO10.sel [1, 0, 2] 99 (by decide) (by decide))).mono (by omega)⟩
            case measure => simp [intOf] <;> omega
          · skip
            go_simp
            have KO11 := KO6.al [.int .i64 z6] 2
            have HG := Lib.hid (trivial)
            refine hK'.out _ _ HG.out (fun hHeld2 => ?_)
            clear hK' K hHeld
            have hHeld := hHeld2
            clear hHeld2
            try simp only [Act.put, List.setIfInBounds_toArray]
            generalize wo6.alloc (.cells #[.int .i64 z6] 2) = wo11 at KO11 hHeld ⊢
            obtain ⟨gl11, hgl11⟩ : ∃ g, wo6.heap.size = g := ⟨_, rfl⟩
            rw [hgl11] at KO11 ⊢
            clear hgl11
            refine wpAnyH_ready (rs := [1]) (by kernel_rfl) (by decide) (AllReadyH.cons (o := _) rfl (fun K hK' => ?_) AllReadyH.nil)
            obtain ⟨o1, o2, o3, -⟩ := (KO11.front 2 rfl).cells
            go_simp
            clear o1 o2 o3
            have KO12 := KO11
            have HG := Lib.hid (trivial)
            refine hK'.out _ _ HG.out (fun hHeld2 => ?_)
            clear hK' K hHeld
            have hHeld := hHeld2
            clear hHeld2
            try simp only [Act.put, List.setIfInBounds_toArray]
            refine wpAnyH_ready (rs := [6]) (by kernel_rfl) (by decide) (AllReadyH.cons (o := _) rfl (fun K hK' => ?_) AllReadyH.nil)
            obtain ⟨vd, hT, hS, hK6⟩ := (KO12.sel [0, 1, 2, 3] 99 (by decide) (by decide))
            refine kn_stepI (by rfl) _ _ (by rfl) vv ts (by rfl) (by rfl) hK6 HL.out ?_
            intro v' wo13 hK7
            obtain ⟨A13, c13, rfl⟩ := row_form hK7.at0
            obtain ⟨m9, hm9⟩ : ∃ m, (ts ++ [z6]).length = m := ⟨_, rfl⟩
            rw [hm9] at hK7
            try rw [hm9]
            have HM9 := Lib.hid hm9
            clear hm9
            have KO13 : DR b _ w _ wo13 := ⟨vd, hT, hS, hK7⟩
            clear hT hS hK7 hK6
            have HG := Lib.hid (trivial)
            refine hK'.out _ _ HG.out (fun hHeld2 => ?_)
            clear hK' K hHeld
            have hHeld := hHeld2
            clear hHeld2
            try simp only [Act.put, List.setIfInBounds_toArray]
            refine wpAnyH_take (i := 7) (v := ?_) rfl (by kernel_rfl) (by kernel_rfl) (by kernel_rfl) (fun _ _ _ h => h) (Or.inl ⟨by rfl, ?_⟩) hHeld ?_
            rotate_left
            · (intro w hSw; (try dsimp only at hSw); go_simp; try with_reducible rfl)
            try simp only [Act.put, List.setIfInBounds_toArray, List.set_cons_zero, List.set_cons_succ, List.getElem_toArray, List.getElem_cons_succ, List.getElem_cons_zero]
            refine wpAnyH_ready (rs := [8]) (by kernel_rfl) (by decide) (AllReadyH.cons (o := _) rfl (fun K hK' => ?_) AllReadyH.nil)
            obtain ⟨s1, s2, s3, -⟩ := (KO13.front 1 rfl).cells
            have KO14 := ((KO13.front 1 rfl).st 1 (.slice A13 m9 c13))
            go_simp
            clear s1 s2 s3
            have HG := Lib.hid (trivial)
            refine hK'.out _ _ HG.out (fun hHeld2 => ?_)
            clear hK' K hHeld
            have hHeld := hHeld2
            clear hHeld2
            try simp only [Act.put, List.setIfInBounds_toArray]
            refine wpAnyH_done (by kernel_rfl) ?_ _
            go_wp2_with fail
            go_roundw
            case rel => exact ⟨k - 1, ts ++ [z6], _, by omega, by go_num, by simp; omega, Lib.hid (fun t ht => by
              rcases List.mem_append.1 ht with ht | ht
              · exact HT4.out t ht
              · rw [List.mem_singleton.1 ht]; exact HB.out), by rw [HM9.out]; exact ((KO14.sel [1, 0, 2] 99 (by decide) (by decide))).mono (by omega)⟩
            case measure => simp [intOf] <;> omega
      · have i1 : ¬ (0 : Int) < (k : Int) := by omega
        go_upto_region 9 with fail
        refine wp_region_held_drew (S := fun _ => True) (by kernel_rfl) trivial (fun hHeld => ?_)
        have D0 := D.drew
        try dsimp only
        generalize wr.drew = wd at D0 hHeld ⊢
        clear D
        refine wpAnyH_take (i := 0) (v := ?_) rfl (by kernel_rfl) (by kernel_rfl) (by kernel_rfl) (fun _ _ _ h => h) (Or.inl ⟨by rfl, ?_⟩) hHeld ?_
        rotate_left
        · (intro w hSw; (try dsimp only at hSw); go_simp; try with_reducible rfl)
        try simp only [Act.put, List.setIfInBounds_toArray, List.set_cons_zero, List.set_cons_succ, List.getElem_toArray, List.getElem_cons_succ, List.getElem_cons_zero]
        refine wpAnyH_take (i := 2) (v := ?_) rfl (by kernel_rfl) (by kernel_rfl) (by kernel_rfl) (fun _ _ _ h => h) (Or.inl ⟨by rfl, ?_⟩) hHeld ?_
        rotate_left
        · (intro w hSw; (try dsimp only at hSw); go_simp; try with_reducible rfl)
        try simp only [Act.put, List.setIfInBounds_toArray, List.set_cons_zero, List.set_cons_succ, List.getElem_toArray, List.getElem_cons_succ, List.getElem_cons_zero]
        refine wpAnyH_ready (rs := [1, 3]) (by kernel_rfl) (by decide) (AllReadyH.cons (o := _) rfl (fun K hK' => ?_) (AllReadyH.cons (o := _) rfl (fun K hK' => ?_) AllReadyH.nil))
        · skip
          obtain ⟨o1, o2, o3, -⟩ := (D0.front 1 rfl).cells
          go_simp
          clear o1 o2 o3
          have KO1 := D0
          have HG := Lib.hid (trivial)
          refine hK'.out _ _ HG.out (fun hHeld2 => ?_)
          clear hK' K hHeld
          have hHeld := hHeld2
          clear hHeld2
          try simp only [Act.put, List.setIfInBounds_toArray]
          refine wpAnyH_ready (rs := [3]) (by kernel_rfl) (by decide) (AllReadyH.cons (o := _) rfl (fun K hK' => ?_) AllReadyH.nil)
          go_simp
          go_at_call 146
          refine (pick_dr b _ 3 _ KO1.src (by omega)).mono ?_
          rintro e wo2 ⟨x2, rfl, hx, hw⟩
          have KO2 := KO1.add hw
          clear hw
          obtain ⟨z2, hz⟩ : ∃ z, 1 + x2 = z := ⟨_, rfl⟩
          have HB := Lib.hid (show 1 ≤ z2 ∧ z2 ≤ 3 by omega)
          have hq : IntKind.i64.wrap (1 + x2) = z2 := by rw [hz]; exact wrapI64 (by omega)
          clear hz hx
          have HG := Lib.hid (trivial)
          refine hK'.out _ _ HG.out (fun hHeld2 => ?_)
          clear hK' K hHeld
          have hHeld := hHeld2
          clear hHeld2
          try simp only [Act.put, List.setIfInBounds_toArray]
          refine wpAnyH_take (i := 4) (v := ?_) rfl (by kernel_rfl) (by kernel_rfl) (by kernel_rfl) (fun _ _ _ h => h) (Or.inl ⟨by rfl, ?_⟩) hHeld ?_
          rotate_left
          · (intro w hSw; (try dsimp only at hSw); go_simp; try with_reducible rfl)
          try simp only [Act.put, List.setIfInBounds_toArray, List.set_cons_zero, List.set_cons_succ, List.getElem_toArray, List.getElem_cons_succ, List.getElem_cons_zero]
          refine wpAnyH_ready (rs := [5]) (by kernel_rfl) (by decide) (AllReadyH.cons (o := _) rfl (fun K hK' => ?_) AllReadyH.nil)
          go_simp
          have KO3 := KO2.al [.int .i64 z2] 2
          have HG := Lib.hid (trivial)
          refine hK'.out _ _ HG.out (fun hHeld2 => ?_)
          clear hK' K hHeld
          have hHeld := hHeld2
          clear hHeld2
          try simp only [Act.put, List.setIfInBounds_toArray]
          generalize wo2.alloc (.cells #[.int .i64 z2] 2) = wo3 at KO3 hHeld ⊢
          obtain ⟨gl3, hgl3⟩ : ∃ g, wo2.heap.size = g := ⟨_, rfl⟩
          rw [hgl3] at KO3 ⊢
          clear hgl3
          refine wpAnyH_ready (rs := [6]) (by kernel_rfl) (by decide) (AllReadyH.cons (o := _) rfl (fun K hK' => ?_) AllReadyH.nil)
          obtain ⟨vd, hT, hS, hK6⟩ := (KO3.sel [0, 1, 2, 3] 99 (by decide) (by decide))
          refine kn_stepI (by rfl) _ _ (by rfl) vv ts (by rfl) (by rfl) hK6 HL.out ?_
          intro v' wo4 hK7
          obtain ⟨A4, c4, rfl⟩ := row_form hK7.at0
          obtain ⟨m9, hm9⟩ : ∃ m, (ts ++ [z2]).length = m := ⟨_, rfl⟩
          rw [hm9] at hK7
          try rw [hm9]
          have HM9 := Lib.hid hm9
          clear hm9
          have KO4 : DR b _ w _ wo4 := ⟨vd, hT, hS, hK7⟩
          clear hT hS hK7 hK6
          have HG := Lib.hid (trivial)
          refine hK'.out _ _ HG.out (fun hHeld2 => ?_)
          clear hK' K hHeld
          have hHeld := hHeld2
          clear hHeld2
          try simp only [Act.put, List.setIfInBounds_toArray]
          refine wpAnyH_take (i := 7) (v := ?_) rfl (by kernel_rfl) (by kernel_rfl) (by kernel_rfl) (fun _ _ _ h => h) (Or.inl ⟨by rfl, ?_⟩) hHeld ?_
          rotate_left
          · (intro w hSw; (try dsimp only at hSw); go_simp; try with_reducible rfl)
          try simp only [Act.put, List.setIfInBounds_toArray, List.set_cons_zero, List.set_cons_succ, List.getElem_toArray, List.getElem_cons_succ, List.getElem_cons_zero]
          refine wpAnyH_ready (rs := [8]) (by kernel_rfl) (by decide) (AllReadyH.cons (o := _) rfl (fun K hK' => ?_) AllReadyH.nil)
          obtain ⟨s1, s2, s3, -⟩ := (KO4.front 1 rfl).cells
          have KO5 := ((KO4.front 1 rfl).st 1 (.slice A4 m9 c4))
          go_simp
          clear s1 s2 s3
          have HG := Lib.hid (trivial)
          refine hK'.out _ _ HG.out (fun hHeld2 => ?_)
          clear hK' K hHeld
          have hHeld := hHeld2
          clear hHeld2
          try simp only [Act.put, List.setIfInBounds_toArray]
          refine wpAnyH_done (by kernel_rfl) ?_ _
          have D8 := (KO5.sel [1, 0, 2] 99 (by decide) (by decide))
          go_upto_region 10 with fail
          refine Code.wp.dr D8 ?_; clear D8; intro w8 D8
          obtain ⟨a1, a2, a3, d1, d2, d3, -⟩ := D8.cells
          go_wp2_with fail
          clear a1 a2 a3 d1 d2 d3
          refine bodyPost.dr (((D8.front 2 rfl).st 0 (.int .i64 bs)).st 1 (.slice A4 m9 c4)) ?_; intro w9 D9
          obtain ⟨x1, x2, x3, -⟩ := D9.cells
          refine bodyPost_ret (v := .agg #[.int .i64 bs, .slice A4 m9 c4]) (by simp [results, Tryd.results78, go_sem, x1]) rfl ⟨bs, A4, c4, ts ++ [z2], by rw [HM9.out], small_vtur b1 b2 HT4.out (by omega) HB.out.1 HB.out.2, ?_⟩
          unfold rowI
          rw [HM9.out]
          exact (D9.sel [1] 99 (by decide) (by decide)).mono (by omega)
        · skip
          go_simp
          go_at_call 146
          refine (pick_dr b _ 3 _ D0.src (by omega)).mono ?_
          rintro e wo6 ⟨x6, rfl, hx, hw⟩
          have KO6 := D0.add hw
          clear hw
          obtain ⟨z6, hz⟩ : ∃ z, 1 + x6 = z := ⟨_, rfl⟩
          have HB := Lib.hid (show 1 ≤ z6 ∧ z6 ≤ 3 by omega)
          have hq : IntKind.i64.wrap (1 + x6) = z6 := by rw [hz]; exact wrapI64 (by omega)
          clear hz hx
          have HG := Lib.hid (trivial)
          refine hK'.out _ _ HG.out (fun hHeld2 => ?_)
          clear hK' K hHeld
          have hHeld := hHeld2
          clear hHeld2
          try simp only [Act.put, List.setIfInBounds_toArray]
          refine wpAnyH_take (i := 4) (v := ?_) rfl (by kernel_rfl) (by kernel_rfl) (by kernel_rfl) (fun _ _ _ h => h) (Or.inl ⟨by rfl, ?_⟩) hHeld ?_
          rotate_left
          · (intro w hSw; (try dsimp only at hSw); go_simp; try with_reducible rfl)
          try simp only [Act.put, List.setIfInBounds_toArray, List.set_cons_zero, List.set_cons_succ, List.getElem_toArray, List.getElem_cons_succ, List.getElem_cons_zero]
          refine wpAnyH_ready (rs := [1, 5]) (by kernel_rfl) (by decide) (AllReadyH.cons (o := _) rfl (fun K hK' => ?_) (AllReadyH.cons (o := _) rfl (fun K hK' => ?_) AllReadyH.nil))
          · skip
            obtain ⟨o1, o2, o3, -⟩ := (KO6.front 1 rfl).cells
            go_simp
            clear o1 o2 o3
            have KO7 := KO6
            have HG := Lib.hid (trivial)
            refine hK'.out _ _ HG.out (fun hHeld2 => ?_)
            clear hK' K hHeld
            have hHeld := hHeld2
            clear hHeld2
            try simp only [Act.put, List.setIfInBounds_toArray]
            refine wpAnyH_ready (rs := [5]) (by kernel_rfl) (by decide) (AllReadyH.cons (o := _) rfl (fun K hK' => ?_) AllReadyH.nil)
            go_simp
            have KO8 := KO7.al [.int .i64 z6] 2
            have HG := Lib.hid (trivial)
            refine hK'.out _ _ HG.out (fun hHeld2 => ?_)
            clear hK' K hHeld
            have hHeld := hHeld2
            clear hHeld2
            try simp only [Act.put, List.setIfInBounds_toArray]
            generalize wo6.alloc (.cells #[.int .i64 z6] 2) = wo8 at KO8 hHeld ⊢
            obtain ⟨gl8, hgl8⟩ : ∃ g, wo6.heap.size = g := ⟨_, rfl⟩
            rw [hgl8] at KO8 ⊢
            clear hgl8
            refine wpAnyH_ready (rs := [6]) (by kernel_rfl) (by decide) (AllReadyH.cons (o := _) rfl (fun K hK' => ?_) AllReadyH.nil)
            obtain ⟨vd, hT, hS, hK6⟩ := (KO8.sel [0, 1, 2, 3] 99 (by decide) (by decide))
            refine kn_stepI (by rfl) _ _ (by rfl) vv ts (by rfl) (by rfl) hK6 HL.out ?_
            intro v' wo9 hK7
            obtain ⟨A9, c9, rfl⟩ := row_form hK7.at0
            obtain ⟨m9, hm9⟩ : ∃ m, (ts ++ [z6]).length = m := ⟨_, rfl⟩
            rw [hm9] at hK7
            try rw [hm9]
            have HM9 := Lib.hid hm9
            clear hm9
            have KO9 : DR b _ w _ wo9 := ⟨vd, hT, hS, hK7⟩
            clear hT hS hK7 hK6
            have HG := Lib.hid (trivial)
            refine hK'.out _ _ HG.out (fun hHeld2 => ?_)
            clear hK' K hHeld
            have hHeld := hHeld2
            clear hHeld2
            try simp only [Act.put, List.setIfInBounds_toArray]
            refine wpAnyH_take (i := 7) (v := ?_) rfl (by kernel_rfl) (by kernel_rfl) (by kernel_rfl) (fun _ _ _ h => h) (Or.inl ⟨by rfl, ?_⟩) hHeld ?_
            rotate_left
            · (intro w hSw; (try dsimp only at hSw); go_simp; try with_reducible rfl)
            try simp only [Act.put, List.setIfInBounds_toArray, List.set_cons_zero, List.set_cons_succ, List.getElem_toArray, List.getElem_cons_succ, List.getElem_cons_zero]
            refine wpAnyH_ready (rs := [8]) (by kernel_rfl) (by decide) (AllReadyH.cons (o := _) rfl (fun K hK' => ?_) AllReadyH.nil)
            obtain ⟨s1, s2, s3, -⟩ := (KO9.front 1 rfl).cells
            have KO10 := ((KO9.front 1 rfl).st 1 (.slice A9 m9 c9))
            go_simp
            clear s1 s2 s3
            have HG := Lib.hid (trivial)
            refine hK'.out _ _ HG.out (fun hHeld2 => ?_)
            clear hK' K hHeld
            have hHeld := hHeld2
            clear hHeld2
            try simp only [Act.put, List.setIfInBounds_toArray]
            refine wpAnyH_done (by kernel_rfl) ?_ _
            have D8 := (KO10.sel [1, 0, 2] 99 (by decide) (by decide))
            go_upto_region 10 with fail
            refine Code.wp.dr D8 ?_; clear D8; intro w8 D8
            obtain ⟨a1, a2, a3, d1, d2, d3, -⟩ := D8.cells
            go_wp2_with fail
            clear a1 a2 a3 d1 d2 d3
            refine bodyPost.dr (((D8.front 2 rfl).st 0 (.int .i64 bs)).st 1 (.slice A9 m9 c9)) ?_; intro w9 D9
            obtain ⟨x1, x2, x3, -⟩ := D9.cells
            refine bodyPost_ret (v := .agg #[.int .i64 bs, .slice A9 m9 c9]) (by simp [results, Tryd.results78, go_sem, x1]) rfl ⟨bs, A9, c9, ts ++ [z6], by rw [HM9.out], small_vtur b1 b2 HT4.out (by omega) HB.out.1 HB.out.2, ?_⟩
            unfold rowI
            rw [HM9.out]
            exact (D9.sel [1] 99 (by decide) (by decide)).mono (by omega)
          · skip
            go_simp
            have KO11 := KO6.al [.int .i64 z6] 2
            have HG := Lib.hid (trivial)
            refine hK'.out _ _ HG.out (fun hHeld2 => ?_)
            clear hK' K hHeld
            have hHeld := hHeld2
            clear hHeld2
            try simp only [Act.put, List.setIfInBounds_toArray]
            generalize wo6.alloc (.cells #[.int .i64 z6] 2) = wo11 at KO11 hHeld ⊢
            obtain ⟨gl11, hgl11⟩ : ∃ g, wo6.heap.size = g := ⟨_, rfl⟩
            rw [hgl11] at KO11 ⊢
            clear hgl11
            refine wpAnyH_ready (rs := [1]) (by kernel_rfl) (by decide) (AllReadyH.cons (o := _) rfl (fun K hK' => ?_) AllReadyH.nil)
            obtain ⟨o1, o2, o3, -⟩ := (KO11.front 2 rfl).cells
            go_simp
            clear o1 o2 o3
            have KO12 := KO11
            have HG := Lib.hid (trivial)
            refine hK'.out _ _ HG.out (fun hHeld2 => ?_)
            clear hK' K hHeld
            have hHeld := hHeld2
            clear hHeld2
            try simp only [Act.put, List.setIfInBounds_toArray]
            refine wpAnyH_ready (rs := [6]) (by kernel_rfl) (by decide) (AllReadyH.cons (o := _) rfl (fun K hK' => ?_) AllReadyH.nil)
            obtain ⟨vd, hT, hS, hK6⟩ := (KO12.sel [0, 1, 2, 3] 99 (by decide) (by decide))
            refine kn_stepI (by rfl) _ _ (by rfl) vv ts (by rfl) (by rfl) hK6 HL.out ?_
            intro v' wo13 hK7
            obtain ⟨A13, c13, rfl⟩ := row_form hK7.at0
            obtain ⟨m9, hm9⟩ : ∃ m, (ts ++ [z6]).length = m := ⟨_, rfl⟩
            rw [hm9] at hK7
            try rw [hm9]
            have HM9 := Lib.hid hm9
            clear hm9
            have KO13 : DR b _ w _ wo13 := ⟨vd, hT, hS, hK7⟩
            clear hT hS hK7 hK6
            have HG := Lib.hid (trivial)
            refine hK'.out _ _ HG.out (fun hHeld2 => ?_)
            clear hK' K hHeld
            have hHeld := hHeld2
            clear hHeld2
            try simp only [Act.put, List.setIfInBounds_toArray]
            refine wpAnyH_take (i := 7) (v := ?_) rfl (by kernel_rfl) (by kernel_rfl) (by kernel_rfl) (fun _ _ _ h => h) (Or.inl ⟨by rfl, ?_⟩) hHeld ?_
            rotate_left
            · (intro w hSw; (try dsimp only at hSw); go_simp; try with_reducible rfl)
            try simp only [Act.put, List.setIfInBounds_toArray, List.set_cons_zero, List.set_cons_succ, List.getElem_toArray, List.getElem_cons_succ, List.getElem_cons_zero]
            refine wpAnyH_ready (rs := [8]) (by kernel_rfl) (by decide) (AllReadyH.cons (o := _) rfl (fun K hK' => ?_) AllReadyH.nil)
            obtain ⟨s1, s2, s3, -⟩ := (KO13.front 1 rfl).cells
            have KO14 := ((KO13.front 1 rfl).st 1 (.slice A13 m9 c13))
            go_simp
            clear s1 s2 s3
            have HG := Lib.hid (trivial)
            refine hK'.out _ _ HG.out (fun hHeld2 => ?_)
            clear hK' K hHeld
            have hHeld := hHeld2
            clear hHeld2
            try simp only [Act.put, List.setIfInBounds_toArray]
            refine wpAnyH_done (by kernel_rfl) ?_ _
            have D8 := (KO14.sel [1, 0, 2] 99 (by decide) (by decide))
            go_upto_region 10 with fail
            refine Code.wp.dr D8 ?_; clear D8; intro w8 D8
            obtain ⟨a1, a2, a3, d1, d2, d3, -⟩ := D8.cells
            go_wp2_with fail
            clear a1 a2 a3 d1 d2 d3
            refine bodyPost.dr (((D8.front 2 rfl).st 0 (.int .i64 bs)).st 1 (.slice A13 m9 c13)) ?_; intro w9 D9
            obtain ⟨x1, x2, x3, -⟩ := D9.cells
            refine bodyPost_ret (v := .agg #[.int .i64 bs, .slice A13 m9 c13]) (by simp [results, Tryd.results78, go_sem, x1]) rfl ⟨bs, A13, c13, ts ++ [z6], by rw [HM9.out], small_vtur b1 b2 HT4.out (by omega) HB.out.1 HB.out.2, ?_⟩
            unfold rowI
            rw [HM9.out]
            exact (D9.sel [1] 99 (by decide) (by decide)).mono (by omega)
set_option maxRecDepth 100000 in
theorem A2Turns_any (A : Option Addr) (n c : Nat) (bs : List UInt8) (w : World) (hb : RB w A n bs) (hn : n ≤ 9223372036854775807) :
    Calls Tryd.prog 17 #[.slice A n c] w fun e w' => ∃ (b : Int) (A : Option Addr) (c : Nat) (ts : List Int), e = .returned (.agg #[.int .i64 b, .slice A ts.length c]) ∧ vtur b ts = true ∧ Kn w [rowI A c ts] w' := by
  have HB := Lib.hid hb
  clear hb
  go_enter Tryd.func17, Tryd.ntmps17
  go_wp2_with fail
  refine Calls.kn ((Kn.nil w).al [.int .i64 0, .slice none 0 0] 27) ?_; intro w1 K1
  refine (l00From_any A n c bs w1 (HB.out.below K1.below) hn).mono ?_; rintro e w2 ⟨rfl, hs, hb2⟩
  have D2 := DR.nil hs
  clear HB hs
  go_wp2_with fail
  have KD := l13Draw_dr _ _ w2 D2.src (by omega)
  unfold DTur at KD
  refine KD.mono ?_; rintro e w3 ⟨b, A, c, ts, rfl, hv, h3⟩
  have D3 := D2.add h3
  have HV := Lib.hid hv
  clear D2 h3 KD hv
  have K3 : Kn w [rowI A c ts, .blk w.heap.size [.int .i64 0, .slice none 0 0] 27] w3 := K1.join (Kn.ofDR hb2 (Nat.le_refl _) D3)
  obtain ⟨a1, a2, a3, -⟩ := (K3.front 1 rfl).cells
  go_wp2_with fail
  refine bodyPost.kn (((K3.front 1 rfl).st 0 (.int .i64 b)).st 1 (.slice A ts.length c)) ?_; intro w6 K6
  clear a1 a2 a3
  obtain ⟨a1, a2, a3, -⟩ := K6.cells
  refine bodyPost_ret (v := .agg #[.int .i64 b, .slice A ts.length c]) (by simp [results, Tryd.results17, go_sem, a1]) rfl ⟨b, A, c, ts, rfl, HV.out, K6.sel [1] 99 (by decide) (by decide)⟩
end Go.Proofs.YtlhcilmnfmglfaaDoor

namespace Go.Proofs.YtlhcilmnfmglfaaDoor
open Go.RowKit Go.Sort
theorem cat_szT (A B : ByteArray) : (A ++ B).size = A.size + B.size := by
  simp [← ByteArray.size_data, ByteArray.data_append]
set_option maxRecDepth 100000 in
set_option maxHeartbeats 3200000 in
theorem TurnsText_some (b : Int) (A : Option Addr) (c : Nat) (ts : List Int) (w : World) (hr : RI w A ts.length ts) (hv : vtur b ts = true) (ht : TB w) :
    Calls Tryd.prog 21 #[.agg #[.int .i64 b, .slice A ts.length c]] w fun e w' => ∃ T : ByteArray, e = .returned (.string T) ∧ 1 ≤ T.size ∧ Below w.heap.size w w' := by
  obtain ⟨⟨hb, hb2⟩, hl, hd, -, -⟩ := vtur_iff.1 hv
  have KV := Lib.hid (fun W (hW : Below w.heap.size w W) => calls_val (ValidTurns_any b A c ts W (hr.below hW) hb hb2 hl) (congrArg Value.bool hv))
  have HD := Lib.hid hd
  have HR := Lib.hid (fun W (hW : Below w.heap.size w W) => hr.below hW)
  have HTB := Lib.hid (fun W (hW : Below w.heap.size w W) => ht.below hW)
  clear hv hr hd ht
  obtain ⟨g, hg⟩ : ∃ g, w.heap.size = g := ⟨_, rfl⟩
  have K0 := (Kn.nil w).al [.int .i64 b, .slice A ts.length c] 27
  rw [hg] at K0
  obtain ⟨n, hn⟩ : ∃ n, ts.length = n := ⟨_, rfl⟩
  have HN := Lib.hid hn
  rw [hn] at K0 KV HR hl ⊢
  clear hn
  have q0 : IntKind.i64.wrap ((n : Int) - 1) = (n : Int) - 1 := wrapI64 (by omega)
  rcases Nat.eq_zero_or_pos n with h0 | h0
  · have z1 : ((n : Int) == 0) = true := by rw [h0]; rfl
    have z2 : (n : Int) = 0 := by omega
    have z3 : n = 0 := h0
    clear h0
    go_enter Tryd.func21, Tryd.ntmps21
    go_upto_region 1 with fail
    try rw [hg]
    subst z3
    refine Code.wp.kn K0 ?_; clear K0 hg; intro w1 K1
    obtain ⟨a1, a2, a3, -⟩ := K1.cells
    go_wp2_with (go_at_call 62; (refine (KV.out _ K1.below).mono ?_); rintro e w2 ⟨rfl, hw⟩; have K2 := K1.keep hw; clear hw a1 a2 a3; obtain ⟨a1, a2, a3, -⟩ := K2.cells)
    go_ret
    exact ⟨_, rfl, by decide, K2.below⟩
  · have z1 : ((n : Int) == 0) = false := by rw [beq_eq_false_iff_ne]; omega
    have z2 : ¬ (n : Int) = 0 := by omega
    have z3 : ¬ n = 0 := by omega
    go_enter Tryd.func21, Tryd.ntmps21
    go_upto_region 1 with fail
    try rw [hg]
    refine Code.wp.kn K0 ?_; clear K0 hg; intro w1 K1
    obtain ⟨a1, a2, a3, -⟩ := K1.cells
    go_wp2_with (go_at_call 62; (refine (KV.out _ K1.below).mono ?_); rintro e w2 ⟨rfl, hw⟩; have K2 := K1.keep hw; clear hw a1 a2 a3; obtain ⟨a1, a2, a3, -⟩ := K2.cells)
    clear a1 a2 a3
    go_loopw [3, 4] (fun ss kk wr => ∃ (j : Nat) (v : Int) (T : ByteArray), j ≤ n ∧ kk = .int .i64 v ∧ Hid (v = (j : Int) - 1) ∧ ss = .string T ∧ T.size ≤ 30 * (n - j) ∧ Hid (j < n → 1 ≤ T.size) ∧ Kn w [.blk g [.int .i64 b, .slice A n c] 27] wr) (fun _ kk _ => (intOf kk + 1).toNat)
    case atStart => exact ⟨n, _, _, Nat.le_refl _, rfl, Lib.hid rfl, rfl, Nat.zero_le _, Lib.hid (fun h => absurd h (Nat.lt_irrefl _)), K2⟩
    case round =>
      clear K1 K2 q0
      obtain ⟨j, v, T, hj, rfl, hv, rfl, hT, HT, KR⟩ := hrel
      cases j with
      | zero =>
        obtain rfl : v = -1 := by have := hv.out; omega
        clear hv
        go_wp2_with fail
        go_ret
        exact ⟨_, rfl, HT.out h0, KR.below⟩
      | succ i =>
        obtain rfl : v = (i : Int) := by have := hv.out; omega
        clear hv
        have hi : i < n := by omega
        obtain ⟨ad, hA, hlt, hkx, hcx⟩ := (HR.out _ KR.below).at_ hi
        have hdx := HD.out ts[i] (List.getElem_mem hkx)
        obtain ⟨t, ht⟩ : ∃ t, ts[i] = t := ⟨_, rfl⟩
        rw [ht] at hcx hdx
        obtain ⟨U, hU⟩ : ∃ U : ByteArray, ⟨(dec t).toArray⟩ = U := ⟨_, rfl⟩
        have KD := (fun W (hW : TB W) => Decimal_any t W (by omega) (by omega) hW)
        rw [hU] at KD
        have hUs : U.size ≤ 21 := by rw [← hU]; show (dec t).toArray.size ≤ 21; rw [List.size_toArray]; exact dec_len t (by omega) (by omega)
        have hU1 : 1 ≤ U.size := by
          rw [← hU]; show 1 ≤ (dec t).toArray.size; rw [List.size_toArray]
          exact List.length_pos_iff.2 (dec_ne t)
        replace KD := Lib.hid KD
        have q3 : IntKind.i64.wrap ((i : Int) - 1) = (i : Int) - 1 := wrapI64 (by omega)
        have i0 : (0 : Int) ≤ (i : Int) := by omega
        have i1 : (i : Int) < (n : Int) := by omega
        subst hA
        clear ht hU hkx
        have s1 : ¬ 9223372036854775807 < T.size + 1 := by omega
        have s2 : ¬ 9223372036854775807 < T.size + 1 + U.size := by omega
        have s3 : ¬ 9223372036854775807 < T.size + U.size := by omega
        obtain ⟨a1, a2, a3, -⟩ := KR.cells
        by_cases ht0 : 0 ≤ t
        · go_wp2_with (go_at_call 83; (refine (KD.out _ (HTB.out _ KR.below)).mono ?_); rintro e w4 ⟨rfl, hw⟩; have K4 := KR.keep hw; clear hw)
          go_roundw
          case rel => exact ⟨i, _, _, by omega, by go_num, Lib.hid rfl, rfl, by rw [cat_szT, cat_szT]; show T.size + 1 + U.size ≤ _; omega, Lib.hid (fun _ => by rw [cat_szT]; omega), K4⟩
          case measure => simp [intOf] <;> omega
        · go_wp2_with (go_at_call 83; (refine (KD.out _ (HTB.out _ KR.below)).mono ?_); rintro e w4 ⟨rfl, hw⟩; have K4 := KR.keep hw; clear hw)
          go_roundw
          case rel => exact ⟨i, _, _, by omega, by go_num, Lib.hid rfl, rfl, by rw [cat_szT]; omega, Lib.hid (fun _ => by rw [cat_szT]; omega), K4⟩
          case measure => simp [intOf] <;> omega
set_option maxRecDepth 100000 in
theorem StrokesOf_nil (b : Int) (A : Option Addr) (c : Nat) (w : World) (hv : vtur b [] = true) (hr : RI w A 0 []) :
    Calls Tryd.prog 11 #[.agg #[.int .i64 b, .slice A 0 c]] w fun e w' => ∃ E ec, e = .returned (.tuple #[.slice E 0 ec, .int .i64 0]) ∧ Kn w [rowI E ec []] w' := by
  obtain ⟨⟨hb, hb2⟩, hl, hd, -, -⟩ := vtur_iff.1 hv
  have KV := Lib.hid (fun W (hW : Below w.heap.size w W) => calls_val (ValidTurns_any b A c [] W (hr.below hW) hb hb2 hl) (congrArg Value.bool hv))
  obtain ⟨g, hg⟩ : ∃ g, w.heap.size = g := ⟨_, rfl⟩
  have K0 := (Kn.nil w).al [.int .i64 b, .slice A 0 c] 27
  rw [hg] at K0
  go_enter Tryd.func11, Tryd.ntmps11
  go_upto_region 1 with fail
  try rw [hg]
  refine Code.wp.kn K0 ?_; clear K0 hg; intro w1 K1
  obtain ⟨a1, a2, a3, -⟩ := K1.cells
  go_upto_region 4 with (go_at_call 62; (refine (KV.out _ K1.below).mono ?_); rintro e w2 ⟨rfl, hw⟩; have K2 := K1.keep hw; clear hw a1 a2 a3; obtain ⟨a1, a2, a3, -⟩ := K2.cells)
  refine Code.wp.kn ((K2.al [] 2).litRow (size := 1) (n := 0) rfl (by decide)) ?_; clear a1 a2 a3 K1 K2; intro w3 K3
  obtain ⟨a1, a2, a3, -⟩ := (K3.front 1 rfl).cells
  go_wp2_with fail
  clear a1 a2 a3
  go_loopw [4, 15] (fun ll kk wr => ll = .slice (some ⟨w2.heap.size, 0, none⟩) 0 0 ∧ kk = .int .i64 0 ∧ w3 = wr) (fun _ _ _ => 0)
  case atStart => exact ⟨rfl, rfl, rfl⟩
  case round =>
    obtain ⟨rfl, rfl, rfl⟩ := hrel
    obtain ⟨a1, a2, a3, -⟩ := (K3.front 1 rfl).cells
    go_wp2_with fail
    clear a1 a2 a3
    go_loopw [4, 5] (fun ll kk wr => ll = .slice (some ⟨w2.heap.size, 0, none⟩) 0 0 ∧ kk = .int .i64 (-1) ∧ w3 = wr) (fun _ _ _ => 0)
    case atStart => exact ⟨rfl, rfl, rfl⟩
    case round =>
      obtain ⟨rfl, rfl, rfl⟩ := hrel
      go_wp2_with fail
      go_ret2
      exact ⟨_, _, rfl, K3.sel [0] 99 (by decide) (by decide)⟩
/-- the strokes of a small factor's fewest turns -/
theorem StrokesOf_few (n : Nat) (hn : n < 256) (A : Option Addr) (c : Nat) (w : World) (hr : RI w A (turnL true 10 (n : Int)).length (turnL true 10 (n : Int))) :
    Calls Tryd.prog 11 #[.agg #[.int .i64 10, .slice A (turnL true 10 (n : Int)).length c]] w fun e w' => ∃ E ec, e = .returned (.tuple #[.slice E (strOf (turnL true 10 (n : Int))).length ec, .int .i64 0]) ∧ Kn w [rowI E ec (strOf (turnL true 10 (n : Int)))] w' := by
  have hv := (turnL_vtur (b := 10) (n := (n : Int)) (by decide) (by decide) (by omega) (by omega)).1
  have hs := str_len ⟨n, hn⟩
  dsimp only at hs
  obtain ⟨ts, ht⟩ : ∃ ts, turnL true 10 (n : Int) = ts := ⟨_, rfl⟩
  rw [ht] at hr hv hs ⊢
  cases ts with
  | nil => exact StrokesOf_nil 10 A c w hv hr
  | cons t ts => exact StrokesOf_ok 10 A c (t :: ts) w hr hv (by omega) (by simp)
end Go.Proofs.YtlhcilmnfmglfaaDoor

namespace Go.Proofs.YtlhcilmnfmglfaaDoor
open Go.RowKit Go.Sort
/-- the code of the widths of machines whose inputs are counted -/
def inC (b n1 n2 n3 : Int) : Int := if nmOk b n1 n2 n3 = false then 2 else if 256 < pw b n1.toNat * pw b n2.toNat then 5 else 0
structure NmB (b : Int) (n1 n2 n3 : Nat) : Prop where
  b1 : 2 ≤ b
  b2 : b ≤ 16
  h1 : 1 ≤ n1
  h1' : n1 ≤ 16
  h2 : 1 ≤ n2
  h2' : n2 ≤ 16
  h3 : 1 ≤ n3
  h3' : n3 ≤ 16
  hv : vmach (newT b n1 n2 n3) = true
  p1 : pw b n1 ≤ 1000000000001
  p2 : pw b n2 ≤ 1000000000001
  q1 : 1 ≤ pw b n1
  q2 : 1 ≤ pw b n2
theorem nmOk_true {b z1 z2 z3 : Int} (h : nmOk b z1 z2 z3 = true) : ∃ n1 n2 n3 : Nat, z1 = n1 ∧ z2 = n2 ∧ z3 = n3 ∧ NmB b n1 n2 n3 := by
  unfold nmOk at h
  simp only [Bool.and_eq_true, betB_iff] at h
  obtain ⟨⟨⟨⟨hb, h1⟩, h2⟩, h3⟩, hv⟩ := h
  obtain ⟨n1, rfl⟩ := Int.eq_ofNat_of_zero_le (show 0 ≤ z1 by omega)
  obtain ⟨n2, rfl⟩ := Int.eq_ofNat_of_zero_le (show 0 ≤ z2 by omega)
  obtain ⟨n3, rfl⟩ := Int.eq_ofNat_of_zero_le (show 0 ≤ z3 by omega)
  have hv' : vmach (newT b n1 n2 n3) = true := hv
  obtain ⟨k1, k2, k3, e1, e2, f1, f2, l1, p0, p1⟩ := vmach_all hv'
  simp only [newT, digD_len] at f1 l1
  have hm := pw_mono b (by omega) _ _ l1
  exact ⟨n1, n2, n3, rfl, rfl, rfl, by omega, by omega, by omega, by omega, by omega, by omega, by omega, by omega, hv', by omega, f1, pw_pos b (by omega) _, pw_pos b (by omega) _⟩
theorem specNewMachine_no (b z1 z2 z3 : Int) (w : World) (h : nmOk b z1 z2 z3 = false) :
    Calls Tryd.prog 12 #[.int .i64 b, .int .i64 z1, .int .i64 z2, .int .i64 z3] w fun e w' => e = .returned (.tuple #[.agg #[.int .i64 0, .slice none 0 0, .int .i64 0, .slice none 0 0, .int .i64 0, .slice none 0 0, .int .i64 0], .int .i64 2]) ∧ Below w.heap.size w w' := by
  rcases hr : (betB b 2 16 && betB z1 1 16 && betB z2 1 16 && betB z3 1 16) with _ | _
  · exact specNewMachine_range b z1 z2 z3 w hr
  · unfold nmOk at h
    rw [hr] at h
    simp only [Bool.and_eq_true, betB_iff] at hr
    obtain ⟨⟨⟨hb, h1⟩, h2⟩, h3⟩ := hr
    obtain ⟨n1, rfl⟩ := Int.eq_ofNat_of_zero_le (show 0 ≤ z1 by omega)
    obtain ⟨n2, rfl⟩ := Int.eq_ofNat_of_zero_le (show 0 ≤ z2 by omega)
    obtain ⟨n3, rfl⟩ := Int.eq_ofNat_of_zero_le (show 0 ≤ z3 by omega)
    refine (specNewMachine_any b n1 n2 n3 false w (by omega) (by omega) (by omega) (by omega) (by omega) (by omega) (by omega) (by omega) h).mono ?_
    rintro e w' (⟨h, -⟩ | ⟨-, h⟩)
    · cases h
    · exact h
theorem specNewMachine_yes {b : Int} {n1 n2 n3 : Nat} (w : World) (h : NmB b n1 n2 n3) :
    Calls Tryd.prog 12 #[.int .i64 b, .int .i64 n1, .int .i64 n2, .int .i64 n3] w fun e w' => ∃ E1 g1 E2 g2 E3 g3, e = .returned (.tuple #[.agg #[.int .i64 b, .slice E1 (digD b n1 0).length g1, .int .i64 b, .slice E2 (digD b n2 0).length g2, .int .i64 b, .slice E3 (digD b n3 0).length g3, .int .i64 0], .int .i64 0]) ∧ Kn w [rowI E3 g3 (digD b n3 0), rowI E2 g2 (digD b n2 0), rowI E1 g1 (digD b n1 0)] w' := by
  refine (specNewMachine_any b n1 n2 n3 true w h.b1 h.b2 h.h1 h.h1' h.h2 h.h2' h.h3 h.h3' h.hv).mono ?_
  rintro e w' (⟨-, h⟩ | ⟨h, -⟩)
  · exact h
  · cases h
theorem inC_no {b z1 z2 z3 : Int} (h : nmOk b z1 z2 z3 = false) : inC b z1 z2 z3 = 2 := by unfold inC; rw [if_pos h]
theorem inC_full {b : Int} {n1 n2 n3 : Nat} (hn : nmOk b n1 n2 n3 = true) (h : 256 < pw b n1 * pw b n2) : inC b n1 n2 n3 = 5 := by
  unfold inC; rw [if_neg (by rw [hn]; decide)]; exact if_pos h
theorem inC_fine {b : Int} {n1 n2 n3 : Nat} (hn : nmOk b n1 n2 n3 = true) (h : ¬ 256 < pw b n1 * pw b n2) : inC b n1 n2 n3 = 0 := by
  unfold inC; rw [if_neg (by rw [hn]; decide)]; exact if_neg h
theorem mul_big {x y : Int} (hy : 1 ≤ y) (h : 256 < x) : 256 < x * y := by
  have := Int.mul_le_mul_of_nonneg_left hy (show 0 ≤ x by omega)
  omega
theorem div_big {x y : Int} (hy : 1 ≤ y) : (256 : Int).tdiv y < x ↔ 256 < x * y := by
  rw [Int.tdiv_eq_ediv_of_nonneg (by decide)]
  exact Int.ediv_lt_iff_lt_mul (by omega)
end Go.Proofs.YtlhcilmnfmglfaaDoor

namespace Go.Proofs.YtlhcilmnfmglfaaDoor
open Go.RowKit Go.Sort
theorem specValueOf_okM (b : Int) (A : Option Addr) (c : Nat) (ds : List Int) (w : World) (hr : RI w A ds.length ds) (hv : vreg b ds = true) :
    Calls Tryd.prog 16 #[.agg #[.int .i64 b, .slice A ds.length c]] w fun e w' => e = .returned (.tuple #[.int .i64 (valL b ds), .int .i64 0]) ∧ Below w.heap.size w w' := by
  obtain ⟨⟨b1, b2⟩, ⟨n1, n2⟩, hd, -⟩ := vreg_iff.1 hv
  obtain ⟨p, hp⟩ : ∃ p, w.heap.size = p := ⟨_, rfl⟩
  have KR := Lib.hid (fun W (K : Kn w [.blk p [.int .i64 b, .slice A ds.length c] 33] W) => calls_val (l02Ok_any ⟨p, 0, none⟩ b A ds.length c ds W ⟨K.blkAt.1 0, K.blkAt.1 1⟩ (hr.below K.below) (by omega)) (congrArg Value.bool hv))
  have KV := Lib.hid (fun W (hW : Below w.heap.size w W) => l02Value_any b A ds.length c ds W b1 b2 hd (hr.below hW) (by omega))
  have K0 := (Kn.nil w).al [.int .i64 b, .slice A ds.length c] 33
  rw [hp] at K0
  clear hr hd hv
  go_enter Tryd.func16, Tryd.ntmps16
  go_wp2_with fail
  refine Calls.kn K0 ?_; intro w1 K1
  refine (KR.out _ K1).mono ?_; rintro e w2 ⟨rfl, q, rfl⟩
  have K2 := K1.drewN q
  generalize w1.drewN q = w2 at K2 ⊢
  clear K1
  obtain ⟨a1, a2, a3, -⟩ := K2.cells
  go_wp2_with fail
  refine (KV.out _ K2.below).mono ?_; rintro e w3 ⟨rfl, rfl⟩
  clear a1 a2 a3
  go_wp2_with fail
  go_ret2
  exact ⟨rfl, by first | exact K2.below | (have := K2.below; rw [hp] at this; exact this)⟩

theorem FewestTurns_ten (n : Nat) (hn : n < 256) (w : World) : Calls Tryd.prog 10 #[.int .i64 10, .int .i64 (n : Int)] w fun e w' => ∃ A c, e = .returned (.tuple #[.agg #[.int .i64 10, .slice A (turnL true 10 (n : Int)).length c], .int .i64 0]) ∧ Kn w [rowI A c (turnL true 10 (n : Int))] w' := by
  have hc : trnC 10 (n : Int) = 0 := by
    unfold trnC
    rw [if_pos]
    rw [Bool.and_eq_true, betB_iff, betB_iff]
    omega
  have h := FewestTurns_any 10 (n : Int) w
  unfold TDRet at h
  refine h.mono ?_
  rintro e w' (⟨h, -⟩ | ⟨-, h⟩)
  · rw [hc] at h; cases h
  · exact h
def startM (y : Int) : Tri := mchV 10 3 9 6 y (y * 0) 0 ((0 : Nat) : Int)
theorem startM_set (y : Int) : setT (newT 10 3 9 6) y = startM y := by
  unfold startM mchV setT newT
  rw [Int.mul_zero]
  rfl
theorem newM_ok : vmach (newT 10 3 9 6) = true := by decide +kernel
theorem startM_ok {y : Int} (h0 : 0 ≤ y) (h1 : y < 256) : vmach (startM y) = true := by
  rw [← startM_set]
  exact setT_ok y newM_ok h0 (by show y < 1000; omega)
theorem NewM (t : Tri) (ht : newT 10 3 9 6 = t) (w : World) : Calls Tryd.prog 12 #[.int .i64 10, .int .i64 3, .int .i64 9, .int .i64 6] w fun e w' => ∃ A1 c1 A2 c2 A3 c3, e = .returned (.tuple #[.agg #[.int .i64 t.a.base, .slice A1 t.a.digits.length c1, .int .i64 t.b.base, .slice A2 t.b.digits.length c2, .int .i64 t.s.base, .slice A3 t.s.digits.length c3, .int .i64 t.carry], .int .i64 0]) ∧ Kn w [rowI A3 c3 t.s.digits, rowI A2 c2 t.b.digits, rowI A1 c1 t.a.digits] w' := by
  have h := specNewMachine_yes (b := 10) (n1 := 3) (n2 := 9) (n3 := 6) w ⟨by decide, by decide, by decide, by decide, by decide, by decide, by decide, by decide, newM_ok, by decide, by decide, by decide, by decide⟩
  subst ht
  exact h
theorem SetM (t u : Tri) (ht : newT 10 3 9 6 = t) (y : Int) (hu : startM y = u) (h0 : 0 ≤ y) (h1 : y < 256) (A1 A2 A3 : Option Addr) (c1 c2 c3 : Nat) (w : World) (r1 : RI w A1 t.a.digits.length t.a.digits) (r2 : RI w A2 t.b.digits.length t.b.digits) (r3 : RI w A3 t.s.digits.length t.s.digits) :
    Calls Tryd.prog 13 #[.agg #[.int .i64 t.a.base, .slice A1 t.a.digits.length c1, .int .i64 t.b.base, .slice A2 t.b.digits.length c2, .int .i64 t.s.base, .slice A3 t.s.digits.length c3, .int .i64 t.carry], .int .i64 y] w fun e w' => ∃ A1 c1 A2 c2 A3 c3, e = .returned (.tuple #[.agg #[.int .i64 u.a.base, .slice A1 u.a.digits.length c1, .int .i64 u.b.base, .slice A2 u.b.digits.length c2, .int .i64 u.s.base, .slice A3 u.s.digits.length c3, .int .i64 u.carry], .int .i64 0]) ∧ Kn w [rowI A3 c3 u.s.digits, rowI A2 c2 u.b.digits, rowI A1 c1 u.a.digits] w' := by
  have h := specSetValueG t A1 A2 A3 c1 c2 c3 y w r1 r2 r3 (by rw [← ht]; exact newM_ok)
  have hf : fits t y = true := by
    rw [← ht]
    exact decide_eq_true ⟨h0, by show y < 1000; omega⟩
  unfold SetG at h
  refine h.mono ?_
  rintro e w' (⟨-, h⟩ | ⟨h, -⟩)
  · subst ht
    rw [← startM_set] at hu
    subst hu
    exact h
  · rw [hf] at h; cases h
/-- all strokes of a small factor are made -/
theorem few_made {n : Nat} (hn : n < 256) {y : Int} (h0 : 0 ≤ y) (h1 : y < 256) : doS (strOf (turnL true 10 (n : Int))) (startM y) 0 = (mchV 10 3 9 6 y (y * (n : Int)) (n : Int) ((0 : Nat) : Int), (strOf (turnL true 10 (n : Int))).length) := by
  have h := abs_all ⟨n, hn⟩
  dsimp only at h
  have h2 := abs_do h0 (show y ≤ 255 by omega) _ 0 0 0 (n : Int) 0 (by decide) (by decide) (by decide) h
  rw [Nat.zero_add] at h2
  exact h2.1
end Go.Proofs.YtlhcilmnfmglfaaDoor

namespace Go.Proofs.YtlhcilmnfmglfaaDoor
open Go.RowKit Go.Sort
set_option maxRecDepth 100000 in
set_option maxHeartbeats 12800000 in
theorem law_Multiplied (A : Option Addr) (n c : Nat) (bs : List UInt8) (B : Option Addr) (m d : Nat) (cs : List UInt8) (w : World) (hb : RB w A n bs) (hn : n ≤ 9223372036854775807) (hb2 : RB w B m cs) (hm : m ≤ 9223372036854775807) (ht : TB w) :
    Calls Tryd.prog 3 #[.slice A n c, .slice B m d] w fun e w' => e = .returned (.bool true) ∧ Below w.heap.size w w' := by
  have HB1 := Lib.hid (fun W (hW : Below w.heap.size w W) => hb.below hW)
  have HB2 := Lib.hid (fun W (hW : Below w.heap.size w W) => hb2.below hW)
  have HTB := Lib.hid (fun W (hW : Below w.heap.size w W) => TB.below ht hW)
  clear ht hb hb2
  have KG := (fun W => a2Long2_any A B n c m d W hn hm)
  obtain ⟨bg, hbg⟩ : ∃ b, (decide (3000 < n) || decide (3000 < m)) = b := ⟨_, rfl⟩
  rw [hbg] at KG
  replace KG := Lib.hid KG
  clear hbg
  rcases bg with _ | _
  rotate_left
  · go_enter Tryd.func3, Tryd.ntmps3
    go_wp2_with (go_at_call 8; refine (KG.out _).mono ?_; rintro e w' ⟨rfl, rfl⟩)
    go_ret
    exact ⟨rfl, Below.refl _ _⟩
  go_enter Tryd.func3, Tryd.ntmps3
  go_wp2_with (go_at_call 8; refine (KG.out _).mono ?_; rintro e w' ⟨rfl, rfl⟩)
  refine (a2At0_any A n c bs 256 w (HB1.out w (Below.refl _ _)) hn (by omega)).mono ?_; rintro e w' ⟨⟨x, rfl, x0, x1⟩, rfl⟩
  obtain ⟨N, rfl⟩ : ∃ N : Nat, x = N := ⟨x.toNat, by omega⟩
  have hN : N < 256 := by omega
  have KF := (fun W => FewestTurns_ten N hN W)
  have KS := (fun A c W r => StrokesOf_few N hN A c W r)
  have hmade := (fun y h0 h1 => few_made hN (y := y) h0 h1)
  have hlen := str_len ⟨N, hN⟩
  have hkind := str_kind ⟨N, hN⟩
  dsimp only at hlen hkind
  obtain ⟨L, hL⟩ : ∃ L, turnL true 10 (N : Int) = L := ⟨_, rfl⟩
  simp only [hL] at KF KS hmade hlen hkind
  obtain ⟨S, hS⟩ : ∃ S, strOf L = S := ⟨_, rfl⟩
  simp only [hS] at KS hmade hlen hkind
  replace KF := Lib.hid KF
  replace KS := Lib.hid KS
  have HM := Lib.hid hmade
  have HKD := Lib.hid (fun k (h : k ∈ S) => (show 1 ≤ k ∧ k ≤ 6 from of_decide_eq_true (List.all_eq_true.1 hkind k h)))
  have HSL := Lib.hid hlen
  clear hL hS hmade hlen hkind
  go_wp2_with fail
  refine (KF.out _).mono ?_; rintro e w1 ⟨E, ec, rfl, hK⟩
  have K1 := (Kn.nil w).join hK
  clear hK KF
  obtain ⟨g6, hg⟩ : ∃ g, w1.heap.size = g := ⟨_, rfl⟩
  go_upto_region 5 with fail
  refine Code.wp.kn (K1.al [.int .i64 10, .slice E L.length ec] 27) ?_; clear K1; intro w2 K2
  rw [hg] at K2
  try rw [hg]
  clear hg
  obtain ⟨a1, a2, a3, -⟩ := K2.cells
  go_wp2_with fail
  refine (KS.out E ec _ (K2.front 1 rfl).riv).mono ?_; rintro e w3 ⟨F, fc, rfl, hK⟩
  have K3 := ((K2.join hK).sel [0] 99 (by decide) (by decide))
  clear hK K2 KS a1 a2 a3
  go_wp2_with fail
  refine (a2At0_any B m d cs 256 w3 (HB2.out w3 K3.below) hm (by omega)).mono ?_; rintro e w' ⟨⟨y, rfl, y0, y1⟩, rfl⟩
  obtain ⟨t, ht⟩ : ∃ t, newT 10 3 9 6 = t := ⟨_, rfl⟩
  obtain ⟨u, hu⟩ : ∃ u, startM y = u := ⟨_, rfl⟩
  have KN := Lib.hid (fun W => NewM t ht W)
  have KU := Lib.hid (fun A1 A2 A3 c1 c2 c3 W r1 r2 r3 => SetM t u ht y hu y0 y1 A1 A2 A3 c1 c2 c3 W r1 r2 r3)
  have hok := startM_ok y0 y1
  have hmd := HM.out y y0 y1
  rw [hu] at hok hmd
  obtain ⟨v, hv⟩ : ∃ v, mchV 10 3 9 6 y (y * (N : Int)) (N : Int) ((0 : Nat) : Int) = v := ⟨_, rfl⟩
  rw [hv] at hmd
  have hvok : vmach v = true := by
    have h := doS_ok S u 0 hok
    rw [hmd] at h
    exact h
  have KD := (fun A1 A2 A3 c1 c2 c3 LA lc W r1 r2 r3 hr => DoStrokes_ok u A1 A2 A3 c1 c2 c3 LA lc S W r1 r2 r3 hok hr HKD.out (by have := HSL.out; omega))
  unfold DosRet at KD
  simp only [hmd] at KD
  have KV := (fun A1 A2 A3 c1 c2 c3 W r1 r2 r3 => specValidMachine_any v A1 A2 A3 c1 c2 c3 W r1 r2 r3 (small_of' hvok))
  rw [hvok] at KV
  have hvr := vmach_all hvok
  have hyN : 0 ≤ y * (N : Int) ∧ y * (N : Int) ≤ 255 * 255 := ⟨Int.mul_nonneg y0 (by omega), Int.mul_le_mul (by omega) (by omega) (by omega) (by omega)⟩
  have hp9 : pw 10 9 = 1000000000 := by decide
  have hp6 : pw 10 6 = 1000000 := by decide
  have hb9 : valL v.b.base v.b.digits = (N : Int) * y := by
    rw [← hv, Int.mul_comm (N : Int) y]
    exact valL_digD 10 (by decide) 9 _ hyN.1 (by rw [hp9]; omega) (by omega)
  have hs6 : valL v.s.base v.s.digits = (N : Int) := by
    rw [← hv]
    exact valL_digD 10 (by decide) 6 _ (by omega) (by rw [hp6]; omega) (by omega)
  have hcv : v.carry = 0 := by rw [← hv]; rfl
  have K9 := (fun A c W r => specValueOf_okM v.b.base A c v.b.digits W r hvr.2.1)
  have K6 := (fun A c W r => specValueOf_okM v.s.base A c v.s.digits W r hvr.2.2.1)
  rw [hb9] at K9
  rw [hs6] at K6
  rw [Int.mul_comm] at hyN
  obtain ⟨Q, hQ⟩ : ∃ Q, (N : Int) * y = Q := ⟨_, rfl⟩
  rw [hQ] at K9 hyN
  have hq : IntKind.i64.wrap ((N : Int) * y) = Q := by rw [hQ]; exact wrapI64 (by omega)
  have HCV := Lib.hid hcv
  replace KD := Lib.hid KD
  replace KV := Lib.hid KV
  replace K9 := Lib.hid K9
  replace K6 := Lib.hid K6
  clear ht hu hok hmd hv hvok hvr hp9 hp6 hb9 hs6 hcv hQ HM HSL HKD hyN y0 y1 x0 x1 hN
  go_wp2_with fail
  refine (KN.out _).mono ?_; rintro e w4 ⟨A1, c1, A2, c2, A3, c3, rfl, hK⟩
  have K4 := K3.join hK
  clear hK KN K3
  obtain ⟨g11, hg⟩ : ∃ g, w4.heap.size = g := ⟨_, rfl⟩
  go_upto_region 8 with fail
  refine Code.wp.kn (K4.al [.int .i64 t.a.base, .slice A1 t.a.digits.length c1, .int .i64 t.b.base, .slice A2 t.b.digits.length c2, .int .i64 t.s.base, .slice A3 t.s.digits.length c3, .int .i64 t.carry] 35) ?_; clear K4; intro w5 K5
  rw [hg] at K5
  try rw [hg]
  clear hg
  obtain ⟨a1, a2, a3, -⟩ := K5.cells
  go_wp2_with fail
  refine (KU.out _ _ _ _ _ _ _ (K5.front 3 rfl).riv (K5.front 2 rfl).riv (K5.front 1 rfl).riv).mono ?_; rintro e w6 ⟨B1, b1, B2, b2, B3, b3, rfl, hK⟩
  have K6' := (K5.join hK).sel [3, 0, 1, 2, 7] 99 (by decide) (by decide)
  clear hK KU K5 a1 a2 a3
  obtain ⟨a1, a2, a3, -⟩ := K6'.cells
  go_upto_region 9 with fail
  refine Code.wp.kn ((((((((K6'.st 0 (.int .i64 u.a.base)).st 1 (.slice B1 u.a.digits.length b1)).st 2 (.int .i64 u.b.base)).st 3 (.slice B2 u.b.digits.length b2)).st 4 (.int .i64 u.s.base)).st 5 (.slice B3 u.s.digits.length b3)).st 6 (.int .i64 u.carry))) ?_; clear K6' a1 a2 a3; intro w7 K7
  obtain ⟨a1, a2, a3, -⟩ := K7.cells
  go_wp2_with fail
  refine (KD.out _ _ _ _ _ _ _ _ _ (K7.front 3 rfl).riv (K7.front 2 rfl).riv (K7.front 1 rfl).riv (K7.front 4 rfl).riv).mono ?_; rintro e w8 ⟨D1, d1, D2, d2, D3, d3, rfl, hK⟩
  have K8 := K7.join hK
  clear hK KD K7 a1 a2 a3
  obtain ⟨g13, hg⟩ : ∃ g, w8.heap.size = g := ⟨_, rfl⟩
  go_upto_region 12 with fail
  refine Code.wp.kn (K8.al [.int .i64 v.a.base, .slice D1 v.a.digits.length d1, .int .i64 v.b.base, .slice D2 v.b.digits.length d2, .int .i64 v.s.base, .slice D3 v.s.digits.length d3, .int .i64 v.carry] 35) ?_; clear K8; intro w9 KA
  rw [hg] at KA
  try rw [hg]
  clear hg
  obtain ⟨a1, a2, a3, -⟩ := KA.cells
  have z1 : (((S.length : Nat) : Int) != ((S.length : Nat) : Int)) = false := bne_self_eq_false _
  go_wp2_with fail
  refine (KV.out _ _ _ _ _ _ _ (KA.front 3 rfl).riv (KA.front 2 rfl).riv (KA.front 1 rfl).riv).mono ?_; rintro e w10 ⟨rfl, hw⟩
  have KB := KA.keep hw
  clear hw KV KA a1 a2 a3
  obtain ⟨a1, a2, a3, -⟩ := KB.cells
  go_wp2_with fail
  refine (K9.out _ _ _ (KB.front 2 rfl).riv).mono ?_; rintro e w11 ⟨rfl, hw⟩
  have KC := KB.keep hw
  clear hw K9 KB a1 a2 a3
  obtain ⟨a1, a2, a3, -⟩ := KC.cells
  go_wp2_with fail
  refine (K6.out _ _ _ (KC.front 1 rfl).riv).mono ?_; rintro e w12 ⟨rfl, hw⟩
  have KE := KC.keep hw
  clear hw K6 KC a1 a2 a3
  rw [HCV.out] at KE
  obtain ⟨a1, a2, a3, -⟩ := KE.cells
  have z2 : (Q != Q) = false := bne_self_eq_false _
  have z3 : ((N : Int) != (N : Int)) = false := bne_self_eq_false _
  go_wp2_with fail
  clear a1 a2 a3 z1 z2 z3 hq
  have KE2 := KE.bare
  clear KE
  refine (A2Turns_any A n c bs w12 (HB1.out _ KE2.below) hn).mono ?_; rintro e w13 ⟨b, XA, xc, xs, rfl, hvx, hK⟩
  have K13 := KE2.join hK
  clear hK KE2
  obtain ⟨g20, hg⟩ : ∃ g, w13.heap.size = g := ⟨_, rfl⟩
  go_upto_region 19 with fail
  refine Code.wp.kn (K13.al [.int .i64 b, .slice XA xs.length xc] 27) ?_; clear K13; intro w14 K14
  rw [hg] at K14
  try rw [hg]
  clear hg
  go_wp2_with fail
  refine (A2Turns_any B m d cs w14 (HB2.out _ K14.below) hm).mono ?_; rintro e w15 ⟨b2, YA, yc, ys, rfl, hvy, hK⟩
  have K15 := K14.join hK
  clear hK K14
  obtain ⟨g21, hg⟩ : ∃ g, w15.heap.size = g := ⟨_, rfl⟩
  go_upto_region 20 with fail
  refine Code.wp.kn (K15.al [.int .i64 b2, .slice YA ys.length yc] 27) ?_; clear K15; intro w16 K16
  rw [hg] at K16
  try rw [hg]
  clear hg
  have KAT := (fun W r1 r2 => AddTurns_ok b b2 XA xc xs YA yc ys W r1 r2 hvx hvy)
  have KX := (fun W r => specFactorOf_ok b XA xc xs W r hvx)
  have KY := (fun W r => specFactorOf_ok b2 YA yc ys W r hvy)
  have bx := vtur_fac hvx
  have bY := vtur_fac hvy
  unfold ATRet at KAT
  replace KAT := Lib.hid KAT
  have HVX := Lib.hid hvx
  have HVY := Lib.hid hvy
  clear hvx hvy
  obtain ⟨a1, a2, a3, d1, d2, d3, -⟩ := K16.cells
  go_wp2_with fail
  refine (KAT.out _ (K16.front 3 rfl).riv (K16.front 1 rfl).riv).mono ?_
  rintro e w17 (⟨v, cd, rfl, hcd, ⟨x9, n9, k9, rfl⟩, hw⟩ | ⟨E3, e3, ss, rfl, hvs, hfs, hbb, hK⟩)
  · have K17 := K16.keep hw
    clear hw K16 KAT a1 a2 a3 d1 d2 d3
    obtain ⟨a1, a2, a3, d1, d2, d3, -⟩ := K17.cells
    rcases hcd with ⟨rfl, hne⟩ | rfl
    · have n1 : (b != b2) = true := bne_iff_ne.2 hne
      go_upto_region 21 with fail
      refine Code.wp.kn (K17.al [.int .i64 x9, .slice none n9 k9] 27) ?_; clear K17 a1 a2 a3 d1 d2 d3; intro w18 K18
      obtain ⟨r1, r2, r3, a1, a2, a3, d1, d2, d3, -⟩ := K18.cells
      go_wp2_with fail
      go_ret
      exact ⟨rfl, K18.below⟩
    · go_upto_region 21 with fail
      refine Code.wp.kn (K17.al [.int .i64 x9, .slice none n9 k9] 27) ?_; clear K17 a1 a2 a3 d1 d2 d3; intro w18 K18
      obtain ⟨r1, r2, r3, a1, a2, a3, d1, d2, d3, -⟩ := K18.cells
      go_wp2_with fail
      go_ret
      exact ⟨rfl, K18.below⟩
  · subst hbb
    have K17 := K16.join hK
    clear hK K16 KAT a1 a2 a3 d1 d2 d3
    have KS3 := (fun W r => FactorOf_ok b E3 e3 ss W r hvs)
    have KT3 := (fun W r h => TurnsText_some b E3 e3 ss W r hvs h)
    rw [hfs] at KS3
    obtain ⟨p, hp⟩ : ∃ p, facL b xs = p := ⟨_, rfl⟩
    obtain ⟨q, hq⟩ : ∃ p, facL b ys = p := ⟨_, rfl⟩
    rw [hp] at KX KS3 bx
    rw [hq] at KY KS3 bY
    obtain ⟨r, hr⟩ : ∃ r, p + q = r := ⟨_, rfl⟩
    rw [hr] at KS3
    have hw1 : IntKind.i64.wrap (p + q) = r := by rw [hr]; exact wrapI64 (by omega)
    have z1 : (r == r) = true := beq_self_eq_true _
    replace KX := Lib.hid KX
    replace KY := Lib.hid KY
    replace KS3 := Lib.hid KS3
    replace KT3 := Lib.hid KT3
    clear hp hq hr hfs hvs bx bY HVX HVY
    obtain ⟨g22, hg⟩ : ∃ g, w17.heap.size = g := ⟨_, rfl⟩
    go_upto_region 21 with fail
    refine Code.wp.kn (K17.al [.int .i64 b, .slice E3 ss.length e3] 27) ?_; clear K17; intro w18 K18
    rw [hg] at K18
    try rw [hg]
    clear hg
    obtain ⟨r1, r2, r3, a1, a2, a3, d1, d2, d3, -⟩ := K18.cells
    go_wp2_with fail
    refine (KX.out _ (K18.front 5 rfl).riv).mono ?_; rintro e w19 ⟨rfl, hw⟩
    have K19 := K18.keep hw
    clear hw K18 KX r1 r2 r3 a1 a2 a3 d1 d2 d3
    obtain ⟨r1, r2, r3, a1, a2, a3, d1, d2, d3, -⟩ := K19.cells
    go_wp2_with fail
    refine (KY.out _ (K19.front 3 rfl).riv).mono ?_; rintro e w20 ⟨rfl, hw⟩
    have K20 := K19.keep hw
    clear hw K19 KY r1 r2 r3 a1 a2 a3 d1 d2 d3
    obtain ⟨r1, r2, r3, a1, a2, a3, d1, d2, d3, -⟩ := K20.cells
    go_wp2_with fail
    refine (KS3.out _ (K20.front 1 rfl).riv).mono ?_; rintro e w21 ⟨rfl, hw⟩
    have K21 := K20.keep hw
    clear hw K20 KS3 r1 r2 r3 a1 a2 a3 d1 d2 d3
    obtain ⟨r1, r2, r3, a1, a2, a3, d1, d2, d3, -⟩ := K21.cells
    go_wp2_with fail
    refine (KT3.out _ (K21.front 1 rfl).riv (HTB.out _ K21.below)).mono ?_; rintro e w22 ⟨T, rfl, hT, hw⟩
    have K22 := K21.keep hw
    clear hw K21 KT3 r1 r2 r3 a1 a2 a3 d1 d2 d3
    have hne : T.toList.isEmpty = false := str_nonempty (by omega)
    go_wp2_with fail
    go_ret
    exact ⟨rfl, K22.below⟩
end Go.Proofs.YtlhcilmnfmglfaaDoor

namespace Go.Proofs.YtlhcilmnfmglfaaDoor
open Go.RowKit Go.ChangeShapes Go.WideShapes Go.ChangeAt
theorem laid_tail {P : Program} {W : World} {x : String × DataW Unit} {rest : List (String × DataW Unit)} (h : laidMet P (x :: rest) W) : laidMet P rest W := by
  obtain ⟨ps, ⟨g, t, cs, fuel, p, q, h1, h2, h3, h4, h5, rfl⟩, hn, hr⟩ := h
  exact ⟨q, h5, (List.nodup_append.1 hn).2.1, fun b off hb => hr b off (List.mem_append_right _ hb)⟩
theorem cellsU64 : Tryd.prog.cellsOf 190 = 1 := by kernel_rfl
theorem cellsTab : Tryd.prog.cellsOf 245 = 20 := by kernel_rfl
theorem gTab : Tryd.prog.globalNamed "internal/strconv.uint64pow10" = some 0 := by kernel_rfl
theorem gTabType : (Tryd.prog.globals[0]?).map (·.type) = some 245 := by kernel_rfl
theorem tb_of_laid {W : World} (h : laidMetH Tryd.prog [("math/bits.deBruijn32tab", Rows.laid_math_bits_deBruijn32tab), ("math/bits.deBruijn64tab", Rows.laid_math_bits_deBruijn64tab), ("internal/strconv.uint64pow10", Rows.laid_internal_strconv_uint64pow10)] W) : TB W := by
  have h1 : laidMet Tryd.prog [("math/bits.deBruijn32tab", Rows.laid_math_bits_deBruijn32tab), ("math/bits.deBruijn64tab", Rows.laid_math_bits_deBruijn64tab), ("internal/strconv.uint64pow10", Rows.laid_internal_strconv_uint64pow10)] W := h
  exact Lib.tabIs_of_head (rest := []) gTab gTabType Tryd.underlying245 Tryd.underlying190 cellsU64 cellsTab (laid_tail (laid_tail h1))
def tabCells (l : DataW Unit) (k : IntKind) : Array Value := match l with
  | .agg ds => (ds.map fun d => match d with | .lit (.int _ n) => Value.int k n | _ => .int k 0).toArray
  | _ => #[]
def setTab (cs : Array Value) (o : Obj) : Obj := match o with
  | .cells _ t frozen => .cells cs t frozen
  | o => o
noncomputable def laidWorld (os : Os) : World :=
  { World.holding Tryd.prog os ⟨#[], #[], []⟩ with heap := (((World.holding Tryd.prog os ⟨#[], #[], []⟩).heap.modify 0 (setTab (tabCells Rows.laid_internal_strconv_uint64pow10 .u64))).modify 2 (setTab (tabCells Rows.laid_math_bits_deBruijn32tab .u8))).modify 3 (setTab (tabCells Rows.laid_math_bits_deBruijn64tab .u8)) }
theorem laid_met (os : Os) (args : Array Value) : laidMet Tryd.prog [("math/bits.deBruijn32tab", Rows.laid_math_bits_deBruijn32tab), ("math/bits.deBruijn64tab", Rows.laid_math_bits_deBruijn64tab), ("internal/strconv.uint64pow10", Rows.laid_internal_strconv_uint64pow10)] ((laidWorld os).forCall (fun _ _ => 0) ⟨#[], args, []⟩).memory :=
  laidMet_of_run' 8 (by kernel_rfl) (by kernel_rfl)
theorem own : ownKnob Tryd.prog.godebug = none := by kernel_rfl
theorem laidOut : laidOutB Tryd.prog = true := by kernel_rfl
end Go.Proofs.YtlhcilmnfmglfaaDoor

namespace Go.Proofs.YtlhcilmnfmglfaaDoor
open Go.RowKit Go.ChangeShapes Go.WideShapes Go.ChangeAt
section
variable {H : Type} {enc : TypeId × Value → H} {w : World} {base : Nat} {spare : Nat → Bool} {held : Bool} {fuel : Nat} {cs : List Value} {x : DataW H × List MemPlace}
theorem cellsU8 : Tryd.prog.cellsOf 5 = 1 := by kernel_rfl
theorem byteV_of (z : Int) (h0 : 0 ≤ z) (h1 : z ≤ 255) : Value.int .u8 z = byteV (UInt8.ofNat z.toNat) := by
  unfold byteV
  congr 1
  rw [UInt8.toNat_ofNat']
  omega
theorem rd_bytes (h : DataW.trod enc Tryd.prog w base spare held fuel 22 cs = some x) : ∃ A n c bs, cs = [.slice A n c] ∧ RB w A n bs ∧ n ≤ 9223372036854775807 := by
  rcases open_ints Tryd.underlying22 Tryd.underlying5 cellsU8 h with ⟨rfl, _⟩ | ⟨a, len, cap, zs, rfl, _, hl, hm, hz, _, hcell, hwf⟩
  · exact ⟨none, 0, 0, [], rfl, ⟨rfl, fun h => absurd h (by omega)⟩, by omega⟩
  · have hlen : len ≤ zs.length := by rw [hz]; split <;> omega
    have hw : ∀ z ∈ zs, 0 ≤ z ∧ z ≤ 255 := fun z hz => by
      have h := hwf z hz
      have h1 : IntKind.u8.min = 0 := by decide
      have h2 : IntKind.u8.max = 255 := by decide
      simp [Lit.wf] at h
      omega
    refine ⟨some a, len, cap, (zs.take len).map (fun z => UInt8.ofNat z.toNat), rfl, ⟨by simp; omega, fun h0 => ⟨a, rfl, ?_, fun j u hu => ?_⟩⟩, by simp only [maxLen] at hm; omega⟩
    · have := World.block_lt_of_cell? w _ (hcell 0 (by omega)); rwa [block_of_add] at this
    · rw [List.getElem?_map, List.getElem?_take] at hu
      split at hu
      · have hj : j < zs.length := by omega
        rw [List.getElem?_eq_getElem hj] at hu
        have hu' : UInt8.ofNat zs[j].toNat = u := by simpa using hu
        obtain ⟨z0, z1⟩ := hw zs[j] (List.getElem_mem _)
        rw [hcell j hj, ← hu', ← byteV_of _ z0 z1]
        simp [List.getD, List.getElem?_eq_getElem hj]
      · simp at hu
end
end Go.Proofs.YtlhcilmnfmglfaaDoor
