/- Part 8: lemmas and contracts of the claim's functions. -/
import Derived.Test.YtgpmngcemnnpmaaDoorZC1
import Derived.Test.YtgpmngcemnnpmaaDoorZC2
import Derived.Test.YtgpmngcemnnpmaaDoorZC3
import Derived.Test.YtgpmngcemnnpmaaDoorZC4
import Derived.Test.YtgpmngcemnnpmaaDoorZC5
import Derived.Test.YtgpmngcemnnpmaaDoorZC6
import Derived.Test.YtgpmngcemnnpmaaDoorZC7
import Derived.Deep.DeepCutAuto
import Derived.Lib.AppendStr
import Derived.Lib.ItoaLen
import Derived.Test.YtgpmngcemnnpmaaDoorShelf
namespace Go.Proofs.YtgpmngcemnnpmaaDoor
open Go.RowKit Go.Sort
/-- a drawn engine -/
def DEng (b M : Nat) (w : World) (e : Ending) (w' : World) : Prop := ∃ (wd n : Nat) (A : Option Addr) (c : Nat) (ds : List Int), e = .returned (.agg #[.int .i64 (wd : Int), .slice A n c]) ∧ (1 ≤ wd ∧ wd ≤ 6) ∧ (1 ≤ n ∧ n ≤ 7) ∧ ds.length = n ∧ InM (pw 10 wd) n (fnL ds) ∧ DR b M w [rowNN A n c ds] w'
theorem inM_mod {M : Int} (hM : 0 < M) (ds : List Int) {n : Nat} (hl : ds.length = n) : InM M n (fnL (modL M ds)) := fun i hi => by
  have e : fnL (modL M ds) i = ds[i] % M := by simp [fnL, modL, List.getD, show i < ds.length by omega]
  rw [e]
  exact ⟨Int.emod_nonneg _ (by omega), Int.emod_lt_of_pos _ hM⟩
theorem inM_all {M : Int} (ds : List Int) {n : Nat} (hl : ds.length = n) (h : ∀ d ∈ ds, 0 ≤ d ∧ d < M) : InM M n (fnL ds) := fun i hi => by
  have e : fnL ds i = ds[i] := by simp [fnL, List.getD, show i < ds.length by omega]
  rw [e]
  exact h _ (List.getElem_mem _)
set_option maxRecDepth 100000 in
set_option maxHeartbeats 6400000 in
theorem l16Draw_dr (b N : Nat) (w : World) (h : Src w b N) (hN : N ≤ 700000) :
    Calls Tryd.prog 49 #[.pointer (some ⟨b, 0, none⟩)] w (DEng b (N + 100) w) := by
  have D0 := DR.nil h
  clear h
  obtain ⟨h, hh⟩ : ∃ g, w.heap.size = g := ⟨_, rfl⟩
  have D1 := D0.al [.int .i64 0, .slice none 0 0] 45
  simp only [hh] at D1
  go_enter Tryd.func49, Tryd.ntmps49
  go_upto_region 1 with fail
  try rw [hh]
  refine Code.wp.dr D1 ?_; clear D0 D1 hh; intro w1 D1
  go_wp2_with fail
  refine (pick_dr b _ 6 w1 D1.src (by omega)).mono ?_; rintro e w2 ⟨y, rfl, hy, h2⟩
  have D2 := D1.add h2
  obtain ⟨wd, hwd⟩ : ∃ q : Nat, 1 + y = (q : Int) := ⟨(1 + y).toNat, by omega⟩
  have hw0 : IntKind.i64.wrap (1 + y) = (wd : Int) := by rw [hwd]; exact wrapI64 (by omega)
  have hwd1 : 1 ≤ wd ∧ wd ≤ 6 := by omega
  clear D1 h2 hy hwd
  go_wp2_with fail
  refine (one_dr b _ 2 w2 D2.src (by omega)).mono ?_; rintro e w3 ⟨bb, rfl, h3⟩
  have D3 := D2.add h3
  have HW := Lib.hid hwd1
  have hM := pw10_bd hwd1.1 (show wd ≤ 12 by omega)
  clear D2 h3 hw0 hwd1
  rcases bb with _ | _
  rotate_left
  · go_wp2_with fail
    have KD := l15DrawCoefs_dr b _ w3 D3.src (by omega)
    unfold DCo at KD
    refine KD.mono ?_; rintro e w4 ⟨A, n, c, ds, rfl, hn, hl, hb, h4⟩
    have D4 := D3.add h4
    have HI := Lib.hid (inM_mod (show 0 < pw 10 wd by omega) ds hl)
    have KN := Lib.hid (fun W hr => l16New_ok wd n A c ds W HW.out.1 (by have := HW.out; omega) (by omega) hr (fun d hd => by have := hb d hd; omega))
    have HL := Lib.hid hl
    have HN := Lib.hid hn
    clear D3 h4 KD hb hl hn
    go_wp2_with fail
    refine (KN.out _ (by obtain ⟨v, -, -, hK⟩ := D4; exact Kn.rivNN hK HL.out)).mono ?_; rintro e w5 ⟨E, ec, rfl, hK⟩
    have D5 := D4.ad hK
    clear hK D4 KN
    obtain ⟨a1, a2, a3, -⟩ := (D5.front 2 rfl).cells
    go_wp2_with fail
    refine bodyPost.dr (((D5.front 2 rfl).st 0 (.int .i64 (wd : Int))).st 1 (.slice E n ec)) ?_; intro w6 D6
    clear a1 a2 a3
    obtain ⟨a1, a2, a3, -⟩ := D6.cells
    refine bodyPost_ret (v := .agg #[.int .i64 (wd : Int), .slice E n ec]) (by simp [results, Tryd.results49, go_sem, a1]) rfl ⟨wd, n, E, ec, _, rfl, HW.out, HN.out, by unfold modL; rw [List.length_map]; exact HL.out, HI.out, ?_⟩
    exact (D6.sel [1] 99 (by decide) (by decide)).mono (by omega)
  · obtain ⟨g4, hg4⟩ : ∃ g, w3.heap.size = g := ⟨_, rfl⟩
    have D4 := D3.al [.int .i64 (wd : Int), .slice none 0 0] 45
    rw [hg4] at D4
    go_upto_region 5 with fail
    try rw [hg4]
    refine Code.wp.dr D4 ?_; clear D4 D3 hg4; intro w4 D4
    have D5 : DR b _ w [.row (.slice none 0 0) 2 1 ([] : List Int).length (([] : List Int).map (Value.int .i64)), .blk g4 [.int .i64 (wd : Int), .slice none 0 0] 45, .blk h [.int .i64 0, .slice none 0 0] 45] w4 := D4.kn (fun v hv => hv.nilRow _ _)
    clear D4
    go_wp2_with fail
    refine (pick_dr b _ 7 w4 D5.src (by omega)).mono ?_; rintro e w6 ⟨y2, rfl, hy2, h6⟩
    have D6 := D5.add h6
    obtain ⟨k0, hk0⟩ : ∃ q : Nat, 1 + y2 = (q : Int) := ⟨(1 + y2).toNat, by omega⟩
    have hw0 : IntKind.i64.wrap (1 + y2) = (k0 : Int) := by rw [hk0]; exact wrapI64 (by omega)
    have hk1 : 1 ≤ k0 ∧ k0 ≤ 7 := by omega
    clear D5 h6 hy2
    have KP := Lib.hid (fun W => l10Power10 wd W (by have := HW.out; omega))
    obtain ⟨M, hMM⟩ : ∃ M, pw 10 wd = M := ⟨_, rfl⟩
    rw [hMM] at hM
    simp only [hMM] at KP
    have HMM := Lib.hid hMM
    clear hMM
    go_wp2_with fail
    go_loopw [5] (fun kk wr => ∃ (k : Nat) (ts : List Int) (vv : Value), kk = .int .i64 (k : Int) ∧ ts.length + k = k0 ∧ Hid (∀ t ∈ ts, 0 ≤ t ∧ t < M) ∧ DR b (N + 60 - 2 * k) w [.row vv 2 1 ts.length (ts.map (Value.int .i64)), .blk g4 [.int .i64 (wd : Int), vv] 45, .blk h [.int .i64 0, .slice none 0 0] 45] wr) (fun kk _ => (intOf kk).toNat)
    case atStart => exact ⟨k0, [], _, by first | rfl | exact congrArg _ hk0, by simp, Lib.hid (fun t h => nomatch h), D6.mono (by omega)⟩
    case round =>
      clear D6 hk0 hw0
      obtain ⟨k, ts, vv, rfl, htk, HT4, D⟩ := hrel
      have HL := Lib.hid (show ts.length ≤ 10000000 by omega)
      by_cases hk : 0 < k
      · have i1 : (0 : Int) < (k : Int) := by omega
        go_upto_region 8 with fail
        refine wp_region_held_drew (S := fun _ => True) (by kernel_rfl) trivial (fun hHeld => ?_)
        have DS := D.drew
        try dsimp only
        generalize wr.drew = wd' at DS hHeld ⊢
        clear D
        refine wpAnyH_take (i := 0) (v := ?_) rfl (by kernel_rfl) (by kernel_rfl) (by kernel_rfl) (fun _ _ _ h => h) (Or.inl ⟨by rfl, ?_⟩) hHeld ?_
        rotate_left
        · (intro w hSw; (try dsimp only at hSw); go_simp; try with_reducible rfl)
        try simp only [Act.put, List.setIfInBounds_toArray, List.set_cons_zero, List.set_cons_succ, List.getElem_toArray, List.getElem_cons_succ, List.getElem_cons_zero]
        refine wpAnyH_take (i := 2) (v := ?_) rfl (by kernel_rfl) (by kernel_rfl) (by kernel_rfl) (fun _ _ _ h => h) (Or.inl ⟨by rfl, ?_⟩) hHeld ?_
        rotate_left
        · (intro w hSw; (try dsimp only at hSw); go_simp; try with_reducible rfl)
        try simp only [Act.put, List.setIfInBounds_toArray, List.set_cons_zero, List.set_cons_succ, List.getElem_toArray, List.getElem_cons_succ, List.getElem_cons_zero]
        refine wpAnyH_take (i := 3) (v := ?_) rfl (by kernel_rfl) (by kernel_rfl) (by kernel_rfl) (fun _ _ _ h => h) (Or.inl ⟨by rfl, ?_⟩) hHeld ?_
        rotate_left
        · (intro w hSw; (try dsimp only at hSw); go_simp; try with_reducible rfl)
        try simp only [Act.put, List.setIfInBounds_toArray, List.set_cons_zero, List.set_cons_succ, List.getElem_toArray, List.getElem_cons_succ, List.getElem_cons_zero]
        refine wpAnyH_ready (rs := [1, 4]) (by kernel_rfl) (by decide) (AllReadyH.cons (o := _) rfl (fun K hK' => ?_) (AllReadyH.cons (o := _) rfl (fun K hK' => ?_) AllReadyH.nil))
        · skip
          obtain ⟨o1, o2, o3, -⟩ := (DS.front 1 rfl).cells
          go_simp
          clear o1 o2 o3
          have KO1 := DS
          have HG := Lib.hid (trivial)
          refine hK'.out _ _ HG.out (fun hHeld2 => ?_)
          clear hK' hHeld
          have hHeld := hHeld2
          clear hHeld2
          try simp only [Act.put, List.setIfInBounds_toArray]
          refine wpAnyH_ready (rs := [4]) (by kernel_rfl) (by decide) (AllReadyH.cons (o := _) rfl (fun K hK' => ?_) AllReadyH.nil)
          go_simp
          go_at_call 84
          refine (KP.out _).mono ?_
          rintro e wq ⟨rfl, rfl⟩
          have KO2 := KO1
          have HG := Lib.hid (trivial)
          refine hK'.out _ _ HG.out (fun hHeld2 => ?_)
          clear hK' hHeld
          have hHeld := hHeld2
          clear hHeld2
          try simp only [Act.put, List.setIfInBounds_toArray]
          refine wpAnyH_ready (rs := [5]) (by kernel_rfl) (by decide) (AllReadyH.cons (o := _) rfl (fun K hK' => ?_) AllReadyH.nil)
          go_simp
          go_at_call 70
          refine (pick_dr b _ M _ KO2.src (by omega)).mono ?_
          rintro e wo3 ⟨x3, rfl, hx, hw⟩
          have KO3 := KO2.add hw
          clear hw
          have HB := Lib.hid (show 0 ≤ x3 ∧ x3 < M by omega)
          clear hx
          have HG := Lib.hid (trivial)
          refine hK'.out _ _ HG.out (fun hHeld2 => ?_)
          clear hK' hHeld
          have hHeld := hHeld2
          clear hHeld2
          try simp only [Act.put, List.setIfInBounds_toArray]
          refine wpAnyH_ready (rs := [6]) (by kernel_rfl) (by decide) (AllReadyH.cons (o := _) rfl (fun K hK' => ?_) AllReadyH.nil)
          go_simp
          have KO4 := KO3.al [.int .i64 x3] 2
          have HG := Lib.hid (trivial)
          refine hK'.out _ _ HG.out (fun hHeld2 => ?_)
          clear hK' hHeld
          have hHeld := hHeld2
          clear hHeld2
          try simp only [Act.put, List.setIfInBounds_toArray]
          generalize wo3.alloc (.cells #[.int .i64 x3] 2) = wo4 at KO4 hHeld ⊢
          obtain ⟨gl4, hgl4⟩ : ∃ g, wo3.heap.size = g := ⟨_, rfl⟩
          rw [hgl4] at KO4 ⊢
          clear hgl4
          refine wpAnyH_ready (rs := [7]) (by kernel_rfl) (by decide) (AllReadyH.cons (o := _) rfl (fun K hK' => ?_) AllReadyH.nil)
          obtain ⟨vd, hT, hS, hK6⟩ := (KO4.sel [0, 1, 2, 3] 99 (by decide) (by decide))
          refine kn_stepI (by rfl) _ _ (by rfl) vv ts (by rfl) (by rfl) hK6 HL.out ?_
          intro v' wo5 hK7
          obtain ⟨A5, c5, rfl⟩ := row_form hK7.at0
          obtain ⟨m9, hm9⟩ : ∃ m, (ts ++ [x3]).length = m := ⟨_, rfl⟩
          rw [hm9] at hK7
          try rw [hm9]
          have HM9 := Lib.hid hm9
          clear hm9
          have KO5 : DR b _ w _ wo5 := ⟨vd, hT, hS, hK7⟩
          clear hT hS hK7 hK6
          have HG := Lib.hid (trivial)
          refine hK'.out _ _ HG.out (fun hHeld2 => ?_)
          clear hK' hHeld
          have hHeld := hHeld2
          clear hHeld2
          try simp only [Act.put, List.setIfInBounds_toArray]
          refine wpAnyH_take (i := 8) (v := ?_) rfl (by kernel_rfl) (by kernel_rfl) (by kernel_rfl) (fun _ _ _ h => h) (Or.inl ⟨by rfl, ?_⟩) hHeld ?_
          rotate_left
          · (intro w hSw; (try dsimp only at hSw); go_simp; try with_reducible rfl)
          try simp only [Act.put, List.setIfInBounds_toArray, List.set_cons_zero, List.set_cons_succ, List.getElem_toArray, List.getElem_cons_succ, List.getElem_cons_zero]
          refine wpAnyH_ready (rs := [9]) (by kernel_rfl) (by decide) (AllReadyH.cons (o := _) rfl (fun K hK' => ?_) AllReadyH.nil)
          obtain ⟨s1, s2, s3, -⟩ := (KO5.front 1 rfl).cells
          have KO6 := ((KO5.front 1 rfl).st 1 (.slice A5 m9 c5))
          go_simp
          clear s1 s2 s3
          have HG := Lib.hid (trivial)
          refine hK'.out _ _ HG.out (fun hHeld2 => ?_)
          clear hK' hHeld
          have hHeld := hHeld2
          clear hHeld2
          try simp only [Act.put, List.setIfInBounds_toArray]
          refine wpAnyH_done (by kernel_rfl) ?_ _
          go_wp2_with fail
          go_roundw
          case rel => exact ⟨k - 1, ts ++ [x3], _, by go_num, by rw [List.length_append, List.length_singleton]; omega, Lib.hid (fun t ht => by
            rcases List.mem_append.1 ht with ht | ht
            · exact HT4.out t ht
            · rw [List.mem_singleton.1 ht]; exact HB.out), by rw [HM9.out]; exact (KO6.sel [1, 0, 2] 99 (by decide) (by decide)).mono (by omega)⟩
          case measure => simp [intOf] <;> omega
        · skip
          go_simp
          go_at_call 84
          refine (KP.out _).mono ?_
          rintro e wq ⟨rfl, rfl⟩
          have KO7 := DS
          have HG := Lib.hid (trivial)
          refine hK'.out _ _ HG.out (fun hHeld2 => ?_)
          clear hK' hHeld
          have hHeld := hHeld2
          clear hHeld2
          try simp only [Act.put, List.setIfInBounds_toArray]
          refine wpAnyH_ready (rs := [1, 5]) (by kernel_rfl) (by decide) (AllReadyH.cons (o := _) rfl (fun K hK' => ?_) (AllReadyH.cons (o := _) rfl (fun K hK' => ?_) AllReadyH.nil))
          · skip
            obtain ⟨o1, o2, o3, -⟩ := (KO7.front 1 rfl).cells
            go_simp
            clear o1 o2 o3
            have KO8 := KO7
            have HG := Lib.hid (trivial)
            refine hK'.out _ _ HG.out (fun hHeld2 => ?_)
            clear hK' hHeld
            have hHeld := hHeld2
            clear hHeld2
            try simp only [Act.put, List.setIfInBounds_toArray]
            refine wpAnyH_ready (rs := [5]) (by kernel_rfl) (by decide) (AllReadyH.cons (o := _) rfl (fun K hK' => ?_) AllReadyH.nil)
            go_simp
            go_at_call 70
            refine (pick_dr b _ M _ KO8.src (by omega)).mono ?_
            rintro e wo9 ⟨x9, rfl, hx, hw⟩
            have KO9 := KO8.add hw
            clear hw
            have HB := Lib.hid (show 0 ≤ x9 ∧ x9 < M by omega)
            clear hx
            have HG := Lib.hid (trivial)
            refine hK'.out _ _ HG.out (fun hHeld2 => ?_)
            clear hK' hHeld
            have hHeld := hHeld2
            clear hHeld2
            try simp only [Act.put, List.setIfInBounds_toArray]
            refine wpAnyH_ready (rs := [6]) (by kernel_rfl) (by decide) (AllReadyH.cons (o := _) rfl (fun K hK' => ?_) AllReadyH.nil)
            go_simp
            have KO10 := KO9.al [.int .i64 x9] 2
            have HG := Lib.hid (trivial)
            refine hK'.out _ _ HG.out (fun hHeld2 => ?_)
            clear hK' hHeld
            have hHeld := hHeld2
            clear hHeld2
            try simp only [Act.put, List.setIfInBounds_toArray]
            generalize wo9.alloc (.cells #[.int .i64 x9] 2) = wo10 at KO10 hHeld ⊢
            obtain ⟨gl10, hgl10⟩ : ∃ g, wo9.heap.size = g := ⟨_, rfl⟩
            rw [hgl10] at KO10 ⊢
            clear hgl10
            refine wpAnyH_ready (rs := [7]) (by kernel_rfl) (by decide) (AllReadyH.cons (o := _) rfl (fun K hK' => ?_) AllReadyH.nil)
            obtain ⟨vd, hT, hS, hK6⟩ := (KO10.sel [0, 1, 2, 3] 99 (by decide) (by decide))
            refine kn_stepI (by rfl) _ _ (by rfl) vv ts (by rfl) (by rfl) hK6 HL.out ?_
            intro v' wo11 hK7
            obtain ⟨A11, c11, rfl⟩ := row_form hK7.at0
            obtain ⟨m9, hm9⟩ : ∃ m, (ts ++ [x9]).length = m := ⟨_, rfl⟩
            rw [hm9] at hK7
            try rw [hm9]
            have HM9 := Lib.hid hm9
            clear hm9
            have KO11 : DR b _ w _ wo11 := ⟨vd, hT, hS, hK7⟩
            clear hT hS hK7 hK6
            have HG := Lib.hid (trivial)
            refine hK'.out _ _ HG.out (fun hHeld2 => ?_)
            clear hK' hHeld
            have hHeld := hHeld2
            clear hHeld2
            try simp only [Act.put, List.setIfInBounds_toArray]
            refine wpAnyH_take (i := 8) (v := ?_) rfl (by kernel_rfl) (by kernel_rfl) (by kernel_rfl) (fun _ _ _ h => h) (Or.inl ⟨by rfl, ?_⟩) hHeld ?_
            rotate_left
            · (intro w hSw; (try dsimp only at hSw); go_simp; try with_reducible rfl)
            try simp only [Act.put, List.setIfInBounds_toArray, List.set_cons_zero, List.set_cons_succ, List.getElem_toArray, List.getElem_cons_succ, List.getElem_cons_zero]
            refine wpAnyH_ready (rs := [9]) (by kernel_rfl) (by decide) (AllReadyH.cons (o := _) rfl (fun K hK' => ?_) AllReadyH.nil)
            obtain ⟨s1, s2, s3, -⟩ := (KO11.front 1 rfl).cells
            have KO12 := ((KO11.front 1 rfl).st 1 (.slice A11 m9 c11))
            go_simp
            clear s1 s2 s3
            have HG := Lib.hid (trivial)
            refine hK'.out _ _ HG.out (fun hHeld2 => ?_)
            clear hK' hHeld
            have hHeld := hHeld2
            clear hHeld2
            try simp only [Act.put, List.setIfInBounds_toArray]
            refine wpAnyH_done (by kernel_rfl) ?_ _
            go_wp2_with fail
            go_roundw
            case rel => exact ⟨k - 1, ts ++ [x9], _, by go_num, by rw [List.length_append, List.length_singleton]; omega, Lib.hid (fun t ht => by
              rcases List.mem_append.1 ht with ht | ht
              · exact HT4.out t ht
              · rw [List.mem_singleton.1 ht]; exact HB.out), by rw [HM9.out]; exact (KO12.sel [1, 0, 2] 99 (by decide) (by decide)).mono (by omega)⟩
            case measure => simp [intOf] <;> omega
          · skip
            go_simp
            go_at_call 70
            refine (pick_dr b _ M _ KO7.src (by omega)).mono ?_
            rintro e wo13 ⟨x13, rfl, hx, hw⟩
            have KO13 := KO7.add hw
            clear hw
            have HB := Lib.hid (show 0 ≤ x13 ∧ x13 < M by omega)
            clear hx
            have HG := Lib.hid (trivial)
            refine hK'.out _ _ HG.out (fun hHeld2 => ?_)
            clear hK' hHeld
            have hHeld := hHeld2
            clear hHeld2
            try simp only [Act.put, List.setIfInBounds_toArray]
            refine wpAnyH_ready (rs := [1, 6]) (by kernel_rfl) (by decide) (AllReadyH.cons (o := _) rfl (fun K hK' => ?_) (AllReadyH.cons (o := _) rfl (fun K hK' => ?_) AllReadyH.nil))
            · skip
              obtain ⟨o1, o2, o3, -⟩ := (KO13.front 1 rfl).cells
              go_simp
              clear o1 o2 o3
              have KO14 := KO13
              have HG := Lib.hid (trivial)
              refine hK'.out _ _ HG.out (fun hHeld2 => ?_)
              clear hK' hHeld
              have hHeld := hHeld2
              clear hHeld2
              try simp only [Act.put, List.setIfInBounds_toArray]
              refine wpAnyH_ready (rs := [6]) (by kernel_rfl) (by decide) (AllReadyH.cons (o := _) rfl (fun K hK' => ?_) AllReadyH.nil)
              go_simp
              have KO15 := KO14.al [.int .i64 x13] 2
              have HG := Lib.hid (trivial)
              refine hK'.out _ _ HG.out (fun hHeld2 => ?_)
              clear hK' hHeld
              have hHeld := hHeld2
              clear hHeld2
              try simp only [Act.put, List.setIfInBounds_toArray]
              generalize wo13.alloc (.cells #[.int .i64 x13] 2) = wo15 at KO15 hHeld ⊢
              obtain ⟨gl15, hgl15⟩ : ∃ g, wo13.heap.size = g := ⟨_, rfl⟩
              rw [hgl15] at KO15 ⊢
              clear hgl15
              refine wpAnyH_ready (rs := [7]) (by kernel_rfl) (by decide) (AllReadyH.cons (o := _) rfl (fun K hK' => ?_) AllReadyH.nil)
              obtain ⟨vd, hT, hS, hK6⟩ := (KO15.sel [0, 1, 2, 3] 99 (by decide) (by decide))
              refine kn_stepI (by rfl) _ _ (by rfl) vv ts (by rfl) (by rfl) hK6 HL.out ?_
              intro v' wo16 hK7
              obtain ⟨A16, c16, rfl⟩ := row_form hK7.at0
              obtain ⟨m9, hm9⟩ : ∃ m, (ts ++ [x13]).length = m := ⟨_, rfl⟩
              rw [hm9] at hK7
              try rw [hm9]
              have HM9 := Lib.hid hm9
              clear hm9
              have KO16 : DR b _ w _ wo16 := ⟨vd, hT, hS, hK7⟩
              clear hT hS hK7 hK6
              have HG := Lib.hid (trivial)
              refine hK'.out _ _ HG.out (fun hHeld2 => ?_)
              clear hK' hHeld
              have hHeld := hHeld2
              clear hHeld2
              try simp only [Act.put, List.setIfInBounds_toArray]
              refine wpAnyH_take (i := 8) (v := ?_) rfl (by kernel_rfl) (by kernel_rfl) (by kernel_rfl) (fun _ _ _ h => h) (Or.inl ⟨by rfl, ?_⟩) hHeld ?_
              rotate_left
              · (intro w hSw; (try dsimp only at hSw); go_simp; try with_reducible rfl)
              try simp only [Act.put, List.setIfInBounds_toArray, List.set_cons_zero, List.set_cons_succ, List.getElem_toArray, List.getElem_cons_succ, List.getElem_cons_zero]
              refine wpAnyH_ready (rs := [9]) (by kernel_rfl) (by decide) (AllReadyH.cons (o := _) rfl (fun K hK' => ?_) AllReadyH.nil)
              obtain ⟨s1, s2, s3, -⟩ := (KO16.front 1 rfl).cells
              have KO17 := ((KO16.front 1 rfl).st 1 (.slice A16 m9 c16))
              go_simp
              clear s1 s2 s3
              have HG := Lib.hid (trivial)
              refine hK'.out _ _ HG.out (fun hHeld2 => ?_)
              clear hK' hHeld
              have hHeld := hHeld2
              clear hHeld2
              try simp only [Act.put, List.setIfInBounds_toArray]
              refine wpAnyH_done (by kernel_rfl) ?_ _
              go_wp2_with fail
              go_roundw
              case rel => exact ⟨k - 1, ts ++ [x13], _, by go_num, by rw [List.length_append, List.length_singleton]; omega, Lib.hid (fun t ht => by
                rcases List.mem_append.1 ht with ht | ht
                · exact HT4.out t ht
                · rw [List.mem_singleton.1 ht]; exact HB.out), by rw [HM9.out]; exact (KO17.sel [1, 0, 2] 99 (by decide) (by decide)).mono (by omega)⟩
              case measure => simp [intOf] <;> omega
            · skip
              go_simp
              have KO18 := KO13.al [.int .i64 x13] 2
              have HG := Lib.hid (trivial)
              refine hK'.out _ _ HG.out (fun hHeld2 => ?_)
              clear hK' hHeld
              have hHeld := hHeld2
              clear hHeld2
              try simp only [Act.put, List.setIfInBounds_toArray]
              generalize wo13.alloc (.cells #[.int .i64 x13] 2) = wo18 at KO18 hHeld ⊢
              obtain ⟨gl18, hgl18⟩ : ∃ g, wo13.heap.size = g := ⟨_, rfl⟩
              rw [hgl18] at KO18 ⊢
              clear hgl18
              refine wpAnyH_ready (rs := [1]) (by kernel_rfl) (by decide) (AllReadyH.cons (o := _) rfl (fun K hK' => ?_) AllReadyH.nil)
              obtain ⟨o1, o2, o3, -⟩ := (KO18.front 2 rfl).cells
              go_simp
              clear o1 o2 o3
              have KO19 := KO18
              have HG := Lib.hid (trivial)
              refine hK'.out _ _ HG.out (fun hHeld2 => ?_)
              clear hK' hHeld
              have hHeld := hHeld2
              clear hHeld2
              try simp only [Act.put, List.setIfInBounds_toArray]
              refine wpAnyH_ready (rs := [7]) (by kernel_rfl) (by decide) (AllReadyH.cons (o := _) rfl (fun K hK' => ?_) AllReadyH.nil)
              obtain ⟨vd, hT, hS, hK6⟩ := (KO19.sel [0, 1, 2, 3] 99 (by decide) (by decide))
              refine kn_stepI (by rfl) _ _ (by rfl) vv ts (by rfl) (by rfl) hK6 HL.out ?_
              intro v' wo20 hK7
              obtain ⟨A20, c20, rfl⟩ := row_form hK7.at0
              obtain ⟨m9, hm9⟩ : ∃ m, (ts ++ [x13]).length = m := ⟨_, rfl⟩
              rw [hm9] at hK7
              try rw [hm9]
              have HM9 := Lib.hid hm9
              clear hm9
              have KO20 : DR b _ w _ wo20 := ⟨vd, hT, hS, hK7⟩
              clear hT hS hK7 hK6
              have HG := Lib.hid (trivial)
              refine hK'.out _ _ HG.out (fun hHeld2 => ?_)
              clear hK' hHeld
              have hHeld := hHeld2
              clear hHeld2
              try simp only [Act.put, List.setIfInBounds_toArray]
              refine wpAnyH_take (i := 8) (v := ?_) rfl (by kernel_rfl) (by kernel_rfl) (by kernel_rfl) (fun _ _ _ h => h) (Or.inl ⟨by rfl, ?_⟩) hHeld ?_
              rotate_left
              · (intro w hSw; (try dsimp only at hSw); go_simp; try with_reducible rfl)
              try simp only [Act.put, List.setIfInBounds_toArray, List.set_cons_zero, List.set_cons_succ, List.getElem_toArray, List.getElem_cons_succ, List.getElem_cons_zero]
              refine wpAnyH_ready (rs := [9]) (by kernel_rfl) (by decide) (AllReadyH.cons (o := _) rfl (fun K hK' => ?_) AllReadyH.nil)
              obtain ⟨s1, s2, s3, -⟩ := (KO20.front 1 rfl).cells
              have KO21 := ((KO20.front 1 rfl).st 1 (.slice A20 m9 c20))
              go_simp
              clear s1 s2 s3
              have HG := Lib.hid (trivial)
              refine hK'.out _ _ HG.out (fun hHeld2 => ?_)
              clear hK' hHeld
              have hHeld := hHeld2
              clear hHeld2
              try simp only [Act.put, List.setIfInBounds_toArray]
              refine wpAnyH_done (by kernel_rfl) ?_ _
              go_wp2_with fail
              go_roundw
              case rel => exact ⟨k - 1, ts ++ [x13], _, by go_num, by rw [List.length_append, List.length_singleton]; omega, Lib.hid (fun t ht => by
                rcases List.mem_append.1 ht with ht | ht
                · exact HT4.out t ht
                · rw [List.mem_singleton.1 ht]; exact HB.out), by rw [HM9.out]; exact (KO21.sel [1, 0, 2] 99 (by decide) (by decide)).mono (by omega)⟩
              case measure => simp [intOf] <;> omega
      · have i1 : ¬ (0 : Int) < (k : Int) := by omega
        obtain ⟨A, c, hv⟩ : ∃ A c, vv = .slice A ts.length c := by
          obtain ⟨vd, hT, hS, hK⟩ := D
          exact row_form hK.at0
        subst hv
        have HTL := Lib.hid (show 1 ≤ ts.length ∧ ts.length ≤ 7 by omega)
        have HI := Lib.hid (inM_all ts rfl HT4.out)
        clear htk hk1 HT4
        obtain ⟨n, hn⟩ : ∃ n, ts.length = n := ⟨_, rfl⟩
        rw [hn] at D HTL HI HL
        have HN := Lib.hid hn
        clear hn
        obtain ⟨o1, o2, o3, z1, z2, z3, -⟩ := D.cells
        go_wp2_with fail
        refine bodyPost.dr (((D.front 2 rfl).st 0 (.int .i64 (wd : Int))).st 1 (.slice A n c)) ?_; intro w6 D6
        clear o1 o2 o3 z1 z2 z3
        obtain ⟨a1, a2, a3, -⟩ := D6.cells
        refine bodyPost_ret (v := .agg #[.int .i64 (wd : Int), .slice A n c]) (by simp [results, Tryd.results49, go_sem, a1]) rfl ⟨wd, n, A, c, ts, rfl, HW.out, HTL.out, HN.out, by rw [HMM.out]; exact HI.out, ?_⟩
        exact (D6.sel [1] 99 (by decide) (by decide)).mono (by omega)
set_option maxRecDepth 100000 in
set_option maxHeartbeats 1600000 in
theorem A2Engine_any (A : Option Addr) (n c : Nat) (bs : List UInt8) (w : World) (hb : RB w A n bs) (hn : n ≤ 9223372036854775807) :
    Calls Tryd.prog 15 #[.slice A n c] w fun e w' => ∃ (wd n : Nat) (A : Option Addr) (c : Nat) (ds : List Int), e = .returned (.agg #[.int .i64 (wd : Int), .slice A n c]) ∧ (1 ≤ wd ∧ wd ≤ 6) ∧ (1 ≤ n ∧ n ≤ 7) ∧ Hid (ds.length = n) ∧ InM (pw 10 wd) n (fnL ds) ∧ Kn w [rowNN A n c ds] w' := by
  have HB := Lib.hid hb
  clear hb
  go_enter Tryd.func15, Tryd.ntmps15
  go_wp2_with fail
  refine Calls.kn ((Kn.nil w).al [.int .i64 0, .slice none 0 0] 45) ?_; intro w1 K1
  refine (l00From_any A n c bs w1 (HB.out.below K1.below) hn).mono ?_; rintro e w2 ⟨rfl, hs, hb2⟩
  have D2 := DR.nil hs
  clear HB hs
  go_wp2_with fail
  have KD := l16Draw_dr _ _ w2 D2.src (by omega)
  unfold DEng at KD
  refine KD.mono ?_; rintro e w3 ⟨wd, m, A, c, ds, rfl, hwd, hm, hl, hi, h3⟩
  have D3 := D2.add h3
  clear D2 h3 KD
  have K3 : Kn w [rowNN A m c ds, .blk w.heap.size [.int .i64 0, .slice none 0 0] 45] w3 := K1.join (Kn.ofDR hb2 (Nat.le_refl _) D3)
  have HH := Lib.hid (And.intro hwd (And.intro hm (And.intro hl hi)))
  clear hwd hm hl hi
  obtain ⟨a1, a2, a3, -⟩ := (K3.front 1 rfl).cells
  go_wp2_with fail
  refine bodyPost.kn (((K3.front 1 rfl).st 0 (.int .i64 (wd : Int))).st 1 (.slice A m c)) ?_; intro w6 K6
  clear a1 a2 a3
  obtain ⟨a1, a2, a3, -⟩ := K6.cells
  refine bodyPost_ret (v := .agg #[.int .i64 (wd : Int), .slice A m c]) (by simp [results, Tryd.results15, go_sem, a1]) rfl ⟨wd, m, A, c, ds, rfl, HH.out.1, HH.out.2.1, HH.out.2.2.1, HH.out.2.2.2, K6.sel [1] 99 (by decide) (by decide)⟩
end Go.Proofs.YtgpmngcemnnpmaaDoor

namespace Go.Proofs.YtgpmngcemnnpmaaDoor
open Go.RowKit Go.Sort
/-- the checksum of bytes -/
def sumB (bs : List UInt8) : Int := bs.foldl (fun a b => (31 * a + (b.toNat : Int) + 1) % 65521) 7
theorem sumB_bd (bs : List UInt8) : 0 ≤ sumB bs ∧ sumB bs < 65521 := by
  rcases List.eq_nil_or_concat bs with rfl | ⟨l, b, rfl⟩
  · simp [sumB]
  · simp only [sumB, List.concat_eq_append, List.foldl_append, List.foldl_cons, List.foldl_nil]
    omega
theorem sumB_snoc (l : List UInt8) (b : UInt8) : sumB (l ++ [b]) = (31 * sumB l + (b.toNat : Int) + 1) % 65521 := by simp [sumB]
end Go.Proofs.YtgpmngcemnnpmaaDoor

namespace Go.Proofs.YtgpmngcemnnpmaaDoor
open Go.RowKit Go.Sort
/-- bytes with their checksum behind them -/
def sealB (bs : List UInt8) : List UInt8 := bs ++ [UInt8.ofNat (sumB bs / 256).toNat, UInt8.ofNat (sumB bs % 256).toNat]
theorem ofNat_byte {z : Int} (h0 : 0 ≤ z) (h1 : z < 256) : Value.int .u8 z = byteV (UInt8.ofNat z.toNat) := by
  unfold byteV
  congr 1
  rw [UInt8.toNat_ofNat']
  omega
theorem ownB_form {w : World} {base n c : Nat} {A : Option Addr} {bs : List UInt8} (h : OwnB w base (.slice A n c) bs) : bs.length = n ∧ RB w A n bs := by
  obtain ⟨A', c', e, h2, -⟩ := h.reads
  injection e with e1 e2 e3
  rw [e1, e2]; exact ⟨rfl, h2⟩
theorem bytes_one (bs : List UInt8) : ∀ u ∈ bs.map byteV, u.oneCell' = true := by
  intro u hu
  obtain ⟨b, -, rfl⟩ := List.mem_map.1 hu
  rfl
end Go.Proofs.YtgpmngcemnnpmaaDoor

namespace Go.Proofs.YtgpmngcemnnpmaaDoor
open Go.RowKit Go.Sort
/-- byte j of the digits, two in a byte -/
def pairAt (ds : List Int) (j : Nat) : Int := 16 * ds.getD (j * 2) 0 + ds.getD (j * 2 + 1) 0
def toB (z : Int) : UInt8 := UInt8.ofNat z.toNat
def regB (base : Int) (ds : List Int) : List UInt8 := toB (16 * (base - 1) + (ds.length - 1)) :: (List.range ((ds.length + 1) / 2)).map (fun j => toB (pairAt ds j))
theorem riB {w W wr : World} {B : Nat} {A : Option Addr} {n : Nat} {ds : List Int} (h : RI w A n ds) (hb : Below B W wr) (hW : B = w.heap.size + 1 ∧ Below w.heap.size w W) : RI wr A n ds := by
  have h1 := h.below hW.2
  refine ⟨h.1, fun hn => ?_⟩
  obtain ⟨ad, e, hl, hc⟩ := h.2 hn
  obtain ⟨ad', e', hl', hc'⟩ := h1.2 hn
  have hs := hb.size
  rw [e] at e'
  injection e' with e'
  subst e'
  refine ⟨ad, e, by omega, fun j u hu => ?_⟩
  rw [hb.cell (by rw [block_of_add]; omega)]
  exact hc' j u hu
theorem ownB_below {w w' : World} {base : Nat} {v : Value} {bs : List UInt8} (h : OwnB w base v bs) (hb : Below w.heap.size w w') : OwnB w' base v bs := by
  refine ⟨h.1, ?_⟩
  rcases h.2 with hn | ⟨g, cap, cur, rfl, hbg, hg, rest⟩
  · exact .inl hn
  · exact .inr ⟨g, cap, cur, rfl, hbg, by rw [hb.block g (Array.getElem?_eq_some_iff.1 hg).1]; exact hg, rest⟩
theorem ownB_lo {w : World} {base : Nat} {v : Value} {bs : List UInt8} (h : OwnB w base v bs) : ∀ k, v.ownBlock = some k → base ≤ k := by
  intro k hk
  rcases h.2 with ⟨rfl, -⟩ | ⟨g, cap, cur, rfl, hb, -⟩
  · simp [Value.ownBlock] at hk
  · simp only [Value.ownBlock, Option.some.injEq] at hk; omega
theorem addr_pos (p : Addr) (j : Nat) (h : j ≠ 0) : p.add j = ⟨p.block, p.off + j, none⟩ := by unfold Addr.add; rw [if_neg h]
theorem ownB_mono {w : World} {base b' : Nat} {v : Value} {bs : List UInt8} (h : OwnB w base v bs) (hb : b' ≤ base) : OwnB w b' v bs := by
  refine ⟨h.1, ?_⟩
  rcases h.2 with hn | ⟨g, cap, cur, rfl, hbg, hg, rest⟩
  · exact .inl hn
  · exact .inr ⟨g, cap, cur, rfl, by omega, hg, rest⟩
theorem own_litB {w : World} {base g n size : Nat} {e : TypeId} {cs : Array Value} (hg : w.heap[g]? = some (.cells cs e (0, 0))) (hb : base ≤ g) (hs : cs.size = n * size) (hn : n ≤ maxLen) : w.ownsRow base e size (.slice (some ⟨g, 0, none⟩) n n) n cs.toList :=
  ⟨by rw [Array.length_toList]; exact hs, .inr ⟨g, n, cs, rfl, hb, hg, Nat.le_refl _, hn, hs, by rw [← hs, ← Array.length_toList]; exact List.take_length⟩⟩
end Go.Proofs.YtgpmngcemnnpmaaDoor

namespace Go.Proofs.YtgpmngcemnnpmaaDoor
open Go.RowKit Go.Sort
/-- a register as sealed bytes -/
def packR (base : Int) (ds : List Int) : List UInt8 := sealB (82 :: regB base ds)
theorem regB_len (base : Int) (ds : List Int) : (regB base ds).length = (ds.length + 1) / 2 + 1 := by simp [regB]
theorem ownB_cells {w : World} {base n c : Nat} {A : Option Addr} {bs : List UInt8} (h : OwnB w base (.slice A n c) bs) (hn : 0 < n) : ∃ g, A = some ⟨g, 0, none⟩ ∧ ∀ j u, (bs.map byteV)[j]? = some u → w.cell? ((⟨g, 0, none⟩ : Addr).add j) = some u := by
  rcases h.2 with ⟨e, hz⟩ | ⟨g, cap, cur, e, hbg, hc, -⟩
  · have := (ownB_form h).1; omega
  · injection e with e _ _
    subst e
    exact ⟨g, rfl, fun j u hu => h.cells (g := g) rfl j u hu⟩
end Go.Proofs.YtgpmngcemnnpmaaDoor

namespace Go.Proofs.YtgpmngcemnnpmaaDoor
open Go.RowKit Go.Sort
/-- digit k of packed digits -/
def digK (tl : List UInt8) (k : Nat) : Int := if k % 2 = 0 then ((tl.getD (k / 2) 0).toNat / 16 : Nat) else ((tl.getD (k / 2) 0).toNat % 16 : Nat)
def digL (tl : List UInt8) (n : Nat) : List Int := (List.range n).map (digK tl)
theorem digL_succ (tl : List UInt8) (n : Nat) : digL tl (n + 1) = digL tl n ++ [digK tl n] := by simp [digL, List.range_succ]
theorem digL_len (tl : List UInt8) (n : Nat) : (digL tl n).length = n := by simp [digL]
/-- base and width that the first byte tells -/
def bas (b : UInt8) : Nat := b.toNat / 16 + 1
def wdt (b : UInt8) : Nat := b.toNat % 16 + 1
end Go.Proofs.YtgpmngcemnnpmaaDoor

namespace Go.Proofs.YtgpmngcemnnpmaaDoor
open Go.RowKit Go.Sort
/-- an odd register's last half byte is 0 -/
def fineL (tl : List UInt8) (n : Nat) : Bool := n % 2 == 0 || (tl.getD ((n + 1) / 2 - 1) 0).toNat % 16 == 0
end Go.Proofs.YtgpmngcemnnpmaaDoor

namespace Go.Proofs.YtgpmngcemnnpmaaDoor
open Go.RowKit Go.Sort
/-- are there enough bytes for a register; the register; what is behind it -/
def tkOk : List UInt8 → Bool
  | [] => false
  | b :: tl => decide ((wdt b + 1) / 2 ≤ tl.length)
def tkReg : List UInt8 → Reg
  | [] => ⟨0, []⟩
  | b :: tl => if (wdt b + 1) / 2 ≤ tl.length then ⟨bas b, digL tl (wdt b)⟩ else ⟨0, []⟩
def tkRest : List UInt8 → List UInt8
  | [] => []
  | b :: tl => if (wdt b + 1) / 2 ≤ tl.length then tl.drop ((wdt b + 1) / 2) else []
/-- an odd register's last half byte is 0 -/
def tkFine : List UInt8 → Bool
  | [] => false
  | b :: tl => decide ((wdt b + 1) / 2 ≤ tl.length) && fineL tl (wdt b)
/-- what packed digits say -/
theorem toB_byte (b : UInt8) (z : Int) (h : z = b.toNat) : toB z = b := by
  subst h
  unfold toB
  simp
theorem digL_getD (tl : List UInt8) (n k : Nat) : (digL tl n).getD k 0 = if k < n then digK tl k else 0 := by
  unfold digL
  by_cases h : k < n
  · rw [if_pos h]; simp [List.getD, h]
  · rw [if_neg h]; simp [List.getD, List.getElem?_eq_none (show (List.map (digK tl) (List.range n)).length ≤ k by simp; omega)]
theorem regB_digL (b : UInt8) (tl : List UInt8) (hl : tl.length = (wdt b + 1) / 2) (hf : fineL tl (wdt b) = true) : regB (bas b) (digL tl (wdt b)) = b :: tl := by
  have hw : wdt b = b.toNat % 16 + 1 := rfl
  have hb : bas b = b.toNat / 16 + 1 := rfl
  unfold regB
  rw [digL_len]
  congr 1
  · refine toB_byte b _ ?_
    rw [hw, hb]; omega
  · refine List.ext_getElem (by simp [hl]) fun j h1 h2 => ?_
    simp only [List.getElem_map, List.getElem_range]
    refine toB_byte _ _ ?_
    have hj : j < (wdt b + 1) / 2 := by simpa using h1
    have hg : tl.getD j 0 = tl[j] := by simp [List.getD, List.getElem?_eq_getElem h2]
    unfold pairAt
    rw [digL_getD, digL_getD, if_pos (by omega)]
    have d0 : digK tl (j * 2) = ((tl[j].toNat / 16 : Nat) : Int) := by
      unfold digK; rw [if_pos (by omega), show j * 2 / 2 = j by omega, hg]
    have d1 : digK tl (j * 2 + 1) = ((tl[j].toNat % 16 : Nat) : Int) := by
      unfold digK; rw [if_neg (by omega), show (j * 2 + 1) / 2 = j by omega, hg]
    rw [d0, d1]
    by_cases hj2 : j * 2 + 1 < wdt b
    · rw [if_pos hj2]; omega
    · rw [if_neg hj2]
      have hodd : wdt b % 2 = 1 := by omega
      have hje : (wdt b + 1) / 2 - 1 = j := by omega
      unfold fineL at hf
      rw [hje, hg] at hf
      have : tl[j].toNat % 16 = 0 := by
        rcases Bool.or_eq_true _ _ ▸ hf with h | h
        · rw [beq_iff_eq] at h; omega
        · rw [beq_iff_eq] at h; exact h
      omega
/-- what a register's bytes read as, whatever lies behind them -/
theorem tk_regB (base : Int) (ds : List Int) (more : List UInt8) (h : vreg base ds = true) : tkOk (regB base ds ++ more) = true ∧ tkReg (regB base ds ++ more) = ⟨base, ds⟩ ∧ tkRest (regB base ds ++ more) = more ∧ tkFine (regB base ds ++ more) = true := by
  obtain ⟨⟨b1, b2⟩, ⟨n1, n2⟩, hd, -⟩ := vreg_iff.1 h
  obtain ⟨b, hb⟩ : ∃ b, b = toB (16 * (base - 1) + ((ds.length : Int) - 1)) := ⟨_, rfl⟩
  obtain ⟨tl, htl⟩ : ∃ tl, tl = (List.range ((ds.length + 1) / 2)).map (fun j => toB (pairAt ds j)) := ⟨_, rfl⟩
  have hreg : regB base ds = b :: tl := by unfold regB; rw [← hb, ← htl]
  have hbn : b.toNat = (16 * (base - 1) + ((ds.length : Int) - 1)).toNat := by
    rw [hb]; unfold toB; rw [UInt8.toNat_ofNat']; omega
  have hw : wdt b = ds.length := by unfold wdt; omega
  have hbs : (bas b : Int) = base := by unfold bas; omega
  have hlen : tl.length = (ds.length + 1) / 2 := by rw [htl]; simp
  have hle : (wdt b + 1) / 2 ≤ (tl ++ more).length := by rw [hw, List.length_append, hlen]; omega
  have hget : ∀ j, j < (ds.length + 1) / 2 → ((tl ++ more).getD j 0).toNat = (pairAt ds j).toNat ∧ 0 ≤ pairAt ds j ∧ pairAt ds j < 256 := by
    intro j hj
    have hp : 0 ≤ pairAt ds j ∧ pairAt ds j < 256 := by
      unfold pairAt
      have q : ∀ k, 0 ≤ ds.getD k 0 ∧ ds.getD k 0 < 16 := by
        intro k
        by_cases hk : k < ds.length
        · have := hd _ (List.getElem_mem hk)
          rw [show ds.getD k 0 = ds[k] by simp [List.getD, List.getElem?_eq_getElem hk]]; omega
        · rw [show ds.getD k 0 = 0 by simp [List.getD, List.getElem?_eq_none (show ds.length ≤ k by omega)]]; omega
      have := q (j * 2); have := q (j * 2 + 1); omega
    refine ⟨?_, hp⟩
    have hjl : j < tl.length := by omega
    rw [show (tl ++ more).getD j 0 = tl[j] by simp [List.getD, List.getElem?_append_left hjl, List.getElem?_eq_getElem hjl]]
    simp only [htl, List.getElem_map, List.getElem_range]
    unfold toB; rw [UInt8.toNat_ofNat']; omega
  have hdig : digL (tl ++ more) (wdt b) = ds := by
    rw [hw]
    refine List.ext_getElem (by simp [digL]) fun k h1 h2 => ?_
    simp only [digL, List.getElem_map, List.getElem_range]
    obtain ⟨g1, g2, g3⟩ := hget (k / 2) (by omega)
    have hdk := hd _ (List.getElem_mem h2)
    have hk0 : ds.getD k 0 = ds[k] := by simp [List.getD, List.getElem?_eq_getElem h2]
    unfold digK
    rw [g1]
    unfold pairAt at g2 g3 ⊢
    rcases Nat.mod_two_eq_zero_or_one k with hm | hm
    · rw [if_pos hm]
      rw [show k / 2 * 2 = k by omega, hk0] at g2 g3 ⊢
      have hn : 0 ≤ ds.getD (k + 1) 0 ∧ ds.getD (k + 1) 0 < 16 := by
        by_cases hk : k + 1 < ds.length
        · have := hd _ (List.getElem_mem hk)
          rw [show ds.getD (k + 1) 0 = ds[k + 1] by simp [List.getD, List.getElem?_eq_getElem hk]]; omega
        · rw [show ds.getD (k + 1) 0 = 0 by simp [List.getD, List.getElem?_eq_none (show ds.length ≤ k + 1 by omega)]]; omega
      omega
    · rw [if_neg (by omega)]
      rw [show k / 2 * 2 + 1 = k by omega, hk0] at g2 g3 ⊢
      omega
  have hfine : fineL (tl ++ more) (wdt b) = true := by
    unfold fineL
    rw [hw]
    rcases Nat.mod_two_eq_zero_or_one ds.length with hm | hm
    · simp [hm]
    · obtain ⟨g1, g2, g3⟩ := hget ((ds.length + 1) / 2 - 1) (by omega)
      rw [g1]
      have : ds.getD (((ds.length + 1) / 2 - 1) * 2 + 1) 0 = 0 := by simp [List.getD, List.getElem?_eq_none (show ds.length ≤ ((ds.length + 1) / 2 - 1) * 2 + 1 by omega)]
      have h2 : (pairAt ds ((ds.length + 1) / 2 - 1)).toNat % 16 = 0 := by
        unfold pairAt at g2 g3 ⊢
        rw [this] at g2 g3 ⊢
        omega
      rw [h2]; simp
  rw [hreg, List.cons_append]
  refine ⟨?_, ?_, ?_, ?_⟩
  · simp only [tkOk]; exact decide_eq_true hle
  · simp only [tkReg]; rw [if_pos hle, hbs, hdig]
  · simp only [tkRest]; rw [if_pos hle, hw, ← hlen]; simp
  · simp only [tkFine]; rw [decide_eq_true hle, hfine]; rfl
end Go.Proofs.YtgpmngcemnnpmaaDoor

namespace Go.Proofs.YtgpmngcemnnpmaaDoor
open Go.RowKit Go.Sort
/-- the register of bytes -/
def unpR : List UInt8 → Option Reg
  | [] => none
  | b :: tl => if tkOk tl && (tkReg tl).ok && decide (packR (tkReg tl).base (tkReg tl).digits = b :: tl) then some (tkReg tl) else none
def unpReg (bs : List UInt8) : Reg := (unpR bs).getD ⟨0, []⟩
def unpCode (bs : List UInt8) : Int := if (unpR bs).isSome then 0 else 8
theorem unp_none {bs : List UInt8} (h : unpR bs = none) : unpReg bs = ⟨0, []⟩ ∧ unpCode bs = 8 := by simp [unpReg, unpCode, h]
theorem unp_some {bs : List UInt8} {r : Reg} (h : unpR bs = some r) : unpReg bs = r ∧ unpCode bs = 0 := by simp [unpReg, unpCode, h]
theorem tk_not {bs : List UInt8} (h : tkOk bs = false) : tkReg bs = ⟨0, []⟩ := by
  cases bs with
  | nil => rfl
  | cons b tl => simp only [tkOk, decide_eq_false_iff_not] at h; simp only [tkReg]; rw [if_neg h]
theorem tkReg_len (bs : List UInt8) : (tkReg bs).digits.length ≤ 16 := by
  cases bs with
  | nil => simp [tkReg]
  | cons b tl =>
    simp only [tkReg]
    split
    · simp only [digL_len]; unfold wdt; omega
    · simp
end Go.Proofs.YtgpmngcemnnpmaaDoor

namespace Go.Proofs.YtgpmngcemnnpmaaDoor
open Go.RowKit Go.Sort
/-- bytes of a kind with their checksum behind them; what lies between -/
def bodyOk (k : UInt8) (bs : List UInt8) : Bool := decide (3 ≤ bs.length) && (bs.getD 0 0 == k) && decide (sumB (bs.take (bs.length - 2)) = 256 * ((bs.getD (bs.length - 2) 0).toNat : Int) + ((bs.getD (bs.length - 1) 0).toNat : Int))
def bodyB (k : UInt8) (bs : List UInt8) : List UInt8 := if bodyOk k bs then (bs.drop 1).take (bs.length - 3) else []
/-- what a body is -/
theorem body_iff (k : UInt8) (bs : List UInt8) : bodyOk k bs = true ↔ bs = sealB (k :: bodyB k bs) := by
  constructor
  · intro h
    have hB : bodyB k bs = (bs.drop 1).take (bs.length - 3) := by rw [bodyB, h]; rfl
    unfold bodyOk at h
    simp only [Bool.and_eq_true, decide_eq_true_eq, beq_iff_eq] at h
    obtain ⟨⟨h3, h0⟩, hs⟩ := h
    obtain ⟨x, y, rfl⟩ : ∃ (l : List UInt8) (y : UInt8), bs = k :: l ++ [y] := by
      cases bs with
      | nil => simp at h3
      | cons b t =>
        have hbk : b = k := by simpa [List.getD] using h0
        subst hbk
        rcases List.eq_nil_or_concat t with rfl | ⟨l, y, rfl⟩
        · simp at h3
        · exact ⟨l, y, by simp⟩
    obtain ⟨l, z, rfl⟩ : ∃ (l : List UInt8) (z : UInt8), x = l ++ [z] := by
      rcases List.eq_nil_or_concat x with rfl | ⟨l, z, rfl⟩
      · simp at h3
      · exact ⟨l, z, by simp⟩
    have e1 : ((k :: (l ++ [z]) ++ [y]).take ((k :: (l ++ [z]) ++ [y]).length - 2)) = k :: l := by
      rw [show (k :: (l ++ [z]) ++ [y]).length - 2 = (k :: l).length by simp, show k :: (l ++ [z]) ++ [y] = (k :: l) ++ [z, y] by simp, List.take_left]
    have e2 : (k :: (l ++ [z]) ++ [y]).getD ((k :: (l ++ [z]) ++ [y]).length - 2) 0 = z := by
      rw [show (k :: (l ++ [z]) ++ [y]).length - 2 = (k :: l).length by simp, show k :: (l ++ [z]) ++ [y] = (k :: l) ++ [z, y] by simp]
      simp [List.getD, List.getElem?_append_right]
    have e3 : (k :: (l ++ [z]) ++ [y]).getD ((k :: (l ++ [z]) ++ [y]).length - 1) 0 = y := by
      rw [show (k :: (l ++ [z]) ++ [y]).length - 1 = (k :: (l ++ [z])).length by simp]
      simp [List.getD, List.getElem?_append_right]
    rw [e1, e2, e3] at hs
    have hb : bodyB k (k :: (l ++ [z]) ++ [y]) = l := by
      rw [hB]
      rw [show (k :: (l ++ [z]) ++ [y]).length - 3 = l.length by simp, show (k :: (l ++ [z]) ++ [y]).drop 1 = l ++ [z, y] by simp, List.take_left]
    rw [hb]
    unfold sealB
    have z2 := z.toNat_lt
    have y2 := y.toNat_lt
    rw [hs, show ((256 * (z.toNat : Int) + (y.toNat : Int)) / 256).toNat = z.toNat by omega, show ((256 * (z.toNat : Int) + (y.toNat : Int)) % 256).toNat = y.toNat by omega]
    simp
  · intro h
    obtain ⟨l, hl⟩ : ∃ l, bodyB k bs = l := ⟨_, rfl⟩
    rw [hl] at h
    rw [h]
    obtain ⟨s0, s1⟩ := sumB_bd (k :: l)
    unfold bodyOk sealB
    have e1 : ((k :: l) ++ [UInt8.ofNat (sumB (k :: l) / 256).toNat, UInt8.ofNat (sumB (k :: l) % 256).toNat]).length - 2 = (k :: l).length := by simp
    have e2 : ((k :: l) ++ [UInt8.ofNat (sumB (k :: l) / 256).toNat, UInt8.ofNat (sumB (k :: l) % 256).toNat]).length - 1 = (k :: l).length + 1 := by simp
    rw [e1, e2, List.take_left]
    have e3 : ∀ (p q : UInt8), (((k :: l) ++ [p, q]).getD (k :: l).length 0) = p ∧ (((k :: l) ++ [p, q]).getD ((k :: l).length + 1) 0) = q := by
      intro p q
      constructor <;> simp [List.getD, List.getElem?_append_right]
    rw [(e3 _ _).1, (e3 _ _).2, UInt8.toNat_ofNat', UInt8.toNat_ofNat']
    simp only [Bool.and_eq_true, decide_eq_true_eq, beq_iff_eq]
    refine ⟨⟨by simp, by simp [List.getD]⟩, by omega⟩
theorem body_of (k : UInt8) (l : List UInt8) : bodyOk k (sealB (k :: l)) = true ∧ bodyB k (sealB (k :: l)) = l := by
  have hb : (((sealB (k :: l)).drop 1).take ((sealB (k :: l)).length - 3)) = l := by
    unfold sealB
    rw [show ((k :: l) ++ [UInt8.ofNat (sumB (k :: l) / 256).toNat, UInt8.ofNat (sumB (k :: l) % 256).toNat]).length - 3 = l.length by simp]
    rw [List.cons_append, List.drop_succ_cons, List.drop_zero, List.take_left]
  have h1 : bodyOk k (sealB (k :: l)) = true := by
    obtain ⟨s0, s1⟩ := sumB_bd (k :: l)
    unfold bodyOk sealB
    have e1 : ((k :: l) ++ [UInt8.ofNat (sumB (k :: l) / 256).toNat, UInt8.ofNat (sumB (k :: l) % 256).toNat]).length - 2 = (k :: l).length := by simp
    have e2 : ((k :: l) ++ [UInt8.ofNat (sumB (k :: l) / 256).toNat, UInt8.ofNat (sumB (k :: l) % 256).toNat]).length - 1 = (k :: l).length + 1 := by simp
    rw [e1, e2, List.take_left]
    have e3 : ∀ (p q : UInt8), (((k :: l) ++ [p, q]).getD (k :: l).length 0) = p ∧ (((k :: l) ++ [p, q]).getD ((k :: l).length + 1) 0) = q := by
      intro p q
      constructor <;> simp [List.getD, List.getElem?_append_right]
    rw [(e3 _ _).1, (e3 _ _).2, UInt8.toNat_ofNat', UInt8.toNat_ofNat']
    simp only [Bool.and_eq_true, decide_eq_true_eq, beq_iff_eq]
    refine ⟨⟨by simp, by simp [List.getD]⟩, by omega⟩
  exact ⟨h1, by unfold bodyB; rw [h1]; exact hb⟩
end Go.Proofs.YtgpmngcemnnpmaaDoor

namespace Go.Proofs.YtgpmngcemnnpmaaDoor
open Go.RowKit Go.Sort
theorem sealB_inj {a b : List UInt8} (h : sealB a = sealB b) : a = b := by
  have hl : a.length = b.length := by have := congrArg List.length h; simpa [sealB] using this
  exact List.append_inj_left h hl
theorem tk_more (bs more : List UInt8) (h : tkOk bs = true) : tkOk (bs ++ more) = true ∧ tkReg (bs ++ more) = tkReg bs ∧ tkRest (bs ++ more) = tkRest bs ++ more := by
  cases bs with
  | nil => cases h
  | cons b tl =>
    have hle : (wdt b + 1) / 2 ≤ tl.length := of_decide_eq_true h
    have hle2 : (wdt b + 1) / 2 ≤ (tl ++ more).length := by rw [List.length_append]; omega
    refine ⟨decide_eq_true hle2, ?_, ?_⟩
    · rw [List.cons_append]; simp only [tkReg]
      rw [if_pos hle, if_pos hle2]
      congr 1
      unfold digL
      refine List.map_congr_left fun k hk => ?_
      have hk : k < wdt b := List.mem_range.1 hk
      have : (tl ++ more).getD (k / 2) 0 = tl.getD (k / 2) 0 := by simp [List.getD, List.getElem?_append_left (show k / 2 < tl.length by omega)]
      unfold digK
      rw [this]
    · rw [List.cons_append]; simp only [tkRest]
      rw [if_pos hle, if_pos hle2, List.drop_append_of_le_length hle]
theorem tkFine_ok {bs : List UInt8} (h : tkFine bs = true) : tkOk bs = true := by
  cases bs with
  | nil => cases h
  | cons b tl => simp only [tkFine, Bool.and_eq_true] at h; exact h.1
/-- the bytes of what is read -/
theorem tk_bytes {bs : List UInt8} (h : tkFine bs = true) : bs = regB (tkReg bs).base (tkReg bs).digits ++ tkRest bs := by
  cases bs with
  | nil => cases h
  | cons b tl =>
    simp only [tkFine, Bool.and_eq_true, decide_eq_true_eq] at h
    obtain ⟨hle, hf⟩ := h
    simp only [tkReg, tkRest]
    rw [if_pos hle, if_pos hle]
    have h2 : fineL (tl.take ((wdt b + 1) / 2)) (wdt b) = true := by
      rw [← hf]; unfold fineL
      congr 3
      have hw : 1 ≤ wdt b := by unfold wdt; omega
      simp [List.getD, List.getElem?_take, show (wdt b + 1) / 2 - 1 < (wdt b + 1) / 2 by omega]
    have h3 := regB_digL b (tl.take ((wdt b + 1) / 2)) (by rw [List.length_take]; omega) h2
    have h4 : digL (tl.take ((wdt b + 1) / 2)) (wdt b) = digL tl (wdt b) := by
      unfold digL
      refine List.map_congr_left fun k hk => ?_
      have hk : k < wdt b := List.mem_range.1 hk
      have : (tl.take ((wdt b + 1) / 2)).getD (k / 2) 0 = tl.getD (k / 2) 0 := by simp [List.getD, List.getElem?_take, show k / 2 < (wdt b + 1) / 2 by omega]
      unfold digK
      rw [this]
    rw [h4] at h3
    rw [h3, List.cons_append, List.take_append_drop]
theorem unpR_spec (bs : List UInt8) : unpR bs = if bodyOk 82 bs && tkFine (bodyB 82 bs) && (tkRest (bodyB 82 bs)).isEmpty && (tkReg (bodyB 82 bs)).ok then some (tkReg (bodyB 82 bs)) else none := by
  by_cases h : (bodyOk 82 bs && tkFine (bodyB 82 bs) && (tkRest (bodyB 82 bs)).isEmpty && (tkReg (bodyB 82 bs)).ok) = true
  · rw [if_pos h]
    simp only [Bool.and_eq_true] at h
    obtain ⟨⟨⟨h1, h2⟩, h3⟩, h4⟩ := h
    obtain ⟨body, hbd⟩ : ∃ b, bodyB 82 bs = b := ⟨_, rfl⟩
    have hb := (body_iff 82 bs).1 h1
    rw [hbd] at hb h2 h3 h4 ⊢
    have h5 := tk_bytes h2
    rw [List.isEmpty_iff.1 h3, List.append_nil] at h5
    have hs : bs = 82 :: (body ++ [UInt8.ofNat (sumB (82 :: body) / 256).toNat, UInt8.ofNat (sumB (82 :: body) % 256).toNat]) := by rw [hb]; rfl
    obtain ⟨m1, m2, -⟩ := tk_more body [UInt8.ofNat (sumB (82 :: body) / 256).toNat, UInt8.ofNat (sumB (82 :: body) % 256).toNat] (tkFine_ok h2)
    have hp : packR (tkReg body).base (tkReg body).digits = bs := by unfold packR; rw [← h5]; exact hb.symm
    rw [hs]
    simp only [unpR]
    rw [m1, m2, h4, ← hs, hp]; simp
  · rw [if_neg h]
    cases bs with
    | nil => rfl
    | cons b tl =>
      simp only [unpR]
      rw [if_neg]
      intro h2
      simp only [Bool.and_eq_true, decide_eq_true_eq] at h2
      obtain ⟨⟨h1, h3⟩, h4⟩ := h2
      apply h
      obtain ⟨R, hR⟩ : ∃ R, tkReg tl = R := ⟨_, rfl⟩
      rw [hR] at h3 h4
      rw [← h4]
      obtain ⟨k1, k2⟩ := body_of 82 (regB R.base R.digits)
      obtain ⟨j1, j2, j3, j4⟩ := tk_regB R.base R.digits [] h3
      rw [List.append_nil] at j1 j2 j3 j4
      unfold packR
      rw [k1, k2, j2, j3, j4]
      simp [show (⟨R.base, R.digits⟩ : Reg).ok = true from h3]
end Go.Proofs.YtgpmngcemnnpmaaDoor

namespace Go.Proofs.YtgpmngcemnnpmaaDoor
open Go.RowKit Go.Sort
/-- a machine as sealed bytes -/
def packM (t : Tri) : List UInt8 := sealB (77 :: toB t.carry :: (regB t.a.base t.a.digits ++ regB t.b.base t.b.digits ++ regB t.s.base t.s.digits))
theorem vmach_five {t : Tri} (h : vmach t = true) : t.a.ok = true ∧ t.b.ok = true ∧ t.s.ok = true ∧ 0 ≤ t.carry ∧ t.carry ≤ 15 := by
  unfold vmach at h
  simp only [Bool.and_eq_true] at h
  obtain ⟨⟨⟨⟨h1, h2⟩, h3⟩, -⟩, -, h4⟩ := h
  have h5 := betB_iff.1 h4
  obtain ⟨-, -, p3⟩ := ok_bd h3
  unfold vplaces at h5
  exact ⟨h1, h2, h3, h5.1, by omega⟩
theorem regB_le {r : Reg} (h : r.ok = true) : 0 < (regB r.base r.digits).length ∧ (regB r.base r.digits).length ≤ 20 := by
  obtain ⟨-, ⟨n1, n2⟩, -, -⟩ := vreg_iff.1 h
  rw [regB_len]; omega
end Go.Proofs.YtgpmngcemnnpmaaDoor

namespace Go.Proofs.YtgpmngcemnnpmaaDoor
open Go.RowKit Go.Sort
/-- a row of bytes that is owned -/
def rowB (v : Value) (bs : List UInt8) : Ent := .row v 5 1 bs.length (bs.map byteV)
theorem kn_pushB {ops : Array Oper} {rest : List Oper} {o : Oper} {a : Act} {Q : Exit → Act → World → Prop} {w0 w : World} {m : List Ent} (hgd : o.guard = none) (s x : Operand) (ho : o.op = .call { callee := .builtin .append, args := #[s, x], argTypes := #[22, 22] })
    (v : Value) (bs : List UInt8) (hs : a.eval s = v) {g c : Nat} {T' : TypeId} {z : Int} (hx : a.eval x = .slice (some ⟨g, 0, none⟩) 1 c)
    (hK : Kn w0 (.blk g [.int .u8 z] T' :: rowB v bs :: m) w) (hz : 0 ≤ z ∧ z < 256) (hl : bs.length ≤ 10000000)
    (h : ∀ v' w', Kn w0 (rowB v' (bs ++ [UInt8.ofNat z.toNat]) :: m) w' → wpList Tryd.prog ops Q rest (a.put o.dst v') w') : wpList Tryd.prog ops Q (o :: rest) a w := by
  refine kn_app tpB hgd s x ho v bs.length (bs.map byteV) hs hx hK rfl (by simp [Value.oneCell']) (by omega) (by omega) (fun v' w' hK' => h v' w' ?_)
  unfold rowB
  rw [List.length_append, List.map_append, List.map_cons, List.map_nil, ← ofNat_byte hz.1 hz.2]
  exact hK'
theorem kn_litB {w0 w : World} {m : List Ent} {g : Nat} {zs : List Int} {bs : List UInt8} (h : Kn w0 (.blk g (zs.map (Value.int .u8)) 5 :: m) w) (hz : zs.map (Value.int .u8) = bs.map byteV) (hl : bs.length ≤ 1000000) : Kn w0 (rowB (.slice (some ⟨g, 0, none⟩) bs.length bs.length) bs :: m) w := by
  unfold rowB
  rw [hz] at h
  exact h.litRow (by simp) (by simp only [maxLen]; omega)
/-- seven bits in a byte, the lowest ones first -/
def varB (n : Nat) : List UInt8 := if h : n < 128 then [UInt8.ofNat n] else UInt8.ofNat (128 + n % 128) :: varB (n / 128)
theorem varB_lt {n : Nat} (h : n < 128) : varB n = [UInt8.ofNat n] := by rw [varB, dif_pos h]
theorem varB_ge {n : Nat} (h : ¬ n < 128) : varB n = UInt8.ofNat (128 + n % 128) :: varB (n / 128) := by rw [varB, dif_neg h]
theorem varB_len : ∀ (k n : Nat), n < 128 ^ (k + 1) → (varB n).length ≤ k + 1
  | 0, n, h => by rw [varB_lt (by simpa using h)]; simp
  | k + 1, n, h => by
    by_cases h1 : n < 128
    · rw [varB_lt h1]; simp
    · rw [varB_ge h1, List.length_cons]
      have := varB_len k (n / 128) (by rw [Nat.pow_succ] at h; omega)
      omega
def insB (x : Ins) : List UInt8 := toB x.op :: varB x.arg.toNat
def progB (xs : List Ins) : List UInt8 := 80 :: UInt8.ofNat xs.length :: xs.flatMap insB
def packP (xs : List Ins) : List UInt8 := sealB (progB xs)
theorem instrOk_bd {op arg : Int} (h : instrOk op arg = true) : 1 ≤ op ∧ op ≤ 10 ∧ 0 ≤ arg ∧ arg ≤ 1000000000000 := by
  rcases op_cases op with rfl | rfl | rfl | rfl | rfl | rfl | rfl | rfl | rfl | rfl | h1
  rotate_right 1
  · rw [instrOk_else h1] at h; cases h
  all_goals
    simp [instrOk, betB] at h
    omega
theorem vprog_each {xs : List Ins} (h : vprog xs = true) : xs.length ≤ 120 ∧ ∀ x ∈ xs, instrOk x.op x.arg = true := by
  unfold vprog at h
  simp only [Bool.and_eq_true, decide_eq_true_eq] at h
  refine ⟨h.2, fun x hx => ?_⟩
  obtain ⟨k, hk, rfl⟩ := List.getElem_of_mem hx
  rcases hi : instrOk xs[k].op xs[k].arg with _ | _
  · have h2 : progD xs = none := progD_none (k := k + 1) (by
      rw [progD_succ hk]
      cases progD (xs.take k) with
      | none => rfl
      | some d => simp [stepI, hi])
    rw [h2] at h; simp at h
  · rfl
theorem insB_len {x : Ins} (h : instrOk x.op x.arg = true) : (insB x).length ≤ 7 := by
  have h1 := instrOk_bd h
  have := varB_len 5 x.arg.toNat (by omega)
  simp [insB]; omega
theorem flat_len {xs : List Ins} (h : ∀ x ∈ xs, instrOk x.op x.arg = true) : (xs.flatMap insB).length ≤ 7 * xs.length := by
  induction xs with
  | nil => simp
  | cons x xs ih =>
    rw [List.flatMap_cons, List.length_append, List.length_cons]
    have h1 := insB_len (h x (by simp))
    have h2 := ih (fun y hy => h y (by simp [hy]))
    omega
def progP (n : Nat) (xs : List Ins) : List UInt8 := 80 :: UInt8.ofNat n :: xs.flatMap insB
theorem progP_succ {n k : Nat} {xs : List Ins} (h : k < xs.length) : progP n (xs.take (k + 1)) = progP n (xs.take k) ++ insB xs[k] := by
  unfold progP; rw [List.take_succ_eq_append_getElem h, List.flatMap_append]; simp
theorem varB_bd {a : Nat} {l pre : List UInt8} (h : pre ++ varB a = l) (hl : l.length ≤ 7) : pre.length ≤ 6 := by
  have h1 := congrArg List.length h
  rw [List.length_append] at h1
  have : 1 ≤ (varB a).length := by rw [varB]; split <;> simp
  omega
end Go.Proofs.YtgpmngcemnnpmaaDoor

namespace Go.Proofs.YtgpmngcemnnpmaaDoor
open Go.RowKit Go.Sort
section
variable {ops : Array Oper} {rest : List Oper} {o : Oper} {a : Act} {Q : Exit → Act → World → Prop} {w0 w : World} {m : List Ent}
theorem strU : Tryd.prog.underlying 9 = some .string := by kernel_rfl
/-- append(b, s...), b bytes that the call owns, s a string -/
theorem kn_appStr (hgd : o.guard = none) (sl x : Operand) (ho : o.op = .call { callee := .builtin .append, args := #[sl, x], argTypes := #[22, 9] })
    {g n c : Nat} {xs : List Value} (hs : a.eval sl = .slice (some ⟨g, 0, none⟩) n c) (s : ByteArray) (hx : a.eval x = .string s)
    (hK : Kn w0 (.row (.slice (some ⟨g, 0, none⟩) n c) 5 1 n xs :: m) w) (h63 : n + s.size ≤ 100000000)
    (h : ∀ v' w', Kn w0 (.row v' 5 1 (n + s.size) (xs ++ Lib.strCells s) :: m) w' → wpList Tryd.prog ops Q rest (a.put o.dst v') w') : wpList Tryd.prog ops Q (o :: rest) a w := by
  refine wpList_plain hgd fun K hK' => ?_
  obtain ⟨i0, hi, hz0, hz1, hz2⟩ := info_parts tpB.info
  have hown : w.ownsRow 0 5 1 (.slice (some ⟨g, 0, none⟩) n c) n xs := hK.at0
  obtain ⟨v', w', hr, h2, h3, h4⟩ := Lib.run_append_own_string (P := Tryd.prog) w 0 22 9 o.type 5 i0 tpB.under strU hi hz0 hz1 hz2 _ n xs hown s (by simp only [maxLen]; omega) (by omega) (Nat.zero_le _)
  have hv : v'.ownBlock = (Value.slice (some ⟨g, 0, none⟩) n c).ownBlock ∨ v'.ownBlock = some w.heap.size := by
    rcases hown.2 with ⟨hn, -⟩ | ⟨g', cap, cur, hv, -, hg, hnc, hcm, hcs, -⟩
    · cases hn
    · injection hv with e1 e2 e3
      injection e1 with e1
      injection e1 with e1
      subst e1 e3
      have hcs' : cur.size = c := by simpa using hcs
      by_cases hroom : n + s.size ≤ c
      · have hr2 := Lib.run_append_room_string (P := Tryd.prog) w 22 9 o.type 5 i0 tpB.under strU hi hz1 g n c cur hg s hroom (by omega)
        rw [hr] at hr2
        injection hr2 with e _
        rw [e]; exact .inl rfl
      · have holds : ∀ j u, xs[j]? = some u → w.cell? ((⟨g, 0, none⟩ : Addr).add j) = some u := hown.cells (g := g) rfl
        have hr2 := Lib.run_append_grow_string (P := Tryd.prog) w 22 9 o.type 5 i0 (.int .u8 0) tpB.under strU hi hz0 ⟨g, 0, none⟩ n c xs (by rw [hz1]; simpa using hown.1) holds s (by omega) (by omega) (by rw [hz2]; exact growslice_fits (by omega) (by omega))
        rw [hr] at hr2
        injection hr2 with e _
        rw [e]; exact .inr rfl
  unfold Oper.wp execOp
  simp only [ho, resolve, invoke, builtin, Sem.run_bind, Sem.run_pure, Result.andThen_ok, List.map_toArray, List.map_cons, List.map_nil, hs, hx, hr]
  exact hK' _ _ (h v' w' (hK.grow h3 h2 hv))
end
theorem strCells_map (s : ByteArray) : Lib.strCells s = s.data.toList.map byteV := rfl
set_option maxHeartbeats 1600000 in
/-- repeat of one byte: a string of so many bytes -/
theorem repeat_ok (s : ByteArray) (q : Nat) (w : World) (hs : s.size = 1) (hq : q ≤ 1000) :
    Calls Tryd.prog 60 #[.string s, .int .i64 (q : Int)] w fun e w' => ∃ T : ByteArray, e = .returned (.string T) ∧ T.size = q ∧ Below w.heap.size w w' := by
  have HS := Lib.hid hs
  clear hs
  have K0 := ((Kn.nil w).al [] 5).litRow (size := 1) (n := 0) rfl (by decide)
  obtain ⟨h, hh⟩ : ∃ h, w.heap.size = h := ⟨_, rfl⟩
  rw [hh] at K0
  have i0 : (0 : Int) ≤ (q : Int) := by omega
  go_enter Tryd.func60, Tryd.ntmps60
  go_upto_region 2 with fail
  try rw [hh]
  refine Code.wp.kn K0 ?_; clear K0 hh; intro w1 K1
  go_wp2_with fail
  go_loopw [5, 9] (fun oo kk wr => ∃ (k : Nat) (gb c : Nat) (bs : List UInt8), k ≤ q ∧ kk = .int .i64 (k : Int) ∧ oo = .slice (some ⟨gb, 0, none⟩) k c ∧ Hid (bs.length = k) ∧ Kn w [.row (.slice (some ⟨gb, 0, none⟩) k c) 5 1 k (bs.map byteV)] wr) (fun _ kk _ => q - (intOf kk).toNat)
  case atStart => exact ⟨0, h, 0, [], Nat.zero_le _, rfl, rfl, rfl, K1⟩
  case round =>
    clear K1
    obtain ⟨k, gb, c, bs, hk, rfl, rfl, HL, KR⟩ := hrel
    by_cases hk1 : k < q
    · have i1 : (k : Int) < (q : Int) := by omega
      have h63 : k + s.size ≤ 100000000 := by have := HS.out; omega
      go_upto_region 5 with (at_builtin; refine kn_appStr rfl _ _ rfl rfl s rfl KR h63 ?_; intro v' w' K2)
      rw [HS.out, strCells_map, ← List.map_append] at K2
      obtain ⟨gb2, c2, hv⟩ := K2.rowForm (Nat.succ_pos k)
      subst hv
      clear KR h63
      have HL2 : Hid ((bs ++ s.data.toList).length = k + 1) := by
        simp only [Hid]
        rw [List.length_append, HL.out, Array.length_toList]
        have : s.data.size = 1 := HS.out
        omega
      go_wp2_with fail
      go_roundw
      case rel => exact ⟨k + 1, gb2, c2, bs ++ s.data.toList, by omega, by go_num, by go_num, HL2, K2⟩
      case measure => simp [intOf] <;> omega
    · have i1 : ¬ (k : Int) < (q : Int) := by omega
      obtain rfl : k = q := by omega
      have hRB : RB wr (some ⟨gb, 0, none⟩) k bs := by
        have h2 := KR
        have hl := HL.out
        subst hl
        obtain ⟨A', c', e, h3, -⟩ := OwnB.reads (show OwnB wr 0 (.slice (some ⟨gb, 0, none⟩) bs.length c) bs from h2.at0)
        injection e with e1 e2 e3
        rw [e1]; exact h3
      have hcv := conv_bytes wr (some ⟨gb, 0, none⟩) k c bs hRB
      clear hRB
      go_wp2_with fail
      go_ret
      exact ⟨_, rfl, by rw [← HL.out]; simp [ByteArray.size], KR.below⟩
end Go.Proofs.YtgpmngcemnnpmaaDoor

namespace Go.Proofs.YtgpmngcemnnpmaaDoor
open Go.RowKit Go.Sort
theorem tpS : TP 57 9 (.string ⟨#[]⟩) 1 16 := ⟨Tryd.underlying57, by kernel_rfl, rfl, by decide⟩
/-- a row of strings that is owned -/
def rowS (v : Value) (ss : List ByteArray) : Ent := .row v 9 1 ss.length (ss.map Value.string)
theorem Kn.rowS_at {w0 w : World} {m : List Ent} {A : Option Addr} {n c : Nat} {ss : List ByteArray} (h : Kn w0 (rowS (.slice A n c) ss :: m) w) {k : Nat} (hk : k < ss.length) :
    n = ss.length ∧ ∃ g, A = some ⟨g, 0, none⟩ ∧ w.cell? ⟨g, k, none⟩ = some (.string ss[k]) ∧ w0.heap.size ≤ g ∧ g < w.heap.size := by
  have h0 : w.ownsRow 0 9 1 (.slice A n c) ss.length (ss.map Value.string) := h.at0
  rcases h0.2 with ⟨hv, hn⟩ | ⟨g, cap, cur, hv, -, hg, -⟩
  · omega
  · injection hv with h1 h2 h3
    rw [h1] at h0
    have d1 := h0.cells (g := g) rfl k (.string ss[k]) (by simp [hk])
    rw [add_zero_block] at d1
    exact ⟨h2, g, h1, d1, h.own _ (List.mem_cons_self ..) g (by rw [h1]; rfl), (Array.getElem?_eq_some_iff.1 hg).1⟩
theorem kn_pushS {ops : Array Oper} {rest : List Oper} {o : Oper} {a : Act} {Q : Exit → Act → World → Prop} {w0 w : World} {m : List Ent} (hgd : o.guard = none) (s x : Operand) (ho : o.op = .call { callee := .builtin .append, args := #[s, x], argTypes := #[57, 57] })
    (v : Value) (ss : List ByteArray) (hs : a.eval s = v) {g c : Nat} {T' : TypeId} {z : ByteArray} (hx : a.eval x = .slice (some ⟨g, 0, none⟩) 1 c)
    (hK : Kn w0 (.blk g [.string z] T' :: rowS v ss :: m) w) (hl : ss.length ≤ 10000000)
    (h : ∀ v' w', Kn w0 (rowS v' (ss ++ [z]) :: m) w' → wpList Tryd.prog ops Q rest (a.put o.dst v') w') : wpList Tryd.prog ops Q (o :: rest) a w := by
  refine kn_app tpS hgd s x ho v ss.length (ss.map Value.string) hs hx hK rfl (by simp [Value.oneCell']) (by omega) (by omega) (fun v' w' hK' => h v' w' ?_)
  unfold rowS
  rw [List.length_append, List.map_append, List.map_cons, List.map_nil]
  exact hK'
/-- the parts of bytes between bytes -/
def splitB (k : Nat) : List UInt8 → List (List UInt8)
  | [] => [[]]
  | b :: tl => if b.toNat = k then [] :: splitB k tl else match splitB k tl with
    | [] => [[b]]
    | h :: t => (b :: h) :: t
def glue (p : List UInt8) : List (List UInt8) → List (List UInt8)
  | [] => [p]
  | h :: t => (p ++ h) :: t
theorem splitB_ne (k : Nat) (bs : List UInt8) : splitB k bs ≠ [] := by
  cases bs with
  | nil => simp [splitB]
  | cons b tl =>
    simp only [splitB]
    split
    · simp
    · split <;> simp
theorem glue_nil (l : List (List UInt8)) (h : l ≠ []) : glue [] l = l := by
  cases l with
  | nil => exact absurd rfl h
  | cons a t => rfl
theorem splitB_cons (k : Nat) (b : UInt8) (tl : List UInt8) : splitB k (b :: tl) = if b.toNat = k then [] :: splitB k tl else glue [b] (splitB k tl) := by
  simp only [splitB]
  split
  · rfl
  · cases splitB k tl <;> rfl
theorem glue_glue (p : List UInt8) (b : UInt8) (l : List (List UInt8)) : glue p (glue [b] l) = glue (p ++ [b]) l := by cases l <;> simp [glue]
theorem splitB_len (k : Nat) (bs : List UInt8) : (splitB k bs).length ≤ bs.length + 1 := by
  induction bs with
  | nil => simp [splitB]
  | cons b tl ih =>
    rw [splitB_cons]
    split
    · simp; omega
    · cases h : splitB k tl with
      | nil => simp [glue]
      | cons a t => rw [h] at ih; simp [glue] at ih ⊢; omega
theorem take_piece {bs : List UInt8} {f i : Nat} (h : i < bs.length) (hf : f ≤ i) : (bs.drop f).take (i + 1 - f) = (bs.drop f).take (i - f) ++ [bs[i]] := by
  rw [show i + 1 - f = (i - f) + 1 by omega, List.take_succ_eq_append_getElem (by rw [List.length_drop]; omega)]
  congr 2
  rw [List.getElem_drop]
  congr 1; omega
set_option maxRecDepth 100000 in
set_option maxHeartbeats 1600000 in
theorem l01Split_any (s : ByteArray) (kd : UInt8) (w : World) (hs : s.size ≤ 1048576) :
    Calls Tryd.prog 133 #[.string s, .int .u8 (kd.toNat : Int)] w fun e w' => ∃ A c ss, e = .returned (.slice A ss.length c) ∧ ss.map strB = splitB kd.toNat (strB s) ∧ Kn w [rowS (.slice A ss.length c) ss] w' := by
  have HSL := Lib.hid (strB_len s)
  obtain ⟨kn, hkn⟩ : ∃ k : Nat, kd.toNat = k := ⟨_, rfl⟩
  rw [hkn]
  clear hkn
  go_enter Tryd.func133, Tryd.ntmps133
  have hK0 := ((Kn.nil w).al [] 9).litRow (n := 0) (size := 1) rfl (by decide)
  go_wp2_with fail
  go_loopw [5, 6, 7] (fun vv ff ii wr => ∃ (f i : Nat) (ss : List ByteArray), f ≤ i ∧ i ≤ s.size ∧ ff = .int .i64 f ∧ ii = .int .i64 i ∧ ss.length ≤ i ∧
    splitB kn (strB s) = ss.map strB ++ glue (((strB s).drop f).take (i - f)) (splitB kn ((strB s).drop i)) ∧ Kn w [rowS vv ss] wr) (fun _ _ i _ => s.size - (intOf i).toNat)
  case atStart => exact ⟨0, 0, [], by omega, by omega, rfl, rfl, by simp, by simp [glue_nil _ (splitB_ne _ _)], hK0⟩
  case round =>
    rename_i vv _ _
    obtain ⟨f, i, ss, hf, hi, rfl, rfl, hsl, hsp, hK⟩ := hrel
    have HSP := Lib.hid hsp
    clear hsp hK0
    have i0 : (0 : Int) ≤ (i : Int) := by omega
    have f0 : (0 : Int) ≤ (f : Int) := by omega
    have f1 : (f : Int) ≤ (i : Int) := by omega
    have f2 : (f : Int) ≤ (s.size : Int) := by omega
    have i2 : (i : Int) ≤ (s.size : Int) := by omega
    by_cases hlt : i < s.size
    · obtain ⟨q, hq⟩ : ∃ q : UInt8, s[i] = q := ⟨_, rfl⟩
      obtain ⟨z, hz⟩ : ∃ z : Nat, q.toNat = z := ⟨_, rfl⟩
      have hil : i < (strB s).length := by rw [HSL.out]; exact hlt
      have hg : (strB s)[i] = q := by rw [← hq, strB_get s hlt]
      have hdr : (strB s).drop i = q :: (strB s).drop (i + 1) := by rw [List.drop_eq_getElem_cons hil, hg]
      have i1 : (i : Int) < (s.size : Int) := by omega
      have HS2 := Lib.hid (show splitB kn ((strB s).drop i) = if z = kn then [] :: splitB kn ((strB s).drop (i + 1)) else glue [q] (splitB kn ((strB s).drop (i + 1))) by rw [hdr, splitB_cons, hz])
      have HP := Lib.hid (take_piece (f := f) hil hf)
      rw [hg] at HP
      clear hdr hg
      by_cases hzk : z = kn
      · have k1 : ((z : Int) == (kn : Int)) = true := by rw [beq_iff_eq]; omega
        have k2 : (z : Int) = (kn : Int) := by omega
        have HS3 : Hid (splitB kn (strB s) = (ss ++ [s.extract f i]).map strB ++ glue [] (splitB kn ((strB s).drop (i + 1)))) := by
          simp only [Hid]
          rw [HSP.out, HS2.out, if_pos hzk, glue_nil _ (splitB_ne _ _), List.map_append, List.map_cons, List.map_nil, strB_extract]
          simp [glue]
        clear hzk k2
        go_wp2_with (at_builtin; refine kn_pushS rfl _ _ rfl _ ss rfl rfl (hK.al [.string (s.extract f i)] 9) (by omega) ?_; intro v5 w6 hK4)
        go_roundw
        case rel => exact ⟨i + 1, i + 1, ss ++ [s.extract f i], by omega, by omega, by go_num, by go_num, by rw [List.length_append]; simp; omega, by rw [Nat.sub_self, List.take_zero]; exact HS3.out, hK4⟩
        case measure => simp [intOf]; omega
      · have k1 : ((z : Int) == (kn : Int)) = false := by rw [beq_eq_false_iff_ne]; omega
        have HS3 : Hid (splitB kn (strB s) = ss.map strB ++ glue (((strB s).drop f).take (i + 1 - f)) (splitB kn ((strB s).drop (i + 1)))) := by
          simp only [Hid]
          rw [HSP.out, HS2.out, if_neg hzk, glue_glue, HP.out]
        clear hzk
        go_wp2_with fail
        go_roundw
        case rel => exact ⟨f, i + 1, ss, by omega, by omega, rfl, by go_num, by omega, HS3.out, hK⟩
        case measure => simp [intOf]; omega
    · have i1 : ¬ (i : Int) < (s.size : Int) := by omega
      have HS3 : Hid ((ss ++ [s.extract f s.size]).map strB = splitB kn (strB s)) := by
        simp only [Hid]
        rw [HSP.out, List.drop_of_length_le (show (strB s).length ≤ i by rw [HSL.out]; omega), List.map_append, List.map_cons, List.map_nil, strB_drop]
        simp only [splitB, glue, List.append_nil]
        rw [List.take_of_length_le (by rw [List.length_drop, HSL.out]; omega)]
      go_wp2_with (at_builtin; refine kn_pushS rfl _ _ rfl _ ss rfl rfl (hK.al [.string (s.extract f s.size)] 9) (by omega) ?_; intro v5 w6 hK4)
      obtain ⟨A, c, rfl⟩ := row_form hK4.at0
      go_ret
      exact ⟨A, c, _, rfl, HS3.out, hK4⟩
/-- the parts of bytes without blanks -/
def wordsB (bs : List UInt8) : List (List UInt8) := (splitB 32 bs).filter (fun l => !l.isEmpty)
def wordsG (p : List UInt8) (bs : List UInt8) : List (List UInt8) := (glue p (splitB 32 bs)).filter (fun l => !l.isEmpty)
set_option maxRecDepth 100000 in
set_option maxHeartbeats 1600000 in
theorem SplitWords_any (s : ByteArray) (w : World) (hs : s.size ≤ 1048576) :
    Calls Tryd.prog 142 #[.string s] w fun e w' => ∃ A c ss, e = .returned (.slice A ss.length c) ∧ ss.map strB = wordsB (strB s) ∧ Kn w [rowS (.slice A ss.length c) ss] w' := by
  have HSL := Lib.hid (strB_len s)
  go_enter Tryd.func142, Tryd.ntmps142
  have hK0 := ((Kn.nil w).al [] 9).litRow (n := 0) (size := 1) rfl (by decide)
  go_wp2_with fail
  go_loopw [3, 4, 9] (fun vv ff ii wr => ∃ (i : Nat) (ss : List ByteArray), i ≤ s.size ∧ ii = .int .i64 i ∧ ss.length ≤ i ∧
    ((ff = .int .i64 (-1) ∧ wordsB (strB s) = ss.map strB ++ wordsG [] ((strB s).drop i)) ∨
      ∃ f : Nat, f < i ∧ ff = .int .i64 f ∧ wordsB (strB s) = ss.map strB ++ wordsG (((strB s).drop f).take (i - f)) ((strB s).drop i)) ∧ Kn w [rowS vv ss] wr) (fun _ _ i _ => s.size - (intOf i).toNat)
  case atStart => exact ⟨0, [], by omega, rfl, by simp, .inl ⟨rfl, by simp [wordsB, wordsG, glue_nil _ (splitB_ne _ _)]⟩, hK0⟩
  case round =>
    rename_i vv ff _
    obtain ⟨i, ss, hi, rfl, hsl, hor, hK⟩ := hrel
    clear hK0
    have i0 : (0 : Int) ≤ (i : Int) := by omega
    have i2 : (i : Int) ≤ (s.size : Int) := by omega
    by_cases hlt : i < s.size
    · obtain ⟨q, hq⟩ : ∃ q : UInt8, s[i] = q := ⟨_, rfl⟩
      obtain ⟨z, hz⟩ : ∃ z : Nat, q.toNat = z := ⟨_, rfl⟩
      have hil : i < (strB s).length := by rw [HSL.out]; exact hlt
      have hg : (strB s)[i] = q := by rw [← hq, strB_get s hlt]
      have hdr : (strB s).drop i = q :: (strB s).drop (i + 1) := by rw [List.drop_eq_getElem_cons hil, hg]
      have i1 : (i : Int) < (s.size : Int) := by omega
      have HS2 := Lib.hid (show splitB 32 ((strB s).drop i) = if z = 32 then [] :: splitB 32 ((strB s).drop (i + 1)) else glue [q] (splitB 32 ((strB s).drop (i + 1))) by rw [hdr, splitB_cons, hz])
      have HPP := Lib.hid (fun f hf => take_piece (f := f) hil hf)
      rw [hg] at HPP
      clear hdr hg
      by_cases hzk : z = 32
      · have k1 : ((z : Int) == 32) = true := by rw [beq_iff_eq]; omega
        have k3 : ((z : Int) != 32) = false := by simp [bne, k1]
        have HZK := Lib.hid hzk
        clear hzk
        rcases hor with ⟨rfl, hsp⟩ | ⟨f, hf, rfl, hsp⟩
        · have HS3 : Hid (wordsB (strB s) = ss.map strB ++ wordsG [] ((strB s).drop (i + 1))) := by
            simp only [Hid]
            rw [hsp]; unfold wordsG
            rw [HS2.out, if_pos HZK.out, glue_nil (splitB 32 ((strB s).drop (i + 1))) (splitB_ne _ _)]
            simp [glue]
          clear hsp
          go_wp2_with fail
          go_roundw
          case rel => exact ⟨i + 1, ss, by omega, by go_num, by omega, .inl ⟨rfl, HS3.out⟩, hK⟩
          case measure => simp [intOf]; omega
        · have hne : (((strB s).drop f).take (i - f)).isEmpty = false := by
            cases h : ((strB s).drop f).take (i - f) with
            | nil =>
              have := congrArg List.length h
              rw [List.length_take, List.length_drop, HSL.out] at this
              simp at this; omega
            | cons a l => rfl
          have HS3 : Hid (wordsB (strB s) = (ss ++ [s.extract f i]).map strB ++ wordsG [] ((strB s).drop (i + 1))) := by
            simp only [Hid]
            rw [hsp]; unfold wordsG
            rw [HS2.out, if_pos HZK.out, List.map_append, List.map_cons, List.map_nil, strB_extract, glue_nil _ (splitB_ne _ _)]
            simp only [glue, List.append_nil]
            rw [List.filter_cons, hne]; simp
          have f0 : (0 : Int) ≤ (f : Int) := by omega
          have f1 : (f : Int) ≤ (i : Int) := by omega
          have f2 : ¬ (f : Int) < 0 := by omega
          clear hsp hne
          go_wp2_with (at_builtin; refine kn_pushS rfl _ _ rfl _ ss rfl rfl (hK.al [.string (s.extract f i)] 9) (by omega) ?_; intro v5 w6 hK4)
          go_roundw
          case rel => exact ⟨i + 1, ss ++ [s.extract f i], by omega, by go_num, by rw [List.length_append]; simp; omega, .inl ⟨rfl, HS3.out⟩, hK4⟩
          case measure => simp [intOf]; omega
      · have k1 : ((z : Int) == 32) = false := by rw [beq_eq_false_iff_ne]; omega
        have k3 : ((z : Int) != 32) = true := by simp [bne, k1]
        have HZK := Lib.hid hzk
        clear hzk
        rcases hor with ⟨rfl, hsp⟩ | ⟨f, hf, rfl, hsp⟩
        · have HS3 : Hid (wordsB (strB s) = ss.map strB ++ wordsG (((strB s).drop i).take (i + 1 - i)) ((strB s).drop (i + 1))) := by
            simp only [Hid]
            rw [hsp]; unfold wordsG
            rw [HS2.out, if_neg HZK.out, HPP.out i (Nat.le_refl _), glue_glue]; simp
          clear hsp
          go_wp2_with fail
          go_roundw
          case rel => exact ⟨i + 1, ss, by omega, by go_num, by omega, .inr ⟨i, by omega, rfl, HS3.out⟩, hK⟩
          case measure => simp [intOf]; omega
        · have HS3 : Hid (wordsB (strB s) = ss.map strB ++ wordsG (((strB s).drop f).take (i + 1 - f)) ((strB s).drop (i + 1))) := by
            simp only [Hid]
            rw [hsp]; unfold wordsG
            rw [HS2.out, if_neg HZK.out, HPP.out f (by omega), glue_glue]
          have f2 : ¬ (f : Int) < 0 := by omega
          have f0 : (0 : Int) ≤ (f : Int) := by omega
          clear hsp
          go_wp2_with fail
          go_roundw
          case rel => exact ⟨i + 1, ss, by omega, by go_num, by omega, .inr ⟨f, by omega, rfl, HS3.out⟩, hK⟩
          case measure => simp [intOf]; omega
    · have i1 : ¬ (i : Int) < (s.size : Int) := by omega
      have hdn : (strB s).drop i = [] := List.drop_of_length_le (show (strB s).length ≤ i by rw [HSL.out]; omega)
      rcases hor with ⟨rfl, hsp⟩ | ⟨f, hf, rfl, hsp⟩
      · have HS3 : Hid (ss.map strB = wordsB (strB s)) := by
          simp only [Hid]; rw [hsp, hdn]; simp [wordsG, splitB, glue]
        clear hsp hdn
        obtain ⟨A, c, rfl⟩ := row_form hK.at0
        go_wp2_with fail
        go_ret
        exact ⟨A, c, ss, rfl, HS3.out, hK⟩
      · have hne : (((strB s).drop f).take (i - f)).isEmpty = false := by
          cases h : ((strB s).drop f).take (i - f) with
          | nil =>
            have := congrArg List.length h
            rw [List.length_take, List.length_drop, HSL.out] at this
            simp at this; omega
          | cons a l => rfl
        have HS3 : Hid ((ss ++ [s.extract f s.size]).map strB = wordsB (strB s)) := by
          simp only [Hid]
          rw [hsp, hdn, List.map_append, List.map_cons, List.map_nil, strB_drop]; unfold wordsG
          simp only [splitB, glue, List.append_nil]
          rw [List.filter_cons, hne, List.take_of_length_le (by rw [List.length_drop, HSL.out]; omega)]; simp
        have f0 : (0 : Int) ≤ (f : Int) := by omega
        have f1 : (f : Int) ≤ (s.size : Int) := by omega
        clear hsp hdn hne
        go_wp2_with (at_builtin; refine kn_pushS rfl _ _ rfl _ ss rfl rfl (hK.al [.string (s.extract f s.size)] 9) (by omega) ?_; intro v5 w6 hK4)
        obtain ⟨A, c, rfl⟩ := row_form hK4.at0
        go_ret
        exact ⟨A, c, _, rfl, HS3.out, hK4⟩
/-- what stands in front of the first place of a text, and behind it -/
def cutB (p : List UInt8) : List UInt8 → Option (List UInt8 × List UInt8)
  | [] => none
  | b :: tl => if p.isPrefixOf (b :: tl) then some ([], (b :: tl).drop p.length) else (cutB p tl).map fun q => (b :: q.1, q.2)
theorem prefix_iff (p l : List UInt8) : p.isPrefixOf l = decide (l.take p.length = p) := by
  rw [Bool.eq_iff_iff, List.isPrefixOf_iff_prefix, List.prefix_iff_eq_take, decide_eq_true_eq]
  exact ⟨fun h => h.symm, fun h => h.symm⟩
theorem cutB_short (p : List UInt8) : ∀ l : List UInt8, l.length < p.length → cutB p l = none
  | [], _ => rfl
  | b :: tl, h => by
    simp only [cutB]
    have h1 : p.isPrefixOf (b :: tl) = false := by
      rw [prefix_iff]; refine decide_eq_false fun h2 => ?_
      have := congrArg List.length h2
      rw [List.length_take] at this; omega
    rw [h1, cutB_short p tl (by simp at h; omega)]; rfl
def cutX (p bs : List UInt8) : List UInt8 := ((cutB p bs).map (·.1)).getD bs
def cutY (p bs : List UInt8) : List UInt8 := ((cutB p bs).map (·.2)).getD []
set_option maxRecDepth 100000 in
set_option maxHeartbeats 1600000 in
theorem cut_any (s p : ByteArray) (w : World) (hs : s.size ≤ 1048576) (hp0 : 0 < p.size) (hp : p.size ≤ 1048576) :
    Calls Tryd.prog 164 #[.string s, .string p] w fun e w' => ∃ x y, e = .returned (.tuple #[.string x, .string y, .bool (cutB (strB p) (strB s)).isSome]) ∧ strB x = cutX (strB p) (strB s) ∧ strB y = cutY (strB p) (strB s) ∧ Below w.heap.size w w' := by
  have HSL := Lib.hid (strB_len s)
  have HPL := Lib.hid (strB_len p)
  obtain ⟨m, hm⟩ : ∃ m, p.size = m := ⟨_, rfl⟩
  rw [hm] at hp0 hp
  go_enter Tryd.func164, Tryd.ntmps164
  go_wp2_with fail
  go_loopw [7] (fun ii wr => ∃ i : Nat, i ≤ s.size + 1 ∧ ii = .int .i64 i ∧ cutB (strB p) (strB s) = (cutB (strB p) ((strB s).drop i)).map (fun q => ((strB s).take i ++ q.1, q.2)) ∧ w = wr) (fun i _ => s.size + 1 - (intOf i).toNat)
  case atStart => exact ⟨0, by omega, rfl, by simp, rfl⟩
  case round =>
    obtain ⟨i, hi, rfl, hcb, rfl⟩ := hrel
    have HCB := Lib.hid hcb
    clear hcb
    have i0 : (0 : Int) ≤ (i : Int) := by omega
    by_cases hle : i + m ≤ s.size
    · have i1 : (i : Int) + (m : Int) ≤ (s.size : Int) := by omega
      have i2 : (i : Int) ≤ (i : Int) + (m : Int) := by omega
      have hil : i < (strB s).length := by rw [HSL.out]; omega
      obtain ⟨q, hq⟩ : ∃ q : UInt8, (strB s)[i] = q := ⟨_, rfl⟩
      have hdr : (strB s).drop i = q :: (strB s).drop (i + 1) := by rw [List.drop_eq_getElem_cons hil, hq]
      have hT : (strB s).take (i + 1) = (strB s).take i ++ [q] := by rw [List.take_succ_eq_append_getElem hil, hq]
      have hpre : (strB p).isPrefixOf ((strB s).drop i) = ((s.extract i (i + m)).toList == p.toList) := by
        rw [prefix_iff, strB_toList, strB_toList, strB_extract, HPL.out, hm, show i + m - i = m by omega, Bool.eq_iff_iff, decide_eq_true_eq, beq_iff_eq]
      rcases hq2 : ((s.extract i (i + m)).toList == p.toList) with _ | _
      · have HC2 : Hid (cutB (strB p) (strB s) = (cutB (strB p) ((strB s).drop (i + 1))).map (fun q => ((strB s).take (i + 1) ++ q.1, q.2))) := by
          simp only [Hid]
          rw [HCB.out]
          rw [hq2, hdr] at hpre
          rw [hdr, cutB, hpre, hT]
          simp [Option.map_map, Function.comp_def]
        clear hdr hT hpre
        go_wp2_with fail
        go_roundw
        case rel => exact ⟨i + 1, by omega, by go_num, HC2.out, by first | rfl | trivial⟩
        case measure => simp [intOf]; omega
      · have HC2 : Hid (cutB (strB p) (strB s) = some ((strB s).take i, (strB s).drop (i + m))) := by
          simp only [Hid]
          rw [HCB.out]
          rw [hq2, hdr] at hpre
          rw [hdr, cutB, hpre, ← hdr]
          simp [HPL.out, hm, List.drop_drop]
        clear hdr hT hpre
        go_wp2_with fail
        go_region
        all_goals
          go_wp2_with fail
          refine bodyPost_ret (v := .tuple #[.string (s.extract 0 i), .string (s.extract (i + m) s.size), .bool true]) (by simp [results, Tryd.results164, go_sem]) rfl ⟨_, _, by rw [HC2.out]; rfl, ?_, ?_, ?_⟩
          · rw [strB_extract, cutX, HC2.out]; simp
          · rw [strB_drop, cutY, HC2.out]; rfl
          · first | exact Below.refl _ _ | exact (Below.refl _ _).drew
    · have i1 : ¬ (i : Int) + (m : Int) ≤ (s.size : Int) := by omega
      have HC2 : Hid (cutB (strB p) (strB s) = none) := by
        simp only [Hid]; rw [HCB.out, cutB_short _ _ (by rw [List.length_drop, HSL.out, HPL.out, hm]; omega)]; rfl
      go_wp2_with fail
      refine bodyPost_ret (v := .tuple #[.string s, .string ⟨#[]⟩, .bool false]) (by simp [results, Tryd.results164, go_sem]) rfl ⟨s, ⟨#[]⟩, by rw [HC2.out]; rfl, ?_, ?_, Below.refl _ _⟩
      · rw [cutX, HC2.out]; rfl
      · rw [cutY, HC2.out]; rfl
end Go.Proofs.YtgpmngcemnnpmaaDoor

namespace Go.Proofs.YtgpmngcemnnpmaaDoor
open Go.RowKit
/-- the decimal form -/
def dec (n : Int) : List UInt8 := Lib.itoa n
def digs (u : Nat) : List UInt8 := if u = 0 then [] else Lib.decDigits u
theorem digs_step (u : Nat) (h : u ≠ 0) : digs u = digs (u / 10) ++ [UInt8.ofNat (48 + u % 10)] := by
  unfold digs
  rw [if_neg h]
  by_cases h1 : u < 10
  · rw [if_pos (by omega), Lib.decDigits_one h1, Nat.mod_eq_of_lt h1]; rfl
  · rw [if_neg (by omega)]
    conv => lhs; rw [Lib.decDigits, dif_neg h1]
theorem digs_len (n : Int) (h0 : -9223372036854775808 ≤ n) (h1 : n ≤ 9223372036854775807) : (digs n.natAbs).length ≤ 21 := by
  have h := Lib.itoa_length_le n h0 h1
  unfold digs
  split
  · simp
  · by_cases hn : n < 0
    · unfold Lib.itoa at h; rw [if_pos hn] at h; simp at h; omega
    · unfold Lib.itoa at h; rw [if_neg hn] at h
      have : n.natAbs = n.toNat := by omega
      rw [this]; omega
theorem dec_of (n : Int) : dec n = if n = 0 then [48] else if n < 0 then 45 :: digs n.natAbs else digs n.natAbs := by
  unfold dec Lib.itoa digs
  by_cases h0 : n = 0
  · subst h0; rw [if_pos rfl]; simp [Lib.decDigits_one]
  · rw [if_neg h0, if_neg (by omega : ¬ n.natAbs = 0)]
    by_cases hn : n < 0
    · rw [if_pos hn, if_pos hn]
    · rw [if_neg hn, if_neg hn, show n.natAbs = n.toNat by omega]
theorem ofNat_toNat48 (d : Nat) (h : d < 10) : ((UInt8.ofNat (48 + d)).toNat : Int) = 48 + (d : Int) := by
  simp [UInt8.toNat_ofNat]; omega
theorem tmod_neg10 (u : Nat) : (-(u : Int)).tmod 10 = -((u % 10 : Nat) : Int) := by
  rw [Int.neg_tmod]; rfl
theorem tdiv_neg10 (u : Nat) : (-(u : Int)).tdiv 10 = -((u / 10 : Nat) : Int) := by
  rw [Int.neg_tdiv]; rfl
theorem OwnB.lit1 (w : World) (b : UInt8) (base : Nat) (hb : base ≤ w.heap.size) : OwnB (w.alloc (.cells #[byteV b] 5)) base (.slice (some ⟨w.heap.size, 0, none⟩) 1 1) [b] := World.ownsRow_lit w #[byteV b] 1 hb (by decide) rfl
theorem OwnB.cells_at {w : World} {base g c n : Nat} {ds : List UInt8} (h : OwnB w base (.slice (some ⟨g, 0, none⟩) n c) ds) : RB w (some ⟨g, 0, none⟩) ds.length ds ∧ g < w.heap.size := by
  rcases h.2 with ⟨h1, _⟩ | ⟨g', cap, cur, h1, hb, hg, hnc, _, hcs, htake⟩
  · cases h1
  · injection h1 with h1 h2 h3; injection h1 with h1; injection h1 with h1; subst h1
    exact ⟨⟨rfl, fun _ => ⟨_, rfl, (Array.getElem?_eq_some_iff.1 hg).1, fun j u hu => h.cells (g := g) rfl j (byteV u) (by simp [hu])⟩⟩, (Array.getElem?_eq_some_iff.1 hg).1⟩
theorem byteV_one (bs : List UInt8) : ∀ u ∈ bs.map byteV, u.oneCell' = true := by
  intro u hu; obtain ⟨b, -, rfl⟩ := List.mem_map.1 hu; rfl
theorem byte48 (u : Nat) : byteV (UInt8.ofNat (48 + u % 10)) = .int .u8 (48 + (u : Int) % 10) := by
  unfold byteV; rw [ofNat_toNat48 (u % 10) (by omega)]; rfl
theorem ret_str {a b : ByteArray} (h : a = b) : Ending.returned (.string a) = .returned (.string b) := by rw [h]
set_option maxRecDepth 100000 in
set_option maxHeartbeats 800000 in
theorem l01Dec_any (n : Int) (w : World) (h0 : -9223372036854775808 ≤ n) (h1 : n ≤ 9223372036854775807) :
    Calls Tryd.prog 156 #[.int .i64 n] w fun e w' => e = .returned (.string ⟨(dec n).toArray⟩) ∧ Below w.heap.size w w' := by
  have hlen := digs_len n h0 h1
  rcases Int.lt_or_le n 0 with hn | hn
  · obtain ⟨u0, rfl⟩ : ∃ u : Nat, n = -(u : Int) := ⟨n.natAbs, by omega⟩
    have HD := Lib.hid (dec_of (-(u0 : Int)))
    have hu0 : (-(u0 : Int)).natAbs = u0 := by omega
    rw [hu0] at hlen
    have HU := Lib.hid hu0; clear hu0
    go_enter Tryd.func156, Tryd.ntmps156
    go_wp2
    go_loopw [3, 4, 5] (fun v k _ wr => ∃ (u : Nat) (bs : List UInt8) (g c : Nat), u ≤ u0 ∧ k = .int .i64 (-(u : Int)) ∧ v = .slice (some ⟨g, 0, none⟩) bs.length c ∧ OwnB wr w.heap.size (.slice (some ⟨g, 0, none⟩) bs.length c) bs ∧ digs u0 = digs u ++ bs ∧ Below w.heap.size w wr) (fun _ k _ _ => (intOf k).natAbs)
    case atStart => exact ⟨u0, [], w.heap.size, 0, Nat.le_refl _, rfl, rfl, World.ownsRow_lit w #[] 0 (Nat.le_refl _) (by decide) rfl, by simp, (Below.refl _ _).alloc (Nat.le_refl _) _⟩
    case round =>
      obtain ⟨u, bs, g, c, hu, rfl, rfl, hown, hdg, hbr⟩ := hrel
      have hbl : bs.length ≤ 21 := by rw [hdg] at hlen; simp at hlen; omega
      obtain ⟨hrb, hgl⟩ := hown.cells_at
      have HG := Lib.hid hdg; clear hdg
      rcases Nat.eq_zero_or_pos u with hu1 | hu1
      · subst hu1
        have HE : Hid (digs u0 = bs) := HG.out
        have hcv := conv_bytes wr (some ⟨g, 0, none⟩) bs.length c bs hrb
        by_cases hz : bs.length = 0
        · have hzz : ((bs.length : Int) == 0) = true := by simp [hz]
          have HF : Hid (dec (-(u0 : Int)) = [48]) := by
            have h1 := HE.out
            have : u0 = 0 := by
              rcases Nat.eq_zero_or_pos u0 with h | h
              · exact h
              · rw [digs_step u0 (by omega)] at h1; rw [← h1] at hz; simp at hz
            rw [Hid, HD.out, if_pos (by omega)]
          have Hz := Lib.hid hz; clear hz
          go_wp2
          go_ret
          exact ⟨ret_str (by rw [HF.out]), hbr⟩
        · have hzz : ((bs.length : Int) == 0) = false := by rw [beq_eq_false_iff_ne]; omega
          have h0 : u0 ≠ 0 := by rintro rfl; have h1 := HE.out; simp [digs] at h1; exact hz (by rw [h1]; rfl)
          have HF : Hid (dec (-(u0 : Int)) = if (-(u0 : Int)) < 0 then 45 :: bs else bs) := by rw [Hid, HD.out, if_neg (by omega), HU.out, HE.out]
          clear hz
          first
            | (have hnn : (-(u0 : Int)) < 0 := by omega
               go_wp2
               go_ret
               exact ⟨ret_str (by rw [HF.out, if_pos hnn]; rfl), hbr⟩)
            | (have hnn : ¬ (-(u0 : Int)) < 0 := by omega
               go_wp2
               go_ret
               exact ⟨ret_str (by rw [HF.out, if_neg (by omega)]), hbr⟩)
      · have t3 : ((-(u : Int)) != 0) = true := by rw [bne_iff_ne]; omega
        have HN : Hid (digs u0 = digs (u / 10) ++ (UInt8.ofNat (48 + u % 10) :: bs)) := by rw [Hid, HG.out, digs_step u (by omega)]; simp
        clear hrb
        obtain ⟨dd, hdd⟩ : ∃ dd : Int, dd = (u : Int) % 10 := ⟨_, rfl⟩
        have hd0 : 0 ≤ dd := by omega
        have hd1 : dd < 10 := by omega
        have hbv : byteV (UInt8.ofNat (48 + u % 10)) = .int .u8 (48 + dd) := by rw [byte48 u, hdd]
        have hl1 := OwnB.lit1 wr (UInt8.ofNat (48 + u % 10)) w.heap.size hbr.size
        have t1 := tmod_neg10 u
        have t2 := tdiv_neg10 u
        have t4 : ((u : Int)) % 10 = dd := hdd.symm
        have t5 : (((u % 10 : Nat)) : Int) = dd := by omega
        rw [t5] at t1
        clear t5
        have HDD := Lib.hid hdd; clear hdd
        rcases Int.lt_or_eq_of_le hd0 with hpos | hzero
        rotate_right 1
        · subst hzero
          rw [Int.neg_zero] at t1
          have hbv : byteV (UInt8.ofNat (48 + u % 10)) = .int .u8 48 := hbv
          rw [hbv] at hl1
          have hcs := (World.ownsRow.alloc hown (.cells #[.int .u8 48] 5)).cells (g := g) rfl
          clear hbv
          go_wp2_with (at_builtin; refine appG tpB rfl _ _ rfl w.heap.size (.slice (some ⟨wr.heap.size, 0, none⟩) 1 1) 1 ([UInt8.ofNat (48 + u % 10)].map byteV) rfl hl1 ⟨g, 0, none⟩ bs.length c (bs.map byteV) rfl (by simp) hcs (byteV_one bs) (by omega) (by omega) (by have := hbr.size; simp; omega) ?_; intro v1 w1 hown1 hg1 hat1)
          obtain ⟨g', c', hv', hbg', hlt'⟩ := hown1.form (by omega)
          subst hv'
          have hbz : Below w.heap.size w w1 := (hbr.alloc hbr.size _).grown hg1 (Nat.le_trans hbr.size (by simp)) (fun k hk => Nat.le_trans hbr.size (Nat.le_of_eq (by simpa [Value.ownBlock] using hk)))
          have hown2 : OwnB w1 w.heap.size (.slice (some ⟨g', 0, none⟩) (UInt8.ofNat (48 + u % 10) :: bs).length c') (UInt8.ofNat (48 + u % 10) :: bs) := by unfold OwnB; rw [List.length_cons, Nat.add_comm]; exact hown1
          clear hown1 hl1 hcs
          go_roundw
          case rel => exact ⟨u / 10, UInt8.ofNat (48 + u % 10) :: bs, g', c', by omega, by congr 1, by rw [List.length_cons, Nat.add_comm], hown2, HN.out, hbz⟩
          case measure => simp [intOf]; omega
        · skip
          rw [hbv] at hl1
          have hcs := (World.ownsRow.alloc hown (.cells #[.int .u8 (48 + dd)] 5)).cells (g := g) rfl
          clear hbv
          go_wp2_with (at_builtin; refine appG tpB rfl _ _ rfl w.heap.size (.slice (some ⟨wr.heap.size, 0, none⟩) 1 1) 1 ([UInt8.ofNat (48 + u % 10)].map byteV) rfl hl1 ⟨g, 0, none⟩ bs.length c (bs.map byteV) rfl (by simp) hcs (byteV_one bs) (by omega) (by omega) (by have := hbr.size; simp; omega) ?_; intro v1 w1 hown1 hg1 hat1)
          obtain ⟨g', c', hv', hbg', hlt'⟩ := hown1.form (by omega)
          subst hv'
          have hbz : Below w.heap.size w w1 := (hbr.alloc hbr.size _).grown hg1 (Nat.le_trans hbr.size (by simp)) (fun k hk => Nat.le_trans hbr.size (Nat.le_of_eq (by simpa [Value.ownBlock] using hk)))
          have hown2 : OwnB w1 w.heap.size (.slice (some ⟨g', 0, none⟩) (UInt8.ofNat (48 + u % 10) :: bs).length c') (UInt8.ofNat (48 + u % 10) :: bs) := by unfold OwnB; rw [List.length_cons, Nat.add_comm]; exact hown1
          clear hown1 hl1 hcs
          go_roundw
          case rel => exact ⟨u / 10, UInt8.ofNat (48 + u % 10) :: bs, g', c', by omega, by congr 1, by rw [List.length_cons, Nat.add_comm], hown2, HN.out, hbz⟩
          case measure => simp [intOf]; omega
  · obtain ⟨u0, rfl⟩ : ∃ u : Nat, n = (u : Int) := ⟨n.natAbs, by omega⟩
    have HD := Lib.hid (dec_of (u0 : Int))
    have hu0 : ((u0 : Int)).natAbs = u0 := by omega
    rw [hu0] at hlen
    have HU := Lib.hid hu0; clear hu0
    go_enter Tryd.func156, Tryd.ntmps156
    go_wp2
    go_loopw [3, 4, 5] (fun v k _ wr => ∃ (u : Nat) (bs : List UInt8) (g c : Nat), u ≤ u0 ∧ k = .int .i64 ((u : Int)) ∧ v = .slice (some ⟨g, 0, none⟩) bs.length c ∧ OwnB wr w.heap.size (.slice (some ⟨g, 0, none⟩) bs.length c) bs ∧ digs u0 = digs u ++ bs ∧ Below w.heap.size w wr) (fun _ k _ _ => (intOf k).natAbs)
    case atStart => exact ⟨u0, [], w.heap.size, 0, Nat.le_refl _, rfl, rfl, World.ownsRow_lit w #[] 0 (Nat.le_refl _) (by decide) rfl, by simp, (Below.refl _ _).alloc (Nat.le_refl _) _⟩
    case round =>
      obtain ⟨u, bs, g, c, hu, rfl, rfl, hown, hdg, hbr⟩ := hrel
      have hbl : bs.length ≤ 21 := by rw [hdg] at hlen; simp at hlen; omega
      obtain ⟨hrb, hgl⟩ := hown.cells_at
      have HG := Lib.hid hdg; clear hdg
      rcases Nat.eq_zero_or_pos u with hu1 | hu1
      · subst hu1
        have HE : Hid (digs u0 = bs) := HG.out
        have hcv := conv_bytes wr (some ⟨g, 0, none⟩) bs.length c bs hrb
        by_cases hz : bs.length = 0
        · have hzz : ((bs.length : Int) == 0) = true := by simp [hz]
          have HF : Hid (dec ((u0 : Int)) = [48]) := by
            have h1 := HE.out
            have : u0 = 0 := by
              rcases Nat.eq_zero_or_pos u0 with h | h
              · exact h
              · rw [digs_step u0 (by omega)] at h1; rw [← h1] at hz; simp at hz
            rw [Hid, HD.out, if_pos (by omega)]
          have Hz := Lib.hid hz; clear hz
          go_wp2
          go_ret
          exact ⟨ret_str (by rw [HF.out]), hbr⟩
        · have hzz : ((bs.length : Int) == 0) = false := by rw [beq_eq_false_iff_ne]; omega
          have h0 : u0 ≠ 0 := by rintro rfl; have h1 := HE.out; simp [digs] at h1; exact hz (by rw [h1]; rfl)
          have HF : Hid (dec ((u0 : Int)) = if ((u0 : Int)) < 0 then 45 :: bs else bs) := by rw [Hid, HD.out, if_neg (by omega), HU.out, HE.out]
          clear hz
          first
            | (have hnn : ((u0 : Int)) < 0 := by omega
               go_wp2
               go_ret
               exact ⟨ret_str (by rw [HF.out, if_pos hnn]; rfl), hbr⟩)
            | (have hnn : ¬ ((u0 : Int)) < 0 := by omega
               go_wp2
               go_ret
               exact ⟨ret_str (by rw [HF.out, if_neg (by omega)]), hbr⟩)
      · have t3 : (((u : Int)) != 0) = true := by rw [bne_iff_ne]; omega
        have HN : Hid (digs u0 = digs (u / 10) ++ (UInt8.ofNat (48 + u % 10) :: bs)) := by rw [Hid, HG.out, digs_step u (by omega)]; simp
        clear hrb
        obtain ⟨dd, hdd⟩ : ∃ dd : Int, dd = (u : Int) % 10 := ⟨_, rfl⟩
        have hd0 : 0 ≤ dd := by omega
        have hd1 : dd < 10 := by omega
        have hbv : byteV (UInt8.ofNat (48 + u % 10)) = .int .u8 (48 + dd) := by rw [byte48 u, hdd]
        have hl1 := OwnB.lit1 wr (UInt8.ofNat (48 + u % 10)) w.heap.size hbr.size
        have t1 := tmod_neg10 u
        have t2 := tdiv_neg10 u
        have t4 : ((u : Int)) % 10 = dd := hdd.symm
        have t5 : (((u % 10 : Nat)) : Int) = dd := by omega
        rw [t5] at t1
        clear t5
        have HDD := Lib.hid hdd; clear hdd
        rcases Int.lt_or_eq_of_le hd0 with hpos | hzero
        rotate_right 1
        · subst hzero
          skip
          have hbv : byteV (UInt8.ofNat (48 + u % 10)) = .int .u8 48 := hbv
          rw [hbv] at hl1
          have hcs := (World.ownsRow.alloc hown (.cells #[.int .u8 48] 5)).cells (g := g) rfl
          clear hbv
          go_wp2_with (at_builtin; refine appG tpB rfl _ _ rfl w.heap.size (.slice (some ⟨wr.heap.size, 0, none⟩) 1 1) 1 ([UInt8.ofNat (48 + u % 10)].map byteV) rfl hl1 ⟨g, 0, none⟩ bs.length c (bs.map byteV) rfl (by simp) hcs (byteV_one bs) (by omega) (by omega) (by have := hbr.size; simp; omega) ?_; intro v1 w1 hown1 hg1 hat1)
          obtain ⟨g', c', hv', hbg', hlt'⟩ := hown1.form (by omega)
          subst hv'
          have hbz : Below w.heap.size w w1 := (hbr.alloc hbr.size _).grown hg1 (Nat.le_trans hbr.size (by simp)) (fun k hk => Nat.le_trans hbr.size (Nat.le_of_eq (by simpa [Value.ownBlock] using hk)))
          have hown2 : OwnB w1 w.heap.size (.slice (some ⟨g', 0, none⟩) (UInt8.ofNat (48 + u % 10) :: bs).length c') (UInt8.ofNat (48 + u % 10) :: bs) := by unfold OwnB; rw [List.length_cons, Nat.add_comm]; exact hown1
          clear hown1 hl1 hcs
          go_roundw
          case rel => exact ⟨u / 10, UInt8.ofNat (48 + u % 10) :: bs, g', c', by omega, by congr 1, by rw [List.length_cons, Nat.add_comm], hown2, HN.out, hbz⟩
          case measure => simp [intOf]; omega
        · skip
          rw [hbv] at hl1
          have hcs := (World.ownsRow.alloc hown (.cells #[.int .u8 (48 + dd)] 5)).cells (g := g) rfl
          clear hbv
          go_wp2_with (at_builtin; refine appG tpB rfl _ _ rfl w.heap.size (.slice (some ⟨wr.heap.size, 0, none⟩) 1 1) 1 ([UInt8.ofNat (48 + u % 10)].map byteV) rfl hl1 ⟨g, 0, none⟩ bs.length c (bs.map byteV) rfl (by simp) hcs (byteV_one bs) (by omega) (by omega) (by have := hbr.size; simp; omega) ?_; intro v1 w1 hown1 hg1 hat1)
          obtain ⟨g', c', hv', hbg', hlt'⟩ := hown1.form (by omega)
          subst hv'
          have hbz : Below w.heap.size w w1 := (hbr.alloc hbr.size _).grown hg1 (Nat.le_trans hbr.size (by simp)) (fun k hk => Nat.le_trans hbr.size (Nat.le_of_eq (by simpa [Value.ownBlock] using hk)))
          have hown2 : OwnB w1 w.heap.size (.slice (some ⟨g', 0, none⟩) (UInt8.ofNat (48 + u % 10) :: bs).length c') (UInt8.ofNat (48 + u % 10) :: bs) := by unfold OwnB; rw [List.length_cons, Nat.add_comm]; exact hown1
          clear hown1 hl1 hcs
          go_roundw
          case rel => exact ⟨u / 10, UInt8.ofNat (48 + u % 10) :: bs, g', c', by omega, by congr 1, by rw [List.length_cons, Nat.add_comm], hown2, HN.out, hbz⟩
          case measure => simp [intOf]; omega
end Go.Proofs.YtgpmngcemnnpmaaDoor

namespace Go.Proofs.YtgpmngcemnnpmaaDoor
open Go.RowKit Go.Sort
/-- strconv's table stands in memory -/
def TB (w : World) : Prop := Lib.TabIs Tryd.prog w "internal/strconv.uint64pow10" .u64 Lib.pow10Tab
theorem TB.below {w w' : World} (h : TB w) (hb : Below w.heap.size w w') : TB w' := by
  unfold TB Lib.TabIs World.var? at *
  cases hg : Tryd.prog.globalNamed "internal/strconv.uint64pow10" with
  | none => rw [hg] at h; cases h
  | some g =>
    rw [hg] at h
    simp only [Option.bind_some] at h ⊢
    have hl : g < w.heap.size := by
      rcases Nat.lt_or_ge g w.heap.size with h1 | h1
      · exact h1
      · rw [Array.getElem?_eq_none h1] at h; cases h
    rw [hb.block g hl]; exact h
theorem cat_bytes (a b : List UInt8) : (⟨a.toArray⟩ : ByteArray) ++ (⟨b.toArray⟩ : ByteArray) = ⟨(a ++ b).toArray⟩ := by
  apply ByteArray.ext; simp
theorem dec_len (n : Int) (h0 : -9223372036854775808 ≤ n) (h1 : n ≤ 9223372036854775807) : (dec n).length ≤ 21 := Lib.itoa_length_le n h0 h1
theorem Decimal_any (n : Int) (w : World) (h0 : -9223372036854775808 ≤ n) (h1 : n ≤ 9223372036854775807) (ht : TB w) :
    Calls Tryd.prog 48 #[.int .i64 n] w fun e w' => e = .returned (.string ⟨(dec n).toArray⟩) ∧ Below w.heap.size w w' := by
  go_enter Tryd.func48, Tryd.ntmps48
  go_wp2_with (go_at_call 81; refine (Tryd.strconv_FormatInt_10 n h0 h1 _ ht).mono ?_; rintro e w' ⟨rfl, k, os, rfl⟩)
  go_ret
  exact ⟨rfl, by rw [show grow (w.drewN k) os = grow (redrawn w (w.drawn + k)) os from rfl]; exact below_regrown w _ _⟩
/-- the character of a digit -/
def dch (d : Int) : UInt8 := if d < 10 then UInt8.ofNat (48 + d.toNat) else UInt8.ofNat (87 + d.toNat)
def rtextL (b : Int) (ds : List Int) : List UInt8 := dec b ++ [58] ++ (ds.reverse.map dch)
def rtS (b : Int) (ds : List Int) : ByteArray := ⟨(rtextL b ds).toArray⟩
theorem rtS_nil (b : Int) : rtS b [] = (⟨(dec b).toArray⟩ : ByteArray) ++ (⟨#[58]⟩ : ByteArray) := by
  rw [show (#[58] : Array UInt8) = [58].toArray from rfl, cat_bytes]; simp [rtS, rtextL]
theorem rtS_step (b : Int) (ds : List Int) (k : Nat) (h : k < ds.length) : rtS b (ds.drop k) = rtS b (ds.drop (k + 1)) ++ (⟨[dch ds[k]].toArray⟩ : ByteArray) := by
  unfold rtS; rw [cat_bytes, List.drop_eq_getElem_cons h]; unfold rtextL; rw [List.reverse_cons, List.map_append, List.append_assoc (dec b ++ [58])]; rfl
theorem rtS_len (b : Int) (ds : List Int) : (rtS b ds).size = (dec b).length + 1 + ds.length := by
  unfold rtS rtextL; simp [ByteArray.size]; omega
theorem piece (d : Int) (h0 : 0 ≤ d) (h1 : d < 16) : (⟨#[48, 49, 50, 51, 52, 53, 54, 55, 56, 57, 97, 98, 99, 100, 101, 102]⟩ : ByteArray).extract d.toNat (d + 1).toNat = ⟨[dch d].toArray⟩ := by
  obtain ⟨m, rfl⟩ : ∃ m : Nat, d = (m : Int) := ⟨d.toNat, by omega⟩
  have hm : m < 16 := by omega
  have : ∀ m : Fin 16, (⟨#[48, 49, 50, 51, 52, 53, 54, 55, 56, 57, 97, 98, 99, 100, 101, 102]⟩ : ByteArray).extract ((m.val : Int)).toNat ((m.val : Int) + 1).toNat = ⟨[dch m.val].toArray⟩ := by decide
  exact this ⟨m, hm⟩
def rtext (r : Reg) : List UInt8 := if r.ok then rtextL r.base r.digits else []
set_option maxHeartbeats 800000 in
theorem RegisterText_any (b : Int) (A : Option Addr) (n c : Nat) (ds : List Int) (w : World) (hr : RI w A n ds) (hm : n ≤ 9223372036854775807) (ht : TB w) :
    Calls Tryd.prog 47 #[.agg #[.int .i64 b, .slice A n c]] w fun e w' => e = .returned (.string ⟨(rtext ⟨b, ds⟩).toArray⟩) ∧ Below w.heap.size w w' := by
  have HL := Lib.hid hr.1
  have hb0 : Below w.heap.size w (w.alloc (.cells #[.int .i64 b, .slice A n c] 41)) := (Below.refl _ _).alloc (Nat.le_refl _) _
  rcases hv : vreg b ds with _ | _
  · have HF : Hid (rtext ⟨b, ds⟩ = []) := by simp [Hid, rtext, Reg.ok, hv]
    go_enter Tryd.func47, Tryd.ntmps47
    go_wp2_with (go_at_call 74; refine (ValidRegister_any b A n c ds _ (hr.below hb0) (by omega)).mono ?_; rintro e w1 ⟨rfl, hw1⟩; rw [hv])
    go_ret
    exact ⟨ret_str (by rw [HF.out]), hb0.trans (hw1.mono (by simp))⟩
  · have HF : Hid (rtext ⟨b, ds⟩ = rtextL b ds) := by simp [Hid, rtext, Reg.ok, hv]
    obtain ⟨⟨hb1, hb2⟩, ⟨hl1, hl2⟩, hd, -⟩ := vreg_iff.1 hv
    go_enter Tryd.func47, Tryd.ntmps47
    go_wp2_with fail
    refine (ValidRegister_any b A n c ds _ (hr.below hb0) (by omega)).mono ?_; rintro e w1 ⟨rfl, hw1⟩; rw [hv]
    obtain ⟨hc1, -⟩ := bcellB (B := w.heap.size + 1) (hw1.mono (by simp))
    go_wp2_with fail
    refine (Decimal_any b _ (by omega) (by omega) ((ht.below hb0).below hw1)).mono ?_
    rintro e w2 ⟨rfl, hw2⟩
    have hW2 : Below (w.heap.size + 1) (w.alloc (.cells #[.int .i64 b, .slice A n c] 41)) w2 := (hw1.mono (by simp)).trans (hw2.mono (by have := hw1.size; simpa using this))
    obtain ⟨hc2, -⟩ := bcellB hW2
    clear hc1
    have hdl := dec_len b (by omega) (by omega)
    go_wp2_with fail
    go_loopw [3, 4] (fun v i wr => ∃ k : Nat, k ≤ n ∧ i = .int .i64 ((k : Int) - 1) ∧ v = .string (rtS b (ds.drop k)) ∧ Below (w.heap.size + 1) (w.alloc (.cells #[.int .i64 b, .slice A n c] 41)) wr) (fun _ i _ => (intOf i + 1).toNat)
    case atStart => exact ⟨n, Nat.le_refl _, rfl, by rw [List.drop_of_length_le (by have := HL.out; omega), rtS_nil], hW2⟩
    case round =>
      obtain ⟨k, hk, rfl, rfl, hbl⟩ := hrel
      clear hc2
      rcases Nat.eq_zero_or_pos k with hk0 | hk0
      · subst hk0
        go_wp2
        go_ret
        exact ⟨ret_str (by rw [HF.out]; rfl), hb0.trans (hbl.mono (by omega))⟩
      · obtain ⟨ad, hA, hlt, hkl, hc⟩ := hr.at_ (show k - 1 < n by omega)
        rw [← World.cell?_alloc_lt w (.cells #[.int .i64 b, .slice A n c] 41) (ad.add (k - 1)) (by rw [block_of_add]; omega), ← hbl.cell (by rw [block_of_add]; omega)] at hc
        have hb0' : wr.cell? ⟨w.heap.size, 0, none⟩ = some (.int .i64 b) := by rw [hbl.cell (by simp)]; go_simp
        have hb1' : wr.cell? ⟨w.heap.size, 1, none⟩ = some (.slice A n c) := by rw [hbl.cell (by simp)]; go_simp
        obtain ⟨hd0, hd1⟩ := hd ds[k-1] (List.getElem_mem _)
        have hll : (rtS b (ds.drop k)).size ≤ 40 := by rw [rtS_len]; simp; omega
        have HS : Hid (rtS b (ds.drop (k - 1)) = rtS b (ds.drop k) ++ (⟨[dch ds[k-1]].toArray⟩ : ByteArray)) := by
          have := rtS_step b ds (k - 1) hkl; rwa [show k - 1 + 1 = k by omega] at this
        subst hA
        go_wp2
        go_quiet (fail)
        go_wp2
        go_roundw
        case rel => exact ⟨k - 1, by omega, by congr 1; omega, by rw [HS.out, piece _ hd0 (by omega)], hbl.trans (below_drewN (Below.refl _ _) _)⟩
        case measure => simp [intOf]; omega
set_option maxHeartbeats 800000 in
theorem l02Text_any (p : Addr) (r : Reg) (w : World) (hp : RegM w p r) (hv : r.ok = true) (hpb : p.block < w.heap.size) :
    Calls Tryd.prog 163 #[.pointer (some p)] w fun e w' => e = .returned (.string ⟨(rtext r).toArray⟩) ∧ Below w.heap.size w w' := by
  obtain ⟨b, ds⟩ := r
  obtain ⟨A, c, ⟨hc0, hc1⟩, hr⟩ := hp
  simp only at hc0 hc1 hr
  have HF : Hid (rtext ⟨b, ds⟩ = rtextL b ds) := by simp [Hid, rtext, hv]
  obtain ⟨⟨hb1, hb2⟩, ⟨hl1, hl2⟩, hd, -⟩ := vreg_iff.1 hv
  obtain ⟨n, hn⟩ : ∃ n, n = ds.length := ⟨_, rfl⟩
  rw [← hn] at hc1 hr
  have HL := Lib.hid hn
  rw [← hn] at hl1 hl2
  clear hn
  go_enter Tryd.func163, Tryd.ntmps163
  go_wp2_with fail
  refine (l01Dec_any b _ (by omega) (by omega)).mono ?_
  rintro e w2 ⟨rfl, hw2⟩
  have hdl := dec_len b (by omega) (by omega)
  have hc0' : w2.cell? p = some (.int .i64 b) := by rw [hw2.cell hpb]; exact hc0
  have hc1' : w2.cell? ⟨p.block, p.off + 1, none⟩ = some (.slice A n c) := by rw [hw2.cell (by exact hpb)]; exact hc1
  go_wp2_with fail
  go_loopw [4, 5] (fun v i wr => ∃ k : Nat, k ≤ n ∧ i = .int .i64 ((k : Int) - 1) ∧ v = .string (rtS b (ds.drop k)) ∧ Below w.heap.size w wr) (fun _ i _ => (intOf i + 1).toNat)
  case atStart => exact ⟨n, Nat.le_refl _, rfl, by rw [List.drop_of_length_le (by have := HL.out; omega), rtS_nil], hw2⟩
  case round =>
    obtain ⟨k, hk, rfl, rfl, hbl⟩ := hrel
    clear hc0' hc1'
    rcases Nat.eq_zero_or_pos k with hk0 | hk0
    · subst hk0
      go_wp2
      go_ret
      exact ⟨ret_str (by rw [HF.out]; rfl), hbl⟩
    · obtain ⟨ad, hA, hlt, hkl, hc⟩ := hr.at_ (show k - 1 < n by omega)
      rw [← hbl.cell (by rw [block_of_add]; omega)] at hc
      have hc0' : wr.cell? p = some (.int .i64 b) := by rw [hbl.cell hpb]; exact hc0
      have hc1' : wr.cell? ⟨p.block, p.off + 1, none⟩ = some (.slice A n c) := by rw [hbl.cell (by exact hpb)]; exact hc1
      obtain ⟨hd0, hd1⟩ := hd ds[k-1] (List.getElem_mem _)
      have hll : (rtS b (ds.drop k)).size ≤ 40 := by rw [rtS_len]; have := HL.out; simp; omega
      have HS : Hid (rtS b (ds.drop (k - 1)) = rtS b (ds.drop k) ++ (⟨[dch ds[k-1]].toArray⟩ : ByteArray)) := by
        have := rtS_step b ds (k - 1) hkl; rwa [show k - 1 + 1 = k by omega] at this
      subst hA
      go_wp2
      go_quiet (fail)
      go_wp2
      go_roundw
      case rel => exact ⟨k - 1, by omega, by congr 1; omega, by rw [HS.out, piece _ hd0 (by omega)], hbl.trans (below_drewN (Below.refl _ _) _)⟩
      case measure => simp [intOf]; omega
end Go.Proofs.YtgpmngcemnnpmaaDoor
