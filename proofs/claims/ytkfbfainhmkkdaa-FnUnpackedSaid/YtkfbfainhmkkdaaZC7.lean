/- Part 7: lemmas and contracts of the claim's functions. -/
import Derived.Test.YtkfbfainhmkkdaaZC1
import Derived.Test.YtkfbfainhmkkdaaZC2
import Derived.Test.YtkfbfainhmkkdaaZC3
import Derived.Test.YtkfbfainhmkkdaaZC4
import Derived.Test.YtkfbfainhmkkdaaZC5
import Derived.Test.YtkfbfainhmkkdaaZC6
import Derived.Deep.RegionHeld3
import Derived.Deep.DeepCutAuto
namespace Go.Proofs.Ytkfbfainhmkkdaa
open Go.RowKit Go.Sort
/-- drawn instructions -/
def DIns (b M L : Nat) (w : World) (e : Ending) (w' : World) : Prop := ∃ (g c : Nat) (xs : List Ins), e = .returned (.slice (some ⟨g, 0, none⟩) xs.length c) ∧ xs.length ≤ L ∧ DR b M w [rowIns (.slice (some ⟨g, 0, none⟩) xs.length c) xs] w'
set_option maxRecDepth 100000 in
set_option maxHeartbeats 3200000 in
theorem l11Some0_dr (b N : Nat) (w : World) (h : Src w b N) (hN : N ≤ 700000) : Calls Try.prog 163 #[.pointer (some ⟨b, 0, none⟩), .int .i64 0] w (DIns b (N + (4 + 4 * (8 + 0))) (4 * (2 + 0)) w) := by
  unfold DIns
  have D0 := DR.nil h
  clear h
  go_enter Try.func163, Try.ntmps163
  go_wp2_with fail
  refine Calls.dr (D0.al [] 46) ?_; intro w1 D1
  obtain ⟨g, hg⟩ : ∃ g, w.heap.size = g := ⟨_, rfl⟩
  rw [hg] at D1 ⊢
  have D2 : DR b _ w [rowIns (.slice (some ⟨g, 0, none⟩) 0 0) []] w1 := D1.kn (fun v hK => hK.litRow (size := 2) (n := 0) rfl (by decide))
  clear D0 D1 hg
  refine (pick_dr b _ 4 w1 D2.src (by omega)).mono ?_; rintro e w5 ⟨x, rfl, hx, h5⟩
  have D6 : DR b _ w [rowIns (.slice (some ⟨g, 0, none⟩) 0 0) []] w5 := D2.add h5
  clear D2 h5
  obtain ⟨q, rfl⟩ : ∃ q : Nat, x = q := ⟨x.toNat, by omega⟩
  have hq : q ≤ 3 := by rcases hx.2 with h | h <;> omega
  have hw1 : IntKind.i64.wrap (1 + (q : Int)) = ((q + 1 : Nat) : Int) := by rw [wrapI64 (by omega)]; omega
  clear hx
  go_wp2_with fail
  go_loopw [5, 6] (fun vv kk wr => ∃ (k : Nat) (g c : Nat) (xs : List Ins), kk = .int .i64 (k : Int) ∧ k ≤ 4 ∧ xs.length ≤ (4 - k) * (2 + 0) ∧ vv = .slice (some ⟨g, 0, none⟩) xs.length c ∧ DR b (N + 2 + (4 - k) * (8 + 0)) w [rowIns (.slice (some ⟨g, 0, none⟩) xs.length c) xs] wr) (fun _ kk _ => (intOf kk).toNat)
  case atStart => exact ⟨q + 1, g, 0, [], by go_num, by omega, by simp, rfl, D6.mono (by omega)⟩
  case round =>
    clear D6 hw1 hq
    obtain ⟨k, g, c, xs, rfl, hk4, hxl, rfl, D⟩ := hrel
    by_cases hk : 0 < k
    · have i1 : (0 : Int) < (k : Int) := by omega
      have i2 : (k : Int) > 0 := i1
      go_wp2_with fail
      refine Calls.dr (D.al [.int .i64 2, .int .i64 2, .int .i64 3, .int .i64 4, .int .i64 5, .int .i64 1, .int .i64 8, .int .i64 9, .int .i64 6, .int .i64 7] 2) ?_; intro w6 D6
      obtain ⟨hr, hA⟩ := DR.lit (ds := [2, 2, 3, 4, 5, 1, 8, 9, 6, 7]) D6 (by decide)
      refine (among_dr b _ _ 10 10 _ w6 D6.src (by omega) hr hA (by omega) (by omega)).mono ?_; rintro e w7 ⟨x, rfl, hx, h7⟩
      have D7 : DR b _ w [rowIns (.slice (some ⟨g, 0, none⟩) xs.length c) xs] w7 := (D6.add h7).sel [1] 99 (by decide) (by decide)
      clear hr hA D D6 h7
      have hx2 : x = 8 ∨ x = 9 ∨ x = 1 ∨ (2 ≤ x ∧ x ≤ 5) ∨ x = 6 ∨ x = 7 := by simp at hx; omega
      clear hx
      rcases hx2 with rfl | rfl | rfl | hx2 | hx2
      · have ho : opens 8 = true := rfl
        rcases Nat.eq_zero_or_pos 0 with hz | hz
        · first
            | (exact absurd hz (by decide))
            | (go_wp2_with (go_at_call 80; refine (l11Opens_any _ _).mono ?_; rintro e w' ⟨rfl, rfl⟩; rw [ho])
               go_roundw
               case rel => exact ⟨k - 1, g, c, xs, by go_num, by omega, by omega, rfl, D7.mono (by omega)⟩
               case measure => simp [intOf]; omega)
        · first
            | (exact absurd hz (by decide))
            | (go_wp2_with (go_at_call 80; refine (l11Opens_any _ _).mono ?_; rintro e w' ⟨rfl, rfl⟩; rw [ho])
               refine Calls.dr (D7.al [.int .i64 8, .int .i64 0] 46) ?_; intro w8 D8
               obtain ⟨gx, hgx⟩ : ∃ g, w7.heap.size = g := ⟨_, rfl⟩
               rw [hgx] at D8 ⊢
               clear hgx D7
               refine (pick_dr b _ 4 w8 D8.src (by omega)).mono ?_; rintro e w9 ⟨y, rfl, hy, h9⟩
               have D9 : DR b _ w [.blk gx [.int .i64 8, .int .i64 0] 46, rowIns (.slice (some ⟨g, 0, none⟩) xs.length c) xs] w9 := D8.add h9
               clear D8 h9
               obtain ⟨r, hr⟩ : ∃ r, 1 + y = r := ⟨_, rfl⟩
               have hw1 : IntKind.i64.wrap (1 + y) = r := by rw [wrapI64 (by omega)]; exact hr
               clear hy hr
               obtain ⟨a1, a2, a3, -⟩ := D9.cells
               go_upto_region 13 with fail
               refine Code.wp.dr (D9.st 1 (.int .i64 r)) ?_; intro w10 D10
               clear a1 a2 a3 D9
               obtain ⟨a1, a2, a3, -⟩ := D10.cells
               obtain ⟨v, hT, hS, hK⟩ := D10.front 1 rfl
               go_wp2_with (at_builtin; refine kn_pushIns (ys := [⟨8, r⟩]) rfl _ _ rfl _ xs rfl rfl (hK.al [.int .i64 8, .int .i64 r] 46) (by simp; omega) ?_; intro v9 w11 hK9; obtain ⟨g5, c5, rfl⟩ := row_pos hK9.at0 (by simp))
               clear a1 a2 a3 D10
               have D11 : DR b _ w [rowIns (.slice (some ⟨g5, 0, none⟩) (xs ++ [(⟨8, r⟩ : Ins)]).length c5) (xs ++ [(⟨8, r⟩ : Ins)])] w11 := DR.sel ⟨v, hT, hS, hK9⟩ [0] 99 (by decide) (by decide)
               clear hT hS hK9 hK
               obtain ⟨ys, hys⟩ : ∃ ys, xs ++ [(⟨8, r⟩ : Ins)] = ys := ⟨_, rfl⟩
               have hyn : ys.length = xs.length + 1 := by rw [← hys]; simp
               rw [hys] at D11
               try rw [← hyn]
               have hyl : ys.length ≤ (4 - k) * (2 + 0) + 1 := by omega
               clear hys hyn
               have KR := Lib.hid (l11Some0_dr b _ w11 D11.src (by omega))
               unfold DIns at KR
               refine KR.out.mono ?_; rintro e w12 ⟨g6, c6, zs, rfl, hzl, h12⟩
               obtain ⟨v, hT, hS, hK⟩ : DR b _ w [rowIns (.slice (some ⟨g6, 0, none⟩) zs.length c6) zs, rowIns (.slice (some ⟨g5, 0, none⟩) ys.length c5) ys] w12 := D11.add h12
               clear h12 KR D11
               go_wp2_with (first
                 | (at_builtin; refine kn_appZ tpIns rfl _ _ rfl (.slice (some ⟨g5, 0, none⟩) ys.length c5) ys.length (cellsIns ys) rfl (by simp [Value.ownBlock]) rfl hK (cellsIns_one zs) (by omega) (by omega) ?_; intro v13 w13 hb13 hK13; have hK14 : Kn v (rowIns v13 (ys ++ zs) :: _) w13 := (by unfold rowIns; rw [List.length_append, cellsIns_app]; exact hK13); obtain ⟨g7, c7, rfl⟩ := row_some hK14.at0 hb13)
                 | (at_builtin; refine kn_pushIns (ys := [⟨10, 0⟩]) rfl _ _ rfl _ (ys ++ zs) (by rw [List.length_append]; rfl) rfl (hK14.al [.int .i64 10, .int .i64 0] 46) (by simp; omega) ?_; intro v15 w15 hK15; obtain ⟨g8, c8, rfl⟩ := row_pos hK15.at0 (by simp; omega)))
               go_roundw
               case rel => exact ⟨k - 1, g8, c8, ys ++ zs ++ [⟨10, 0⟩], by go_num, by omega, (by rw [List.length_append, List.length_append, List.length_singleton]; omega), by simp, (DR.sel (show DR b _ w _ _ from ⟨v, hT, hS, hK15⟩) [0] 99 (by decide) (by decide)).mono (by omega)⟩
               case measure => simp [intOf]; omega)
      · have ho : opens 9 = true := rfl
        rcases Nat.eq_zero_or_pos 0 with hz | hz
        · first
            | (exact absurd hz (by decide))
            | (go_wp2_with (go_at_call 80; refine (l11Opens_any _ _).mono ?_; rintro e w' ⟨rfl, rfl⟩; rw [ho])
               go_roundw
               case rel => exact ⟨k - 1, g, c, xs, by go_num, by omega, by omega, rfl, D7.mono (by omega)⟩
               case measure => simp [intOf]; omega)
        · first
            | (exact absurd hz (by decide))
            | (go_upto_region 13 with (go_at_call 80; refine (l11Opens_any _ _).mono ?_; rintro e w' ⟨rfl, rfl⟩; rw [ho])
               refine Code.wp.dr (D7.al [.int .i64 9, .int .i64 0] 46) ?_; intro w10 D10
               obtain ⟨gx, hgx⟩ : ∃ g, w7.heap.size = g := ⟨_, rfl⟩
               rw [hgx] at D10 ⊢
               clear hgx D7
               obtain ⟨a1, a2, a3, -⟩ := D10.cells
               obtain ⟨v, hT, hS, hK⟩ := D10.front 1 rfl
               go_wp2_with (at_builtin; refine kn_pushIns (ys := [⟨9, 0⟩]) rfl _ _ rfl _ xs rfl rfl (hK.al [.int .i64 9, .int .i64 0] 46) (by simp; omega) ?_; intro v9 w11 hK9; obtain ⟨g5, c5, rfl⟩ := row_pos hK9.at0 (by simp))
               clear a1 a2 a3 D10
               have D11 : DR b _ w [rowIns (.slice (some ⟨g5, 0, none⟩) (xs ++ [(⟨9, 0⟩ : Ins)]).length c5) (xs ++ [(⟨9, 0⟩ : Ins)])] w11 := DR.sel ⟨v, hT, hS, hK9⟩ [0] 99 (by decide) (by decide)
               clear hT hS hK9 hK
               obtain ⟨ys, hys⟩ : ∃ ys, xs ++ [(⟨9, 0⟩ : Ins)] = ys := ⟨_, rfl⟩
               have hyn : ys.length = xs.length + 1 := by rw [← hys]; simp
               rw [hys] at D11
               try rw [← hyn]
               have hyl : ys.length ≤ (4 - k) * (2 + 0) + 1 := by omega
               clear hys hyn
               have KR := Lib.hid (l11Some0_dr b _ w11 D11.src (by omega))
               unfold DIns at KR
               refine KR.out.mono ?_; rintro e w12 ⟨g6, c6, zs, rfl, hzl, h12⟩
               obtain ⟨v, hT, hS, hK⟩ : DR b _ w [rowIns (.slice (some ⟨g6, 0, none⟩) zs.length c6) zs, rowIns (.slice (some ⟨g5, 0, none⟩) ys.length c5) ys] w12 := D11.add h12
               clear h12 KR D11
               go_wp2_with (first
                 | (at_builtin; refine kn_appZ tpIns rfl _ _ rfl (.slice (some ⟨g5, 0, none⟩) ys.length c5) ys.length (cellsIns ys) rfl (by simp [Value.ownBlock]) rfl hK (cellsIns_one zs) (by omega) (by omega) ?_; intro v13 w13 hb13 hK13; have hK14 : Kn v (rowIns v13 (ys ++ zs) :: _) w13 := (by unfold rowIns; rw [List.length_append, cellsIns_app]; exact hK13); obtain ⟨g7, c7, rfl⟩ := row_some hK14.at0 hb13)
                 | (at_builtin; refine kn_pushIns (ys := [⟨10, 0⟩]) rfl _ _ rfl _ (ys ++ zs) (by rw [List.length_append]; rfl) rfl (hK14.al [.int .i64 10, .int .i64 0] 46) (by simp; omega) ?_; intro v15 w15 hK15; obtain ⟨g8, c8, rfl⟩ := row_pos hK15.at0 (by simp; omega)))
               go_roundw
               case rel => exact ⟨k - 1, g8, c8, ys ++ zs ++ [⟨10, 0⟩], by go_num, by omega, (by rw [List.length_append, List.length_append, List.length_singleton]; omega), by simp, (DR.sel (show DR b _ w _ _ from ⟨v, hT, hS, hK15⟩) [0] 99 (by decide) (by decide)).mono (by omega)⟩
               case measure => simp [intOf]; omega)
      · have ho : opens 1 = false := rfl
        go_wp2_with (go_at_call 80; refine (l11Opens_any _ _).mono ?_; rintro e w' ⟨rfl, rfl⟩; rw [ho])
        refine (pick_dr b _ 30 w7 D7.src (by omega)).mono ?_; rintro e w8 ⟨y, rfl, hy, h8⟩
        obtain ⟨v, hT, hS, hK⟩ : DR b _ w [rowIns (.slice (some ⟨g, 0, none⟩) xs.length c) xs] w8 := D7.add h8
        clear h8 D7 hy
        go_wp2_with (at_builtin; refine kn_pushIns (ys := [⟨1, y⟩]) rfl _ _ rfl _ xs rfl rfl (hK.al [.int .i64 (1), .int .i64 (y)] 46) (by simp; omega) ?_; intro v9 w9 hK9; obtain ⟨g5, c5, rfl⟩ := row_pos hK9.at0 (by simp))
        go_roundw
        case rel => exact ⟨k - 1, g5, c5, xs ++ [⟨1, y⟩], by go_num, by omega, by simp; omega, by simp, (show DR b _ w _ _ from ⟨v, hT, hS, hK9⟩).mono (by omega)⟩
        case measure => simp [intOf]; omega
      · have ho : opens x = false := by unfold opens; simp; omega
        have e1 : (x == 1) = false := by simp; omega
        have e2 : x < 6 := by omega
        go_wp2_with (go_at_call 80; refine (l11Opens_any _ _).mono ?_; rintro e w' ⟨rfl, rfl⟩; rw [ho])
        refine (pick_dr b _ 4 w7 D7.src (by omega)).mono ?_; rintro e w8 ⟨y, rfl, hy, h8⟩
        have D8 : DR b _ w [rowIns (.slice (some ⟨g, 0, none⟩) xs.length c) xs] w8 := D7.add h8
        clear h8 D7
        go_wp2_with fail
        refine (pick_dr b _ 2 w8 D8.src (by omega)).mono ?_; rintro e w9 ⟨z, rfl, hz, h9⟩
        obtain ⟨v, hT, hS, hK⟩ : DR b _ w [rowIns (.slice (some ⟨g, 0, none⟩) xs.length c) xs] w9 := D8.add h9
        clear h9 D8
        obtain ⟨r, hr⟩ : ∃ r, 1 + y * z = r := ⟨_, rfl⟩
        have hz2 : z = 0 ∨ z = 1 := by omega
        have hyz : 0 ≤ y * z ∧ y * z ≤ 3 := by rcases hz2 with rfl | rfl <;> omega
        have hw1 : IntKind.i64.wrap (y * z) = y * z := wrapI64 (by omega)
        have hw2 : IntKind.i64.wrap (1 + y * z) = r := by rw [wrapI64 (by omega)]; exact hr
        clear hz2 hyz hr hy hz
        go_wp2_with (at_builtin; refine kn_pushIns (ys := [⟨x, r⟩]) rfl _ _ rfl _ xs rfl rfl (hK.al [.int .i64 (x), .int .i64 (r)] 46) (by simp; omega) ?_; intro v9 w9 hK9; obtain ⟨g5, c5, rfl⟩ := row_pos hK9.at0 (by simp))
        go_roundw
        case rel => exact ⟨k - 1, g5, c5, xs ++ [⟨x, r⟩], by go_num, by omega, by simp; omega, by simp, (show DR b _ w _ _ from ⟨v, hT, hS, hK9⟩).mono (by omega)⟩
        case measure => simp [intOf]; omega
      · have ho : opens x = false := by rcases hx2 with rfl | rfl <;> rfl
        have e1 : (x == 1) = false := by simp; omega
        have e2 : ¬ x < 6 := by omega
        go_wp2_with (go_at_call 80; refine (l11Opens_any _ _).mono ?_; rintro e w' ⟨rfl, rfl⟩; rw [ho])
        refine (one_dr b _ 3 w7 D7.src (by omega)).mono ?_; rintro e w8 ⟨y, rfl, h8⟩
        have D8 : DR b _ w [rowIns (.slice (some ⟨g, 0, none⟩) xs.length c) xs] w8 := D7.add h8
        clear h8 D7
        rcases y with _ | _
        · go_wp2_with fail
          go_roundw
          case rel => exact ⟨k - 1, g, c, xs, by go_num, by omega, by omega, rfl, D8.mono (by omega)⟩
          case measure => simp [intOf]; omega
        · obtain ⟨v, hT, hS, hK⟩ := D8
          go_wp2_with (at_builtin; refine kn_pushIns (ys := [⟨x, 0⟩]) rfl _ _ rfl _ xs rfl rfl (hK.al [.int .i64 (x), .int .i64 (0)] 46) (by simp; omega) ?_; intro v9 w9 hK9; obtain ⟨g5, c5, rfl⟩ := row_pos hK9.at0 (by simp))
          go_roundw
          case rel => exact ⟨k - 1, g5, c5, xs ++ [⟨x, 0⟩], by go_num, by omega, by simp; omega, by simp, (show DR b _ w _ _ from ⟨v, hT, hS, hK9⟩).mono (by omega)⟩
          case measure => simp [intOf]; omega
    · have i1 : ¬ (k : Int) > 0 := by omega
      go_wp2_with fail
      go_ret
      exact ⟨g, c, xs, rfl, by omega, D.mono (by omega)⟩
set_option maxRecDepth 100000 in
set_option maxHeartbeats 3200000 in
theorem l11Some1_dr (b N : Nat) (w : World) (h : Src w b N) (hN : N ≤ 650000) : Calls Try.prog 163 #[.pointer (some ⟨b, 0, none⟩), .int .i64 1] w (DIns b (N + (4 + 4 * (8 + 36))) (4 * (2 + 8)) w) := by
  unfold DIns
  have D0 := DR.nil h
  clear h
  go_enter Try.func163, Try.ntmps163
  go_wp2_with fail
  refine Calls.dr (D0.al [] 46) ?_; intro w1 D1
  obtain ⟨g, hg⟩ : ∃ g, w.heap.size = g := ⟨_, rfl⟩
  rw [hg] at D1 ⊢
  have D2 : DR b _ w [rowIns (.slice (some ⟨g, 0, none⟩) 0 0) []] w1 := D1.kn (fun v hK => hK.litRow (size := 2) (n := 0) rfl (by decide))
  clear D0 D1 hg
  refine (pick_dr b _ 4 w1 D2.src (by omega)).mono ?_; rintro e w5 ⟨x, rfl, hx, h5⟩
  have D6 : DR b _ w [rowIns (.slice (some ⟨g, 0, none⟩) 0 0) []] w5 := D2.add h5
  clear D2 h5
  obtain ⟨q, rfl⟩ : ∃ q : Nat, x = q := ⟨x.toNat, by omega⟩
  have hq : q ≤ 3 := by rcases hx.2 with h | h <;> omega
  have hw1 : IntKind.i64.wrap (1 + (q : Int)) = ((q + 1 : Nat) : Int) := by rw [wrapI64 (by omega)]; omega
  clear hx
  go_wp2_with fail
  go_loopw [5, 6] (fun vv kk wr => ∃ (k : Nat) (g c : Nat) (xs : List Ins), kk = .int .i64 (k : Int) ∧ k ≤ 4 ∧ xs.length ≤ (4 - k) * (2 + 8) ∧ vv = .slice (some ⟨g, 0, none⟩) xs.length c ∧ DR b (N + 2 + (4 - k) * (8 + 36)) w [rowIns (.slice (some ⟨g, 0, none⟩) xs.length c) xs] wr) (fun _ kk _ => (intOf kk).toNat)
  case atStart => exact ⟨q + 1, g, 0, [], by go_num, by omega, by simp, rfl, D6.mono (by omega)⟩
  case round =>
    clear D6 hw1 hq
    obtain ⟨k, g, c, xs, rfl, hk4, hxl, rfl, D⟩ := hrel
    by_cases hk : 0 < k
    · have i1 : (0 : Int) < (k : Int) := by omega
      have i2 : (k : Int) > 0 := i1
      go_wp2_with fail
      refine Calls.dr (D.al [.int .i64 2, .int .i64 2, .int .i64 3, .int .i64 4, .int .i64 5, .int .i64 1, .int .i64 8, .int .i64 9, .int .i64 6, .int .i64 7] 2) ?_; intro w6 D6
      obtain ⟨hr, hA⟩ := DR.lit (ds := [2, 2, 3, 4, 5, 1, 8, 9, 6, 7]) D6 (by decide)
      refine (among_dr b _ _ 10 10 _ w6 D6.src (by omega) hr hA (by omega) (by omega)).mono ?_; rintro e w7 ⟨x, rfl, hx, h7⟩
      have D7 : DR b _ w [rowIns (.slice (some ⟨g, 0, none⟩) xs.length c) xs] w7 := (D6.add h7).sel [1] 99 (by decide) (by decide)
      clear hr hA D D6 h7
      have hx2 : x = 8 ∨ x = 9 ∨ x = 1 ∨ (2 ≤ x ∧ x ≤ 5) ∨ x = 6 ∨ x = 7 := by simp at hx; omega
      clear hx
      rcases hx2 with rfl | rfl | rfl | hx2 | hx2
      · have ho : opens 8 = true := rfl
        rcases Nat.eq_zero_or_pos 1 with hz | hz
        · first
            | (exact absurd hz (by decide))
            | (go_wp2_with (go_at_call 80; refine (l11Opens_any _ _).mono ?_; rintro e w' ⟨rfl, rfl⟩; rw [ho])
               go_roundw
               case rel => exact ⟨k - 1, g, c, xs, by go_num, by omega, by omega, rfl, D7.mono (by omega)⟩
               case measure => simp [intOf]; omega)
        · first
            | (exact absurd hz (by decide))
            | (go_wp2_with (go_at_call 80; refine (l11Opens_any _ _).mono ?_; rintro e w' ⟨rfl, rfl⟩; rw [ho])
               refine Calls.dr (D7.al [.int .i64 8, .int .i64 0] 46) ?_; intro w8 D8
               obtain ⟨gx, hgx⟩ : ∃ g, w7.heap.size = g := ⟨_, rfl⟩
               rw [hgx] at D8 ⊢
               clear hgx D7
               refine (pick_dr b _ 4 w8 D8.src (by omega)).mono ?_; rintro e w9 ⟨y, rfl, hy, h9⟩
               have D9 : DR b _ w [.blk gx [.int .i64 8, .int .i64 0] 46, rowIns (.slice (some ⟨g, 0, none⟩) xs.length c) xs] w9 := D8.add h9
               clear D8 h9
               obtain ⟨r, hr⟩ : ∃ r, 1 + y = r := ⟨_, rfl⟩
               have hw1 : IntKind.i64.wrap (1 + y) = r := by rw [wrapI64 (by omega)]; exact hr
               clear hy hr
               obtain ⟨a1, a2, a3, -⟩ := D9.cells
               go_upto_region 13 with fail
               refine Code.wp.dr (D9.st 1 (.int .i64 r)) ?_; intro w10 D10
               clear a1 a2 a3 D9
               obtain ⟨a1, a2, a3, -⟩ := D10.cells
               obtain ⟨v, hT, hS, hK⟩ := D10.front 1 rfl
               go_wp2_with (at_builtin; refine kn_pushIns (ys := [⟨8, r⟩]) rfl _ _ rfl _ xs rfl rfl (hK.al [.int .i64 8, .int .i64 r] 46) (by simp; omega) ?_; intro v9 w11 hK9; obtain ⟨g5, c5, rfl⟩ := row_pos hK9.at0 (by simp))
               clear a1 a2 a3 D10
               have D11 : DR b _ w [rowIns (.slice (some ⟨g5, 0, none⟩) (xs ++ [(⟨8, r⟩ : Ins)]).length c5) (xs ++ [(⟨8, r⟩ : Ins)])] w11 := DR.sel ⟨v, hT, hS, hK9⟩ [0] 99 (by decide) (by decide)
               clear hT hS hK9 hK
               obtain ⟨ys, hys⟩ : ∃ ys, xs ++ [(⟨8, r⟩ : Ins)] = ys := ⟨_, rfl⟩
               have hyn : ys.length = xs.length + 1 := by rw [← hys]; simp
               rw [hys] at D11
               try rw [← hyn]
               have hyl : ys.length ≤ (4 - k) * (2 + 8) + 1 := by omega
               clear hys hyn
               have KR := Lib.hid (l11Some0_dr b _ w11 D11.src (by omega))
               unfold DIns at KR
               refine KR.out.mono ?_; rintro e w12 ⟨g6, c6, zs, rfl, hzl, h12⟩
               obtain ⟨v, hT, hS, hK⟩ : DR b _ w [rowIns (.slice (some ⟨g6, 0, none⟩) zs.length c6) zs, rowIns (.slice (some ⟨g5, 0, none⟩) ys.length c5) ys] w12 := D11.add h12
               clear h12 KR D11
               go_wp2_with (first
                 | (at_builtin; refine kn_appZ tpIns rfl _ _ rfl (.slice (some ⟨g5, 0, none⟩) ys.length c5) ys.length (cellsIns ys) rfl (by simp [Value.ownBlock]) rfl hK (cellsIns_one zs) (by omega) (by omega) ?_; intro v13 w13 hb13 hK13; have hK14 : Kn v (rowIns v13 (ys ++ zs) :: _) w13 := (by unfold rowIns; rw [List.length_append, cellsIns_app]; exact hK13); obtain ⟨g7, c7, rfl⟩ := row_some hK14.at0 hb13)
                 | (at_builtin; refine kn_pushIns (ys := [⟨10, 0⟩]) rfl _ _ rfl _ (ys ++ zs) (by rw [List.length_append]; rfl) rfl (hK14.al [.int .i64 10, .int .i64 0] 46) (by simp; omega) ?_; intro v15 w15 hK15; obtain ⟨g8, c8, rfl⟩ := row_pos hK15.at0 (by simp; omega)))
               go_roundw
               case rel => exact ⟨k - 1, g8, c8, ys ++ zs ++ [⟨10, 0⟩], by go_num, by omega, (by rw [List.length_append, List.length_append, List.length_singleton]; omega), by simp, (DR.sel (show DR b _ w _ _ from ⟨v, hT, hS, hK15⟩) [0] 99 (by decide) (by decide)).mono (by omega)⟩
               case measure => simp [intOf]; omega)
      · have ho : opens 9 = true := rfl
        rcases Nat.eq_zero_or_pos 1 with hz | hz
        · first
            | (exact absurd hz (by decide))
            | (go_wp2_with (go_at_call 80; refine (l11Opens_any _ _).mono ?_; rintro e w' ⟨rfl, rfl⟩; rw [ho])
               go_roundw
               case rel => exact ⟨k - 1, g, c, xs, by go_num, by omega, by omega, rfl, D7.mono (by omega)⟩
               case measure => simp [intOf]; omega)
        · first
            | (exact absurd hz (by decide))
            | (go_upto_region 13 with (go_at_call 80; refine (l11Opens_any _ _).mono ?_; rintro e w' ⟨rfl, rfl⟩; rw [ho])
               refine Code.wp.dr (D7.al [.int .i64 9, .int .i64 0] 46) ?_; intro w10 D10
               obtain ⟨gx, hgx⟩ : ∃ g, w7.heap.size = g := ⟨_, rfl⟩
               rw [hgx] at D10 ⊢
               clear hgx D7
               obtain ⟨a1, a2, a3, -⟩ := D10.cells
               obtain ⟨v, hT, hS, hK⟩ := D10.front 1 rfl
               go_wp2_with (at_builtin; refine kn_pushIns (ys := [⟨9, 0⟩]) rfl _ _ rfl _ xs rfl rfl (hK.al [.int .i64 9, .int .i64 0] 46) (by simp; omega) ?_; intro v9 w11 hK9; obtain ⟨g5, c5, rfl⟩ := row_pos hK9.at0 (by simp))
               clear a1 a2 a3 D10
               have D11 : DR b _ w [rowIns (.slice (some ⟨g5, 0, none⟩) (xs ++ [(⟨9, 0⟩ : Ins)]).length c5) (xs ++ [(⟨9, 0⟩ : Ins)])] w11 := DR.sel ⟨v, hT, hS, hK9⟩ [0] 99 (by decide) (by decide)
               clear hT hS hK9 hK
               obtain ⟨ys, hys⟩ : ∃ ys, xs ++ [(⟨9, 0⟩ : Ins)] = ys := ⟨_, rfl⟩
               have hyn : ys.length = xs.length + 1 := by rw [← hys]; simp
               rw [hys] at D11
               try rw [← hyn]
               have hyl : ys.length ≤ (4 - k) * (2 + 8) + 1 := by omega
               clear hys hyn
               have KR := Lib.hid (l11Some0_dr b _ w11 D11.src (by omega))
               unfold DIns at KR
               refine KR.out.mono ?_; rintro e w12 ⟨g6, c6, zs, rfl, hzl, h12⟩
               obtain ⟨v, hT, hS, hK⟩ : DR b _ w [rowIns (.slice (some ⟨g6, 0, none⟩) zs.length c6) zs, rowIns (.slice (some ⟨g5, 0, none⟩) ys.length c5) ys] w12 := D11.add h12
               clear h12 KR D11
               go_wp2_with (first
                 | (at_builtin; refine kn_appZ tpIns rfl _ _ rfl (.slice (some ⟨g5, 0, none⟩) ys.length c5) ys.length (cellsIns ys) rfl (by simp [Value.ownBlock]) rfl hK (cellsIns_one zs) (by omega) (by omega) ?_; intro v13 w13 hb13 hK13; have hK14 : Kn v (rowIns v13 (ys ++ zs) :: _) w13 := (by unfold rowIns; rw [List.length_append, cellsIns_app]; exact hK13); obtain ⟨g7, c7, rfl⟩ := row_some hK14.at0 hb13)
                 | (at_builtin; refine kn_pushIns (ys := [⟨10, 0⟩]) rfl _ _ rfl _ (ys ++ zs) (by rw [List.length_append]; rfl) rfl (hK14.al [.int .i64 10, .int .i64 0] 46) (by simp; omega) ?_; intro v15 w15 hK15; obtain ⟨g8, c8, rfl⟩ := row_pos hK15.at0 (by simp; omega)))
               go_roundw
               case rel => exact ⟨k - 1, g8, c8, ys ++ zs ++ [⟨10, 0⟩], by go_num, by omega, (by rw [List.length_append, List.length_append, List.length_singleton]; omega), by simp, (DR.sel (show DR b _ w _ _ from ⟨v, hT, hS, hK15⟩) [0] 99 (by decide) (by decide)).mono (by omega)⟩
               case measure => simp [intOf]; omega)
      · have ho : opens 1 = false := rfl
        go_wp2_with (go_at_call 80; refine (l11Opens_any _ _).mono ?_; rintro e w' ⟨rfl, rfl⟩; rw [ho])
        refine (pick_dr b _ 30 w7 D7.src (by omega)).mono ?_; rintro e w8 ⟨y, rfl, hy, h8⟩
        obtain ⟨v, hT, hS, hK⟩ : DR b _ w [rowIns (.slice (some ⟨g, 0, none⟩) xs.length c) xs] w8 := D7.add h8
        clear h8 D7 hy
        go_wp2_with (at_builtin; refine kn_pushIns (ys := [⟨1, y⟩]) rfl _ _ rfl _ xs rfl rfl (hK.al [.int .i64 (1), .int .i64 (y)] 46) (by simp; omega) ?_; intro v9 w9 hK9; obtain ⟨g5, c5, rfl⟩ := row_pos hK9.at0 (by simp))
        go_roundw
        case rel => exact ⟨k - 1, g5, c5, xs ++ [⟨1, y⟩], by go_num, by omega, by simp; omega, by simp, (show DR b _ w _ _ from ⟨v, hT, hS, hK9⟩).mono (by omega)⟩
        case measure => simp [intOf]; omega
      · have ho : opens x = false := by unfold opens; simp; omega
        have e1 : (x == 1) = false := by simp; omega
        have e2 : x < 6 := by omega
        go_wp2_with (go_at_call 80; refine (l11Opens_any _ _).mono ?_; rintro e w' ⟨rfl, rfl⟩; rw [ho])
        refine (pick_dr b _ 4 w7 D7.src (by omega)).mono ?_; rintro e w8 ⟨y, rfl, hy, h8⟩
        have D8 : DR b _ w [rowIns (.slice (some ⟨g, 0, none⟩) xs.length c) xs] w8 := D7.add h8
        clear h8 D7
        go_wp2_with fail
        refine (pick_dr b _ 2 w8 D8.src (by omega)).mono ?_; rintro e w9 ⟨z, rfl, hz, h9⟩
        obtain ⟨v, hT, hS, hK⟩ : DR b _ w [rowIns (.slice (some ⟨g, 0, none⟩) xs.length c) xs] w9 := D8.add h9
        clear h9 D8
        obtain ⟨r, hr⟩ : ∃ r, 1 + y * z = r := ⟨_, rfl⟩
        have hz2 : z = 0 ∨ z = 1 := by omega
        have hyz : 0 ≤ y * z ∧ y * z ≤ 3 := by rcases hz2 with rfl | rfl <;> omega
        have hw1 : IntKind.i64.wrap (y * z) = y * z := wrapI64 (by omega)
        have hw2 : IntKind.i64.wrap (1 + y * z) = r := by rw [wrapI64 (by omega)]; exact hr
        clear hz2 hyz hr hy hz
        go_wp2_with (at_builtin; refine kn_pushIns (ys := [⟨x, r⟩]) rfl _ _ rfl _ xs rfl rfl (hK.al [.int .i64 (x), .int .i64 (r)] 46) (by simp; omega) ?_; intro v9 w9 hK9; obtain ⟨g5, c5, rfl⟩ := row_pos hK9.at0 (by simp))
        go_roundw
        case rel => exact ⟨k - 1, g5, c5, xs ++ [⟨x, r⟩], by go_num, by omega, by simp; omega, by simp, (show DR b _ w _ _ from ⟨v, hT, hS, hK9⟩).mono (by omega)⟩
        case measure => simp [intOf]; omega
      · have ho : opens x = false := by rcases hx2 with rfl | rfl <;> rfl
        have e1 : (x == 1) = false := by simp; omega
        have e2 : ¬ x < 6 := by omega
        go_wp2_with (go_at_call 80; refine (l11Opens_any _ _).mono ?_; rintro e w' ⟨rfl, rfl⟩; rw [ho])
        refine (one_dr b _ 3 w7 D7.src (by omega)).mono ?_; rintro e w8 ⟨y, rfl, h8⟩
        have D8 : DR b _ w [rowIns (.slice (some ⟨g, 0, none⟩) xs.length c) xs] w8 := D7.add h8
        clear h8 D7
        rcases y with _ | _
        · go_wp2_with fail
          go_roundw
          case rel => exact ⟨k - 1, g, c, xs, by go_num, by omega, by omega, rfl, D8.mono (by omega)⟩
          case measure => simp [intOf]; omega
        · obtain ⟨v, hT, hS, hK⟩ := D8
          go_wp2_with (at_builtin; refine kn_pushIns (ys := [⟨x, 0⟩]) rfl _ _ rfl _ xs rfl rfl (hK.al [.int .i64 (x), .int .i64 (0)] 46) (by simp; omega) ?_; intro v9 w9 hK9; obtain ⟨g5, c5, rfl⟩ := row_pos hK9.at0 (by simp))
          go_roundw
          case rel => exact ⟨k - 1, g5, c5, xs ++ [⟨x, 0⟩], by go_num, by omega, by simp; omega, by simp, (show DR b _ w _ _ from ⟨v, hT, hS, hK9⟩).mono (by omega)⟩
          case measure => simp [intOf]; omega
    · have i1 : ¬ (k : Int) > 0 := by omega
      go_wp2_with fail
      go_ret
      exact ⟨g, c, xs, rfl, by omega, D.mono (by omega)⟩
set_option maxRecDepth 100000 in
set_option maxHeartbeats 3200000 in
theorem l11Some2_dr (b N : Nat) (w : World) (h : Src w b N) (hN : N ≤ 600000) : Calls Try.prog 163 #[.pointer (some ⟨b, 0, none⟩), .int .i64 2] w (DIns b (N + (4 + 4 * (8 + 180))) (4 * (2 + 40)) w) := by
  unfold DIns
  have D0 := DR.nil h
  clear h
  go_enter Try.func163, Try.ntmps163
  go_wp2_with fail
  refine Calls.dr (D0.al [] 46) ?_; intro w1 D1
  obtain ⟨g, hg⟩ : ∃ g, w.heap.size = g := ⟨_, rfl⟩
  rw [hg] at D1 ⊢
  have D2 : DR b _ w [rowIns (.slice (some ⟨g, 0, none⟩) 0 0) []] w1 := D1.kn (fun v hK => hK.litRow (size := 2) (n := 0) rfl (by decide))
  clear D0 D1 hg
  refine (pick_dr b _ 4 w1 D2.src (by omega)).mono ?_; rintro e w5 ⟨x, rfl, hx, h5⟩
  have D6 : DR b _ w [rowIns (.slice (some ⟨g, 0, none⟩) 0 0) []] w5 := D2.add h5
  clear D2 h5
  obtain ⟨q, rfl⟩ : ∃ q : Nat, x = q := ⟨x.toNat, by omega⟩
  have hq : q ≤ 3 := by rcases hx.2 with h | h <;> omega
  have hw1 : IntKind.i64.wrap (1 + (q : Int)) = ((q + 1 : Nat) : Int) := by rw [wrapI64 (by omega)]; omega
  clear hx
  go_wp2_with fail
  go_loopw [5, 6] (fun vv kk wr => ∃ (k : Nat) (g c : Nat) (xs : List Ins), kk = .int .i64 (k : Int) ∧ k ≤ 4 ∧ xs.length ≤ (4 - k) * (2 + 40) ∧ vv = .slice (some ⟨g, 0, none⟩) xs.length c ∧ DR b (N + 2 + (4 - k) * (8 + 180)) w [rowIns (.slice (some ⟨g, 0, none⟩) xs.length c) xs] wr) (fun _ kk _ => (intOf kk).toNat)
  case atStart => exact ⟨q + 1, g, 0, [], by go_num, by omega, by simp, rfl, D6.mono (by omega)⟩
  case round =>
    clear D6 hw1 hq
    obtain ⟨k, g, c, xs, rfl, hk4, hxl, rfl, D⟩ := hrel
    by_cases hk : 0 < k
    · have i1 : (0 : Int) < (k : Int) := by omega
      have i2 : (k : Int) > 0 := i1
      go_wp2_with fail
      refine Calls.dr (D.al [.int .i64 2, .int .i64 2, .int .i64 3, .int .i64 4, .int .i64 5, .int .i64 1, .int .i64 8, .int .i64 9, .int .i64 6, .int .i64 7] 2) ?_; intro w6 D6
      obtain ⟨hr, hA⟩ := DR.lit (ds := [2, 2, 3, 4, 5, 1, 8, 9, 6, 7]) D6 (by decide)
      refine (among_dr b _ _ 10 10 _ w6 D6.src (by omega) hr hA (by omega) (by omega)).mono ?_; rintro e w7 ⟨x, rfl, hx, h7⟩
      have D7 : DR b _ w [rowIns (.slice (some ⟨g, 0, none⟩) xs.length c) xs] w7 := (D6.add h7).sel [1] 99 (by decide) (by decide)
      clear hr hA D D6 h7
      have hx2 : x = 8 ∨ x = 9 ∨ x = 1 ∨ (2 ≤ x ∧ x ≤ 5) ∨ x = 6 ∨ x = 7 := by simp at hx; omega
      clear hx
      rcases hx2 with rfl | rfl | rfl | hx2 | hx2
      · have ho : opens 8 = true := rfl
        rcases Nat.eq_zero_or_pos 2 with hz | hz
        · first
            | (exact absurd hz (by decide))
            | (go_wp2_with (go_at_call 80; refine (l11Opens_any _ _).mono ?_; rintro e w' ⟨rfl, rfl⟩; rw [ho])
               go_roundw
               case rel => exact ⟨k - 1, g, c, xs, by go_num, by omega, by omega, rfl, D7.mono (by omega)⟩
               case measure => simp [intOf]; omega)
        · first
            | (exact absurd hz (by decide))
            | (go_wp2_with (go_at_call 80; refine (l11Opens_any _ _).mono ?_; rintro e w' ⟨rfl, rfl⟩; rw [ho])
               refine Calls.dr (D7.al [.int .i64 8, .int .i64 0] 46) ?_; intro w8 D8
               obtain ⟨gx, hgx⟩ : ∃ g, w7.heap.size = g := ⟨_, rfl⟩
               rw [hgx] at D8 ⊢
               clear hgx D7
               refine (pick_dr b _ 4 w8 D8.src (by omega)).mono ?_; rintro e w9 ⟨y, rfl, hy, h9⟩
               have D9 : DR b _ w [.blk gx [.int .i64 8, .int .i64 0] 46, rowIns (.slice (some ⟨g, 0, none⟩) xs.length c) xs] w9 := D8.add h9
               clear D8 h9
               obtain ⟨r, hr⟩ : ∃ r, 1 + y = r := ⟨_, rfl⟩
               have hw1 : IntKind.i64.wrap (1 + y) = r := by rw [wrapI64 (by omega)]; exact hr
               clear hy hr
               obtain ⟨a1, a2, a3, -⟩ := D9.cells
               go_upto_region 13 with fail
               refine Code.wp.dr (D9.st 1 (.int .i64 r)) ?_; intro w10 D10
               clear a1 a2 a3 D9
               obtain ⟨a1, a2, a3, -⟩ := D10.cells
               obtain ⟨v, hT, hS, hK⟩ := D10.front 1 rfl
               go_wp2_with (at_builtin; refine kn_pushIns (ys := [⟨8, r⟩]) rfl _ _ rfl _ xs rfl rfl (hK.al [.int .i64 8, .int .i64 r] 46) (by simp; omega) ?_; intro v9 w11 hK9; obtain ⟨g5, c5, rfl⟩ := row_pos hK9.at0 (by simp))
               clear a1 a2 a3 D10
               have D11 : DR b _ w [rowIns (.slice (some ⟨g5, 0, none⟩) (xs ++ [(⟨8, r⟩ : Ins)]).length c5) (xs ++ [(⟨8, r⟩ : Ins)])] w11 := DR.sel ⟨v, hT, hS, hK9⟩ [0] 99 (by decide) (by decide)
               clear hT hS hK9 hK
               obtain ⟨ys, hys⟩ : ∃ ys, xs ++ [(⟨8, r⟩ : Ins)] = ys := ⟨_, rfl⟩
               have hyn : ys.length = xs.length + 1 := by rw [← hys]; simp
               rw [hys] at D11
               try rw [← hyn]
               have hyl : ys.length ≤ (4 - k) * (2 + 40) + 1 := by omega
               clear hys hyn
               have KR := Lib.hid (l11Some1_dr b _ w11 D11.src (by omega))
               unfold DIns at KR
               refine KR.out.mono ?_; rintro e w12 ⟨g6, c6, zs, rfl, hzl, h12⟩
               obtain ⟨v, hT, hS, hK⟩ : DR b _ w [rowIns (.slice (some ⟨g6, 0, none⟩) zs.length c6) zs, rowIns (.slice (some ⟨g5, 0, none⟩) ys.length c5) ys] w12 := D11.add h12
               clear h12 KR D11
               go_wp2_with (first
                 | (at_builtin; refine kn_appZ tpIns rfl _ _ rfl (.slice (some ⟨g5, 0, none⟩) ys.length c5) ys.length (cellsIns ys) rfl (by simp [Value.ownBlock]) rfl hK (cellsIns_one zs) (by omega) (by omega) ?_; intro v13 w13 hb13 hK13; have hK14 : Kn v (rowIns v13 (ys ++ zs) :: _) w13 := (by unfold rowIns; rw [List.length_append, cellsIns_app]; exact hK13); obtain ⟨g7, c7, rfl⟩ := row_some hK14.at0 hb13)
                 | (at_builtin; refine kn_pushIns (ys := [⟨10, 0⟩]) rfl _ _ rfl _ (ys ++ zs) (by rw [List.length_append]; rfl) rfl (hK14.al [.int .i64 10, .int .i64 0] 46) (by simp; omega) ?_; intro v15 w15 hK15; obtain ⟨g8, c8, rfl⟩ := row_pos hK15.at0 (by simp; omega)))
               go_roundw
               case rel => exact ⟨k - 1, g8, c8, ys ++ zs ++ [⟨10, 0⟩], by go_num, by omega, (by rw [List.length_append, List.length_append, List.length_singleton]; omega), by simp, (DR.sel (show DR b _ w _ _ from ⟨v, hT, hS, hK15⟩) [0] 99 (by decide) (by decide)).mono (by omega)⟩
               case measure => simp [intOf]; omega)
      · have ho : opens 9 = true := rfl
        rcases Nat.eq_zero_or_pos 2 with hz | hz
        · first
            | (exact absurd hz (by decide))
            | (go_wp2_with (go_at_call 80; refine (l11Opens_any _ _).mono ?_; rintro e w' ⟨rfl, rfl⟩; rw [ho])
               go_roundw
               case rel => exact ⟨k - 1, g, c, xs, by go_num, by omega, by omega, rfl, D7.mono (by omega)⟩
               case measure => simp [intOf]; omega)
        · first
            | (exact absurd hz (by decide))
            | (go_upto_region 13 with (go_at_call 80; refine (l11Opens_any _ _).mono ?_; rintro e w' ⟨rfl, rfl⟩; rw [ho])
               refine Code.wp.dr (D7.al [.int .i64 9, .int .i64 0] 46) ?_; intro w10 D10
               obtain ⟨gx, hgx⟩ : ∃ g, w7.heap.size = g := ⟨_, rfl⟩
               rw [hgx] at D10 ⊢
               clear hgx D7
               obtain ⟨a1, a2, a3, -⟩ := D10.cells
               obtain ⟨v, hT, hS, hK⟩ := D10.front 1 rfl
               go_wp2_with (at_builtin; refine kn_pushIns (ys := [⟨9, 0⟩]) rfl _ _ rfl _ xs rfl rfl (hK.al [.int .i64 9, .int .i64 0] 46) (by simp; omega) ?_; intro v9 w11 hK9; obtain ⟨g5, c5, rfl⟩ := row_pos hK9.at0 (by simp))
               clear a1 a2 a3 D10
               have D11 : DR b _ w [rowIns (.slice (some ⟨g5, 0, none⟩) (xs ++ [(⟨9, 0⟩ : Ins)]).length c5) (xs ++ [(⟨9, 0⟩ : Ins)])] w11 := DR.sel ⟨v, hT, hS, hK9⟩ [0] 99 (by decide) (by decide)
               clear hT hS hK9 hK
               obtain ⟨ys, hys⟩ : ∃ ys, xs ++ [(⟨9, 0⟩ : Ins)] = ys := ⟨_, rfl⟩
               have hyn : ys.length = xs.length + 1 := by rw [← hys]; simp
               rw [hys] at D11
               try rw [← hyn]
               have hyl : ys.length ≤ (4 - k) * (2 + 40) + 1 := by omega
               clear hys hyn
               have KR := Lib.hid (l11Some1_dr b _ w11 D11.src (by omega))
               unfold DIns at KR
               refine KR.out.mono ?_; rintro e w12 ⟨g6, c6, zs, rfl, hzl, h12⟩
               obtain ⟨v, hT, hS, hK⟩ : DR b _ w [rowIns (.slice (some ⟨g6, 0, none⟩) zs.length c6) zs, rowIns (.slice (some ⟨g5, 0, none⟩) ys.length c5) ys] w12 := D11.add h12
               clear h12 KR D11
               go_wp2_with (first
                 | (at_builtin; refine kn_appZ tpIns rfl _ _ rfl (.slice (some ⟨g5, 0, none⟩) ys.length c5) ys.length (cellsIns ys) rfl (by simp [Value.ownBlock]) rfl hK (cellsIns_one zs) (by omega) (by omega) ?_; intro v13 w13 hb13 hK13; have hK14 : Kn v (rowIns v13 (ys ++ zs) :: _) w13 := (by unfold rowIns; rw [List.length_append, cellsIns_app]; exact hK13); obtain ⟨g7, c7, rfl⟩ := row_some hK14.at0 hb13)
                 | (at_builtin; refine kn_pushIns (ys := [⟨10, 0⟩]) rfl _ _ rfl _ (ys ++ zs) (by rw [List.length_append]; rfl) rfl (hK14.al [.int .i64 10, .int .i64 0] 46) (by simp; omega) ?_; intro v15 w15 hK15; obtain ⟨g8, c8, rfl⟩ := row_pos hK15.at0 (by simp; omega)))
               go_roundw
               case rel => exact ⟨k - 1, g8, c8, ys ++ zs ++ [⟨10, 0⟩], by go_num, by omega, (by rw [List.length_append, List.length_append, List.length_singleton]; omega), by simp, (DR.sel (show DR b _ w _ _ from ⟨v, hT, hS, hK15⟩) [0] 99 (by decide) (by decide)).mono (by omega)⟩
               case measure => simp [intOf]; omega)
      · have ho : opens 1 = false := rfl
        go_wp2_with (go_at_call 80; refine (l11Opens_any _ _).mono ?_; rintro e w' ⟨rfl, rfl⟩; rw [ho])
        refine (pick_dr b _ 30 w7 D7.src (by omega)).mono ?_; rintro e w8 ⟨y, rfl, hy, h8⟩
        obtain ⟨v, hT, hS, hK⟩ : DR b _ w [rowIns (.slice (some ⟨g, 0, none⟩) xs.length c) xs] w8 := D7.add h8
        clear h8 D7 hy
        go_wp2_with (at_builtin; refine kn_pushIns (ys := [⟨1, y⟩]) rfl _ _ rfl _ xs rfl rfl (hK.al [.int .i64 (1), .int .i64 (y)] 46) (by simp; omega) ?_; intro v9 w9 hK9; obtain ⟨g5, c5, rfl⟩ := row_pos hK9.at0 (by simp))
        go_roundw
        case rel => exact ⟨k - 1, g5, c5, xs ++ [⟨1, y⟩], by go_num, by omega, by simp; omega, by simp, (show DR b _ w _ _ from ⟨v, hT, hS, hK9⟩).mono (by omega)⟩
        case measure => simp [intOf]; omega
      · have ho : opens x = false := by unfold opens; simp; omega
        have e1 : (x == 1) = false := by simp; omega
        have e2 : x < 6 := by omega
        go_wp2_with (go_at_call 80; refine (l11Opens_any _ _).mono ?_; rintro e w' ⟨rfl, rfl⟩; rw [ho])
        refine (pick_dr b _ 4 w7 D7.src (by omega)).mono ?_; rintro e w8 ⟨y, rfl, hy, h8⟩
        have D8 : DR b _ w [rowIns (.slice (some ⟨g, 0, none⟩) xs.length c) xs] w8 := D7.add h8
        clear h8 D7
        go_wp2_with fail
        refine (pick_dr b _ 2 w8 D8.src (by omega)).mono ?_; rintro e w9 ⟨z, rfl, hz, h9⟩
        obtain ⟨v, hT, hS, hK⟩ : DR b _ w [rowIns (.slice (some ⟨g, 0, none⟩) xs.length c) xs] w9 := D8.add h9
        clear h9 D8
        obtain ⟨r, hr⟩ : ∃ r, 1 + y * z = r := ⟨_, rfl⟩
        have hz2 : z = 0 ∨ z = 1 := by omega
        have hyz : 0 ≤ y * z ∧ y * z ≤ 3 := by rcases hz2 with rfl | rfl <;> omega
        have hw1 : IntKind.i64.wrap (y * z) = y * z := wrapI64 (by omega)
        have hw2 : IntKind.i64.wrap (1 + y * z) = r := by rw [wrapI64 (by omega)]; exact hr
        clear hz2 hyz hr hy hz
        go_wp2_with (at_builtin; refine kn_pushIns (ys := [⟨x, r⟩]) rfl _ _ rfl _ xs rfl rfl (hK.al [.int .i64 (x), .int .i64 (r)] 46) (by simp; omega) ?_; intro v9 w9 hK9; obtain ⟨g5, c5, rfl⟩ := row_pos hK9.at0 (by simp))
        go_roundw
        case rel => exact ⟨k - 1, g5, c5, xs ++ [⟨x, r⟩], by go_num, by omega, by simp; omega, by simp, (show DR b _ w _ _ from ⟨v, hT, hS, hK9⟩).mono (by omega)⟩
        case measure => simp [intOf]; omega
      · have ho : opens x = false := by rcases hx2 with rfl | rfl <;> rfl
        have e1 : (x == 1) = false := by simp; omega
        have e2 : ¬ x < 6 := by omega
        go_wp2_with (go_at_call 80; refine (l11Opens_any _ _).mono ?_; rintro e w' ⟨rfl, rfl⟩; rw [ho])
        refine (one_dr b _ 3 w7 D7.src (by omega)).mono ?_; rintro e w8 ⟨y, rfl, h8⟩
        have D8 : DR b _ w [rowIns (.slice (some ⟨g, 0, none⟩) xs.length c) xs] w8 := D7.add h8
        clear h8 D7
        rcases y with _ | _
        · go_wp2_with fail
          go_roundw
          case rel => exact ⟨k - 1, g, c, xs, by go_num, by omega, by omega, rfl, D8.mono (by omega)⟩
          case measure => simp [intOf]; omega
        · obtain ⟨v, hT, hS, hK⟩ := D8
          go_wp2_with (at_builtin; refine kn_pushIns (ys := [⟨x, 0⟩]) rfl _ _ rfl _ xs rfl rfl (hK.al [.int .i64 (x), .int .i64 (0)] 46) (by simp; omega) ?_; intro v9 w9 hK9; obtain ⟨g5, c5, rfl⟩ := row_pos hK9.at0 (by simp))
          go_roundw
          case rel => exact ⟨k - 1, g5, c5, xs ++ [⟨x, 0⟩], by go_num, by omega, by simp; omega, by simp, (show DR b _ w _ _ from ⟨v, hT, hS, hK9⟩).mono (by omega)⟩
          case measure => simp [intOf]; omega
    · have i1 : ¬ (k : Int) > 0 := by omega
      go_wp2_with fail
      go_ret
      exact ⟨g, c, xs, rfl, by omega, D.mono (by omega)⟩
end Go.Proofs.Ytkfbfainhmkkdaa

namespace Go.Proofs.Ytkfbfainhmkkdaa
open Go.RowKit Go.Sort
/-- the code of the widths of machines whose inputs are counted -/
def inC (b n1 n2 n3 : Int) : Int := if nmOk b n1 n2 n3 = false then 2 else if 256 < pw b n1.toNat * pw b n2.toNat then 5 else 0
structure NmB (b : Int) (n1 n2 n3 : Nat) : Prop where
  b1 : 2 ≤ b
  b2 : b ≤ 16
  h1 : 1 ≤ n1
  h1' : n1 ≤ 16
  h2 : 1 ≤ n2
  h2' : n2 ≤ 16
  h3 : 1 ≤ n3
  h3' : n3 ≤ 16
  hv : vmach (newT b n1 n2 n3) = true
  p1 : pw b n1 ≤ 1000000000001
  p2 : pw b n2 ≤ 1000000000001
  q1 : 1 ≤ pw b n1
  q2 : 1 ≤ pw b n2
theorem nmOk_true {b z1 z2 z3 : Int} (h : nmOk b z1 z2 z3 = true) : ∃ n1 n2 n3 : Nat, z1 = n1 ∧ z2 = n2 ∧ z3 = n3 ∧ NmB b n1 n2 n3 := by
  unfold nmOk at h
  simp only [Bool.and_eq_true, betB_iff] at h
  obtain ⟨⟨⟨⟨hb, h1⟩, h2⟩, h3⟩, hv⟩ := h
  obtain ⟨n1, rfl⟩ := Int.eq_ofNat_of_zero_le (show 0 ≤ z1 by omega)
  obtain ⟨n2, rfl⟩ := Int.eq_ofNat_of_zero_le (show 0 ≤ z2 by omega)
  obtain ⟨n3, rfl⟩ := Int.eq_ofNat_of_zero_le (show 0 ≤ z3 by omega)
  have hv' : vmach (newT b n1 n2 n3) = true := hv
  obtain ⟨k1, k2, k3, e1, e2, f1, f2, l1, p0, p1⟩ := vmach_all hv'
  simp only [newT, digD_len] at f1 l1
  have hm := pw_mono b (by omega) _ _ l1
  exact ⟨n1, n2, n3, rfl, rfl, rfl, by omega, by omega, by omega, by omega, by omega, by omega, by omega, by omega, hv', by omega, f1, pw_pos b (by omega) _, pw_pos b (by omega) _⟩
theorem inC_no {b z1 z2 z3 : Int} (h : nmOk b z1 z2 z3 = false) : inC b z1 z2 z3 = 2 := by unfold inC; rw [if_pos h]
theorem inC_full {b : Int} {n1 n2 n3 : Nat} (hn : nmOk b n1 n2 n3 = true) (h : 256 < pw b n1 * pw b n2) : inC b n1 n2 n3 = 5 := by
  unfold inC; rw [if_neg (by rw [hn]; decide)]; exact if_pos h
theorem inC_fine {b : Int} {n1 n2 n3 : Nat} (hn : nmOk b n1 n2 n3 = true) (h : ¬ 256 < pw b n1 * pw b n2) : inC b n1 n2 n3 = 0 := by
  unfold inC; rw [if_neg (by rw [hn]; decide)]; exact if_neg h
theorem mul_big {x y : Int} (hy : 1 ≤ y) (h : 256 < x) : 256 < x * y := by
  have := Int.mul_le_mul_of_nonneg_left hy (show 0 ≤ x by omega)
  omega
theorem div_big {x y : Int} (hy : 1 ≤ y) : (256 : Int).tdiv y < x ↔ 256 < x * y := by
  rw [Int.tdiv_eq_ediv_of_nonneg (by decide)]
  exact Int.ediv_lt_iff_lt_mul (by omega)
end Go.Proofs.Ytkfbfainhmkkdaa

namespace Go.Proofs.Ytkfbfainhmkkdaa
open Go.RowKit Go.Sort
/-- the machine with the input k -/
def atT (b : Int) (n1 n2 n3 : Nat) (k : Int) : Tri := ⟨⟨b, digD b n1 (k.tdiv (pw b n2))⟩, ⟨b, digD b n2 (k.tmod (pw b n2))⟩, ⟨b, digD b n3 0⟩, 0⟩
theorem at_bd {x y k : Int} (hy : 1 ≤ y) (h0 : 0 ≤ k) (h1 : k < x * y) : 0 ≤ k.tdiv y ∧ k.tdiv y < x ∧ 0 ≤ k.tmod y ∧ k.tmod y < y := by
  rw [Int.tdiv_eq_ediv_of_nonneg h0, Int.tmod_eq_emod_of_nonneg h0]
  exact ⟨Int.ediv_nonneg h0 (by omega), Int.ediv_lt_of_lt_mul (by omega) h1, Int.emod_nonneg _ (by omega), Int.emod_lt_of_pos _ (by omega)⟩
theorem atT_ok {b : Int} {n1 n2 n3 : Nat} (hB : NmB b n1 n2 n3) {k : Int} (h0 : 0 ≤ k) (h1 : k < pw b n1 * pw b n2) : vmach (atT b n1 n2 n3 k) = true := by
  obtain ⟨q1, q2, q3, q4⟩ := at_bd hB.q2 h0 h1
  have hv := hB.hv
  have p1 := hB.p1
  have p2 := hB.p2
  obtain ⟨k1, k2, k3, e1, e2, f1, f2, l1, c0, c1⟩ := vmach_all hv
  simp only [newT, vplaces, digD_len] at f1 f2 l1 c0 c1
  refine vmach_mk (t := atT b n1 n2 n3 k) (digD_vreg _ hB.b1 hB.b2 _ hB.h1 hB.h1' _ q1 q2 (by omega)) (digD_vreg _ hB.b1 hB.b2 _ hB.h2 hB.h2' _ q3 q4 (by omega)) k3 rfl rfl ?_ ?_ ?_ (Int.le_refl _) ?_
  · simp only [atT, digD_len]; exact f1
  · simp only [atT, digD_len]; exact f2
  · simp only [atT, digD_len]; exact l1
  · simp only [atT, vplaces, digD_len]; exact c1
end Go.Proofs.Ytkfbfainhmkkdaa

namespace Go.Proofs.Ytkfbfainhmkkdaa
open Go.RowKit Go.Sort
set_option maxRecDepth 100000 in
set_option maxHeartbeats 1600000 in
theorem shiftedW_any (b : Int) (A : Option Addr) (c : Nat) (ds : List Int) (x : Int) (w : World) (hr : RI w A ds.length ds) (hv : vreg b ds = true) (hp : pw b ds.length ≤ 1000000000001) (hx0 : -2000000000000000 ≤ x) (hx1 : x ≤ 2000000000000000) :
    Calls Try.prog 177 #[.agg #[.int .i64 b, .slice A ds.length c], .int .i64 x] w fun e w' => ∃ A' c', e = .returned (.tuple #[.agg #[.int .i64 b, .slice A' (shiftD b ds x).length c'], .bool (shiftB b ds x)]) ∧ Kn w [rowI A' c' (shiftD b ds x)] w' := by
  obtain ⟨⟨b1, b2⟩, ⟨n1, n2⟩, hd, hl⟩ := vreg_iff.1 hv
  have hp1 := pw_pos b b1 ds.length
  have hv0 := (valL_bd b b1 ds (fun d h => (hd d h).1)).1
  have KN := (fun W => values_any b A ds.length c W b1 b2 (by omega))
  have hpc : powC b ds.length = pw b ds.length := by unfold powC; rw [if_pos hp]
  rw [hpc] at KN
  have KV := (fun W (hW : Below w.heap.size w W) => value_any b A ds.length c ds W b1 b2 hd (hr.below hW) n2)
  have hsd : shiftD b ds x = digD b ds.length (((valL b ds + x).tmod (pw b ds.length) + pw b ds.length).tmod (pw b ds.length)) := rfl
  have hsb : shiftB b ds x = (decide (valL b ds + x < 0) || decide (pw b ds.length ≤ valL b ds + x)) := rfl
  obtain ⟨N, hN⟩ : ∃ N, pw b ds.length = N := ⟨_, rfl⟩
  obtain ⟨V, hV⟩ : ∃ V, valL b ds = V := ⟨_, rfl⟩
  rw [hN] at KN hsd hsb hp hp1
  rw [hV] at KV hsd hsb hv0 hl
  obtain ⟨S, hS⟩ : ∃ S, V + x = S := ⟨_, rfl⟩
  rw [hS] at hsd hsb
  have hSb : -2000000000000000 ≤ S ∧ S ≤ 3000000000000000 := by omega
  have hm1 : -N < S.tmod N ∧ S.tmod N < N := by
    have h1 := Int.tmod_lt_of_pos S (show 0 < N by omega)
    have h2 := Int.lt_tmod_of_pos S (show 0 < N by omega)
    omega
  have hm2 : 0 ≤ (S.tmod N + N).tmod N ∧ (S.tmod N + N).tmod N < N := ⟨Int.tmod_nonneg _ (by omega), Int.tmod_lt_of_pos _ (by omega)⟩
  have hwr : IntKind.i64.wrap (S.tmod N + N) = S.tmod N + N := wrapI64 (by omega)
  have nz1 : N ≠ 0 := by omega
  have nz2 : (N == 0) = false := by simp; omega
  have nz3 : ¬ N = 0 := by omega
  have KW := (fun W => withValue_any b A ds.length c ((S.tmod N + N).tmod N) W b1 b2 (by omega) hm2.1 (by omega))
  rw [← hsd] at KW
  obtain ⟨es, hes⟩ : ∃ es, shiftD b ds x = es := ⟨_, rfl⟩
  rw [hes] at KW ⊢
  obtain ⟨bell, hbl⟩ : ∃ e, shiftB b ds x = e := ⟨_, rfl⟩
  have HSB := Lib.hid (hbl.symm.trans hsb)
  rw [hbl]
  have KN := Lib.hid KN
  have KV := Lib.hid KV
  have KW := Lib.hid KW
  have HSS := Lib.hid hS
  have hV2 : -9223372036854775808 ≤ V + x ∧ V + x ≤ 9223372036854775807 := by omega
  clear hsd hsb hes hbl hr hv hd hl hpc hN hV hS
  go_enter Try.func177, Try.ntmps177
  go_wp2_with (first | (refine wpList.kn ((Kn.nil w).al [.int .i64 b, .slice A ds.length c] 26) ?_; intro w1 hK1))
  have hK2 := hK1.al [.int .i64 0, .slice none 0 0] 26
  generalize w1.alloc (.cells #[.int .i64 0, .slice none 0 0] 26) = w2 at hK2 ⊢
  have HG := Lib.hid (box2 hK2.drew.drop)
  go_cut [6, 7] (fun pp oo wx => pp = .int .i64 N ∧ oo = .int .i64 S ∧ Kn w [.blk w1.heap.size [.int .i64 0, .slice none 0 0] 26, .blk w.heap.size [.int .i64 b, .slice A ds.length c] 26] wx)
  case first =>
    go_region_held3 (fun W => W.cell? ⟨w.heap.size, 0, none⟩ = some (.int .i64 b) ∧ W.cell? ⟨w.heap.size, 1, none⟩ = some (.slice A ds.length c))
      (first | with_reducible exact HG.out | exact HG.out) (first
      | (go_at_call 128; with_reducible refine (KN.out _).mono ?_; rintro e w3 ⟨rfl, hw3⟩; have hK3 := hK2.drew.keep hw3; clear HG; have HG := Lib.hid (box2 hK3.drop))
      | (go_at_call 143; with_reducible refine (KV.out _ hK3.below).mono ?_; rintro e w4 ⟨rfl, hw4⟩; have hK4 := hK3.keep hw4; clear HG; have HG := Lib.hid (box2 hK4.drop)))
    all_goals
      go_wp2_with fail
      go_meet
      exact ⟨rfl, by rw [HSS.out, wrapI64 (by omega)], hK4⟩
  case rest =>
    obtain ⟨rfl, rfl, hK⟩ := hcut
    clear HG hK1 hK2
    clear hV2 hv0
    have HG := Lib.hid (box2 hK.drew.drop)
    have HS := HG
    obtain ⟨a1, a2, a3⟩ := hK.blkAt
    rcases hlt : decide (S < 0) with _ | _
    · have hl2 := of_decide_eq_false hlt
      rcases hge : decide (N ≤ S) with _ | _
      · have hg2 := of_decide_eq_false hge
        rw [hlt, hge] at HSB
        go_wp2_with fail
        go_region_held3 (fun W => W.cell? ⟨w.heap.size, 0, none⟩ = some (.int .i64 b) ∧ W.cell? ⟨w.heap.size, 1, none⟩ = some (.slice A ds.length c)) (first | with_reducible exact HG.out | with_reducible exact HS.out | exact HG.out) (first
            | (go_at_call 178; with_reducible refine (KW.out _).mono ?_; rintro e w3 ⟨A', c', rfl, hK'⟩; have hK3 := hK.drew.join hK'; clear HG; have HG := Lib.hid (box2 hK3.drop.drop); have hK4 := (hK3.sw1.st 0 (.int .i64 b)).st 1 (.slice A' es.length c'); have HS := Lib.hid (box2 hK4.drop.drop); clear a1 a2 a3; obtain ⟨a1, a2, a3⟩ := hK3.drop.blkAt)
          )
        all_goals
          go_wp2_with fail
          refine bodyPost.kn hK4 ?_; intro w6 hK6
          clear a1 a2 a3
          obtain ⟨a1, a2, a3, -⟩ := hK6.cells
          refine bodyPost_ret (v := .tuple #[.agg #[.int .i64 b, .slice A' es.length c'], .bool bell]) (by simp [results, Try.results177, go_sem, a1]; rw [HSB.out]; try simp) rfl ⟨A', c', rfl, ?_⟩
          exact hK6.drop.drop1
      · have hg2 := of_decide_eq_true hge
        rw [hlt, hge] at HSB
        go_wp2_with fail
        go_region_held3 (fun W => W.cell? ⟨w.heap.size, 0, none⟩ = some (.int .i64 b) ∧ W.cell? ⟨w.heap.size, 1, none⟩ = some (.slice A ds.length c)) (first | with_reducible exact HG.out | with_reducible exact HS.out | exact HG.out) (first
            | (go_at_call 178; with_reducible refine (KW.out _).mono ?_; rintro e w3 ⟨A', c', rfl, hK'⟩; have hK3 := hK.drew.join hK'; clear HG; have HG := Lib.hid (box2 hK3.drop.drop); have hK4 := (hK3.sw1.st 0 (.int .i64 b)).st 1 (.slice A' es.length c'); have HS := Lib.hid (box2 hK4.drop.drop); clear a1 a2 a3; obtain ⟨a1, a2, a3⟩ := hK3.drop.blkAt)
          )
        all_goals
          go_wp2_with fail
          refine bodyPost.kn hK4 ?_; intro w6 hK6
          clear a1 a2 a3
          obtain ⟨a1, a2, a3, -⟩ := hK6.cells
          refine bodyPost_ret (v := .tuple #[.agg #[.int .i64 b, .slice A' es.length c'], .bool bell]) (by simp [results, Try.results177, go_sem, a1]; rw [HSB.out]; try simp) rfl ⟨A', c', rfl, ?_⟩
          exact hK6.drop.drop1
    · have hl2 := of_decide_eq_true hlt
      have hbe : bell = true := by rw [HSB.out, hlt]; rfl
      have HSB := Lib.hid hbe
      clear hbe
      obtain ⟨x1, x2⟩ := box2 hK.drop
      go_wp2_with fail
      first | (go_region_law (go_simp; go_at_call 178; with_reducible refine (KW.out _).mono ?_; rintro e w3 ⟨A', c', rfl, hK'⟩; have hK3 := hK.drew.join hK'; clear HG; have HG := Lib.hid (box2 hK3.drop.drop); have hK4 := (hK3.sw1.st 0 (.int .i64 b)).st 1 (.slice A' es.length c'); have HS := Lib.hid (box2 hK4.drop.drop); clear a1 a2 a3; obtain ⟨a1, a2, a3⟩ := hK3.drop.blkAt)) | fail "no"
      all_goals
        go_wp2_with fail
        refine bodyPost.kn hK4 ?_; intro w6 hK6
        clear a1 a2 a3
        obtain ⟨a1, a2, a3, -⟩ := hK6.cells
        refine bodyPost_ret (v := .tuple #[.agg #[.int .i64 b, .slice A' es.length c'], .bool bell]) (by simp [results, Try.results177, go_sem, a1]; rw [HSB.out]; try simp) rfl ⟨A', c', rfl, ?_⟩
        exact hK6.drop.drop1
set_option maxRecDepth 100000 in
set_option maxHeartbeats 1600000 in
theorem l10MoveW_any (p : Addr) (b : Int) (A : Option Addr) (c : Nat) (ds : List Int) (x : Int) (w : World) (hp : RegAt w p b A ds.length c) (hr : RI w A ds.length ds) (hv : vreg b ds = true) (hpw : pw b ds.length ≤ 1000000000001) (hx0 : -2000000000000000 ≤ x) (hx1 : x ≤ 2000000000000000) :
    Calls Try.prog 179 #[.pointer (some p), .int .i64 x] w fun e w' => ∃ A' c', e = .returned (.tuple #[.agg #[.int .i64 b, .slice A' (shiftD b ds x).length c'], .bool (shiftB b ds x)]) ∧ Kn w [rowI A' c' (shiftD b ds x)] w' := by
  obtain ⟨⟨b1, b2⟩, ⟨n1, n2⟩, hd, hl⟩ := vreg_iff.1 hv
  have hp1 := pw_pos b b1 ds.length
  have hv0 := (valL_bd b b1 ds (fun d h => (hd d h).1)).1
  have KN := (fun W => l10Power_any b ds.length W b1 b2 (by omega))
  have hpc : powS b ds.length = pw b ds.length := by unfold powS; omega
  rw [hpc] at KN
  have KV := (fun W (hW : Below w.heap.size w W) => l02Value_any b A ds.length c ds W b1 b2 hd (hr.below hW) n2)
  have hsd : shiftD b ds x = digD b ds.length (((valL b ds + x).tmod (pw b ds.length) + pw b ds.length).tmod (pw b ds.length)) := rfl
  have hsb : shiftB b ds x = (decide (valL b ds + x < 0) || decide (pw b ds.length ≤ valL b ds + x)) := rfl
  obtain ⟨N, hN⟩ : ∃ N, pw b ds.length = N := ⟨_, rfl⟩
  obtain ⟨V, hV⟩ : ∃ V, valL b ds = V := ⟨_, rfl⟩
  rw [hN] at KN hsd hsb hpw hp1
  rw [hV] at KV hsd hsb hv0 hl
  obtain ⟨S, hS⟩ : ∃ S, V + x = S := ⟨_, rfl⟩
  rw [hS] at hsd hsb
  have hSb : -2000000000000000 ≤ S ∧ S ≤ 3000000000000000 := by omega
  have hm1 : -N < S.tmod N ∧ S.tmod N < N := by
    have h1 := Int.tmod_lt_of_pos S (show 0 < N by omega)
    have h2 := Int.lt_tmod_of_pos S (show 0 < N by omega)
    omega
  have hm2 : 0 ≤ (S.tmod N + N).tmod N ∧ (S.tmod N + N).tmod N < N := ⟨Int.tmod_nonneg _ (by omega), Int.tmod_lt_of_pos _ (by omega)⟩
  have hwr : IntKind.i64.wrap (S.tmod N + N) = S.tmod N + N := wrapI64 (by omega)
  have hwn : IntKind.i64.wrap (N - 1) = N - 1 := wrapI64 (by omega)
  have nz1 : N ≠ 0 := by omega
  have nz2 : (N == 0) = false := by simp; omega
  have nz3 : ¬ N = 0 := by omega
  have KW := (fun W => l02NewV_any b ds.length ((S.tmod N + N).tmod N) W b1 b2 (by omega) hm2.1 (by omega))
  rw [← hsd] at KW
  obtain ⟨es, hes⟩ : ∃ es, shiftD b ds x = es := ⟨_, rfl⟩
  rw [hes] at KW ⊢
  obtain ⟨bell, hbl⟩ : ∃ e, shiftB b ds x = e := ⟨_, rfl⟩
  have HSB := Lib.hid (show (!betB S 0 (N - 1)) = bell by
    rw [← hbl, hsb]
    rcases hb : betB S 0 (N - 1) with _ | _
    · have := betB_false.1 hb
      simp; omega
    · have := betB_iff.1 hb
      simp; omega)
  rw [hbl]
  have KI := Lib.hid (fun W => l00In_any S 0 (N - 1) W)
  have KN := Lib.hid KN
  have KV := Lib.hid KV
  have KW := Lib.hid KW
  have hSe : IntKind.i64.wrap (V + x) = S := by rw [hS]; exact wrapI64 (by omega)
  have HSE := Lib.hid hS
  have hV2 : -9223372036854775808 ≤ V + x ∧ V + x ≤ 9223372036854775807 := by omega
  have HP := Lib.hid (fun W (hW : Below w.heap.size w W) => hp.below hW)
  clear hsd hsb hes hbl hr hv hd hl hpc hN hV hS hp hSe
  go_enter Try.func179, Try.ntmps179
  go_wp2_with (first
    | (refine wpList.kn ((Kn.nil w).al [.int .i64 0, .slice none 0 0] 26) ?_; intro w2 hK2; obtain ⟨x1, x2⟩ := HP.out _ hK2.below)
    | (go_at_call 158; refine (KN.out _).mono ?_; rintro e w' ⟨rfl, rfl⟩))
  go_quiet ((go_at_call 146; exact quiet_left (KV.out _ (hK2.drewN _).below)))
  clear x1 x2
  have hK3 := hK2.drewN nq
  generalize w2.drewN nq = w3 at hK3 ⊢
  rw [HSE.out]
  have hq := HP.out _ hK3.drew.below
  have HG := Lib.hid (show _ ∧ _ from hq)
  have hq0 := HP.out _ (hK3.al [.int .i64 0, .slice none 0 0] 26).drew.below
  have HA := Lib.hid (show _ ∧ _ from hq0)
  have HS := HG
  clear hq hq0
  go_wp2_with fail
  go_cut [9] (fun pp wx => ∃ (g : Nat) (A' : Option Addr) (c' : Nat), pp = .pointer (some ⟨g, 0, none⟩) ∧ Kn w [.blk g [.int .i64 b, .slice A' es.length c'] 26, rowI A' c' es, .blk w.heap.size [.int .i64 0, .slice none 0 0] 26] wx)
  case first =>
    go_region_held3 (fun W => W.cell? p = some (.int .i64 b) ∧ W.cell? ⟨p.block, p.off + 1, none⟩ = some (.slice A ds.length c))
      (first | with_reducible exact HG.out | with_reducible exact HA.out | with_reducible exact HS.out | exact HG.out | exact HA.out | exact HS.out) (first
      | (go_at_call 173; (with_reducible refine (KW.out _).mono ?_); rintro e w4 ⟨A', c', rfl, hK⟩; clear HG HA; first
        | (have hK4 := hK3.drew.join hK; have hq := HP.out _ hK4.below; have HG := Lib.hid (show _ ∧ _ from hq); have hq1 := HP.out _ (hK4.al [.int .i64 0, .slice none 0 0] 26).below; have HA := Lib.hid (show _ ∧ _ from hq1); have hK5 := hK4.al [.int .i64 b, .slice A' es.length c'] 26; have hq2 := HP.out _ hK5.below; have HS := Lib.hid (show _ ∧ _ from hq2))
        | (have hK4 := (hK3.al [.int .i64 0, .slice none 0 0] 26).drew.join hK; have hq := HP.out _ hK4.below; have HG := Lib.hid (show _ ∧ _ from hq); obtain ⟨g1, f1, l1⟩ := hK4.drop.blkAt; have HA := HG; have hK5 := (hK4.sw1.st 0 (.int .i64 b)).st 1 (.slice A' es.length c'); have hq2 := HP.out _ hK5.below; have HS := Lib.hid (show _ ∧ _ from hq2))))
    all_goals
      go_wp2_with fail
      go_meet
      exact ⟨_, _, _, rfl, hK5⟩
  case rest =>
    obtain ⟨g, A', c', rfl, hK5⟩ := hcut
    clear HG HA HS KN KV KW hK2 hK3
    obtain ⟨a1, a2, a3, d1, d2, d3, -⟩ := hK5.cells
    go_wp2_with fail
    have HG := Lib.hid (box2 hK5.drew)
    have hK6 := ((hK5.sw2.st 0 (.int .i64 b)).st 1 (.slice A' es.length c')).drew
    have HS := Lib.hid (box2 hK6.drop)
    go_region_held3 (fun W => W.cell? ⟨g, 0, none⟩ = some (.int .i64 b) ∧ W.cell? ⟨g, 1, none⟩ = some (.slice A' es.length c'))
      (first | with_reducible exact HG.out | with_reducible exact HS.out | exact HG.out) (first
      | (go_at_call 85; (with_reducible refine (KI.out _).mono ?_); rintro e w7 ⟨rfl, rfl⟩))
    all_goals
      go_wp2_with fail
      refine bodyPost_ret (v := .tuple #[.agg #[.int .i64 b, .slice A' es.length c'], .bool bell]) (by simp [results, Try.results179, go_sem, d1]; first | exact HSB.out | (have := HSB.out; simp_all)) rfl ⟨A', c', rfl, ?_⟩
      exact hK6.drop.drop
end Go.Proofs.Ytkfbfainhmkkdaa

namespace Go.Proofs.Ytkfbfainhmkkdaa
open Go.RowKit Go.Sort
theorem strokeT_cs (k : Int) (t : Tri) : (strokeT k t).1.s.base = t.s.base ∧ (strokeT k t).1.s.digits.length = t.s.digits.length := by
  unfold strokeT turnT
  repeat' split
  all_goals simp [shiftD_len, digD_len]
theorem Ev.cs {L : List Ins} {t : Task} {s s' : RS} {b : Bool} (h : Ev L t s s' b) : s'.m.s.base = s.m.s.base ∧ s'.m.s.digits.length = s.m.s.digits.length := by
  induction h with
  | s0 => exact ⟨rfl, rfl⟩
  | sFull h => exact ⟨rfl, rfl⟩
  | @sStep kind n s s' b h he ih => have := strokeT_cs kind s.m; exact ⟨ih.1.trans this.1, ih.2.trans this.2⟩
  | rEnd h => exact ⟨rfl, rfl⟩
  | rCode hi h => exact ⟨rfl, rfl⟩
  | rSetFull hi hl hc ho h => exact ⟨rfl, rfl⟩
  | rSetBad hi hl hc ho h hf => exact ⟨rfl, rfl⟩
  | rSet hi hl hc ho h hf he ih => exact ih
  | rLoop hi hl hc ho hm h1 he ih1 ih2 => exact ⟨ih2.1.trans ih1.1, ih2.2.trans ih1.2⟩
  | rStr hi hl hc ho h1' h1 he ih1 ih2 => exact ⟨ih2.1.trans ih1.1, ih2.2.trans ih1.2⟩
  | lEnd h8 hk => exact ⟨rfl, rfl⟩
  | lFull h8 h => exact ⟨rfl, rfl⟩
  | lOut h8 h h1 ho ih => exact ih
  | lStep h8 h h1 ho he ih1 ih2 => exact ⟨ih2.1.trans ih1.1, ih2.2.trans ih1.2⟩
theorem sameR_comm (r s : Reg) : sameR r s = sameR s r := by
  unfold sameR
  have h1 : (r.base == s.base) = (s.base == r.base) := by
    rw [Bool.eq_iff_iff]; simp only [beq_iff_eq]; exact eq_comm
  have h2 : decide (r.digits = s.digits) = decide (s.digits = r.digits) := decide_eq_decide.2 eq_comm
  rw [h1, h2]
/-- the kinds of promises -/
def isP (kind arg : Int) : Bool := if kind = 1 then betB arg (-1000) 1000 else betB kind 1 4 && decide (arg = 0)
def kpAfter (t s : Tri) (kind arg : Int) : Bool :=
  if kind = 1 then sameR s.b ⟨t.b.base, shiftD t.b.base t.b.digits (arg * valL t.a.base t.a.digits)⟩ && sameR s.a t.a
  else if kind = 2 then (valL s.b.base s.b.digits == (valL t.b.base t.b.digits).tmod (valL t.a.base t.a.digits)) && ((pw t.s.base t.s.digits.length - valL s.s.base s.s.digits).tmod (pw t.s.base t.s.digits.length) == (valL t.b.base t.b.digits).tdiv (valL t.a.base t.a.digits))
  else if kind = 3 then sameR s.b t.b && sameR s.a t.a
  else (valL s.b.base s.b.digits == 0) && (valL s.s.base s.s.digits == 0)
noncomputable def kpB (L : List Ins) (t : Tri) (kind arg : Int) : Bool :=
  if kind = 2 ∧ valL t.a.base t.a.digits = 0 then true else if (endR L t).code = 0 then kpAfter t (endR L t).m kind arg else false
theorem kp_zero {L : List Ins} {t : Tri} {arg : Int} (h : valL t.a.base t.a.digits = 0) : kpB L t 2 arg = true := by unfold kpB; rw [if_pos ⟨rfl, h⟩]
theorem kp_code {L : List Ins} {t : Tri} {kind arg : Int} {s : RS} {b : Bool} (hn : ¬ (kind = 2 ∧ valL t.a.base t.a.digits = 0)) (he : Ev L (.run 0 L.length) (startR t) s b) (hc : ¬ s.code = 0) : kpB L t kind arg = false := by
  unfold kpB; rw [if_neg hn, endR_eq he, if_neg hc]
theorem kp_fine {L : List Ins} {t : Tri} {kind arg : Int} {s : RS} {b : Bool} (hn : ¬ (kind = 2 ∧ valL t.a.base t.a.digits = 0)) (he : Ev L (.run 0 L.length) (startR t) s b) (hc : s.code = 0) : kpB L t kind arg = kpAfter t s.m kind arg := by
  unfold kpB; rw [if_neg hn, endR_eq he, if_pos hc]
theorem isP_kinds {kind arg : Int} (h : isP kind arg = true) : (kind = 1 ∧ -1000 ≤ arg ∧ arg ≤ 1000) ∨ kind = 2 ∨ kind = 3 ∨ kind = 4 := by
  unfold isP at h
  split at h
  · exact Or.inl ⟨by assumption, betB_iff.1 h⟩
  · rw [Bool.and_eq_true] at h
    have := betB_iff.1 h.1
    omega
end Go.Proofs.Ytkfbfainhmkkdaa

namespace Go.Proofs.Ytkfbfainhmkkdaa
open Go.RowKit Go.Sort
end Go.Proofs.Ytkfbfainhmkkdaa

namespace Go.Proofs.Ytkfbfainhmkkdaa
open Go.RowKit Go.Sort
theorem TriC.regs {w : World} {g : Nat} {t : Tri} {A1 A2 A3 : Option Addr} {c1 c2 c3 : Nat} (h : TriC w ⟨g, 0, none⟩ t A1 c1 A2 c2 A3 c3) :
    RegAt w ⟨g, 0, none⟩ t.a.base A1 t.a.digits.length c1 ∧ RegAt w ⟨g, 2, none⟩ t.b.base A2 t.b.digits.length c2 ∧ RegAt w ⟨g, 4, none⟩ t.s.base A3 t.s.digits.length c3 ∧ RI w A1 t.a.digits.length t.a.digits ∧ RI w A2 t.b.digits.length t.b.digits ∧ RI w A3 t.s.digits.length t.s.digits :=
  ⟨⟨h.1.1, h.1.2.1⟩, ⟨h.1.2.2.1, h.1.2.2.2.1⟩, ⟨h.1.2.2.2.2.1, h.1.2.2.2.2.2.1⟩, h.2.1, h.2.2.1, h.2.2.2⟩
end Go.Proofs.Ytkfbfainhmkkdaa

namespace Go.Proofs.Ytkfbfainhmkkdaa
open Go.RowKit Go.Sort
def kqC (L : List Ins) (t : Tri) (kind arg : Int) : Int := if (vmach t && vprog L) = false then 1 else if isP kind arg = false then 2 else 0
noncomputable def kqB (L : List Ins) (t : Tri) (kind arg : Int) : Bool := if kqC L t kind arg = 0 then kpB L t kind arg else false
def KQRet (L : List Ins) (t : Tri) (kind arg : Int) (w : World) (e : Ending) (w' : World) : Prop := e = .returned (.tuple #[.bool (kqB L t kind arg), .int .i64 (kqC L t kind arg)]) ∧ Below w.heap.size w w'
theorem kq_bad {L : List Ins} {t : Tri} {kind arg c : Int} (h : kqC L t kind arg = c) (hc : ¬ c = 0) : kqB L t kind arg = false ∧ kqC L t kind arg = c := by
  refine ⟨?_, h⟩; unfold kqB; rw [h, if_neg hc]
theorem kq_fine {L : List Ins} {t : Tri} {kind arg : Int} (h : kqC L t kind arg = 0) : kqB L t kind arg = kpB L t kind arg ∧ kqC L t kind arg = 0 := by
  refine ⟨?_, h⟩; unfold kqB; rw [h, if_pos rfl]
end Go.Proofs.Ytkfbfainhmkkdaa

namespace Go.Proofs.Ytkfbfainhmkkdaa
open Go.RowKit Go.Sort
/-- the code of widths, a program and a promise -/
def pC (b z1 z2 z3 : Int) (L : List Ins) (kind arg : Int) : Int := if vprog L = false then 1 else if isP kind arg = false then 2 else inC b z1 z2 z3
theorem inC_cases (b z1 z2 z3 : Int) : inC b z1 z2 z3 ≠ 0 ∨ (inC b z1 z2 z3 = 0 ∧ ∃ n1 n2 n3 : Nat, z1 = n1 ∧ z2 = n2 ∧ z3 = n3 ∧ NmB b n1 n2 n3 ∧ ¬ 256 < pw b n1 * pw b n2) := by
  by_cases h : inC b z1 z2 z3 = 0
  · refine .inr ⟨h, ?_⟩
    rcases hn : nmOk b z1 z2 z3 with _ | _
    · rw [inC_no hn] at h; cases h
    · obtain ⟨n1, n2, n3, rfl, rfl, rfl, hB⟩ := nmOk_true hn
      exact ⟨n1, n2, n3, rfl, rfl, rfl, hB, fun hc => by rw [inC_full hn hc] at h; cases h⟩
  · exact .inl h
end Go.Proofs.Ytkfbfainhmkkdaa

namespace Go.Proofs.Ytkfbfainhmkkdaa
open Go.RowKit Go.Sort
/-- the numbers below n with p -/
def failsL (p : Nat → Bool) : Nat → List Int
  | 0 => []
  | k + 1 => if p k = true then failsL p k ++ [(k : Int)] else failsL p k
theorem failsL_len (p : Nat → Bool) (n : Nat) : (failsL p n).length ≤ n := by
  induction n with
  | zero => simp [failsL]
  | succ k ih =>
    unfold failsL
    split
    · rw [List.length_append]; simp; omega
    · omega
theorem failsL_succ (p : Nat → Bool) (k : Nat) : failsL p (k + 1) = if p k = true then failsL p k ++ [(k : Int)] else failsL p k := rfl
theorem failsL_pre (p : Nat → Bool) (k d : Nat) : ∃ ys, failsL p (k + d) = failsL p k ++ ys := by
  induction d with
  | zero => exact ⟨[], by simp⟩
  | succ d ih =>
    obtain ⟨ys, h⟩ := ih
    rw [show k + (d + 1) = (k + d) + 1 by omega, failsL_succ]
    split
    · exact ⟨ys ++ [((k + d : Nat) : Int)], by rw [h, List.append_assoc]⟩
    · exact ⟨ys, h⟩
theorem failsL_take {p : Nat → Bool} {k n m : Nat} (hk : k ≤ n) (hl : (failsL p k).length ≤ m) (h : k = n ∨ (failsL p k).length = m) : (failsL p n).take m = failsL p k := by
  rcases h with rfl | h
  · exact List.take_of_length_le hl
  · obtain ⟨ys, e⟩ := failsL_pre p k (n - k)
    rw [show k + (n - k) = n by omega] at e
    rw [e, List.take_append_of_le_length (by omega), ← h, List.take_length]
/-- an input for which a promise is not kept -/
noncomputable def badB (L : List Ins) (b : Int) (n1 n2 n3 : Nat) (kind arg : Int) (k : Nat) : Bool := !kpB L (atT b n1 n2 n3 k) kind arg
theorem failsL_first {p : Nat → Bool} {k n : Nat} (hk : k < n) (h : failsL p k = []) (hp : p k = true) : (failsL p n).headD (-1) = k := by
  obtain ⟨ys, e⟩ := failsL_pre p (k + 1) (n - (k + 1))
  rw [show k + 1 + (n - (k + 1)) = n by omega, failsL_succ, h, if_pos hp] at e
  rw [e]
  rfl
end Go.Proofs.Ytkfbfainhmkkdaa

namespace Go.Proofs.Ytkfbfainhmkkdaa
open Go.RowKit Go.Sort
/-- the inputs for which a promise is not kept -/
noncomputable def ffL (b z1 z2 z3 : Int) (L : List Ins) (kind arg : Int) : List Int := failsL (badB L b z1.toNat z2.toNat z3.toNat kind arg) (pw b z1.toNat * pw b z2.toNat).toNat
noncomputable def ffC (b z1 z2 z3 : Int) (L : List Ins) (kind arg : Int) : Int := if pC b z1 z2 z3 L kind arg ≠ 0 then pC b z1 z2 z3 L kind arg else if ffL b z1 z2 z3 L kind arg = [] then 3 else 0
noncomputable def ffV (b z1 z2 z3 : Int) (L : List Ins) (kind arg : Int) : Int := if pC b z1 z2 z3 L kind arg ≠ 0 then 0 else (ffL b z1 z2 z3 L kind arg).headD 0
noncomputable def cfV (b z1 z2 z3 : Int) (L : List Ins) (kind arg : Int) : Int := if pC b z1 z2 z3 L kind arg ≠ 0 then 0 else ((ffL b z1 z2 z3 L kind arg).length : Int)
def FFRet (b z1 z2 z3 : Int) (L : List Ins) (kind arg : Int) (w : World) (e : Ending) (w' : World) : Prop := e = .returned (.tuple #[.int .i64 (ffV b z1 z2 z3 L kind arg), .int .i64 (ffC b z1 z2 z3 L kind arg)]) ∧ Below w.heap.size w w'
def CFRet (b z1 z2 z3 : Int) (L : List Ins) (kind arg : Int) (w : World) (e : Ending) (w' : World) : Prop := e = .returned (.tuple #[.int .i64 (cfV b z1 z2 z3 L kind arg), .int .i64 (pC b z1 z2 z3 L kind arg)]) ∧ Below w.heap.size w w'
theorem pC_cases (b z1 z2 z3 : Int) (L : List Ins) (kind arg : Int) : pC b z1 z2 z3 L kind arg ≠ 0 ∨ (pC b z1 z2 z3 L kind arg = 0 ∧ vprog L = true ∧ isP kind arg = true ∧ ∃ n1 n2 n3 N : Nat, z1 = n1 ∧ z2 = n2 ∧ z3 = n3 ∧ NmB b n1 n2 n3 ∧ ¬ 256 < pw b n1 * pw b n2 ∧ pw b n1 * pw b n2 = (N : Int) ∧ N ≤ 256) := by
  by_cases h : pC b z1 z2 z3 L kind arg = 0
  · refine .inr ⟨h, ?_⟩
    unfold pC at h
    split at h
    · cases h
    rename_i hp
    split at h
    · cases h
    rename_i hk
    rcases inC_cases b z1 z2 z3 with h2 | ⟨-, n1, n2, n3, e1, e2, e3, hB, hbig⟩
    · exact absurd h h2
    · have hm0 : 0 ≤ pw b n1 * pw b n2 := Int.mul_nonneg (by have := hB.q1; omega) (by have := hB.q2; omega)
      obtain ⟨N, hN⟩ := Int.eq_ofNat_of_zero_le hm0
      exact ⟨by simpa using hp, by simpa using hk, n1, n2, n3, N, e1, e2, e3, hB, hbig, hN, by omega⟩
  · exact .inl h
theorem ff_bad {b z1 z2 z3 : Int} {L : List Ins} {kind arg : Int} (h : pC b z1 z2 z3 L kind arg ≠ 0) : ffV b z1 z2 z3 L kind arg = 0 ∧ ffC b z1 z2 z3 L kind arg = pC b z1 z2 z3 L kind arg ∧ cfV b z1 z2 z3 L kind arg = 0 := by
  unfold ffV ffC cfV
  rw [if_pos h, if_pos h, if_pos h]
  exact ⟨rfl, rfl, rfl⟩
theorem ff_fine {b : Int} {n1 n2 n3 N : Nat} {L : List Ins} {kind arg : Int} (h : pC b n1 n2 n3 L kind arg = 0) (hN : pw b n1 * pw b n2 = (N : Int)) : ffV b n1 n2 n3 L kind arg = (failsL (badB L b n1 n2 n3 kind arg) N).headD 0 ∧ ffC b n1 n2 n3 L kind arg = (if failsL (badB L b n1 n2 n3 kind arg) N = [] then 3 else 0) ∧ cfV b n1 n2 n3 L kind arg = ((failsL (badB L b n1 n2 n3 kind arg) N).length : Int) := by
  have hL : ffL b n1 n2 n3 L kind arg = failsL (badB L b n1 n2 n3 kind arg) N := by
    unfold ffL
    simp only [Int.toNat_natCast, hN]
  unfold ffV ffC cfV
  have hn : ¬ (pC b n1 n2 n3 L kind arg ≠ 0) := fun h2 => h2 h
  rw [if_neg hn, if_neg hn, if_neg hn, hL]
  exact ⟨rfl, rfl, rfl⟩
theorem head_neg {p : Nat → Bool} {N : Nat} : (failsL p N = [] ∧ (failsL p N).headD (-1) = -1) ∨ (failsL p N ≠ [] ∧ (failsL p N).headD (-1) = (failsL p N).headD 0 ∧ 0 ≤ (failsL p N).headD 0 ∧ (failsL p N).headD 0 ≤ N) := by
  have hall : ∀ n, ∀ x ∈ failsL p n, 0 ≤ x ∧ x ≤ n := by
    intro n
    induction n with
    | zero => intro x hx; simp [failsL] at hx
    | succ k ih =>
      intro x hx
      rw [failsL_succ] at hx
      split at hx
      · rcases List.mem_append.1 hx with hx | hx
        · have := ih x hx; omega
        · have := List.mem_singleton.1 hx; omega
      · have := ih x hx; omega
  have h := hall N
  rcases hf : failsL p N with _ | ⟨x, xs⟩
  · exact .inl ⟨rfl, rfl⟩
  · rw [hf] at h
    exact .inr ⟨by simp, rfl, h x (List.mem_cons_self ..)⟩
end Go.Proofs.Ytkfbfainhmkkdaa

namespace Go.Proofs.Ytkfbfainhmkkdaa
open Go.RowKit Go.Sort
/-- the program of n strokes with number k -/
def numP : Nat → Nat → List Ins
  | 0, _ => []
  | n + 1, k => numP n (k / 4) ++ [⟨2 + (k % 4 : Nat), 1⟩]
def addI : Ins := ⟨2, 1⟩
theorem numP_len (n k : Nat) : (numP n k).length = n := by
  induction n generalizing k with
  | zero => rfl
  | succ n ih => simp [numP, ih]
theorem numP_zero (n : Nat) : numP n 0 = List.replicate n addI := by
  induction n with
  | zero => rfl
  | succ n ih =>
    show numP n (0 / 4) ++ [⟨2 + ((0 % 4 : Nat) : Int), 1⟩] = _
    rw [Nat.zero_div, ih, List.replicate_succ']
    rfl
theorem numP_pow (m d x : Nat) : numP (m + d) (x * 4 ^ d) = numP m x ++ List.replicate d addI := by
  induction d with
  | zero => simp
  | succ d ih =>
    show numP (m + d) (x * 4 ^ (d + 1) / 4) ++ [⟨2 + ((x * 4 ^ (d + 1) % 4 : Nat) : Int), 1⟩] = _
    have h1 : x * 4 ^ (d + 1) = 4 * (x * 4 ^ d) := by rw [Nat.pow_succ]; ac_rfl
    rw [h1, Nat.mul_div_cancel_left _ (by decide), Nat.mul_mod_right, ih, List.replicate_succ', List.append_assoc]
    rfl
theorem numP_ok (n k : Nat) (hn : n ≤ 4) : vprog (numP n k) = true := by
  have h : ∀ n k, ∀ x ∈ numP n k, instrOk x.op x.arg = true ∧ x.op ≤ 7 := by
    intro n
    induction n with
    | zero => intro k x hx; cases hx
    | succ n ih =>
      intro k x hx
      rcases List.mem_append.1 hx with hx | hx
      · exact ih _ x hx
      · rw [List.mem_singleton.1 hx]
        have h4 : k % 4 < 4 := Nat.mod_lt _ (by decide)
        have : k % 4 = 0 ∨ k % 4 = 1 ∨ k % 4 = 2 ∨ k % 4 = 3 := by omega
        rcases this with h | h | h | h <;> rw [h] <;> exact ⟨by decide, by decide⟩
  have hd : ∀ (ys : List Ins), (∀ x ∈ ys, instrOk x.op x.arg = true ∧ x.op ≤ 7) → ys.foldl stepI (some 0) = some 0 := by
    intro ys
    induction ys with
    | nil => intro _; rfl
    | cons y ys ih =>
      intro hy
      obtain ⟨h1, h2⟩ := hy y (List.mem_cons_self ..)
      have hs : stepI (some 0) y = some 0 := by
        unfold stepI
        simp only [Option.bind_some, h1, if_true]
        unfold depthStep opens
        rw [if_neg (by omega), if_neg (by simp; omega)]
      rw [List.foldl_cons, hs]
      exact ih (fun x hx => hy x (List.mem_cons_of_mem _ hx))
  unfold vprog progD
  rw [hd _ (h n k), numP_len]
  simp; omega
theorem cellsIns_set (xs : List Ins) (j : Nat) (y : Ins) (h : j < xs.length) : ((cellsIns xs).set (j * 2) (.int .i64 y.op)).set (j * 2 + 1) (.int .i64 y.arg) = cellsIns (xs.set j y) := by
  induction xs generalizing j with
  | nil => simp at h
  | cons x xs ih =>
    have h2 : ∀ (a : Ins) (l : List Ins), cellsIns (a :: l) = .int .i64 a.op :: .int .i64 a.arg :: cellsIns l := fun a l => by simp [cellsIns]
    cases j with
    | zero => simp [h2]
    | succ j =>
      rw [h2, show (j + 1) * 2 = j * 2 + 1 + 1 by omega]
      simp only [List.set_cons_succ]
      rw [ih j (by simpa using h), h2]
theorem set_mid {α : Type} (xs ys : List α) (a b : α) (n : Nat) (h : xs.length = n) : (xs ++ a :: ys).set n b = xs ++ b :: ys := by
  subst h
  rw [List.set_append_right _ _ (Nat.le_refl _), Nat.sub_self]
  rfl
theorem get_mid {α : Type} (xs ys : List α) (a : α) (n : Nat) (h : xs.length = n) (hl : n < (xs ++ a :: ys).length) : (xs ++ a :: ys)[n] = a := by
  subst h
  simp
/-- the list of strokes while the next one is sought -/
def oddP (n m x : Nat) : List Ins := numP m x ++ List.replicate (n - m) addI
theorem oddP_len {n m x : Nat} (h : m ≤ n) : (oddP n m x).length = n := by
  unfold oddP; rw [List.length_append, numP_len, List.length_replicate]; omega
theorem oddP_succ {n m x : Nat} : oddP n (m + 1) x = numP m (x / 4) ++ ⟨2 + ((x % 4 : Nat) : Int), 1⟩ :: List.replicate (n - (m + 1)) addI := by
  show (numP m (x / 4) ++ [⟨2 + ((x % 4 : Nat) : Int), 1⟩]) ++ List.replicate (n - (m + 1)) addI = _
  rw [List.append_assoc]; rfl
theorem oddP_back {n m x : Nat} (h : m + 1 ≤ n) : numP m (x / 4) ++ addI :: List.replicate (n - (m + 1)) addI = oddP n m (x / 4) := by
  unfold oddP; rw [show n - m = (n - (m + 1)) + 1 by omega, List.replicate_succ]
theorem oddP_next {n m x k : Nat} (h : m + 1 ≤ n) (hk : k + 1 = (x + 1) * 4 ^ (n - (m + 1))) (h4 : x % 4 < 3) : numP m (x / 4) ++ ⟨2 + ((x % 4 : Nat) : Int) + 1, 1⟩ :: List.replicate (n - (m + 1)) addI = numP n (k + 1) := by
  have e := numP_pow (m + 1) (n - (m + 1)) (x + 1)
  rw [show m + 1 + (n - (m + 1)) = n by omega, ← hk] at e
  rw [e]
  have h1 : (x + 1) / 4 = x / 4 := by omega
  have h2 : (x + 1) % 4 = x % 4 + 1 := by omega
  show _ = (numP m ((x + 1) / 4) ++ [⟨2 + (((x + 1) % 4 : Nat) : Int), 1⟩]) ++ _
  rw [h1, h2, List.append_assoc]
  congr 1
theorem pow_next {n m x k : Nat} (h : m + 1 ≤ n) (hk : k + 1 = (x + 1) * 4 ^ (n - (m + 1))) (h4 : ¬ x % 4 < 3) : k + 1 = (x / 4 + 1) * 4 ^ (n - m) := by
  have h1 : x + 1 = 4 * (x / 4 + 1) := by omega
  rw [hk, h1, show n - m = (n - (m + 1)) + 1 by omega, Nat.pow_succ]
  ac_rfl
theorem div_pow {m x : Nat} (h : x < 4 ^ (m + 1)) : x / 4 < 4 ^ m := by
  rw [Nat.pow_succ] at h; omega
/-- a stroke that follows leads to a number in range -/
theorem next_lt {n m x k : Nat} (hm : m + 1 ≤ n) (hx : x < 4 ^ (m + 1)) (hk : k + 1 = (x + 1) * 4 ^ (n - (m + 1))) (h4 : x % 4 < 3) : k + 1 < 4 ^ n := by
  have h1 : x + 1 < 4 ^ (m + 1) := by
    rcases Nat.lt_or_ge (x + 1) (4 ^ (m + 1)) with h | h
    · exact h
    · exfalso
      have : x + 1 = 4 ^ (m + 1) := by omega
      rw [Nat.pow_succ] at this
      omega
  have h2 : (4 : Nat) ^ n = 4 ^ (m + 1) * 4 ^ (n - (m + 1)) := by rw [← Nat.pow_add]; congr 1; omega
  rw [hk, h2]
  exact Nat.mul_lt_mul_of_pos_right h1 (Nat.pow_pos (by decide))
theorem Kn.setP {w0 w : World} {mm : List Ent} {g n c : Nat} {xs : List Ins} (h : Kn w0 (rowInsN (some ⟨g, 0, none⟩) n c xs :: mm) w) (j : Nat) (y : Ins) (hj : j < xs.length) :
    Kn w0 (rowInsN (some ⟨g, 0, none⟩) n c (xs.set j y) :: mm) ((w.setCell ⟨g, j * 2, none⟩ (.int .i64 y.op)).setCell ⟨g, j * 2 + 1, none⟩ (.int .i64 y.arg)) := by
  unfold rowInsN at *
  have h1 := (h.rowSt (j * 2) (.int .i64 y.op)).rowSt (j * 2 + 1) (.int .i64 y.arg)
  rw [cellsIns_set xs j y hj] at h1
  exact h1
end Go.Proofs.Ytkfbfainhmkkdaa

namespace Go.Proofs.Ytkfbfainhmkkdaa
open Go.RowKit Go.Sort
theorem set_same {α : Type} {l : List α} {i : Nat} {v : α} (h : l[i]? = some v) : l.set i v = l := by
  apply List.ext_getElem?
  intro k
  rw [List.getElem?_set]
  split
  · rename_i hk
    subst hk
    split
    · exact h.symm
    · rename_i hl
      rw [List.getElem?_eq_none (by omega)] at h
      cases h
  · rfl
theorem cellsIns_op (xs : List Ins) (j : Nat) (x : Int) (h : j < xs.length) : (cellsIns xs).set (j * 2) (.int .i64 x) = cellsIns (xs.set j ⟨x, xs[j].arg⟩) := by
  have h1 := cellsIns_set xs j ⟨x, xs[j].arg⟩ h
  rw [← h1]
  refine (set_same ?_).symm
  rw [List.getElem?_set_ne (by omega)]
  exact (cellsIns_get xs j h).2
theorem cellsIns_arg (xs : List Ins) (j : Nat) (x : Int) (h : j < xs.length) : (cellsIns xs).set (j * 2 + 1) (.int .i64 x) = cellsIns (xs.set j ⟨xs[j].op, x⟩) := by
  have h1 := cellsIns_set xs j ⟨xs[j].op, x⟩ h
  rw [← h1]
  congr 1
  exact (set_same (cellsIns_get xs j h).1).symm
theorem cellsIns_take (xs : List Ins) : ∀ j : Nat, (cellsIns xs).take (j * 2) = cellsIns (xs.take j) := by
  induction xs with
  | nil => intro j; simp [cellsIns]
  | cons x xs ih =>
    intro j
    cases j with
    | zero => simp [cellsIns]
    | succ j =>
      have h2 := ih j
      show List.take ((j + 1) * 2) (Value.int .i64 x.op :: Value.int .i64 x.arg :: cellsIns xs) = Value.int .i64 x.op :: Value.int .i64 x.arg :: cellsIns (xs.take j)
      rw [← h2, show (j + 1) * 2 = j * 2 + 1 + 1 by omega]
      rfl
theorem Kn.prefixRow {w0 w : World} {m : List Ent} {g c n j size : Nat} {e : TypeId} {xs : List Value} (h : Kn w0 (.row (.slice (some ⟨g, 0, none⟩) n c) e size n xs :: m) w) (hj : j ≤ n) : Kn w0 (.row (.slice (some ⟨g, 0, none⟩) j c) e size j (xs.take (j * size)) :: m) w := by
  have h0 : w.ownsRow 0 e size (.slice (some ⟨g, 0, none⟩) n c) n xs := h.at0
  have hm : j * size ≤ n * size := Nat.mul_le_mul_right _ hj
  refine ⟨h.below, fun x hx => ?_, fun x hx k hk => ?_, List.pairwise_cons.2 ⟨fun x hx k hk => ?_, (List.pairwise_cons.1 h.apart).2⟩⟩
  · rcases List.mem_cons.1 hx with rfl | hx
    · rcases h0.2 with ⟨hv, _⟩ | ⟨g', cap, cur, hv, hb, hg, h1, h2, h3, h4⟩
      · cases hv
      · injection hv with hv1 hv2 hv3
        injection hv1 with hv1
        injection hv1 with hv1
        subst hv1
        subst hv3
        refine ⟨by rw [List.length_take, h0.1]; omega, .inr ⟨g, c, cur, rfl, hb, hg, by omega, h2, h3, ?_⟩⟩
        rw [← h4, List.take_take, Nat.min_eq_left hm]
    · exact h.ents x (List.mem_cons_of_mem _ hx)
  · rcases List.mem_cons.1 hx with rfl | hx
    · exact h.own _ (List.mem_cons_self ..) k hk
    · exact h.own x (List.mem_cons_of_mem _ hx) k hk
  · exact (List.pairwise_cons.1 h.apart).1 x hx k hk
theorem Kn.prefixIns {w0 w : World} {m : List Ent} {g c j : Nat} {xs : List Ins} (h : Kn w0 (rowIns (.slice (some ⟨g, 0, none⟩) xs.length c) xs :: m) w) (hj : j ≤ xs.length) : Kn w0 (rowIns (.slice (some ⟨g, 0, none⟩) (xs.take j).length c) (xs.take j) :: m) w := by
  have h1 := Kn.prefixRow h hj
  unfold rowIns
  rw [cellsIns_take] at h1
  rw [show (xs.take j).length = j by rw [List.length_take]; omega]
  exact h1
theorem Kn.setOp {w0 w : World} {m : List Ent} {g n c : Nat} {xs : List Ins} (h : Kn w0 (rowInsN (some ⟨g, 0, none⟩) n c xs :: m) w) (j : Nat) (x : Int) (hj : j < xs.length) :
    Kn w0 (rowInsN (some ⟨g, 0, none⟩) n c (xs.set j ⟨x, xs[j].arg⟩) :: m) (w.setCell ⟨g, j * 2, none⟩ (.int .i64 x)) := by
  unfold rowInsN at *
  have h1 := h.rowSt (j * 2) (.int .i64 x)
  rw [cellsIns_op xs j x hj] at h1
  exact h1
theorem Kn.setArg {w0 w : World} {m : List Ent} {g n c : Nat} {xs : List Ins} (h : Kn w0 (rowInsN (some ⟨g, 0, none⟩) n c xs :: m) w) (j : Nat) (x : Int) (hj : j < xs.length) :
    Kn w0 (rowInsN (some ⟨g, 0, none⟩) n c (xs.set j ⟨xs[j].op, x⟩) :: m) (w.setCell ⟨g, j * 2 + 1, none⟩ (.int .i64 x)) := by
  unfold rowInsN at *
  have h1 := h.rowSt (j * 2 + 1) (.int .i64 x)
  rw [cellsIns_arg xs j x hj] at h1
  exact h1
set_option maxRecDepth 100000 in
set_option maxHeartbeats 1600000 in
theorem l11Draw_dr (b N : Nat) (w : World) (h : Src w b N) (hN : N ≤ 500000) : Calls Try.prog 139 #[.pointer (some ⟨b, 0, none⟩)] w (DIns b (N + 1000) 168 w) := by
  unfold DIns
  have D0 := DR.nil h
  clear h
  go_enter Try.func139, Try.ntmps139
  go_wp2_with fail
  refine (one_dr b _ 20 w D0.src (by omega)).mono ?_; rintro e w1 ⟨x, rfl, h1⟩
  have D1 := D0.add h1
  clear D0 h1
  rcases x with _ | _
  · have KR := Lib.hid (l11Some2_dr b _ w1 D1.src (by omega))
    unfold DIns at KR
    go_wp2_with fail
    refine KR.out.mono ?_; rintro e w2 ⟨g, c, xs, rfl, hl, h2⟩
    have D2 := D1.add h2
    clear D1 h2 KR
    go_wp2_with fail
    go_ret
    exact ⟨g, c, xs, rfl, by omega, D2.mono (by omega)⟩
  · go_wp2_with fail
    refine (pick_dr b _ 9 w1 D1.src (by omega)).mono ?_; rintro e w2 ⟨p, rfl, hp, h2⟩
    have D2 := D1.add h2
    clear D1 h2
    have KR := Lib.hid (fun t W => l11Nest_any 4 t W (by decide))
    unfold InsRet at KR
    go_wp2_with fail
    refine (KR.out _ _).mono ?_; rintro e w3 ⟨g, c, xs, rfl, hl, h3⟩
    have D3 : DR b _ w [rowIns (.slice (some ⟨g, 0, none⟩) xs.length c) xs] w3 := D2.kn (fun v hK => hK.join h3)
    clear D2 h3 KR
    go_wp2_with fail
    go_ret
    exact ⟨g, c, xs, rfl, by omega, D3.mono (by omega)⟩
end Go.Proofs.Ytkfbfainhmkkdaa

namespace Go.Proofs.Ytkfbfainhmkkdaa
open Go.RowKit Go.Sort
theorem DR.capIns {b N : Nat} {w wi : World} {m : List Ent} {g c : Nat} {xs : List Ins} (h : DR b N w (rowIns (.slice (some ⟨g, 0, none⟩) xs.length c) xs :: m) wi) : xs.length ≤ c ∧ c ≤ 9223372036854775807 := by
  obtain ⟨v, -, -, hK⟩ := h
  have h0 : wi.ownsRow 0 46 2 (.slice (some ⟨g, 0, none⟩) xs.length c) xs.length (cellsIns xs) := hK.at0
  rcases h0.2 with ⟨hv, _⟩ | ⟨g', cap, cur, hv, -, -, h1, h2, -⟩
  · cases hv
  · injection hv with _ _ hv
    subst hv
    unfold maxLen at h2
    omega
set_option maxRecDepth 100000 in
set_option maxHeartbeats 3200000 in
theorem l11Bent_dr (b N : Nat) (w : World) (h : Src w b N) (hN : N ≤ 400000) : Calls Try.prog 75 #[.pointer (some ⟨b, 0, none⟩)] w (DIns b (N + 1010) 168 w) := by
  unfold DIns
  have D0 := DR.nil h
  have KR := Lib.hid (l11Draw_dr b _ w h (by omega))
  unfold DIns at KR
  clear h
  go_enter Try.func75, Try.ntmps75
  go_wp2_with fail
  refine KR.out.mono ?_; rintro e w1 ⟨g, c, xs, rfl, hl, h1⟩
  have D1 : DR b _ w [rowIns (.slice (some ⟨g, 0, none⟩) xs.length c) xs] w1 := D0.add h1
  clear D0 h1 KR
  rcases Nat.eq_zero_or_pos xs.length with h0 | h0
  · have hz : ((xs.length : Int) == 0) = true := by simp [h0]
    go_wp2_with fail
    go_ret
    exact ⟨g, c, xs, (by rw [h0]; rfl), hl, D1.mono (by omega)⟩
  have hz : ((xs.length : Int) == 0) = false := beq_eq_false_iff_ne.2 (by omega)
  go_wp2_with fail
  refine (pick_dr b _ xs.length w1 D1.src (by omega)).mono ?_; rintro e w2 ⟨x, rfl, hx, h2⟩
  have D2 : DR b _ w [rowIns (.slice (some ⟨g, 0, none⟩) xs.length c) xs] w2 := D1.add h2
  clear D1 h2
  obtain ⟨j, rfl⟩ : ∃ q : Nat, x = q := ⟨x.toNat, by omega⟩
  have hj : j < xs.length := by rcases hx.2 with h | h <;> omega
  clear hx
  go_wp2_with fail
  refine (pick_dr b _ 24 w2 D2.src (by omega)).mono ?_; rintro e w3 ⟨z, rfl, hz2, h3⟩
  have D3 : DR b _ w [rowIns (.slice (some ⟨g, 0, none⟩) xs.length c) xs] w3 := D2.add h3
  clear D2 h3
  have hi0 : (0 : Int) ≤ (j : Int) := by omega
  have hi1 : (j : Int) < (xs.length : Int) := by omega
  by_cases z0 : z = 0
  · subst z0
    go_wp2_with fail
    refine Calls.dr (D3.al [.int .i64 0, .int .i64 1, .int .i64 9, .int .i64 10, .int .i64 11, .int .i64 (-9223372036854775808)] 2) ?_; intro w90 D90
    obtain ⟨hr, hA⟩ := DR.lit (ds := [0, 1, 9, 10, 11, -9223372036854775808]) D90 (by decide)
    refine (among_dr _ _ _ 6 6 _ w90 D90.src (by omega) hr hA (by omega) (by omega)).mono ?_; rintro e w91 ⟨x, rfl, hx, h10⟩
    have D9 := ((D90.add h10).sel [1] 99 (by decide) (by decide))
    clear hr hA D3 D90 h10 hx
    obtain ⟨v, hT, hS, hK⟩ := D9
    have cg := cellsIns_get xs j hj
    have hgr : g < w91.heap.size := Ent.lt hK.at0 rfl
    have hKN : Kn v (rowInsN (some ⟨g, 0, none⟩) xs.length c xs :: _) w91 := hK
    obtain ⟨y1, y2⟩ := Kn.rowCell (show Kn v (.row (.slice (some ⟨g, 0, none⟩) xs.length c) 46 2 xs.length (cellsIns xs) :: _) w91 from hK) cg.1
    obtain ⟨y3, y4⟩ := Kn.rowCell (show Kn v (.row (.slice (some ⟨g, 0, none⟩) xs.length c) 46 2 xs.length (cellsIns xs) :: _) w91 from hK) cg.2
    have z1 : w91.cell? ⟨g, j * 2, none⟩ = some (.int .i64 xs[j].op) := y1
    have z3 : w91.cell? ⟨g, j * 2 + 1, none⟩ = some (.int .i64 xs[j].arg) := y3
    clear y1 y3 cg
    have hK9 := Kn.setOp hKN j x hj
    clear hK hKN
    go_wp2_with fail
    go_ret
    exact ⟨g, c, xs.set j ⟨x, xs[j].arg⟩, by simp, by simp; omega, (show DR b _ w _ _ from ⟨v, hT, hS, (by rw [show (xs.set j ⟨x, xs[j].arg⟩).length = xs.length by simp]; unfold rowIns; rw [show (xs.set j ⟨x, xs[j].arg⟩).length = xs.length by simp]; exact hK9)⟩).mono (by omega)⟩
  by_cases z1 : z = 1
  · subst z1
    go_wp2_with fail
    refine Calls.dr (D3.al [.int .i64 (-1), .int .i64 0, .int .i64 1, .int .i64 100, .int .i64 101, .int .i64 1000000000000, .int .i64 1000000000001] 2) ?_; intro w90 D90
    obtain ⟨hr, hA⟩ := DR.lit (ds := [-1, 0, 1, 100, 101, 1000000000000, 1000000000001]) D90 (by decide)
    refine (among_dr _ _ _ 7 7 _ w90 D90.src (by omega) hr hA (by omega) (by omega)).mono ?_; rintro e w91 ⟨x, rfl, hx, h10⟩
    have D9 := ((D90.add h10).sel [1] 99 (by decide) (by decide))
    clear hr hA D3 D90 h10 hx
    obtain ⟨v, hT, hS, hK⟩ := D9
    have cg := cellsIns_get xs j hj
    have hgr : g < w91.heap.size := Ent.lt hK.at0 rfl
    have hKN : Kn v (rowInsN (some ⟨g, 0, none⟩) xs.length c xs :: _) w91 := hK
    obtain ⟨y1, y2⟩ := Kn.rowCell (show Kn v (.row (.slice (some ⟨g, 0, none⟩) xs.length c) 46 2 xs.length (cellsIns xs) :: _) w91 from hK) cg.1
    obtain ⟨y3, y4⟩ := Kn.rowCell (show Kn v (.row (.slice (some ⟨g, 0, none⟩) xs.length c) 46 2 xs.length (cellsIns xs) :: _) w91 from hK) cg.2
    have z1 : w91.cell? ⟨g, j * 2, none⟩ = some (.int .i64 xs[j].op) := y1
    have z3 : w91.cell? ⟨g, j * 2 + 1, none⟩ = some (.int .i64 xs[j].arg) := y3
    clear y1 y3 cg
    have hK9 := Kn.setArg hKN j x hj
    clear hK hKN
    go_wp2_with fail
    go_ret
    exact ⟨g, c, xs.set j ⟨xs[j].op, x⟩, by simp, by simp; omega, (show DR b _ w _ _ from ⟨v, hT, hS, (by rw [show (xs.set j ⟨xs[j].op, x⟩).length = xs.length by simp]; unfold rowIns; rw [show (xs.set j ⟨xs[j].op, x⟩).length = xs.length by simp]; exact hK9)⟩).mono (by omega)⟩
  by_cases z2 : z = 2
  · subst z2
    obtain ⟨hc1, hc2⟩ := D3.capIns
    have hi2 : (j : Int) ≤ (c : Int) := by omega
    have D4 := D3.kn (fun v hK => Kn.prefixIns (j := j) hK (by omega))
    have hjl : (xs.take j).length = j := by rw [List.length_take]; omega
    go_wp2_with fail
    go_ret
    exact ⟨g, c, xs.take j, by rw [hjl]; first | rfl | (go_num), by rw [hjl]; omega, D4.mono (by omega)⟩
  by_cases z3 : z = 3
  · subst z3
    have KR := Lib.hid (fun W => l11Nest_any 5 2 W (by decide))
    unfold InsRet at KR
    go_wp2_with fail
    refine (KR.out _).mono ?_; rintro e w4 ⟨g5, c5, ys, rfl, hyl, h3⟩
    have D4 : DR b _ w [rowIns (.slice (some ⟨g5, 0, none⟩) ys.length c5) ys] w4 := DR.sel (D3.kn (fun v hK => hK.join h3)) [0] 99 (by decide) (by decide)
    clear D3 h3 KR
    go_wp2_with fail
    go_ret
    exact ⟨g5, c5, ys, rfl, by omega, D4.mono (by omega)⟩
  have e0 : (z == 0) = false := by simp [z0]
  have e1 : (z == 1) = false := by simp [z1]
  have e2 : (z == 2) = false := by simp [z2]
  have e3 : (z == 3) = false := by simp [z3]
  by_cases z4 : z = 4
  · subst z4
    go_wp2_with fail
    refine Calls.dr (D3.al [] 46) ?_; intro w4 D4
    obtain ⟨g5, hg⟩ : ∃ g, w3.heap.size = g := ⟨_, rfl⟩
    rw [hg] at D4 ⊢
    have D5 : DR b _ w [rowIns (.slice (some ⟨g5, 0, none⟩) 0 0) []] w4 := DR.sel (D4.kn (fun v hK => hK.litRow (size := 2) (n := 0) rfl (by decide))) [0] 99 (by decide) (by decide)
    clear D4 D3 hg
    refine (pick_dr b _ 2 w4 D5.src (by omega)).mono ?_; rintro e w5 ⟨x, rfl, hx, h5⟩
    have D6 : DR b _ w [rowIns (.slice (some ⟨g5, 0, none⟩) 0 0) []] w5 := D5.add h5
    clear D5 h5
    obtain ⟨q, rfl⟩ : ∃ q : Nat, x = q := ⟨x.toNat, by omega⟩
    have hq : q ≤ 1 := by rcases hx.2 with h | h <;> omega
    have hw1 : IntKind.i64.wrap (120 + (q : Int)) = ((q + 120 : Nat) : Int) := by rw [wrapI64 (by omega)]; omega
    clear hx
    go_wp2_with fail
    go_loopw [3, 5] (fun vv kk wr => ∃ (k : Nat) (g c : Nat) (zs : List Ins), kk = .int .i64 (k : Int) ∧ zs.length + k ≤ 121 ∧ vv = .slice (some ⟨g, 0, none⟩) zs.length c ∧ DR b (N + 1010) w [rowIns (.slice (some ⟨g, 0, none⟩) zs.length c) zs] wr) (fun _ kk _ => (intOf kk).toNat)
    case atStart => exact ⟨q + 120, g5, 0, [], by go_num, by simp; omega, rfl, D6.mono (by omega)⟩
    case round =>
      clear D6 hw1
      obtain ⟨k, g6, c6, zs, rfl, hzl, rfl, D⟩ := hrel
      by_cases hk : 0 < k
      · have i1 : (0 : Int) < (k : Int) := by omega
        have i2 : (k : Int) > 0 := i1
        obtain ⟨v, hT, hS, hK⟩ := D
        go_wp2_with (at_builtin; refine kn_pushIns (ys := [⟨6, 0⟩]) rfl _ _ rfl _ zs rfl rfl (hK.al [.int .i64 6, .int .i64 0] 46) (by simp; omega) ?_; intro v9 w9 hK9; obtain ⟨g7, c7, rfl⟩ := row_pos hK9.at0 (by simp))
        go_roundw
        case rel => exact ⟨k - 1, g7, c7, zs ++ [⟨6, 0⟩], by go_num, by simp; omega, by simp, ⟨v, hT, hS, hK9⟩⟩
        case measure => simp [intOf]; omega
      · have i1 : ¬ (k : Int) > 0 := by omega
        go_wp2_with fail
        go_ret
        exact ⟨g6, c6, zs, rfl, by omega, D⟩
  have e4 : (z == 4) = false := by simp [z4]
  go_wp2_with fail
  go_ret
  exact ⟨g, c, xs, rfl, hl, D3.mono (by omega)⟩
end Go.Proofs.Ytkfbfainhmkkdaa

namespace Go.Proofs.Ytkfbfainhmkkdaa
open Go.RowKit Go.Sort
/-- what the drawing of a good register returns -/
def DReg7 (b M : Nat) (w : World) (e : Ending) (w' : World) : Prop := ∃ (bs : Int) (A : Option Addr) (c : Nat) (ds : List Int), e = .returned (.agg #[.int .i64 bs, .slice A ds.length c]) ∧ (2 ≤ bs ∧ bs ≤ 12 ∧ 1 ≤ ds.length ∧ ds.length ≤ 7 ∧ ∀ d ∈ ds, 0 ≤ d ∧ d < bs) ∧ DR b M w [rowI A c ds] w'
theorem min7 {q k : Nat} (h : 0 ≤ (q : Int) ∧ ((q : Int) < min 7 (k : Int) ∨ min 7 (k : Int) ≤ 1 ∧ (q : Int) = 0)) : q ≤ 6 := by omega
theorem wrapQ7 {q : Nat} (h : q ≤ 6) : IntKind.i64.wrap (1 + (q : Int)) = ((q + 1 : Nat) : Int) := by rw [wrapI64 (by omega)]; omega
set_option maxRecDepth 100000 in
set_option maxHeartbeats 1600000 in
theorem l02Draw7_dr (b N : Nat) (w : World) (h : Src w b N) (hN : N ≤ 800000) :
    Calls Try.prog 140 #[.pointer (some ⟨b, 0, none⟩), .int .i64 7] w (DReg7 b (N + 40) w) := by
  unfold DReg7
  have D0 := DR.nil h
  clear h
  go_enter Try.func140, Try.ntmps140
  go_wp2_with fail
  refine Calls.dr (D0.al [.int .i64 0, .slice none 0 0] 26) ?_; intro w1 D1
  refine (pick_dr b N 11 w1 D1.src (by omega)).mono ?_; rintro e w2 ⟨x, rfl, hx, h2⟩
  have D2 := D1.add h2
  clear D0 D1 h2
  obtain ⟨x0, hx1⟩ := hx
  have x1 : x < 11 := by omega
  clear hx1
  obtain ⟨g0, hg0⟩ : ∃ g, w.heap.size = g := ⟨_, rfl⟩
  rw [hg0] at D2 ⊢
  go_wp2_with fail
  refine Calls.dr (D2.al [.int .i64 (2 + x), .slice none 0 0] 26) ?_; intro w3 D3
  obtain ⟨g, hg⟩ : ∃ g, w2.heap.size = g := ⟨_, rfl⟩
  rw [hg] at D3 ⊢
  clear hg D2
  refine (one_dr b _ 2 w3 D3.src (by omega)).mono ?_; rintro e w4 ⟨y, rfl, h4⟩
  have D4 := D3.add h4
  clear D3 h4
  obtain ⟨bs, hbs⟩ : ∃ z, 2 + x = z := ⟨_, rfl⟩
  rw [hbs] at D4
  have b1 : 2 ≤ bs := by omega
  have b2 : bs ≤ 12 := by omega
  clear hbs
  obtain ⟨a1, a2, a3, -⟩ := D4.cells
  rcases y with _ | _
  · go_wp2_with fail
    have HG := Lib.hid (D4.drew.box2.1)
    have HT := HG
    go_region_held3 (fun W => W.cell? ⟨g, 0, none⟩ = some (.int .i64 bs)) (first | with_reducible exact HG.out | with_reducible exact HT.out | exact HG.out | exact HT.out) (first
      | (go_at_call 164; (with_reducible refine (l02Most_any _ _).mono ?_); rintro e w5 ⟨⟨k, rfl, k1, k2⟩, rfl⟩)
      | (go_at_call 151; (with_reducible refine (l00Min_any _ _ _).mono ?_); rintro e w5 ⟨rfl, rfl⟩)
      | (go_at_call 74; (with_reducible refine (pick_dr b _ _ _ D4.drew.src (by omega)).mono ?_); rintro e w5 ⟨y, rfl, hy, h5⟩; have D5 := D4.drew.add h5; clear HG; have HG := Lib.hid (D5.box2.1); obtain ⟨q, rfl⟩ : ∃ q : Nat, y = q := ⟨y.toNat, by omega⟩; have hq := min7 hy; have hq1 := wrapQ7 hq)
      | (go_at_call 112; rw [show (q : Int) + 1 = ((q + 1 : Nat) : Int) from rfl]; refine (digits_dr b _ _ (q + 1) _ D5.src (by omega) (by omega) (by omega) (by omega)).mono ?_; rintro e w6 ⟨A, c, ds, rfl, hl, hd, h6⟩; have D6 := D5.add h6; clear HG; have HG := Lib.hid ((D6.front 1 rfl).box2.1); obtain ⟨x1, x2, x3, -⟩ := (D6.front 1 rfl).cells; have D8 := (D6.front 1 rfl).st 1 (.slice A (q + 1) c); clear HT; have HT := Lib.hid (D8.box2.1)))
    all_goals
      clear D5 D6 HG HT
      try clear x1 x2 x3
      try clear a1 a2 a3
      generalize w6.setCell ⟨g, 1, none⟩ (.slice A (q + 1) c) = w8 at D8 ⊢
      obtain ⟨a1, a2, a3, -⟩ := D8.cells
      obtain ⟨d1, d2, d3, -⟩ := (D8.front 2 rfl).cells
      go_wp2_with fail
      refine bodyPost.dr (((D8.front 2 rfl).st 0 (.int .i64 bs)).st 1 (.slice A (q + 1) c)) ?_; intro w9 D9
      clear a1 a2 a3 d1 d2 d3
      obtain ⟨a1, a2, a3, -⟩ := D9.cells
      refine bodyPost_ret (v := .agg #[.int .i64 bs, .slice A (q + 1) c]) (by simp [results, Try.results140, go_sem, a1]) rfl ⟨bs, A, c, ds, by rw [hl], ⟨by omega, by omega, by omega, by omega, hd⟩, ?_⟩
      have hq' := hq
      exact (D9.sel [2] 99 (by decide) (by decide)).mono (by omega)
  · go_upto_region 4 with fail
    refine Code.wp.dr ((D4.front 0 rfl).st 0 (.int .i64 10)) ?_; intro w4 D4
    clear a1 a2 a3
    obtain ⟨a1, a2, a3, -⟩ := D4.cells
    have HG := Lib.hid (D4.drew.box2.1)
    have HT := HG
    go_region_held3 (fun W => W.cell? ⟨g, 0, none⟩ = some (.int .i64 10)) (first | with_reducible exact HG.out | with_reducible exact HT.out | exact HG.out | exact HT.out) (first
      | (go_at_call 164; (with_reducible refine (l02Most_any _ _).mono ?_); rintro e w5 ⟨⟨k, rfl, k1, k2⟩, rfl⟩)
      | (go_at_call 151; (with_reducible refine (l00Min_any _ _ _).mono ?_); rintro e w5 ⟨rfl, rfl⟩)
      | (go_at_call 74; (with_reducible refine (pick_dr b _ _ _ D4.drew.src (by omega)).mono ?_); rintro e w5 ⟨y, rfl, hy, h5⟩; have D5 := D4.drew.add h5; clear HG; have HG := Lib.hid (D5.box2.1); obtain ⟨q, rfl⟩ : ∃ q : Nat, y = q := ⟨y.toNat, by omega⟩; have hq := min7 hy; have hq1 := wrapQ7 hq)
      | (go_at_call 112; rw [show (q : Int) + 1 = ((q + 1 : Nat) : Int) from rfl]; refine (digits_dr b _ _ (q + 1) _ D5.src (by omega) (by omega) (by omega) (by omega)).mono ?_; rintro e w6 ⟨A, c, ds, rfl, hl, hd, h6⟩; have D6 := D5.add h6; clear HG; have HG := Lib.hid ((D6.front 1 rfl).box2.1); obtain ⟨x1, x2, x3, -⟩ := (D6.front 1 rfl).cells; have D8 := (D6.front 1 rfl).st 1 (.slice A (q + 1) c); clear HT; have HT := Lib.hid (D8.box2.1)))
    all_goals
      clear D5 D6 HG HT
      try clear x1 x2 x3
      try clear a1 a2 a3
      generalize w6.setCell ⟨g, 1, none⟩ (.slice A (q + 1) c) = w8 at D8 ⊢
      obtain ⟨a1, a2, a3, -⟩ := D8.cells
      obtain ⟨d1, d2, d3, -⟩ := (D8.front 2 rfl).cells
      go_wp2_with fail
      refine bodyPost.dr (((D8.front 2 rfl).st 0 (.int .i64 10)).st 1 (.slice A (q + 1) c)) ?_; intro w9 D9
      clear a1 a2 a3 d1 d2 d3
      obtain ⟨a1, a2, a3, -⟩ := D9.cells
      refine bodyPost_ret (v := .agg #[.int .i64 10, .slice A (q + 1) c]) (by simp [results, Try.results140, go_sem, a1]) rfl ⟨10, A, c, ds, by rw [hl], ⟨by omega, by omega, by omega, by omega, hd⟩, ?_⟩
      have hq' := hq
      exact (D9.sel [2] 99 (by decide) (by decide)).mono (by omega)
end Go.Proofs.Ytkfbfainhmkkdaa

namespace Go.Proofs.Ytkfbfainhmkkdaa
open Go.RowKit Go.Sort
/-- the bytes of a string -/
def strB (s : ByteArray) : List UInt8 := s.data.toList
theorem strB_len (s : ByteArray) : (strB s).length = s.size := by simp [strB]
theorem strB_get (s : ByteArray) {k : Nat} (h : k < s.size) : s[k] = (strB s)[k]'(by rw [strB_len]; exact h) := by
  simp [strB]
  rfl
theorem strB_mk (bs : List UInt8) : strB ⟨bs.toArray⟩ = bs := by simp [strB]
theorem size_mk (bs : List UInt8) : (⟨bs.toArray⟩ : ByteArray).size = bs.length := by simp [ByteArray.size]
theorem strB_drop (s : ByteArray) (k : Nat) : strB (s.extract k s.size) = (strB s).drop k := by
  have h : (s.extract k s.size).data = s.data.extract k s.size := by simp
  unfold strB
  rw [h, Array.toList_extract, List.extract_eq_take_drop]
  rw [List.take_of_length_le]
  rw [List.length_drop, Array.length_toList]
  exact Nat.le_refl _
theorem size_zero {s : ByteArray} (h : s.size = 0) : s = ⟨#[]⟩ := by
  cases s with
  | mk a =>
    congr 1
    exact Array.eq_empty_of_size_eq_zero h
theorem str_nonempty {s : ByteArray} (h : 0 < s.size) : s.toList.isEmpty = false := by
  rw [ByteArray.toList_eq]
  cases he : s.data.toList with
  | nil =>
    have : s.data.toList.length = 0 := by rw [he]; rfl
    have h2 : s.data.toList.length = s.size := by rw [Array.length_toList]; rfl
    omega
  | cons a l => rfl
theorem strB_cons {s : ByteArray} (h : 0 < s.size) : strB s = s[0] :: (strB s).drop 1 := by
  have h1 : 0 < (strB s).length := by rw [strB_len]; exact h
  have h2 := strB_get s h
  rw [h2]
  have h3 := List.drop_eq_getElem_cons (l := strB s) (i := 0) h1
  simpa using h3
theorem strB_nil {s : ByteArray} (h : s.size = 0) : strB s = [] := by
  apply List.eq_nil_of_length_eq_zero; rw [strB_len]; exact h
theorem str_eq {s : ByteArray} {bs : List UInt8} : (⟨bs.toArray⟩ : ByteArray) = s ↔ bs = strB s := by
  constructor
  · intro h; rw [← h]; simp [strB]
  · intro h; rw [h]; cases s; simp [strB]
theorem strB_toList (s : ByteArray) : s.toList = strB s := by rw [ByteArray.toList_eq]; rfl
theorem strB_tail {s : ByteArray} : strB (s.extract 1 s.size) = (strB s).drop 1 := strB_drop s 1
theorem extract_size (s : ByteArray) (k : Nat) : (s.extract k s.size).size = s.size - k := by simp [ByteArray.size_extract]
theorem strB_extract (s : ByteArray) (i j : Nat) : strB (s.extract i j) = ((strB s).drop i).take (j - i) := by
  have h : (s.extract i j).data = s.data.extract i j := by simp
  unfold strB
  rw [h, Array.toList_extract, List.extract_eq_take_drop]
theorem strB_getD (s : ByteArray) {k : Nat} (h : k < s.size) : (strB s).getD k 0 = s[k] := by
  rw [strB_get s h]; simp [List.getD, List.getElem?_eq_getElem (show k < (strB s).length by rw [strB_len]; exact h)]
theorem wrapI {n : Int} (h : -9223372036854775808 ≤ n ∧ n ≤ 9223372036854775807) : IntKind.i64.wrap n = n := by
  rw [IntKind.wrap_i64]; omega
theorem wrapB {n : Int} (h : 0 ≤ n ∧ n < 256) : IntKind.u8.wrap n = n := by
  simp [IntKind.wrap, IntKind.bits, IntKind.signed]; omega
theorem wrap64_of {n : Int} (h : -9223372036854775808 ≤ n ∧ n ≤ 9223372036854775807) : wrap64 n = n := by unfold wrap64; omega
end Go.Proofs.Ytkfbfainhmkkdaa

namespace Go.Proofs.Ytkfbfainhmkkdaa
open Go.RowKit Go.Sort
/-- the checksum of bytes -/
def sumB (bs : List UInt8) : Int := bs.foldl (fun a b => (31 * a + (b.toNat : Int) + 1) % 65521) 7
theorem sumB_bd (bs : List UInt8) : 0 ≤ sumB bs ∧ sumB bs < 65521 := by
  rcases List.eq_nil_or_concat bs with rfl | ⟨l, b, rfl⟩
  · simp [sumB]
  · simp only [sumB, List.concat_eq_append, List.foldl_append, List.foldl_cons, List.foldl_nil]
    omega
theorem sumB_snoc (l : List UInt8) (b : UInt8) : sumB (l ++ [b]) = (31 * sumB l + (b.toNat : Int) + 1) % 65521 := by simp [sumB]
set_option maxHeartbeats 800000 in
theorem SumOfBytes_any (s : ByteArray) (w : World) (hs : s.size ≤ 140737488355328) : Calls Try.prog 51 #[.string s] w fun e w' => e = .returned (.int .i64 (sumB (strB s))) ∧ w = w' := by
  have HL := Lib.hid (strB_len s)
  go_enter Try.func51, Try.ntmps51
  go_wp2_with fail
  go_loopw [7, 3] (fun kk ss wr => ∃ k : Nat, k ≤ s.size ∧ kk = .int .i64 k ∧ ss = .int .i64 (sumB ((strB s).take k)) ∧ w = wr) (fun kk _ _ => s.size - (intOf kk).toNat)
  case atStart => exact ⟨0, Nat.zero_le _, rfl, rfl, rfl⟩
  case round =>
    obtain ⟨k, hk, rfl, rfl, rfl⟩ := hrel
    by_cases hkn : k < s.size
    · have hkl : k < (strB s).length := by rw [HL.out]; exact hkn
      have hg := strB_get s hkn
      have HT := Lib.hid (List.take_succ_eq_append_getElem hkl)
      obtain ⟨b, hb⟩ : ∃ b, b = (strB s)[k] := ⟨_, rfl⟩
      rw [← hb] at hg HT
      obtain ⟨acc, hacc⟩ : ∃ acc, acc = sumB ((strB s).take k) := ⟨_, rfl⟩
      have HA := Lib.hid hacc
      obtain ⟨a0, a1⟩ := sumB_bd ((strB s).take k)
      rw [← hacc] at a0 a1
      rw [← hacc]
      have hb2 : b.toNat < 256 := UInt8.toNat_lt _
      have hi1 : (k : Int) < (s.size : Int) := by omega
      have hi0 : (0 : Int) ≤ (k : Int) := by omega
      clear hacc hb
      go_wp2
      go_roundw
      case rel => exact ⟨k + 1, by omega, by go_num, by rw [HT.out, sumB_snoc, ← HA.out], by simp⟩
      case measure => simp [intOf]; omega
    · have HF : Hid (sumB ((strB s).take k) = sumB (strB s)) := by simp only [Hid]; rw [List.take_of_length_le (by rw [HL.out]; omega)]
      go_wp2
      go_ret
      exact ⟨ret_int HF.out, rfl⟩
set_option maxHeartbeats 800000 in
theorem l27Sum_any (s : ByteArray) (w : World) (hs : s.size ≤ 140737488355328) : Calls Try.prog 109 #[.string s] w fun e w' => e = .returned (.int .i64 (sumB (strB s))) ∧ w = w' := by
  have HL := Lib.hid (strB_len s)
  go_enter Try.func109, Try.ntmps109
  go_wp2_with fail
  go_loopw [4, 3] (fun kk ss wr => ∃ k : Nat, k ≤ s.size ∧ kk = .int .i64 k ∧ ss = .int .i64 (sumB ((strB s).take k)) ∧ w = wr) (fun kk _ _ => s.size - (intOf kk).toNat)
  case atStart => exact ⟨0, Nat.zero_le _, rfl, rfl, rfl⟩
  case round =>
    obtain ⟨k, hk, rfl, rfl, rfl⟩ := hrel
    by_cases hkn : k < s.size
    · have hkl : k < (strB s).length := by rw [HL.out]; exact hkn
      have hg := strB_get s hkn
      have HT := Lib.hid (List.take_succ_eq_append_getElem hkl)
      obtain ⟨b, hb⟩ : ∃ b, b = (strB s)[k] := ⟨_, rfl⟩
      rw [← hb] at hg HT
      obtain ⟨acc, hacc⟩ : ∃ acc, acc = sumB ((strB s).take k) := ⟨_, rfl⟩
      have HA := Lib.hid hacc
      obtain ⟨a0, a1⟩ := sumB_bd ((strB s).take k)
      rw [← hacc] at a0 a1
      rw [← hacc]
      have hb2 : b.toNat < 256 := UInt8.toNat_lt _
      have hi1 : (k : Int) < (s.size : Int) := by omega
      have hi0 : (0 : Int) ≤ (k : Int) := by omega
      clear hacc hb
      go_wp2
      go_roundw
      case rel => exact ⟨k + 1, by omega, by go_num, by rw [HT.out, sumB_snoc, ← HA.out], by simp⟩
      case measure => simp [intOf]; omega
    · have HF : Hid (sumB ((strB s).take k) = sumB (strB s)) := by simp only [Hid]; rw [List.take_of_length_le (by rw [HL.out]; omega)]
      go_wp2
      go_ret
      exact ⟨ret_int HF.out, rfl⟩
end Go.Proofs.Ytkfbfainhmkkdaa
