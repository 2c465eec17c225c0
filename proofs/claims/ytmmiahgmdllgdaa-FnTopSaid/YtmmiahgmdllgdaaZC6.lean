/- Part 6: lemmas and contracts of the claim's functions. -/
import Derived.Test.YtmmiahgmdllgdaaZC1
import Derived.Test.YtmmiahgmdllgdaaZC2
import Derived.Test.YtmmiahgmdllgdaaZC3
import Derived.Test.YtmmiahgmdllgdaaZC4
import Derived.Test.YtmmiahgmdllgdaaZC5
import Derived.Deep.CutBlock
namespace Go.Proofs.Ytmmiahgmdllgdaa
open Go.RowKit Go.Sort
theorem Kn.capA {w0 w : World} {m : List Ent} {g c n : Nat} {xs : List Value} {e : TypeId} {s : Nat} (h : Kn w0 (.row (.slice (some ⟨g, 0, none⟩) n c) e s n xs :: m) w) : n ≤ c ∧ c ≤ 9223372036854775807 := by
  have h0 : w.ownsRow 0 e s (.slice (some ⟨g, 0, none⟩) n c) n xs := h.at0
  rcases h0.2 with ⟨hv, _⟩ | ⟨g', cap, cur, hv, -, -, h1, h2, -⟩
  · cases hv
  · injection hv with _ _ hv
    subst hv
    unfold maxLen at h2
    exact ⟨h1, by omega⟩
set_option maxHeartbeats 3200000 in
theorem aheadCode_ok (b : Int) (n size : Nat) (XA : Option Addr) (xc : Nat) (xs : List Int) (YA : Option Addr) (yc : Nat) (ys : List Int) (w : World) (hx : RI w XA n xs) (hy : RI w YA n ys) (hv1 : vreg b xs = true) (hv2 : vreg b ys = true) (s1 : 1 ≤ size) (s16 : size ≤ 16) :
    Calls Try.prog 46 #[.agg #[.int .i64 b, .slice XA n xc], .agg #[.int .i64 b, .slice YA n yc], .int .i64 (size : Int)] w fun e w' => e = .returned (.int .i64 0) ∧ Below w.heap.size w w' := by
  have hxl := hx.1
  have hyl := hy.1
  have KP := (fun W (hW : Below w.heap.size w W) => pairCode_ok b XA xc xs YA yc ys W (by rw [hxl]; exact hx.below hW) (by rw [hyl]; exact hy.below hW) hv1 hv2 (by omega))
  rw [hxl, hyl] at KP
  replace KP := Lib.hid KP
  have hbt : betB (size : Int) 1 16 = true := betB_iff.2 (by omega)
  clear hx hy hv1 hv2 hxl hyl
  obtain ⟨g, hg⟩ : ∃ g, w.heap.size = g := ⟨_, rfl⟩
  have K0 := ((Kn.nil w).al [.int .i64 b, .slice XA n xc] 26).al [.int .i64 b, .slice YA n yc] 26
  simp only [World.size_alloc, hg] at K0
  go_enter Try.func46, Try.ntmps46
  go_upto_region 1 with fail
  try rw [hg]
  refine Code.wp.kn K0 ?_; clear K0 hg; intro w1 K1
  obtain ⟨y1, y2, y3, x1, x2, x3, -⟩ := K1.cells
  go_wp2_with (first
    | (go_at_call 40; refine (KP.out _ K1.below).mono ?_; rintro e w2 ⟨rfl, hw⟩; have K2 := K1.keep hw; clear hw K1 y1 y2 y3 x1 x2 x3)
    | (go_at_call 55; refine (isRegisterWidth_any _ _).mono ?_; rintro e w' ⟨rfl, rfl⟩; try rw [hbt]))
  go_ret
  exact ⟨rfl, K2.below⟩
set_option maxRecDepth 100000 in
set_option maxHeartbeats 6400000 in
theorem AddAhead_ok (b : Int) (n size : Nat) (XA : Option Addr) (xc : Nat) (xs : List Int) (YA : Option Addr) (yc : Nat) (ys : List Int) (w : World) (hx : RI w XA n xs) (hy : RI w YA n ys) (hv1 : vreg b xs = true) (hv2 : vreg b ys = true) (hva : vreg b (addD b xs ys n) = true) (s1 : 1 ≤ size) (s16 : size ≤ 16) :
    Calls Try.prog 10 #[.agg #[.int .i64 b, .slice XA n xc], .agg #[.int .i64 b, .slice YA n yc], .int .i64 (size : Int)] w (SumR b n (addD b xs ys n) (carK b xs ys n) w) := by
  have hxl := hx.1
  have hyl := hy.1
  obtain ⟨⟨b1, b2⟩, ⟨n1, n2⟩, hdx, -⟩ := vreg_iff.1 hv1
  have hdy := (vreg_iff.1 hv2).2.2.1
  rw [hxl] at n1 n2
  have hal := addD_len b xs ys n
  have KP := Lib.hid (fun W (hW : Below w.heap.size w W) => aheadCode_ok b n size XA xc xs YA yc ys W (hx.below hW) (hy.below hW) hv1 hv2 s1 s16)
  have KS := Lib.hid (fun W (hW : Below w.heap.size w W) => signals_ok b n XA xc xs YA yc ys W b1 b2 (by omega) n2 (hx.below hW) (hy.below hW) hdx hdy)
  have KA := Lib.hid (fun g c W (hc : n ≤ c) (hc2 : c ≤ 9223372036854775807) hp => carriesAhead_ok b g n c size xs ys W b1 (by omega) n2 s1 s16 hc hc2 hdx hdy hp)
  have KW := Lib.hid (fun F fc W (hr : RI W F n (addD b xs ys n)) => (by
    have h := whole_ok b (carK b xs ys n) F fc (addD b xs ys n) W (by rw [hal]; exact hr) hva
    rw [hal] at h
    exact h : Calls Try.prog 43 #[.agg #[.int .i64 b, .slice F n fc], .int .i64 (carK b xs ys n)] W fun e w' => e = .returned (.tuple #[.agg #[.int .i64 b, .slice F n fc], .int .i64 (carK b xs ys n), .int .i64 0]) ∧ Below W.heap.size W w'))
  have HX := Lib.hid (fun W (hW : Below w.heap.size w W) => hx.below hW)
  have HY := Lib.hid (fun W (hW : Below w.heap.size w W) => hy.below hW)
  have HCB := Lib.hid (fun k => carK_bd b1 hdx hdy k)
  have HDX := Lib.hid hdx
  have HDY := Lib.hid hdy
  have HAL := Lib.hid hal
  have HSL := Lib.hid (sigL_len b xs ys n)
  unfold SumR
  clear hx hy hxl hyl hv1 hv2 hva hdx hdy hal
  obtain ⟨g, hg⟩ : ∃ g, w.heap.size = g := ⟨_, rfl⟩
  have K0 := (((Kn.nil w).al [.int .i64 b, .slice XA n xc] 26).al [.int .i64 b, .slice YA n yc] 26).al [.int .i64 0, .slice none 0 0] 26
  simp only [World.size_alloc, hg] at K0
  go_enter Try.func10, Try.ntmps10
  go_upto_region 1 with fail
  try rw [hg]
  refine Code.wp.kn K0 ?_; clear K0 hg; intro w1 K1
  obtain ⟨z1, z2, z3, y1, y2, y3, x1, x2, x3, -⟩ := K1.cells
  go_upto_region 4 with (go_at_call 46; refine (KP.out _ K1.below).mono ?_; rintro e w2 ⟨rfl, hw⟩; have K2 := K1.keep hw; clear hw K1 z1 z2 z3 y1 y2 y3 x1 x2 x3; obtain ⟨z1, z2, z3, y1, y2, y3, x1, x2, x3, -⟩ := K2.cells)
  go_upto_region 5 with (first
    | (go_at_call 48; refine (KS.out _ K2.below).mono ?_; rintro e w3 ⟨gs, sc, rfl, hK⟩; have hsc := Kn.capA hK; have K3 := K2.join hK; clear hK K2 z1 z2 z3 y1 y2 y3 x1 x2 x3)
    | (go_at_call 47; refine (KA.out gs sc _ hsc.1 hsc.2 (K3.sgAt0 HSL.out)).mono ?_; rintro e w4 ⟨E, ec, rfl, hK⟩; have K4 := (K3.join hK).sel [0, 2, 3, 4] 99 (by decide) (by decide); clear hK K3 hsc KS KA))
  have K5 := K4.al [.int .i64 b, .slice none 0 0] 26
  obtain ⟨g8, hg⟩ : ∃ g, w4.heap.size = g := ⟨_, rfl⟩
  rw [hg] at K5
  obtain ⟨E0, hE, h8⟩ : ∃ E0, E = some ⟨E0, 0, none⟩ ∧ True := by
    obtain ⟨ge, ce, hv⟩ := K4.rowForm (by omega)
    injection hv with hv
    exact ⟨ge, hv, trivial⟩
  subst hE
  obtain ⟨-, -, -, x1, x2, x3, -⟩ := (K4.front 2 rfl).cells
  obtain ⟨x1, x2, x3, -⟩ := (K4.front 3 rfl).cells
  go_upto_region 6 with fail
  try rw [hg]
  refine Code.wp.kn K5 ?_; clear K4 K5 hg h8 x1 x2 x3; intro w5 K5
  have K6 : Kn w [.row (.slice none 0 0) 2 1 (addD b xs ys 0).length ((addD b xs ys 0).map (Value.int .i64)), .blk g8 [.int .i64 b, .slice none 0 0] 26, .row (.slice (some ⟨E0, 0, none⟩) (n + 1) ec) 2 1 (n + 1) ((carL b xs ys (n + 1)).map (Value.int .i64)), .blk (g + 1 + 1) [.int .i64 0, .slice none 0 0] 26, .blk (g + 1) [.int .i64 b, .slice YA n yc] 26, .blk g [.int .i64 b, .slice XA n xc] 26] w5 := K5.nilRow _ _
  clear K5
  obtain ⟨x1, x2, x3, -⟩ := (K6.front 5 rfl).cells
  go_wp2_with fail
  clear x1 x2 x3
  go_loopw [33] (fun kk wr => ∃ (k : Nat) (vv : Value), k ≤ n ∧ kk = .int .i64 (k : Int) ∧ Kn w [.row vv 2 1 (addD b xs ys k).length ((addD b xs ys k).map (Value.int .i64)), .blk g8 [.int .i64 b, vv] 26, .row (.slice (some ⟨E0, 0, none⟩) (n + 1) ec) 2 1 (n + 1) ((carL b xs ys (n + 1)).map (Value.int .i64)), .blk (g + 1 + 1) [.int .i64 0, .slice none 0 0] 26, .blk (g + 1) [.int .i64 b, .slice YA n yc] 26, .blk g [.int .i64 b, .slice XA n xc] 26] wr) (fun kk _ => n - (intOf kk).toNat)
  case atStart => exact ⟨0, _, Nat.zero_le _, rfl, K6⟩
  case round =>
    clear K6
    obtain ⟨k, vv, hk, rfl, KR⟩ := hrel
    by_cases hk1 : k < n
    · have i1 : (k : Int) < (n : Int) := by omega
      have i0 : (0 : Int) ≤ (k : Int) := by omega
      have i2 : (k : Int) < (n : Int) + 1 := by omega
      obtain ⟨adx, hXA, -, hkx, hcx⟩ := (HX.out _ KR.below).at_ hk1
      obtain ⟨ady, hYA, -, hky, hcy⟩ := (HY.out _ KR.below).at_ hk1
      have hxb := HDX.out xs[k] (List.getElem_mem _)
      have hyb := HDY.out ys[k] (List.getElem_mem _)
      have hcb := HCB.out k
      have hgx : xs.getD k 0 = xs[k] := getD_of hkx
      have hgy : ys.getD k 0 = ys[k] := getD_of hky
      have hCE : ((carL b xs ys (n + 1)).map (Value.int .i64))[k]? = some (.int .i64 (carK b xs ys k)) := by
        obtain ⟨h', e'⟩ := carL_get b xs ys (show k < n + 1 by omega)
        rw [List.getElem?_map, List.getElem?_eq_getElem h', e']
        rfl
      obtain ⟨x, hxx⟩ : ∃ x, xs[k] = x := ⟨_, rfl⟩
      obtain ⟨y, hyy⟩ : ∃ x, ys[k] = x := ⟨_, rfl⟩
      obtain ⟨v, hv⟩ : ∃ v, carK b xs ys k = v := ⟨_, rfl⟩
      obtain ⟨z, hz⟩ : ∃ z, (x + y + v) % b = z := ⟨_, rfl⟩
      have HS := Lib.hid (show addD b xs ys (k + 1) = addD b xs ys k ++ [z] by
        rw [addD_succ]
        unfold sumK
        rw [hgx, hgy, hxx, hyy, hv, hz])
      rw [hxx] at hcx hxb
      rw [hyy] at hcy hyb
      rw [hv] at hCE hcb
      have HL := Lib.hid (show (addD b xs ys k).length ≤ 10000000 by rw [addD_len]; omega)
      have hzb : 0 ≤ z ∧ z < b := by rw [← hz]; exact ⟨Int.emod_nonneg _ (by omega), Int.emod_lt_of_pos _ (by omega)⟩
      have ht : (x + y + v).tmod b = z := by rw [Int.tmod_eq_emod_of_nonneg (by omega)]; exact hz
      have f1 : IntKind.i64.wrap (x + y) = x + y := wrapI64 (by omega)
      have f2 : IntKind.i64.wrap (x + y + v) = x + y + v := wrapI64 (by omega)
      have f3 : IntKind.i64.wrap z = z := wrapI64 (by omega)
      have f4 : ¬ b = 0 := by omega
      obtain ⟨ts, hts⟩ : ∃ t, addD b xs ys k = t := ⟨_, rfl⟩
      rw [hts] at HS HL KR
      subst hXA
      subst hYA
      have HB := Lib.hid (fun W (hK : Kn w [.row (.slice (some ⟨E0, 0, none⟩) (n + 1) ec) 2 1 (n + 1) ((carL b xs ys (n + 1)).map (Value.int .i64)), .blk (g + 1) [.int .i64 b, .slice (some ady) n yc] 26, .blk g [.int .i64 b, .slice (some adx) n xc] 26] W) => (show W.cell? ⟨g + 1, 1, none⟩ = some (.slice (some ady) n yc) ∧ W.cell? (ady.add k) = some (.int .i64 y) ∧ W.cell? ⟨E0, k, none⟩ = some (.int .i64 v) ∧ W.cell? ⟨g, 0, none⟩ = some (.int .i64 b) by
        obtain ⟨ad2, hA2, -, hk2, hc2⟩ := (HY.out _ hK.below).at_ hk1
        injection hA2 with hA2
        subst hA2
        rw [hyy] at hc2
        exact ⟨(box2 (hK.front 1 rfl)).2, hc2, (Kn.rowCell hK hCE).1, (box2 (hK.front 2 rfl)).1⟩))
      clear hxx hyy hv hz hgx hgy hts hkx hky hcy hxb hyb hcb hzb
      go_upto_region 9 with fail
      have hKd := KR.drew
      have HG := Lib.hid (HB.out _ (hKd.sel [2, 4, 5] 99 (by decide) (by decide)))
      refine wp_region_held_drew (S := fun W => W.cell? ⟨g + 1, 1, none⟩ = some (.slice (some ady) n yc) ∧ W.cell? (ady.add k) = some (.int .i64 y) ∧ W.cell? ⟨E0, k, none⟩ = some (.int .i64 v) ∧ W.cell? ⟨g, 0, none⟩ = some (.int .i64 b)) (by kernel_rfl) ?_ (fun hHeld => ?_)
      · exact HG.out
      try dsimp only
      generalize wr.drew = wd' at hKd HG hHeld ⊢
      clear KR hcx
      refine wpAnyH_take (i := 0) (v := ?_) rfl (by kernel_rfl) (by kernel_rfl) (by kernel_rfl) (fun _ _ _ h => h) (Or.inl ⟨by rfl, ?_⟩) hHeld ?_
      rotate_left
      · (intro w hSw; (try dsimp only at hSw); go_simp; try with_reducible rfl)
      try simp only [Act.put, List.setIfInBounds_toArray, List.set_cons_zero, List.set_cons_succ, List.getElem_toArray, List.getElem_cons_succ, List.getElem_cons_zero]
      refine wpAnyH_take (i := 2) (v := ?_) rfl (by kernel_rfl) (by kernel_rfl) (by kernel_rfl) (fun _ _ _ h => h) (Or.inl ⟨by rfl, ?_⟩) hHeld ?_
      rotate_left
      · (intro w hSw; (try dsimp only at hSw); go_simp; try with_reducible rfl)
      try simp only [Act.put, List.setIfInBounds_toArray, List.set_cons_zero, List.set_cons_succ, List.getElem_toArray, List.getElem_cons_succ, List.getElem_cons_zero]
      refine wpAnyH_take (i := 3) (v := ?_) rfl (by kernel_rfl) (by kernel_rfl) (by kernel_rfl) (fun _ _ _ h => h) (Or.inl ⟨by rfl, ?_⟩) hHeld ?_
      rotate_left
      · (intro w hSw; (try dsimp only at hSw); go_simp; try with_reducible rfl)
      try simp only [Act.put, List.setIfInBounds_toArray, List.set_cons_zero, List.set_cons_succ, List.getElem_toArray, List.getElem_cons_succ, List.getElem_cons_zero]
      refine wpAnyH_take (i := 4) (v := ?_) rfl (by kernel_rfl) (by kernel_rfl) (by kernel_rfl) (fun _ _ _ h => h) (Or.inl ⟨by rfl, ?_⟩) hHeld ?_
      rotate_left
      · (intro w hSw; (try dsimp only at hSw); go_simp; try with_reducible rfl)
      try simp only [Act.put, List.setIfInBounds_toArray, List.set_cons_zero, List.set_cons_succ, List.getElem_toArray, List.getElem_cons_succ, List.getElem_cons_zero]
      refine wpAnyH_take (i := 5) (v := ?_) rfl (by kernel_rfl) (by kernel_rfl) (by kernel_rfl) (fun _ _ _ h => h) (Or.inl ⟨by rfl, ?_⟩) hHeld ?_
      rotate_left
      · (intro w hSw; (try dsimp only at hSw); go_simp; try with_reducible rfl)
      try simp only [Act.put, List.setIfInBounds_toArray, List.set_cons_zero, List.set_cons_succ, List.getElem_toArray, List.getElem_cons_succ, List.getElem_cons_zero]
      refine wpAnyH_take (i := 6) (v := ?_) rfl (by kernel_rfl) (by kernel_rfl) (by kernel_rfl) (fun _ _ _ h => h) (Or.inl ⟨by rfl, ?_⟩) hHeld ?_
      rotate_left
      · (intro w hSw; (try dsimp only at hSw); go_simp; try with_reducible rfl)
      try simp only [Act.put, List.setIfInBounds_toArray, List.set_cons_zero, List.set_cons_succ, List.getElem_toArray, List.getElem_cons_succ, List.getElem_cons_zero]
      refine wpAnyH_take (i := 7) (v := ?_) rfl (by kernel_rfl) (by kernel_rfl) (by kernel_rfl) (fun _ _ _ h => h) (Or.inl ⟨by rfl, ?_⟩) hHeld ?_
      rotate_left
      · (intro w hSw; (try dsimp only at hSw); go_simp; try with_reducible rfl)
      try simp only [Act.put, List.setIfInBounds_toArray, List.set_cons_zero, List.set_cons_succ, List.getElem_toArray, List.getElem_cons_succ, List.getElem_cons_zero]
      refine wpAnyH_take (i := 8) (v := ?_) rfl (by kernel_rfl) (by kernel_rfl) (by kernel_rfl) (fun _ _ _ h => h) (Or.inl ⟨by rfl, ?_⟩) hHeld ?_
      rotate_left
      · (intro w hSw; (try dsimp only at hSw); go_simp; try with_reducible rfl)
      try simp only [Act.put, List.setIfInBounds_toArray, List.set_cons_zero, List.set_cons_succ, List.getElem_toArray, List.getElem_cons_succ, List.getElem_cons_zero]
      refine wpAnyH_take (i := 9) (v := ?_) rfl (by kernel_rfl) (by kernel_rfl) (by kernel_rfl) (fun _ _ _ h => h) (Or.inl ⟨by rfl, ?_⟩) hHeld ?_
      rotate_left
      · (intro w hSw; (try dsimp only at hSw); go_simp; try with_reducible rfl)
      try simp only [Act.put, List.setIfInBounds_toArray, List.set_cons_zero, List.set_cons_succ, List.getElem_toArray, List.getElem_cons_succ, List.getElem_cons_zero]
      refine wpAnyH_take (i := 10) (v := ?_) rfl (by kernel_rfl) (by kernel_rfl) (by kernel_rfl) (fun _ _ _ h => h) (Or.inl ⟨by rfl, ?_⟩) hHeld ?_
      rotate_left
      · (intro w hSw; (try dsimp only at hSw); go_simp; try with_reducible rfl)
      try simp only [Act.put, List.setIfInBounds_toArray, List.set_cons_zero, List.set_cons_succ, List.getElem_toArray, List.getElem_cons_succ, List.getElem_cons_zero]
      refine wpAnyH_take (i := 11) (v := ?_) rfl (by kernel_rfl) (by kernel_rfl) (by kernel_rfl) (fun _ _ _ h => h) (Or.inl ⟨by rfl, ?_⟩) hHeld ?_
      rotate_left
      · (intro w hSw; (try dsimp only at hSw); go_simp; try with_reducible rfl)
      try simp only [Act.put, List.setIfInBounds_toArray, List.set_cons_zero, List.set_cons_succ, List.getElem_toArray, List.getElem_cons_succ, List.getElem_cons_zero]
      refine wpAnyH_take (i := 12) (v := ?_) rfl (by kernel_rfl) (by kernel_rfl) (by kernel_rfl) (fun _ _ _ h => h) (Or.inl ⟨by rfl, ?_⟩) hHeld ?_
      rotate_left
      · (intro w hSw; (try dsimp only at hSw); go_simp; try with_reducible rfl)
      try simp only [Act.put, List.setIfInBounds_toArray, List.set_cons_zero, List.set_cons_succ, List.getElem_toArray, List.getElem_cons_succ, List.getElem_cons_zero]
      refine wpAnyH_take (i := 13) (v := ?_) rfl (by kernel_rfl) (by kernel_rfl) (by kernel_rfl) (fun _ _ _ h => h) (Or.inl ⟨by rfl, ?_⟩) hHeld ?_
      rotate_left
      · (intro w hSw; (try dsimp only at hSw); go_simp; try with_reducible rfl)
      try simp only [Act.put, List.setIfInBounds_toArray, List.set_cons_zero, List.set_cons_succ, List.getElem_toArray, List.getElem_cons_succ, List.getElem_cons_zero]
      refine wpAnyH_take (i := 14) (v := ?_) rfl (by kernel_rfl) (by kernel_rfl) (by kernel_rfl) (fun _ _ _ h => h) (Or.inl ⟨by rfl, ?_⟩) hHeld ?_
      rotate_left
      · (intro w hSw; (try dsimp only at hSw); go_simp; try with_reducible rfl)
      try simp only [Act.put, List.setIfInBounds_toArray, List.set_cons_zero, List.set_cons_succ, List.getElem_toArray, List.getElem_cons_succ, List.getElem_cons_zero]
      refine wpAnyH_take (i := 15) (v := ?_) rfl (by kernel_rfl) (by kernel_rfl) (by kernel_rfl) (fun _ _ _ h => h) (Or.inl ⟨by rfl, ?_⟩) hHeld ?_
      rotate_left
      · (intro w hSw; (try dsimp only at hSw); go_simp; try with_reducible rfl)
      try simp only [Act.put, List.setIfInBounds_toArray, List.set_cons_zero, List.set_cons_succ, List.getElem_toArray, List.getElem_cons_succ, List.getElem_cons_zero]
      refine wpAnyH_take (i := 16) (v := ?_) rfl (by kernel_rfl) (by kernel_rfl) (by kernel_rfl) (fun _ _ _ h => h) (Or.inl ⟨by rfl, ?_⟩) hHeld ?_
      rotate_left
      · (intro w hSw; (try dsimp only at hSw); go_simp; try with_reducible rfl)
      try simp only [Act.put, List.setIfInBounds_toArray, List.set_cons_zero, List.set_cons_succ, List.getElem_toArray, List.getElem_cons_succ, List.getElem_cons_zero]
      refine wpAnyH_ready (rs := [1, 17]) (by kernel_rfl) (by decide) (AllReadyH.cons (o := _) rfl (fun K hK' => ?_) (AllReadyH.cons (o := _) rfl (fun K hK' => ?_) AllReadyH.nil))
      · skip
        obtain ⟨o1, o2, o3, -⟩ := (hKd.front 1 rfl).cells
        go_simp
        clear o1 o2 o3
        have KO1 := hKd
        have HG := Lib.hid (HB.out _ (KO1.sel [2, 4, 5] 99 (by decide) (by decide)))
        refine hK'.out _ _ HG.out (fun hHeld2 => ?_)
        clear hK' hHeld
        have hHeld := hHeld2
        clear hHeld2
        try simp only [Act.put, List.setIfInBounds_toArray]
        refine wpAnyH_ready (rs := [17]) (by kernel_rfl) (by decide) (AllReadyH.cons (o := _) rfl (fun K hK' => ?_) AllReadyH.nil)
        go_simp
        have KO2 := KO1.al [.int .i64 z] 2
        have HG := Lib.hid (HB.out _ (KO2.sel [3, 5, 6] 99 (by decide) (by decide)))
        refine hK'.out _ _ HG.out (fun hHeld2 => ?_)
        clear hK' hHeld
        have hHeld := hHeld2
        clear hHeld2
        try simp only [Act.put, List.setIfInBounds_toArray]
        generalize wd'.alloc (.cells #[.int .i64 z] 2) = wo2 at KO2 hHeld ⊢
        obtain ⟨gl2, hgl2⟩ : ∃ g, wd'.heap.size = g := ⟨_, rfl⟩
        rw [hgl2] at KO2 ⊢
        clear hgl2
        refine wpAnyH_ready (rs := [18]) (by kernel_rfl) (by decide) (AllReadyH.cons (o := _) rfl (fun K hK' => ?_) AllReadyH.nil)
        refine kn_stepI (by rfl) _ _ (by rfl) vv ts (by rfl) (by rfl) (KO2.sel [0, 1, 2, 3, 4, 5, 6] 99 (by decide) (by decide)) HL.out ?_
        intro v' wo3 hK7
        rw [← HS.out] at hK7
        obtain ⟨A3, c3, rfl⟩ := row_form hK7.at0
        have KO3 := hK7
        clear hK7
        have HG := Lib.hid (HB.out _ (KO3.sel [2, 4, 5] 99 (by decide) (by decide)))
        refine hK'.out _ _ HG.out (fun hHeld2 => ?_)
        clear hK' hHeld
        have hHeld := hHeld2
        clear hHeld2
        try simp only [Act.put, List.setIfInBounds_toArray]
        refine wpAnyH_take (i := 19) (v := ?_) rfl (by kernel_rfl) (by kernel_rfl) (by kernel_rfl) (fun _ _ _ h => h) (Or.inl ⟨by rfl, ?_⟩) hHeld ?_
        rotate_left
        · (intro w hSw; (try dsimp only at hSw); go_simp; try with_reducible rfl)
        try simp only [Act.put, List.setIfInBounds_toArray, List.set_cons_zero, List.set_cons_succ, List.getElem_toArray, List.getElem_cons_succ, List.getElem_cons_zero]
        refine wpAnyH_ready (rs := [20]) (by kernel_rfl) (by decide) (AllReadyH.cons (o := _) rfl (fun K hK' => ?_) AllReadyH.nil)
        obtain ⟨s1, s2, s3, -⟩ := (KO3.front 1 rfl).cells
        have KO4 := ((KO3.front 1 rfl).st 1 (.slice A3 (addD b xs ys (k + 1)).length c3))
        go_simp
        clear s1 s2 s3
        have HG := Lib.hid (HB.out _ (KO4.sel [2, 4, 5] 99 (by decide) (by decide)))
        refine hK'.out _ _ HG.out (fun hHeld2 => ?_)
        clear hK' hHeld
        have hHeld := hHeld2
        clear hHeld2
        try simp only [Act.put, List.setIfInBounds_toArray]
        refine wpAnyH_done (by kernel_rfl) ?_ _
        go_wp2_with fail
        go_roundw
        case rel => exact ⟨k + 1, _, by omega, by go_num, (KO4.sel [1, 0, 2, 3, 4, 5] 99 (by decide) (by decide))⟩
        case measure => simp [intOf] <;> omega
      · skip
        go_simp
        have KO5 := hKd.al [.int .i64 z] 2
        have HG := Lib.hid (HB.out _ (KO5.sel [3, 5, 6] 99 (by decide) (by decide)))
        refine hK'.out _ _ HG.out (fun hHeld2 => ?_)
        clear hK' hHeld
        have hHeld := hHeld2
        clear hHeld2
        try simp only [Act.put, List.setIfInBounds_toArray]
        generalize wd'.alloc (.cells #[.int .i64 z] 2) = wo5 at KO5 hHeld ⊢
        obtain ⟨gl5, hgl5⟩ : ∃ g, wd'.heap.size = g := ⟨_, rfl⟩
        rw [hgl5] at KO5 ⊢
        clear hgl5
        refine wpAnyH_ready (rs := [1]) (by kernel_rfl) (by decide) (AllReadyH.cons (o := _) rfl (fun K hK' => ?_) AllReadyH.nil)
        obtain ⟨o1, o2, o3, -⟩ := (KO5.front 2 rfl).cells
        go_simp
        clear o1 o2 o3
        have KO6 := KO5
        have HG := Lib.hid (HB.out _ (KO6.sel [3, 5, 6] 99 (by decide) (by decide)))
        refine hK'.out _ _ HG.out (fun hHeld2 => ?_)
        clear hK' hHeld
        have hHeld := hHeld2
        clear hHeld2
        try simp only [Act.put, List.setIfInBounds_toArray]
        refine wpAnyH_ready (rs := [18]) (by kernel_rfl) (by decide) (AllReadyH.cons (o := _) rfl (fun K hK' => ?_) AllReadyH.nil)
        refine kn_stepI (by rfl) _ _ (by rfl) vv ts (by rfl) (by rfl) (KO6.sel [0, 1, 2, 3, 4, 5, 6] 99 (by decide) (by decide)) HL.out ?_
        intro v' wo7 hK7
        rw [← HS.out] at hK7
        obtain ⟨A7, c7, rfl⟩ := row_form hK7.at0
        have KO7 := hK7
        clear hK7
        have HG := Lib.hid (HB.out _ (KO7.sel [2, 4, 5] 99 (by decide) (by decide)))
        refine hK'.out _ _ HG.out (fun hHeld2 => ?_)
        clear hK' hHeld
        have hHeld := hHeld2
        clear hHeld2
        try simp only [Act.put, List.setIfInBounds_toArray]
        refine wpAnyH_take (i := 19) (v := ?_) rfl (by kernel_rfl) (by kernel_rfl) (by kernel_rfl) (fun _ _ _ h => h) (Or.inl ⟨by rfl, ?_⟩) hHeld ?_
        rotate_left
        · (intro w hSw; (try dsimp only at hSw); go_simp; try with_reducible rfl)
        try simp only [Act.put, List.setIfInBounds_toArray, List.set_cons_zero, List.set_cons_succ, List.getElem_toArray, List.getElem_cons_succ, List.getElem_cons_zero]
        refine wpAnyH_ready (rs := [20]) (by kernel_rfl) (by decide) (AllReadyH.cons (o := _) rfl (fun K hK' => ?_) AllReadyH.nil)
        obtain ⟨s1, s2, s3, -⟩ := (KO7.front 1 rfl).cells
        have KO8 := ((KO7.front 1 rfl).st 1 (.slice A7 (addD b xs ys (k + 1)).length c7))
        go_simp
        clear s1 s2 s3
        have HG := Lib.hid (HB.out _ (KO8.sel [2, 4, 5] 99 (by decide) (by decide)))
        refine hK'.out _ _ HG.out (fun hHeld2 => ?_)
        clear hK' hHeld
        have hHeld := hHeld2
        clear hHeld2
        try simp only [Act.put, List.setIfInBounds_toArray]
        refine wpAnyH_done (by kernel_rfl) ?_ _
        go_wp2_with fail
        go_roundw
        case rel => exact ⟨k + 1, _, by omega, by go_num, (KO8.sel [1, 0, 2, 3, 4, 5] 99 (by decide) (by decide))⟩
        case measure => simp [intOf] <;> omega
    · have i1 : ¬ (k : Int) < (n : Int) := by omega
      obtain rfl : k = n := by omega
      obtain ⟨F, fc, rfl⟩ := row_form KR.at0
      rw [HAL.out] at KR
      have i2 : (k : Int) < (k : Int) + 1 := by omega
      have i0 : (0 : Int) ≤ (k : Int) := by omega
      have hCE : ((carL b xs ys (k + 1)).map (Value.int .i64))[k]? = some (.int .i64 (carK b xs ys k)) := by
        obtain ⟨h', e'⟩ := carL_get b xs ys (show k < k + 1 by omega)
        rw [List.getElem?_map, List.getElem?_eq_getElem h', e']
        rfl
      obtain ⟨cr, hcr⟩ : ∃ s, carK b xs ys k = s := ⟨_, rfl⟩
      obtain ⟨ds, hds⟩ : ∃ s, addD b xs ys k = s := ⟨_, rfl⟩
      rw [hcr] at hCE
      have HCR := Lib.hid hcr
      have HDS := Lib.hid hds
      simp only [hcr, hds] at KW HAL KR ⊢
      have KR2 := KR.sel [0, 1, 2, 3, 4, 5] 99 (by decide) (by decide)
      have K6 : Kn w [rowI F fc ds, .blk g8 [.int .i64 b, .slice F k fc] 26, .row (.slice (some ⟨E0, 0, none⟩) (k + 1) ec) 2 1 (k + 1) ((carL b xs ys (k + 1)).map (Value.int .i64)), .blk (g + 1 + 1) [.int .i64 0, .slice none 0 0] 26, .blk (g + 1) [.int .i64 b, .slice YA k yc] 26, .blk g [.int .i64 b, .slice XA k xc] 26] wr := by unfold rowI; rw [HAL.out]; exact KR2
      clear KR KR2 hcr hds
      have HB := Lib.hid (fun W (hK : Kn w [.blk g8 [.int .i64 b, .slice F k fc] 26, .row (.slice (some ⟨E0, 0, none⟩) (k + 1) ec) 2 1 (k + 1) ((carL b xs ys (k + 1)).map (Value.int .i64)), .blk g [.int .i64 b, .slice XA k xc] 26] W) => (show (W.cell? ⟨g8, 0, none⟩ = some (.int .i64 b) ∧ W.cell? ⟨g8, 1, none⟩ = some (.slice F k fc)) ∧ W.cell? ⟨E0, k, none⟩ = some (.int .i64 cr) ∧ W.cell? ⟨g, 0, none⟩ = some (.int .i64 b) ∧ W.cell? ⟨g, 1, none⟩ = some (.slice XA k xc) from ⟨box2 hK, (Kn.rowCell (hK.front 1 rfl) hCE).1, box2 (hK.front 2 rfl)⟩))
      go_upto_region 11 with fail
      have hKd := K6.drew
      have HG := Lib.hid (HB.out _ (hKd.sel [1, 2, 5] 99 (by decide) (by decide)))
      refine wp_region_held_drew (S := fun W => (W.cell? ⟨g8, 0, none⟩ = some (.int .i64 b) ∧ W.cell? ⟨g8, 1, none⟩ = some (.slice F k fc)) ∧ W.cell? ⟨E0, k, none⟩ = some (.int .i64 cr) ∧ W.cell? ⟨g, 0, none⟩ = some (.int .i64 b) ∧ W.cell? ⟨g, 1, none⟩ = some (.slice XA k xc)) (by kernel_rfl) ?_ (fun hHeld => ?_)
      · exact HG.out
      try dsimp only
      generalize wr.drew = wd' at hKd HG hHeld ⊢
      clear K6
      refine wpAnyH_take (i := 0) (v := ?_) rfl (by kernel_rfl) (by kernel_rfl) (by kernel_rfl) (fun _ _ _ h => h) (Or.inl ⟨by rfl, ?_⟩) hHeld ?_
      rotate_left
      · (intro w hSw; (try dsimp only at hSw); go_simp; try with_reducible rfl)
      try simp only [Act.put, List.setIfInBounds_toArray, List.set_cons_zero, List.set_cons_succ, List.getElem_toArray, List.getElem_cons_succ, List.getElem_cons_zero]
      refine wpAnyH_take (i := 1) (v := ?_) rfl (by kernel_rfl) (by kernel_rfl) (by kernel_rfl) (fun _ _ _ h => h) (Or.inl ⟨by rfl, ?_⟩) hHeld ?_
      rotate_left
      · (intro w hSw; (try dsimp only at hSw); go_simp; try with_reducible rfl)
      try simp only [Act.put, List.setIfInBounds_toArray, List.set_cons_zero, List.set_cons_succ, List.getElem_toArray, List.getElem_cons_succ, List.getElem_cons_zero]
      refine wpAnyH_take (i := 2) (v := ?_) rfl (by kernel_rfl) (by kernel_rfl) (by kernel_rfl) (fun _ _ _ h => h) (Or.inl ⟨by rfl, ?_⟩) hHeld ?_
      rotate_left
      · (intro w hSw; (try dsimp only at hSw); go_simp; try with_reducible rfl)
      try simp only [Act.put, List.setIfInBounds_toArray, List.set_cons_zero, List.set_cons_succ, List.getElem_toArray, List.getElem_cons_succ, List.getElem_cons_zero]
      refine wpAnyH_ready (rs := [3]) (by kernel_rfl) (by decide) (AllReadyH.cons (o := _) rfl (fun K hK' => ?_) AllReadyH.nil)
      go_simp
      go_at_call 49
      refine (width_any _ _ _ _ _).mono ?_
      rintro e wo9 ⟨rfl, hw⟩
      have KO9 := hKd.keep hw
      clear hw
      have HG := Lib.hid (HB.out _ (KO9.sel [1, 2, 5] 99 (by decide) (by decide)))
      refine hK'.out _ _ HG.out (fun hHeld2 => ?_)
      clear hK' hHeld
      have hHeld := hHeld2
      clear hHeld2
      try simp only [Act.put, List.setIfInBounds_toArray]
      refine wpAnyH_take (i := 4) (v := ?_) rfl (by kernel_rfl) (by kernel_rfl) (by kernel_rfl) (fun _ _ _ h => h) (Or.inl ⟨by rfl, ?_⟩) hHeld ?_
      rotate_left
      · (intro w hSw; (try dsimp only at hSw); go_simp; try with_reducible rfl)
      try simp only [Act.put, List.setIfInBounds_toArray, List.set_cons_zero, List.set_cons_succ, List.getElem_toArray, List.getElem_cons_succ, List.getElem_cons_zero]
      refine wpAnyH_take (i := 5) (v := ?_) rfl (by kernel_rfl) (by kernel_rfl) (by kernel_rfl) (fun _ _ _ h => h) (Or.inl ⟨by rfl, ?_⟩) hHeld ?_
      rotate_left
      · (intro w hSw; (try dsimp only at hSw); go_simp; try with_reducible rfl)
      try simp only [Act.put, List.setIfInBounds_toArray, List.set_cons_zero, List.set_cons_succ, List.getElem_toArray, List.getElem_cons_succ, List.getElem_cons_zero]
      refine wpAnyH_ready (rs := [6]) (by kernel_rfl) (by decide) (AllReadyH.cons (o := _) rfl (fun K hK' => ?_) AllReadyH.nil)
      go_simp
      go_at_call 43
      refine (KW.out F fc _ (by have h := (KO9.front 0 rfl).riv; rw [HAL.out] at h; exact h)).mono ?_
      rintro e wo10 ⟨rfl, hw⟩
      have KO10 := KO9.keep hw
      clear hw
      have HG := Lib.hid (HB.out _ (KO10.sel [1, 2, 5] 99 (by decide) (by decide)))
      refine hK'.out _ _ HG.out (fun hHeld2 => ?_)
      clear hK' hHeld
      have hHeld := hHeld2
      clear hHeld2
      try simp only [Act.put, List.setIfInBounds_toArray]
      refine wpAnyH_take (i := 7) (v := ?_) rfl (by kernel_rfl) (by kernel_rfl) (by kernel_rfl) (fun _ _ _ h => h) (Or.inl ⟨by rfl, ?_⟩) hHeld ?_
      rotate_left
      · (intro w hSw; (try dsimp only at hSw); go_simp; try with_reducible rfl)
      try simp only [Act.put, List.setIfInBounds_toArray, List.set_cons_zero, List.set_cons_succ, List.getElem_toArray, List.getElem_cons_succ, List.getElem_cons_zero]
      refine wpAnyH_take (i := 8) (v := ?_) rfl (by kernel_rfl) (by kernel_rfl) (by kernel_rfl) (fun _ _ _ h => h) (Or.inl ⟨by rfl, ?_⟩) hHeld ?_
      rotate_left
      · (intro w hSw; (try dsimp only at hSw); go_simp; try with_reducible rfl)
      try simp only [Act.put, List.setIfInBounds_toArray, List.set_cons_zero, List.set_cons_succ, List.getElem_toArray, List.getElem_cons_succ, List.getElem_cons_zero]
      refine wpAnyH_take (i := 9) (v := ?_) rfl (by kernel_rfl) (by kernel_rfl) (by kernel_rfl) (fun _ _ _ h => h) (Or.inl ⟨by rfl, ?_⟩) hHeld ?_
      rotate_left
      · (intro w hSw; (try dsimp only at hSw); go_simp; try with_reducible rfl)
      try simp only [Act.put, List.setIfInBounds_toArray, List.set_cons_zero, List.set_cons_succ, List.getElem_toArray, List.getElem_cons_succ, List.getElem_cons_zero]
      refine wpAnyH_ready (rs := [10]) (by kernel_rfl) (by decide) (AllReadyH.cons (o := _) rfl (fun K hK' => ?_) AllReadyH.nil)
      obtain ⟨s1, s2, s3, -⟩ := (KO10.front 3 rfl).cells
      have KO11 := (((KO10.front 3 rfl).st 0 (.int .i64 b)).st 1 (.slice F k fc))
      go_simp
      clear s1 s2 s3
      have HG := Lib.hid (HB.out _ (KO11.sel [2, 3, 5] 99 (by decide) (by decide)))
      refine hK'.out _ _ HG.out (fun hHeld2 => ?_)
      clear hK' hHeld
      have hHeld := hHeld2
      clear hHeld2
      try simp only [Act.put, List.setIfInBounds_toArray]
      refine wpAnyH_take (i := 11) (v := ?_) rfl (by kernel_rfl) (by kernel_rfl) (by kernel_rfl) (fun _ _ _ h => h) (Or.inl ⟨by rfl, ?_⟩) hHeld ?_
      rotate_left
      · (intro w hSw; (try dsimp only at hSw); go_simp; try with_reducible rfl)
      try simp only [Act.put, List.setIfInBounds_toArray, List.set_cons_zero, List.set_cons_succ, List.getElem_toArray, List.getElem_cons_succ, List.getElem_cons_zero]
      refine wpAnyH_take (i := 12) (v := ?_) rfl (by kernel_rfl) (by kernel_rfl) (by kernel_rfl) (fun _ _ _ h => h) (Or.inl ⟨by rfl, ?_⟩) hHeld ?_
      rotate_left
      · (intro w hSw; (try dsimp only at hSw); go_simp; try with_reducible rfl)
      try simp only [Act.put, List.setIfInBounds_toArray, List.set_cons_zero, List.set_cons_succ, List.getElem_toArray, List.getElem_cons_succ, List.getElem_cons_zero]
      refine wpAnyH_done (by kernel_rfl) ?_ _
      go_wp2_with fail
      refine bodyPost.kn KO11 ?_; clear KO11; intro w9 K9
      obtain ⟨a1, a2, a3, -⟩ := K9.cells
      refine bodyPost_ret (v := .tuple #[.agg #[.int .i64 b, .slice F k fc], .int .i64 cr, .int .i64 0]) (by simp [results, Try.results10, go_sem, a1]) rfl ⟨F, fc, by rw [HCR.out], ?_⟩
      rw [HDS.out]
      have h := K9.sel [1] 99 (by decide) (by decide)
      unfold rowI at h
      rw [HAL.out] at h
      exact h
end Go.Proofs.Ytmmiahgmdllgdaa

namespace Go.Proofs.Ytmmiahgmdllgdaa
open Go.RowKit Go.Sort
theorem getD_set (xs : List Int) (i j : Nat) (v : Int) (hi : i < xs.length) : (xs.set i v).getD j 0 = if i = j then v else xs.getD j 0 := by
  rw [List.getD_eq_getElem?_getD, List.getD_eq_getElem?_getD, List.getElem?_set]
  by_cases h : i = j
  · rw [if_pos h, if_pos (by omega), if_pos h]; rfl
  · rw [if_neg h, if_neg h]
theorem getD_zeros (n j : Nat) : (List.replicate n (0 : Int)).getD j 0 = 0 := by
  by_cases h : j < n
  · simp [List.getD, h]
  · rw [List.getD_eq_getElem?_getD, List.getElem?_eq_none (by rw [List.length_replicate]; omega)]; rfl
/-- the registers of a witness -/
def wA (b : Int) (n l : Nat) (kd : Int) : List Int := if kd = 1 then (List.replicate n 0).set l (b - 1) else if kd = 3 ∧ 0 < l then ((List.replicate n 0).set (l - 1) (b - 1)).set l (b - 1) else List.replicate n 0
def wB (n l : Nat) (kd : Int) : List Int := if kd = 1 then (List.replicate n 0).set l 1 else if kd = 3 ∧ 0 < l then (List.replicate n 0).set (l - 1) 1 else List.replicate n 0
def WitR (b : Int) (n l : Nat) (kd : Int) (w : World) (e : Ending) (w' : World) : Prop :=
  if kd = 3 ∧ l = 0 then e = .returned (.tuple #[.agg #[.int .i64 0, .slice none 0 0], .agg #[.int .i64 0, .slice none 0 0], .int .i64 3]) ∧ Below w.heap.size w w'
  else ∃ A c B d, e = .returned (.tuple #[.agg #[.int .i64 b, .slice A n c], .agg #[.int .i64 b, .slice B n d], .int .i64 0]) ∧ Kn w [rowI A c (wA b n l kd), rowI B d (wB n l kd)] w'
theorem wA_len (b : Int) (n l : Nat) (kd : Int) : (wA b n l kd).length = n := by unfold wA; (split <;> try split) <;> simp
theorem wB_len (n l : Nat) (kd : Int) : (wB n l kd).length = n := by unfold wB; (split <;> try split) <;> simp
theorem mem_set {xs : List Int} {i : Nat} {v : Int} {p : Int → Prop} (h : ∀ d ∈ xs, p d) (hv : p v) : ∀ d ∈ xs.set i v, p d := fun d hd => by
  rcases List.mem_or_eq_of_mem_set hd with h1 | h1
  · exact h d h1
  · rw [h1]; exact hv
theorem wA_digs {b : Int} (hb : 2 ≤ b) (n l : Nat) (kd : Int) : Digs b (wA b n l kd) := by
  have hz : ∀ d ∈ List.replicate n (0 : Int), 0 ≤ d ∧ d < b := fun d hd => by rw [(List.mem_replicate.1 hd).2]; omega
  have hv : 0 ≤ b - 1 ∧ b - 1 < b := by omega
  intro d hd
  unfold wA at hd
  split at hd
  · exact mem_set (p := fun d => 0 ≤ d ∧ d < b) hz hv d hd
  · split at hd
    · exact mem_set (p := fun d => 0 ≤ d ∧ d < b) (mem_set (p := fun d => 0 ≤ d ∧ d < b) hz hv) hv d hd
    · exact hz d hd
theorem wB_digs {b : Int} (hb : 2 ≤ b) (n l : Nat) (kd : Int) : Digs b (wB n l kd) := by
  have hz : ∀ d ∈ List.replicate n (0 : Int), 0 ≤ d ∧ d < b := fun d hd => by rw [(List.mem_replicate.1 hd).2]; omega
  have hv : 0 ≤ (1 : Int) ∧ 1 < b := by omega
  intro d hd
  unfold wB at hd
  split at hd
  · exact mem_set (p := fun d => 0 ≤ d ∧ d < b) hz hv d hd
  · split at hd
    · exact mem_set (p := fun d => 0 ≤ d ∧ d < b) hz hv d hd
    · exact hz d hd
theorem kindAt_one' (f : Flt) (j : Int) : kindAt [f] j = if f.lever = j then f.kind else 0 := rfl
theorem kindAt_nil' (j : Int) : kindAt [] j = 0 := rfl
theorem carryAt_step (b : Int) (A B : List Int) (fs : List Flt) (k : Nat) : carryAt b A B fs (k + 1) = cstep b (A.getD k 0 + B.getD k 0) (carryAt b A B fs k) (kindAt fs (k : Int)) := rfl
theorem carryAt_same (b : Int) (A B : List Int) (kd : Int) (l : Nat) : ∀ k, k ≤ l → carryAt b A B [⟨kd, (l : Int)⟩] k = carryAt b A B [] k
  | 0, _ => rfl
  | k + 1, h => by
    rw [carryAt_step, carryAt_step, carryAt_same b A B kd l k (by omega), kindAt_one', kindAt_nil', if_neg (by show ¬ (l : Int) = (k : Int); omega)]
theorem carryAt_zero (b : Int) (hb : 2 ≤ b) (n : Nat) : ∀ k, carryAt b (List.replicate n 0) (List.replicate n 0) [] k = 0
  | 0 => rfl
  | k + 1 => by
    rw [carryAt_step, carryAt_zero b hb n k, getD_zeros, kindAt_nil']
    unfold cstep
    simp only [reduceIte, Int.reduceEq]
    rw [if_pos (by omega)]
theorem wit_carry (b : Int) (n l : Nat) (kd : Int) (hb : 2 ≤ b) (hl : l < n) (h1 : 1 ≤ kd) (h3 : kd ≤ 3) (hs : kd ≠ 3 ∨ 0 < l) :
    carryAt b (wA b n l kd) (wB n l kd) [⟨kd, (l : Int)⟩] (l + 1) ≠ carryAt b (wA b n l kd) (wB n l kd) [] (l + 1) := by
  have hc := carryAt_bd b (wA b n l kd) (wB n l kd) [] l
  rw [carryAt_step, carryAt_step, carryAt_same _ _ _ _ _ _ (Nat.le_refl l), kindAt_one', kindAt_nil', if_pos rfl]
  have hlen : (List.replicate n (0 : Int)).length = n := List.length_replicate
  rcases (show kd = 1 ∨ kd = 2 ∨ kd = 3 by omega) with rfl | rfl | rfl
  · have e1 : (wA b n l 1).getD l 0 = b - 1 := by unfold wA; rw [if_pos rfl, getD_set _ _ _ _ (by omega), if_pos rfl]
    have e2 : (wB n l 1).getD l 0 = 1 := by unfold wB; rw [if_pos rfl, getD_set _ _ _ _ (by omega), if_pos rfl]
    rw [e1, e2]
    unfold cstep
    simp only [reduceIte, Int.reduceEq]
    rw [if_neg (by omega)]
    decide
  · have e1 : wA b n l 2 = List.replicate n 0 := by unfold wA; rw [if_neg (by decide), if_neg (fun h => absurd h.1 (by decide))]
    have e2 : wB n l 2 = List.replicate n 0 := by unfold wB; rw [if_neg (by decide), if_neg (fun h => absurd h.1 (by decide))]
    rw [e1, e2, carryAt_zero b hb, getD_zeros]
    unfold cstep
    simp only [reduceIte, Int.reduceEq]
    rw [if_pos (by omega)]
    decide
  · have hl0 : 0 < l := by omega
    obtain ⟨m, rfl⟩ : ∃ m, l = m + 1 := ⟨l - 1, by omega⟩
    have e1 : (wA b n (m + 1) 3).getD (m + 1) 0 = b - 1 := by unfold wA; rw [if_neg (by decide), if_pos ⟨rfl, hl0⟩, getD_set _ _ _ _ (by rw [List.length_set]; omega), if_pos rfl]
    have e2 : (wB n (m + 1) 3).getD (m + 1) 0 = 0 := by unfold wB; rw [if_neg (by decide), if_pos ⟨rfl, hl0⟩, getD_set _ _ _ _ (by omega), if_neg (by omega), getD_zeros]
    have e3 : (wA b n (m + 1) 3).getD m 0 = b - 1 := by unfold wA; rw [if_neg (by decide), if_pos ⟨rfl, hl0⟩, getD_set _ _ _ _ (by rw [List.length_set]; omega), if_neg (by omega), getD_set _ _ _ _ (by omega), if_pos (by omega)]
    have e4 : (wB n (m + 1) 3).getD m 0 = 1 := by unfold wB; rw [if_neg (by decide), if_pos ⟨rfl, hl0⟩, getD_set _ _ _ _ (by omega), if_pos (by omega)]
    have hc2 := carryAt_bd b (wA b n (m + 1) 3) (wB n (m + 1) 3) [] m
    have h5 : carryAt b (wA b n (m + 1) 3) (wB n (m + 1) 3) [] (m + 1) = 1 := by
      rw [carryAt_step, e3, e4, kindAt_nil']
      unfold cstep
      simp only [reduceIte, Int.reduceEq]
      rw [if_neg (by omega)]
    rw [h5, e1, e2]
    unfold cstep
    simp only [reduceIte, Int.reduceEq]
    rw [if_pos (by omega), if_neg (by omega)]
    decide
theorem wit_after (b : Int) (n l : Nat) (kd : Int) (hl : l < n) : (wA b n l kd).getD (l + 1) 0 = 0 ∧ (wB n l kd).getD (l + 1) 0 = 0 := by
  have hlen : (List.replicate n (0 : Int)).length = n := List.length_replicate
  unfold wA wB
  split
  · rw [getD_set _ _ _ _ (by omega), if_neg (by omega), getD_zeros, getD_set _ _ _ _ (by omega), if_neg (by omega), getD_zeros]; exact ⟨rfl, rfl⟩
  · split
    · rw [getD_set _ _ _ _ (by rw [List.length_set]; omega), if_neg (by omega), getD_set _ _ _ _ (by omega), if_neg (by omega), getD_zeros, getD_set _ _ _ _ (by omega), if_neg (by omega), getD_zeros]; exact ⟨rfl, rfl⟩
    · rw [getD_zeros]; exact ⟨rfl, rfl⟩
theorem wit_shows (b : Int) (n l : Nat) (kd : Int) (hb : 2 ≤ b) (hl : l < n) (h1 : 1 ≤ kd) (h3 : kd ≤ 3) (hs : kd ≠ 3 ∨ 0 < l) :
    showsB (sumL b (wA b n l kd) (wB n l kd) [⟨kd, (l : Int)⟩] n) (addD b (wA b n l kd) (wB n l kd) n) (carryAt b (wA b n l kd) (wB n l kd) [⟨kd, (l : Int)⟩] n) (carK b (wA b n l kd) (wB n l kd) n) = true := by
  have hc := wit_carry b n l kd hb hl h1 h3 hs
  obtain ⟨a1, a2⟩ := wit_after b n l kd hl
  rw [← sumL_none hb (wA_digs hb n l kd) (wB_digs hb n l kd), ← carryAt_none hb (wA_digs hb n l kd) (wB_digs hb n l kd)]
  obtain ⟨A, hA⟩ : ∃ A, wA b n l kd = A := ⟨_, rfl⟩
  obtain ⟨B, hB⟩ : ∃ A, wB n l kd = A := ⟨_, rfl⟩
  rw [hA, hB] at hc
  rw [hA] at a1
  rw [hB] at a2
  rw [hA, hB]
  unfold showsB
  by_cases e : l + 1 = n
  · subst e
    rw [decide_eq_false hc]
    simp
  · have hss : sumL b A B [⟨kd, (l : Int)⟩] n ≠ sumL b A B [] n := fun h => by
      have h2 : (sumL b A B [⟨kd, (l : Int)⟩] n)[l + 1]? = (sumL b A B [] n)[l + 1]? := by rw [h]
      simp only [sumL, List.getElem?_map, List.getElem?_range (show l + 1 < n by omega), Option.map_some, Option.some.injEq, sumD] at h2
      rw [a1, a2] at h2
      have c1 := carryAt_bd b A B [⟨kd, (l : Int)⟩] (l + 1)
      have c2 := carryAt_bd b A B [] (l + 1)
      rw [Int.tmod_eq_emod_of_nonneg (by omega), Int.tmod_eq_emod_of_nonneg (by omega), Int.emod_eq_of_lt (by omega) (by omega), Int.emod_eq_of_lt (by omega) (by omega)] at h2
      omega
    rw [decide_eq_false hss]
    simp
theorem Kn.rlOne {w0 w : World} {m : List Ent} {g c : Nat} {kd l : Int} (h : Kn w0 (.row (.slice (some ⟨g, 0, none⟩) 1 c) 41 2 1 [.int .i64 kd, .int .i64 l] :: m) w) : RL FltM 2 w (some ⟨g, 0, none⟩) 1 [⟨kd, l⟩] := by
  have h0 : w.ownsRow 0 41 2 (.slice (some ⟨g, 0, none⟩) 1 c) 1 [.int .i64 kd, .int .i64 l] := h.at0
  have c1 := (Kn.rowCell h (show [Value.int .i64 kd, .int .i64 l][0]? = some (.int .i64 kd) from rfl)).1
  have c2 := (Kn.rowCell h (show [Value.int .i64 kd, .int .i64 l][1]? = some (.int .i64 l) from rfl)).1
  refine ⟨rfl, fun _ => ⟨_, rfl, (h0.lt g rfl).2, fun k hk => ?_⟩⟩
  simp only [List.length_cons, List.length_nil] at hk
  obtain rfl : k = 0 := by omega
  exact ⟨c1, c2⟩
set_option maxRecDepth 100000 in
set_option maxHeartbeats 6400000 in
theorem WitnessOf_ok (b : Int) (n l : Nat) (kd : Int) (w : World) (b1 : 2 ≤ b) (b2 : b ≤ 16) (n1 : 1 ≤ n) (n2 : n ≤ 16) (hp : pw b n ≤ 1000000000001) (hl : l < n) (h1 : 1 ≤ kd) (h3 : kd ≤ 3) :
    Calls Try.prog 15 #[.int .i64 b, .int .i64 (n : Int), .agg #[.int .i64 kd, .int .i64 (l : Int)]] w (WitR b n l kd w) := by
  have hbb : betB b 2 16 = true := betB_iff.2 ⟨b1, b2⟩
  have hbn : betB (n : Int) 1 16 = true := betB_iff.2 (by omega)
  have KF := Lib.hid (fun W => isFault_any n ⟨kd, (l : Int)⟩ W n2 h1 h3 (by show (0 : Int) ≤ (l : Int); omega) (by show (l : Int) < (n : Int); omega))
  have KR := (fun W => registerOf_any b n 0 W b1 b2 (by omega) (by omega) (by omega))
  simp only [digD_zero] at KR
  obtain ⟨zs, hz⟩ : ∃ z, List.replicate n (0 : Int) = z := ⟨_, rfl⟩
  have hzl : zs.length = n := by rw [← hz]; simp
  simp only [hz, hzl] at KR
  replace KR := Lib.hid KR
  have HXA := Lib.hid (show wA b n l kd = if kd = 1 then zs.set l (b - 1) else if kd = 3 ∧ 0 < l then (zs.set (l - 1) (b - 1)).set l (b - 1) else zs by rw [← hz]; rfl)
  have HYA := Lib.hid (show wB n l kd = if kd = 1 then zs.set l 1 else if kd = 3 ∧ 0 < l then zs.set (l - 1) 1 else zs by rw [← hz]; rfl)
  have hxl := wA_len b n l kd
  have hyl := wB_len n l kd
  have hdx := wA_digs b1 n l kd
  have hdy := wB_digs b1 n l kd
  unfold WitR
  obtain ⟨xs, hxs⟩ : ∃ x, wA b n l kd = x := ⟨_, rfl⟩
  obtain ⟨ys, hys⟩ : ∃ x, wB n l kd = x := ⟨_, rfl⟩
  rw [hxs] at HXA hxl hdx
  rw [hys] at HYA hyl hdy
  have hvx : vreg b xs = true := vreg_short b1 b2 hdx (by omega) (by omega) (by rw [hxl]; exact hp)
  have hvy : vreg b ys = true := vreg_short b1 b2 hdy (by omega) (by omega) (by rw [hyl]; exact hp)
  have hvs := sumL_vreg (fs := [⟨kd, (l : Int)⟩]) (ys := ys) b1 b2 hdx hdy (by omega) (by omega) (by rw [hxl]; exact hp)
  have hva := add_vreg b1 b2 ys (xs := xs) (by omega) (by omega) (by rw [hxl]; exact hp)
  have KA := (fun (A B : Option Addr) c d (F : Option Addr) fc W (hA : RI W A n xs) (hB : RI W B n ys) (hr : RL FltM 2 W F 1 [⟨kd, (l : Int)⟩]) => addedWith_any ⟨b, xs⟩ ⟨b, ys⟩ A B c d F 1 fc [⟨kd, (l : Int)⟩] W (by rw [hxl]; exact hA) (by rw [hyl]; exact hB) hr (by show xs.length = ys.length; omega) (by show xs.length ≤ 16; omega) b1 b2 hdx hdy
    (fun f hf => by rw [List.mem_singleton.1 hf]; exact ⟨h1, h3, (by show (0 : Int) ≤ (l : Int); omega), (by show (l : Int) < (xs.length : Int); omega)⟩) (by decide))
  have KD := (fun (A B : Option Addr) c d W (hA : RI W A n xs) (hB : RI W B n ys) => added_any b A c xs B d ys W (by rw [hxl]; exact hA) (by rw [hyl]; exact hB) b1 b2 hdx hdy (by omega) (by omega))
  unfold ADRet at KD
  dsimp only at KA
  rw [hxl] at hvs hva
  simp only [hxl, hyl] at KA KD
  obtain ⟨ss, hss⟩ : ∃ s, sumL b xs ys [⟨kd, (l : Int)⟩] n = s := ⟨_, rfl⟩
  obtain ⟨ts, hts⟩ : ∃ s, addD b xs ys n = s := ⟨_, rfl⟩
  obtain ⟨cs, hcs⟩ : ∃ s, carL b xs ys (n + 1) = s := ⟨_, rfl⟩
  obtain ⟨cr, hcr⟩ : ∃ s, carryAt b xs ys [⟨kd, (l : Int)⟩] n = s := ⟨_, rfl⟩
  have hsl : ss.length = n := by rw [← hss, sumL_len]
  have htl : ts.length = n := by rw [← hts, addD_len]
  rw [hss] at hvs
  rw [hts] at hva
  simp only [hss, hcr] at KA
  simp only [hts, hcs] at KD
  have KV := (fun (A : Option Addr) c (ds : List Int) W (hv : vreg b ds = true) (hA : RI W A n ds) => by
    have h := ValidRegister_any b A n c ds W hA (by omega)
    rw [hv] at h
    exact h)
  have KVX := Lib.hid (fun A c W => KV A c xs W hvx)
  have KVY := Lib.hid (fun A c W => KV A c ys W hvy)
  have KVS := Lib.hid (fun A c W => KV A c ss W hvs)
  have KVT := Lib.hid (fun A c W => KV A c ts W hva)
  have HXL := Lib.hid hxl
  have HYL := Lib.hid hyl
  have HZL := Lib.hid hzl
  have HSL := Lib.hid hsl
  have HTL := Lib.hid htl
  have HXS := Lib.hid hxs
  have HYS := Lib.hid hys
  dsimp only at KF
  replace KA := Lib.hid KA
  replace KD := Lib.hid KD
  clear KV hxl hyl hzl hsl htl hxs hys hz hss hts hcs hcr hdx hdy hvx hvy hvs hva hp
  obtain ⟨g, hg⟩ : ∃ g, w.heap.size = g := ⟨_, rfl⟩
  have K0 := (((Kn.nil w).al [.int .i64 kd, .int .i64 (l : Int)] 41).al [.int .i64 0, .slice none 0 0] 26).al [.int .i64 0, .slice none 0 0] 26
  simp only [World.size_alloc, hg] at K0
  have HKD := Lib.hid (And.intro h1 h3)
  clear h1 h3
  go_enter Try.func15, Try.ntmps15
  go_upto_region 1 with fail
  try rw [hg]
  refine Code.wp.kn K0 ?_; clear K0 hg; intro w1 K1
  obtain ⟨-, -, -, -, -, -, f1, f2, f3, -⟩ := K1.cells
  go_upto_region 3 with (first
    | (go_at_call 50; refine (isBase_any _ _).mono ?_; rintro e w' ⟨rfl, rfl⟩; try rw [hbb])
    | (go_at_call 55; refine (isRegisterWidth_any _ _).mono ?_; rintro e w' ⟨rfl, rfl⟩; try rw [hbn])
    | (go_at_call 56; refine (KF.out _).mono ?_; rintro e w2 ⟨rfl, hw⟩; have K2 := K1.keep hw; clear hw K1 f1 f2 f3))
  go_upto_region 4 with (go_at_call 57; refine (KR.out _).mono ?_; rintro e w3 ⟨A, ac, rfl, hK⟩; have K3 := (K2.join hK).al [.int .i64 b, .slice A n ac] 26; clear hK K2)
  obtain ⟨g9, hg⟩ : ∃ g, w3.heap.size = g := ⟨_, rfl⟩
  rw [hg] at K3
  try rw [hg]
  refine Code.wp.kn K3 ?_; clear K3 hg; intro w4 K4
  go_upto_block 0 with (go_at_call 57; refine (KR.out _).mono ?_; rintro e w5 ⟨B, bc, rfl, hK⟩; have K5 := (K4.join hK).al [.int .i64 b, .slice B n bc] 26; clear hK K4)
  obtain ⟨g11, hg⟩ : ∃ g, w5.heap.size = g := ⟨_, rfl⟩
  rw [hg] at K5
  try rw [hg]
  refine Code.wp.kn K5 ?_; clear K5 hg; intro w6 K6
  obtain ⟨ga, hga⟩ : ∃ ga, A = some ⟨ga, 0, none⟩ := by
    have h := (K6.front 3 rfl)
    unfold rowI at h
    obtain ⟨ga, c, hv⟩ := h.rowForm (by rw [HZL.out]; omega)
    injection hv with hv
    exact ⟨ga, hv⟩
  obtain ⟨gb, hgb⟩ : ∃ ga, B = some ⟨ga, 0, none⟩ := by
    have h := (K6.front 1 rfl)
    unfold rowI at h
    obtain ⟨ga, c, hv⟩ := h.rowForm (by rw [HZL.out]; omega)
    injection hv with hv
    exact ⟨ga, hv⟩
  subst hga hgb
  go_cut [] (fun wx => Kn w [.blk g11 [.int .i64 b, .slice (some ⟨gb, 0, none⟩) n bc] 26, rowI (some ⟨gb, 0, none⟩) bc ys, .blk g9 [.int .i64 b, .slice (some ⟨ga, 0, none⟩) n ac] 26, rowI (some ⟨ga, 0, none⟩) ac xs, .blk (g + 1 + 1) [.int .i64 0, .slice none 0 0] 26, .blk (g + 1) [.int .i64 0, .slice none 0 0] 26, .blk g [.int .i64 kd, .int .i64 (l : Int)] 41] wx)
  case first =>
    have j0 : (0 : Int) ≤ (l : Int) := by omega
    have j1 : (l : Int) < (n : Int) := by omega
    have v1 : IntKind.i64.wrap (b - 1) = b - 1 := wrapI64 (by omega)
    have hk3 := HKD.out
    by_cases e1 : kd = 1
    · subst e1
      have HXA2 := Lib.hid (HXA.out.trans (if_pos rfl))
      have HYA2 := Lib.hid (HYA.out.trans (if_pos rfl))
      obtain ⟨z, hj⟩ : ∃ z : Value, (zs.map (Value.int .i64))[l]? = some z := ⟨_, by rw [List.getElem?_map, List.getElem?_eq_getElem (show l < zs.length by (try rw [List.length_set]); rw [HZL.out]; omega)]; rfl⟩
      obtain ⟨x2, x3⟩ := Kn.rowCell (K6.front 3 rfl) hj
      obtain ⟨o1, o2, o3, -⟩ := (K6.front 0 rfl).cells
      obtain ⟨p1, p2, p3, -⟩ := (K6.front 2 rfl).cells
      obtain ⟨f1, f2, f3, -⟩ := (K6.front 6 rfl).cells
      clear hj
      go_upto_region 7 with fail
      refine Code.wp.kn (Kn.setI (K6.front 3 rfl) l (b - 1)) ?_; clear K6 x2 x3 o1 o2 o3 p1 p2 p3 f1 f2 f3; intro w8 K7
      have K8 := K7.sel [1, 2, 3, 0, 4, 5, 6] 99 (by decide) (by decide)
      clear K7
      obtain ⟨z, hj⟩ : ∃ z : Value, (zs.map (Value.int .i64))[l]? = some z := ⟨_, by rw [List.getElem?_map, List.getElem?_eq_getElem (show l < zs.length by rw [HZL.out]; omega)]; rfl⟩
      obtain ⟨x2, x3⟩ := Kn.rowCell (K8.front 1 rfl) hj
      obtain ⟨o1, o2, o3, -⟩ := (K8.front 0 rfl).cells
      obtain ⟨p1, p2, p3, -⟩ := (K8.front 2 rfl).cells
      obtain ⟨f1, f2, f3, -⟩ := (K8.front 6 rfl).cells
      clear hj
      go_wp2_with fail
      go_meet
      rw [HXA2.out, HYA2.out]
      exact (Kn.setI (K8.front 1 rfl) l 1).sel [1, 0, 2, 3, 4, 5, 6] 99 (by decide) (by decide)
    · by_cases e3 : kd = 3
      · subst e3
        by_cases l0 : l = 0
        · subst l0
          have HXA2 := Lib.hid (HXA.out.trans ((if_neg (by decide)).trans (if_neg (fun h => Nat.lt_irrefl _ h.2))))
          have HYA2 := Lib.hid (HYA.out.trans ((if_neg (by decide)).trans (if_neg (fun h => Nat.lt_irrefl _ h.2))))
          obtain ⟨f1, f2, f3, -⟩ := (K6.front 6 rfl).cells
          go_wp2_with fail
          go_meet
          rw [HXA2.out, HYA2.out]
          exact K6
        · obtain ⟨m, rfl⟩ : ∃ m, l = m + 1 := ⟨l - 1, by omega⟩
          have HXA2 := Lib.hid (HXA.out.trans ((if_neg (by decide)).trans (if_pos ⟨rfl, by omega⟩)))
          have HYA2 := Lib.hid (HYA.out.trans ((if_neg (by decide)).trans (if_pos ⟨rfl, by omega⟩)))
          have j2 : (m : Int) < (n : Int) := by omega
          have j3 : (0 : Int) ≤ (m : Int) := by omega
          have j4 : (0 : Int) < (m : Int) + 1 := by omega
          have v2 : IntKind.i64.wrap ((m : Int) + 1 - 1) = (m : Int) := by rw [Int.add_sub_cancel]; exact wrapI64 (by omega)
          have v3 : IntKind.i64.wrap (m : Int) = (m : Int) := wrapI64 (by omega)
          obtain ⟨z, hj⟩ : ∃ z : Value, (zs.map (Value.int .i64))[m]? = some z := ⟨_, by rw [List.getElem?_map, List.getElem?_eq_getElem (show m < zs.length by (try rw [List.length_set]); rw [HZL.out]; omega)]; rfl⟩
          obtain ⟨x2, x3⟩ := Kn.rowCell (K6.front 3 rfl) hj
          obtain ⟨o1, o2, o3, -⟩ := (K6.front 0 rfl).cells
          obtain ⟨p1, p2, p3, -⟩ := (K6.front 2 rfl).cells
          obtain ⟨f1, f2, f3, -⟩ := (K6.front 6 rfl).cells
          clear hj
          go_upto_region 10 with fail
          refine Code.wp.kn (Kn.setI (K6.front 3 rfl) m (b - 1)) ?_; clear K6 x2 x3 o1 o2 o3 p1 p2 p3 f1 f2 f3; intro w8 K7
          have K8 := K7.sel [1, 2, 3, 0, 4, 5, 6] 99 (by decide) (by decide)
          clear K7
          obtain ⟨z, hj⟩ : ∃ z : Value, (zs.map (Value.int .i64))[m]? = some z := ⟨_, by rw [List.getElem?_map, List.getElem?_eq_getElem (show m < zs.length by (try rw [List.length_set]); rw [HZL.out]; omega)]; rfl⟩
          obtain ⟨x2, x3⟩ := Kn.rowCell (K8.front 1 rfl) hj
          obtain ⟨o1, o2, o3, -⟩ := (K8.front 0 rfl).cells
          obtain ⟨p1, p2, p3, -⟩ := (K8.front 2 rfl).cells
          obtain ⟨f1, f2, f3, -⟩ := (K8.front 6 rfl).cells
          clear hj
          go_upto_region 11 with fail
          refine Code.wp.kn (Kn.setI (K8.front 1 rfl) m 1) ?_; clear K8 x2 x3 o1 o2 o3 p1 p2 p3 f1 f2 f3; intro w8 K9
          have K10 := K9.sel [1, 0, 2, 3, 4, 5, 6] 99 (by decide) (by decide)
          clear K9
          obtain ⟨z, hj⟩ : ∃ z : Value, ((zs.set m (b - 1)).map (Value.int .i64))[m + 1]? = some z := ⟨_, by rw [List.getElem?_map, List.getElem?_eq_getElem (show m + 1 < (zs.set m (b - 1)).length by rw [List.length_set, HZL.out]; omega)]; rfl⟩
          obtain ⟨x2, x3⟩ := Kn.rowCell (K10.front 3 rfl) hj
          obtain ⟨o1, o2, o3, -⟩ := (K10.front 0 rfl).cells
          obtain ⟨p1, p2, p3, -⟩ := (K10.front 2 rfl).cells
          obtain ⟨f1, f2, f3, -⟩ := (K10.front 6 rfl).cells
          clear hj
          go_wp2_with fail
          go_meet
          rw [HXA2.out, HYA2.out]
          exact (Kn.setI (K10.front 3 rfl) (m + 1) (b - 1)).sel [1, 2, 3, 0, 4, 5, 6] 99 (by decide) (by decide)
      · obtain rfl : kd = 2 := by omega
        have HXA2 := Lib.hid (HXA.out.trans ((if_neg (by decide)).trans (if_neg (fun h => absurd h.1 (by decide)))))
        have HYA2 := Lib.hid (HYA.out.trans ((if_neg (by decide)).trans (if_neg (fun h => absurd h.1 (by decide)))))
        obtain ⟨f1, f2, f3, -⟩ := (K6.front 6 rfl).cells
        go_wp2_with fail
        go_meet
        rw [HXA2.out, HYA2.out]
        exact K6
  case rest =>
    clear K6 HZL HXA HYA KR
    have K6 := hcut
    clear hcut
    obtain ⟨o1, o2, o3, -⟩ := (K6.front 0 rfl).cells
    obtain ⟨p1, p2, p3, -⟩ := (K6.front 2 rfl).cells
    obtain ⟨f1, f2, f3, -⟩ := (K6.front 6 rfl).cells
    have K7 := (K6.al [.int .i64 kd, .int .i64 (l : Int)] 41).litRow (size := 2) (n := 1) rfl (by decide)
    obtain ⟨g7, hg⟩ : ∃ g, wc.heap.size = g := ⟨_, rfl⟩
    rw [hg] at K7
    go_upto_region 13 with (go_at_call 58; refine Calls.kn K7 ?_; clear K6 K7 hg o1 o2 o3 p1 p2 p3 f1 f2 f3; intro w7 K7; refine (KA.out (some ⟨ga, 0, none⟩) (some ⟨gb, 0, none⟩) ac bc (some ⟨g7, 0, none⟩) 1 w7 (by have h := (K7.front 4 rfl).riv; rw [HXL.out] at h; exact h) (by have h := (K7.front 2 rfl).riv; rw [HYL.out] at h; exact h) (Kn.rlOne K7)).mono ?_; rintro e w8 ⟨S, sc, rfl, hO, hw⟩; have K8 := (K7.addI hw hO).al [.int .i64 b, .slice S n sc] 26; rw [HSL.out] at K8; clear hw hO K7 KA)
    obtain ⟨g13, hg⟩ : ∃ g, w8.heap.size = g := ⟨_, rfl⟩
    rw [hg] at K8
    try rw [hg]
    refine Code.wp.kn K8 ?_; clear K8 hg; intro w9 K9
    obtain ⟨o1, o2, o3, -⟩ := (K9.front 3 rfl).cells
    obtain ⟨p1, p2, p3, -⟩ := (K9.front 5 rfl).cells
    go_upto_region 14 with (go_at_call 59; refine (KD.out (some ⟨ga, 0, none⟩) (some ⟨gb, 0, none⟩) ac bc w9 (by have h := (K9.front 6 rfl).riv; rw [HXL.out] at h; exact h) (by have h := (K9.front 4 rfl).riv; rw [HYL.out] at h; exact h)).mono ?_; rintro e w10 ⟨E, ec, F, fc, rfl, hK⟩; have K10 := (K9.join hK).al [.int .i64 b, .slice E n ec] 26; clear hK K9 KD o1 o2 o3 p1 p2 p3)
    obtain ⟨g15, hg⟩ : ∃ g, w10.heap.size = g := ⟨_, rfl⟩
    rw [hg] at K10
    try rw [hg]
    refine Code.wp.kn K10 ?_; clear K10 hg; intro w11 K11
    have K12 : Kn w [.blk g11 [.int .i64 b, .slice (some ⟨gb, 0, none⟩) n bc] 26, rowI (some ⟨gb, 0, none⟩) bc ys, .blk g9 [.int .i64 b, .slice (some ⟨ga, 0, none⟩) n ac] 26, rowI (some ⟨ga, 0, none⟩) ac xs, .blk (g + 1 + 1) [.int .i64 0, .slice none 0 0] 26, .blk (g + 1) [.int .i64 0, .slice none 0 0] 26, .blk g [.int .i64 kd, .int .i64 (l : Int)] 41, .blk g13 [.int .i64 b, .slice S n sc] 26, .row (.slice S n sc) 2 1 n (ss.map (Value.int .i64)), .blk g15 [.int .i64 b, .slice E n ec] 26, rowI E ec ts] w11 := K11.sel [6, 7, 8, 9, 10, 11, 12, 3, 4, 0, 1] 99 (by decide) (by decide)
    clear K11
    obtain ⟨o1, o2, o3, -⟩ := (K12.front 0 rfl).cells
    obtain ⟨p1, p2, p3, -⟩ := (K12.front 2 rfl).cells
    obtain ⟨f1, f2, f3, -⟩ := (K12.front 6 rfl).cells
    obtain ⟨s1, s2, s3, -⟩ := (K12.front 7 rfl).cells
    obtain ⟨t1, t2, t3, -⟩ := (K12.front 9 rfl).cells
    go_upto_region 16 with (first
      | (go_at_call 60; (with_reducible refine (KVX.out (some ⟨ga, 0, none⟩) ac _ (by have h := (K12.front 3 rfl).riv; rw [HXL.out] at h; exact h)).mono ?_); rintro e w12 ⟨rfl, hw⟩; have K13 := K12.keep hw; clear hw K12 o1 o2 o3 p1 p2 p3 f1 f2 f3 s1 s2 s3 t1 t2 t3; obtain ⟨o1, o2, o3, -⟩ := (K13.front 0 rfl).cells; obtain ⟨p1, p2, p3, -⟩ := (K13.front 2 rfl).cells; obtain ⟨f1, f2, f3, -⟩ := (K13.front 6 rfl).cells; obtain ⟨s1, s2, s3, -⟩ := (K13.front 7 rfl).cells; obtain ⟨t1, t2, t3, -⟩ := (K13.front 9 rfl).cells)
      | (go_at_call 60; (with_reducible refine (KVY.out (some ⟨gb, 0, none⟩) bc _ (by have h := (K13.front 1 rfl).riv; rw [HYL.out] at h; exact h)).mono ?_); rintro e w13 ⟨rfl, hw⟩; have K14 := K13.keep hw; clear hw K13 o1 o2 o3 p1 p2 p3 f1 f2 f3 s1 s2 s3 t1 t2 t3; obtain ⟨o1, o2, o3, -⟩ := (K14.front 0 rfl).cells; obtain ⟨p1, p2, p3, -⟩ := (K14.front 2 rfl).cells; obtain ⟨f1, f2, f3, -⟩ := (K14.front 6 rfl).cells; obtain ⟨s1, s2, s3, -⟩ := (K14.front 7 rfl).cells; obtain ⟨t1, t2, t3, -⟩ := (K14.front 9 rfl).cells)
      | (go_at_call 60; (with_reducible refine (KVS.out S sc _ (by have h := (K14.front 8 rfl).ownI.ri; exact h)).mono ?_); rintro e w14 ⟨rfl, hw⟩; have K15 := K14.keep hw; clear hw K14 o1 o2 o3 p1 p2 p3 f1 f2 f3 s1 s2 s3 t1 t2 t3; obtain ⟨o1, o2, o3, -⟩ := (K15.front 0 rfl).cells; obtain ⟨p1, p2, p3, -⟩ := (K15.front 2 rfl).cells; obtain ⟨f1, f2, f3, -⟩ := (K15.front 6 rfl).cells; obtain ⟨s1, s2, s3, -⟩ := (K15.front 7 rfl).cells; obtain ⟨t1, t2, t3, -⟩ := (K15.front 9 rfl).cells)
      | (go_at_call 60; (with_reducible refine (KVT.out E ec _ (by have h := (K15.front 10 rfl).riv; rw [HTL.out] at h; exact h)).mono ?_); rintro e w15 ⟨rfl, hw⟩; have K16 := K15.keep hw; clear hw K15 o1 o2 o3 p1 p2 p3 f1 f2 f3 s1 s2 s3 t1 t2 t3))
    have K17 := K16.sel [0, 1, 2, 3, 4, 5, 6] 99 (by decide) (by decide)
    clear K16
    by_cases e3 : kd = 3 ∧ l = 0
    · obtain ⟨rfl, rfl⟩ := e3
      obtain ⟨f1, f2, f3, -⟩ := (K17.front 6 rfl).cells
      obtain ⟨p1, p2, p3, -⟩ := (K17.front 4 rfl).cells
      obtain ⟨o1, o2, o3, -⟩ := (K17.front 5 rfl).cells
      go_wp2_with fail
      have K18 := (((((K17.front 5 rfl).st 0 (.int .i64 0)).st 1 (.slice none 0 0)).front 5 rfl).st 0 (.int .i64 0)).st 1 (.slice none 0 0)
      refine bodyPost.kn K18 ?_; clear K18 K17 o1 o2 o3 p1 p2 p3 f1 f2 f3; intro w9 K9
      obtain ⟨a1, a2, a3, d1, d2, d3, -⟩ := K9.cells
      exact bodyPost_ret (v := .tuple #[.agg #[.int .i64 0, .slice none 0 0], .agg #[.int .i64 0, .slice none 0 0], .int .i64 3]) (by simp [results, Try.results15, go_sem, a1, a2, d1, d2]) rfl ⟨rfl, K9.below⟩
    · have K18 := K17.sel [0, 1, 2, 3, 4, 5] 99 (by decide) (by decide)
      obtain ⟨f1, f2, f3, -⟩ := (K17.front 6 rfl).cells
      have HB := Lib.hid (fun W (h : Kn w [.blk g11 [.int .i64 b, .slice (some ⟨gb, 0, none⟩) n bc] 26, .blk g9 [.int .i64 b, .slice (some ⟨ga, 0, none⟩) n ac] 26] W) => And.intro (box2 h) (box2 (h.front 1 rfl)))
      by_cases e1 : kd = 3
      · subst e1
        have l0 : ¬ (l : Int) = 0 := fun h => e3 ⟨rfl, by omega⟩
        go_upto_region 18 with fail
        clear K17 f1 f2 f3
        have hKd := K18.drew
        have HG := Lib.hid (HB.out _ (hKd.sel [0, 2] 99 (by decide) (by decide)))
        refine wp_region_held_drew (S := fun W => (W.cell? ⟨g11, 0, none⟩ = some (.int .i64 b) ∧ W.cell? ⟨g11, 1, none⟩ = some (.slice (some ⟨gb, 0, none⟩) n bc)) ∧ (W.cell? ⟨g9, 0, none⟩ = some (.int .i64 b) ∧ W.cell? ⟨g9, 1, none⟩ = some (.slice (some ⟨ga, 0, none⟩) n ac))) (by kernel_rfl) ?_ (fun hHeld => ?_)
        · exact HG.out
        try dsimp only
        generalize w15.drew = wd' at hKd HG hHeld ⊢
        clear K18
        refine wpAnyH_take (i := 0) (v := ?_) rfl (by kernel_rfl) (by kernel_rfl) (by kernel_rfl) (fun _ _ _ h => h) (Or.inl ⟨by rfl, ?_⟩) hHeld ?_
        rotate_left
        · (intro w hSw; (try dsimp only at hSw); go_simp; try with_reducible rfl)
        try simp only [Act.put, List.setIfInBounds_toArray, List.set_cons_zero, List.set_cons_succ, List.getElem_toArray, List.getElem_cons_succ, List.getElem_cons_zero]
        refine wpAnyH_take (i := 1) (v := ?_) rfl (by kernel_rfl) (by kernel_rfl) (by kernel_rfl) (fun _ _ _ h => h) (Or.inl ⟨by rfl, ?_⟩) hHeld ?_
        rotate_left
        · (intro w hSw; (try dsimp only at hSw); go_simp; try with_reducible rfl)
        try simp only [Act.put, List.setIfInBounds_toArray, List.set_cons_zero, List.set_cons_succ, List.getElem_toArray, List.getElem_cons_succ, List.getElem_cons_zero]
        refine wpAnyH_ready (rs := [2]) (by kernel_rfl) (by decide) (AllReadyH.cons (o := _) rfl (fun K hK' => ?_) AllReadyH.nil)
        obtain ⟨s1, s2, s3, -⟩ := (hKd.front 5 rfl).cells
        have KO1 := (((hKd.front 5 rfl).st 0 (.int .i64 b)).st 1 (.slice (some ⟨ga, 0, none⟩) n ac))
        go_simp
        clear s1 s2 s3
        have HG := Lib.hid (HB.out _ (KO1.sel [1, 3] 99 (by decide) (by decide)))
        refine hK'.out _ _ HG.out (fun hHeld2 => ?_)
        clear hK' hHeld
        have hHeld := hHeld2
        clear hHeld2
        try simp only [Act.put, List.setIfInBounds_toArray]
        refine wpAnyH_ready (rs := [3]) (by kernel_rfl) (by decide) (AllReadyH.cons (o := _) rfl (fun K hK' => ?_) AllReadyH.nil)
        obtain ⟨s1, s2, s3, -⟩ := (KO1.front 5 rfl).cells
        have KO2 := (((KO1.front 5 rfl).st 0 (.int .i64 b)).st 1 (.slice (some ⟨gb, 0, none⟩) n bc))
        go_simp
        clear s1 s2 s3
        have HG := Lib.hid (HB.out _ (KO2.sel [2, 4] 99 (by decide) (by decide)))
        refine hK'.out _ _ HG.out (fun hHeld2 => ?_)
        clear hK' hHeld
        have hHeld := hHeld2
        clear hHeld2
        try simp only [Act.put, List.setIfInBounds_toArray]
        refine wpAnyH_take (i := 4) (v := ?_) rfl (by kernel_rfl) (by kernel_rfl) (by kernel_rfl) (fun _ _ _ h => h) (Or.inl ⟨by rfl, ?_⟩) hHeld ?_
        rotate_left
        · (intro w hSw; (try dsimp only at hSw); go_simp; try with_reducible rfl)
        try simp only [Act.put, List.setIfInBounds_toArray, List.set_cons_zero, List.set_cons_succ, List.getElem_toArray, List.getElem_cons_succ, List.getElem_cons_zero]
        refine wpAnyH_done (by kernel_rfl) ?_ _
        go_wp2_with fail
        refine bodyPost.kn KO2 ?_; clear KO2; intro w9 K9
        obtain ⟨a1, a2, a3, d1, d2, d3, -⟩ := K9.cells
        refine bodyPost_ret (v := .tuple #[.agg #[.int .i64 b, .slice (some ⟨ga, 0, none⟩) n ac], .agg #[.int .i64 b, .slice (some ⟨gb, 0, none⟩) n bc], .int .i64 0]) (by simp [results, Try.results15, go_sem, a1, a2, d1, d2]) rfl ?_
        try rw [if_neg e3]
        exact ⟨_, _, _, _, rfl, by rw [HXS.out, HYS.out]; exact K9.sel [5, 3] 99 (by decide) (by decide)⟩
      · go_upto_region 18 with fail
        clear K17 f1 f2 f3
        have hKd := K18.drew
        have HG := Lib.hid (HB.out _ (hKd.sel [0, 2] 99 (by decide) (by decide)))
        refine wp_region_held_drew (S := fun W => (W.cell? ⟨g11, 0, none⟩ = some (.int .i64 b) ∧ W.cell? ⟨g11, 1, none⟩ = some (.slice (some ⟨gb, 0, none⟩) n bc)) ∧ (W.cell? ⟨g9, 0, none⟩ = some (.int .i64 b) ∧ W.cell? ⟨g9, 1, none⟩ = some (.slice (some ⟨ga, 0, none⟩) n ac))) (by kernel_rfl) ?_ (fun hHeld => ?_)
        · exact HG.out
        try dsimp only
        generalize w15.drew = wd' at hKd HG hHeld ⊢
        clear K18
        refine wpAnyH_take (i := 0) (v := ?_) rfl (by kernel_rfl) (by kernel_rfl) (by kernel_rfl) (fun _ _ _ h => h) (Or.inl ⟨by rfl, ?_⟩) hHeld ?_
        rotate_left
        · (intro w hSw; (try dsimp only at hSw); go_simp; try with_reducible rfl)
        try simp only [Act.put, List.setIfInBounds_toArray, List.set_cons_zero, List.set_cons_succ, List.getElem_toArray, List.getElem_cons_succ, List.getElem_cons_zero]
        refine wpAnyH_take (i := 1) (v := ?_) rfl (by kernel_rfl) (by kernel_rfl) (by kernel_rfl) (fun _ _ _ h => h) (Or.inl ⟨by rfl, ?_⟩) hHeld ?_
        rotate_left
        · (intro w hSw; (try dsimp only at hSw); go_simp; try with_reducible rfl)
        try simp only [Act.put, List.setIfInBounds_toArray, List.set_cons_zero, List.set_cons_succ, List.getElem_toArray, List.getElem_cons_succ, List.getElem_cons_zero]
        refine wpAnyH_ready (rs := [2]) (by kernel_rfl) (by decide) (AllReadyH.cons (o := _) rfl (fun K hK' => ?_) AllReadyH.nil)
        obtain ⟨s1, s2, s3, -⟩ := (hKd.front 5 rfl).cells
        have KO1 := (((hKd.front 5 rfl).st 0 (.int .i64 b)).st 1 (.slice (some ⟨ga, 0, none⟩) n ac))
        go_simp
        clear s1 s2 s3
        have HG := Lib.hid (HB.out _ (KO1.sel [1, 3] 99 (by decide) (by decide)))
        refine hK'.out _ _ HG.out (fun hHeld2 => ?_)
        clear hK' hHeld
        have hHeld := hHeld2
        clear hHeld2
        try simp only [Act.put, List.setIfInBounds_toArray]
        refine wpAnyH_ready (rs := [3]) (by kernel_rfl) (by decide) (AllReadyH.cons (o := _) rfl (fun K hK' => ?_) AllReadyH.nil)
        obtain ⟨s1, s2, s3, -⟩ := (KO1.front 5 rfl).cells
        have KO2 := (((KO1.front 5 rfl).st 0 (.int .i64 b)).st 1 (.slice (some ⟨gb, 0, none⟩) n bc))
        go_simp
        clear s1 s2 s3
        have HG := Lib.hid (HB.out _ (KO2.sel [2, 4] 99 (by decide) (by decide)))
        refine hK'.out _ _ HG.out (fun hHeld2 => ?_)
        clear hK' hHeld
        have hHeld := hHeld2
        clear hHeld2
        try simp only [Act.put, List.setIfInBounds_toArray]
        refine wpAnyH_take (i := 4) (v := ?_) rfl (by kernel_rfl) (by kernel_rfl) (by kernel_rfl) (fun _ _ _ h => h) (Or.inl ⟨by rfl, ?_⟩) hHeld ?_
        rotate_left
        · (intro w hSw; (try dsimp only at hSw); go_simp; try with_reducible rfl)
        try simp only [Act.put, List.setIfInBounds_toArray, List.set_cons_zero, List.set_cons_succ, List.getElem_toArray, List.getElem_cons_succ, List.getElem_cons_zero]
        refine wpAnyH_done (by kernel_rfl) ?_ _
        go_wp2_with fail
        refine bodyPost.kn KO2 ?_; clear KO2; intro w9 K9
        obtain ⟨a1, a2, a3, d1, d2, d3, -⟩ := K9.cells
        refine bodyPost_ret (v := .tuple #[.agg #[.int .i64 b, .slice (some ⟨ga, 0, none⟩) n ac], .agg #[.int .i64 b, .slice (some ⟨gb, 0, none⟩) n bc], .int .i64 0]) (by simp [results, Try.results15, go_sem, a1, a2, d1, d2]) rfl ?_
        try rw [if_neg e3]
        exact ⟨_, _, _, _, rfl, by rw [HXS.out, HYS.out]; exact K9.sel [5, 3] 99 (by decide) (by decide)⟩
end Go.Proofs.Ytmmiahgmdllgdaa

namespace Go.Proofs.Ytmmiahgmdllgdaa
open Go.RowKit Go.Sort
theorem l07SizeW_any (n : Int) (w : World) : Calls Try.prog 105 #[.int .i64 n] w fun e w' => e = .returned (.bool (betB n 1 16)) ∧ w = w' := by
  go_enter Try.func105, Try.ntmps105
  go_wp2_with (go_at_call 72; refine (l00In_any _ _ _ _).mono ?_; rintro e w' ⟨rfl, rfl⟩)
  go_ret
  exact ⟨rfl, rfl⟩
set_option maxHeartbeats 1600000 in
theorem l08Ok_true (n : Nat) (A : Option Addr) (m c : Nat) (fs : List Flt) (w : World) (hr : RL FltM 2 w A m fs) (hg : GoodF n fs) (ha : Asc fs) (hn1 : 1 ≤ n) (hn : n ≤ 16) (hm : m ≤ 1000000) :
    Calls Try.prog 61 #[.int .i64 n, .slice A m c] w fun e w' => e = .returned (.bool true) ∧ ∃ q, w' = w.drewN q := by
  have HL := Lib.hid hr.1
  have HB : Hid (betB (n : Int) 1 16 = true) := by simp only [Hid]; rw [betB_iff]; omega
  go_enter Try.func61, Try.ntmps61
  go_wp2_with (go_at_call 105; refine (l07SizeW_any _ _).mono ?_; rintro e w' ⟨rfl, rfl⟩; rw [HB.out])
  go_loopw [5] (fun i wr => ∃ k : Nat, k ≤ m ∧ i = .int .i64 k ∧ ∃ q, wr = w.drewN q) (fun i _ => m - (intOf i).toNat)
  case atStart => exact ⟨0, Nat.zero_le _, rfl, 0, rfl⟩
  case round =>
    obtain ⟨k, hk, rfl, q, rfl⟩ := hrel
    by_cases hkn : k < m
    · obtain ⟨ad, hA, hlt, hkl, f1, f2⟩ := hr.at_ hkn
      obtain ⟨q1, q2, q3, q4⟩ := hg fs[k] (List.getElem_mem _)
      have hb1 : betB fs[k].kind 1 3 = true := by rw [betB_iff]; omega
      have hb2 : betB fs[k].lever 0 ((n : Int) - 1) = true := by rw [betB_iff]; omega
      have hi0 : (0 : Int) ≤ (k : Int) := by omega
      have hi1 : (k : Int) < (m : Int) := by omega
      rcases Nat.eq_zero_or_pos k with hk0 | hk0
      · subst hk0
        rw [Nat.zero_mul, addr_add_zero] at f1 f2
        subst hA
        go_wp2_with fail
        go_quiet ((go_at_call 72; first | exact quiet_left (l00In_any _ _ _ _) | exact quiet_add_left (l00In_any _ _ _ _)))
        go_wp2
        go_roundw
        case rel => exact ⟨1, by omega, by go_num, by first | exact ⟨_, rfl⟩ | exact ⟨_, World.drewN_drewN _ _ _⟩⟩
        case measure => simp [intOf]; omega
      · obtain ⟨ad', hA', -, hkl', g1, g2⟩ := hr.at_ (show k - 1 < m by omega)
        obtain rfl : ad = ad' := by rw [hA] at hA'; injection hA'
        clear hA'
        have hasc := ha (k - 1) (by omega)
        have he : fs[k - 1 + 1] = fs[k] := by congr 1; omega
        rw [he] at hasc
        obtain ⟨lv, hlv⟩ : ∃ lv, lv = fs[k - 1].lever := ⟨_, rfl⟩
        rw [← hlv] at g2 hasc
        clear hlv he g1
        have hd : decide ((0 : Int) < (k : Int)) = true := decide_eq_true (by omega)
        have hd2 : decide (fs[k].lever ≤ lv) = false := decide_eq_false (by omega)
        have hi2 : (0 : Int) < (k : Int) := by omega
        subst hA
        go_wp2_with fail
        go_quiet ((go_at_call 72; first | exact quiet_left (l00In_any _ _ _ _) | exact quiet_add_left (l00In_any _ _ _ _)))
        go_wp2
        go_roundw
        case rel => exact ⟨k + 1, by omega, by go_num, by first | exact ⟨_, rfl⟩ | exact ⟨_, World.drewN_drewN _ _ _⟩⟩
        case measure => simp [intOf]; omega
    · go_wp2
      go_ret
      exact ⟨rfl, q, rfl⟩
end Go.Proofs.Ytmmiahgmdllgdaa

namespace Go.Proofs.Ytmmiahgmdllgdaa
open Go.RowKit Go.Sort
set_option maxRecDepth 100000 in
set_option maxHeartbeats 6400000 in
theorem l08Shows_ok (g1 g2 : Nat) (b : Int) (n : Nat) (XA : Option Addr) (xc : Nat) (xs : List Int) (YA : Option Addr) (yc : Nat) (ys : List Int) (FA : Option Addr) (m fc : Nat) (fs : List Flt) (w : World) (hx : RegB w g1 b XA xc xs) (hy : RegB w g2 b YA yc ys) (p1 : g1 < w.heap.size) (p2 : g2 < w.heap.size) (hr : RL FltM 2 w FA m fs) (hn : xs.length = n) (hv1 : vreg b xs = true) (hv2 : vreg b ys = true) (hl : xs.length = ys.length) (hp : pw b xs.length ≤ 1000000000001) (hg : GoodF xs.length fs) (hm : m ≤ 1000000) :
    Calls Try.prog 62 #[.pointer (some ⟨g1, 0, none⟩), .pointer (some ⟨g2, 0, none⟩), .slice FA m fc] w fun e w' => e = .returned (.tuple #[.bool (showsB (sumL b xs ys fs n) (addD b xs ys n) (carryAt b xs ys fs n) (carK b xs ys n)), .bool true]) ∧ Below w.heap.size w w' := by
  obtain ⟨⟨b1, b2⟩, ⟨n1, n2⟩, hdx, -⟩ := vreg_iff.1 hv1
  have hdy := (vreg_iff.1 hv2).2.2.1
  have KA := l08Add_any ⟨g1, 0, none⟩ ⟨g2, 0, none⟩ ⟨b, xs⟩ ⟨b, ys⟩ FA m fc fs w ⟨XA, xc, hx.1, hx.2⟩ ⟨YA, yc, hy.1, hy.2⟩ p1 p2 hr hl n2 b1 b2 hdx hdy hg (by omega)
  have KD := (fun W (hW : Below w.heap.size w W) => l02Add_any g1 g2 b XA xc xs YA yc ys W (RegB.below hx hW) (RegB.below hy hW) b1 b2 hdx hdy hl n2)
  have hvs := sumL_vreg (fs := fs) (ys := ys) b1 b2 hdx hdy n1 n2 hp
  have hva := add_vreg b1 b2 ys n1 n2 hp
  have hsl := sumL_len b xs ys fs n
  have htl := addD_len b xs ys n
  dsimp only at KA
  simp only [hn] at KA KD
  rw [hn] at hvs hva n1 n2
  obtain ⟨ss, hss⟩ : ∃ s, sumL b xs ys fs n = s := ⟨_, rfl⟩
  obtain ⟨ts, hts⟩ : ∃ s, addD b xs ys n = s := ⟨_, rfl⟩
  obtain ⟨cr, hcr⟩ : ∃ s, carryAt b xs ys fs n = s := ⟨_, rfl⟩
  obtain ⟨ct, hct⟩ : ∃ s, carK b xs ys n = s := ⟨_, rfl⟩
  simp only [hss, hcr] at KA
  simp only [hts, hct] at KD
  rw [hss] at hvs hsl ⊢
  rw [hts] at hva htl ⊢
  rw [hcr, hct]
  have KO := (fun (p : Addr) (E : Option Addr) ec (ds : List Int) W (hv : vreg b ds = true) (hl : ds.length = n) (hq : RegAt W p b E n ec) (h : RI W E n ds) => by
    have h := l02Ok_any p b E n ec ds W hq h (by omega)
    rw [hv] at h
    exact h)
  have KOS := Lib.hid (fun p E ec W => KO p E ec ss W hvs hsl)
  have KOT := Lib.hid (fun p E ec W => KO p E ec ts W hva htl)
  have KS := (fun (p q : Addr) (E F : Option Addr) (ec fc : Nat) W (h1 : RegAt W p b E n ec) (h2 : RI W E n ss) (h3 : RegAt W q b F n fc) (h4 : RI W F n ts) => l02Same_any p q ⟨b, ss⟩ ⟨b, ts⟩ W ⟨E, ec, by rw [hsl]; exact h1, by rw [hsl]; exact h2⟩ ⟨F, fc, by rw [htl]; exact h3, by rw [htl]; exact h4⟩ (by unfold SmallReg; dsimp only; omega) (by unfold SmallReg; dsimp only; omega))
  have hsame : sameR ⟨b, ss⟩ ⟨b, ts⟩ = decide (ss = ts) := by simp [sameR]
  rw [hsame] at KS
  have hsh : showsB ss ts cr ct = (!(decide (ss = ts)) || !(decide (cr = ct))) := rfl
  rw [hsh]
  obtain ⟨q, hq⟩ : ∃ q, decide (ss = ts) = q := ⟨_, rfl⟩
  rw [hq] at KS ⊢
  have HSL := Lib.hid hsl
  have HTL := Lib.hid htl
  replace KA := Lib.hid KA
  replace KD := Lib.hid KD
  replace KS := Lib.hid KS
  clear KO hsh hsame hq hss hts hcr hct hsl htl hvs hva hx hy hr hdx hdy hv1 hv2 hl hp hg hn
  go_enter Try.func62, Try.ntmps62
  go_upto_region 2 with (go_at_call 106; refine KA.out.mono ?_; rintro e w1 ⟨S, sc, rfl, hO, hw⟩; have K1 := ((Kn.nil w).addI hw hO).al [.int .i64 b, .slice S n sc] 26; clear hO hw; rw [HSL.out] at K1)
  obtain ⟨g8, hg⟩ : ∃ g, w1.heap.size = g := ⟨_, rfl⟩
  rw [hg] at K1
  try rw [hg]
  refine Code.wp.kn K1 ?_; clear K1 hg; intro w2 K2
  go_upto_region 3 with (go_at_call 38; refine (KD.out _ K2.below).mono ?_; rintro e w3 ⟨E, ec, rfl, hK⟩; have K3 := (K2.join hK).al [.int .i64 b, .slice E n ec] 26; clear hK K2)
  obtain ⟨g10, hg⟩ : ∃ g, w3.heap.size = g := ⟨_, rfl⟩
  rw [hg] at K3
  try rw [hg]
  refine Code.wp.kn K3 ?_; clear K3 hg; intro w4 K4
  have H4 := Lib.hid (fun W (K : Kn w [.blk g10 [.int .i64 b, .slice E n ec] 26, rowI E ec ts, .blk g8 [.int .i64 b, .slice S n sc] 26, .row (.slice S n sc) 2 1 n (ss.map (Value.int .i64))] W) => (show RegAt W ⟨g8, 0, none⟩ b S n sc ∧ RI W S n ss ∧ RegAt W ⟨g10, 0, none⟩ b E n ec ∧ RI W E n ts from ⟨box2 (K.front 2 rfl), (K.front 3 rfl).ownI.ri, box2 (K.front 0 rfl), by have h := (K.front 1 rfl).riv; rw [HTL.out] at h; exact h⟩))
  have K5 : Kn w [.blk g10 [.int .i64 b, .slice E n ec] 26, rowI E ec ts, .blk g8 [.int .i64 b, .slice S n sc] 26, .row (.slice S n sc) 2 1 n (ss.map (Value.int .i64))] w4 := K4
  clear K4
  have hce : (cr = ct) ∨ ¬ (cr = ct) := Decidable.em _
  rcases q with _ | _
  · go_wp2_with (first
      | (go_at_call 45; refine (KS.out _ _ S E sc ec _ (H4.out _ K5).1 (H4.out _ K5).2.1 (H4.out _ K5).2.2.1 (H4.out _ K5).2.2.2).mono ?_; rintro e w5 ⟨rfl, j1, hj⟩; have K6 := K5.keep (drewN_below j1); rw [← hj] at K6; clear hj; clear K5)
      | (go_at_call 39; (with_reducible refine (KOS.out ⟨g8, 0, none⟩ S sc _ (H4.out _ K6).1 (H4.out _ K6).2.1).mono ?_); rintro e w6 ⟨rfl, j2, hj⟩; have K7 := K6.keep (drewN_below j2); rw [← hj] at K7; clear hj; clear K6)
      | (go_at_call 39; (with_reducible refine (KOT.out ⟨g10, 0, none⟩ E ec _ (H4.out _ K7).2.2.1 (H4.out _ K7).2.2.2).mono ?_); rintro e w7 ⟨rfl, j3, hj⟩; have K8 := K7.keep (drewN_below j3); rw [← hj] at K8; clear hj; clear K7))
    refine bodyPost_ret (v := .tuple #[.bool true, .bool true]) (by simp [results, Try.results62, go_sem]) rfl ⟨by simp, K8.below⟩
  · rcases hce with hce | hce
    · subst hce
      go_wp2_with (first
        | (go_at_call 45; refine (KS.out _ _ S E sc ec _ (H4.out _ K5).1 (H4.out _ K5).2.1 (H4.out _ K5).2.2.1 (H4.out _ K5).2.2.2).mono ?_; rintro e w5 ⟨rfl, j1, hj⟩; have K6 := K5.keep (drewN_below j1); rw [← hj] at K6; clear hj; clear K5)
        | (go_at_call 39; (with_reducible refine (KOS.out ⟨g8, 0, none⟩ S sc _ (H4.out _ K6).1 (H4.out _ K6).2.1).mono ?_); rintro e w6 ⟨rfl, j2, hj⟩; have K7 := K6.keep (drewN_below j2); rw [← hj] at K7; clear hj; clear K6)
        | (go_at_call 39; (with_reducible refine (KOT.out ⟨g10, 0, none⟩ E ec _ (H4.out _ K7).2.2.1 (H4.out _ K7).2.2.2).mono ?_); rintro e w7 ⟨rfl, j3, hj⟩; have K8 := K7.keep (drewN_below j3); rw [← hj] at K8; clear hj; clear K7))
      refine bodyPost_ret (v := .tuple #[.bool false, .bool true]) (by simp [results, Try.results62, go_sem]) rfl ⟨by simp, K8.below⟩
    · go_wp2_with (first
        | (go_at_call 45; refine (KS.out _ _ S E sc ec _ (H4.out _ K5).1 (H4.out _ K5).2.1 (H4.out _ K5).2.2.1 (H4.out _ K5).2.2.2).mono ?_; rintro e w5 ⟨rfl, j1, hj⟩; have K6 := K5.keep (drewN_below j1); rw [← hj] at K6; clear hj; clear K5)
        | (go_at_call 39; (with_reducible refine (KOS.out ⟨g8, 0, none⟩ S sc _ (H4.out _ K6).1 (H4.out _ K6).2.1).mono ?_); rintro e w6 ⟨rfl, j2, hj⟩; have K7 := K6.keep (drewN_below j2); rw [← hj] at K7; clear hj; clear K6)
        | (go_at_call 39; (with_reducible refine (KOT.out ⟨g10, 0, none⟩ E ec _ (H4.out _ K7).2.2.1 (H4.out _ K7).2.2.2).mono ?_); rintro e w7 ⟨rfl, j3, hj⟩; have K8 := K7.keep (drewN_below j3); rw [← hj] at K8; clear hj; clear K7))
      refine bodyPost_ret (v := .tuple #[.bool true, .bool true]) (by simp [results, Try.results62, go_sem, hce]) rfl ⟨by simp [hce], K8.below⟩
set_option maxRecDepth 100000 in
set_option maxHeartbeats 3200000 in
theorem specShowsFaults_ok (b : Int) (n : Nat) (XA : Option Addr) (xc : Nat) (xs : List Int) (YA : Option Addr) (yc : Nat) (ys : List Int) (FA : Option Addr) (m fc : Nat) (fs : List Flt) (w : World) (hx : RI w XA n xs) (hy : RI w YA n ys) (hr : RL FltM 2 w FA m fs) (hv1 : vreg b xs = true) (hv2 : vreg b ys = true) (hp : pw b n ≤ 1000000000001) (hg : GoodF n fs) (ha : Asc fs) (hm : m ≤ 1000000) :
    Calls Try.prog 16 #[.agg #[.int .i64 b, .slice XA n xc], .agg #[.int .i64 b, .slice YA n yc], .slice FA m fc] w fun e w' => e = .returned (.bool (showsB (sumL b xs ys fs n) (addD b xs ys n) (carryAt b xs ys fs n) (carK b xs ys n))) ∧ Below w.heap.size w w' := by
  have hxl := hx.1
  have hyl := hy.1
  obtain ⟨⟨b1, b2⟩, ⟨n1, n2⟩, hdx, -⟩ := vreg_iff.1 hv1
  rw [hxl] at n1 n2
  have HTW := (fun g1 g2 W (h1 : RegB W g1 b XA xc xs) (h2 : RegB W g2 b YA yc ys) => by
    have h := l02Two_any g1 g2 b XA xc xs b YA yc ys W h1 h2 (by omega) (by omega)
    rw [twoC_zero hv1 hv2 (by omega)] at h
    exact h)
  have HOK := Lib.hid (fun W (hW : Below w.heap.size w W) => l08Ok_true n FA m fc fs W (hr.below steady_FltM hW) hg ha n1 n2 hm)
  have HSH := (fun g1 g2 W (hW : Below w.heap.size w W) (h1 : RegB W g1 b XA xc xs) (h2 : RegB W g2 b YA yc ys) p1 p2 => l08Shows_ok g1 g2 b n XA xc xs YA yc ys FA m fc fs W h1 h2 p1 p2 (hr.below steady_FltM hW) hxl hv1 hv2 (by omega) (by rw [hxl]; exact hp) (by rw [hxl]; exact hg) hm)
  obtain ⟨q, hq⟩ : ∃ q, showsB (sumL b xs ys fs n) (addD b xs ys n) (carryAt b xs ys fs n) (carK b xs ys n) = q := ⟨_, rfl⟩
  simp only [hq] at HSH ⊢
  replace HTW := Lib.hid HTW
  replace HSH := Lib.hid HSH
  have HX := Lib.hid (fun W (hW : Below w.heap.size w W) => (show RI W XA xs.length xs by rw [hxl]; exact hx.below hW))
  have HY := Lib.hid (fun W (hW : Below w.heap.size w W) => (show RI W YA ys.length ys by rw [hyl]; exact hy.below hW))
  have HXL := Lib.hid hxl
  have HYL := Lib.hid hyl
  clear hx hy hr hv1 hv2 hg ha hxl hyl hdx hq hp
  obtain ⟨g1, hg1⟩ : ∃ g, w.heap.size = g := ⟨_, rfl⟩
  have K0 := ((Kn.nil w).al [.int .i64 b, .slice XA n xc] 26).al [.int .i64 b, .slice YA n yc] 26
  simp only [World.size_alloc, hg1] at K0
  have HRX := Lib.hid (fun W (K : Kn w [.blk (g1 + 1) [.int .i64 b, .slice YA n yc] 26, .blk g1 [.int .i64 b, .slice XA n xc] 26] W) => (show RegB W g1 b XA xc xs from ⟨by rw [HXL.out]; exact box2 (K.front 1 rfl), HX.out _ K.below⟩))
  have HRY := Lib.hid (fun W (K : Kn w [.blk (g1 + 1) [.int .i64 b, .slice YA n yc] 26, .blk g1 [.int .i64 b, .slice XA n xc] 26] W) => (show RegB W (g1 + 1) b YA yc ys from ⟨by rw [HYL.out]; exact box2 (K.front 0 rfl), HY.out _ K.below⟩))
  go_enter Try.func16, Try.ntmps16
  go_upto_region 1 with fail
  try rw [hg1]
  refine Code.wp.kn K0 ?_; clear K0 hg1; intro w1 K1
  obtain ⟨a1, a2, a3, c1, c2, c3, -⟩ := K1.cells
  rcases q with _ | _ <;>
  · go_wp2_with (first
      | (go_at_call 37; refine (HTW.out _ _ _ (HRX.out _ K1) (HRY.out _ K1)).mono ?_; rintro e w2 ⟨rfl, hw⟩; have K2 := K1.keep hw; clear hw K1 a1 a2 a3 c1 c2 c3; obtain ⟨a1, a2, a3, c1, c2, c3, -⟩ := K2.cells)
      | (go_at_call 61; refine (HOK.out _ K2.below).mono ?_; rintro e w3 ⟨rfl, j, hj⟩; have K3 := K2.keep (drewN_below j); rw [← hj] at K3; clear hj; clear K2 a1 a2 a3 c1 c2 c3; obtain ⟨a1, a2, a3, c1, c2, c3, -⟩ := K3.cells)
      | (go_at_call 62; refine (HSH.out _ _ _ K3.below (HRX.out _ K3) (HRY.out _ K3) c3 a3).mono ?_; rintro e w4 ⟨rfl, hw⟩; have K4 := K3.keep hw; clear hw K3 a1 a2 a3 c1 c2 c3))
    go_ret
    exact ⟨rfl, K4.below⟩
end Go.Proofs.Ytmmiahgmdllgdaa

namespace Go.Proofs.Ytmmiahgmdllgdaa
open Go.RowKit
/-- a list whose first k places show g, the others c -/
def mixG (g c : Nat → Int) (n k : Nat) : List Int := (List.range n).map (fun i => if i < k then g i else c i)
theorem mixG_len (g c : Nat → Int) (n k : Nat) : (mixG g c n k).length = n := by simp [mixG]
theorem mixG_at (g c : Nat → Int) {n i : Nat} (k : Nat) (h : i < n) : (mixG g c n k)[i]? = some (if i < k then g i else c i) := by simp [mixG, h]
theorem mixG_set (g c : Nat → Int) (n k : Nat) : (mixG g c n k).set k (g k) = mixG g c n (k + 1) := by
  apply List.ext_getElem?
  intro i
  by_cases hi : i < n
  · rw [List.getElem?_set, mixG_at _ _ _ hi, mixG_at _ _ _ hi, mixG_len]
    by_cases e : k = i
    · subst e; rw [if_pos rfl, if_pos hi, if_pos (by omega)]
    · rw [if_neg e]
      by_cases h2 : i < k
      · rw [if_pos h2, if_pos (by omega)]
      · rw [if_neg h2, if_neg (by omega)]
  · rw [List.getElem?_eq_none (by rw [List.length_set, mixG_len]; omega), List.getElem?_eq_none (by rw [mixG_len]; omega)]
theorem mixG_down (g c : Nat → Int) (n k : Nat) : (mixG c g n (k + 1)).set k (g k) = mixG c g n k := by
  apply List.ext_getElem?
  intro i
  by_cases hi : i < n
  · rw [List.getElem?_set, mixG_at _ _ _ hi, mixG_at _ _ _ hi, mixG_len]
    by_cases e : k = i
    · subst e; rw [if_pos rfl, if_pos hi, if_neg (by omega)]
    · rw [if_neg e]
      by_cases h2 : i < k
      · rw [if_pos h2, if_pos (by omega)]
      · rw [if_neg h2, if_neg (by omega)]
  · rw [List.getElem?_eq_none (by rw [List.length_set, mixG_len]; omega), List.getElem?_eq_none (by rw [mixG_len]; omega)]
theorem mixG_same (g c : Nat → Int) (n : Nat) {k m : Nat} (h : ∀ i, i < n → (if i < k then g i else c i) = (if i < m then g i else c i)) : mixG g c n k = mixG g c n m :=
  List.map_congr_left fun i hi => h i (List.mem_range.1 hi)
theorem mixG_zero (g c : Nat → Int) (n : Nat) : mixG g c n 0 = (List.range n).map c := List.map_congr_left fun i _ => by rw [if_neg (by omega)]
theorem mixG_full (g c : Nat → Int) (n : Nat) {k : Nat} (h : ∀ i, i < n → k ≤ i → c i = g i) : mixG g c n k = (List.range n).map g := List.map_congr_left fun i hi => by
  by_cases hk : i < k
  · rw [if_pos hk]
  · rw [if_neg hk]; exact h i (List.mem_range.1 hi) (by omega)
def fnL (cs : List Int) (i : Nat) : Int := cs.getD i 0
theorem map_fnL (cs : List Int) : (List.range cs.length).map (fnL cs) = cs := by
  apply List.ext_getElem
  · simp
  · intro i h1 h2; simp [fnL, List.getD, h2]
/-- a cycle of columns, by their places -/
def cyF (M : Int) (n : Nat) (c : Nat → Int) (i : Nat) : Int := if i + 1 < n then (c i + c (i + 1)) % M else c i
def bkD (M : Int) (n : Nat) (c : Nat → Int) : Nat → Int
  | 0 => c (n - 1)
  | d + 1 => (c (n - 1 - (d + 1)) - bkD M n c d + M) % M
def bkF (M : Int) (n : Nat) (c : Nat → Int) (i : Nat) : Int := if i < n then bkD M n c (n - 1 - i) else c i
theorem bkF_last (M : Int) (n : Nat) (c : Nat → Int) (i : Nat) (h : n ≤ i + 1) : bkF M n c i = c i := by
  unfold bkF
  split
  · rw [show n - 1 - i = 0 by omega]; show c (n - 1) = c i; rw [show n - 1 = i by omega]
  · rfl
theorem bkF_step (M : Int) (n : Nat) (c : Nat → Int) (i : Nat) (h : i + 1 < n) : bkF M n c i = (c i - bkF M n c (i + 1) + M) % M := by
  unfold bkF
  rw [if_pos (by omega), if_pos h, show n - 1 - i = (n - 1 - (i + 1)) + 1 by omega]
  show (c (n - 1 - ((n - 1 - (i + 1)) + 1)) - _ + M) % M = _
  rw [show n - 1 - ((n - 1 - (i + 1)) + 1) = i by omega]
/-- each column is a number below the modulus -/
def InM (M : Int) (n : Nat) (c : Nat → Int) : Prop := ∀ i, i < n → 0 ≤ c i ∧ c i < M
theorem InM.cy {M : Int} {n : Nat} {c : Nat → Int} (h : InM M n c) (hM : 0 < M) : InM M n (cyF M n c) := fun i hi => by
  unfold cyF
  split
  · exact ⟨Int.emod_nonneg _ (by omega), Int.emod_lt_of_pos _ hM⟩
  · exact h i hi
theorem InM.bk {M : Int} {n : Nat} {c : Nat → Int} (h : InM M n c) (hM : 0 < M) : InM M n (bkF M n c) := fun i hi => by
  by_cases e : i + 1 < n
  · rw [bkF_step M n c i e]; exact ⟨Int.emod_nonneg _ (by omega), Int.emod_lt_of_pos _ hM⟩
  · rw [bkF_last M n c i (by omega)]; exact h i hi
theorem cy_bk {M : Int} {n : Nat} {c : Nat → Int} (h : InM M n c) : ∀ i, i < n → cyF M n (bkF M n c) i = c i := fun i hi => by
  unfold cyF
  by_cases e : i + 1 < n
  · rw [if_pos e, bkF_step M n c i e, Int.emod_add_emod, show c i - bkF M n c (i + 1) + M + bkF M n c (i + 1) = c i + M by omega, Int.add_emod_right]
    exact Int.emod_eq_of_lt (h i hi).1 (h i hi).2
  · rw [if_neg e, bkF_last M n c i (by omega)]
theorem bk_cyD {M : Int} {n : Nat} {c : Nat → Int} (h : InM M n c) : ∀ d i, i < n → n - 1 - i = d → bkF M n (cyF M n c) i = c i
  | 0, i, hi, e => by rw [bkF_last _ _ _ _ (by omega)]; unfold cyF; rw [if_neg (by omega)]
  | d + 1, i, hi, e => by
    rw [bkF_step _ _ _ _ (by omega), bk_cyD h d (i + 1) (by omega) (by omega)]
    unfold cyF
    rw [if_pos (by omega), show ((c i + c (i + 1)) % M - c (i + 1) + M) = ((c i + c (i + 1)) % M + (M - c (i + 1))) by omega, Int.emod_add_emod, show c i + c (i + 1) + (M - c (i + 1)) = c i + M by omega, Int.add_emod_right]
    exact Int.emod_eq_of_lt (h i hi).1 (h i hi).2
theorem bk_cy {M : Int} {n : Nat} {c : Nat → Int} (h : InM M n c) (i : Nat) (hi : i < n) : bkF M n (cyF M n c) i = c i := bk_cyD h _ i hi rfl
theorem cyF_congr {M : Int} {n : Nat} {c d : Nat → Int} (h : ∀ i, i < n → c i = d i) : ∀ i, i < n → cyF M n c i = cyF M n d i := fun i hi => by
  unfold cyF
  split
  · rename_i e; rw [h i hi, h (i + 1) e]
  · exact h i hi
theorem bkD_congr {M : Int} {n : Nat} {c d : Nat → Int} (h : ∀ i, i < n → c i = d i) (h0 : 0 < n) : ∀ k, bkD M n c k = bkD M n d k
  | 0 => h _ (by omega)
  | k + 1 => by unfold bkD; rw [bkD_congr h h0 k, h _ (by omega)]
theorem bkF_congr {M : Int} {n : Nat} {c d : Nat → Int} (h : ∀ i, i < n → c i = d i) : ∀ i, i < n → bkF M n c i = bkF M n d i := fun i hi => by
  unfold bkF; rw [if_pos hi, if_pos hi, bkD_congr h (by omega)]
/-- half a cycle that begins at a place -/
def haF (M : Int) (n first : Nat) (c : Nat → Int) (i : Nat) : Int := if i + 1 < n ∧ first ≤ i + 1 ∧ (i + 1 - first) % 2 = 0 then (c i + c (i + 1)) % M else c i
/-- so many steps back -/
def itB (M : Int) (n : Nat) : Nat → (Nat → Int) → Nat → Int
  | 0, c => c
  | j + 1, c => bkF M n (itB M n j c)
def prF (M : Int) (n : Nat) (c : Nat → Int) (i : Nat) : Int := itB M n (i / 2) c i
theorem InM.it {M : Int} {n : Nat} {c : Nat → Int} (h : InM M n c) (hM : 0 < M) : ∀ j, InM M n (itB M n j c)
  | 0 => h
  | j + 1 => (InM.it h hM j).bk hM
theorem InM.pr {M : Int} {n : Nat} {c : Nat → Int} (h : InM M n c) (hM : 0 < M) : InM M n (prF M n c) := fun i hi => h.it hM (i / 2) i hi
theorem InM.ha {M : Int} {n : Nat} {c : Nat → Int} (h : InM M n c) (hM : 0 < M) (first : Nat) : InM M n (haF M n first c) := fun i hi => by
  unfold haF
  split
  · exact ⟨Int.emod_nonneg _ (by omega), Int.emod_lt_of_pos _ hM⟩
  · exact h i hi
theorem itB_cy {M : Int} {n : Nat} {c : Nat → Int} (h : InM M n c) (hM : 0 < M) : ∀ j i, i < n → itB M n (j + 1) (cyF M n c) i = itB M n j c i
  | 0, i, hi => bk_cy h i hi
  | j + 1, i, hi => bkF_congr (fun k hk => itB_cy h hM j k hk) i hi
theorem it_step {M : Int} {n : Nat} {c : Nat → Int} (h : InM M n c) (hM : 0 < M) (j i : Nat) (hi : i + 1 < n) : (itB M n (j + 1) c i + itB M n (j + 1) c (i + 1)) % M = itB M n j c i := by
  have h1 := cy_bk (h.it hM j) i (by omega)
  unfold cyF at h1
  rw [if_pos hi] at h1
  exact h1
/-- two halves of a cycle of prepared columns are a whole cycle, prepared -/
theorem halves {M : Int} {n : Nat} {c : Nat → Int} (h : InM M n c) (hM : 0 < M) (i : Nat) (hi : i < n) : haF M n 2 (haF M n 1 (prF M n c)) i = prF M n (cyF M n c) i := by
  have hcy := h.cy hM
  -- the columns one step ahead
  have hp : ∀ i, i < n → prF M n c i = itB M n (i / 2 + 1) (cyF M n c) i := fun i hi => (itB_cy h hM (i / 2) i hi).symm
  have h1 : ∀ j, 2 * j < n → haF M n 1 (prF M n c) (2 * j) = itB M n j (cyF M n c) (2 * j) := fun j hj => by
    unfold haF
    by_cases e : 2 * j + 1 < n
    · rw [if_pos ⟨e, by omega, by omega⟩, hp _ hj, hp _ e, show (2 * j + 1) / 2 = j by omega, show (2 * j) / 2 = j by omega]
      exact it_step hcy hM j (2 * j) e
    · rw [if_neg (fun h => e h.1), hp _ hj, show (2 * j) / 2 = j by omega]
      show bkF M n _ (2 * j) = _
      rw [bkF_last _ _ _ _ (by omega)]
  have h2 : ∀ j, 2 * j + 1 < n → haF M n 1 (prF M n c) (2 * j + 1) = itB M n (j + 1) (cyF M n c) (2 * j + 1) := fun j hj => by
    unfold haF
    rw [if_neg (fun h => by omega), hp _ hj, show (2 * j + 1) / 2 = j by omega]
  obtain ⟨j, hj⟩ : ∃ j, i = 2 * j ∨ i = 2 * j + 1 := ⟨i / 2, by omega⟩
  rcases hj with rfl | rfl
  · unfold haF
    rw [if_neg (fun h => by omega)]
    show haF M n 1 (prF M n c) (2 * j) = _
    rw [h1 j hi]; unfold prF; rw [show (2 * j) / 2 = j by omega]
  · unfold prF
    rw [show (2 * j + 1) / 2 = j by omega]
    unfold haF
    by_cases e : 2 * j + 1 + 1 < n
    · rw [if_pos ⟨e, by omega, by omega⟩]
      show (haF M n 1 (prF M n c) (2 * j + 1) + haF M n 1 (prF M n c) (2 * (j + 1))) % M = _
      rw [h2 j hi, h1 (j + 1) (by omega)]
      exact it_step hcy hM j (2 * j + 1) e
    · rw [if_neg (fun h => e h.1)]
      show haF M n 1 (prF M n c) (2 * j + 1) = _
      rw [h2 j hi]
      show bkF M n _ (2 * j + 1) = _
      rw [bkF_last _ _ _ _ (by omega)]
end Go.Proofs.Ytmmiahgmdllgdaa
