/- Part 5: lemmas and contracts of the claim's functions. -/
import Derived.Test.YtgpmngcemnnpmaaDoorZC1
import Derived.Test.YtgpmngcemnnpmaaDoorZC2
import Derived.Test.YtgpmngcemnnpmaaDoorZC3
import Derived.Test.YtgpmngcemnnpmaaDoorZC4
namespace Go.Proofs.YtgpmngcemnnpmaaDoor
open Go.RowKit Go.Sort
/-- an engine of its own -/
def rowNN (E : Option Addr) (n ec : Nat) (ds : List Int) : Ent := .row (.slice E n ec) 2 1 n (ds.map (Value.int .i64))
def EngR (wd n : Nat) (ds : List Int) (w : World) (e : Ending) (w' : World) : Prop := ∃ gr ec, e = .returned (.agg #[.int .i64 (wd : Int), .slice (some ⟨gr, 0, none⟩) n ec]) ∧ Kn w [rowNN (some ⟨gr, 0, none⟩) n ec ds] w'
theorem pw10_bd {n : Nat} (h1 : 1 ≤ n) (h : n ≤ 12) : 10 ≤ pw 10 n ∧ pw 10 n ≤ 1000000000000 := by
  have h2 := pw_mono 10 (by omega) 1 n h1
  have h3 := pw_mono 10 (by omega) n 12 h
  exact ⟨h2, h3⟩
theorem modulus_any (n : Nat) (w : World) (hn : n ≤ 12) :
    Calls Tryd.prog 86 #[.int .i64 (n : Int)] w fun e w' => e = .returned (.int .i64 (pw 10 n)) ∧ w = w' := by
  have hp12 : pw 10 12 = 1000000000000 := by decide
  go_enter Tryd.func86, Tryd.ntmps86
  go_wp2
  go_loop [3, 5] (fun v i => ∃ k : Nat, k ≤ n ∧ i = .int .i64 (k : Int) ∧ v = .int .i64 (pw 10 k)) (fun _ i => n - (intOf i).toNat)
  case atStart => exact ⟨0, Nat.zero_le _, rfl, rfl⟩
  case round =>
    obtain ⟨k, hk, rfl, rfl⟩ := hrel
    by_cases hkn : k < n
    · have h1 : 1 ≤ pw 10 k := pw_pos 10 (by omega) k
      have h2 := pw_mono 10 (by omega) (k + 1) 12 (by omega)
      have h3 : pw 10 (k + 1) = pw 10 k * 10 := rfl
      have HP := Lib.hid h3
      have hi1 : (k : Int) < (n : Int) := by omega
      have hw : IntKind.i64.wrap (pw 10 k * 10) = pw 10 k * 10 := wrapI64 (by omega)
      clear h3 h2
      go_wp2
      go_round
      case rel => exact ⟨k + 1, by omega, by go_num, by rw [HP.out]⟩
      case measure => simp [intOf]; omega
    · have hi1 : ¬ (k : Int) < (n : Int) := by omega
      obtain rfl : k = n := by omega
      go_wp2
      go_ret
      exact ⟨rfl, rfl⟩
set_option maxRecDepth 100000 in
set_option maxHeartbeats 1600000 in
theorem copied_ok (wd n : Nat) (A : Option Addr) (c : Nat) (cs : List Int) (w : World) (n0 : 0 < n) (n9 : n ≤ 9) (hr : RI w A n cs) :
    Calls Tryd.prog 85 #[.agg #[.int .i64 (wd : Int), .slice A n c]] w (EngR wd n cs w) := by
  unfold EngR rowNN
  have KC := Lib.hid (fun W (hW : Below w.heap.size w W) => (show Calls Tryd.prog 110 #[.slice A n c] W (fun e w' => ∃ gr ec, e = .returned (.slice (some ⟨gr, 0, none⟩) n ec) ∧ Kn W [.row (.slice (some ⟨gr, 0, none⟩) n ec) 2 1 n (cs.map (Value.int .i64))] w') from
    (copyNumbers_any A n c cs W (hr.below hW) n0 (by omega)).mono fun e w' h => by
      obtain ⟨E, ec, h1, h2⟩ := h
      unfold rowI at h2
      rw [hr.1] at h2
      obtain ⟨gr, ec', hE⟩ := h2.rowForm n0
      injection hE with z1 z2 z3
      subst z1 z3
      exact ⟨gr, _, h1, h2⟩))
  clear hr
  obtain ⟨g, hg⟩ : ∃ g, w.heap.size = g := ⟨_, rfl⟩
  have K0 := ((Kn.nil w).al [.int .i64 (wd : Int), .slice A n c] 45).al [.int .i64 0, .slice none 0 0] 45
  simp only [World.size_alloc, hg] at K0
  go_enter Tryd.func85, Tryd.ntmps85
  go_upto_region 1 with fail
  try rw [hg]
  refine Code.wp.kn K0 ?_; clear K0 hg; intro w1 K1
  have HB := Lib.hid (fun W (h : Kn w [.blk g [.int .i64 (wd : Int), .slice A n c] 45] W) => box2 h)
  have hKd := K1.drew
  have HG := Lib.hid (HB.out _ (hKd.sel [1] 99 (by decide) (by decide)))
  refine wp_region_held_drew (S := fun W => W.cell? ⟨g, 0, none⟩ = some (.int .i64 (wd : Int)) ∧ W.cell? ⟨g, 1, none⟩ = some (.slice A n c)) (by kernel_rfl) ?_ (fun hHeld => ?_)
  · exact HG.out
  try dsimp only
  generalize w1.drew = wd' at hKd HG hHeld ⊢
  clear K1
  refine wpAnyH_take (i := 0) (v := ?_) rfl (by kernel_rfl) (by kernel_rfl) (by kernel_rfl) (fun _ _ _ h => h) (Or.inl ⟨by rfl, ?_⟩) hHeld ?_
  rotate_left
  · (intro w hSw; (try dsimp only at hSw); go_simp; try with_reducible rfl)
  try simp only [Act.put, List.setIfInBounds_toArray, List.set_cons_zero, List.set_cons_succ, List.getElem_toArray, List.getElem_cons_succ, List.getElem_cons_zero]
  refine wpAnyH_take (i := 1) (v := ?_) rfl (by kernel_rfl) (by kernel_rfl) (by kernel_rfl) (fun _ _ _ h => h) (Or.inl ⟨by rfl, ?_⟩) hHeld ?_
  rotate_left
  · (intro w hSw; (try dsimp only at hSw); go_simp; try with_reducible rfl)
  try simp only [Act.put, List.setIfInBounds_toArray, List.set_cons_zero, List.set_cons_succ, List.getElem_toArray, List.getElem_cons_succ, List.getElem_cons_zero]
  refine wpAnyH_take (i := 2) (v := ?_) rfl (by kernel_rfl) (by kernel_rfl) (by kernel_rfl) (fun _ _ _ h => h) (Or.inl ⟨by rfl, ?_⟩) hHeld ?_
  rotate_left
  · (intro w hSw; (try dsimp only at hSw); go_simp; try with_reducible rfl)
  try simp only [Act.put, List.setIfInBounds_toArray, List.set_cons_zero, List.set_cons_succ, List.getElem_toArray, List.getElem_cons_succ, List.getElem_cons_zero]
  refine wpAnyH_take (i := 3) (v := ?_) rfl (by kernel_rfl) (by kernel_rfl) (by kernel_rfl) (fun _ _ _ h => h) (Or.inl ⟨by rfl, ?_⟩) hHeld ?_
  rotate_left
  · (intro w hSw; (try dsimp only at hSw); go_simp; try with_reducible rfl)
  try simp only [Act.put, List.setIfInBounds_toArray, List.set_cons_zero, List.set_cons_succ, List.getElem_toArray, List.getElem_cons_succ, List.getElem_cons_zero]
  refine wpAnyH_ready (rs := [4]) (by kernel_rfl) (by decide) (AllReadyH.cons (o := _) rfl (fun K hK' => ?_) AllReadyH.nil)
  go_simp
  go_at_call 110
  refine (KC.out _ hKd.below).mono ?_
  rintro e wo1 ⟨gr1, ec1, rfl, hK⟩
  have KO1 := hKd.join hK
  clear hK
  have HG := Lib.hid (HB.out _ (KO1.sel [2] 99 (by decide) (by decide)))
  refine hK'.out _ _ HG.out (fun hHeld2 => ?_)
  clear hK' hHeld
  have hHeld := hHeld2
  clear hHeld2
  try simp only [Act.put, List.setIfInBounds_toArray]
  refine wpAnyH_take (i := 5) (v := ?_) rfl (by kernel_rfl) (by kernel_rfl) (by kernel_rfl) (fun _ _ _ h => h) (Or.inl ⟨by rfl, ?_⟩) hHeld ?_
  rotate_left
  · (intro w hSw; (try dsimp only at hSw); go_simp; try with_reducible rfl)
  try simp only [Act.put, List.setIfInBounds_toArray, List.set_cons_zero, List.set_cons_succ, List.getElem_toArray, List.getElem_cons_succ, List.getElem_cons_zero]
  refine wpAnyH_ready (rs := [6]) (by kernel_rfl) (by decide) (AllReadyH.cons (o := _) rfl (fun K hK' => ?_) AllReadyH.nil)
  obtain ⟨s1, s2, s3, -⟩ := (KO1.front 1 rfl).cells
  have KO2 := (((KO1.front 1 rfl).st 0 (.int .i64 (wd : Int))).st 1 (.slice (some ⟨gr1, 0, none⟩) n ec1))
  go_simp
  clear s1 s2 s3
  have HG := Lib.hid (HB.out _ (KO2.sel [2] 99 (by decide) (by decide)))
  refine hK'.out _ _ HG.out (fun hHeld2 => ?_)
  clear hK' hHeld
  have hHeld := hHeld2
  clear hHeld2
  try simp only [Act.put, List.setIfInBounds_toArray]
  refine wpAnyH_done (by kernel_rfl) ?_ _
  go_wp2_with fail
  refine bodyPost.kn KO2 ?_; clear KO2; intro w9 K9
  obtain ⟨a1, a2, a3, -⟩ := K9.cells
  refine bodyPost_ret (v := .agg #[.int .i64 (wd : Int), .slice (some ⟨gr1, 0, none⟩) n ec1]) (by simp [results, Tryd.results85, go_sem, a1]) rfl ⟨_, _, rfl, K9.sel [1] 99 (by decide) (by decide)⟩
set_option maxRecDepth 100000 in
set_option maxHeartbeats 3200000 in
theorem cycled_ok (wd n : Nat) (A : Option Addr) (c : Nat) (cs : List Int) (w : World) (h1 : 1 ≤ wd) (h12 : wd ≤ 12) (n0 : 0 < n) (n9 : n ≤ 9) (hr : RI w A n cs) (hv : InM (pw 10 wd) n (fnL cs)) :
    Calls Tryd.prog 52 #[.agg #[.int .i64 (wd : Int), .slice A n c]] w (EngR wd n ((List.range n).map (cyF (pw 10 wd) n (fnL cs))) w) := by
  have KC := Lib.hid (fun W (hW : Below w.heap.size w W) => copied_ok wd n A c cs W n0 n9 (hr.below hW))
  have KM := Lib.hid (fun W => modulus_any wd W h12)
  have hcs : cs = mixG (cyF (pw 10 wd) n (fnL cs)) (fnL cs) n 0 := by rw [mixG_zero, ← hr.1, map_fnL]
  have HFU := Lib.hid (mixG_full (cyF (pw 10 wd) n (fnL cs)) (fnL cs) n (k := n - 1) (fun i hi hk => by unfold cyF; rw [if_neg (by omega)]))
  have hM := pw10_bd h1 h12
  obtain ⟨M, hMM⟩ : ∃ M, pw 10 wd = M := ⟨_, rfl⟩
  rw [hMM] at hcs hM hv
  rw [hMM] at HFU
  simp only [hMM] at KM ⊢
  have HV := Lib.hid hv
  unfold EngR rowNN at KC
  obtain ⟨f, hf⟩ : ∃ f, fnL cs = f := ⟨_, rfl⟩
  rw [hf] at hcs HFU HV ⊢
  rw [hcs] at KC
  clear hr hv hMM hf hcs
  obtain ⟨g, hg⟩ : ∃ g, w.heap.size = g := ⟨_, rfl⟩
  have K0 := ((Kn.nil w).al [.int .i64 (wd : Int), .slice A n c] 45).al [.int .i64 0, .slice none 0 0] 45
  simp only [World.size_alloc, hg] at K0
  go_enter Tryd.func52, Tryd.ntmps52
  go_upto_region 1 with fail
  try rw [hg]
  refine Code.wp.kn K0 ?_; clear K0 hg; intro w1 K1
  obtain ⟨a1, a2, a3, e1, e2, e3, -⟩ := K1.cells
  go_upto_region 2 with (go_at_call 85; refine (KC.out _ K1.below).mono ?_; rintro e w2 ⟨gr, ec, rfl, hK⟩; have K2 := (K1.join hK).al [.int .i64 (wd : Int), .slice (some ⟨gr, 0, none⟩) n ec] 45; clear hK K1 a1 a2 a3 e1 e2 e3)
  obtain ⟨g3, hg⟩ : ∃ g, w2.heap.size = g := ⟨_, rfl⟩
  rw [hg] at K2
  try rw [hg]
  refine Code.wp.kn K2 ?_; clear K2 hg; intro w3 K3
  have K4 := K3.sel [0, 1, 2, 3] 99 (by decide) (by decide)
  clear K3
  obtain ⟨o1, o2, o3, -, -, -, e1, e2, e3, -⟩ := K4.cells
  go_wp2_with fail
  go_loopw [4] (fun kk wr => ∃ k : Nat, k < n ∧ kk = .int .i64 (k : Int) ∧ Kn w [.blk g3 [.int .i64 (wd : Int), .slice (some ⟨gr, 0, none⟩) n ec] 45, .row (.slice (some ⟨gr, 0, none⟩) n ec) 2 1 n ((mixG (cyF M n f) f n k).map (Value.int .i64)), .blk (g + 1) [.int .i64 0, .slice none 0 0] 45, .blk g [.int .i64 (wd : Int), .slice A n c] 45] wr) (fun kk _ => n - (intOf kk).toNat)
  case atStart => exact ⟨0, n0, rfl, K4⟩
  case round =>
    clear K4 o1 o2 o3 e1 e2 e3
    obtain ⟨k, hk, rfl, KR⟩ := hrel
    obtain ⟨o1, o2, o3, -, -, -, e1, e2, e3, -⟩ := KR.cells
    have hq1 : IntKind.i64.wrap ((k : Int) + 1) = (k : Int) + 1 := wrapI64 (by omega)
    by_cases hk1 : k + 1 < n
    · have i1 : (k : Int) + 1 < (n : Int) := by omega
      have i0 : (0 : Int) ≤ (k : Int) := by omega
      have i3 : (0 : Int) ≤ (k : Int) + 1 := by omega
      have i2 : (k : Int) < (n : Int) := by omega
      obtain ⟨x, hx⟩ : ∃ x, f k = x := ⟨_, rfl⟩
      obtain ⟨y, hy⟩ : ∃ y, f (k + 1) = y := ⟨_, rfl⟩
      obtain ⟨v, hvv⟩ : ∃ v, (x + y) % M = v := ⟨_, rfl⟩
      have hxb := HV.out k hk
      have hyb := HV.out (k + 1) hk1
      rw [hx] at hxb
      rw [hy] at hyb
      have hL1 : ((mixG (cyF M n f) f n k).map (Value.int .i64))[k]? = some (.int .i64 x) := by rw [List.getElem?_map, mixG_at _ _ _ hk, if_neg (by omega), hx]; rfl
      have hL2 : ((mixG (cyF M n f) f n k).map (Value.int .i64))[k + 1]? = some (.int .i64 y) := by rw [List.getElem?_map, mixG_at _ _ _ hk1, if_neg (by omega), hy]; rfl
      have hL3 : (mixG (cyF M n f) f n (k + 1)).map (Value.int .i64) = ((mixG (cyF M n f) f n k).map (Value.int .i64)).set k (.int .i64 v) := by
        rw [← mixG_set, List.map_set]
        congr 2
        unfold cyF
        rw [if_pos hk1, hx, hy, hvv]
      have hw1 : IntKind.i64.wrap (x + y) = x + y := wrapI64 (by omega)
      have hm4 : M ≠ 0 := by omega
      have hm5 : ¬ M = 0 := hm4
      have hvb : 0 ≤ v ∧ v < M := by rw [← hvv]; exact ⟨Int.emod_nonneg _ hm4, Int.emod_lt_of_pos _ (by omega)⟩
      have hw2 : (x + y).tmod M = v := by rw [Int.tmod_eq_emod_of_nonneg (by omega), hvv]
      have hw3 : IntKind.i64.wrap v = v := wrapI64 (by omega)
      have HSET := Lib.hid hL3
      obtain ⟨L0, hL0⟩ : ∃ L, (mixG (cyF M n f) f n k).map (Value.int .i64) = L := ⟨_, rfl⟩
      rw [hL0] at hL1 hL2 HSET KR
      have HI := Lib.hid hL1
      have HJ := Lib.hid hL2
      have HJ2 := Lib.hid (show (L0.set k (.int .i64 v))[k + 1]? = some (.int .i64 y) by rw [List.getElem?_set_ne (by omega)]; exact HJ.out)
      clear hL0 hL1 hL2 hL3 hx hy hvv hvb hxb hyb
      go_upto_region 5 with fail
      have HB := Lib.hid (fun (L : List Value) W (hL : L[(k + 1)]? = some (.int .i64 y)) (h : Kn w [.blk g3 [.int .i64 (wd : Int), .slice (some ⟨gr, 0, none⟩) n ec] 45, .row (.slice (some ⟨gr, 0, none⟩) n ec) 2 1 n L, .blk g [.int .i64 (wd : Int), .slice A n c] 45] W) => (And.intro (And.intro (box2 h).2 ((Kn.rowCell (h.front 1 rfl) hL).1)) (box2 (h.front 2 rfl)).1 : (W.cell? ⟨g3, 1, none⟩ = some (.slice (some ⟨gr, 0, none⟩) n ec) ∧ W.cell? ⟨gr, (k + 1), none⟩ = some (.int .i64 y)) ∧ W.cell? ⟨g, 0, none⟩ = some (.int .i64 (wd : Int))))
      have hKd := KR.drew
      have HG := Lib.hid (HB.out _ _ HJ.out (hKd.sel [0, 1, 3] 99 (by decide) (by decide)))
      clear o1 o2 o3 e1 e2 e3
      refine wp_region_held_drew (S := fun W => (W.cell? ⟨g3, 1, none⟩ = some (.slice (some ⟨gr, 0, none⟩) n ec) ∧ W.cell? ⟨gr, (k + 1), none⟩ = some (.int .i64 y)) ∧ W.cell? ⟨g, 0, none⟩ = some (.int .i64 (wd : Int))) (by kernel_rfl) ?_ (fun hHeld => ?_)
      · exact HG.out
      try dsimp only
      generalize wr.drew = wd' at hKd HG hHeld ⊢
      clear KR
      refine wpAnyH_take (i := 0) (v := ?_) rfl (by kernel_rfl) (by kernel_rfl) (by kernel_rfl) (fun _ _ _ h => h) (Or.inl ⟨by rfl, ?_⟩) hHeld ?_
      rotate_left
      · (intro w hSw; (try dsimp only at hSw); go_simp; try with_reducible rfl)
      try simp only [Act.put, List.setIfInBounds_toArray, List.set_cons_zero, List.set_cons_succ, List.getElem_toArray, List.getElem_cons_succ, List.getElem_cons_zero]
      refine wpAnyH_take (i := 1) (v := ?_) rfl (by kernel_rfl) (by kernel_rfl) (by kernel_rfl) (fun _ _ _ h => h) (Or.inl ⟨by rfl, ?_⟩) hHeld ?_
      rotate_left
      · (intro w hSw; (try dsimp only at hSw); go_simp; try with_reducible rfl)
      try simp only [Act.put, List.setIfInBounds_toArray, List.set_cons_zero, List.set_cons_succ, List.getElem_toArray, List.getElem_cons_succ, List.getElem_cons_zero]
      refine wpAnyH_take (i := 2) (v := ?_) rfl (by kernel_rfl) (by kernel_rfl) (by kernel_rfl) (fun _ _ _ h => h) (Or.inl ⟨by rfl, ?_⟩) hHeld ?_
      rotate_left
      · (intro w hSw; (try dsimp only at hSw); go_simp; try with_reducible rfl)
      try simp only [Act.put, List.setIfInBounds_toArray, List.set_cons_zero, List.set_cons_succ, List.getElem_toArray, List.getElem_cons_succ, List.getElem_cons_zero]
      refine wpAnyH_take (i := 3) (v := ?_) rfl (by kernel_rfl) (by kernel_rfl) (by kernel_rfl) (fun _ _ _ h => h) (Or.inl ⟨by rfl, ?_⟩) hHeld ?_
      rotate_left
      · (intro w hSw; (try dsimp only at hSw); go_simp; try with_reducible rfl)
      try simp only [Act.put, List.setIfInBounds_toArray, List.set_cons_zero, List.set_cons_succ, List.getElem_toArray, List.getElem_cons_succ, List.getElem_cons_zero]
      refine wpAnyH_take (i := 4) (v := ?_) rfl (by kernel_rfl) (by kernel_rfl) (by kernel_rfl) (fun _ _ _ h => h) (Or.inl ⟨by rfl, ?_⟩) hHeld ?_
      rotate_left
      · (intro w hSw; (try dsimp only at hSw); go_simp; try with_reducible rfl)
      try simp only [Act.put, List.setIfInBounds_toArray, List.set_cons_zero, List.set_cons_succ, List.getElem_toArray, List.getElem_cons_succ, List.getElem_cons_zero]
      refine wpAnyH_take (i := 5) (v := ?_) rfl (by kernel_rfl) (by kernel_rfl) (by kernel_rfl) (fun _ _ _ h => h) (Or.inl ⟨by rfl, ?_⟩) hHeld ?_
      rotate_left
      · (intro w hSw; (try dsimp only at hSw); go_simp; try with_reducible rfl)
      try simp only [Act.put, List.setIfInBounds_toArray, List.set_cons_zero, List.set_cons_succ, List.getElem_toArray, List.getElem_cons_succ, List.getElem_cons_zero]
      refine wpAnyH_take (i := 6) (v := ?_) rfl (by kernel_rfl) (by kernel_rfl) (by kernel_rfl) (fun _ _ _ h => h) (Or.inl ⟨by rfl, ?_⟩) hHeld ?_
      rotate_left
      · (intro w hSw; (try dsimp only at hSw); go_simp; try with_reducible rfl)
      try simp only [Act.put, List.setIfInBounds_toArray, List.set_cons_zero, List.set_cons_succ, List.getElem_toArray, List.getElem_cons_succ, List.getElem_cons_zero]
      refine wpAnyH_take (i := 8) (v := ?_) rfl (by kernel_rfl) (by kernel_rfl) (by kernel_rfl) (fun _ _ _ h => h) (Or.inl ⟨by rfl, ?_⟩) hHeld ?_
      rotate_left
      · (intro w hSw; (try dsimp only at hSw); go_simp; try with_reducible rfl)
      try simp only [Act.put, List.setIfInBounds_toArray, List.set_cons_zero, List.set_cons_succ, List.getElem_toArray, List.getElem_cons_succ, List.getElem_cons_zero]
      refine wpAnyH_take (i := 9) (v := ?_) rfl (by kernel_rfl) (by kernel_rfl) (by kernel_rfl) (fun _ _ _ h => h) (Or.inl ⟨by rfl, ?_⟩) hHeld ?_
      rotate_left
      · (intro w hSw; (try dsimp only at hSw); go_simp; try with_reducible rfl)
      try simp only [Act.put, List.setIfInBounds_toArray, List.set_cons_zero, List.set_cons_succ, List.getElem_toArray, List.getElem_cons_succ, List.getElem_cons_zero]
      refine wpAnyH_take (i := 10) (v := ?_) rfl (by kernel_rfl) (by kernel_rfl) (by kernel_rfl) (fun _ _ _ h => h) (Or.inl ⟨by rfl, ?_⟩) hHeld ?_
      rotate_left
      · (intro w hSw; (try dsimp only at hSw); go_simp; try with_reducible rfl)
      try simp only [Act.put, List.setIfInBounds_toArray, List.set_cons_zero, List.set_cons_succ, List.getElem_toArray, List.getElem_cons_succ, List.getElem_cons_zero]
      refine wpAnyH_take (i := 11) (v := ?_) rfl (by kernel_rfl) (by kernel_rfl) (by kernel_rfl) (fun _ _ _ h => h) (Or.inl ⟨by rfl, ?_⟩) hHeld ?_
      rotate_left
      · (intro w hSw; (try dsimp only at hSw); go_simp; try with_reducible rfl)
      try simp only [Act.put, List.setIfInBounds_toArray, List.set_cons_zero, List.set_cons_succ, List.getElem_toArray, List.getElem_cons_succ, List.getElem_cons_zero]
      refine wpAnyH_take (i := 12) (v := ?_) rfl (by kernel_rfl) (by kernel_rfl) (by kernel_rfl) (fun _ _ _ h => h) (Or.inl ⟨by rfl, ?_⟩) hHeld ?_
      rotate_left
      · (intro w hSw; (try dsimp only at hSw); go_simp; try with_reducible rfl)
      try simp only [Act.put, List.setIfInBounds_toArray, List.set_cons_zero, List.set_cons_succ, List.getElem_toArray, List.getElem_cons_succ, List.getElem_cons_zero]
      refine wpAnyH_take (i := 13) (v := ?_) rfl (by kernel_rfl) (by kernel_rfl) (by kernel_rfl) (fun _ _ _ h => h) (Or.inl ⟨by rfl, ?_⟩) hHeld ?_
      rotate_left
      · (intro w hSw; (try dsimp only at hSw); go_simp; try with_reducible rfl)
      try simp only [Act.put, List.setIfInBounds_toArray, List.set_cons_zero, List.set_cons_succ, List.getElem_toArray, List.getElem_cons_succ, List.getElem_cons_zero]
      refine wpAnyH_take (i := 15) (v := ?_) rfl (by kernel_rfl) (by kernel_rfl) (by kernel_rfl) (fun _ _ _ h => h) (Or.inl ⟨by rfl, ?_⟩) hHeld ?_
      rotate_left
      · (intro w hSw; (try dsimp only at hSw); go_simp; try with_reducible rfl)
      try simp only [Act.put, List.setIfInBounds_toArray, List.set_cons_zero, List.set_cons_succ, List.getElem_toArray, List.getElem_cons_succ, List.getElem_cons_zero]
      refine wpAnyH_take (i := 16) (v := ?_) rfl (by kernel_rfl) (by kernel_rfl) (by kernel_rfl) (fun _ _ _ h => h) (Or.inl ⟨by rfl, ?_⟩) hHeld ?_
      rotate_left
      · (intro w hSw; (try dsimp only at hSw); go_simp; try with_reducible rfl)
      try simp only [Act.put, List.setIfInBounds_toArray, List.set_cons_zero, List.set_cons_succ, List.getElem_toArray, List.getElem_cons_succ, List.getElem_cons_zero]
      refine wpAnyH_ready (rs := [7, 17]) (by kernel_rfl) (by decide) (AllReadyH.cons (o := _) rfl (fun K hK' => ?_) (AllReadyH.cons (o := _) rfl (fun K hK' => ?_) AllReadyH.nil))
      · skip
        obtain ⟨x1, x2⟩ := Kn.rowCell (hKd.front 1 rfl) HI.out
        go_simp
        clear x1 x2
        have KO3 := hKd
        have HG := Lib.hid (by first | exact HB.out _ _ HJ.out (KO3.sel [0, 1, 3] 99 (by decide) (by decide)) | exact HB.out _ _ HJ2.out (KO3.sel [0, 1, 3] 99 (by decide) (by decide)))
        refine hK'.out _ _ HG.out (fun hHeld2 => ?_)
        clear hK' hHeld
        have hHeld := hHeld2
        clear hHeld2
        try simp only [Act.put, List.setIfInBounds_toArray]
        refine wpAnyH_take (i := 14) (v := ?_) rfl (by kernel_rfl) (by kernel_rfl) (by kernel_rfl) (fun _ _ _ h => h) (Or.inl ⟨by rfl, ?_⟩) hHeld ?_
        rotate_left
        · (intro w hSw; (try dsimp only at hSw); go_simp; try with_reducible rfl)
        try simp only [Act.put, List.setIfInBounds_toArray, List.set_cons_zero, List.set_cons_succ, List.getElem_toArray, List.getElem_cons_succ, List.getElem_cons_zero]
        refine wpAnyH_ready (rs := [17]) (by kernel_rfl) (by decide) (AllReadyH.cons (o := _) rfl (fun K hK' => ?_) AllReadyH.nil)
        go_simp
        go_at_call 86
        refine (KM.out _).mono ?_
        rintro e wq ⟨rfl, rfl⟩
        have KO4 := KO3
        have HG := Lib.hid (by first | exact HB.out _ _ HJ.out (KO4.sel [0, 1, 3] 99 (by decide) (by decide)) | exact HB.out _ _ HJ2.out (KO4.sel [0, 1, 3] 99 (by decide) (by decide)))
        refine hK'.out _ _ HG.out (fun hHeld2 => ?_)
        clear hK' hHeld
        have hHeld := hHeld2
        clear hHeld2
        try simp only [Act.put, List.setIfInBounds_toArray]
        refine wpAnyH_take (i := 18) (v := ?_) rfl (by kernel_rfl) (by kernel_rfl) (by kernel_rfl) (fun _ _ _ h => h) (Or.inl ⟨by rfl, ?_⟩) hHeld ?_
        rotate_left
        · (intro w hSw; (try dsimp only at hSw); go_simp; try with_reducible rfl)
        try simp only [Act.put, List.setIfInBounds_toArray, List.set_cons_zero, List.set_cons_succ, List.getElem_toArray, List.getElem_cons_succ, List.getElem_cons_zero]
        refine wpAnyH_take (i := 19) (v := ?_) rfl (by kernel_rfl) (by kernel_rfl) (by kernel_rfl) (fun _ _ _ h => h) (Or.inl ⟨by rfl, ?_⟩) hHeld ?_
        rotate_left
        · (intro w hSw; (try dsimp only at hSw); go_simp; try with_reducible rfl)
        try simp only [Act.put, List.setIfInBounds_toArray, List.set_cons_zero, List.set_cons_succ, List.getElem_toArray, List.getElem_cons_succ, List.getElem_cons_zero]
        refine wpAnyH_ready (rs := [20]) (by kernel_rfl) (by decide) (AllReadyH.cons (o := _) rfl (fun K hK' => ?_) AllReadyH.nil)
        obtain ⟨x1, x2⟩ := Kn.rowCell (KO4.front 1 rfl) HI.out
        have KO5 := Kn.rowSt (KO4.front 1 rfl) k (.int .i64 v)
        go_simp
        clear x1 x2
        have HG := Lib.hid (by first | exact HB.out _ _ HJ.out (KO5.sel [1, 0, 3] 99 (by decide) (by decide)) | exact HB.out _ _ HJ2.out (KO5.sel [1, 0, 3] 99 (by decide) (by decide)))
        refine hK'.out _ _ HG.out (fun hHeld2 => ?_)
        clear hK' hHeld
        have hHeld := hHeld2
        clear hHeld2
        try simp only [Act.put, List.setIfInBounds_toArray]
        refine wpAnyH_done (by kernel_rfl) ?_ _
        go_wp2_with fail
        go_roundw
        case rel => exact ⟨k + 1, by omega, by go_num, by rw [HSET.out]; exact (KO5.sel [1, 0, 2, 3] 99 (by decide) (by decide))⟩
        case measure => simp [intOf] <;> omega
      · skip
        go_simp
        go_at_call 86
        refine (KM.out _).mono ?_
        rintro e wq ⟨rfl, rfl⟩
        have KO6 := hKd
        have HG := Lib.hid (by first | exact HB.out _ _ HJ.out (KO6.sel [0, 1, 3] 99 (by decide) (by decide)) | exact HB.out _ _ HJ2.out (KO6.sel [0, 1, 3] 99 (by decide) (by decide)))
        refine hK'.out _ _ HG.out (fun hHeld2 => ?_)
        clear hK' hHeld
        have hHeld := hHeld2
        clear hHeld2
        try simp only [Act.put, List.setIfInBounds_toArray]
        refine wpAnyH_ready (rs := [7]) (by kernel_rfl) (by decide) (AllReadyH.cons (o := _) rfl (fun K hK' => ?_) AllReadyH.nil)
        obtain ⟨x1, x2⟩ := Kn.rowCell (KO6.front 1 rfl) HI.out
        go_simp
        clear x1 x2
        have KO7 := KO6
        have HG := Lib.hid (by first | exact HB.out _ _ HJ.out (KO7.sel [0, 1, 3] 99 (by decide) (by decide)) | exact HB.out _ _ HJ2.out (KO7.sel [0, 1, 3] 99 (by decide) (by decide)))
        refine hK'.out _ _ HG.out (fun hHeld2 => ?_)
        clear hK' hHeld
        have hHeld := hHeld2
        clear hHeld2
        try simp only [Act.put, List.setIfInBounds_toArray]
        refine wpAnyH_take (i := 14) (v := ?_) rfl (by kernel_rfl) (by kernel_rfl) (by kernel_rfl) (fun _ _ _ h => h) (Or.inl ⟨by rfl, ?_⟩) hHeld ?_
        rotate_left
        · (intro w hSw; (try dsimp only at hSw); go_simp; try with_reducible rfl)
        try simp only [Act.put, List.setIfInBounds_toArray, List.set_cons_zero, List.set_cons_succ, List.getElem_toArray, List.getElem_cons_succ, List.getElem_cons_zero]
        refine wpAnyH_take (i := 18) (v := ?_) rfl (by kernel_rfl) (by kernel_rfl) (by kernel_rfl) (fun _ _ _ h => h) (Or.inl ⟨by rfl, ?_⟩) hHeld ?_
        rotate_left
        · (intro w hSw; (try dsimp only at hSw); go_simp; try with_reducible rfl)
        try simp only [Act.put, List.setIfInBounds_toArray, List.set_cons_zero, List.set_cons_succ, List.getElem_toArray, List.getElem_cons_succ, List.getElem_cons_zero]
        refine wpAnyH_take (i := 19) (v := ?_) rfl (by kernel_rfl) (by kernel_rfl) (by kernel_rfl) (fun _ _ _ h => h) (Or.inl ⟨by rfl, ?_⟩) hHeld ?_
        rotate_left
        · (intro w hSw; (try dsimp only at hSw); go_simp; try with_reducible rfl)
        try simp only [Act.put, List.setIfInBounds_toArray, List.set_cons_zero, List.set_cons_succ, List.getElem_toArray, List.getElem_cons_succ, List.getElem_cons_zero]
        refine wpAnyH_ready (rs := [20]) (by kernel_rfl) (by decide) (AllReadyH.cons (o := _) rfl (fun K hK' => ?_) AllReadyH.nil)
        obtain ⟨x1, x2⟩ := Kn.rowCell (KO7.front 1 rfl) HI.out
        have KO8 := Kn.rowSt (KO7.front 1 rfl) k (.int .i64 v)
        go_simp
        clear x1 x2
        have HG := Lib.hid (by first | exact HB.out _ _ HJ.out (KO8.sel [1, 0, 3] 99 (by decide) (by decide)) | exact HB.out _ _ HJ2.out (KO8.sel [1, 0, 3] 99 (by decide) (by decide)))
        refine hK'.out _ _ HG.out (fun hHeld2 => ?_)
        clear hK' hHeld
        have hHeld := hHeld2
        clear hHeld2
        try simp only [Act.put, List.setIfInBounds_toArray]
        refine wpAnyH_done (by kernel_rfl) ?_ _
        go_wp2_with fail
        go_roundw
        case rel => exact ⟨k + 1, by omega, by go_num, by rw [HSET.out]; exact (KO8.sel [1, 0, 2, 3] 99 (by decide) (by decide))⟩
        case measure => simp [intOf] <;> omega
    · have i1 : ¬ (k : Int) + 1 < (n : Int) := by omega
      have K5 := KR
      rw [show k = n - 1 by omega, HFU.out] at K5
      clear KR
      obtain ⟨-, -, -, z1, z2, z3, -⟩ := K5.cells
      go_wp2_with fail
      have K9 := ((K5.front 2 rfl).st 0 (.int .i64 (wd : Int))).st 1 (.slice (some ⟨gr, 0, none⟩) n ec)
      refine bodyPost.kn K9 ?_; clear K9; intro w9 K9
      obtain ⟨b1, b2, b3, -⟩ := K9.cells
      refine bodyPost_ret (v := .agg #[.int .i64 (wd : Int), .slice (some ⟨gr, 0, none⟩) n ec]) (by simp [results, Tryd.results52, go_sem, b1]) rfl ⟨_, _, rfl, ?_⟩
      exact K9.sel [2] 99 (by decide) (by decide)
set_option maxRecDepth 100000 in
set_option maxHeartbeats 3200000 in
theorem back_ok (wd n : Nat) (A : Option Addr) (c : Nat) (cs : List Int) (w : World) (h1 : 1 ≤ wd) (h12 : wd ≤ 12) (n0 : 0 < n) (n9 : n ≤ 9) (hr : RI w A n cs) (hv : InM (pw 10 wd) n (fnL cs)) :
    Calls Tryd.prog 58 #[.agg #[.int .i64 (wd : Int), .slice A n c]] w (EngR wd n ((List.range n).map (bkF (pw 10 wd) n (fnL cs))) w) := by
  have KC := Lib.hid (fun W (hW : Below w.heap.size w W) => copied_ok wd n A c cs W n0 n9 (hr.below hW))
  have KM := Lib.hid (fun W => modulus_any wd W h12)
  have hcs : cs = mixG (fnL cs) (bkF (pw 10 wd) n (fnL cs)) n (n - 1) := by
    have h := mixG_same (fnL cs) (bkF (pw 10 wd) n (fnL cs)) n (k := n - 1) (m := n) (fun i hi => by
      by_cases hk : i < n - 1
      · rw [if_pos hk, if_pos hi]
      · rw [if_neg hk, if_pos hi, bkF_last _ _ _ _ (by omega)])
    rw [h, mixG_full (fnL cs) _ n (k := n) (fun i hi hk => by omega), ← hr.1, map_fnL]
  have HFU := Lib.hid (mixG_zero (fnL cs) (bkF (pw 10 wd) n (fnL cs)) n)
  have hM := pw10_bd h1 h12
  obtain ⟨M, hMM⟩ : ∃ M, pw 10 wd = M := ⟨_, rfl⟩
  rw [hMM] at hcs hM hv
  rw [hMM] at HFU
  simp only [hMM] at KM ⊢
  have HV := Lib.hid hv
  unfold EngR rowNN at KC
  obtain ⟨f, hf⟩ : ∃ f, fnL cs = f := ⟨_, rfl⟩
  rw [hf] at hcs HFU HV ⊢
  rw [hcs] at KC
  clear hr hv hMM hf hcs
  have HBV := Lib.hid (HV.out.bk (show 0 < M by omega))
  obtain ⟨g, hg⟩ : ∃ g, w.heap.size = g := ⟨_, rfl⟩
  have K0 := ((Kn.nil w).al [.int .i64 (wd : Int), .slice A n c] 45).al [.int .i64 0, .slice none 0 0] 45
  simp only [World.size_alloc, hg] at K0
  go_enter Tryd.func58, Tryd.ntmps58
  go_upto_region 1 with fail
  try rw [hg]
  refine Code.wp.kn K0 ?_; clear K0 hg; intro w1 K1
  obtain ⟨a1, a2, a3, e1, e2, e3, -⟩ := K1.cells
  have HB := Lib.hid (fun W (h : Kn w [.blk g [.int .i64 (wd : Int), .slice A n c] 45] W) => box2 h)
  have hKd := K1.drew
  have HG := Lib.hid (HB.out _ (hKd.sel [1] 99 (by decide) (by decide)))
  clear a1 a2 a3 e1 e2 e3
  go_cut [3, 4] (fun pp mm wx => ∃ (g3 gr ec : Nat), pp = .pointer (some ⟨g3, 0, none⟩) ∧ mm = .int .i64 M ∧ Kn w [.blk g3 [.int .i64 (wd : Int), .slice (some ⟨gr, 0, none⟩) n ec] 45, .row (.slice (some ⟨gr, 0, none⟩) n ec) 2 1 n ((mixG f (bkF M n f) n (n - 1)).map (Value.int .i64)), .blk (g + 1) [.int .i64 0, .slice none 0 0] 45, .blk g [.int .i64 (wd : Int), .slice A n c] 45] wx)
  case first =>
    refine wp_region_held_drew (S := fun W => W.cell? ⟨g, 0, none⟩ = some (.int .i64 (wd : Int)) ∧ W.cell? ⟨g, 1, none⟩ = some (.slice A n c)) (by kernel_rfl) ?_ (fun hHeld => ?_)
    · exact HG.out
    try dsimp only
    generalize w1.drew = wd' at hKd HG hHeld ⊢
    clear K1
    refine wpAnyH_take (i := 0) (v := ?_) rfl (by kernel_rfl) (by kernel_rfl) (by kernel_rfl) (fun _ _ _ h => h) (Or.inl ⟨by rfl, ?_⟩) hHeld ?_
    rotate_left
    · (intro w hSw; (try dsimp only at hSw); go_simp; try with_reducible rfl)
    try simp only [Act.put, List.setIfInBounds_toArray, List.set_cons_zero, List.set_cons_succ, List.getElem_toArray, List.getElem_cons_succ, List.getElem_cons_zero]
    refine wpAnyH_take (i := 2) (v := ?_) rfl (by kernel_rfl) (by kernel_rfl) (by kernel_rfl) (fun _ _ _ h => h) (Or.inl ⟨by rfl, ?_⟩) hHeld ?_
    rotate_left
    · (intro w hSw; (try dsimp only at hSw); go_simp; try with_reducible rfl)
    try simp only [Act.put, List.setIfInBounds_toArray, List.set_cons_zero, List.set_cons_succ, List.getElem_toArray, List.getElem_cons_succ, List.getElem_cons_zero]
    refine wpAnyH_take (i := 3) (v := ?_) rfl (by kernel_rfl) (by kernel_rfl) (by kernel_rfl) (fun _ _ _ h => h) (Or.inl ⟨by rfl, ?_⟩) hHeld ?_
    rotate_left
    · (intro w hSw; (try dsimp only at hSw); go_simp; try with_reducible rfl)
    try simp only [Act.put, List.setIfInBounds_toArray, List.set_cons_zero, List.set_cons_succ, List.getElem_toArray, List.getElem_cons_succ, List.getElem_cons_zero]
    refine wpAnyH_ready (rs := [1, 5]) (by kernel_rfl) (by decide) (AllReadyH.cons (o := _) rfl (fun K hK' => ?_) (AllReadyH.cons (o := _) rfl (fun K hK' => ?_) AllReadyH.nil))
    · skip
      go_simp
      go_at_call 85
      refine (KC.out _ hKd.below).mono ?_
      rintro e wo9 ⟨gr9, ec9, rfl, hK⟩
      have KO9 := hKd.join hK
      clear hK
      have HG := Lib.hid (HB.out _ (KO9.sel [2] 99 (by decide) (by decide)))
      refine hK'.out _ _ HG.out (fun hHeld2 => ?_)
      clear hK' hHeld
      have hHeld := hHeld2
      clear hHeld2
      try simp only [Act.put, List.setIfInBounds_toArray]
      refine wpAnyH_ready (rs := [4, 5]) (by kernel_rfl) (by decide) (AllReadyH.cons (o := _) rfl (fun K hK' => ?_) (AllReadyH.cons (o := _) rfl (fun K hK' => ?_) AllReadyH.nil))
      · skip
        go_simp
        go_at_call 86
        refine (KM.out _).mono ?_
        rintro e wq ⟨rfl, rfl⟩
        have KO10 := KO9
        have HG := Lib.hid (HB.out _ (KO10.sel [2] 99 (by decide) (by decide)))
        refine hK'.out _ _ HG.out (fun hHeld2 => ?_)
        clear hK' hHeld
        have hHeld := hHeld2
        clear hHeld2
        try simp only [Act.put, List.setIfInBounds_toArray]
        refine wpAnyH_ready (rs := [5]) (by kernel_rfl) (by decide) (AllReadyH.cons (o := _) rfl (fun K hK' => ?_) AllReadyH.nil)
        go_simp
        have KO11 := KO10.al [.int .i64 0, .slice none 0 0] 45
        have HG := Lib.hid (HB.out _ (KO11.sel [3] 99 (by decide) (by decide)))
        refine hK'.out _ _ HG.out (fun hHeld2 => ?_)
        clear hK' hHeld
        have hHeld := hHeld2
        clear hHeld2
        try simp only [Act.put, List.setIfInBounds_toArray]
        generalize wo9.alloc (.cells #[.int .i64 0, .slice none 0 0] 45) = wo11 at KO11 hHeld ⊢
        obtain ⟨gal11, hgal11⟩ : ∃ g, wo9.heap.size = g := ⟨_, rfl⟩
        rw [hgal11] at KO11 ⊢
        clear hgal11
        refine wpAnyH_ready (rs := [6]) (by kernel_rfl) (by decide) (AllReadyH.cons (o := _) rfl (fun K hK' => ?_) AllReadyH.nil)
        obtain ⟨s1, s2, s3, -⟩ := (KO11.front 0 rfl).cells
        have KO12 := (((KO11.front 0 rfl).st 0 (.int .i64 (wd : Int))).st 1 (.slice (some ⟨gr9, 0, none⟩) n ec9))
        go_simp
        clear s1 s2 s3
        have HG := Lib.hid (HB.out _ (KO12.sel [3] 99 (by decide) (by decide)))
        refine hK'.out _ _ HG.out (fun hHeld2 => ?_)
        clear hK' hHeld
        have hHeld := hHeld2
        clear hHeld2
        try simp only [Act.put, List.setIfInBounds_toArray]
        refine wpAnyH_take (i := 7) (v := ?_) rfl (by kernel_rfl) (by kernel_rfl) (by kernel_rfl) (fun _ _ _ h => h) (Or.inl ⟨by rfl, ?_⟩) hHeld ?_
        rotate_left
        · (intro w hSw; (try dsimp only at hSw); go_simp; try with_reducible rfl)
        try simp only [Act.put, List.setIfInBounds_toArray, List.set_cons_zero, List.set_cons_succ, List.getElem_toArray, List.getElem_cons_succ, List.getElem_cons_zero]
        refine wpAnyH_done (by kernel_rfl) ?_ _
        go_wp2_with fail
        go_meet
        exact ⟨_, _, _, rfl, rfl, (KO12.sel [0, 1, 2, 3] 99 (by decide) (by decide))⟩
      · skip
        go_simp
        have KO13 := KO9.al [.int .i64 0, .slice none 0 0] 45
        have HG := Lib.hid (HB.out _ (KO13.sel [3] 99 (by decide) (by decide)))
        refine hK'.out _ _ HG.out (fun hHeld2 => ?_)
        clear hK' hHeld
        have hHeld := hHeld2
        clear hHeld2
        try simp only [Act.put, List.setIfInBounds_toArray]
        generalize wo9.alloc (.cells #[.int .i64 0, .slice none 0 0] 45) = wo13 at KO13 hHeld ⊢
        obtain ⟨gal13, hgal13⟩ : ∃ g, wo9.heap.size = g := ⟨_, rfl⟩
        rw [hgal13] at KO13 ⊢
        clear hgal13
        refine wpAnyH_ready (rs := [4]) (by kernel_rfl) (by decide) (AllReadyH.cons (o := _) rfl (fun K hK' => ?_) AllReadyH.nil)
        go_simp
        go_at_call 86
        refine (KM.out _).mono ?_
        rintro e wq ⟨rfl, rfl⟩
        have KO14 := KO13
        have HG := Lib.hid (HB.out _ (KO14.sel [3] 99 (by decide) (by decide)))
        refine hK'.out _ _ HG.out (fun hHeld2 => ?_)
        clear hK' hHeld
        have hHeld := hHeld2
        clear hHeld2
        try simp only [Act.put, List.setIfInBounds_toArray]
        refine wpAnyH_ready (rs := [6]) (by kernel_rfl) (by decide) (AllReadyH.cons (o := _) rfl (fun K hK' => ?_) AllReadyH.nil)
        obtain ⟨s1, s2, s3, -⟩ := (KO14.front 0 rfl).cells
        have KO15 := (((KO14.front 0 rfl).st 0 (.int .i64 (wd : Int))).st 1 (.slice (some ⟨gr9, 0, none⟩) n ec9))
        go_simp
        clear s1 s2 s3
        have HG := Lib.hid (HB.out _ (KO15.sel [3] 99 (by decide) (by decide)))
        refine hK'.out _ _ HG.out (fun hHeld2 => ?_)
        clear hK' hHeld
        have hHeld := hHeld2
        clear hHeld2
        try simp only [Act.put, List.setIfInBounds_toArray]
        refine wpAnyH_take (i := 7) (v := ?_) rfl (by kernel_rfl) (by kernel_rfl) (by kernel_rfl) (fun _ _ _ h => h) (Or.inl ⟨by rfl, ?_⟩) hHeld ?_
        rotate_left
        · (intro w hSw; (try dsimp only at hSw); go_simp; try with_reducible rfl)
        try simp only [Act.put, List.setIfInBounds_toArray, List.set_cons_zero, List.set_cons_succ, List.getElem_toArray, List.getElem_cons_succ, List.getElem_cons_zero]
        refine wpAnyH_done (by kernel_rfl) ?_ _
        go_wp2_with fail
        go_meet
        exact ⟨_, _, _, rfl, rfl, (KO15.sel [0, 1, 2, 3] 99 (by decide) (by decide))⟩
    · skip
      go_simp
      have KO16 := hKd.al [.int .i64 0, .slice none 0 0] 45
      have HG := Lib.hid (HB.out _ (KO16.sel [2] 99 (by decide) (by decide)))
      refine hK'.out _ _ HG.out (fun hHeld2 => ?_)
      clear hK' hHeld
      have hHeld := hHeld2
      clear hHeld2
      try simp only [Act.put, List.setIfInBounds_toArray]
      generalize wd'.alloc (.cells #[.int .i64 0, .slice none 0 0] 45) = wo16 at KO16 hHeld ⊢
      obtain ⟨gal16, hgal16⟩ : ∃ g, wd'.heap.size = g := ⟨_, rfl⟩
      rw [hgal16] at KO16 ⊢
      clear hgal16
      refine wpAnyH_ready (rs := [1]) (by kernel_rfl) (by decide) (AllReadyH.cons (o := _) rfl (fun K hK' => ?_) AllReadyH.nil)
      go_simp
      go_at_call 85
      refine (KC.out _ KO16.below).mono ?_
      rintro e wo17 ⟨gr17, ec17, rfl, hK⟩
      have KO17 := KO16.join hK
      clear hK
      have HG := Lib.hid (HB.out _ (KO17.sel [3] 99 (by decide) (by decide)))
      refine hK'.out _ _ HG.out (fun hHeld2 => ?_)
      clear hK' hHeld
      have hHeld := hHeld2
      clear hHeld2
      try simp only [Act.put, List.setIfInBounds_toArray]
      refine wpAnyH_ready (rs := [4]) (by kernel_rfl) (by decide) (AllReadyH.cons (o := _) rfl (fun K hK' => ?_) AllReadyH.nil)
      go_simp
      go_at_call 86
      refine (KM.out _).mono ?_
      rintro e wq ⟨rfl, rfl⟩
      have KO18 := KO17
      have HG := Lib.hid (HB.out _ (KO18.sel [3] 99 (by decide) (by decide)))
      refine hK'.out _ _ HG.out (fun hHeld2 => ?_)
      clear hK' hHeld
      have hHeld := hHeld2
      clear hHeld2
      try simp only [Act.put, List.setIfInBounds_toArray]
      refine wpAnyH_ready (rs := [6]) (by kernel_rfl) (by decide) (AllReadyH.cons (o := _) rfl (fun K hK' => ?_) AllReadyH.nil)
      obtain ⟨s1, s2, s3, -⟩ := (KO18.front 1 rfl).cells
      have KO19 := (((KO18.front 1 rfl).st 0 (.int .i64 (wd : Int))).st 1 (.slice (some ⟨gr17, 0, none⟩) n ec17))
      go_simp
      clear s1 s2 s3
      have HG := Lib.hid (HB.out _ (KO19.sel [3] 99 (by decide) (by decide)))
      refine hK'.out _ _ HG.out (fun hHeld2 => ?_)
      clear hK' hHeld
      have hHeld := hHeld2
      clear hHeld2
      try simp only [Act.put, List.setIfInBounds_toArray]
      refine wpAnyH_take (i := 7) (v := ?_) rfl (by kernel_rfl) (by kernel_rfl) (by kernel_rfl) (fun _ _ _ h => h) (Or.inl ⟨by rfl, ?_⟩) hHeld ?_
      rotate_left
      · (intro w hSw; (try dsimp only at hSw); go_simp; try with_reducible rfl)
      try simp only [Act.put, List.setIfInBounds_toArray, List.set_cons_zero, List.set_cons_succ, List.getElem_toArray, List.getElem_cons_succ, List.getElem_cons_zero]
      refine wpAnyH_done (by kernel_rfl) ?_ _
      go_wp2_with fail
      go_meet
      exact ⟨_, _, _, rfl, rfl, (KO19.sel [0, 1, 2, 3] 99 (by decide) (by decide))⟩
  case rest =>
    obtain ⟨g3, gr, ec, rfl, rfl, K4⟩ := hcut
    clear HB HG hKd K1
    obtain ⟨o1, o2, o3, -, -, -, e1, e2, e3, -⟩ := K4.cells
    have q0 : IntKind.i64.wrap ((n : Int) - 2) = ((n - 1 : Nat) : Int) - 1 := by rw [wrapI64 (by omega)]; omega
    go_wp2_with fail
    go_loopw [5] (fun kk wr => ∃ i : Nat, i < n ∧ kk = .int .i64 ((i : Int) - 1) ∧ Kn w [.blk g3 [.int .i64 (wd : Int), .slice (some ⟨gr, 0, none⟩) n ec] 45, .row (.slice (some ⟨gr, 0, none⟩) n ec) 2 1 n ((mixG f (bkF M n f) n i).map (Value.int .i64)), .blk (g + 1) [.int .i64 0, .slice none 0 0] 45, .blk g [.int .i64 (wd : Int), .slice A n c] 45] wr) (fun kk _ => (intOf kk + 1).toNat)
    case atStart => exact ⟨n - 1, by omega, by first | rfl | (congr 1; omega), K4⟩
    case round =>
      clear K4 o1 o2 o3 e1 e2 e3 q0
      obtain ⟨i', hi', hkk, KR⟩ := hrel
      obtain ⟨o1, o2, o3, -, -, -, e1, e2, e3, -⟩ := KR.cells
      rcases i' with _ | i
      · obtain rfl := hkk
        have K5 := KR
        rw [HFU.out] at K5
        clear KR
        obtain ⟨-, -, -, z1, z2, z3, -⟩ := K5.cells
        go_wp2_with fail
        have K9 := ((K5.front 2 rfl).st 0 (.int .i64 (wd : Int))).st 1 (.slice (some ⟨gr, 0, none⟩) n ec)
        refine bodyPost.kn K9 ?_; clear K9; intro w9 K9
        obtain ⟨b1, b2, b3, -⟩ := K9.cells
        refine bodyPost_ret (v := .agg #[.int .i64 (wd : Int), .slice (some ⟨gr, 0, none⟩) n ec]) (by simp [results, Tryd.results58, go_sem, b1]) rfl ⟨_, _, rfl, ?_⟩
        exact K9.sel [2] 99 (by decide) (by decide)
      · have hkk2 : (((i + 1 : Nat) : Int) - 1) = (i : Int) := by omega
        rw [hkk2] at hkk
        obtain rfl := hkk
        clear hkk2
        have i0 : (0 : Int) ≤ (i : Int) := by omega
        have i1 : (i : Int) + 1 < (n : Int) := by omega
        have i2 : (i : Int) < (n : Int) := by omega
        have i3 : (0 : Int) ≤ (i : Int) + 1 := by omega
        have hq1 : IntKind.i64.wrap ((i : Int) + 1) = (i : Int) + 1 := wrapI64 (by omega)
        obtain ⟨x, hx⟩ : ∃ x, f i = x := ⟨_, rfl⟩
        obtain ⟨y, hy⟩ : ∃ y, bkF M n f (i + 1) = y := ⟨_, rfl⟩
        obtain ⟨v, hvv⟩ : ∃ v, (x - y + M) % M = v := ⟨_, rfl⟩
        have hxb := HV.out i (by omega)
        have hyb := HBV.out (i + 1) hi'
        rw [hx] at hxb
        rw [hy] at hyb
        have hL1 : ((mixG f (bkF M n f) n (i + 1)).map (Value.int .i64))[i]? = some (.int .i64 x) := by rw [List.getElem?_map, mixG_at _ _ _ (by omega), if_pos (by omega), hx]; rfl
        have hL2 : ((mixG f (bkF M n f) n (i + 1)).map (Value.int .i64))[i + 1]? = some (.int .i64 y) := by rw [List.getElem?_map, mixG_at _ _ _ hi', if_neg (by omega), hy]; rfl
        have hL3 : (mixG f (bkF M n f) n i).map (Value.int .i64) = ((mixG f (bkF M n f) n (i + 1)).map (Value.int .i64)).set i (.int .i64 v) := by
          rw [← mixG_down, List.map_set]
          congr 2
          rw [bkF_step _ _ _ _ hi', hx, hy, hvv]
        have hw1 : IntKind.i64.wrap (x - y) = x - y := wrapI64 (by omega)
        have hw4 : IntKind.i64.wrap (x - y + M) = x - y + M := wrapI64 (by omega)
        have hm4 : M ≠ 0 := by omega
        have hm5 : ¬ M = 0 := hm4
        have hvb : 0 ≤ v ∧ v < M := by rw [← hvv]; exact ⟨Int.emod_nonneg _ hm4, Int.emod_lt_of_pos _ (by omega)⟩
        have hw2 : (x - y + M).tmod M = v := by rw [Int.tmod_eq_emod_of_nonneg (by omega), hvv]
        have hw3 : IntKind.i64.wrap v = v := wrapI64 (by omega)
        have HSET := Lib.hid hL3
        obtain ⟨L0, hL0⟩ : ∃ L, (mixG f (bkF M n f) n (i + 1)).map (Value.int .i64) = L := ⟨_, rfl⟩
        rw [hL0] at hL1 hL2 HSET KR
        have HI := Lib.hid hL1
        have HJ := Lib.hid hL2
        have HJ2 := Lib.hid (show (L0.set i (.int .i64 v))[i + 1]? = some (.int .i64 y) by rw [List.getElem?_set_ne (by omega)]; exact HJ.out)
        clear hL0 hL1 hL2 hL3 hx hy hvv hvb hxb hyb
        go_upto_region 5 with fail
        have HB := Lib.hid (fun (L : List Value) W (hL : L[(i + 1)]? = some (.int .i64 y)) (h : Kn w [.blk g3 [.int .i64 (wd : Int), .slice (some ⟨gr, 0, none⟩) n ec] 45, .row (.slice (some ⟨gr, 0, none⟩) n ec) 2 1 n L, .blk g [.int .i64 (wd : Int), .slice A n c] 45] W) => (And.intro (And.intro (box2 h).2 ((Kn.rowCell (h.front 1 rfl) hL).1)) (box2 (h.front 2 rfl)).1 : (W.cell? ⟨g3, 1, none⟩ = some (.slice (some ⟨gr, 0, none⟩) n ec) ∧ W.cell? ⟨gr, (i + 1), none⟩ = some (.int .i64 y)) ∧ W.cell? ⟨g, 0, none⟩ = some (.int .i64 (wd : Int))))
        have hKd := KR.drew
        have HG := Lib.hid (HB.out _ _ HJ.out (hKd.sel [0, 1, 3] 99 (by decide) (by decide)))
        clear o1 o2 o3 e1 e2 e3
        refine wp_region_held_drew (S := fun W => (W.cell? ⟨g3, 1, none⟩ = some (.slice (some ⟨gr, 0, none⟩) n ec) ∧ W.cell? ⟨gr, (i + 1), none⟩ = some (.int .i64 y)) ∧ W.cell? ⟨g, 0, none⟩ = some (.int .i64 (wd : Int))) (by kernel_rfl) ?_ (fun hHeld => ?_)
        · exact HG.out
        try dsimp only
        generalize wr.drew = wd' at hKd HG hHeld ⊢
        clear KR
        refine wpAnyH_take (i := 0) (v := ?_) rfl (by kernel_rfl) (by kernel_rfl) (by kernel_rfl) (fun _ _ _ h => h) (Or.inl ⟨by rfl, ?_⟩) hHeld ?_
        rotate_left
        · (intro w hSw; (try dsimp only at hSw); go_simp; try with_reducible rfl)
        try simp only [Act.put, List.setIfInBounds_toArray, List.set_cons_zero, List.set_cons_succ, List.getElem_toArray, List.getElem_cons_succ, List.getElem_cons_zero]
        refine wpAnyH_take (i := 1) (v := ?_) rfl (by kernel_rfl) (by kernel_rfl) (by kernel_rfl) (fun _ _ _ h => h) (Or.inl ⟨by rfl, ?_⟩) hHeld ?_
        rotate_left
        · (intro w hSw; (try dsimp only at hSw); go_simp; try with_reducible rfl)
        try simp only [Act.put, List.setIfInBounds_toArray, List.set_cons_zero, List.set_cons_succ, List.getElem_toArray, List.getElem_cons_succ, List.getElem_cons_zero]
        refine wpAnyH_take (i := 2) (v := ?_) rfl (by kernel_rfl) (by kernel_rfl) (by kernel_rfl) (fun _ _ _ h => h) (Or.inl ⟨by rfl, ?_⟩) hHeld ?_
        rotate_left
        · (intro w hSw; (try dsimp only at hSw); go_simp; try with_reducible rfl)
        try simp only [Act.put, List.setIfInBounds_toArray, List.set_cons_zero, List.set_cons_succ, List.getElem_toArray, List.getElem_cons_succ, List.getElem_cons_zero]
        refine wpAnyH_take (i := 3) (v := ?_) rfl (by kernel_rfl) (by kernel_rfl) (by kernel_rfl) (fun _ _ _ h => h) (Or.inl ⟨by rfl, ?_⟩) hHeld ?_
        rotate_left
        · (intro w hSw; (try dsimp only at hSw); go_simp; try with_reducible rfl)
        try simp only [Act.put, List.setIfInBounds_toArray, List.set_cons_zero, List.set_cons_succ, List.getElem_toArray, List.getElem_cons_succ, List.getElem_cons_zero]
        refine wpAnyH_take (i := 4) (v := ?_) rfl (by kernel_rfl) (by kernel_rfl) (by kernel_rfl) (fun _ _ _ h => h) (Or.inl ⟨by rfl, ?_⟩) hHeld ?_
        rotate_left
        · (intro w hSw; (try dsimp only at hSw); go_simp; try with_reducible rfl)
        try simp only [Act.put, List.setIfInBounds_toArray, List.set_cons_zero, List.set_cons_succ, List.getElem_toArray, List.getElem_cons_succ, List.getElem_cons_zero]
        refine wpAnyH_take (i := 5) (v := ?_) rfl (by kernel_rfl) (by kernel_rfl) (by kernel_rfl) (fun _ _ _ h => h) (Or.inl ⟨by rfl, ?_⟩) hHeld ?_
        rotate_left
        · (intro w hSw; (try dsimp only at hSw); go_simp; try with_reducible rfl)
        try simp only [Act.put, List.setIfInBounds_toArray, List.set_cons_zero, List.set_cons_succ, List.getElem_toArray, List.getElem_cons_succ, List.getElem_cons_zero]
        refine wpAnyH_take (i := 6) (v := ?_) rfl (by kernel_rfl) (by kernel_rfl) (by kernel_rfl) (fun _ _ _ h => h) (Or.inl ⟨by rfl, ?_⟩) hHeld ?_
        rotate_left
        · (intro w hSw; (try dsimp only at hSw); go_simp; try with_reducible rfl)
        try simp only [Act.put, List.setIfInBounds_toArray, List.set_cons_zero, List.set_cons_succ, List.getElem_toArray, List.getElem_cons_succ, List.getElem_cons_zero]
        refine wpAnyH_take (i := 8) (v := ?_) rfl (by kernel_rfl) (by kernel_rfl) (by kernel_rfl) (fun _ _ _ h => h) (Or.inl ⟨by rfl, ?_⟩) hHeld ?_
        rotate_left
        · (intro w hSw; (try dsimp only at hSw); go_simp; try with_reducible rfl)
        try simp only [Act.put, List.setIfInBounds_toArray, List.set_cons_zero, List.set_cons_succ, List.getElem_toArray, List.getElem_cons_succ, List.getElem_cons_zero]
        refine wpAnyH_take (i := 9) (v := ?_) rfl (by kernel_rfl) (by kernel_rfl) (by kernel_rfl) (fun _ _ _ h => h) (Or.inl ⟨by rfl, ?_⟩) hHeld ?_
        rotate_left
        · (intro w hSw; (try dsimp only at hSw); go_simp; try with_reducible rfl)
        try simp only [Act.put, List.setIfInBounds_toArray, List.set_cons_zero, List.set_cons_succ, List.getElem_toArray, List.getElem_cons_succ, List.getElem_cons_zero]
        refine wpAnyH_take (i := 10) (v := ?_) rfl (by kernel_rfl) (by kernel_rfl) (by kernel_rfl) (fun _ _ _ h => h) (Or.inl ⟨by rfl, ?_⟩) hHeld ?_
        rotate_left
        · (intro w hSw; (try dsimp only at hSw); go_simp; try with_reducible rfl)
        try simp only [Act.put, List.setIfInBounds_toArray, List.set_cons_zero, List.set_cons_succ, List.getElem_toArray, List.getElem_cons_succ, List.getElem_cons_zero]
        refine wpAnyH_take (i := 11) (v := ?_) rfl (by kernel_rfl) (by kernel_rfl) (by kernel_rfl) (fun _ _ _ h => h) (Or.inl ⟨by rfl, ?_⟩) hHeld ?_
        rotate_left
        · (intro w hSw; (try dsimp only at hSw); go_simp; try with_reducible rfl)
        try simp only [Act.put, List.setIfInBounds_toArray, List.set_cons_zero, List.set_cons_succ, List.getElem_toArray, List.getElem_cons_succ, List.getElem_cons_zero]
        refine wpAnyH_take (i := 12) (v := ?_) rfl (by kernel_rfl) (by kernel_rfl) (by kernel_rfl) (fun _ _ _ h => h) (Or.inl ⟨by rfl, ?_⟩) hHeld ?_
        rotate_left
        · (intro w hSw; (try dsimp only at hSw); go_simp; try with_reducible rfl)
        try simp only [Act.put, List.setIfInBounds_toArray, List.set_cons_zero, List.set_cons_succ, List.getElem_toArray, List.getElem_cons_succ, List.getElem_cons_zero]
        refine wpAnyH_take (i := 13) (v := ?_) rfl (by kernel_rfl) (by kernel_rfl) (by kernel_rfl) (fun _ _ _ h => h) (Or.inl ⟨by rfl, ?_⟩) hHeld ?_
        rotate_left
        · (intro w hSw; (try dsimp only at hSw); go_simp; try with_reducible rfl)
        try simp only [Act.put, List.setIfInBounds_toArray, List.set_cons_zero, List.set_cons_succ, List.getElem_toArray, List.getElem_cons_succ, List.getElem_cons_zero]
        refine wpAnyH_take (i := 15) (v := ?_) rfl (by kernel_rfl) (by kernel_rfl) (by kernel_rfl) (fun _ _ _ h => h) (Or.inl ⟨by rfl, ?_⟩) hHeld ?_
        rotate_left
        · (intro w hSw; (try dsimp only at hSw); go_simp; try with_reducible rfl)
        try simp only [Act.put, List.setIfInBounds_toArray, List.set_cons_zero, List.set_cons_succ, List.getElem_toArray, List.getElem_cons_succ, List.getElem_cons_zero]
        refine wpAnyH_take (i := 17) (v := ?_) rfl (by kernel_rfl) (by kernel_rfl) (by kernel_rfl) (fun _ _ _ h => h) (Or.inl ⟨by rfl, ?_⟩) hHeld ?_
        rotate_left
        · (intro w hSw; (try dsimp only at hSw); go_simp; try with_reducible rfl)
        try simp only [Act.put, List.setIfInBounds_toArray, List.set_cons_zero, List.set_cons_succ, List.getElem_toArray, List.getElem_cons_succ, List.getElem_cons_zero]
        refine wpAnyH_ready (rs := [7]) (by kernel_rfl) (by decide) (AllReadyH.cons (o := _) rfl (fun K hK' => ?_) AllReadyH.nil)
        obtain ⟨x1, x2⟩ := Kn.rowCell (hKd.front 1 rfl) HI.out
        go_simp
        clear x1 x2
        have KO20 := hKd
        have HG := Lib.hid (by first | exact HB.out _ _ HJ.out (KO20.sel [0, 1, 3] 99 (by decide) (by decide)) | exact HB.out _ _ HJ2.out (KO20.sel [0, 1, 3] 99 (by decide) (by decide)))
        refine hK'.out _ _ HG.out (fun hHeld2 => ?_)
        clear hK' hHeld
        have hHeld := hHeld2
        clear hHeld2
        try simp only [Act.put, List.setIfInBounds_toArray]
        refine wpAnyH_take (i := 14) (v := ?_) rfl (by kernel_rfl) (by kernel_rfl) (by kernel_rfl) (fun _ _ _ h => h) (Or.inl ⟨by rfl, ?_⟩) hHeld ?_
        rotate_left
        · (intro w hSw; (try dsimp only at hSw); go_simp; try with_reducible rfl)
        try simp only [Act.put, List.setIfInBounds_toArray, List.set_cons_zero, List.set_cons_succ, List.getElem_toArray, List.getElem_cons_succ, List.getElem_cons_zero]
        refine wpAnyH_take (i := 16) (v := ?_) rfl (by kernel_rfl) (by kernel_rfl) (by kernel_rfl) (fun _ _ _ h => h) (Or.inl ⟨by rfl, ?_⟩) hHeld ?_
        rotate_left
        · (intro w hSw; (try dsimp only at hSw); go_simp; try with_reducible rfl)
        try simp only [Act.put, List.setIfInBounds_toArray, List.set_cons_zero, List.set_cons_succ, List.getElem_toArray, List.getElem_cons_succ, List.getElem_cons_zero]
        refine wpAnyH_take (i := 18) (v := ?_) rfl (by kernel_rfl) (by kernel_rfl) (by kernel_rfl) (fun _ _ _ h => h) (Or.inl ⟨by rfl, ?_⟩) hHeld ?_
        rotate_left
        · (intro w hSw; (try dsimp only at hSw); go_simp; try with_reducible rfl)
        try simp only [Act.put, List.setIfInBounds_toArray, List.set_cons_zero, List.set_cons_succ, List.getElem_toArray, List.getElem_cons_succ, List.getElem_cons_zero]
        refine wpAnyH_take (i := 19) (v := ?_) rfl (by kernel_rfl) (by kernel_rfl) (by kernel_rfl) (fun _ _ _ h => h) (Or.inl ⟨by rfl, ?_⟩) hHeld ?_
        rotate_left
        · (intro w hSw; (try dsimp only at hSw); go_simp; try with_reducible rfl)
        try simp only [Act.put, List.setIfInBounds_toArray, List.set_cons_zero, List.set_cons_succ, List.getElem_toArray, List.getElem_cons_succ, List.getElem_cons_zero]
        refine wpAnyH_ready (rs := [20]) (by kernel_rfl) (by decide) (AllReadyH.cons (o := _) rfl (fun K hK' => ?_) AllReadyH.nil)
        obtain ⟨x1, x2⟩ := Kn.rowCell (KO20.front 1 rfl) HI.out
        have KO21 := Kn.rowSt (KO20.front 1 rfl) i (.int .i64 v)
        go_simp
        clear x1 x2
        have HG := Lib.hid (by first | exact HB.out _ _ HJ.out (KO21.sel [1, 0, 3] 99 (by decide) (by decide)) | exact HB.out _ _ HJ2.out (KO21.sel [1, 0, 3] 99 (by decide) (by decide)))
        refine hK'.out _ _ HG.out (fun hHeld2 => ?_)
        clear hK' hHeld
        have hHeld := hHeld2
        clear hHeld2
        try simp only [Act.put, List.setIfInBounds_toArray]
        refine wpAnyH_done (by kernel_rfl) ?_ _
        go_wp2_with fail
        go_roundw
        case rel => exact ⟨i, by omega, by go_num, by rw [HSET.out]; exact (KO21.sel [1, 0, 2, 3] 99 (by decide) (by decide))⟩
        case measure => simp [intOf] <;> omega
set_option maxRecDepth 100000 in
set_option maxHeartbeats 3200000 in
theorem half_ok (wd n : Nat) (A : Option Addr) (c : Nat) (cs : List Int) (first : Nat) (hf12 : first = 1 ∨ first = 2) (w : World) (h1 : 1 ≤ wd) (h12 : wd ≤ 12) (n0 : 0 < n) (n9 : n ≤ 9) (hr : RI w A n cs) (hv : InM (pw 10 wd) n (fnL cs)) :
    Calls Tryd.prog 55 #[.agg #[.int .i64 (wd : Int), .slice A n c], .int .i64 (first : Int)] w (EngR wd n ((List.range n).map (haF (pw 10 wd) n first (fnL cs))) w) := by
  have KC := Lib.hid (fun W (hW : Below w.heap.size w W) => copied_ok wd n A c cs W n0 n9 (hr.below hW))
  have KM := Lib.hid (fun W => modulus_any wd W h12)
  have hcs : cs = mixG (haF (pw 10 wd) n first (fnL cs)) (fnL cs) n (first - 1) := by
    have h := mixG_same (haF (pw 10 wd) n first (fnL cs)) (fnL cs) n (k := first - 1) (m := 0) (fun i hi => by
      rw [if_neg (show ¬ i < 0 by omega)]
      by_cases hk : i < first - 1
      · rw [if_pos hk]; unfold haF; rw [if_neg (fun h => by omega)]
      · rw [if_neg hk])
    rw [h, mixG_zero, ← hr.1, map_fnL]
  have HFU := Lib.hid (fun i (hi : n ≤ i + 1) => mixG_full (haF (pw 10 wd) n first (fnL cs)) (fnL cs) n (k := i) (fun j hj hk => by unfold haF; rw [if_neg (fun h => by omega)]))
  have hM := pw10_bd h1 h12
  obtain ⟨M, hMM⟩ : ∃ M, pw 10 wd = M := ⟨_, rfl⟩
  rw [hMM] at hcs hM hv
  simp only [hMM] at HFU
  simp only [hMM] at KM ⊢
  have HV := Lib.hid hv
  unfold EngR rowNN at KC
  obtain ⟨f, hf⟩ : ∃ f, fnL cs = f := ⟨_, rfl⟩
  rw [hf] at hcs HV ⊢
  simp only [hf] at HFU
  rw [hcs] at KC
  clear hr hv hMM hf hcs
  obtain ⟨g, hg⟩ : ∃ g, w.heap.size = g := ⟨_, rfl⟩
  have K0 := ((Kn.nil w).al [.int .i64 (wd : Int), .slice A n c] 45).al [.int .i64 0, .slice none 0 0] 45
  simp only [World.size_alloc, hg] at K0
  go_enter Tryd.func55, Tryd.ntmps55
  go_upto_region 1 with fail
  try rw [hg]
  refine Code.wp.kn K0 ?_; clear K0 hg; intro w1 K1
  obtain ⟨a1, a2, a3, e1, e2, e3, -⟩ := K1.cells
  go_upto_region 2 with (go_at_call 85; refine (KC.out _ K1.below).mono ?_; rintro e w2 ⟨gr, ec, rfl, hK⟩; have K2 := (K1.join hK).al [.int .i64 (wd : Int), .slice (some ⟨gr, 0, none⟩) n ec] 45; clear hK K1 a1 a2 a3 e1 e2 e3)
  obtain ⟨g3, hg⟩ : ∃ g, w2.heap.size = g := ⟨_, rfl⟩
  rw [hg] at K2
  try rw [hg]
  refine Code.wp.kn K2 ?_; clear K2 hg; intro w3 K3
  have K4 := K3.sel [0, 1, 2, 3] 99 (by decide) (by decide)
  clear K3
  obtain ⟨o1, o2, o3, -, -, -, e1, e2, e3, -⟩ := K4.cells
  have q0 : (first : Int) = ((first - 1 : Nat) : Int) + 1 := by omega
  go_wp2_with fail
  go_loopw [6] (fun kk wr => ∃ i : Nat, i ≤ n + 1 ∧ kk = .int .i64 ((i : Int) + 1) ∧ first ≤ i + 1 ∧ (i + 1 - first) % 2 = 0 ∧ Kn w [.blk g3 [.int .i64 (wd : Int), .slice (some ⟨gr, 0, none⟩) n ec] 45, .row (.slice (some ⟨gr, 0, none⟩) n ec) 2 1 n ((mixG (haF M n first f) f n i).map (Value.int .i64)), .blk (g + 1) [.int .i64 0, .slice none 0 0] 45, .blk g [.int .i64 (wd : Int), .slice A n c] 45] wr) (fun kk _ => n + 5 - (intOf kk).toNat)
  case atStart => exact ⟨first - 1, by omega, by first | rfl | exact congrArg _ q0, by omega, by omega, K4⟩
  case round =>
    clear K4 o1 o2 o3 e1 e2 e3 q0
    obtain ⟨i, hin, rfl, hf1, hf2, KR⟩ := hrel
    obtain ⟨o1, o2, o3, -, -, -, e1, e2, e3, -⟩ := KR.cells
    by_cases hk1 : i + 1 < n
    · have i1 : (i : Int) + 1 < (n : Int) := by omega
      have i0 : (0 : Int) ≤ (i : Int) := by omega
      have i3 : (0 : Int) ≤ (i : Int) + 1 := by omega
      have i2 : (i : Int) < (n : Int) := by omega
      have hq1 : IntKind.i64.wrap ((i : Int) + 1 - 1) = (i : Int) := by rw [wrapI64 (by omega)]; omega
      have hq2 : ((i : Int) + 1 - 1) = (i : Int) := by omega
      have hq3 : IntKind.i64.wrap (i : Int) = (i : Int) := wrapI64 (by omega)
      have hq4 : IntKind.i64.wrap ((i : Int) + 1 + 2) = (i : Int) + 1 + 2 := wrapI64 (by omega)
      obtain ⟨x, hx⟩ : ∃ x, f i = x := ⟨_, rfl⟩
      obtain ⟨y, hy⟩ : ∃ y, f (i + 1) = y := ⟨_, rfl⟩
      obtain ⟨v, hvv⟩ : ∃ v, (x + y) % M = v := ⟨_, rfl⟩
      have hxb := HV.out i (by omega)
      have hyb := HV.out (i + 1) hk1
      rw [hx] at hxb
      rw [hy] at hyb
      have hL1 : ((mixG (haF M n first f) f n i).map (Value.int .i64))[i]? = some (.int .i64 x) := by rw [List.getElem?_map, mixG_at _ _ _ (by omega), if_neg (by omega), hx]; rfl
      have hL2 : ((mixG (haF M n first f) f n i).map (Value.int .i64))[i + 1]? = some (.int .i64 y) := by rw [List.getElem?_map, mixG_at _ _ _ hk1, if_neg (by omega), hy]; rfl
      have hL3 : (mixG (haF M n first f) f n (i + 2)).map (Value.int .i64) = ((mixG (haF M n first f) f n i).map (Value.int .i64)).set i (.int .i64 v) := by
        have h := mixG_same (haF M n first f) f n (k := i + 2) (m := i + 1) (fun j hj => by
          by_cases e : j = i + 1
          · subst e
            rw [if_pos (by omega), if_neg (by omega)]
            unfold haF; rw [if_neg (fun h => by omega)]
          · by_cases e2 : j < i + 1
            · rw [if_pos (by omega), if_pos e2]
            · rw [if_neg (by omega), if_neg e2])
        rw [h, ← mixG_set, List.map_set]
        congr 2
        unfold haF
        rw [if_pos ⟨hk1, hf1, hf2⟩, hx, hy, hvv]
      have hw1 : IntKind.i64.wrap (x + y) = x + y := wrapI64 (by omega)
      have hm4 : M ≠ 0 := by omega
      have hm5 : ¬ M = 0 := hm4
      have hvb : 0 ≤ v ∧ v < M := by rw [← hvv]; exact ⟨Int.emod_nonneg _ hm4, Int.emod_lt_of_pos _ (by omega)⟩
      have hw2 : (x + y).tmod M = v := by rw [Int.tmod_eq_emod_of_nonneg (by omega), hvv]
      have hw3 : IntKind.i64.wrap v = v := wrapI64 (by omega)
      have HSET := Lib.hid hL3
      obtain ⟨L0, hL0⟩ : ∃ L, (mixG (haF M n first f) f n i).map (Value.int .i64) = L := ⟨_, rfl⟩
      rw [hL0] at hL1 hL2 HSET KR
      have HI := Lib.hid hL1
      have HJ := Lib.hid hL2
      have HJ2 := Lib.hid (show (L0.set i (.int .i64 v))[i + 1]? = some (.int .i64 y) by rw [List.getElem?_set_ne (by omega)]; exact HJ.out)
      clear hL0 hL1 hL2 hL3 hx hy hvv hvb hxb hyb
      go_upto_region 5 with fail
      have HB := Lib.hid (fun (L : List Value) W (hL : L[(i + 1)]? = some (.int .i64 y)) (h : Kn w [.blk g3 [.int .i64 (wd : Int), .slice (some ⟨gr, 0, none⟩) n ec] 45, .row (.slice (some ⟨gr, 0, none⟩) n ec) 2 1 n L, .blk g [.int .i64 (wd : Int), .slice A n c] 45] W) => (And.intro (And.intro (box2 h).2 ((Kn.rowCell (h.front 1 rfl) hL).1)) (box2 (h.front 2 rfl)).1 : (W.cell? ⟨g3, 1, none⟩ = some (.slice (some ⟨gr, 0, none⟩) n ec) ∧ W.cell? ⟨gr, (i + 1), none⟩ = some (.int .i64 y)) ∧ W.cell? ⟨g, 0, none⟩ = some (.int .i64 (wd : Int))))
      have hKd := KR.drew
      have HG := Lib.hid (HB.out _ _ HJ.out (hKd.sel [0, 1, 3] 99 (by decide) (by decide)))
      clear o1 o2 o3 e1 e2 e3
      refine wp_region_held_drew (S := fun W => (W.cell? ⟨g3, 1, none⟩ = some (.slice (some ⟨gr, 0, none⟩) n ec) ∧ W.cell? ⟨gr, (i + 1), none⟩ = some (.int .i64 y)) ∧ W.cell? ⟨g, 0, none⟩ = some (.int .i64 (wd : Int))) (by kernel_rfl) ?_ (fun hHeld => ?_)
      · exact HG.out
      try dsimp only
      generalize wr.drew = wd' at hKd HG hHeld ⊢
      clear KR
      refine wpAnyH_take (i := 0) (v := ?_) rfl (by kernel_rfl) (by kernel_rfl) (by kernel_rfl) (fun _ _ _ h => h) (Or.inl ⟨by rfl, ?_⟩) hHeld ?_
      rotate_left
      · (intro w hSw; (try dsimp only at hSw); go_simp; try with_reducible rfl)
      try simp only [Act.put, List.setIfInBounds_toArray, List.set_cons_zero, List.set_cons_succ, List.getElem_toArray, List.getElem_cons_succ, List.getElem_cons_zero]
      refine wpAnyH_take (i := 1) (v := ?_) rfl (by kernel_rfl) (by kernel_rfl) (by kernel_rfl) (fun _ _ _ h => h) (Or.inl ⟨by rfl, ?_⟩) hHeld ?_
      rotate_left
      · (intro w hSw; (try dsimp only at hSw); go_simp; try with_reducible rfl)
      try simp only [Act.put, List.setIfInBounds_toArray, List.set_cons_zero, List.set_cons_succ, List.getElem_toArray, List.getElem_cons_succ, List.getElem_cons_zero]
      refine wpAnyH_take (i := 2) (v := ?_) rfl (by kernel_rfl) (by kernel_rfl) (by kernel_rfl) (fun _ _ _ h => h) (Or.inl ⟨by rfl, ?_⟩) hHeld ?_
      rotate_left
      · (intro w hSw; (try dsimp only at hSw); go_simp; try with_reducible rfl)
      try simp only [Act.put, List.setIfInBounds_toArray, List.set_cons_zero, List.set_cons_succ, List.getElem_toArray, List.getElem_cons_succ, List.getElem_cons_zero]
      refine wpAnyH_take (i := 3) (v := ?_) rfl (by kernel_rfl) (by kernel_rfl) (by kernel_rfl) (fun _ _ _ h => h) (Or.inl ⟨by rfl, ?_⟩) hHeld ?_
      rotate_left
      · (intro w hSw; (try dsimp only at hSw); go_simp; try with_reducible rfl)
      try simp only [Act.put, List.setIfInBounds_toArray, List.set_cons_zero, List.set_cons_succ, List.getElem_toArray, List.getElem_cons_succ, List.getElem_cons_zero]
      refine wpAnyH_take (i := 4) (v := ?_) rfl (by kernel_rfl) (by kernel_rfl) (by kernel_rfl) (fun _ _ _ h => h) (Or.inl ⟨by rfl, ?_⟩) hHeld ?_
      rotate_left
      · (intro w hSw; (try dsimp only at hSw); go_simp; try with_reducible rfl)
      try simp only [Act.put, List.setIfInBounds_toArray, List.set_cons_zero, List.set_cons_succ, List.getElem_toArray, List.getElem_cons_succ, List.getElem_cons_zero]
      refine wpAnyH_take (i := 5) (v := ?_) rfl (by kernel_rfl) (by kernel_rfl) (by kernel_rfl) (fun _ _ _ h => h) (Or.inl ⟨by rfl, ?_⟩) hHeld ?_
      rotate_left
      · (intro w hSw; (try dsimp only at hSw); go_simp; try with_reducible rfl)
      try simp only [Act.put, List.setIfInBounds_toArray, List.set_cons_zero, List.set_cons_succ, List.getElem_toArray, List.getElem_cons_succ, List.getElem_cons_zero]
      refine wpAnyH_take (i := 6) (v := ?_) rfl (by kernel_rfl) (by kernel_rfl) (by kernel_rfl) (fun _ _ _ h => h) (Or.inl ⟨by rfl, ?_⟩) hHeld ?_
      rotate_left
      · (intro w hSw; (try dsimp only at hSw); go_simp; try with_reducible rfl)
      try simp only [Act.put, List.setIfInBounds_toArray, List.set_cons_zero, List.set_cons_succ, List.getElem_toArray, List.getElem_cons_succ, List.getElem_cons_zero]
      refine wpAnyH_take (i := 7) (v := ?_) rfl (by kernel_rfl) (by kernel_rfl) (by kernel_rfl) (fun _ _ _ h => h) (Or.inl ⟨by rfl, ?_⟩) hHeld ?_
      rotate_left
      · (intro w hSw; (try dsimp only at hSw); go_simp; try with_reducible rfl)
      try simp only [Act.put, List.setIfInBounds_toArray, List.set_cons_zero, List.set_cons_succ, List.getElem_toArray, List.getElem_cons_succ, List.getElem_cons_zero]
      refine wpAnyH_take (i := 8) (v := ?_) rfl (by kernel_rfl) (by kernel_rfl) (by kernel_rfl) (fun _ _ _ h => h) (Or.inl ⟨by rfl, ?_⟩) hHeld ?_
      rotate_left
      · (intro w hSw; (try dsimp only at hSw); go_simp; try with_reducible rfl)
      try simp only [Act.put, List.setIfInBounds_toArray, List.set_cons_zero, List.set_cons_succ, List.getElem_toArray, List.getElem_cons_succ, List.getElem_cons_zero]
      refine wpAnyH_take (i := 10) (v := ?_) rfl (by kernel_rfl) (by kernel_rfl) (by kernel_rfl) (fun _ _ _ h => h) (Or.inl ⟨by rfl, ?_⟩) hHeld ?_
      rotate_left
      · (intro w hSw; (try dsimp only at hSw); go_simp; try with_reducible rfl)
      try simp only [Act.put, List.setIfInBounds_toArray, List.set_cons_zero, List.set_cons_succ, List.getElem_toArray, List.getElem_cons_succ, List.getElem_cons_zero]
      refine wpAnyH_take (i := 11) (v := ?_) rfl (by kernel_rfl) (by kernel_rfl) (by kernel_rfl) (fun _ _ _ h => h) (Or.inl ⟨by rfl, ?_⟩) hHeld ?_
      rotate_left
      · (intro w hSw; (try dsimp only at hSw); go_simp; try with_reducible rfl)
      try simp only [Act.put, List.setIfInBounds_toArray, List.set_cons_zero, List.set_cons_succ, List.getElem_toArray, List.getElem_cons_succ, List.getElem_cons_zero]
      refine wpAnyH_take (i := 12) (v := ?_) rfl (by kernel_rfl) (by kernel_rfl) (by kernel_rfl) (fun _ _ _ h => h) (Or.inl ⟨by rfl, ?_⟩) hHeld ?_
      rotate_left
      · (intro w hSw; (try dsimp only at hSw); go_simp; try with_reducible rfl)
      try simp only [Act.put, List.setIfInBounds_toArray, List.set_cons_zero, List.set_cons_succ, List.getElem_toArray, List.getElem_cons_succ, List.getElem_cons_zero]
      refine wpAnyH_take (i := 13) (v := ?_) rfl (by kernel_rfl) (by kernel_rfl) (by kernel_rfl) (fun _ _ _ h => h) (Or.inl ⟨by rfl, ?_⟩) hHeld ?_
      rotate_left
      · (intro w hSw; (try dsimp only at hSw); go_simp; try with_reducible rfl)
      try simp only [Act.put, List.setIfInBounds_toArray, List.set_cons_zero, List.set_cons_succ, List.getElem_toArray, List.getElem_cons_succ, List.getElem_cons_zero]
      refine wpAnyH_take (i := 14) (v := ?_) rfl (by kernel_rfl) (by kernel_rfl) (by kernel_rfl) (fun _ _ _ h => h) (Or.inl ⟨by rfl, ?_⟩) hHeld ?_
      rotate_left
      · (intro w hSw; (try dsimp only at hSw); go_simp; try with_reducible rfl)
      try simp only [Act.put, List.setIfInBounds_toArray, List.set_cons_zero, List.set_cons_succ, List.getElem_toArray, List.getElem_cons_succ, List.getElem_cons_zero]
      refine wpAnyH_take (i := 16) (v := ?_) rfl (by kernel_rfl) (by kernel_rfl) (by kernel_rfl) (fun _ _ _ h => h) (Or.inl ⟨by rfl, ?_⟩) hHeld ?_
      rotate_left
      · (intro w hSw; (try dsimp only at hSw); go_simp; try with_reducible rfl)
      try simp only [Act.put, List.setIfInBounds_toArray, List.set_cons_zero, List.set_cons_succ, List.getElem_toArray, List.getElem_cons_succ, List.getElem_cons_zero]
      refine wpAnyH_take (i := 17) (v := ?_) rfl (by kernel_rfl) (by kernel_rfl) (by kernel_rfl) (fun _ _ _ h => h) (Or.inl ⟨by rfl, ?_⟩) hHeld ?_
      rotate_left
      · (intro w hSw; (try dsimp only at hSw); go_simp; try with_reducible rfl)
      try simp only [Act.put, List.setIfInBounds_toArray, List.set_cons_zero, List.set_cons_succ, List.getElem_toArray, List.getElem_cons_succ, List.getElem_cons_zero]
      refine wpAnyH_ready (rs := [9, 18]) (by kernel_rfl) (by decide) (AllReadyH.cons (o := _) rfl (fun K hK' => ?_) (AllReadyH.cons (o := _) rfl (fun K hK' => ?_) AllReadyH.nil))
      · skip
        obtain ⟨x1, x2⟩ := Kn.rowCell (hKd.front 1 rfl) HI.out
        go_simp
        clear x1 x2
        have KO22 := hKd
        have HG := Lib.hid (by first | exact HB.out _ _ HJ.out (KO22.sel [0, 1, 3] 99 (by decide) (by decide)) | exact HB.out _ _ HJ2.out (KO22.sel [0, 1, 3] 99 (by decide) (by decide)))
        refine hK'.out _ _ HG.out (fun hHeld2 => ?_)
        clear hK' hHeld
        have hHeld := hHeld2
        clear hHeld2
        try simp only [Act.put, List.setIfInBounds_toArray]
        refine wpAnyH_take (i := 15) (v := ?_) rfl (by kernel_rfl) (by kernel_rfl) (by kernel_rfl) (fun _ _ _ h => h) (Or.inl ⟨by rfl, ?_⟩) hHeld ?_
        rotate_left
        · (intro w hSw; (try dsimp only at hSw); go_simp; try with_reducible rfl)
        try simp only [Act.put, List.setIfInBounds_toArray, List.set_cons_zero, List.set_cons_succ, List.getElem_toArray, List.getElem_cons_succ, List.getElem_cons_zero]
        refine wpAnyH_ready (rs := [18]) (by kernel_rfl) (by decide) (AllReadyH.cons (o := _) rfl (fun K hK' => ?_) AllReadyH.nil)
        go_simp
        go_at_call 86
        refine (KM.out _).mono ?_
        rintro e wq ⟨rfl, rfl⟩
        have KO23 := KO22
        have HG := Lib.hid (by first | exact HB.out _ _ HJ.out (KO23.sel [0, 1, 3] 99 (by decide) (by decide)) | exact HB.out _ _ HJ2.out (KO23.sel [0, 1, 3] 99 (by decide) (by decide)))
        refine hK'.out _ _ HG.out (fun hHeld2 => ?_)
        clear hK' hHeld
        have hHeld := hHeld2
        clear hHeld2
        try simp only [Act.put, List.setIfInBounds_toArray]
        refine wpAnyH_take (i := 19) (v := ?_) rfl (by kernel_rfl) (by kernel_rfl) (by kernel_rfl) (fun _ _ _ h => h) (Or.inl ⟨by rfl, ?_⟩) hHeld ?_
        rotate_left
        · (intro w hSw; (try dsimp only at hSw); go_simp; try with_reducible rfl)
        try simp only [Act.put, List.setIfInBounds_toArray, List.set_cons_zero, List.set_cons_succ, List.getElem_toArray, List.getElem_cons_succ, List.getElem_cons_zero]
        refine wpAnyH_take (i := 20) (v := ?_) rfl (by kernel_rfl) (by kernel_rfl) (by kernel_rfl) (fun _ _ _ h => h) (Or.inl ⟨by rfl, ?_⟩) hHeld ?_
        rotate_left
        · (intro w hSw; (try dsimp only at hSw); go_simp; try with_reducible rfl)
        try simp only [Act.put, List.setIfInBounds_toArray, List.set_cons_zero, List.set_cons_succ, List.getElem_toArray, List.getElem_cons_succ, List.getElem_cons_zero]
        refine wpAnyH_ready (rs := [21]) (by kernel_rfl) (by decide) (AllReadyH.cons (o := _) rfl (fun K hK' => ?_) AllReadyH.nil)
        obtain ⟨x1, x2⟩ := Kn.rowCell (KO23.front 1 rfl) HI.out
        have KO24 := Kn.rowSt (KO23.front 1 rfl) i (.int .i64 v)
        go_simp
        clear x1 x2
        have HG := Lib.hid (by first | exact HB.out _ _ HJ.out (KO24.sel [1, 0, 3] 99 (by decide) (by decide)) | exact HB.out _ _ HJ2.out (KO24.sel [1, 0, 3] 99 (by decide) (by decide)))
        refine hK'.out _ _ HG.out (fun hHeld2 => ?_)
        clear hK' hHeld
        have hHeld := hHeld2
        clear hHeld2
        try simp only [Act.put, List.setIfInBounds_toArray]
        refine wpAnyH_done (by kernel_rfl) ?_ _
        go_wp2_with fail
        go_roundw
        case rel => exact ⟨i + 2, by omega, by go_num, by omega, by omega, by rw [HSET.out]; exact (KO24.sel [1, 0, 2, 3] 99 (by decide) (by decide))⟩
        case measure => simp [intOf] <;> omega
      · skip
        go_simp
        go_at_call 86
        refine (KM.out _).mono ?_
        rintro e wq ⟨rfl, rfl⟩
        have KO25 := hKd
        have HG := Lib.hid (by first | exact HB.out _ _ HJ.out (KO25.sel [0, 1, 3] 99 (by decide) (by decide)) | exact HB.out _ _ HJ2.out (KO25.sel [0, 1, 3] 99 (by decide) (by decide)))
        refine hK'.out _ _ HG.out (fun hHeld2 => ?_)
        clear hK' hHeld
        have hHeld := hHeld2
        clear hHeld2
        try simp only [Act.put, List.setIfInBounds_toArray]
        refine wpAnyH_ready (rs := [9]) (by kernel_rfl) (by decide) (AllReadyH.cons (o := _) rfl (fun K hK' => ?_) AllReadyH.nil)
        obtain ⟨x1, x2⟩ := Kn.rowCell (KO25.front 1 rfl) HI.out
        go_simp
        clear x1 x2
        have KO26 := KO25
        have HG := Lib.hid (by first | exact HB.out _ _ HJ.out (KO26.sel [0, 1, 3] 99 (by decide) (by decide)) | exact HB.out _ _ HJ2.out (KO26.sel [0, 1, 3] 99 (by decide) (by decide)))
        refine hK'.out _ _ HG.out (fun hHeld2 => ?_)
        clear hK' hHeld
        have hHeld := hHeld2
        clear hHeld2
        try simp only [Act.put, List.setIfInBounds_toArray]
        refine wpAnyH_take (i := 15) (v := ?_) rfl (by kernel_rfl) (by kernel_rfl) (by kernel_rfl) (fun _ _ _ h => h) (Or.inl ⟨by rfl, ?_⟩) hHeld ?_
        rotate_left
        · (intro w hSw; (try dsimp only at hSw); go_simp; try with_reducible rfl)
        try simp only [Act.put, List.setIfInBounds_toArray, List.set_cons_zero, List.set_cons_succ, List.getElem_toArray, List.getElem_cons_succ, List.getElem_cons_zero]
        refine wpAnyH_take (i := 19) (v := ?_) rfl (by kernel_rfl) (by kernel_rfl) (by kernel_rfl) (fun _ _ _ h => h) (Or.inl ⟨by rfl, ?_⟩) hHeld ?_
        rotate_left
        · (intro w hSw; (try dsimp only at hSw); go_simp; try with_reducible rfl)
        try simp only [Act.put, List.setIfInBounds_toArray, List.set_cons_zero, List.set_cons_succ, List.getElem_toArray, List.getElem_cons_succ, List.getElem_cons_zero]
        refine wpAnyH_take (i := 20) (v := ?_) rfl (by kernel_rfl) (by kernel_rfl) (by kernel_rfl) (fun _ _ _ h => h) (Or.inl ⟨by rfl, ?_⟩) hHeld ?_
        rotate_left
        · (intro w hSw; (try dsimp only at hSw); go_simp; try with_reducible rfl)
        try simp only [Act.put, List.setIfInBounds_toArray, List.set_cons_zero, List.set_cons_succ, List.getElem_toArray, List.getElem_cons_succ, List.getElem_cons_zero]
        refine wpAnyH_ready (rs := [21]) (by kernel_rfl) (by decide) (AllReadyH.cons (o := _) rfl (fun K hK' => ?_) AllReadyH.nil)
        obtain ⟨x1, x2⟩ := Kn.rowCell (KO26.front 1 rfl) HI.out
        have KO27 := Kn.rowSt (KO26.front 1 rfl) i (.int .i64 v)
        go_simp
        clear x1 x2
        have HG := Lib.hid (by first | exact HB.out _ _ HJ.out (KO27.sel [1, 0, 3] 99 (by decide) (by decide)) | exact HB.out _ _ HJ2.out (KO27.sel [1, 0, 3] 99 (by decide) (by decide)))
        refine hK'.out _ _ HG.out (fun hHeld2 => ?_)
        clear hK' hHeld
        have hHeld := hHeld2
        clear hHeld2
        try simp only [Act.put, List.setIfInBounds_toArray]
        refine wpAnyH_done (by kernel_rfl) ?_ _
        go_wp2_with fail
        go_roundw
        case rel => exact ⟨i + 2, by omega, by go_num, by omega, by omega, by rw [HSET.out]; exact (KO27.sel [1, 0, 2, 3] 99 (by decide) (by decide))⟩
        case measure => simp [intOf] <;> omega
    · have i1 : ¬ (i : Int) + 1 < (n : Int) := by omega
      have K5 := KR
      rw [HFU.out i (by omega)] at K5
      clear KR
      obtain ⟨-, -, -, z1, z2, z3, -⟩ := K5.cells
      go_wp2_with fail
      have K9 := ((K5.front 2 rfl).st 0 (.int .i64 (wd : Int))).st 1 (.slice (some ⟨gr, 0, none⟩) n ec)
      refine bodyPost.kn K9 ?_; clear K9; intro w9 K9
      obtain ⟨b1, b2, b3, -⟩ := K9.cells
      refine bodyPost_ret (v := .agg #[.int .i64 (wd : Int), .slice (some ⟨gr, 0, none⟩) n ec]) (by simp [results, Tryd.results55, go_sem, b1]) rfl ⟨_, _, rfl, ?_⟩
      exact K9.sel [2] 99 (by decide) (by decide)
end Go.Proofs.YtgpmngcemnnpmaaDoor

namespace Go.Proofs.YtgpmngcemnnpmaaDoor
open Go.RowKit Go.Sort
theorem bunStable (es : List Ent) : ∀ w w' : World, (∀ e ∈ es, e.holds w) → w.heap.size ≤ w'.heap.size → (∀ k, (∃ e ∈ es, e.fp k) → w'.heap[k]? = w.heap[k]?) → ∀ e ∈ es, e.holds w' :=
  fun _ _ h hs hb e he => Ent.stable (h e he) hs (fun k hk => hb k ⟨e, he, hk⟩)
/-- things that are owned together, of whatever number -/
def bun (es : List Ent) : Ent := .any (fun k => ∃ e ∈ es, e.fp k) (fun w => ∀ e ∈ es, e.holds w) (bunStable es)
section
variable {w0 w : World} {m es : List Ent} {e : Ent}
theorem Kn.bunPick (h : Kn w0 (bun es :: m) w) (he : e ∈ es) : Kn w0 (e :: m) w := by
  obtain ⟨ha, hb⟩ := List.pairwise_cons.1 h.apart
  refine ⟨h.below, fun x hx => ?_, fun x hx k hk => ?_, List.pairwise_cons.2 ⟨fun x hx k hk => ?_, hb⟩⟩
  · rcases List.mem_cons.1 hx with rfl | hx
    · exact (h.ents (bun es) (List.mem_cons_self ..)).1 _ he
    · exact h.ents x (List.mem_cons_of_mem _ hx)
  · rcases List.mem_cons.1 hx with rfl | hx
    · exact h.own (bun es) (List.mem_cons_self ..) k ⟨_, he, hk⟩
    · exact h.own x (List.mem_cons_of_mem _ hx) k hk
  · exact ha x hx k ⟨_, he, hk⟩
theorem Kn.bunNil (h : Kn w0 m w) : Kn w0 (bun [] :: m) w := by
  refine ⟨h.below, fun x hx => ?_, fun x hx k hk => ?_, List.pairwise_cons.2 ⟨fun x _ k hk => ?_, h.apart⟩⟩
  · rcases List.mem_cons.1 hx with rfl | hx
    · exact ⟨fun p hp => (by cases hp), fun k hk => (by obtain ⟨p, hp, -⟩ := hk; cases hp)⟩
    · exact h.ents x hx
  · rcases List.mem_cons.1 hx with rfl | hx
    · obtain ⟨p, hp, -⟩ := hk; cases hp
    · exact h.own x hx k hk
  · obtain ⟨p, hp, -⟩ := hk; cases hp
theorem Kn.bunAdd (h : Kn w0 (e :: bun es :: m) w) : Kn w0 (bun (es ++ [e]) :: m) w := by
  obtain ⟨ha, hb⟩ := List.pairwise_cons.1 h.apart
  obtain ⟨hc, hd⟩ := List.pairwise_cons.1 hb
  have e1 := h.ents e (List.mem_cons_self ..)
  have e2 := h.ents (bun es) (List.mem_cons_of_mem _ (List.mem_cons_self ..))
  have hf : ∀ k, (∃ p ∈ es ++ [e], p.fp k) → (∃ p ∈ es, p.fp k) ∨ e.fp k := fun k hk => by
    obtain ⟨p, hp, hk⟩ := hk
    rcases List.mem_append.1 hp with hp | hp
    · exact .inl ⟨p, hp, hk⟩
    · rw [List.mem_singleton.1 hp] at hk; exact .inr hk
  refine ⟨h.below, fun x hx => ?_, fun x hx k hk => ?_, List.pairwise_cons.2 ⟨fun x hx k hk => ?_, hd⟩⟩
  · rcases List.mem_cons.1 hx with rfl | hx
    · refine ⟨fun p hp => ?_, fun k hk => ?_⟩
      · rcases List.mem_append.1 hp with hp | hp
        · exact e2.1 p hp
        · rw [List.mem_singleton.1 hp]; exact e1
      · rcases hf k hk with hk | hk
        · exact e2.2 k hk
        · exact Ent.lt e1 hk
    · exact h.ents x (List.mem_cons_of_mem _ (List.mem_cons_of_mem _ hx))
  · rcases List.mem_cons.1 hx with rfl | hx
    · rcases hf k hk with hk | hk
      · exact h.own (bun es) (List.mem_cons_of_mem _ (List.mem_cons_self ..)) k hk
      · exact h.own e (List.mem_cons_self ..) k hk
    · exact h.own x (List.mem_cons_of_mem _ (List.mem_cons_of_mem _ hx)) k hk
  · rcases hf k hk with hk | hk
    · exact hc x hx k hk
    · exact ha x (List.mem_cons_of_mem _ hx) k hk
end
end Go.Proofs.YtgpmngcemnnpmaaDoor
