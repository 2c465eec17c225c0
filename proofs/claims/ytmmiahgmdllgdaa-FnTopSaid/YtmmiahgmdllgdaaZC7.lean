/- Part 7: lemmas and contracts of the claim's functions. -/
import Derived.Test.YtmmiahgmdllgdaaZC1
import Derived.Test.YtmmiahgmdllgdaaZC2
import Derived.Test.YtmmiahgmdllgdaaZC3
import Derived.Test.YtmmiahgmdllgdaaZC4
import Derived.Test.YtmmiahgmdllgdaaZC5
import Derived.Test.YtmmiahgmdllgdaaZC6
namespace Go.Proofs.Ytmmiahgmdllgdaa
open Go.RowKit Go.Sort
/-- an engine of its own -/
def rowNN (E : Option Addr) (n ec : Nat) (ds : List Int) : Ent := .row (.slice E n ec) 2 1 n (ds.map (Value.int .i64))
def EngR (wd n : Nat) (ds : List Int) (w : World) (e : Ending) (w' : World) : Prop := ∃ gr ec, e = .returned (.agg #[.int .i64 (wd : Int), .slice (some ⟨gr, 0, none⟩) n ec]) ∧ Kn w [rowNN (some ⟨gr, 0, none⟩) n ec ds] w'
theorem pw10_bd {n : Nat} (h1 : 1 ≤ n) (h : n ≤ 12) : 10 ≤ pw 10 n ∧ pw 10 n ≤ 1000000000000 := by
  have h2 := pw_mono 10 (by omega) 1 n h1
  have h3 := pw_mono 10 (by omega) n 12 h
  exact ⟨h2, h3⟩
theorem modulus_any (n : Nat) (w : World) (hn : n ≤ 12) :
    Calls Try.prog 66 #[.int .i64 (n : Int)] w fun e w' => e = .returned (.int .i64 (pw 10 n)) ∧ w = w' := by
  have hp12 : pw 10 12 = 1000000000000 := by decide
  go_enter Try.func66, Try.ntmps66
  go_wp2
  go_loop [3, 5] (fun v i => ∃ k : Nat, k ≤ n ∧ i = .int .i64 (k : Int) ∧ v = .int .i64 (pw 10 k)) (fun _ i => n - (intOf i).toNat)
  case atStart => exact ⟨0, Nat.zero_le _, rfl, rfl⟩
  case round =>
    obtain ⟨k, hk, rfl, rfl⟩ := hrel
    by_cases hkn : k < n
    · have h1 : 1 ≤ pw 10 k := pw_pos 10 (by omega) k
      have h2 := pw_mono 10 (by omega) (k + 1) 12 (by omega)
      have h3 : pw 10 (k + 1) = pw 10 k * 10 := rfl
      have HP := Lib.hid h3
      have hi1 : (k : Int) < (n : Int) := by omega
      have hw : IntKind.i64.wrap (pw 10 k * 10) = pw 10 k * 10 := wrapI64 (by omega)
      clear h3 h2
      go_wp2
      go_round
      case rel => exact ⟨k + 1, by omega, by go_num, by rw [HP.out]⟩
      case measure => simp [intOf]; omega
    · have hi1 : ¬ (k : Int) < (n : Int) := by omega
      obtain rfl : k = n := by omega
      go_wp2
      go_ret
      exact ⟨rfl, rfl⟩
set_option maxRecDepth 100000 in
set_option maxHeartbeats 1600000 in
theorem copied_ok (wd n : Nat) (A : Option Addr) (c : Nat) (cs : List Int) (w : World) (n0 : 0 < n) (n9 : n ≤ 9) (hr : RI w A n cs) :
    Calls Try.prog 111 #[.agg #[.int .i64 (wd : Int), .slice A n c]] w (EngR wd n cs w) := by
  unfold EngR rowNN
  have KC := Lib.hid (fun W (hW : Below w.heap.size w W) => (show Calls Try.prog 100 #[.slice A n c] W (fun e w' => ∃ gr ec, e = .returned (.slice (some ⟨gr, 0, none⟩) n ec) ∧ Kn W [.row (.slice (some ⟨gr, 0, none⟩) n ec) 2 1 n (cs.map (Value.int .i64))] w') from
    (copyNumbers_any A n c cs W (hr.below hW) n0 (by omega)).mono fun e w' h => by
      obtain ⟨E, ec, h1, h2⟩ := h
      unfold rowI at h2
      rw [hr.1] at h2
      obtain ⟨gr, ec', hE⟩ := h2.rowForm n0
      injection hE with z1 z2 z3
      subst z1 z3
      exact ⟨gr, _, h1, h2⟩))
  clear hr
  obtain ⟨g, hg⟩ : ∃ g, w.heap.size = g := ⟨_, rfl⟩
  have K0 := ((Kn.nil w).al [.int .i64 (wd : Int), .slice A n c] 48).al [.int .i64 0, .slice none 0 0] 48
  simp only [World.size_alloc, hg] at K0
  go_enter Try.func111, Try.ntmps111
  go_upto_region 1 with fail
  try rw [hg]
  refine Code.wp.kn K0 ?_; clear K0 hg; intro w1 K1
  have HB := Lib.hid (fun W (h : Kn w [.blk g [.int .i64 (wd : Int), .slice A n c] 48] W) => box2 h)
  have hKd := K1.drew
  have HG := Lib.hid (HB.out _ (hKd.sel [1] 99 (by decide) (by decide)))
  refine wp_region_held_drew (S := fun W => W.cell? ⟨g, 0, none⟩ = some (.int .i64 (wd : Int)) ∧ W.cell? ⟨g, 1, none⟩ = some (.slice A n c)) (by kernel_rfl) ?_ (fun hHeld => ?_)
  · exact HG.out
  try dsimp only
  generalize w1.drew = wd' at hKd HG hHeld ⊢
  clear K1
  refine wpAnyH_take (i := 0) (v := ?_) rfl (by kernel_rfl) (by kernel_rfl) (by kernel_rfl) (fun _ _ _ h => h) (Or.inl ⟨by rfl, ?_⟩) hHeld ?_
  rotate_left
  · (intro w hSw; (try dsimp only at hSw); go_simp; try with_reducible rfl)
  try simp only [Act.put, List.setIfInBounds_toArray, List.set_cons_zero, List.set_cons_succ, List.getElem_toArray, List.getElem_cons_succ, List.getElem_cons_zero]
  refine wpAnyH_take (i := 1) (v := ?_) rfl (by kernel_rfl) (by kernel_rfl) (by kernel_rfl) (fun _ _ _ h => h) (Or.inl ⟨by rfl, ?_⟩) hHeld ?_
  rotate_left
  · (intro w hSw; (try dsimp only at hSw); go_simp; try with_reducible rfl)
  try simp only [Act.put, List.setIfInBounds_toArray, List.set_cons_zero, List.set_cons_succ, List.getElem_toArray, List.getElem_cons_succ, List.getElem_cons_zero]
  refine wpAnyH_take (i := 2) (v := ?_) rfl (by kernel_rfl) (by kernel_rfl) (by kernel_rfl) (fun _ _ _ h => h) (Or.inl ⟨by rfl, ?_⟩) hHeld ?_
  rotate_left
  · (intro w hSw; (try dsimp only at hSw); go_simp; try with_reducible rfl)
  try simp only [Act.put, List.setIfInBounds_toArray, List.set_cons_zero, List.set_cons_succ, List.getElem_toArray, List.getElem_cons_succ, List.getElem_cons_zero]
  refine wpAnyH_take (i := 3) (v := ?_) rfl (by kernel_rfl) (by kernel_rfl) (by kernel_rfl) (fun _ _ _ h => h) (Or.inl ⟨by rfl, ?_⟩) hHeld ?_
  rotate_left
  · (intro w hSw; (try dsimp only at hSw); go_simp; try with_reducible rfl)
  try simp only [Act.put, List.setIfInBounds_toArray, List.set_cons_zero, List.set_cons_succ, List.getElem_toArray, List.getElem_cons_succ, List.getElem_cons_zero]
  refine wpAnyH_ready (rs := [4]) (by kernel_rfl) (by decide) (AllReadyH.cons (o := _) rfl (fun K hK' => ?_) AllReadyH.nil)
  go_simp
  go_at_call 100
  refine (KC.out _ hKd.below).mono ?_
  rintro e wo1 ⟨gr1, ec1, rfl, hK⟩
  have KO1 := hKd.join hK
  clear hK
  have HG := Lib.hid (HB.out _ (KO1.sel [2] 99 (by decide) (by decide)))
  refine hK'.out _ _ HG.out (fun hHeld2 => ?_)
  clear hK' hHeld
  have hHeld := hHeld2
  clear hHeld2
  try simp only [Act.put, List.setIfInBounds_toArray]
  refine wpAnyH_take (i := 5) (v := ?_) rfl (by kernel_rfl) (by kernel_rfl) (by kernel_rfl) (fun _ _ _ h => h) (Or.inl ⟨by rfl, ?_⟩) hHeld ?_
  rotate_left
  · (intro w hSw; (try dsimp only at hSw); go_simp; try with_reducible rfl)
  try simp only [Act.put, List.setIfInBounds_toArray, List.set_cons_zero, List.set_cons_succ, List.getElem_toArray, List.getElem_cons_succ, List.getElem_cons_zero]
  refine wpAnyH_ready (rs := [6]) (by kernel_rfl) (by decide) (AllReadyH.cons (o := _) rfl (fun K hK' => ?_) AllReadyH.nil)
  obtain ⟨s1, s2, s3, -⟩ := (KO1.front 1 rfl).cells
  have KO2 := (((KO1.front 1 rfl).st 0 (.int .i64 (wd : Int))).st 1 (.slice (some ⟨gr1, 0, none⟩) n ec1))
  go_simp
  clear s1 s2 s3
  have HG := Lib.hid (HB.out _ (KO2.sel [2] 99 (by decide) (by decide)))
  refine hK'.out _ _ HG.out (fun hHeld2 => ?_)
  clear hK' hHeld
  have hHeld := hHeld2
  clear hHeld2
  try simp only [Act.put, List.setIfInBounds_toArray]
  refine wpAnyH_done (by kernel_rfl) ?_ _
  go_wp2_with fail
  refine bodyPost.kn KO2 ?_; clear KO2; intro w9 K9
  obtain ⟨a1, a2, a3, -⟩ := K9.cells
  refine bodyPost_ret (v := .agg #[.int .i64 (wd : Int), .slice (some ⟨gr1, 0, none⟩) n ec1]) (by simp [results, Try.results111, go_sem, a1]) rfl ⟨_, _, rfl, K9.sel [1] 99 (by decide) (by decide)⟩
set_option maxRecDepth 100000 in
set_option maxHeartbeats 3200000 in
theorem cycled_ok (wd n : Nat) (A : Option Addr) (c : Nat) (cs : List Int) (w : World) (h1 : 1 ≤ wd) (h12 : wd ≤ 12) (n0 : 0 < n) (n9 : n ≤ 9) (hr : RI w A n cs) (hv : InM (pw 10 wd) n (fnL cs)) :
    Calls Try.prog 70 #[.agg #[.int .i64 (wd : Int), .slice A n c]] w (EngR wd n ((List.range n).map (cyF (pw 10 wd) n (fnL cs))) w) := by
  have KC := Lib.hid (fun W (hW : Below w.heap.size w W) => copied_ok wd n A c cs W n0 n9 (hr.below hW))
  have KM := Lib.hid (fun W => modulus_any wd W h12)
  have hcs : cs = mixG (cyF (pw 10 wd) n (fnL cs)) (fnL cs) n 0 := by rw [mixG_zero, ← hr.1, map_fnL]
  have HFU := Lib.hid (mixG_full (cyF (pw 10 wd) n (fnL cs)) (fnL cs) n (k := n - 1) (fun i hi hk => by unfold cyF; rw [if_neg (by omega)]))
  have hM := pw10_bd h1 h12
  obtain ⟨M, hMM⟩ : ∃ M, pw 10 wd = M := ⟨_, rfl⟩
  rw [hMM] at hcs hM hv
  rw [hMM] at HFU
  simp only [hMM] at KM ⊢
  have HV := Lib.hid hv
  unfold EngR rowNN at KC
  obtain ⟨f, hf⟩ : ∃ f, fnL cs = f := ⟨_, rfl⟩
  rw [hf] at hcs HFU HV ⊢
  rw [hcs] at KC
  clear hr hv hMM hf hcs
  obtain ⟨g, hg⟩ : ∃ g, w.heap.size = g := ⟨_, rfl⟩
  have K0 := ((Kn.nil w).al [.int .i64 (wd : Int), .slice A n c] 48).al [.int .i64 0, .slice none 0 0] 48
  simp only [World.size_alloc, hg] at K0
  go_enter Try.func70, Try.ntmps70
  go_upto_region 1 with fail
  try rw [hg]
  refine Code.wp.kn K0 ?_; clear K0 hg; intro w1 K1
  obtain ⟨a1, a2, a3, e1, e2, e3, -⟩ := K1.cells
  go_upto_region 2 with (go_at_call 111; refine (KC.out _ K1.below).mono ?_; rintro e w2 ⟨gr, ec, rfl, hK⟩; have K2 := (K1.join hK).al [.int .i64 (wd : Int), .slice (some ⟨gr, 0, none⟩) n ec] 48; clear hK K1 a1 a2 a3 e1 e2 e3)
  obtain ⟨g3, hg⟩ : ∃ g, w2.heap.size = g := ⟨_, rfl⟩
  rw [hg] at K2
  try rw [hg]
  refine Code.wp.kn K2 ?_; clear K2 hg; intro w3 K3
  have K4 := K3.sel [0, 1, 2, 3] 99 (by decide) (by decide)
  clear K3
  obtain ⟨o1, o2, o3, -, -, -, e1, e2, e3, -⟩ := K4.cells
  go_wp2_with fail
  go_loopw [4] (fun kk wr => ∃ k : Nat, k < n ∧ kk = .int .i64 (k : Int) ∧ Kn w [.blk g3 [.int .i64 (wd : Int), .slice (some ⟨gr, 0, none⟩) n ec] 48, .row (.slice (some ⟨gr, 0, none⟩) n ec) 2 1 n ((mixG (cyF M n f) f n k).map (Value.int .i64)), .blk (g + 1) [.int .i64 0, .slice none 0 0] 48, .blk g [.int .i64 (wd : Int), .slice A n c] 48] wr) (fun kk _ => n - (intOf kk).toNat)
  case atStart => exact ⟨0, n0, rfl, K4⟩
  case round =>
    clear K4 o1 o2 o3 e1 e2 e3
    obtain ⟨k, hk, rfl, KR⟩ := hrel
    obtain ⟨o1, o2, o3, -, -, -, e1, e2, e3, -⟩ := KR.cells
    have hq1 : IntKind.i64.wrap ((k : Int) + 1) = (k : Int) + 1 := wrapI64 (by omega)
    by_cases hk1 : k + 1 < n
    · have i1 : (k : Int) + 1 < (n : Int) := by omega
      have i0 : (0 : Int) ≤ (k : Int) := by omega
      have i3 : (0 : Int) ≤ (k : Int) + 1 := by omega
      have i2 : (k : Int) < (n : Int) := by omega
      obtain ⟨x, hx⟩ : ∃ x, f k = x := ⟨_, rfl⟩
      obtain ⟨y, hy⟩ : ∃ y, f (k + 1) = y := ⟨_, rfl⟩
      obtain ⟨v, hvv⟩ : ∃ v, (x + y) % M = v := ⟨_, rfl⟩
      have hxb := HV.out k hk
      have hyb := HV.out (k + 1) hk1
      rw [hx] at hxb
      rw [hy] at hyb
      have hL1 : ((mixG (cyF M n f) f n k).map (Value.int .i64))[k]? = some (.int .i64 x) := by rw [List.getElem?_map, mixG_at _ _ _ hk, if_neg (by omega), hx]; rfl
      have hL2 : ((mixG (cyF M n f) f n k).map (Value.int .i64))[k + 1]? = some (.int .i64 y) := by rw [List.getElem?_map, mixG_at _ _ _ hk1, if_neg (by omega), hy]; rfl
      have hL3 : (mixG (cyF M n f) f n (k + 1)).map (Value.int .i64) = ((mixG (cyF M n f) f n k).map (Value.int .i64)).set k (.int .i64 v) := by
        rw [← mixG_set, List.map_set]
        congr 2
        unfold cyF
        rw [if_pos hk1, hx, hy, hvv]
      have hw1 : IntKind.i64.wrap (x + y) = x + y := wrapI64 (by omega)
      have hm4 : M ≠ 0 := by omega
      have hm5 : ¬ M = 0 := hm4
      have hvb : 0 ≤ v ∧ v < M := by rw [← hvv]; exact ⟨Int.emod_nonneg _ hm4, Int.emod_lt_of_pos _ (by omega)⟩
      have hw2 : (x + y).tmod M = v := by rw [Int.tmod_eq_emod_of_nonneg (by omega), hvv]
      have hw3 : IntKind.i64.wrap v = v := wrapI64 (by omega)
      have HSET := Lib.hid hL3
      obtain ⟨L0, hL0⟩ : ∃ L, (mixG (cyF M n f) f n k).map (Value.int .i64) = L := ⟨_, rfl⟩
      rw [hL0] at hL1 hL2 HSET KR
      have HI := Lib.hid hL1
      have HJ := Lib.hid hL2
      have HJ2 := Lib.hid (show (L0.set k (.int .i64 v))[k + 1]? = some (.int .i64 y) by rw [List.getElem?_set_ne (by omega)]; exact HJ.out)
      clear hL0 hL1 hL2 hL3 hx hy hvv hvb hxb hyb
      go_upto_region 5 with fail
      have HB := Lib.hid (fun (L : List Value) W (hL : L[(k + 1)]? = some (.int .i64 y)) (h : Kn w [.blk g3 [.int .i64 (wd : Int), .slice (some ⟨gr, 0, none⟩) n ec] 48, .row (.slice (some ⟨gr, 0, none⟩) n ec) 2 1 n L, .blk g [.int .i64 (wd : Int), .slice A n c] 48] W) => (And.intro (And.intro (box2 h).2 ((Kn.rowCell (h.front 1 rfl) hL).1)) (box2 (h.front 2 rfl)).1 : (W.cell? ⟨g3, 1, none⟩ = some (.slice (some ⟨gr, 0, none⟩) n ec) ∧ W.cell? ⟨gr, (k + 1), none⟩ = some (.int .i64 y)) ∧ W.cell? ⟨g, 0, none⟩ = some (.int .i64 (wd : Int))))
      have hKd := KR.drew
      have HG := Lib.hid (HB.out _ _ HJ.out (hKd.sel [0, 1, 3] 99 (by decide) (by decide)))
      clear o1 o2 o3 e1 e2 e3
      refine wp_region_held_drew (S := fun W => (W.cell? ⟨g3, 1, none⟩ = some (.slice (some ⟨gr, 0, none⟩) n ec) ∧ W.cell? ⟨gr, (k + 1), none⟩ = some (.int .i64 y)) ∧ W.cell? ⟨g, 0, none⟩ = some (.int .i64 (wd : Int))) (by kernel_rfl) ?_ (fun hHeld => ?_)
      · exact HG.out
      try dsimp only
      generalize wr.drew = wd' at hKd HG hHeld ⊢
      clear KR
      refine wpAnyH_take (i := 0) (v := ?_) rfl (by kernel_rfl) (by kernel_rfl) (by kernel_rfl) (fun _ _ _ h => h) (Or.inl ⟨by rfl, ?_⟩) hHeld ?_
      rotate_left
      · (intro w hSw; (try dsimp only at hSw); go_simp; try with_reducible rfl)
      try simp only [Act.put, List.setIfInBounds_toArray, List.set_cons_zero, List.set_cons_succ, List.getElem_toArray, List.getElem_cons_succ, List.getElem_cons_zero]
      refine wpAnyH_take (i := 1) (v := ?_) rfl (by kernel_rfl) (by kernel_rfl) (by kernel_rfl) (fun _ _ _ h => h) (Or.inl ⟨by rfl, ?_⟩) hHeld ?_
      rotate_left
      · (intro w hSw; (try dsimp only at hSw); go_simp; try with_reducible rfl)
      try simp only [Act.put, List.setIfInBounds_toArray, List.set_cons_zero, List.set_cons_succ, List.getElem_toArray, List.getElem_cons_succ, List.getElem_cons_zero]
      refine wpAnyH_take (i := 2) (v := ?_) rfl (by kernel_rfl) (by kernel_rfl) (by kernel_rfl) (fun _ _ _ h => h) (Or.inl ⟨by rfl, ?_⟩) hHeld ?_
      rotate_left
      · (intro w hSw; (try dsimp only at hSw); go_simp; try with_reducible rfl)
      try simp only [Act.put, List.setIfInBounds_toArray, List.set_cons_zero, List.set_cons_succ, List.getElem_toArray, List.getElem_cons_succ, List.getElem_cons_zero]
      refine wpAnyH_take (i := 3) (v := ?_) rfl (by kernel_rfl) (by kernel_rfl) (by kernel_rfl) (fun _ _ _ h => h) (Or.inl ⟨by rfl, ?_⟩) hHeld ?_
      rotate_left
      · (intro w hSw; (try dsimp only at hSw); go_simp; try with_reducible rfl)
      try simp only [Act.put, List.setIfInBounds_toArray, List.set_cons_zero, List.set_cons_succ, List.getElem_toArray, List.getElem_cons_succ, List.getElem_cons_zero]
      refine wpAnyH_take (i := 4) (v := ?_) rfl (by kernel_rfl) (by kernel_rfl) (by kernel_rfl) (fun _ _ _ h => h) (Or.inl ⟨by rfl, ?_⟩) hHeld ?_
      rotate_left
      · (intro w hSw; (try dsimp only at hSw); go_simp; try with_reducible rfl)
      try simp only [Act.put, List.setIfInBounds_toArray, List.set_cons_zero, List.set_cons_succ, List.getElem_toArray, List.getElem_cons_succ, List.getElem_cons_zero]
      refine wpAnyH_take (i := 5) (v := ?_) rfl (by kernel_rfl) (by kernel_rfl) (by kernel_rfl) (fun _ _ _ h => h) (Or.inl ⟨by rfl, ?_⟩) hHeld ?_
      rotate_left
      · (intro w hSw; (try dsimp only at hSw); go_simp; try with_reducible rfl)
      try simp only [Act.put, List.setIfInBounds_toArray, List.set_cons_zero, List.set_cons_succ, List.getElem_toArray, List.getElem_cons_succ, List.getElem_cons_zero]
      refine wpAnyH_take (i := 6) (v := ?_) rfl (by kernel_rfl) (by kernel_rfl) (by kernel_rfl) (fun _ _ _ h => h) (Or.inl ⟨by rfl, ?_⟩) hHeld ?_
      rotate_left
      · (intro w hSw; (try dsimp only at hSw); go_simp; try with_reducible rfl)
      try simp only [Act.put, List.setIfInBounds_toArray, List.set_cons_zero, List.set_cons_succ, List.getElem_toArray, List.getElem_cons_succ, List.getElem_cons_zero]
      refine wpAnyH_take (i := 8) (v := ?_) rfl (by kernel_rfl) (by kernel_rfl) (by kernel_rfl) (fun _ _ _ h => h) (Or.inl ⟨by rfl, ?_⟩) hHeld ?_
      rotate_left
      · (intro w hSw; (try dsimp only at hSw); go_simp; try with_reducible rfl)
      try simp only [Act.put, List.setIfInBounds_toArray, List.set_cons_zero, List.set_cons_succ, List.getElem_toArray, List.getElem_cons_succ, List.getElem_cons_zero]
      refine wpAnyH_take (i := 9) (v := ?_) rfl (by kernel_rfl) (by kernel_rfl) (by kernel_rfl) (fun _ _ _ h => h) (Or.inl ⟨by rfl, ?_⟩) hHeld ?_
      rotate_left
      · (intro w hSw; (try dsimp only at hSw); go_simp; try with_reducible rfl)
      try simp only [Act.put, List.setIfInBounds_toArray, List.set_cons_zero, List.set_cons_succ, List.getElem_toArray, List.getElem_cons_succ, List.getElem_cons_zero]
      refine wpAnyH_take (i := 10) (v := ?_) rfl (by kernel_rfl) (by kernel_rfl) (by kernel_rfl) (fun _ _ _ h => h) (Or.inl ⟨by rfl, ?_⟩) hHeld ?_
      rotate_left
      · (intro w hSw; (try dsimp only at hSw); go_simp; try with_reducible rfl)
      try simp only [Act.put, List.setIfInBounds_toArray, List.set_cons_zero, List.set_cons_succ, List.getElem_toArray, List.getElem_cons_succ, List.getElem_cons_zero]
      refine wpAnyH_take (i := 11) (v := ?_) rfl (by kernel_rfl) (by kernel_rfl) (by kernel_rfl) (fun _ _ _ h => h) (Or.inl ⟨by rfl, ?_⟩) hHeld ?_
      rotate_left
      · (intro w hSw; (try dsimp only at hSw); go_simp; try with_reducible rfl)
      try simp only [Act.put, List.setIfInBounds_toArray, List.set_cons_zero, List.set_cons_succ, List.getElem_toArray, List.getElem_cons_succ, List.getElem_cons_zero]
      refine wpAnyH_take (i := 12) (v := ?_) rfl (by kernel_rfl) (by kernel_rfl) (by kernel_rfl) (fun _ _ _ h => h) (Or.inl ⟨by rfl, ?_⟩) hHeld ?_
      rotate_left
      · (intro w hSw; (try dsimp only at hSw); go_simp; try with_reducible rfl)
      try simp only [Act.put, List.setIfInBounds_toArray, List.set_cons_zero, List.set_cons_succ, List.getElem_toArray, List.getElem_cons_succ, List.getElem_cons_zero]
      refine wpAnyH_take (i := 13) (v := ?_) rfl (by kernel_rfl) (by kernel_rfl) (by kernel_rfl) (fun _ _ _ h => h) (Or.inl ⟨by rfl, ?_⟩) hHeld ?_
      rotate_left
      · (intro w hSw; (try dsimp only at hSw); go_simp; try with_reducible rfl)
      try simp only [Act.put, List.setIfInBounds_toArray, List.set_cons_zero, List.set_cons_succ, List.getElem_toArray, List.getElem_cons_succ, List.getElem_cons_zero]
      refine wpAnyH_take (i := 15) (v := ?_) rfl (by kernel_rfl) (by kernel_rfl) (by kernel_rfl) (fun _ _ _ h => h) (Or.inl ⟨by rfl, ?_⟩) hHeld ?_
      rotate_left
      · (intro w hSw; (try dsimp only at hSw); go_simp; try with_reducible rfl)
      try simp only [Act.put, List.setIfInBounds_toArray, List.set_cons_zero, List.set_cons_succ, List.getElem_toArray, List.getElem_cons_succ, List.getElem_cons_zero]
      refine wpAnyH_take (i := 16) (v := ?_) rfl (by kernel_rfl) (by kernel_rfl) (by kernel_rfl) (fun _ _ _ h => h) (Or.inl ⟨by rfl, ?_⟩) hHeld ?_
      rotate_left
      · (intro w hSw; (try dsimp only at hSw); go_simp; try with_reducible rfl)
      try simp only [Act.put, List.setIfInBounds_toArray, List.set_cons_zero, List.set_cons_succ, List.getElem_toArray, List.getElem_cons_succ, List.getElem_cons_zero]
      refine wpAnyH_ready (rs := [7, 17]) (by kernel_rfl) (by decide) (AllReadyH.cons (o := _) rfl (fun K hK' => ?_) (AllReadyH.cons (o := _) rfl (fun K hK' => ?_) AllReadyH.nil))
      · skip
        obtain ⟨x1, x2⟩ := Kn.rowCell (hKd.front 1 rfl) HI.out
        go_simp
        clear x1 x2
        have KO3 := hKd
        have HG := Lib.hid (by first | exact HB.out _ _ HJ.out (KO3.sel [0, 1, 3] 99 (by decide) (by decide)) | exact HB.out _ _ HJ2.out (KO3.sel [0, 1, 3] 99 (by decide) (by decide)))
        refine hK'.out _ _ HG.out (fun hHeld2 => ?_)
        clear hK' hHeld
        have hHeld := hHeld2
        clear hHeld2
        try simp only [Act.put, List.setIfInBounds_toArray]
        refine wpAnyH_take (i := 14) (v := ?_) rfl (by kernel_rfl) (by kernel_rfl) (by kernel_rfl) (fun _ _ _ h => h) (Or.inl ⟨by rfl, ?_⟩) hHeld ?_
        rotate_left
        · (intro w hSw; (try dsimp only at hSw); go_simp; try with_reducible rfl)
        try simp only [Act.put, List.setIfInBounds_toArray, List.set_cons_zero, List.set_cons_succ, List.getElem_toArray, List.getElem_cons_succ, List.getElem_cons_zero]
        refine wpAnyH_ready (rs := [17]) (by kernel_rfl) (by decide) (AllReadyH.cons (o := _) rfl (fun K hK' => ?_) AllReadyH.nil)
        go_simp
        go_at_call 66
        refine (KM.out _).mono ?_
        rintro e wq ⟨rfl, rfl⟩
        have KO4 := KO3
        have HG := Lib.hid (by first | exact HB.out _ _ HJ.out (KO4.sel [0, 1, 3] 99 (by decide) (by decide)) | exact HB.out _ _ HJ2.out (KO4.sel [0, 1, 3] 99 (by decide) (by decide)))
        refine hK'.out _ _ HG.out (fun hHeld2 => ?_)
        clear hK' hHeld
        have hHeld := hHeld2
        clear hHeld2
        try simp only [Act.put, List.setIfInBounds_toArray]
        refine wpAnyH_take (i := 18) (v := ?_) rfl (by kernel_rfl) (by kernel_rfl) (by kernel_rfl) (fun _ _ _ h => h) (Or.inl ⟨by rfl, ?_⟩) hHeld ?_
        rotate_left
        · (intro w hSw; (try dsimp only at hSw); go_simp; try with_reducible rfl)
        try simp only [Act.put, List.setIfInBounds_toArray, List.set_cons_zero, List.set_cons_succ, List.getElem_toArray, List.getElem_cons_succ, List.getElem_cons_zero]
        refine wpAnyH_take (i := 19) (v := ?_) rfl (by kernel_rfl) (by kernel_rfl) (by kernel_rfl) (fun _ _ _ h => h) (Or.inl ⟨by rfl, ?_⟩) hHeld ?_
        rotate_left
        · (intro w hSw; (try dsimp only at hSw); go_simp; try with_reducible rfl)
        try simp only [Act.put, List.setIfInBounds_toArray, List.set_cons_zero, List.set_cons_succ, List.getElem_toArray, List.getElem_cons_succ, List.getElem_cons_zero]
        refine wpAnyH_ready (rs := [20]) (by kernel_rfl) (by decide) (AllReadyH.cons (o := _) rfl (fun K hK' => ?_) AllReadyH.nil)
        obtain ⟨x1, x2⟩ := Kn.rowCell (KO4.front 1 rfl) HI.out
        have KO5 := Kn.rowSt (KO4.front 1 rfl) k (.int .i64 v)
        go_simp
        clear x1 x2
        have HG := Lib.hid (by first | exact HB.out _ _ HJ.out (KO5.sel [1, 0, 3] 99 (by decide) (by decide)) | exact HB.out _ _ HJ2.out (KO5.sel [1, 0, 3] 99 (by decide) (by decide)))
        refine hK'.out _ _ HG.out (fun hHeld2 => ?_)
        clear hK' hHeld
        have hHeld := hHeld2
        clear hHeld2
        try simp only [Act.put, List.setIfInBounds_toArray]
        refine wpAnyH_done (by kernel_rfl) ?_ _
        go_wp2_with fail
        go_roundw
        case rel => exact ⟨k + 1, by omega, by go_num, by rw [HSET.out]; exact (KO5.sel [1, 0, 2, 3] 99 (by decide) (by decide))⟩
        case measure => simp [intOf] <;> omega
      · skip
        go_simp
        go_at_call 66
        refine (KM.out _).mono ?_
        rintro e wq ⟨rfl, rfl⟩
        have KO6 := hKd
        have HG := Lib.hid (by first | exact HB.out _ _ HJ.out (KO6.sel [0, 1, 3] 99 (by decide) (by decide)) | exact HB.out _ _ HJ2.out (KO6.sel [0, 1, 3] 99 (by decide) (by decide)))
        refine hK'.out _ _ HG.out (fun hHeld2 => ?_)
        clear hK' hHeld
        have hHeld := hHeld2
        clear hHeld2
        try simp only [Act.put, List.setIfInBounds_toArray]
        refine wpAnyH_ready (rs := [7]) (by kernel_rfl) (by decide) (AllReadyH.cons (o := _) rfl (fun K hK' => ?_) AllReadyH.nil)
        obtain ⟨x1, x2⟩ := Kn.rowCell (KO6.front 1 rfl) HI.out
        go_simp
        clear x1 x2
        have KO7 := KO6
        have HG := Lib.hid (by first | exact HB.out _ _ HJ.out (KO7.sel [0, 1, 3] 99 (by decide) (by decide)) | exact HB.out _ _ HJ2.out (KO7.sel [0, 1, 3] 99 (by decide) (by decide)))
        refine hK'.out _ _ HG.out (fun hHeld2 => ?_)
        clear hK' hHeld
        have hHeld := hHeld2
        clear hHeld2
        try simp only [Act.put, List.setIfInBounds_toArray]
        refine wpAnyH_take (i := 14) (v := ?_) rfl (by kernel_rfl) (by kernel_rfl) (by kernel_rfl) (fun _ _ _ h => h) (Or.inl ⟨by rfl, ?_⟩) hHeld ?_
        rotate_left
        · (intro w hSw; (try dsimp only at hSw); go_simp; try with_reducible rfl)
        try simp only [Act.put, List.setIfInBounds_toArray, List.set_cons_zero, List.set_cons_succ, List.getElem_toArray, List.getElem_cons_succ, List.getElem_cons_zero]
        refine wpAnyH_take (i := 18) (v := ?_) rfl (by kernel_rfl) (by kernel_rfl) (by kernel_rfl) (fun _ _ _ h => h) (Or.inl ⟨by rfl, ?_⟩) hHeld ?_
        rotate_left
        · (intro w hSw; (try dsimp only at hSw); go_simp; try with_reducible rfl)
        try simp only [Act.put, List.setIfInBounds_toArray, List.set_cons_zero, List.set_cons_succ, List.getElem_toArray, List.getElem_cons_succ, List.getElem_cons_zero]
        refine wpAnyH_take (i := 19) (v := ?_) rfl (by kernel_rfl) (by kernel_rfl) (by kernel_rfl) (fun _ _ _ h => h) (Or.inl ⟨by rfl, ?_⟩) hHeld ?_
        rotate_left
        · (intro w hSw; (try dsimp only at hSw); go_simp; try with_reducible rfl)
        try simp only [Act.put, List.setIfInBounds_toArray, List.set_cons_zero, List.set_cons_succ, List.getElem_toArray, List.getElem_cons_succ, List.getElem_cons_zero]
        refine wpAnyH_ready (rs := [20]) (by kernel_rfl) (by decide) (AllReadyH.cons (o := _) rfl (fun K hK' => ?_) AllReadyH.nil)
        obtain ⟨x1, x2⟩ := Kn.rowCell (KO7.front 1 rfl) HI.out
        have KO8 := Kn.rowSt (KO7.front 1 rfl) k (.int .i64 v)
        go_simp
        clear x1 x2
        have HG := Lib.hid (by first | exact HB.out _ _ HJ.out (KO8.sel [1, 0, 3] 99 (by decide) (by decide)) | exact HB.out _ _ HJ2.out (KO8.sel [1, 0, 3] 99 (by decide) (by decide)))
        refine hK'.out _ _ HG.out (fun hHeld2 => ?_)
        clear hK' hHeld
        have hHeld := hHeld2
        clear hHeld2
        try simp only [Act.put, List.setIfInBounds_toArray]
        refine wpAnyH_done (by kernel_rfl) ?_ _
        go_wp2_with fail
        go_roundw
        case rel => exact ⟨k + 1, by omega, by go_num, by rw [HSET.out]; exact (KO8.sel [1, 0, 2, 3] 99 (by decide) (by decide))⟩
        case measure => simp [intOf] <;> omega
    · have i1 : ¬ (k : Int) + 1 < (n : Int) := by omega
      have K5 := KR
      rw [show k = n - 1 by omega, HFU.out] at K5
      clear KR
      obtain ⟨-, -, -, z1, z2, z3, -⟩ := K5.cells
      go_wp2_with fail
      have K9 := ((K5.front 2 rfl).st 0 (.int .i64 (wd : Int))).st 1 (.slice (some ⟨gr, 0, none⟩) n ec)
      refine bodyPost.kn K9 ?_; clear K9; intro w9 K9
      obtain ⟨b1, b2, b3, -⟩ := K9.cells
      refine bodyPost_ret (v := .agg #[.int .i64 (wd : Int), .slice (some ⟨gr, 0, none⟩) n ec]) (by simp [results, Try.results70, go_sem, b1]) rfl ⟨_, _, rfl, ?_⟩
      exact K9.sel [2] 99 (by decide) (by decide)
end Go.Proofs.Ytmmiahgmdllgdaa

namespace Go.Proofs.Ytmmiahgmdllgdaa
open Go.RowKit Go.Sort
theorem bunStable (es : List Ent) : ∀ w w' : World, (∀ e ∈ es, e.holds w) → w.heap.size ≤ w'.heap.size → (∀ k, (∃ e ∈ es, e.fp k) → w'.heap[k]? = w.heap[k]?) → ∀ e ∈ es, e.holds w' :=
  fun _ _ h hs hb e he => Ent.stable (h e he) hs (fun k hk => hb k ⟨e, he, hk⟩)
/-- things that are owned together, of whatever number -/
def bun (es : List Ent) : Ent := .any (fun k => ∃ e ∈ es, e.fp k) (fun w => ∀ e ∈ es, e.holds w) (bunStable es)
section
variable {w0 w : World} {m es : List Ent} {e : Ent}
theorem Kn.bunPick (h : Kn w0 (bun es :: m) w) (he : e ∈ es) : Kn w0 (e :: m) w := by
  obtain ⟨ha, hb⟩ := List.pairwise_cons.1 h.apart
  refine ⟨h.below, fun x hx => ?_, fun x hx k hk => ?_, List.pairwise_cons.2 ⟨fun x hx k hk => ?_, hb⟩⟩
  · rcases List.mem_cons.1 hx with rfl | hx
    · exact (h.ents (bun es) (List.mem_cons_self ..)).1 _ he
    · exact h.ents x (List.mem_cons_of_mem _ hx)
  · rcases List.mem_cons.1 hx with rfl | hx
    · exact h.own (bun es) (List.mem_cons_self ..) k ⟨_, he, hk⟩
    · exact h.own x (List.mem_cons_of_mem _ hx) k hk
  · exact ha x hx k ⟨_, he, hk⟩
theorem Kn.bunNil (h : Kn w0 m w) : Kn w0 (bun [] :: m) w := by
  refine ⟨h.below, fun x hx => ?_, fun x hx k hk => ?_, List.pairwise_cons.2 ⟨fun x _ k hk => ?_, h.apart⟩⟩
  · rcases List.mem_cons.1 hx with rfl | hx
    · exact ⟨fun p hp => (by cases hp), fun k hk => (by obtain ⟨p, hp, -⟩ := hk; cases hp)⟩
    · exact h.ents x hx
  · rcases List.mem_cons.1 hx with rfl | hx
    · obtain ⟨p, hp, -⟩ := hk; cases hp
    · exact h.own x hx k hk
  · obtain ⟨p, hp, -⟩ := hk; cases hp
theorem Kn.bunAdd (h : Kn w0 (e :: bun es :: m) w) : Kn w0 (bun (es ++ [e]) :: m) w := by
  obtain ⟨ha, hb⟩ := List.pairwise_cons.1 h.apart
  obtain ⟨hc, hd⟩ := List.pairwise_cons.1 hb
  have e1 := h.ents e (List.mem_cons_self ..)
  have e2 := h.ents (bun es) (List.mem_cons_of_mem _ (List.mem_cons_self ..))
  have hf : ∀ k, (∃ p ∈ es ++ [e], p.fp k) → (∃ p ∈ es, p.fp k) ∨ e.fp k := fun k hk => by
    obtain ⟨p, hp, hk⟩ := hk
    rcases List.mem_append.1 hp with hp | hp
    · exact .inl ⟨p, hp, hk⟩
    · rw [List.mem_singleton.1 hp] at hk; exact .inr hk
  refine ⟨h.below, fun x hx => ?_, fun x hx k hk => ?_, List.pairwise_cons.2 ⟨fun x hx k hk => ?_, hd⟩⟩
  · rcases List.mem_cons.1 hx with rfl | hx
    · refine ⟨fun p hp => ?_, fun k hk => ?_⟩
      · rcases List.mem_append.1 hp with hp | hp
        · exact e2.1 p hp
        · rw [List.mem_singleton.1 hp]; exact e1
      · rcases hf k hk with hk | hk
        · exact e2.2 k hk
        · exact Ent.lt e1 hk
    · exact h.ents x (List.mem_cons_of_mem _ (List.mem_cons_of_mem _ hx))
  · rcases List.mem_cons.1 hx with rfl | hx
    · rcases hf k hk with hk | hk
      · exact h.own (bun es) (List.mem_cons_of_mem _ (List.mem_cons_self ..)) k hk
      · exact h.own e (List.mem_cons_self ..) k hk
    · exact h.own x (List.mem_cons_of_mem _ (List.mem_cons_of_mem _ hx)) k hk
  · rcases hf k hk with hk | hk
    · exact hc x hx k hk
    · exact ha x (List.mem_cons_of_mem _ hx) k hk
end
end Go.Proofs.Ytmmiahgmdllgdaa

namespace Go.Proofs.Ytmmiahgmdllgdaa
open Go.RowKit Go.Sort
theorem Kn.rivNN {w0 w : World} {m : List Ent} {A : Option Addr} {n c : Nat} {ds : List Int} (h : Kn w0 (rowNN A n c ds :: m) w) (hl : ds.length = n) : RI w A n ds := by
  subst hl
  exact Kn.riv h
/-- so many steps -/
def itF (st : (Nat → Int) → Nat → Int) : Nat → (Nat → Int) → Nat → Int
  | 0, f => f
  | k + 1, f => st (itF st k f)
def resL (st : (Nat → Int) → Nat → Int) (f : Nat → Int) (k : Nat) : List Int := (List.range k).map (fun t => itF st t f 0)
theorem resL_succ (st : (Nat → Int) → Nat → Int) (f : Nat → Int) (k : Nat) : resL st f (k + 1) = resL st f k ++ [itF st k f 0] := by unfold resL; rw [List.range_succ, List.map_append]; rfl
theorem resL_len (st : (Nat → Int) → Nat → Int) (f : Nat → Int) (k : Nat) : (resL st f k).length = k := by simp [resL]
def hvF (M : Int) (n : Nat) (c : Nat → Int) : Nat → Int := haF M n 2 (haF M n 1 c)
set_option maxRecDepth 100000 in
set_option maxHeartbeats 6400000 in
theorem results_cyc (wd n N : Nat) (A : Option Addr) (c : Nat) (cs : List Int) (w : World) (n0 : 0 < n) (n9 : n ≤ 9) (hN : N ≤ 40) (hr : RI w A n cs) (M : Int)
    (KB : Hid (∀ (k : Nat) (B : Option Addr) (bc : Nat) (W : World), RI W B n ((List.range n).map (itF (cyF M n) k (fnL cs))) → Calls Try.prog 70 #[.agg [.int .i64 (wd : Int), .slice B n bc].toArray] W (EngR wd n ((List.range n).map (itF (cyF M n) (k + 1) (fnL cs))) W))) :
    Calls Try.prog 69 #[.agg #[.int .i64 (wd : Int), .slice A n c], .int .i64 (N : Int), .func (.func 70) #[] #[]] w fun e w' => ∃ R rc, e = .returned (.slice R N rc) ∧ Kn w [rowNN R N rc (resL (cyF M n) (fnL cs) N)] w' := by
  have HR0 := Lib.hid (fun W (hW : Below w.heap.size w W) => (show RI W A n ((List.range n).map (itF (cyF M n) 0 (fnL cs))) by
    have e : (List.range n).map (itF (cyF M n) 0 (fnL cs)) = cs := by show (List.range n).map (fnL cs) = cs; rw [← hr.1]; exact map_fnL cs
    rw [e]; exact hr.below hW))
  obtain ⟨f, hf⟩ : ∃ f, fnL cs = f := ⟨_, rfl⟩
  simp only [hf] at KB HR0 ⊢
  clear hr hf
  obtain ⟨g, hg⟩ : ∃ g, w.heap.size = g := ⟨_, rfl⟩
  have K0 := (Kn.nil w).al [.int .i64 (wd : Int), .slice A n c] 48
  simp only [World.size_alloc, hg] at K0
  go_enter Try.func69, Try.ntmps69
  go_upto_region 1 with fail
  try rw [hg]
  refine Code.wp.kn K0 ?_; clear K0 hg; intro w1 K1
  have K2 := (K1.al [] 2).litRow (size := 1) (n := 0) rfl (by decide)
  obtain ⟨h, hh⟩ : ∃ h, w1.heap.size = h := ⟨_, rfl⟩
  rw [hh] at K2
  go_upto_region 2 with fail
  try rw [hh]
  refine Code.wp.kn K2 ?_; clear K1 K2 hh; intro w2 K2
  have K3 : Kn w [.row (.slice (some ⟨h, 0, none⟩) 0 0) 2 1 (resL (cyF M n) f 0).length ((resL (cyF M n) f 0).map (Value.int .i64)), .blk g [.int .i64 (wd : Int), .slice A n c] 48, bun []] w2 := (K2.bunNil).sel [1, 2, 0] 99 (by decide) (by decide)
  clear K2
  go_wp2_with fail
  go_loopw [7, 10] (fun oo kk wr => ∃ (k : Nat) (B : Option Addr) (bc : Nat) (es : List Ent), k ≤ N ∧ kk = .int .i64 (k : Int) ∧ Hid (∀ W, Kn w [bun es] W → RI W B n ((List.range n).map (itF (cyF M n) k f))) ∧ Kn w [.row oo 2 1 (resL (cyF M n) f k).length ((resL (cyF M n) f k).map (Value.int .i64)), .blk g [.int .i64 (wd : Int), .slice B n bc] 48, bun es] wr) (fun _ kk _ => N - (intOf kk).toNat)
  case atStart => exact ⟨0, A, c, [], Nat.zero_le _, rfl, fun W hW => HR0.out W hW.below, K3⟩
  case round =>
    clear K3 HR0
    obtain ⟨k, B, bc, es, hk, rfl, HRB, KR⟩ := hrel
    by_cases hk1 : k < N
    · have i1 : (k : Int) < (N : Int) := by omega
      obtain ⟨ad, hBA, -, hkl, hcl⟩ := (HRB.out _ (KR.sel [2] 99 (by decide) (by decide))).at_ n0
      rw [addr_add_zero, List.getElem_map, List.getElem_range] at hcl
      subst hBA
      have i0 : (0 : Int) < (n : Int) := by omega
      have HX := Lib.hid (show resL (cyF M n) f (k + 1) = resL (cyF M n) f k ++ [itF (cyF M n) k f 0] from resL_succ ..)
      obtain ⟨x, hx⟩ : ∃ x, itF (cyF M n) k f 0 = x := ⟨_, rfl⟩
      rw [hx] at hcl HX
      have HL := Lib.hid (show (resL (cyF M n) f k).length ≤ 10000000 by rw [resL_len]; omega)
      clear hx hkl
      obtain ⟨n1, n2, n3, -⟩ := KR.cells
      go_upto_region 5 with (at_builtin; refine kn_pushI rfl _ _ rfl _ (resL (cyF M n) f k) rfl rfl (KR.al [.int .i64 x] 2) HL.out ?_; intro v' w' K10)
      rw [← HX.out] at K10
      clear KR n1 n2 n3 hcl
      obtain ⟨n1, n2, n3, -⟩ := K10.cells
      go_upto_region 6 with (go_at_call 70; refine (KB.out k (some ad) bc _ (HRB.out _ (K10.sel [2] 99 (by decide) (by decide)))).mono ?_; rintro e w5 ⟨gr2, ec2, rfl, hK⟩; have K5 := K10.join hK; clear hK K10 n1 n2 n3; obtain ⟨n1, n2, n3, -⟩ := K5.cells)
      have K6 := ((K5.front 2 rfl).st 0 (.int .i64 (wd : Int))).st 1 (.slice (some ⟨gr2, 0, none⟩) n ec2)
      refine Code.wp.kn K6 ?_; clear K5 K6 n1 n2 n3 HRB; intro wz K6
      have K7 := (K6.sel [1, 2, 0] 99 (by decide) (by decide)).bunNil.sw1.bunAdd
      go_wp2_with fail
      go_roundw
      case rel => exact ⟨k + 1, some ⟨gr2, 0, none⟩, ec2, _, by omega, by go_num, fun W h => (h.bunPick (List.mem_cons_self ..)).rivNN (by simp), K7.sel [1, 2, 0] 99 (by decide) (by decide)⟩
      case measure => simp [intOf] <;> omega
    · have i1 : ¬ (k : Int) < (N : Int) := by omega
      obtain rfl : k = N := by omega
      obtain ⟨R, rc, hR⟩ := row_form KR.at0
      rw [resL_len] at KR hR
      subst hR
      go_wp2_with fail
      go_ret
      exact ⟨_, _, rfl, KR.sel [0] 99 (by decide) (by decide)⟩
theorem isEngineWidth_any (x : Int) (w : World) : Calls Try.prog 65 #[.int .i64 x] w fun e w' => e = .returned (.bool (betB x 1 12)) ∧ w = w' := by
  go_enter Try.func65, Try.ntmps65
  go_wp2_with (go_at_call 74; refine (between_any _ _ _ _).mono ?_; rintro e w' ⟨rfl, rfl⟩)
  go_ret
  exact ⟨rfl, rfl⟩
set_option maxRecDepth 100000 in
set_option maxHeartbeats 1600000 in
theorem ValidEngine_true (wd n : Nat) (A : Option Addr) (c : Nat) (cs : List Int) (w : World) (h1 : 1 ≤ wd) (h12 : wd ≤ 12) (n0 : 0 < n) (n9 : n ≤ 9) (hr : RI w A n cs) (hv : InM (pw 10 wd) n (fnL cs)) :
    Calls Try.prog 110 #[.agg #[.int .i64 (wd : Int), .slice A n c]] w fun e w' => e = .returned (.bool true) ∧ Below w.heap.size w w' := by
  have hM := pw10_bd h1 h12
  have KM := Lib.hid (fun W => modulus_any wd W h12)
  have hb1 : betB (wd : Int) 1 12 = true := betB_iff.2 (by omega)
  have hb2 : betB (n : Int) 1 9 = true := betB_iff.2 (by omega)
  have HR := Lib.hid (fun W (hW : Below w.heap.size w W) => hr.below hW)
  obtain ⟨M, hMM⟩ : ∃ M, pw 10 wd = M := ⟨_, rfl⟩
  rw [hMM] at hM hv
  simp only [hMM] at KM
  have HV := Lib.hid hv
  have HL := Lib.hid hr.1
  have hwM : IntKind.i64.wrap (M - 1) = M - 1 := wrapI64 (by omega)
  clear hr hv hMM
  obtain ⟨g, hg⟩ : ∃ g, w.heap.size = g := ⟨_, rfl⟩
  have K0 := (Kn.nil w).al [.int .i64 (wd : Int), .slice A n c] 48
  simp only [World.size_alloc, hg] at K0
  go_enter Try.func110, Try.ntmps110
  go_upto_region 1 with fail
  try rw [hg]
  refine Code.wp.kn K0 ?_; clear K0 hg; intro w1 K1
  obtain ⟨e1, e2, e3, -⟩ := K1.cells
  go_wp2_with (first | (go_at_call 65; refine (isEngineWidth_any _ _).mono ?_; rintro e w' ⟨rfl, rfl⟩; try rw [hb1]) | (go_at_call 74; refine (between_any _ _ _ _).mono ?_; rintro e w' ⟨rfl, rfl⟩; try rw [hb2]))
  go_loopw [19] (fun kk wr => ∃ k : Nat, k ≤ n ∧ kk = .int .i64 (k : Int) ∧ Kn w [.blk g [.int .i64 (wd : Int), .slice A n c] 48] wr) (fun kk _ => n - (intOf kk).toNat)
  case atStart => exact ⟨0, Nat.zero_le _, rfl, K1⟩
  case round =>
    clear K1 e1 e2 e3
    obtain ⟨k, hk, rfl, K⟩ := hrel
    obtain ⟨e1, e2, e3, -⟩ := K.cells
    by_cases hk1 : k < n
    · have i1 : (k : Int) < (n : Int) := by omega
      have i0 : (0 : Int) ≤ (k : Int) := by omega
      obtain ⟨ad, hA, -, hkl, hcl⟩ := (HR.out _ K.below).at_ hk1
      obtain ⟨x, hx⟩ : ∃ x, cs[k] = x := ⟨_, rfl⟩
      have hxb := HV.out k hk1
      have e : fnL cs k = x := by rw [← hx]; simp [fnL, List.getD, hkl]
      rw [e] at hxb
      rw [hx] at hcl
      have hb3 : betB x 0 (M - 1) = true := betB_iff.2 (by omega)
      subst hA
      clear hx e hkl
      go_wp2_with (first | (go_at_call 66; refine (KM.out _).mono ?_; rintro e w' ⟨rfl, rfl⟩) | (go_at_call 74; refine (between_any _ _ _ _).mono ?_; rintro e w' ⟨rfl, rfl⟩; try rw [hb3]))
      go_roundw
      case rel => exact ⟨k + 1, by omega, by go_num, K⟩
      case measure => simp [intOf] <;> omega
    · have i1 : ¬ (k : Int) < (n : Int) := by omega
      go_wp2_with fail
      go_ret
      exact ⟨rfl, K.below⟩
theorem fnL_map (n : Nat) (g : Nat → Int) {i : Nat} (h : i < n) : fnL ((List.range n).map g) i = g i := by simp [fnL, List.getD, h]
theorem InM.congr {M : Int} {n : Nat} {c d : Nat → Int} (h : InM M n c) (e : ∀ i, i < n → d i = c i) : InM M n d := fun i hi => by rw [e i hi]; exact h i hi
theorem InM.map {M : Int} {n : Nat} {g : Nat → Int} (h : InM M n g) : InM M n (fnL ((List.range n).map g)) := h.congr fun i hi => fnL_map n g hi
theorem cyclesCode_ok (wd n N : Nat) (A : Option Addr) (c : Nat) (cs : List Int) (w : World) (h1 : 1 ≤ wd) (h12 : wd ≤ 12) (n0 : 0 < n) (n9 : n ≤ 9) (hN : N ≤ 40) (hr : RI w A n cs) (hv : InM (pw 10 wd) n (fnL cs)) :
    Calls Try.prog 68 #[.agg #[.int .i64 (wd : Int), .slice A n c], .int .i64 (N : Int)] w fun e w' => e = .returned (.int .i64 0) ∧ Below w.heap.size w w' := by
  have KV := Lib.hid (fun W (hW : Below w.heap.size w W) => ValidEngine_true wd n A c cs W h1 h12 n0 n9 (hr.below hW) hv)
  have hb1 : betB (N : Int) 0 40 = true := betB_iff.2 (by omega)
  clear hr hv
  obtain ⟨g, hg⟩ : ∃ g, w.heap.size = g := ⟨_, rfl⟩
  have K0 := (Kn.nil w).al [.int .i64 (wd : Int), .slice A n c] 48
  simp only [World.size_alloc, hg] at K0
  go_enter Try.func68, Try.ntmps68
  go_upto_region 1 with fail
  try rw [hg]
  refine Code.wp.kn K0 ?_; clear K0 hg; intro w1 K1
  obtain ⟨a1, a2, a3, -⟩ := K1.cells
  go_wp2_with (first | (go_at_call 110; refine (KV.out _ K1.below).mono ?_; rintro e w2 ⟨rfl, hw⟩; have K2 := K1.keep hw; clear hw K1 a1 a2 a3) | (go_at_call 74; refine (between_any _ _ _ _).mono ?_; rintro e w' ⟨rfl, rfl⟩; try rw [hb1]))
  go_ret
  exact ⟨rfl, K2.below⟩
theorem it_in {M : Int} {n : Nat} {f : Nat → Int} (h : InM M n f) (hM : 0 < M) : ∀ k, InM M n (itF (cyF M n) k f)
  | 0 => h
  | k + 1 => (it_in h hM k).cy hM
theorem cyF_congrL {M : Int} {n : Nat} {f : Nat → Int} (g : Nat → Int) (h : ∀ i, i < n → f i = g i) : ∀ k i, i < n → itF (cyF M n) k f i = itF (cyF M n) k g i
  | 0, i, hi => h i hi
  | k + 1, i, hi => cyF_congr (fun j hj => cyF_congrL g h k j hj) i hi
theorem resL_congr {M : Int} {n : Nat} {f g : Nat → Int} (n0 : 0 < n) (h : ∀ i, i < n → f i = g i) (N : Nat) : resL (cyF M n) f N = resL (cyF M n) g N :=
  List.map_congr_left fun t _ => cyF_congrL g h t 0 n0
def RunR (N : Nat) (ds : List Int) (w : World) (e : Ending) (w' : World) : Prop := ∃ R rc, e = .returned (.tuple #[.slice R N rc, .int .i64 0]) ∧ Kn w [rowNN R N rc ds] w'
set_option maxRecDepth 100000 in
set_option maxHeartbeats 1600000 in
theorem RunEngine_ok (wd n N : Nat) (A : Option Addr) (c : Nat) (cs : List Int) (w : World) (h1 : 1 ≤ wd) (h12 : wd ≤ 12) (n0 : 0 < n) (n9 : n ≤ 9) (hN : N ≤ 40) (hr : RI w A n cs) (hv : InM (pw 10 wd) n (fnL cs)) :
    Calls Try.prog 20 #[.agg #[.int .i64 (wd : Int), .slice A n c], .int .i64 (N : Int)] w (RunR N (resL (cyF (pw 10 wd) n) (fnL cs) N) w) := by
  unfold RunR rowNN
  have hM := pw10_bd h1 h12
  have KC := Lib.hid (fun W (hW : Below w.heap.size w W) => cyclesCode_ok wd n N A c cs W h1 h12 n0 n9 hN (hr.below hW) hv)
  have KB : Hid (∀ (k : Nat) (B : Option Addr) (bc : Nat) (W : World), RI W B n ((List.range n).map (itF (cyF (pw 10 wd) n) k (fnL cs))) → Calls Try.prog 70 #[.agg #[.int .i64 (wd : Int), .slice B n bc]] W (EngR wd n ((List.range n).map (itF (cyF (pw 10 wd) n) (k + 1) (fnL cs))) W)) := fun k B bc W hW => by
    have h := cycled_ok wd n B bc _ W h1 h12 n0 n9 hW (it_in hv (by omega) k).map
    rw [show (List.range n).map (cyF (pw 10 wd) n (fnL ((List.range n).map (itF (cyF (pw 10 wd) n) k (fnL cs))))) = (List.range n).map (itF (cyF (pw 10 wd) n) (k + 1) (fnL cs)) from List.map_congr_left fun i hi => cyF_congr (fun j hj => fnL_map n _ hj) i (List.mem_range.1 hi)] at h
    exact h
  have KR := Lib.hid (fun W (hW : Below w.heap.size w W) => results_cyc wd n N A c cs W n0 n9 hN (hr.below hW) (pw 10 wd) KB)
  clear hr hv KB hM
  obtain ⟨ds, hds⟩ : ∃ d, resL (cyF (pw 10 wd) n) (fnL cs) N = d := ⟨_, rfl⟩
  rw [hds] at KR ⊢
  clear hds
  unfold rowNN at KR
  obtain ⟨g, hg⟩ : ∃ g, w.heap.size = g := ⟨_, rfl⟩
  have K0 := (Kn.nil w).al [.int .i64 (wd : Int), .slice A n c] 48
  simp only [World.size_alloc, hg] at K0
  go_enter Try.func20, Try.ntmps20
  go_upto_region 1 with fail
  try rw [hg]
  refine Code.wp.kn K0 ?_; clear K0 hg; intro w1 K1
  obtain ⟨e1, e2, e3, -⟩ := K1.cells
  go_upto_region 4 with (go_at_call 68; refine (KC.out _ K1.below).mono ?_; rintro e w2 ⟨rfl, hw⟩; have K2 := K1.keep hw; clear hw K1 e1 e2 e3; obtain ⟨e1, e2, e3, -⟩ := K2.cells)
  go_wp2_with (go_at_call 69; refine (KR.out _ K2.below).mono ?_; rintro e w3 ⟨R, rc, rfl, hK⟩; have K3 := K2.join hK; clear hK K2 e1 e2 e3)
  go_ret2
  exact ⟨R, rc, rfl, K3.sel [0] 99 (by decide) (by decide)⟩
end Go.Proofs.Ytmmiahgmdllgdaa

namespace Go.Proofs.Ytmmiahgmdllgdaa
open Go.RowKit
/-- binomial coefficients -/
def bin : Nat → Nat → Int
  | _, 0 => 1
  | 0, _ + 1 => 0
  | t + 1, k + 1 => bin t (k + 1) + bin t k
/-- the value of a polynomial that is told by its differences -/
def nvF (c : Nat → Int) (t : Nat) : Nat → Int
  | 0 => 0
  | k + 1 => nvF c t k + c k * bin t k
def stepF (c : Nat → Int) (i : Nat) : Int := c i + c (i + 1)
theorem bin_zero (t : Nat) : bin t 0 = 1 := by cases t <;> rfl
theorem nvF_step (c : Nat → Int) (t : Nat) : ∀ k, nvF c (t + 1) (k + 1) = nvF (stepF c) t (k + 1) - c (k + 1) * bin t k
  | 0 => by
    show 0 + c 0 * bin (t + 1) 0 = 0 + (c 0 + c 1) * bin t 0 - c 1 * bin t 0
    rw [bin_zero, bin_zero]
    omega
  | k + 1 => by
    have ih := nvF_step c t k
    show nvF c (t + 1) (k + 1) + c (k + 1) * bin (t + 1) (k + 1) = nvF (stepF c) t (k + 1) + (c (k + 1) + c (k + 2)) * bin t (k + 1) - c (k + 2) * bin t (k + 1)
    rw [ih]
    show _ + c (k + 1) * (bin t (k + 1) + bin t k) = _
    rw [Int.mul_add, Int.add_mul]
    omega
def itS (c : Nat → Int) : Nat → Nat → Int
  | 0 => c
  | t + 1 => stepF (itS c t)
theorem itS_out (c : Nat → Int) : ∀ t, itS c (t + 1) = itS (stepF c) t
  | 0 => rfl
  | t + 1 => by show stepF (itS c (t + 1)) = stepF (itS (stepF c) t); rw [itS_out c t]
theorem nvF_zero (c : Nat → Int) : ∀ k, nvF c 0 (k + 1) = c 0
  | 0 => by show 0 + c 0 * bin 0 0 = c 0; rw [bin_zero]; omega
  | k + 1 => by
    show nvF c 0 (k + 1) + c (k + 1) * bin 0 (k + 1) = c 0
    rw [nvF_zero c k]
    show c 0 + c (k + 1) * 0 = c 0
    omega
theorem nvF_it : ∀ (t : Nat) (c : Nat → Int) (n : Nat), (∀ i, n + 1 ≤ i → c i = 0) → nvF c t (n + 1) = itS c t 0
  | 0, c, n, _ => nvF_zero c n
  | t + 1, c, n, h => by
    rw [nvF_step, h (n + 1) (Nat.le_refl _), itS_out, ← nvF_it t (stepF c) n (fun i hi => by unfold stepF; rw [h i hi, h (i + 1) (by omega)]; rfl)]
    omega
/-- the columns of an engine are those numbers, modulo -/
theorem itF_mod {M : Int} {n : Nat} {f c : Nat → Int} (hf : ∀ i, i < n → f i = c i % M) (hc : ∀ i, n ≤ i → c i = 0) : ∀ t, (∀ i, n ≤ i → itS c t i = 0) ∧ ∀ i, i < n → itF (cyF M n) t f i = itS c t i % M
  | 0 => ⟨hc, hf⟩
  | t + 1 => by
    obtain ⟨h1, h2⟩ := itF_mod hf hc t
    refine ⟨fun i hi => ?_, fun i hi => ?_⟩
    · show itS c t i + itS c t (i + 1) = 0
      rw [h1 i hi, h1 (i + 1) (by omega)]; rfl
    · show (if i + 1 < n then (itF (cyF M n) t f i + itF (cyF M n) t f (i + 1)) % M else itF (cyF M n) t f i) = (itS c t i + itS c t (i + 1)) % M
      by_cases e : i + 1 < n
      · rw [if_pos e, h2 i hi, h2 (i + 1) e, ← Int.add_emod]
      · rw [if_neg e, h2 i hi, h1 (i + 1) (by omega), Int.add_zero]
theorem res_newton {M : Int} {n : Nat} {f c : Nat → Int} (n0 : 0 < n) (hf : ∀ i, i < n → f i = c i % M) (hc : ∀ i, n ≤ i → c i = 0) (t : Nat) : itF (cyF M n) t f 0 = nvF c t n % M := by
  obtain ⟨q, rfl⟩ : ∃ q, n = q + 1 := ⟨n - 1, by omega⟩
  rw [(itF_mod hf hc t).2 0 n0, nvF_it t c q hc]
/-- the binomial coefficients as the reference steps through them -/
def choF (x : Nat) : Nat → Int
  | 0 => 1
  | k + 1 => if k < x then (choF x k * ((x : Int) - k)).tdiv ((k : Int) + 1) else 0
theorem choF_bin : ∀ x, x < 12 → ∀ k, k < 8 → choF x k = bin x k := by decide +kernel
theorem bin_bd : ∀ x, x < 12 → ∀ k, k < 8 → 0 ≤ bin x k ∧ bin x k ≤ 462 := by decide +kernel
theorem nvF_bd {c : Nat → Int} {x : Nat} (hx : x < 12) : ∀ k, k ≤ 8 → (∀ i, i < k → -20 ≤ c i ∧ c i ≤ 20) → -((k : Int) * 9240) ≤ nvF c x k ∧ nvF c x k ≤ (k : Int) * 9240
  | 0, _, _ => ⟨by simp [nvF], by simp [nvF]⟩
  | k + 1, hk, h => by
    obtain ⟨h1, h2⟩ := nvF_bd hx k (by omega) (fun i hi => h i (by omega))
    obtain ⟨b0, b1⟩ := bin_bd x hx k (by omega)
    obtain ⟨c0, c1⟩ := h k (by omega)
    have e1 : c k * bin x k ≤ 20 * 462 := Int.le_trans (Int.mul_le_mul_of_nonneg_right c1 b0) (Int.mul_le_mul_of_nonneg_left b1 (by omega))
    have e2 : -(20 * 462) ≤ c k * bin x k := by
      have := Int.mul_le_mul_of_nonneg_right c0 b0
      have := Int.mul_le_mul_of_nonneg_left b1 (show (0 : Int) ≤ 20 by omega)
      omega
    show _ ≤ nvF c x k + c k * bin x k ∧ nvF c x k + c k * bin x k ≤ _
    omega
/-- a result of nine wheels, read with its sign -/
def sgn9 (r : Int) : Int := if 1000000000 ≤ 2 * r then r - 1000000000 else r
theorem sgn9_mod {v : Int} (h1 : -500000000 ≤ v) (h2 : v < 500000000) : sgn9 (v % 1000000000) = v := by
  unfold sgn9
  split <;> omega
end Go.Proofs.Ytmmiahgmdllgdaa

namespace Go.Proofs.Ytmmiahgmdllgdaa
open Go.RowKit Go.Sort
/-- an engine behind a pointer -/
def EngP (w : World) (g wd n : Nat) (A : Option Addr) (c : Nat) (cs : List Int) : Prop := ((w.cell? ⟨g, 0, none⟩ = some (.int .i64 (wd : Int)) ∧ w.cell? ⟨g, 1, none⟩ = some (.slice A n c)) ∧ g < w.heap.size) ∧ RI w A n cs
theorem EngP.below {w w' : World} {g wd n c : Nat} {A : Option Addr} {cs : List Int} (h : EngP w g wd n A c cs) (hb : Below w.heap.size w w') : EngP w' g wd n A c cs :=
  ⟨⟨⟨by rw [hb.cell h.1.2]; exact h.1.1.1, by rw [hb.cell h.1.2]; exact h.1.1.2⟩, Nat.lt_of_lt_of_le h.1.2 hb.size⟩, h.2.below hb⟩
theorem EngP.of {w0 w : World} {m : List Ent} {g wd n c : Nat} {A : Option Addr} {cs : List Int} (h : Kn w0 (.blk g [.int .i64 (wd : Int), .slice A n c] 48 :: m) w) (hr : RI w A n cs) : EngP w g wd n A c cs := ⟨⟨box2 h, h.blkAt.2.2⟩, hr⟩
theorem l10Power10 (n : Nat) (w : World) (hn : n ≤ 12) : Calls Try.prog 109 #[.int .i64 10, .int .i64 (n : Int)] w fun e w' => e = .returned (.int .i64 (pw 10 n)) ∧ w = w' := by
  have h := l10Power_any 10 n w (by omega) (by omega) (by omega)
  have h2 := pw_mono 10 (by omega) n 12 hn
  have h3 : pw 10 12 = 1000000000000 := by decide
  rw [show powS 10 n = pw 10 n by unfold powS; omega] at h
  exact h
theorem tmod_mod (x M : Int) (hM : 0 < M) : (x.tmod M + M).tmod M = x % M := by
  have h1 : -M < x.tmod M := by
    have := Int.tmod_lt_of_pos (-x) hM
    rw [Int.neg_tmod] at this
    omega
  rw [Int.tmod_eq_emod_of_nonneg (by omega), Int.add_emod_right, Int.tmod_def, Int.sub_emod, Int.mul_emod_right, Int.sub_zero, Int.emod_emod]
set_option maxRecDepth 100000 in
set_option maxHeartbeats 3200000 in
theorem l16Ok_ok (g wd n : Nat) (A : Option Addr) (c : Nat) (cs : List Int) (w : World) (h1 : 1 ≤ wd) (h12 : wd ≤ 12) (n0 : 0 < n) (n9 : n ≤ 9) (hp : EngP w g wd n A c cs) (hv : InM (pw 10 wd) n (fnL cs)) :
    Calls Try.prog 67 #[.pointer (some ⟨g, 0, none⟩)] w fun e w' => e = .returned (.bool true) ∧ Below w.heap.size w w' := by
  have hM := pw10_bd h1 h12
  have HP := Lib.hid (fun W (hW : Below w.heap.size w W) => hp.below hW)
  have hb1 : betB (wd : Int) 1 12 = true := betB_iff.2 (by omega)
  have hb2 : betB (n : Int) 1 9 = true := betB_iff.2 (by omega)
  have KW := Lib.hid (fun (W : World) => (show Calls Try.prog 108 #[.int .i64 (wd : Int)] W (fun e w' => e = .returned (.bool true) ∧ W = w') from by
    go_enter Try.func108, Try.ntmps108
    go_wp2_with (go_at_call 72; refine (l00In_any _ _ _ _).mono ?_; rintro e w' ⟨rfl, rfl⟩)
    go_ret
    exact ⟨by first | rfl | exact ret_bool hb1, rfl⟩))
  have KN := Lib.hid (fun (W : World) => (show Calls Try.prog 72 #[.int .i64 (n : Int), .int .i64 1, .int .i64 9] W (fun e w' => e = .returned (.bool true) ∧ W = w') from (l00In_any _ _ _ _).mono fun e w' h => ⟨by rw [h.1, hb2], h.2⟩))
  have HV := Lib.hid hv
  have KP := Lib.hid (fun (W : World) => (show Calls Try.prog 109 #[.int .i64 10, .int .i64 (wd : Int)] W (fun e w' => e = .returned (.int .i64 (pw 10 wd)) ∧ Below W.heap.size W w') from (l10Power10 wd W h12).mono fun e w' h => ⟨h.1, by rw [← h.2]; exact Below.refl _ _⟩))
  obtain ⟨M, hMM⟩ : ∃ M, pw 10 wd = M := ⟨_, rfl⟩
  rw [hMM] at hM
  rw [hMM] at HV
  simp only [hMM] at KP
  have hwM : IntKind.i64.wrap (M - 1) = M - 1 := wrapI64 (by omega)
  have K1 := Kn.nil w
  obtain ⟨⟨⟨c0, c1⟩, -⟩, -⟩ := hp
  clear hv hMM hb1 hb2
  go_enter Try.func67, Try.ntmps67
  go_wp2_with (first | (go_at_call 108; refine (KW.out _).mono ?_; rintro e w' ⟨rfl, rfl⟩) | (go_at_call 72; refine (KN.out _).mono ?_; rintro e w' ⟨rfl, rfl⟩))
  go_loopw [3] (fun kk wr => ∃ k : Nat, k ≤ n ∧ kk = .int .i64 (k : Int) ∧ Kn w [] wr) (fun kk _ => n - (intOf kk).toNat)
  case atStart => exact ⟨0, Nat.zero_le _, rfl, K1⟩
  case round =>
    clear K1 c0 c1
    obtain ⟨k, hk, rfl, K⟩ := hrel
    obtain ⟨⟨⟨c0, c1⟩, -⟩, hri⟩ := HP.out _ K.below
    by_cases hk1 : k < n
    · have i1 : (k : Int) < (n : Int) := by omega
      have i0 : (0 : Int) ≤ (k : Int) := by omega
      obtain ⟨ad, hA, -, hkl, hcl⟩ := hri.at_ hk1
      obtain ⟨x, hx⟩ : ∃ x, cs[k] = x := ⟨_, rfl⟩
      have hxb := HV.out k hk1
      have e : fnL cs k = x := by rw [← hx]; simp [fnL, List.getD, hkl]
      rw [e] at hxb
      rw [hx] at hcl
      have KI := Lib.hid (fun (W : World) => (show Calls Try.prog 72 #[.int .i64 x, .int .i64 0, .int .i64 (M - 1)] W (fun e w' => e = .returned (.bool true) ∧ Below W.heap.size W w') from (l00In_any _ _ _ _).mono fun e w' h => ⟨by rw [h.1, betB_iff.2 (by omega)], by rw [← h.2]; exact Below.refl _ _⟩))
      subst hA
      clear hx e hkl hri hxb
      go_upto_region 6 with fail
      have x0 := cell_regrown c0
      have x1 := cell_regrown c1
      have x2 := cell_regrown hcl
      clear c0 c1 hcl
      refine wp_region_quiet_below (by kernel_rfl) (by kernel_rfl) ?_
      repeat (go_big_quiet_step ((first | (go_at_call 109; exact quietB (fun W _ => KP.out W)) | (go_at_call 72; exact quietB (fun W _ => KI.out W)))))
      refine wpQuiet_nil ?_
      intro _ hw'
      obtain ⟨⟨dq, osq⟩, hw''⟩ := hw'
      subst hw''
      have K2 := K.keep (below_regrown wr dq osq)
      dsimp only
      clear x0 x1 x2
      obtain ⟨w9, hw9⟩ : ∃ W, grow (redrawn wr dq) osq = W := ⟨_, rfl⟩
      rw [hw9] at K2 ⊢
      clear hw9
      go_wp2_with fail
      go_roundw
      case rel => exact ⟨k + 1, by omega, by go_num, K2⟩
      case measure => simp [intOf] <;> omega
    · have i1 : ¬ (k : Int) < (n : Int) := by omega
      clear hri
      go_wp2_with fail
      go_ret
      exact ⟨rfl, K.below⟩
theorem specValidEngine_true (wd n : Nat) (A : Option Addr) (c : Nat) (cs : List Int) (w : World) (h1 : 1 ≤ wd) (h12 : wd ≤ 12) (n0 : 0 < n) (n9 : n ≤ 9) (hr : RI w A n cs) (hv : InM (pw 10 wd) n (fnL cs)) :
    Calls Try.prog 19 #[.agg #[.int .i64 (wd : Int), .slice A n c]] w fun e w' => e = .returned (.bool true) ∧ Below w.heap.size w w' := by
  have K0 := (Kn.nil w).al [.int .i64 (wd : Int), .slice A n c] 48
  have KO := Lib.hid (fun W (K : Kn w [.blk w.heap.size [.int .i64 (wd : Int), .slice A n c] 48] W) => l16Ok_ok w.heap.size wd n A c cs W h1 h12 n0 n9 (EngP.of K (hr.below K.below)) hv)
  clear hr hv
  go_enter Try.func19, Try.ntmps19
  go_wp2_with (go_at_call 67; refine Calls.kn K0 ?_; clear K0; intro w1 K1; refine (KO.out _ K1).mono ?_; rintro e w2 ⟨rfl, hw⟩; have K2 := K1.keep hw; clear hw K1)
  go_ret
  exact ⟨rfl, K2.below⟩
def modL (M : Int) (ds : List Int) : List Int := ds.map (· % M)
theorem modL_take (M : Int) (ds : List Int) {k : Nat} (h : k < ds.length) : modL M (ds.take (k + 1)) = modL M (ds.take k) ++ [ds[k] % M] := by
  unfold modL
  rw [List.take_succ_eq_append_getElem h, List.map_append]; rfl
/-- drawn coefficients -/
def DCo (b M : Nat) (w : World) (e : Ending) (w' : World) : Prop := ∃ (A : Option Addr) (n c : Nat) (ds : List Int), e = .returned (.slice A n c) ∧ (1 ≤ n ∧ n ≤ 7) ∧ ds.length = n ∧ (∀ d ∈ ds, -20 ≤ d ∧ d ≤ 20) ∧ DR b M w [rowNN A n c ds] w'
/-- drawn coefficients -/
def DCo5 (b M : Nat) (w : World) (e : Ending) (w' : World) : Prop := ∃ (A : Option Addr) (n c : Nat) (ds : List Int), e = .returned (.slice A n c) ∧ (1 ≤ n ∧ n ≤ 5) ∧ ds.length = n ∧ (∀ d ∈ ds, -20 ≤ d ∧ d ≤ 20) ∧ DR b M w [rowNN A n c ds] w'
set_option maxRecDepth 100000 in
set_option maxHeartbeats 3200000 in
theorem l15DrawCoefs5_dr (b N : Nat) (w : World) (h : Src w b N) (hN : N ≤ 900000) :
    Calls Try.prog 63 #[.pointer (some ⟨b, 0, none⟩), .int .i64 5] w (DCo5 b (N + 20) w) := by
  have D0 := DR.nil h
  clear h
  go_enter Try.func63, Try.ntmps63
  have D1 := (D0.al [] 2).kn (fun v hv => hv.litRow (size := 1) (n := 0) rfl (by decide))
  obtain ⟨h, hh⟩ : ∃ g, w.heap.size = g := ⟨_, rfl⟩
  rw [hh] at D1
  go_upto_region 2 with fail
  try rw [hh]
  refine Code.wp.dr D1 ?_; clear D0 D1 hh; intro w1 D1
  go_wp2_with fail
  refine (pick_dr b _ 5 w1 D1.src (by omega)).mono ?_; rintro e w2 ⟨y, rfl, hy, h2⟩
  have D2 := D1.add h2
  obtain ⟨k0, hk0⟩ : ∃ q : Nat, 1 + y = (q : Int) := ⟨(1 + y).toNat, by omega⟩
  have hw0 : IntKind.i64.wrap (1 + y) = (k0 : Int) := by rw [hk0]; exact wrapI64 (by omega)
  have hk1 : 1 ≤ k0 ∧ k0 ≤ 5 := by omega
  have D3 : DR b (N + 2) w [.row (.slice (some ⟨h, 0, none⟩) 0 0) 2 1 ([] : List Int).length (([] : List Int).map (Value.int .i64))] w2 := D2
  clear D1 D2 h2 hy
  go_wp2_with fail
  go_loopw [5, 6] (fun oo kk wr => ∃ (k : Nat) (ts : List Int), kk = .int .i64 (k : Int) ∧ ts.length + k = k0 ∧ Hid (∀ d ∈ ts, -20 ≤ d ∧ d ≤ 20) ∧ DR b (N + 20 - 2 * k) w [.row oo 2 1 ts.length (ts.map (Value.int .i64))] wr) (fun _ kk _ => (intOf kk).toNat)
  case atStart => exact ⟨k0, [], by first | rfl | exact congrArg _ hk0, by simp, Lib.hid (fun d hd => nomatch hd), D3.mono (by omega)⟩
  case round =>
    clear D3 hk0 hw0
    obtain ⟨k, ts, rfl, htk, HT, D⟩ := hrel
    by_cases hk : 0 < k
    · have i1 : (0 : Int) < (k : Int) := by omega
      have HL := Lib.hid (show ts.length ≤ 10000000 by omega)
      go_wp2_with fail
      refine (pick_dr b _ 41 wr D.src (by omega)).mono ?_; rintro e w4 ⟨x, rfl, hx, h4⟩
      have D4 := D.add h4
      obtain ⟨z, hz⟩ : ∃ z, x - 20 = z := ⟨_, rfl⟩
      have hzb : -20 ≤ z ∧ z ≤ 20 := by omega
      have hwz : IntKind.i64.wrap (x - 20) = z := by rw [hz]; exact wrapI64 (by omega)
      have D5 : DR b (N + 20 - 2 * k + 2) w [.row u5 2 1 ts.length (ts.map (Value.int .i64))] w4 := D4
      clear hz hx h4 D D4
      obtain ⟨vd, hT, hS, hK⟩ := D5
      go_wp2_with (at_builtin; refine kn_pushI rfl _ _ rfl _ ts rfl rfl (hK.al [.int .i64 z] 2) HL.out ?_; intro v' w' K10)
      have D6 : DR b (N + 20 - 2 * (k - 1)) w [.row v' 2 1 (ts ++ [z]).length ((ts ++ [z]).map (Value.int .i64))] w' := DR.mono ⟨vd, hT, hS, K10⟩ (by omega)
      go_roundw
      case rel => exact ⟨k - 1, ts ++ [z], by go_num, by rw [List.length_append, List.length_singleton]; omega, (fun d hd => by
        rcases List.mem_append.1 hd with hd | hd
        · exact HT.out d hd
        · rw [List.mem_singleton.1 hd]; exact hzb), D6⟩
      case measure => simp [intOf] <;> omega
    · have i1 : ¬ (0 : Int) < (k : Int) := by omega
      obtain ⟨A, c, hv⟩ : ∃ A c, u5 = .slice A ts.length c := by
        obtain ⟨vd, hT, hS, hK⟩ := D
        exact row_form hK.at0
      subst hv
      have HTL := Lib.hid (show 1 ≤ ts.length ∧ ts.length ≤ 5 by omega)
      clear htk hk1
      go_wp2_with fail
      go_ret
      exact ⟨A, ts.length, c, ts, rfl, HTL.out, rfl, HT.out, D.mono (by omega)⟩
end Go.Proofs.Ytmmiahgmdllgdaa

namespace Go.Proofs.Ytmmiahgmdllgdaa
open Go.RowKit Go.Sort
set_option maxHeartbeats 1600000 in
theorem areEntries_true (A : Option Addr) (n c : Nat) (ds : List Int) (w : World) (n0 : 1 ≤ n) (n9 : n ≤ 9) (hr : RI w A n ds) (hb : ∀ d ∈ ds, -1000 ≤ d ∧ d ≤ 1000) :
    Calls Try.prog 107 #[.slice A n c, .int .i64 9] w fun e w' => e = .returned (.bool true) ∧ Below w.heap.size w w' := by
  have HR := Lib.hid (fun W (hW : Below w.heap.size w W) => hr.below hW)
  have HB := Lib.hid hb
  have hln := hr.1
  clear hr hb
  have K0 := Kn.nil w
  go_enter Try.func107, Try.ntmps107
  go_wp2_with fail
  go_loopw [9] (fun kk wr => ∃ k : Nat, k ≤ n ∧ kk = .int .i64 (k : Int) ∧ Kn w [] wr) (fun kk _ => n - (intOf kk).toNat)
  case atStart => exact ⟨0, Nat.zero_le _, rfl, K0⟩
  case round =>
    clear K0
    obtain ⟨k, hk, rfl, K⟩ := hrel
    by_cases hk1 : k < n
    · have i1 : (k : Int) < (n : Int) := by omega
      have i0 : (0 : Int) ≤ (k : Int) := by omega
      obtain ⟨ad, hA, -, hkl, hcl⟩ := (HR.out _ K.below).at_ hk1
      obtain ⟨x, hx⟩ : ∃ x, ds[k] = x := ⟨_, rfl⟩
      have hxb := HB.out x (by rw [← hx]; exact List.getElem_mem _)
      rw [hx] at hcl
      have hbt : betB x (-1000000000) 1000000000 = true := betB_iff.2 (by omega)
      subst hA
      clear hx hkl
      go_wp2_with (go_at_call 74; refine (between_any _ _ _ _).mono ?_; rintro e w' ⟨rfl, rfl⟩; try rw [hbt])
      go_roundw
      case rel => exact ⟨k + 1, by omega, by go_num, K⟩
      case measure => simp [intOf] <;> omega
    · have i1 : ¬ (k : Int) < (n : Int) := by omega
      have i2 : (1 : Int) ≤ (n : Int) := by omega
      have i3 : (n : Int) ≤ 9 := by omega
      have i4 : decide (n ≤ 9) = true := decide_eq_true n9
      have i5 : decide (1 ≤ n) = true := decide_eq_true n0
      have i6 : decide ((n : Int) ≤ 9) = true := decide_eq_true i3
      go_wp2_with fail
      go_ret
      exact ⟨by first | rfl | exact ret_bool i4 | exact ret_bool i6, K.below⟩
set_option maxHeartbeats 1600000 in
theorem l15Entries_true (A : Option Addr) (n c : Nat) (ds : List Int) (w : World) (n9 : n ≤ 9) (hr : RI w A n ds) (hb : ∀ d ∈ ds, -1000 ≤ d ∧ d ≤ 1000) :
    Calls Try.prog 112 #[.slice A n c] w fun e w' => e = .returned (.bool true) ∧ Below w.heap.size w w' := by
  have HR := Lib.hid (fun W (hW : Below w.heap.size w W) => hr.below hW)
  have HB := Lib.hid hb
  have hln := hr.1
  clear hr hb
  have K0 := Kn.nil w
  go_enter Try.func112, Try.ntmps112
  go_wp2_with fail
  go_loopw [3] (fun kk wr => ∃ k : Nat, k ≤ n ∧ kk = .int .i64 (k : Int) ∧ Kn w [] wr) (fun kk _ => n - (intOf kk).toNat)
  case atStart => exact ⟨0, Nat.zero_le _, rfl, K0⟩
  case round =>
    clear K0
    obtain ⟨k, hk, rfl, K⟩ := hrel
    by_cases hk1 : k < n
    · have i1 : (k : Int) < (n : Int) := by omega
      have i0 : (0 : Int) ≤ (k : Int) := by omega
      obtain ⟨ad, hA, -, hkl, hcl⟩ := (HR.out _ K.below).at_ hk1
      obtain ⟨x, hx⟩ : ∃ x, ds[k] = x := ⟨_, rfl⟩
      have hxb := HB.out x (by rw [← hx]; exact List.getElem_mem _)
      rw [hx] at hcl
      have hbt : betB x (-1000000000) 1000000000 = true := betB_iff.2 (by omega)
      subst hA
      clear hx hkl
      go_wp2_with (go_at_call 72; refine (l00In_any _ _ _ _).mono ?_; rintro e w' ⟨rfl, rfl⟩; try rw [hbt])
      go_roundw
      case rel => exact ⟨k + 1, by omega, by go_num, K⟩
      case measure => simp [intOf] <;> omega
    · have i1 : ¬ (k : Int) < (n : Int) := by omega
      go_wp2_with fail
      go_ret
      exact ⟨rfl, K.below⟩
theorem areCoefs_true (A : Option Addr) (n c : Nat) (ds : List Int) (w : World) (n0 : 1 ≤ n) (n9 : n ≤ 9) (hr : RI w A n ds) (hb : ∀ d ∈ ds, -1000 ≤ d ∧ d ≤ 1000) :
    Calls Try.prog 64 #[.slice A n c] w fun e w' => e = .returned (.bool true) ∧ Below w.heap.size w w' := by
  have KE := Lib.hid (areEntries_true A n c ds w n0 n9 hr hb)
  clear hr hb
  go_enter Try.func64, Try.ntmps64
  go_wp2_with (go_at_call 107; refine KE.out.mono ?_; rintro e w1 ⟨rfl, hw⟩)
  go_ret
  exact ⟨rfl, hw⟩
theorem l15Coefs_true (A : Option Addr) (n c : Nat) (ds : List Int) (w : World) (n0 : 1 ≤ n) (n9 : n ≤ 9) (hr : RI w A n ds) (hb : ∀ d ∈ ds, -1000 ≤ d ∧ d ≤ 1000) :
    Calls Try.prog 71 #[.slice A n c] w fun e w' => e = .returned (.bool true) ∧ Below w.heap.size w w' := by
  have KE := Lib.hid (l15Entries_true A n c ds w n9 hr hb)
  have hbt : betB (n : Int) 1 9 = true := betB_iff.2 (by omega)
  clear hr hb
  go_enter Try.func71, Try.ntmps71
  go_wp2_with (first | (go_at_call 72; refine (l00In_any _ _ _ _).mono ?_; rintro e w' ⟨rfl, rfl⟩; try rw [hbt]) | (go_at_call 112; refine KE.out.mono ?_; rintro e w1 ⟨rfl, hw⟩))
  go_ret
  exact ⟨rfl, hw⟩
set_option maxHeartbeats 1600000 in
theorem SignedResult_ok (r : Int) (w : World) (h0 : 0 ≤ r) (h1 : r < 1000000000) :
    Calls Try.prog 22 #[.int .i64 9, .int .i64 r] w fun e w' => e = .returned (.tuple #[.int .i64 (sgn9 r), .int .i64 0]) ∧ w = w' := by
  have KM := Lib.hid (fun (W : World) => (show Calls Try.prog 66 #[.int .i64 9] W (fun e w' => e = .returned (.int .i64 1000000000) ∧ W = w') from modulus_any 9 W (by decide)))
  have KW := Lib.hid (fun (W : World) => (show Calls Try.prog 65 #[.int .i64 9] W (fun e w' => e = .returned (.bool true) ∧ W = w') from isEngineWidth_any 9 W))
  have KB := Lib.hid (fun (W : World) => (show Calls Try.prog 74 #[.int .i64 r, .int .i64 0, .int .i64 999999999] W (fun e w' => e = .returned (.bool true) ∧ W = w') from (between_any _ _ _ _).mono fun e w' h => ⟨by rw [h.1, betB_iff.2 (by omega)], h.2⟩))
  have u1 : IntKind.i64.wrap (2 * r) = 2 * r := wrapI64 (by omega)
  have u2 : IntKind.i64.wrap (r - 1000000000) = r - 1000000000 := wrapI64 (by omega)
  by_cases hc : 1000000000 ≤ 2 * r
  · have HS := Lib.hid (show sgn9 r = r - 1000000000 by unfold sgn9; rw [if_pos hc])
    go_enter Try.func22, Try.ntmps22
    go_wp2_with (first | (go_at_call 66; refine (KM.out _).mono ?_; rintro e w' ⟨rfl, rfl⟩) | (go_at_call 65; refine (KW.out _).mono ?_; rintro e w' ⟨rfl, rfl⟩) | (go_at_call 74; refine (KB.out _).mono ?_; rintro e w' ⟨rfl, rfl⟩))
    go_ret2
    exact ⟨by rw [HS.out]; rfl, rfl⟩
  · have HS := Lib.hid (show sgn9 r = r by unfold sgn9; rw [if_neg hc])
    go_enter Try.func22, Try.ntmps22
    go_wp2_with (first | (go_at_call 66; refine (KM.out _).mono ?_; rintro e w' ⟨rfl, rfl⟩) | (go_at_call 65; refine (KW.out _).mono ?_; rintro e w' ⟨rfl, rfl⟩) | (go_at_call 74; refine (KB.out _).mono ?_; rintro e w' ⟨rfl, rfl⟩))
    go_ret2
    exact ⟨by rw [HS.out]; rfl, rfl⟩
theorem l15Times_ok (a b c r : Int) (w : World) (ha : 0 ≤ a ∧ a ≤ 462) (hb : 0 ≤ b ∧ b ≤ 12) (hc : 1 ≤ c ∧ c ≤ 12) (hr : (a * b).tdiv c = r) (hr2 : 0 ≤ r ∧ r ≤ 100000) : Calls Try.prog 115 #[.int .i64 a, .int .i64 b, .int .i64 c] w fun e w' => e = .returned (.int .i64 r) ∧ w = w' := by
  have e1 : a * b ≤ 462 * 12 := Int.le_trans (Int.mul_le_mul_of_nonneg_right ha.2 hb.1) (Int.mul_le_mul_of_nonneg_left hb.2 (by omega))
  have e0 : 0 ≤ a * b := Int.mul_nonneg ha.1 hb.1
  have u1 : IntKind.i64.wrap (a * b) = a * b := wrapI64 (by omega)
  have u2 : IntKind.i64.wrap r = r := wrapI64 (by omega)
  have u3 : ¬ (1000000000000000 : Int) < a := by omega
  have u4 : c ≠ 0 := by omega
  have u5 : ¬ c = 0 := u4
  have u6 : ¬ c = -1 := by omega
  clear e1 e0 hc hb ha hr2
  go_enter Try.func115, Try.ntmps115
  go_wp2_with fail
  go_ret
  exact ⟨by first | rfl | rw [hr] | (rw [← hr]), rfl⟩
theorem l04SizeT_any (n z : Int) (w : World) (h : -1000 ≤ n ∧ n ≤ 1000) (hz : (if n < 0 then -n else n) = z) : Calls Try.prog 113 #[.int .i64 n] w fun e w' => e = .returned (.int .i64 z) ∧ w = w' := by
  have u1 : IntKind.i64.wrap (-n) = -n := wrapI64 (by omega)
  by_cases hn : n < 0
  · rw [if_pos hn] at hz
    subst hz
    go_enter Try.func113, Try.ntmps113
    go_wp2_with fail
    go_ret
    exact ⟨rfl, rfl⟩
  · rw [if_neg hn] at hz
    subst hz
    go_enter Try.func113, Try.ntmps113
    go_wp2_with fail
    go_ret
    exact ⟨rfl, rfl⟩
theorem l15In_true (x : Int) (w : World) (h : -1000000000000000 ≤ x ∧ x ≤ 1000000000000000) : Calls Try.prog 114 #[.int .i64 x] w fun e w' => e = .returned (.bool true) ∧ w = w' := by
  have hbt : betB x (-1000000000000000) 1000000000000000 = true := betB_iff.2 h
  go_enter Try.func114, Try.ntmps114
  go_wp2_with (go_at_call 72; refine (l00In_any _ _ _ _).mono ?_; rintro e w' ⟨rfl, rfl⟩; try rw [hbt])
  go_ret
  exact ⟨by first | rfl | exact ret_bool hbt, rfl⟩
set_option maxRecDepth 100000 in
set_option maxHeartbeats 3200000 in
theorem l15Value_ok (A : Option Addr) (n c : Nat) (ds : List Int) (x : Nat) (w : World) (n7 : n ≤ 7) (hx : x < 12) (hr : RI w A n ds) (hb : ∀ d ∈ ds, -20 ≤ d ∧ d ≤ 20) :
    Calls Try.prog 73 #[.slice A n c, .int .i64 (x : Int)] w fun e w' => e = .returned (.tuple #[.int .i64 (nvF (fnL ds) x n), .bool true]) ∧ Below w.heap.size w w' := by
  have hfb : ∀ i, i < n → -20 ≤ fnL ds i ∧ fnL ds i ≤ 20 := fun i hi => by
    have : i < ds.length := by rw [hr.1]; exact hi
    rw [show fnL ds i = ds[i] by simp [fnL, List.getD, this]]
    exact hb _ (List.getElem_mem _)
  have HFB := Lib.hid hfb
  have HR := Lib.hid (fun W (hW : Below w.heap.size w W) => hr.below hW)
  have HB := Lib.hid hb
  have hln := hr.1
  clear hr hb
  have K0 := Kn.nil w
  clear hfb
  go_enter Try.func73, Try.ntmps73
  go_wp2_with fail
  go_loopw [6, 7, 8] (fun ss cc kk wr => ∃ k : Nat, k ≤ n ∧ kk = .int .i64 (k : Int) ∧ ss = .int .i64 (nvF (fnL ds) x k) ∧ cc = .int .i64 (choF x k) ∧ Kn w [] wr) (fun _ _ kk _ => n - (intOf kk).toNat)
  case atStart => exact ⟨0, Nat.zero_le _, rfl, rfl, rfl, K0⟩
  case round =>
    clear K0
    obtain ⟨k, hk, rfl, rfl, rfl, K⟩ := hrel
    by_cases hk1 : k < n
    · have i1 : (k : Int) < (n : Int) := by omega
      have i0 : (0 : Int) ≤ (k : Int) := by omega
      obtain ⟨ad, hA, -, hkl, hcl⟩ := (HR.out _ K.below).at_ hk1
      obtain ⟨d, hd⟩ : ∃ d, ds[k] = d := ⟨_, rfl⟩
      have hdb := HB.out d (by rw [← hd]; exact List.getElem_mem _)
      have hfd : fnL ds k = d := by rw [← hd]; simp [fnL, List.getD, hkl]
      rw [hd] at hcl
      have hcb := choF_bin x hx k (by omega)
      have hbb := bin_bd x hx k (by omega)
      rw [← hcb] at hbb
      obtain ⟨s1, s2⟩ := nvF_bd hx (k + 1) (by omega) (fun i hi => HFB.out i (by omega))
      have HS := Lib.hid (show nvF (fnL ds) x (k + 1) = nvF (fnL ds) x k + d * choF x k by show nvF (fnL ds) x k + fnL ds k * bin x k = _; rw [hfd, hcb])
      have HC := Lib.hid (show choF x (k + 1) = if k < x then (choF x k * ((x : Int) - k)).tdiv ((k : Int) + 1) else 0 from rfl)
      have hcb2 := bin_bd x hx (k + 1) (by omega)
      rw [← choF_bin x hx (k + 1) (by omega)] at hcb2
      obtain ⟨s', hs'⟩ : ∃ s, nvF (fnL ds) x (k + 1) = s := ⟨_, rfl⟩
      obtain ⟨s, hs⟩ : ∃ s, nvF (fnL ds) x k = s := ⟨_, rfl⟩
      obtain ⟨ch', hch'⟩ : ∃ s, choF x (k + 1) = s := ⟨_, rfl⟩
      obtain ⟨ch, hch⟩ : ∃ s, choF x k = s := ⟨_, rfl⟩
      rw [hs', hs, hch] at HS
      rw [hch', hch] at HC
      rw [hs'] at s1 s2
      rw [hch] at hbb
      rw [hch'] at hcb2
      simp only [hs, hch]
      have hsp := HS.out
      have e1 : d * ch ≤ 20 * 462 := Int.le_trans (Int.mul_le_mul_of_nonneg_right hdb.2 hbb.1) (Int.mul_le_mul_of_nonneg_left hbb.2 (by omega))
      have e2 : -(20 * 462) ≤ d * ch := by
        have := Int.mul_le_mul_of_nonneg_right hdb.1 hbb.1
        have := Int.mul_le_mul_of_nonneg_left hbb.2 (show (0 : Int) ≤ 20 by omega)
        omega
      have u1 : IntKind.i64.wrap (d * ch) = d * ch := wrapI64 (by omega)
      have u2 : IntKind.i64.wrap (s + d * ch) = s' := by rw [← hsp]; exact wrapI64 (by omega)
      have u3 : IntKind.i64.wrap ((x : Int) - (k : Int)) = (x : Int) - (k : Int) := wrapI64 (by omega)
      have u4 : IntKind.i64.wrap ((k : Int) + 1) = (k : Int) + 1 := wrapI64 (by omega)
      have KI := Lib.hid (fun W => l15In_true s' W (by omega))
      obtain ⟨z, hz⟩ : ∃ z, (if d < 0 then -d else d) = z := ⟨_, rfl⟩
      have KL := Lib.hid (fun W => l04SizeT_any d z W (by omega) hz)
      have hzb : 0 ≤ z ∧ z ≤ 20 ∧ (d ≠ 0 → 1 ≤ z) := by rw [← hz]; split <;> omega
      have HCB := Lib.hid hcb2
      have HBB := Lib.hid hbb
      have HS2 := Lib.hid hs'
      have HC2 := Lib.hid hch'
      subst hA
      have hsb : -1000000 ≤ s' ∧ s' ≤ 1000000 := by omega
      clear hd hfd hkl hcb hs' hs hch' hch hz s1 s2 e1 e2 hsp hcb2 hbb
      have hd1 : d ≠ 0 ∨ d = 0 := by omega
      by_cases hkx : k < x
      · have j1 : (k : Int) < (x : Int) := by omega
        have hc2 := HC.out
        rw [if_pos hkx] at hc2
        have KT := Lib.hid (fun W => l15Times_ok ch ((x : Int) - (k : Int)) ((k : Int) + 1) ch' W HBB.out (by omega) (by omega) hc2.symm (by have := HCB.out; omega))
        clear hc2
        rcases hd1 with hd1 | hd1
        · have hz1 : 1 ≤ z := hzb.2.2 hd1
          obtain ⟨q, hq⟩ : ∃ q, (1000000000000000 : Int).tdiv z = q := ⟨_, rfl⟩
          have hqb : 462 < q ∧ q ≤ 1000000000000000 := by
            have hm := Int.emod_nonneg (1000000000000000 : Int) (show z ≠ 0 by omega)
            have hm2 := Int.emod_lt_of_pos (1000000000000000 : Int) (show 0 < z by omega)
            have hde := Int.mul_ediv_add_emod (1000000000000000 : Int) z
            rw [Int.tdiv_eq_ediv_of_nonneg (by omega)] at hq
            rw [hq] at hde
            refine ⟨?_, ?_⟩
            · rcases Int.lt_or_le 462 q with h | h
              · exact h
              · exfalso
                have e3 : z * q ≤ z * 462 := Int.mul_le_mul_of_nonneg_left h (by omega)
                omega
            · rw [← hq]; exact Int.ediv_le_self _ (by omega)
          have hq1 : ¬ q < ch := by have := HBB.out; omega
          have hq2 : IntKind.i64.wrap q = q := wrapI64 (by omega)
          have hd2 : (d != 0) = true := bne_iff_ne.2 hd1
          have hz2 : z ≠ 0 := by omega
          have hz3 : ¬ z = 0 := hz2
          have hz4 : ¬ z = -1 := by omega
          clear hqb hzb
          go_wp2_with (first
            | (go_at_call 113; refine (KL.out _).mono ?_; rintro e w' ⟨rfl, rfl⟩)
            | (go_at_call 114; refine (KI.out _).mono ?_; rintro e w' ⟨rfl, rfl⟩)
            | (go_at_call 115; refine (KT.out _).mono ?_; rintro e w' ⟨rfl, rfl⟩))
          go_roundw
          case rel => exact ⟨k + 1, by omega, by go_num, by rw [HS2.out], by rw [HC2.out], K⟩
          case measure => simp [intOf] <;> omega
        · have hs0 : s' = s := by
            have h := HS.out
            rw [hd1] at h
            omega
          subst hs0
          subst hd1
          have uS : IntKind.i64.wrap s' = s' := wrapI64 (by omega)
          go_wp2_with (first
            | (go_at_call 113; refine (KL.out _).mono ?_; rintro e w' ⟨rfl, rfl⟩)
            | (go_at_call 114; refine (KI.out _).mono ?_; rintro e w' ⟨rfl, rfl⟩)
            | (go_at_call 115; refine (KT.out _).mono ?_; rintro e w' ⟨rfl, rfl⟩))
          go_roundw
          case rel => exact ⟨k + 1, by omega, by go_num, by rw [HS2.out], by rw [HC2.out], K⟩
          case measure => simp [intOf] <;> omega
      · have j1 : ¬ (k : Int) < (x : Int) := by omega
        have hc2 := HC.out
        rw [if_neg hkx] at hc2
        subst hc2
        have KT : Hid True := trivial
        rcases hd1 with hd1 | hd1
        · have hz1 : 1 ≤ z := hzb.2.2 hd1
          obtain ⟨q, hq⟩ : ∃ q, (1000000000000000 : Int).tdiv z = q := ⟨_, rfl⟩
          have hqb : 462 < q ∧ q ≤ 1000000000000000 := by
            have hm := Int.emod_nonneg (1000000000000000 : Int) (show z ≠ 0 by omega)
            have hm2 := Int.emod_lt_of_pos (1000000000000000 : Int) (show 0 < z by omega)
            have hde := Int.mul_ediv_add_emod (1000000000000000 : Int) z
            rw [Int.tdiv_eq_ediv_of_nonneg (by omega)] at hq
            rw [hq] at hde
            refine ⟨?_, ?_⟩
            · rcases Int.lt_or_le 462 q with h | h
              · exact h
              · exfalso
                have e3 : z * q ≤ z * 462 := Int.mul_le_mul_of_nonneg_left h (by omega)
                omega
            · rw [← hq]; exact Int.ediv_le_self _ (by omega)
          have hq1 : ¬ q < ch := by have := HBB.out; omega
          have hq2 : IntKind.i64.wrap q = q := wrapI64 (by omega)
          have hd2 : (d != 0) = true := bne_iff_ne.2 hd1
          have hz2 : z ≠ 0 := by omega
          have hz3 : ¬ z = 0 := hz2
          have hz4 : ¬ z = -1 := by omega
          clear hqb hzb
          go_wp2_with (first
            | (go_at_call 113; refine (KL.out _).mono ?_; rintro e w' ⟨rfl, rfl⟩)
            | (go_at_call 114; refine (KI.out _).mono ?_; rintro e w' ⟨rfl, rfl⟩)
            | (go_at_call 115; refine (KT.out _).mono ?_; rintro e w' ⟨rfl, rfl⟩))
          go_roundw
          case rel => exact ⟨k + 1, by omega, by go_num, by rw [HS2.out], by rw [HC2.out], K⟩
          case measure => simp [intOf] <;> omega
        · have hs0 : s' = s := by
            have h := HS.out
            rw [hd1] at h
            omega
          subst hs0
          subst hd1
          have uS : IntKind.i64.wrap s' = s' := wrapI64 (by omega)
          go_wp2_with (first
            | (go_at_call 113; refine (KL.out _).mono ?_; rintro e w' ⟨rfl, rfl⟩)
            | (go_at_call 114; refine (KI.out _).mono ?_; rintro e w' ⟨rfl, rfl⟩)
            | (go_at_call 115; refine (KT.out _).mono ?_; rintro e w' ⟨rfl, rfl⟩))
          go_roundw
          case rel => exact ⟨k + 1, by omega, by go_num, by rw [HS2.out], by rw [HC2.out], K⟩
          case measure => simp [intOf] <;> omega
    · have i1 : ¬ (k : Int) < (n : Int) := by omega
      obtain rfl : k = n := by omega
      go_wp2_with fail
      go_ret2
      exact ⟨rfl, K.below⟩
end Go.Proofs.Ytmmiahgmdllgdaa

namespace Go.Proofs.Ytmmiahgmdllgdaa
open Go.RowKit Go.Sort
set_option maxRecDepth 100000 in
set_option maxHeartbeats 3200000 in
theorem NewEngine_ok (wd n : Nat) (A : Option Addr) (c : Nat) (ds : List Int) (w : World) (h1 : 1 ≤ wd) (h12 : wd ≤ 12) (n0 : 1 ≤ n) (n9 : n ≤ 9) (hr : RI w A n ds) (hb : ∀ d ∈ ds, -1000 ≤ d ∧ d ≤ 1000) :
    Calls Try.prog 18 #[.int .i64 (wd : Int), .slice A n c] w fun e w' => ∃ E ec, e = .returned (.tuple #[.agg #[.int .i64 (wd : Int), .slice E n ec], .int .i64 0]) ∧ Kn w [rowNN E n ec (modL (pw 10 wd) ds)] w' := by
  unfold rowNN
  have hln := hr.1
  have KA := Lib.hid (fun W (hW : Below w.heap.size w W) => areCoefs_true A n c ds W n0 n9 (hr.below hW) hb)
  have hbw : betB (wd : Int) 1 12 = true := betB_iff.2 (by omega)
  have KM := Lib.hid (fun W => modulus_any wd W h12)
  have HR := Lib.hid (fun W (hW : Below w.heap.size w W) => hr.below hW)
  have hM := pw10_bd h1 h12
  obtain ⟨M, hMM⟩ : ∃ M, pw 10 wd = M := ⟨_, rfl⟩
  rw [hMM] at hM
  simp only [hMM] at KM ⊢
  clear hr hMM
  obtain ⟨h, hh⟩ : ∃ g, w.heap.size = g := ⟨_, rfl⟩
  have K0 := (Kn.nil w).al [.int .i64 0, .slice none 0 0] 48
  simp only [hh] at K0
  go_enter Try.func18, Try.ntmps18
  go_upto_region 1 with fail
  try rw [hh]
  refine Code.wp.kn K0 ?_; clear K0 hh; intro w1 K1
  go_upto_region 5 with (first
    | (go_at_call 64; refine (KA.out _ K1.below).mono ?_; rintro e w2 ⟨rfl, hw⟩; have K2 := K1.keep hw; clear hw K1)
    | (go_at_call 65; refine (isEngineWidth_any _ _).mono ?_; rintro e w' ⟨rfl, rfl⟩; try rw [hbw]))
  have K3 := K2.al [.int .i64 (wd : Int), .slice none 0 0] 48
  obtain ⟨g5, hg⟩ : ∃ g, w2.heap.size = g := ⟨_, rfl⟩
  rw [hg] at K3
  go_upto_region 6 with (go_at_call 66; refine (KM.out _).mono ?_; rintro e w' ⟨rfl, rfl⟩)
  try rw [hg]
  refine Code.wp.kn K3 ?_; clear K2 K3 hg; intro w3 K3
  have K4 : Kn w [.row (.slice none 0 0) 2 1 (modL M (ds.take 0)).length ((modL M (ds.take 0)).map (Value.int .i64)), .blk g5 [.int .i64 (wd : Int), .slice none 0 0] 48, .blk h [.int .i64 0, .slice none 0 0] 48] w3 := K3.nilRow _ _
  clear K3
  go_wp2_with fail
  go_loopw [24] (fun kk wr => ∃ (k : Nat) (vv : Value), k ≤ n ∧ kk = .int .i64 (k : Int) ∧ Kn w [.row vv 2 1 (modL M (ds.take k)).length ((modL M (ds.take k)).map (Value.int .i64)), .blk g5 [.int .i64 (wd : Int), vv] 48, .blk h [.int .i64 0, .slice none 0 0] 48] wr) (fun kk _ => n - (intOf kk).toNat)
  case atStart => exact ⟨0, _, Nat.zero_le _, rfl, K4⟩
  case round =>
    clear K4
    obtain ⟨k, vv, hk, rfl, KR⟩ := hrel
    by_cases hk1 : k < n
    · have i1 : (k : Int) < (n : Int) := by omega
      have i0 : (0 : Int) ≤ (k : Int) := by omega
      have hkl : k < ds.length := by omega
      obtain ⟨ad, hA, -, hkl3, hcl⟩ := (HR.out _ KR.below).at_ hk1
      obtain ⟨x, hx⟩ : ∃ x, ds[k] = x := ⟨_, rfl⟩
      have hxb := hb x (by rw [← hx]; exact List.getElem_mem _)
      have HX := Lib.hid (show modL M (ds.take (k + 1)) = modL M (ds.take k) ++ [x % M] by rw [modL_take M ds hkl, hx])
      rw [hx] at hcl
      obtain ⟨ts, hts⟩ : ∃ t, modL M (ds.take k) = t := ⟨_, rfl⟩
      have HL := Lib.hid (show ts.length ≤ 10000000 by rw [← hts]; unfold modL; rw [List.length_map, List.length_take]; omega)
      rw [hts] at HX KR
      have hmm := tmod_mod x M (by omega)
      obtain ⟨z, hz⟩ : ∃ z, x % M = z := ⟨_, rfl⟩
      rw [hz] at HX hmm
      have hzb : 0 ≤ z ∧ z < M := by rw [← hz]; exact ⟨Int.emod_nonneg _ (by omega), Int.emod_lt_of_pos _ (by omega)⟩
      have h2 : -M < x.tmod M := by
        have := Int.tmod_lt_of_pos (-x) (show 0 < M by omega)
        rw [Int.neg_tmod] at this
        omega
      have h3 := Int.tmod_lt_of_pos x (show 0 < M by omega)
      have hm4 : M ≠ 0 := by omega
      have hm5 : ¬ M = 0 := hm4
      have f1 : IntKind.i64.wrap (x.tmod M + M) = x.tmod M + M := wrapI64 (by omega)
      have f2 : IntKind.i64.wrap (x.tmod M) = x.tmod M := wrapI64 (by omega)
      have f3 : IntKind.i64.wrap z = z := wrapI64 (by omega)
      subst hA
      clear hx hts hz hxb hkl hkl3 h2 h3 hzb
      go_upto_region 9 with fail
      have hKd := KR.drew
      refine wp_region_held_drew (S := fun _ => True) (by kernel_rfl) trivial (fun hHeld => ?_)
      try dsimp only
      generalize wr.drew = wd' at hKd hHeld ⊢
      clear KR hcl
      refine wpAnyH_take (i := 0) (v := ?_) rfl (by kernel_rfl) (by kernel_rfl) (by kernel_rfl) (fun _ _ _ h => h) (Or.inl ⟨by rfl, ?_⟩) hHeld ?_
      rotate_left
      · (intro w hSw; (try dsimp only at hSw); go_simp; try with_reducible rfl)
      try simp only [Act.put, List.setIfInBounds_toArray, List.set_cons_zero, List.set_cons_succ, List.getElem_toArray, List.getElem_cons_succ, List.getElem_cons_zero]
      refine wpAnyH_take (i := 2) (v := ?_) rfl (by kernel_rfl) (by kernel_rfl) (by kernel_rfl) (fun _ _ _ h => h) (Or.inl ⟨by rfl, ?_⟩) hHeld ?_
      rotate_left
      · (intro w hSw; (try dsimp only at hSw); go_simp; try with_reducible rfl)
      try simp only [Act.put, List.setIfInBounds_toArray, List.set_cons_zero, List.set_cons_succ, List.getElem_toArray, List.getElem_cons_succ, List.getElem_cons_zero]
      refine wpAnyH_take (i := 3) (v := ?_) rfl (by kernel_rfl) (by kernel_rfl) (by kernel_rfl) (fun _ _ _ h => h) (Or.inl ⟨by rfl, ?_⟩) hHeld ?_
      rotate_left
      · (intro w hSw; (try dsimp only at hSw); go_simp; try with_reducible rfl)
      try simp only [Act.put, List.setIfInBounds_toArray, List.set_cons_zero, List.set_cons_succ, List.getElem_toArray, List.getElem_cons_succ, List.getElem_cons_zero]
      refine wpAnyH_take (i := 4) (v := ?_) rfl (by kernel_rfl) (by kernel_rfl) (by kernel_rfl) (fun _ _ _ h => h) (Or.inl ⟨by rfl, ?_⟩) hHeld ?_
      rotate_left
      · (intro w hSw; (try dsimp only at hSw); go_simp; try with_reducible rfl)
      try simp only [Act.put, List.setIfInBounds_toArray, List.set_cons_zero, List.set_cons_succ, List.getElem_toArray, List.getElem_cons_succ, List.getElem_cons_zero]
      refine wpAnyH_take (i := 5) (v := ?_) rfl (by kernel_rfl) (by kernel_rfl) (by kernel_rfl) (fun _ _ _ h => h) (Or.inl ⟨by rfl, ?_⟩) hHeld ?_
      rotate_left
      · (intro w hSw; (try dsimp only at hSw); go_simp; try with_reducible rfl)
      try simp only [Act.put, List.setIfInBounds_toArray, List.set_cons_zero, List.set_cons_succ, List.getElem_toArray, List.getElem_cons_succ, List.getElem_cons_zero]
      refine wpAnyH_take (i := 6) (v := ?_) rfl (by kernel_rfl) (by kernel_rfl) (by kernel_rfl) (fun _ _ _ h => h) (Or.inl ⟨by rfl, ?_⟩) hHeld ?_
      rotate_left
      · (intro w hSw; (try dsimp only at hSw); go_simp; try with_reducible rfl)
      try simp only [Act.put, List.setIfInBounds_toArray, List.set_cons_zero, List.set_cons_succ, List.getElem_toArray, List.getElem_cons_succ, List.getElem_cons_zero]
      refine wpAnyH_take (i := 7) (v := ?_) rfl (by kernel_rfl) (by kernel_rfl) (by kernel_rfl) (fun _ _ _ h => h) (Or.inl ⟨by rfl, ?_⟩) hHeld ?_
      rotate_left
      · (intro w hSw; (try dsimp only at hSw); go_simp; try with_reducible rfl)
      try simp only [Act.put, List.setIfInBounds_toArray, List.set_cons_zero, List.set_cons_succ, List.getElem_toArray, List.getElem_cons_succ, List.getElem_cons_zero]
      refine wpAnyH_take (i := 8) (v := ?_) rfl (by kernel_rfl) (by kernel_rfl) (by kernel_rfl) (fun _ _ _ h => h) (Or.inl ⟨by rfl, ?_⟩) hHeld ?_
      rotate_left
      · (intro w hSw; (try dsimp only at hSw); go_simp; try with_reducible rfl)
      try simp only [Act.put, List.setIfInBounds_toArray, List.set_cons_zero, List.set_cons_succ, List.getElem_toArray, List.getElem_cons_succ, List.getElem_cons_zero]
      refine wpAnyH_ready (rs := [1, 9]) (by kernel_rfl) (by decide) (AllReadyH.cons (o := _) rfl (fun K hK' => ?_) (AllReadyH.cons (o := _) rfl (fun K hK' => ?_) AllReadyH.nil))
      · skip
        obtain ⟨o1, o2, o3, -⟩ := (hKd.front 1 rfl).cells
        go_simp
        clear o1 o2 o3
        have KO1 := hKd
        have HG := Lib.hid (trivial)
        refine hK'.out _ _ HG.out (fun hHeld2 => ?_)
        clear hK' hHeld
        have hHeld := hHeld2
        clear hHeld2
        try simp only [Act.put, List.setIfInBounds_toArray]
        refine wpAnyH_ready (rs := [9]) (by kernel_rfl) (by decide) (AllReadyH.cons (o := _) rfl (fun K hK' => ?_) AllReadyH.nil)
        go_simp
        have KO2 := KO1.al [.int .i64 z] 2
        have HG := Lib.hid (trivial)
        refine hK'.out _ _ HG.out (fun hHeld2 => ?_)
        clear hK' hHeld
        have hHeld := hHeld2
        clear hHeld2
        try simp only [Act.put, List.setIfInBounds_toArray]
        generalize wd'.alloc (.cells #[.int .i64 z] 2) = wo2 at KO2 hHeld ⊢
        obtain ⟨gl2, hgl2⟩ : ∃ g, wd'.heap.size = g := ⟨_, rfl⟩
        rw [hgl2] at KO2 ⊢
        clear hgl2
        refine wpAnyH_ready (rs := [10]) (by kernel_rfl) (by decide) (AllReadyH.cons (o := _) rfl (fun K hK' => ?_) AllReadyH.nil)
        refine kn_stepI (by rfl) _ _ (by rfl) vv ts (by rfl) (by rfl) (KO2.sel [0, 1, 2, 3] 99 (by decide) (by decide)) HL.out ?_
        intro v' wo3 hK7
        rw [← HX.out] at hK7
        obtain ⟨A3, c3, rfl⟩ := row_form hK7.at0
        have KO3 := hK7
        clear hK7
        have HG := Lib.hid (trivial)
        refine hK'.out _ _ HG.out (fun hHeld2 => ?_)
        clear hK' hHeld
        have hHeld := hHeld2
        clear hHeld2
        try simp only [Act.put, List.setIfInBounds_toArray]
        refine wpAnyH_take (i := 11) (v := ?_) rfl (by kernel_rfl) (by kernel_rfl) (by kernel_rfl) (fun _ _ _ h => h) (Or.inl ⟨by rfl, ?_⟩) hHeld ?_
        rotate_left
        · (intro w hSw; (try dsimp only at hSw); go_simp; try with_reducible rfl)
        try simp only [Act.put, List.setIfInBounds_toArray, List.set_cons_zero, List.set_cons_succ, List.getElem_toArray, List.getElem_cons_succ, List.getElem_cons_zero]
        refine wpAnyH_ready (rs := [12]) (by kernel_rfl) (by decide) (AllReadyH.cons (o := _) rfl (fun K hK' => ?_) AllReadyH.nil)
        obtain ⟨s1, s2, s3, -⟩ := (KO3.front 1 rfl).cells
        have KO4 := ((KO3.front 1 rfl).st 1 (.slice A3 (modL M (ds.take (k + 1))).length c3))
        go_simp
        clear s1 s2 s3
        have HG := Lib.hid (trivial)
        refine hK'.out _ _ HG.out (fun hHeld2 => ?_)
        clear hK' hHeld
        have hHeld := hHeld2
        clear hHeld2
        try simp only [Act.put, List.setIfInBounds_toArray]
        refine wpAnyH_done (by kernel_rfl) ?_ _
        go_wp2_with fail
        go_roundw
        case rel => exact ⟨k + 1, _, by omega, by go_num, (KO4.sel [1, 0, 2] 99 (by decide) (by decide))⟩
        case measure => simp [intOf] <;> omega
      · skip
        go_simp
        have KO5 := hKd.al [.int .i64 z] 2
        have HG := Lib.hid (trivial)
        refine hK'.out _ _ HG.out (fun hHeld2 => ?_)
        clear hK' hHeld
        have hHeld := hHeld2
        clear hHeld2
        try simp only [Act.put, List.setIfInBounds_toArray]
        generalize wd'.alloc (.cells #[.int .i64 z] 2) = wo5 at KO5 hHeld ⊢
        obtain ⟨gl5, hgl5⟩ : ∃ g, wd'.heap.size = g := ⟨_, rfl⟩
        rw [hgl5] at KO5 ⊢
        clear hgl5
        refine wpAnyH_ready (rs := [1]) (by kernel_rfl) (by decide) (AllReadyH.cons (o := _) rfl (fun K hK' => ?_) AllReadyH.nil)
        obtain ⟨o1, o2, o3, -⟩ := (KO5.front 2 rfl).cells
        go_simp
        clear o1 o2 o3
        have KO6 := KO5
        have HG := Lib.hid (trivial)
        refine hK'.out _ _ HG.out (fun hHeld2 => ?_)
        clear hK' hHeld
        have hHeld := hHeld2
        clear hHeld2
        try simp only [Act.put, List.setIfInBounds_toArray]
        refine wpAnyH_ready (rs := [10]) (by kernel_rfl) (by decide) (AllReadyH.cons (o := _) rfl (fun K hK' => ?_) AllReadyH.nil)
        refine kn_stepI (by rfl) _ _ (by rfl) vv ts (by rfl) (by rfl) (KO6.sel [0, 1, 2, 3] 99 (by decide) (by decide)) HL.out ?_
        intro v' wo7 hK7
        rw [← HX.out] at hK7
        obtain ⟨A7, c7, rfl⟩ := row_form hK7.at0
        have KO7 := hK7
        clear hK7
        have HG := Lib.hid (trivial)
        refine hK'.out _ _ HG.out (fun hHeld2 => ?_)
        clear hK' hHeld
        have hHeld := hHeld2
        clear hHeld2
        try simp only [Act.put, List.setIfInBounds_toArray]
        refine wpAnyH_take (i := 11) (v := ?_) rfl (by kernel_rfl) (by kernel_rfl) (by kernel_rfl) (fun _ _ _ h => h) (Or.inl ⟨by rfl, ?_⟩) hHeld ?_
        rotate_left
        · (intro w hSw; (try dsimp only at hSw); go_simp; try with_reducible rfl)
        try simp only [Act.put, List.setIfInBounds_toArray, List.set_cons_zero, List.set_cons_succ, List.getElem_toArray, List.getElem_cons_succ, List.getElem_cons_zero]
        refine wpAnyH_ready (rs := [12]) (by kernel_rfl) (by decide) (AllReadyH.cons (o := _) rfl (fun K hK' => ?_) AllReadyH.nil)
        obtain ⟨s1, s2, s3, -⟩ := (KO7.front 1 rfl).cells
        have KO8 := ((KO7.front 1 rfl).st 1 (.slice A7 (modL M (ds.take (k + 1))).length c7))
        go_simp
        clear s1 s2 s3
        have HG := Lib.hid (trivial)
        refine hK'.out _ _ HG.out (fun hHeld2 => ?_)
        clear hK' hHeld
        have hHeld := hHeld2
        clear hHeld2
        try simp only [Act.put, List.setIfInBounds_toArray]
        refine wpAnyH_done (by kernel_rfl) ?_ _
        go_wp2_with fail
        go_roundw
        case rel => exact ⟨k + 1, _, by omega, by go_num, (KO8.sel [1, 0, 2] 99 (by decide) (by decide))⟩
        case measure => simp [intOf] <;> omega
    · have i1 : ¬ (k : Int) < (n : Int) := by omega
      obtain rfl : k = n := by omega
      have hl : (modL M (ds.take k)).length = k := by unfold modL; rw [List.length_map, List.length_take]; omega
      have htk : ds.take k = ds := List.take_of_length_le (by omega)
      rw [hl, htk] at KR
      obtain ⟨E, ec, rfl⟩ := row_form KR.at0
      obtain ⟨o1, o2, o3, z1, z2, z3, -⟩ := KR.cells
      clear hl htk
      go_wp2_with fail
      have K9 := ((KR.front 2 rfl).st 0 (.int .i64 (wd : Int))).st 1 (.slice E k ec)
      refine bodyPost.kn K9 ?_; clear K9; intro w9 K9
      obtain ⟨b1, b2, b3, -⟩ := K9.cells
      refine bodyPost_ret (v := .tuple #[.agg #[.int .i64 (wd : Int), .slice E k ec], .int .i64 0]) (by simp [results, Try.results18, go_sem, b1]) rfl ⟨_, _, rfl, ?_⟩
      exact K9.sel [1] 99 (by decide) (by decide)
/-- the values of a polynomial -/
def nvL (ds : List Int) (n k : Nat) : List Int := (List.range k).map (fun x => nvF (fnL ds) x n)
theorem nvL_succ (ds : List Int) (n k : Nat) : nvL ds n (k + 1) = nvL ds n k ++ [nvF (fnL ds) k n] := by unfold nvL; rw [List.range_succ, List.map_append]; rfl
theorem nvL_len (ds : List Int) (n k : Nat) : (nvL ds n k).length = k := by simp [nvL]
set_option maxRecDepth 100000 in
set_option maxHeartbeats 3200000 in
theorem TabulateNewton_ok (n : Nat) (A : Option Addr) (c : Nat) (ds : List Int) (w : World) (n0 : 1 ≤ n) (n7 : n ≤ 7) (hr : RI w A n ds) (hb : ∀ d ∈ ds, -20 ≤ d ∧ d ≤ 20) :
    Calls Try.prog 21 #[.slice A n c, .int .i64 12] w (RunR 12 (nvL ds n 12) w) := by
  unfold RunR rowNN
  have KA := Lib.hid (l15Coefs_true A n c ds w n0 (by omega) hr (fun d hd => by have := hb d hd; omega))
  have KV := Lib.hid (fun (x : Nat) (hx : x < 12) W (hW : Below w.heap.size w W) => l15Value_ok A n c ds x W n7 hx (hr.below hW) hb)
  have HFB := Lib.hid (fun i (hi : i < n) => (show -20 ≤ fnL ds i ∧ fnL ds i ≤ 20 by
    have : i < ds.length := by rw [hr.1]; exact hi
    rw [show fnL ds i = ds[i] by simp [fnL, List.getD, this]]
    exact hb _ (List.getElem_mem _)))
  have hbt : betB 12 1 30 = true := by decide
  clear hr hb
  go_enter Try.func21, Try.ntmps21
  go_upto_region 5 with (first | (go_at_call 71; refine KA.out.mono ?_; rintro e w1 ⟨rfl, hw⟩; have K1 := (Kn.nil w).keep hw; clear hw) | (go_at_call 72; refine (l00In_any _ _ _ _).mono ?_; rintro e w' ⟨rfl, rfl⟩; try rw [hbt]))
  have K2 := (K1.al [] 2).litRow (size := 1) (n := 0) rfl (by decide)
  obtain ⟨h, hh⟩ : ∃ h, w1.heap.size = h := ⟨_, rfl⟩
  rw [hh] at K2
  go_upto_region 6 with fail
  try rw [hh]
  refine Code.wp.kn K2 ?_; clear K1 K2 hh; intro w2 K2
  have K3 : Kn w [.row (.slice (some ⟨h, 0, none⟩) 0 0) 2 1 (nvL ds n 0).length ((nvL ds n 0).map (Value.int .i64))] w2 := K2
  clear K2
  go_wp2_with fail
  go_loopw [6, 7] (fun oo kk wr => ∃ k : Nat, k ≤ 12 ∧ kk = .int .i64 (k : Int) ∧ Kn w [.row oo 2 1 (nvL ds n k).length ((nvL ds n k).map (Value.int .i64))] wr) (fun _ kk _ => 12 - (intOf kk).toNat)
  case atStart => exact ⟨0, by omega, rfl, K3⟩
  case round =>
    clear K3
    obtain ⟨k, hk, rfl, KR⟩ := hrel
    by_cases hk1 : k < 12
    · have i1 : (k : Int) < 12 := by omega
      obtain ⟨s1, s2⟩ := nvF_bd hk1 n (by omega) (fun i hi => HFB.out i hi)
      have HX := Lib.hid (nvL_succ ds n k)
      have KX := (fun W hW => KV.out k hk1 W hW)
      obtain ⟨v, hv⟩ : ∃ v, nvF (fnL ds) k n = v := ⟨_, rfl⟩
      rw [hv] at s1 s2 HX
      simp only [hv] at KX
      replace KX := Lib.hid KX
      have hbv : betB v (-1000000000) 1000000000 = true := betB_iff.2 (by omega)
      have HL := Lib.hid (show (nvL ds n k).length ≤ 10000000 by rw [nvL_len]; omega)
      clear hv s1 s2
      go_wp2_with (first
        | (go_at_call 73; refine (KX.out _ KR.below).mono ?_; rintro e w4 ⟨rfl, hw⟩; have K4 := KR.keep hw; clear hw KR)
        | (go_at_call 72; refine (l00In_any _ _ _ _).mono ?_; rintro e w' ⟨rfl, rfl⟩; try rw [hbv])
        | (at_builtin; refine kn_pushI rfl _ _ rfl _ (nvL ds n k) rfl rfl (K4.al [.int .i64 v] 2) HL.out ?_; intro v' w' K10))
      go_roundw
      case rel => exact ⟨k + 1, by omega, by go_num, by rw [HX.out]; exact K10⟩
      case measure => simp [intOf] <;> omega
    · have i1 : ¬ (k : Int) < 12 := by omega
      obtain rfl : k = 12 := by omega
      obtain ⟨R, rc, hR⟩ := row_form KR.at0
      rw [nvL_len] at KR hR
      subst hR
      go_wp2_with fail
      go_ret2
      exact ⟨_, _, rfl, KR.sel [0] 99 (by decide) (by decide)⟩
set_option maxHeartbeats 1600000 in
theorem A2Coefs_any (A : Option Addr) (n c : Nat) (bs : List UInt8) (w : World) (hb : RB w A n bs) (hn : n ≤ 9223372036854775807) :
    Calls Try.prog 17 #[.slice A n c] w fun e w' => ∃ (A : Option Addr) (n c : Nat) (ds : List Int), e = .returned (.slice A n c) ∧ (1 ≤ n ∧ n ≤ 5) ∧ Hid (ds.length = n) ∧ (∀ d ∈ ds, -20 ≤ d ∧ d ≤ 20) ∧ Kn w [rowNN A n c ds] w' := by
  go_enter Try.func17, Try.ntmps17
  go_wp2_with fail
  refine (l00From_any A n c bs w hb hn).mono ?_; rintro e w2 ⟨rfl, hs, hb2⟩
  have KD := l15DrawCoefs5_dr _ _ w2 hs (by omega)
  unfold DCo5 at KD
  go_wp2_with fail
  refine KD.mono ?_; rintro e w3 ⟨B, m, k, ds, rfl, hm, hl, hd, h3⟩
  have K3 := Kn.ofDR hb2 (Nat.le_refl _) h3
  have HH := Lib.hid (And.intro hm (And.intro hl hd))
  clear hm hl hd h3 KD hs
  go_wp2_with fail
  go_ret
  exact ⟨B, m, k, ds, rfl, HH.out.1, HH.out.2.1, HH.out.2.2, K3⟩
end Go.Proofs.Ytmmiahgmdllgdaa
