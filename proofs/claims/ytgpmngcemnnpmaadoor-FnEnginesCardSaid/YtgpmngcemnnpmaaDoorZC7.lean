/- Part 7: lemmas and contracts of the claim's functions. -/
import Derived.Test.YtgpmngcemnnpmaaDoorZC1
import Derived.Test.YtgpmngcemnnpmaaDoorZC2
import Derived.Test.YtgpmngcemnnpmaaDoorZC3
import Derived.Test.YtgpmngcemnnpmaaDoorZC4
import Derived.Test.YtgpmngcemnnpmaaDoorZC5
import Derived.Test.YtgpmngcemnnpmaaDoorZC6
namespace Go.Proofs.YtgpmngcemnnpmaaDoor
open Go.RowKit Go.Sort
/-- an engine behind a pointer -/
def EngP (w : World) (g wd n : Nat) (A : Option Addr) (c : Nat) (cs : List Int) : Prop := ((w.cell? ⟨g, 0, none⟩ = some (.int .i64 (wd : Int)) ∧ w.cell? ⟨g, 1, none⟩ = some (.slice A n c)) ∧ g < w.heap.size) ∧ RI w A n cs
theorem EngP.below {w w' : World} {g wd n c : Nat} {A : Option Addr} {cs : List Int} (h : EngP w g wd n A c cs) (hb : Below w.heap.size w w') : EngP w' g wd n A c cs :=
  ⟨⟨⟨by rw [hb.cell h.1.2]; exact h.1.1.1, by rw [hb.cell h.1.2]; exact h.1.1.2⟩, Nat.lt_of_lt_of_le h.1.2 hb.size⟩, h.2.below hb⟩
theorem EngP.of {w0 w : World} {m : List Ent} {g wd n c : Nat} {A : Option Addr} {cs : List Int} (h : Kn w0 (.blk g [.int .i64 (wd : Int), .slice A n c] 45 :: m) w) (hr : RI w A n cs) : EngP w g wd n A c cs := ⟨⟨box2 h, h.blkAt.2.2⟩, hr⟩
theorem l10Power10 (n : Nat) (w : World) (hn : n ≤ 12) : Calls Tryd.prog 84 #[.int .i64 10, .int .i64 (n : Int)] w fun e w' => e = .returned (.int .i64 (pw 10 n)) ∧ w = w' := by
  have h := l10Power_any 10 n w (by omega) (by omega) (by omega)
  have h2 := pw_mono 10 (by omega) n 12 hn
  have h3 : pw 10 12 = 1000000000000 := by decide
  rw [show powS 10 n = pw 10 n by unfold powS; omega] at h
  exact h
theorem tmod_mod (x M : Int) (hM : 0 < M) : (x.tmod M + M).tmod M = x % M := by
  have h1 : -M < x.tmod M := by
    have := Int.tmod_lt_of_pos (-x) hM
    rw [Int.neg_tmod] at this
    omega
  rw [Int.tmod_eq_emod_of_nonneg (by omega), Int.add_emod_right, Int.tmod_def, Int.sub_emod, Int.mul_emod_right, Int.sub_zero, Int.emod_emod]
theorem l16Mod_ok (wd : Nat) (x : Int) (w : World) (h1 : 1 ≤ wd) (h12 : wd ≤ 12) (hx : -1000000000000000 ≤ x) (hx2 : x ≤ 1000000000000000) :
    Calls Tryd.prog 108 #[.int .i64 (wd : Int), .int .i64 x] w fun e w' => e = .returned (.int .i64 (x % pw 10 wd)) ∧ w = w' := by
  have hM := pw10_bd h1 h12
  have KP := Lib.hid (fun W => l10Power10 wd W h12)
  have hmm := tmod_mod x (pw 10 wd) (by omega)
  obtain ⟨M, hMM⟩ : ∃ M, pw 10 wd = M := ⟨_, rfl⟩
  rw [hMM] at hM hmm ⊢
  simp only [hMM] at KP
  clear hMM
  have h2 : -M < x.tmod M := by
    have := Int.tmod_lt_of_pos (-x) (show 0 < M by omega)
    rw [Int.neg_tmod] at this
    omega
  have h3 := Int.tmod_lt_of_pos x (show 0 < M by omega)
  have hm4 : M ≠ 0 := by omega
  have hm5 : ¬ M = 0 := hm4
  have u1 : IntKind.i64.wrap (x.tmod M + M) = x.tmod M + M := wrapI64 (by omega)
  have u2 : IntKind.i64.wrap (x.tmod M) = x.tmod M := wrapI64 (by omega)
  have u3 : IntKind.i64.wrap (x % M) = x % M := wrapI64 (by have := Int.emod_nonneg x hm4; have := Int.emod_lt_of_pos x (show 0 < M by omega); omega)
  clear h2 h3
  go_enter Tryd.func108, Tryd.ntmps108
  go_wp2_with (go_at_call 84; refine (KP.out _).mono ?_; rintro e w' ⟨rfl, rfl⟩)
  go_ret
  exact ⟨by first | rfl | (rw [hmm]), rfl⟩
set_option maxRecDepth 100000 in
set_option maxHeartbeats 3200000 in
theorem l16Ok_ok (g wd n : Nat) (A : Option Addr) (c : Nat) (cs : List Int) (w : World) (h1 : 1 ≤ wd) (h12 : wd ≤ 12) (n0 : 0 < n) (n9 : n ≤ 9) (hp : EngP w g wd n A c cs) (hv : InM (pw 10 wd) n (fnL cs)) :
    Calls Tryd.prog 57 #[.pointer (some ⟨g, 0, none⟩)] w fun e w' => e = .returned (.bool true) ∧ Below w.heap.size w w' := by
  have hM := pw10_bd h1 h12
  have HP := Lib.hid (fun W (hW : Below w.heap.size w W) => hp.below hW)
  have hb1 : betB (wd : Int) 1 12 = true := betB_iff.2 (by omega)
  have hb2 : betB (n : Int) 1 9 = true := betB_iff.2 (by omega)
  have KW := Lib.hid (fun (W : World) => (show Calls Tryd.prog 88 #[.int .i64 (wd : Int)] W (fun e w' => e = .returned (.bool true) ∧ W = w') from by
    go_enter Tryd.func88, Tryd.ntmps88
    go_wp2_with (go_at_call 77; refine (l00In_any _ _ _ _).mono ?_; rintro e w' ⟨rfl, rfl⟩)
    go_ret
    exact ⟨by first | rfl | exact ret_bool hb1, rfl⟩))
  have KN := Lib.hid (fun (W : World) => (show Calls Tryd.prog 77 #[.int .i64 (n : Int), .int .i64 1, .int .i64 9] W (fun e w' => e = .returned (.bool true) ∧ W = w') from (l00In_any _ _ _ _).mono fun e w' h => ⟨by rw [h.1, hb2], h.2⟩))
  have HV := Lib.hid hv
  have KP := Lib.hid (fun (W : World) => (show Calls Tryd.prog 84 #[.int .i64 10, .int .i64 (wd : Int)] W (fun e w' => e = .returned (.int .i64 (pw 10 wd)) ∧ Below W.heap.size W w') from (l10Power10 wd W h12).mono fun e w' h => ⟨h.1, by rw [← h.2]; exact Below.refl _ _⟩))
  obtain ⟨M, hMM⟩ : ∃ M, pw 10 wd = M := ⟨_, rfl⟩
  rw [hMM] at hM
  rw [hMM] at HV
  simp only [hMM] at KP
  have hwM : IntKind.i64.wrap (M - 1) = M - 1 := wrapI64 (by omega)
  have K1 := Kn.nil w
  obtain ⟨⟨⟨c0, c1⟩, -⟩, -⟩ := hp
  clear hv hMM hb1 hb2
  go_enter Tryd.func57, Tryd.ntmps57
  go_wp2_with (first | (go_at_call 88; refine (KW.out _).mono ?_; rintro e w' ⟨rfl, rfl⟩) | (go_at_call 77; refine (KN.out _).mono ?_; rintro e w' ⟨rfl, rfl⟩))
  go_loopw [3] (fun kk wr => ∃ k : Nat, k ≤ n ∧ kk = .int .i64 (k : Int) ∧ Kn w [] wr) (fun kk _ => n - (intOf kk).toNat)
  case atStart => exact ⟨0, Nat.zero_le _, rfl, K1⟩
  case round =>
    clear K1 c0 c1
    obtain ⟨k, hk, rfl, K⟩ := hrel
    obtain ⟨⟨⟨c0, c1⟩, -⟩, hri⟩ := HP.out _ K.below
    by_cases hk1 : k < n
    · have i1 : (k : Int) < (n : Int) := by omega
      have i0 : (0 : Int) ≤ (k : Int) := by omega
      obtain ⟨ad, hA, -, hkl, hcl⟩ := hri.at_ hk1
      obtain ⟨x, hx⟩ : ∃ x, cs[k] = x := ⟨_, rfl⟩
      have hxb := HV.out k hk1
      have e : fnL cs k = x := by rw [← hx]; simp [fnL, List.getD, hkl]
      rw [e] at hxb
      rw [hx] at hcl
      have KI := Lib.hid (fun (W : World) => (show Calls Tryd.prog 77 #[.int .i64 x, .int .i64 0, .int .i64 (M - 1)] W (fun e w' => e = .returned (.bool true) ∧ Below W.heap.size W w') from (l00In_any _ _ _ _).mono fun e w' h => ⟨by rw [h.1, betB_iff.2 (by omega)], by rw [← h.2]; exact Below.refl _ _⟩))
      subst hA
      clear hx e hkl hri hxb
      go_upto_region 6 with fail
      have x0 := cell_regrown c0
      have x1 := cell_regrown c1
      have x2 := cell_regrown hcl
      clear c0 c1 hcl
      refine wp_region_quiet_below (by kernel_rfl) (by kernel_rfl) ?_
      repeat (go_big_quiet_step ((first | (go_at_call 84; exact quietB (fun W _ => KP.out W)) | (go_at_call 77; exact quietB (fun W _ => KI.out W)))))
      refine wpQuiet_nil ?_
      intro _ hw'
      obtain ⟨⟨dq, osq⟩, hw''⟩ := hw'
      subst hw''
      have K2 := K.keep (below_regrown wr dq osq)
      dsimp only
      clear x0 x1 x2
      obtain ⟨w9, hw9⟩ : ∃ W, grow (redrawn wr dq) osq = W := ⟨_, rfl⟩
      rw [hw9] at K2 ⊢
      clear hw9
      go_wp2_with fail
      go_roundw
      case rel => exact ⟨k + 1, by omega, by go_num, K2⟩
      case measure => simp [intOf] <;> omega
    · have i1 : ¬ (k : Int) < (n : Int) := by omega
      clear hri
      go_wp2_with fail
      go_ret
      exact ⟨rfl, K.below⟩
theorem specValidEngine_true (wd n : Nat) (A : Option Addr) (c : Nat) (cs : List Int) (w : World) (h1 : 1 ≤ wd) (h12 : wd ≤ 12) (n0 : 0 < n) (n9 : n ≤ 9) (hr : RI w A n cs) (hv : InM (pw 10 wd) n (fnL cs)) :
    Calls Tryd.prog 20 #[.agg #[.int .i64 (wd : Int), .slice A n c]] w fun e w' => e = .returned (.bool true) ∧ Below w.heap.size w w' := by
  have K0 := (Kn.nil w).al [.int .i64 (wd : Int), .slice A n c] 45
  have KO := Lib.hid (fun W (K : Kn w [.blk w.heap.size [.int .i64 (wd : Int), .slice A n c] 45] W) => l16Ok_ok w.heap.size wd n A c cs W h1 h12 n0 n9 (EngP.of K (hr.below K.below)) hv)
  clear hr hv
  go_enter Tryd.func20, Tryd.ntmps20
  go_wp2_with (go_at_call 57; refine Calls.kn K0 ?_; clear K0; intro w1 K1; refine (KO.out _ K1).mono ?_; rintro e w2 ⟨rfl, hw⟩; have K2 := K1.keep hw; clear hw K1)
  go_ret
  exact ⟨rfl, K2.below⟩
set_option maxRecDepth 100000 in
set_option maxHeartbeats 3200000 in
theorem l16Same_ok (g h wd n : Nat) (A B : Option Addr) (c d : Nat) (cs : List Int) (w : World) (n9 : n ≤ 9) (hp : EngP w g wd n A c cs) (hq : EngP w h wd n B d cs) :
    Calls Tryd.prog 59 #[.pointer (some ⟨g, 0, none⟩), .pointer (some ⟨h, 0, none⟩)] w fun e w' => e = .returned (.bool true) ∧ Below w.heap.size w w' := by
  obtain ⟨⟨⟨c0, c1⟩, -⟩, hr⟩ := hp
  obtain ⟨⟨⟨d0, d1⟩, -⟩, hs⟩ := hq
  have KS := Lib.hid (fun W (hW : Below w.heap.size w W) => (show Calls Tryd.prog 89 #[.slice A n c, .slice B n d] W (fun e w' => e = .returned (.bool true) ∧ Below W.heap.size W w') from
    (l00Same_any A B n c n d cs cs W (hr.below hW) (hs.below hW) (by omega) (by omega)).mono fun e w' h => by
      obtain ⟨h1, q, rfl⟩ := h
      exact ⟨by rw [h1, decide_eq_true rfl], below_drewN (Below.refl _ _) q⟩))
  clear hr hs
  go_enter Tryd.func59, Tryd.ntmps59
  go_upto_region 1 with fail
  have x0 := cell_regrown c0
  have x1 := cell_regrown c1
  have y0 := cell_regrown d0
  have y1 := cell_regrown d1
  clear c0 c1 d0 d1
  refine wp_region_quiet_below (by kernel_rfl) (by kernel_rfl) ?_
  repeat (go_big_quiet_step ((go_at_call 89; exact quietB KS.out)))
  refine wpQuiet_nil ?_
  intro _ hw'
  obtain ⟨⟨dq, osq⟩, hw''⟩ := hw'
  subst hw''
  go_wp2_with fail
  go_ret
  exact ⟨rfl, below_regrown w dq osq⟩
theorem SameEngine_true (wd n : Nat) (A B : Option Addr) (c d : Nat) (cs : List Int) (w : World) (n9 : n ≤ 9) (hr : RI w A n cs) (hs : RI w B n cs) :
    Calls Tryd.prog 22 #[.agg #[.int .i64 (wd : Int), .slice A n c], .agg #[.int .i64 (wd : Int), .slice B n d]] w fun e w' => e = .returned (.bool true) ∧ Below w.heap.size w w' := by
  have K0 := ((Kn.nil w).al [.int .i64 (wd : Int), .slice A n c] 45).al [.int .i64 (wd : Int), .slice B n d] 45
  simp only [World.size_alloc] at K0
  have KO := Lib.hid (fun W (K : Kn w [.blk (w.heap.size + 1) [.int .i64 (wd : Int), .slice B n d] 45, .blk w.heap.size [.int .i64 (wd : Int), .slice A n c] 45] W) => l16Same_ok w.heap.size (w.heap.size + 1) wd n A B c d cs W n9 (EngP.of (K.front 1 rfl) (hr.below K.below)) (EngP.of K (hs.below K.below)))
  clear hr hs
  go_enter Tryd.func22, Tryd.ntmps22
  go_wp2_with (go_at_call 59; refine Calls.kn K0 ?_; clear K0; intro w1 K1; refine (KO.out _ K1).mono ?_; rintro e w2 ⟨rfl, hw⟩; have K2 := K1.keep hw; clear hw K1)
  go_ret
  exact ⟨rfl, K2.below⟩
end Go.Proofs.YtgpmngcemnnpmaaDoor

namespace Go.Proofs.YtgpmngcemnnpmaaDoor
open Go.RowKit Go.Sort
set_option maxRecDepth 100000 in
set_option maxHeartbeats 1600000 in
theorem l16Own_ok (g wd n : Nat) (A : Option Addr) (c : Nat) (cs : List Int) (w : World) (n0 : 0 < n) (n9 : n ≤ 9) (hp : EngP w g wd n A c cs) :
    Calls Tryd.prog 93 #[.pointer (some ⟨g, 0, none⟩)] w (EngR wd n cs w) := by
  unfold EngR rowNN
  have KC := Lib.hid (fun W (hW : Below w.heap.size w W) => (show Calls Tryd.prog 113 #[.slice A n c] W (fun e w' => ∃ gr ec, e = .returned (.slice (some ⟨gr, 0, none⟩) n ec) ∧ Kn W [.row (.slice (some ⟨gr, 0, none⟩) n ec) 2 1 n (cs.map (Value.int .i64))] w') from
    (l00Own_any A n c cs W (hp.2.below hW) n0 (by omega)).mono fun e w' h => by
      obtain ⟨E, ec, h1, h2⟩ := h
      unfold rowI at h2
      rw [hp.2.1] at h2
      obtain ⟨gr, ec', hE⟩ := h2.rowForm n0
      injection hE with z1 z2 z3
      subst z1 z3
      exact ⟨gr, _, h1, h2⟩))
  have HP := Lib.hid (fun W (hW : Below w.heap.size w W) => (hp.below hW).1.1)
  clear hp
  obtain ⟨h, hh⟩ : ∃ g, w.heap.size = g := ⟨_, rfl⟩
  have K0 := (Kn.nil w).al [.int .i64 0, .slice none 0 0] 45
  simp only [hh] at K0
  go_enter Tryd.func93, Tryd.ntmps93
  go_upto_region 1 with fail
  try rw [hh]
  refine Code.wp.kn K0 ?_; clear K0 hh; intro w1 K1
  have hKd := K1.drew
  have HG := Lib.hid (HP.out _ hKd.below)
  refine wp_region_held_drew (S := fun W => W.cell? ⟨g, 0, none⟩ = some (.int .i64 (wd : Int)) ∧ W.cell? ⟨g, 1, none⟩ = some (.slice A n c)) (by kernel_rfl) ?_ (fun hHeld => ?_)
  · exact HG.out
  try dsimp only
  generalize w1.drew = wd' at hKd HG hHeld ⊢
  clear K1
  refine wpAnyH_take (i := 0) (v := ?_) rfl (by kernel_rfl) (by kernel_rfl) (by kernel_rfl) (fun _ _ _ h => h) (Or.inl ⟨by rfl, ?_⟩) hHeld ?_
  rotate_left
  · (intro w hSw; (try dsimp only at hSw); go_simp; try with_reducible rfl)
  try simp only [Act.put, List.setIfInBounds_toArray, List.set_cons_zero, List.set_cons_succ, List.getElem_toArray, List.getElem_cons_succ, List.getElem_cons_zero]
  refine wpAnyH_take (i := 1) (v := ?_) rfl (by kernel_rfl) (by kernel_rfl) (by kernel_rfl) (fun _ _ _ h => h) (Or.inl ⟨by rfl, ?_⟩) hHeld ?_
  rotate_left
  · (intro w hSw; (try dsimp only at hSw); go_simp; try with_reducible rfl)
  try simp only [Act.put, List.setIfInBounds_toArray, List.set_cons_zero, List.set_cons_succ, List.getElem_toArray, List.getElem_cons_succ, List.getElem_cons_zero]
  refine wpAnyH_take (i := 2) (v := ?_) rfl (by kernel_rfl) (by kernel_rfl) (by kernel_rfl) (fun _ _ _ h => h) (Or.inl ⟨by rfl, ?_⟩) hHeld ?_
  rotate_left
  · (intro w hSw; (try dsimp only at hSw); go_simp; try with_reducible rfl)
  try simp only [Act.put, List.setIfInBounds_toArray, List.set_cons_zero, List.set_cons_succ, List.getElem_toArray, List.getElem_cons_succ, List.getElem_cons_zero]
  refine wpAnyH_take (i := 3) (v := ?_) rfl (by kernel_rfl) (by kernel_rfl) (by kernel_rfl) (fun _ _ _ h => h) (Or.inl ⟨by rfl, ?_⟩) hHeld ?_
  rotate_left
  · (intro w hSw; (try dsimp only at hSw); go_simp; try with_reducible rfl)
  try simp only [Act.put, List.setIfInBounds_toArray, List.set_cons_zero, List.set_cons_succ, List.getElem_toArray, List.getElem_cons_succ, List.getElem_cons_zero]
  refine wpAnyH_take (i := 4) (v := ?_) rfl (by kernel_rfl) (by kernel_rfl) (by kernel_rfl) (fun _ _ _ h => h) (Or.inl ⟨by rfl, ?_⟩) hHeld ?_
  rotate_left
  · (intro w hSw; (try dsimp only at hSw); go_simp; try with_reducible rfl)
  try simp only [Act.put, List.setIfInBounds_toArray, List.set_cons_zero, List.set_cons_succ, List.getElem_toArray, List.getElem_cons_succ, List.getElem_cons_zero]
  refine wpAnyH_take (i := 5) (v := ?_) rfl (by kernel_rfl) (by kernel_rfl) (by kernel_rfl) (fun _ _ _ h => h) (Or.inl ⟨by rfl, ?_⟩) hHeld ?_
  rotate_left
  · (intro w hSw; (try dsimp only at hSw); go_simp; try with_reducible rfl)
  try simp only [Act.put, List.setIfInBounds_toArray, List.set_cons_zero, List.set_cons_succ, List.getElem_toArray, List.getElem_cons_succ, List.getElem_cons_zero]
  refine wpAnyH_take (i := 6) (v := ?_) rfl (by kernel_rfl) (by kernel_rfl) (by kernel_rfl) (fun _ _ _ h => h) (Or.inl ⟨by rfl, ?_⟩) hHeld ?_
  rotate_left
  · (intro w hSw; (try dsimp only at hSw); go_simp; try with_reducible rfl)
  try simp only [Act.put, List.setIfInBounds_toArray, List.set_cons_zero, List.set_cons_succ, List.getElem_toArray, List.getElem_cons_succ, List.getElem_cons_zero]
  refine wpAnyH_take (i := 7) (v := ?_) rfl (by kernel_rfl) (by kernel_rfl) (by kernel_rfl) (fun _ _ _ h => h) (Or.inl ⟨by rfl, ?_⟩) hHeld ?_
  rotate_left
  · (intro w hSw; (try dsimp only at hSw); go_simp; try with_reducible rfl)
  try simp only [Act.put, List.setIfInBounds_toArray, List.set_cons_zero, List.set_cons_succ, List.getElem_toArray, List.getElem_cons_succ, List.getElem_cons_zero]
  refine wpAnyH_ready (rs := [8]) (by kernel_rfl) (by decide) (AllReadyH.cons (o := _) rfl (fun K hK' => ?_) AllReadyH.nil)
  go_simp
  go_at_call 113
  refine (KC.out _ hKd.below).mono ?_
  rintro e wo1 ⟨gr1, ec1, rfl, hK⟩
  have KO1 := hKd.join hK
  clear hK
  have HG := Lib.hid (HP.out _ KO1.below)
  refine hK'.out _ _ HG.out (fun hHeld2 => ?_)
  clear hK' hHeld
  have hHeld := hHeld2
  clear hHeld2
  try simp only [Act.put, List.setIfInBounds_toArray]
  refine wpAnyH_take (i := 9) (v := ?_) rfl (by kernel_rfl) (by kernel_rfl) (by kernel_rfl) (fun _ _ _ h => h) (Or.inl ⟨by rfl, ?_⟩) hHeld ?_
  rotate_left
  · (intro w hSw; (try dsimp only at hSw); go_simp; try with_reducible rfl)
  try simp only [Act.put, List.setIfInBounds_toArray, List.set_cons_zero, List.set_cons_succ, List.getElem_toArray, List.getElem_cons_succ, List.getElem_cons_zero]
  refine wpAnyH_ready (rs := [10]) (by kernel_rfl) (by decide) (AllReadyH.cons (o := _) rfl (fun K hK' => ?_) AllReadyH.nil)
  obtain ⟨s1, s2, s3, -⟩ := (KO1.front 1 rfl).cells
  have KO2 := (((KO1.front 1 rfl).st 0 (.int .i64 (wd : Int))).st 1 (.slice (some ⟨gr1, 0, none⟩) n ec1))
  go_simp
  clear s1 s2 s3
  have HG := Lib.hid (HP.out _ KO2.below)
  refine hK'.out _ _ HG.out (fun hHeld2 => ?_)
  clear hK' hHeld
  have hHeld := hHeld2
  clear hHeld2
  try simp only [Act.put, List.setIfInBounds_toArray]
  refine wpAnyH_done (by kernel_rfl) ?_ _
  go_wp2_with fail
  refine bodyPost.kn KO2 ?_; clear KO2; intro w9 K9
  obtain ⟨a1, a2, a3, -⟩ := K9.cells
  refine bodyPost_ret (v := .agg #[.int .i64 (wd : Int), .slice (some ⟨gr1, 0, none⟩) n ec1]) (by simp [results, Tryd.results93, go_sem, a1]) rfl ⟨_, _, rfl, K9.sel [1] 99 (by decide) (by decide)⟩
set_option maxRecDepth 100000 in
set_option maxHeartbeats 3200000 in
theorem l16Back_ok (g wd n : Nat) (A : Option Addr) (c : Nat) (cs : List Int) (w : World) (h1 : 1 ≤ wd) (h12 : wd ≤ 12) (n0 : 0 < n) (n9 : n ≤ 9) (hp : EngP w g wd n A c cs) (hv : InM (pw 10 wd) n (fnL cs)) :
    Calls Tryd.prog 94 #[.pointer (some ⟨g, 0, none⟩)] w (EngR wd n ((List.range n).map (bkF (pw 10 wd) n (fnL cs))) w) := by
  have KC := Lib.hid (fun W (hW : Below w.heap.size w W) => l16Own_ok g wd n A c cs W n0 n9 (hp.below hW))
  have KM := Lib.hid (fun x W hx hx2 => l16Mod_ok wd x W h1 h12 hx hx2)
  have HP := Lib.hid (fun W (hW : Below w.heap.size w W) => hp.below hW)
  have hcs : cs = mixG (fnL cs) (bkF (pw 10 wd) n (fnL cs)) n (n - 1) := by
    have h := mixG_same (fnL cs) (bkF (pw 10 wd) n (fnL cs)) n (k := n - 1) (m := n) (fun i hi => by
      by_cases hk : i < n - 1
      · rw [if_pos hk, if_pos hi]
      · rw [if_neg hk, if_pos hi, bkF_last _ _ _ _ (by omega)])
    rw [h, mixG_full (fnL cs) _ n (k := n) (fun i hi hk => by omega), ← hp.2.1, map_fnL]
  have HFU := Lib.hid (mixG_zero (fnL cs) (bkF (pw 10 wd) n (fnL cs)) n)
  have hM := pw10_bd h1 h12
  obtain ⟨M, hMM⟩ : ∃ M, pw 10 wd = M := ⟨_, rfl⟩
  rw [hMM] at hcs hM hv
  rw [hMM] at HFU
  simp only [hMM] at KM ⊢
  have HV := Lib.hid hv
  unfold EngR rowNN at KC
  obtain ⟨f, hf⟩ : ∃ f, fnL cs = f := ⟨_, rfl⟩
  rw [hf] at hcs HFU HV ⊢
  rw [hcs] at KC
  have HBV := Lib.hid (HV.out.bk (show 0 < M by omega))
  clear hp hv hMM hf hcs
  obtain ⟨h, hh⟩ : ∃ g, w.heap.size = g := ⟨_, rfl⟩
  have K0 := (Kn.nil w).al [.int .i64 0, .slice none 0 0] 45
  simp only [hh] at K0
  go_enter Tryd.func94, Tryd.ntmps94
  go_upto_region 1 with fail
  try rw [hh]
  refine Code.wp.kn K0 ?_; clear K0 hh; intro w1 K1
  go_upto_region 2 with (go_at_call 93; refine (KC.out _ K1.below).mono ?_; rintro e w2 ⟨gr, ec, rfl, hK⟩; have K2 := (K1.join hK).al [.int .i64 (wd : Int), .slice (some ⟨gr, 0, none⟩) n ec] 45; clear hK K1)
  obtain ⟨g3, hg⟩ : ∃ g, w2.heap.size = g := ⟨_, rfl⟩
  rw [hg] at K2
  try rw [hg]
  refine Code.wp.kn K2 ?_; clear K2 hg; intro w3 K3
  have K4 := K3.sel [0, 1, 2] 99 (by decide) (by decide)
  clear K3
  obtain ⟨o1, o2, o3, -⟩ := K4.cells
  have q0 : IntKind.i64.wrap ((n : Int) - 1) = ((n - 1 : Nat) : Int) := by rw [wrapI64 (by omega)]; omega
  have q00 : (n : Int) - 1 = ((n - 1 : Nat) : Int) := by omega
  go_wp2_with fail
  go_loopw [4] (fun kk wr => ∃ i : Nat, i < n ∧ kk = .int .i64 (i : Int) ∧ Kn w [.blk g3 [.int .i64 (wd : Int), .slice (some ⟨gr, 0, none⟩) n ec] 45, .row (.slice (some ⟨gr, 0, none⟩) n ec) 2 1 n ((mixG f (bkF M n f) n i).map (Value.int .i64)), .blk h [.int .i64 0, .slice none 0 0] 45] wr) (fun kk _ => (intOf kk).toNat)
  case atStart => exact ⟨n - 1, by omega, by first | rfl | exact congrArg _ q00, K4⟩
  case round =>
    clear K4 o1 o2 o3 q0 q00
    obtain ⟨i', hi', rfl, KR⟩ := hrel
    obtain ⟨o1, o2, o3, -⟩ := KR.cells
    rcases i' with _ | i
    · have K5 := KR
      rw [HFU.out] at K5
      clear KR
      obtain ⟨-, -, -, z1, z2, z3, -⟩ := K5.cells
      go_wp2_with fail
      have K9 := ((K5.front 2 rfl).st 0 (.int .i64 (wd : Int))).st 1 (.slice (some ⟨gr, 0, none⟩) n ec)
      refine bodyPost.kn K9 ?_; clear K9; intro w9 K9
      obtain ⟨b1, b2, b3, -⟩ := K9.cells
      refine bodyPost_ret (v := .agg #[.int .i64 (wd : Int), .slice (some ⟨gr, 0, none⟩) n ec]) (by simp [results, Tryd.results94, go_sem, b1]) rfl ⟨_, _, rfl, ?_⟩
      exact K9.sel [2] 99 (by decide) (by decide)
    · have i0 : (0 : Int) ≤ (i : Int) := by omega
      have i1 : (i : Int) + 1 < (n : Int) := by omega
      have i2 : (i : Int) < (n : Int) := by omega
      have i3 : (0 : Int) ≤ (i : Int) + 1 := by omega
      have i4 : (0 : Int) < (i : Int) + 1 := by omega
      have hq2 : ((i : Int) + 1 - 1) = (i : Int) := by omega
      have hq3 : IntKind.i64.wrap (i : Int) = (i : Int) := wrapI64 (by omega)
      obtain ⟨x, hx⟩ : ∃ x, f i = x := ⟨_, rfl⟩
      obtain ⟨y, hy⟩ : ∃ y, bkF M n f (i + 1) = y := ⟨_, rfl⟩
      obtain ⟨v, hvv⟩ : ∃ v, (x - y) % M = v := ⟨_, rfl⟩
      have hxb := HV.out i (by omega)
      have hyb := HBV.out (i + 1) hi'
      rw [hx] at hxb
      rw [hy] at hyb
      have hL1 : ((mixG f (bkF M n f) n (i + 1)).map (Value.int .i64))[i]? = some (.int .i64 x) := by rw [List.getElem?_map, mixG_at _ _ _ (by omega), if_pos (by omega), hx]; rfl
      have hL2 : ((mixG f (bkF M n f) n (i + 1)).map (Value.int .i64))[i + 1]? = some (.int .i64 y) := by rw [List.getElem?_map, mixG_at _ _ _ hi', if_neg (by omega), hy]; rfl
      have hL3 : (mixG f (bkF M n f) n i).map (Value.int .i64) = ((mixG f (bkF M n f) n (i + 1)).map (Value.int .i64)).set i (.int .i64 v) := by
        rw [← mixG_down, List.map_set]
        congr 2
        rw [bkF_step _ _ _ _ hi', hx, hy, Int.add_emod_right, hvv]
      have hw1 : IntKind.i64.wrap (x - y) = x - y := wrapI64 (by omega)
      have KX := KM.out (x - y)
      rw [hvv] at KX
      replace KX := Lib.hid (fun W => KX W (by omega) (by omega))
      have HSET := Lib.hid hL3
      obtain ⟨L0, hL0⟩ : ∃ L, (mixG f (bkF M n f) n (i + 1)).map (Value.int .i64) = L := ⟨_, rfl⟩
      rw [hL0] at hL1 hL2 HSET KR
      have HI := Lib.hid hL1
      have HJ := Lib.hid hL2
      have HJ2 := Lib.hid (show (L0.set i (.int .i64 v))[i + 1]? = some (.int .i64 y) by rw [List.getElem?_set_ne (by omega)]; exact HJ.out)
      clear hL0 hL1 hL2 hL3 hx hy hvv hxb hyb
      go_upto_region 5 with fail
      have HB := Lib.hid (fun (L : List Value) W (hL : L[(i + 1)]? = some (.int .i64 y)) (hW : Below w.heap.size w W) (h : Kn w [.blk g3 [.int .i64 (wd : Int), .slice (some ⟨gr, 0, none⟩) n ec] 45, .row (.slice (some ⟨gr, 0, none⟩) n ec) 2 1 n L] W) => (And.intro (And.intro (box2 h).2 ((Kn.rowCell (h.front 1 rfl) hL).1)) (HP.out W hW).1.1.1 : (W.cell? ⟨g3, 1, none⟩ = some (.slice (some ⟨gr, 0, none⟩) n ec) ∧ W.cell? ⟨gr, (i + 1), none⟩ = some (.int .i64 y)) ∧ W.cell? ⟨g, 0, none⟩ = some (.int .i64 (wd : Int))))
      have hKd := KR.drew
      have HG := Lib.hid (HB.out _ _ HJ.out hKd.below (hKd.sel [0, 1] 99 (by decide) (by decide)))
      clear o1 o2 o3
      refine wp_region_held_drew (S := fun W => (W.cell? ⟨g3, 1, none⟩ = some (.slice (some ⟨gr, 0, none⟩) n ec) ∧ W.cell? ⟨gr, (i + 1), none⟩ = some (.int .i64 y)) ∧ W.cell? ⟨g, 0, none⟩ = some (.int .i64 (wd : Int))) (by kernel_rfl) ?_ (fun hHeld => ?_)
      · exact HG.out
      try dsimp only
      generalize wr.drew = wd' at hKd HG hHeld ⊢
      clear KR
      refine wpAnyH_take (i := 0) (v := ?_) rfl (by kernel_rfl) (by kernel_rfl) (by kernel_rfl) (fun _ _ _ h => h) (Or.inl ⟨by rfl, ?_⟩) hHeld ?_
      rotate_left
      · (intro w hSw; (try dsimp only at hSw); go_simp; try with_reducible rfl)
      try simp only [Act.put, List.setIfInBounds_toArray, List.set_cons_zero, List.set_cons_succ, List.getElem_toArray, List.getElem_cons_succ, List.getElem_cons_zero]
      refine wpAnyH_take (i := 1) (v := ?_) rfl (by kernel_rfl) (by kernel_rfl) (by kernel_rfl) (fun _ _ _ h => h) (Or.inl ⟨by rfl, ?_⟩) hHeld ?_
      rotate_left
      · (intro w hSw; (try dsimp only at hSw); go_simp; try with_reducible rfl)
      try simp only [Act.put, List.setIfInBounds_toArray, List.set_cons_zero, List.set_cons_succ, List.getElem_toArray, List.getElem_cons_succ, List.getElem_cons_zero]
      refine wpAnyH_take (i := 2) (v := ?_) rfl (by kernel_rfl) (by kernel_rfl) (by kernel_rfl) (fun _ _ _ h => h) (Or.inl ⟨by rfl, ?_⟩) hHeld ?_
      rotate_left
      · (intro w hSw; (try dsimp only at hSw); go_simp; try with_reducible rfl)
      try simp only [Act.put, List.setIfInBounds_toArray, List.set_cons_zero, List.set_cons_succ, List.getElem_toArray, List.getElem_cons_succ, List.getElem_cons_zero]
      refine wpAnyH_take (i := 3) (v := ?_) rfl (by kernel_rfl) (by kernel_rfl) (by kernel_rfl) (fun _ _ _ h => h) (Or.inl ⟨by rfl, ?_⟩) hHeld ?_
      rotate_left
      · (intro w hSw; (try dsimp only at hSw); go_simp; try with_reducible rfl)
      try simp only [Act.put, List.setIfInBounds_toArray, List.set_cons_zero, List.set_cons_succ, List.getElem_toArray, List.getElem_cons_succ, List.getElem_cons_zero]
      refine wpAnyH_take (i := 4) (v := ?_) rfl (by kernel_rfl) (by kernel_rfl) (by kernel_rfl) (fun _ _ _ h => h) (Or.inl ⟨by rfl, ?_⟩) hHeld ?_
      rotate_left
      · (intro w hSw; (try dsimp only at hSw); go_simp; try with_reducible rfl)
      try simp only [Act.put, List.setIfInBounds_toArray, List.set_cons_zero, List.set_cons_succ, List.getElem_toArray, List.getElem_cons_succ, List.getElem_cons_zero]
      refine wpAnyH_take (i := 5) (v := ?_) rfl (by kernel_rfl) (by kernel_rfl) (by kernel_rfl) (fun _ _ _ h => h) (Or.inl ⟨by rfl, ?_⟩) hHeld ?_
      rotate_left
      · (intro w hSw; (try dsimp only at hSw); go_simp; try with_reducible rfl)
      try simp only [Act.put, List.setIfInBounds_toArray, List.set_cons_zero, List.set_cons_succ, List.getElem_toArray, List.getElem_cons_succ, List.getElem_cons_zero]
      refine wpAnyH_take (i := 6) (v := ?_) rfl (by kernel_rfl) (by kernel_rfl) (by kernel_rfl) (fun _ _ _ h => h) (Or.inl ⟨by rfl, ?_⟩) hHeld ?_
      rotate_left
      · (intro w hSw; (try dsimp only at hSw); go_simp; try with_reducible rfl)
      try simp only [Act.put, List.setIfInBounds_toArray, List.set_cons_zero, List.set_cons_succ, List.getElem_toArray, List.getElem_cons_succ, List.getElem_cons_zero]
      refine wpAnyH_take (i := 7) (v := ?_) rfl (by kernel_rfl) (by kernel_rfl) (by kernel_rfl) (fun _ _ _ h => h) (Or.inl ⟨by rfl, ?_⟩) hHeld ?_
      rotate_left
      · (intro w hSw; (try dsimp only at hSw); go_simp; try with_reducible rfl)
      try simp only [Act.put, List.setIfInBounds_toArray, List.set_cons_zero, List.set_cons_succ, List.getElem_toArray, List.getElem_cons_succ, List.getElem_cons_zero]
      refine wpAnyH_take (i := 8) (v := ?_) rfl (by kernel_rfl) (by kernel_rfl) (by kernel_rfl) (fun _ _ _ h => h) (Or.inl ⟨by rfl, ?_⟩) hHeld ?_
      rotate_left
      · (intro w hSw; (try dsimp only at hSw); go_simp; try with_reducible rfl)
      try simp only [Act.put, List.setIfInBounds_toArray, List.set_cons_zero, List.set_cons_succ, List.getElem_toArray, List.getElem_cons_succ, List.getElem_cons_zero]
      refine wpAnyH_take (i := 9) (v := ?_) rfl (by kernel_rfl) (by kernel_rfl) (by kernel_rfl) (fun _ _ _ h => h) (Or.inl ⟨by rfl, ?_⟩) hHeld ?_
      rotate_left
      · (intro w hSw; (try dsimp only at hSw); go_simp; try with_reducible rfl)
      try simp only [Act.put, List.setIfInBounds_toArray, List.set_cons_zero, List.set_cons_succ, List.getElem_toArray, List.getElem_cons_succ, List.getElem_cons_zero]
      refine wpAnyH_take (i := 10) (v := ?_) rfl (by kernel_rfl) (by kernel_rfl) (by kernel_rfl) (fun _ _ _ h => h) (Or.inl ⟨by rfl, ?_⟩) hHeld ?_
      rotate_left
      · (intro w hSw; (try dsimp only at hSw); go_simp; try with_reducible rfl)
      try simp only [Act.put, List.setIfInBounds_toArray, List.set_cons_zero, List.set_cons_succ, List.getElem_toArray, List.getElem_cons_succ, List.getElem_cons_zero]
      refine wpAnyH_take (i := 11) (v := ?_) rfl (by kernel_rfl) (by kernel_rfl) (by kernel_rfl) (fun _ _ _ h => h) (Or.inl ⟨by rfl, ?_⟩) hHeld ?_
      rotate_left
      · (intro w hSw; (try dsimp only at hSw); go_simp; try with_reducible rfl)
      try simp only [Act.put, List.setIfInBounds_toArray, List.set_cons_zero, List.set_cons_succ, List.getElem_toArray, List.getElem_cons_succ, List.getElem_cons_zero]
      refine wpAnyH_take (i := 12) (v := ?_) rfl (by kernel_rfl) (by kernel_rfl) (by kernel_rfl) (fun _ _ _ h => h) (Or.inl ⟨by rfl, ?_⟩) hHeld ?_
      rotate_left
      · (intro w hSw; (try dsimp only at hSw); go_simp; try with_reducible rfl)
      try simp only [Act.put, List.setIfInBounds_toArray, List.set_cons_zero, List.set_cons_succ, List.getElem_toArray, List.getElem_cons_succ, List.getElem_cons_zero]
      refine wpAnyH_take (i := 14) (v := ?_) rfl (by kernel_rfl) (by kernel_rfl) (by kernel_rfl) (fun _ _ _ h => h) (Or.inl ⟨by rfl, ?_⟩) hHeld ?_
      rotate_left
      · (intro w hSw; (try dsimp only at hSw); go_simp; try with_reducible rfl)
      try simp only [Act.put, List.setIfInBounds_toArray, List.set_cons_zero, List.set_cons_succ, List.getElem_toArray, List.getElem_cons_succ, List.getElem_cons_zero]
      refine wpAnyH_take (i := 15) (v := ?_) rfl (by kernel_rfl) (by kernel_rfl) (by kernel_rfl) (fun _ _ _ h => h) (Or.inl ⟨by rfl, ?_⟩) hHeld ?_
      rotate_left
      · (intro w hSw; (try dsimp only at hSw); go_simp; try with_reducible rfl)
      try simp only [Act.put, List.setIfInBounds_toArray, List.set_cons_zero, List.set_cons_succ, List.getElem_toArray, List.getElem_cons_succ, List.getElem_cons_zero]
      refine wpAnyH_take (i := 16) (v := ?_) rfl (by kernel_rfl) (by kernel_rfl) (by kernel_rfl) (fun _ _ _ h => h) (Or.inl ⟨by rfl, ?_⟩) hHeld ?_
      rotate_left
      · (intro w hSw; (try dsimp only at hSw); go_simp; try with_reducible rfl)
      try simp only [Act.put, List.setIfInBounds_toArray, List.set_cons_zero, List.set_cons_succ, List.getElem_toArray, List.getElem_cons_succ, List.getElem_cons_zero]
      refine wpAnyH_take (i := 17) (v := ?_) rfl (by kernel_rfl) (by kernel_rfl) (by kernel_rfl) (fun _ _ _ h => h) (Or.inl ⟨by rfl, ?_⟩) hHeld ?_
      rotate_left
      · (intro w hSw; (try dsimp only at hSw); go_simp; try with_reducible rfl)
      try simp only [Act.put, List.setIfInBounds_toArray, List.set_cons_zero, List.set_cons_succ, List.getElem_toArray, List.getElem_cons_succ, List.getElem_cons_zero]
      refine wpAnyH_take (i := 18) (v := ?_) rfl (by kernel_rfl) (by kernel_rfl) (by kernel_rfl) (fun _ _ _ h => h) (Or.inl ⟨by rfl, ?_⟩) hHeld ?_
      rotate_left
      · (intro w hSw; (try dsimp only at hSw); go_simp; try with_reducible rfl)
      try simp only [Act.put, List.setIfInBounds_toArray, List.set_cons_zero, List.set_cons_succ, List.getElem_toArray, List.getElem_cons_succ, List.getElem_cons_zero]
      refine wpAnyH_ready (rs := [13]) (by kernel_rfl) (by decide) (AllReadyH.cons (o := _) rfl (fun K hK' => ?_) AllReadyH.nil)
      obtain ⟨x1, x2⟩ := Kn.rowCell (hKd.front 1 rfl) HI.out
      go_simp
      clear x1 x2
      have KO3 := hKd
      have HG := Lib.hid (by first | exact HB.out _ _ HJ.out KO3.below (KO3.sel [0, 1] 99 (by decide) (by decide)) | exact HB.out _ _ HJ2.out KO3.below (KO3.sel [0, 1] 99 (by decide) (by decide)))
      refine hK'.out _ _ HG.out (fun hHeld2 => ?_)
      clear hK' hHeld
      have hHeld := hHeld2
      clear hHeld2
      try simp only [Act.put, List.setIfInBounds_toArray]
      refine wpAnyH_take (i := 19) (v := ?_) rfl (by kernel_rfl) (by kernel_rfl) (by kernel_rfl) (fun _ _ _ h => h) (Or.inl ⟨by rfl, ?_⟩) hHeld ?_
      rotate_left
      · (intro w hSw; (try dsimp only at hSw); go_simp; try with_reducible rfl)
      try simp only [Act.put, List.setIfInBounds_toArray, List.set_cons_zero, List.set_cons_succ, List.getElem_toArray, List.getElem_cons_succ, List.getElem_cons_zero]
      refine wpAnyH_ready (rs := [20]) (by kernel_rfl) (by decide) (AllReadyH.cons (o := _) rfl (fun K hK' => ?_) AllReadyH.nil)
      go_simp
      go_at_call 108
      refine (KX.out _).mono ?_
      rintro e wq ⟨rfl, rfl⟩
      have KO4 := KO3
      have HG := Lib.hid (by first | exact HB.out _ _ HJ.out KO4.below (KO4.sel [0, 1] 99 (by decide) (by decide)) | exact HB.out _ _ HJ2.out KO4.below (KO4.sel [0, 1] 99 (by decide) (by decide)))
      refine hK'.out _ _ HG.out (fun hHeld2 => ?_)
      clear hK' hHeld
      have hHeld := hHeld2
      clear hHeld2
      try simp only [Act.put, List.setIfInBounds_toArray]
      refine wpAnyH_take (i := 21) (v := ?_) rfl (by kernel_rfl) (by kernel_rfl) (by kernel_rfl) (fun _ _ _ h => h) (Or.inl ⟨by rfl, ?_⟩) hHeld ?_
      rotate_left
      · (intro w hSw; (try dsimp only at hSw); go_simp; try with_reducible rfl)
      try simp only [Act.put, List.setIfInBounds_toArray, List.set_cons_zero, List.set_cons_succ, List.getElem_toArray, List.getElem_cons_succ, List.getElem_cons_zero]
      refine wpAnyH_ready (rs := [22]) (by kernel_rfl) (by decide) (AllReadyH.cons (o := _) rfl (fun K hK' => ?_) AllReadyH.nil)
      obtain ⟨x1, x2⟩ := Kn.rowCell (KO4.front 1 rfl) HI.out
      have KO5 := Kn.rowSt (KO4.front 1 rfl) i (.int .i64 v)
      go_simp
      clear x1 x2
      have HG := Lib.hid (by first | exact HB.out _ _ HJ.out KO5.below (KO5.sel [1, 0] 99 (by decide) (by decide)) | exact HB.out _ _ HJ2.out KO5.below (KO5.sel [1, 0] 99 (by decide) (by decide)))
      refine hK'.out _ _ HG.out (fun hHeld2 => ?_)
      clear hK' hHeld
      have hHeld := hHeld2
      clear hHeld2
      try simp only [Act.put, List.setIfInBounds_toArray]
      refine wpAnyH_done (by kernel_rfl) ?_ _
      go_wp2_with fail
      go_roundw
      case rel => exact ⟨i, by omega, by go_num, by rw [HSET.out]; exact (KO5.sel [1, 0, 2] 99 (by decide) (by decide))⟩
      case measure => simp [intOf] <;> omega
end Go.Proofs.YtgpmngcemnnpmaaDoor

namespace Go.Proofs.YtgpmngcemnnpmaaDoor
open Go.RowKit Go.Sort
set_option maxRecDepth 100000 in
set_option maxHeartbeats 6400000 in
theorem l16Prepare_ok (g wd n : Nat) (A : Option Addr) (c : Nat) (cs : List Int) (w : World) (h1 : 1 ≤ wd) (h12 : wd ≤ 12) (n0 : 0 < n) (n9 : n ≤ 9) (hp : EngP w g wd n A c cs) (hv : InM (pw 10 wd) n (fnL cs)) :
    Calls Tryd.prog 62 #[.pointer (some ⟨g, 0, none⟩)] w (EngR wd n ((List.range n).map (prF (pw 10 wd) n (fnL cs))) w) := by
  have hM := pw10_bd h1 h12
  have KC := Lib.hid (fun W (hW : Below w.heap.size w W) => l16Own_ok g wd n A c cs W n0 n9 (hp.below hW))
  have KB := (fun (j : Nat) (g4 gb bc : Nat) W (m : List Ent) (hK : Kn w (.blk g4 [.int .i64 (wd : Int), .slice (some ⟨gb, 0, none⟩) n bc] 45 :: rowNN (some ⟨gb, 0, none⟩) n bc ((List.range n).map (itB (pw 10 wd) n j (fnL cs))) :: m) W) => by
    have h := l16Back_ok g4 wd n (some ⟨gb, 0, none⟩) bc _ W h1 h12 n0 n9 (EngP.of hK ((hK.front 1 rfl).rivNN (by simp))) ((hv.it (show 0 < pw 10 wd by omega) j).map)
    have e : (List.range n).map (bkF (pw 10 wd) n (fnL ((List.range n).map (itB (pw 10 wd) n j (fnL cs))))) = (List.range n).map (itB (pw 10 wd) n (j + 1) (fnL cs)) := List.map_congr_left fun i hi => bkF_congr (fun k hk => fnL_map n _ hk) i (List.mem_range.1 hi)
    rw [e] at h
    exact h)
  have hcs : cs = mixG (prF (pw 10 wd) n (fnL cs)) (fnL cs) n 0 := by rw [mixG_zero, ← hp.2.1, map_fnL]
  have hcs2 : cs = (List.range n).map (itB (pw 10 wd) n ((0 - 1) / 2) (fnL cs)) := by show cs = (List.range n).map (fnL cs); rw [← hp.2.1, map_fnL]
  have HFU := Lib.hid (mixG_full (prF (pw 10 wd) n (fnL cs)) (fnL cs) n (k := n) (fun i hi hk => by omega))
  obtain ⟨M, hMM⟩ : ∃ M, pw 10 wd = M := ⟨_, rfl⟩
  rw [hMM] at hcs hcs2
  rw [hMM] at HFU
  simp only [hMM] at KB ⊢
  unfold EngR rowNN at KC
  obtain ⟨f, hf⟩ : ∃ f, fnL cs = f := ⟨_, rfl⟩
  simp only [hf] at hcs hcs2 HFU KB ⊢
  replace KB := Lib.hid KB
  have HC1 := Lib.hid hcs
  have HC2 := Lib.hid hcs2
  clear hp hv hMM hf hcs hcs2 hM
  obtain ⟨h, hh⟩ : ∃ g, w.heap.size = g := ⟨_, rfl⟩
  have K0 := (Kn.nil w).al [.int .i64 0, .slice none 0 0] 45
  simp only [hh] at K0
  go_enter Tryd.func62, Tryd.ntmps62
  go_upto_region 1 with fail
  try rw [hh]
  refine Code.wp.kn K0 ?_; clear K0 hh; intro w1 K1
  go_upto_region 2 with (go_at_call 93; refine (KC.out _ K1.below).mono ?_; rintro e w2 ⟨gr, ec, rfl, hK⟩; have K2 := (K1.join hK).al [.int .i64 (wd : Int), .slice (some ⟨gr, 0, none⟩) n ec] 45; clear hK K1)
  obtain ⟨g3, hg⟩ : ∃ g, w2.heap.size = g := ⟨_, rfl⟩
  rw [hg] at K2
  try rw [hg]
  refine Code.wp.kn K2 ?_; clear K2 hg; intro w3 K3
  go_upto_region 3 with (go_at_call 93; refine (KC.out _ K3.below).mono ?_; rintro e w4 ⟨gb, bc, rfl, hK⟩; have K4 := (K3.join hK).al [.int .i64 (wd : Int), .slice (some ⟨gb, 0, none⟩) n bc] 45; clear hK K3)
  obtain ⟨g4, hg⟩ : ∃ g, w4.heap.size = g := ⟨_, rfl⟩
  rw [hg] at K4
  try rw [hg]
  refine Code.wp.kn K4 ?_; clear K4 hg; intro w5 K5
  have K6 : Kn w [.blk g4 [.int .i64 (wd : Int), .slice (some ⟨gb, 0, none⟩) n bc] 45, rowNN (some ⟨gb, 0, none⟩) n bc ((List.range n).map (itB M n ((0 - 1) / 2) f)), .blk g3 [.int .i64 (wd : Int), .slice (some ⟨gr, 0, none⟩) n ec] 45, .row (.slice (some ⟨gr, 0, none⟩) n ec) 2 1 n ((mixG (prF M n f) f n 0).map (Value.int .i64)), .blk h [.int .i64 0, .slice none 0 0] 45] w5 := by
    unfold rowNN
    rw [← HC1.out, ← HC2.out]
    exact K5.sel [0, 1, 2, 3, 4] 99 (by decide) (by decide)
  clear K5 HC1 HC2 KC
  obtain ⟨n1, n2, n3, o1, o2, o3, -⟩ := K6.cells
  go_wp2_with fail
  go_loopw [5] (fun kk wr => ∃ (k gb bc : Nat), k ≤ n ∧ kk = .int .i64 (k : Int) ∧ Kn w [.blk g4 [.int .i64 (wd : Int), .slice (some ⟨gb, 0, none⟩) n bc] 45, rowNN (some ⟨gb, 0, none⟩) n bc ((List.range n).map (itB M n ((k - 1) / 2) f)), .blk g3 [.int .i64 (wd : Int), .slice (some ⟨gr, 0, none⟩) n ec] 45, .row (.slice (some ⟨gr, 0, none⟩) n ec) 2 1 n ((mixG (prF M n f) f n k).map (Value.int .i64)), .blk h [.int .i64 0, .slice none 0 0] 45] wr) (fun kk _ => n - (intOf kk).toNat)
  case atStart => exact ⟨0, gb, bc, Nat.zero_le _, rfl, K6⟩
  case round =>
    clear K6 n1 n2 n3 o1 o2 o3
    obtain ⟨k, gb, bc, hk, rfl, KR⟩ := hrel
    obtain ⟨n1, n2, n3, o1, o2, o3, -⟩ := KR.cells
    by_cases hk1 : k < n
    · have i1 : (k : Int) < (n : Int) := by omega
      have i0 : (0 : Int) ≤ (k : Int) := by omega
      by_cases hc : 0 < k ∧ k % 2 = 0
      · have c1 : (0 : Int) < (k : Int) := by omega
        have c2 : (k : Int).tmod 2 = 0 := by rw [Int.tmod_eq_emod_of_nonneg (by omega)]; omega
        have c3 : 0 < k := hc.1
        have hj := Lib.hid (show (k - 1) / 2 + 1 = k / 2 by omega)
        go_upto_region 8 with (go_at_call 94; refine (KB.out _ g4 gb bc _ _ KR).mono ?_; rintro e w5 ⟨gr2, ec2, rfl, hK⟩; have K5 := KR.join hK; clear hK KR n1 n2 n3 o1 o2 o3; obtain ⟨n1, n2, n3, o1, o2, o3, -⟩ := K5.cells)
        have K6 := ((K5.front 1 rfl).st 0 (.int .i64 (wd : Int))).st 1 (.slice (some ⟨gr2, 0, none⟩) n ec2)
        refine Code.wp.kn K6 ?_; clear K5 K6 n1 n2 n3 o1 o2 o3; intro wz K6
        rw [hj.out] at K6
        have KM := K6.sel [0, 1, 3, 4, 5] 99 (by decide) (by decide)
        clear K6 c1 c2 c3 hc
        have hL1 : ((mixG (prF M n f) f n k).map (Value.int .i64))[k]? = some (.int .i64 (f k)) := by rw [List.getElem?_map, mixG_at _ _ _ hk1, if_neg (by omega)]; rfl
        have hL3 : (mixG (prF M n f) f n (k + 1)).map (Value.int .i64) = ((mixG (prF M n f) f n k).map (Value.int .i64)).set k (.int .i64 (itB M n (k / 2) f k)) := by
          rw [← mixG_set, List.map_set]
          rfl
        obtain ⟨v, hvv⟩ : ∃ v, itB M n (k / 2) f k = v := ⟨_, rfl⟩
        have hL4 : (((List.range n).map (itB M n (k / 2) f)).map (Value.int .i64))[k]? = some (.int .i64 v) := by rw [← hvv]; simp [hk1]
        rw [hvv] at hL3
        have HSET := Lib.hid hL3
        have HL4 := Lib.hid hL4
        obtain ⟨L0, hL0⟩ : ∃ L, (mixG (prF M n f) f n k).map (Value.int .i64) = L := ⟨_, rfl⟩
        rw [hL0] at hL1 HSET KM
        have HI := Lib.hid hL1
        have HB := Lib.hid (fun (L : List Value) W (h : Kn w [.blk g4 [.int .i64 (wd : Int), .slice (some ⟨gr2, 0, none⟩) n ec2] 45, rowNN (some ⟨gr2, 0, none⟩) n ec2 ((List.range n).map (itB M n (k / 2) f)), .blk g3 [.int .i64 (wd : Int), .slice (some ⟨gr, 0, none⟩) n ec] 45, .row (.slice (some ⟨gr, 0, none⟩) n ec) 2 1 n L] W) => (And.intro (And.intro (box2 (h.front 2 rfl)).2 (box2 h).2) ((Kn.rowCell (h.front 1 rfl) HL4.out).1) : (W.cell? ⟨g3, 1, none⟩ = some (.slice (some ⟨gr, 0, none⟩) n ec) ∧ W.cell? ⟨g4, 1, none⟩ = some (.slice (some ⟨gr2, 0, none⟩) n ec2)) ∧ W.cell? ⟨gr2, k, none⟩ = some (.int .i64 v)))
        clear hL0 hL1 hL3 hL4 hvv
        go_upto_region 8 with fail
        have hKd := KM.drew
        have HG := Lib.hid (HB.out _ _ (hKd.sel [0, 1, 2, 3] 99 (by decide) (by decide)))
        refine wp_region_held_drew (S := fun W => (W.cell? ⟨g3, 1, none⟩ = some (.slice (some ⟨gr, 0, none⟩) n ec) ∧ W.cell? ⟨g4, 1, none⟩ = some (.slice (some ⟨gr2, 0, none⟩) n ec2)) ∧ W.cell? ⟨gr2, k, none⟩ = some (.int .i64 v)) (by kernel_rfl) ?_ (fun hHeld => ?_)
        · exact HG.out
        try dsimp only
        generalize wz.drew = wd' at hKd HG hHeld ⊢
        clear KM
        refine wpAnyH_take (i := 0) (v := ?_) rfl (by kernel_rfl) (by kernel_rfl) (by kernel_rfl) (fun _ _ _ h => h) (Or.inl ⟨by rfl, ?_⟩) hHeld ?_
        rotate_left
        · (intro w hSw; (try dsimp only at hSw); go_simp; try with_reducible rfl)
        try simp only [Act.put, List.setIfInBounds_toArray, List.set_cons_zero, List.set_cons_succ, List.getElem_toArray, List.getElem_cons_succ, List.getElem_cons_zero]
        refine wpAnyH_take (i := 1) (v := ?_) rfl (by kernel_rfl) (by kernel_rfl) (by kernel_rfl) (fun _ _ _ h => h) (Or.inl ⟨by rfl, ?_⟩) hHeld ?_
        rotate_left
        · (intro w hSw; (try dsimp only at hSw); go_simp; try with_reducible rfl)
        try simp only [Act.put, List.setIfInBounds_toArray, List.set_cons_zero, List.set_cons_succ, List.getElem_toArray, List.getElem_cons_succ, List.getElem_cons_zero]
        refine wpAnyH_take (i := 2) (v := ?_) rfl (by kernel_rfl) (by kernel_rfl) (by kernel_rfl) (fun _ _ _ h => h) (Or.inl ⟨by rfl, ?_⟩) hHeld ?_
        rotate_left
        · (intro w hSw; (try dsimp only at hSw); go_simp; try with_reducible rfl)
        try simp only [Act.put, List.setIfInBounds_toArray, List.set_cons_zero, List.set_cons_succ, List.getElem_toArray, List.getElem_cons_succ, List.getElem_cons_zero]
        refine wpAnyH_take (i := 3) (v := ?_) rfl (by kernel_rfl) (by kernel_rfl) (by kernel_rfl) (fun _ _ _ h => h) (Or.inl ⟨by rfl, ?_⟩) hHeld ?_
        rotate_left
        · (intro w hSw; (try dsimp only at hSw); go_simp; try with_reducible rfl)
        try simp only [Act.put, List.setIfInBounds_toArray, List.set_cons_zero, List.set_cons_succ, List.getElem_toArray, List.getElem_cons_succ, List.getElem_cons_zero]
        refine wpAnyH_take (i := 4) (v := ?_) rfl (by kernel_rfl) (by kernel_rfl) (by kernel_rfl) (fun _ _ _ h => h) (Or.inl ⟨by rfl, ?_⟩) hHeld ?_
        rotate_left
        · (intro w hSw; (try dsimp only at hSw); go_simp; try with_reducible rfl)
        try simp only [Act.put, List.setIfInBounds_toArray, List.set_cons_zero, List.set_cons_succ, List.getElem_toArray, List.getElem_cons_succ, List.getElem_cons_zero]
        refine wpAnyH_take (i := 5) (v := ?_) rfl (by kernel_rfl) (by kernel_rfl) (by kernel_rfl) (fun _ _ _ h => h) (Or.inl ⟨by rfl, ?_⟩) hHeld ?_
        rotate_left
        · (intro w hSw; (try dsimp only at hSw); go_simp; try with_reducible rfl)
        try simp only [Act.put, List.setIfInBounds_toArray, List.set_cons_zero, List.set_cons_succ, List.getElem_toArray, List.getElem_cons_succ, List.getElem_cons_zero]
        refine wpAnyH_take (i := 6) (v := ?_) rfl (by kernel_rfl) (by kernel_rfl) (by kernel_rfl) (fun _ _ _ h => h) (Or.inl ⟨by rfl, ?_⟩) hHeld ?_
        rotate_left
        · (intro w hSw; (try dsimp only at hSw); go_simp; try with_reducible rfl)
        try simp only [Act.put, List.setIfInBounds_toArray, List.set_cons_zero, List.set_cons_succ, List.getElem_toArray, List.getElem_cons_succ, List.getElem_cons_zero]
        refine wpAnyH_take (i := 7) (v := ?_) rfl (by kernel_rfl) (by kernel_rfl) (by kernel_rfl) (fun _ _ _ h => h) (Or.inl ⟨by rfl, ?_⟩) hHeld ?_
        rotate_left
        · (intro w hSw; (try dsimp only at hSw); go_simp; try with_reducible rfl)
        try simp only [Act.put, List.setIfInBounds_toArray, List.set_cons_zero, List.set_cons_succ, List.getElem_toArray, List.getElem_cons_succ, List.getElem_cons_zero]
        refine wpAnyH_take (i := 8) (v := ?_) rfl (by kernel_rfl) (by kernel_rfl) (by kernel_rfl) (fun _ _ _ h => h) (Or.inl ⟨by rfl, ?_⟩) hHeld ?_
        rotate_left
        · (intro w hSw; (try dsimp only at hSw); go_simp; try with_reducible rfl)
        try simp only [Act.put, List.setIfInBounds_toArray, List.set_cons_zero, List.set_cons_succ, List.getElem_toArray, List.getElem_cons_succ, List.getElem_cons_zero]
        refine wpAnyH_ready (rs := [9]) (by kernel_rfl) (by decide) (AllReadyH.cons (o := _) rfl (fun K hK' => ?_) AllReadyH.nil)
        obtain ⟨x1, x2⟩ := Kn.rowCell (hKd.front 3 rfl) HI.out
        have KO2 := Kn.rowSt (hKd.front 3 rfl) k (.int .i64 v)
        go_simp
        clear x1 x2
        have HG := Lib.hid (HB.out _ _ (KO2.sel [1, 2, 3, 0] 99 (by decide) (by decide)))
        refine hK'.out _ _ HG.out (fun hHeld2 => ?_)
        clear hK' hHeld
        have hHeld := hHeld2
        clear hHeld2
        try simp only [Act.put, List.setIfInBounds_toArray]
        refine wpAnyH_done (by kernel_rfl) ?_ _
        go_wp2_with fail
        go_roundw
        case rel => exact ⟨k + 1, _, _, by omega, by go_num, by rw [HSET.out]; exact (KO2.sel [1, 2, 3, 0, 4] 99 (by decide) (by decide))⟩
        case measure => simp [intOf] <;> omega
      · obtain ⟨wz, hwz⟩ : ∃ wz, wz = wr := ⟨_, rfl⟩
        subst hwz
        have hj : (k - 1) / 2 = k / 2 := by omega
        rw [hj] at KR
        have KM := KR
        clear KR hj
        by_cases hk0 : k = 0
        · have c1 : ¬ (0 : Int) < (k : Int) := by omega
          have c3 : ¬ 0 < k := by omega
          clear hc hk0
          have hL1 : ((mixG (prF M n f) f n k).map (Value.int .i64))[k]? = some (.int .i64 (f k)) := by rw [List.getElem?_map, mixG_at _ _ _ hk1, if_neg (by omega)]; rfl
          have hL3 : (mixG (prF M n f) f n (k + 1)).map (Value.int .i64) = ((mixG (prF M n f) f n k).map (Value.int .i64)).set k (.int .i64 (itB M n (k / 2) f k)) := by
            rw [← mixG_set, List.map_set]
            rfl
          obtain ⟨v, hvv⟩ : ∃ v, itB M n (k / 2) f k = v := ⟨_, rfl⟩
          have hL4 : (((List.range n).map (itB M n (k / 2) f)).map (Value.int .i64))[k]? = some (.int .i64 v) := by rw [← hvv]; simp [hk1]
          rw [hvv] at hL3
          have HSET := Lib.hid hL3
          have HL4 := Lib.hid hL4
          obtain ⟨L0, hL0⟩ : ∃ L, (mixG (prF M n f) f n k).map (Value.int .i64) = L := ⟨_, rfl⟩
          rw [hL0] at hL1 HSET KM
          have HI := Lib.hid hL1
          have HB := Lib.hid (fun (L : List Value) W (h : Kn w [.blk g4 [.int .i64 (wd : Int), .slice (some ⟨gb, 0, none⟩) n bc] 45, rowNN (some ⟨gb, 0, none⟩) n bc ((List.range n).map (itB M n (k / 2) f)), .blk g3 [.int .i64 (wd : Int), .slice (some ⟨gr, 0, none⟩) n ec] 45, .row (.slice (some ⟨gr, 0, none⟩) n ec) 2 1 n L] W) => (And.intro (And.intro (box2 (h.front 2 rfl)).2 (box2 h).2) ((Kn.rowCell (h.front 1 rfl) HL4.out).1) : (W.cell? ⟨g3, 1, none⟩ = some (.slice (some ⟨gr, 0, none⟩) n ec) ∧ W.cell? ⟨g4, 1, none⟩ = some (.slice (some ⟨gb, 0, none⟩) n bc)) ∧ W.cell? ⟨gb, k, none⟩ = some (.int .i64 v)))
          clear hL0 hL1 hL3 hL4 hvv
          go_upto_region 8 with fail
          have hKd := KM.drew
          have HG := Lib.hid (HB.out _ _ (hKd.sel [0, 1, 2, 3] 99 (by decide) (by decide)))
          refine wp_region_held_drew (S := fun W => (W.cell? ⟨g3, 1, none⟩ = some (.slice (some ⟨gr, 0, none⟩) n ec) ∧ W.cell? ⟨g4, 1, none⟩ = some (.slice (some ⟨gb, 0, none⟩) n bc)) ∧ W.cell? ⟨gb, k, none⟩ = some (.int .i64 v)) (by kernel_rfl) ?_ (fun hHeld => ?_)
          · exact HG.out
          try dsimp only
          generalize wz.drew = wd' at hKd HG hHeld ⊢
          clear KM
          refine wpAnyH_take (i := 0) (v := ?_) rfl (by kernel_rfl) (by kernel_rfl) (by kernel_rfl) (fun _ _ _ h => h) (Or.inl ⟨by rfl, ?_⟩) hHeld ?_
          rotate_left
          · (intro w hSw; (try dsimp only at hSw); go_simp; try with_reducible rfl)
          try simp only [Act.put, List.setIfInBounds_toArray, List.set_cons_zero, List.set_cons_succ, List.getElem_toArray, List.getElem_cons_succ, List.getElem_cons_zero]
          refine wpAnyH_take (i := 1) (v := ?_) rfl (by kernel_rfl) (by kernel_rfl) (by kernel_rfl) (fun _ _ _ h => h) (Or.inl ⟨by rfl, ?_⟩) hHeld ?_
          rotate_left
          · (intro w hSw; (try dsimp only at hSw); go_simp; try with_reducible rfl)
          try simp only [Act.put, List.setIfInBounds_toArray, List.set_cons_zero, List.set_cons_succ, List.getElem_toArray, List.getElem_cons_succ, List.getElem_cons_zero]
          refine wpAnyH_take (i := 2) (v := ?_) rfl (by kernel_rfl) (by kernel_rfl) (by kernel_rfl) (fun _ _ _ h => h) (Or.inl ⟨by rfl, ?_⟩) hHeld ?_
          rotate_left
          · (intro w hSw; (try dsimp only at hSw); go_simp; try with_reducible rfl)
          try simp only [Act.put, List.setIfInBounds_toArray, List.set_cons_zero, List.set_cons_succ, List.getElem_toArray, List.getElem_cons_succ, List.getElem_cons_zero]
          refine wpAnyH_take (i := 3) (v := ?_) rfl (by kernel_rfl) (by kernel_rfl) (by kernel_rfl) (fun _ _ _ h => h) (Or.inl ⟨by rfl, ?_⟩) hHeld ?_
          rotate_left
          · (intro w hSw; (try dsimp only at hSw); go_simp; try with_reducible rfl)
          try simp only [Act.put, List.setIfInBounds_toArray, List.set_cons_zero, List.set_cons_succ, List.getElem_toArray, List.getElem_cons_succ, List.getElem_cons_zero]
          refine wpAnyH_take (i := 4) (v := ?_) rfl (by kernel_rfl) (by kernel_rfl) (by kernel_rfl) (fun _ _ _ h => h) (Or.inl ⟨by rfl, ?_⟩) hHeld ?_
          rotate_left
          · (intro w hSw; (try dsimp only at hSw); go_simp; try with_reducible rfl)
          try simp only [Act.put, List.setIfInBounds_toArray, List.set_cons_zero, List.set_cons_succ, List.getElem_toArray, List.getElem_cons_succ, List.getElem_cons_zero]
          refine wpAnyH_take (i := 5) (v := ?_) rfl (by kernel_rfl) (by kernel_rfl) (by kernel_rfl) (fun _ _ _ h => h) (Or.inl ⟨by rfl, ?_⟩) hHeld ?_
          rotate_left
          · (intro w hSw; (try dsimp only at hSw); go_simp; try with_reducible rfl)
          try simp only [Act.put, List.setIfInBounds_toArray, List.set_cons_zero, List.set_cons_succ, List.getElem_toArray, List.getElem_cons_succ, List.getElem_cons_zero]
          refine wpAnyH_take (i := 6) (v := ?_) rfl (by kernel_rfl) (by kernel_rfl) (by kernel_rfl) (fun _ _ _ h => h) (Or.inl ⟨by rfl, ?_⟩) hHeld ?_
          rotate_left
          · (intro w hSw; (try dsimp only at hSw); go_simp; try with_reducible rfl)
          try simp only [Act.put, List.setIfInBounds_toArray, List.set_cons_zero, List.set_cons_succ, List.getElem_toArray, List.getElem_cons_succ, List.getElem_cons_zero]
          refine wpAnyH_take (i := 7) (v := ?_) rfl (by kernel_rfl) (by kernel_rfl) (by kernel_rfl) (fun _ _ _ h => h) (Or.inl ⟨by rfl, ?_⟩) hHeld ?_
          rotate_left
          · (intro w hSw; (try dsimp only at hSw); go_simp; try with_reducible rfl)
          try simp only [Act.put, List.setIfInBounds_toArray, List.set_cons_zero, List.set_cons_succ, List.getElem_toArray, List.getElem_cons_succ, List.getElem_cons_zero]
          refine wpAnyH_take (i := 8) (v := ?_) rfl (by kernel_rfl) (by kernel_rfl) (by kernel_rfl) (fun _ _ _ h => h) (Or.inl ⟨by rfl, ?_⟩) hHeld ?_
          rotate_left
          · (intro w hSw; (try dsimp only at hSw); go_simp; try with_reducible rfl)
          try simp only [Act.put, List.setIfInBounds_toArray, List.set_cons_zero, List.set_cons_succ, List.getElem_toArray, List.getElem_cons_succ, List.getElem_cons_zero]
          refine wpAnyH_ready (rs := [9]) (by kernel_rfl) (by decide) (AllReadyH.cons (o := _) rfl (fun K hK' => ?_) AllReadyH.nil)
          obtain ⟨x1, x2⟩ := Kn.rowCell (hKd.front 3 rfl) HI.out
          have KO1 := Kn.rowSt (hKd.front 3 rfl) k (.int .i64 v)
          go_simp
          clear x1 x2
          have HG := Lib.hid (HB.out _ _ (KO1.sel [1, 2, 3, 0] 99 (by decide) (by decide)))
          refine hK'.out _ _ HG.out (fun hHeld2 => ?_)
          clear hK' hHeld
          have hHeld := hHeld2
          clear hHeld2
          try simp only [Act.put, List.setIfInBounds_toArray]
          refine wpAnyH_done (by kernel_rfl) ?_ _
          go_wp2_with fail
          go_roundw
          case rel => exact ⟨k + 1, _, _, by omega, by go_num, by rw [HSET.out]; exact (KO1.sel [1, 2, 3, 0, 4] 99 (by decide) (by decide))⟩
          case measure => simp [intOf] <;> omega
        · have c1 : (0 : Int) < (k : Int) := by omega
          have c3 : 0 < k := by omega
          have c2 : ¬ (k : Int).tmod 2 = 0 := by rw [Int.tmod_eq_emod_of_nonneg (by omega)]; omega
          have c4 : (k : Int).tmod 2 = 1 := by rw [Int.tmod_eq_emod_of_nonneg (by omega)]; omega
          clear hc
          have hL1 : ((mixG (prF M n f) f n k).map (Value.int .i64))[k]? = some (.int .i64 (f k)) := by rw [List.getElem?_map, mixG_at _ _ _ hk1, if_neg (by omega)]; rfl
          have hL3 : (mixG (prF M n f) f n (k + 1)).map (Value.int .i64) = ((mixG (prF M n f) f n k).map (Value.int .i64)).set k (.int .i64 (itB M n (k / 2) f k)) := by
            rw [← mixG_set, List.map_set]
            rfl
          obtain ⟨v, hvv⟩ : ∃ v, itB M n (k / 2) f k = v := ⟨_, rfl⟩
          have hL4 : (((List.range n).map (itB M n (k / 2) f)).map (Value.int .i64))[k]? = some (.int .i64 v) := by rw [← hvv]; simp [hk1]
          rw [hvv] at hL3
          have HSET := Lib.hid hL3
          have HL4 := Lib.hid hL4
          obtain ⟨L0, hL0⟩ : ∃ L, (mixG (prF M n f) f n k).map (Value.int .i64) = L := ⟨_, rfl⟩
          rw [hL0] at hL1 HSET KM
          have HI := Lib.hid hL1
          have HB := Lib.hid (fun (L : List Value) W (h : Kn w [.blk g4 [.int .i64 (wd : Int), .slice (some ⟨gb, 0, none⟩) n bc] 45, rowNN (some ⟨gb, 0, none⟩) n bc ((List.range n).map (itB M n (k / 2) f)), .blk g3 [.int .i64 (wd : Int), .slice (some ⟨gr, 0, none⟩) n ec] 45, .row (.slice (some ⟨gr, 0, none⟩) n ec) 2 1 n L] W) => (And.intro (And.intro (box2 (h.front 2 rfl)).2 (box2 h).2) ((Kn.rowCell (h.front 1 rfl) HL4.out).1) : (W.cell? ⟨g3, 1, none⟩ = some (.slice (some ⟨gr, 0, none⟩) n ec) ∧ W.cell? ⟨g4, 1, none⟩ = some (.slice (some ⟨gb, 0, none⟩) n bc)) ∧ W.cell? ⟨gb, k, none⟩ = some (.int .i64 v)))
          clear hL0 hL1 hL3 hL4 hvv
          go_upto_region 8 with fail
          have hKd := KM.drew
          have HG := Lib.hid (HB.out _ _ (hKd.sel [0, 1, 2, 3] 99 (by decide) (by decide)))
          refine wp_region_held_drew (S := fun W => (W.cell? ⟨g3, 1, none⟩ = some (.slice (some ⟨gr, 0, none⟩) n ec) ∧ W.cell? ⟨g4, 1, none⟩ = some (.slice (some ⟨gb, 0, none⟩) n bc)) ∧ W.cell? ⟨gb, k, none⟩ = some (.int .i64 v)) (by kernel_rfl) ?_ (fun hHeld => ?_)
          · exact HG.out
          try dsimp only
          generalize wz.drew = wd' at hKd HG hHeld ⊢
          clear KM
          refine wpAnyH_take (i := 0) (v := ?_) rfl (by kernel_rfl) (by kernel_rfl) (by kernel_rfl) (fun _ _ _ h => h) (Or.inl ⟨by rfl, ?_⟩) hHeld ?_
          rotate_left
          · (intro w hSw; (try dsimp only at hSw); go_simp; try with_reducible rfl)
          try simp only [Act.put, List.setIfInBounds_toArray, List.set_cons_zero, List.set_cons_succ, List.getElem_toArray, List.getElem_cons_succ, List.getElem_cons_zero]
          refine wpAnyH_take (i := 1) (v := ?_) rfl (by kernel_rfl) (by kernel_rfl) (by kernel_rfl) (fun _ _ _ h => h) (Or.inl ⟨by rfl, ?_⟩) hHeld ?_
          rotate_left
          · (intro w hSw; (try dsimp only at hSw); go_simp; try with_reducible rfl)
          try simp only [Act.put, List.setIfInBounds_toArray, List.set_cons_zero, List.set_cons_succ, List.getElem_toArray, List.getElem_cons_succ, List.getElem_cons_zero]
          refine wpAnyH_take (i := 2) (v := ?_) rfl (by kernel_rfl) (by kernel_rfl) (by kernel_rfl) (fun _ _ _ h => h) (Or.inl ⟨by rfl, ?_⟩) hHeld ?_
          rotate_left
          · (intro w hSw; (try dsimp only at hSw); go_simp; try with_reducible rfl)
          try simp only [Act.put, List.setIfInBounds_toArray, List.set_cons_zero, List.set_cons_succ, List.getElem_toArray, List.getElem_cons_succ, List.getElem_cons_zero]
          refine wpAnyH_take (i := 3) (v := ?_) rfl (by kernel_rfl) (by kernel_rfl) (by kernel_rfl) (fun _ _ _ h => h) (Or.inl ⟨by rfl, ?_⟩) hHeld ?_
          rotate_left
          · (intro w hSw; (try dsimp only at hSw); go_simp; try with_reducible rfl)
          try simp only [Act.put, List.setIfInBounds_toArray, List.set_cons_zero, List.set_cons_succ, List.getElem_toArray, List.getElem_cons_succ, List.getElem_cons_zero]
          refine wpAnyH_take (i := 4) (v := ?_) rfl (by kernel_rfl) (by kernel_rfl) (by kernel_rfl) (fun _ _ _ h => h) (Or.inl ⟨by rfl, ?_⟩) hHeld ?_
          rotate_left
          · (intro w hSw; (try dsimp only at hSw); go_simp; try with_reducible rfl)
          try simp only [Act.put, List.setIfInBounds_toArray, List.set_cons_zero, List.set_cons_succ, List.getElem_toArray, List.getElem_cons_succ, List.getElem_cons_zero]
          refine wpAnyH_take (i := 5) (v := ?_) rfl (by kernel_rfl) (by kernel_rfl) (by kernel_rfl) (fun _ _ _ h => h) (Or.inl ⟨by rfl, ?_⟩) hHeld ?_
          rotate_left
          · (intro w hSw; (try dsimp only at hSw); go_simp; try with_reducible rfl)
          try simp only [Act.put, List.setIfInBounds_toArray, List.set_cons_zero, List.set_cons_succ, List.getElem_toArray, List.getElem_cons_succ, List.getElem_cons_zero]
          refine wpAnyH_take (i := 6) (v := ?_) rfl (by kernel_rfl) (by kernel_rfl) (by kernel_rfl) (fun _ _ _ h => h) (Or.inl ⟨by rfl, ?_⟩) hHeld ?_
          rotate_left
          · (intro w hSw; (try dsimp only at hSw); go_simp; try with_reducible rfl)
          try simp only [Act.put, List.setIfInBounds_toArray, List.set_cons_zero, List.set_cons_succ, List.getElem_toArray, List.getElem_cons_succ, List.getElem_cons_zero]
          refine wpAnyH_take (i := 7) (v := ?_) rfl (by kernel_rfl) (by kernel_rfl) (by kernel_rfl) (fun _ _ _ h => h) (Or.inl ⟨by rfl, ?_⟩) hHeld ?_
          rotate_left
          · (intro w hSw; (try dsimp only at hSw); go_simp; try with_reducible rfl)
          try simp only [Act.put, List.setIfInBounds_toArray, List.set_cons_zero, List.set_cons_succ, List.getElem_toArray, List.getElem_cons_succ, List.getElem_cons_zero]
          refine wpAnyH_take (i := 8) (v := ?_) rfl (by kernel_rfl) (by kernel_rfl) (by kernel_rfl) (fun _ _ _ h => h) (Or.inl ⟨by rfl, ?_⟩) hHeld ?_
          rotate_left
          · (intro w hSw; (try dsimp only at hSw); go_simp; try with_reducible rfl)
          try simp only [Act.put, List.setIfInBounds_toArray, List.set_cons_zero, List.set_cons_succ, List.getElem_toArray, List.getElem_cons_succ, List.getElem_cons_zero]
          refine wpAnyH_ready (rs := [9]) (by kernel_rfl) (by decide) (AllReadyH.cons (o := _) rfl (fun K hK' => ?_) AllReadyH.nil)
          obtain ⟨x1, x2⟩ := Kn.rowCell (hKd.front 3 rfl) HI.out
          have KO1 := Kn.rowSt (hKd.front 3 rfl) k (.int .i64 v)
          go_simp
          clear x1 x2
          have HG := Lib.hid (HB.out _ _ (KO1.sel [1, 2, 3, 0] 99 (by decide) (by decide)))
          refine hK'.out _ _ HG.out (fun hHeld2 => ?_)
          clear hK' hHeld
          have hHeld := hHeld2
          clear hHeld2
          try simp only [Act.put, List.setIfInBounds_toArray]
          refine wpAnyH_done (by kernel_rfl) ?_ _
          go_wp2_with fail
          go_roundw
          case rel => exact ⟨k + 1, _, _, by omega, by go_num, by rw [HSET.out]; exact (KO1.sel [1, 2, 3, 0, 4] 99 (by decide) (by decide))⟩
          case measure => simp [intOf] <;> omega
    · have i1 : ¬ (k : Int) < (n : Int) := by omega
      obtain rfl : k = n := by omega
      have K5 := KR
      rw [HFU.out] at K5
      clear KR
      obtain ⟨-, -, -, -, -, -, z1, z2, z3, -⟩ := K5.cells
      go_wp2_with fail
      have K9 := ((K5.front 4 rfl).st 0 (.int .i64 (wd : Int))).st 1 (.slice (some ⟨gr, 0, none⟩) k ec)
      refine bodyPost.kn K9 ?_; clear K9; intro w9 K9
      obtain ⟨b1, b2, b3, -⟩ := K9.cells
      refine bodyPost_ret (v := .agg #[.int .i64 (wd : Int), .slice (some ⟨gr, 0, none⟩) k ec]) (by simp [results, Tryd.results62, go_sem, b1]) rfl ⟨_, _, rfl, ?_⟩
      exact K9.sel [4] 99 (by decide) (by decide)
set_option maxRecDepth 100000 in
set_option maxHeartbeats 1600000 in
theorem specPrepareHalves_ok (wd n : Nat) (A : Option Addr) (c : Nat) (cs : List Int) (w : World) (h1 : 1 ≤ wd) (h12 : wd ≤ 12) (n0 : 0 < n) (n9 : n ≤ 9) (hr : RI w A n cs) (hv : InM (pw 10 wd) n (fnL cs)) :
    Calls Tryd.prog 26 #[.agg #[.int .i64 (wd : Int), .slice A n c]] w (EngR2 wd n ((List.range n).map (prF (pw 10 wd) n (fnL cs))) w) := by
  obtain ⟨g, hg⟩ : ∃ g, w.heap.size = g := ⟨_, rfl⟩
  have KV := Lib.hid (fun W (K : Kn w [.blk g [.int .i64 (wd : Int), .slice A n c] 45] W) => l16Ok_ok g wd n A c cs W h1 h12 n0 n9 (EngP.of K (hr.below K.below)) hv)
  have KC := (fun W (K : Kn w [.blk g [.int .i64 (wd : Int), .slice A n c] 45] W) => l16Prepare_ok g wd n A c cs W h1 h12 n0 n9 (EngP.of K (hr.below K.below)) hv)
  unfold EngR rowNN at KC
  replace KC := Lib.hid KC
  obtain ⟨ds, hds⟩ : ∃ d, (List.range n).map (prF (pw 10 wd) n (fnL cs)) = d := ⟨_, rfl⟩
  rw [hds] at KC ⊢
  clear hr hv hds
  have K0 := ((Kn.nil w).al [.int .i64 (wd : Int), .slice A n c] 45).al [.int .i64 0, .slice none 0 0] 45
  simp only [World.size_alloc, hg] at K0
  go_enter Tryd.func26, Tryd.ntmps26
  go_upto_region 1 with fail
  try rw [hg]
  refine Code.wp.kn K0 ?_; clear K0 hg; intro w1 K1
  go_upto_region 3 with (go_at_call 57; refine (KV.out _ (K1.sel [1] 99 (by decide) (by decide))).mono ?_; rintro e w2 ⟨rfl, hw⟩; have K2 := K1.keep hw; clear hw K1)
  go_wp2_with (go_at_call 62; refine (KC.out _ (K2.sel [1] 99 (by decide) (by decide))).mono ?_; rintro e w3 ⟨gr, ec, rfl, hK⟩; have K3 := K2.join hK; clear hK K2; obtain ⟨a1, a2, a3, e1, e2, e3, -⟩ := K3.cells)
  have K9 := ((K3.front 1 rfl).st 0 (.int .i64 (wd : Int))).st 1 (.slice (some ⟨gr, 0, none⟩) n ec)
  refine bodyPost.kn K9 ?_; clear K9; intro w9 K9
  obtain ⟨b1, b2, b3, -⟩ := K9.cells
  refine bodyPost_ret (v := .tuple #[.agg #[.int .i64 (wd : Int), .slice (some ⟨gr, 0, none⟩) n ec], .int .i64 0]) (by simp [results, Tryd.results26, go_sem, b1]) rfl ⟨_, _, rfl, ?_⟩
  exact K9.sel [1] 99 (by decide) (by decide)
end Go.Proofs.YtgpmngcemnnpmaaDoor

namespace Go.Proofs.YtgpmngcemnnpmaaDoor
open Go.RowKit Go.Sort
def modL (M : Int) (ds : List Int) : List Int := ds.map (· % M)
theorem modL_take (M : Int) (ds : List Int) {k : Nat} (h : k < ds.length) : modL M (ds.take (k + 1)) = modL M (ds.take k) ++ [ds[k] % M] := by
  unfold modL
  rw [List.take_succ_eq_append_getElem h, List.map_append]; rfl
set_option maxRecDepth 100000 in
set_option maxHeartbeats 3200000 in
theorem l16New_ok (wd n : Nat) (A : Option Addr) (c : Nat) (ds : List Int) (w : World) (h1 : 1 ≤ wd) (h12 : wd ≤ 12) (n9 : n ≤ 9) (hr : RI w A n ds) (hb : ∀ d ∈ ds, -10000 ≤ d ∧ d ≤ 10000) :
    Calls Tryd.prog 82 #[.int .i64 (wd : Int), .slice A n c] w fun e w' => ∃ E ec, e = .returned (.agg #[.int .i64 (wd : Int), .slice E n ec]) ∧ Kn w [rowNN E n ec (modL (pw 10 wd) ds)] w' := by
  unfold rowNN
  have hln := hr.1
  have KM := Lib.hid (fun x W hx hx2 => l16Mod_ok wd x W h1 h12 hx hx2)
  have HR := Lib.hid (fun W (hW : Below w.heap.size w W) => hr.below hW)
  obtain ⟨M, hMM⟩ : ∃ M, pw 10 wd = M := ⟨_, rfl⟩
  simp only [hMM] at KM ⊢
  clear hr hMM
  obtain ⟨h, hh⟩ : ∃ g, w.heap.size = g := ⟨_, rfl⟩
  have K0 := (Kn.nil w).al [.int .i64 0, .slice none 0 0] 45
  simp only [hh] at K0
  go_enter Tryd.func82, Tryd.ntmps82
  go_upto_region 1 with fail
  try rw [hh]
  refine Code.wp.kn K0 ?_; clear K0 hh; intro w1 K1
  have K2 := K1.al [.int .i64 (wd : Int), .slice none 0 0] 45
  obtain ⟨g5, hg⟩ : ∃ g, w1.heap.size = g := ⟨_, rfl⟩
  rw [hg] at K2
  go_upto_region 2 with fail
  try rw [hg]
  refine Code.wp.kn K2 ?_; clear K1 K2 hg; intro w2 K2
  have K3 : Kn w [.row (.slice none 0 0) 2 1 (modL M (ds.take 0)).length ((modL M (ds.take 0)).map (Value.int .i64)), .blk g5 [.int .i64 (wd : Int), .slice none 0 0] 45, .blk h [.int .i64 0, .slice none 0 0] 45] w2 := K2.nilRow _ _
  clear K2
  go_wp2_with fail
  go_loopw [6] (fun kk wr => ∃ (k : Nat) (vv : Value), k ≤ n ∧ kk = .int .i64 (k : Int) ∧ Kn w [.row vv 2 1 (modL M (ds.take k)).length ((modL M (ds.take k)).map (Value.int .i64)), .blk g5 [.int .i64 (wd : Int), vv] 45, .blk h [.int .i64 0, .slice none 0 0] 45] wr) (fun kk _ => n - (intOf kk).toNat)
  case atStart => exact ⟨0, _, Nat.zero_le _, rfl, K3⟩
  case round =>
    clear K3
    obtain ⟨k, vv, hk, rfl, KR⟩ := hrel
    by_cases hk1 : k < n
    · have i1 : (k : Int) < (n : Int) := by omega
      have i0 : (0 : Int) ≤ (k : Int) := by omega
      have hkl : k < ds.length := by omega
      obtain ⟨ad, hA, -, hkl3, hcl⟩ := (HR.out _ KR.below).at_ hk1
      obtain ⟨x, hx⟩ : ∃ x, ds[k] = x := ⟨_, rfl⟩
      have hxb := hb x (by rw [← hx]; exact List.getElem_mem _)
      have HX := Lib.hid (show modL M (ds.take (k + 1)) = modL M (ds.take k) ++ [x % M] by rw [modL_take M ds hkl, hx])
      rw [hx] at hcl
      obtain ⟨ts, hts⟩ : ∃ t, modL M (ds.take k) = t := ⟨_, rfl⟩
      have HL := Lib.hid (show ts.length ≤ 10000000 by rw [← hts]; unfold modL; rw [List.length_map, List.length_take]; omega)
      rw [hts] at HX KR
      obtain ⟨z, hz⟩ : ∃ z, x % M = z := ⟨_, rfl⟩
      have KX := KM.out x
      rw [hz] at HX KX
      replace KX := Lib.hid (fun W => KX W (by omega) (by omega))
      have HB := Lib.hid (fun W (hW : Below w.heap.size w W) => (show W.cell? (ad.add k) = some (.int .i64 x) by
        obtain ⟨ad2, hA2, -, hk3, hc2⟩ := (HR.out W hW).at_ hk1
        rw [hA] at hA2
        injection hA2 with hA2
        subst hA2
        rw [hx] at hc2
        exact hc2))
      subst hA
      clear hx hts hz hxb hkl hkl3 hcl
      go_upto_region 5 with fail
      have hKd := KR.drew
      have HG := Lib.hid (HB.out _ hKd.below)
      refine wp_region_held_drew (S := fun W => W.cell? (ad.add k) = some (.int .i64 x)) (by kernel_rfl) ?_ (fun hHeld => ?_)
      · exact HG.out
      try dsimp only
      generalize wr.drew = wd' at hKd HG hHeld ⊢
      clear KR
      refine wpAnyH_take (i := 0) (v := ?_) rfl (by kernel_rfl) (by kernel_rfl) (by kernel_rfl) (fun _ _ _ h => h) (Or.inl ⟨by rfl, ?_⟩) hHeld ?_
      rotate_left
      · (intro w hSw; (try dsimp only at hSw); go_simp; try with_reducible rfl)
      try simp only [Act.put, List.setIfInBounds_toArray, List.set_cons_zero, List.set_cons_succ, List.getElem_toArray, List.getElem_cons_succ, List.getElem_cons_zero]
      refine wpAnyH_take (i := 2) (v := ?_) rfl (by kernel_rfl) (by kernel_rfl) (by kernel_rfl) (fun _ _ _ h => h) (Or.inl ⟨by rfl, ?_⟩) hHeld ?_
      rotate_left
      · (intro w hSw; (try dsimp only at hSw); go_simp; try with_reducible rfl)
      try simp only [Act.put, List.setIfInBounds_toArray, List.set_cons_zero, List.set_cons_succ, List.getElem_toArray, List.getElem_cons_succ, List.getElem_cons_zero]
      refine wpAnyH_take (i := 3) (v := ?_) rfl (by kernel_rfl) (by kernel_rfl) (by kernel_rfl) (fun _ _ _ h => h) (Or.inl ⟨by rfl, ?_⟩) hHeld ?_
      rotate_left
      · (intro w hSw; (try dsimp only at hSw); go_simp; try with_reducible rfl)
      try simp only [Act.put, List.setIfInBounds_toArray, List.set_cons_zero, List.set_cons_succ, List.getElem_toArray, List.getElem_cons_succ, List.getElem_cons_zero]
      refine wpAnyH_take (i := 4) (v := ?_) rfl (by kernel_rfl) (by kernel_rfl) (by kernel_rfl) (fun _ _ _ h => h) (Or.inl ⟨by rfl, ?_⟩) hHeld ?_
      rotate_left
      · (intro w hSw; (try dsimp only at hSw); go_simp; try with_reducible rfl)
      try simp only [Act.put, List.setIfInBounds_toArray, List.set_cons_zero, List.set_cons_succ, List.getElem_toArray, List.getElem_cons_succ, List.getElem_cons_zero]
      refine wpAnyH_take (i := 5) (v := ?_) rfl (by kernel_rfl) (by kernel_rfl) (by kernel_rfl) (fun _ _ _ h => h) (Or.inl ⟨by rfl, ?_⟩) hHeld ?_
      rotate_left
      · (intro w hSw; (try dsimp only at hSw); go_simp; try with_reducible rfl)
      try simp only [Act.put, List.setIfInBounds_toArray, List.set_cons_zero, List.set_cons_succ, List.getElem_toArray, List.getElem_cons_succ, List.getElem_cons_zero]
      refine wpAnyH_take (i := 6) (v := ?_) rfl (by kernel_rfl) (by kernel_rfl) (by kernel_rfl) (fun _ _ _ h => h) (Or.inl ⟨by rfl, ?_⟩) hHeld ?_
      rotate_left
      · (intro w hSw; (try dsimp only at hSw); go_simp; try with_reducible rfl)
      try simp only [Act.put, List.setIfInBounds_toArray, List.set_cons_zero, List.set_cons_succ, List.getElem_toArray, List.getElem_cons_succ, List.getElem_cons_zero]
      refine wpAnyH_ready (rs := [1, 7]) (by kernel_rfl) (by decide) (AllReadyH.cons (o := _) rfl (fun K hK' => ?_) (AllReadyH.cons (o := _) rfl (fun K hK' => ?_) AllReadyH.nil))
      · skip
        obtain ⟨o1, o2, o3, -⟩ := (hKd.front 1 rfl).cells
        go_simp
        clear o1 o2 o3
        have KO1 := hKd
        have HG := Lib.hid (HB.out _ KO1.below)
        refine hK'.out _ _ HG.out (fun hHeld2 => ?_)
        clear hK' hHeld
        have hHeld := hHeld2
        clear hHeld2
        try simp only [Act.put, List.setIfInBounds_toArray]
        refine wpAnyH_ready (rs := [7]) (by kernel_rfl) (by decide) (AllReadyH.cons (o := _) rfl (fun K hK' => ?_) AllReadyH.nil)
        go_simp
        go_at_call 108
        refine (KX.out _).mono ?_
        rintro e wq ⟨rfl, rfl⟩
        have KO2 := KO1
        have HG := Lib.hid (HB.out _ KO2.below)
        refine hK'.out _ _ HG.out (fun hHeld2 => ?_)
        clear hK' hHeld
        have hHeld := hHeld2
        clear hHeld2
        try simp only [Act.put, List.setIfInBounds_toArray]
        refine wpAnyH_ready (rs := [8]) (by kernel_rfl) (by decide) (AllReadyH.cons (o := _) rfl (fun K hK' => ?_) AllReadyH.nil)
        go_simp
        have KO3 := KO2.al [.int .i64 z] 2
        have HG := Lib.hid (HB.out _ KO3.below)
        refine hK'.out _ _ HG.out (fun hHeld2 => ?_)
        clear hK' hHeld
        have hHeld := hHeld2
        clear hHeld2
        try simp only [Act.put, List.setIfInBounds_toArray]
        generalize wd'.alloc (.cells #[.int .i64 z] 2) = wo3 at KO3 hHeld ⊢
        obtain ⟨gl3, hgl3⟩ : ∃ g, wd'.heap.size = g := ⟨_, rfl⟩
        rw [hgl3] at KO3 ⊢
        clear hgl3
        refine wpAnyH_ready (rs := [9]) (by kernel_rfl) (by decide) (AllReadyH.cons (o := _) rfl (fun K hK' => ?_) AllReadyH.nil)
        refine kn_stepI (by rfl) _ _ (by rfl) vv ts (by rfl) (by rfl) (KO3.sel [0, 1, 2, 3] 99 (by decide) (by decide)) HL.out ?_
        intro v' wo4 hK7
        rw [← HX.out] at hK7
        obtain ⟨A4, c4, rfl⟩ := row_form hK7.at0
        have KO4 := hK7
        clear hK7
        have HG := Lib.hid (HB.out _ KO4.below)
        refine hK'.out _ _ HG.out (fun hHeld2 => ?_)
        clear hK' hHeld
        have hHeld := hHeld2
        clear hHeld2
        try simp only [Act.put, List.setIfInBounds_toArray]
        refine wpAnyH_take (i := 10) (v := ?_) rfl (by kernel_rfl) (by kernel_rfl) (by kernel_rfl) (fun _ _ _ h => h) (Or.inl ⟨by rfl, ?_⟩) hHeld ?_
        rotate_left
        · (intro w hSw; (try dsimp only at hSw); go_simp; try with_reducible rfl)
        try simp only [Act.put, List.setIfInBounds_toArray, List.set_cons_zero, List.set_cons_succ, List.getElem_toArray, List.getElem_cons_succ, List.getElem_cons_zero]
        refine wpAnyH_ready (rs := [11]) (by kernel_rfl) (by decide) (AllReadyH.cons (o := _) rfl (fun K hK' => ?_) AllReadyH.nil)
        obtain ⟨s1, s2, s3, -⟩ := (KO4.front 1 rfl).cells
        have KO5 := ((KO4.front 1 rfl).st 1 (.slice A4 (modL M (ds.take (k + 1))).length c4))
        go_simp
        clear s1 s2 s3
        have HG := Lib.hid (HB.out _ KO5.below)
        refine hK'.out _ _ HG.out (fun hHeld2 => ?_)
        clear hK' hHeld
        have hHeld := hHeld2
        clear hHeld2
        try simp only [Act.put, List.setIfInBounds_toArray]
        refine wpAnyH_done (by kernel_rfl) ?_ _
        go_wp2_with fail
        go_roundw
        case rel => exact ⟨k + 1, _, by omega, by go_num, (KO5.sel [1, 0, 2] 99 (by decide) (by decide))⟩
        case measure => simp [intOf] <;> omega
      · skip
        go_simp
        go_at_call 108
        refine (KX.out _).mono ?_
        rintro e wq ⟨rfl, rfl⟩
        have KO6 := hKd
        have HG := Lib.hid (HB.out _ KO6.below)
        refine hK'.out _ _ HG.out (fun hHeld2 => ?_)
        clear hK' hHeld
        have hHeld := hHeld2
        clear hHeld2
        try simp only [Act.put, List.setIfInBounds_toArray]
        refine wpAnyH_ready (rs := [1, 8]) (by kernel_rfl) (by decide) (AllReadyH.cons (o := _) rfl (fun K hK' => ?_) (AllReadyH.cons (o := _) rfl (fun K hK' => ?_) AllReadyH.nil))
        · skip
          obtain ⟨o1, o2, o3, -⟩ := (KO6.front 1 rfl).cells
          go_simp
          clear o1 o2 o3
          have KO7 := KO6
          have HG := Lib.hid (HB.out _ KO7.below)
          refine hK'.out _ _ HG.out (fun hHeld2 => ?_)
          clear hK' hHeld
          have hHeld := hHeld2
          clear hHeld2
          try simp only [Act.put, List.setIfInBounds_toArray]
          refine wpAnyH_ready (rs := [8]) (by kernel_rfl) (by decide) (AllReadyH.cons (o := _) rfl (fun K hK' => ?_) AllReadyH.nil)
          go_simp
          have KO8 := KO7.al [.int .i64 z] 2
          have HG := Lib.hid (HB.out _ KO8.below)
          refine hK'.out _ _ HG.out (fun hHeld2 => ?_)
          clear hK' hHeld
          have hHeld := hHeld2
          clear hHeld2
          try simp only [Act.put, List.setIfInBounds_toArray]
          generalize wd'.alloc (.cells #[.int .i64 z] 2) = wo8 at KO8 hHeld ⊢
          obtain ⟨gl8, hgl8⟩ : ∃ g, wd'.heap.size = g := ⟨_, rfl⟩
          rw [hgl8] at KO8 ⊢
          clear hgl8
          refine wpAnyH_ready (rs := [9]) (by kernel_rfl) (by decide) (AllReadyH.cons (o := _) rfl (fun K hK' => ?_) AllReadyH.nil)
          refine kn_stepI (by rfl) _ _ (by rfl) vv ts (by rfl) (by rfl) (KO8.sel [0, 1, 2, 3] 99 (by decide) (by decide)) HL.out ?_
          intro v' wo9 hK7
          rw [← HX.out] at hK7
          obtain ⟨A9, c9, rfl⟩ := row_form hK7.at0
          have KO9 := hK7
          clear hK7
          have HG := Lib.hid (HB.out _ KO9.below)
          refine hK'.out _ _ HG.out (fun hHeld2 => ?_)
          clear hK' hHeld
          have hHeld := hHeld2
          clear hHeld2
          try simp only [Act.put, List.setIfInBounds_toArray]
          refine wpAnyH_take (i := 10) (v := ?_) rfl (by kernel_rfl) (by kernel_rfl) (by kernel_rfl) (fun _ _ _ h => h) (Or.inl ⟨by rfl, ?_⟩) hHeld ?_
          rotate_left
          · (intro w hSw; (try dsimp only at hSw); go_simp; try with_reducible rfl)
          try simp only [Act.put, List.setIfInBounds_toArray, List.set_cons_zero, List.set_cons_succ, List.getElem_toArray, List.getElem_cons_succ, List.getElem_cons_zero]
          refine wpAnyH_ready (rs := [11]) (by kernel_rfl) (by decide) (AllReadyH.cons (o := _) rfl (fun K hK' => ?_) AllReadyH.nil)
          obtain ⟨s1, s2, s3, -⟩ := (KO9.front 1 rfl).cells
          have KO10 := ((KO9.front 1 rfl).st 1 (.slice A9 (modL M (ds.take (k + 1))).length c9))
          go_simp
          clear s1 s2 s3
          have HG := Lib.hid (HB.out _ KO10.below)
          refine hK'.out _ _ HG.out (fun hHeld2 => ?_)
          clear hK' hHeld
          have hHeld := hHeld2
          clear hHeld2
          try simp only [Act.put, List.setIfInBounds_toArray]
          refine wpAnyH_done (by kernel_rfl) ?_ _
          go_wp2_with fail
          go_roundw
          case rel => exact ⟨k + 1, _, by omega, by go_num, (KO10.sel [1, 0, 2] 99 (by decide) (by decide))⟩
          case measure => simp [intOf] <;> omega
        · skip
          go_simp
          have KO11 := KO6.al [.int .i64 z] 2
          have HG := Lib.hid (HB.out _ KO11.below)
          refine hK'.out _ _ HG.out (fun hHeld2 => ?_)
          clear hK' hHeld
          have hHeld := hHeld2
          clear hHeld2
          try simp only [Act.put, List.setIfInBounds_toArray]
          generalize wd'.alloc (.cells #[.int .i64 z] 2) = wo11 at KO11 hHeld ⊢
          obtain ⟨gl11, hgl11⟩ : ∃ g, wd'.heap.size = g := ⟨_, rfl⟩
          rw [hgl11] at KO11 ⊢
          clear hgl11
          refine wpAnyH_ready (rs := [1]) (by kernel_rfl) (by decide) (AllReadyH.cons (o := _) rfl (fun K hK' => ?_) AllReadyH.nil)
          obtain ⟨o1, o2, o3, -⟩ := (KO11.front 2 rfl).cells
          go_simp
          clear o1 o2 o3
          have KO12 := KO11
          have HG := Lib.hid (HB.out _ KO12.below)
          refine hK'.out _ _ HG.out (fun hHeld2 => ?_)
          clear hK' hHeld
          have hHeld := hHeld2
          clear hHeld2
          try simp only [Act.put, List.setIfInBounds_toArray]
          refine wpAnyH_ready (rs := [9]) (by kernel_rfl) (by decide) (AllReadyH.cons (o := _) rfl (fun K hK' => ?_) AllReadyH.nil)
          refine kn_stepI (by rfl) _ _ (by rfl) vv ts (by rfl) (by rfl) (KO12.sel [0, 1, 2, 3] 99 (by decide) (by decide)) HL.out ?_
          intro v' wo13 hK7
          rw [← HX.out] at hK7
          obtain ⟨A13, c13, rfl⟩ := row_form hK7.at0
          have KO13 := hK7
          clear hK7
          have HG := Lib.hid (HB.out _ KO13.below)
          refine hK'.out _ _ HG.out (fun hHeld2 => ?_)
          clear hK' hHeld
          have hHeld := hHeld2
          clear hHeld2
          try simp only [Act.put, List.setIfInBounds_toArray]
          refine wpAnyH_take (i := 10) (v := ?_) rfl (by kernel_rfl) (by kernel_rfl) (by kernel_rfl) (fun _ _ _ h => h) (Or.inl ⟨by rfl, ?_⟩) hHeld ?_
          rotate_left
          · (intro w hSw; (try dsimp only at hSw); go_simp; try with_reducible rfl)
          try simp only [Act.put, List.setIfInBounds_toArray, List.set_cons_zero, List.set_cons_succ, List.getElem_toArray, List.getElem_cons_succ, List.getElem_cons_zero]
          refine wpAnyH_ready (rs := [11]) (by kernel_rfl) (by decide) (AllReadyH.cons (o := _) rfl (fun K hK' => ?_) AllReadyH.nil)
          obtain ⟨s1, s2, s3, -⟩ := (KO13.front 1 rfl).cells
          have KO14 := ((KO13.front 1 rfl).st 1 (.slice A13 (modL M (ds.take (k + 1))).length c13))
          go_simp
          clear s1 s2 s3
          have HG := Lib.hid (HB.out _ KO14.below)
          refine hK'.out _ _ HG.out (fun hHeld2 => ?_)
          clear hK' hHeld
          have hHeld := hHeld2
          clear hHeld2
          try simp only [Act.put, List.setIfInBounds_toArray]
          refine wpAnyH_done (by kernel_rfl) ?_ _
          go_wp2_with fail
          go_roundw
          case rel => exact ⟨k + 1, _, by omega, by go_num, (KO14.sel [1, 0, 2] 99 (by decide) (by decide))⟩
          case measure => simp [intOf] <;> omega
    · have i1 : ¬ (k : Int) < (n : Int) := by omega
      obtain rfl : k = n := by omega
      have hl : (modL M (ds.take k)).length = k := by unfold modL; rw [List.length_map, List.length_take]; omega
      have htk : ds.take k = ds := List.take_of_length_le (by omega)
      rw [hl, htk] at KR
      obtain ⟨E, ec, rfl⟩ := row_form KR.at0
      obtain ⟨o1, o2, o3, z1, z2, z3, -⟩ := KR.cells
      clear hl htk
      go_wp2_with fail
      have K9 := ((KR.front 2 rfl).st 0 (.int .i64 (wd : Int))).st 1 (.slice E k ec)
      refine bodyPost.kn K9 ?_; clear K9; intro w9 K9
      obtain ⟨b1, b2, b3, -⟩ := K9.cells
      refine bodyPost_ret (v := .agg #[.int .i64 (wd : Int), .slice E k ec]) (by simp [results, Tryd.results82, go_sem, b1]) rfl ⟨_, _, rfl, ?_⟩
      exact K9.sel [1] 99 (by decide) (by decide)
/-- drawn coefficients -/
def DCo (b M : Nat) (w : World) (e : Ending) (w' : World) : Prop := ∃ (A : Option Addr) (n c : Nat) (ds : List Int), e = .returned (.slice A n c) ∧ (1 ≤ n ∧ n ≤ 7) ∧ ds.length = n ∧ (∀ d ∈ ds, -20 ≤ d ∧ d ≤ 20) ∧ DR b M w [rowNN A n c ds] w'
set_option maxRecDepth 100000 in
set_option maxHeartbeats 3200000 in
theorem l15DrawCoefs_dr (b N : Nat) (w : World) (h : Src w b N) (hN : N ≤ 900000) :
    Calls Tryd.prog 83 #[.pointer (some ⟨b, 0, none⟩), .int .i64 7] w (DCo b (N + 20) w) := by
  have D0 := DR.nil h
  clear h
  go_enter Tryd.func83, Tryd.ntmps83
  have D1 := (D0.al [] 2).kn (fun v hv => hv.litRow (size := 1) (n := 0) rfl (by decide))
  obtain ⟨h, hh⟩ : ∃ g, w.heap.size = g := ⟨_, rfl⟩
  rw [hh] at D1
  go_upto_region 2 with fail
  try rw [hh]
  refine Code.wp.dr D1 ?_; clear D0 D1 hh; intro w1 D1
  go_wp2_with fail
  refine (pick_dr b _ 7 w1 D1.src (by omega)).mono ?_; rintro e w2 ⟨y, rfl, hy, h2⟩
  have D2 := D1.add h2
  obtain ⟨k0, hk0⟩ : ∃ q : Nat, 1 + y = (q : Int) := ⟨(1 + y).toNat, by omega⟩
  have hw0 : IntKind.i64.wrap (1 + y) = (k0 : Int) := by rw [hk0]; exact wrapI64 (by omega)
  have hk1 : 1 ≤ k0 ∧ k0 ≤ 7 := by omega
  have D3 : DR b (N + 2) w [.row (.slice (some ⟨h, 0, none⟩) 0 0) 2 1 ([] : List Int).length (([] : List Int).map (Value.int .i64))] w2 := D2
  clear D1 D2 h2 hy
  go_wp2_with fail
  go_loopw [5, 6] (fun oo kk wr => ∃ (k : Nat) (ts : List Int), kk = .int .i64 (k : Int) ∧ ts.length + k = k0 ∧ Hid (∀ d ∈ ts, -20 ≤ d ∧ d ≤ 20) ∧ DR b (N + 20 - 2 * k) w [.row oo 2 1 ts.length (ts.map (Value.int .i64))] wr) (fun _ kk _ => (intOf kk).toNat)
  case atStart => exact ⟨k0, [], by first | rfl | exact congrArg _ hk0, by simp, Lib.hid (fun d hd => nomatch hd), D3.mono (by omega)⟩
  case round =>
    clear D3 hk0 hw0
    obtain ⟨k, ts, rfl, htk, HT, D⟩ := hrel
    by_cases hk : 0 < k
    · have i1 : (0 : Int) < (k : Int) := by omega
      have HL := Lib.hid (show ts.length ≤ 10000000 by omega)
      go_wp2_with fail
      refine (pick_dr b _ 41 wr D.src (by omega)).mono ?_; rintro e w4 ⟨x, rfl, hx, h4⟩
      have D4 := D.add h4
      obtain ⟨z, hz⟩ : ∃ z, x - 20 = z := ⟨_, rfl⟩
      have hzb : -20 ≤ z ∧ z ≤ 20 := by omega
      have hwz : IntKind.i64.wrap (x - 20) = z := by rw [hz]; exact wrapI64 (by omega)
      have D5 : DR b (N + 20 - 2 * k + 2) w [.row u5 2 1 ts.length (ts.map (Value.int .i64))] w4 := D4
      clear hz hx h4 D D4
      obtain ⟨vd, hT, hS, hK⟩ := D5
      go_wp2_with (at_builtin; refine kn_pushI rfl _ _ rfl _ ts rfl rfl (hK.al [.int .i64 z] 2) HL.out ?_; intro v' w' K10)
      have D6 : DR b (N + 20 - 2 * (k - 1)) w [.row v' 2 1 (ts ++ [z]).length ((ts ++ [z]).map (Value.int .i64))] w' := DR.mono ⟨vd, hT, hS, K10⟩ (by omega)
      go_roundw
      case rel => exact ⟨k - 1, ts ++ [z], by go_num, by rw [List.length_append, List.length_singleton]; omega, (fun d hd => by
        rcases List.mem_append.1 hd with hd | hd
        · exact HT.out d hd
        · rw [List.mem_singleton.1 hd]; exact hzb), D6⟩
      case measure => simp [intOf] <;> omega
    · have i1 : ¬ (0 : Int) < (k : Int) := by omega
      obtain ⟨A, c, hv⟩ : ∃ A c, u5 = .slice A ts.length c := by
        obtain ⟨vd, hT, hS, hK⟩ := D
        exact row_form hK.at0
      subst hv
      have HTL := Lib.hid (show 1 ≤ ts.length ∧ ts.length ≤ 7 by omega)
      clear htk hk1
      go_wp2_with fail
      go_ret
      exact ⟨A, ts.length, c, ts, rfl, HTL.out, rfl, HT.out, D.mono (by omega)⟩
end Go.Proofs.YtgpmngcemnnpmaaDoor
