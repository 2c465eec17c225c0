/- Part 4: lemmas and contracts of the claim's functions. -/
import Derived.Test.YtgpmngcemnnpmaaDoorZC1
import Derived.Test.YtgpmngcemnnpmaaDoorZC2
import Derived.Test.YtgpmngcemnnpmaaDoorZC3
namespace Go.Proofs.YtgpmngcemnnpmaaDoor
open Go.RowKit Go.Sort Go.Maps
theorem kn_stepMI {ops : Array Oper} {o : Oper} {a : Act} {Q : Exit → Act → World → Prop} {w0 w : World} {m : List Ent} {K : Act → World → Prop} {E : Prop} (hg : o.guard = none) (mm x v : Operand) (ho : o.op = .insert 69 mm x v) {b n : Nat} {f : Int → Int} (hm : a.eval mm = .map (some b)) (hK : Kn w0 (entMI b n f :: m) w) (hn : n ≤ 1000000)
    {k : Int} (hx : a.eval x = .int .i64 k) (hk : (Lit.int .i64 k).wf = true) {y : Int} (hyw : (Lit.int .i64 y).wf = true) (hv : a.eval v = .int .i64 y)
    (h : ∀ w', Kn w0 (entMI b (n + 1) (fun j => if j = k then y else f j) :: m) w' → K (a.put o.dst undef) w') : if Region.wanted o (yielded ops a.tmps) = true then Oper.wp Tryd.prog o a w K Q else E := by
  have hw : Region.wanted o (yielded ops a.tmps) = true := by simp [Region.wanted, hg]
  rw [if_pos hw]
  obtain ⟨w', hrun, r1⟩ := hK.putMI hn hk y hyw
  unfold Oper.wp
  simp [execOp, ho, hm, hx, hv, hrun, Result.andThen]
  exact h w' r1
def oneF (k x : Int) : Int → Int := fun j => if j = k then x else 0
def twoF (k x : Int) : Int → Int := fun j => if j = k then x else if j = k - 1 then x else 0
/-- the trials of a machine with faults, in their order -/
def stdT (b : Int) (n : Nat) (fs : List Flt) (i : Nat) : Tri :=
  if i = 0 then mkT b n fs (fun _ => 0) (fun _ => 0)
  else if i ≤ n then mkT b n fs (oneF ((i : Int) - 1) (b - 1)) (oneF ((i : Int) - 1) 1)
  else mkT b n fs (twoF ((i : Int) - n) (b - 1)) (oneF ((i : Int) - n - 1) 1)
def stdTs (b : Int) (n : Nat) (fs : List Flt) (u : Nat) : List Tri := (List.range u).map (stdT b n fs)
theorem stdTs_succ (b : Int) (n : Nat) (fs : List Flt) (u : Nat) : stdTs b n fs (u + 1) = stdTs b n fs u ++ [stdT b n fs u] := by unfold stdTs; rw [List.range_succ, List.map_append]; rfl
theorem stdTs_len (b : Int) (n : Nat) (fs : List Flt) (u : Nat) : (stdTs b n fs u).length = u := by simp [stdTs]
theorem mkT_small (b : Int) (n : Nat) (fs : List Flt) (fa fb : Int → Int) (hn : n ≤ 9223372036854775807) : SmallTri (mkT b n fs fa fb) := by
  refine ⟨?_, ?_, ?_⟩
  · show (digF fa n).length ≤ _; rw [digF_len]; exact hn
  · show (digF fb n).length ≤ _; rw [digF_len]; exact hn
  · show (sumL b (digF fa n) (digF fb n) fs n).length ≤ _; rw [sumL_len]; exact hn
theorem stdTs_small (b : Int) (n : Nat) (fs : List Flt) (u : Nat) (hn : n ≤ 9223372036854775807) : ∀ t ∈ stdTs b n fs u, SmallTri t := fun t ht => by
  obtain ⟨i, -, rfl⟩ := List.mem_map.1 ht
  unfold stdT
  split
  · exact mkT_small _ _ _ _ _ hn
  · split <;> exact mkT_small _ _ _ _ _ hn
theorem stdT_one (b : Int) (n : Nat) (fs : List Flt) (k : Nat) (h : k < n) : stdT b n fs (k + 1) = mkT b n fs (oneF (k : Int) (b - 1)) (oneF (k : Int) 1) := by
  unfold stdT
  rw [if_neg (by omega), if_pos (by omega), show (((k + 1 : Nat) : Int) - 1) = (k : Int) by omega]
theorem stdT_two (b : Int) (n : Nat) (fs : List Flt) (j : Nat) (h : 1 ≤ j) : stdT b n fs (n + j) = mkT b n fs (twoF (j : Int) (b - 1)) (oneF ((j : Int) - 1) 1) := by
  unfold stdT
  rw [if_neg (by omega), if_neg (by omega), show (((n + j : Nat) : Int) - n) = (j : Int) by omega]
set_option maxRecDepth 100000 in
set_option maxHeartbeats 6400000 in
theorem StandardTrials_ok (b : Int) (n : Nat) (FA : Option Addr) (fm fc : Nat) (fs : List Flt) (w : World) (hb : 2 ≤ b) (hb2 : b ≤ 16) (h1 : 1 ≤ n) (hn : n ≤ 16)
    (hf : RL FltM 2 w FA fm fs) (hg : GoodF n fs) (has : Asc fs) (hm : fm ≤ 1000) (hv : vtrials (stdTs b n fs (2 * n)) = true) :
    Calls Tryd.prog 9 #[.int .i64 b, .int .i64 n, .slice FA fm fc] w
      fun e w' => ∃ vt L, e = .returned (.tuple #[vt, .int .i64 0]) ∧ L.map TE.t = stdTs b n fs (2 * n) ∧ Kn w [.row vt 43 7 L.length (cellsT L), bun (rowsT L)] w' := by
  have HF := Lib.hid (fun W (hW : Below w.heap.size w W) => hf.below steady_FltM hW)
  have HG := Lib.hid hg
  have HA := Lib.hid has
  have HV := Lib.hid hv
  clear hf hg has hv
  have hmf : ∀ (fn : Fn) (first cap : Array Value) (w : World), (Instr.makeFunc fn first cap).run Tryd.prog w = .ok (.func fn first cap) w := fun _ _ _ _ => rfl
  have hmm := @run_makeMap Tryd.prog
  have hbB : betB b 2 16 = true := betB_iff.2 (by omega)
  obtain ⟨g, hg8⟩ : ∃ g, w.heap.size = g := ⟨_, rfl⟩
  go_enter Tryd.func9, Tryd.ntmps9
  go_upto_region 1 with fail
  have K1 := (((Kn.nil w).al [.int .i64 b] 2).al [.int .i64 (n : Int)] 2).al [.slice FA fm fc] 25
  simp only [World.size_alloc] at K1
  rw [hg8] at K1
  try simp only [World.size_alloc]
  try rw [hg8]
  refine Code.wp.kn K1 ?_; clear K1 hg8; intro w1 K1
  obtain ⟨f1, f2, f3, e1, e2, e3, d1, d2, d3, -⟩ := K1.cells
  go_upto_region 4 with (first | (go_at_call 37; refine (isBase_any _ _).mono ?_; rintro e w2 ⟨rfl, rfl⟩) | (go_at_call 38; refine (ValidFaults_true n FA fm fc fs _ (HF.out _ K1.below) HG.out HA.out h1 hn (by omega)).mono ?_; rintro e w2 ⟨rfl, hw2⟩; have K2 := K1.keep hw2; clear hw2))
  have K3 := ((K2.al [] 43).litRow (size := 7) (n := 0) rfl (by decide)).al [.slice (some ⟨w2.heap.size, 0, none⟩) 0 0] 27
  simp only [World.size_alloc] at K3
  have hlt := K2.below.size
  obtain ⟨h, hh⟩ : ∃ h, w2.heap.size = h := ⟨_, rfl⟩
  rw [hh] at K3
  try rw [hh]
  refine Code.wp.kn K3 ?_; clear K1 K2 K3 hh hlt f1 f2 f3 e1 e2 e3 d1 d2 d3; intro w3 K3
  obtain ⟨gt, hgt⟩ : ∃ q, h + 1 = q := ⟨_, rfl⟩
  rw [hgt] at K3
  try rw [hgt]
  clear hgt
  have K4 : ∃ vt L, L.map TE.t = stdTs b n fs 0 ∧ Kn w [.row vt 43 7 L.length (cellsT L), bun (rowsT L), .blk gt [vt] 27, .blk g [.int .i64 b] 2, .blk (g + 1) [.int .i64 (n : Int)] 2, .blk (g + 1 + 1) [.slice FA fm fc] 25] w3 := ⟨.slice (some ⟨h, 0, none⟩) 0 0, [], rfl, (K3.bunNil).sel [2, 0, 1, 5, 4, 3] 99 (by decide) (by decide)⟩
  clear K3
  obtain ⟨vt, L, hL, K4⟩ := K4
  have KC := Lib.hid (fun m vt L ma mb fa fb W hK hL la lb ha hb' => stdAdd_ok b n FA fm fc fs vt L gt g (g + 1) (g + 1 + 1) ma mb fa fb W (m := m) hK hb hb2 h1 hn (HF.out w (Below.refl _ _)) HG.out hm hL la lb ha hb')
  have HL := Lib.hid hL
  have hl0 : L.length = 0 := by rw [← List.length_map (f := TE.t), hL]; rfl
  clear hL
  go_upto_region 6 with (go_at_call 39; refine (KC.out [] vt L (.map none) (.map none) (fun _ => 0) (fun _ => 0) _ K4 (by omega) (fun W _ k _ => lookNil _ _) (fun W _ k _ => lookNil _ _) (fun k => ⟨by omega, by omega⟩) (fun k => ⟨by omega, by omega⟩)).mono ?_; rintro e w4 ⟨rfl, vt', x, hx, K5⟩)
  have HX : Hid ((L ++ [x]).map TE.t = stdTs b n fs 1) := by
    simp only [Hid]
    rw [List.map_append, HL.out, stdTs_succ]
    show _ ++ [x.t] = _
    rw [hx]; rfl
  have hl1 : (L ++ [x]).length = L.length + 1 := by simp
  rw [← hl1] at K5
  generalize L ++ [x] = L1 at K5 HX hl1
  clear hl1 hl0 hx HL K4 L vt
  obtain ⟨-, -, -, -, -, -, e1, e2, e3, -⟩ := K5.cells
  go_wp2_with fail
  go_loopw [26] (fun ii wr => ∃ (k : Nat) (vt : Value) (L : List TE), k ≤ n ∧ ii = .int .i64 (k : Int) ∧ Hid (L.map TE.t = stdTs b n fs (k + 1)) ∧ Kn w [.row vt 43 7 L.length (cellsT L), bun (rowsT L), .blk gt [vt] 27, .blk g [.int .i64 b] 2, .blk (g + 1) [.int .i64 (n : Int)] 2, .blk (g + 1 + 1) [.slice FA fm fc] 25] wr) (fun ii _ => n - (intOf ii).toNat)
  case atStart => exact ⟨0, _, _, Nat.zero_le _, rfl, HX, K5⟩
  case round =>
    clear K5 HX e1 e2 e3
    obtain ⟨k, vt, L, hk, rfl, HX, KR⟩ := hrel
    obtain ⟨-, -, -, d1, d2, d3, e1, e2, e3, -⟩ := KR.cells
    by_cases hkn : k < n
    · have i1 : (k : Int) < (n : Int) := by omega
      have hl0 : L.length = k + 1 := by rw [← List.length_map (f := TE.t), HX.out, stdTs_len]
      have hll : L.length ≤ 1000 := by omega
      clear hl0
      have HLL := Lib.hid hll
      clear hll
      have hwb : IntKind.i64.wrap (b - 1) = b - 1 := wrapI64 (by omega)
      go_wp2_with (first | (refine kn_insMI rfl _ _ _ rfl (b := w5.heap.size) rfl K5.mkMI (by decide) (k := (k : Int)) rfl (WalkArith.wf_i64 (by omega)) (y := 1) (by decide) rfl ?_; intro w6 K6) | (refine kn_insMI rfl _ _ _ rfl (b := wr.heap.size) rfl KR.mkMI (by decide) (k := (k : Int)) rfl (WalkArith.wf_i64 (by omega)) (y := b - 1) (WalkArith.wf_i64 (by omega)) rfl ?_; intro w5 K5) | (go_at_call 39; refine (KC.out [entMI wr.heap.size 1 (oneF (k : Int) (b - 1)), entMI w5.heap.size 1 (oneF (k : Int) 1)] vt L _ _ (oneF (k : Int) (b - 1)) (oneF (k : Int) 1) _ (K6.sel [2, 3, 4, 5, 6, 7, 1, 0] 99 (by decide) (by decide)) HLL.out (fun W h j hj => h.lookMI (WalkArith.wf_i64 (by omega))) (fun W h j hj => (h.front 1 rfl).lookMI (WalkArith.wf_i64 (by omega))) (fun j => by unfold oneF; split <;> omega) (fun j => by unfold oneF; split <;> omega)).mono ?_; rintro e w7 ⟨rfl, vt', x, hx, K7⟩))
      go_roundw
      case rel => exact ⟨k + 1, vt', L ++ [x], by omega, by go_num, by simp only [Hid]; rw [List.map_append, HX.out, stdTs_succ b n fs (k + 1), stdT_one b n fs k hkn]; exact congrArg (fun y => _ ++ [y]) hx, by rw [List.length_append]; exact K7.sel [0, 1, 2, 3, 4, 5] 99 (by decide) (by decide)⟩
      case measure => simp [intOf] <;> omega
    · have i1 : ¬ (k : Int) < (n : Int) := by omega
      obtain rfl : n = k := by omega
      go_wp2_with fail
      go_loopw [11] (fun jj wx => ∃ (j : Nat) (vt : Value) (L : List TE), 1 ≤ j ∧ j ≤ n ∧ jj = .int .i64 (j : Int) ∧ Hid (L.map TE.t = stdTs b n fs (n + j)) ∧ Kn w [.row vt 43 7 L.length (cellsT L), bun (rowsT L), .blk gt [vt] 27, .blk g [.int .i64 b] 2, .blk (g + 1) [.int .i64 (n : Int)] 2, .blk (g + 1 + 1) [.slice FA fm fc] 25] wx) (fun jj _ => n - (intOf jj).toNat)
      case atStart => exact ⟨1, _, _, Nat.le_refl _, h1, rfl, HX, KR⟩
      case round =>
        clear KR HX d1 d2 d3 e1 e2 e3
        obtain ⟨j, vt, L, hj, hjn, rfl, HX, KR⟩ := hrel
        obtain ⟨-, -, -, d1, d2, d3, e1, e2, e3, -⟩ := KR.cells
        by_cases hlt : j < n
        · have i2 : (j : Int) < (n : Int) := by omega
          have i3 : IntKind.i64.wrap ((j : Int) - 1) = (j : Int) - 1 := wrapI64 (by omega)
          have hwb : IntKind.i64.wrap (b - 1) = b - 1 := wrapI64 (by omega)
          have hl0 : L.length = n + j := by rw [← List.length_map (f := TE.t), HX.out, stdTs_len]
          have hll : L.length ≤ 1000 := by omega
          have KC2 : ∀ (ga gc na nc : Nat) (fa fb : Int → Int) (W : World) (_ : Kn w [.row vt 43 7 L.length (cellsT L), bun (rowsT L), .blk gt [vt] 27, .blk g [.int .i64 b] 2, .blk (g + 1) [.int .i64 (n : Int)] 2, .blk (g + 1 + 1) [.slice FA fm fc] 25, entMI ga na fa, entMI gc nc fb] W) (_ : ∀ y, fa y = twoF (j : Int) (b - 1) y) (_ : ∀ y, fb y = oneF ((j : Int) - 1) 1 y),
              Calls Tryd.prog 39 #[.map (some ga), .map (some gc), .pointer (some ⟨g, 0, none⟩), .pointer (some ⟨g + 1, 0, none⟩), .pointer (some ⟨g + 1 + 1, 0, none⟩), .pointer (some ⟨gt, 0, none⟩)] W fun e w' => e = .returned (.tuple #[]) ∧ ∃ vt L, Hid (L.map TE.t = stdTs b n fs (n + (j + 1))) ∧ Kn w [.row vt 43 7 L.length (cellsT L), bun (rowsT L), .blk gt [vt] 27, .blk g [.int .i64 b] 2, .blk (g + 1) [.int .i64 (n : Int)] 2, .blk (g + 1 + 1) [.slice FA fm fc] 25] w' := fun ga gc na nc fa fb W hK e1 e2 => by
            obtain rfl : fa = twoF (j : Int) (b - 1) := funext e1
            obtain rfl : fb = oneF ((j : Int) - 1) 1 := funext e2
            refine (KC.out [entMI ga na _, entMI gc nc _] vt L (.map (some ga)) (.map (some gc)) _ _ W hK hll (fun W h y hy => h.lookMI (WalkArith.wf_i64 (by omega))) (fun W h y hy => (h.front 1 rfl).lookMI (WalkArith.wf_i64 (by omega))) (fun y => by unfold twoF; split <;> (try split) <;> omega) (fun y => by unfold oneF; split <;> omega)).mono ?_
            rintro e w7 ⟨rfl, vt', x, hx, K7⟩
            refine ⟨rfl, vt', L ++ [x], by simp only [Hid]; rw [List.map_append, HX.out, show n + (j + 1) = (n + j) + 1 by omega, stdTs_succ b n fs (n + j), stdT_two b n fs j hj]; exact congrArg (fun y => _ ++ [y]) hx, by rw [List.length_append]; exact K7.sel [0, 1, 2, 3, 4, 5] 99 (by decide) (by decide)⟩
          replace KC2 := Lib.hid KC2
          clear hl0 hll
          go_upto_region 14 with fail
          have HB1 := Lib.hid (fun W (h : Kn w [.blk g [.int .i64 b] 2] W) => (show W.cell? ⟨g, 0, none⟩ = some (.int .i64 b) from (h.cellIs 0 _ rfl)))
          have hKd := KR.drew
          have HG2 := Lib.hid (HB1.out _ (hKd.sel [3] 99 (by decide) (by decide)))
          clear d1 d2 d3 e1 e2 e3 HF HG HA HV
          refine wp_region_held_drew (S := fun W => W.cell? ⟨g, 0, none⟩ = some (.int .i64 b)) (by kernel_rfl) ?_ (fun hHeld => ?_)
          · exact HG2.out
          try dsimp only
          generalize wr.drew = wd at hKd HG2 hHeld ⊢
          clear KR
          refine wpAnyH_take (i := 0) (v := ?_) rfl (by kernel_rfl) (by kernel_rfl) (by kernel_rfl) (fun _ _ _ h => h) (Or.inl ⟨by rfl, ?_⟩) hHeld ?_
          rotate_left
          · (intro w hSw; (try dsimp only at hSw); go_simp; try with_reducible rfl)
          try simp only [Act.put, List.setIfInBounds_toArray, List.set_cons_zero, List.set_cons_succ, List.getElem_toArray, List.getElem_cons_succ, List.getElem_cons_zero]
          refine wpAnyH_take (i := 2) (v := ?_) rfl (by kernel_rfl) (by kernel_rfl) (by kernel_rfl) (fun _ _ _ h => h) (Or.inl ⟨by rfl, ?_⟩) hHeld ?_
          rotate_left
          · (intro w hSw; (try dsimp only at hSw); go_simp; try with_reducible rfl)
          try simp only [Act.put, List.setIfInBounds_toArray, List.set_cons_zero, List.set_cons_succ, List.getElem_toArray, List.getElem_cons_succ, List.getElem_cons_zero]
          refine wpAnyH_take (i := 3) (v := ?_) rfl (by kernel_rfl) (by kernel_rfl) (by kernel_rfl) (fun _ _ _ h => h) (Or.inl ⟨by rfl, ?_⟩) hHeld ?_
          rotate_left
          · (intro w hSw; (try dsimp only at hSw); go_simp; try with_reducible rfl)
          try simp only [Act.put, List.setIfInBounds_toArray, List.set_cons_zero, List.set_cons_succ, List.getElem_toArray, List.getElem_cons_succ, List.getElem_cons_zero]
          refine wpAnyH_take (i := 4) (v := ?_) rfl (by kernel_rfl) (by kernel_rfl) (by kernel_rfl) (fun _ _ _ h => h) (Or.inl ⟨by rfl, ?_⟩) hHeld ?_
          rotate_left
          · (intro w hSw; (try dsimp only at hSw); go_simp; try with_reducible rfl)
          try simp only [Act.put, List.setIfInBounds_toArray, List.set_cons_zero, List.set_cons_succ, List.getElem_toArray, List.getElem_cons_succ, List.getElem_cons_zero]
          refine wpAnyH_take (i := 5) (v := ?_) rfl (by kernel_rfl) (by kernel_rfl) (by kernel_rfl) (fun _ _ _ h => h) (Or.inl ⟨by rfl, ?_⟩) hHeld ?_
          rotate_left
          · (intro w hSw; (try dsimp only at hSw); go_simp; try with_reducible rfl)
          try simp only [Act.put, List.setIfInBounds_toArray, List.set_cons_zero, List.set_cons_succ, List.getElem_toArray, List.getElem_cons_succ, List.getElem_cons_zero]
          refine wpAnyH_take (i := 7) (v := ?_) rfl (by kernel_rfl) (by kernel_rfl) (by kernel_rfl) (fun _ _ _ h => h) (Or.inl ⟨by rfl, ?_⟩) hHeld ?_
          rotate_left
          · (intro w hSw; (try dsimp only at hSw); go_simp; try with_reducible rfl)
          try simp only [Act.put, List.setIfInBounds_toArray, List.set_cons_zero, List.set_cons_succ, List.getElem_toArray, List.getElem_cons_succ, List.getElem_cons_zero]
          refine wpAnyH_take (i := 8) (v := ?_) rfl (by kernel_rfl) (by kernel_rfl) (by kernel_rfl) (fun _ _ _ h => h) (Or.inl ⟨by rfl, ?_⟩) hHeld ?_
          rotate_left
          · (intro w hSw; (try dsimp only at hSw); go_simp; try with_reducible rfl)
          try simp only [Act.put, List.setIfInBounds_toArray, List.set_cons_zero, List.set_cons_succ, List.getElem_toArray, List.getElem_cons_succ, List.getElem_cons_zero]
          refine wpAnyH_take (i := 9) (v := ?_) rfl (by kernel_rfl) (by kernel_rfl) (by kernel_rfl) (fun _ _ _ h => h) (Or.inl ⟨by rfl, ?_⟩) hHeld ?_
          rotate_left
          · (intro w hSw; (try dsimp only at hSw); go_simp; try with_reducible rfl)
          try simp only [Act.put, List.setIfInBounds_toArray, List.set_cons_zero, List.set_cons_succ, List.getElem_toArray, List.getElem_cons_succ, List.getElem_cons_zero]
          refine wpAnyH_take (i := 13) (v := ?_) rfl (by kernel_rfl) (by kernel_rfl) (by kernel_rfl) (fun _ _ _ h => h) (Or.inl ⟨by rfl, ?_⟩) hHeld ?_
          rotate_left
          · (intro w hSw; (try dsimp only at hSw); go_simp; try with_reducible rfl)
          try simp only [Act.put, List.setIfInBounds_toArray, List.set_cons_zero, List.set_cons_succ, List.getElem_toArray, List.getElem_cons_succ, List.getElem_cons_zero]
          refine wpAnyH_take (i := 14) (v := ?_) rfl (by kernel_rfl) (by kernel_rfl) (by kernel_rfl) (fun _ _ _ h => h) (Or.inl ⟨by rfl, ?_⟩) hHeld ?_
          rotate_left
          · (intro w hSw; (try dsimp only at hSw); go_simp; try with_reducible rfl)
          try simp only [Act.put, List.setIfInBounds_toArray, List.set_cons_zero, List.set_cons_succ, List.getElem_toArray, List.getElem_cons_succ, List.getElem_cons_zero]
          refine wpAnyH_ready (rs := [1, 12]) (by kernel_rfl) (by decide) (AllReadyH.cons (o := _) rfl (fun K hK' => ?_) (AllReadyH.cons (o := _) rfl (fun K hK' => ?_) AllReadyH.nil))
          · skip
            go_simp
            have KO1 := hKd.mkMI
            have HG := Lib.hid (HB1.out _ (KO1.sel [4] 99 (by decide) (by decide)))
            refine hK'.out _ _ HG.out (fun hHeld2 => ?_)
            clear hK' hHeld
            have hHeld := hHeld2
            clear hHeld2
            try simp only [Act.put, List.setIfInBounds_toArray]
            generalize wd.alloc (.map #[] 0) = wo1 at KO1 hHeld ⊢
            obtain ⟨gma1, hgma1⟩ : ∃ g, wd.heap.size = g := ⟨_, rfl⟩
            rw [hgma1] at KO1 ⊢
            clear hgma1
            refine wpAnyH_ready (rs := [6, 10, 12]) (by kernel_rfl) (by decide) (AllReadyH.cons (o := _) rfl (fun K hK' => ?_) (AllReadyH.cons (o := _) rfl (fun K hK' => ?_) (AllReadyH.cons (o := _) rfl (fun K hK' => ?_) AllReadyH.nil)))
            · skip
              refine kn_stepMI (by rfl) _ _ _ (by rfl) (b := gma1) (by rfl) (KO1.front 0 rfl) (by decide) (k := (j : Int) - 1) (by rfl) (WalkArith.wf_i64 (by omega)) (y := b - 1) (WalkArith.wf_i64 (by omega)) (by rfl) ?_
              intro wo2 KO2
              have HG := Lib.hid (HB1.out _ (KO2.sel [4] 99 (by decide) (by decide)))
              refine hK'.out _ _ HG.out (fun hHeld2 => ?_)
              clear hK' hHeld
              have hHeld := hHeld2
              clear hHeld2
              try simp only [Act.put, List.setIfInBounds_toArray]
              refine wpAnyH_ready (rs := [10, 12]) (by kernel_rfl) (by decide) (AllReadyH.cons (o := _) rfl (fun K hK' => ?_) (AllReadyH.cons (o := _) rfl (fun K hK' => ?_) AllReadyH.nil))
              · skip
                refine kn_stepMI (by rfl) _ _ _ (by rfl) (b := gma1) (by rfl) (KO2.front 0 rfl) (by decide) (k := (j : Int)) (by rfl) (WalkArith.wf_i64 (by omega)) (y := b - 1) (WalkArith.wf_i64 (by omega)) (by rfl) ?_
                intro wo3 KO3
                have HG := Lib.hid (HB1.out _ (KO3.sel [4] 99 (by decide) (by decide)))
                refine hK'.out _ _ HG.out (fun hHeld2 => ?_)
                clear hK' hHeld
                have hHeld := hHeld2
                clear hHeld2
                try simp only [Act.put, List.setIfInBounds_toArray]
                refine wpAnyH_take (i := 11) (v := ?_) rfl (by kernel_rfl) (by kernel_rfl) (by kernel_rfl) (fun _ _ _ h => h) (Or.inl ⟨by rfl, ?_⟩) hHeld ?_
                rotate_left
                · (intro w hSw; (try dsimp only at hSw); go_simp; try with_reducible rfl)
                try simp only [Act.put, List.setIfInBounds_toArray, List.set_cons_zero, List.set_cons_succ, List.getElem_toArray, List.getElem_cons_succ, List.getElem_cons_zero]
                refine wpAnyH_ready (rs := [12]) (by kernel_rfl) (by decide) (AllReadyH.cons (o := _) rfl (fun K hK' => ?_) AllReadyH.nil)
                go_simp
                have KO4 := KO3.mkMI
                have HG := Lib.hid (HB1.out _ (KO4.sel [5] 99 (by decide) (by decide)))
                refine hK'.out _ _ HG.out (fun hHeld2 => ?_)
                clear hK' hHeld
                have hHeld := hHeld2
                clear hHeld2
                try simp only [Act.put, List.setIfInBounds_toArray]
                generalize wo3.alloc (.map #[] 0) = wo4 at KO4 hHeld ⊢
                obtain ⟨gmb4, hgmb4⟩ : ∃ g, wo3.heap.size = g := ⟨_, rfl⟩
                rw [hgmb4] at KO4 ⊢
                clear hgmb4
                refine wpAnyH_ready (rs := [15]) (by kernel_rfl) (by decide) (AllReadyH.cons (o := _) rfl (fun K hK' => ?_) AllReadyH.nil)
                refine kn_stepMI (by rfl) _ _ _ (by rfl) (b := gmb4) (by rfl) (KO4.front 0 rfl) (by decide) (k := (j : Int) - 1) (by rfl) (WalkArith.wf_i64 (by omega)) (y := 1) (by decide) (by rfl) ?_
                intro wo5 KO5
                have HG := Lib.hid (HB1.out _ (KO5.sel [5] 99 (by decide) (by decide)))
                refine hK'.out _ _ HG.out (fun hHeld2 => ?_)
                clear hK' hHeld
                have hHeld := hHeld2
                clear hHeld2
                try simp only [Act.put, List.setIfInBounds_toArray]
                refine wpAnyH_take (i := 16) (v := ?_) rfl (by kernel_rfl) (by kernel_rfl) (by kernel_rfl) (fun _ _ _ h => h) (Or.inl ⟨by rfl, ?_⟩) hHeld ?_
                rotate_left
                · (intro w hSw; (try dsimp only at hSw); go_simp; try with_reducible rfl)
                try simp only [Act.put, List.setIfInBounds_toArray, List.set_cons_zero, List.set_cons_succ, List.getElem_toArray, List.getElem_cons_succ, List.getElem_cons_zero]
                refine wpAnyH_ready (rs := [17]) (by kernel_rfl) (by decide) (AllReadyH.cons (o := _) rfl (fun K hK' => ?_) AllReadyH.nil)
                go_simp
                go_at_call 39
                refine (KC2.out gma1 gmb4 _ _ _ _ _ (KO5.sel [2, 3, 4, 5, 6, 7, 1, 0] 99 (by decide) (by decide)) (fun y => by unfold twoF; split <;> (try split) <;> (try split) <;> first | rfl | omega) (fun y => by unfold oneF; split <;> first | rfl | omega)).mono ?_
                rintro e wo6 ⟨rfl, vt6, L6, H6, hK⟩
                have KO6 := hK
                clear hK
                have HG := Lib.hid (HB1.out _ (KO6.sel [3] 99 (by decide) (by decide)))
                refine hK'.out _ _ HG.out (fun hHeld2 => ?_)
                clear hK' hHeld
                have hHeld := hHeld2
                clear hHeld2
                try simp only [Act.put, List.setIfInBounds_toArray]
                refine wpAnyH_done (by kernel_rfl) ?_ _
                go_wp2_with fail
                go_roundw
                case rel => exact ⟨j + 1, vt6, L6, by omega, by omega, by go_num, H6, (KO6.sel [0, 1, 2, 3, 4, 5] 99 (by decide) (by decide))⟩
                case measure => simp [intOf] <;> omega
              · skip
                go_simp
                have KO7 := KO2.mkMI
                have HG := Lib.hid (HB1.out _ (KO7.sel [5] 99 (by decide) (by decide)))
                refine hK'.out _ _ HG.out (fun hHeld2 => ?_)
                clear hK' hHeld
                have hHeld := hHeld2
                clear hHeld2
                try simp only [Act.put, List.setIfInBounds_toArray]
                generalize wo2.alloc (.map #[] 0) = wo7 at KO7 hHeld ⊢
                obtain ⟨gmb7, hgmb7⟩ : ∃ g, wo2.heap.size = g := ⟨_, rfl⟩
                rw [hgmb7] at KO7 ⊢
                clear hgmb7
                refine wpAnyH_ready (rs := [10, 15]) (by kernel_rfl) (by decide) (AllReadyH.cons (o := _) rfl (fun K hK' => ?_) (AllReadyH.cons (o := _) rfl (fun K hK' => ?_) AllReadyH.nil))
                · skip
                  refine kn_stepMI (by rfl) _ _ _ (by rfl) (b := gma1) (by rfl) (KO7.front 1 rfl) (by decide) (k := (j : Int)) (by rfl) (WalkArith.wf_i64 (by omega)) (y := b - 1) (WalkArith.wf_i64 (by omega)) (by rfl) ?_
                  intro wo8 KO8
                  have HG := Lib.hid (HB1.out _ (KO8.sel [5] 99 (by decide) (by decide)))
                  refine hK'.out _ _ HG.out (fun hHeld2 => ?_)
                  clear hK' hHeld
                  have hHeld := hHeld2
                  clear hHeld2
                  try simp only [Act.put, List.setIfInBounds_toArray]
                  refine wpAnyH_take (i := 11) (v := ?_) rfl (by kernel_rfl) (by kernel_rfl) (by kernel_rfl) (fun _ _ _ h => h) (Or.inl ⟨by rfl, ?_⟩) hHeld ?_
                  rotate_left
                  · (intro w hSw; (try dsimp only at hSw); go_simp; try with_reducible rfl)
                  try simp only [Act.put, List.setIfInBounds_toArray, List.set_cons_zero, List.set_cons_succ, List.getElem_toArray, List.getElem_cons_succ, List.getElem_cons_zero]
                  refine wpAnyH_ready (rs := [15]) (by kernel_rfl) (by decide) (AllReadyH.cons (o := _) rfl (fun K hK' => ?_) AllReadyH.nil)
                  refine kn_stepMI (by rfl) _ _ _ (by rfl) (b := gmb7) (by rfl) (KO8.front 1 rfl) (by decide) (k := (j : Int) - 1) (by rfl) (WalkArith.wf_i64 (by omega)) (y := 1) (by decide) (by rfl) ?_
                  intro wo9 KO9
                  have HG := Lib.hid (HB1.out _ (KO9.sel [5] 99 (by decide) (by decide)))
                  refine hK'.out _ _ HG.out (fun hHeld2 => ?_)
                  clear hK' hHeld
                  have hHeld := hHeld2
                  clear hHeld2
                  try simp only [Act.put, List.setIfInBounds_toArray]
                  refine wpAnyH_take (i := 16) (v := ?_) rfl (by kernel_rfl) (by kernel_rfl) (by kernel_rfl) (fun _ _ _ h => h) (Or.inl ⟨by rfl, ?_⟩) hHeld ?_
                  rotate_left
                  · (intro w hSw; (try dsimp only at hSw); go_simp; try with_reducible rfl)
                  try simp only [Act.put, List.setIfInBounds_toArray, List.set_cons_zero, List.set_cons_succ, List.getElem_toArray, List.getElem_cons_succ, List.getElem_cons_zero]
                  refine wpAnyH_ready (rs := [17]) (by kernel_rfl) (by decide) (AllReadyH.cons (o := _) rfl (fun K hK' => ?_) AllReadyH.nil)
                  go_simp
                  go_at_call 39
                  refine (KC2.out gma1 gmb7 _ _ _ _ _ (KO9.sel [2, 3, 4, 5, 6, 7, 1, 0] 99 (by decide) (by decide)) (fun y => by unfold twoF; split <;> (try split) <;> (try split) <;> first | rfl | omega) (fun y => by unfold oneF; split <;> first | rfl | omega)).mono ?_
                  rintro e wo10 ⟨rfl, vt10, L10, H10, hK⟩
                  have KO10 := hK
                  clear hK
                  have HG := Lib.hid (HB1.out _ (KO10.sel [3] 99 (by decide) (by decide)))
                  refine hK'.out _ _ HG.out (fun hHeld2 => ?_)
                  clear hK' hHeld
                  have hHeld := hHeld2
                  clear hHeld2
                  try simp only [Act.put, List.setIfInBounds_toArray]
                  refine wpAnyH_done (by kernel_rfl) ?_ _
                  go_wp2_with fail
                  go_roundw
                  case rel => exact ⟨j + 1, vt10, L10, by omega, by omega, by go_num, H10, (KO10.sel [0, 1, 2, 3, 4, 5] 99 (by decide) (by decide))⟩
                  case measure => simp [intOf] <;> omega
                · skip
                  refine kn_stepMI (by rfl) _ _ _ (by rfl) (b := gmb7) (by rfl) (KO7.front 0 rfl) (by decide) (k := (j : Int) - 1) (by rfl) (WalkArith.wf_i64 (by omega)) (y := 1) (by decide) (by rfl) ?_
                  intro wo11 KO11
                  have HG := Lib.hid (HB1.out _ (KO11.sel [5] 99 (by decide) (by decide)))
                  refine hK'.out _ _ HG.out (fun hHeld2 => ?_)
                  clear hK' hHeld
                  have hHeld := hHeld2
                  clear hHeld2
                  try simp only [Act.put, List.setIfInBounds_toArray]
                  refine wpAnyH_take (i := 16) (v := ?_) rfl (by kernel_rfl) (by kernel_rfl) (by kernel_rfl) (fun _ _ _ h => h) (Or.inl ⟨by rfl, ?_⟩) hHeld ?_
                  rotate_left
                  · (intro w hSw; (try dsimp only at hSw); go_simp; try with_reducible rfl)
                  try simp only [Act.put, List.setIfInBounds_toArray, List.set_cons_zero, List.set_cons_succ, List.getElem_toArray, List.getElem_cons_succ, List.getElem_cons_zero]
                  refine wpAnyH_ready (rs := [10]) (by kernel_rfl) (by decide) (AllReadyH.cons (o := _) rfl (fun K hK' => ?_) AllReadyH.nil)
                  refine kn_stepMI (by rfl) _ _ _ (by rfl) (b := gma1) (by rfl) (KO11.front 1 rfl) (by decide) (k := (j : Int)) (by rfl) (WalkArith.wf_i64 (by omega)) (y := b - 1) (WalkArith.wf_i64 (by omega)) (by rfl) ?_
                  intro wo12 KO12
                  have HG := Lib.hid (HB1.out _ (KO12.sel [5] 99 (by decide) (by decide)))
                  refine hK'.out _ _ HG.out (fun hHeld2 => ?_)
                  clear hK' hHeld
                  have hHeld := hHeld2
                  clear hHeld2
                  try simp only [Act.put, List.setIfInBounds_toArray]
                  refine wpAnyH_take (i := 11) (v := ?_) rfl (by kernel_rfl) (by kernel_rfl) (by kernel_rfl) (fun _ _ _ h => h) (Or.inl ⟨by rfl, ?_⟩) hHeld ?_
                  rotate_left
                  · (intro w hSw; (try dsimp only at hSw); go_simp; try with_reducible rfl)
                  try simp only [Act.put, List.setIfInBounds_toArray, List.set_cons_zero, List.set_cons_succ, List.getElem_toArray, List.getElem_cons_succ, List.getElem_cons_zero]
                  refine wpAnyH_ready (rs := [17]) (by kernel_rfl) (by decide) (AllReadyH.cons (o := _) rfl (fun K hK' => ?_) AllReadyH.nil)
                  go_simp
                  go_at_call 39
                  refine (KC2.out gma1 gmb7 _ _ _ _ _ (KO12.sel [2, 3, 4, 5, 6, 7, 0, 1] 99 (by decide) (by decide)) (fun y => by unfold twoF; split <;> (try split) <;> (try split) <;> first | rfl | omega) (fun y => by unfold oneF; split <;> first | rfl | omega)).mono ?_
                  rintro e wo13 ⟨rfl, vt13, L13, H13, hK⟩
                  have KO13 := hK
                  clear hK
                  have HG := Lib.hid (HB1.out _ (KO13.sel [3] 99 (by decide) (by decide)))
                  refine hK'.out _ _ HG.out (fun hHeld2 => ?_)
                  clear hK' hHeld
                  have hHeld := hHeld2
                  clear hHeld2
                  try simp only [Act.put, List.setIfInBounds_toArray]
                  refine wpAnyH_done (by kernel_rfl) ?_ _
                  go_wp2_with fail
                  go_roundw
                  case rel => exact ⟨j + 1, vt13, L13, by omega, by omega, by go_num, H13, (KO13.sel [0, 1, 2, 3, 4, 5] 99 (by decide) (by decide))⟩
                  case measure => simp [intOf] <;> omega
            · skip
              refine kn_stepMI (by rfl) _ _ _ (by rfl) (b := gma1) (by rfl) (KO1.front 0 rfl) (by decide) (k := (j : Int)) (by rfl) (WalkArith.wf_i64 (by omega)) (y := b - 1) (WalkArith.wf_i64 (by omega)) (by rfl) ?_
              intro wo14 KO14
              have HG := Lib.hid (HB1.out _ (KO14.sel [4] 99 (by decide) (by decide)))
              refine hK'.out _ _ HG.out (fun hHeld2 => ?_)
              clear hK' hHeld
              have hHeld := hHeld2
              clear hHeld2
              try simp only [Act.put, List.setIfInBounds_toArray]
              refine wpAnyH_ready (rs := [6, 12]) (by kernel_rfl) (by decide) (AllReadyH.cons (o := _) rfl (fun K hK' => ?_) (AllReadyH.cons (o := _) rfl (fun K hK' => ?_) AllReadyH.nil))
              · skip
                refine kn_stepMI (by rfl) _ _ _ (by rfl) (b := gma1) (by rfl) (KO14.front 0 rfl) (by decide) (k := (j : Int) - 1) (by rfl) (WalkArith.wf_i64 (by omega)) (y := b - 1) (WalkArith.wf_i64 (by omega)) (by rfl) ?_
                intro wo15 KO15
                have HG := Lib.hid (HB1.out _ (KO15.sel [4] 99 (by decide) (by decide)))
                refine hK'.out _ _ HG.out (fun hHeld2 => ?_)
                clear hK' hHeld
                have hHeld := hHeld2
                clear hHeld2
                try simp only [Act.put, List.setIfInBounds_toArray]
                refine wpAnyH_take (i := 11) (v := ?_) rfl (by kernel_rfl) (by kernel_rfl) (by kernel_rfl) (fun _ _ _ h => h) (Or.inl ⟨by rfl, ?_⟩) hHeld ?_
                rotate_left
                · (intro w hSw; (try dsimp only at hSw); go_simp; try with_reducible rfl)
                try simp only [Act.put, List.setIfInBounds_toArray, List.set_cons_zero, List.set_cons_succ, List.getElem_toArray, List.getElem_cons_succ, List.getElem_cons_zero]
                refine wpAnyH_ready (rs := [12]) (by kernel_rfl) (by decide) (AllReadyH.cons (o := _) rfl (fun K hK' => ?_) AllReadyH.nil)
                go_simp
                have KO16 := KO15.mkMI
                have HG := Lib.hid (HB1.out _ (KO16.sel [5] 99 (by decide) (by decide)))
                refine hK'.out _ _ HG.out (fun hHeld2 => ?_)
                clear hK' hHeld
                have hHeld := hHeld2
                clear hHeld2
                try simp only [Act.put, List.setIfInBounds_toArray]
                generalize wo15.alloc (.map #[] 0) = wo16 at KO16 hHeld ⊢
                obtain ⟨gmb16, hgmb16⟩ : ∃ g, wo15.heap.size = g := ⟨_, rfl⟩
                rw [hgmb16] at KO16 ⊢
                clear hgmb16
                refine wpAnyH_ready (rs := [15]) (by kernel_rfl) (by decide) (AllReadyH.cons (o := _) rfl (fun K hK' => ?_) AllReadyH.nil)
                refine kn_stepMI (by rfl) _ _ _ (by rfl) (b := gmb16) (by rfl) (KO16.front 0 rfl) (by decide) (k := (j : Int) - 1) (by rfl) (WalkArith.wf_i64 (by omega)) (y := 1) (by decide) (by rfl) ?_
                intro wo17 KO17
                have HG := Lib.hid (HB1.out _ (KO17.sel [5] 99 (by decide) (by decide)))
                refine hK'.out _ _ HG.out (fun hHeld2 => ?_)
                clear hK' hHeld
                have hHeld := hHeld2
                clear hHeld2
                try simp only [Act.put, List.setIfInBounds_toArray]
                refine wpAnyH_take (i := 16) (v := ?_) rfl (by kernel_rfl) (by kernel_rfl) (by kernel_rfl) (fun _ _ _ h => h) (Or.inl ⟨by rfl, ?_⟩) hHeld ?_
                rotate_left
                · (intro w hSw; (try dsimp only at hSw); go_simp; try with_reducible rfl)
                try simp only [Act.put, List.setIfInBounds_toArray, List.set_cons_zero, List.set_cons_succ, List.getElem_toArray, List.getElem_cons_succ, List.getElem_cons_zero]
                refine wpAnyH_ready (rs := [17]) (by kernel_rfl) (by decide) (AllReadyH.cons (o := _) rfl (fun K hK' => ?_) AllReadyH.nil)
                go_simp
                go_at_call 39
                refine (KC2.out gma1 gmb16 _ _ _ _ _ (KO17.sel [2, 3, 4, 5, 6, 7, 1, 0] 99 (by decide) (by decide)) (fun y => by unfold twoF; split <;> (try split) <;> (try split) <;> first | rfl | omega) (fun y => by unfold oneF; split <;> first | rfl | omega)).mono ?_
                rintro e wo18 ⟨rfl, vt18, L18, H18, hK⟩
                have KO18 := hK
                clear hK
                have HG := Lib.hid (HB1.out _ (KO18.sel [3] 99 (by decide) (by decide)))
                refine hK'.out _ _ HG.out (fun hHeld2 => ?_)
                clear hK' hHeld
                have hHeld := hHeld2
                clear hHeld2
                try simp only [Act.put, List.setIfInBounds_toArray]
                refine wpAnyH_done (by kernel_rfl) ?_ _
                go_wp2_with fail
                go_roundw
                case rel => exact ⟨j + 1, vt18, L18, by omega, by omega, by go_num, H18, (KO18.sel [0, 1, 2, 3, 4, 5] 99 (by decide) (by decide))⟩
                case measure => simp [intOf] <;> omega
              · skip
                go_simp
                have KO19 := KO14.mkMI
                have HG := Lib.hid (HB1.out _ (KO19.sel [5] 99 (by decide) (by decide)))
                refine hK'.out _ _ HG.out (fun hHeld2 => ?_)
                clear hK' hHeld
                have hHeld := hHeld2
                clear hHeld2
                try simp only [Act.put, List.setIfInBounds_toArray]
                generalize wo14.alloc (.map #[] 0) = wo19 at KO19 hHeld ⊢
                obtain ⟨gmb19, hgmb19⟩ : ∃ g, wo14.heap.size = g := ⟨_, rfl⟩
                rw [hgmb19] at KO19 ⊢
                clear hgmb19
                refine wpAnyH_ready (rs := [6, 15]) (by kernel_rfl) (by decide) (AllReadyH.cons (o := _) rfl (fun K hK' => ?_) (AllReadyH.cons (o := _) rfl (fun K hK' => ?_) AllReadyH.nil))
                · skip
                  refine kn_stepMI (by rfl) _ _ _ (by rfl) (b := gma1) (by rfl) (KO19.front 1 rfl) (by decide) (k := (j : Int) - 1) (by rfl) (WalkArith.wf_i64 (by omega)) (y := b - 1) (WalkArith.wf_i64 (by omega)) (by rfl) ?_
                  intro wo20 KO20
                  have HG := Lib.hid (HB1.out _ (KO20.sel [5] 99 (by decide) (by decide)))
                  refine hK'.out _ _ HG.out (fun hHeld2 => ?_)
                  clear hK' hHeld
                  have hHeld := hHeld2
                  clear hHeld2
                  try simp only [Act.put, List.setIfInBounds_toArray]
                  refine wpAnyH_take (i := 11) (v := ?_) rfl (by kernel_rfl) (by kernel_rfl) (by kernel_rfl) (fun _ _ _ h => h) (Or.inl ⟨by rfl, ?_⟩) hHeld ?_
                  rotate_left
                  · (intro w hSw; (try dsimp only at hSw); go_simp; try with_reducible rfl)
                  try simp only [Act.put, List.setIfInBounds_toArray, List.set_cons_zero, List.set_cons_succ, List.getElem_toArray, List.getElem_cons_succ, List.getElem_cons_zero]
                  refine wpAnyH_ready (rs := [15]) (by kernel_rfl) (by decide) (AllReadyH.cons (o := _) rfl (fun K hK' => ?_) AllReadyH.nil)
                  refine kn_stepMI (by rfl) _ _ _ (by rfl) (b := gmb19) (by rfl) (KO20.front 1 rfl) (by decide) (k := (j : Int) - 1) (by rfl) (WalkArith.wf_i64 (by omega)) (y := 1) (by decide) (by rfl) ?_
                  intro wo21 KO21
                  have HG := Lib.hid (HB1.out _ (KO21.sel [5] 99 (by decide) (by decide)))
                  refine hK'.out _ _ HG.out (fun hHeld2 => ?_)
                  clear hK' hHeld
                  have hHeld := hHeld2
                  clear hHeld2
                  try simp only [Act.put, List.setIfInBounds_toArray]
                  refine wpAnyH_take (i := 16) (v := ?_) rfl (by kernel_rfl) (by kernel_rfl) (by kernel_rfl) (fun _ _ _ h => h) (Or.inl ⟨by rfl, ?_⟩) hHeld ?_
                  rotate_left
                  · (intro w hSw; (try dsimp only at hSw); go_simp; try with_reducible rfl)
                  try simp only [Act.put, List.setIfInBounds_toArray, List.set_cons_zero, List.set_cons_succ, List.getElem_toArray, List.getElem_cons_succ, List.getElem_cons_zero]
                  refine wpAnyH_ready (rs := [17]) (by kernel_rfl) (by decide) (AllReadyH.cons (o := _) rfl (fun K hK' => ?_) AllReadyH.nil)
                  go_simp
                  go_at_call 39
                  refine (KC2.out gma1 gmb19 _ _ _ _ _ (KO21.sel [2, 3, 4, 5, 6, 7, 1, 0] 99 (by decide) (by decide)) (fun y => by unfold twoF; split <;> (try split) <;> (try split) <;> first | rfl | omega) (fun y => by unfold oneF; split <;> first | rfl | omega)).mono ?_
                  rintro e wo22 ⟨rfl, vt22, L22, H22, hK⟩
                  have KO22 := hK
                  clear hK
                  have HG := Lib.hid (HB1.out _ (KO22.sel [3] 99 (by decide) (by decide)))
                  refine hK'.out _ _ HG.out (fun hHeld2 => ?_)
                  clear hK' hHeld
                  have hHeld := hHeld2
                  clear hHeld2
                  try simp only [Act.put, List.setIfInBounds_toArray]
                  refine wpAnyH_done (by kernel_rfl) ?_ _
                  go_wp2_with fail
                  go_roundw
                  case rel => exact ⟨j + 1, vt22, L22, by omega, by omega, by go_num, H22, (KO22.sel [0, 1, 2, 3, 4, 5] 99 (by decide) (by decide))⟩
                  case measure => simp [intOf] <;> omega
                · skip
                  refine kn_stepMI (by rfl) _ _ _ (by rfl) (b := gmb19) (by rfl) (KO19.front 0 rfl) (by decide) (k := (j : Int) - 1) (by rfl) (WalkArith.wf_i64 (by omega)) (y := 1) (by decide) (by rfl) ?_
                  intro wo23 KO23
                  have HG := Lib.hid (HB1.out _ (KO23.sel [5] 99 (by decide) (by decide)))
                  refine hK'.out _ _ HG.out (fun hHeld2 => ?_)
                  clear hK' hHeld
                  have hHeld := hHeld2
                  clear hHeld2
                  try simp only [Act.put, List.setIfInBounds_toArray]
                  refine wpAnyH_take (i := 16) (v := ?_) rfl (by kernel_rfl) (by kernel_rfl) (by kernel_rfl) (fun _ _ _ h => h) (Or.inl ⟨by rfl, ?_⟩) hHeld ?_
                  rotate_left
                  · (intro w hSw; (try dsimp only at hSw); go_simp; try with_reducible rfl)
                  try simp only [Act.put, List.setIfInBounds_toArray, List.set_cons_zero, List.set_cons_succ, List.getElem_toArray, List.getElem_cons_succ, List.getElem_cons_zero]
                  refine wpAnyH_ready (rs := [6]) (by kernel_rfl) (by decide) (AllReadyH.cons (o := _) rfl (fun K hK' => ?_) AllReadyH.nil)
                  refine kn_stepMI (by rfl) _ _ _ (by rfl) (b := gma1) (by rfl) (KO23.front 1 rfl) (by decide) (k := (j : Int) - 1) (by rfl) (WalkArith.wf_i64 (by omega)) (y := b - 1) (WalkArith.wf_i64 (by omega)) (by rfl) ?_
                  intro wo24 KO24
                  have HG := Lib.hid (HB1.out _ (KO24.sel [5] 99 (by decide) (by decide)))
                  refine hK'.out _ _ HG.out (fun hHeld2 => ?_)
                  clear hK' hHeld
                  have hHeld := hHeld2
                  clear hHeld2
                  try simp only [Act.put, List.setIfInBounds_toArray]
                  refine wpAnyH_take (i := 11) (v := ?_) rfl (by kernel_rfl) (by kernel_rfl) (by kernel_rfl) (fun _ _ _ h => h) (Or.inl ⟨by rfl, ?_⟩) hHeld ?_
                  rotate_left
                  · (intro w hSw; (try dsimp only at hSw); go_simp; try with_reducible rfl)
                  try simp only [Act.put, List.setIfInBounds_toArray, List.set_cons_zero, List.set_cons_succ, List.getElem_toArray, List.getElem_cons_succ, List.getElem_cons_zero]
                  refine wpAnyH_ready (rs := [17]) (by kernel_rfl) (by decide) (AllReadyH.cons (o := _) rfl (fun K hK' => ?_) AllReadyH.nil)
                  go_simp
                  go_at_call 39
                  refine (KC2.out gma1 gmb19 _ _ _ _ _ (KO24.sel [2, 3, 4, 5, 6, 7, 0, 1] 99 (by decide) (by decide)) (fun y => by unfold twoF; split <;> (try split) <;> (try split) <;> first | rfl | omega) (fun y => by unfold oneF; split <;> first | rfl | omega)).mono ?_
                  rintro e wo25 ⟨rfl, vt25, L25, H25, hK⟩
                  have KO25 := hK
                  clear hK
                  have HG := Lib.hid (HB1.out _ (KO25.sel [3] 99 (by decide) (by decide)))
                  refine hK'.out _ _ HG.out (fun hHeld2 => ?_)
                  clear hK' hHeld
                  have hHeld := hHeld2
                  clear hHeld2
                  try simp only [Act.put, List.setIfInBounds_toArray]
                  refine wpAnyH_done (by kernel_rfl) ?_ _
                  go_wp2_with fail
                  go_roundw
                  case rel => exact ⟨j + 1, vt25, L25, by omega, by omega, by go_num, H25, (KO25.sel [0, 1, 2, 3, 4, 5] 99 (by decide) (by decide))⟩
                  case measure => simp [intOf] <;> omega
            · skip
              go_simp
              have KO26 := KO1.mkMI
              have HG := Lib.hid (HB1.out _ (KO26.sel [5] 99 (by decide) (by decide)))
              refine hK'.out _ _ HG.out (fun hHeld2 => ?_)
              clear hK' hHeld
              have hHeld := hHeld2
              clear hHeld2
              try simp only [Act.put, List.setIfInBounds_toArray]
              generalize wo1.alloc (.map #[] 0) = wo26 at KO26 hHeld ⊢
              obtain ⟨gmb26, hgmb26⟩ : ∃ g, wo1.heap.size = g := ⟨_, rfl⟩
              rw [hgmb26] at KO26 ⊢
              clear hgmb26
              refine wpAnyH_ready (rs := [6, 10, 15]) (by kernel_rfl) (by decide) (AllReadyH.cons (o := _) rfl (fun K hK' => ?_) (AllReadyH.cons (o := _) rfl (fun K hK' => ?_) (AllReadyH.cons (o := _) rfl (fun K hK' => ?_) AllReadyH.nil)))
              · skip
                refine kn_stepMI (by rfl) _ _ _ (by rfl) (b := gma1) (by rfl) (KO26.front 1 rfl) (by decide) (k := (j : Int) - 1) (by rfl) (WalkArith.wf_i64 (by omega)) (y := b - 1) (WalkArith.wf_i64 (by omega)) (by rfl) ?_
                intro wo27 KO27
                have HG := Lib.hid (HB1.out _ (KO27.sel [5] 99 (by decide) (by decide)))
                refine hK'.out _ _ HG.out (fun hHeld2 => ?_)
                clear hK' hHeld
                have hHeld := hHeld2
                clear hHeld2
                try simp only [Act.put, List.setIfInBounds_toArray]
                refine wpAnyH_ready (rs := [10, 15]) (by kernel_rfl) (by decide) (AllReadyH.cons (o := _) rfl (fun K hK' => ?_) (AllReadyH.cons (o := _) rfl (fun K hK' => ?_) AllReadyH.nil))
                · skip
                  refine kn_stepMI (by rfl) _ _ _ (by rfl) (b := gma1) (by rfl) (KO27.front 0 rfl) (by decide) (k := (j : Int)) (by rfl) (WalkArith.wf_i64 (by omega)) (y := b - 1) (WalkArith.wf_i64 (by omega)) (by rfl) ?_
                  intro wo28 KO28
                  have HG := Lib.hid (HB1.out _ (KO28.sel [5] 99 (by decide) (by decide)))
                  refine hK'.out _ _ HG.out (fun hHeld2 => ?_)
                  clear hK' hHeld
                  have hHeld := hHeld2
                  clear hHeld2
                  try simp only [Act.put, List.setIfInBounds_toArray]
                  refine wpAnyH_take (i := 11) (v := ?_) rfl (by kernel_rfl) (by kernel_rfl) (by kernel_rfl) (fun _ _ _ h => h) (Or.inl ⟨by rfl, ?_⟩) hHeld ?_
                  rotate_left
                  · (intro w hSw; (try dsimp only at hSw); go_simp; try with_reducible rfl)
                  try simp only [Act.put, List.setIfInBounds_toArray, List.set_cons_zero, List.set_cons_succ, List.getElem_toArray, List.getElem_cons_succ, List.getElem_cons_zero]
                  refine wpAnyH_ready (rs := [15]) (by kernel_rfl) (by decide) (AllReadyH.cons (o := _) rfl (fun K hK' => ?_) AllReadyH.nil)
                  refine kn_stepMI (by rfl) _ _ _ (by rfl) (b := gmb26) (by rfl) (KO28.front 1 rfl) (by decide) (k := (j : Int) - 1) (by rfl) (WalkArith.wf_i64 (by omega)) (y := 1) (by decide) (by rfl) ?_
                  intro wo29 KO29
                  have HG := Lib.hid (HB1.out _ (KO29.sel [5] 99 (by decide) (by decide)))
                  refine hK'.out _ _ HG.out (fun hHeld2 => ?_)
                  clear hK' hHeld
                  have hHeld := hHeld2
                  clear hHeld2
                  try simp only [Act.put, List.setIfInBounds_toArray]
                  refine wpAnyH_take (i := 16) (v := ?_) rfl (by kernel_rfl) (by kernel_rfl) (by kernel_rfl) (fun _ _ _ h => h) (Or.inl ⟨by rfl, ?_⟩) hHeld ?_
                  rotate_left
                  · (intro w hSw; (try dsimp only at hSw); go_simp; try with_reducible rfl)
                  try simp only [Act.put, List.setIfInBounds_toArray, List.set_cons_zero, List.set_cons_succ, List.getElem_toArray, List.getElem_cons_succ, List.getElem_cons_zero]
                  refine wpAnyH_ready (rs := [17]) (by kernel_rfl) (by decide) (AllReadyH.cons (o := _) rfl (fun K hK' => ?_) AllReadyH.nil)
                  go_simp
                  go_at_call 39
                  refine (KC2.out gma1 gmb26 _ _ _ _ _ (KO29.sel [2, 3, 4, 5, 6, 7, 1, 0] 99 (by decide) (by decide)) (fun y => by unfold twoF; split <;> (try split) <;> (try split) <;> first | rfl | omega) (fun y => by unfold oneF; split <;> first | rfl | omega)).mono ?_
                  rintro e wo30 ⟨rfl, vt30, L30, H30, hK⟩
                  have KO30 := hK
                  clear hK
                  have HG := Lib.hid (HB1.out _ (KO30.sel [3] 99 (by decide) (by decide)))
                  refine hK'.out _ _ HG.out (fun hHeld2 => ?_)
                  clear hK' hHeld
                  have hHeld := hHeld2
                  clear hHeld2
                  try simp only [Act.put, List.setIfInBounds_toArray]
                  refine wpAnyH_done (by kernel_rfl) ?_ _
                  go_wp2_with fail
                  go_roundw
                  case rel => exact ⟨j + 1, vt30, L30, by omega, by omega, by go_num, H30, (KO30.sel [0, 1, 2, 3, 4, 5] 99 (by decide) (by decide))⟩
                  case measure => simp [intOf] <;> omega
                · skip
                  refine kn_stepMI (by rfl) _ _ _ (by rfl) (b := gmb26) (by rfl) (KO27.front 1 rfl) (by decide) (k := (j : Int) - 1) (by rfl) (WalkArith.wf_i64 (by omega)) (y := 1) (by decide) (by rfl) ?_
                  intro wo31 KO31
                  have HG := Lib.hid (HB1.out _ (KO31.sel [5] 99 (by decide) (by decide)))
                  refine hK'.out _ _ HG.out (fun hHeld2 => ?_)
                  clear hK' hHeld
                  have hHeld := hHeld2
                  clear hHeld2
                  try simp only [Act.put, List.setIfInBounds_toArray]
                  refine wpAnyH_take (i := 16) (v := ?_) rfl (by kernel_rfl) (by kernel_rfl) (by kernel_rfl) (fun _ _ _ h => h) (Or.inl ⟨by rfl, ?_⟩) hHeld ?_
                  rotate_left
                  · (intro w hSw; (try dsimp only at hSw); go_simp; try with_reducible rfl)
                  try simp only [Act.put, List.setIfInBounds_toArray, List.set_cons_zero, List.set_cons_succ, List.getElem_toArray, List.getElem_cons_succ, List.getElem_cons_zero]
                  refine wpAnyH_ready (rs := [10]) (by kernel_rfl) (by decide) (AllReadyH.cons (o := _) rfl (fun K hK' => ?_) AllReadyH.nil)
                  refine kn_stepMI (by rfl) _ _ _ (by rfl) (b := gma1) (by rfl) (KO31.front 1 rfl) (by decide) (k := (j : Int)) (by rfl) (WalkArith.wf_i64 (by omega)) (y := b - 1) (WalkArith.wf_i64 (by omega)) (by rfl) ?_
                  intro wo32 KO32
                  have HG := Lib.hid (HB1.out _ (KO32.sel [5] 99 (by decide) (by decide)))
                  refine hK'.out _ _ HG.out (fun hHeld2 => ?_)
                  clear hK' hHeld
                  have hHeld := hHeld2
                  clear hHeld2
                  try simp only [Act.put, List.setIfInBounds_toArray]
                  refine wpAnyH_take (i := 11) (v := ?_) rfl (by kernel_rfl) (by kernel_rfl) (by kernel_rfl) (fun _ _ _ h => h) (Or.inl ⟨by rfl, ?_⟩) hHeld ?_
                  rotate_left
                  · (intro w hSw; (try dsimp only at hSw); go_simp; try with_reducible rfl)
                  try simp only [Act.put, List.setIfInBounds_toArray, List.set_cons_zero, List.set_cons_succ, List.getElem_toArray, List.getElem_cons_succ, List.getElem_cons_zero]
                  refine wpAnyH_ready (rs := [17]) (by kernel_rfl) (by decide) (AllReadyH.cons (o := _) rfl (fun K hK' => ?_) AllReadyH.nil)
                  go_simp
                  go_at_call 39
                  refine (KC2.out gma1 gmb26 _ _ _ _ _ (KO32.sel [2, 3, 4, 5, 6, 7, 0, 1] 99 (by decide) (by decide)) (fun y => by unfold twoF; split <;> (try split) <;> (try split) <;> first | rfl | omega) (fun y => by unfold oneF; split <;> first | rfl | omega)).mono ?_
                  rintro e wo33 ⟨rfl, vt33, L33, H33, hK⟩
                  have KO33 := hK
                  clear hK
                  have HG := Lib.hid (HB1.out _ (KO33.sel [3] 99 (by decide) (by decide)))
                  refine hK'.out _ _ HG.out (fun hHeld2 => ?_)
                  clear hK' hHeld
                  have hHeld := hHeld2
                  clear hHeld2
                  try simp only [Act.put, List.setIfInBounds_toArray]
                  refine wpAnyH_done (by kernel_rfl) ?_ _
                  go_wp2_with fail
                  go_roundw
                  case rel => exact ⟨j + 1, vt33, L33, by omega, by omega, by go_num, H33, (KO33.sel [0, 1, 2, 3, 4, 5] 99 (by decide) (by decide))⟩
                  case measure => simp [intOf] <;> omega
              · skip
                refine kn_stepMI (by rfl) _ _ _ (by rfl) (b := gma1) (by rfl) (KO26.front 1 rfl) (by decide) (k := (j : Int)) (by rfl) (WalkArith.wf_i64 (by omega)) (y := b - 1) (WalkArith.wf_i64 (by omega)) (by rfl) ?_
                intro wo34 KO34
                have HG := Lib.hid (HB1.out _ (KO34.sel [5] 99 (by decide) (by decide)))
                refine hK'.out _ _ HG.out (fun hHeld2 => ?_)
                clear hK' hHeld
                have hHeld := hHeld2
                clear hHeld2
                try simp only [Act.put, List.setIfInBounds_toArray]
                refine wpAnyH_ready (rs := [6, 15]) (by kernel_rfl) (by decide) (AllReadyH.cons (o := _) rfl (fun K hK' => ?_) (AllReadyH.cons (o := _) rfl (fun K hK' => ?_) AllReadyH.nil))
                · skip
                  refine kn_stepMI (by rfl) _ _ _ (by rfl) (b := gma1) (by rfl) (KO34.front 0 rfl) (by decide) (k := (j : Int) - 1) (by rfl) (WalkArith.wf_i64 (by omega)) (y := b - 1) (WalkArith.wf_i64 (by omega)) (by rfl) ?_
                  intro wo35 KO35
                  have HG := Lib.hid (HB1.out _ (KO35.sel [5] 99 (by decide) (by decide)))
                  refine hK'.out _ _ HG.out (fun hHeld2 => ?_)
                  clear hK' hHeld
                  have hHeld := hHeld2
                  clear hHeld2
                  try simp only [Act.put, List.setIfInBounds_toArray]
                  refine wpAnyH_take (i := 11) (v := ?_) rfl (by kernel_rfl) (by kernel_rfl) (by kernel_rfl) (fun _ _ _ h => h) (Or.inl ⟨by rfl, ?_⟩) hHeld ?_
                  rotate_left
                  · (intro w hSw; (try dsimp only at hSw); go_simp; try with_reducible rfl)
                  try simp only [Act.put, List.setIfInBounds_toArray, List.set_cons_zero, List.set_cons_succ, List.getElem_toArray, List.getElem_cons_succ, List.getElem_cons_zero]
                  refine wpAnyH_ready (rs := [15]) (by kernel_rfl) (by decide) (AllReadyH.cons (o := _) rfl (fun K hK' => ?_) AllReadyH.nil)
                  refine kn_stepMI (by rfl) _ _ _ (by rfl) (b := gmb26) (by rfl) (KO35.front 1 rfl) (by decide) (k := (j : Int) - 1) (by rfl) (WalkArith.wf_i64 (by omega)) (y := 1) (by decide) (by rfl) ?_
                  intro wo36 KO36
                  have HG := Lib.hid (HB1.out _ (KO36.sel [5] 99 (by decide) (by decide)))
                  refine hK'.out _ _ HG.out (fun hHeld2 => ?_)
                  clear hK' hHeld
                  have hHeld := hHeld2
                  clear hHeld2
                  try simp only [Act.put, List.setIfInBounds_toArray]
                  refine wpAnyH_take (i := 16) (v := ?_) rfl (by kernel_rfl) (by kernel_rfl) (by kernel_rfl) (fun _ _ _ h => h) (Or.inl ⟨by rfl, ?_⟩) hHeld ?_
                  rotate_left
                  · (intro w hSw; (try dsimp only at hSw); go_simp; try with_reducible rfl)
                  try simp only [Act.put, List.setIfInBounds_toArray, List.set_cons_zero, List.set_cons_succ, List.getElem_toArray, List.getElem_cons_succ, List.getElem_cons_zero]
                  refine wpAnyH_ready (rs := [17]) (by kernel_rfl) (by decide) (AllReadyH.cons (o := _) rfl (fun K hK' => ?_) AllReadyH.nil)
                  go_simp
                  go_at_call 39
                  refine (KC2.out gma1 gmb26 _ _ _ _ _ (KO36.sel [2, 3, 4, 5, 6, 7, 1, 0] 99 (by decide) (by decide)) (fun y => by unfold twoF; split <;> (try split) <;> (try split) <;> first | rfl | omega) (fun y => by unfold oneF; split <;> first | rfl | omega)).mono ?_
                  rintro e wo37 ⟨rfl, vt37, L37, H37, hK⟩
                  have KO37 := hK
                  clear hK
                  have HG := Lib.hid (HB1.out _ (KO37.sel [3] 99 (by decide) (by decide)))
                  refine hK'.out _ _ HG.out (fun hHeld2 => ?_)
                  clear hK' hHeld
                  have hHeld := hHeld2
                  clear hHeld2
                  try simp only [Act.put, List.setIfInBounds_toArray]
                  refine wpAnyH_done (by kernel_rfl) ?_ _
                  go_wp2_with fail
                  go_roundw
                  case rel => exact ⟨j + 1, vt37, L37, by omega, by omega, by go_num, H37, (KO37.sel [0, 1, 2, 3, 4, 5] 99 (by decide) (by decide))⟩
                  case measure => simp [intOf] <;> omega
                · skip
                  refine kn_stepMI (by rfl) _ _ _ (by rfl) (b := gmb26) (by rfl) (KO34.front 1 rfl) (by decide) (k := (j : Int) - 1) (by rfl) (WalkArith.wf_i64 (by omega)) (y := 1) (by decide) (by rfl) ?_
                  intro wo38 KO38
                  have HG := Lib.hid (HB1.out _ (KO38.sel [5] 99 (by decide) (by decide)))
                  refine hK'.out _ _ HG.out (fun hHeld2 => ?_)
                  clear hK' hHeld
                  have hHeld := hHeld2
                  clear hHeld2
                  try simp only [Act.put, List.setIfInBounds_toArray]
                  refine wpAnyH_take (i := 16) (v := ?_) rfl (by kernel_rfl) (by kernel_rfl) (by kernel_rfl) (fun _ _ _ h => h) (Or.inl ⟨by rfl, ?_⟩) hHeld ?_
                  rotate_left
                  · (intro w hSw; (try dsimp only at hSw); go_simp; try with_reducible rfl)
                  try simp only [Act.put, List.setIfInBounds_toArray, List.set_cons_zero, List.set_cons_succ, List.getElem_toArray, List.getElem_cons_succ, List.getElem_cons_zero]
                  refine wpAnyH_ready (rs := [6]) (by kernel_rfl) (by decide) (AllReadyH.cons (o := _) rfl (fun K hK' => ?_) AllReadyH.nil)
                  refine kn_stepMI (by rfl) _ _ _ (by rfl) (b := gma1) (by rfl) (KO38.front 1 rfl) (by decide) (k := (j : Int) - 1) (by rfl) (WalkArith.wf_i64 (by omega)) (y := b - 1) (WalkArith.wf_i64 (by omega)) (by rfl) ?_
                  intro wo39 KO39
                  have HG := Lib.hid (HB1.out _ (KO39.sel [5] 99 (by decide) (by decide)))
                  refine hK'.out _ _ HG.out (fun hHeld2 => ?_)
                  clear hK' hHeld
                  have hHeld := hHeld2
                  clear hHeld2
                  try simp only [Act.put, List.setIfInBounds_toArray]
                  refine wpAnyH_take (i := 11) (v := ?_) rfl (by kernel_rfl) (by kernel_rfl) (by kernel_rfl) (fun _ _ _ h => h) (Or.inl ⟨by rfl, ?_⟩) hHeld ?_
                  rotate_left
                  · (intro w hSw; (try dsimp only at hSw); go_simp; try with_reducible rfl)
                  try simp only [Act.put, List.setIfInBounds_toArray, List.set_cons_zero, List.set_cons_succ, List.getElem_toArray, List.getElem_cons_succ, List.getElem_cons_zero]
                  refine wpAnyH_ready (rs := [17]) (by kernel_rfl) (by decide) (AllReadyH.cons (o := _) rfl (fun K hK' => ?_) AllReadyH.nil)
                  go_simp
                  go_at_call 39
                  refine (KC2.out gma1 gmb26 _ _ _ _ _ (KO39.sel [2, 3, 4, 5, 6, 7, 0, 1] 99 (by decide) (by decide)) (fun y => by unfold twoF; split <;> (try split) <;> (try split) <;> first | rfl | omega) (fun y => by unfold oneF; split <;> first | rfl | omega)).mono ?_
                  rintro e wo40 ⟨rfl, vt40, L40, H40, hK⟩
                  have KO40 := hK
                  clear hK
                  have HG := Lib.hid (HB1.out _ (KO40.sel [3] 99 (by decide) (by decide)))
                  refine hK'.out _ _ HG.out (fun hHeld2 => ?_)
                  clear hK' hHeld
                  have hHeld := hHeld2
                  clear hHeld2
                  try simp only [Act.put, List.setIfInBounds_toArray]
                  refine wpAnyH_done (by kernel_rfl) ?_ _
                  go_wp2_with fail
                  go_roundw
                  case rel => exact ⟨j + 1, vt40, L40, by omega, by omega, by go_num, H40, (KO40.sel [0, 1, 2, 3, 4, 5] 99 (by decide) (by decide))⟩
                  case measure => simp [intOf] <;> omega
              · skip
                refine kn_stepMI (by rfl) _ _ _ (by rfl) (b := gmb26) (by rfl) (KO26.front 0 rfl) (by decide) (k := (j : Int) - 1) (by rfl) (WalkArith.wf_i64 (by omega)) (y := 1) (by decide) (by rfl) ?_
                intro wo41 KO41
                have HG := Lib.hid (HB1.out _ (KO41.sel [5] 99 (by decide) (by decide)))
                refine hK'.out _ _ HG.out (fun hHeld2 => ?_)
                clear hK' hHeld
                have hHeld := hHeld2
                clear hHeld2
                try simp only [Act.put, List.setIfInBounds_toArray]
                refine wpAnyH_take (i := 16) (v := ?_) rfl (by kernel_rfl) (by kernel_rfl) (by kernel_rfl) (fun _ _ _ h => h) (Or.inl ⟨by rfl, ?_⟩) hHeld ?_
                rotate_left
                · (intro w hSw; (try dsimp only at hSw); go_simp; try with_reducible rfl)
                try simp only [Act.put, List.setIfInBounds_toArray, List.set_cons_zero, List.set_cons_succ, List.getElem_toArray, List.getElem_cons_succ, List.getElem_cons_zero]
                refine wpAnyH_ready (rs := [6, 10]) (by kernel_rfl) (by decide) (AllReadyH.cons (o := _) rfl (fun K hK' => ?_) (AllReadyH.cons (o := _) rfl (fun K hK' => ?_) AllReadyH.nil))
                · skip
                  refine kn_stepMI (by rfl) _ _ _ (by rfl) (b := gma1) (by rfl) (KO41.front 1 rfl) (by decide) (k := (j : Int) - 1) (by rfl) (WalkArith.wf_i64 (by omega)) (y := b - 1) (WalkArith.wf_i64 (by omega)) (by rfl) ?_
                  intro wo42 KO42
                  have HG := Lib.hid (HB1.out _ (KO42.sel [5] 99 (by decide) (by decide)))
                  refine hK'.out _ _ HG.out (fun hHeld2 => ?_)
                  clear hK' hHeld
                  have hHeld := hHeld2
                  clear hHeld2
                  try simp only [Act.put, List.setIfInBounds_toArray]
                  refine wpAnyH_ready (rs := [10]) (by kernel_rfl) (by decide) (AllReadyH.cons (o := _) rfl (fun K hK' => ?_) AllReadyH.nil)
                  refine kn_stepMI (by rfl) _ _ _ (by rfl) (b := gma1) (by rfl) (KO42.front 0 rfl) (by decide) (k := (j : Int)) (by rfl) (WalkArith.wf_i64 (by omega)) (y := b - 1) (WalkArith.wf_i64 (by omega)) (by rfl) ?_
                  intro wo43 KO43
                  have HG := Lib.hid (HB1.out _ (KO43.sel [5] 99 (by decide) (by decide)))
                  refine hK'.out _ _ HG.out (fun hHeld2 => ?_)
                  clear hK' hHeld
                  have hHeld := hHeld2
                  clear hHeld2
                  try simp only [Act.put, List.setIfInBounds_toArray]
                  refine wpAnyH_take (i := 11) (v := ?_) rfl (by kernel_rfl) (by kernel_rfl) (by kernel_rfl) (fun _ _ _ h => h) (Or.inl ⟨by rfl, ?_⟩) hHeld ?_
                  rotate_left
                  · (intro w hSw; (try dsimp only at hSw); go_simp; try with_reducible rfl)
                  try simp only [Act.put, List.setIfInBounds_toArray, List.set_cons_zero, List.set_cons_succ, List.getElem_toArray, List.getElem_cons_succ, List.getElem_cons_zero]
                  refine wpAnyH_ready (rs := [17]) (by kernel_rfl) (by decide) (AllReadyH.cons (o := _) rfl (fun K hK' => ?_) AllReadyH.nil)
                  go_simp
                  go_at_call 39
                  refine (KC2.out gma1 gmb26 _ _ _ _ _ (KO43.sel [2, 3, 4, 5, 6, 7, 0, 1] 99 (by decide) (by decide)) (fun y => by unfold twoF; split <;> (try split) <;> (try split) <;> first | rfl | omega) (fun y => by unfold oneF; split <;> first | rfl | omega)).mono ?_
                  rintro e wo44 ⟨rfl, vt44, L44, H44, hK⟩
                  have KO44 := hK
                  clear hK
                  have HG := Lib.hid (HB1.out _ (KO44.sel [3] 99 (by decide) (by decide)))
                  refine hK'.out _ _ HG.out (fun hHeld2 => ?_)
                  clear hK' hHeld
                  have hHeld := hHeld2
                  clear hHeld2
                  try simp only [Act.put, List.setIfInBounds_toArray]
                  refine wpAnyH_done (by kernel_rfl) ?_ _
                  go_wp2_with fail
                  go_roundw
                  case rel => exact ⟨j + 1, vt44, L44, by omega, by omega, by go_num, H44, (KO44.sel [0, 1, 2, 3, 4, 5] 99 (by decide) (by decide))⟩
                  case measure => simp [intOf] <;> omega
                · skip
                  refine kn_stepMI (by rfl) _ _ _ (by rfl) (b := gma1) (by rfl) (KO41.front 1 rfl) (by decide) (k := (j : Int)) (by rfl) (WalkArith.wf_i64 (by omega)) (y := b - 1) (WalkArith.wf_i64 (by omega)) (by rfl) ?_
                  intro wo45 KO45
                  have HG := Lib.hid (HB1.out _ (KO45.sel [5] 99 (by decide) (by decide)))
                  refine hK'.out _ _ HG.out (fun hHeld2 => ?_)
                  clear hK' hHeld
                  have hHeld := hHeld2
                  clear hHeld2
                  try simp only [Act.put, List.setIfInBounds_toArray]
                  refine wpAnyH_ready (rs := [6]) (by kernel_rfl) (by decide) (AllReadyH.cons (o := _) rfl (fun K hK' => ?_) AllReadyH.nil)
                  refine kn_stepMI (by rfl) _ _ _ (by rfl) (b := gma1) (by rfl) (KO45.front 0 rfl) (by decide) (k := (j : Int) - 1) (by rfl) (WalkArith.wf_i64 (by omega)) (y := b - 1) (WalkArith.wf_i64 (by omega)) (by rfl) ?_
                  intro wo46 KO46
                  have HG := Lib.hid (HB1.out _ (KO46.sel [5] 99 (by decide) (by decide)))
                  refine hK'.out _ _ HG.out (fun hHeld2 => ?_)
                  clear hK' hHeld
                  have hHeld := hHeld2
                  clear hHeld2
                  try simp only [Act.put, List.setIfInBounds_toArray]
                  refine wpAnyH_take (i := 11) (v := ?_) rfl (by kernel_rfl) (by kernel_rfl) (by kernel_rfl) (fun _ _ _ h => h) (Or.inl ⟨by rfl, ?_⟩) hHeld ?_
                  rotate_left
                  · (intro w hSw; (try dsimp only at hSw); go_simp; try with_reducible rfl)
                  try simp only [Act.put, List.setIfInBounds_toArray, List.set_cons_zero, List.set_cons_succ, List.getElem_toArray, List.getElem_cons_succ, List.getElem_cons_zero]
                  refine wpAnyH_ready (rs := [17]) (by kernel_rfl) (by decide) (AllReadyH.cons (o := _) rfl (fun K hK' => ?_) AllReadyH.nil)
                  go_simp
                  go_at_call 39
                  refine (KC2.out gma1 gmb26 _ _ _ _ _ (KO46.sel [2, 3, 4, 5, 6, 7, 0, 1] 99 (by decide) (by decide)) (fun y => by unfold twoF; split <;> (try split) <;> (try split) <;> first | rfl | omega) (fun y => by unfold oneF; split <;> first | rfl | omega)).mono ?_
                  rintro e wo47 ⟨rfl, vt47, L47, H47, hK⟩
                  have KO47 := hK
                  clear hK
                  have HG := Lib.hid (HB1.out _ (KO47.sel [3] 99 (by decide) (by decide)))
                  refine hK'.out _ _ HG.out (fun hHeld2 => ?_)
                  clear hK' hHeld
                  have hHeld := hHeld2
                  clear hHeld2
                  try simp only [Act.put, List.setIfInBounds_toArray]
                  refine wpAnyH_done (by kernel_rfl) ?_ _
                  go_wp2_with fail
                  go_roundw
                  case rel => exact ⟨j + 1, vt47, L47, by omega, by omega, by go_num, H47, (KO47.sel [0, 1, 2, 3, 4, 5] 99 (by decide) (by decide))⟩
                  case measure => simp [intOf] <;> omega
          · skip
            go_simp
            have KO48 := hKd.mkMI
            have HG := Lib.hid (HB1.out _ (KO48.sel [4] 99 (by decide) (by decide)))
            refine hK'.out _ _ HG.out (fun hHeld2 => ?_)
            clear hK' hHeld
            have hHeld := hHeld2
            clear hHeld2
            try simp only [Act.put, List.setIfInBounds_toArray]
            generalize wd.alloc (.map #[] 0) = wo48 at KO48 hHeld ⊢
            obtain ⟨gmb48, hgmb48⟩ : ∃ g, wd.heap.size = g := ⟨_, rfl⟩
            rw [hgmb48] at KO48 ⊢
            clear hgmb48
            refine wpAnyH_ready (rs := [1, 15]) (by kernel_rfl) (by decide) (AllReadyH.cons (o := _) rfl (fun K hK' => ?_) (AllReadyH.cons (o := _) rfl (fun K hK' => ?_) AllReadyH.nil))
            · skip
              go_simp
              have KO49 := KO48.mkMI
              have HG := Lib.hid (HB1.out _ (KO49.sel [5] 99 (by decide) (by decide)))
              refine hK'.out _ _ HG.out (fun hHeld2 => ?_)
              clear hK' hHeld
              have hHeld := hHeld2
              clear hHeld2
              try simp only [Act.put, List.setIfInBounds_toArray]
              generalize wo48.alloc (.map #[] 0) = wo49 at KO49 hHeld ⊢
              obtain ⟨gma49, hgma49⟩ : ∃ g, wo48.heap.size = g := ⟨_, rfl⟩
              rw [hgma49] at KO49 ⊢
              clear hgma49
              refine wpAnyH_ready (rs := [6, 10, 15]) (by kernel_rfl) (by decide) (AllReadyH.cons (o := _) rfl (fun K hK' => ?_) (AllReadyH.cons (o := _) rfl (fun K hK' => ?_) (AllReadyH.cons (o := _) rfl (fun K hK' => ?_) AllReadyH.nil)))
              · skip
                refine kn_stepMI (by rfl) _ _ _ (by rfl) (b := gma49) (by rfl) (KO49.front 0 rfl) (by decide) (k := (j : Int) - 1) (by rfl) (WalkArith.wf_i64 (by omega)) (y := b - 1) (WalkArith.wf_i64 (by omega)) (by rfl) ?_
                intro wo50 KO50
                have HG := Lib.hid (HB1.out _ (KO50.sel [5] 99 (by decide) (by decide)))
                refine hK'.out _ _ HG.out (fun hHeld2 => ?_)
                clear hK' hHeld
                have hHeld := hHeld2
                clear hHeld2
                try simp only [Act.put, List.setIfInBounds_toArray]
                refine wpAnyH_ready (rs := [10, 15]) (by kernel_rfl) (by decide) (AllReadyH.cons (o := _) rfl (fun K hK' => ?_) (AllReadyH.cons (o := _) rfl (fun K hK' => ?_) AllReadyH.nil))
                · skip
                  refine kn_stepMI (by rfl) _ _ _ (by rfl) (b := gma49) (by rfl) (KO50.front 0 rfl) (by decide) (k := (j : Int)) (by rfl) (WalkArith.wf_i64 (by omega)) (y := b - 1) (WalkArith.wf_i64 (by omega)) (by rfl) ?_
                  intro wo51 KO51
                  have HG := Lib.hid (HB1.out _ (KO51.sel [5] 99 (by decide) (by decide)))
                  refine hK'.out _ _ HG.out (fun hHeld2 => ?_)
                  clear hK' hHeld
                  have hHeld := hHeld2
                  clear hHeld2
                  try simp only [Act.put, List.setIfInBounds_toArray]
                  refine wpAnyH_take (i := 11) (v := ?_) rfl (by kernel_rfl) (by kernel_rfl) (by kernel_rfl) (fun _ _ _ h => h) (Or.inl ⟨by rfl, ?_⟩) hHeld ?_
                  rotate_left
                  · (intro w hSw; (try dsimp only at hSw); go_simp; try with_reducible rfl)
                  try simp only [Act.put, List.setIfInBounds_toArray, List.set_cons_zero, List.set_cons_succ, List.getElem_toArray, List.getElem_cons_succ, List.getElem_cons_zero]
                  refine wpAnyH_ready (rs := [15]) (by kernel_rfl) (by decide) (AllReadyH.cons (o := _) rfl (fun K hK' => ?_) AllReadyH.nil)
                  refine kn_stepMI (by rfl) _ _ _ (by rfl) (b := gmb48) (by rfl) (KO51.front 1 rfl) (by decide) (k := (j : Int) - 1) (by rfl) (WalkArith.wf_i64 (by omega)) (y := 1) (by decide) (by rfl) ?_
                  intro wo52 KO52
                  have HG := Lib.hid (HB1.out _ (KO52.sel [5] 99 (by decide) (by decide)))
                  refine hK'.out _ _ HG.out (fun hHeld2 => ?_)
                  clear hK' hHeld
                  have hHeld := hHeld2
                  clear hHeld2
                  try simp only [Act.put, List.setIfInBounds_toArray]
                  refine wpAnyH_take (i := 16) (v := ?_) rfl (by kernel_rfl) (by kernel_rfl) (by kernel_rfl) (fun _ _ _ h => h) (Or.inl ⟨by rfl, ?_⟩) hHeld ?_
                  rotate_left
                  · (intro w hSw; (try dsimp only at hSw); go_simp; try with_reducible rfl)
                  try simp only [Act.put, List.setIfInBounds_toArray, List.set_cons_zero, List.set_cons_succ, List.getElem_toArray, List.getElem_cons_succ, List.getElem_cons_zero]
                  refine wpAnyH_ready (rs := [17]) (by kernel_rfl) (by decide) (AllReadyH.cons (o := _) rfl (fun K hK' => ?_) AllReadyH.nil)
                  go_simp
                  go_at_call 39
                  refine (KC2.out gma49 gmb48 _ _ _ _ _ (KO52.sel [2, 3, 4, 5, 6, 7, 1, 0] 99 (by decide) (by decide)) (fun y => by unfold twoF; split <;> (try split) <;> (try split) <;> first | rfl | omega) (fun y => by unfold oneF; split <;> first | rfl | omega)).mono ?_
                  rintro e wo53 ⟨rfl, vt53, L53, H53, hK⟩
                  have KO53 := hK
                  clear hK
                  have HG := Lib.hid (HB1.out _ (KO53.sel [3] 99 (by decide) (by decide)))
                  refine hK'.out _ _ HG.out (fun hHeld2 => ?_)
                  clear hK' hHeld
                  have hHeld := hHeld2
                  clear hHeld2
                  try simp only [Act.put, List.setIfInBounds_toArray]
                  refine wpAnyH_done (by kernel_rfl) ?_ _
                  go_wp2_with fail
                  go_roundw
                  case rel => exact ⟨j + 1, vt53, L53, by omega, by omega, by go_num, H53, (KO53.sel [0, 1, 2, 3, 4, 5] 99 (by decide) (by decide))⟩
                  case measure => simp [intOf] <;> omega
                · skip
                  refine kn_stepMI (by rfl) _ _ _ (by rfl) (b := gmb48) (by rfl) (KO50.front 1 rfl) (by decide) (k := (j : Int) - 1) (by rfl) (WalkArith.wf_i64 (by omega)) (y := 1) (by decide) (by rfl) ?_
                  intro wo54 KO54
                  have HG := Lib.hid (HB1.out _ (KO54.sel [5] 99 (by decide) (by decide)))
                  refine hK'.out _ _ HG.out (fun hHeld2 => ?_)
                  clear hK' hHeld
                  have hHeld := hHeld2
                  clear hHeld2
                  try simp only [Act.put, List.setIfInBounds_toArray]
                  refine wpAnyH_take (i := 16) (v := ?_) rfl (by kernel_rfl) (by kernel_rfl) (by kernel_rfl) (fun _ _ _ h => h) (Or.inl ⟨by rfl, ?_⟩) hHeld ?_
                  rotate_left
                  · (intro w hSw; (try dsimp only at hSw); go_simp; try with_reducible rfl)
                  try simp only [Act.put, List.setIfInBounds_toArray, List.set_cons_zero, List.set_cons_succ, List.getElem_toArray, List.getElem_cons_succ, List.getElem_cons_zero]
                  refine wpAnyH_ready (rs := [10]) (by kernel_rfl) (by decide) (AllReadyH.cons (o := _) rfl (fun K hK' => ?_) AllReadyH.nil)
                  refine kn_stepMI (by rfl) _ _ _ (by rfl) (b := gma49) (by rfl) (KO54.front 1 rfl) (by decide) (k := (j : Int)) (by rfl) (WalkArith.wf_i64 (by omega)) (y := b - 1) (WalkArith.wf_i64 (by omega)) (by rfl) ?_
                  intro wo55 KO55
                  have HG := Lib.hid (HB1.out _ (KO55.sel [5] 99 (by decide) (by decide)))
                  refine hK'.out _ _ HG.out (fun hHeld2 => ?_)
                  clear hK' hHeld
                  have hHeld := hHeld2
                  clear hHeld2
                  try simp only [Act.put, List.setIfInBounds_toArray]
                  refine wpAnyH_take (i := 11) (v := ?_) rfl (by kernel_rfl) (by kernel_rfl) (by kernel_rfl) (fun _ _ _ h => h) (Or.inl ⟨by rfl, ?_⟩) hHeld ?_
                  rotate_left
                  · (intro w hSw; (try dsimp only at hSw); go_simp; try with_reducible rfl)
                  try simp only [Act.put, List.setIfInBounds_toArray, List.set_cons_zero, List.set_cons_succ, List.getElem_toArray, List.getElem_cons_succ, List.getElem_cons_zero]
                  refine wpAnyH_ready (rs := [17]) (by kernel_rfl) (by decide) (AllReadyH.cons (o := _) rfl (fun K hK' => ?_) AllReadyH.nil)
                  go_simp
                  go_at_call 39
                  refine (KC2.out gma49 gmb48 _ _ _ _ _ (KO55.sel [2, 3, 4, 5, 6, 7, 0, 1] 99 (by decide) (by decide)) (fun y => by unfold twoF; split <;> (try split) <;> (try split) <;> first | rfl | omega) (fun y => by unfold oneF; split <;> first | rfl | omega)).mono ?_
                  rintro e wo56 ⟨rfl, vt56, L56, H56, hK⟩
                  have KO56 := hK
                  clear hK
                  have HG := Lib.hid (HB1.out _ (KO56.sel [3] 99 (by decide) (by decide)))
                  refine hK'.out _ _ HG.out (fun hHeld2 => ?_)
                  clear hK' hHeld
                  have hHeld := hHeld2
                  clear hHeld2
                  try simp only [Act.put, List.setIfInBounds_toArray]
                  refine wpAnyH_done (by kernel_rfl) ?_ _
                  go_wp2_with fail
                  go_roundw
                  case rel => exact ⟨j + 1, vt56, L56, by omega, by omega, by go_num, H56, (KO56.sel [0, 1, 2, 3, 4, 5] 99 (by decide) (by decide))⟩
                  case measure => simp [intOf] <;> omega
              · skip
                refine kn_stepMI (by rfl) _ _ _ (by rfl) (b := gma49) (by rfl) (KO49.front 0 rfl) (by decide) (k := (j : Int)) (by rfl) (WalkArith.wf_i64 (by omega)) (y := b - 1) (WalkArith.wf_i64 (by omega)) (by rfl) ?_
                intro wo57 KO57
                have HG := Lib.hid (HB1.out _ (KO57.sel [5] 99 (by decide) (by decide)))
                refine hK'.out _ _ HG.out (fun hHeld2 => ?_)
                clear hK' hHeld
                have hHeld := hHeld2
                clear hHeld2
                try simp only [Act.put, List.setIfInBounds_toArray]
                refine wpAnyH_ready (rs := [6, 15]) (by kernel_rfl) (by decide) (AllReadyH.cons (o := _) rfl (fun K hK' => ?_) (AllReadyH.cons (o := _) rfl (fun K hK' => ?_) AllReadyH.nil))
                · skip
                  refine kn_stepMI (by rfl) _ _ _ (by rfl) (b := gma49) (by rfl) (KO57.front 0 rfl) (by decide) (k := (j : Int) - 1) (by rfl) (WalkArith.wf_i64 (by omega)) (y := b - 1) (WalkArith.wf_i64 (by omega)) (by rfl) ?_
                  intro wo58 KO58
                  have HG := Lib.hid (HB1.out _ (KO58.sel [5] 99 (by decide) (by decide)))
                  refine hK'.out _ _ HG.out (fun hHeld2 => ?_)
                  clear hK' hHeld
                  have hHeld := hHeld2
                  clear hHeld2
                  try simp only [Act.put, List.setIfInBounds_toArray]
                  refine wpAnyH_take (i := 11) (v := ?_) rfl (by kernel_rfl) (by kernel_rfl) (by kernel_rfl) (fun _ _ _ h => h) (Or.inl ⟨by rfl, ?_⟩) hHeld ?_
                  rotate_left
                  · (intro w hSw; (try dsimp only at hSw); go_simp; try with_reducible rfl)
                  try simp only [Act.put, List.setIfInBounds_toArray, List.set_cons_zero, List.set_cons_succ, List.getElem_toArray, List.getElem_cons_succ, List.getElem_cons_zero]
                  refine wpAnyH_ready (rs := [15]) (by kernel_rfl) (by decide) (AllReadyH.cons (o := _) rfl (fun K hK' => ?_) AllReadyH.nil)
                  refine kn_stepMI (by rfl) _ _ _ (by rfl) (b := gmb48) (by rfl) (KO58.front 1 rfl) (by decide) (k := (j : Int) - 1) (by rfl) (WalkArith.wf_i64 (by omega)) (y := 1) (by decide) (by rfl) ?_
                  intro wo59 KO59
                  have HG := Lib.hid (HB1.out _ (KO59.sel [5] 99 (by decide) (by decide)))
                  refine hK'.out _ _ HG.out (fun hHeld2 => ?_)
                  clear hK' hHeld
                  have hHeld := hHeld2
                  clear hHeld2
                  try simp only [Act.put, List.setIfInBounds_toArray]
                  refine wpAnyH_take (i := 16) (v := ?_) rfl (by kernel_rfl) (by kernel_rfl) (by kernel_rfl) (fun _ _ _ h => h) (Or.inl ⟨by rfl, ?_⟩) hHeld ?_
                  rotate_left
                  · (intro w hSw; (try dsimp only at hSw); go_simp; try with_reducible rfl)
                  try simp only [Act.put, List.setIfInBounds_toArray, List.set_cons_zero, List.set_cons_succ, List.getElem_toArray, List.getElem_cons_succ, List.getElem_cons_zero]
                  refine wpAnyH_ready (rs := [17]) (by kernel_rfl) (by decide) (AllReadyH.cons (o := _) rfl (fun K hK' => ?_) AllReadyH.nil)
                  go_simp
                  go_at_call 39
                  refine (KC2.out gma49 gmb48 _ _ _ _ _ (KO59.sel [2, 3, 4, 5, 6, 7, 1, 0] 99 (by decide) (by decide)) (fun y => by unfold twoF; split <;> (try split) <;> (try split) <;> first | rfl | omega) (fun y => by unfold oneF; split <;> first | rfl | omega)).mono ?_
                  rintro e wo60 ⟨rfl, vt60, L60, H60, hK⟩
                  have KO60 := hK
                  clear hK
                  have HG := Lib.hid (HB1.out _ (KO60.sel [3] 99 (by decide) (by decide)))
                  refine hK'.out _ _ HG.out (fun hHeld2 => ?_)
                  clear hK' hHeld
                  have hHeld := hHeld2
                  clear hHeld2
                  try simp only [Act.put, List.setIfInBounds_toArray]
                  refine wpAnyH_done (by kernel_rfl) ?_ _
                  go_wp2_with fail
                  go_roundw
                  case rel => exact ⟨j + 1, vt60, L60, by omega, by omega, by go_num, H60, (KO60.sel [0, 1, 2, 3, 4, 5] 99 (by decide) (by decide))⟩
                  case measure => simp [intOf] <;> omega
                · skip
                  refine kn_stepMI (by rfl) _ _ _ (by rfl) (b := gmb48) (by rfl) (KO57.front 1 rfl) (by decide) (k := (j : Int) - 1) (by rfl) (WalkArith.wf_i64 (by omega)) (y := 1) (by decide) (by rfl) ?_
                  intro wo61 KO61
                  have HG := Lib.hid (HB1.out _ (KO61.sel [5] 99 (by decide) (by decide)))
                  refine hK'.out _ _ HG.out (fun hHeld2 => ?_)
                  clear hK' hHeld
                  have hHeld := hHeld2
                  clear hHeld2
                  try simp only [Act.put, List.setIfInBounds_toArray]
                  refine wpAnyH_take (i := 16) (v := ?_) rfl (by kernel_rfl) (by kernel_rfl) (by kernel_rfl) (fun _ _ _ h => h) (Or.inl ⟨by rfl, ?_⟩) hHeld ?_
                  rotate_left
                  · (intro w hSw; (try dsimp only at hSw); go_simp; try with_reducible rfl)
                  try simp only [Act.put, List.setIfInBounds_toArray, List.set_cons_zero, List.set_cons_succ, List.getElem_toArray, List.getElem_cons_succ, List.getElem_cons_zero]
                  refine wpAnyH_ready (rs := [6]) (by kernel_rfl) (by decide) (AllReadyH.cons (o := _) rfl (fun K hK' => ?_) AllReadyH.nil)
                  refine kn_stepMI (by rfl) _ _ _ (by rfl) (b := gma49) (by rfl) (KO61.front 1 rfl) (by decide) (k := (j : Int) - 1) (by rfl) (WalkArith.wf_i64 (by omega)) (y := b - 1) (WalkArith.wf_i64 (by omega)) (by rfl) ?_
                  intro wo62 KO62
                  have HG := Lib.hid (HB1.out _ (KO62.sel [5] 99 (by decide) (by decide)))
                  refine hK'.out _ _ HG.out (fun hHeld2 => ?_)
                  clear hK' hHeld
                  have hHeld := hHeld2
                  clear hHeld2
                  try simp only [Act.put, List.setIfInBounds_toArray]
                  refine wpAnyH_take (i := 11) (v := ?_) rfl (by kernel_rfl) (by kernel_rfl) (by kernel_rfl) (fun _ _ _ h => h) (Or.inl ⟨by rfl, ?_⟩) hHeld ?_
                  rotate_left
                  · (intro w hSw; (try dsimp only at hSw); go_simp; try with_reducible rfl)
                  try simp only [Act.put, List.setIfInBounds_toArray, List.set_cons_zero, List.set_cons_succ, List.getElem_toArray, List.getElem_cons_succ, List.getElem_cons_zero]
                  refine wpAnyH_ready (rs := [17]) (by kernel_rfl) (by decide) (AllReadyH.cons (o := _) rfl (fun K hK' => ?_) AllReadyH.nil)
                  go_simp
                  go_at_call 39
                  refine (KC2.out gma49 gmb48 _ _ _ _ _ (KO62.sel [2, 3, 4, 5, 6, 7, 0, 1] 99 (by decide) (by decide)) (fun y => by unfold twoF; split <;> (try split) <;> (try split) <;> first | rfl | omega) (fun y => by unfold oneF; split <;> first | rfl | omega)).mono ?_
                  rintro e wo63 ⟨rfl, vt63, L63, H63, hK⟩
                  have KO63 := hK
                  clear hK
                  have HG := Lib.hid (HB1.out _ (KO63.sel [3] 99 (by decide) (by decide)))
                  refine hK'.out _ _ HG.out (fun hHeld2 => ?_)
                  clear hK' hHeld
                  have hHeld := hHeld2
                  clear hHeld2
                  try simp only [Act.put, List.setIfInBounds_toArray]
                  refine wpAnyH_done (by kernel_rfl) ?_ _
                  go_wp2_with fail
                  go_roundw
                  case rel => exact ⟨j + 1, vt63, L63, by omega, by omega, by go_num, H63, (KO63.sel [0, 1, 2, 3, 4, 5] 99 (by decide) (by decide))⟩
                  case measure => simp [intOf] <;> omega
              · skip
                refine kn_stepMI (by rfl) _ _ _ (by rfl) (b := gmb48) (by rfl) (KO49.front 1 rfl) (by decide) (k := (j : Int) - 1) (by rfl) (WalkArith.wf_i64 (by omega)) (y := 1) (by decide) (by rfl) ?_
                intro wo64 KO64
                have HG := Lib.hid (HB1.out _ (KO64.sel [5] 99 (by decide) (by decide)))
                refine hK'.out _ _ HG.out (fun hHeld2 => ?_)
                clear hK' hHeld
                have hHeld := hHeld2
                clear hHeld2
                try simp only [Act.put, List.setIfInBounds_toArray]
                refine wpAnyH_take (i := 16) (v := ?_) rfl (by kernel_rfl) (by kernel_rfl) (by kernel_rfl) (fun _ _ _ h => h) (Or.inl ⟨by rfl, ?_⟩) hHeld ?_
                rotate_left
                · (intro w hSw; (try dsimp only at hSw); go_simp; try with_reducible rfl)
                try simp only [Act.put, List.setIfInBounds_toArray, List.set_cons_zero, List.set_cons_succ, List.getElem_toArray, List.getElem_cons_succ, List.getElem_cons_zero]
                refine wpAnyH_ready (rs := [6, 10]) (by kernel_rfl) (by decide) (AllReadyH.cons (o := _) rfl (fun K hK' => ?_) (AllReadyH.cons (o := _) rfl (fun K hK' => ?_) AllReadyH.nil))
                · skip
                  refine kn_stepMI (by rfl) _ _ _ (by rfl) (b := gma49) (by rfl) (KO64.front 1 rfl) (by decide) (k := (j : Int) - 1) (by rfl) (WalkArith.wf_i64 (by omega)) (y := b - 1) (WalkArith.wf_i64 (by omega)) (by rfl) ?_
                  intro wo65 KO65
                  have HG := Lib.hid (HB1.out _ (KO65.sel [5] 99 (by decide) (by decide)))
                  refine hK'.out _ _ HG.out (fun hHeld2 => ?_)
                  clear hK' hHeld
                  have hHeld := hHeld2
                  clear hHeld2
                  try simp only [Act.put, List.setIfInBounds_toArray]
                  refine wpAnyH_ready (rs := [10]) (by kernel_rfl) (by decide) (AllReadyH.cons (o := _) rfl (fun K hK' => ?_) AllReadyH.nil)
                  refine kn_stepMI (by rfl) _ _ _ (by rfl) (b := gma49) (by rfl) (KO65.front 0 rfl) (by decide) (k := (j : Int)) (by rfl) (WalkArith.wf_i64 (by omega)) (y := b - 1) (WalkArith.wf_i64 (by omega)) (by rfl) ?_
                  intro wo66 KO66
                  have HG := Lib.hid (HB1.out _ (KO66.sel [5] 99 (by decide) (by decide)))
                  refine hK'.out _ _ HG.out (fun hHeld2 => ?_)
                  clear hK' hHeld
                  have hHeld := hHeld2
                  clear hHeld2
                  try simp only [Act.put, List.setIfInBounds_toArray]
                  refine wpAnyH_take (i := 11) (v := ?_) rfl (by kernel_rfl) (by kernel_rfl) (by kernel_rfl) (fun _ _ _ h => h) (Or.inl ⟨by rfl, ?_⟩) hHeld ?_
                  rotate_left
                  · (intro w hSw; (try dsimp only at hSw); go_simp; try with_reducible rfl)
                  try simp only [Act.put, List.setIfInBounds_toArray, List.set_cons_zero, List.set_cons_succ, List.getElem_toArray, List.getElem_cons_succ, List.getElem_cons_zero]
                  refine wpAnyH_ready (rs := [17]) (by kernel_rfl) (by decide) (AllReadyH.cons (o := _) rfl (fun K hK' => ?_) AllReadyH.nil)
                  go_simp
                  go_at_call 39
                  refine (KC2.out gma49 gmb48 _ _ _ _ _ (KO66.sel [2, 3, 4, 5, 6, 7, 0, 1] 99 (by decide) (by decide)) (fun y => by unfold twoF; split <;> (try split) <;> (try split) <;> first | rfl | omega) (fun y => by unfold oneF; split <;> first | rfl | omega)).mono ?_
                  rintro e wo67 ⟨rfl, vt67, L67, H67, hK⟩
                  have KO67 := hK
                  clear hK
                  have HG := Lib.hid (HB1.out _ (KO67.sel [3] 99 (by decide) (by decide)))
                  refine hK'.out _ _ HG.out (fun hHeld2 => ?_)
                  clear hK' hHeld
                  have hHeld := hHeld2
                  clear hHeld2
                  try simp only [Act.put, List.setIfInBounds_toArray]
                  refine wpAnyH_done (by kernel_rfl) ?_ _
                  go_wp2_with fail
                  go_roundw
                  case rel => exact ⟨j + 1, vt67, L67, by omega, by omega, by go_num, H67, (KO67.sel [0, 1, 2, 3, 4, 5] 99 (by decide) (by decide))⟩
                  case measure => simp [intOf] <;> omega
                · skip
                  refine kn_stepMI (by rfl) _ _ _ (by rfl) (b := gma49) (by rfl) (KO64.front 1 rfl) (by decide) (k := (j : Int)) (by rfl) (WalkArith.wf_i64 (by omega)) (y := b - 1) (WalkArith.wf_i64 (by omega)) (by rfl) ?_
                  intro wo68 KO68
                  have HG := Lib.hid (HB1.out _ (KO68.sel [5] 99 (by decide) (by decide)))
                  refine hK'.out _ _ HG.out (fun hHeld2 => ?_)
                  clear hK' hHeld
                  have hHeld := hHeld2
                  clear hHeld2
                  try simp only [Act.put, List.setIfInBounds_toArray]
                  refine wpAnyH_ready (rs := [6]) (by kernel_rfl) (by decide) (AllReadyH.cons (o := _) rfl (fun K hK' => ?_) AllReadyH.nil)
                  refine kn_stepMI (by rfl) _ _ _ (by rfl) (b := gma49) (by rfl) (KO68.front 0 rfl) (by decide) (k := (j : Int) - 1) (by rfl) (WalkArith.wf_i64 (by omega)) (y := b - 1) (WalkArith.wf_i64 (by omega)) (by rfl) ?_
                  intro wo69 KO69
                  have HG := Lib.hid (HB1.out _ (KO69.sel [5] 99 (by decide) (by decide)))
                  refine hK'.out _ _ HG.out (fun hHeld2 => ?_)
                  clear hK' hHeld
                  have hHeld := hHeld2
                  clear hHeld2
                  try simp only [Act.put, List.setIfInBounds_toArray]
                  refine wpAnyH_take (i := 11) (v := ?_) rfl (by kernel_rfl) (by kernel_rfl) (by kernel_rfl) (fun _ _ _ h => h) (Or.inl ⟨by rfl, ?_⟩) hHeld ?_
                  rotate_left
                  · (intro w hSw; (try dsimp only at hSw); go_simp; try with_reducible rfl)
                  try simp only [Act.put, List.setIfInBounds_toArray, List.set_cons_zero, List.set_cons_succ, List.getElem_toArray, List.getElem_cons_succ, List.getElem_cons_zero]
                  refine wpAnyH_ready (rs := [17]) (by kernel_rfl) (by decide) (AllReadyH.cons (o := _) rfl (fun K hK' => ?_) AllReadyH.nil)
                  go_simp
                  go_at_call 39
                  refine (KC2.out gma49 gmb48 _ _ _ _ _ (KO69.sel [2, 3, 4, 5, 6, 7, 0, 1] 99 (by decide) (by decide)) (fun y => by unfold twoF; split <;> (try split) <;> (try split) <;> first | rfl | omega) (fun y => by unfold oneF; split <;> first | rfl | omega)).mono ?_
                  rintro e wo70 ⟨rfl, vt70, L70, H70, hK⟩
                  have KO70 := hK
                  clear hK
                  have HG := Lib.hid (HB1.out _ (KO70.sel [3] 99 (by decide) (by decide)))
                  refine hK'.out _ _ HG.out (fun hHeld2 => ?_)
                  clear hK' hHeld
                  have hHeld := hHeld2
                  clear hHeld2
                  try simp only [Act.put, List.setIfInBounds_toArray]
                  refine wpAnyH_done (by kernel_rfl) ?_ _
                  go_wp2_with fail
                  go_roundw
                  case rel => exact ⟨j + 1, vt70, L70, by omega, by omega, by go_num, H70, (KO70.sel [0, 1, 2, 3, 4, 5] 99 (by decide) (by decide))⟩
                  case measure => simp [intOf] <;> omega
            · skip
              refine kn_stepMI (by rfl) _ _ _ (by rfl) (b := gmb48) (by rfl) (KO48.front 0 rfl) (by decide) (k := (j : Int) - 1) (by rfl) (WalkArith.wf_i64 (by omega)) (y := 1) (by decide) (by rfl) ?_
              intro wo71 KO71
              have HG := Lib.hid (HB1.out _ (KO71.sel [4] 99 (by decide) (by decide)))
              refine hK'.out _ _ HG.out (fun hHeld2 => ?_)
              clear hK' hHeld
              have hHeld := hHeld2
              clear hHeld2
              try simp only [Act.put, List.setIfInBounds_toArray]
              refine wpAnyH_take (i := 16) (v := ?_) rfl (by kernel_rfl) (by kernel_rfl) (by kernel_rfl) (fun _ _ _ h => h) (Or.inl ⟨by rfl, ?_⟩) hHeld ?_
              rotate_left
              · (intro w hSw; (try dsimp only at hSw); go_simp; try with_reducible rfl)
              try simp only [Act.put, List.setIfInBounds_toArray, List.set_cons_zero, List.set_cons_succ, List.getElem_toArray, List.getElem_cons_succ, List.getElem_cons_zero]
              refine wpAnyH_ready (rs := [1]) (by kernel_rfl) (by decide) (AllReadyH.cons (o := _) rfl (fun K hK' => ?_) AllReadyH.nil)
              go_simp
              have KO72 := KO71.mkMI
              have HG := Lib.hid (HB1.out _ (KO72.sel [5] 99 (by decide) (by decide)))
              refine hK'.out _ _ HG.out (fun hHeld2 => ?_)
              clear hK' hHeld
              have hHeld := hHeld2
              clear hHeld2
              try simp only [Act.put, List.setIfInBounds_toArray]
              generalize wo71.alloc (.map #[] 0) = wo72 at KO72 hHeld ⊢
              obtain ⟨gma72, hgma72⟩ : ∃ g, wo71.heap.size = g := ⟨_, rfl⟩
              rw [hgma72] at KO72 ⊢
              clear hgma72
              refine wpAnyH_ready (rs := [6, 10]) (by kernel_rfl) (by decide) (AllReadyH.cons (o := _) rfl (fun K hK' => ?_) (AllReadyH.cons (o := _) rfl (fun K hK' => ?_) AllReadyH.nil))
              · skip
                refine kn_stepMI (by rfl) _ _ _ (by rfl) (b := gma72) (by rfl) (KO72.front 0 rfl) (by decide) (k := (j : Int) - 1) (by rfl) (WalkArith.wf_i64 (by omega)) (y := b - 1) (WalkArith.wf_i64 (by omega)) (by rfl) ?_
                intro wo73 KO73
                have HG := Lib.hid (HB1.out _ (KO73.sel [5] 99 (by decide) (by decide)))
                refine hK'.out _ _ HG.out (fun hHeld2 => ?_)
                clear hK' hHeld
                have hHeld := hHeld2
                clear hHeld2
                try simp only [Act.put, List.setIfInBounds_toArray]
                refine wpAnyH_ready (rs := [10]) (by kernel_rfl) (by decide) (AllReadyH.cons (o := _) rfl (fun K hK' => ?_) AllReadyH.nil)
                refine kn_stepMI (by rfl) _ _ _ (by rfl) (b := gma72) (by rfl) (KO73.front 0 rfl) (by decide) (k := (j : Int)) (by rfl) (WalkArith.wf_i64 (by omega)) (y := b - 1) (WalkArith.wf_i64 (by omega)) (by rfl) ?_
                intro wo74 KO74
                have HG := Lib.hid (HB1.out _ (KO74.sel [5] 99 (by decide) (by decide)))
                refine hK'.out _ _ HG.out (fun hHeld2 => ?_)
                clear hK' hHeld
                have hHeld := hHeld2
                clear hHeld2
                try simp only [Act.put, List.setIfInBounds_toArray]
                refine wpAnyH_take (i := 11) (v := ?_) rfl (by kernel_rfl) (by kernel_rfl) (by kernel_rfl) (fun _ _ _ h => h) (Or.inl ⟨by rfl, ?_⟩) hHeld ?_
                rotate_left
                · (intro w hSw; (try dsimp only at hSw); go_simp; try with_reducible rfl)
                try simp only [Act.put, List.setIfInBounds_toArray, List.set_cons_zero, List.set_cons_succ, List.getElem_toArray, List.getElem_cons_succ, List.getElem_cons_zero]
                refine wpAnyH_ready (rs := [17]) (by kernel_rfl) (by decide) (AllReadyH.cons (o := _) rfl (fun K hK' => ?_) AllReadyH.nil)
                go_simp
                go_at_call 39
                refine (KC2.out gma72 gmb48 _ _ _ _ _ (KO74.sel [2, 3, 4, 5, 6, 7, 0, 1] 99 (by decide) (by decide)) (fun y => by unfold twoF; split <;> (try split) <;> (try split) <;> first | rfl | omega) (fun y => by unfold oneF; split <;> first | rfl | omega)).mono ?_
                rintro e wo75 ⟨rfl, vt75, L75, H75, hK⟩
                have KO75 := hK
                clear hK
                have HG := Lib.hid (HB1.out _ (KO75.sel [3] 99 (by decide) (by decide)))
                refine hK'.out _ _ HG.out (fun hHeld2 => ?_)
                clear hK' hHeld
                have hHeld := hHeld2
                clear hHeld2
                try simp only [Act.put, List.setIfInBounds_toArray]
                refine wpAnyH_done (by kernel_rfl) ?_ _
                go_wp2_with fail
                go_roundw
                case rel => exact ⟨j + 1, vt75, L75, by omega, by omega, by go_num, H75, (KO75.sel [0, 1, 2, 3, 4, 5] 99 (by decide) (by decide))⟩
                case measure => simp [intOf] <;> omega
              · skip
                refine kn_stepMI (by rfl) _ _ _ (by rfl) (b := gma72) (by rfl) (KO72.front 0 rfl) (by decide) (k := (j : Int)) (by rfl) (WalkArith.wf_i64 (by omega)) (y := b - 1) (WalkArith.wf_i64 (by omega)) (by rfl) ?_
                intro wo76 KO76
                have HG := Lib.hid (HB1.out _ (KO76.sel [5] 99 (by decide) (by decide)))
                refine hK'.out _ _ HG.out (fun hHeld2 => ?_)
                clear hK' hHeld
                have hHeld := hHeld2
                clear hHeld2
                try simp only [Act.put, List.setIfInBounds_toArray]
                refine wpAnyH_ready (rs := [6]) (by kernel_rfl) (by decide) (AllReadyH.cons (o := _) rfl (fun K hK' => ?_) AllReadyH.nil)
                refine kn_stepMI (by rfl) _ _ _ (by rfl) (b := gma72) (by rfl) (KO76.front 0 rfl) (by decide) (k := (j : Int) - 1) (by rfl) (WalkArith.wf_i64 (by omega)) (y := b - 1) (WalkArith.wf_i64 (by omega)) (by rfl) ?_
                intro wo77 KO77
                have HG := Lib.hid (HB1.out _ (KO77.sel [5] 99 (by decide) (by decide)))
                refine hK'.out _ _ HG.out (fun hHeld2 => ?_)
                clear hK' hHeld
                have hHeld := hHeld2
                clear hHeld2
                try simp only [Act.put, List.setIfInBounds_toArray]
                refine wpAnyH_take (i := 11) (v := ?_) rfl (by kernel_rfl) (by kernel_rfl) (by kernel_rfl) (fun _ _ _ h => h) (Or.inl ⟨by rfl, ?_⟩) hHeld ?_
                rotate_left
                · (intro w hSw; (try dsimp only at hSw); go_simp; try with_reducible rfl)
                try simp only [Act.put, List.setIfInBounds_toArray, List.set_cons_zero, List.set_cons_succ, List.getElem_toArray, List.getElem_cons_succ, List.getElem_cons_zero]
                refine wpAnyH_ready (rs := [17]) (by kernel_rfl) (by decide) (AllReadyH.cons (o := _) rfl (fun K hK' => ?_) AllReadyH.nil)
                go_simp
                go_at_call 39
                refine (KC2.out gma72 gmb48 _ _ _ _ _ (KO77.sel [2, 3, 4, 5, 6, 7, 0, 1] 99 (by decide) (by decide)) (fun y => by unfold twoF; split <;> (try split) <;> (try split) <;> first | rfl | omega) (fun y => by unfold oneF; split <;> first | rfl | omega)).mono ?_
                rintro e wo78 ⟨rfl, vt78, L78, H78, hK⟩
                have KO78 := hK
                clear hK
                have HG := Lib.hid (HB1.out _ (KO78.sel [3] 99 (by decide) (by decide)))
                refine hK'.out _ _ HG.out (fun hHeld2 => ?_)
                clear hK' hHeld
                have hHeld := hHeld2
                clear hHeld2
                try simp only [Act.put, List.setIfInBounds_toArray]
                refine wpAnyH_done (by kernel_rfl) ?_ _
                go_wp2_with fail
                go_roundw
                case rel => exact ⟨j + 1, vt78, L78, by omega, by omega, by go_num, H78, (KO78.sel [0, 1, 2, 3, 4, 5] 99 (by decide) (by decide))⟩
                case measure => simp [intOf] <;> omega
        · have i2 : ¬ (j : Int) < (n : Int) := by omega
          obtain rfl : n = j := by omega
          have hll : L.length = 2 * n := by rw [← List.length_map (f := TE.t), HX.out, stdTs_len]; omega
          have HX2 := Lib.hid (show L.map TE.t = stdTs b n fs (2 * n) by rw [show 2 * n = n + n by omega]; exact HX.out)
          obtain ⟨A, c, rfl, hrl⟩ := KR.rlT
          have KV := Lib.hid (calls_val (ValidTrials_any A L.length c (L.map TE.t) _ hrl (fun t ht => stdTs_small b n fs (2 * n) (by omega) t (by rw [← HX2.out]; exact ht)) (by omega)) (congrArg Value.bool (show vtrials (L.map TE.t) = true by rw [HX2.out]; exact HV.out)))
          clear hll hrl d1 d2 d3 e1 e2 e3
          obtain ⟨d1, d2, d3, -, -, -, e1, e2, e3, -⟩ := KR.cells
          go_wp2_with (go_at_call 41; refine KV.out.mono ?_; rintro e w8 ⟨rfl, hw8⟩; have K8 := KR.keep hw8; clear hw8 d1 d2 d3 e1 e2 e3; obtain ⟨d1, d2, d3, -⟩ := K8.cells)
          go_ret2
          exact ⟨_, L, rfl, HX2.out, K8.sel [0, 1] 99 (by decide) (by decide)⟩
end Go.Proofs.YtgpmngcemnnpmaaDoor

namespace Go.Proofs.YtgpmngcemnnpmaaDoor
open Go.RowKit Go.Sort
end Go.Proofs.YtgpmngcemnnpmaaDoor

namespace Go.Proofs.YtgpmngcemnnpmaaDoor
open Go.RowKit Go.Sort
theorem OwnD.far {W : World} {base g j : Nat} {v : Value} {ds : List Int} (h : OwnD W base (some g) v ds) (u : Value) : OwnD (W.setCell ⟨g, j, none⟩ u) base (some g) v ds := by
  refine ⟨row_kept h.1 (fun k hk => ?_), fun k hk => ⟨(h.2 k hk).1, by have := (h.2 k hk).2; simp [World.setCell]; exact this⟩⟩
  exact heap_setCell_other _ _ _ _ (fun e => (h.2 k hk).1 (by rw [e]))
theorem TriP.far {W : World} {base g j : Nat} {xs : List Value} {i : Nat} {t : Tri} (h : TriP W base (some g) xs i t) (u : Value) : TriP (W.setCell ⟨g, j, none⟩ u) base (some g) xs i t := by
  obtain ⟨X1, x1, X2, x2, X3, x3, h1, h2, h3, h4⟩ := h
  exact ⟨X1, x1, X2, x2, X3, x3, h1, h2.far u, h3.far u, h4.far u⟩
abbrev st3 (W : World) (g o : Nat) (b : Int) (X : Option Addr) (m x : Nat) (cy : Int) : World := ((W.setCell ⟨g, o + 4, none⟩ (.int .i64 b)).setCell ⟨g, o + 5, none⟩ (.slice X m x)).setCell ⟨g, o + 6, none⟩ (.int .i64 cy)
theorem pl_store {W : World} {base g n c k : Nat} {ts : List Tri} (h : PL W base (.slice (some ⟨g, 0, none⟩) n c) ts) (hk : k < ts.length) {b cy : Int} {X : Option Addr} {x : Nat} {sd : List Int} (hd : OwnD W base (some g) (.slice X sd.length x) sd) :
    PL (st3 W g (k * 7) b X sd.length x cy) base (.slice (some ⟨g, 0, none⟩) n c) (ts.set k { ts[k] with s := ⟨b, sd⟩, carry := cy }) := by
  obtain ⟨xs, h1, h2⟩ := h
  have hxl := h1.1
  have hn : ts.length = n := by
    rcases h1.2 with ⟨e, -⟩ | ⟨g', cap, cur, e, -⟩
    · cases e
    · injection e with _ e _; exact e.symm
  have r1 := h1
  rw [hn] at r1
  have r2 := (((r1.stored (k * 7 + 4) (.int .i64 b)).1.stored (k * 7 + 5) (.slice X sd.length x)).1.stored (k * 7 + 6) (.int .i64 cy)).1
  rw [← hn] at r2
  refine ⟨_, by rw [List.length_set]; rw [hn] at r2 ⊢; exact r2, fun i hi => ?_⟩
  have hi' : i < ts.length := by rw [List.length_set] at hi; exact hi
  have hdd := ((hd.far (j := k * 7 + 4) (.int .i64 b)).far (j := k * 7 + 5) (.slice X sd.length x)).far (j := k * 7 + 6) (.int .i64 cy)
  obtain ⟨X1, x1, X2, x2, X3, x3, ⟨e0, e1, e2, e3, e4, e5, e6⟩, o1, o2, o3⟩ := (((h2 i hi').far (j := k * 7 + 4) (.int .i64 b)).far (j := k * 7 + 5) (.slice X sd.length x)).far (j := k * 7 + 6) (.int .i64 cy)
  by_cases hik : i = k
  · subst hik
    have hE : (ts.set i { ts[i] with s := ⟨b, sd⟩, carry := cy })[i] = { ts[i] with s := ⟨b, sd⟩, carry := cy } := by simp
    rw [hE]
    refine ⟨X1, x1, X2, x2, X, x, ⟨?_, ?_, ?_, ?_, ?_, ?_, ?_⟩, o1, o2, hdd⟩
    · rw [List.getElem?_set_ne (by omega), List.getElem?_set_ne (by omega), List.getElem?_set_ne (by omega)]; exact e0
    · rw [List.getElem?_set_ne (by omega), List.getElem?_set_ne (by omega), List.getElem?_set_ne (by omega)]; exact e1
    · rw [List.getElem?_set_ne (by omega), List.getElem?_set_ne (by omega), List.getElem?_set_ne (by omega)]; exact e2
    · rw [List.getElem?_set_ne (by omega), List.getElem?_set_ne (by omega), List.getElem?_set_ne (by omega)]; exact e3
    · rw [List.getElem?_set_ne (by omega), List.getElem?_set_ne (by omega), List.getElem?_set_self (by omega)]
    · rw [List.getElem?_set_ne (by omega), List.getElem?_set_self (by rw [List.length_set]; omega)]
    · rw [List.getElem?_set_self (by rw [List.length_set, List.length_set]; omega)]
  · have hE : (ts.set k { ts[k] with s := ⟨b, sd⟩, carry := cy })[i] = ts[i] := by rw [List.getElem_set_ne (by omega)]
    rw [hE]
    have H : ∀ j, j < 7 → (((xs.set (k * 7 + 4) (.int .i64 b)).set (k * 7 + 5) (.slice X sd.length x)).set (k * 7 + 6) (.int .i64 cy))[i * 7 + j]? = xs[i * 7 + j]? := fun j hj => by
      rw [List.getElem?_set_ne (by omega), List.getElem?_set_ne (by omega), List.getElem?_set_ne (by omega)]
    exact ⟨X1, x1, X2, x2, X3, x3, ⟨(H 0 (by omega)).trans e0, (H 1 (by omega)).trans e1, (H 2 (by omega)).trans e2, (H 3 (by omega)).trans e3, (H 4 (by omega)).trans e4, (H 5 (by omega)).trans e5, (H 6 (by omega)).trans e6⟩, o1, o2, o3⟩
theorem st3_below {W a : World} {B g : Nat} (h : Below B a W) (hg : B ≤ g) (o : Nat) (b : Int) (X : Option Addr) (m x : Nat) (cy : Int) : Below B a (st3 W g o b X m x cy) :=
  ((h.setCell (p := ⟨g, o + 4, none⟩) hg _).setCell (p := ⟨g, o + 5, none⟩) hg _).setCell (p := ⟨g, o + 6, none⟩) hg _
/-- a pair of registers of a base and a width -/
def WeakOK (base : Int) (width : Nat) (t : Tri) : Prop := t.a.base = base ∧ DigB base width t.a.digits ∧ t.b.base = base ∧ DigB base width t.b.digits ∧ t.s.digits.length ≤ 16
end Go.Proofs.YtgpmngcemnnpmaaDoor

namespace Go.Proofs.YtgpmngcemnnpmaaDoor
open Go.RowKit Go.Sort
theorem weak_small {base : Int} {width : Nat} {t : Tri} (h : WeakOK base width t) (hw : width ≤ 16) : SmallTri t := by
  obtain ⟨-, ⟨h1, -⟩, -, ⟨h2, -⟩, h3⟩ := h
  unfold SmallTri SmallReg
  omega
end Go.Proofs.YtgpmngcemnnpmaaDoor

namespace Go.Proofs.YtgpmngcemnnpmaaDoor
open Go.RowKit Go.Sort
/-- numbers were stored into blocks of P -/
inductive Marks (P : Nat → Prop) : World → World → Prop
  | refl (w : World) : Marks P w w
  | step {w w' : World} {b : Nat} (h : Marks P w w') (hb : P b) (j : Nat) (u : Int) : Marks P w (w'.setCell ⟨b, j, none⟩ (.int .i64 u))
theorem Marks.trans {P : Nat → Prop} {a b c : World} (h1 : Marks P a b) (h2 : Marks P b c) : Marks P a c := by
  induction h2 with
  | refl => exact h1
  | step _ hb j u ih => exact ih.step hb j u
theorem Marks.weaken {P Q : Nat → Prop} {a b : World} (h : Marks P a b) (hq : ∀ k, P k → Q k) : Marks Q a b := by
  induction h with
  | refl => exact .refl _
  | step _ hb j u ih => exact ih.step (hq _ hb) j u
theorem Marks.under {P : Nat → Prop} {B : Nat} {a w w' : World} (h : Marks P w w') (hb : Below B a w) (hP : ∀ k, P k → B ≤ k) : Below B a w' := by
  induction h with
  | refl => exact hb
  | step _ hk j u ih => exact ih.setCell (hP _ hk) _
theorem Marks.size {P : Nat → Prop} {w w' : World} (h : Marks P w w') : w'.heap.size = w.heap.size := by
  induction h with
  | refl => rfl
  | step _ hk j u ih => rw [← ih]; simp [World.setCell]
theorem Marks.block {P : Nat → Prop} {w w' : World} (h : Marks P w w') {k : Nat} (hk : ¬ P k) : w'.heap[k]? = w.heap[k]? := by
  induction h with
  | refl => rfl
  | step _ hb j u ih => rw [← ih]; exact heap_setCell_other _ _ k _ (fun e => hk (by rw [e]; exact hb))
theorem map_set_int (ds : List Int) (j : Nat) (u : Int) : (ds.map (Value.int .i64)).set j (.int .i64 u) = (ds.set j u).map (Value.int .i64) := by
  rw [List.map_set]
theorem OwnI.setAny {w : World} {base : Nat} {v : Value} {ds : List Int} (h : OwnI w base v ds) (b j : Nat) (u : Int) : ∃ ds', ds'.length = ds.length ∧ OwnI (w.setCell ⟨b, j, none⟩ (.int .i64 u)) base v ds' := by
  have h' := h
  rcases h.2 with ⟨rfl, hn⟩ | ⟨g, cap, cur, rfl, hb, hg, rest⟩
  · exact ⟨ds, rfl, by simp [hn], .inl ⟨rfl, hn⟩⟩
  · by_cases hgb : g = b
    · subst hgb
      refine ⟨ds.set j u, by simp, ?_⟩
      have hs := (World.ownsRow.stored h j (.int .i64 u)).1
      rw [map_set_int] at hs
      unfold OwnI
      rw [List.length_set]
      exact hs
    · refine ⟨ds, rfl, h.1, .inr ⟨g, cap, cur, rfl, hb, ?_, rest⟩⟩
      rw [heap_setCell_other _ _ _ _ (by simpa using hgb)]
      exact hg
theorem Marks.ownI {P : Nat → Prop} {w w' : World} (h : Marks P w w') {base : Nat} {v : Value} {ds : List Int} (ho : OwnI w base v ds) : ∃ ds', ds'.length = ds.length ∧ OwnI w' base v ds' := by
  induction h with
  | refl => exact ⟨ds, rfl, ho⟩
  | step _ hb j u ih =>
    obtain ⟨d1, l1, o1⟩ := ih
    obtain ⟨d2, l2, o2⟩ := o1.setAny _ j u
    exact ⟨d2, l2.trans l1, o2⟩
/-- k, k + 1, .. -/
def upto (k : Int) (n : Nat) : List Int := (List.range n).map (fun (i : Nat) => k + (i : Int))
theorem upto_len (k : Int) (n : Nat) : (upto k n).length = n := by simp [upto]
theorem upto_get (k : Int) {n i : Nat} (h : i < n) : (upto k n)[i]? = some (k + i) := by simp [upto, h]
/-- the first j are marked -/
def marked (k : Int) (ds : List Int) (j : Nat) : List Int := upto k j ++ ds.drop j
theorem marked_len (k : Int) (ds : List Int) {j : Nat} (h : j ≤ ds.length) : (marked k ds j).length = ds.length := by simp [marked, upto_len]; omega
theorem marked_set (k : Int) (ds : List Int) {j : Nat} (h : j < ds.length) : (marked k ds j).set j (k + j) = marked k ds (j + 1) := by
  unfold marked
  rw [List.set_append_right _ _ (by rw [upto_len]; exact Nat.le_refl _), upto_len, Nat.sub_self, List.drop_eq_getElem_cons h, List.set_cons_zero]
  simp [upto, List.range_succ]
end Go.Proofs.YtgpmngcemnnpmaaDoor
