/- Part 3: lemmas and contracts of the claim's functions. -/
import Derived.Test.YtmmiahgmdllgdaaZC1
import Derived.Test.YtmmiahgmdllgdaaZC2
namespace Go.Proofs.Ytmmiahgmdllgdaa
open Go.RowKit Go.Sort
set_option maxRecDepth 100000 in
set_option maxHeartbeats 1600000 in
theorem pairCode_ok (b : Int) (XA : Option Addr) (xc : Nat) (xs : List Int) (YA : Option Addr) (yc : Nat) (ys : List Int) (w : World) (hx : RI w XA xs.length xs) (hy : RI w YA ys.length ys) (hv1 : vreg b xs = true) (hv2 : vreg b ys = true) (hl : xs.length = ys.length) :
    Calls Try.prog 40 #[.agg #[.int .i64 b, .slice XA xs.length xc], .agg #[.int .i64 b, .slice YA ys.length yc]] w fun e w' => e = .returned (.int .i64 0) ∧ Below w.heap.size w w' := by
  have hm1 := (vreg_iff.1 hv1).2.1
  have hm2 := (vreg_iff.1 hv2).2.1
  have KX := (fun W (hW : Below w.heap.size w W) => ValidRegister_any b XA xs.length xc xs W (hx.below hW) (by omega))
  have KY := (fun W (hW : Below w.heap.size w W) => ValidRegister_any b YA ys.length yc ys W (hy.below hW) (by omega))
  rw [hv1] at KX
  rw [hv2] at KY
  replace KX := Lib.hid KX
  replace KY := Lib.hid KY
  obtain ⟨g1, hg1⟩ : ∃ g, w.heap.size = g := ⟨_, rfl⟩
  have K0 := ((Kn.nil w).al [.int .i64 b, .slice XA xs.length xc] 26).al [.int .i64 b, .slice YA ys.length yc] 26
  simp only [World.size_alloc, hg1] at K0
  have y1 : (b == b) = true := beq_self_eq_true _
  have y2 : (b != b) = false := bne_self_eq_false _
  have y5 : ((xs.length : Int) != (ys.length : Int)) = false := by rw [hl]; exact bne_self_eq_false _
  have y6 : ((xs.length : Int) == (ys.length : Int)) = true := by rw [hl]; exact beq_self_eq_true _
  clear hl hv1 hv2 hm1 hm2
  go_enter Try.func40, Try.ntmps40
  go_upto_region 3 with (go_at_call 60; first
    | (refine Calls.kn K0 ?_; intro w1 K1; (with_reducible refine (KX.out _ K1.below).mono ?_); rintro e w2 ⟨rfl, hw⟩; have K2 := K1.keep hw; clear hw; obtain ⟨a1, a2, a3, b1, b2, b3, -⟩ := K2.cells)
    | ((with_reducible refine (KY.out _ K2.below).mono ?_); rintro e w3 ⟨rfl, hw⟩; have K3 := K2.keep hw; clear hw a1 a2 a3 b1 b2 b3))
  clear K1 K2
  have x0 := cell_regrown (show w3.cell? ⟨g1, 0, none⟩ = some (.int .i64 b) from (K3.front 1 rfl).blkAt.1 0)
  have x1 := cell_regrown (show w3.cell? ⟨g1, 1, none⟩ = some (.slice XA xs.length xc) from (K3.front 1 rfl).blkAt.1 1)
  have x2 := cell_regrown (show w3.cell? ⟨g1 + 1, 0, none⟩ = some (.int .i64 b) from (K3.front 0 rfl).blkAt.1 0)
  have x3 := cell_regrown (show w3.cell? ⟨g1 + 1, 1, none⟩ = some (.slice YA ys.length yc) from (K3.front 0 rfl).blkAt.1 1)
  refine wp_region_quiet_below (by kernel_rfl) (by kernel_rfl) ?_
  repeat (go_big_quiet_step (first | (go_at_call 49; exact quietB (fun W _ => width_any _ _ _ _ W))))
  refine wpQuiet_nil ?_
  intro _ hw'
  obtain ⟨⟨dq, osq⟩, hw''⟩ := hw'
  subst hw''
  have K5 := K3.keep (below_regrown w3 dq osq)
  dsimp only
  obtain ⟨w5, hw3⟩ : ∃ W, grow (redrawn w3 dq) osq = W := ⟨_, rfl⟩
  rw [hw3] at K5 ⊢
  clear hw3 x0 x1 x2 x3 K3
  go_wp2_with fail
  go_ret
  exact ⟨rfl, by first | exact K5.below | (have := K5.below; rw [hg1] at this; exact this)⟩
set_option maxRecDepth 100000 in
set_option maxHeartbeats 800000 in
theorem whole_ok (b n : Int) (A : Option Addr) (c : Nat) (ds : List Int) (w : World) (hr : RI w A ds.length ds) (hv : vreg b ds = true) : Calls Try.prog 43 #[.agg #[.int .i64 b, .slice A ds.length c], .int .i64 n] w fun e w' => e = .returned (.tuple #[.agg #[.int .i64 b, .slice A ds.length c], .int .i64 n, .int .i64 0]) ∧ Below w.heap.size w w' := by
  have hm := (vreg_iff.1 hv).2.1
  have KX := (fun W (hW : Below w.heap.size w W) => ValidRegister_any b A ds.length c ds W (hr.below hW) (by omega))
  rw [hv] at KX
  replace KX := Lib.hid KX
  clear hv hm hr
  go_enter Try.func43, Try.ntmps43
  go_wp2_with (go_at_call 60; refine Calls.kn (((Kn.nil w).al [.int .i64 b, .slice A ds.length c] 26).al [.int .i64 0, .slice none 0 0] 26) ?_; intro w1 K1; simp only [World.size_alloc] at K1; refine (KX.out _ K1.below).mono ?_; rintro e w2 ⟨rfl, hw⟩; have K2 := K1.keep hw; clear hw; obtain ⟨a1, a2, a3, b1, b2, b3, -⟩ := K2.cells)
  refine bodyPost.kn (((K2.front 0 rfl).st 0 (.int .i64 b)).st 1 (.slice A ds.length c)) ?_; intro w9 K9
  clear a1 a2 a3 b1 b2 b3
  obtain ⟨a1, a2, a3, -⟩ := K9.cells
  exact bodyPost_ret (v := .tuple #[.agg #[.int .i64 b, .slice A ds.length c], .int .i64 n, .int .i64 0]) (by simp [results, Try.results43, go_sem, a1]) rfl ⟨rfl, K9.below⟩
end Go.Proofs.Ytmmiahgmdllgdaa

namespace Go.Proofs.Ytmmiahgmdllgdaa
open Go.RowKit Go.Sort
/-- a row of a table of an adder -/
structure Arw where
  i : Int
  a : Int
  b : Int
  d : Int
  c : Int
def ArM (w : World) (p : Addr) (x : Arw) : Prop := w.cell? p = some (.int .i64 x.i) ∧ w.cell? ⟨p.block, p.off + 1, none⟩ = some (.int .i64 x.a) ∧ w.cell? ⟨p.block, p.off + 2, none⟩ = some (.int .i64 x.b) ∧ w.cell? ⟨p.block, p.off + 3, none⟩ = some (.int .i64 x.d) ∧ w.cell? ⟨p.block, p.off + 4, none⟩ = some (.int .i64 x.c)
theorem steady_ArM : Steady ArM := by
  rintro w w' p f hp hb ⟨h1, h2, h3, h4, h5⟩
  exact ⟨by rw [hb.cell hp]; exact h1, by rw [hb.cell (by exact hp)]; exact h2, by rw [hb.cell (by exact hp)]; exact h3, by rw [hb.cell (by exact hp)]; exact h4, by rw [hb.cell (by exact hp)]; exact h5⟩
def cellsA (xs : List Arw) : List Value := xs.flatMap fun x => [.int .i64 x.i, .int .i64 x.a, .int .i64 x.b, .int .i64 x.d, .int .i64 x.c]
theorem cellsA_snoc (xs : List Arw) (x : Arw) : cellsA (xs ++ [x]) = cellsA xs ++ [.int .i64 x.i, .int .i64 x.a, .int .i64 x.b, .int .i64 x.d, .int .i64 x.c] := by simp [cellsA]
theorem cellsA_get : ∀ (xs : List Arw) (k : Nat) (h : k < xs.length), (cellsA xs)[k * 5]? = some (.int .i64 xs[k].i) ∧ (cellsA xs)[k * 5 + 1]? = some (.int .i64 xs[k].a) ∧ (cellsA xs)[k * 5 + 2]? = some (.int .i64 xs[k].b) ∧ (cellsA xs)[k * 5 + 3]? = some (.int .i64 xs[k].d) ∧ (cellsA xs)[k * 5 + 4]? = some (.int .i64 xs[k].c)
  | [], k, h => by simp at h
  | x :: xs, 0, h => by simp [cellsA]
  | x :: xs, k + 1, h => by
    have h1 := cellsA_get xs k (by simpa using h)
    have h2 : cellsA (x :: xs) = .int .i64 x.i :: .int .i64 x.a :: .int .i64 x.b :: .int .i64 x.d :: .int .i64 x.c :: cellsA xs := by simp [cellsA]
    rw [h2, show (k + 1) * 5 = k * 5 + 1 + 1 + 1 + 1 + 1 by omega]
    simp only [List.getElem?_cons_succ, List.getElem_cons_succ]
    exact h1
def rowA (v : Value) (xs : List Arw) : Ent := .row v 100 5 xs.length (cellsA xs)
theorem tpA : TP 33 100 (.agg #[.int .i64 0, .int .i64 0, .int .i64 0, .int .i64 0, .int .i64 0]) 5 40 := ⟨Try.underlying33, by kernel_rfl, rfl, by decide⟩
theorem Kn.rlA {w0 w : World} {m : List Ent} {A : Option Addr} {n c : Nat} {xs : List Arw} (h : Kn w0 (rowA (.slice A n c) xs :: m) w) : n = xs.length ∧ RL ArM 5 w A n xs := by
  have h0 : w.ownsRow 0 100 5 (.slice A n c) xs.length (cellsA xs) := h.at0
  rcases h0.2 with ⟨hv, hn⟩ | ⟨g, cap, cur, hv, -, hg, -⟩
  · injection hv with h1 h2 h3
    exact ⟨by omega, by omega, fun h => by omega⟩
  · injection hv with h1 h2 h3
    refine ⟨h2, h2.symm, fun h => ⟨_, h1, (Array.getElem?_eq_some_iff.1 hg).1, fun k hk => ?_⟩⟩
    obtain ⟨c1, c2, c3, c4, c5⟩ := cellsA_get xs k hk
    rw [h1] at h0
    have d1 := h0.cells (g := g) rfl _ _ c1
    have d2 := h0.cells (g := g) rfl _ _ c2
    have d3 := h0.cells (g := g) rfl _ _ c3
    have d4 := h0.cells (g := g) rfl _ _ c4
    have d5 := h0.cells (g := g) rfl _ _ c5
    refine ⟨d1, ?_, ?_, ?_, ?_⟩
    · rw [add_zero_block] at d2 ⊢; exact d2
    · rw [add_zero_block] at d3 ⊢; exact d3
    · rw [add_zero_block] at d4 ⊢; exact d4
    · rw [add_zero_block] at d5 ⊢; exact d5
/-- the row of a right adder with a number -/
def rowK (b : Nat) (k : Nat) : Arw := ⟨((k / b / b : Nat) : Int), ((k / b % b : Nat) : Int), ((k % b : Nat) : Int), (((k / b / b + k / b % b + k % b) % b : Nat) : Int), (((k / b / b + k / b % b + k % b) / b : Nat) : Int)⟩
def tabN (b k : Nat) : List Arw := (List.range k).map (rowK b)
theorem tabN_len (b k : Nat) : (tabN b k).length = k := by simp [tabN]
theorem tabN_succ (b k : Nat) : tabN b (k + 1) = tabN b k ++ [rowK b k] := by unfold tabN; rw [List.range_succ, List.map_append]; rfl
theorem rowK_at (b i x y : Nat) (hx : x < b) (hy : y < b) : rowK b ((i * b + x) * b + y) = ⟨(i : Int), (x : Int), (y : Int), (((i + x + y) % b : Nat) : Int), (((i + x + y) / b : Nat) : Int)⟩ := by
  have hb : 0 < b := by omega
  have e1 : ((i * b + x) * b + y) / b = i * b + x := by rw [Nat.mul_comm, Nat.mul_add_div hb, Nat.div_eq_of_lt hy, Nat.add_zero]
  have e2 : ((i * b + x) * b + y) % b = y := by rw [Nat.mul_comm, Nat.mul_add_mod, Nat.mod_eq_of_lt hy]
  have e3 : (i * b + x) / b = i := by rw [Nat.mul_comm, Nat.mul_add_div hb, Nat.div_eq_of_lt hx, Nat.add_zero]
  have e4 : (i * b + x) % b = x := by rw [Nat.mul_comm, Nat.mul_add_mod, Nat.mod_eq_of_lt hx]
  unfold rowK
  rw [e1, e2, e3, e4]
set_option maxRecDepth 100000 in
set_option maxHeartbeats 6400000 in
theorem rightTable_ok (b : Nat) (w : World) (b2 : 2 ≤ b) (b16 : b ≤ 16) :
    Calls Try.prog 51 #[.int .i64 (b : Int)] w fun e w' => ∃ A c, e = .returned (.slice A (2 * b * b) c) ∧ Kn w [.row (.slice A (2 * b * b) c) 100 5 (2 * b * b) (cellsA (tabN b (2 * b * b)))] w' := by
  have K0 := ((Kn.nil w).al [] 100).litRow (size := 5) (n := 0) rfl (by decide)
  obtain ⟨h, hh⟩ : ∃ h, w.heap.size = h := ⟨_, rfl⟩
  rw [hh] at K0
  go_enter Try.func51, Try.ntmps51
  go_upto_region 2 with fail
  try rw [hh]
  refine Code.wp.kn K0 ?_; clear K0 hh; intro w1 K1
  have K2 : Kn w [rowA (.slice (some ⟨h, 0, none⟩) 0 0) (tabN b ((0 * b + 0) * b + 0))] w1 := by
    have e : (0 * b + 0) * b + 0 = 0 := by simp
    rw [e]; exact K1
  clear K1
  go_wp2_with fail
  go_loopw [3, 8] (fun oo kk wr => ∃ i : Nat, i ≤ 2 ∧ kk = .int .i64 (i : Int) ∧ Kn w [rowA oo (tabN b ((i * b + 0) * b + 0))] wr) (fun _ kk _ => 2 - (intOf kk).toNat)
  case atStart => exact ⟨0, by omega, rfl, K2⟩
  case round =>
    clear K2
    obtain ⟨i, hi, rfl, K⟩ := hrel
    by_cases hi2 : i < 2
    · have i1 : (i : Int) < 2 := by omega
      go_wp2_with fail
      go_loopw [3, 12] (fun oo kk wr => ∃ x : Nat, x ≤ b ∧ kk = .int .i64 (x : Int) ∧ Kn w [rowA oo (tabN b ((i * b + x) * b + 0))] wr) (fun _ kk _ => b - (intOf kk).toNat)
      case atStart => exact ⟨0, by omega, rfl, K⟩
      case round =>
        clear K
        obtain ⟨x, hx, rfl, K⟩ := hrel
        by_cases hxb : x < b
        · have i2 : (x : Int) < (b : Int) := by omega
          go_wp2_with fail
          go_loopw [3, 16] (fun oo kk wr => ∃ y : Nat, y ≤ b ∧ kk = .int .i64 (y : Int) ∧ Kn w [rowA oo (tabN b ((i * b + x) * b + y))] wr) (fun _ kk _ => b - (intOf kk).toNat)
          case atStart => exact ⟨0, by omega, rfl, K⟩
          case round =>
            clear K
            obtain ⟨y, hy, rfl, K⟩ := hrel
            by_cases hyb : y < b
            · have i3 : (y : Int) < (b : Int) := by omega
              have HR := Lib.hid (rowK_at b i x y hxb hyb)
              have hk : (i * b + x) * b + y ≤ 1000 := by
                have h1 : i * b + x ≤ 31 := by
                  have : i * b ≤ 1 * 16 := Nat.mul_le_mul (by omega) b16
                  omega
                have : (i * b + x) * b ≤ 31 * 16 := Nat.mul_le_mul h1 b16
                omega
              obtain ⟨k, hkk⟩ : ∃ k, (i * b + x) * b + y = k := ⟨_, rfl⟩
              rw [hkk] at HR hk K
              have HK := Lib.hid hkk
              obtain ⟨d, hd⟩ : ∃ d, (i + x + y) % b = d := ⟨_, rfl⟩
              obtain ⟨e, he⟩ : ∃ e, (i + x + y) / b = e := ⟨_, rfl⟩
              rw [hd, he] at HR
              have hd16 : d < b := by rw [← hd]; exact Nat.mod_lt _ (by omega)
              have he16 : e ≤ 100 := by rw [← he]; exact Nat.le_trans (Nat.div_le_self _ _) (by omega)
              have f1 : IntKind.i64.wrap ((i : Int) + (x : Int)) = (i : Int) + (x : Int) := wrapI64 (by omega)
              have f2 : IntKind.i64.wrap ((i : Int) + (x : Int) + (y : Int)) = (i : Int) + (x : Int) + (y : Int) := wrapI64 (by omega)
              have f3 : ((i : Int) + (x : Int) + (y : Int)).tmod (b : Int) = (d : Int) := by rw [Int.tmod_eq_emod_of_nonneg (by omega), ← hd, show (i : Int) + (x : Int) + (y : Int) = ((i + x + y : Nat) : Int) by omega]; first | exact (Int.natCast_emod _ _).symm | exact (Int.natCast_mod _ _).symm | rfl
              have f4 : ((i : Int) + (x : Int) + (y : Int)).tdiv (b : Int) = (e : Int) := by rw [Int.tdiv_eq_ediv_of_nonneg (by omega), ← he, show (i : Int) + (x : Int) + (y : Int) = ((i + x + y : Nat) : Int) by omega]; first | exact (Int.natCast_ediv _ _).symm | exact (Int.natCast_div _ _).symm | rfl
              have f5 : (b : Int) ≠ 0 := by omega
              have f6 : ¬ (b : Int) = 0 := f5
              have f7 : ¬ b = 0 := by omega
              have f8 : IntKind.i64.wrap (d : Int) = (d : Int) := wrapI64 (by omega)
              have f9 : IntKind.i64.wrap (e : Int) = (e : Int) := wrapI64 (by omega)
              have f10 : ¬ (b : Int) = -1 := by omega
              clear hd he hd16 he16 hkk
              go_upto_region 11 with fail
              have K3 : Kn w [.row u3 100 5 k (cellsA (tabN b k))] wr := by
                have h := K
                unfold rowA at h
                rw [tabN_len] at h
                exact h
              refine wp_region_held_drew (S := fun _ => True) (by kernel_rfl) trivial (fun hHeld => ?_)
              have hKd := K3.drew
              try dsimp only
              generalize wr.drew = wd' at hKd hHeld ⊢
              clear K K3
              refine wpAnyH_take (i := 0) (v := ?_) rfl (by kernel_rfl) (by kernel_rfl) (by kernel_rfl) (fun _ _ _ h => h) (Or.inl ⟨by rfl, ?_⟩) hHeld ?_
              rotate_left
              · (intro w hSw; (try dsimp only at hSw); go_simp; try with_reducible rfl)
              try simp only [Act.put, List.setIfInBounds_toArray, List.set_cons_zero, List.set_cons_succ, List.getElem_toArray, List.getElem_cons_succ, List.getElem_cons_zero]
              refine wpAnyH_take (i := 1) (v := ?_) rfl (by kernel_rfl) (by kernel_rfl) (by kernel_rfl) (fun _ _ _ h => h) (Or.inl ⟨by rfl, ?_⟩) hHeld ?_
              rotate_left
              · (intro w hSw; (try dsimp only at hSw); go_simp; try with_reducible rfl)
              try simp only [Act.put, List.setIfInBounds_toArray, List.set_cons_zero, List.set_cons_succ, List.getElem_toArray, List.getElem_cons_succ, List.getElem_cons_zero]
              refine wpAnyH_take (i := 2) (v := ?_) rfl (by kernel_rfl) (by kernel_rfl) (by kernel_rfl) (fun _ _ _ h => h) (Or.inl ⟨by rfl, ?_⟩) hHeld ?_
              rotate_left
              · (intro w hSw; (try dsimp only at hSw); go_simp; try with_reducible rfl)
              try simp only [Act.put, List.setIfInBounds_toArray, List.set_cons_zero, List.set_cons_succ, List.getElem_toArray, List.getElem_cons_succ, List.getElem_cons_zero]
              refine wpAnyH_take (i := 3) (v := ?_) rfl (by kernel_rfl) (by kernel_rfl) (by kernel_rfl) (fun _ _ _ h => h) (Or.inl ⟨by rfl, ?_⟩) hHeld ?_
              rotate_left
              · (intro w hSw; (try dsimp only at hSw); go_simp; try with_reducible rfl)
              try simp only [Act.put, List.setIfInBounds_toArray, List.set_cons_zero, List.set_cons_succ, List.getElem_toArray, List.getElem_cons_succ, List.getElem_cons_zero]
              refine wpAnyH_take (i := 4) (v := ?_) rfl (by kernel_rfl) (by kernel_rfl) (by kernel_rfl) (fun _ _ _ h => h) (Or.inl ⟨by rfl, ?_⟩) hHeld ?_
              rotate_left
              · (intro w hSw; (try dsimp only at hSw); go_simp; try with_reducible rfl)
              try simp only [Act.put, List.setIfInBounds_toArray, List.set_cons_zero, List.set_cons_succ, List.getElem_toArray, List.getElem_cons_succ, List.getElem_cons_zero]
              refine wpAnyH_take (i := 5) (v := ?_) rfl (by kernel_rfl) (by kernel_rfl) (by kernel_rfl) (fun _ _ _ h => h) (Or.inl ⟨by rfl, ?_⟩) hHeld ?_
              rotate_left
              · (intro w hSw; (try dsimp only at hSw); go_simp; try with_reducible rfl)
              try simp only [Act.put, List.setIfInBounds_toArray, List.set_cons_zero, List.set_cons_succ, List.getElem_toArray, List.getElem_cons_succ, List.getElem_cons_zero]
              refine wpAnyH_take (i := 6) (v := ?_) rfl (by kernel_rfl) (by kernel_rfl) (by kernel_rfl) (fun _ _ _ h => h) (Or.inl ⟨by rfl, ?_⟩) hHeld ?_
              rotate_left
              · (intro w hSw; (try dsimp only at hSw); go_simp; try with_reducible rfl)
              try simp only [Act.put, List.setIfInBounds_toArray, List.set_cons_zero, List.set_cons_succ, List.getElem_toArray, List.getElem_cons_succ, List.getElem_cons_zero]
              refine wpAnyH_take (i := 7) (v := ?_) rfl (by kernel_rfl) (by kernel_rfl) (by kernel_rfl) (fun _ _ _ h => h) (Or.inl ⟨by rfl, ?_⟩) hHeld ?_
              rotate_left
              · (intro w hSw; (try dsimp only at hSw); go_simp; try with_reducible rfl)
              try simp only [Act.put, List.setIfInBounds_toArray, List.set_cons_zero, List.set_cons_succ, List.getElem_toArray, List.getElem_cons_succ, List.getElem_cons_zero]
              refine wpAnyH_take (i := 8) (v := ?_) rfl (by kernel_rfl) (by kernel_rfl) (by kernel_rfl) (fun _ _ _ h => h) (Or.inl ⟨by rfl, ?_⟩) hHeld ?_
              rotate_left
              · (intro w hSw; (try dsimp only at hSw); go_simp; try with_reducible rfl)
              try simp only [Act.put, List.setIfInBounds_toArray, List.set_cons_zero, List.set_cons_succ, List.getElem_toArray, List.getElem_cons_succ, List.getElem_cons_zero]
              refine wpAnyH_take (i := 9) (v := ?_) rfl (by kernel_rfl) (by kernel_rfl) (by kernel_rfl) (fun _ _ _ h => h) (Or.inl ⟨by rfl, ?_⟩) hHeld ?_
              rotate_left
              · (intro w hSw; (try dsimp only at hSw); go_simp; try with_reducible rfl)
              try simp only [Act.put, List.setIfInBounds_toArray, List.set_cons_zero, List.set_cons_succ, List.getElem_toArray, List.getElem_cons_succ, List.getElem_cons_zero]
              refine wpAnyH_take (i := 10) (v := ?_) rfl (by kernel_rfl) (by kernel_rfl) (by kernel_rfl) (fun _ _ _ h => h) (Or.inl ⟨by rfl, ?_⟩) hHeld ?_
              rotate_left
              · (intro w hSw; (try dsimp only at hSw); go_simp; try with_reducible rfl)
              try simp only [Act.put, List.setIfInBounds_toArray, List.set_cons_zero, List.set_cons_succ, List.getElem_toArray, List.getElem_cons_succ, List.getElem_cons_zero]
              refine wpAnyH_take (i := 11) (v := ?_) rfl (by kernel_rfl) (by kernel_rfl) (by kernel_rfl) (fun _ _ _ h => h) (Or.inl ⟨by rfl, ?_⟩) hHeld ?_
              rotate_left
              · (intro w hSw; (try dsimp only at hSw); go_simp; try with_reducible rfl)
              try simp only [Act.put, List.setIfInBounds_toArray, List.set_cons_zero, List.set_cons_succ, List.getElem_toArray, List.getElem_cons_succ, List.getElem_cons_zero]
              refine wpAnyH_take (i := 12) (v := ?_) rfl (by kernel_rfl) (by kernel_rfl) (by kernel_rfl) (fun _ _ _ h => h) (Or.inl ⟨by rfl, ?_⟩) hHeld ?_
              rotate_left
              · (intro w hSw; (try dsimp only at hSw); go_simp; try with_reducible rfl)
              try simp only [Act.put, List.setIfInBounds_toArray, List.set_cons_zero, List.set_cons_succ, List.getElem_toArray, List.getElem_cons_succ, List.getElem_cons_zero]
              refine wpAnyH_take (i := 13) (v := ?_) rfl (by kernel_rfl) (by kernel_rfl) (by kernel_rfl) (fun _ _ _ h => h) (Or.inl ⟨by rfl, ?_⟩) hHeld ?_
              rotate_left
              · (intro w hSw; (try dsimp only at hSw); go_simp; try with_reducible rfl)
              try simp only [Act.put, List.setIfInBounds_toArray, List.set_cons_zero, List.set_cons_succ, List.getElem_toArray, List.getElem_cons_succ, List.getElem_cons_zero]
              refine wpAnyH_take (i := 14) (v := ?_) rfl (by kernel_rfl) (by kernel_rfl) (by kernel_rfl) (fun _ _ _ h => h) (Or.inl ⟨by rfl, ?_⟩) hHeld ?_
              rotate_left
              · (intro w hSw; (try dsimp only at hSw); go_simp; try with_reducible rfl)
              try simp only [Act.put, List.setIfInBounds_toArray, List.set_cons_zero, List.set_cons_succ, List.getElem_toArray, List.getElem_cons_succ, List.getElem_cons_zero]
              refine wpAnyH_take (i := 15) (v := ?_) rfl (by kernel_rfl) (by kernel_rfl) (by kernel_rfl) (fun _ _ _ h => h) (Or.inl ⟨by rfl, ?_⟩) hHeld ?_
              rotate_left
              · (intro w hSw; (try dsimp only at hSw); go_simp; try with_reducible rfl)
              try simp only [Act.put, List.setIfInBounds_toArray, List.set_cons_zero, List.set_cons_succ, List.getElem_toArray, List.getElem_cons_succ, List.getElem_cons_zero]
              refine wpAnyH_take (i := 16) (v := ?_) rfl (by kernel_rfl) (by kernel_rfl) (by kernel_rfl) (fun _ _ _ h => h) (Or.inl ⟨by rfl, ?_⟩) hHeld ?_
              rotate_left
              · (intro w hSw; (try dsimp only at hSw); go_simp; try with_reducible rfl)
              try simp only [Act.put, List.setIfInBounds_toArray, List.set_cons_zero, List.set_cons_succ, List.getElem_toArray, List.getElem_cons_succ, List.getElem_cons_zero]
              refine wpAnyH_take (i := 17) (v := ?_) rfl (by kernel_rfl) (by kernel_rfl) (by kernel_rfl) (fun _ _ _ h => h) (Or.inl ⟨by rfl, ?_⟩) hHeld ?_
              rotate_left
              · (intro w hSw; (try dsimp only at hSw); go_simp; try with_reducible rfl)
              try simp only [Act.put, List.setIfInBounds_toArray, List.set_cons_zero, List.set_cons_succ, List.getElem_toArray, List.getElem_cons_succ, List.getElem_cons_zero]
              refine wpAnyH_take (i := 18) (v := ?_) rfl (by kernel_rfl) (by kernel_rfl) (by kernel_rfl) (fun _ _ _ h => h) (Or.inl ⟨by rfl, ?_⟩) hHeld ?_
              rotate_left
              · (intro w hSw; (try dsimp only at hSw); go_simp; try with_reducible rfl)
              try simp only [Act.put, List.setIfInBounds_toArray, List.set_cons_zero, List.set_cons_succ, List.getElem_toArray, List.getElem_cons_succ, List.getElem_cons_zero]
              refine wpAnyH_ready (rs := [19]) (by kernel_rfl) (by decide) (AllReadyH.cons (o := _) rfl (fun K hK' => ?_) AllReadyH.nil)
              go_simp
              have KO1 := hKd.al [.int .i64 (i : Int), .int .i64 (x : Int), .int .i64 (y : Int), .int .i64 (d : Int), .int .i64 (e : Int)] 100
              have HG := Lib.hid (trivial)
              refine hK'.out _ _ HG.out (fun hHeld2 => ?_)
              clear hK' hHeld
              have hHeld := hHeld2
              clear hHeld2
              try simp only [Act.put, List.setIfInBounds_toArray]
              generalize wd'.alloc (.cells #[.int .i64 (i : Int), .int .i64 (x : Int), .int .i64 (y : Int), .int .i64 (d : Int), .int .i64 (e : Int)] 100) = wo1 at KO1 hHeld ⊢
              obtain ⟨gl1, hgl1⟩ : ∃ g, wd'.heap.size = g := ⟨_, rfl⟩
              rw [hgl1] at KO1 ⊢
              clear hgl1
              refine wpAnyH_ready (rs := [20]) (by kernel_rfl) (by decide) (AllReadyH.cons (o := _) rfl (fun K hK' => ?_) AllReadyH.nil)
              refine kn_step_app tpA (by rfl) _ _ (by rfl) _ k (cellsA (tabN b k)) (by rfl) (by rfl) (KO1.sel [0, 1] 99 (by decide) (by decide)) rfl (by simp [Value.oneCell']) (by omega) (by omega) ?_
              intro v' wo2 hK7
              obtain ⟨A2, c2, rfl⟩ := row_form hK7.at0
              have KO2 := hK7
              clear hK7
              have HG := Lib.hid (trivial)
              refine hK'.out _ _ HG.out (fun hHeld2 => ?_)
              clear hK' hHeld
              have hHeld := hHeld2
              clear hHeld2
              try simp only [Act.put, List.setIfInBounds_toArray]
              refine wpAnyH_take (i := 21) (v := ?_) rfl (by kernel_rfl) (by kernel_rfl) (by kernel_rfl) (fun _ _ _ h => h) (Or.inl ⟨by rfl, ?_⟩) hHeld ?_
              rotate_left
              · (intro w hSw; (try dsimp only at hSw); go_simp; try with_reducible rfl)
              try simp only [Act.put, List.setIfInBounds_toArray, List.set_cons_zero, List.set_cons_succ, List.getElem_toArray, List.getElem_cons_succ, List.getElem_cons_zero]
              refine wpAnyH_done (by kernel_rfl) ?_ _
              go_wp2_with fail
              go_roundw
              case rel => exact ⟨y + 1, by omega, by go_num, by rw [show (i * b + x) * b + (y + 1) = k + 1 by rw [← HK.out]; rfl, tabN_succ, HR.out]; unfold rowA; rw [cellsA_snoc, List.length_append, tabN_len]; exact KO2⟩
              case measure => simp [intOf] <;> omega
            · have i3 : ¬ (y : Int) < (b : Int) := by omega
              obtain rfl : y = b := by omega
              go_wp2_with fail
              go_roundw
              case rel => exact ⟨x + 1, by omega, by go_num, by rw [show (i * y + (x + 1)) * y + 0 = (i * y + x) * y + y by rw [← Nat.add_assoc, Nat.succ_mul]; omega]; exact K⟩
              case measure => simp [intOf] <;> omega
        · have i2 : ¬ (x : Int) < (b : Int) := by omega
          obtain rfl : x = b := by omega
          go_wp2_with fail
          go_roundw
          case rel => exact ⟨i + 1, by omega, by go_num, by rw [show ((i + 1) * x + 0) * x + 0 = (i * x + x) * x + 0 by rw [Nat.succ_mul]; rfl]; exact K⟩
          case measure => simp [intOf] <;> omega
    · have i1 : ¬ (i : Int) < 2 := by omega
      obtain rfl : i = 2 := by omega
      obtain ⟨A, c, hv⟩ := row_form K.at0
      rw [tabN_len] at hv
      have e : (2 * b + 0) * b + 0 = 2 * b * b := by simp
      rw [e] at K hv
      subst hv
      have K2 := K
      unfold rowA at K2
      rw [tabN_len] at K2
      clear K e
      go_wp2_with fail
      go_ret
      exact ⟨A, c, rfl, K2⟩
end Go.Proofs.Ytmmiahgmdllgdaa

namespace Go.Proofs.Ytmmiahgmdllgdaa
open Go.RowKit Go.Sort
theorem rowK_bd (b k : Nat) (b2 : 2 ≤ b) (hk : k < 2 * b * b) : (0 ≤ (rowK b k).d ∧ (rowK b k).d ≤ (b : Int) - 1) ∧ 0 ≤ (rowK b k).c ∧ (rowK b k).c ≤ 1 := by
  have h1 : k / b / b ≤ 1 := by
    rw [Nat.div_div_eq_div_mul]
    have : k / (b * b) < 2 := Nat.div_lt_of_lt_mul (by rw [Nat.mul_comm (b * b) 2, ← Nat.mul_assoc]; exact hk)
    omega
  have h2 := Nat.mod_lt (k / b) (show b > 0 by omega)
  have h3 := Nat.mod_lt k (show b > 0 by omega)
  have h4 := Nat.mod_lt (k / b / b + k / b % b + k % b) (show b > 0 by omega)
  have h5 : (k / b / b + k / b % b + k % b) / b ≤ 1 := by
    have : (k / b / b + k / b % b + k % b) / b < 2 := Nat.div_lt_of_lt_mul (by omega)
    omega
  unfold rowK
  dsimp only
  generalize (k / b / b + k / b % b + k % b) % b = p at h4 ⊢
  generalize (k / b / b + k / b % b + k % b) / b = q at h5 ⊢
  clear h1 h2 h3
  omega
theorem Kn.rowAt {w0 w : World} {m : List Ent} {g c N b k : Nat} (h : Kn w0 (.row (.slice (some ⟨g, 0, none⟩) N c) 100 5 N (cellsA (tabN b N)) :: m) w) (hk : k < N) :
    w.cell? ⟨g, k * 5, none⟩ = some (.int .i64 (rowK b k).i) ∧ w.cell? ⟨g, k * 5 + 1, none⟩ = some (.int .i64 (rowK b k).a) ∧ w.cell? ⟨g, k * 5 + 2, none⟩ = some (.int .i64 (rowK b k).b) ∧ w.cell? ⟨g, k * 5 + 3, none⟩ = some (.int .i64 (rowK b k).d) ∧ w.cell? ⟨g, k * 5 + 4, none⟩ = some (.int .i64 (rowK b k).c) := by
  have hl : k < (tabN b N).length := by rw [tabN_len]; exact hk
  have e : (tabN b N)[k] = rowK b k := by simp [tabN]
  obtain ⟨c1, c2, c3, c4, c5⟩ := cellsA_get (tabN b N) k hl
  rw [e] at c1 c2 c3 c4 c5
  exact ⟨(Kn.rowCell h c1).1, (Kn.rowCell h c2).1, (Kn.rowCell h c3).1, (Kn.rowCell h c4).1, (Kn.rowCell h c5).1⟩
set_option maxRecDepth 100000 in
set_option maxHeartbeats 6400000 in
theorem isAddTable_true (b N : Nat) (A : Option Addr) (c : Nat) (w : World) (b2 : 2 ≤ b) (b16 : b ≤ 16) (hN : 2 * b * b = N) (hr : RL ArM 5 w A N (tabN b N)) :
    Calls Try.prog 54 #[.int .i64 (b : Int), .slice A N c] w fun e w' => e = .returned (.bool true) ∧ Below w.heap.size w w' := by
  have KT := (fun W => rightTable_ok b W b2 b16)
  rw [hN] at KT
  replace KT := Lib.hid KT
  have HR := Lib.hid (fun W (hW : Below w.heap.size w W) => hr.below steady_ArM hW)
  have HBD := Lib.hid (fun k (hk : k < N) => rowK_bd b k b2 (by rw [hN]; exact hk))
  have hN5 : N ≤ 512 := by
    rw [← hN]
    have : 2 * b * b ≤ 2 * 16 * 16 := Nat.mul_le_mul (Nat.mul_le_mul (Nat.le_refl _) b16) b16
    omega
  have hN0 : 0 < N := by
    rw [← hN]
    exact Nat.mul_pos (by omega) (by omega)
  have f0 : IntKind.i64.wrap ((b : Int) - 1) = (b : Int) - 1 := wrapI64 (by omega)
  clear hr hN
  have K0 := Kn.nil w
  go_enter Try.func54, Try.ntmps54
  go_upto_region 2 with (go_at_call 51; refine (KT.out _).mono ?_; rintro e w1 ⟨R, rc, rfl, hK⟩; have K1 := K0.join hK; clear hK K0)
  obtain ⟨gr, rc', hE⟩ := K1.rowForm hN0
  injection hE with z1 z2 z3
  subst z1 z3
  clear z2
  go_wp2_with fail
  go_loopw [17] (fun kk wr => ∃ k : Nat, k ≤ N ∧ kk = .int .i64 (k : Int) ∧ Kn w [.row (.slice (some ⟨gr, 0, none⟩) N rc) 100 5 N (cellsA (tabN b N))] wr) (fun kk _ => N - (intOf kk).toNat)
  case atStart => exact ⟨0, Nat.zero_le _, rfl, K1⟩
  case round =>
    clear K1
    obtain ⟨k, hk, rfl, K⟩ := hrel
    by_cases hk1 : k < N
    · have i1 : (k : Int) < (N : Int) := by omega
      have i0 : (0 : Int) ≤ (k : Int) := by omega
      obtain ⟨ad, hA, -, hkl, h1, h2, h3, h4, h5⟩ := (HR.out _ K.below).at_ hk1
      have e0 : (tabN b N)[k] = rowK b k := by simp [tabN]
      rw [e0] at h1 h2 h3 h4 h5
      have hbd := HBD.out k hk1
      have hra := fun W (K : Kn w [.row (.slice (some ⟨gr, 0, none⟩) N rc) 100 5 N (cellsA (tabN b N))] W) => K.rowAt hk1
      obtain ⟨r, hr⟩ : ∃ r, rowK b k = r := ⟨_, rfl⟩
      rw [hr] at h1 h2 h3 h4 h5 hbd
      simp only [hr] at hra
      obtain ⟨i, a, y, d, e⟩ := r
      dsimp only at h1 h2 h3 h4 h5 hbd hra
      have HRA := Lib.hid hra
      have KB1 := Lib.hid (fun (W : World) => (show Calls Try.prog 74 #[.int .i64 d, .int .i64 0, .int .i64 ((b : Int) - 1)] W (fun e w' => e = .returned (.bool true) ∧ Below W.heap.size W w') from (between_any _ _ _ _).mono fun e w' h => ⟨by rw [h.1, betB_iff.2 (by omega)], by rw [← h.2]; exact Below.refl _ _⟩))
      have KB2 := Lib.hid (fun (W : World) => (show Calls Try.prog 74 #[.int .i64 e, .int .i64 0, .int .i64 1] W (fun e w' => e = .returned (.bool true) ∧ Below W.heap.size W w') from (between_any _ _ _ _).mono fun e w' h => ⟨by rw [h.1, betB_iff.2 (by omega)], by rw [← h.2]; exact Below.refl _ _⟩))
      have n1 : (i != i) = false := bne_self_eq_false i
      have n2 : (a != a) = false := bne_self_eq_false a
      have n3 : (y != y) = false := bne_self_eq_false y
      subst hA
      clear hr e0 hkl hbd hra
      have K3 := K.al [.int .i64 i, .int .i64 a, .int .i64 y, .int .i64 d, .int .i64 e] 100
      obtain ⟨g7, hg⟩ : ∃ g, wr.heap.size = g := ⟨_, rfl⟩
      rw [hg] at K3
      go_upto_region 7 with fail
      try rw [hg]
      refine Code.wp.kn K3 ?_; clear K3 K hg h1 h2 h3 h4 h5; intro w5 K5
      obtain ⟨r1, r2, r3, r4, r5⟩ := HRA.out _ (K5.sel [1] 99 (by decide) (by decide))
      have x0 := cell_regrown (K5.cellIs 0 _ rfl)
      have x1 := cell_regrown (K5.cellIs 1 _ rfl)
      have x2 := cell_regrown (K5.cellIs 2 _ rfl)
      have x3 := cell_regrown (K5.cellIs 3 _ rfl)
      have x4 := cell_regrown (K5.cellIs 4 _ rfl)
      have y0 := cell_regrown r1
      have y1 := cell_regrown r2
      have y2 := cell_regrown r3
      clear r1 r2 r3 r4 r5
      refine wp_region_quiet_below (by kernel_rfl) (by kernel_rfl) ?_
      repeat (go_big_quiet_step ((go_at_call 74; first | (with_reducible exact quietB (fun W _ => KB1.out W)) | (with_reducible exact quietB (fun W _ => KB2.out W)))))
      refine wpQuiet_nil ?_
      intro _ hw'
      obtain ⟨⟨dq, osq⟩, hw''⟩ := hw'
      subst hw''
      have K6 := K5.keep (below_regrown w5 dq osq)
      dsimp only
      clear x0 x1 x2 x3 x4 y0 y1 y2
      obtain ⟨w9, hw9⟩ : ∃ W, grow (redrawn w5 dq) osq = W := ⟨_, rfl⟩
      rw [hw9] at K6 ⊢
      clear hw9
      go_wp2_with fail
      go_roundw
      case rel => exact ⟨k + 1, by omega, by go_num, K6.sel [1] 99 (by decide) (by decide)⟩
      case measure => simp [intOf] <;> omega
    · have i1 : ¬ (k : Int) < (N : Int) := by omega
      go_wp2_with fail
      go_ret
      exact ⟨rfl, K.below⟩
set_option maxRecDepth 100000 in
set_option maxHeartbeats 6400000 in
theorem wrongRow_none (b N : Nat) (A : Option Addr) (c : Nat) (w : World) (b2 : 2 ≤ b) (b16 : b ≤ 16) (hN : 2 * b * b = N) (hr : RL ArM 5 w A N (tabN b N)) :
    Calls Try.prog 53 #[.int .i64 (b : Int), .slice A N c] w fun e w' => e = .returned (.int .i64 (-1)) ∧ Below w.heap.size w w' := by
  have KT := (fun W => rightTable_ok b W b2 b16)
  rw [hN] at KT
  replace KT := Lib.hid KT
  have HR := Lib.hid (fun W (hW : Below w.heap.size w W) => hr.below steady_ArM hW)
  have hN5 : N ≤ 512 := by
    rw [← hN]
    have : 2 * b * b ≤ 2 * 16 * 16 := Nat.mul_le_mul (Nat.mul_le_mul (Nat.le_refl _) b16) b16
    omega
  have hN0 : 0 < N := by
    rw [← hN]
    exact Nat.mul_pos (by omega) (by omega)
  clear hr hN
  have K0 := Kn.nil w
  go_enter Try.func53, Try.ntmps53
  go_upto_region 1 with fail
  go_wp2_with (go_at_call 51; refine (KT.out _).mono ?_; rintro e w1 ⟨R, rc, rfl, hK⟩; have K1 := K0.join hK; clear hK K0; obtain ⟨gr, rc', hE⟩ := K1.rowForm hN0; injection hE with z1 z2 z3; subst z1 z3; clear z2)
  go_loopw [10] (fun kk wr => ∃ k : Nat, k ≤ N ∧ kk = .int .i64 (k : Int) ∧ Kn w [.row (.slice (some ⟨gr, 0, none⟩) N rc) 100 5 N (cellsA (tabN b N))] wr) (fun kk _ => N - (intOf kk).toNat)
  case atStart => exact ⟨0, Nat.zero_le _, rfl, K1⟩
  case round =>
    clear K1
    obtain ⟨k, hk, rfl, K⟩ := hrel
    by_cases hk1 : k < N
    · have i1 : (k : Int) < (N : Int) := by omega
      have i0 : (0 : Int) ≤ (k : Int) := by omega
      obtain ⟨ad, hA, -, hkl, h1, h2, h3, h4, h5⟩ := (HR.out _ K.below).at_ hk1
      have e0 : (tabN b N)[k] = rowK b k := by simp [tabN]
      rw [e0] at h1 h2 h3 h4 h5
      have hra := K.rowAt hk1
      obtain ⟨r, hr⟩ : ∃ r, rowK b k = r := ⟨_, rfl⟩
      rw [hr] at h1 h2 h3 h4 h5 hra
      obtain ⟨i, a, y, d, e⟩ := r
      dsimp only at h1 h2 h3 h4 h5 hra
      obtain ⟨r1, r2, r3, r4, r5⟩ := hra
      have HA := Lib.hid hA
      have HRW := Lib.hid (fun W (K : Kn w [.blk wr.heap.size [.int .i64 i, .int .i64 a, .int .i64 y, .int .i64 d, .int .i64 e] 100] W) => (show (((W.cell? (ad.add (k * 5)) = some (.int .i64 i) ∧ W.cell? ⟨(ad.add (k * 5)).block, (ad.add (k * 5)).off + 1, none⟩ = some (.int .i64 a)) ∧ W.cell? ⟨(ad.add (k * 5)).block, (ad.add (k * 5)).off + 2, none⟩ = some (.int .i64 y)) ∧ W.cell? ⟨(ad.add (k * 5)).block, (ad.add (k * 5)).off + 3, none⟩ = some (.int .i64 d)) ∧ W.cell? ⟨(ad.add (k * 5)).block, (ad.add (k * 5)).off + 4, none⟩ = some (.int .i64 e) by
        obtain ⟨ad2, hA2, -, hkl2, j1, j2, j3, j4, j5⟩ := (HR.out _ K.below).at_ hk1
        rw [HA.out] at hA2
        injection hA2 with hA2
        subst hA2
        rw [e0, hr] at j1 j2 j3 j4 j5
        exact ⟨⟨⟨⟨j1, j2⟩, j3⟩, j4⟩, j5⟩))
      subst hA
      clear hr e0 hkl h1 h2 h3 h4 h5
      have K3 := K.al [.int .i64 i, .int .i64 a, .int .i64 y, .int .i64 d, .int .i64 e] 100
      obtain ⟨g7, hg⟩ : ∃ g, wr.heap.size = g := ⟨_, rfl⟩
      rw [hg] at K3 HRW
      go_upto_region 4 with fail
      try rw [hg]
      refine Code.wp.kn K3 ?_; clear K3 K hg r1 r2 r3 r4 r5; intro w5 K5
      obtain ⟨⟨⟨⟨j1, j2⟩, j3⟩, j4⟩, j5⟩ := HRW.out _ (K5.sel [0] 99 (by decide) (by decide))
      have x0 := cell_regrown (K5.cellIs 0 _ rfl)
      have x1 := cell_regrown (K5.cellIs 1 _ rfl)
      have x2 := cell_regrown (K5.cellIs 2 _ rfl)
      have x3 := cell_regrown (K5.cellIs 3 _ rfl)
      have x4 := cell_regrown (K5.cellIs 4 _ rfl)
      have y0 := cell_regrown j1
      have y1 := cell_regrown j2
      have y2 := cell_regrown j3
      have y3 := cell_regrown j4
      have y4 := cell_regrown j5
      clear j1 j2 j3 j4 j5
      refine wp_region_quiet_below (by kernel_rfl) (by kernel_rfl) ?_
      repeat (go_big_quiet_step (fail))
      refine wpQuiet_nil ?_
      intro _ hw'
      obtain ⟨⟨dq, osq⟩, hw''⟩ := hw'
      subst hw''
      have K6 := K5.keep (below_regrown w5 dq osq)
      dsimp only
      clear x0 x1 x2 x3 x4 y0 y1 y2 y3 y4
      obtain ⟨w9, hw9⟩ : ∃ W, grow (redrawn w5 dq) osq = W := ⟨_, rfl⟩
      rw [hw9] at K6 ⊢
      clear hw9
      go_wp2_with fail
      go_roundw
      case rel => exact ⟨k + 1, by omega, by go_num, K6.sel [1] 99 (by decide) (by decide)⟩
      case measure => simp [intOf] <;> omega
    · have i1 : ¬ (k : Int) < (N : Int) := by omega
      go_wp2_with fail
      go_ret
      exact ⟨rfl, K.below⟩
theorem RightTable_ok (b N : Nat) (w : World) (b2 : 2 ≤ b) (b16 : b ≤ 16) (hN : 2 * b * b = N) :
    Calls Try.prog 11 #[.int .i64 (b : Int)] w fun e w' => ∃ A c, e = .returned (.tuple #[.slice A N c, .int .i64 0]) ∧ Kn w [.row (.slice A N c) 100 5 N (cellsA (tabN b N))] w' := by
  have KT := (fun W => rightTable_ok b W b2 b16)
  rw [hN] at KT
  replace KT := Lib.hid KT
  have hbB : betB (b : Int) 2 16 = true := betB_iff.2 (by omega)
  go_enter Try.func11, Try.ntmps11
  go_wp2_with (first | (go_at_call 50; refine (isBase_any _ _).mono ?_; rintro e w2 ⟨rfl, rfl⟩; try rw [hbB]) | (go_at_call 51; refine (KT.out _).mono ?_; rintro e w1 ⟨R, rc, rfl, hK⟩))
  go_ret2
  exact ⟨R, rc, rfl, hK⟩
theorem tableCode_ok (b N : Nat) (A : Option Addr) (c : Nat) (w : World) (b2 : 2 ≤ b) (b16 : b ≤ 16) (hN : 2 * b * b = N) (hr : RL ArM 5 w A N (tabN b N)) :
    Calls Try.prog 52 #[.int .i64 (b : Int), .slice A N c] w fun e w' => e = .returned (.int .i64 0) ∧ Below w.heap.size w w' := by
  have KI := Lib.hid (isAddTable_true b N A c w b2 b16 hN hr)
  have hbB : betB (b : Int) 2 16 = true := betB_iff.2 (by omega)
  clear hr hN
  go_enter Try.func52, Try.ntmps52
  go_wp2_with (first | (go_at_call 50; refine (isBase_any _ _).mono ?_; rintro e w2 ⟨rfl, rfl⟩; try rw [hbB]) | (go_at_call 54; refine KI.out.mono ?_; rintro e w1 ⟨rfl, hw⟩))
  go_ret
  exact ⟨rfl, hw⟩
theorem TableFault_ok (b N : Nat) (A : Option Addr) (c : Nat) (w : World) (b2 : 2 ≤ b) (b16 : b ≤ 16) (hN : 2 * b * b = N) (hr : RL ArM 5 w A N (tabN b N)) :
    Calls Try.prog 12 #[.int .i64 (b : Int), .slice A N c] w fun e w' => e = .returned (.tuple #[.int .i64 (-1), .int .i64 0]) ∧ Below w.heap.size w w' := by
  have KI := Lib.hid (tableCode_ok b N A c w b2 b16 hN hr)
  have KW := Lib.hid (fun W (hW : Below w.heap.size w W) => wrongRow_none b N A c W b2 b16 hN (hr.below steady_ArM hW))
  clear hr hN
  go_enter Try.func12, Try.ntmps12
  go_wp2_with (first | (go_at_call 52; refine KI.out.mono ?_; rintro e w1 ⟨rfl, hw⟩) | (go_at_call 53; refine (KW.out _ hw).mono ?_; rintro e w2 ⟨rfl, hw2⟩))
  go_ret2
  exact ⟨rfl, hw.trans (hw2.mono hw.size)⟩
end Go.Proofs.Ytmmiahgmdllgdaa

namespace Go.Proofs.Ytmmiahgmdllgdaa
open Go.RowKit Go.Sort
def carL (b : Int) (xs ys : List Int) (n : Nat) : List Int := (List.range n).map (carK b xs ys)
theorem carL_succ (b : Int) (xs ys : List Int) (n : Nat) : carL b xs ys (n + 1) = carL b xs ys n ++ [carK b xs ys n] := by unfold carL; rw [List.range_succ, List.map_append]; rfl
theorem carL_len (b : Int) (xs ys : List Int) (n : Nat) : (carL b xs ys n).length = n := by simp [carL]
theorem carL_get (b : Int) (xs ys : List Int) {n i : Nat} (h : i < n) : ∃ h' : i < (carL b xs ys n).length, (carL b xs ys n)[i] = carK b xs ys i := ⟨by rw [carL_len]; exact h, by simp [carL]⟩
def ADRet (b : Int) (xs ys : List Int) (w : World) (e : Ending) (w' : World) : Prop := ∃ E ec F fc, e = .returned (.tuple #[.agg #[.int .i64 b, .slice E xs.length ec], .slice F (xs.length + 1) fc]) ∧ Kn w [rowI E ec (addD b xs ys xs.length), rowI F fc (carL b xs ys (xs.length + 1))] w'
set_option maxRecDepth 100000 in
set_option maxHeartbeats 6400000 in
theorem added_any (b : Int) (XA : Option Addr) (xc : Nat) (xs : List Int) (YA : Option Addr) (yc : Nat) (ys : List Int) (w : World) (hx : RI w XA xs.length xs) (hy : RI w YA ys.length ys) (hb : 2 ≤ b) (hb16 : b ≤ 16) (hdx : Digs b xs) (hdy : Digs b ys) (hl : xs.length = ys.length) (hm : xs.length ≤ 16) :
    Calls Try.prog 59 #[.agg #[.int .i64 b, .slice XA xs.length xc], .agg #[.int .i64 b, .slice YA ys.length yc]] w (ADRet b xs ys w) := by
  unfold ADRet
  have HDX := Lib.hid hdx
  have HDY := Lib.hid hdy
  have HLL := Lib.hid hl
  have HCB := Lib.hid (carK_bd hb hdx hdy)
  have HSB := Lib.hid (fun i => sumK_bd hb xs ys i)
  clear hdx hdy hl
  obtain ⟨g1, hg1⟩ : ∃ g, w.heap.size = g := ⟨_, rfl⟩
  have K0 := (((((Kn.nil w).al [.int .i64 b, .slice XA xs.length xc] 26).al [.int .i64 b, .slice YA ys.length yc] 26).al [.int .i64 0, .slice none 0 0] 26).al [.int .i64 b, .slice none 0 0] 26).al [.int .i64 0] 2
  simp only [World.size_alloc, hg1] at K0
  go_enter Try.func59, Try.ntmps59
  go_upto_region 3 with fail
  refine Code.wp.kn K0 ?_; clear K0; intro w1 K1
  try rw [hg1]
  have K2 : Kn w [.row (.slice (some ⟨g1 + 1 + 1 + 1 + 1, 0, none⟩) 1 1) 2 1 1 ((carL b xs ys 1).map (Value.int .i64)), .blk (g1 + 1 + 1 + 1) [.int .i64 b, .slice none 0 0] 26, .blk (g1 + 1 + 1) [.int .i64 0, .slice none 0 0] 26, .blk (g1 + 1) [.int .i64 b, .slice YA ys.length yc] 26, .blk g1 [.int .i64 b, .slice XA xs.length xc] 26] w1 := K1.litRow (size := 1) (n := 1) rfl (by decide)
  clear K1
  obtain ⟨gO, hgO⟩ : ∃ g, g1 + 1 + 1 + 1 = g := ⟨_, rfl⟩
  rw [hgO] at K2 ⊢
  obtain ⟨gC, hgC⟩ : ∃ g, gO + 1 = g := ⟨_, rfl⟩
  rw [hgC] at K2
  try rw [hgC]
  clear hgO hgC
  obtain ⟨a1, a2, a3, -⟩ := (K2.front 4 rfl).cells
  go_wp2_with fail
  clear a1 a2 a3
  have K3 : Kn w [.row (.slice none 0 0) 2 1 (addD b xs ys 0).length ((addD b xs ys 0).map (Value.int .i64)), .row (.slice (some ⟨gC, 0, none⟩) 1 1) 2 1 1 ((carL b xs ys 1).map (Value.int .i64)), .blk gO [.int .i64 b, .slice none 0 0] 26, .blk (g1 + 1 + 1) [.int .i64 0, .slice none 0 0] 26, .blk (g1 + 1) [.int .i64 b, .slice YA ys.length yc] 26, .blk g1 [.int .i64 b, .slice XA xs.length xc] 26] w1 := K2.nilRow _ _
  clear K2
  go_loopw [7, 17] (fun cv ii wr => ∃ (k : Nat) (vv cw : Value), k ≤ xs.length ∧ ii = .int .i64 (k : Int) ∧ cv = cw ∧ Kn w [.row vv 2 1 (addD b xs ys k).length ((addD b xs ys k).map (Value.int .i64)), .row cw 2 1 (carL b xs ys (k + 1)).length ((carL b xs ys (k + 1)).map (Value.int .i64)), .blk gO [.int .i64 b, vv] 26, .blk (g1 + 1 + 1) [.int .i64 0, .slice none 0 0] 26, .blk (g1 + 1) [.int .i64 b, .slice YA ys.length yc] 26, .blk g1 [.int .i64 b, .slice XA xs.length xc] 26] wr) (fun _ ii _ => xs.length - (intOf ii).toNat)
  case atStart => exact ⟨0, _, _, Nat.zero_le _, rfl, rfl, K3⟩
  case round =>
    clear K3
    obtain ⟨k, vv, cw, hk, rfl, rfl, hK⟩ := hrel
    rw [carL_len] at hK
    obtain ⟨gc, cc, rfl⟩ := (hK.front 1 rfl).rowForm (by omega)
    by_cases hkn : k < xs.length
    · have i1 : (k : Int) < (xs.length : Int) := by omega
      have i0 : (0 : Int) ≤ (k : Int) := by omega
      have hkny : k < ys.length := by have := HLL.out; omega
      have i2 : (k : Int) < (ys.length : Int) := by omega
      have i3 : (k : Int) < (k : Int) + 1 := by omega
      obtain ⟨adx, hA, hltx, hkx, hcx⟩ := (hx.below hK.below).at_ hkn
      obtain ⟨ady, hB, hlty, hky, hcy⟩ := (hy.below hK.below).at_ hkny
      have bx := HDX.out xs[k] (List.getElem_mem hkn)
      have bY := HDY.out ys[k] (List.getElem_mem hkny)
      have hcb := HCB.out k
      have hsb := HSB.out k
      have hcb2 := HCB.out (k + 1)
      obtain ⟨hcl, hcg⟩ := carL_get b xs ys (show k < k + 1 by omega)
      obtain ⟨z1, z2⟩ := Kn.rowCell (hK.front 1 rfl) (j := k) (u := .int .i64 (carK b xs ys k)) (by rw [← hcg]; simp [hcl])
      have hZ : sumK b xs ys k = (xs[k] + ys[k] + carK b xs ys k) % b := by rw [sumK, getD_of hkn, getD_of hkny]
      have hQ : carK b xs ys (k + 1) = (xs[k] + ys[k] + carK b xs ys k) / b := by rw [carK, getD_of hkn, getD_of hkny]
      obtain ⟨x, hxx⟩ : ∃ x, xs[k] = x := ⟨_, rfl⟩
      obtain ⟨y, hyy⟩ : ∃ y, ys[k] = y := ⟨_, rfl⟩
      obtain ⟨cr, hcr⟩ : ∃ y, carK b xs ys k = y := ⟨_, rfl⟩
      rw [hxx] at hcx bx hZ hQ
      rw [hyy] at hcy bY hZ hQ
      rw [hcr] at hcb z1 hZ hQ
      have q1 : IntKind.i64.wrap (x + y) = x + y := wrapI (by omega)
      have q2 : IntKind.i64.wrap (x + y + cr) = x + y + cr := wrapI (by omega)
      obtain ⟨s0, hs0⟩ : ∃ s, x + y + cr = s := ⟨_, rfl⟩
      rw [hs0] at q2 hZ hQ
      have hs1 : 0 ≤ s0 ∧ s0 ≤ 40 := by omega
      obtain ⟨z, hz⟩ : ∃ z, s0 % b = z := ⟨_, rfl⟩
      obtain ⟨qq, hqq⟩ : ∃ z, s0 / b = z := ⟨_, rfl⟩
      rw [hz] at hZ
      rw [hqq] at hQ
      have r1 : Int.tmod s0 b = z := by rw [Int.tmod_eq_emod_of_nonneg (by omega)]; exact hz
      have r2 : Int.tdiv s0 b = qq := by rw [Int.tdiv_eq_ediv_of_nonneg (by omega)]; exact hqq
      have r3 : IntKind.i64.wrap (Int.tdiv s0 b) = qq := by rw [r2]; exact wrapI (by omega)
      have r0 : ¬ b = 0 := by omega
      rw [hZ] at hsb
      rw [hQ] at hcb2
      have HZ := Lib.hid hZ
      have HQ := Lib.hid hQ
      subst hA
      subst hB
      clear hxx hyy hcr hZ hQ hcg hcl hz hqq
      obtain ⟨e1, e2, e3, -⟩ := (hK.front 5 rfl).cells
      obtain ⟨f1, f2, f3, -⟩ := (hK.front 4 rfl).cells
      go_wp2_with fail
      go_quiet (fail)
      go_wp2_with fail
      obtain ⟨ss, hss⟩ : ∃ ss, addD b xs ys k = ss := ⟨_, rfl⟩
      obtain ⟨cs, hcs⟩ : ∃ cs, carL b xs ys (k + 1) = cs := ⟨_, rfl⟩
      have hcl : cs.length = k + 1 := by rw [← hcs, carL_len]
      have hL : ss.length ≤ 10000000 := by rw [← hss, addD_len]; omega
      rw [hss, hcs] at hK
      have HSS := Lib.hid hss
      have HCS := Lib.hid hcs
      have HCL := Lib.hid hcl
      have HL := Lib.hid hL
      clear hss hcs hcl hL e1 e2 e3 f1 f2 f3 z1 z2 hcx hcy
      first
        | (refine Code.wp.kn hK ?_; clear hK; intro w7 hK)
        | (refine Code.wp.kn (hK.drewN _) ?_; clear hK; intro w7 hK)
      have SP := Lib.hid (fun W m (h : Kn w (.blk g1 [.int .i64 b, .slice (some adx) xs.length xc] 26 :: m) W) => (show (W.cell? ⟨g1, 0, none⟩ = some (.int .i64 b)) from h.blkAt.1 0))
      have hKd := hK.drew
      have HG := Lib.hid (SP.out _ _ (hKd.front 5 rfl))
      refine wp_region_held_drew (S := (fun W => (W.cell? ⟨g1, 0, none⟩ = some (.int .i64 b)))) (by kernel_rfl) ?_ (fun hHeld => ?_)
      · exact HG.out
      try dsimp only
      generalize w7.drew = wd at hKd HG hHeld ⊢
      clear hK
      refine wpAnyH_take (i := 0) (v := ?_) rfl (by kernel_rfl) (by kernel_rfl) (by kernel_rfl) (fun _ _ _ h => h) (Or.inl ⟨by rfl, ?_⟩) hHeld ?_
      rotate_left
      · (intro w hSw; (try dsimp only at hSw); go_simp; try with_reducible rfl)
      try simp only [Act.put, List.setIfInBounds_toArray, List.set_cons_zero, List.set_cons_succ, List.getElem_toArray, List.getElem_cons_zero]
      refine wpAnyH_take (i := 2) (v := ?_) rfl (by kernel_rfl) (by kernel_rfl) (by kernel_rfl) (fun _ _ _ h => h) (Or.inl ⟨by rfl, ?_⟩) hHeld ?_
      rotate_left
      · (intro w hSw; (try dsimp only at hSw); go_simp; try with_reducible rfl)
      try simp only [Act.put, List.setIfInBounds_toArray, List.set_cons_zero, List.set_cons_succ, List.getElem_toArray, List.getElem_cons_succ, List.getElem_cons_zero]
      refine wpAnyH_take (i := 3) (v := ?_) rfl (by kernel_rfl) (by kernel_rfl) (by kernel_rfl) (fun _ _ _ h => h) (Or.inl ⟨by rfl, ?_⟩) hHeld ?_
      rotate_left
      · (intro w hSw; (try dsimp only at hSw); go_simp; try with_reducible rfl)
      try simp only [Act.put, List.setIfInBounds_toArray, List.set_cons_zero, List.set_cons_succ, List.getElem_toArray, List.getElem_cons_succ, List.getElem_cons_zero]
      refine wpAnyH_take (i := 4) (v := ?_) rfl (by kernel_rfl) (by kernel_rfl) (by kernel_rfl) (fun _ _ _ h => h) (Or.inl ⟨by rfl, ?_⟩) hHeld ?_
      rotate_left
      · (intro w hSw; (try dsimp only at hSw); go_simp; try with_reducible rfl)
      try simp only [Act.put, List.setIfInBounds_toArray, List.set_cons_zero, List.set_cons_succ, List.getElem_toArray, List.getElem_cons_succ, List.getElem_cons_zero]
      refine wpAnyH_take (i := 5) (v := ?_) rfl (by kernel_rfl) (by kernel_rfl) (by kernel_rfl) (fun _ _ _ h => h) (Or.inl ⟨by rfl, ?_⟩) hHeld ?_
      rotate_left
      · (intro w hSw; (try dsimp only at hSw); go_simp; try with_reducible rfl)
      try simp only [Act.put, List.setIfInBounds_toArray, List.set_cons_zero, List.set_cons_succ, List.getElem_toArray, List.getElem_cons_succ, List.getElem_cons_zero]
      refine wpAnyH_ready (rs := [1, 6]) (by kernel_rfl) (by decide) (AllReadyH.cons (o := _) rfl (fun K hK' => ?_) (AllReadyH.cons (o := _) rfl (fun K hK' => ?_) AllReadyH.nil))
      · obtain ⟨o1, o2, o3, -⟩ := (hKd.front 2 rfl).cells
        go_simp
        clear o1 o2 o3
        have HG := Lib.hid (SP.out _ _ (hKd.front 5 rfl))
        refine hK'.out _ _ HG.out (fun hHeld2 => ?_)
        clear hK' K hHeld
        have hHeld := hHeld2
        clear hHeld2
        try simp only [Act.put, List.setIfInBounds_toArray]
        refine wpAnyH_ready (rs := [6]) (by kernel_rfl) (by decide) (AllReadyH.cons (o := _) rfl (fun K hK' => ?_) AllReadyH.nil)
        go_simp
        have K9 := hKd.al [.int .i64 z] 2
        have HG := Lib.hid (SP.out _ _ (K9.front 6 rfl))
        refine hK'.out _ _ HG.out (fun hHeld2 => ?_)
        clear hK' K hHeld
        have hHeld := hHeld2
        clear hHeld2
        try simp only [Act.put, List.setIfInBounds_toArray]
        refine wpAnyH_ready (rs := [7]) (by kernel_rfl) (by decide) (AllReadyH.cons (o := _) rfl (fun K hK' => ?_) AllReadyH.nil)
        refine kn_stepI (by rfl) _ _ (by rfl) vv _ (by rfl) (by rfl) K9 HL.out ?_
        intro v' w10 K10
        obtain ⟨A', c', rfl⟩ := row_form K10.at0
        obtain ⟨m9, hm9⟩ : ∃ m, (ss ++ [z]).length = m := ⟨_, rfl⟩
        rw [hm9] at K10
        try rw [hm9]
        have HM9 := Lib.hid hm9
        clear hm9
        have HG := Lib.hid (SP.out _ _ (K10.front 5 rfl))
        refine hK'.out _ _ HG.out (fun hHeld2 => ?_)
        clear hK' K hHeld
        have hHeld := hHeld2
        clear hHeld2
        try simp only [Act.put, List.setIfInBounds_toArray]
        refine wpAnyH_take (i := 8) (v := ?_) rfl (by kernel_rfl) (by kernel_rfl) (by kernel_rfl) (fun _ _ _ h => h) (Or.inl ⟨by rfl, ?_⟩) hHeld ?_
        rotate_left
        · (intro w hSw; (try dsimp only at hSw); go_simp; try with_reducible rfl)
        try simp only [Act.put, List.setIfInBounds_toArray, List.set_cons_zero, List.set_cons_succ, List.getElem_toArray, List.getElem_cons_succ, List.getElem_cons_zero]
        refine wpAnyH_ready (rs := [9]) (by kernel_rfl) (by decide) (AllReadyH.cons (o := _) rfl (fun K hK' => ?_) AllReadyH.nil)
        obtain ⟨s1, s2, s3⟩ := (K10.front 2 rfl).blkAt
        have K11 := (K10.front 2 rfl).st 1 (.slice A' m9 c')
        go_simp
        have HG := Lib.hid (SP.out _ _ (K11.front 5 rfl))
        refine hK'.out _ _ HG.out (fun hHeld2 => ?_)
        clear hK' K hHeld
        have hHeld := hHeld2
        clear hHeld2
        try simp only [Act.put, List.setIfInBounds_toArray]
        refine wpAnyH_done (by kernel_rfl) ?_ _
        clear s1 s2 s3 HG hHeld
        have K12 : Kn w [.row (.slice (some ⟨gc, 0, none⟩) (k + 1) cc) 2 1 (k + 1) (cs.map (Value.int .i64)), .row (.slice A' m9 c') 2 1 m9 ((ss ++ [z]).map (Value.int .i64)), .blk gO [.int .i64 b, .slice A' m9 c'] 26, .blk (g1 + 1 + 1) [.int .i64 0, .slice none 0 0] 26, .blk (g1 + 1) [.int .i64 b, .slice (some ady) ys.length yc] 26, .blk g1 [.int .i64 b, .slice (some adx) xs.length xc] 26] _ := K11.sel [2, 1, 0, 3, 4, 5] 99 (by decide) (by decide)
        clear K10 K11
        go_upto_region 8 with fail
        refine Code.wp.kn K12 ?_; clear K12; intro w12 K12
        obtain ⟨e1, e2, e3, -⟩ := (K12.front 5 rfl).cells
        go_wp2_with (at_builtin; refine kn_pushI rfl _ _ rfl (.slice (some ⟨gc, 0, none⟩) (k + 1) cc) cs rfl rfl (by rw [HCL.out]; exact K12.al [.int .i64 qq] 2) (by have := HCL.out; omega) ?_; intro v13 w13 K13)
        go_roundw
        case rel => exact ⟨k + 1, _, _, by omega, by go_num, rfl, by rw [addD_succ, HSS.out, HZ.out, HM9.out, carL_succ, HCS.out, HQ.out]; exact K13.sel [1, 0, 2, 3, 4, 5] 99 (by decide) (by decide)⟩
        case measure => simp [intOf]; omega
      · go_simp
        have K9 := hKd.al [.int .i64 z] 2
        have HG := Lib.hid (SP.out _ _ (K9.front 6 rfl))
        refine hK'.out _ _ HG.out (fun hHeld2 => ?_)
        clear hK' K hHeld
        have hHeld := hHeld2
        clear hHeld2
        try simp only [Act.put, List.setIfInBounds_toArray]
        refine wpAnyH_ready (rs := [1]) (by kernel_rfl) (by decide) (AllReadyH.cons (o := _) rfl (fun K hK' => ?_) AllReadyH.nil)
        obtain ⟨o1, o2, o3, -⟩ := (K9.front 3 rfl).cells
        go_simp
        clear o1 o2 o3
        have HG := Lib.hid (SP.out _ _ (K9.front 6 rfl))
        refine hK'.out _ _ HG.out (fun hHeld2 => ?_)
        clear hK' K hHeld
        have hHeld := hHeld2
        clear hHeld2
        try simp only [Act.put, List.setIfInBounds_toArray]
        refine wpAnyH_ready (rs := [7]) (by kernel_rfl) (by decide) (AllReadyH.cons (o := _) rfl (fun K hK' => ?_) AllReadyH.nil)
        refine kn_stepI (by rfl) _ _ (by rfl) vv _ (by rfl) (by rfl) K9 HL.out ?_
        intro v' w10 K10
        obtain ⟨A', c', rfl⟩ := row_form K10.at0
        obtain ⟨m9, hm9⟩ : ∃ m, (ss ++ [z]).length = m := ⟨_, rfl⟩
        rw [hm9] at K10
        try rw [hm9]
        have HM9 := Lib.hid hm9
        clear hm9
        have HG := Lib.hid (SP.out _ _ (K10.front 5 rfl))
        refine hK'.out _ _ HG.out (fun hHeld2 => ?_)
        clear hK' K hHeld
        have hHeld := hHeld2
        clear hHeld2
        try simp only [Act.put, List.setIfInBounds_toArray]
        refine wpAnyH_take (i := 8) (v := ?_) rfl (by kernel_rfl) (by kernel_rfl) (by kernel_rfl) (fun _ _ _ h => h) (Or.inl ⟨by rfl, ?_⟩) hHeld ?_
        rotate_left
        · (intro w hSw; (try dsimp only at hSw); go_simp; try with_reducible rfl)
        try simp only [Act.put, List.setIfInBounds_toArray, List.set_cons_zero, List.set_cons_succ, List.getElem_toArray, List.getElem_cons_succ, List.getElem_cons_zero]
        refine wpAnyH_ready (rs := [9]) (by kernel_rfl) (by decide) (AllReadyH.cons (o := _) rfl (fun K hK' => ?_) AllReadyH.nil)
        obtain ⟨s1, s2, s3⟩ := (K10.front 2 rfl).blkAt
        have K11 := (K10.front 2 rfl).st 1 (.slice A' m9 c')
        go_simp
        have HG := Lib.hid (SP.out _ _ (K11.front 5 rfl))
        refine hK'.out _ _ HG.out (fun hHeld2 => ?_)
        clear hK' K hHeld
        have hHeld := hHeld2
        clear hHeld2
        try simp only [Act.put, List.setIfInBounds_toArray]
        refine wpAnyH_done (by kernel_rfl) ?_ _
        clear s1 s2 s3 HG hHeld
        have K12 : Kn w [.row (.slice (some ⟨gc, 0, none⟩) (k + 1) cc) 2 1 (k + 1) (cs.map (Value.int .i64)), .row (.slice A' m9 c') 2 1 m9 ((ss ++ [z]).map (Value.int .i64)), .blk gO [.int .i64 b, .slice A' m9 c'] 26, .blk (g1 + 1 + 1) [.int .i64 0, .slice none 0 0] 26, .blk (g1 + 1) [.int .i64 b, .slice (some ady) ys.length yc] 26, .blk g1 [.int .i64 b, .slice (some adx) xs.length xc] 26] _ := K11.sel [2, 1, 0, 3, 4, 5] 99 (by decide) (by decide)
        clear K10 K11
        go_upto_region 8 with fail
        refine Code.wp.kn K12 ?_; clear K12; intro w12 K12
        obtain ⟨e1, e2, e3, -⟩ := (K12.front 5 rfl).cells
        go_wp2_with (at_builtin; refine kn_pushI rfl _ _ rfl (.slice (some ⟨gc, 0, none⟩) (k + 1) cc) cs rfl rfl (by rw [HCL.out]; exact K12.al [.int .i64 qq] 2) (by have := HCL.out; omega) ?_; intro v13 w13 K13)
        go_roundw
        case rel => exact ⟨k + 1, _, _, by omega, by go_num, rfl, by rw [addD_succ, HSS.out, HZ.out, HM9.out, carL_succ, HCS.out, HQ.out]; exact K13.sel [1, 0, 2, 3, 4, 5] 99 (by decide) (by decide)⟩
        case measure => simp [intOf]; omega
    · have i1 : ¬ (k : Int) < (xs.length : Int) := by omega
      obtain rfl : k = xs.length := by omega
      obtain ⟨A0, c0, rfl⟩ := row_form hK.at0
      have HL1 := Lib.hid (addD_len b xs ys xs.length)
      have HL2 := Lib.hid (carL_len b xs ys (xs.length + 1))
      rw [addD_len] at hK
      obtain ⟨a1, a2, a3, -⟩ := (hK.front 2 rfl).cells
      obtain ⟨b1, b2, b3, -⟩ := (hK.front 3 rfl).cells
      try rw [addD_len]
      go_wp2_with fail
      refine bodyPost.kn (((hK.front 3 rfl).st 0 (.int .i64 b)).st 1 (.slice A0 xs.length c0)) ?_; intro w9 K9
      clear a1 a2 a3 b1 b2 b3
      obtain ⟨a1, a2, a3, -⟩ := K9.cells
      refine bodyPost_ret (v := .tuple #[.agg #[.int .i64 b, .slice A0 xs.length c0], .slice (some ⟨gc, 0, none⟩) (xs.length + 1) cc]) (by simp [results, Try.results59, go_sem, a1]) rfl ⟨_, _, _, _, rfl, ?_⟩
      unfold rowI
      rw [HL1.out, HL2.out]
      exact K9.sel [1, 2] 99 (by decide) (by decide)
end Go.Proofs.Ytmmiahgmdllgdaa

namespace Go.Proofs.Ytmmiahgmdllgdaa
open Go.RowKit Go.Sort
/-- a register, a number and the code 0 -/
def R3Ret (b : Int) (es : List Int) (c : Int) (w : World) (e : Ending) (w' : World) : Prop := ∃ E ec, e = .returned (.tuple #[.agg #[.int .i64 b, .slice E es.length ec], .int .i64 c, .int .i64 0]) ∧ Kn w [rowI E ec es] w'
theorem add_vreg {b : Int} {xs : List Int} (hb : 2 ≤ b) (hb16 : b ≤ 16) (ys : List Int) (h1 : 1 ≤ xs.length) (h2 : xs.length ≤ 16) (hp : pw b xs.length ≤ 1000000000001) : vreg b (addD b xs ys xs.length) = true :=
  vreg_short hb hb16 (addD_digs hb xs ys _) (by rw [addD_len]; exact h1) (by rw [addD_len]; exact h2) (by rw [addD_len]; exact hp)
end Go.Proofs.Ytmmiahgmdllgdaa

namespace Go.Proofs.Ytmmiahgmdllgdaa
open Go.RowKit Go.Sort
/-- a sum, a carry and the code 0 -/
def SumR (b : Int) (n : Nat) (ds : List Int) (c : Int) (w : World) (e : Ending) (w' : World) : Prop := ∃ E ec, e = .returned (.tuple #[.agg #[.int .i64 b, .slice E n ec], .int .i64 c, .int .i64 0]) ∧ Kn w [.row (.slice E n ec) 2 1 n (ds.map (Value.int .i64))] w'
set_option maxRecDepth 100000 in
set_option maxHeartbeats 6400000 in
theorem AddByTable_ok (bb N n : Nat) (A : Option Addr) (c : Nat) (XA : Option Addr) (xc : Nat) (xs : List Int) (YA : Option Addr) (yc : Nat) (ys : List Int) (w : World) (hN : 2 * bb * bb = N) (ht : RL ArM 5 w A N (tabN bb N)) (hx : RI w XA n xs) (hy : RI w YA n ys) (hv1 : vreg (bb : Int) xs = true) (hv2 : vreg (bb : Int) ys = true) (hva : vreg (bb : Int) (addD (bb : Int) xs ys n) = true) :
    Calls Try.prog 13 #[.slice A N c, .agg #[.int .i64 (bb : Int), .slice XA n xc], .agg #[.int .i64 (bb : Int), .slice YA n yc]] w (SumR (bb : Int) n (addD (bb : Int) xs ys n) (carK (bb : Int) xs ys n) w) := by
  have hxl := hx.1
  have hyl := hy.1
  obtain ⟨⟨b1, b2⟩, ⟨n1, n2⟩, hdx, -⟩ := vreg_iff.1 hv1
  have hdy := (vreg_iff.1 hv2).2.2.1
  have KP := (fun W (hW : Below w.heap.size w W) => pairCode_ok (bb : Int) XA xc xs YA yc ys W (by rw [hxl]; exact hx.below hW) (by rw [hyl]; exact hy.below hW) hv1 hv2 (by omega))
  rw [hxl, hyl] at KP
  replace KP := Lib.hid KP
  have KI := Lib.hid (fun W (hW : Below w.heap.size w W) => isAddTable_true bb N A c W (by omega) (by omega) hN (ht.below steady_ArM hW))
  have hal := addD_len (bb : Int) xs ys n
  have KW := (fun E ec W (h : RI W E n (addD (bb : Int) xs ys n)) => (by
    have h2 := whole_ok (bb : Int) (carK (bb : Int) xs ys n) E ec (addD (bb : Int) xs ys n) W (by rw [hal]; exact h) hva
    rw [hal] at h2
    exact h2 : Calls Try.prog 43 #[.agg #[.int .i64 (bb : Int), .slice E n ec], .int .i64 (carK (bb : Int) xs ys n)] W fun e w' => e = .returned (.tuple #[.agg #[.int .i64 (bb : Int), .slice E n ec], .int .i64 (carK (bb : Int) xs ys n), .int .i64 0]) ∧ Below W.heap.size W w'))
  replace KW := Lib.hid KW
  have HX := Lib.hid (fun W (hW : Below w.heap.size w W) => hx.below hW)
  have HY := Lib.hid (fun W (hW : Below w.heap.size w W) => hy.below hW)
  have HT := Lib.hid (fun W (hW : Below w.heap.size w W) => ht.below steady_ArM hW)
  have HC := Lib.hid (fun k => carK_bd (by omega) hdx hdy k)
  have HDX := Lib.hid hdx
  have HDY := Lib.hid hdy
  have HXL := Lib.hid hxl
  have HYL := Lib.hid hyl
  have HN := Lib.hid hN
  have p1 : 2 ≤ bb := by omega
  have p2 : bb ≤ 16 := by omega
  rw [hxl] at n1 n2
  clear hx hy ht hv1 hv2 hva hdx hdy hxl hyl hN hal
  obtain ⟨g, hg⟩ : ∃ g, w.heap.size = g := ⟨_, rfl⟩
  have K0 := (((Kn.nil w).al [.int .i64 (bb : Int), .slice XA n xc] 26).al [.int .i64 (bb : Int), .slice YA n yc] 26).al [.int .i64 0, .slice none 0 0] 26
  simp only [World.size_alloc, hg] at K0
  go_enter Try.func13, Try.ntmps13
  go_upto_region 1 with fail
  try rw [hg]
  refine Code.wp.kn K0 ?_; clear K0 hg; intro w1 K1
  obtain ⟨z1, z2, z3, y1, y2, y3, x1, x2, x3, -⟩ := K1.cells
  go_upto_region 6 with (first
    | (go_at_call 40; refine (KP.out _ K1.below).mono ?_; rintro e w2 ⟨rfl, hw⟩; have K2 := K1.keep hw; clear hw K1 z1 z2 z3 y1 y2 y3 x1 x2 x3; obtain ⟨z1, z2, z3, y1, y2, y3, x1, x2, x3, -⟩ := K2.cells)
    | (go_at_call 54; refine (KI.out _ K2.below).mono ?_; rintro e w3 ⟨rfl, hw⟩; have K3 := K2.keep hw; clear hw K2 z1 z2 z3 y1 y2 y3 x1 x2 x3; obtain ⟨z1, z2, z3, y1, y2, y3, x1, x2, x3, -⟩ := K3.cells))
  have K4 := K3.al [.int .i64 (bb : Int), .slice none 0 0] 26
  obtain ⟨gs, hg⟩ : ∃ g, w3.heap.size = g := ⟨_, rfl⟩
  rw [hg] at K4
  go_upto_region 7 with fail
  try rw [hg]
  refine Code.wp.kn K4 ?_; clear K3 K4 hg z1 z2 z3 y1 y2 y3 x1 x2 x3; intro w4 K4
  have K5 : Kn w [.row (.slice none 0 0) 2 1 (addD (bb : Int) xs ys 0).length ((addD (bb : Int) xs ys 0).map (Value.int .i64)), .blk gs [.int .i64 (bb : Int), .slice none 0 0] 26, .blk (g + 1 + 1) [.int .i64 0, .slice none 0 0] 26, .blk (g + 1) [.int .i64 (bb : Int), .slice YA n yc] 26, .blk g [.int .i64 (bb : Int), .slice XA n xc] 26] w4 := K4.nilRow _ _
  clear K4
  obtain ⟨s1, s2, s3, z1, z2, z3, y1, y2, y3, x1, x2, x3, -⟩ := K5.cells
  go_wp2_with fail
  go_loopw [11, 34] (fun cc kk wr => ∃ (k : Nat) (vv : Value), k ≤ n ∧ kk = .int .i64 (k : Int) ∧ cc = .int .i64 (carK (bb : Int) xs ys k) ∧ Kn w [.row vv 2 1 (addD (bb : Int) xs ys k).length ((addD (bb : Int) xs ys k).map (Value.int .i64)), .blk gs [.int .i64 (bb : Int), vv] 26, .blk (g + 1 + 1) [.int .i64 0, .slice none 0 0] 26, .blk (g + 1) [.int .i64 (bb : Int), .slice YA n yc] 26, .blk g [.int .i64 (bb : Int), .slice XA n xc] 26] wr) (fun _ kk _ => n - (intOf kk).toNat)
  case atStart => exact ⟨0, _, Nat.zero_le _, rfl, rfl, K5⟩
  case round =>
    clear K5 s1 s2 s3 z1 z2 z3 y1 y2 y3 x1 x2 x3
    obtain ⟨k, vv, hk, rfl, rfl, KR⟩ := hrel
    by_cases hk1 : k < n
    · have i1 : (k : Int) < (n : Int) := by omega
      have i0 : (0 : Int) ≤ (k : Int) := by omega
      obtain ⟨adx, hXA, -, hkx, hcx⟩ := (HX.out _ KR.below).at_ hk1
      obtain ⟨ady, hYA, -, hky, hcy⟩ := (HY.out _ KR.below).at_ hk1
      have ha := HDX.out xs[k] (List.getElem_mem _)
      have hyb := HDY.out ys[k] (List.getElem_mem _)
      have hcb := HC.out k
      obtain ⟨a, hxa⟩ : ∃ a : Nat, xs[k] = (a : Int) := ⟨xs[k].toNat, by omega⟩
      obtain ⟨y, hya⟩ : ∃ a : Nat, ys[k] = (a : Int) := ⟨ys[k].toNat, by omega⟩
      obtain ⟨i, hci⟩ : ∃ a : Nat, carK (bb : Int) xs ys k = (a : Int) := ⟨(carK (bb : Int) xs ys k).toNat, by omega⟩
      rw [hxa] at ha hcx
      rw [hya] at hyb hcy
      rw [hci] at hcb
      have hrk := rowK_at bb i a y (by omega) (by omega)
      obtain ⟨d, hd⟩ : ∃ d, (i + a + y) % bb = d := ⟨_, rfl⟩
      obtain ⟨e, he⟩ : ∃ e, (i + a + y) / bb = e := ⟨_, rfl⟩
      have hgx : xs.getD k 0 = (a : Int) := by rw [getD_of hkx]; exact hxa
      have hgy : ys.getD k 0 = (y : Int) := by rw [getD_of hky]; exact hya
      have hsum : ((a : Int) + (y : Int) + (i : Int)) = ((i + a + y : Nat) : Int) := by omega
      have HS := Lib.hid (show addD (bb : Int) xs ys (k + 1) = addD (bb : Int) xs ys k ++ [(d : Int)] by
        rw [addD_succ]
        unfold sumK
        rw [hgx, hgy, hci, hsum, ← hd]
        rfl)
      have HK := Lib.hid (show carK (bb : Int) xs ys (k + 1) = (e : Int) by
        show (xs.getD k 0 + ys.getD k 0 + carK (bb : Int) xs ys k) / (bb : Int) = _
        rw [hgx, hgy, hci, hsum, ← he]
        rfl)
      rw [hd, he] at hrk
      obtain ⟨m, hm⟩ : ∃ m, (i * bb + a) * bb + y = m := ⟨_, rfl⟩
      have hmN : m < N := by
        rw [← hm, ← HN.out]
        have h1 : i * bb + a + 1 ≤ 2 * bb := by
          have : i * bb ≤ 1 * bb := Nat.mul_le_mul_right _ (by omega)
          omega
        have h2 : (i * bb + a + 1) * bb ≤ 2 * bb * bb := Nat.mul_le_mul_right _ h1
        rw [Nat.succ_mul] at h2
        omega
      have hm512 : m ≤ 1000 := by
        have : 2 * bb * bb ≤ 2 * 16 * 16 := Nat.mul_le_mul (Nat.mul_le_mul (Nat.le_refl _) p2) p2
        rw [HN.out] at this
        omega
      have hib : ((i * bb : Nat) : Int) = (i : Int) * (bb : Int) := Int.natCast_mul _ _
      have hib16 : i * bb ≤ 16 := by
        have : i * bb ≤ 1 * 16 := Nat.mul_le_mul (by omega) p2
        omega
      have him : (((i * bb + a) * bb : Nat) : Int) = ((i : Int) * (bb : Int) + (a : Int)) * (bb : Int) := by rw [Int.natCast_mul, Int.natCast_add, hib]
      have him16 : (i * bb + a) * bb ≤ 1000 := by omega
      have f1 : IntKind.i64.wrap ((i : Int) * (bb : Int)) = (i : Int) * (bb : Int) := by rw [← hib]; exact wrapI64 (by omega)
      have f2 : IntKind.i64.wrap ((i : Int) * (bb : Int) + (a : Int)) = (i : Int) * (bb : Int) + (a : Int) := by rw [← hib]; exact wrapI64 (by omega)
      have f3 : IntKind.i64.wrap (((i : Int) * (bb : Int) + (a : Int)) * (bb : Int)) = ((i : Int) * (bb : Int) + (a : Int)) * (bb : Int) := by rw [← him]; exact wrapI64 (by omega)
      have f4 : IntKind.i64.wrap (((i : Int) * (bb : Int) + (a : Int)) * (bb : Int) + (y : Int)) = (m : Int) := by rw [← him, wrapI64 (by omega)]; omega
      have f6 : (m : Int) < (N : Int) := by omega
      have f7 : (0 : Int) ≤ (m : Int) := by omega
      rw [hm] at hrk
      obtain ⟨adt, hTA, -, hmt, t1, t2, t3, t4, t5⟩ := (HT.out _ KR.below).at_ hmN
      have e0 : (tabN bb N)[m] = rowK bb m := by simp [tabN]
      have HB := Lib.hid (fun W (hK : Kn w [.blk (g + 1) [.int .i64 (bb : Int), .slice YA n yc] 26, .blk g [.int .i64 (bb : Int), .slice XA n xc] 26] W) => (show ((W.cell? ⟨g, 0, none⟩ = some (.int .i64 (bb : Int)) ∧ W.cell? ⟨g + 1, 1, none⟩ = some (.slice YA n yc)) ∧ W.cell? (ady.add k) = some (.int .i64 (y : Int))) ∧ ((((W.cell? (adt.add (m * 5)) = some (.int .i64 (i : Int)) ∧ W.cell? ⟨(adt.add (m * 5)).block, (adt.add (m * 5)).off + 1, none⟩ = some (.int .i64 (a : Int))) ∧ W.cell? ⟨(adt.add (m * 5)).block, (adt.add (m * 5)).off + 2, none⟩ = some (.int .i64 (y : Int))) ∧ W.cell? ⟨(adt.add (m * 5)).block, (adt.add (m * 5)).off + 3, none⟩ = some (.int .i64 (d : Int))) ∧ W.cell? ⟨(adt.add (m * 5)).block, (adt.add (m * 5)).off + 4, none⟩ = some (.int .i64 (e : Int))) by
        obtain ⟨ad2, hA2, -, hk2, hc2⟩ := (HY.out _ hK.below).at_ hk1
        rw [hYA] at hA2
        injection hA2 with hA2
        subst hA2
        rw [hya] at hc2
        obtain ⟨ad3, hA3, -, hk3, j1, j2, j3, j4, j5⟩ := (HT.out _ hK.below).at_ hmN
        rw [hTA] at hA3
        injection hA3 with hA3
        subst hA3
        rw [e0, hrk] at j1 j2 j3 j4 j5
        exact ⟨⟨⟨(box2 (hK.front 1 rfl)).1, (box2 hK).2⟩, hc2⟩, ⟨⟨⟨j1, j2⟩, j3⟩, j4⟩, j5⟩))
      subst hXA
      subst hYA
      subst hTA
      rw [hci]
      have HL := Lib.hid (show (addD (bb : Int) xs ys k).length ≤ 10000000 by rw [addD_len]; omega)
      obtain ⟨ts, hts⟩ : ∃ t, addD (bb : Int) xs ys k = t := ⟨_, rfl⟩
      rw [hts] at HS HL KR
      obtain ⟨s1, s2, s3, z1, z2, z3, y1, y2, y3, x1, x2, x3, -⟩ := KR.cells
      clear hts hxa hya hci hrk hd he hgx hgy hsum hm hmN hm512 hib hib16 him him16 e0 t1 t2 t3 t4 t5 hkx hky hmt ha hyb hcb hcy
      go_upto_region 10 with fail
      have hKd := KR.drew
      have HG := Lib.hid (HB.out _ (hKd.sel [3, 4] 99 (by decide) (by decide)))
      clear s1 s2 s3 z1 z2 z3 y1 y2 y3 x1 x2 x3 hcx
      go_cut [14] (fun pp wx => ∃ g14 : Nat, pp = .pointer (some ⟨g14, 0, none⟩) ∧ Kn w [.blk g14 [.int .i64 (i : Int), .int .i64 (a : Int), .int .i64 (y : Int), .int .i64 (d : Int), .int .i64 (e : Int)] 100, .row vv 2 1 ts.length (ts.map (Value.int .i64)), .blk gs [.int .i64 (bb : Int), vv] 26, .blk (g + 1 + 1) [.int .i64 0, .slice none 0 0] 26, .blk (g + 1) [.int .i64 (bb : Int), .slice (some ady) n yc] 26, .blk g [.int .i64 (bb : Int), .slice (some adx) n xc] 26] wx)
      case first =>
        refine wp_region_held_drew (S := fun W => ((W.cell? ⟨g, 0, none⟩ = some (.int .i64 (bb : Int)) ∧ W.cell? ⟨g + 1, 1, none⟩ = some (.slice (some ady) n yc)) ∧ W.cell? (ady.add k) = some (.int .i64 (y : Int))) ∧ ((((W.cell? (adt.add (m * 5)) = some (.int .i64 (i : Int)) ∧ W.cell? ⟨(adt.add (m * 5)).block, (adt.add (m * 5)).off + 1, none⟩ = some (.int .i64 (a : Int))) ∧ W.cell? ⟨(adt.add (m * 5)).block, (adt.add (m * 5)).off + 2, none⟩ = some (.int .i64 (y : Int))) ∧ W.cell? ⟨(adt.add (m * 5)).block, (adt.add (m * 5)).off + 3, none⟩ = some (.int .i64 (d : Int))) ∧ W.cell? ⟨(adt.add (m * 5)).block, (adt.add (m * 5)).off + 4, none⟩ = some (.int .i64 (e : Int)))) (by kernel_rfl) ?_ (fun hHeld => ?_)
        · exact HG.out
        try dsimp only
        generalize wr.drew = wd' at hKd HG hHeld ⊢
        clear KR
        refine wpAnyH_take (i := 0) (v := ?_) rfl (by kernel_rfl) (by kernel_rfl) (by kernel_rfl) (fun _ _ _ h => h) (Or.inl ⟨by rfl, ?_⟩) hHeld ?_
        rotate_left
        · (intro w hSw; (try dsimp only at hSw); go_simp; try with_reducible rfl)
        try simp only [Act.put, List.setIfInBounds_toArray, List.set_cons_zero, List.set_cons_succ, List.getElem_toArray, List.getElem_cons_succ, List.getElem_cons_zero]
        refine wpAnyH_take (i := 1) (v := ?_) rfl (by kernel_rfl) (by kernel_rfl) (by kernel_rfl) (fun _ _ _ h => h) (Or.inl ⟨by rfl, ?_⟩) hHeld ?_
        rotate_left
        · (intro w hSw; (try dsimp only at hSw); go_simp; try with_reducible rfl)
        try simp only [Act.put, List.setIfInBounds_toArray, List.set_cons_zero, List.set_cons_succ, List.getElem_toArray, List.getElem_cons_succ, List.getElem_cons_zero]
        refine wpAnyH_take (i := 2) (v := ?_) rfl (by kernel_rfl) (by kernel_rfl) (by kernel_rfl) (fun _ _ _ h => h) (Or.inl ⟨by rfl, ?_⟩) hHeld ?_
        rotate_left
        · (intro w hSw; (try dsimp only at hSw); go_simp; try with_reducible rfl)
        try simp only [Act.put, List.setIfInBounds_toArray, List.set_cons_zero, List.set_cons_succ, List.getElem_toArray, List.getElem_cons_succ, List.getElem_cons_zero]
        refine wpAnyH_take (i := 3) (v := ?_) rfl (by kernel_rfl) (by kernel_rfl) (by kernel_rfl) (fun _ _ _ h => h) (Or.inl ⟨by rfl, ?_⟩) hHeld ?_
        rotate_left
        · (intro w hSw; (try dsimp only at hSw); go_simp; try with_reducible rfl)
        try simp only [Act.put, List.setIfInBounds_toArray, List.set_cons_zero, List.set_cons_succ, List.getElem_toArray, List.getElem_cons_succ, List.getElem_cons_zero]
        refine wpAnyH_take (i := 4) (v := ?_) rfl (by kernel_rfl) (by kernel_rfl) (by kernel_rfl) (fun _ _ _ h => h) (Or.inl ⟨by rfl, ?_⟩) hHeld ?_
        rotate_left
        · (intro w hSw; (try dsimp only at hSw); go_simp; try with_reducible rfl)
        try simp only [Act.put, List.setIfInBounds_toArray, List.set_cons_zero, List.set_cons_succ, List.getElem_toArray, List.getElem_cons_succ, List.getElem_cons_zero]
        refine wpAnyH_take (i := 5) (v := ?_) rfl (by kernel_rfl) (by kernel_rfl) (by kernel_rfl) (fun _ _ _ h => h) (Or.inl ⟨by rfl, ?_⟩) hHeld ?_
        rotate_left
        · (intro w hSw; (try dsimp only at hSw); go_simp; try with_reducible rfl)
        try simp only [Act.put, List.setIfInBounds_toArray, List.set_cons_zero, List.set_cons_succ, List.getElem_toArray, List.getElem_cons_succ, List.getElem_cons_zero]
        refine wpAnyH_take (i := 6) (v := ?_) rfl (by kernel_rfl) (by kernel_rfl) (by kernel_rfl) (fun _ _ _ h => h) (Or.inl ⟨by rfl, ?_⟩) hHeld ?_
        rotate_left
        · (intro w hSw; (try dsimp only at hSw); go_simp; try with_reducible rfl)
        try simp only [Act.put, List.setIfInBounds_toArray, List.set_cons_zero, List.set_cons_succ, List.getElem_toArray, List.getElem_cons_succ, List.getElem_cons_zero]
        refine wpAnyH_take (i := 7) (v := ?_) rfl (by kernel_rfl) (by kernel_rfl) (by kernel_rfl) (fun _ _ _ h => h) (Or.inl ⟨by rfl, ?_⟩) hHeld ?_
        rotate_left
        · (intro w hSw; (try dsimp only at hSw); go_simp; try with_reducible rfl)
        try simp only [Act.put, List.setIfInBounds_toArray, List.set_cons_zero, List.set_cons_succ, List.getElem_toArray, List.getElem_cons_succ, List.getElem_cons_zero]
        refine wpAnyH_take (i := 8) (v := ?_) rfl (by kernel_rfl) (by kernel_rfl) (by kernel_rfl) (fun _ _ _ h => h) (Or.inl ⟨by rfl, ?_⟩) hHeld ?_
        rotate_left
        · (intro w hSw; (try dsimp only at hSw); go_simp; try with_reducible rfl)
        try simp only [Act.put, List.setIfInBounds_toArray, List.set_cons_zero, List.set_cons_succ, List.getElem_toArray, List.getElem_cons_succ, List.getElem_cons_zero]
        refine wpAnyH_take (i := 9) (v := ?_) rfl (by kernel_rfl) (by kernel_rfl) (by kernel_rfl) (fun _ _ _ h => h) (Or.inl ⟨by rfl, ?_⟩) hHeld ?_
        rotate_left
        · (intro w hSw; (try dsimp only at hSw); go_simp; try with_reducible rfl)
        try simp only [Act.put, List.setIfInBounds_toArray, List.set_cons_zero, List.set_cons_succ, List.getElem_toArray, List.getElem_cons_succ, List.getElem_cons_zero]
        refine wpAnyH_take (i := 10) (v := ?_) rfl (by kernel_rfl) (by kernel_rfl) (by kernel_rfl) (fun _ _ _ h => h) (Or.inl ⟨by rfl, ?_⟩) hHeld ?_
        rotate_left
        · (intro w hSw; (try dsimp only at hSw); go_simp; try with_reducible rfl)
        try simp only [Act.put, List.setIfInBounds_toArray, List.set_cons_zero, List.set_cons_succ, List.getElem_toArray, List.getElem_cons_succ, List.getElem_cons_zero]
        refine wpAnyH_take (i := 11) (v := ?_) rfl (by kernel_rfl) (by kernel_rfl) (by kernel_rfl) (fun _ _ _ h => h) (Or.inl ⟨by rfl, ?_⟩) hHeld ?_
        rotate_left
        · (intro w hSw; (try dsimp only at hSw); go_simp; try with_reducible rfl)
        try simp only [Act.put, List.setIfInBounds_toArray, List.set_cons_zero, List.set_cons_succ, List.getElem_toArray, List.getElem_cons_succ, List.getElem_cons_zero]
        refine wpAnyH_take (i := 12) (v := ?_) rfl (by kernel_rfl) (by kernel_rfl) (by kernel_rfl) (fun _ _ _ h => h) (Or.inl ⟨by rfl, ?_⟩) hHeld ?_
        rotate_left
        · (intro w hSw; (try dsimp only at hSw); go_simp; try with_reducible rfl)
        try simp only [Act.put, List.setIfInBounds_toArray, List.set_cons_zero, List.set_cons_succ, List.getElem_toArray, List.getElem_cons_succ, List.getElem_cons_zero]
        refine wpAnyH_take (i := 13) (v := ?_) rfl (by kernel_rfl) (by kernel_rfl) (by kernel_rfl) (fun _ _ _ h => h) (Or.inl ⟨by rfl, ?_⟩) hHeld ?_
        rotate_left
        · (intro w hSw; (try dsimp only at hSw); go_simp; try with_reducible rfl)
        try simp only [Act.put, List.setIfInBounds_toArray, List.set_cons_zero, List.set_cons_succ, List.getElem_toArray, List.getElem_cons_succ, List.getElem_cons_zero]
        refine wpAnyH_take (i := 14) (v := ?_) rfl (by kernel_rfl) (by kernel_rfl) (by kernel_rfl) (fun _ _ _ h => h) (Or.inl ⟨by rfl, ?_⟩) hHeld ?_
        rotate_left
        · (intro w hSw; (try dsimp only at hSw); go_simp; try with_reducible rfl)
        try simp only [Act.put, List.setIfInBounds_toArray, List.set_cons_zero, List.set_cons_succ, List.getElem_toArray, List.getElem_cons_succ, List.getElem_cons_zero]
        refine wpAnyH_take (i := 15) (v := ?_) rfl (by kernel_rfl) (by kernel_rfl) (by kernel_rfl) (fun _ _ _ h => h) (Or.inl ⟨by rfl, ?_⟩) hHeld ?_
        rotate_left
        · (intro w hSw; (try dsimp only at hSw); go_simp; try with_reducible rfl)
        try simp only [Act.put, List.setIfInBounds_toArray, List.set_cons_zero, List.set_cons_succ, List.getElem_toArray, List.getElem_cons_succ, List.getElem_cons_zero]
        refine wpAnyH_take (i := 16) (v := ?_) rfl (by kernel_rfl) (by kernel_rfl) (by kernel_rfl) (fun _ _ _ h => h) (Or.inl ⟨by rfl, ?_⟩) hHeld ?_
        rotate_left
        · (intro w hSw; (try dsimp only at hSw); go_simp; try with_reducible rfl)
        try simp only [Act.put, List.setIfInBounds_toArray, List.set_cons_zero, List.set_cons_succ, List.getElem_toArray, List.getElem_cons_succ, List.getElem_cons_zero]
        refine wpAnyH_take (i := 17) (v := ?_) rfl (by kernel_rfl) (by kernel_rfl) (by kernel_rfl) (fun _ _ _ h => h) (Or.inl ⟨by rfl, ?_⟩) hHeld ?_
        rotate_left
        · (intro w hSw; (try dsimp only at hSw); go_simp; try with_reducible rfl)
        try simp only [Act.put, List.setIfInBounds_toArray, List.set_cons_zero, List.set_cons_succ, List.getElem_toArray, List.getElem_cons_succ, List.getElem_cons_zero]
        refine wpAnyH_ready (rs := [18]) (by kernel_rfl) (by decide) (AllReadyH.cons (o := _) rfl (fun K hK' => ?_) AllReadyH.nil)
        go_simp
        have KO1 := hKd.al [.int .i64 0, .int .i64 0, .int .i64 0, .int .i64 0, .int .i64 0] 100
        have HG := Lib.hid (HB.out _ (KO1.sel [4, 5] 99 (by decide) (by decide)))
        refine hK'.out _ _ HG.out (fun hHeld2 => ?_)
        clear hK' hHeld
        have hHeld := hHeld2
        clear hHeld2
        try simp only [Act.put, List.setIfInBounds_toArray]
        generalize wd'.alloc (.cells #[.int .i64 0, .int .i64 0, .int .i64 0, .int .i64 0, .int .i64 0] 100) = wo1 at KO1 hHeld ⊢
        obtain ⟨gal1, hgal1⟩ : ∃ g, wd'.heap.size = g := ⟨_, rfl⟩
        rw [hgal1] at KO1 ⊢
        clear hgal1
        refine wpAnyH_ready (rs := [19]) (by kernel_rfl) (by decide) (AllReadyH.cons (o := _) rfl (fun K hK' => ?_) AllReadyH.nil)
        obtain ⟨s1, s2, s3, -⟩ := (KO1.front 0 rfl).cells
        have KO2 := ((((((KO1.front 0 rfl).st 0 (.int .i64 (i : Int))).st 1 (.int .i64 (a : Int))).st 2 (.int .i64 (y : Int))).st 3 (.int .i64 (d : Int))).st 4 (.int .i64 (e : Int)))
        go_simp
        clear s1 s2 s3
        have HG := Lib.hid (HB.out _ (KO2.sel [4, 5] 99 (by decide) (by decide)))
        refine hK'.out _ _ HG.out (fun hHeld2 => ?_)
        clear hK' hHeld
        have hHeld := hHeld2
        clear hHeld2
        try simp only [Act.put, List.setIfInBounds_toArray]
        refine wpAnyH_done (by kernel_rfl) ?_ _
        go_wp2_with fail
        go_meet
        exact ⟨_, rfl, (KO2.sel [0, 1, 2, 3, 4, 5] 99 (by decide) (by decide))⟩
      case rest =>
        obtain ⟨g14, rfl, K6⟩ := hcut
        clear HG hKd KR HB
        obtain ⟨t1, t2, t3, s1, s2, s3, -⟩ := K6.cells
        go_upto_region 12 with (at_builtin; refine kn_pushI rfl _ _ rfl _ ts rfl rfl ((K6.front 1 rfl).al [.int .i64 (d : Int)] 2) HL.out ?_; intro v' w' K10; obtain ⟨E9, c9, rfl⟩ := row_form K10.at0; obtain ⟨m9, hm9⟩ : ∃ m, (ts ++ [(d : Int)]).length = m := ⟨_, rfl⟩; rw [hm9] at K10; try rw [hm9]; have HM9 := Lib.hid hm9; clear hm9 t1 t2 t3 s1 s2 s3; obtain ⟨t1, t2, t3, s1, s2, s3, -⟩ := K10.cells)
        have K11 := (K10.front 2 rfl).st 1 (.slice E9 m9 c9)
        refine Code.wp.kn K11 ?_; clear K10 K11 K6 t1 t2 t3 s1 s2 s3; intro w11 K11
        obtain ⟨s1, s2, s3, t1, t2, t3, -⟩ := K11.cells
        go_wp2_with fail
        go_roundw
        case rel => exact ⟨k + 1, _, by omega, by go_num, by rw [HK.out], by rw [HS.out, HM9.out]; exact K11.sel [1, 0, 3, 4, 5] 99 (by decide) (by decide)⟩
        case measure => simp [intOf] <;> omega
    · have i1 : ¬ (k : Int) < (n : Int) := by omega
      obtain rfl : k = n := by omega
      obtain ⟨E, ec, hv⟩ := row_form KR.at0
      have K6 := KR
      rw [addD_len] at K6 hv
      subst hv
      obtain ⟨s1, s2, s3, z1, z2, z3, -⟩ := K6.cells
      have hri : RI wr E k (addD (bb : Int) xs ys k) := by
        have h := Kn.riv (show Kn w (rowI E ec (addD (bb : Int) xs ys k) :: _) wr by unfold rowI; rw [addD_len]; exact K6)
        rw [addD_len] at h
        exact h
      clear KR
      obtain ⟨cr, hcr⟩ : ∃ s, carK (bb : Int) xs ys k = s := ⟨_, rfl⟩
      simp only [hcr] at KW
      have KW2 := Lib.hid (KW.out E ec wr hri)
      unfold SumR
      rw [hcr]
      have HCR := Lib.hid hcr
      clear hri KW hcr
      go_wp2_with (go_at_call 43; refine KW2.out.mono ?_; rintro e w9 ⟨rfl, hw⟩; have K9 := K6.keep hw; clear hw K6 s1 s2 s3 z1 z2 z3; obtain ⟨s1, s2, s3, z1, z2, z3, -⟩ := K9.cells)
      have K10 := ((K9.front 2 rfl).st 0 (.int .i64 (bb : Int))).st 1 (.slice E k ec)
      refine bodyPost.kn K10 ?_; clear K10; intro w10 K10
      obtain ⟨b1, b2, b3, -⟩ := K10.cells
      refine bodyPost_ret (v := .tuple #[.agg #[.int .i64 (bb : Int), .slice E k ec], .int .i64 cr, .int .i64 0]) (by simp [results, Try.results13, go_sem, b1]) rfl ⟨_, _, by rw [HCR.out], ?_⟩
      exact K10.sel [1] 99 (by decide) (by decide)
end Go.Proofs.Ytmmiahgmdllgdaa

namespace Go.Proofs.Ytmmiahgmdllgdaa
open Go.RowKit Go.Sort
theorem subD_digs {b : Int} (hb : 2 ≤ b) {xs ys : List Int} (hx : Digs b xs) (hy : Digs b ys) (n : Nat) : Digs b (subD b xs ys n) := fun d hd => by
  obtain ⟨i, -, rfl⟩ := List.mem_map.1 hd
  have h1 := hx.at hb i
  have h2 := hy.at hb i
  have h3 := borK_bd xs ys i
  unfold subK
  split <;> omega
end Go.Proofs.Ytmmiahgmdllgdaa

namespace Go.Proofs.Ytmmiahgmdllgdaa
open Go.RowKit Go.Sort
/-- what the drawing of a good register returns -/
def DReg7 (b M : Nat) (w : World) (e : Ending) (w' : World) : Prop := ∃ (bs : Int) (A : Option Addr) (c : Nat) (ds : List Int), e = .returned (.agg #[.int .i64 bs, .slice A ds.length c]) ∧ (2 ≤ bs ∧ bs ≤ 12 ∧ 1 ≤ ds.length ∧ ds.length ≤ 7 ∧ ∀ d ∈ ds, 0 ≤ d ∧ d < bs) ∧ DR b M w [rowI A c ds] w'
theorem min7 {q k : Nat} (h : 0 ≤ (q : Int) ∧ ((q : Int) < min 7 (k : Int) ∨ min 7 (k : Int) ≤ 1 ∧ (q : Int) = 0)) : q ≤ 6 := by omega
theorem wrapQ7 {q : Nat} (h : q ≤ 6) : IntKind.i64.wrap (1 + (q : Int)) = ((q + 1 : Nat) : Int) := by rw [wrapI64 (by omega)]; omega
set_option maxRecDepth 100000 in
set_option maxHeartbeats 1600000 in
theorem l02Draw7_dr (b N : Nat) (w : World) (h : Src w b N) (hN : N ≤ 800000) :
    Calls Try.prog 35 #[.pointer (some ⟨b, 0, none⟩), .int .i64 7] w (DReg7 b (N + 40) w) := by
  unfold DReg7
  have D0 := DR.nil h
  clear h
  go_enter Try.func35, Try.ntmps35
  go_wp2_with fail
  refine Calls.dr (D0.al [.int .i64 0, .slice none 0 0] 26) ?_; intro w1 D1
  refine (pick_dr b N 11 w1 D1.src (by omega)).mono ?_; rintro e w2 ⟨x, rfl, hx, h2⟩
  have D2 := D1.add h2
  clear D0 D1 h2
  obtain ⟨x0, hx1⟩ := hx
  have x1 : x < 11 := by omega
  clear hx1
  obtain ⟨g0, hg0⟩ : ∃ g, w.heap.size = g := ⟨_, rfl⟩
  rw [hg0] at D2 ⊢
  go_wp2_with fail
  refine Calls.dr (D2.al [.int .i64 (2 + x), .slice none 0 0] 26) ?_; intro w3 D3
  obtain ⟨g, hg⟩ : ∃ g, w2.heap.size = g := ⟨_, rfl⟩
  rw [hg] at D3 ⊢
  clear hg D2
  refine (one_dr b _ 2 w3 D3.src (by omega)).mono ?_; rintro e w4 ⟨y, rfl, h4⟩
  have D4 := D3.add h4
  clear D3 h4
  obtain ⟨bs, hbs⟩ : ∃ z, 2 + x = z := ⟨_, rfl⟩
  rw [hbs] at D4
  have b1 : 2 ≤ bs := by omega
  have b2 : bs ≤ 12 := by omega
  clear hbs
  obtain ⟨a1, a2, a3, -⟩ := D4.cells
  rcases y with _ | _
  · go_wp2_with fail
    have HG := Lib.hid (D4.drew.box2.1)
    have HT := HG
    go_region_held3 (fun W => W.cell? ⟨g, 0, none⟩ = some (.int .i64 bs)) (first | with_reducible exact HG.out | with_reducible exact HT.out | exact HG.out | exact HT.out) (first
      | (go_at_call 95; (with_reducible refine (l02Most_any _ _).mono ?_); rintro e w5 ⟨⟨k, rfl, k1, k2⟩, rfl⟩)
      | (go_at_call 94; (with_reducible refine (l00Min_any _ _ _).mono ?_); rintro e w5 ⟨rfl, rfl⟩)
      | (go_at_call 92; (with_reducible refine (pick_dr b _ _ _ D4.drew.src (by omega)).mono ?_); rintro e w5 ⟨y, rfl, hy, h5⟩; have D5 := D4.drew.add h5; clear HG; have HG := Lib.hid (D5.box2.1); obtain ⟨q, rfl⟩ : ∃ q : Nat, y = q := ⟨y.toNat, by omega⟩; have hq := min7 hy; have hq1 := wrapQ7 hq)
      | (go_at_call 36; rw [show (q : Int) + 1 = ((q + 1 : Nat) : Int) from rfl]; refine (digits_dr b _ _ (q + 1) _ D5.src (by omega) (by omega) (by omega) (by omega)).mono ?_; rintro e w6 ⟨A, c, ds, rfl, hl, hd, h6⟩; have D6 := D5.add h6; clear HG; have HG := Lib.hid ((D6.front 1 rfl).box2.1); obtain ⟨x1, x2, x3, -⟩ := (D6.front 1 rfl).cells; have D8 := (D6.front 1 rfl).st 1 (.slice A (q + 1) c); clear HT; have HT := Lib.hid (D8.box2.1)))
    all_goals
      clear D5 D6 HG HT
      try clear x1 x2 x3
      try clear a1 a2 a3
      generalize w6.setCell ⟨g, 1, none⟩ (.slice A (q + 1) c) = w8 at D8 ⊢
      obtain ⟨a1, a2, a3, -⟩ := D8.cells
      obtain ⟨d1, d2, d3, -⟩ := (D8.front 2 rfl).cells
      go_wp2_with fail
      refine bodyPost.dr (((D8.front 2 rfl).st 0 (.int .i64 bs)).st 1 (.slice A (q + 1) c)) ?_; intro w9 D9
      clear a1 a2 a3 d1 d2 d3
      obtain ⟨a1, a2, a3, -⟩ := D9.cells
      refine bodyPost_ret (v := .agg #[.int .i64 bs, .slice A (q + 1) c]) (by simp [results, Try.results35, go_sem, a1]) rfl ⟨bs, A, c, ds, by rw [hl], ⟨by omega, by omega, by omega, by omega, hd⟩, ?_⟩
      have hq' := hq
      exact (D9.sel [2] 99 (by decide) (by decide)).mono (by omega)
  · go_upto_region 4 with fail
    refine Code.wp.dr ((D4.front 0 rfl).st 0 (.int .i64 10)) ?_; intro w4 D4
    clear a1 a2 a3
    obtain ⟨a1, a2, a3, -⟩ := D4.cells
    have HG := Lib.hid (D4.drew.box2.1)
    have HT := HG
    go_region_held3 (fun W => W.cell? ⟨g, 0, none⟩ = some (.int .i64 10)) (first | with_reducible exact HG.out | with_reducible exact HT.out | exact HG.out | exact HT.out) (first
      | (go_at_call 95; (with_reducible refine (l02Most_any _ _).mono ?_); rintro e w5 ⟨⟨k, rfl, k1, k2⟩, rfl⟩)
      | (go_at_call 94; (with_reducible refine (l00Min_any _ _ _).mono ?_); rintro e w5 ⟨rfl, rfl⟩)
      | (go_at_call 92; (with_reducible refine (pick_dr b _ _ _ D4.drew.src (by omega)).mono ?_); rintro e w5 ⟨y, rfl, hy, h5⟩; have D5 := D4.drew.add h5; clear HG; have HG := Lib.hid (D5.box2.1); obtain ⟨q, rfl⟩ : ∃ q : Nat, y = q := ⟨y.toNat, by omega⟩; have hq := min7 hy; have hq1 := wrapQ7 hq)
      | (go_at_call 36; rw [show (q : Int) + 1 = ((q + 1 : Nat) : Int) from rfl]; refine (digits_dr b _ _ (q + 1) _ D5.src (by omega) (by omega) (by omega) (by omega)).mono ?_; rintro e w6 ⟨A, c, ds, rfl, hl, hd, h6⟩; have D6 := D5.add h6; clear HG; have HG := Lib.hid ((D6.front 1 rfl).box2.1); obtain ⟨x1, x2, x3, -⟩ := (D6.front 1 rfl).cells; have D8 := (D6.front 1 rfl).st 1 (.slice A (q + 1) c); clear HT; have HT := Lib.hid (D8.box2.1)))
    all_goals
      clear D5 D6 HG HT
      try clear x1 x2 x3
      try clear a1 a2 a3
      generalize w6.setCell ⟨g, 1, none⟩ (.slice A (q + 1) c) = w8 at D8 ⊢
      obtain ⟨a1, a2, a3, -⟩ := D8.cells
      obtain ⟨d1, d2, d3, -⟩ := (D8.front 2 rfl).cells
      go_wp2_with fail
      refine bodyPost.dr (((D8.front 2 rfl).st 0 (.int .i64 10)).st 1 (.slice A (q + 1) c)) ?_; intro w9 D9
      clear a1 a2 a3 d1 d2 d3
      obtain ⟨a1, a2, a3, -⟩ := D9.cells
      refine bodyPost_ret (v := .agg #[.int .i64 10, .slice A (q + 1) c]) (by simp [results, Try.results35, go_sem, a1]) rfl ⟨10, A, c, ds, by rw [hl], ⟨by omega, by omega, by omega, by omega, hd⟩, ?_⟩
      have hq' := hq
      exact (D9.sel [2] 99 (by decide) (by decide)).mono (by omega)
end Go.Proofs.Ytmmiahgmdllgdaa

namespace Go.Proofs.Ytmmiahgmdllgdaa
open Go.RowKit Go.Sort
/-! strokes that lead back, plainly -/
theorem tmod_wrap (a P : Int) (hP : 0 < P) : (a.tmod P + P).tmod P = a % P := by
  have h1 := Int.lt_tmod_of_pos a hP
  rw [Int.tmod_eq_emod_of_nonneg (by omega), Int.add_emod_right, Int.tmod_def, Int.sub_mul_emod_self_left]
theorem digD_valL (b : Int) (hb : 2 ≤ b) : ∀ ds : List Int, (∀ d ∈ ds, 0 ≤ d ∧ d < b) → valL b ds ≤ 1000000000000 → digD b ds.length (valL b ds) = ds
  | [], _, _ => rfl
  | d :: ds, hd, hl => by
    have hd0 := hd d (List.mem_cons_self ..)
    have hv0 := (valL_bd b hb ds (fun x hx => (hd x (List.mem_cons_of_mem _ hx)).1)).1
    have e1 : valL b (d :: ds) = valL b ds * b + d := by simp only [valL] at hl ⊢; omega
    have h2 : valL b ds * 1 ≤ valL b ds * b := Int.mul_le_mul_of_nonneg_left (by omega) hv0
    have ih := digD_valL b hb ds (fun x hx => hd x (List.mem_cons_of_mem _ hx)) (by omega)
    have h3 : 0 ≤ valL b ds * b + d := by omega
    have e2 : (valL b ds * b + d).tmod b = d := by
      rw [Int.tmod_eq_emod_of_nonneg h3, Int.add_comm, Int.add_mul_emod_self_right]
      exact Int.emod_eq_of_lt hd0.1 hd0.2
    have e3 : (valL b ds * b + d).tdiv b = valL b ds := by
      rw [Int.tdiv_eq_ediv_of_nonneg h3, Int.add_comm, Int.add_mul_ediv_right _ _ (by omega), Int.ediv_eq_zero_of_lt hd0.1 hd0.2, Int.zero_add]
    rw [List.length_cons, digD_cons, e1, e2, e3, ih]
theorem vreg_dig {b : Int} {ds : List Int} (hv : vreg b ds = true) : digD b ds.length (valL b ds) = ds := by
  obtain ⟨⟨b1, b2⟩, -, hd, hl⟩ := vreg_iff.1 hv
  exact digD_valL b b1 ds hd hl
theorem valL_shift {b : Int} {ds : List Int} (x : Int) (hv : vreg b ds = true) (hp : pw b ds.length ≤ 1000000000001) : valL b (shiftD b ds x) = (valL b ds + x) % pw b ds.length := by
  obtain ⟨⟨b1, b2⟩, -, hd, hl⟩ := vreg_iff.1 hv
  have hp1 := pw_pos b b1 ds.length
  unfold shiftD
  rw [tmod_wrap _ _ (by omega)]
  have h1 := Int.emod_nonneg (valL b ds + x) (show pw b ds.length ≠ 0 by omega)
  have h2 := Int.emod_lt_of_pos (valL b ds + x) (show 0 < pw b ds.length by omega)
  exact valL_digD b b1 _ _ h1 h2 (by omega)
theorem shiftD_eq (b : Int) (hb : 2 ≤ b) (ds : List Int) (y : Int) : shiftD b ds y = digD b ds.length ((valL b ds + y) % pw b ds.length) := by
  have hp1 := pw_pos b hb ds.length
  unfold shiftD
  rw [tmod_wrap _ _ (by omega)]
theorem shift_back {b : Int} {ds : List Int} (x y : Int) (hxy : x + y = 0) (hv : vreg b ds = true) (hp : pw b ds.length ≤ 1000000000001) : shiftD b (shiftD b ds x) y = ds := by
  obtain ⟨⟨b1, b2⟩, -, hd, hl⟩ := vreg_iff.1 hv
  have hp1 := pw_pos b b1 ds.length
  have hv0 := (valL_bd b b1 ds (fun x hx => (hd x hx).1)).1
  have hv1 := valL_lt b b1 ds hd
  rw [shiftD_eq b b1 (shiftD b ds x) y, valL_shift x hv hp, shiftD_len, Int.emod_add_emod, Int.add_assoc, hxy, Int.add_zero, Int.emod_eq_of_lt hv0 hv1]
  exact vreg_dig hv
/-- the stroke that leads back -/
def backK (k : Int) : Int := if k = 1 then 2 else if k = 2 then 1 else if k = 3 then 4 else 3
theorem turn_back {t : Tri} (h : vmach t = true) (s s' : Int) (hs : s + s' = 0) : (turnT (turnT t s).1 s').1 = t := by
  obtain ⟨k1, k2, k3, e1, e2, f1, f2, l1, c0, c1⟩ := vmach_all h
  have q1 := shift_back (s * (valL t.a.base t.a.digits * pw t.b.base t.carry.toNat)) (s' * (valL t.a.base t.a.digits * pw t.b.base t.carry.toNat)) (by rw [← Int.add_mul, hs, Int.zero_mul]) k2 f1
  have q2 := shift_back (s * pw t.b.base t.carry.toNat) (s' * pw t.b.base t.carry.toNat) (by rw [← Int.add_mul, hs, Int.zero_mul]) k3 f2
  rw [show (turnT (turnT t s).1 s').1 = ⟨t.a, ⟨t.b.base, shiftD t.b.base (shiftD t.b.base t.b.digits (s * (valL t.a.base t.a.digits * pw t.b.base t.carry.toNat))) (s' * (valL t.a.base t.a.digits * pw t.b.base t.carry.toNat))⟩, ⟨t.s.base, shiftD t.s.base (shiftD t.s.base t.s.digits (s * pw t.b.base t.carry.toNat)) (s' * pw t.b.base t.carry.toNat)⟩, t.carry⟩ from rfl, q1, q2]
theorem stroke_back {t : Tri} (h : vmach t = true) {k : Int} (hk : 1 ≤ k ∧ k ≤ 4) : if (strokeT k t).2 = true ∧ 2 < k then (strokeT k t).1 = t else (strokeT (backK k) (strokeT k t).1).1 = t := by
  obtain ⟨k1, k2, k3, e1, e2, f1, f2, l1, c0, c1⟩ := vmach_all h
  have hk' : k = 1 ∨ k = 2 ∨ k = 3 ∨ k = 4 := by omega
  rcases hk' with rfl | rfl | rfl | rfl
  · rw [if_neg (by omega)]
    exact turn_back h 1 (-1) (by decide)
  · rw [if_neg (by omega)]
    exact turn_back h (-1) 1 (by decide)
  · by_cases hc : t.carry + 1 = vplaces t
    · have e : strokeT 3 t = (t, true) := by simp [strokeT, hc]
      rw [e, if_pos ⟨rfl, by decide⟩]
    · have e : strokeT 3 t = ({ t with carry := t.carry + 1 }, false) := by simp [strokeT, hc]
      rw [e, if_neg (by simp)]
      have h4 : ¬ t.carry + 1 = 0 := by omega
      simp [strokeT, backK, h4]
  · by_cases hc : t.carry = 0
    · have e : strokeT 4 t = (t, true) := by simp [strokeT, hc]
      rw [e, if_pos ⟨rfl, by decide⟩]
    · have e : strokeT 4 t = ({ t with carry := t.carry - 1 }, false) := by simp [strokeT, hc]
      rw [e, if_neg (by simp)]
      have h4 : ¬ t.carry = vplaces t := by omega
      simp only [backK, strokeT]
      simp [vplaces] at h4 ⊢
      simp [h4]
end Go.Proofs.Ytmmiahgmdllgdaa

namespace Go.Proofs.Ytmmiahgmdllgdaa
open Go.RowKit Go.Sort
theorem compD_take (b : Int) {xs : List Int} {k : Nat} (h : k < xs.length) : compD b (xs.take (k + 1)) = compD b (xs.take k) ++ [b - 1 - xs[k]] := by
  unfold compD; rw [List.take_succ_eq_append_getElem h, List.map_append]; rfl
theorem compD_len (b : Int) (xs : List Int) : (compD b xs).length = xs.length := by simp [compD]
end Go.Proofs.Ytmmiahgmdllgdaa

namespace Go.Proofs.Ytmmiahgmdllgdaa
open Go.RowKit Go.Sort
/-- two registers of digits of one base and width -/
def A2R (w : World) (e : Ending) (w' : World) : Prop := ∃ (b : Int) (A : Option Addr) (c : Nat) (ds : List Int) (B : Option Addr) (k : Nat) (es : List Int), e = .returned (.tuple #[.agg #[.int .i64 b, .slice A ds.length c], .agg #[.int .i64 b, .slice B ds.length k]]) ∧ ((2 ≤ b ∧ b ≤ 12) ∧ (1 ≤ ds.length ∧ ds.length ≤ 7) ∧ es.length = ds.length ∧ Digs b ds ∧ Digs b es) ∧ Kn w [rowI A c ds, rowI B k es] w'
set_option maxRecDepth 100000 in
set_option maxHeartbeats 3200000 in
theorem A2Registers_any (A : Option Addr) (n c : Nat) (bs : List UInt8) (w : World) (hb : RB w A n bs) (hn : n ≤ 9223372036854775807) :
    Calls Try.prog 6 #[.slice A n c] w (A2R w) := by
  unfold A2R
  have HB := Lib.hid hb
  clear hb
  go_enter Try.func6, Try.ntmps6
  go_wp2_with fail
  refine Calls.kn (((Kn.nil w).al [.int .i64 0, .slice none 0 0] 26).al [.int .i64 0, .slice none 0 0] 26) ?_; intro w1 K1
  simp only [World.size_alloc] at K1
  refine (l00From_any A n c bs w1 (HB.out.below K1.below) hn).mono ?_; rintro e w2 ⟨rfl, hs, hb2⟩
  have D2 := DR.nil hs
  clear HB hs
  go_wp2_with fail
  have KD := l02Draw7_dr _ _ w2 D2.src (by omega)
  unfold DReg7 at KD
  refine KD.mono ?_; rintro e w3 ⟨b, A, c, ds, rfl, ⟨b1, b2, n1, n2, hdg⟩, h3⟩
  have D3 := D2.add h3
  clear D2 h3 KD
  have HDG := Lib.hid hdg
  clear hdg
  obtain ⟨g, hg⟩ : ∃ g, w3.heap.size = g := ⟨_, rfl⟩
  go_upto_region 3 with fail
  have D4 := D3.al [.int .i64 b, .slice A ds.length c] 26
  rw [hg] at D4
  try rw [hg]
  refine Code.wp.dr D4 ?_; clear D3 D4 hg; intro w4 D4
  have HG := Lib.hid (D4.drew.box2)
  have HKA := HG
  have HP := Lib.hid (digits_dr _ _ b ds.length _ D4.drew.src (by omega) (by omega) (by omega) (by omega))
  go_region_held3 (fun W => W.cell? ⟨g, 0, none⟩ = some (.int .i64 b) ∧ W.cell? ⟨g, 1, none⟩ = some (.slice A ds.length c)) (first | with_reducible exact HG.out | with_reducible exact HKA.out | with_reducible exact HKB.out | with_reducible exact HAB.out | with_reducible exact HBA.out) (first
    | (go_at_call 36; refine HP.out.mono ?_; rintro e w5 ⟨B, k, es, rfl, hl, hd2, h5⟩; have D5 := D4.drew.add h5; have K5 : Kn w [rowI B k es, .blk g [.int .i64 b, .slice A ds.length c] 26, rowI A c ds, .blk (w.heap.size + 1) [.int .i64 0, .slice none 0 0] 26, .blk w.heap.size [.int .i64 0, .slice none 0 0] 26] w5 := K1.join (Kn.ofDR hb2 (Nat.le_refl _) D5); have HDE := Lib.hid hd2; have HLE := Lib.hid hl; clear hd2 hl HG; have HG := Lib.hid (Go.Proofs.Ytmmiahgmdllgdaa.box2 (K5.front 1 rfl)); have KA := ((K5.front 4 rfl).st 0 (.int .i64 b)).st 1 (.slice A ds.length c); have KB := ((K5.front 3 rfl).st 0 (.int .i64 b)).st 1 (.slice B ds.length k); have KAB := ((KA.front 4 rfl).st 0 (.int .i64 b)).st 1 (.slice B ds.length k); have KBA := ((KB.front 4 rfl).st 0 (.int .i64 b)).st 1 (.slice A ds.length c); clear HKA; have HKA := Lib.hid (Go.Proofs.Ytmmiahgmdllgdaa.box2 (KA.front 2 rfl)); have HKB := Lib.hid (Go.Proofs.Ytmmiahgmdllgdaa.box2 (KB.front 2 rfl)); have HAB := Lib.hid (Go.Proofs.Ytmmiahgmdllgdaa.box2 (KAB.front 3 rfl)); have HBA := Lib.hid (Go.Proofs.Ytmmiahgmdllgdaa.box2 (KBA.front 3 rfl)); obtain ⟨a1, a2, a3, -⟩ := (K5.front 4 rfl).cells; obtain ⟨d1, d2, d3, -⟩ := (K5.front 3 rfl).cells))
  all_goals
    clear HG HKA HKB HAB HBA HP
    go_wp2_with fail
    first
      | (refine bodyPost.kn KAB ?_; intro w9 K9)
      | (refine bodyPost.kn (KBA.sel [1, 0, 2, 3, 4] 99 (by decide) (by decide)) ?_; intro w9 K9)
    clear a1 a2 a3 d1 d2 d3
    obtain ⟨d1, d2, d3, a1, a2, a3, -⟩ := K9.cells
    exact bodyPost_ret (v := .tuple #[.agg #[.int .i64 b, .slice A ds.length c], .agg #[.int .i64 b, .slice B ds.length k]]) (by simp [results, Try.results6, go_sem, a1, d1]) rfl ⟨b, A, c, ds, B, k, es, rfl, ⟨⟨b1, b2⟩, ⟨n1, n2⟩, HLE.out, HDG.out, HDE.out⟩, K9.sel [4, 2] 99 (by decide) (by decide)⟩
end Go.Proofs.Ytmmiahgmdllgdaa

namespace Go.Proofs.Ytmmiahgmdllgdaa
open Go.RowKit Go.Sort
structure Flt where
  kind : Int
  lever : Int
def FltM (w : World) (p : Addr) (f : Flt) : Prop := w.cell? p = some (.int .i64 f.kind) ∧ w.cell? ⟨p.block, p.off + 1, none⟩ = some (.int .i64 f.lever)
theorem steady_FltM : Steady FltM := by
  rintro w w' p f hp hb ⟨h1, h2⟩
  exact ⟨by rw [hb.cell hp]; exact h1, by rw [hb.cell (by exact hp)]; exact h2⟩
def kindAt (fs : List Flt) (j : Int) : Int := fs.foldl (fun a f => if f.lever = j then f.kind else a) 0
theorem kindAt_succ {fs : List Flt} {k : Nat} (h : k < fs.length) (j : Int) : kindAt (fs.take (k + 1)) j = if fs[k].lever = j then fs[k].kind else kindAt (fs.take k) j := by
  unfold kindAt
  rw [List.take_succ_eq_append_getElem h, List.foldl_append]; rfl
def kindsL (fs : List Flt) (n : Nat) : List Int := (List.range n).map (fun (i : Nat) => kindAt fs (i : Int))
theorem kindsL_set {fs : List Flt} {k n l : Nat} (h : k < fs.length) (hl : fs[k].lever = (l : Int)) : ((kindsL (fs.take k) n).map (Value.int .i64)).set l (.int .i64 fs[k].kind) = (kindsL (fs.take (k + 1)) n).map (Value.int .i64) := by
  apply List.ext_getElem
  · simp [kindsL]
  · intro i h1 h2
    rw [List.getElem_set]
    simp only [kindsL, List.map_map, List.getElem_map, List.getElem_range, Function.comp, kindAt_succ h, hl]
    by_cases g : l = i
    · subst g; simp
    · have : ¬ (l : Int) = (i : Int) := by omega
      rw [if_neg g, if_neg this]
theorem kindsL_nil (n : Nat) : (kindsL [] n).map (Value.int .i64) = List.replicate n (.int .i64 0) := by
  apply List.ext_getElem
  · simp [kindsL]
  · intro i h1 h2; simp [kindsL, kindAt]
def GoodF (n : Nat) (fs : List Flt) : Prop := ∀ f ∈ fs, 1 ≤ f.kind ∧ f.kind ≤ 3 ∧ 0 ≤ f.lever ∧ f.lever < n
set_option maxHeartbeats 800000 in
theorem l08Kinds_any (n : Nat) (A : Option Addr) (m c : Nat) (fs : List Flt) (w : World) (hr : RL FltM 2 w A m fs) (hg : GoodF n fs) (hn : n ≤ 16) (hm : m ≤ 9223372036854775807) :
    Calls Try.prog 126 #[.int .i64 n, .slice A m c] w fun e w' => ∃ A' c', e = .returned (.slice A' n c') ∧ OwnI w' w.heap.size (.slice A' n c') (kindsL fs n) ∧ Below w.heap.size w w' := by
  have HL := Lib.hid hr.1
  obtain ⟨i0, hi, hz0, hz1, hz2⟩ := info_parts info_i64
  go_enter Try.func126, Try.ntmps126
  go_wp2_with (at_make; refine wpList_make_full _ rfl _ _ 24 rfl w.heap.size 2 i0 _ 1 Try.underlying24 hi hz0 hz1 _ _ _ _ n rfl rfl rfl rfl (by rw [hz2]; omega) (by unfold maxLen; omega) (Nat.le_refl _) ?_; intro w1 hown1 hg1)
  rw [madeI] at hown1
  have hb1 : Below w.heap.size w w1 := (Below.refl _ _).grown hg1 (Nat.le_refl _) (by simp)
  clear hg1
  go_loopw [6] (fun i wr => ∃ k : Nat, k ≤ m ∧ i = .int .i64 k ∧ wr.ownsRow w.heap.size 2 1 (.slice (some ⟨w.heap.size, 0, none⟩) n n) n ((kindsL (fs.take k) n).map (Value.int .i64)) ∧ Below w.heap.size w wr) (fun i _ => m - (intOf i).toNat)
  case atStart => exact ⟨0, Nat.zero_le _, rfl, by rw [List.take_zero, kindsL_nil]; exact hown1, hb1⟩
  case round =>
    obtain ⟨k, hk, rfl, hown, hbr⟩ := hrel
    by_cases hkn : k < m
    · obtain ⟨ad, hA, hlt, hkl, f1, f2⟩ := (hr.below steady_FltM hbr).at_ hkn
      obtain ⟨q1, q2, q3, q4⟩ := hg fs[k] (List.getElem_mem _)
      obtain ⟨l, hl⟩ : ∃ l : Nat, fs[k].lever = l := ⟨fs[k].lever.toNat, by omega⟩
      have hln : l < n := by omega
      have hi0 : (0 : Int) ≤ (k : Int) := by omega
      have hi1 : (k : Int) < (m : Int) := by omega
      have hi2 : (0 : Int) ≤ (l : Int) := by omega
      have hi3 : (l : Int) < (n : Int) := by omega
      rw [hl] at f2
      have HE := Lib.hid (kindsL_set (n := n) hkl hl)
      subst hA
      obtain ⟨u, hu⟩ : ∃ u, ((kindsL (fs.take k) n).map (Value.int .i64))[l]? = some u := ⟨_, List.getElem?_eq_getElem (by rw [hown.1]; omega)⟩
      have hcell := (hown.cellAt l (by omega)).trans hu
      clear hu
      have hfz := hown.frozenAt l
      have hst := Lib.hid (fun (W : World) (h : W.ownsRow w.heap.size 2 1 (.slice (some ⟨w.heap.size, 0, none⟩) n n) n ((kindsL (fs.take k) n).map (Value.int .i64))) => (h.stored l (.int .i64 fs[k].kind)).1)
      have HO := Lib.hid hown
      clear hown hl q3 q4
      go_wp2
      go_region
      all_goals
        go_wp2
        go_roundw
        case rel => exact ⟨k + 1, by omega, by go_num, by rw [← HE.out]; exact hst.out _ HO.out.drew, hbr.drew.setCell (Nat.le_refl _) _⟩
        case measure => simp [intOf]; omega
    · have HK : Hid (k = m) := by simp only [Hid]; omega
      go_wp2
      go_ret
      refine ⟨_, _, rfl, ?_, hbr⟩
      rw [HK.out, List.take_of_length_le (by have := HL.out; omega)] at hown
      unfold OwnI
      simpa [kindsL] using hown
end Go.Proofs.Ytmmiahgmdllgdaa
