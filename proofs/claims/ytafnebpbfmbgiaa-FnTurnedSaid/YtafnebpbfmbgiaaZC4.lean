/- Part 4: lemmas and contracts of the claim's functions. -/
import Derived.Test.YtafnebpbfmbgiaaZC1
import Derived.Test.YtafnebpbfmbgiaaZC2
import Derived.Test.YtafnebpbfmbgiaaZC3
import Derived.Laws.BitsLemmas
namespace Go.Proofs.Ytafnebpbfmbgiaa
open Go.RowKit Go.Sort
section
variable {o : Oper} {a : Act} {K : Act → World → Prop} {Q : Exit → Act → World → Prop} {w w0 : World} {m : List Ent}
theorem kn_pushIo (s x : Operand) (ho : o.op = .call { callee := .builtin .append, args := #[s, x], argTypes := #[26, 26] })
    (v : Value) (ds : List Int) (hs : a.eval s = v) {g c : Nat} {T' : TypeId} {z : Int} (hx : a.eval x = .slice (some ⟨g, 0, none⟩) 1 c)
    (hK : Kn w0 (.blk g [.int .i64 z] T' :: .row v 2 1 ds.length (ds.map (Value.int .i64)) :: m) w) (hl : ds.length ≤ 10000000)
    (h : ∀ v' w', Kn w0 (.row v' 2 1 (ds ++ [z]).length ((ds ++ [z]).map (Value.int .i64)) :: m) w' → K (a.put o.dst v') w') : Oper.wp Try.prog o a w K Q := by
  have hK2 := hK.sw1
  have h0 := hK.blkAt
  refine appGo tpI s x ho 0 v ds.length (ds.map (Value.int .i64)) hs hK2.at0 ⟨g, 0, none⟩ 1 c [.int .i64 z] hx rfl (fun j u hu => ?_) (by simp [Value.oneCell']) (by omega) (by omega) (Nat.zero_le _) (fun v' w' ho' hg hv => ?_)
  · rw [add_zero_block]; rw [h0.1 j]; exact hu
  · refine h v' w' ?_
    have hK' := hK2.drop1.grow hg ho' hv
    rw [List.length_append, List.map_append, List.map_cons, List.map_nil]
    exact hK'
end
/-! the wheels after a part of a turn, plainly -/
def outT (d : Dr) (xs ys : List Int) (tm : Int) (k : Nat) : Int := (xs.getD k 0 + dBy d (ys.getD k 0).toNat tm) % d.b
def outD (d : Dr) (xs ys : List Int) (tm : Int) : List Int := (List.range xs.length).map (outT d xs ys tm)
def tdC (d : Dr) (a : Int) (xs : List Int) (b : Int) (ys : List Int) (tm : Int) : Int :=
  if (drOk d && (vreg a xs && vreg b ys)) = false then 1
  else if (a == d.b && (b == d.b && decide (xs.length = ys.length))) = false then 6
  else if betB tm 0 100000 = false then 2
  else if vreg d.b (outD d xs ys tm) = false then 5 else 0
def tdV (d : Dr) (a : Int) (xs : List Int) (b : Int) (ys : List Int) (tm : Int) : Int := if tdC d a xs b ys tm = 0 then d.b else 0
def tdD (d : Dr) (a : Int) (xs : List Int) (b : Int) (ys : List Int) (tm : Int) : List Int := if tdC d a xs b ys tm = 0 then outD d xs ys tm else []
/-- a register and a code -/
def RgRet (b : Int) (es : List Int) (C : Int) (w : World) (e : Ending) (w' : World) : Prop := ∃ E g, e = .returned (.tuple #[.agg #[.int .i64 b, .slice E es.length g], .int .i64 C]) ∧ Kn w [rowI E g es] w'
theorem RgRet.zero {C : Int} {w w' : World} (h : Below w.heap.size w w') : RgRet 0 [] C w (.returned (.tuple #[.agg #[.int .i64 0, .slice none 0 0], .int .i64 C])) w' :=
  ⟨none, 0, rfl, ((Kn.nil w).keep h).nilRow _ _⟩
theorem td_not {d : Dr} {a : Int} {xs : List Int} {b : Int} {ys : List Int} {tm C : Int} (h : tdC d a xs b ys tm = C) (hc : C ≠ 0) : tdC d a xs b ys tm = C ∧ tdV d a xs b ys tm = 0 ∧ tdD d a xs b ys tm = [] := ⟨h, by unfold tdV; rw [h, if_neg hc], by unfold tdD; rw [h, if_neg hc]⟩
theorem td_bad {d : Dr} {a : Int} {xs : List Int} {b : Int} {ys : List Int} {tm : Int} (h : (drOk d && (vreg a xs && vreg b ys)) = false) : tdC d a xs b ys tm = 1 ∧ tdV d a xs b ys tm = 0 ∧ tdD d a xs b ys tm = [] := td_not (by unfold tdC; rw [if_pos h]) (by decide)
theorem td_state {d : Dr} {a : Int} {xs : List Int} {b : Int} {ys : List Int} {tm : Int} (h : (drOk d && (vreg a xs && vreg b ys)) = true) (h2 : (a == d.b && (b == d.b && decide (xs.length = ys.length))) = false) : tdC d a xs b ys tm = 6 ∧ tdV d a xs b ys tm = 0 ∧ tdD d a xs b ys tm = [] := td_not (by unfold tdC; rw [if_neg (by rw [h]; decide), if_pos h2]) (by decide)
theorem td_range {d : Dr} {a : Int} {xs : List Int} {b : Int} {ys : List Int} {tm : Int} (h : (drOk d && (vreg a xs && vreg b ys)) = true) (h2 : (a == d.b && (b == d.b && decide (xs.length = ys.length))) = true) (h3 : betB tm 0 100000 = false) : tdC d a xs b ys tm = 2 ∧ tdV d a xs b ys tm = 0 ∧ tdD d a xs b ys tm = [] := td_not (by unfold tdC; rw [if_neg (by rw [h]; decide), if_neg (by rw [h2]; decide), if_pos h3]) (by decide)
theorem td_full {d : Dr} {a : Int} {xs : List Int} {b : Int} {ys : List Int} {tm : Int} (h : (drOk d && (vreg a xs && vreg b ys)) = true) (h2 : (a == d.b && (b == d.b && decide (xs.length = ys.length))) = true) (h3 : betB tm 0 100000 = true) (h4 : vreg d.b (outD d xs ys tm) = false) : tdC d a xs b ys tm = 5 ∧ tdV d a xs b ys tm = 0 ∧ tdD d a xs b ys tm = [] := td_not (by unfold tdC; rw [if_neg (by rw [h]; decide), if_neg (by rw [h2]; decide), if_neg (by rw [h3]; decide), if_pos h4]) (by decide)
theorem td_fine {d : Dr} {a : Int} {xs : List Int} {b : Int} {ys : List Int} {tm : Int} (h : (drOk d && (vreg a xs && vreg b ys)) = true) (h2 : (a == d.b && (b == d.b && decide (xs.length = ys.length))) = true) (h3 : betB tm 0 100000 = true) (h4 : vreg d.b (outD d xs ys tm) = true) : tdC d a xs b ys tm = 0 ∧ tdV d a xs b ys tm = d.b ∧ tdD d a xs b ys tm = outD d xs ys tm := by
  have h1 : tdC d a xs b ys tm = 0 := by unfold tdC; rw [if_neg (by rw [h]; decide), if_neg (by rw [h2]; decide), if_neg (by rw [h3]; decide), if_neg (by rw [h4]; decide)]
  exact ⟨h1, by unfold tdV; rw [h1, if_pos rfl], by unfold tdD; rw [h1, if_pos rfl]⟩
def TDRet (d : Dr) (a : Int) (xs : List Int) (b : Int) (ys : List Int) (tm : Int) (w : World) (e : Ending) (w' : World) : Prop := RgRet (tdV d a xs b ys tm) (tdD d a xs b ys tm) (tdC d a xs b ys tm) w e w'
theorem TDRet.of {d : Dr} {a : Int} {xs : List Int} {b : Int} {ys : List Int} {tm C : Int} {w w' : World} {e : Ending} (h : tdC d a xs b ys tm = C ∧ tdV d a xs b ys tm = 0 ∧ tdD d a xs b ys tm = []) (he : e = .returned (.tuple #[.agg #[.int .i64 0, .slice none 0 0], .int .i64 C])) (hb : Below w.heap.size w w') : TDRet d a xs b ys tm w e w' := by
  unfold TDRet
  rw [h.1, h.2.1, h.2.2, he]
  exact RgRet.zero hb
theorem outD_succ (d : Dr) (xs ys : List Int) (tm : Int) (k : Nat) : (List.range (k + 1)).map (outT d xs ys tm) = (List.range k).map (outT d xs ys tm) ++ [outT d xs ys tm k] := by rw [List.range_succ, List.map_append]; rfl
theorem dBy_bd (d : Dr) (n : Nat) (tm : Int) (ht : 2 ≤ d.t) (hn : n ≤ 16) (htm : 0 ≤ tm ∧ tm ≤ 100000) : 0 ≤ dBy d n tm ∧ dBy d n tm ≤ 2000000 := by
  unfold dBy
  have h1 := Int.ediv_nonneg (a := tm) (b := d.t) (by omega) (by omega)
  have h2 := Int.ediv_le_self (a := tm) d.t (by omega)
  have h3 : tm / d.t * (n : Int) ≤ 100000 * 16 := Int.mul_le_mul (by omega) (by omega) (by omega) (by omega)
  have h4 : 0 ≤ tm / d.t * (n : Int) := Int.mul_nonneg (by omega) (by omega)
  have h5 := dCnt_le d n (tm % d.t) n
  omega
set_option maxRecDepth 100000 in
set_option maxHeartbeats 6400000 in
theorem TurnDrums_any (d : Dr) (a : Int) (XA : Option Addr) (xc : Nat) (xs : List Int) (b : Int) (YA : Option Addr) (yc : Nat) (ys : List Int) (tm : Int) (w : World) (hx : RI w XA xs.length xs) (hy : RI w YA ys.length ys) (hm1 : xs.length ≤ 1000000) (hm2 : ys.length ≤ 1000000) :
    Calls Try.prog 7 #[.agg #[.int .i64 d.k, .int .i64 d.b, .int .i64 d.t, .int .i64 d.f], .agg #[.int .i64 a, .slice XA xs.length xc], .agg #[.int .i64 b, .slice YA ys.length yc], .int .i64 tm] w (TDRet d a xs b ys tm w) := by
  have KD := (fun W => ValidDrum_any d.k d.b d.t d.f W)
  have KX := (fun W (hW : Below w.heap.size w W) => ValidRegister_any a XA xs.length xc xs W (hx.below hW) (by omega))
  have KY := (fun W (hW : Below w.heap.size w W) => ValidRegister_any b YA ys.length yc ys W (hy.below hW) (by omega))
  have hd0 : drOk ⟨d.k, d.b, d.t, d.f⟩ = drOk d := rfl
  rw [hd0] at KD
  clear hd0
  obtain ⟨g1, hg1⟩ : ∃ g, w.heap.size = g := ⟨_, rfl⟩
  have K0 := ((((Kn.nil w).al [.int .i64 d.k, .int .i64 d.b, .int .i64 d.t, .int .i64 d.f] 25).al [.int .i64 a, .slice XA xs.length xc] 28).al [.int .i64 b, .slice YA ys.length yc] 28).al [.int .i64 0, .slice none 0 0] 28
  simp only [World.size_alloc, hg1] at K0
  rcases hv1 : drOk d with _ | _
  · have HX := Lib.hid (td_bad (a := a) (xs := xs) (b := b) (ys := ys) (tm := tm) (show (drOk d && (vreg a xs && vreg b ys)) = false by rw [hv1]; rfl))
    rw [hv1] at KD
    replace KD := Lib.hid KD
    clear KX KY hv1
    go_enter Try.func7, Try.ntmps7
    go_wp2_with (go_at_call 41; refine Calls.kn K0 ?_; intro w1 K1; refine (KD.out _).mono ?_; rintro e w2 ⟨rfl, hw⟩; have Kfin := K1.keep hw; obtain ⟨a1, a2, a3, -⟩ := Kfin.cells)
    refine bodyPost.kn ((Kfin.st 0 (.int .i64 0)).st 1 (.slice none 0 0)) ?_; intro w9 K9
    clear a1 a2 a3
    obtain ⟨a1, a2, a3, -⟩ := K9.cells
    exact bodyPost_ret (v := .tuple #[.agg #[.int .i64 0, .slice none 0 0], .int .i64 1]) (by simp [results, Try.results7, go_sem, a1]) rfl (TDRet.of (HX.out) rfl K9.below)
  rw [hv1] at KD
  rcases hv2 : vreg a xs with _ | _
  · have HX := Lib.hid (td_bad (a := a) (xs := xs) (b := b) (ys := ys) (tm := tm) (show (drOk d && (vreg a xs && vreg b ys)) = false by rw [hv1, hv2]; rfl))
    rw [hv2] at KX
    replace KD := Lib.hid KD
    replace KX := Lib.hid KX
    clear KY hv1 hv2
    go_enter Try.func7, Try.ntmps7
    go_wp2_with (first
      | (go_at_call 41; refine Calls.kn K0 ?_; intro w1 K1; refine (KD.out _).mono ?_; rintro e w2 ⟨rfl, hw⟩; have K2 := K1.keep hw; clear hw; obtain ⟨a1, a2, a3, b1, b2, b3, c1, c2, c3, -⟩ := K2.cells)
      | (go_at_call 42; (refine (KX.out _ K2.below).mono ?_; rintro e w3 ⟨rfl, hw⟩; have Kfin := K2.keep hw; clear hw a1 a2 a3 b1 b2 b3 c1 c2 c3; obtain ⟨a1, a2, a3, -⟩ := Kfin.cells)))
    refine bodyPost.kn ((Kfin.st 0 (.int .i64 0)).st 1 (.slice none 0 0)) ?_; intro w9 K9
    clear a1 a2 a3
    obtain ⟨a1, a2, a3, -⟩ := K9.cells
    exact bodyPost_ret (v := .tuple #[.agg #[.int .i64 0, .slice none 0 0], .int .i64 1]) (by simp [results, Try.results7, go_sem, a1]) rfl (TDRet.of (HX.out) rfl K9.below)
  rw [hv2] at KX
  rcases hv3 : vreg b ys with _ | _
  · have HX := Lib.hid (td_bad (a := a) (xs := xs) (b := b) (ys := ys) (tm := tm) (show (drOk d && (vreg a xs && vreg b ys)) = false by rw [hv1, hv2, hv3]; rfl))
    rw [hv3] at KY
    replace KD := Lib.hid KD
    replace KX := Lib.hid KX
    replace KY := Lib.hid KY
    clear hv1 hv2 hv3
    go_enter Try.func7, Try.ntmps7
    go_wp2_with (first
      | (go_at_call 41; refine Calls.kn K0 ?_; intro w1 K1; refine (KD.out _).mono ?_; rintro e w2 ⟨rfl, hw⟩; have K2 := K1.keep hw; clear hw; obtain ⟨a1, a2, a3, b1, b2, b3, c1, c2, c3, -⟩ := K2.cells)
      | (go_at_call 42; first | ((with_reducible refine (KX.out _ K2.below).mono ?_); rintro e w3 ⟨rfl, hw⟩; have K3 := K2.keep hw; clear hw a1 a2 a3 b1 b2 b3 c1 c2 c3; obtain ⟨a1, a2, a3, b1, b2, b3, -⟩ := K3.cells) | ((with_reducible refine (KY.out _ K3.below).mono ?_); rintro e w4 ⟨rfl, hw⟩; have Kfin := K3.keep hw; clear hw a1 a2 a3 b1 b2 b3; obtain ⟨a1, a2, a3, -⟩ := Kfin.cells)))
    refine bodyPost.kn ((Kfin.st 0 (.int .i64 0)).st 1 (.slice none 0 0)) ?_; intro w9 K9
    clear a1 a2 a3
    obtain ⟨a1, a2, a3, -⟩ := K9.cells
    exact bodyPost_ret (v := .tuple #[.agg #[.int .i64 0, .slice none 0 0], .int .i64 1]) (by simp [results, Try.results7, go_sem, a1]) rfl (TDRet.of (HX.out) rfl K9.below)
  rw [hv3] at KY
  have HV := Lib.hid (show (drOk d && (vreg a xs && vreg b ys)) = true by rw [hv1, hv2, hv3]; rfl)
  have HV1 := Lib.hid hv1
  have HV2 := Lib.hid hv2
  have HV3 := Lib.hid hv3
  clear hv1 hv2 hv3
  replace KD := Lib.hid KD
  replace KX := Lib.hid KX
  replace KY := Lib.hid KY
  by_cases e1 : a = d.b
  rotate_left
  · have HX := Lib.hid (td_state (tm := tm) HV.out (show (a == d.b && (b == d.b && decide (xs.length = ys.length))) = false by rw [beq_eq_false_iff_ne.2 e1]; rfl))
    have y1 : (a == d.b) = false := beq_eq_false_iff_ne.2 e1
    have y2 : (a != d.b) = true := bne_iff_ne.2 e1
    go_enter Try.func7, Try.ntmps7
    go_upto_region 3 with (first
      | (go_at_call 41; refine Calls.kn K0 ?_; intro w1 K1; refine (KD.out _).mono ?_; rintro e w2 ⟨rfl, hw⟩; have K2 := K1.keep hw; clear hw; obtain ⟨a1, a2, a3, b1, b2, b3, c1, c2, c3, -⟩ := K2.cells)
      | (go_at_call 42; first | ((with_reducible refine (KX.out _ K2.below).mono ?_); rintro e w3 ⟨rfl, hw⟩; have K3 := K2.keep hw; clear hw a1 a2 a3 b1 b2 b3 c1 c2 c3; obtain ⟨a1, a2, a3, b1, b2, b3, -⟩ := K3.cells) | ((with_reducible refine (KY.out _ K3.below).mono ?_); rintro e w4 ⟨rfl, hw⟩; have K4 := K3.keep hw; clear hw a1 a2 a3 b1 b2 b3)))
    clear K1 K2 K3 KX KY KD
    have x0 := cell_regrown (show w4.cell? ⟨g1, 1, none⟩ = some (.int .i64 d.b) from (K4.front 3 rfl).blkAt.1 1)
    have x1 := cell_regrown (show w4.cell? ⟨g1 + 1, 0, none⟩ = some (.int .i64 a) from (K4.front 2 rfl).blkAt.1 0)
    have x2 := cell_regrown (show w4.cell? ⟨g1 + 1, 1, none⟩ = some (.slice XA xs.length xc) from (K4.front 2 rfl).blkAt.1 1)
    have x3 := cell_regrown (show w4.cell? ⟨g1 + 1 + 1, 0, none⟩ = some (.int .i64 b) from (K4.front 1 rfl).blkAt.1 0)
    have x4 := cell_regrown (show w4.cell? ⟨g1 + 1 + 1, 1, none⟩ = some (.slice YA ys.length yc) from (K4.front 1 rfl).blkAt.1 1)
    refine wp_region_quiet_below (by kernel_rfl) (by kernel_rfl) ?_
    repeat (go_big_quiet_step (first | (go_at_call 43; exact quietB (fun W _ => width_any _ _ _ _ W))))
    refine wpQuiet_nil ?_
    intro _ hw'
    obtain ⟨⟨dq, osq⟩, hw''⟩ := hw'
    subst hw''
    obtain ⟨w5, hw3⟩ : ∃ W, grow (redrawn w4 dq) osq = W := ⟨_, rfl⟩
    have K5 := K4.keep (below_regrown w4 dq osq)
    dsimp only
    rw [hw3] at K5 ⊢
    clear hw3 x0 x1 x2 x3 x4 K4
    obtain ⟨a1, a2, a3, -⟩ := K5.cells
    go_wp2_with fail
    have Kfin := K5
    refine bodyPost.kn ((Kfin.st 0 (.int .i64 0)).st 1 (.slice none 0 0)) ?_; intro w9 K9
    clear a1 a2 a3
    obtain ⟨a1, a2, a3, -⟩ := K9.cells
    exact bodyPost_ret (v := .tuple #[.agg #[.int .i64 0, .slice none 0 0], .int .i64 6]) (by simp [results, Try.results7, go_sem, a1]) rfl (TDRet.of (HX.out) rfl K9.below)
  have y1 : (a == d.b) = true := beq_iff_eq.2 e1
  have y2 : (a != d.b) = false := by rw [e1]; exact bne_self_eq_false _
  by_cases e2 : b = d.b
  rotate_left
  · have HX := Lib.hid (td_state (tm := tm) HV.out (show (a == d.b && (b == d.b && decide (xs.length = ys.length))) = false by rw [beq_eq_false_iff_ne.2 e2, y1]; rfl))
    have y3 : (b == d.b) = false := beq_eq_false_iff_ne.2 e2
    have y4 : (b != d.b) = true := bne_iff_ne.2 e2
    clear e1
    go_enter Try.func7, Try.ntmps7
    go_upto_region 3 with (first
      | (go_at_call 41; refine Calls.kn K0 ?_; intro w1 K1; refine (KD.out _).mono ?_; rintro e w2 ⟨rfl, hw⟩; have K2 := K1.keep hw; clear hw; obtain ⟨a1, a2, a3, b1, b2, b3, c1, c2, c3, -⟩ := K2.cells)
      | (go_at_call 42; first | ((with_reducible refine (KX.out _ K2.below).mono ?_); rintro e w3 ⟨rfl, hw⟩; have K3 := K2.keep hw; clear hw a1 a2 a3 b1 b2 b3 c1 c2 c3; obtain ⟨a1, a2, a3, b1, b2, b3, -⟩ := K3.cells) | ((with_reducible refine (KY.out _ K3.below).mono ?_); rintro e w4 ⟨rfl, hw⟩; have K4 := K3.keep hw; clear hw a1 a2 a3 b1 b2 b3)))
    clear K1 K2 K3 KX KY KD
    have x0 := cell_regrown (show w4.cell? ⟨g1, 1, none⟩ = some (.int .i64 d.b) from (K4.front 3 rfl).blkAt.1 1)
    have x1 := cell_regrown (show w4.cell? ⟨g1 + 1, 0, none⟩ = some (.int .i64 a) from (K4.front 2 rfl).blkAt.1 0)
    have x2 := cell_regrown (show w4.cell? ⟨g1 + 1, 1, none⟩ = some (.slice XA xs.length xc) from (K4.front 2 rfl).blkAt.1 1)
    have x3 := cell_regrown (show w4.cell? ⟨g1 + 1 + 1, 0, none⟩ = some (.int .i64 b) from (K4.front 1 rfl).blkAt.1 0)
    have x4 := cell_regrown (show w4.cell? ⟨g1 + 1 + 1, 1, none⟩ = some (.slice YA ys.length yc) from (K4.front 1 rfl).blkAt.1 1)
    refine wp_region_quiet_below (by kernel_rfl) (by kernel_rfl) ?_
    repeat (go_big_quiet_step (first | (go_at_call 43; exact quietB (fun W _ => width_any _ _ _ _ W))))
    refine wpQuiet_nil ?_
    intro _ hw'
    obtain ⟨⟨dq, osq⟩, hw''⟩ := hw'
    subst hw''
    obtain ⟨w5, hw3⟩ : ∃ W, grow (redrawn w4 dq) osq = W := ⟨_, rfl⟩
    have K5 := K4.keep (below_regrown w4 dq osq)
    dsimp only
    rw [hw3] at K5 ⊢
    clear hw3 x0 x1 x2 x3 x4 K4
    obtain ⟨a1, a2, a3, -⟩ := K5.cells
    go_wp2_with fail
    have Kfin := K5
    refine bodyPost.kn ((Kfin.st 0 (.int .i64 0)).st 1 (.slice none 0 0)) ?_; intro w9 K9
    clear a1 a2 a3
    obtain ⟨a1, a2, a3, -⟩ := K9.cells
    exact bodyPost_ret (v := .tuple #[.agg #[.int .i64 0, .slice none 0 0], .int .i64 6]) (by simp [results, Try.results7, go_sem, a1]) rfl (TDRet.of (HX.out) rfl K9.below)
  have y3 : (b == d.b) = true := beq_iff_eq.2 e2
  have y4 : (b != d.b) = false := by rw [e2]; exact bne_self_eq_false _
  by_cases e3 : xs.length = ys.length
  rotate_left
  · have HX := Lib.hid (td_state (tm := tm) HV.out (show (a == d.b && (b == d.b && decide (xs.length = ys.length))) = false by rw [y1, y3, decide_eq_false e3]; rfl))
    have y5 : ((xs.length : Int) != (ys.length : Int)) = true := bne_iff_ne.2 (by omega)
    have y6 : ((xs.length : Int) == (ys.length : Int)) = false := beq_eq_false_iff_ne.2 (by omega)
    clear e1 e2
    go_enter Try.func7, Try.ntmps7
    go_upto_region 3 with (first
      | (go_at_call 41; refine Calls.kn K0 ?_; intro w1 K1; refine (KD.out _).mono ?_; rintro e w2 ⟨rfl, hw⟩; have K2 := K1.keep hw; clear hw; obtain ⟨a1, a2, a3, b1, b2, b3, c1, c2, c3, -⟩ := K2.cells)
      | (go_at_call 42; first | ((with_reducible refine (KX.out _ K2.below).mono ?_); rintro e w3 ⟨rfl, hw⟩; have K3 := K2.keep hw; clear hw a1 a2 a3 b1 b2 b3 c1 c2 c3; obtain ⟨a1, a2, a3, b1, b2, b3, -⟩ := K3.cells) | ((with_reducible refine (KY.out _ K3.below).mono ?_); rintro e w4 ⟨rfl, hw⟩; have K4 := K3.keep hw; clear hw a1 a2 a3 b1 b2 b3)))
    clear K1 K2 K3 KX KY KD
    have x0 := cell_regrown (show w4.cell? ⟨g1, 1, none⟩ = some (.int .i64 d.b) from (K4.front 3 rfl).blkAt.1 1)
    have x1 := cell_regrown (show w4.cell? ⟨g1 + 1, 0, none⟩ = some (.int .i64 a) from (K4.front 2 rfl).blkAt.1 0)
    have x2 := cell_regrown (show w4.cell? ⟨g1 + 1, 1, none⟩ = some (.slice XA xs.length xc) from (K4.front 2 rfl).blkAt.1 1)
    have x3 := cell_regrown (show w4.cell? ⟨g1 + 1 + 1, 0, none⟩ = some (.int .i64 b) from (K4.front 1 rfl).blkAt.1 0)
    have x4 := cell_regrown (show w4.cell? ⟨g1 + 1 + 1, 1, none⟩ = some (.slice YA ys.length yc) from (K4.front 1 rfl).blkAt.1 1)
    refine wp_region_quiet_below (by kernel_rfl) (by kernel_rfl) ?_
    repeat (go_big_quiet_step (first | (go_at_call 43; exact quietB (fun W _ => width_any _ _ _ _ W))))
    refine wpQuiet_nil ?_
    intro _ hw'
    obtain ⟨⟨dq, osq⟩, hw''⟩ := hw'
    subst hw''
    obtain ⟨w5, hw3⟩ : ∃ W, grow (redrawn w4 dq) osq = W := ⟨_, rfl⟩
    have K5 := K4.keep (below_regrown w4 dq osq)
    dsimp only
    rw [hw3] at K5 ⊢
    clear hw3 x0 x1 x2 x3 x4 K4
    obtain ⟨a1, a2, a3, -⟩ := K5.cells
    go_wp2_with fail
    have Kfin := K5
    refine bodyPost.kn ((Kfin.st 0 (.int .i64 0)).st 1 (.slice none 0 0)) ?_; intro w9 K9
    clear a1 a2 a3
    obtain ⟨a1, a2, a3, -⟩ := K9.cells
    exact bodyPost_ret (v := .tuple #[.agg #[.int .i64 0, .slice none 0 0], .int .i64 6]) (by simp [results, Try.results7, go_sem, a1]) rfl (TDRet.of (HX.out) rfl K9.below)
  have HS := Lib.hid (show (a == d.b && (b == d.b && decide (xs.length = ys.length))) = true by rw [y1, y3, decide_eq_true e3]; rfl)
  have y5 : ((xs.length : Int) != (ys.length : Int)) = false := by rw [e3]; exact bne_self_eq_false _
  have y6 : ((xs.length : Int) == (ys.length : Int)) = true := by rw [e3]; exact beq_self_eq_true _
  have E1 := Lib.hid e1
  have E2 := Lib.hid e2
  have E3 := Lib.hid e3
  have KI := (fun W => isTime_any tm W)
  clear e1 e2 e3
  rcases ht : betB tm 0 100000 with _ | _
  · have HX := Lib.hid (td_range HV.out HS.out ht)
    rw [ht] at KI
    replace KI := Lib.hid KI
    clear ht
    go_enter Try.func7, Try.ntmps7
    go_upto_region 3 with (first
      | (go_at_call 41; refine Calls.kn K0 ?_; intro w1 K1; refine (KD.out _).mono ?_; rintro e w2 ⟨rfl, hw⟩; have K2 := K1.keep hw; clear hw; obtain ⟨a1, a2, a3, b1, b2, b3, c1, c2, c3, -⟩ := K2.cells)
      | (go_at_call 42; first | ((with_reducible refine (KX.out _ K2.below).mono ?_); rintro e w3 ⟨rfl, hw⟩; have K3 := K2.keep hw; clear hw a1 a2 a3 b1 b2 b3 c1 c2 c3; obtain ⟨a1, a2, a3, b1, b2, b3, -⟩ := K3.cells) | ((with_reducible refine (KY.out _ K3.below).mono ?_); rintro e w4 ⟨rfl, hw⟩; have K4 := K3.keep hw; clear hw a1 a2 a3 b1 b2 b3)))
    clear K1 K2 K3 KX KY KD
    have x0 := cell_regrown (show w4.cell? ⟨g1, 1, none⟩ = some (.int .i64 d.b) from (K4.front 3 rfl).blkAt.1 1)
    have x1 := cell_regrown (show w4.cell? ⟨g1 + 1, 0, none⟩ = some (.int .i64 a) from (K4.front 2 rfl).blkAt.1 0)
    have x2 := cell_regrown (show w4.cell? ⟨g1 + 1, 1, none⟩ = some (.slice XA xs.length xc) from (K4.front 2 rfl).blkAt.1 1)
    have x3 := cell_regrown (show w4.cell? ⟨g1 + 1 + 1, 0, none⟩ = some (.int .i64 b) from (K4.front 1 rfl).blkAt.1 0)
    have x4 := cell_regrown (show w4.cell? ⟨g1 + 1 + 1, 1, none⟩ = some (.slice YA ys.length yc) from (K4.front 1 rfl).blkAt.1 1)
    refine wp_region_quiet_below (by kernel_rfl) (by kernel_rfl) ?_
    repeat (go_big_quiet_step (first | (go_at_call 43; exact quietB (fun W _ => width_any _ _ _ _ W))))
    refine wpQuiet_nil ?_
    intro _ hw'
    obtain ⟨⟨dq, osq⟩, hw''⟩ := hw'
    subst hw''
    obtain ⟨w5, hw3⟩ : ∃ W, grow (redrawn w4 dq) osq = W := ⟨_, rfl⟩
    have K5 := K4.keep (below_regrown w4 dq osq)
    dsimp only
    rw [hw3] at K5 ⊢
    clear hw3 x0 x1 x2 x3 x4 K4
    obtain ⟨a1, a2, a3, -⟩ := K5.cells
    go_wp2_with (go_at_call 44; refine (KI.out _).mono ?_; rintro e w' ⟨rfl, rfl⟩)
    have Kfin := K5
    refine bodyPost.kn ((Kfin.st 0 (.int .i64 0)).st 1 (.slice none 0 0)) ?_; intro w9 K9
    clear a1 a2 a3
    obtain ⟨a1, a2, a3, -⟩ := K9.cells
    exact bodyPost_ret (v := .tuple #[.agg #[.int .i64 0, .slice none 0 0], .int .i64 2]) (by simp [results, Try.results7, go_sem, a1]) rfl (TDRet.of (HX.out) rfl K9.below)
  rw [ht] at KI
  replace KI := Lib.hid KI
  have HT := Lib.hid ht
  clear ht
  go_enter Try.func7, Try.ntmps7
  go_upto_region 3 with (first
    | (go_at_call 41; refine Calls.kn K0 ?_; intro w1 K1; refine (KD.out _).mono ?_; rintro e w2 ⟨rfl, hw⟩; have K2 := K1.keep hw; clear hw; obtain ⟨a1, a2, a3, b1, b2, b3, c1, c2, c3, -⟩ := K2.cells)
    | (go_at_call 42; first | ((with_reducible refine (KX.out _ K2.below).mono ?_); rintro e w3 ⟨rfl, hw⟩; have K3 := K2.keep hw; clear hw a1 a2 a3 b1 b2 b3 c1 c2 c3; obtain ⟨a1, a2, a3, b1, b2, b3, -⟩ := K3.cells) | ((with_reducible refine (KY.out _ K3.below).mono ?_); rintro e w4 ⟨rfl, hw⟩; have K4 := K3.keep hw; clear hw a1 a2 a3 b1 b2 b3)))
  clear K1 K2 K3 KX KY KD
  have x0 := cell_regrown (show w4.cell? ⟨g1, 1, none⟩ = some (.int .i64 d.b) from (K4.front 3 rfl).blkAt.1 1)
  have x1 := cell_regrown (show w4.cell? ⟨g1 + 1, 0, none⟩ = some (.int .i64 a) from (K4.front 2 rfl).blkAt.1 0)
  have x2 := cell_regrown (show w4.cell? ⟨g1 + 1, 1, none⟩ = some (.slice XA xs.length xc) from (K4.front 2 rfl).blkAt.1 1)
  have x3 := cell_regrown (show w4.cell? ⟨g1 + 1 + 1, 0, none⟩ = some (.int .i64 b) from (K4.front 1 rfl).blkAt.1 0)
  have x4 := cell_regrown (show w4.cell? ⟨g1 + 1 + 1, 1, none⟩ = some (.slice YA ys.length yc) from (K4.front 1 rfl).blkAt.1 1)
  refine wp_region_quiet_below (by kernel_rfl) (by kernel_rfl) ?_
  repeat (go_big_quiet_step (first | (go_at_call 43; exact quietB (fun W _ => width_any _ _ _ _ W))))
  refine wpQuiet_nil ?_
  intro _ hw'
  obtain ⟨⟨dq, osq⟩, hw''⟩ := hw'
  subst hw''
  obtain ⟨w5, hw3⟩ : ∃ W, grow (redrawn w4 dq) osq = W := ⟨_, rfl⟩
  have K5 := K4.keep (below_regrown w4 dq osq)
  dsimp only
  rw [hw3] at K5 ⊢
  clear hw3 x0 x1 x2 x3 x4 K4
  obtain ⟨a1, a2, a3, -⟩ := K5.cells
  obtain ⟨a1, a2, a3, b1, b2, b3, c1, c2, c3, f1, f2, f3, -⟩ := K5.cells
  go_upto_region 8 with (go_at_call 44; refine (KI.out _).mono ?_; rintro e w' ⟨rfl, rfl⟩)
  refine Code.wp.kn (K5.al [.int .i64 d.b, .slice none 0 0] 28) ?_; intro w6 K6
  obtain ⟨gO, hgO⟩ : ∃ g, w5.heap.size = g := ⟨_, rfl⟩
  rw [hgO] at K6 ⊢
  clear a1 a2 a3 b1 b2 b3 c1 c2 c3 f1 f2 f3 K5 hgO KI
  obtain ⟨a1, a2, a3, -⟩ := (K6.front 3 rfl).cells
  go_wp2_with fail
  clear a1 a2 a3
  have hdd := HV1.out
  obtain ⟨-, hdb, hdt, -⟩ := drOk_iff.1 hdd
  have hdx := (vreg_iff.1 HV2.out).2.2.1
  have hdy := (vreg_iff.1 HV3.out).2.2.1
  rw [E1.out] at hdx
  rw [E2.out] at hdy
  have HDX := Lib.hid hdx
  have HDY := Lib.hid hdy
  have htm := betB_iff.1 HT.out
  have KST := Lib.hid (fun (n : Nat) (hn : (n : Int) < d.b) W => steps_any d n tm W hdd hn htm)
  clear hdd hdx hdy hdt
  have K7 : Kn w [.row (.slice none 0 0) 2 1 ((List.range 0).map (outT d xs ys tm)).length (((List.range 0).map (outT d xs ys tm)).map (Value.int .i64)), .blk gO [.int .i64 d.b, .slice none 0 0] 28, .blk (g1 + 1 + 1 + 1) [.int .i64 0, .slice none 0 0] 28, .blk (g1 + 1 + 1) [.int .i64 b, .slice YA ys.length yc] 28, .blk (g1 + 1) [.int .i64 a, .slice XA xs.length xc] 28, .blk g1 [.int .i64 d.k, .int .i64 d.b, .int .i64 d.t, .int .i64 d.f] 25] w6 := K6.nilRow _ _
  clear K6
  go_loopw [57] (fun ii wr => ∃ (k : Nat) (vv : Value), k ≤ xs.length ∧ ii = .int .i64 (k : Int) ∧ Kn w [.row vv 2 1 ((List.range k).map (outT d xs ys tm)).length (((List.range k).map (outT d xs ys tm)).map (Value.int .i64)), .blk gO [.int .i64 d.b, vv] 28, .blk (g1 + 1 + 1 + 1) [.int .i64 0, .slice none 0 0] 28, .blk (g1 + 1 + 1) [.int .i64 b, .slice YA ys.length yc] 28, .blk (g1 + 1) [.int .i64 a, .slice XA xs.length xc] 28, .blk g1 [.int .i64 d.k, .int .i64 d.b, .int .i64 d.t, .int .i64 d.f] 25] wr) (fun ii _ => xs.length - (intOf ii).toNat)
  case atStart => exact ⟨0, _, Nat.zero_le _, rfl, K7⟩
  case round =>
    clear K7
    obtain ⟨k, vv, hk, rfl, hK⟩ := hrel
    by_cases hkn : k < xs.length
    · have i1 : (k : Int) < (xs.length : Int) := by omega
      have i0 : (0 : Int) ≤ (k : Int) := by omega
      have hkny : k < ys.length := by have := E3.out; omega
      have i2 : (k : Int) < (ys.length : Int) := by omega
      obtain ⟨adx, hA, hltx, hkx, hcx⟩ := (hx.below hK.below).at_ hkn
      obtain ⟨ady, hB, hlty, hky, hcy⟩ := hy.at_ hkny
      have HYC := Lib.hid (fun W (hW : Below w.heap.size w W) => (hW.cell (p := ady.add k) (by rw [block_of_add]; exact hlty)).trans hcy)
      have hO := Lib.hid (outD_succ d xs ys tm k)
      have hZ : outT d xs ys tm k = (xs[k] + dBy d (ys[k]).toNat tm) % d.b := by unfold outT; rw [getD_of hkn, getD_of hkny]
      obtain ⟨x, hxx⟩ : ∃ x, xs[k] = x := ⟨_, rfl⟩
      obtain ⟨y, hyy⟩ : ∃ y, ys[k] = y := ⟨_, rfl⟩
      have bx := HDX.out x (by rw [← hxx]; exact List.getElem_mem hkn)
      have bY := HDY.out y (by rw [← hyy]; exact List.getElem_mem hkny)
      rw [hxx] at hcx
      rw [hxx, hyy] at hZ
      rw [hyy] at HYC
      obtain ⟨n, rfl⟩ : ∃ n : Nat, y = n := ⟨y.toNat, by omega⟩
      rw [Int.toNat_natCast] at hZ
      have KX := KST.out n (by omega)
      have hsb := dBy_bd d n tm (by have := drOk_iff.1 HV1.out; omega) (by omega) htm
      obtain ⟨sb, hsb2⟩ : ∃ s, dBy d n tm = s := ⟨_, rfl⟩
      rw [hsb2] at KX hZ hsb
      replace KX := Lib.hid KX
      have hz1 : 0 ≤ (x + sb) % d.b := Int.emod_nonneg _ (by omega)
      have hz2 : (x + sb) % d.b < d.b := Int.emod_lt_of_pos _ (by omega)
      obtain ⟨z, hz⟩ : ∃ z, (x + sb) % d.b = z := ⟨_, rfl⟩
      have q1 : IntKind.i64.wrap (x + sb) = x + sb := wrapI (by omega)
      have q2 : Int.tmod (x + sb) d.b = z := by rw [Int.tmod_eq_emod_of_nonneg (by omega)]; exact hz
      have q0 : ¬ d.b = 0 := by omega
      rw [hz] at hZ hz1 hz2
      have HZ := Lib.hid hZ
      have hL : ((List.range k).map (outT d xs ys tm)).length ≤ 10000000 := by simp; omega
      clear hxx hyy hsb2 hZ hcy
      subst hA
      subst hB
      have SP := Lib.hid (fun W vv (h : Kn w [.blk gO [.int .i64 d.b, vv] 28, .blk (g1 + 1 + 1 + 1) [.int .i64 0, .slice none 0 0] 28, .blk (g1 + 1 + 1) [.int .i64 b, .slice (some ady) ys.length yc] 28, .blk (g1 + 1) [.int .i64 a, .slice (some adx) xs.length xc] 28, .blk g1 [.int .i64 d.k, .int .i64 d.b, .int .i64 d.t, .int .i64 d.f] 25] W) => (show (W.cell? ⟨g1, 0, none⟩ = some (.int .i64 d.k) ∧ W.cell? ⟨g1, 1, none⟩ = some (.int .i64 d.b) ∧ W.cell? ⟨g1, 2, none⟩ = some (.int .i64 d.t) ∧ W.cell? ⟨g1, 3, none⟩ = some (.int .i64 d.f) ∧ W.cell? ⟨g1 + 1 + 1, 1, none⟩ = some (.slice (some ady) ys.length yc) ∧ W.cell? (ady.add k) = some (.int .i64 (n : Int))) from ⟨(h.front 4 rfl).blkAt.1 0, (h.front 4 rfl).blkAt.1 1, (h.front 4 rfl).blkAt.1 2, (h.front 4 rfl).blkAt.1 3, (h.front 2 rfl).blkAt.1 1, HYC.out W h.below⟩))
      obtain ⟨c1, c2, c3, -⟩ := (hK.front 4 rfl).cells
      go_wp2_with fail
      clear c1 c2 c3
      have hKd := hK.drew
      have HG := Lib.hid (SP.out _ vv hKd.drop)
      refine wp_region_held_drew (S := (fun W => (W.cell? ⟨g1, 0, none⟩ = some (.int .i64 d.k) ∧ W.cell? ⟨g1, 1, none⟩ = some (.int .i64 d.b) ∧ W.cell? ⟨g1, 2, none⟩ = some (.int .i64 d.t) ∧ W.cell? ⟨g1, 3, none⟩ = some (.int .i64 d.f) ∧ W.cell? ⟨g1 + 1 + 1, 1, none⟩ = some (.slice (some ady) ys.length yc) ∧ W.cell? (ady.add k) = some (.int .i64 (n : Int))))) (by kernel_rfl) ?_ (fun hHeld => ?_)
      · exact HG.out
      try dsimp only
      have HL := Lib.hid hL
      clear hL
      refine wpAnyH_take (i := 0) (v := ?_) rfl (by kernel_rfl) (by kernel_rfl) (by kernel_rfl) (fun _ _ _ h => h) (Or.inl ⟨by rfl, ?_⟩) hHeld ?_
      rotate_left
      · (intro w hSw; (try dsimp only at hSw); go_simp; try with_reducible rfl)
      try simp only [Act.put, List.setIfInBounds_toArray, List.set_cons_zero, List.set_cons_succ, List.getElem_toArray, List.getElem_cons_zero]
      refine wpAnyH_take (i := 2) (v := ?_) rfl (by kernel_rfl) (by kernel_rfl) (by kernel_rfl) (fun _ _ _ h => h) (Or.inl ⟨by rfl, ?_⟩) hHeld ?_
      rotate_left
      · (intro w hSw; (try dsimp only at hSw); go_simp; try with_reducible rfl)
      try simp only [Act.put, List.setIfInBounds_toArray, List.set_cons_zero, List.set_cons_succ, List.getElem_toArray, List.getElem_cons_succ, List.getElem_cons_zero]
      refine wpAnyH_take (i := 3) (v := ?_) rfl (by kernel_rfl) (by kernel_rfl) (by kernel_rfl) (fun _ _ _ h => h) (Or.inl ⟨by rfl, ?_⟩) hHeld ?_
      rotate_left
      · (intro w hSw; (try dsimp only at hSw); go_simp; try with_reducible rfl)
      try simp only [Act.put, List.setIfInBounds_toArray, List.set_cons_zero, List.set_cons_succ, List.getElem_toArray, List.getElem_cons_succ, List.getElem_cons_zero]
      refine wpAnyH_take (i := 4) (v := ?_) rfl (by kernel_rfl) (by kernel_rfl) (by kernel_rfl) (fun _ _ _ h => h) (Or.inl ⟨by rfl, ?_⟩) hHeld ?_
      rotate_left
      · (intro w hSw; (try dsimp only at hSw); go_simp; try with_reducible rfl)
      try simp only [Act.put, List.setIfInBounds_toArray, List.set_cons_zero, List.set_cons_succ, List.getElem_toArray, List.getElem_cons_succ, List.getElem_cons_zero]
      refine wpAnyH_take (i := 5) (v := ?_) rfl (by kernel_rfl) (by kernel_rfl) (by kernel_rfl) (fun _ _ _ h => h) (Or.inl ⟨by rfl, ?_⟩) hHeld ?_
      rotate_left
      · (intro w hSw; (try dsimp only at hSw); go_simp; try with_reducible rfl)
      try simp only [Act.put, List.setIfInBounds_toArray, List.set_cons_zero, List.set_cons_succ, List.getElem_toArray, List.getElem_cons_succ, List.getElem_cons_zero]
      refine wpAnyH_take (i := 6) (v := ?_) rfl (by kernel_rfl) (by kernel_rfl) (by kernel_rfl) (fun _ _ _ h => h) (Or.inl ⟨by rfl, ?_⟩) hHeld ?_
      rotate_left
      · (intro w hSw; (try dsimp only at hSw); go_simp; try with_reducible rfl)
      try simp only [Act.put, List.setIfInBounds_toArray, List.set_cons_zero, List.set_cons_succ, List.getElem_toArray, List.getElem_cons_succ, List.getElem_cons_zero]
      refine wpAnyH_take (i := 7) (v := ?_) rfl (by kernel_rfl) (by kernel_rfl) (by kernel_rfl) (fun _ _ _ h => h) (Or.inl ⟨by rfl, ?_⟩) hHeld ?_
      rotate_left
      · (intro w hSw; (try dsimp only at hSw); go_simp; try with_reducible rfl)
      try simp only [Act.put, List.setIfInBounds_toArray, List.set_cons_zero, List.set_cons_succ, List.getElem_toArray, List.getElem_cons_succ, List.getElem_cons_zero]
      refine wpAnyH_take (i := 8) (v := ?_) rfl (by kernel_rfl) (by kernel_rfl) (by kernel_rfl) (fun _ _ _ h => h) (Or.inl ⟨by rfl, ?_⟩) hHeld ?_
      rotate_left
      · (intro w hSw; (try dsimp only at hSw); go_simp; try with_reducible rfl)
      try simp only [Act.put, List.setIfInBounds_toArray, List.set_cons_zero, List.set_cons_succ, List.getElem_toArray, List.getElem_cons_succ, List.getElem_cons_zero]
      refine wpAnyH_take (i := 9) (v := ?_) rfl (by kernel_rfl) (by kernel_rfl) (by kernel_rfl) (fun _ _ _ h => h) (Or.inl ⟨by rfl, ?_⟩) hHeld ?_
      rotate_left
      · (intro w hSw; (try dsimp only at hSw); go_simp; try with_reducible rfl)
      try simp only [Act.put, List.setIfInBounds_toArray, List.set_cons_zero, List.set_cons_succ, List.getElem_toArray, List.getElem_cons_succ, List.getElem_cons_zero]
      refine wpAnyH_take (i := 12) (v := ?_) rfl (by kernel_rfl) (by kernel_rfl) (by kernel_rfl) (fun _ _ _ h => h) (Or.inl ⟨by rfl, ?_⟩) hHeld ?_
      rotate_left
      · (intro w hSw; (try dsimp only at hSw); go_simp; try with_reducible rfl)
      try simp only [Act.put, List.setIfInBounds_toArray, List.set_cons_zero, List.set_cons_succ, List.getElem_toArray, List.getElem_cons_succ, List.getElem_cons_zero]
      refine wpAnyH_take (i := 13) (v := ?_) rfl (by kernel_rfl) (by kernel_rfl) (by kernel_rfl) (fun _ _ _ h => h) (Or.inl ⟨by rfl, ?_⟩) hHeld ?_
      rotate_left
      · (intro w hSw; (try dsimp only at hSw); go_simp; try with_reducible rfl)
      try simp only [Act.put, List.setIfInBounds_toArray, List.set_cons_zero, List.set_cons_succ, List.getElem_toArray, List.getElem_cons_succ, List.getElem_cons_zero]
      refine wpAnyH_ready (rs := [1, 10]) (by kernel_rfl) (by decide) (AllReadyH.cons (o := _) rfl (fun K hK' => ?_) (AllReadyH.cons (o := _) rfl (fun K hK' => ?_) AllReadyH.nil))
      · obtain ⟨o1, o2, o3, -⟩ := (hKd.front 1 rfl).cells
        go_simp
        clear o1 o2 o3
        have HG := Lib.hid (SP.out _ vv hKd.drop)
        refine hK'.out _ _ HG.out (fun hHeld2 => ?_)
        clear hK' K hHeld
        have hHeld := hHeld2
        clear hHeld2
        try simp only [Act.put, List.setIfInBounds_toArray]
        refine wpAnyH_ready (rs := [10]) (by kernel_rfl) (by decide) (AllReadyH.cons (o := _) rfl (fun K hK' => ?_) AllReadyH.nil)
        go_simp
        go_at_call 45
        (refine (KX.out _).mono ?_); rintro e w8 ⟨rfl, hw⟩
        have K8 := hKd.keep hw
        clear hw
        have HG := Lib.hid (SP.out _ vv K8.drop)
        refine hK'.out _ _ HG.out (fun hHeld2 => ?_)
        clear hK' K hHeld
        have hHeld := hHeld2
        clear hHeld2
        try simp only [Act.put, List.setIfInBounds_toArray]
        refine wpAnyH_take (i := 11) (v := ?_) rfl (by kernel_rfl) (by kernel_rfl) (by kernel_rfl) (fun _ _ _ h => h) (Or.inl ⟨by rfl, ?_⟩) hHeld ?_
        rotate_left
        · (intro w hSw; (try dsimp only at hSw); go_simp; try with_reducible rfl)
        try simp only [Act.put, List.setIfInBounds_toArray, List.set_cons_zero, List.set_cons_succ, List.getElem_toArray, List.getElem_cons_succ, List.getElem_cons_zero]
        refine wpAnyH_take (i := 14) (v := ?_) rfl (by kernel_rfl) (by kernel_rfl) (by kernel_rfl) (fun _ _ _ h => h) (Or.inl ⟨by rfl, ?_⟩) hHeld ?_
        rotate_left
        · (intro w hSw; (try dsimp only at hSw); go_simp; try with_reducible rfl)
        try simp only [Act.put, List.setIfInBounds_toArray, List.set_cons_zero, List.set_cons_succ, List.getElem_toArray, List.getElem_cons_succ, List.getElem_cons_zero]
        refine wpAnyH_ready (rs := [15]) (by kernel_rfl) (by decide) (AllReadyH.cons (o := _) rfl (fun K hK' => ?_) AllReadyH.nil)
        go_simp
        have K9 := K8.al [.int .i64 z] 2
        have HG := Lib.hid (SP.out _ vv K9.drop.drop)
        refine hK'.out _ _ HG.out (fun hHeld2 => ?_)
        clear hK' K hHeld
        have hHeld := hHeld2
        clear hHeld2
        try simp only [Act.put, List.setIfInBounds_toArray]
        refine wpAnyH_ready (rs := [16]) (by kernel_rfl) (by decide) (AllReadyH.cons (o := _) rfl (fun K hK' => ?_) AllReadyH.nil)
        refine kn_stepI (by rfl) _ _ (by rfl) vv _ (by rfl) (by rfl) K9 HL.out ?_
        intro v' w10 K10
        obtain ⟨A', c', rfl⟩ := row_form K10.at0
        obtain ⟨m9, hm9⟩ : ∃ m, ((List.range k).map (outT d xs ys tm) ++ [z]).length = m := ⟨_, rfl⟩
        rw [hm9] at K10
        try rw [hm9]
        have HM9 := Lib.hid hm9
        clear hm9
        have HG := Lib.hid (SP.out _ vv K10.drop)
        refine hK'.out _ _ HG.out (fun hHeld2 => ?_)
        clear hK' K hHeld
        have hHeld := hHeld2
        clear hHeld2
        try simp only [Act.put, List.setIfInBounds_toArray]
        refine wpAnyH_take (i := 17) (v := ?_) rfl (by kernel_rfl) (by kernel_rfl) (by kernel_rfl) (fun _ _ _ h => h) (Or.inl ⟨by rfl, ?_⟩) hHeld ?_
        rotate_left
        · (intro w hSw; (try dsimp only at hSw); go_simp; try with_reducible rfl)
        try simp only [Act.put, List.setIfInBounds_toArray, List.set_cons_zero, List.set_cons_succ, List.getElem_toArray, List.getElem_cons_succ, List.getElem_cons_zero]
        refine wpAnyH_ready (rs := [18]) (by kernel_rfl) (by decide) (AllReadyH.cons (o := _) rfl (fun K hK' => ?_) AllReadyH.nil)
        obtain ⟨s1, s2, s3⟩ := (K10.front 1 rfl).blkAt
        have K11 := (K10.front 1 rfl).st 1 (.slice A' m9 c')
        go_simp
        have HG := Lib.hid (SP.out _ _ (K11.sel [0, 2, 3, 4, 5] 99 (by decide) (by decide)))
        refine hK'.out _ _ HG.out (fun hHeld2 => ?_)
        clear hK' K hHeld
        have hHeld := hHeld2
        clear hHeld2
        try simp only [Act.put, List.setIfInBounds_toArray]
        refine wpAnyH_done (by kernel_rfl) ?_ _
        clear s1 s2 s3 HG hHeld
        go_wp2_with fail
        go_roundw
        case rel => exact ⟨k + 1, _, by omega, by go_num, by rw [hO.out, HZ.out, HM9.out]; exact K11.sel [1, 0, 2, 3, 4, 5] 99 (by decide) (by decide)⟩
        case measure => simp [intOf]; omega
      · go_simp
        go_at_call 45
        (refine (KX.out _).mono ?_); rintro e w8 ⟨rfl, hw⟩
        have K8 := hKd.keep hw
        clear hw
        have HG := Lib.hid (SP.out _ vv K8.drop)
        refine hK'.out _ _ HG.out (fun hHeld2 => ?_)
        clear hK' K hHeld
        have hHeld := hHeld2
        clear hHeld2
        try simp only [Act.put, List.setIfInBounds_toArray]
        refine wpAnyH_take (i := 11) (v := ?_) rfl (by kernel_rfl) (by kernel_rfl) (by kernel_rfl) (fun _ _ _ h => h) (Or.inl ⟨by rfl, ?_⟩) hHeld ?_
        rotate_left
        · (intro w hSw; (try dsimp only at hSw); go_simp; try with_reducible rfl)
        try simp only [Act.put, List.setIfInBounds_toArray, List.set_cons_zero, List.set_cons_succ, List.getElem_toArray, List.getElem_cons_succ, List.getElem_cons_zero]
        refine wpAnyH_take (i := 14) (v := ?_) rfl (by kernel_rfl) (by kernel_rfl) (by kernel_rfl) (fun _ _ _ h => h) (Or.inl ⟨by rfl, ?_⟩) hHeld ?_
        rotate_left
        · (intro w hSw; (try dsimp only at hSw); go_simp; try with_reducible rfl)
        try simp only [Act.put, List.setIfInBounds_toArray, List.set_cons_zero, List.set_cons_succ, List.getElem_toArray, List.getElem_cons_succ, List.getElem_cons_zero]
        refine wpAnyH_ready (rs := [1, 15]) (by kernel_rfl) (by decide) (AllReadyH.cons (o := _) rfl (fun K hK' => ?_) (AllReadyH.cons (o := _) rfl (fun K hK' => ?_) AllReadyH.nil))
        · obtain ⟨o1, o2, o3, -⟩ := (K8.front 1 rfl).cells
          go_simp
          clear o1 o2 o3
          have HG := Lib.hid (SP.out _ vv K8.drop)
          refine hK'.out _ _ HG.out (fun hHeld2 => ?_)
          clear hK' K hHeld
          have hHeld := hHeld2
          clear hHeld2
          try simp only [Act.put, List.setIfInBounds_toArray]
          refine wpAnyH_ready (rs := [15]) (by kernel_rfl) (by decide) (AllReadyH.cons (o := _) rfl (fun K hK' => ?_) AllReadyH.nil)
          go_simp
          have K9 := K8.al [.int .i64 z] 2
          have HG := Lib.hid (SP.out _ vv K9.drop.drop)
          refine hK'.out _ _ HG.out (fun hHeld2 => ?_)
          clear hK' K hHeld
          have hHeld := hHeld2
          clear hHeld2
          try simp only [Act.put, List.setIfInBounds_toArray]
          refine wpAnyH_ready (rs := [16]) (by kernel_rfl) (by decide) (AllReadyH.cons (o := _) rfl (fun K hK' => ?_) AllReadyH.nil)
          refine kn_stepI (by rfl) _ _ (by rfl) vv _ (by rfl) (by rfl) K9 HL.out ?_
          intro v' w10 K10
          obtain ⟨A', c', rfl⟩ := row_form K10.at0
          obtain ⟨m9, hm9⟩ : ∃ m, ((List.range k).map (outT d xs ys tm) ++ [z]).length = m := ⟨_, rfl⟩
          rw [hm9] at K10
          try rw [hm9]
          have HM9 := Lib.hid hm9
          clear hm9
          have HG := Lib.hid (SP.out _ vv K10.drop)
          refine hK'.out _ _ HG.out (fun hHeld2 => ?_)
          clear hK' K hHeld
          have hHeld := hHeld2
          clear hHeld2
          try simp only [Act.put, List.setIfInBounds_toArray]
          refine wpAnyH_take (i := 17) (v := ?_) rfl (by kernel_rfl) (by kernel_rfl) (by kernel_rfl) (fun _ _ _ h => h) (Or.inl ⟨by rfl, ?_⟩) hHeld ?_
          rotate_left
          · (intro w hSw; (try dsimp only at hSw); go_simp; try with_reducible rfl)
          try simp only [Act.put, List.setIfInBounds_toArray, List.set_cons_zero, List.set_cons_succ, List.getElem_toArray, List.getElem_cons_succ, List.getElem_cons_zero]
          refine wpAnyH_ready (rs := [18]) (by kernel_rfl) (by decide) (AllReadyH.cons (o := _) rfl (fun K hK' => ?_) AllReadyH.nil)
          obtain ⟨s1, s2, s3⟩ := (K10.front 1 rfl).blkAt
          have K11 := (K10.front 1 rfl).st 1 (.slice A' m9 c')
          go_simp
          have HG := Lib.hid (SP.out _ _ (K11.sel [0, 2, 3, 4, 5] 99 (by decide) (by decide)))
          refine hK'.out _ _ HG.out (fun hHeld2 => ?_)
          clear hK' K hHeld
          have hHeld := hHeld2
          clear hHeld2
          try simp only [Act.put, List.setIfInBounds_toArray]
          refine wpAnyH_done (by kernel_rfl) ?_ _
          clear s1 s2 s3 HG hHeld
          go_wp2_with fail
          go_roundw
          case rel => exact ⟨k + 1, _, by omega, by go_num, by rw [hO.out, HZ.out, HM9.out]; exact K11.sel [1, 0, 2, 3, 4, 5] 99 (by decide) (by decide)⟩
          case measure => simp [intOf]; omega
        · go_simp
          have K9 := K8.al [.int .i64 z] 2
          have HG := Lib.hid (SP.out _ vv K9.drop.drop)
          refine hK'.out _ _ HG.out (fun hHeld2 => ?_)
          clear hK' K hHeld
          have hHeld := hHeld2
          clear hHeld2
          try simp only [Act.put, List.setIfInBounds_toArray]
          refine wpAnyH_ready (rs := [1]) (by kernel_rfl) (by decide) (AllReadyH.cons (o := _) rfl (fun K hK' => ?_) AllReadyH.nil)
          obtain ⟨o1, o2, o3, -⟩ := (K9.front 2 rfl).cells
          go_simp
          clear o1 o2 o3
          have HG := Lib.hid (SP.out _ vv K9.drop.drop)
          refine hK'.out _ _ HG.out (fun hHeld2 => ?_)
          clear hK' K hHeld
          have hHeld := hHeld2
          clear hHeld2
          try simp only [Act.put, List.setIfInBounds_toArray]
          refine wpAnyH_ready (rs := [16]) (by kernel_rfl) (by decide) (AllReadyH.cons (o := _) rfl (fun K hK' => ?_) AllReadyH.nil)
          refine kn_stepI (by rfl) _ _ (by rfl) vv _ (by rfl) (by rfl) K9 HL.out ?_
          intro v' w10 K10
          obtain ⟨A', c', rfl⟩ := row_form K10.at0
          obtain ⟨m9, hm9⟩ : ∃ m, ((List.range k).map (outT d xs ys tm) ++ [z]).length = m := ⟨_, rfl⟩
          rw [hm9] at K10
          try rw [hm9]
          have HM9 := Lib.hid hm9
          clear hm9
          have HG := Lib.hid (SP.out _ vv K10.drop)
          refine hK'.out _ _ HG.out (fun hHeld2 => ?_)
          clear hK' K hHeld
          have hHeld := hHeld2
          clear hHeld2
          try simp only [Act.put, List.setIfInBounds_toArray]
          refine wpAnyH_take (i := 17) (v := ?_) rfl (by kernel_rfl) (by kernel_rfl) (by kernel_rfl) (fun _ _ _ h => h) (Or.inl ⟨by rfl, ?_⟩) hHeld ?_
          rotate_left
          · (intro w hSw; (try dsimp only at hSw); go_simp; try with_reducible rfl)
          try simp only [Act.put, List.setIfInBounds_toArray, List.set_cons_zero, List.set_cons_succ, List.getElem_toArray, List.getElem_cons_succ, List.getElem_cons_zero]
          refine wpAnyH_ready (rs := [18]) (by kernel_rfl) (by decide) (AllReadyH.cons (o := _) rfl (fun K hK' => ?_) AllReadyH.nil)
          obtain ⟨s1, s2, s3⟩ := (K10.front 1 rfl).blkAt
          have K11 := (K10.front 1 rfl).st 1 (.slice A' m9 c')
          go_simp
          have HG := Lib.hid (SP.out _ _ (K11.sel [0, 2, 3, 4, 5] 99 (by decide) (by decide)))
          refine hK'.out _ _ HG.out (fun hHeld2 => ?_)
          clear hK' K hHeld
          have hHeld := hHeld2
          clear hHeld2
          try simp only [Act.put, List.setIfInBounds_toArray]
          refine wpAnyH_done (by kernel_rfl) ?_ _
          clear s1 s2 s3 HG hHeld
          go_wp2_with fail
          go_roundw
          case rel => exact ⟨k + 1, _, by omega, by go_num, by rw [hO.out, HZ.out, HM9.out]; exact K11.sel [1, 0, 2, 3, 4, 5] 99 (by decide) (by decide)⟩
          case measure => simp [intOf]; omega
    · have i1 : ¬ (k : Int) < (xs.length : Int) := by omega
      obtain rfl : k = xs.length := by omega
      obtain ⟨A0, c0, rfl⟩ := row_form hK.at0
      have hlo : ((List.range xs.length).map (outT d xs ys tm)).length ≤ 1000000 := by simp; omega
      have HOD := Lib.hid (show outD d xs ys tm = (List.range xs.length).map (outT d xs ys tm) from rfl)
      obtain ⟨O, hO⟩ : ∃ O, (List.range xs.length).map (outT d xs ys tm) = O := ⟨_, rfl⟩
      rw [hO] at hK HOD hlo
      have HOF := Lib.hid (fun (h : vreg d.b O = false) => td_full (a := a) (b := b) HV.out HS.out HT.out (show vreg d.b (outD d xs ys tm) = false by rw [HOD.out]; exact h))
      have HOK := Lib.hid (fun (h : vreg d.b O = true) => td_fine (a := a) (b := b) HV.out HS.out HT.out (show vreg d.b (outD d xs ys tm) = true by rw [HOD.out]; exact h))
      try rw [hO]
      clear hO
      have hK : Kn w [rowI A0 c0 O, .blk gO [.int .i64 d.b, .slice A0 O.length c0] 28, .blk (g1 + 1 + 1 + 1) [.int .i64 0, .slice none 0 0] 28, .blk (g1 + 1 + 1) [.int .i64 b, .slice YA ys.length yc] 28, .blk (g1 + 1) [.int .i64 a, .slice XA xs.length xc] 28, .blk g1 [.int .i64 d.k, .int .i64 d.b, .int .i64 d.t, .int .i64 d.f] 25] wr := hK
      obtain ⟨a1, a2, a3, -⟩ := (hK.front 1 rfl).cells
      rcases hvo : vreg d.b O with _ | _
      · have HX := Lib.hid (HOF.out hvo)
        have KF := Lib.hid (sole_full d.b A0 c0 O wr hK.riv hvo (by omega))
        clear hvo HOF HOK
        go_wp2_with (go_at_call 46; refine KF.out.mono ?_; rintro e w8 ⟨rfl, hw⟩; have K8 := (hK.keep hw).front 2 rfl; clear hw a1 a2 a3; obtain ⟨a1, a2, a3, -⟩ := K8.cells)
        have Kfin := K8
        refine bodyPost.kn ((Kfin.st 0 (.int .i64 0)).st 1 (.slice none 0 0)) ?_; intro w9 K9
        clear a1 a2 a3
        obtain ⟨a1, a2, a3, -⟩ := K9.cells
        exact bodyPost_ret (v := .tuple #[.agg #[.int .i64 0, .slice none 0 0], .int .i64 5]) (by simp [results, Try.results7, go_sem, a1]) rfl (TDRet.of (HX.out) rfl K9.below)
      · have HX := Lib.hid (HOK.out hvo)
        have KF := Lib.hid (sole_ok d.b A0 c0 O wr hK.riv hvo (by omega))
        clear hvo HOF HOK
        go_wp2_with (go_at_call 46; refine KF.out.mono ?_; rintro e w8 ⟨rfl, hw⟩; have K8 := (hK.keep hw).front 2 rfl; clear hw a1 a2 a3; obtain ⟨a1, a2, a3, -⟩ := K8.cells)
        refine bodyPost.kn ((K8.st 0 (.int .i64 d.b)).st 1 (.slice A0 O.length c0)) ?_; intro w9 K9
        clear a1 a2 a3
        obtain ⟨a1, a2, a3, -⟩ := K9.cells
        refine bodyPost_ret (v := .tuple #[.agg #[.int .i64 d.b, .slice A0 O.length c0], .int .i64 0]) (by simp [results, Try.results7, go_sem, a1]) rfl ?_
        unfold TDRet RgRet
        rw [HX.out.1, HX.out.2.1, HX.out.2.2, HOD.out]
        exact ⟨_, _, rfl, K9.sel [1] 99 (by decide) (by decide)⟩
end Go.Proofs.Ytafnebpbfmbgiaa

namespace Go.Proofs.Ytafnebpbfmbgiaa
open Go.RowKit Go.Sort
theorem twoC_ok {a : Int} {xs : List Int} {b : Int} {ys : List Int} (h : twoC a xs b ys = 0) : (vreg a xs && vreg b ys) = true ∧ a = b ∧ xs.length = ys.length := by
  unfold twoC at h
  split at h
  · cases h
  · rename_i h1
    split at h
    · cases h
    · rename_i h2
      refine ⟨by rcases hx : (vreg a xs && vreg b ys) with _ | _; exact absurd hx h1; rfl, ?_, ?_⟩
      · rcases Int.decEq a b with h3 | h3
        · exact absurd (.inl h3) h2
        · exact h3
      · rcases Nat.decEq xs.length ys.length with h3 | h3
        · exact absurd (.inr h3) h2
        · exact h3
theorem td_two {d : Dr} {a : Int} {xs : List Int} {b : Int} {ys : List Int} {tm z : Int} (hd : drOk d = true) (h : twoC a xs b ys = z) (hz : z ≠ 0) : tdC d a xs b ys tm = z ∧ tdV d a xs b ys tm = 0 ∧ tdD d a xs b ys tm = [] := by
  unfold twoC at h
  split at h
  · rename_i h1
    subst h
    exact td_bad (by rw [hd, h1]; rfl)
  · rename_i h1
    have h1' : (vreg a xs && vreg b ys) = true := by rcases hx : (vreg a xs && vreg b ys) with _ | _; exact absurd hx h1; rfl
    split at h
    · rename_i h2
      subst h
      refine td_state (by rw [hd, h1']; rfl) ?_
      rcases Int.decEq a d.b with e1 | e1
      · rw [beq_eq_false_iff_ne.2 e1]; rfl
      · rcases Int.decEq b d.b with e2 | e2
        · rw [beq_eq_false_iff_ne.2 e2, Bool.false_and, Bool.and_false]
        · have : ¬ xs.length = ys.length := by
            rcases h2 with h3 | h3
            · exact absurd (e1.trans e2.symm) h3
            · exact h3
          rw [decide_eq_false this, Bool.and_false, Bool.and_false]
    · exact absurd h.symm hz
set_option maxRecDepth 100000 in
set_option maxHeartbeats 6400000 in
theorem specTurnDrums_any (d : Dr) (a : Int) (XA : Option Addr) (xc : Nat) (xs : List Int) (b : Int) (YA : Option Addr) (yc : Nat) (ys : List Int) (tm : Int) (w : World) (hx : RI w XA xs.length xs) (hy : RI w YA ys.length ys) (hm1 : xs.length ≤ 1000000) (hm2 : ys.length ≤ 1000000) :
    Calls Try.prog 8 #[.agg #[.int .i64 d.k, .int .i64 d.b, .int .i64 d.t, .int .i64 d.f], .agg #[.int .i64 a, .slice XA xs.length xc], .agg #[.int .i64 b, .slice YA ys.length yc], .int .i64 tm] w (TDRet d a xs b ys tm w) := by
  obtain ⟨g1, hg1⟩ : ∃ g, w.heap.size = g := ⟨_, rfl⟩
  have K0 := ((((Kn.nil w).al [.int .i64 d.k, .int .i64 d.b, .int .i64 d.t, .int .i64 d.f] 25).al [.int .i64 a, .slice XA xs.length xc] 28).al [.int .i64 b, .slice YA ys.length yc] 28).al [.int .i64 0, .slice none 0 0] 28
  simp only [World.size_alloc, hg1] at K0
  have KD := (fun W (h : DrAt W g1 d) => l05Ok_any g1 d W h)
  have HRX := Lib.hid (fun W (K : Kn w [.blk (g1 + 1 + 1 + 1) [.int .i64 0, .slice none 0 0] 28, .blk (g1 + 1 + 1) [.int .i64 b, .slice YA ys.length yc] 28, .blk (g1 + 1) [.int .i64 a, .slice XA xs.length xc] 28, .blk g1 [.int .i64 d.k, .int .i64 d.b, .int .i64 d.t, .int .i64 d.f] 25] W) => (show RegB W (g1 + 1) a XA xc xs from ⟨⟨(K.front 2 rfl).blkAt.1 0, (K.front 2 rfl).blkAt.1 1⟩, hx.below K.below⟩))
  have HRY := Lib.hid (fun W (K : Kn w [.blk (g1 + 1 + 1 + 1) [.int .i64 0, .slice none 0 0] 28, .blk (g1 + 1 + 1) [.int .i64 b, .slice YA ys.length yc] 28, .blk (g1 + 1) [.int .i64 a, .slice XA xs.length xc] 28, .blk g1 [.int .i64 d.k, .int .i64 d.b, .int .i64 d.t, .int .i64 d.f] 25] W) => (show RegB W (g1 + 1 + 1) b YA yc ys from ⟨⟨(K.front 1 rfl).blkAt.1 0, (K.front 1 rfl).blkAt.1 1⟩, hy.below K.below⟩))
  have KT := (fun W h1 h2 => l02Two_any (g1 + 1) (g1 + 1 + 1) a XA xc xs b YA yc ys W h1 h2 hm1 hm2)
  rcases hv1 : drOk d with _ | _
  · have HX := Lib.hid (td_bad (a := a) (xs := xs) (b := b) (ys := ys) (tm := tm) (show (drOk d && (vreg a xs && vreg b ys)) = false by rw [hv1]; rfl))
    rw [hv1] at KD
    replace KD := Lib.hid KD
    clear KT HRX HRY hv1
    go_enter Try.func8, Try.ntmps8
    go_wp2_with (go_at_call 36; refine Calls.kn K0 ?_; intro w1 K1; refine (KD.out _ ⟨(K1.front 3 rfl).blkAt.1 0, (K1.front 3 rfl).blkAt.1 1, (K1.front 3 rfl).blkAt.1 2, (K1.front 3 rfl).blkAt.1 3⟩).mono ?_; rintro e w2 ⟨rfl, q, rfl⟩; have Kfin := K1.drewN q; generalize w1.drewN q = w2 at Kfin ⊢; clear K1; obtain ⟨a1, a2, a3, -⟩ := Kfin.cells)
    refine bodyPost.kn ((Kfin.st 0 (.int .i64 0)).st 1 (.slice none 0 0)) ?_; intro w9 K9
    clear a1 a2 a3
    obtain ⟨a1, a2, a3, -⟩ := K9.cells
    exact bodyPost_ret (v := .tuple #[.agg #[.int .i64 0, .slice none 0 0], .int .i64 1]) (by simp [results, Try.results8, go_sem, a1]) rfl (TDRet.of (HX.out) rfl K9.below)
  rw [hv1] at KD
  replace KD := Lib.hid KD
  have HV1 := Lib.hid hv1
  have HTW := Lib.hid (fun (z : Int) (h : twoC a xs b ys = z) (hz : z ≠ 0) => td_two (tm := tm) HV1.out h hz)
  have HTO := Lib.hid (fun (h : twoC a xs b ys = 0) => twoC_ok h)
  obtain ⟨z, hz⟩ : ∃ z, twoC a xs b ys = z := ⟨_, rfl⟩
  have HZ := Lib.hid hz
  rw [hz] at KT
  replace KT := Lib.hid KT
  clear hz hv1
  by_cases hz0 : z = 0
  rotate_left
  · have HX := Lib.hid (HTW.out z HZ.out hz0)
    have z1 : (z != 0) = true := by simpa using hz0
    have z2 : (z == 0) = false := by simpa using hz0
    clear HTO HTW
    go_enter Try.func8, Try.ntmps8
    go_upto_region 3 with (go_at_call 36; refine Calls.kn K0 ?_; intro w1 K1; refine (KD.out _ ⟨(K1.front 3 rfl).blkAt.1 0, (K1.front 3 rfl).blkAt.1 1, (K1.front 3 rfl).blkAt.1 2, (K1.front 3 rfl).blkAt.1 3⟩).mono ?_; rintro e w2 ⟨rfl, q, rfl⟩; have K2 := K1.drewN q; generalize w1.drewN q = w2 at K2 ⊢; clear K1)
    refine Code.wp.kn K2 ?_; clear K2; intro w2 K2
    go_upto_region 4 with (go_at_call 47; refine (KT.out w2 (HRX.out _ K2) (HRY.out _ K2)).mono ?_; rintro e w4 ⟨rfl, hw⟩; have K4 := K2.keep hw; clear hw)
    clear K2 KD KT HRX HRY
    obtain ⟨a1, a2, a3, b1, b2, b3, c1, c2, c3, f1, f2, f3, -⟩ := K4.cells
    go_wp2_with fail
    have Kfin := K4
    clear b1 b2 b3 c1 c2 c3 f1 f2 f3
    refine bodyPost.kn ((Kfin.st 0 (.int .i64 0)).st 1 (.slice none 0 0)) ?_; intro w9 K9
    clear a1 a2 a3
    obtain ⟨a1, a2, a3, -⟩ := K9.cells
    exact bodyPost_ret (v := .tuple #[.agg #[.int .i64 0, .slice none 0 0], .int .i64 z]) (by simp [results, Try.results8, go_sem, a1]) rfl (TDRet.of (HX.out) rfl K9.below)
  subst hz0
  obtain ⟨hv, e1, e3⟩ := HTO.out HZ.out
  clear HTO HTW HZ
  have HV := Lib.hid (show (drOk d && (vreg a xs && vreg b ys)) = true by rw [HV1.out, hv]; rfl)
  rw [Bool.and_eq_true] at hv
  have HV2 := Lib.hid hv.1
  have HV3 := Lib.hid hv.2
  have E3 := Lib.hid e3
  clear hv e3
  by_cases e2 : d.b = a
  rotate_left
  · have HX := Lib.hid (td_state (tm := tm) HV.out (show (a == d.b && (b == d.b && decide (xs.length = ys.length))) = false by rw [beq_eq_false_iff_ne.2 (Ne.symm e2)]; rfl))
    have y1 : (d.b == a) = false := beq_eq_false_iff_ne.2 e2
    have y2 : (d.b != a) = true := bne_iff_ne.2 e2
    clear e1
    go_enter Try.func8, Try.ntmps8
    go_upto_region 3 with (go_at_call 36; refine Calls.kn K0 ?_; intro w1 K1; refine (KD.out _ ⟨(K1.front 3 rfl).blkAt.1 0, (K1.front 3 rfl).blkAt.1 1, (K1.front 3 rfl).blkAt.1 2, (K1.front 3 rfl).blkAt.1 3⟩).mono ?_; rintro e w2 ⟨rfl, q, rfl⟩; have K2 := K1.drewN q; generalize w1.drewN q = w2 at K2 ⊢; clear K1)
    refine Code.wp.kn K2 ?_; clear K2; intro w2 K2
    go_upto_region 4 with (go_at_call 47; refine (KT.out w2 (HRX.out _ K2) (HRY.out _ K2)).mono ?_; rintro e w4 ⟨rfl, hw⟩; have K4 := K2.keep hw; clear hw)
    clear K2 KD KT HRX HRY
    obtain ⟨a1, a2, a3, b1, b2, b3, c1, c2, c3, f1, f2, f3, -⟩ := K4.cells
    go_wp2_with fail
    have Kfin := K4
    clear b1 b2 b3 c1 c2 c3 f1 f2 f3
    refine bodyPost.kn ((Kfin.st 0 (.int .i64 0)).st 1 (.slice none 0 0)) ?_; intro w9 K9
    clear a1 a2 a3
    obtain ⟨a1, a2, a3, -⟩ := K9.cells
    exact bodyPost_ret (v := .tuple #[.agg #[.int .i64 0, .slice none 0 0], .int .i64 6]) (by simp [results, Try.results8, go_sem, a1]) rfl (TDRet.of (HX.out) rfl K9.below)
  have y1 : (d.b == a) = true := beq_iff_eq.2 e2
  have y2 : (d.b != a) = false := by rw [e2]; exact bne_self_eq_false _
  have HS := Lib.hid (show (a == d.b && (b == d.b && decide (xs.length = ys.length))) = true by rw [← e1, e2, decide_eq_true E3.out, beq_self_eq_true]; rfl)
  have E1 := Lib.hid (show a = d.b from e2.symm)
  have E2 := Lib.hid (show b = d.b by rw [← e1]; exact e2.symm)
  clear e1 e2
  have KI := (fun W => l00In_any tm 0 100000 W)
  rcases ht : betB tm 0 100000 with _ | _
  · have HX := Lib.hid (td_range HV.out HS.out ht)
    rw [ht] at KI
    replace KI := Lib.hid KI
    clear ht
    go_enter Try.func8, Try.ntmps8
    go_upto_region 3 with (go_at_call 36; refine Calls.kn K0 ?_; intro w1 K1; refine (KD.out _ ⟨(K1.front 3 rfl).blkAt.1 0, (K1.front 3 rfl).blkAt.1 1, (K1.front 3 rfl).blkAt.1 2, (K1.front 3 rfl).blkAt.1 3⟩).mono ?_; rintro e w2 ⟨rfl, q, rfl⟩; have K2 := K1.drewN q; generalize w1.drewN q = w2 at K2 ⊢; clear K1)
    refine Code.wp.kn K2 ?_; clear K2; intro w2 K2
    go_upto_region 4 with (go_at_call 47; refine (KT.out w2 (HRX.out _ K2) (HRY.out _ K2)).mono ?_; rintro e w4 ⟨rfl, hw⟩; have K4 := K2.keep hw; clear hw)
    clear K2 KD KT HRX HRY
    obtain ⟨a1, a2, a3, b1, b2, b3, c1, c2, c3, f1, f2, f3, -⟩ := K4.cells
    go_wp2_with (go_at_call 48; refine (KI.out _).mono ?_; rintro e w' ⟨rfl, rfl⟩)
    have Kfin := K4
    clear b1 b2 b3 c1 c2 c3 f1 f2 f3
    refine bodyPost.kn ((Kfin.st 0 (.int .i64 0)).st 1 (.slice none 0 0)) ?_; intro w9 K9
    clear a1 a2 a3
    obtain ⟨a1, a2, a3, -⟩ := K9.cells
    exact bodyPost_ret (v := .tuple #[.agg #[.int .i64 0, .slice none 0 0], .int .i64 2]) (by simp [results, Try.results8, go_sem, a1]) rfl (TDRet.of (HX.out) rfl K9.below)
  rw [ht] at KI
  replace KI := Lib.hid KI
  have HT := Lib.hid ht
  clear ht
  go_enter Try.func8, Try.ntmps8
  go_upto_region 3 with (go_at_call 36; refine Calls.kn K0 ?_; intro w1 K1; refine (KD.out _ ⟨(K1.front 3 rfl).blkAt.1 0, (K1.front 3 rfl).blkAt.1 1, (K1.front 3 rfl).blkAt.1 2, (K1.front 3 rfl).blkAt.1 3⟩).mono ?_; rintro e w2 ⟨rfl, q, rfl⟩; have K2 := K1.drewN q; generalize w1.drewN q = w2 at K2 ⊢; clear K1)
  refine Code.wp.kn K2 ?_; clear K2; intro w2 K2
  go_upto_region 4 with (go_at_call 47; refine (KT.out w2 (HRX.out _ K2) (HRY.out _ K2)).mono ?_; rintro e w4 ⟨rfl, hw⟩; have K4 := K2.keep hw; clear hw)
  clear K2 KD KT HRX HRY
  obtain ⟨a1, a2, a3, b1, b2, b3, c1, c2, c3, f1, f2, f3, -⟩ := K4.cells
  go_upto_region 11 with (go_at_call 48; refine (KI.out _).mono ?_; rintro e w' ⟨rfl, rfl⟩)
  refine Code.wp.kn (K4.al [.int .i64 a, .slice none 0 0] 28) ?_; intro w6 K6
  obtain ⟨gO, hgO⟩ : ∃ g, w4.heap.size = g := ⟨_, rfl⟩
  rw [hgO] at K6 ⊢
  clear a1 a2 a3 b1 b2 b3 c1 c2 c3 f1 f2 f3 K4 hgO KI
  obtain ⟨a1, a2, a3, -⟩ := (K6.front 3 rfl).cells
  go_wp2_with fail
  clear a1 a2 a3
  have hdd := HV1.out
  obtain ⟨-, hdb, hdt, -⟩ := drOk_iff.1 hdd
  have hdx := (vreg_iff.1 HV2.out).2.2.1
  have hdy := (vreg_iff.1 HV3.out).2.2.1
  rw [E1.out] at hdx
  rw [E2.out] at hdy
  have HDX := Lib.hid hdx
  have HDY := Lib.hid hdy
  have htm := betB_iff.1 HT.out
  have KST := Lib.hid (fun (n : Nat) (hn : (n : Int) < d.b) W (h : DrAt W g1 d) => l05By_any g1 d n tm W h hdd hn htm)
  clear hdd hdx hdy hdt
  have K7 : Kn w [.row (.slice none 0 0) 2 1 ((List.range 0).map (outT d xs ys tm)).length (((List.range 0).map (outT d xs ys tm)).map (Value.int .i64)), .blk gO [.int .i64 a, .slice none 0 0] 28, .blk (g1 + 1 + 1 + 1) [.int .i64 0, .slice none 0 0] 28, .blk (g1 + 1 + 1) [.int .i64 b, .slice YA ys.length yc] 28, .blk (g1 + 1) [.int .i64 a, .slice XA xs.length xc] 28, .blk g1 [.int .i64 d.k, .int .i64 d.b, .int .i64 d.t, .int .i64 d.f] 25] w6 := K6.nilRow _ _
  clear K6
  go_loopw [12] (fun ii wr => ∃ (k : Nat) (vv : Value), k ≤ xs.length ∧ ii = .int .i64 (k : Int) ∧ Kn w [.row vv 2 1 ((List.range k).map (outT d xs ys tm)).length (((List.range k).map (outT d xs ys tm)).map (Value.int .i64)), .blk gO [.int .i64 a, vv] 28, .blk (g1 + 1 + 1 + 1) [.int .i64 0, .slice none 0 0] 28, .blk (g1 + 1 + 1) [.int .i64 b, .slice YA ys.length yc] 28, .blk (g1 + 1) [.int .i64 a, .slice XA xs.length xc] 28, .blk g1 [.int .i64 d.k, .int .i64 d.b, .int .i64 d.t, .int .i64 d.f] 25] wr) (fun ii _ => xs.length - (intOf ii).toNat)
  case atStart => exact ⟨0, _, Nat.zero_le _, rfl, K7⟩
  case round =>
    clear K7
    obtain ⟨k, vv, hk, rfl, hK⟩ := hrel
    by_cases hkn : k < xs.length
    · have i1 : (k : Int) < (xs.length : Int) := by omega
      have i0 : (0 : Int) ≤ (k : Int) := by omega
      have hkny : k < ys.length := by have := E3.out; omega
      have i2 : (k : Int) < (ys.length : Int) := by omega
      obtain ⟨adx, hA, hltx, hkx, hcx⟩ := hx.at_ hkn
      obtain ⟨ady, hB, hlty, hky, hcy⟩ := (hy.below hK.below).at_ hkny
      have HXC := Lib.hid (fun W (hW : Below w.heap.size w W) => (hW.cell (p := adx.add k) (by rw [block_of_add]; exact hltx)).trans hcx)
      have hO := Lib.hid (outD_succ d xs ys tm k)
      have hZ : outT d xs ys tm k = (xs[k] + dBy d (ys[k]).toNat tm) % d.b := by unfold outT; rw [getD_of hkn, getD_of hkny]
      obtain ⟨x, hxx⟩ : ∃ x, xs[k] = x := ⟨_, rfl⟩
      obtain ⟨y, hyy⟩ : ∃ y, ys[k] = y := ⟨_, rfl⟩
      have bx := HDX.out x (by rw [← hxx]; exact List.getElem_mem hkn)
      have bY := HDY.out y (by rw [← hyy]; exact List.getElem_mem hkny)
      rw [hyy] at hcy
      rw [hxx, hyy] at hZ
      rw [hxx] at HXC
      obtain ⟨n, rfl⟩ : ∃ n : Nat, y = n := ⟨y.toNat, by omega⟩
      rw [Int.toNat_natCast] at hZ
      have KX := KST.out n (by omega)
      have hsb := dBy_bd d n tm (by have := drOk_iff.1 HV1.out; omega) (by omega) htm
      obtain ⟨sb, hsb2⟩ : ∃ s, dBy d n tm = s := ⟨_, rfl⟩
      rw [hsb2] at KX hZ hsb
      replace KX := Lib.hid KX
      have hz1 : 0 ≤ (x + sb) % d.b := Int.emod_nonneg _ (by omega)
      have hz2 : (x + sb) % d.b < d.b := Int.emod_lt_of_pos _ (by omega)
      obtain ⟨z, hz⟩ : ∃ z, (x + sb) % d.b = z := ⟨_, rfl⟩
      have q1 : IntKind.i64.wrap (x + sb) = x + sb := wrapI (by omega)
      have q2 : Int.tmod (x + sb) d.b = z := by rw [Int.tmod_eq_emod_of_nonneg (by omega)]; exact hz
      have q0 : ¬ d.b = 0 := by omega
      rw [hz] at hZ hz1 hz2
      have HZ := Lib.hid hZ
      have hL : ((List.range k).map (outT d xs ys tm)).length ≤ 10000000 := by simp; omega
      clear hxx hyy hsb2 hZ hcx
      subst hA
      subst hB
      have SP := Lib.hid (fun W vv (h : Kn w [.blk gO [.int .i64 a, vv] 28, .blk (g1 + 1 + 1 + 1) [.int .i64 0, .slice none 0 0] 28, .blk (g1 + 1 + 1) [.int .i64 b, .slice (some ady) ys.length yc] 28, .blk (g1 + 1) [.int .i64 a, .slice (some adx) xs.length xc] 28, .blk g1 [.int .i64 d.k, .int .i64 d.b, .int .i64 d.t, .int .i64 d.f] 25] W) => (show (W.cell? ⟨g1 + 1, 1, none⟩ = some (.slice (some adx) xs.length xc) ∧ W.cell? (adx.add k) = some (.int .i64 x) ∧ W.cell? ⟨g1, 1, none⟩ = some (.int .i64 d.b)) from ⟨(h.front 3 rfl).blkAt.1 1, HXC.out W h.below, (h.front 4 rfl).blkAt.1 1⟩))
      obtain ⟨c1, c2, c3, -⟩ := (hK.front 4 rfl).cells
      obtain ⟨d1, d2, d3, -⟩ := (hK.front 3 rfl).cells
      have hdr : DrAt wr g1 d := ⟨(hK.front 5 rfl).blkAt.1 0, (hK.front 5 rfl).blkAt.1 1, (hK.front 5 rfl).blkAt.1 2, (hK.front 5 rfl).blkAt.1 3⟩
      have HDR := Lib.hid hdr
      clear hdr
      have HL := Lib.hid hL
      clear hL
      go_wp2_with (go_at_call 49; (refine (KX.out _ HDR.out).mono ?_); rintro e w8 ⟨rfl, hw⟩; have K8 := hK.keep hw; clear hw)
      clear c1 c2 c3 d1 d2 d3 HDR hK
      have hKd := K8.drew
      have HG := Lib.hid (SP.out _ vv hKd.drop)
      refine wp_region_held_drew (S := (fun W => (W.cell? ⟨g1 + 1, 1, none⟩ = some (.slice (some adx) xs.length xc) ∧ W.cell? (adx.add k) = some (.int .i64 x) ∧ W.cell? ⟨g1, 1, none⟩ = some (.int .i64 d.b)))) (by kernel_rfl) ?_ (fun hHeld => ?_)
      · exact HG.out
      try dsimp only
      generalize w8.drew = wd at hKd HG hHeld ⊢
      refine wpAnyH_take (i := 0) (v := ?_) rfl (by kernel_rfl) (by kernel_rfl) (by kernel_rfl) (fun _ _ _ h => h) (Or.inl ⟨by rfl, ?_⟩) hHeld ?_
      rotate_left
      · (intro w hSw; (try dsimp only at hSw); go_simp; try with_reducible rfl)
      try simp only [Act.put, List.setIfInBounds_toArray, List.set_cons_zero, List.set_cons_succ, List.getElem_toArray, List.getElem_cons_zero]
      refine wpAnyH_take (i := 2) (v := ?_) rfl (by kernel_rfl) (by kernel_rfl) (by kernel_rfl) (fun _ _ _ h => h) (Or.inl ⟨by rfl, ?_⟩) hHeld ?_
      rotate_left
      · (intro w hSw; (try dsimp only at hSw); go_simp; try with_reducible rfl)
      try simp only [Act.put, List.setIfInBounds_toArray, List.set_cons_zero, List.set_cons_succ, List.getElem_toArray, List.getElem_cons_succ, List.getElem_cons_zero]
      refine wpAnyH_take (i := 3) (v := ?_) rfl (by kernel_rfl) (by kernel_rfl) (by kernel_rfl) (fun _ _ _ h => h) (Or.inl ⟨by rfl, ?_⟩) hHeld ?_
      rotate_left
      · (intro w hSw; (try dsimp only at hSw); go_simp; try with_reducible rfl)
      try simp only [Act.put, List.setIfInBounds_toArray, List.set_cons_zero, List.set_cons_succ, List.getElem_toArray, List.getElem_cons_succ, List.getElem_cons_zero]
      refine wpAnyH_take (i := 4) (v := ?_) rfl (by kernel_rfl) (by kernel_rfl) (by kernel_rfl) (fun _ _ _ h => h) (Or.inl ⟨by rfl, ?_⟩) hHeld ?_
      rotate_left
      · (intro w hSw; (try dsimp only at hSw); go_simp; try with_reducible rfl)
      try simp only [Act.put, List.setIfInBounds_toArray, List.set_cons_zero, List.set_cons_succ, List.getElem_toArray, List.getElem_cons_succ, List.getElem_cons_zero]
      refine wpAnyH_take (i := 5) (v := ?_) rfl (by kernel_rfl) (by kernel_rfl) (by kernel_rfl) (fun _ _ _ h => h) (Or.inl ⟨by rfl, ?_⟩) hHeld ?_
      rotate_left
      · (intro w hSw; (try dsimp only at hSw); go_simp; try with_reducible rfl)
      try simp only [Act.put, List.setIfInBounds_toArray, List.set_cons_zero, List.set_cons_succ, List.getElem_toArray, List.getElem_cons_succ, List.getElem_cons_zero]
      refine wpAnyH_take (i := 6) (v := ?_) rfl (by kernel_rfl) (by kernel_rfl) (by kernel_rfl) (fun _ _ _ h => h) (Or.inl ⟨by rfl, ?_⟩) hHeld ?_
      rotate_left
      · (intro w hSw; (try dsimp only at hSw); go_simp; try with_reducible rfl)
      try simp only [Act.put, List.setIfInBounds_toArray, List.set_cons_zero, List.set_cons_succ, List.getElem_toArray, List.getElem_cons_succ, List.getElem_cons_zero]
      refine wpAnyH_take (i := 7) (v := ?_) rfl (by kernel_rfl) (by kernel_rfl) (by kernel_rfl) (fun _ _ _ h => h) (Or.inl ⟨by rfl, ?_⟩) hHeld ?_
      rotate_left
      · (intro w hSw; (try dsimp only at hSw); go_simp; try with_reducible rfl)
      try simp only [Act.put, List.setIfInBounds_toArray, List.set_cons_zero, List.set_cons_succ, List.getElem_toArray, List.getElem_cons_succ, List.getElem_cons_zero]
      refine wpAnyH_take (i := 8) (v := ?_) rfl (by kernel_rfl) (by kernel_rfl) (by kernel_rfl) (fun _ _ _ h => h) (Or.inl ⟨by rfl, ?_⟩) hHeld ?_
      rotate_left
      · (intro w hSw; (try dsimp only at hSw); go_simp; try with_reducible rfl)
      try simp only [Act.put, List.setIfInBounds_toArray, List.set_cons_zero, List.set_cons_succ, List.getElem_toArray, List.getElem_cons_succ, List.getElem_cons_zero]
      refine wpAnyH_take (i := 9) (v := ?_) rfl (by kernel_rfl) (by kernel_rfl) (by kernel_rfl) (fun _ _ _ h => h) (Or.inl ⟨by rfl, ?_⟩) hHeld ?_
      rotate_left
      · (intro w hSw; (try dsimp only at hSw); go_simp; try with_reducible rfl)
      try simp only [Act.put, List.setIfInBounds_toArray, List.set_cons_zero, List.set_cons_succ, List.getElem_toArray, List.getElem_cons_succ, List.getElem_cons_zero]
      refine wpAnyH_take (i := 10) (v := ?_) rfl (by kernel_rfl) (by kernel_rfl) (by kernel_rfl) (fun _ _ _ h => h) (Or.inl ⟨by rfl, ?_⟩) hHeld ?_
      rotate_left
      · (intro w hSw; (try dsimp only at hSw); go_simp; try with_reducible rfl)
      try simp only [Act.put, List.setIfInBounds_toArray, List.set_cons_zero, List.set_cons_succ, List.getElem_toArray, List.getElem_cons_succ, List.getElem_cons_zero]
      refine wpAnyH_take (i := 11) (v := ?_) rfl (by kernel_rfl) (by kernel_rfl) (by kernel_rfl) (fun _ _ _ h => h) (Or.inl ⟨by rfl, ?_⟩) hHeld ?_
      rotate_left
      · (intro w hSw; (try dsimp only at hSw); go_simp; try with_reducible rfl)
      try simp only [Act.put, List.setIfInBounds_toArray, List.set_cons_zero, List.set_cons_succ, List.getElem_toArray, List.getElem_cons_succ, List.getElem_cons_zero]
      refine wpAnyH_ready (rs := [1, 12]) (by kernel_rfl) (by decide) (AllReadyH.cons (o := _) rfl (fun K hK' => ?_) (AllReadyH.cons (o := _) rfl (fun K hK' => ?_) AllReadyH.nil))
      · obtain ⟨o1, o2, o3, -⟩ := (hKd.front 1 rfl).cells
        go_simp
        clear o1 o2 o3
        have HG := Lib.hid (SP.out _ vv hKd.drop)
        refine hK'.out _ _ HG.out (fun hHeld2 => ?_)
        clear hK' K hHeld
        have hHeld := hHeld2
        clear hHeld2
        try simp only [Act.put, List.setIfInBounds_toArray]
        refine wpAnyH_ready (rs := [12]) (by kernel_rfl) (by decide) (AllReadyH.cons (o := _) rfl (fun K hK' => ?_) AllReadyH.nil)
        go_simp
        have K9 := hKd.al [.int .i64 z] 2
        have HG := Lib.hid (SP.out _ vv K9.drop.drop)
        refine hK'.out _ _ HG.out (fun hHeld2 => ?_)
        clear hK' K hHeld
        have hHeld := hHeld2
        clear hHeld2
        try simp only [Act.put, List.setIfInBounds_toArray]
        refine wpAnyH_ready (rs := [13]) (by kernel_rfl) (by decide) (AllReadyH.cons (o := _) rfl (fun K hK' => ?_) AllReadyH.nil)
        refine kn_stepI (by rfl) _ _ (by rfl) vv _ (by rfl) (by rfl) K9 HL.out ?_
        intro v' w10 K10
        obtain ⟨A', c', rfl⟩ := row_form K10.at0
        obtain ⟨m9, hm9⟩ : ∃ m, ((List.range k).map (outT d xs ys tm) ++ [z]).length = m := ⟨_, rfl⟩
        rw [hm9] at K10
        try rw [hm9]
        have HM9 := Lib.hid hm9
        clear hm9
        have HG := Lib.hid (SP.out _ vv K10.drop)
        refine hK'.out _ _ HG.out (fun hHeld2 => ?_)
        clear hK' K hHeld
        have hHeld := hHeld2
        clear hHeld2
        try simp only [Act.put, List.setIfInBounds_toArray]
        refine wpAnyH_take (i := 14) (v := ?_) rfl (by kernel_rfl) (by kernel_rfl) (by kernel_rfl) (fun _ _ _ h => h) (Or.inl ⟨by rfl, ?_⟩) hHeld ?_
        rotate_left
        · (intro w hSw; (try dsimp only at hSw); go_simp; try with_reducible rfl)
        try simp only [Act.put, List.setIfInBounds_toArray, List.set_cons_zero, List.set_cons_succ, List.getElem_toArray, List.getElem_cons_succ, List.getElem_cons_zero]
        refine wpAnyH_ready (rs := [15]) (by kernel_rfl) (by decide) (AllReadyH.cons (o := _) rfl (fun K hK' => ?_) AllReadyH.nil)
        obtain ⟨s1, s2, s3⟩ := (K10.front 1 rfl).blkAt
        have K11 := (K10.front 1 rfl).st 1 (.slice A' m9 c')
        go_simp
        have HG := Lib.hid (SP.out _ _ (K11.sel [0, 2, 3, 4, 5] 99 (by decide) (by decide)))
        refine hK'.out _ _ HG.out (fun hHeld2 => ?_)
        clear hK' K hHeld
        have hHeld := hHeld2
        clear hHeld2
        try simp only [Act.put, List.setIfInBounds_toArray]
        refine wpAnyH_done (by kernel_rfl) ?_ _
        clear s1 s2 s3 HG hHeld
        go_wp2_with fail
        go_roundw
        case rel => exact ⟨k + 1, _, by omega, by go_num, by rw [hO.out, HZ.out, HM9.out]; exact K11.sel [1, 0, 2, 3, 4, 5] 99 (by decide) (by decide)⟩
        case measure => simp [intOf]; omega
      · go_simp
        have K9 := hKd.al [.int .i64 z] 2
        have HG := Lib.hid (SP.out _ vv K9.drop.drop)
        refine hK'.out _ _ HG.out (fun hHeld2 => ?_)
        clear hK' K hHeld
        have hHeld := hHeld2
        clear hHeld2
        try simp only [Act.put, List.setIfInBounds_toArray]
        refine wpAnyH_ready (rs := [1]) (by kernel_rfl) (by decide) (AllReadyH.cons (o := _) rfl (fun K hK' => ?_) AllReadyH.nil)
        obtain ⟨o1, o2, o3, -⟩ := (K9.front 2 rfl).cells
        go_simp
        clear o1 o2 o3
        have HG := Lib.hid (SP.out _ vv K9.drop.drop)
        refine hK'.out _ _ HG.out (fun hHeld2 => ?_)
        clear hK' K hHeld
        have hHeld := hHeld2
        clear hHeld2
        try simp only [Act.put, List.setIfInBounds_toArray]
        refine wpAnyH_ready (rs := [13]) (by kernel_rfl) (by decide) (AllReadyH.cons (o := _) rfl (fun K hK' => ?_) AllReadyH.nil)
        refine kn_stepI (by rfl) _ _ (by rfl) vv _ (by rfl) (by rfl) K9 HL.out ?_
        intro v' w10 K10
        obtain ⟨A', c', rfl⟩ := row_form K10.at0
        obtain ⟨m9, hm9⟩ : ∃ m, ((List.range k).map (outT d xs ys tm) ++ [z]).length = m := ⟨_, rfl⟩
        rw [hm9] at K10
        try rw [hm9]
        have HM9 := Lib.hid hm9
        clear hm9
        have HG := Lib.hid (SP.out _ vv K10.drop)
        refine hK'.out _ _ HG.out (fun hHeld2 => ?_)
        clear hK' K hHeld
        have hHeld := hHeld2
        clear hHeld2
        try simp only [Act.put, List.setIfInBounds_toArray]
        refine wpAnyH_take (i := 14) (v := ?_) rfl (by kernel_rfl) (by kernel_rfl) (by kernel_rfl) (fun _ _ _ h => h) (Or.inl ⟨by rfl, ?_⟩) hHeld ?_
        rotate_left
        · (intro w hSw; (try dsimp only at hSw); go_simp; try with_reducible rfl)
        try simp only [Act.put, List.setIfInBounds_toArray, List.set_cons_zero, List.set_cons_succ, List.getElem_toArray, List.getElem_cons_succ, List.getElem_cons_zero]
        refine wpAnyH_ready (rs := [15]) (by kernel_rfl) (by decide) (AllReadyH.cons (o := _) rfl (fun K hK' => ?_) AllReadyH.nil)
        obtain ⟨s1, s2, s3⟩ := (K10.front 1 rfl).blkAt
        have K11 := (K10.front 1 rfl).st 1 (.slice A' m9 c')
        go_simp
        have HG := Lib.hid (SP.out _ _ (K11.sel [0, 2, 3, 4, 5] 99 (by decide) (by decide)))
        refine hK'.out _ _ HG.out (fun hHeld2 => ?_)
        clear hK' K hHeld
        have hHeld := hHeld2
        clear hHeld2
        try simp only [Act.put, List.setIfInBounds_toArray]
        refine wpAnyH_done (by kernel_rfl) ?_ _
        clear s1 s2 s3 HG hHeld
        go_wp2_with fail
        go_roundw
        case rel => exact ⟨k + 1, _, by omega, by go_num, by rw [hO.out, HZ.out, HM9.out]; exact K11.sel [1, 0, 2, 3, 4, 5] 99 (by decide) (by decide)⟩
        case measure => simp [intOf]; omega
    · have i1 : ¬ (k : Int) < (xs.length : Int) := by omega
      obtain rfl : k = xs.length := by omega
      obtain ⟨A0, c0, rfl⟩ := row_form hK.at0
      have hlo : ((List.range xs.length).map (outT d xs ys tm)).length ≤ 1000000 := by simp; omega
      have HOD := Lib.hid (show outD d xs ys tm = (List.range xs.length).map (outT d xs ys tm) from rfl)
      obtain ⟨O, hO⟩ : ∃ O, (List.range xs.length).map (outT d xs ys tm) = O := ⟨_, rfl⟩
      rw [hO] at hK HOD hlo
      have HOF := Lib.hid (fun (h : vreg d.b O = false) => td_full (a := a) (b := b) HV.out HS.out HT.out (show vreg d.b (outD d xs ys tm) = false by rw [HOD.out]; exact h))
      have HOK := Lib.hid (fun (h : vreg d.b O = true) => td_fine (a := a) (b := b) HV.out HS.out HT.out (show vreg d.b (outD d xs ys tm) = true by rw [HOD.out]; exact h))
      try rw [hO]
      clear hO
      have hK : Kn w [rowI A0 c0 O, .blk gO [.int .i64 a, .slice A0 O.length c0] 28, .blk (g1 + 1 + 1 + 1) [.int .i64 0, .slice none 0 0] 28, .blk (g1 + 1 + 1) [.int .i64 b, .slice YA ys.length yc] 28, .blk (g1 + 1) [.int .i64 a, .slice XA xs.length xc] 28, .blk g1 [.int .i64 d.k, .int .i64 d.b, .int .i64 d.t, .int .i64 d.f] 25] wr := hK
      have KO := l02Ok_any ⟨gO, 0, none⟩ a A0 O.length c0 O wr ⟨(hK.front 1 rfl).blkAt.1 0, (hK.front 1 rfl).blkAt.1 1⟩ hK.riv (by omega)
      have hab : vreg a O = vreg d.b O := by rw [E1.out]
      rw [hab] at KO
      clear hab
      obtain ⟨a1, a2, a3, -⟩ := (hK.front 4 rfl).cells
      rcases hvo : vreg d.b O with _ | _
      · have HX := Lib.hid (HOF.out hvo)
        rw [hvo] at KO
        replace KO := Lib.hid KO
        clear hvo HOF HOK
        go_wp2_with (go_at_call 50; refine KO.out.mono ?_; rintro e w8 ⟨rfl, q, rfl⟩; have Kfin := (hK.drewN q).front 2 rfl; generalize wr.drewN q = w8 at Kfin ⊢; clear a1 a2 a3; obtain ⟨a1, a2, a3, -⟩ := Kfin.cells)
        refine bodyPost.kn ((Kfin.st 0 (.int .i64 0)).st 1 (.slice none 0 0)) ?_; intro w9 K9
        clear a1 a2 a3
        obtain ⟨a1, a2, a3, -⟩ := K9.cells
        exact bodyPost_ret (v := .tuple #[.agg #[.int .i64 0, .slice none 0 0], .int .i64 5]) (by simp [results, Try.results8, go_sem, a1]) rfl (TDRet.of (HX.out) rfl K9.below)
      · have HX := Lib.hid (HOK.out hvo)
        rw [hvo] at KO
        replace KO := Lib.hid KO
        clear hvo HOF HOK
        go_wp2_with (go_at_call 50; refine KO.out.mono ?_; rintro e w8 ⟨rfl, q, rfl⟩; have K8 := (hK.drewN q).front 2 rfl; generalize wr.drewN q = w8 at K8 ⊢; clear a1 a2 a3; obtain ⟨a1, a2, a3, r1, r2, r3, o1, o2, o3, -⟩ := K8.cells)
        refine bodyPost.kn ((K8.st 0 (.int .i64 a)).st 1 (.slice A0 O.length c0)) ?_; intro w9 K9
        clear a1 a2 a3
        obtain ⟨a1, a2, a3, -⟩ := K9.cells
        refine bodyPost_ret (v := .tuple #[.agg #[.int .i64 a, .slice A0 O.length c0], .int .i64 0]) (by simp [results, Try.results8, go_sem, a1]) rfl ?_
        unfold TDRet RgRet
        rw [HX.out.1, HX.out.2.1, HX.out.2.2, HOD.out]
        exact ⟨_, _, by rw [E1.out], K9.sel [1] 99 (by decide) (by decide)⟩
end Go.Proofs.Ytafnebpbfmbgiaa

namespace Go.Proofs.Ytafnebpbfmbgiaa
open Go.RowKit Go.Sort
/-! broken teeth, plainly -/
theorem and1 {v : Int} (h0 : 0 ≤ v) (h1 : v ≤ 9223372036854775807) : bits .and .i64 v 1 = v % 2 := by
  have hp : (2 : Int) ^ 63 = 9223372036854775808 := by decide
  exact bits_mask .i64 63 (by decide) (fun n a b => wrapI (by rw [hp] at b; omega)) 1 (by decide) v h0 (by rw [hp]; omega)
/-- is the tooth that makes its step at a time whole? -/
def bsBit (d : Dr) (br t : Int) : Bool := decide (br / 2 ^ (t - d.f).toNat % 2 = 0)
def bsBad (d : Dr) (br : Int) : Bool := decide (br < 0) || !(decide (br / 2 ^ (d.b - 1).toNat = 0))
def bsC (d : Dr) (g br : Int) : Int := if drCode d g ≠ 0 then drCode d g else if bsBad d br = true then 2 else if d.k = 3 then 6 else 0
def bsCnt (d : Dr) (n : Nat) (br : Int) (j : Nat) : Nat := ((List.range j).map (dTime d n)).countP (bsBit d br)
def bsN (d : Dr) (g br : Int) : Int := if bsC d g br = 0 then bsCnt d g.toNat br g.toNat else 0
theorem bsCnt_succ (d : Dr) (n : Nat) (br : Int) (j : Nat) : bsCnt d n br (j + 1) = bsCnt d n br j + (if bsBit d br (dTime d n j) = true then 1 else 0) := by
  unfold bsCnt
  rw [dTimes_succ, List.countP_append, List.countP_singleton]
theorem bsCnt_le (d : Dr) (n : Nat) (br : Int) (j : Nat) : bsCnt d n br j ≤ j := by
  unfold bsCnt
  have := List.countP_le_length (p := bsBit d br) (l := (List.range j).map (dTime d n))
  simpa using this
theorem bsN_zero {d : Dr} {g br C : Int} (h : bsC d g br = C) (hc : C ≠ 0) : bsN d g br = 0 := by unfold bsN; rw [h, if_neg hc]
theorem drCode_ok {d : Dr} {g : Int} (h : drCode d g = 0) : drOk d = true ∧ 0 ≤ g ∧ g < d.b := by
  unfold drCode at h
  split at h
  · cases h
  · rename_i h1
    split at h
    · cases h
    · rename_i h2
      have h3 : drOk d = true := by rcases hx : drOk d with _ | _; exact absurd hx (by simpa using h1); rfl
      have h4 : betB g 0 (d.b - 1) = true := by rcases hx : betB g 0 (d.b - 1) with _ | _; exact absurd hx (by simpa using h2); rfl
      have := betB_iff.1 h4
      exact ⟨h3, by omega, by omega⟩
theorem pow2_bd {n : Nat} (h : n ≤ 15) : (1 : Int) ≤ 2 ^ n ∧ (2 : Int) ^ n ≤ 32768 := by
  have H : ∀ n : Fin 16, (1 : Int) ≤ 2 ^ n.val ∧ (2 : Int) ^ n.val ≤ 32768 := by decide
  exact H ⟨n, by omega⟩
theorem bsBad_iff {d : Dr} (hd : drOk d = true) {br : Int} : bsBad d br = !(betB br 0 (2 ^ (d.b - 1).toNat - 1)) := by
  obtain ⟨-, hb, -⟩ := drOk_iff.1 hd
  have hp := pow2_bd (n := (d.b - 1).toNat) (by omega)
  unfold bsBad
  obtain ⟨P, hP⟩ : ∃ P, (2 : Int) ^ (d.b - 1).toNat = P := ⟨_, rfl⟩
  rw [hP] at hp ⊢
  by_cases h0 : br < 0
  · rw [decide_eq_true h0, show betB br 0 (P - 1) = false by unfold betB; exact decide_eq_false (by omega)]; rfl
  · rw [decide_eq_false h0, Bool.false_or]
    congr 1
    unfold betB
    by_cases h1 : br < P
    · rw [Int.ediv_eq_zero_of_lt (by omega) h1]
      simp; omega
    · have : 1 ≤ br / P := by rw [Int.le_ediv_iff_mul_le (by omega)]; omega
      rw [decide_eq_false (by omega), decide_eq_false (by omega)]
theorem bs_code {d : Dr} {g br : Int} (h : drCode d g ≠ 0) : bsC d g br = drCode d g ∧ bsN d g br = 0 := by
  have h1 : bsC d g br = drCode d g := by unfold bsC; rw [if_pos h]
  exact ⟨h1, bsN_zero h1 h⟩
theorem bs_bad {d : Dr} {g br : Int} (h : drCode d g = 0) (h2 : bsBad d br = true) : bsC d g br = 2 ∧ bsN d g br = 0 := by
  have h1 : bsC d g br = 2 := by unfold bsC; rw [if_neg (by omega), if_pos h2]
  exact ⟨h1, bsN_zero h1 (by decide)⟩
theorem bs_rack {d : Dr} {g br : Int} (h : drCode d g = 0) (h2 : bsBad d br = false) (h3 : d.k = 3) : bsC d g br = 6 ∧ bsN d g br = 0 := by
  have h1 : bsC d g br = 6 := by unfold bsC; rw [if_neg (by omega), if_neg (by rw [h2]; decide), if_pos h3]
  exact ⟨h1, bsN_zero h1 (by decide)⟩
theorem bs_fine {d : Dr} {n : Nat} {br : Int} (h : drCode d n = 0) (h2 : bsBad d br = false) (h3 : ¬ d.k = 3) : bsC d n br = 0 ∧ bsN d n br = bsCnt d n br n := by
  have h1 : bsC d n br = 0 := by unfold bsC; rw [if_neg (by omega), if_neg (by rw [h2]; decide), if_neg h3]
  exact ⟨h1, by unfold bsN; rw [h1, if_pos rfl, Int.toNat_natCast]⟩
/-- the tooth's number -/
theorem tooth_bd {d : Dr} (hd : drOk d = true) (h3 : ¬ d.k = 3) {n j : Nat} (hj : j < n) (hn : (n : Int) < d.b) : 0 ≤ dTime d n j - d.f ∧ dTime d n j - d.f ≤ 15 ∧ -1000 ≤ d.f ∧ d.f ≤ 1000 := by
  obtain ⟨⟨k1, k2⟩, ⟨b1, b2⟩, ⟨t1, t2⟩, h4⟩ := drOk_iff.1 hd
  unfold dTime
  by_cases e1 : d.k = 1
  · rw [if_pos e1]; omega
  · have e2 : d.k = 2 := by omega
    rw [if_neg e1, if_pos e2]; omega
set_option maxRecDepth 100000 in
set_option maxHeartbeats 3200000 in
theorem BrokenSteps_any (d : Dr) (g br : Int) (w : World) : Calls Try.prog 10 #[.agg #[.int .i64 d.k, .int .i64 d.b, .int .i64 d.t, .int .i64 d.f], .int .i64 g, .int .i64 br] w fun e w' => e = .returned (.tuple #[.int .i64 (bsN d g br), .int .i64 (bsC d g br)]) ∧ Below w.heap.size w w' := by
  have KC := (fun W => drumCode_any d g W)
  have K0 := (Kn.nil w).al [.int .i64 d.k, .int .i64 d.b, .int .i64 d.t, .int .i64 d.f] 25
  by_cases hc : drCode d g = 0
  rotate_left
  · have HX := Lib.hid (bs_code (br := br) hc)
    obtain ⟨C, hC⟩ : ∃ C, drCode d g = C := ⟨_, rfl⟩
    rw [hC] at KC HX hc
    replace KC := Lib.hid KC
    have z1 : (C != 0) = true := by simpa using hc
    clear hC
    go_enter Try.func10, Try.ntmps10
    go_wp2_with (go_at_call 53; refine Calls.kn K0 ?_; intro w1 K1; refine (KC.out _).mono ?_; rintro e w2 ⟨rfl, hw⟩; have K2 := K1.keep hw; clear hw)
    go_ret2
    rw [HX.out.1, HX.out.2]
    exact ⟨rfl, K2.below⟩
  obtain ⟨hd, g0, g1⟩ := drCode_ok hc
  obtain ⟨n, rfl⟩ : ∃ n : Nat, g = n := ⟨g.toNat, by omega⟩
  have HC := Lib.hid hc
  rw [hc] at KC
  replace KC := Lib.hid KC
  have HD := Lib.hid hd
  have HG := Lib.hid g1
  obtain ⟨-, hb, -⟩ := drOk_iff.1 hd
  clear hd hc g0
  have x1 : IntKind.i64.wrap (d.b - 1) = d.b - 1 := wrapI (by omega)
  obtain ⟨Q, hQ⟩ : ∃ Q, br / 2 ^ (d.b.toNat - 1) = Q := ⟨_, rfl⟩
  have hbt : (d.b - 1).toNat = d.b.toNat - 1 := by omega
  have hbad : bsBad d br = (decide (br < 0) || !(decide (Q = 0))) := by unfold bsBad; rw [hbt, hQ]
  clear hbt
  by_cases h0 : br < 0
  · have HX := Lib.hid (bs_bad HC.out (show bsBad d br = true by rw [hbad, decide_eq_true h0]; rfl))
    clear hbad
    go_enter Try.func10, Try.ntmps10
    go_wp2_with (go_at_call 53; refine Calls.kn K0 ?_; intro w1 K1; refine (KC.out _).mono ?_; rintro e w2 ⟨rfl, hw⟩; have K2 := K1.keep hw; clear hw; obtain ⟨a1, a2, a3, -⟩ := K2.cells)
    go_ret2
    rw [HX.out.1, HX.out.2]
    exact ⟨rfl, K2.below⟩
  by_cases hq0 : Q = 0
  rotate_left
  · have HX := Lib.hid (bs_bad HC.out (show bsBad d br = true by rw [hbad, decide_eq_false hq0, Bool.not_false, Bool.or_true]))
    have z1 : (Q != 0) = true := by simpa using hq0
    clear hbad
    go_enter Try.func10, Try.ntmps10
    go_wp2_with (go_at_call 53; refine Calls.kn K0 ?_; intro w1 K1; refine (KC.out _).mono ?_; rintro e w2 ⟨rfl, hw⟩; have K2 := K1.keep hw; clear hw; obtain ⟨a1, a2, a3, -⟩ := K2.cells)
    go_ret2
    rw [HX.out.1, HX.out.2]
    exact ⟨rfl, K2.below⟩
  subst hq0
  have HB := Lib.hid (show bsBad d br = false by rw [hbad, decide_eq_false h0]; rfl)
  clear hbad
  by_cases h3 : d.k = 3
  · have HX := Lib.hid (bs_rack HC.out HB.out h3)
    have z1 : (d.k == 3) = true := by simpa using h3
    clear h3
    go_enter Try.func10, Try.ntmps10
    go_wp2_with (go_at_call 53; refine Calls.kn K0 ?_; intro w1 K1; refine (KC.out _).mono ?_; rintro e w2 ⟨rfl, hw⟩; have K2 := K1.keep hw; clear hw; obtain ⟨a1, a2, a3, -⟩ := K2.cells)
    go_ret2
    rw [HX.out.1, HX.out.2]
    exact ⟨rfl, K2.below⟩
  have HX := Lib.hid (bs_fine HC.out HB.out h3)
  have z1 : (d.k == 3) = false := by simpa using h3
  have KT := Lib.hid (fun W => times_any d n W HD.out HG.out)
  unfold TMRet at KT
  have HBD := Lib.hid (fun (j : Nat) (hj : j < n) => tooth_bd HD.out h3 hj HG.out)
  clear h3
  go_enter Try.func10, Try.ntmps10
  go_wp2_with (first
    | (go_at_call 53; refine Calls.kn K0 ?_; intro w1 K1; refine (KC.out _).mono ?_; rintro e w2 ⟨rfl, hw⟩; have K2 := K1.keep hw; clear hw K1; obtain ⟨a1, a2, a3, -⟩ := K2.cells)
    | (go_at_call 54; refine (KT.out _).mono ?_; rintro e w3 ⟨A, c, rfl, hK⟩; have K3 := K2.join hK; clear a1 a2 a3 K2 hK))
  have hri := K3.riv
  rw [dTimes_len, Int.toNat_natCast] at hri
  obtain ⟨a1, a2, a3, -⟩ := (K3.front 1 rfl).cells
  go_loopw [9, 35] (fun nn ii wr => ∃ (j : Nat), j ≤ n ∧ ii = .int .i64 (j : Int) ∧ nn = .int .i64 ((bsCnt d n br j : Nat) : Int) ∧ w3 = wr) (fun _ ii _ => n - (intOf ii).toNat)
  case atStart => exact ⟨0, Nat.zero_le _, rfl, by simp [bsCnt], rfl⟩
  case round =>
    obtain ⟨j, hj, rfl, rfl, rfl⟩ := hrel
    have hcl := bsCnt_le d n br j
    by_cases hjn : j < n
    · have i1 : (j : Int) < (n : Int) := by omega
      have i0 : (0 : Int) ≤ (j : Int) := by omega
      obtain ⟨ad, hA, hlt, hkl, hc1⟩ := hri.at_ hjn
      subst hA
      obtain ⟨hlj, hge⟩ := dTimes_get d n hjn
      have hS := bsCnt_succ d n br j
      have hbd := HBD.out j hjn
      obtain ⟨x, hx⟩ : ∃ x, dTime d n j = x := ⟨_, rfl⟩
      rw [hge] at hc1
      rw [hx] at hc1 hS hbd
      obtain ⟨C, hC⟩ : ∃ C, bsCnt d n br j = C := ⟨_, rfl⟩
      rw [hC] at hS hcl ⊢
      have y1 : IntKind.i64.wrap (x - d.f) = x - d.f := wrapI (by omega)
      have y2 : IntKind.i64.wrap ((C : Int) + 1) = (C : Int) + 1 := wrapI (by omega)
      have e0 : 0 ≤ x - d.f := hbd.1
      have e1 : x - d.f ≤ 15 := hbd.2.1
      have hp := pow2_bd (n := (x - d.f).toNat) (by omega)
      obtain ⟨V, hV⟩ : ∃ V, br / 2 ^ (x - d.f).toNat = V := ⟨_, rfl⟩
      have hV0 : 0 ≤ V := by rw [← hV]; exact Int.ediv_nonneg (by omega) (by omega)
      have hbr : br ≤ 32767 := by
        have hp2 := pow2_bd (n := d.b.toNat - 1) (by omega)
        have := Int.lt_ediv_add_one_mul_self br (show 0 < (2 : Int) ^ (d.b.toNat - 1) by omega)
        rw [hQ] at this
        omega
      have hV1 : V ≤ 32767 := by rw [← hV]; exact Int.le_trans (Int.ediv_le_self _ (by omega)) hbr
      have hA1 : bits .and .i64 V 1 = V % 2 := and1 hV0 (by omega)
      obtain ⟨mm, hm⟩ : ∃ m, V % 2 = m := ⟨_, rfl⟩
      rw [hm] at hA1
      have hbit : bsBit d br x = decide (mm = 0) := by unfold bsBit; rw [hV, hm]
      rw [hbit] at hS
      have HS := Lib.hid hS
      clear hS hC hx hge hri hlj hbit hm hp hV0 hV1 hbr hbd
      by_cases hm0 : mm = 0
      · have HS2 := Lib.hid (HS.out.trans (by rw [decide_eq_true hm0, if_pos rfl]))
        have m1 : (mm == 0) = true := by simpa using hm0
        go_wp2_with fail
        go_roundw
        case rel => exact ⟨j + 1, by omega, by go_num, by rw [HS2.out]; go_num; try omega, by first | rfl | trivial⟩
        case measure => simp [intOf]; omega
      · have HS2 := Lib.hid (HS.out.trans (by rw [decide_eq_false hm0, if_neg (by decide)]))
        have m1 : (mm == 0) = false := by simpa using hm0
        go_wp2_with fail
        go_roundw
        case rel => exact ⟨j + 1, by omega, by go_num, by rw [HS2.out]; rfl, by first | rfl | trivial⟩
        case measure => simp [intOf]; omega
    · have i1 : ¬ (j : Int) < (n : Int) := by omega
      obtain rfl : j = n := by omega
      go_wp2_with fail
      go_ret2
      rw [HX.out.1, HX.out.2]
      exact ⟨rfl, K3.below⟩
end Go.Proofs.Ytafnebpbfmbgiaa

namespace Go.Proofs.Ytafnebpbfmbgiaa
open Go.RowKit Go.Sort
set_option maxRecDepth 100000 in
set_option maxHeartbeats 3200000 in
theorem specBrokenSteps_any (d : Dr) (g br : Int) (w : World) : Calls Try.prog 11 #[.agg #[.int .i64 d.k, .int .i64 d.b, .int .i64 d.t, .int .i64 d.f], .int .i64 g, .int .i64 br] w fun e w' => e = .returned (.tuple #[.int .i64 (bsN d g br), .int .i64 (bsC d g br)]) ∧ Below w.heap.size w w' := by
  obtain ⟨p, hp⟩ : ∃ p, w.heap.size = p := ⟨_, rfl⟩
  have KC := (fun W h => l05Code_any p d g W h)
  have K0 := (Kn.nil w).al [.int .i64 d.k, .int .i64 d.b, .int .i64 d.t, .int .i64 d.f] 25
  rw [hp] at K0
  have HDA := Lib.hid (fun W (K : Kn w [.blk p [.int .i64 d.k, .int .i64 d.b, .int .i64 d.t, .int .i64 d.f] 25] W) => (show DrAt W p d from ⟨K.blkAt.1 0, K.blkAt.1 1, K.blkAt.1 2, K.blkAt.1 3⟩))
  by_cases hc : drCode d g = 0
  rotate_left
  · have HX := Lib.hid (bs_code (br := br) hc)
    obtain ⟨C, hC⟩ : ∃ C, drCode d g = C := ⟨_, rfl⟩
    rw [hC] at KC HX hc
    replace KC := Lib.hid KC
    have z1 : (C != 0) = true := by simpa using hc
    have z2 : (C == 0) = false := by simpa using hc
    clear hC
    go_enter Try.func11, Try.ntmps11
    go_wp2_with (go_at_call 55; refine Calls.kn K0 ?_; intro w1 K1; refine (KC.out _ (HDA.out _ K1)).mono ?_; rintro e w2 ⟨rfl, hw⟩; have K2 := K1.keep hw; clear hw K1; obtain ⟨a1, a2, a3, -⟩ := K2.cells)
    go_ret2
    rw [HX.out.1, HX.out.2]
    exact ⟨rfl, K2.below⟩
  obtain ⟨hd, g0, g1⟩ := drCode_ok hc
  obtain ⟨n, rfl⟩ : ∃ n : Nat, g = n := ⟨g.toNat, by omega⟩
  have HC := Lib.hid hc
  rw [hc] at KC
  replace KC := Lib.hid KC
  have HD := Lib.hid hd
  have HG := Lib.hid g1
  obtain ⟨-, hb, -⟩ := drOk_iff.1 hd
  have hbad := bsBad_iff hd (br := br)
  have hp2 := pow2_bd (n := d.b.toNat - 1) (by omega)
  rw [show (d.b - 1).toNat = d.b.toNat - 1 by omega] at hbad
  obtain ⟨P, hP⟩ : ∃ P : Int, (2 : Int) ^ (d.b.toNat - 1) = P := ⟨_, rfl⟩
  rw [hP] at hbad hp2
  have w1' : wrap64 P = P := wrap64_of (by omega)
  have w2' : wrap64 (P - 1) = P - 1 := wrap64_of (by omega)
  have KI := (fun W => l00In_any br 0 (P - 1) W)
  have hb16 := hb
  clear hd hc g0 hp2
  have x1 : IntKind.i64.wrap (d.b - 1) = d.b - 1 := wrapI (by omega)
  rcases hv : betB br 0 (P - 1) with _ | _
  · have HX := Lib.hid (bs_bad HC.out (show bsBad d br = true by rw [hbad, hv]; rfl))
    rw [hv] at KI
    replace KI := Lib.hid KI
    clear hbad hv
    go_enter Try.func11, Try.ntmps11
    go_wp2_with (first | (go_at_call 55; refine Calls.kn K0 ?_; intro w1 K1; refine (KC.out _ (HDA.out _ K1)).mono ?_; rintro e w2 ⟨rfl, hw⟩; have K2 := K1.keep hw; clear hw K1; obtain ⟨a1, a2, a3, -⟩ := K2.cells) | (go_at_call 48; refine (KI.out _).mono ?_; rintro e w' ⟨rfl, rfl⟩))
    go_ret2
    rw [HX.out.1, HX.out.2]
    exact ⟨rfl, K2.below⟩
  have HB := Lib.hid (show bsBad d br = false by rw [hbad, hv]; rfl)
  have hbr := betB_iff.1 hv
  have hp2 := pow2_bd (n := d.b.toNat - 1) (by omega)
  rw [hP] at hp2
  have HBR := Lib.hid (show 0 ≤ br ∧ br ≤ 32767 by omega)
  rw [hv] at KI
  replace KI := Lib.hid KI
  clear hbad hv hbr hp2
  by_cases h3 : d.k = 3
  · have HX := Lib.hid (bs_rack HC.out HB.out h3)
    have z1 : (d.k == 3) = true := by simpa using h3
    clear h3
    go_enter Try.func11, Try.ntmps11
    go_wp2_with (first | (go_at_call 55; refine Calls.kn K0 ?_; intro w1 K1; refine (KC.out _ (HDA.out _ K1)).mono ?_; rintro e w2 ⟨rfl, hw⟩; have K2 := K1.keep hw; clear hw K1; obtain ⟨a1, a2, a3, -⟩ := K2.cells) | (go_at_call 48; refine (KI.out _).mono ?_; rintro e w' ⟨rfl, rfl⟩))
    go_ret2
    rw [HX.out.1, HX.out.2]
    exact ⟨rfl, K2.below⟩
  have HX := Lib.hid (bs_fine HC.out HB.out h3)
  have z1 : (d.k == 3) = false := by simpa using h3
  have HBD := Lib.hid (fun (j : Nat) (hj : j < n) => tooth_bd HD.out h3 hj HG.out)
  have KT := Lib.hid (fun (j : Nat) (hj : (j : Int) < n) W (hW : DrAt W p d) => l05Time_any p d n j W hW HD.out hj HG.out)
  clear h3
  go_enter Try.func11, Try.ntmps11
  go_wp2_with (first | (go_at_call 55; refine Calls.kn K0 ?_; intro w1 K1; refine (KC.out _ (HDA.out _ K1)).mono ?_; rintro e w2 ⟨rfl, hw⟩; have K2 := K1.keep hw; clear hw K1; obtain ⟨a1, a2, a3, -⟩ := K2.cells) | (go_at_call 48; refine (KI.out _).mono ?_; rintro e w' ⟨rfl, rfl⟩))
  clear a1 a2 a3
  go_loopw [9, 10] (fun nn ii wr => ∃ (j : Nat), j ≤ n ∧ ii = .int .i64 (j : Int) ∧ nn = .int .i64 ((bsCnt d n br j : Nat) : Int) ∧ Kn w [.blk p [.int .i64 d.k, .int .i64 d.b, .int .i64 d.t, .int .i64 d.f] 25] wr) (fun _ ii _ => n - (intOf ii).toNat)
  case atStart => exact ⟨0, Nat.zero_le _, rfl, by simp [bsCnt], K2⟩
  case round =>
    clear K2
    obtain ⟨j, hj, rfl, rfl, K2⟩ := hrel
    have hcl := bsCnt_le d n br j
    by_cases hjn : j < n
    · have i1 : (j : Int) < (n : Int) := by omega
      have i0 : (0 : Int) ≤ (j : Int) := by omega
      have hS := bsCnt_succ d n br j
      have hbd := HBD.out j hjn
      have KX := (fun m => KT.out j i1 (wr.drewN m) (HDA.out _ (K2.drewN m)))
      obtain ⟨x, hx⟩ : ∃ x, dTime d n j = x := ⟨_, rfl⟩
      rw [hx] at KX hS hbd
      replace KX := Lib.hid KX
      obtain ⟨C, hC⟩ : ∃ C, bsCnt d n br j = C := ⟨_, rfl⟩
      rw [hC] at hS hcl ⊢
      have y1 : IntKind.i64.wrap (x - d.f) = x - d.f := wrapI (by omega)
      have y2 : IntKind.i64.wrap ((C : Int) + 1) = (C : Int) + 1 := wrapI (by omega)
      obtain ⟨E, hE⟩ : ∃ E, x - d.f = E := ⟨_, rfl⟩
      rw [hE] at y1 hbd
      have e0 : 0 ≤ E := hbd.1
      have e1 : E ≤ 15 := hbd.2.1
      have y3 : IntKind.u64.wrap E = E := by simp [IntKind.wrap, IntKind.bits, IntKind.signed]; omega
      have hp := pow2_bd (n := E.toNat) (by omega)
      obtain ⟨V, hV⟩ : ∃ V, br / 2 ^ E.toNat = V := ⟨_, rfl⟩
      have hV0 : 0 ≤ V := by rw [← hV]; exact Int.ediv_nonneg HBR.out.1 (by omega)
      have hV1 : V ≤ 32767 := by rw [← hV]; exact Int.le_trans (Int.ediv_le_self _ HBR.out.1) HBR.out.2
      have hA1 : bits .and .i64 V 1 = V % 2 := and1 hV0 (by omega)
      obtain ⟨mm, hm⟩ : ∃ m, V % 2 = m := ⟨_, rfl⟩
      rw [hm] at hA1
      have hbit : bsBit d br x = decide (mm = 0) := by unfold bsBit; rw [hE, hV, hm]
      rw [hbit] at hS
      have HS := Lib.hid hS
      clear hS hC hx hbit hm hp hV0 hV1 hbd
      obtain ⟨a1, a2, a3, -⟩ := K2.cells
      by_cases hm0 : mm = 0
      · have HS2 := Lib.hid (HS.out.trans (by rw [decide_eq_true hm0, if_pos rfl]))
        have m1 : (mm == 0) = true := by simpa using hm0
        go_wp2_with fail
        go_quiet ((go_at_call 56; exact quiet_of_ex (KX.out _)))
        go_wp2_with fail
        go_roundw
        case rel => exact ⟨j + 1, by omega, by go_num, by rw [HS2.out]; go_num; try omega, by first | exact K2.drewN _ | exact K2⟩
        case measure => simp [intOf]; omega
      · have HS2 := Lib.hid (HS.out.trans (by rw [decide_eq_false hm0, if_neg (by decide)]))
        have m1 : (mm == 0) = false := by simpa using hm0
        go_wp2_with fail
        go_quiet ((go_at_call 56; exact quiet_of_ex (KX.out _)))
        go_wp2_with fail
        go_roundw
        case rel => exact ⟨j + 1, by omega, by go_num, by rw [HS2.out]; rfl, by first | exact K2.drewN _ | exact K2⟩
        case measure => simp [intOf]; omega
    · have i1 : ¬ (j : Int) < (n : Int) := by omega
      obtain rfl : j = n := by omega
      go_wp2_with fail
      go_ret2
      rw [HX.out.1, HX.out.2]
      exact ⟨rfl, by first | exact K2.below | (have := K2.below; rw [hp] at this; exact this)⟩
end Go.Proofs.Ytafnebpbfmbgiaa

namespace Go.Proofs.Ytafnebpbfmbgiaa
open Go.RowKit Go.Sort
/-! the busiest time, plainly -/
def bump (cs : List Int) (t : Int) : List Int := cs.set t.toNat (cs.getD t.toNat 0 + 1)
/-- the counts behind the first j teeth of a wheel -/
def cntJ (d : Dr) (n : Nat) (cs : List Int) (j : Nat) : List Int := ((List.range j).map (dTime d n)).foldl bump cs
/-- the counts behind the first k wheels -/
def cntW (d : Dr) (xs : List Int) : Nat → List Int
  | 0 => List.replicate (d.t.toNat + 1) 0
  | k + 1 => cntJ d (xs.getD k 0).toNat (cntW d xs k) (xs.getD k 0).toNat
theorem cntJ_succ (d : Dr) (n : Nat) (cs : List Int) (j : Nat) : cntJ d n cs (j + 1) = bump (cntJ d n cs j) (dTime d n j) := by
  unfold cntJ
  rw [List.range_succ, List.map_append, List.foldl_append]; rfl
theorem bump_len (cs : List Int) (t : Int) : (bump cs t).length = cs.length := by unfold bump; rw [List.length_set]
theorem cntJ_len (d : Dr) (n : Nat) (cs : List Int) (j : Nat) : (cntJ d n cs j).length = cs.length := by
  induction j with
  | zero => rfl
  | succ j ih => rw [cntJ_succ, bump_len, ih]
theorem cntW_len (d : Dr) (xs : List Int) (k : Nat) : (cntW d xs k).length = d.t.toNat + 1 := by
  induction k with
  | zero => simp [cntW]
  | succ k ih => rw [cntW, cntJ_len, ih]
theorem bump_get (cs : List Int) (t : Int) (i : Nat) : (bump cs t).getD i 0 = if i = t.toNat ∧ i < cs.length then cs.getD i 0 + 1 else cs.getD i 0 := by
  unfold bump
  simp only [List.getD_eq_getElem?_getD, List.getElem?_set]
  by_cases h : t.toNat = i
  · subst h
    by_cases h2 : t.toNat < cs.length
    · simp [h2]
    · simp [h2]
  · rw [if_neg h, if_neg (by omega)]
/-- a wheel makes one step at a time at most -/
theorem cntJ_get {d : Dr} (hd : drOk d = true) {n : Nat} (hn : (n : Int) < d.b) (cs : List Int) : ∀ (j : Nat), j ≤ n → ∀ i : Nat, (cs.getD i 0 ≤ (cntJ d n cs j).getD i 0 ∧ (cntJ d n cs j).getD i 0 ≤ cs.getD i 0 + 1) ∧ (j < n → dTime d n j ≤ i → (cntJ d n cs j).getD i 0 = cs.getD i 0)
  | 0, _, i => ⟨⟨Int.le_refl _, by show cs.getD i 0 ≤ _; omega⟩, fun _ _ => rfl⟩
  | j + 1, hj, i => by
    obtain ⟨⟨h1, h2⟩, h3⟩ := cntJ_get hd hn cs j (by omega) i
    have hb := dTime_bd hd (g := n) (j := j) (by omega) hn
    rw [cntJ_succ, bump_get]
    constructor
    · split
      · rename_i he
        have := h3 (by omega) (by omega)
        omega
      · exact ⟨h1, h2⟩
    · intro hj1 hle
      have hlt := dTime_lt hd (g := n) (i := j) (j := j + 1) (by omega) (by omega) hn
      rw [if_neg (by omega)]
      exact h3 (by omega) (by omega)
theorem cntW_get {d : Dr} (hd : drOk d = true) {xs : List Int} (hx : ∀ x ∈ xs, 0 ≤ x ∧ x < d.b) : ∀ (k : Nat), k ≤ xs.length → ∀ i : Nat, 0 ≤ (cntW d xs k).getD i 0 ∧ (cntW d xs k).getD i 0 ≤ k
  | 0, _, i => by
    show 0 ≤ (List.replicate (d.t.toNat + 1) (0 : Int)).getD i 0 ∧ (List.replicate (d.t.toNat + 1) (0 : Int)).getD i 0 ≤ ((0 : Nat) : Int)
    rw [List.getD_eq_getElem?_getD, List.getElem?_replicate]
    split <;> simp
  | k + 1, hk, i => by
    have ih := cntW_get hd hx k (by omega) i
    have hm := hx (xs.getD k 0) (by rw [getD_of (show k < xs.length by omega)]; exact List.getElem_mem _)
    have h := (cntJ_get hd (n := (xs.getD k 0).toNat) (by omega) (cntW d xs k) (xs.getD k 0).toNat (Nat.le_refl _) i).1
    rw [cntW]
    omega
/-- the index of the first greatest one of the first k -/
def bestK (cs : List Int) : Nat → Nat
  | 0 => 0
  | k + 1 => if cs.getD (bestK cs k) 0 < cs.getD k 0 then k else bestK cs k
theorem bestK_lt (cs : List Int) : ∀ k, bestK cs k ≤ k - 1
  | 0 => Nat.le_refl _
  | k + 1 => by
    unfold bestK
    have := bestK_lt cs k
    split <;> omega
theorem bestK_one (cs : List Int) : bestK cs 1 = 0 := by
  unfold bestK
  split <;> rfl
def btC (d : Dr) (a : Int) (xs : List Int) : Int := if (drOk d && vreg a xs) = false then 1 else if a ≠ d.b then 6 else 0
def btA (d : Dr) (a : Int) (xs : List Int) : Int := if btC d a xs = 0 then bestK (cntW d xs xs.length) (d.t.toNat + 1) else 0
def btM (d : Dr) (a : Int) (xs : List Int) : Int := if btC d a xs = 0 then (cntW d xs xs.length).getD (bestK (cntW d xs xs.length) (d.t.toNat + 1)) 0 else 0
theorem bt_not {d : Dr} {a : Int} {xs : List Int} {C : Int} (h : btC d a xs = C) (hc : C ≠ 0) : btC d a xs = C ∧ btA d a xs = 0 ∧ btM d a xs = 0 := ⟨h, by unfold btA; rw [h, if_neg hc], by unfold btM; rw [h, if_neg hc]⟩
theorem bt_bad {d : Dr} {a : Int} {xs : List Int} (h : (drOk d && vreg a xs) = false) : btC d a xs = 1 ∧ btA d a xs = 0 ∧ btM d a xs = 0 := bt_not (by unfold btC; rw [if_pos h]) (by decide)
theorem bt_state {d : Dr} {a : Int} {xs : List Int} (h : (drOk d && vreg a xs) = true) (h2 : a ≠ d.b) : btC d a xs = 6 ∧ btA d a xs = 0 ∧ btM d a xs = 0 := bt_not (by unfold btC; rw [if_neg (by rw [h]; decide), if_pos h2]) (by decide)
theorem bt_fine {d : Dr} {a : Int} {xs : List Int} (h : (drOk d && vreg a xs) = true) (h2 : a = d.b) : btC d a xs = 0 ∧ btA d a xs = bestK (cntW d xs xs.length) (d.t.toNat + 1) ∧ btM d a xs = (cntW d xs xs.length).getD (bestK (cntW d xs xs.length) (d.t.toNat + 1)) 0 := by
  have h1 : btC d a xs = 0 := by unfold btC; rw [if_neg (by rw [h]; decide), if_neg (by omega)]
  exact ⟨h1, by unfold btA; rw [h1, if_pos rfl], by unfold btM; rw [h1, if_pos rfl]⟩
/-- no more wheels than there are make a step at one time -/
theorem btM_le {d : Dr} {a : Int} {xs : List Int} (h : btC d a xs = 0) : btM d a xs ≤ xs.length := by
  unfold btM
  rw [if_pos h]
  unfold btC at h
  split at h
  · cases h
  · rename_i h1
    split at h
    · cases h
    · rename_i h2
      have h3 : (drOk d && vreg a xs) = true := by rcases hx : (drOk d && vreg a xs) with _ | _; exact absurd hx h1; rfl
      rw [Bool.and_eq_true] at h3
      have hd := (vreg_iff.1 h3.2).2.2.1
      have ha : a = d.b := by omega
      rw [ha] at hd
      exact (cntW_get h3.1 hd xs.length (Nat.le_refl _) _).2
end Go.Proofs.Ytafnebpbfmbgiaa
