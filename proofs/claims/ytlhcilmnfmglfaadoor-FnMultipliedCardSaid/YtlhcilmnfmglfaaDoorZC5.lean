/- Part 5: lemmas and contracts of the claim's functions. -/
import Derived.Test.YtlhcilmnfmglfaaDoorZC1
import Derived.Test.YtlhcilmnfmglfaaDoorZC2
import Derived.Test.YtlhcilmnfmglfaaDoorZC3
import Derived.Test.YtlhcilmnfmglfaaDoorZC4
import Derived.Deep.RegionHeld3
import Derived.Deep.DeepCutAuto
namespace Go.Proofs.YtlhcilmnfmglfaaDoor
open Go.RowKit Go.Sort
/-- a base and widths are those of machines -/
def nmOk (b n1 n2 n3 : Int) : Bool := (betB b 2 16 && betB n1 1 16 && betB n2 1 16 && betB n3 1 16) && vmach (newT b n1.toNat n2.toNat n3.toNat)
theorem regWidth_any (n : Int) (w : World) : Calls Tryd.prog 149 #[.int .i64 n] w fun e w' => e = .returned (.bool (betB n 1 16)) ∧ w = w' := by
  go_enter Tryd.func149, Tryd.ntmps149
  go_wp2_with (go_at_call 105; refine (between_any _ _ _ _).mono ?_; rintro e w' ⟨rfl, rfl⟩)
  go_ret
  exact ⟨rfl, rfl⟩
theorem l07Size_any (n : Int) (w : World) : Calls Tryd.prog 65 #[.int .i64 n] w fun e w' => e = .returned (.bool (betB n 1 16)) ∧ w = w' := by
  go_enter Tryd.func65, Tryd.ntmps65
  go_wp2_with (go_at_call 68; refine (l00In_any _ _ _ _).mono ?_; rintro e w' ⟨rfl, rfl⟩)
  go_ret
  exact ⟨rfl, rfl⟩
theorem specNewMachine_range (b n1 n2 n3 : Int) (w : World) (h : (betB b 2 16 && betB n1 1 16 && betB n2 1 16 && betB n3 1 16) = false) :
    Calls Tryd.prog 12 #[.int .i64 b, .int .i64 n1, .int .i64 n2, .int .i64 n3] w fun e w' => e = .returned (.tuple #[.agg #[.int .i64 0, .slice none 0 0, .int .i64 0, .slice none 0 0, .int .i64 0, .slice none 0 0, .int .i64 0], .int .i64 2]) ∧ Below w.heap.size w w' := by
  have KB := (fun W => l02Base_any b W)
  have K1 := (fun W => l07Size_any n1 W)
  have K2 := (fun W => l07Size_any n2 W)
  have K3 := (fun W => l07Size_any n3 W)
  rcases chain4 (betB b 2 16) (betB n1 1 16) (betB n2 1 16) (betB n3 1 16) with h1 | ⟨h1, h2⟩ | ⟨h1, h2, h3⟩ | ⟨h1, h2, h3, h4⟩ | ⟨h1, h2, h3, h4⟩
  case inr.inr.inr.inr => rw [h1, h2, h3, h4] at h; cases h
  all_goals
    rw [h1] at KB
    try rw [h2] at K1
    try rw [h3] at K2
    try rw [h4] at K3
    clear h h1
    try clear h2
    try clear h3
    try clear h4
    have KB := Lib.hid KB
    have K1 := Lib.hid K1
    have K2 := Lib.hid K2
    have K3 := Lib.hid K3
    go_enter Tryd.func12, Tryd.ntmps12
    go_wp2_with (first | (go_at_call 64; refine (KB.out _).mono ?_; rintro e w' ⟨rfl, rfl⟩) | (go_at_call 65; first | (with_reducible refine (K1.out _).mono ?_; rintro e w' ⟨rfl, rfl⟩) | (with_reducible refine (K2.out _).mono ?_; rintro e w' ⟨rfl, rfl⟩) | (with_reducible refine (K3.out _).mono ?_; rintro e w' ⟨rfl, rfl⟩)))
    refine bodyPost.kn ((Kn.nil w).al [.int .i64 0, .slice none 0 0, .int .i64 0, .slice none 0 0, .int .i64 0, .slice none 0 0, .int .i64 0] 35) ?_; intro w6 hK6
    obtain ⟨a1, a2, a3, -⟩ := hK6.cells
    exact bodyPost_ret (v := .tuple #[.agg #[.int .i64 0, .slice none 0 0, .int .i64 0, .slice none 0 0, .int .i64 0, .slice none 0 0, .int .i64 0], .int .i64 2]) (by simp [results, Tryd.results12, go_sem, a1]) rfl ⟨rfl, hK6.below⟩
/-- what NewMachine returns for widths in range -/
def NMRet (b : Int) (n1 n2 n3 : Nat) (v : Bool) (w : World) (e : Ending) (w' : World) : Prop :=
  (v = true ∧ ∃ E1 g1 E2 g2 E3 g3, e = .returned (.tuple #[.agg #[.int .i64 b, .slice E1 (digD b n1 0).length g1, .int .i64 b, .slice E2 (digD b n2 0).length g2, .int .i64 b, .slice E3 (digD b n3 0).length g3, .int .i64 0], .int .i64 0]) ∧ Kn w [rowI E3 g3 (digD b n3 0), rowI E2 g2 (digD b n2 0), rowI E1 g1 (digD b n1 0)] w') ∨
  (v = false ∧ e = .returned (.tuple #[.agg #[.int .i64 0, .slice none 0 0, .int .i64 0, .slice none 0 0, .int .i64 0, .slice none 0 0, .int .i64 0], .int .i64 2]) ∧ Below w.heap.size w w')
set_option maxRecDepth 100000 in
set_option maxHeartbeats 3200000 in
theorem specNewMachine_any (b : Int) (n1 n2 n3 : Nat) (v : Bool) (w : World) (hb1 : 2 ≤ b) (hb2 : b ≤ 16) (h1 : 1 ≤ n1) (h1' : n1 ≤ 16) (h2 : 1 ≤ n2) (h2' : n2 ≤ 16) (h3 : 1 ≤ n3) (h3' : n3 ≤ 16) (hv : vmach (newT b n1 n2 n3) = v) :
    Calls Tryd.prog 12 #[.int .i64 b, .int .i64 n1, .int .i64 n2, .int .i64 n3] w (NMRet b n1 n2 n3 v w) := by
  have B0 : betB b 2 16 = true := betB_iff.2 (by omega)
  have B1 : betB n1 1 16 = true := betB_iff.2 (by omega)
  have B2 : betB n2 1 16 = true := betB_iff.2 (by omega)
  have B3 : betB n3 1 16 = true := betB_iff.2 (by omega)
  have KB := Lib.hid (fun W => calls_val (l02Base_any b W) (congrArg Value.bool B0))
  have KW1 := Lib.hid (fun W => calls_val (l07Size_any n1 W) (congrArg Value.bool B1))
  have KW2 := Lib.hid (fun W => calls_val (l07Size_any n2 W) (congrArg Value.bool B2))
  have KW3 := Lib.hid (fun W => calls_val (l07Size_any n3 W) (congrArg Value.bool B3))
  unfold newT at hv
  have l1 := digD_len b n1 0
  have l2 := digD_len b n2 0
  have l3 := digD_len b n3 0
  unfold NMRet
  have KN := (fun W => l10New_any b n1 n2 n3 W hb1 hb2 (by omega) (by omega) (by omega))
  obtain ⟨x1, hx1⟩ : ∃ x, digD b n1 0 = x := ⟨_, rfl⟩
  obtain ⟨x2, hx2⟩ : ∃ x, digD b n2 0 = x := ⟨_, rfl⟩
  obtain ⟨x3, hx3⟩ : ∃ x, digD b n3 0 = x := ⟨_, rfl⟩
  rw [hx1] at KN hv l1 ⊢
  rw [hx2] at KN hv l2 ⊢
  rw [hx3] at KN hv l3 ⊢
  have KN := Lib.hid KN
  have KO := Lib.hid (fun (g : Nat) (E1 E2 E3 : Option Addr) (g1 g2 g3 : Nat) (W : World) (m : List Ent) (hK : Kn w (.blk g [.int .i64 b, .slice E1 x1.length g1, .int .i64 b, .slice E2 x2.length g2, .int .i64 b, .slice E3 x3.length g3, .int .i64 0] 35 :: rowI E3 g3 x3 :: rowI E2 g2 x2 :: rowI E1 g1 x1 :: m) W) =>
    calls_val (l10Ok_any ⟨g, 0, none⟩ ⟨⟨b, x1⟩, ⟨b, x2⟩, ⟨b, x3⟩, 0⟩ W (TriC.tri (A1 := E1) (c1 := g1) (A2 := E2) (c2 := g2) (A3 := E3) (c3 := g3) ⟨box7' hK, Kn.riv (hK.sel [3] 99 (by decide) (by decide)), Kn.riv (hK.sel [2] 99 (by decide) (by decide)), Kn.riv (hK.sel [1] 99 (by decide) (by decide))⟩) ⟨by unfold SmallReg; simp only []; omega, by unfold SmallReg; simp only []; omega, by unfold SmallReg; simp only []; omega⟩) (congrArg Value.bool hv))
  clear hx1 hx2 hx3 l1 l2 l3 B0 B1 B2 B3
  rcases v with _ | _
  all_goals
    clear hv
    go_enter Tryd.func12, Tryd.ntmps12
    go_wp2_with (first | (go_at_call 64; refine (KB.out _).mono ?_; rintro e w' ⟨rfl, rfl⟩) | (go_at_call 65; first | (with_reducible refine (KW1.out _).mono ?_; rintro e w' ⟨rfl, rfl⟩) | (with_reducible refine (KW2.out _).mono ?_; rintro e w' ⟨rfl, rfl⟩) | (with_reducible refine (KW3.out _).mono ?_; rintro e w' ⟨rfl, rfl⟩)))
    refine Calls.kn ((Kn.nil w).al [.int .i64 0, .slice none 0 0, .int .i64 0, .slice none 0 0, .int .i64 0, .slice none 0 0, .int .i64 0] 35) ?_; intro w1 hK1
    (with_reducible refine (KN.out _).mono ?_); rintro e w2 ⟨E1, g1, E2, g2, E3, g3, rfl, hKn⟩
    have hK2 := hK1.join hKn
    clear hK1 hKn
    go_wp2_with fail
    refine Calls.kn (hK2.al [.int .i64 b, .slice E1 x1.length g1, .int .i64 b, .slice E2 x2.length g2, .int .i64 b, .slice E3 x3.length g3, .int .i64 0] 35) ?_; intro w3 hK3
    refine (KO.out _ _ _ _ _ _ _ _ _ hK3).mono ?_; rintro e w4 ⟨rfl, q, rfl⟩
    have hK4 := hK3.drewN q
    generalize w3.drewN q = w4 at hK4 ⊢
    clear hK2 hK3
    obtain ⟨a1, a2, a3, d1, d2, d3, -⟩ := hK4.cells
    go_wp2_with fail
  · refine bodyPost.kn (((((((hK4.front 4 rfl).st 0 (.int .i64 0)).st 1 (.slice none 0 0)).st 2 (.int .i64 0)).st 3 (.slice none 0 0)).st 4 (.int .i64 0)).st 5 (.slice none 0 0) |>.st 6 (.int .i64 0)) ?_; intro w6 hK6
    clear a1 a2 a3 d1 d2 d3
    obtain ⟨a1, a2, a3, -⟩ := hK6.cells
    exact bodyPost_ret (v := .tuple #[.agg #[.int .i64 0, .slice none 0 0, .int .i64 0, .slice none 0 0, .int .i64 0, .slice none 0 0, .int .i64 0], .int .i64 2]) (by simp [results, Tryd.results12, go_sem, a1]) rfl (.inr ⟨by simp, by simp, hK6.below⟩)
  · refine bodyPost.kn (((((((hK4.front 4 rfl).st 0 (.int .i64 b)).st 1 (.slice E1 x1.length g1)).st 2 (.int .i64 b)).st 3 (.slice E2 x2.length g2)).st 4 (.int .i64 b)).st 5 (.slice E3 x3.length g3) |>.st 6 (.int .i64 0)) ?_; intro w6 hK6
    clear a1 a2 a3 d1 d2 d3
    obtain ⟨a1, a2, a3, -⟩ := hK6.cells
    exact bodyPost_ret (v := .tuple #[.agg #[.int .i64 b, .slice E1 x1.length g1, .int .i64 b, .slice E2 x2.length g2, .int .i64 b, .slice E3 x3.length g3, .int .i64 0], .int .i64 0]) (by simp [results, Tryd.results12, go_sem, a1]) rfl (.inl ⟨by simp, E1, g1, E2, g2, E3, g3, rfl, hK6.sel [2, 3, 4] 99 (by decide) (by decide)⟩)
end Go.Proofs.YtlhcilmnfmglfaaDoor

namespace Go.Proofs.YtlhcilmnfmglfaaDoor
open Go.RowKit Go.Sort
/-- accumulators: which registers they are, and what they show -/
def aOk (b : Int) (ds : List Int) : Bool := vreg b ds && decide (pw b ds.length ≤ 1000000000001)
def aSize (b : Int) (ds : List Int) : Int := if aOk b ds = true then pw b ds.length else 0
def isNm (n x : Int) : Bool := betB x (-(n.tdiv 2)) (n - 1 - n.tdiv 2)
def aNum (b : Int) (ds : List Int) : Int := if valL b ds ≤ pw b ds.length - 1 - (pw b ds.length).tdiv 2 then valL b ds else valL b ds - pw b ds.length
def aNorm (n x : Int) : Int := (x.tmod n + n).tmod n
def aSet (b : Int) (k : Nat) (x : Int) : List Int := digD b k (aNorm (pw b k) x)
theorem aOk_iff {b : Int} {ds : List Int} : aOk b ds = true ↔ vreg b ds = true ∧ pw b ds.length ≤ 1000000000001 := by
  unfold aOk; rw [Bool.and_eq_true, decide_eq_true_eq]
theorem aNorm_bd {n x : Int} (hn : 1 ≤ n) : 0 ≤ aNorm n x ∧ aNorm n x < n := by
  unfold aNorm
  have h1 : -n < x.tmod n ∧ x.tmod n < n := by
    rcases Int.le_total 0 x with h | h
    · rw [Int.tmod_eq_emod_of_nonneg h]
      have := Int.emod_nonneg x (show n ≠ 0 by omega)
      have := Int.emod_lt_of_pos x (show 0 < n by omega)
      omega
    · have h2 := Int.neg_tmod (-x) n
      rw [Int.neg_neg] at h2
      rw [h2, Int.tmod_eq_emod_of_nonneg (by omega)]
      have := Int.emod_nonneg (-x) (show n ≠ 0 by omega)
      have := Int.emod_lt_of_pos (-x) (show 0 < n by omega)
      omega
  rw [Int.tmod_eq_emod_of_nonneg (by omega)]
  exact ⟨Int.emod_nonneg _ (by omega), Int.emod_lt_of_pos _ (by omega)⟩
theorem half_bd {n : Int} (hn : 0 ≤ n) : 0 ≤ n.tdiv 2 ∧ 2 * n.tdiv 2 ≤ n ∧ n ≤ 2 * n.tdiv 2 + 1 := by
  rw [Int.tdiv_eq_ediv_of_nonneg hn]; omega
theorem valL_in {b : Int} {ds : List Int} (h : aOk b ds = true) : 0 ≤ valL b ds ∧ valL b ds < pw b ds.length ∧ 1 ≤ pw b ds.length ∧ pw b ds.length ≤ 1000000000001 := by
  obtain ⟨h1, h2⟩ := aOk_iff.1 h
  obtain ⟨⟨b1, b2⟩, -, hd, -⟩ := vreg_iff.1 h1
  exact ⟨(valL_bd b b1 ds (fun d hd' => (hd d hd').1)).1, valL_lt b b1 ds hd, pw_pos b b1 _, h2⟩
theorem aNum_bd {b : Int} {ds : List Int} (h : aOk b ds = true) : -1000000000001 ≤ aNum b ds ∧ aNum b ds ≤ 1000000000001 := by
  have := valL_in h
  unfold aNum
  split <;> omega
end Go.Proofs.YtlhcilmnfmglfaaDoor

namespace Go.Proofs.YtlhcilmnfmglfaaDoor
open Go.RowKit Go.Sort
/-- what a function that adds a number returns -/
def anuC (b : Int) (ds : List Int) (x : Int) : Int := if aOk b ds = false then 1 else if betB x (-1000000000000) 1000000000000 = false then 2 else 0
def ANRet (b : Int) (ds : List Int) (x : Int) (w : World) (e : Ending) (w' : World) : Prop :=
  (anuC b ds x ≠ 0 ∧ e = .returned (.tuple #[.agg #[.int .i64 0, .slice none 0 0], .bool false, .int .i64 (anuC b ds x)]) ∧ Below w.heap.size w w') ∨
  (anuC b ds x = 0 ∧ ∃ E g, e = .returned (.tuple #[.agg #[.int .i64 b, .slice E (aSet b ds.length (aNum b ds + x)).length g], .bool (!isNm (pw b ds.length) (aNum b ds + x)), .int .i64 0]) ∧ Kn w [rowI E g (aSet b ds.length (aNum b ds + x))] w')
end Go.Proofs.YtlhcilmnfmglfaaDoor

namespace Go.Proofs.YtlhcilmnfmglfaaDoor
open Go.RowKit Go.Sort
/-- a register in a block -/
def RegB (w : World) (g : Nat) (b : Int) (A : Option Addr) (c : Nat) (ds : List Int) : Prop := (w.cell? ⟨g, 0, none⟩ = some (.int .i64 b) ∧ w.cell? ⟨g, 1, none⟩ = some (.slice A ds.length c)) ∧ RI w A ds.length ds
theorem RegB.below {w w' : World} {g : Nat} {b : Int} {A : Option Addr} {c : Nat} {ds : List Int} (h : RegB w g b A c ds) (hb : Below w.heap.size w w') : RegB w' g b A c ds := by
  have hlt : g < w.heap.size := World.block_lt_of_cell? w _ h.1.1
  exact ⟨⟨(hb.cell (p := ⟨g, 0, none⟩) hlt).trans h.1.1, (hb.cell (p := ⟨g, 1, none⟩) hlt).trans h.1.2⟩, h.2.below hb⟩
theorem tmod_bd {n x : Int} (hn : 1 ≤ n) : -n < x.tmod n ∧ x.tmod n < n := by
  rcases Int.le_total 0 x with h | h
  · rw [Int.tmod_eq_emod_of_nonneg h]
    have := Int.emod_nonneg x (show n ≠ 0 by omega)
    have := Int.emod_lt_of_pos x (show 0 < n by omega)
    omega
  · have h2 := Int.neg_tmod (-x) n
    rw [Int.neg_neg] at h2
    rw [h2, Int.tmod_eq_emod_of_nonneg (by omega)]
    have := Int.emod_nonneg (-x) (show n ≠ 0 by omega)
    have := Int.emod_lt_of_pos (-x) (show 0 < n by omega)
    omega
end Go.Proofs.YtlhcilmnfmglfaaDoor

namespace Go.Proofs.YtlhcilmnfmglfaaDoor
open Go.RowKit Go.Sort
set_option maxRecDepth 100000 in
set_option maxHeartbeats 3200000 in
theorem l13Factor_ok (g : Nat) (b : Int) (A : Option Addr) (c : Nat) (ts : List Int) (w : World) (hg : RegB w g b A c ts) (hv : vtur b ts = true) :
    Calls Tryd.prog 81 #[.pointer (some ⟨g, 0, none⟩)] w fun e w' => e = .returned (.int .i64 (facL b ts)) ∧ Below w.heap.size w w' := by
  obtain ⟨⟨hb, hb2⟩, hl, hd, -, hf⟩ := vtur_iff.1 hv
  obtain ⟨⟨c0, c1⟩, hr⟩ := hg
  obtain ⟨FV, hFV⟩ : ∃ v, facL b ts = v := ⟨_, rfl⟩
  rw [hFV]
  have HFV := Lib.hid hFV
  have HR := Lib.hid (fun W (hW : Below w.heap.size w W) => hr.below hW)
  have HD := Lib.hid hd
  have HO := Lib.hid (fun j => facOk_drop hf j)
  have HC0 := Lib.hid c0
  have HC1 := Lib.hid c1
  have hgl : g < w.heap.size := World.block_lt_of_cell? w _ c0
  clear hFV hr hd hv hf c0 c1
  obtain ⟨n, hn⟩ : ∃ n, ts.length = n := ⟨_, rfl⟩
  have HN := Lib.hid hn
  rw [hn] at hl HC1
  clear hn
  have q0 : IntKind.i64.wrap ((n : Int) - 1) = (n : Int) - 1 := wrapI64 (by omega)
  have x0 := HC0.out
  have x1 := HC1.out
  go_enter Tryd.func81, Tryd.ntmps81
  go_wp2_with fail
  go_loopw [3, 4] (fun ss kk wr => ∃ (j : Nat) (v : Int), j ≤ n ∧ kk = .int .i64 v ∧ Hid (v = (j : Int) - 1) ∧ ss = .int .i64 (facL b (ts.drop j)) ∧ Below w.heap.size w wr) (fun _ kk _ => (intOf kk + 1).toNat)
  case atStart => exact ⟨n, _, Nat.le_refl _, rfl, Lib.hid rfl, by rw [← HN.out, List.drop_length]; rfl, Below.refl _ _⟩
  case round =>
    clear q0 x0 x1
    obtain ⟨j, v, hj, rfl, hv, rfl, HW⟩ := hrel
    obtain ⟨S, hS⟩ : ∃ s, facL b (ts.drop j) = s := ⟨_, rfl⟩
    have hb3 := facOk_bd (HO.out j)
    rw [hS] at hb3 ⊢
    have x0 : wr.cell? ⟨g, 0, none⟩ = some (.int .i64 b) := by rw [HW.cell hgl]; exact HC0.out
    have x1 : wr.cell? ⟨g, 1, none⟩ = some (.slice A n c) := by rw [HW.cell hgl]; exact HC1.out
    cases j with
    | zero =>
      obtain rfl : v = -1 := by have := hv.out; omega
      clear hv
      have e1 : FV = S := by rw [← HFV.out, ← hS, List.drop_zero]
      subst e1
      clear hS
      go_wp2_with fail
      go_ret
      exact ⟨rfl, HW⟩
    | succ i =>
      obtain rfl : v = (i : Int) := by have := hv.out; omega
      clear hv
      have hi : i < n := by omega
      have hi' : i < ts.length := by rw [HN.out]; exact hi
      have hri := HR.out _ HW
      rw [HN.out] at hri
      obtain ⟨ad, hA, hlt, hkx, hcx⟩ := hri.at_ hi
      have hdx := HD.out ts[i] (List.getElem_mem hkx)
      have hfs := fac_drop b hi'
      have hbn := facOk_bd (HO.out i)
      rw [hfs, hS] at hbn
      rw [hS] at hfs
      obtain ⟨t, ht⟩ : ∃ t, ts[i] = t := ⟨_, rfl⟩
      rw [ht] at hcx hdx hfs hbn
      have hm1 : S * b ≤ 1000000000 * 16 := Int.le_trans (Int.mul_le_mul_of_nonneg_right hb3.2 (by omega)) (Int.mul_le_mul_of_nonneg_left hb2 (by omega))
      have hm2 : -(1000000000 * 16) ≤ S * b := by
        have h1 : -1000000000 * b ≤ S * b := Int.mul_le_mul_of_nonneg_right hb3.1 (by omega)
        omega
      obtain ⟨P, hP⟩ : ∃ p, S * b = p := ⟨_, rfl⟩
      rw [hP] at hm1 hm2 hfs hbn
      obtain ⟨V, hV⟩ : ∃ v, P + t = v := ⟨_, rfl⟩
      rw [hV] at hfs hbn
      have q1 : IntKind.i64.wrap (S * b) = P := by rw [hP]; exact wrapI64 (by omega)
      have q2 : IntKind.i64.wrap (P + t) = V := by rw [hV]; exact wrapI64 (by omega)
      have q3 : IntKind.i64.wrap ((i : Int) - 1) = (i : Int) - 1 := wrapI64 (by omega)
      have i0 : (0 : Int) ≤ (i : Int) := by omega
      have i1 : (i : Int) < (n : Int) := by omega
      first | subst hA | (injection hA with hA; subst hA)
      have HFS := Lib.hid hfs
      have HBV := Lib.hid (fun W => calls_val (l00In_any V (-1000000000) 1000000000 W) (congrArg Value.bool (betB_iff.2 hbn)))
      have HBT := Lib.hid (fun W => calls_val (l00In_any t (-16) 16 W) (congrArg Value.bool (betB_iff.2 hdx)))
      clear ht hP hV hS hfs hri hkx hi' hbn hdx
      go_wp2_with fail
      go_quiet (fail)
      go_wp2_with fail
      go_roundw
      case rel => exact ⟨i, _, by omega, by go_num, Lib.hid rfl, by rw [HFS.out], by first | exact HW | exact below_drewN HW _⟩
      case measure => simp [intOf] <;> omega
set_option maxRecDepth 100000 in
set_option maxHeartbeats 3200000 in
theorem l13Ok_ok (g : Nat) (b : Int) (A : Option Addr) (c : Nat) (ts : List Int) (w : World) (hg : RegB w g b A c ts) (hv : vtur b ts = true) :
    Calls Tryd.prog 80 #[.pointer (some ⟨g, 0, none⟩)] w fun e w' => e = .returned (.bool true) ∧ Below w.heap.size w w' := by
  obtain ⟨⟨hb, hb2⟩, hl, hd, hz, hf⟩ := vtur_iff.1 hv
  obtain ⟨⟨c0, c1⟩, hr⟩ := hg
  have HR := Lib.hid (fun W (hW : Below w.heap.size w W) => hr.below hW)
  have HD := Lib.hid hd
  have HO := Lib.hid (fun j => facOk_drop hf j)
  have HC0 := Lib.hid c0
  have HC1 := Lib.hid c1
  have HBB := Lib.hid (fun W => calls_val (l02Base_any b W) (congrArg Value.bool (betB_iff.2 ⟨hb, hb2⟩)))
  have hgl : g < w.heap.size := World.block_lt_of_cell? w _ c0
  clear hr hd hv hf c0 c1
  obtain ⟨n, hn⟩ : ∃ n, ts.length = n := ⟨_, rfl⟩
  have HN := Lib.hid hn
  rw [hn] at hl HC1
  have HZ := Lib.hid hz
  clear hn hz
  have q0 : IntKind.i64.wrap ((n : Int) - 1) = (n : Int) - 1 := wrapI64 (by omega)
  have l1 : ¬ (40 : Int) < (n : Int) := by omega
  have x0 := HC0.out
  have x1 := HC1.out
  rcases Nat.eq_zero_or_pos n with h0 | h0
  · have l2 : ¬ (0 : Int) < (n : Int) := by omega
    have l3 : ¬ 0 < n := by omega
    clear h0
    go_enter Tryd.func80, Tryd.ntmps80
    go_wp2_with (go_at_call 64; refine (HBB.out _).mono ?_; rintro e w' ⟨rfl, rfl⟩)
    clear l1 l2 l3 q0
    go_loopw [4, 5] (fun ss kk wr => ∃ (j : Nat) (v : Int), j ≤ n ∧ kk = .int .i64 v ∧ Hid (v = (j : Int) - 1) ∧ ss = .int .i64 (facL b (ts.drop j)) ∧ Below w.heap.size w wr) (fun _ kk _ => (intOf kk + 1).toNat)
    case atStart => exact ⟨n, (n : Int) - 1, Nat.le_refl _, rfl, Lib.hid rfl, by rw [← HN.out, List.drop_length]; rfl, Below.refl _ _⟩
    case round =>
      clear x0 x1
      obtain ⟨j, v, hj, rfl, hv, rfl, HW⟩ := hrel
      obtain ⟨S, hS⟩ : ∃ s, facL b (ts.drop j) = s := ⟨_, rfl⟩
      have hb3 := facOk_bd (HO.out j)
      rw [hS] at hb3 ⊢
      have x0 : wr.cell? ⟨g, 0, none⟩ = some (.int .i64 b) := by rw [HW.cell hgl]; exact HC0.out
      have x1 : wr.cell? ⟨g, 1, none⟩ = some (.slice A n c) := by rw [HW.cell hgl]; exact HC1.out
      cases j with
      | zero =>
        obtain rfl : v = -1 := by have := hv.out; omega
        clear hv hS
        go_wp2_with fail
        go_ret
        exact ⟨rfl, HW⟩
      | succ i =>
        obtain rfl : v = (i : Int) := by have := hv.out; omega
        clear hv
        have hi : i < n := by omega
        have hi' : i < ts.length := by rw [HN.out]; exact hi
        have hri := HR.out _ HW
        rw [HN.out] at hri
        obtain ⟨ad, hA, hlt, hkx, hcx⟩ := hri.at_ hi
        have hdx := HD.out ts[i] (List.getElem_mem hkx)
        have hfs := fac_drop b hi'
        have hbn := facOk_bd (HO.out i)
        rw [hfs, hS] at hbn
        rw [hS] at hfs
        obtain ⟨t, ht⟩ : ∃ t, ts[i] = t := ⟨_, rfl⟩
        rw [ht] at hcx hdx hfs hbn
        have hm1 : S * b ≤ 1000000000 * 16 := Int.le_trans (Int.mul_le_mul_of_nonneg_right hb3.2 (by omega)) (Int.mul_le_mul_of_nonneg_left hb2 (by omega))
        have hm2 : -(1000000000 * 16) ≤ S * b := by
          have h1 : -1000000000 * b ≤ S * b := Int.mul_le_mul_of_nonneg_right hb3.1 (by omega)
          omega
        obtain ⟨P, hP⟩ : ∃ p, S * b = p := ⟨_, rfl⟩
        rw [hP] at hm1 hm2 hfs hbn
        obtain ⟨V, hV⟩ : ∃ v, P + t = v := ⟨_, rfl⟩
        rw [hV] at hfs hbn
        have q1 : IntKind.i64.wrap (S * b) = P := by rw [hP]; exact wrapI64 (by omega)
        have q2 : IntKind.i64.wrap (P + t) = V := by rw [hV]; exact wrapI64 (by omega)
        have q3 : IntKind.i64.wrap ((i : Int) - 1) = (i : Int) - 1 := wrapI64 (by omega)
        have i0 : (0 : Int) ≤ (i : Int) := by omega
        have i1 : (i : Int) < (n : Int) := by omega
        first | subst hA | (injection hA with hA; subst hA)
        have HFS := Lib.hid hfs
        have HBV := Lib.hid (fun W => calls_val (l00In_any V (-1000000000) 1000000000 W) (congrArg Value.bool (betB_iff.2 hbn)))
        have HBT := Lib.hid (fun W => calls_val (l00In_any t (-16) 16 W) (congrArg Value.bool (betB_iff.2 hdx)))
        clear ht hP hV hS hfs hri hkx hi' hbn hdx
        go_wp2_with (go_at_call 68; refine (HBT.out _).mono ?_; rintro e w' ⟨rfl, rfl⟩)
        go_quiet (fail)
        go_wp2_with (go_at_call 68; refine (HBV.out _).mono ?_; rintro e w' ⟨rfl, rfl⟩)
        go_roundw
        case rel => exact ⟨i, _, by omega, by go_num, Lib.hid rfl, by rw [HFS.out], by first | exact HW | exact below_drewN HW _⟩
        case measure => simp [intOf] <;> omega
  · obtain ⟨m, hm⟩ : ∃ m, n = m + 1 := ⟨n - 1, by omega⟩
    have l2 : (0 : Int) < (n : Int) := by omega
    have l3 : 0 < n := by omega
    have q4 : (n : Int) - 1 = (m : Int) := by omega
    have q5 : IntKind.i64.wrap ((m : Int)) = (m : Int) := wrapI64 (by omega)
    have i0 : (0 : Int) ≤ (m : Int) := by omega
    have i2 : (m : Int) < (n : Int) := by omega
    have hri := HR.out _ (Below.refl _ _)
    rw [HN.out] at hri
    obtain ⟨adA, hA, hlt, hkx, hcx⟩ := hri.at_ (show m < n by omega)
    have hz : (ts[m] == 0) = false := by
      have h := HZ.out
      unfold lastZ at h
      rw [HN.out, hm, Nat.add_sub_cancel, decide_eq_true (show 0 < m + 1 by omega), Bool.true_and, getD_of hkx] at h
      exact h
    obtain ⟨t, ht⟩ : ∃ t, ts[m] = t := ⟨_, rfl⟩
    rw [ht] at hcx hz
    have HM := Lib.hid hm
    have q6 : IntKind.i64.wrap ((n : Int) - 1) = (m : Int) := by rw [q4]; exact q5
    subst hA
    clear ht hkx hri hm h0 q0 q4 q5
    go_enter Tryd.func80, Tryd.ntmps80
    go_wp2_with (go_at_call 64; refine (HBB.out _).mono ?_; rintro e w' ⟨rfl, rfl⟩)
    clear l1 l2 l3 i0 i2 hz hcx q6
    go_loopw [4, 5] (fun ss kk wr => ∃ (j : Nat) (v : Int), j ≤ n ∧ kk = .int .i64 v ∧ Hid (v = (j : Int) - 1) ∧ ss = .int .i64 (facL b (ts.drop j)) ∧ Below w.heap.size w wr) (fun _ kk _ => (intOf kk + 1).toNat)
    case atStart => exact ⟨n, (m : Int), Nat.le_refl _, rfl, Lib.hid (by have := HM.out; omega), by rw [← HN.out, List.drop_length]; rfl, Below.refl _ _⟩
    case round =>
      clear x0 x1
      obtain ⟨j, v, hj, rfl, hv, rfl, HW⟩ := hrel
      obtain ⟨S, hS⟩ : ∃ s, facL b (ts.drop j) = s := ⟨_, rfl⟩
      have hb3 := facOk_bd (HO.out j)
      rw [hS] at hb3 ⊢
      have x0 : wr.cell? ⟨g, 0, none⟩ = some (.int .i64 b) := by rw [HW.cell hgl]; exact HC0.out
      have x1 : wr.cell? ⟨g, 1, none⟩ = some (.slice (some adA) n c) := by rw [HW.cell hgl]; exact HC1.out
      cases j with
      | zero =>
        obtain rfl : v = -1 := by have := hv.out; omega
        clear hv hS
        go_wp2_with fail
        go_ret
        exact ⟨rfl, HW⟩
      | succ i =>
        obtain rfl : v = (i : Int) := by have := hv.out; omega
        clear hv
        have hi : i < n := by omega
        have hi' : i < ts.length := by rw [HN.out]; exact hi
        have hri := HR.out _ HW
        rw [HN.out] at hri
        obtain ⟨ad, hA, hlt, hkx, hcx⟩ := hri.at_ hi
        have hdx := HD.out ts[i] (List.getElem_mem hkx)
        have hfs := fac_drop b hi'
        have hbn := facOk_bd (HO.out i)
        rw [hfs, hS] at hbn
        rw [hS] at hfs
        obtain ⟨t, ht⟩ : ∃ t, ts[i] = t := ⟨_, rfl⟩
        rw [ht] at hcx hdx hfs hbn
        have hm1 : S * b ≤ 1000000000 * 16 := Int.le_trans (Int.mul_le_mul_of_nonneg_right hb3.2 (by omega)) (Int.mul_le_mul_of_nonneg_left hb2 (by omega))
        have hm2 : -(1000000000 * 16) ≤ S * b := by
          have h1 : -1000000000 * b ≤ S * b := Int.mul_le_mul_of_nonneg_right hb3.1 (by omega)
          omega
        obtain ⟨P, hP⟩ : ∃ p, S * b = p := ⟨_, rfl⟩
        rw [hP] at hm1 hm2 hfs hbn
        obtain ⟨V, hV⟩ : ∃ v, P + t = v := ⟨_, rfl⟩
        rw [hV] at hfs hbn
        have q1 : IntKind.i64.wrap (S * b) = P := by rw [hP]; exact wrapI64 (by omega)
        have q2 : IntKind.i64.wrap (P + t) = V := by rw [hV]; exact wrapI64 (by omega)
        have q3 : IntKind.i64.wrap ((i : Int) - 1) = (i : Int) - 1 := wrapI64 (by omega)
        have i0 : (0 : Int) ≤ (i : Int) := by omega
        have i1 : (i : Int) < (n : Int) := by omega
        first | subst hA | (injection hA with hA; subst hA)
        have HFS := Lib.hid hfs
        have HBV := Lib.hid (fun W => calls_val (l00In_any V (-1000000000) 1000000000 W) (congrArg Value.bool (betB_iff.2 hbn)))
        have HBT := Lib.hid (fun W => calls_val (l00In_any t (-16) 16 W) (congrArg Value.bool (betB_iff.2 hdx)))
        clear ht hP hV hS hfs hri hkx hi' hbn hdx
        go_wp2_with (go_at_call 68; refine (HBT.out _).mono ?_; rintro e w' ⟨rfl, rfl⟩)
        go_quiet (fail)
        go_wp2_with (go_at_call 68; refine (HBV.out _).mono ?_; rintro e w' ⟨rfl, rfl⟩)
        go_roundw
        case rel => exact ⟨i, _, by omega, by go_num, Lib.hid rfl, by rw [HFS.out], by first | exact HW | exact below_drewN HW _⟩
        case measure => simp [intOf] <;> omega
set_option maxRecDepth 100000 in
theorem specFactorOf_ok (b : Int) (A : Option Addr) (c : Nat) (ts : List Int) (w : World) (hr : RI w A ts.length ts) (hv : vtur b ts = true) :
    Calls Tryd.prog 19 #[.agg #[.int .i64 b, .slice A ts.length c]] w fun e w' => e = .returned (.tuple #[.int .i64 (facL b ts), .int .i64 0]) ∧ Below w.heap.size w w' := by
  obtain ⟨F, hF⟩ : ∃ F, facL b ts = F := ⟨_, rfl⟩
  have KV := Lib.hid (fun g W (h : RegB W g b A c ts) => l13Ok_ok g b A c ts W h hv)
  have KF := (fun g W (h : RegB W g b A c ts) => l13Factor_ok g b A c ts W h hv)
  rw [hF] at KF ⊢
  replace KF := Lib.hid KF
  clear hF hv
  have HR := Lib.hid (fun W (hW : Below w.heap.size w W) => hr.below hW)
  clear hr
  obtain ⟨g, hg⟩ : ∃ g, w.heap.size = g := ⟨_, rfl⟩
  have K0 := (Kn.nil w).al [.int .i64 b, .slice A ts.length c] 27
  rw [hg] at K0
  have HRX := Lib.hid (fun W (K : Kn w [.blk g [.int .i64 b, .slice A ts.length c] 27] W) => (show RegB W g b A c ts from ⟨box2 K, HR.out _ K.below⟩))
  obtain ⟨n, hn⟩ : ∃ n, ts.length = n := ⟨_, rfl⟩
  rw [hn] at K0 HRX ⊢
  clear hn
  go_enter Tryd.func19, Tryd.ntmps19
  go_upto_region 1 with fail
  try rw [hg]
  refine Code.wp.kn K0 ?_; clear K0 hg; intro w1 K1
  go_wp2_with (first
    | (go_at_call 80; (refine (KV.out _ _ (HRX.out _ K1)).mono ?_); rintro e w2 ⟨rfl, hw⟩; have K2 := K1.keep hw; clear hw)
    | (go_at_call 81; (refine (KF.out _ _ (HRX.out _ K2)).mono ?_); rintro e w3 ⟨rfl, hw⟩; have K3 := K2.keep hw; clear hw))
  go_ret2
  exact ⟨rfl, K3.below⟩
end Go.Proofs.YtlhcilmnfmglfaaDoor

namespace Go.Proofs.YtlhcilmnfmglfaaDoor
open Go.RowKit Go.Sort
/-! the short way of multiplying does not need more turns -/
def cntL : List Int → Int
  | [] => 0
  | d :: ts => (if 0 ≤ d then d else -d) + cntL ts
theorem fb_ge : ∀ g : Nat, (g : Int) ≤ fb g
  | 0 => by decide
  | 1 => by decide
  | 2 => by decide
  | g + 3 => by
    have h1 := fb_ge (g + 2)
    have h2 : fb (g + 3) = 2 * fb (g + 2) - 1 := rfl
    have h3 := fb_pos g
    omega
theorem turnF_fuel {sh : Bool} {b : Int} (hb : 2 ≤ b) : ∀ (g g' : Nat) (n : Int), n ≤ fb g → n ≤ fb g' → turnF sh b g n = turnF sh b g' n
  | 0, g', n, h, _ => by
    have h0 : n ≤ 0 := h
    rw [turnF_zero (by omega), turnF_zero (by omega)]
  | g + 1, 0, n, _, h => by
    have h0 : n ≤ 0 := h
    rw [turnF_zero (by omega), turnF_zero (by omega)]
  | g + 1, g' + 1, n, h, h' => by
    by_cases hn : 0 < n
    · rw [turnF_succ hn, turnF_succ hn, turnF_fuel hb g g' _ (turn_step hb hn h).2.2 (turn_step hb hn h').2.2]
    · rw [turnF_zero hn, turnF_zero hn]
/-- how many turns a factor needs -/
def cntK (sh : Bool) (b n : Int) : Int := cntL (turnF sh b n.toNat n)
theorem cntK_zero (sh : Bool) (b : Int) : cntK sh b 0 = 0 := rfl
theorem cntK_of {sh : Bool} {b : Int} (hb : 2 ≤ b) {g : Nat} {n : Int} (h : n ≤ fb g) : cntL (turnF sh b g n) = cntK sh b n := by
  unfold cntK
  rw [turnF_fuel hb g n.toNat n h (by have := fb_ge n.toNat; omega)]
theorem cntK_step {sh : Bool} {b n : Int} (hb : 2 ≤ b) (h : 0 < n) : cntK sh b n = (if 0 ≤ turnD sh b n then turnD sh b n else -turnD sh b n) + cntK sh b (turnN sh b n) := by
  obtain ⟨m, hm⟩ : ∃ m : Nat, n.toNat = m + 1 := ⟨n.toNat - 1, by omega⟩
  have hg : n ≤ fb (m + 1) := by have := fb_ge (m + 1); omega
  have hs := turn_step (sh := sh) hb h hg
  unfold cntK
  rw [hm, turnF_succ h, cntL]
  congr 1
  exact cntK_of hb hs.2.2
theorem cntK_plain {b n q r : Int} (hb : 2 ≤ b) (hq : 0 ≤ q) (hr : 0 ≤ r) (hr2 : r < b) (hn : n = b * q + r) : cntK false b n = r + cntK false b q := by
  have hbq : 0 ≤ b * q := Int.mul_nonneg (by omega) hq
  obtain ⟨e1, e2⟩ := (Int.ediv_emod_unique (show 0 < b by omega)).2 ⟨show r + b * q = n by omega, hr, hr2⟩
  by_cases h : 0 < n
  · rw [cntK_step hb h]
    have d1 : turnD false b n = r := by unfold turnD; rw [if_neg (by simp), Int.tmod_eq_emod_of_nonneg (by omega), e2]
    have d2 : turnN false b n = q := by unfold turnN; rw [if_neg (by simp), Int.tdiv_eq_ediv_of_nonneg (by omega), e1]
    rw [d1, d2, if_pos hr]
  · have hn0 : n = 0 := by omega
    have hr0 : r = 0 := by omega
    have hq0 : q = 0 := by
      rcases Int.lt_or_le 0 q with h2 | h2
      · have : b * 1 ≤ b * q := Int.mul_le_mul_of_nonneg_left (by omega) (by omega)
        omega
      · omega
    rw [hn0, hr0, hq0, cntK_zero]; rfl
/-- the turns of the short way -/
theorem cntK_short {b n q r s : Int} (hb : 2 ≤ b) (hq : 0 ≤ q) (hr : 0 ≤ r) (hr2 : r < b) (hn : n = b * q + r) (hs : q % b = s) :
    ((2 * r < b ∨ (2 * r = b ∧ 2 * s < b - 1)) ∧ cntK true b n = r + cntK true b q) ∨ ((b < 2 * r ∨ (2 * r = b ∧ b - 1 ≤ 2 * s)) ∧ cntK true b n = (b - r) + cntK true b (q + 1)) := by
  have hbq : 0 ≤ b * q := Int.mul_nonneg (by omega) hq
  obtain ⟨e1, e2⟩ := (Int.ediv_emod_unique (show 0 < b by omega)).2 ⟨show r + b * q = n by omega, hr, hr2⟩
  have m1 : n.tmod b = r := by rw [Int.tmod_eq_emod_of_nonneg (by omega), e2]
  have m2 : n.tdiv b = q := by rw [Int.tdiv_eq_ediv_of_nonneg (by omega), e1]
  have m3 : q.tmod b = s := by rw [Int.tmod_eq_emod_of_nonneg hq, hs]
  have hf : fewC b n = (decide (2 * r < b) || (decide (2 * r = b) && decide (2 * s < b - 1))) := by unfold fewC; rw [m2, m1, m3]
  by_cases hc : 2 * r < b ∨ (2 * r = b ∧ 2 * s < b - 1)
  · refine .inl ⟨hc, ?_⟩
    have hft : fewC b n = true := by rw [hf]; simpa using hc
    by_cases h : 0 < n
    · rw [cntK_step hb h]
      have d1 : turnD true b n = r := by unfold turnD; rw [if_neg (by rw [hft]; simp), m1]
      have d2 : turnN true b n = q := by unfold turnN; rw [if_neg (by rw [hft]; simp), m2]
      rw [d1, d2, if_pos hr]
    · have hn0 : n = 0 := by omega
      have hr0 : r = 0 := by omega
      have hq0 : q = 0 := by
        rcases Int.lt_or_le 0 q with h2 | h2
        · have : b * 1 ≤ b * q := Int.mul_le_mul_of_nonneg_left (by omega) (by omega)
          omega
        · omega
      rw [hn0, hr0, hq0, cntK_zero]; rfl
  · refine .inr ⟨by omega, ?_⟩
    have hft : fewC b n = false := by
      rw [hf]
      simp only [Bool.or_eq_false_iff, Bool.and_eq_false_iff, decide_eq_false_iff_not]
      omega
    have h : 0 < n := by omega
    rw [cntK_step hb h]
    have d1 : turnD true b n = r - b := by unfold turnD; rw [if_pos ⟨rfl, hft⟩, m1]
    have d2 : turnN true b n = q + 1 := by unfold turnN; rw [if_pos ⟨rfl, hft⟩, m2]
    rw [d1, d2, if_neg (by omega)]
    omega
theorem split_b {b : Int} (hb : 2 ≤ b) (m : Nat) : ∃ (q : Nat) (r : Int), 0 ≤ r ∧ r < b ∧ (m : Int) = b * q + r ∧ (0 < m → q < m) ∧ ((m : Int) % b = r) := by
  have h0 : 0 ≤ (m : Int) / b := Int.ediv_nonneg (by omega) (by omega)
  have h1 := Int.emod_nonneg (m : Int) (show b ≠ 0 by omega)
  have h2 := Int.emod_lt_of_pos (m : Int) (show 0 < b by omega)
  have h3 := Int.mul_ediv_add_emod (m : Int) b
  refine ⟨((m : Int) / b).toNat, (m : Int) % b, h1, h2, ?_, fun hm => ?_, rfl⟩
  · rw [Int.toNat_of_nonneg h0]; omega
  · have h4 : 2 * ((m : Int) / b) ≤ b * ((m : Int) / b) := Int.mul_le_mul_of_nonneg_right hb h0
    omega
/-- one more needs one turn more at most -/
theorem cnt_near {b : Int} (hb : 2 ≤ b) (m : Nat) : cntK true b ((m : Int) + 1) ≤ cntK true b m + 1 ∧ (b ≤ 2 * ((m : Int) % b) → cntK true b ((m : Int) + 1) ≤ cntK true b m) := by
  induction m using Nat.strongRecOn with
  | _ m ih =>
    obtain ⟨q, r, r0, r1, hm, hqm, hmod⟩ := split_b hb m
    obtain ⟨s, hs⟩ : ∃ s, (q : Int) % b = s := ⟨_, rfl⟩
    rw [hmod]
    have hA := cntK_short hb (show (0 : Int) ≤ q by omega) r0 r1 hm hs
    have hQ : (cntK true b ((q : Int) + 1) ≤ cntK true b q + 1 ∧ (b ≤ 2 * s → cntK true b ((q : Int) + 1) ≤ cntK true b q)) ∨ (m = 0 ∧ q = 0 ∧ r = 0) := by
      rcases Nat.eq_zero_or_pos m with h0 | h0
      · right
        have hq0 : (q : Int) = 0 := by
          rcases Int.lt_or_le 0 (q : Int) with h2 | h2
          · have : b * 1 ≤ b * (q : Int) := Int.mul_le_mul_of_nonneg_left (by omega) (by omega)
            omega
          · omega
        rw [hq0] at hm
        omega
      · left
        have := ih q (hqm h0)
        rw [hs] at this
        exact this
    by_cases hr : r + 1 < b
    · have hB := cntK_short hb (show (0 : Int) ≤ q by omega) (show 0 ≤ r + 1 by omega) hr (show (m : Int) + 1 = b * q + (r + 1) by omega) hs
      rcases hQ with ⟨hQ1, hQ2⟩ | ⟨rfl, rfl, rfl⟩
      · rcases hA with ⟨a1, a2⟩ | ⟨a1, a2⟩
        · rcases hB with ⟨b1, b2⟩ | ⟨b1, b2⟩
          · refine ⟨by omega, fun hh => ?_⟩
            omega
          · refine ⟨?_, fun hh => ?_⟩
            · rcases b1 with b1 | ⟨b1, b3⟩
              · omega
              · have := hQ2 (by omega)
                omega
            · omega
        · rcases hB with ⟨b1, b2⟩ | ⟨b1, b2⟩
          · omega
          · omega
      · rcases hB with ⟨b1, b2⟩ | ⟨b1, b2⟩
        · have e0 : cntK true b ((0 : Nat) : Int) = 0 := cntK_zero true b
          omega
        · have hs0 : s = 0 := by rw [← hs]; simp
          omega
    · have hrb : r + 1 = b := by omega
      have e1 : (m : Int) + 1 = b * ((q : Int) + 1) + 0 := by rw [Int.mul_add]; omega
      have hB := cntK_short hb (show (0 : Int) ≤ (q : Int) + 1 by omega) (Int.le_refl 0) (by omega) e1 rfl
      rcases hQ with ⟨hQ1, hQ2⟩ | ⟨rfl, rfl, rfl⟩
      · rcases hA with ⟨a1, a2⟩ | ⟨a1, a2⟩
        · rcases hB with ⟨b1, b2⟩ | ⟨b1, b2⟩
          · refine ⟨by omega, fun hh => by omega⟩
          · omega
        · rcases hB with ⟨b1, b2⟩ | ⟨b1, b2⟩
          · refine ⟨by omega, fun hh => by omega⟩
          · omega
      · omega
theorem cnt_less {b : Int} (hb : 2 ≤ b) (m : Nat) : cntK true b m ≤ cntK false b m := by
  induction m using Nat.strongRecOn with
  | _ m ih =>
    obtain ⟨q, r, r0, r1, hm, hqm, hmod⟩ := split_b hb m
    obtain ⟨s, hs⟩ : ∃ s, (q : Int) % b = s := ⟨_, rfl⟩
    have hA := cntK_short hb (show (0 : Int) ≤ q by omega) r0 r1 hm hs
    have hF := cntK_plain hb (show (0 : Int) ≤ q by omega) r0 r1 hm
    have hN := cnt_near hb q
    rw [hs] at hN
    rcases Nat.eq_zero_or_pos m with h0 | h0
    · subst h0; exact Int.le_refl 0
    · have hi := ih q (hqm h0)
      rcases hA with ⟨a1, a2⟩ | ⟨a1, a2⟩
      · omega
      · rcases a1 with a1 | ⟨a1, a3⟩
        · omega
        · have := hN.2 (by omega)
          omega
theorem cntL_less {b f : Int} (hb : 2 ≤ b) (h0 : 0 ≤ f) (h1 : f ≤ 62500000) : cntL (turnL true b f) ≤ cntL (turnL false b f) := by
  have hg : f ≤ fb 30 := Int.le_trans h1 (by decide)
  unfold turnL
  rw [cntK_of hb hg, cntK_of hb hg]
  obtain ⟨m, rfl⟩ := Int.eq_ofNat_of_zero_le h0
  exact cnt_less hb m
end Go.Proofs.YtlhcilmnfmglfaaDoor

namespace Go.Proofs.YtlhcilmnfmglfaaDoor
open Go.RowKit Go.Sort
def absI (d : Int) : Int := if 0 ≤ d then d else -d
theorem absolute_any (d : Int) (w : World) (h : -1000000 ≤ d ∧ d ≤ 1000000) : Calls Tryd.prog 63 #[.int .i64 d] w fun e w' => e = .returned (.int .i64 (absI d)) ∧ w = w' := by
  by_cases hd : d < 0
  · have e1 : absI d = -d := by unfold absI; rw [if_neg (by omega)]
    have hw : IntKind.i64.wrap (-d) = -d := wrapI64 (by omega)
    rw [e1]
    clear e1
    go_enter Tryd.func63, Tryd.ntmps63
    go_wp2
    go_ret
    exact ⟨rfl, rfl⟩
  · have e1 : absI d = d := by unfold absI; rw [if_pos (by omega)]
    rw [e1]
    clear e1
    go_enter Tryd.func63, Tryd.ntmps63
    go_wp2
    go_ret
    exact ⟨rfl, rfl⟩
theorem cntL_take {ts : List Int} {k : Nat} (h : k < ts.length) : cntL (ts.take (k + 1)) = cntL (ts.take k) + absI ts[k] := by
  have : ∀ xs ys : List Int, cntL (xs ++ ys) = cntL xs + cntL ys := by
    intro xs ys
    induction xs with
    | nil => simp [cntL]
    | cons x xs ih => rw [List.cons_append, cntL, cntL, ih]; omega
  rw [List.take_succ_eq_append_getElem h, this]
  simp [cntL, absI]
theorem cntL_bd {ts : List Int} (hd : ∀ d ∈ ts, -16 ≤ d ∧ d ≤ 16) : 0 ≤ cntL ts ∧ cntL ts ≤ 16 * ts.length := by
  induction ts with
  | nil => simp [cntL]
  | cons x xs ih =>
    have h1 := hd x (List.mem_cons_self ..)
    have h2 := ih (fun d hd' => hd d (List.mem_cons_of_mem _ hd'))
    rw [cntL, List.length_cons]
    split <;> omega
end Go.Proofs.YtlhcilmnfmglfaaDoor

namespace Go.Proofs.YtlhcilmnfmglfaaDoor
open Go.RowKit Go.Sort
theorem digStr_abs (d : Int) : digStr d = List.replicate (absI d).toNat (if d < 0 then 2 else 1) := by
  unfold digStr absI
  split <;> split <;> first | omega | (congr 1; omega)
theorem absI_bd {d : Int} (h : -16 ≤ d ∧ d ≤ 16) : 0 ≤ absI d ∧ absI d ≤ 16 := by
  unfold absI; split <;> omega
set_option maxRecDepth 100000 in
set_option maxHeartbeats 3200000 in
theorem StrokesOf_ok (b : Int) (A : Option Addr) (c : Nat) (ts : List Int) (w : World) (hr : RI w A ts.length ts) (hv : vtur b ts = true) (hs : (strOf ts).length ≤ 300) (hn0 : 0 < ts.length) :
    Calls Tryd.prog 11 #[.agg #[.int .i64 b, .slice A ts.length c]] w fun e w' => ∃ E ec, e = .returned (.tuple #[.slice E (strOf ts).length ec, .int .i64 0]) ∧ Kn w [rowI E ec (strOf ts)] w' := by
  obtain ⟨⟨hb, hb2⟩, hl, hd, -, -⟩ := vtur_iff.1 hv
  have KV := Lib.hid (fun W (hW : Below w.heap.size w W) => calls_val (ValidTurns_any b A c ts W (hr.below hW) hb hb2 hl) (congrArg Value.bool hv))
  have HD := Lib.hid hd
  have HR := Lib.hid (fun W (hW : Below w.heap.size w W) => hr.below hW)
  obtain ⟨ad, hA, -, -, -⟩ := hr.at_ hn0
  obtain ⟨S, hS⟩ : ∃ s, strOf ts = s := ⟨_, rfl⟩
  obtain ⟨N, hN⟩ : ∃ s, S.length = s := ⟨_, rfl⟩
  rw [hS, hN] at hs
  rw [hS, hN]
  have HS := Lib.hid hS
  have HSN := Lib.hid hN
  subst hA
  clear hS hd hv hr hN
  obtain ⟨g, hg⟩ : ∃ g, w.heap.size = g := ⟨_, rfl⟩
  have K0 := (Kn.nil w).al [.int .i64 b, .slice (some ad) ts.length c] 27
  rw [hg] at K0
  obtain ⟨n, hn⟩ : ∃ n, ts.length = n := ⟨_, rfl⟩
  have HN := Lib.hid hn
  rw [hn] at K0 KV HR hl hn0 ⊢
  clear hn
  obtain ⟨m, hm⟩ : ∃ m, n = m + 1 := ⟨n - 1, by omega⟩
  have q4 : IntKind.i64.wrap ((n : Int) - 1) = (m : Int) := by rw [wrapI64 (by omega)]; omega
  have hmb : m ≤ 40 := by omega
  have HM := Lib.hid hm
  clear hm
  go_enter Tryd.func11, Tryd.ntmps11
  go_upto_region 1 with fail
  try rw [hg]
  refine Code.wp.kn K0 ?_; clear K0 hg; intro w1 K1
  obtain ⟨a1, a2, a3, -⟩ := K1.cells
  go_upto_region 4 with (go_at_call 62; (refine (KV.out _ K1.below).mono ?_); rintro e w2 ⟨rfl, hw⟩; have K2 := K1.keep hw; clear hw a1 a2 a3; obtain ⟨a1, a2, a3, -⟩ := K2.cells)
  refine Code.wp.kn ((K2.al [] 2).litRow (size := 1) (n := 0) rfl (by decide)) ?_; clear a1 a2 a3 K1 K2; intro w3 K3
  obtain ⟨a1, a2, a3, -⟩ := (K3.front 1 rfl).cells
  go_wp2_with fail
  clear a1 a2 a3
  clear q4
  go_loopw [4, 15] (fun ll kk wr => ∃ (k : Nat) (vv : Value), k ≤ m ∧ kk = .int .i64 (k : Int) ∧ ll = vv ∧ Kn w [.row vv 2 1 (List.replicate k (3 : Int)).length ((List.replicate k (3 : Int)).map (Value.int .i64)), .blk g [.int .i64 b, .slice (some ad) n c] 27] wr) (fun _ kk _ => m - (intOf kk).toNat)
  case atStart => exact ⟨0, _, Nat.zero_le _, rfl, rfl, K3⟩
  case round =>
    clear K3
    obtain ⟨k, vv, hk, rfl, rfl, KR⟩ := hrel
    by_cases hkm : k < m
    · have i1 : (k : Int) < (m : Int) := by omega
      have HL := Lib.hid (show (List.replicate k (3 : Int)).length ≤ 10000000 by rw [List.length_replicate]; have := HM.out; omega)
      obtain ⟨L, hL⟩ : ∃ L, List.replicate k (3 : Int) = L := ⟨_, rfl⟩
      have hL2 : List.replicate (k + 1) (3 : Int) = L ++ [3] := by rw [List.replicate_succ', hL]
      have HL2 := Lib.hid hL2
      rw [hL] at KR HL
      clear hL hL2
      go_wp2_with (at_builtin; refine kn_pushI rfl _ _ rfl _ L rfl rfl (KR.al [.int .i64 3] 2) HL.out ?_; intro v' w' K10)
      go_roundw
      case rel => exact ⟨k + 1, _, by omega, by go_num, rfl, by rw [HL2.out]; exact K10⟩
      case measure => simp [intOf] <;> omega
    · have i1 : ¬ (k : Int) < (m : Int) := by omega
      obtain rfl : k = m := by omega
      obtain ⟨L, hL⟩ : ∃ L, List.replicate k (3 : Int) = L := ⟨_, rfl⟩
      have HI := Lib.hid (show L ++ strBody ts n = S by rw [← HS.out, strOf, HN.out, ← hL, HM.out, Nat.add_sub_cancel])
      rw [hL] at KR
      clear hL
      have q4 : IntKind.i64.wrap ((n : Int) - 1) = (k : Int) := by have := HM.out; rw [wrapI64 (by omega)]; omega
      obtain ⟨wo, hwo⟩ : ∃ wo : World, wo = wr := ⟨_, rfl⟩
      subst hwo
      obtain ⟨a1, a2, a3, -⟩ := (KR.front 1 rfl).cells
      go_wp2_with fail
      clear a1 a2 a3 q4
      go_loopw [4, 5] (fun ll kk wr => ∃ (j : Nat) (v : Int) (vv : Value) (L : List Int), j ≤ n ∧ kk = .int .i64 v ∧ Hid (v = (j : Int) - 1) ∧ ll = vv ∧ Hid (L ++ strBody ts j = S) ∧ Kn w [.row vv 2 1 L.length (L.map (Value.int .i64)), .blk g [.int .i64 b, .slice (some ad) n c] 27] wr) (fun _ kk _ => (intOf kk + 1).toNat)
      case atStart => exact ⟨n, (k : Int), _, L, Nat.le_refl _, rfl, Lib.hid (by have := HM.out; omega), rfl, HI, KR⟩
      case round =>
        clear KR HI hk i1 HM hmb
        obtain ⟨j, v, vv, L, hj, rfl, hv, rfl, HI, KR⟩ := hrel
        have HLN := Lib.hid (show L.length + (strBody ts j).length = N by rw [← HSN.out, ← HI.out, List.length_append])
        cases j with
        | zero =>
          obtain rfl : v = -1 := by have := hv.out; omega
          have hLS : L = S := by have h := HI.out; rw [strBody, List.append_nil] at h; exact h
          subst hLS
          clear hv HI HLN
          obtain ⟨E, ec, rfl⟩ := row_form KR.at0
          rw [HSN.out] at KR
          try rw [HSN.out]
          have l1 : ¬ (300 : Int) < (N : Int) := by omega
          have l2 : ¬ 300 < N := by omega
          go_wp2_with fail
          go_ret2
          refine ⟨E, ec, rfl, ?_⟩
          unfold rowI
          rw [HSN.out]
          exact KR.sel [0] 99 (by decide) (by decide)
        | succ i =>
          obtain rfl : v = (i : Int) := by have := hv.out; omega
          clear hv
          have hi : i < n := by omega
          obtain ⟨ad2, hA2, hlt, hkx, hcx⟩ := (HR.out _ KR.below).at_ hi
          injection hA2 with hA2
          subst hA2
          have hdx := HD.out ts[i] (List.getElem_mem hkx)
          have hib := HI.out
          rw [strBody, getD_of hkx, digStr_abs] at hib
          obtain ⟨t, ht⟩ : ∃ t, ts[i] = t := ⟨_, rfl⟩
          rw [ht] at hcx hdx hib
          have KA := Lib.hid (fun W => absolute_any t W (by omega))
          obtain ⟨h0, h16⟩ := absI_bd hdx
          obtain ⟨q, hq⟩ : ∃ q : Nat, absI t = q := ⟨(absI t).toNat, by omega⟩
          rw [hq] at hib KA h0 h16
          rw [Int.toNat_natCast] at hib
          have HI2 := Lib.hid hib
          have i0 : (0 : Int) ≤ (i : Int) := by omega
          have i1 : (i : Int) < (n : Int) := by omega
          clear hq hib hkx ht HI
          obtain ⟨a1, a2, a3, -⟩ := (KR.front 1 rfl).cells
          by_cases ht0 : t < 0
          · rw [if_pos ht0] at HI2
            obtain ⟨wo2, hwo2⟩ : ∃ wo : World, wo = wr := ⟨_, rfl⟩
            subst hwo2
            go_wp2_with (go_at_call 63; refine (KA.out _).mono ?_; rintro e w' ⟨rfl, rfl⟩)
            clear a1 a2 a3
            go_loopw [4, 41] (fun ll kk wr => ∃ (k : Nat) (vv : Value), k ≤ q ∧ kk = .int .i64 (k : Int) ∧ ll = vv ∧ Kn w [.row vv 2 1 (L ++ List.replicate k (2 : Int)).length ((L ++ List.replicate k (2 : Int)).map (Value.int .i64)), .blk g [.int .i64 b, .slice (some ad) n c] 27] wr) (fun _ kk _ => q - (intOf kk).toNat)
            case atStart => exact ⟨0, _, Nat.zero_le _, rfl, rfl, by rw [List.replicate_zero, List.append_nil]; exact KR⟩
            case round =>
              clear KR
              obtain ⟨k, vv, hk, rfl, rfl, KR⟩ := hrel
              by_cases hkm : k < q
              · have i1 : (k : Int) < (q : Int) := by omega
                have HL := Lib.hid (show (L ++ List.replicate k (2 : Int)).length ≤ 10000000 by rw [List.length_append, List.length_replicate]; have := HLN.out; omega)
                obtain ⟨M, hM⟩ : ∃ M, L ++ List.replicate k (2 : Int) = M := ⟨_, rfl⟩
                have hM2 : L ++ List.replicate (k + 1) (2 : Int) = M ++ [2] := by rw [List.replicate_succ', ← List.append_assoc, hM]
                have HM2 := Lib.hid hM2
                rw [hM] at KR HL
                clear hM hM2
                go_wp2_with (at_builtin; refine kn_pushI rfl _ _ rfl _ M rfl rfl (KR.al [.int .i64 2] 2) HL.out ?_; intro v' w' K10)
                go_roundw
                case rel => exact ⟨k + 1, _, by omega, by go_num, rfl, by rw [HM2.out]; exact K10⟩
                case measure => simp [intOf] <;> omega
              · have i1 : ¬ (k : Int) < (q : Int) := by omega
                obtain rfl : k = q := by omega
                have HIk := HI2.out
                have HL := Lib.hid (show (L ++ List.replicate k (2 : Int)).length ≤ 10000000 by rw [List.length_append, List.length_replicate]; have := HLN.out; omega)
                obtain ⟨M, hM⟩ : ∃ M, L ++ List.replicate k (2 : Int) = M := ⟨_, rfl⟩
                rw [← List.append_assoc, hM] at HIk
                rw [hM] at KR HL
                have q3 : IntKind.i64.wrap ((i : Int) - 1) = (i : Int) - 1 := wrapI64 (by omega)
                clear hM
                by_cases hi0 : 0 < i
                · have j1 : (0 : Int) < (i : Int) := by omega
                  rw [if_pos hi0, ← List.append_assoc] at HIk
                  have HI3 := Lib.hid HIk
                  clear HIk
                  go_wp2_with (at_builtin; refine kn_pushI rfl _ _ rfl _ M rfl rfl (KR.al [.int .i64 4] 2) HL.out ?_; intro v' w' K10)
                  go_roundw
                  case rel => exact ⟨i, _, _, M ++ [4], by omega, by go_num, Lib.hid rfl, rfl, HI3, K10⟩
                  case measure => simp [intOf] <;> omega
                · have j1 : ¬ (0 : Int) < (i : Int) := by omega
                  rw [if_neg hi0, List.nil_append] at HIk
                  have HI3 := Lib.hid HIk
                  clear HIk
                  go_wp2_with fail
                  go_roundw
                  case rel => exact ⟨i, _, _, M, by omega, by go_num, Lib.hid rfl, rfl, HI3, KR⟩
                  case measure => simp [intOf] <;> omega
          · rw [if_neg ht0] at HI2
            obtain ⟨wo2, hwo2⟩ : ∃ wo : World, wo = wr := ⟨_, rfl⟩
            subst hwo2
            go_wp2_with (go_at_call 63; refine (KA.out _).mono ?_; rintro e w' ⟨rfl, rfl⟩)
            clear a1 a2 a3
            go_loopw [4, 41] (fun ll kk wr => ∃ (k : Nat) (vv : Value), k ≤ q ∧ kk = .int .i64 (k : Int) ∧ ll = vv ∧ Kn w [.row vv 2 1 (L ++ List.replicate k (1 : Int)).length ((L ++ List.replicate k (1 : Int)).map (Value.int .i64)), .blk g [.int .i64 b, .slice (some ad) n c] 27] wr) (fun _ kk _ => q - (intOf kk).toNat)
            case atStart => exact ⟨0, _, Nat.zero_le _, rfl, rfl, by rw [List.replicate_zero, List.append_nil]; exact KR⟩
            case round =>
              clear KR
              obtain ⟨k, vv, hk, rfl, rfl, KR⟩ := hrel
              by_cases hkm : k < q
              · have i1 : (k : Int) < (q : Int) := by omega
                have HL := Lib.hid (show (L ++ List.replicate k (1 : Int)).length ≤ 10000000 by rw [List.length_append, List.length_replicate]; have := HLN.out; omega)
                obtain ⟨M, hM⟩ : ∃ M, L ++ List.replicate k (1 : Int) = M := ⟨_, rfl⟩
                have hM2 : L ++ List.replicate (k + 1) (1 : Int) = M ++ [1] := by rw [List.replicate_succ', ← List.append_assoc, hM]
                have HM2 := Lib.hid hM2
                rw [hM] at KR HL
                clear hM hM2
                go_wp2_with (at_builtin; refine kn_pushI rfl _ _ rfl _ M rfl rfl (KR.al [.int .i64 1] 2) HL.out ?_; intro v' w' K10)
                go_roundw
                case rel => exact ⟨k + 1, _, by omega, by go_num, rfl, by rw [HM2.out]; exact K10⟩
                case measure => simp [intOf] <;> omega
              · have i1 : ¬ (k : Int) < (q : Int) := by omega
                obtain rfl : k = q := by omega
                have HIk := HI2.out
                have HL := Lib.hid (show (L ++ List.replicate k (1 : Int)).length ≤ 10000000 by rw [List.length_append, List.length_replicate]; have := HLN.out; omega)
                obtain ⟨M, hM⟩ : ∃ M, L ++ List.replicate k (1 : Int) = M := ⟨_, rfl⟩
                rw [← List.append_assoc, hM] at HIk
                rw [hM] at KR HL
                have q3 : IntKind.i64.wrap ((i : Int) - 1) = (i : Int) - 1 := wrapI64 (by omega)
                clear hM
                by_cases hi0 : 0 < i
                · have j1 : (0 : Int) < (i : Int) := by omega
                  rw [if_pos hi0, ← List.append_assoc] at HIk
                  have HI3 := Lib.hid HIk
                  clear HIk
                  go_wp2_with (at_builtin; refine kn_pushI rfl _ _ rfl _ M rfl rfl (KR.al [.int .i64 4] 2) HL.out ?_; intro v' w' K10)
                  go_roundw
                  case rel => exact ⟨i, _, _, M ++ [4], by omega, by go_num, Lib.hid rfl, rfl, HI3, K10⟩
                  case measure => simp [intOf] <;> omega
                · have j1 : ¬ (0 : Int) < (i : Int) := by omega
                  rw [if_neg hi0, List.nil_append] at HIk
                  have HI3 := Lib.hid HIk
                  clear HIk
                  go_wp2_with fail
                  go_roundw
                  case rel => exact ⟨i, _, _, M, by omega, by go_num, Lib.hid rfl, rfl, HI3, KR⟩
                  case measure => simp [intOf] <;> omega
end Go.Proofs.YtlhcilmnfmglfaaDoor

namespace Go.Proofs.YtlhcilmnfmglfaaDoor
open Go.RowKit Go.Sort
theorem getD_out {ds : List Int} {k : Nat} (h : ds.length ≤ k) : ds.getD k 0 = 0 := by simp [List.getD_eq_getElem?_getD, List.getElem?_eq_none h]
theorem Kn.prefixI {w0 w : World} {m : List Ent} {g c n j : Nat} {us : List Int} {z : Int} (h : Kn w0 (.row (.slice (some ⟨g, 0, none⟩) n c) 2 1 n ((us ++ [z]).map (Value.int .i64)) :: m) w) (hn : n = us.length + 1) (hj : j = us.length) : Kn w0 (.row (.slice (some ⟨g, 0, none⟩) j c) 2 1 j (us.map (Value.int .i64)) :: m) w := by
  subst hn hj
  have h0 : w.ownsRow 0 2 1 (.slice (some ⟨g, 0, none⟩) (us.length + 1) c) (us.length + 1) ((us ++ [z]).map (Value.int .i64)) := h.at0
  refine ⟨h.below, fun x hx => ?_, fun x hx k hk => ?_, List.pairwise_cons.2 ⟨fun x hx k hk => ?_, (List.pairwise_cons.1 h.apart).2⟩⟩
  · rcases List.mem_cons.1 hx with rfl | hx
    · rcases h0.2 with ⟨hv, _⟩ | ⟨g', cap, cur, hv, hb, hg, h1, h2, h3, h4⟩
      · cases hv
      · injection hv with hv1 hv2 hv3
        injection hv1 with hv1
        injection hv1 with hv1
        subst hv1
        subst hv3
        refine ⟨by simp, .inr ⟨g, c, cur, rfl, hb, hg, by omega, h2, h3, ?_⟩⟩
        have h5 : (cur.toList.take ((us.length + 1) * 1)).take (us.length * 1) = ((us ++ [z]).map (Value.int .i64)).take (us.length * 1) := by rw [h4]
        rw [List.take_take, Nat.min_eq_left (by omega)] at h5
        rw [h5, List.map_append, Nat.mul_one, List.take_append_of_le_length (by simp), List.take_of_length_le (by simp)]
    · exact h.ents x (List.mem_cons_of_mem _ hx)
  · rcases List.mem_cons.1 hx with rfl | hx
    · exact h.own _ (List.mem_cons_self ..) k hk
    · exact h.own x (List.mem_cons_of_mem _ hx) k hk
  · exact (List.pairwise_cons.1 h.apart).1 x hx k hk
theorem Kn.capI {w0 w : World} {m : List Ent} {g c n : Nat} {xs : List Value} {e : TypeId} {s : Nat} (h : Kn w0 (.row (.slice (some ⟨g, 0, none⟩) n c) e s n xs :: m) w) : n ≤ c := by
  have h0 : w.ownsRow 0 e s (.slice (some ⟨g, 0, none⟩) n c) n xs := h.at0
  rcases h0.2 with ⟨hv, _⟩ | ⟨g', cap, cur, hv, -, -, h1, h2, -⟩
  · cases hv
  · injection hv with _ _ hv
    subst hv
    exact h1
/-- what the sum of two lists of turns returns -/
def ATRet (b d : Int) (xs ys : List Int) (w : World) (e : Ending) (w' : World) : Prop :=
  (∃ v c, e = .returned (.tuple #[v, .int .i64 c]) ∧ ((c = 6 ∧ b ≠ d) ∨ c = 5) ∧ (∃ x n k, v = .agg #[.int .i64 x, .slice none n k]) ∧ Below w.heap.size w w') ∨
  (∃ E ec ss, e = .returned (.tuple #[.agg #[.int .i64 b, .slice E ss.length ec], .int .i64 0]) ∧ vtur b ss = true ∧ facL b ss = facL b xs + facL b ys ∧ b = d ∧ Kn w [rowI E ec ss] w')
set_option maxRecDepth 100000 in
set_option maxHeartbeats 6400000 in
theorem AddTurns_ok (b d : Int) (XA : Option Addr) (xc : Nat) (xs : List Int) (YA : Option Addr) (yc : Nat) (ys : List Int) (w : World) (hx : RI w XA xs.length xs) (hy : RI w YA ys.length ys) (hv1 : vtur b xs = true) (hv2 : vtur d ys = true) :
    Calls Tryd.prog 18 #[.agg #[.int .i64 b, .slice XA xs.length xc], .agg #[.int .i64 d, .slice YA ys.length yc]] w (ATRet b d xs ys w) := by
  unfold ATRet
  obtain ⟨⟨hb, hb2⟩, hl1, hd1, -, -⟩ := vtur_iff.1 hv1
  obtain ⟨⟨he, he2⟩, hl2, hd2, -, -⟩ := vtur_iff.1 hv2
  have KX := Lib.hid (fun W (hW : Below w.heap.size w W) => calls_val (ValidTurns_any b XA xc xs W (hx.below hW) hb hb2 hl1) (congrArg Value.bool hv1))
  have KY := Lib.hid (fun W (hW : Below w.heap.size w W) => calls_val (ValidTurns_any d YA yc ys W (hy.below hW) he he2 hl2) (congrArg Value.bool hv2))
  have HX := Lib.hid (fun W (hW : Below w.heap.size w W) => hx.below hW)
  have HY := Lib.hid (fun W (hW : Below w.heap.size w W) => hy.below hW)
  have HD1 := Lib.hid hd1
  have HD2 := Lib.hid hd2
  clear hv1 hv2 hx hy hd1 hd2
  obtain ⟨g, hg⟩ : ∃ g, w.heap.size = g := ⟨_, rfl⟩
  have K0 := (((Kn.nil w).al [.int .i64 b, .slice XA xs.length xc] 27).al [.int .i64 d, .slice YA ys.length yc] 27).al [.int .i64 0, .slice none 0 0] 27
  simp only [World.size_alloc, hg] at K0
  by_cases hbd : b = d
  rotate_left
  · have n1 : (b != d) = true := bne_iff_ne.2 hbd
    have HBD := Lib.hid hbd
    obtain ⟨n, hn⟩ : ∃ n, xs.length = n := ⟨_, rfl⟩
    obtain ⟨m, hm⟩ : ∃ m, ys.length = m := ⟨_, rfl⟩
    rw [hn] at K0 KX ⊢
    rw [hm] at K0 KY ⊢
    clear hn hm
    go_enter Tryd.func18, Tryd.ntmps18
    go_upto_region 1 with fail
    try rw [hg]
    refine Code.wp.kn K0 ?_; clear K0; intro w1 K1
    obtain ⟨r1, r2, r3, c1, c2, c3, a1, a2, a3, -⟩ := K1.cells
    go_wp2_with (first
      | (go_at_call 62; (with_reducible refine (KX.out _ K1.below).mono ?_); rintro e w2 ⟨rfl, hw⟩; have K2 := K1.keep hw; clear hw r1 r2 r3 c1 c2 c3 a1 a2 a3; obtain ⟨r1, r2, r3, c1, c2, c3, a1, a2, a3, -⟩ := K2.cells)
      | (go_at_call 62; (with_reducible refine (KY.out _ K2.below).mono ?_); rintro e w3 ⟨rfl, hw⟩; have K3 := K2.keep hw; clear hw r1 r2 r3 c1 c2 c3 a1 a2 a3; obtain ⟨r1, r2, r3, c1, c2, c3, a1, a2, a3, -⟩ := K3.cells))
    clear r1 r2 r3 c1 c2 c3 a1 a2 a3
    refine bodyPost.kn ((K3.st 0 (.int .i64 0)).st 1 (.slice none 0 0)) ?_; intro w9 K9
    obtain ⟨r1, r2, r3, -⟩ := K9.cells
    refine bodyPost_ret (v := .tuple #[.agg #[.int .i64 0, .slice none 0 0], .int .i64 6]) (by simp [results, Tryd.results18, go_sem, r1]) rfl (.inl ⟨_, 6, rfl, .inl ⟨rfl, HBD.out⟩, ⟨_, _, _, rfl⟩, K9.below⟩)
  subst hbd
  have n1 : (b != b) = false := bne_self_eq_false _
  have HF := Lib.hid (fac_zsum b xs ys)
  have HZL := Lib.hid (zsum_len xs ys)
  have HZT := Lib.hid (fun k h => zsum_take (xs := xs) (ys := ys) (k := k) h)
  obtain ⟨zs, hzs⟩ : ∃ z, zsum xs ys = z := ⟨_, rfl⟩
  rw [hzs] at HF HZL HZT
  clear hzs
  obtain ⟨F, hFF⟩ : ∃ F, facL b xs + facL b ys = F := ⟨_, rfl⟩
  rw [hFF] at HF ⊢
  clear hFF
  obtain ⟨n, hn⟩ : ∃ n, xs.length = n := ⟨_, rfl⟩
  obtain ⟨m, hm⟩ : ∃ m, ys.length = m := ⟨_, rfl⟩
  have HN := Lib.hid hn
  have HM := Lib.hid hm
  rw [hn] at K0 KX HX HZL HZT hl1 ⊢
  rw [hm] at K0 KY HY HZL HZT hl2 ⊢
  clear hn hm
  rcases Nat.lt_or_ge n m with hle | hle
  · have hle1 : (n : Int) < (m : Int) := by omega
    rw [Nat.max_eq_right (Nat.le_of_lt hle)] at HZL HZT
    go_enter Tryd.func18, Tryd.ntmps18
    go_upto_region 1 with fail
    try rw [hg]
    refine Code.wp.kn K0 ?_; clear K0; intro w1 K1
    obtain ⟨r1, r2, r3, c1, c2, c3, a1, a2, a3, -⟩ := K1.cells
    go_upto_region 5 with (first
      | (go_at_call 62; (with_reducible refine (KX.out _ K1.below).mono ?_); rintro e w2 ⟨rfl, hw⟩; have K2 := K1.keep hw; clear hw r1 r2 r3 c1 c2 c3 a1 a2 a3; obtain ⟨r1, r2, r3, c1, c2, c3, a1, a2, a3, -⟩ := K2.cells)
      | (go_at_call 62; (with_reducible refine (KY.out _ K2.below).mono ?_); rintro e w3 ⟨rfl, hw⟩; have K3 := K2.keep hw; clear hw r1 r2 r3 c1 c2 c3 a1 a2 a3; obtain ⟨r1, r2, r3, c1, c2, c3, a1, a2, a3, -⟩ := K3.cells))
    clear K1 K2
    obtain ⟨gS, hgS⟩ : ∃ g, w3.heap.size = g := ⟨_, rfl⟩
    have K4 := K3.al [.int .i64 b, .slice none 0 0] 27
    go_upto_region 6 with fail
    rw [hgS] at K4
    try rw [hgS]
    refine Code.wp.kn K4 ?_; clear K4 K3 hgS r1 r2 r3 c1 c2 c3 a1 a2 a3; intro w4 K4
    obtain ⟨r1, r2, r3, d1, d2, d3, c1, c2, c3, a1, a2, a3, -⟩ := K4.cells
    go_wp2_with fail
    have K5 : Kn w [.row (.slice none 0 0) 2 1 (zs.take 0).length ((zs.take 0).map (Value.int .i64)), .blk gS [.int .i64 b, .slice none 0 0] 27, .blk (g + 1 + 1) [.int .i64 0, .slice none 0 0] 27, .blk (g + 1) [.int .i64 b, .slice YA m yc] 27, .blk g [.int .i64 b, .slice XA n xc] 27] w4 := K4.nilRow _ _
    clear K4 r1 r2 r3 d1 d2 d3 c1 c2 c3 a1 a2 a3
    go_loopw [34] (fun kk wr => ∃ (k : Nat) (vv : Value), k ≤ m ∧ kk = .int .i64 (k : Int) ∧ Kn w [.row vv 2 1 (zs.take k).length ((zs.take k).map (Value.int .i64)), .blk gS [.int .i64 b, vv] 27, .blk (g + 1 + 1) [.int .i64 0, .slice none 0 0] 27, .blk (g + 1) [.int .i64 b, .slice YA m yc] 27, .blk g [.int .i64 b, .slice XA n xc] 27] wr) (fun kk _ => m - (intOf kk).toNat)
    case atStart => exact ⟨0, _, Nat.zero_le _, rfl, K5⟩
    case round =>
      clear K5 KX KY
      obtain ⟨k, vv, hk, rfl, KR⟩ := hrel
      by_cases hkM : k < m
      · have i1 : (k : Int) < (m : Int) := by omega
        have i0 : (0 : Int) ≤ (k : Int) := by omega
        have hT := HZT.out k hkM
        have HL := Lib.hid (show (zs.take k).length ≤ 10000000 by rw [List.length_take]; omega)
        obtain ⟨ss, hss⟩ : ∃ ss, zs.take k = ss := ⟨_, rfl⟩
        rw [hss] at KR hT HL
        clear hss
        obtain ⟨o1, o2, o3, s1, s2, s3, c1, c2, c3, a1, a2, a3, -⟩ := (KR.front 1 rfl).cells
        by_cases hkn : k < n
        · by_cases hkm : k < m
          · skip
            obtain ⟨adx, hA, hlt, hkx, hcx⟩ := (HX.out _ KR.below).at_ hkn
            have hdx := HD1.out xs[k] (List.getElem_mem hkx)
            rw [getD_of hkx] at hT
            obtain ⟨x, hxx⟩ : ∃ x, xs[k] = x := ⟨_, rfl⟩
            rw [hxx] at hcx hdx hT
            have j1 : (k : Int) < (n : Int) := by omega
            subst hA
            clear hxx hkx
            obtain ⟨ady, hB, hlt2, hky, hcy⟩ := (HY.out _ KR.below).at_ hkm
            have hdy := HD2.out ys[k] (List.getElem_mem hky)
            rw [getD_of hky] at hT
            obtain ⟨y, hyy⟩ : ∃ y, ys[k] = y := ⟨_, rfl⟩
            rw [hyy] at hcy hdy hT
            have j2 : (k : Int) < (m : Int) := by omega
            subst hB
            clear hyy hky
            obtain ⟨z, hz⟩ : ∃ z, x + y = z := ⟨_, rfl⟩
            have q0 : IntKind.i64.wrap x = x := wrapI64 (by omega)
            have q1 : IntKind.i64.wrap (x + y) = z := by rw [hz]; exact wrapI64 (by omega)
            rw [hz] at hT
            have HTT := Lib.hid hT
            clear hz hT
            go_wp2_with (at_builtin; refine kn_pushI rfl _ _ rfl vv ss rfl rfl (KR.al [.int .i64 z] 2) HL.out ?_; intro v' w' K10; obtain ⟨A', c', rfl⟩ := row_form K10.at0; obtain ⟨m9, hm9⟩ : ∃ m, (ss ++ [z]).length = m := ⟨_, rfl⟩; rw [hm9] at K10; try rw [hm9]; have HM9 := Lib.hid hm9; clear hm9 o1 o2 o3 s1 s2 s3 c1 c2 c3 a1 a2 a3; obtain ⟨s1, s2, s3⟩ := (K10.front 1 rfl).blkAt)
            go_roundw
            case rel => exact ⟨k + 1, _, by omega, by go_num, by rw [HTT.out, HM9.out]; exact ((K10.front 1 rfl).st 1 (.slice A' m9 c')).sel [1, 0, 2, 3, 4] 99 (by decide) (by decide)⟩
            case measure => simp [intOf] <;> omega
          · exfalso; omega
        · by_cases hkm : k < m
          · skip
            obtain ⟨ady, hB, hlt2, hky, hcy⟩ := (HY.out _ KR.below).at_ hkm
            have hdy := HD2.out ys[k] (List.getElem_mem hky)
            rw [getD_of hky] at hT
            obtain ⟨y, hyy⟩ : ∃ y, ys[k] = y := ⟨_, rfl⟩
            rw [hyy] at hcy hdy hT
            have j2 : (k : Int) < (m : Int) := by omega
            subst hB
            clear hyy hky
            have j1 : ¬ (k : Int) < (n : Int) := by omega
            rw [show xs.getD k 0 = 0 from getD_out (by have := HN.out; omega), Int.zero_add] at hT
            have HTT := Lib.hid hT
            have q0 : IntKind.i64.wrap y = y := wrapI64 (by omega)
            clear hT
            go_wp2_with (at_builtin; refine kn_pushI rfl _ _ rfl vv ss rfl rfl (KR.al [.int .i64 y] 2) HL.out ?_; intro v' w' K10; obtain ⟨A', c', rfl⟩ := row_form K10.at0; obtain ⟨m9, hm9⟩ : ∃ m, (ss ++ [y]).length = m := ⟨_, rfl⟩; rw [hm9] at K10; try rw [hm9]; have HM9 := Lib.hid hm9; clear hm9 o1 o2 o3 s1 s2 s3 c1 c2 c3 a1 a2 a3; obtain ⟨s1, s2, s3⟩ := (K10.front 1 rfl).blkAt)
            go_roundw
            case rel => exact ⟨k + 1, _, by omega, by go_num, by rw [HTT.out, HM9.out]; exact ((K10.front 1 rfl).st 1 (.slice A' m9 c')).sel [1, 0, 2, 3, 4] 99 (by decide) (by decide)⟩
            case measure => simp [intOf] <;> omega
          · omega
      · have i1 : ¬ (k : Int) < (m : Int) := by omega
        obtain ⟨rfl⟩ : k = m := by omega
        have hzk : zs.take m = zs := by rw [List.take_of_length_le (by have := HZL.out; omega)]
        rw [hzk] at KR
        obtain ⟨E0, e0, rfl⟩ := row_form KR.at0
        have hzl := HZL.out
        rw [hzl] at KR
        try rw [hzl]
        have HF0 := HF
        obtain ⟨wo, hwo⟩ : ∃ wo : World, wo = wr := ⟨_, rfl⟩
        subst hwo
        go_wp2_with fail
        go_loopg [68] (m + 1) (fun gk _ wr => ∃ (p : Nat) (E : Option Addr) (ec : Nat) (ss : List Int), gk = p + 1 ∧ p ≤ 40 ∧ Hid (ss.length = p) ∧ Hid (facL b ss = F) ∧ Kn w [.row (.slice E p ec) 2 1 p (ss.map (Value.int .i64)), .blk gS [.int .i64 b, .slice E p ec] 27, .blk (g + 1 + 1) [.int .i64 0, .slice none 0 0] 27, .blk (g + 1) [.int .i64 b, .slice YA m yc] 27, .blk g [.int .i64 b, .slice XA n xc] 27] wr)
        case atStart => exact ⟨m, E0, e0, zs, rfl, by omega, Lib.hid hzl, HF, KR⟩
        case round =>
          clear KR HF hzl hzk HF0
          obtain ⟨p, E, ec, ss, rfl, hp, HP, HF, KR⟩ := hrel
          cases p with
          | zero =>
            obtain ⟨o1, o2, o3, s1, s2, s3, c1, c2, c3, a1, a2, a3, -⟩ := (KR.front 1 rfl).cells
            have p0 : ¬ (0 : Int) < ((0 : Nat) : Int) := by omega
            have hss : ss = [] := List.length_eq_zero_iff.1 HP.out
            have hvt : vtur b ss = true := by rw [hss]; exact vtur_iff.2 ⟨⟨hb, hb2⟩, by simp, (fun t h => nomatch h), rfl, rfl⟩
            have KV := Lib.hid (fun W (h : Kn w (.row (.slice E 0 ec) 2 1 0 (ss.map (Value.int .i64)) :: [.blk gS [.int .i64 b, .slice E 0 ec] 27, .blk (g + 1 + 1) [.int .i64 0, .slice none 0 0] 27, .blk (g + 1) [.int .i64 b, .slice YA m yc] 27, .blk g [.int .i64 b, .slice XA n xc] 27]) W) => calls_val (ValidTurns_any b E ec ss W (by have h2 := Kn.riv (show Kn w (rowI E ec ss :: [.blk gS [.int .i64 b, .slice E 0 ec] 27, .blk (g + 1 + 1) [.int .i64 0, .slice none 0 0] 27, .blk (g + 1) [.int .i64 b, .slice YA m yc] 27, .blk g [.int .i64 b, .slice XA n xc] 27]) W by unfold rowI; rw [HP.out]; exact h); exact h2) hb hb2 (by rw [HP.out]; omega)) (congrArg Value.bool hvt))
            rw [HP.out] at KV
            have HVT := Lib.hid hvt
            clear hss hvt
            go_wp2_with (go_at_call 62; (refine (KV.out _ KR).mono ?_); rintro e w6 ⟨rfl, hw⟩; have K6 := KR.keep hw; clear hw o1 o2 o3 s1 s2 s3 c1 c2 c3 a1 a2 a3; obtain ⟨o1, o2, o3, s1, s2, s3, c1, c2, c3, a1, a2, a3, -⟩ := (K6.front 1 rfl).cells)
            clear o1 o2 o3 s1 s2 s3 c1 c2 c3 a1 a2 a3
            refine bodyPost.kn (((K6.front 2 rfl).st 0 (.int .i64 b)).st 1 (.slice E 0 ec)) ?_; intro w9 K9
            obtain ⟨r1, r2, r3, -⟩ := K9.cells
            refine bodyPost_ret (v := .tuple #[.agg #[.int .i64 b, .slice E 0 ec], .int .i64 0]) (by simp [results, Tryd.results18, go_sem, r1]) rfl (.inr ⟨E, ec, ss, by rw [HP.out], HVT.out, HF.out, (by first | rfl | trivial), ?_⟩)
            unfold rowI
            rw [HP.out]
            exact K9.sel [1] 99 (by decide) (by decide)
          | succ q =>
            obtain ⟨us, z, hus⟩ : ∃ us z, ss = us ++ [z] := ⟨ss.dropLast, ss.getLast (by intro h; have := HP.out; rw [h] at this; cases this), (List.dropLast_concat_getLast _).symm⟩
            have hul : us.length = q := by have h := HP.out; rw [hus, List.length_append] at h; simp at h; exact h
            obtain ⟨P, hP⟩ : ∃ P, q + 1 = P := ⟨_, rfl⟩
            rw [hP] at KR HP
            subst hus
            obtain ⟨gd, e1, hE⟩ := Kn.rowForm KR (by omega)
            injection hE with hE hE2 hE3
            subst hE hE3
            have hcap := Kn.capI KR
            have p0 : (0 : Int) < (P : Int) := by omega
            have p1 : IntKind.i64.wrap ((P : Int) - 1) = (q : Int) := by rw [wrapI64 (by omega)]; omega
            have p2 : (0 : Int) ≤ (q : Int) := by omega
            have p3 : (q : Int) < (P : Int) := by omega
            have p4 : (q : Int) ≤ (ec : Int) := by omega
            obtain ⟨l1, l2⟩ := Kn.rowCell KR (j := q) (u := .int .i64 z) (by rw [← hul]; simp)
            have HPP := Lib.hid hP
            have HUL := Lib.hid hul
            clear hP hul hcap
            obtain ⟨o1, o2, o3, s1, s2, s3, c1, c2, c3, a1, a2, a3, -⟩ := (KR.front 1 rfl).cells
            by_cases hz : z = 0
            · subst hz
              have KR2 := Kn.prefixI (j := q) KR (by rw [HUL.out]; exact HPP.out.symm) HUL.out.symm
              have HF2 := Lib.hid (show facL b us = F by rw [← HF.out, fac_snoc0])
              go_wp2_with fail
              go_roundg (q + 1)
              case measure => exact Nat.lt_succ_self _
              case rel => exact ⟨q, some ⟨gd, 0, none⟩, ec, us, rfl, by omega, HUL, HF2, ((KR2.front 1 rfl).st 1 (.slice (some ⟨gd, 0, none⟩) q ec)).sel [1, 0, 2, 3, 4] 99 (by decide) (by decide)⟩
            · have z1 : (z == 0) = false := beq_eq_false_iff_ne.2 hz
              obtain ⟨ss, hss⟩ : ∃ ss, us ++ [z] = ss := ⟨_, rfl⟩
              rw [hss] at HP HF KR
              obtain ⟨B, hB⟩ : ∃ B, vtur b ss = B := ⟨_, rfl⟩
              have KV := Lib.hid (fun W (h : Kn w (.row (.slice (some ⟨gd, 0, none⟩) P ec) 2 1 P (ss.map (Value.int .i64)) :: [.blk gS [.int .i64 b, .slice (some ⟨gd, 0, none⟩) P ec] 27, .blk (g + 1 + 1) [.int .i64 0, .slice none 0 0] 27, .blk (g + 1) [.int .i64 b, .slice YA m yc] 27, .blk g [.int .i64 b, .slice XA n xc] 27]) W) => calls_val (ValidTurns_any b (some ⟨gd, 0, none⟩) ec ss W (by have h2 := Kn.riv (show Kn w (rowI (some ⟨gd, 0, none⟩) ec ss :: [.blk gS [.int .i64 b, .slice (some ⟨gd, 0, none⟩) P ec] 27, .blk (g + 1 + 1) [.int .i64 0, .slice none 0 0] 27, .blk (g + 1) [.int .i64 b, .slice YA m yc] 27, .blk g [.int .i64 b, .slice XA n xc] 27]) W by unfold rowI; rw [HP.out]; exact h); exact h2) hb hb2 (by rw [HP.out]; have := HPP.out; omega)) (congrArg Value.bool hB))
              rw [HP.out] at KV
              have HB := Lib.hid hB
              clear hss hB
              cases B with
              | true =>
                go_wp2_with (go_at_call 62; (refine (KV.out _ KR).mono ?_); rintro e w6 ⟨rfl, hw⟩; have K6 := KR.keep hw; clear hw l1 l2 o1 o2 o3 s1 s2 s3 c1 c2 c3 a1 a2 a3; obtain ⟨o1, o2, o3, s1, s2, s3, c1, c2, c3, a1, a2, a3, -⟩ := (K6.front 1 rfl).cells)
                clear o1 o2 o3 s1 s2 s3 c1 c2 c3 a1 a2 a3
                refine bodyPost.kn (((K6.front 2 rfl).st 0 (.int .i64 b)).st 1 (.slice (some ⟨gd, 0, none⟩) P ec)) ?_; intro w9 K9
                obtain ⟨r1, r2, r3, -⟩ := K9.cells
                refine bodyPost_ret (v := .tuple #[.agg #[.int .i64 b, .slice (some ⟨gd, 0, none⟩) P ec], .int .i64 0]) (by simp [results, Tryd.results18, go_sem, r1]) rfl (.inr ⟨_, ec, ss, by rw [HP.out], HB.out, HF.out, (by first | rfl | trivial), ?_⟩)
                unfold rowI
                rw [HP.out]
                exact K9.sel [1] 99 (by decide) (by decide)
              | false =>
                go_wp2_with (go_at_call 62; (refine (KV.out _ KR).mono ?_); rintro e w6 ⟨rfl, hw⟩; have K6 := KR.keep hw; clear hw l1 l2 o1 o2 o3 s1 s2 s3 c1 c2 c3 a1 a2 a3; obtain ⟨o1, o2, o3, s1, s2, s3, c1, c2, c3, a1, a2, a3, -⟩ := (K6.front 1 rfl).cells)
                clear o1 o2 o3 s1 s2 s3 c1 c2 c3 a1 a2 a3
                refine bodyPost.kn (((K6.front 2 rfl).st 0 (.int .i64 0)).st 1 (.slice none 0 0)) ?_; intro w9 K9
                obtain ⟨r1, r2, r3, -⟩ := K9.cells
                refine bodyPost_ret (v := .tuple #[.agg #[.int .i64 0, .slice none 0 0], .int .i64 5]) (by simp [results, Tryd.results18, go_sem, r1]) rfl (.inl ⟨_, 5, rfl, .inr rfl, ⟨_, _, _, rfl⟩, K9.below⟩)
  · have hle1 : (m : Int) ≤ (n : Int) := by omega
    rw [Nat.max_eq_left hle] at HZL HZT
    go_enter Tryd.func18, Tryd.ntmps18
    go_upto_region 1 with fail
    try rw [hg]
    refine Code.wp.kn K0 ?_; clear K0; intro w1 K1
    obtain ⟨r1, r2, r3, c1, c2, c3, a1, a2, a3, -⟩ := K1.cells
    go_upto_region 5 with (first
      | (go_at_call 62; (with_reducible refine (KX.out _ K1.below).mono ?_); rintro e w2 ⟨rfl, hw⟩; have K2 := K1.keep hw; clear hw r1 r2 r3 c1 c2 c3 a1 a2 a3; obtain ⟨r1, r2, r3, c1, c2, c3, a1, a2, a3, -⟩ := K2.cells)
      | (go_at_call 62; (with_reducible refine (KY.out _ K2.below).mono ?_); rintro e w3 ⟨rfl, hw⟩; have K3 := K2.keep hw; clear hw r1 r2 r3 c1 c2 c3 a1 a2 a3; obtain ⟨r1, r2, r3, c1, c2, c3, a1, a2, a3, -⟩ := K3.cells))
    clear K1 K2
    obtain ⟨gS, hgS⟩ : ∃ g, w3.heap.size = g := ⟨_, rfl⟩
    have K4 := K3.al [.int .i64 b, .slice none 0 0] 27
    go_upto_region 6 with fail
    rw [hgS] at K4
    try rw [hgS]
    refine Code.wp.kn K4 ?_; clear K4 K3 hgS r1 r2 r3 c1 c2 c3 a1 a2 a3; intro w4 K4
    obtain ⟨r1, r2, r3, d1, d2, d3, c1, c2, c3, a1, a2, a3, -⟩ := K4.cells
    go_wp2_with fail
    have K5 : Kn w [.row (.slice none 0 0) 2 1 (zs.take 0).length ((zs.take 0).map (Value.int .i64)), .blk gS [.int .i64 b, .slice none 0 0] 27, .blk (g + 1 + 1) [.int .i64 0, .slice none 0 0] 27, .blk (g + 1) [.int .i64 b, .slice YA m yc] 27, .blk g [.int .i64 b, .slice XA n xc] 27] w4 := K4.nilRow _ _
    clear K4 r1 r2 r3 d1 d2 d3 c1 c2 c3 a1 a2 a3
    go_loopw [34] (fun kk wr => ∃ (k : Nat) (vv : Value), k ≤ n ∧ kk = .int .i64 (k : Int) ∧ Kn w [.row vv 2 1 (zs.take k).length ((zs.take k).map (Value.int .i64)), .blk gS [.int .i64 b, vv] 27, .blk (g + 1 + 1) [.int .i64 0, .slice none 0 0] 27, .blk (g + 1) [.int .i64 b, .slice YA m yc] 27, .blk g [.int .i64 b, .slice XA n xc] 27] wr) (fun kk _ => n - (intOf kk).toNat)
    case atStart => exact ⟨0, _, Nat.zero_le _, rfl, K5⟩
    case round =>
      clear K5 KX KY
      obtain ⟨k, vv, hk, rfl, KR⟩ := hrel
      by_cases hkM : k < n
      · have i1 : (k : Int) < (n : Int) := by omega
        have i0 : (0 : Int) ≤ (k : Int) := by omega
        have hT := HZT.out k hkM
        have HL := Lib.hid (show (zs.take k).length ≤ 10000000 by rw [List.length_take]; omega)
        obtain ⟨ss, hss⟩ : ∃ ss, zs.take k = ss := ⟨_, rfl⟩
        rw [hss] at KR hT HL
        clear hss
        obtain ⟨o1, o2, o3, s1, s2, s3, c1, c2, c3, a1, a2, a3, -⟩ := (KR.front 1 rfl).cells
        by_cases hkn : k < n
        · by_cases hkm : k < m
          · skip
            obtain ⟨adx, hA, hlt, hkx, hcx⟩ := (HX.out _ KR.below).at_ hkn
            have hdx := HD1.out xs[k] (List.getElem_mem hkx)
            rw [getD_of hkx] at hT
            obtain ⟨x, hxx⟩ : ∃ x, xs[k] = x := ⟨_, rfl⟩
            rw [hxx] at hcx hdx hT
            have j1 : (k : Int) < (n : Int) := by omega
            subst hA
            clear hxx hkx
            obtain ⟨ady, hB, hlt2, hky, hcy⟩ := (HY.out _ KR.below).at_ hkm
            have hdy := HD2.out ys[k] (List.getElem_mem hky)
            rw [getD_of hky] at hT
            obtain ⟨y, hyy⟩ : ∃ y, ys[k] = y := ⟨_, rfl⟩
            rw [hyy] at hcy hdy hT
            have j2 : (k : Int) < (m : Int) := by omega
            subst hB
            clear hyy hky
            obtain ⟨z, hz⟩ : ∃ z, x + y = z := ⟨_, rfl⟩
            have q0 : IntKind.i64.wrap x = x := wrapI64 (by omega)
            have q1 : IntKind.i64.wrap (x + y) = z := by rw [hz]; exact wrapI64 (by omega)
            rw [hz] at hT
            have HTT := Lib.hid hT
            clear hz hT
            go_wp2_with (at_builtin; refine kn_pushI rfl _ _ rfl vv ss rfl rfl (KR.al [.int .i64 z] 2) HL.out ?_; intro v' w' K10; obtain ⟨A', c', rfl⟩ := row_form K10.at0; obtain ⟨m9, hm9⟩ : ∃ m, (ss ++ [z]).length = m := ⟨_, rfl⟩; rw [hm9] at K10; try rw [hm9]; have HM9 := Lib.hid hm9; clear hm9 o1 o2 o3 s1 s2 s3 c1 c2 c3 a1 a2 a3; obtain ⟨s1, s2, s3⟩ := (K10.front 1 rfl).blkAt)
            go_roundw
            case rel => exact ⟨k + 1, _, by omega, by go_num, by rw [HTT.out, HM9.out]; exact ((K10.front 1 rfl).st 1 (.slice A' m9 c')).sel [1, 0, 2, 3, 4] 99 (by decide) (by decide)⟩
            case measure => simp [intOf] <;> omega
          · skip
            obtain ⟨adx, hA, hlt, hkx, hcx⟩ := (HX.out _ KR.below).at_ hkn
            have hdx := HD1.out xs[k] (List.getElem_mem hkx)
            rw [getD_of hkx] at hT
            obtain ⟨x, hxx⟩ : ∃ x, xs[k] = x := ⟨_, rfl⟩
            rw [hxx] at hcx hdx hT
            have j1 : (k : Int) < (n : Int) := by omega
            subst hA
            clear hxx hkx
            have j2 : ¬ (k : Int) < (m : Int) := by omega
            rw [show ys.getD k 0 = 0 from getD_out (by have := HM.out; omega), Int.add_zero] at hT
            have HTT := Lib.hid hT
            obtain ⟨z, hz⟩ : ∃ z, x = z := ⟨_, rfl⟩
            subst hz
            have q0 : IntKind.i64.wrap x = x := wrapI64 (by omega)
            clear hT
            go_wp2_with (at_builtin; refine kn_pushI rfl _ _ rfl vv ss rfl rfl (KR.al [.int .i64 x] 2) HL.out ?_; intro v' w' K10; obtain ⟨A', c', rfl⟩ := row_form K10.at0; obtain ⟨m9, hm9⟩ : ∃ m, (ss ++ [x]).length = m := ⟨_, rfl⟩; rw [hm9] at K10; try rw [hm9]; have HM9 := Lib.hid hm9; clear hm9 o1 o2 o3 s1 s2 s3 c1 c2 c3 a1 a2 a3; obtain ⟨s1, s2, s3⟩ := (K10.front 1 rfl).blkAt)
            go_roundw
            case rel => exact ⟨k + 1, _, by omega, by go_num, by rw [HTT.out, HM9.out]; exact ((K10.front 1 rfl).st 1 (.slice A' m9 c')).sel [1, 0, 2, 3, 4] 99 (by decide) (by decide)⟩
            case measure => simp [intOf] <;> omega
        · exfalso; omega
      · have i1 : ¬ (k : Int) < (n : Int) := by omega
        obtain ⟨rfl⟩ : k = n := by omega
        have hzk : zs.take n = zs := by rw [List.take_of_length_le (by have := HZL.out; omega)]
        rw [hzk] at KR
        obtain ⟨E0, e0, rfl⟩ := row_form KR.at0
        have hzl := HZL.out
        rw [hzl] at KR
        try rw [hzl]
        have HF0 := HF
        obtain ⟨wo, hwo⟩ : ∃ wo : World, wo = wr := ⟨_, rfl⟩
        subst hwo
        go_wp2_with fail
        go_loopg [68] (n + 1) (fun gk _ wr => ∃ (p : Nat) (E : Option Addr) (ec : Nat) (ss : List Int), gk = p + 1 ∧ p ≤ 40 ∧ Hid (ss.length = p) ∧ Hid (facL b ss = F) ∧ Kn w [.row (.slice E p ec) 2 1 p (ss.map (Value.int .i64)), .blk gS [.int .i64 b, .slice E p ec] 27, .blk (g + 1 + 1) [.int .i64 0, .slice none 0 0] 27, .blk (g + 1) [.int .i64 b, .slice YA m yc] 27, .blk g [.int .i64 b, .slice XA n xc] 27] wr)
        case atStart => exact ⟨n, E0, e0, zs, rfl, by omega, Lib.hid hzl, HF, KR⟩
        case round =>
          clear KR HF hzl hzk HF0
          obtain ⟨p, E, ec, ss, rfl, hp, HP, HF, KR⟩ := hrel
          cases p with
          | zero =>
            obtain ⟨o1, o2, o3, s1, s2, s3, c1, c2, c3, a1, a2, a3, -⟩ := (KR.front 1 rfl).cells
            have p0 : ¬ (0 : Int) < ((0 : Nat) : Int) := by omega
            have hss : ss = [] := List.length_eq_zero_iff.1 HP.out
            have hvt : vtur b ss = true := by rw [hss]; exact vtur_iff.2 ⟨⟨hb, hb2⟩, by simp, (fun t h => nomatch h), rfl, rfl⟩
            have KV := Lib.hid (fun W (h : Kn w (.row (.slice E 0 ec) 2 1 0 (ss.map (Value.int .i64)) :: [.blk gS [.int .i64 b, .slice E 0 ec] 27, .blk (g + 1 + 1) [.int .i64 0, .slice none 0 0] 27, .blk (g + 1) [.int .i64 b, .slice YA m yc] 27, .blk g [.int .i64 b, .slice XA n xc] 27]) W) => calls_val (ValidTurns_any b E ec ss W (by have h2 := Kn.riv (show Kn w (rowI E ec ss :: [.blk gS [.int .i64 b, .slice E 0 ec] 27, .blk (g + 1 + 1) [.int .i64 0, .slice none 0 0] 27, .blk (g + 1) [.int .i64 b, .slice YA m yc] 27, .blk g [.int .i64 b, .slice XA n xc] 27]) W by unfold rowI; rw [HP.out]; exact h); exact h2) hb hb2 (by rw [HP.out]; omega)) (congrArg Value.bool hvt))
            rw [HP.out] at KV
            have HVT := Lib.hid hvt
            clear hss hvt
            go_wp2_with (go_at_call 62; (refine (KV.out _ KR).mono ?_); rintro e w6 ⟨rfl, hw⟩; have K6 := KR.keep hw; clear hw o1 o2 o3 s1 s2 s3 c1 c2 c3 a1 a2 a3; obtain ⟨o1, o2, o3, s1, s2, s3, c1, c2, c3, a1, a2, a3, -⟩ := (K6.front 1 rfl).cells)
            clear o1 o2 o3 s1 s2 s3 c1 c2 c3 a1 a2 a3
            refine bodyPost.kn (((K6.front 2 rfl).st 0 (.int .i64 b)).st 1 (.slice E 0 ec)) ?_; intro w9 K9
            obtain ⟨r1, r2, r3, -⟩ := K9.cells
            refine bodyPost_ret (v := .tuple #[.agg #[.int .i64 b, .slice E 0 ec], .int .i64 0]) (by simp [results, Tryd.results18, go_sem, r1]) rfl (.inr ⟨E, ec, ss, by rw [HP.out], HVT.out, HF.out, (by first | rfl | trivial), ?_⟩)
            unfold rowI
            rw [HP.out]
            exact K9.sel [1] 99 (by decide) (by decide)
          | succ q =>
            obtain ⟨us, z, hus⟩ : ∃ us z, ss = us ++ [z] := ⟨ss.dropLast, ss.getLast (by intro h; have := HP.out; rw [h] at this; cases this), (List.dropLast_concat_getLast _).symm⟩
            have hul : us.length = q := by have h := HP.out; rw [hus, List.length_append] at h; simp at h; exact h
            obtain ⟨P, hP⟩ : ∃ P, q + 1 = P := ⟨_, rfl⟩
            rw [hP] at KR HP
            subst hus
            obtain ⟨gd, e1, hE⟩ := Kn.rowForm KR (by omega)
            injection hE with hE hE2 hE3
            subst hE hE3
            have hcap := Kn.capI KR
            have p0 : (0 : Int) < (P : Int) := by omega
            have p1 : IntKind.i64.wrap ((P : Int) - 1) = (q : Int) := by rw [wrapI64 (by omega)]; omega
            have p2 : (0 : Int) ≤ (q : Int) := by omega
            have p3 : (q : Int) < (P : Int) := by omega
            have p4 : (q : Int) ≤ (ec : Int) := by omega
            obtain ⟨l1, l2⟩ := Kn.rowCell KR (j := q) (u := .int .i64 z) (by rw [← hul]; simp)
            have HPP := Lib.hid hP
            have HUL := Lib.hid hul
            clear hP hul hcap
            obtain ⟨o1, o2, o3, s1, s2, s3, c1, c2, c3, a1, a2, a3, -⟩ := (KR.front 1 rfl).cells
            by_cases hz : z = 0
            · subst hz
              have KR2 := Kn.prefixI (j := q) KR (by rw [HUL.out]; exact HPP.out.symm) HUL.out.symm
              have HF2 := Lib.hid (show facL b us = F by rw [← HF.out, fac_snoc0])
              go_wp2_with fail
              go_roundg (q + 1)
              case measure => exact Nat.lt_succ_self _
              case rel => exact ⟨q, some ⟨gd, 0, none⟩, ec, us, rfl, by omega, HUL, HF2, ((KR2.front 1 rfl).st 1 (.slice (some ⟨gd, 0, none⟩) q ec)).sel [1, 0, 2, 3, 4] 99 (by decide) (by decide)⟩
            · have z1 : (z == 0) = false := beq_eq_false_iff_ne.2 hz
              obtain ⟨ss, hss⟩ : ∃ ss, us ++ [z] = ss := ⟨_, rfl⟩
              rw [hss] at HP HF KR
              obtain ⟨B, hB⟩ : ∃ B, vtur b ss = B := ⟨_, rfl⟩
              have KV := Lib.hid (fun W (h : Kn w (.row (.slice (some ⟨gd, 0, none⟩) P ec) 2 1 P (ss.map (Value.int .i64)) :: [.blk gS [.int .i64 b, .slice (some ⟨gd, 0, none⟩) P ec] 27, .blk (g + 1 + 1) [.int .i64 0, .slice none 0 0] 27, .blk (g + 1) [.int .i64 b, .slice YA m yc] 27, .blk g [.int .i64 b, .slice XA n xc] 27]) W) => calls_val (ValidTurns_any b (some ⟨gd, 0, none⟩) ec ss W (by have h2 := Kn.riv (show Kn w (rowI (some ⟨gd, 0, none⟩) ec ss :: [.blk gS [.int .i64 b, .slice (some ⟨gd, 0, none⟩) P ec] 27, .blk (g + 1 + 1) [.int .i64 0, .slice none 0 0] 27, .blk (g + 1) [.int .i64 b, .slice YA m yc] 27, .blk g [.int .i64 b, .slice XA n xc] 27]) W by unfold rowI; rw [HP.out]; exact h); exact h2) hb hb2 (by rw [HP.out]; have := HPP.out; omega)) (congrArg Value.bool hB))
              rw [HP.out] at KV
              have HB := Lib.hid hB
              clear hss hB
              cases B with
              | true =>
                go_wp2_with (go_at_call 62; (refine (KV.out _ KR).mono ?_); rintro e w6 ⟨rfl, hw⟩; have K6 := KR.keep hw; clear hw l1 l2 o1 o2 o3 s1 s2 s3 c1 c2 c3 a1 a2 a3; obtain ⟨o1, o2, o3, s1, s2, s3, c1, c2, c3, a1, a2, a3, -⟩ := (K6.front 1 rfl).cells)
                clear o1 o2 o3 s1 s2 s3 c1 c2 c3 a1 a2 a3
                refine bodyPost.kn (((K6.front 2 rfl).st 0 (.int .i64 b)).st 1 (.slice (some ⟨gd, 0, none⟩) P ec)) ?_; intro w9 K9
                obtain ⟨r1, r2, r3, -⟩ := K9.cells
                refine bodyPost_ret (v := .tuple #[.agg #[.int .i64 b, .slice (some ⟨gd, 0, none⟩) P ec], .int .i64 0]) (by simp [results, Tryd.results18, go_sem, r1]) rfl (.inr ⟨_, ec, ss, by rw [HP.out], HB.out, HF.out, (by first | rfl | trivial), ?_⟩)
                unfold rowI
                rw [HP.out]
                exact K9.sel [1] 99 (by decide) (by decide)
              | false =>
                go_wp2_with (go_at_call 62; (refine (KV.out _ KR).mono ?_); rintro e w6 ⟨rfl, hw⟩; have K6 := KR.keep hw; clear hw l1 l2 o1 o2 o3 s1 s2 s3 c1 c2 c3 a1 a2 a3; obtain ⟨o1, o2, o3, s1, s2, s3, c1, c2, c3, a1, a2, a3, -⟩ := (K6.front 1 rfl).cells)
                clear o1 o2 o3 s1 s2 s3 c1 c2 c3 a1 a2 a3
                refine bodyPost.kn (((K6.front 2 rfl).st 0 (.int .i64 0)).st 1 (.slice none 0 0)) ?_; intro w9 K9
                obtain ⟨r1, r2, r3, -⟩ := K9.cells
                refine bodyPost_ret (v := .tuple #[.agg #[.int .i64 0, .slice none 0 0], .int .i64 5]) (by simp [results, Tryd.results18, go_sem, r1]) rfl (.inl ⟨_, 5, rfl, .inr rfl, ⟨_, _, _, rfl⟩, K9.below⟩)
end Go.Proofs.YtlhcilmnfmglfaaDoor

namespace Go.Proofs.YtlhcilmnfmglfaaDoor
open Go.RowKit Go.Sort
/-- the bytes of a string -/
def strB (s : ByteArray) : List UInt8 := s.data.toList
theorem strB_len (s : ByteArray) : (strB s).length = s.size := by simp [strB]
theorem strB_get (s : ByteArray) {k : Nat} (h : k < s.size) : s[k] = (strB s)[k]'(by rw [strB_len]; exact h) := by
  simp [strB]
  rfl
theorem strB_mk (bs : List UInt8) : strB ⟨bs.toArray⟩ = bs := by simp [strB]
theorem size_mk (bs : List UInt8) : (⟨bs.toArray⟩ : ByteArray).size = bs.length := by simp [ByteArray.size]
theorem strB_drop (s : ByteArray) (k : Nat) : strB (s.extract k s.size) = (strB s).drop k := by
  have h : (s.extract k s.size).data = s.data.extract k s.size := by simp
  unfold strB
  rw [h, Array.toList_extract, List.extract_eq_take_drop]
  rw [List.take_of_length_le]
  rw [List.length_drop, Array.length_toList]
  exact Nat.le_refl _
theorem size_zero {s : ByteArray} (h : s.size = 0) : s = ⟨#[]⟩ := by
  cases s with
  | mk a =>
    congr 1
    exact Array.eq_empty_of_size_eq_zero h
theorem str_nonempty {s : ByteArray} (h : 0 < s.size) : s.toList.isEmpty = false := by
  rw [ByteArray.toList_eq]
  cases he : s.data.toList with
  | nil =>
    have : s.data.toList.length = 0 := by rw [he]; rfl
    have h2 : s.data.toList.length = s.size := by rw [Array.length_toList]; rfl
    omega
  | cons a l => rfl
theorem strB_cons {s : ByteArray} (h : 0 < s.size) : strB s = s[0] :: (strB s).drop 1 := by
  have h1 : 0 < (strB s).length := by rw [strB_len]; exact h
  have h2 := strB_get s h
  rw [h2]
  have h3 := List.drop_eq_getElem_cons (l := strB s) (i := 0) h1
  simpa using h3
theorem strB_nil {s : ByteArray} (h : s.size = 0) : strB s = [] := by
  apply List.eq_nil_of_length_eq_zero; rw [strB_len]; exact h
theorem str_eq {s : ByteArray} {bs : List UInt8} : (⟨bs.toArray⟩ : ByteArray) = s ↔ bs = strB s := by
  constructor
  · intro h; rw [← h]; simp [strB]
  · intro h; rw [h]; cases s; simp [strB]
theorem strB_toList (s : ByteArray) : s.toList = strB s := by rw [ByteArray.toList_eq]; rfl
theorem strB_tail {s : ByteArray} : strB (s.extract 1 s.size) = (strB s).drop 1 := strB_drop s 1
theorem extract_size (s : ByteArray) (k : Nat) : (s.extract k s.size).size = s.size - k := by simp [ByteArray.size_extract]
theorem strB_extract (s : ByteArray) (i j : Nat) : strB (s.extract i j) = ((strB s).drop i).take (j - i) := by
  have h : (s.extract i j).data = s.data.extract i j := by simp
  unfold strB
  rw [h, Array.toList_extract, List.extract_eq_take_drop]
theorem strB_getD (s : ByteArray) {k : Nat} (h : k < s.size) : (strB s).getD k 0 = s[k] := by
  rw [strB_get s h]; simp [List.getD, List.getElem?_eq_getElem (show k < (strB s).length by rw [strB_len]; exact h)]
theorem wrapI {n : Int} (h : -9223372036854775808 ≤ n ∧ n ≤ 9223372036854775807) : IntKind.i64.wrap n = n := by
  rw [IntKind.wrap_i64]; omega
theorem wrapB {n : Int} (h : 0 ≤ n ∧ n < 256) : IntKind.u8.wrap n = n := by
  simp [IntKind.wrap, IntKind.bits, IntKind.signed]; omega
theorem wrap64_of {n : Int} (h : -9223372036854775808 ≤ n ∧ n ≤ 9223372036854775807) : wrap64 n = n := by unfold wrap64; omega
end Go.Proofs.YtlhcilmnfmglfaaDoor

namespace Go.Proofs.YtlhcilmnfmglfaaDoor
open Go.RowKit Go.Sort
theorem tpS : TP 94 9 (.string ⟨#[]⟩) 1 16 := ⟨Tryd.underlying94, by kernel_rfl, rfl, by decide⟩
/-- a row of strings that is owned -/
def rowS (v : Value) (ss : List ByteArray) : Ent := .row v 9 1 ss.length (ss.map Value.string)
theorem Kn.rowS_at {w0 w : World} {m : List Ent} {A : Option Addr} {n c : Nat} {ss : List ByteArray} (h : Kn w0 (rowS (.slice A n c) ss :: m) w) {k : Nat} (hk : k < ss.length) :
    n = ss.length ∧ ∃ g, A = some ⟨g, 0, none⟩ ∧ w.cell? ⟨g, k, none⟩ = some (.string ss[k]) ∧ w0.heap.size ≤ g ∧ g < w.heap.size := by
  have h0 : w.ownsRow 0 9 1 (.slice A n c) ss.length (ss.map Value.string) := h.at0
  rcases h0.2 with ⟨hv, hn⟩ | ⟨g, cap, cur, hv, -, hg, -⟩
  · omega
  · injection hv with h1 h2 h3
    rw [h1] at h0
    have d1 := h0.cells (g := g) rfl k (.string ss[k]) (by simp [hk])
    rw [add_zero_block] at d1
    exact ⟨h2, g, h1, d1, h.own _ (List.mem_cons_self ..) g (by rw [h1]; rfl), (Array.getElem?_eq_some_iff.1 hg).1⟩
theorem kn_pushS {ops : Array Oper} {rest : List Oper} {o : Oper} {a : Act} {Q : Exit → Act → World → Prop} {w0 w : World} {m : List Ent} (hgd : o.guard = none) (s x : Operand) (ho : o.op = .call { callee := .builtin .append, args := #[s, x], argTypes := #[94, 94] })
    (v : Value) (ss : List ByteArray) (hs : a.eval s = v) {g c : Nat} {T' : TypeId} {z : ByteArray} (hx : a.eval x = .slice (some ⟨g, 0, none⟩) 1 c)
    (hK : Kn w0 (.blk g [.string z] T' :: rowS v ss :: m) w) (hl : ss.length ≤ 10000000)
    (h : ∀ v' w', Kn w0 (rowS v' (ss ++ [z]) :: m) w' → wpList Tryd.prog ops Q rest (a.put o.dst v') w') : wpList Tryd.prog ops Q (o :: rest) a w := by
  refine kn_app tpS hgd s x ho v ss.length (ss.map Value.string) hs hx hK rfl (by simp [Value.oneCell']) (by omega) (by omega) (fun v' w' hK' => h v' w' ?_)
  unfold rowS
  rw [List.length_append, List.map_append, List.map_cons, List.map_nil]
  exact hK'
/-- the parts of bytes between bytes -/
def splitB (k : Nat) : List UInt8 → List (List UInt8)
  | [] => [[]]
  | b :: tl => if b.toNat = k then [] :: splitB k tl else match splitB k tl with
    | [] => [[b]]
    | h :: t => (b :: h) :: t
def glue (p : List UInt8) : List (List UInt8) → List (List UInt8)
  | [] => [p]
  | h :: t => (p ++ h) :: t
theorem splitB_ne (k : Nat) (bs : List UInt8) : splitB k bs ≠ [] := by
  cases bs with
  | nil => simp [splitB]
  | cons b tl =>
    simp only [splitB]
    split
    · simp
    · split <;> simp
theorem glue_nil (l : List (List UInt8)) (h : l ≠ []) : glue [] l = l := by
  cases l with
  | nil => exact absurd rfl h
  | cons a t => rfl
theorem splitB_cons (k : Nat) (b : UInt8) (tl : List UInt8) : splitB k (b :: tl) = if b.toNat = k then [] :: splitB k tl else glue [b] (splitB k tl) := by
  simp only [splitB]
  split
  · rfl
  · cases splitB k tl <;> rfl
theorem glue_glue (p : List UInt8) (b : UInt8) (l : List (List UInt8)) : glue p (glue [b] l) = glue (p ++ [b]) l := by cases l <;> simp [glue]
theorem splitB_len (k : Nat) (bs : List UInt8) : (splitB k bs).length ≤ bs.length + 1 := by
  induction bs with
  | nil => simp [splitB]
  | cons b tl ih =>
    rw [splitB_cons]
    split
    · simp; omega
    · cases h : splitB k tl with
      | nil => simp [glue]
      | cons a t => rw [h] at ih; simp [glue] at ih ⊢; omega
theorem take_piece {bs : List UInt8} {f i : Nat} (h : i < bs.length) (hf : f ≤ i) : (bs.drop f).take (i + 1 - f) = (bs.drop f).take (i - f) ++ [bs[i]] := by
  rw [show i + 1 - f = (i - f) + 1 by omega, List.take_succ_eq_append_getElem (by rw [List.length_drop]; omega)]
  congr 2
  rw [List.getElem_drop]
  congr 1; omega
set_option maxRecDepth 100000 in
set_option maxHeartbeats 1600000 in
theorem l01Split_any (s : ByteArray) (kd : UInt8) (w : World) (hs : s.size ≤ 1048576) :
    Calls Tryd.prog 196 #[.string s, .int .u8 (kd.toNat : Int)] w fun e w' => ∃ A c ss, e = .returned (.slice A ss.length c) ∧ ss.map strB = splitB kd.toNat (strB s) ∧ Kn w [rowS (.slice A ss.length c) ss] w' := by
  have HSL := Lib.hid (strB_len s)
  obtain ⟨kn, hkn⟩ : ∃ k : Nat, kd.toNat = k := ⟨_, rfl⟩
  rw [hkn]
  clear hkn
  go_enter Tryd.func196, Tryd.ntmps196
  have hK0 := ((Kn.nil w).al [] 9).litRow (n := 0) (size := 1) rfl (by decide)
  go_wp2_with fail
  go_loopw [5, 6, 7] (fun vv ff ii wr => ∃ (f i : Nat) (ss : List ByteArray), f ≤ i ∧ i ≤ s.size ∧ ff = .int .i64 f ∧ ii = .int .i64 i ∧ ss.length ≤ i ∧
    splitB kn (strB s) = ss.map strB ++ glue (((strB s).drop f).take (i - f)) (splitB kn ((strB s).drop i)) ∧ Kn w [rowS vv ss] wr) (fun _ _ i _ => s.size - (intOf i).toNat)
  case atStart => exact ⟨0, 0, [], by omega, by omega, rfl, rfl, by simp, by simp [glue_nil _ (splitB_ne _ _)], hK0⟩
  case round =>
    rename_i vv _ _
    obtain ⟨f, i, ss, hf, hi, rfl, rfl, hsl, hsp, hK⟩ := hrel
    have HSP := Lib.hid hsp
    clear hsp hK0
    have i0 : (0 : Int) ≤ (i : Int) := by omega
    have f0 : (0 : Int) ≤ (f : Int) := by omega
    have f1 : (f : Int) ≤ (i : Int) := by omega
    have f2 : (f : Int) ≤ (s.size : Int) := by omega
    have i2 : (i : Int) ≤ (s.size : Int) := by omega
    by_cases hlt : i < s.size
    · obtain ⟨q, hq⟩ : ∃ q : UInt8, s[i] = q := ⟨_, rfl⟩
      obtain ⟨z, hz⟩ : ∃ z : Nat, q.toNat = z := ⟨_, rfl⟩
      have hil : i < (strB s).length := by rw [HSL.out]; exact hlt
      have hg : (strB s)[i] = q := by rw [← hq, strB_get s hlt]
      have hdr : (strB s).drop i = q :: (strB s).drop (i + 1) := by rw [List.drop_eq_getElem_cons hil, hg]
      have i1 : (i : Int) < (s.size : Int) := by omega
      have HS2 := Lib.hid (show splitB kn ((strB s).drop i) = if z = kn then [] :: splitB kn ((strB s).drop (i + 1)) else glue [q] (splitB kn ((strB s).drop (i + 1))) by rw [hdr, splitB_cons, hz])
      have HP := Lib.hid (take_piece (f := f) hil hf)
      rw [hg] at HP
      clear hdr hg
      by_cases hzk : z = kn
      · have k1 : ((z : Int) == (kn : Int)) = true := by rw [beq_iff_eq]; omega
        have k2 : (z : Int) = (kn : Int) := by omega
        have HS3 : Hid (splitB kn (strB s) = (ss ++ [s.extract f i]).map strB ++ glue [] (splitB kn ((strB s).drop (i + 1)))) := by
          simp only [Hid]
          rw [HSP.out, HS2.out, if_pos hzk, glue_nil _ (splitB_ne _ _), List.map_append, List.map_cons, List.map_nil, strB_extract]
          simp [glue]
        clear hzk k2
        go_wp2_with (at_builtin; refine kn_pushS rfl _ _ rfl _ ss rfl rfl (hK.al [.string (s.extract f i)] 9) (by omega) ?_; intro v5 w6 hK4)
        go_roundw
        case rel => exact ⟨i + 1, i + 1, ss ++ [s.extract f i], by omega, by omega, by go_num, by go_num, by rw [List.length_append]; simp; omega, by rw [Nat.sub_self, List.take_zero]; exact HS3.out, hK4⟩
        case measure => simp [intOf]; omega
      · have k1 : ((z : Int) == (kn : Int)) = false := by rw [beq_eq_false_iff_ne]; omega
        have HS3 : Hid (splitB kn (strB s) = ss.map strB ++ glue (((strB s).drop f).take (i + 1 - f)) (splitB kn ((strB s).drop (i + 1)))) := by
          simp only [Hid]
          rw [HSP.out, HS2.out, if_neg hzk, glue_glue, HP.out]
        clear hzk
        go_wp2_with fail
        go_roundw
        case rel => exact ⟨f, i + 1, ss, by omega, by omega, rfl, by go_num, by omega, HS3.out, hK⟩
        case measure => simp [intOf]; omega
    · have i1 : ¬ (i : Int) < (s.size : Int) := by omega
      have HS3 : Hid ((ss ++ [s.extract f s.size]).map strB = splitB kn (strB s)) := by
        simp only [Hid]
        rw [HSP.out, List.drop_of_length_le (show (strB s).length ≤ i by rw [HSL.out]; omega), List.map_append, List.map_cons, List.map_nil, strB_drop]
        simp only [splitB, glue, List.append_nil]
        rw [List.take_of_length_le (by rw [List.length_drop, HSL.out]; omega)]
      go_wp2_with (at_builtin; refine kn_pushS rfl _ _ rfl _ ss rfl rfl (hK.al [.string (s.extract f s.size)] 9) (by omega) ?_; intro v5 w6 hK4)
      obtain ⟨A, c, rfl⟩ := row_form hK4.at0
      go_ret
      exact ⟨A, c, _, rfl, HS3.out, hK4⟩
/-- the parts of bytes without blanks -/
def wordsB (bs : List UInt8) : List (List UInt8) := (splitB 32 bs).filter (fun l => !l.isEmpty)
def wordsG (p : List UInt8) (bs : List UInt8) : List (List UInt8) := (glue p (splitB 32 bs)).filter (fun l => !l.isEmpty)
set_option maxRecDepth 100000 in
set_option maxHeartbeats 1600000 in
theorem SplitWords_any (s : ByteArray) (w : World) (hs : s.size ≤ 1048576) :
    Calls Tryd.prog 202 #[.string s] w fun e w' => ∃ A c ss, e = .returned (.slice A ss.length c) ∧ ss.map strB = wordsB (strB s) ∧ Kn w [rowS (.slice A ss.length c) ss] w' := by
  have HSL := Lib.hid (strB_len s)
  go_enter Tryd.func202, Tryd.ntmps202
  have hK0 := ((Kn.nil w).al [] 9).litRow (n := 0) (size := 1) rfl (by decide)
  go_wp2_with fail
  go_loopw [3, 4, 9] (fun vv ff ii wr => ∃ (i : Nat) (ss : List ByteArray), i ≤ s.size ∧ ii = .int .i64 i ∧ ss.length ≤ i ∧
    ((ff = .int .i64 (-1) ∧ wordsB (strB s) = ss.map strB ++ wordsG [] ((strB s).drop i)) ∨
      ∃ f : Nat, f < i ∧ ff = .int .i64 f ∧ wordsB (strB s) = ss.map strB ++ wordsG (((strB s).drop f).take (i - f)) ((strB s).drop i)) ∧ Kn w [rowS vv ss] wr) (fun _ _ i _ => s.size - (intOf i).toNat)
  case atStart => exact ⟨0, [], by omega, rfl, by simp, .inl ⟨rfl, by simp [wordsB, wordsG, glue_nil _ (splitB_ne _ _)]⟩, hK0⟩
  case round =>
    rename_i vv ff _
    obtain ⟨i, ss, hi, rfl, hsl, hor, hK⟩ := hrel
    clear hK0
    have i0 : (0 : Int) ≤ (i : Int) := by omega
    have i2 : (i : Int) ≤ (s.size : Int) := by omega
    by_cases hlt : i < s.size
    · obtain ⟨q, hq⟩ : ∃ q : UInt8, s[i] = q := ⟨_, rfl⟩
      obtain ⟨z, hz⟩ : ∃ z : Nat, q.toNat = z := ⟨_, rfl⟩
      have hil : i < (strB s).length := by rw [HSL.out]; exact hlt
      have hg : (strB s)[i] = q := by rw [← hq, strB_get s hlt]
      have hdr : (strB s).drop i = q :: (strB s).drop (i + 1) := by rw [List.drop_eq_getElem_cons hil, hg]
      have i1 : (i : Int) < (s.size : Int) := by omega
      have HS2 := Lib.hid (show splitB 32 ((strB s).drop i) = if z = 32 then [] :: splitB 32 ((strB s).drop (i + 1)) else glue [q] (splitB 32 ((strB s).drop (i + 1))) by rw [hdr, splitB_cons, hz])
      have HPP := Lib.hid (fun f hf => take_piece (f := f) hil hf)
      rw [hg] at HPP
      clear hdr hg
      by_cases hzk : z = 32
      · have k1 : ((z : Int) == 32) = true := by rw [beq_iff_eq]; omega
        have k3 : ((z : Int) != 32) = false := by simp [bne, k1]
        have HZK := Lib.hid hzk
        clear hzk
        rcases hor with ⟨rfl, hsp⟩ | ⟨f, hf, rfl, hsp⟩
        · have HS3 : Hid (wordsB (strB s) = ss.map strB ++ wordsG [] ((strB s).drop (i + 1))) := by
            simp only [Hid]
            rw [hsp]; unfold wordsG
            rw [HS2.out, if_pos HZK.out, glue_nil (splitB 32 ((strB s).drop (i + 1))) (splitB_ne _ _)]
            simp [glue]
          clear hsp
          go_wp2_with fail
          go_roundw
          case rel => exact ⟨i + 1, ss, by omega, by go_num, by omega, .inl ⟨rfl, HS3.out⟩, hK⟩
          case measure => simp [intOf]; omega
        · have hne : (((strB s).drop f).take (i - f)).isEmpty = false := by
            cases h : ((strB s).drop f).take (i - f) with
            | nil =>
              have := congrArg List.length h
              rw [List.length_take, List.length_drop, HSL.out] at this
              simp at this; omega
            | cons a l => rfl
          have HS3 : Hid (wordsB (strB s) = (ss ++ [s.extract f i]).map strB ++ wordsG [] ((strB s).drop (i + 1))) := by
            simp only [Hid]
            rw [hsp]; unfold wordsG
            rw [HS2.out, if_pos HZK.out, List.map_append, List.map_cons, List.map_nil, strB_extract, glue_nil _ (splitB_ne _ _)]
            simp only [glue, List.append_nil]
            rw [List.filter_cons, hne]; simp
          have f0 : (0 : Int) ≤ (f : Int) := by omega
          have f1 : (f : Int) ≤ (i : Int) := by omega
          have f2 : ¬ (f : Int) < 0 := by omega
          clear hsp hne
          go_wp2_with (at_builtin; refine kn_pushS rfl _ _ rfl _ ss rfl rfl (hK.al [.string (s.extract f i)] 9) (by omega) ?_; intro v5 w6 hK4)
          go_roundw
          case rel => exact ⟨i + 1, ss ++ [s.extract f i], by omega, by go_num, by rw [List.length_append]; simp; omega, .inl ⟨rfl, HS3.out⟩, hK4⟩
          case measure => simp [intOf]; omega
      · have k1 : ((z : Int) == 32) = false := by rw [beq_eq_false_iff_ne]; omega
        have k3 : ((z : Int) != 32) = true := by simp [bne, k1]
        have HZK := Lib.hid hzk
        clear hzk
        rcases hor with ⟨rfl, hsp⟩ | ⟨f, hf, rfl, hsp⟩
        · have HS3 : Hid (wordsB (strB s) = ss.map strB ++ wordsG (((strB s).drop i).take (i + 1 - i)) ((strB s).drop (i + 1))) := by
            simp only [Hid]
            rw [hsp]; unfold wordsG
            rw [HS2.out, if_neg HZK.out, HPP.out i (Nat.le_refl _), glue_glue]; simp
          clear hsp
          go_wp2_with fail
          go_roundw
          case rel => exact ⟨i + 1, ss, by omega, by go_num, by omega, .inr ⟨i, by omega, rfl, HS3.out⟩, hK⟩
          case measure => simp [intOf]; omega
        · have HS3 : Hid (wordsB (strB s) = ss.map strB ++ wordsG (((strB s).drop f).take (i + 1 - f)) ((strB s).drop (i + 1))) := by
            simp only [Hid]
            rw [hsp]; unfold wordsG
            rw [HS2.out, if_neg HZK.out, HPP.out f (by omega), glue_glue]
          have f2 : ¬ (f : Int) < 0 := by omega
          have f0 : (0 : Int) ≤ (f : Int) := by omega
          clear hsp
          go_wp2_with fail
          go_roundw
          case rel => exact ⟨i + 1, ss, by omega, by go_num, by omega, .inr ⟨f, by omega, rfl, HS3.out⟩, hK⟩
          case measure => simp [intOf]; omega
    · have i1 : ¬ (i : Int) < (s.size : Int) := by omega
      have hdn : (strB s).drop i = [] := List.drop_of_length_le (show (strB s).length ≤ i by rw [HSL.out]; omega)
      rcases hor with ⟨rfl, hsp⟩ | ⟨f, hf, rfl, hsp⟩
      · have HS3 : Hid (ss.map strB = wordsB (strB s)) := by
          simp only [Hid]; rw [hsp, hdn]; simp [wordsG, splitB, glue]
        clear hsp hdn
        obtain ⟨A, c, rfl⟩ := row_form hK.at0
        go_wp2_with fail
        go_ret
        exact ⟨A, c, ss, rfl, HS3.out, hK⟩
      · have hne : (((strB s).drop f).take (i - f)).isEmpty = false := by
          cases h : ((strB s).drop f).take (i - f) with
          | nil =>
            have := congrArg List.length h
            rw [List.length_take, List.length_drop, HSL.out] at this
            simp at this; omega
          | cons a l => rfl
        have HS3 : Hid ((ss ++ [s.extract f s.size]).map strB = wordsB (strB s)) := by
          simp only [Hid]
          rw [hsp, hdn, List.map_append, List.map_cons, List.map_nil, strB_drop]; unfold wordsG
          simp only [splitB, glue, List.append_nil]
          rw [List.filter_cons, hne, List.take_of_length_le (by rw [List.length_drop, HSL.out]; omega)]; simp
        have f0 : (0 : Int) ≤ (f : Int) := by omega
        have f1 : (f : Int) ≤ (s.size : Int) := by omega
        clear hsp hdn hne
        go_wp2_with (at_builtin; refine kn_pushS rfl _ _ rfl _ ss rfl rfl (hK.al [.string (s.extract f s.size)] 9) (by omega) ?_; intro v5 w6 hK4)
        obtain ⟨A, c, rfl⟩ := row_form hK4.at0
        go_ret
        exact ⟨A, c, _, rfl, HS3.out, hK4⟩
/-- what stands in front of the first place of a text, and behind it -/
def cutB (p : List UInt8) : List UInt8 → Option (List UInt8 × List UInt8)
  | [] => none
  | b :: tl => if p.isPrefixOf (b :: tl) then some ([], (b :: tl).drop p.length) else (cutB p tl).map fun q => (b :: q.1, q.2)
theorem prefix_iff (p l : List UInt8) : p.isPrefixOf l = decide (l.take p.length = p) := by
  rw [Bool.eq_iff_iff, List.isPrefixOf_iff_prefix, List.prefix_iff_eq_take, decide_eq_true_eq]
  exact ⟨fun h => h.symm, fun h => h.symm⟩
theorem cutB_short (p : List UInt8) : ∀ l : List UInt8, l.length < p.length → cutB p l = none
  | [], _ => rfl
  | b :: tl, h => by
    simp only [cutB]
    have h1 : p.isPrefixOf (b :: tl) = false := by
      rw [prefix_iff]; refine decide_eq_false fun h2 => ?_
      have := congrArg List.length h2
      rw [List.length_take] at this; omega
    rw [h1, cutB_short p tl (by simp at h; omega)]; rfl
def cutX (p bs : List UInt8) : List UInt8 := ((cutB p bs).map (·.1)).getD bs
def cutY (p bs : List UInt8) : List UInt8 := ((cutB p bs).map (·.2)).getD []
set_option maxRecDepth 100000 in
set_option maxHeartbeats 1600000 in
theorem cut_any (s p : ByteArray) (w : World) (hs : s.size ≤ 1048576) (hp0 : 0 < p.size) (hp : p.size ≤ 1048576) :
    Calls Tryd.prog 219 #[.string s, .string p] w fun e w' => ∃ x y, e = .returned (.tuple #[.string x, .string y, .bool (cutB (strB p) (strB s)).isSome]) ∧ strB x = cutX (strB p) (strB s) ∧ strB y = cutY (strB p) (strB s) ∧ Below w.heap.size w w' := by
  have HSL := Lib.hid (strB_len s)
  have HPL := Lib.hid (strB_len p)
  obtain ⟨m, hm⟩ : ∃ m, p.size = m := ⟨_, rfl⟩
  rw [hm] at hp0 hp
  go_enter Tryd.func219, Tryd.ntmps219
  go_wp2_with fail
  go_loopw [7] (fun ii wr => ∃ i : Nat, i ≤ s.size + 1 ∧ ii = .int .i64 i ∧ cutB (strB p) (strB s) = (cutB (strB p) ((strB s).drop i)).map (fun q => ((strB s).take i ++ q.1, q.2)) ∧ w = wr) (fun i _ => s.size + 1 - (intOf i).toNat)
  case atStart => exact ⟨0, by omega, rfl, by simp, rfl⟩
  case round =>
    obtain ⟨i, hi, rfl, hcb, rfl⟩ := hrel
    have HCB := Lib.hid hcb
    clear hcb
    have i0 : (0 : Int) ≤ (i : Int) := by omega
    by_cases hle : i + m ≤ s.size
    · have i1 : (i : Int) + (m : Int) ≤ (s.size : Int) := by omega
      have i2 : (i : Int) ≤ (i : Int) + (m : Int) := by omega
      have hil : i < (strB s).length := by rw [HSL.out]; omega
      obtain ⟨q, hq⟩ : ∃ q : UInt8, (strB s)[i] = q := ⟨_, rfl⟩
      have hdr : (strB s).drop i = q :: (strB s).drop (i + 1) := by rw [List.drop_eq_getElem_cons hil, hq]
      have hT : (strB s).take (i + 1) = (strB s).take i ++ [q] := by rw [List.take_succ_eq_append_getElem hil, hq]
      have hpre : (strB p).isPrefixOf ((strB s).drop i) = ((s.extract i (i + m)).toList == p.toList) := by
        rw [prefix_iff, strB_toList, strB_toList, strB_extract, HPL.out, hm, show i + m - i = m by omega, Bool.eq_iff_iff, decide_eq_true_eq, beq_iff_eq]
      rcases hq2 : ((s.extract i (i + m)).toList == p.toList) with _ | _
      · have HC2 : Hid (cutB (strB p) (strB s) = (cutB (strB p) ((strB s).drop (i + 1))).map (fun q => ((strB s).take (i + 1) ++ q.1, q.2))) := by
          simp only [Hid]
          rw [HCB.out]
          rw [hq2, hdr] at hpre
          rw [hdr, cutB, hpre, hT]
          simp [Option.map_map, Function.comp_def]
        clear hdr hT hpre
        go_wp2_with fail
        go_roundw
        case rel => exact ⟨i + 1, by omega, by go_num, HC2.out, by first | rfl | trivial⟩
        case measure => simp [intOf]; omega
      · have HC2 : Hid (cutB (strB p) (strB s) = some ((strB s).take i, (strB s).drop (i + m))) := by
          simp only [Hid]
          rw [HCB.out]
          rw [hq2, hdr] at hpre
          rw [hdr, cutB, hpre, ← hdr]
          simp [HPL.out, hm, List.drop_drop]
        clear hdr hT hpre
        go_wp2_with fail
        go_region
        all_goals
          go_wp2_with fail
          refine bodyPost_ret (v := .tuple #[.string (s.extract 0 i), .string (s.extract (i + m) s.size), .bool true]) (by simp [results, Tryd.results219, go_sem]) rfl ⟨_, _, by rw [HC2.out]; rfl, ?_, ?_, ?_⟩
          · rw [strB_extract, cutX, HC2.out]; simp
          · rw [strB_drop, cutY, HC2.out]; rfl
          · first | exact Below.refl _ _ | exact (Below.refl _ _).drew
    · have i1 : ¬ (i : Int) + (m : Int) ≤ (s.size : Int) := by omega
      have HC2 : Hid (cutB (strB p) (strB s) = none) := by
        simp only [Hid]; rw [HCB.out, cutB_short _ _ (by rw [List.length_drop, HSL.out, HPL.out, hm]; omega)]; rfl
      go_wp2_with fail
      refine bodyPost_ret (v := .tuple #[.string s, .string ⟨#[]⟩, .bool false]) (by simp [results, Tryd.results219, go_sem]) rfl ⟨s, ⟨#[]⟩, by rw [HC2.out]; rfl, ?_, ?_, Below.refl _ _⟩
      · rw [cutX, HC2.out]; rfl
      · rw [cutY, HC2.out]; rfl
end Go.Proofs.YtlhcilmnfmglfaaDoor
