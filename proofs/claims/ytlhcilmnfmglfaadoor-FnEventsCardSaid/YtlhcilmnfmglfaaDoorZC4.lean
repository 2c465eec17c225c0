/- Part 4: lemmas and contracts of the claim's functions. -/
import Derived.Test.YtlhcilmnfmglfaaDoorZC1
import Derived.Test.YtlhcilmnfmglfaaDoorZC2
import Derived.Test.YtlhcilmnfmglfaaDoorZC3
import Derived.Deep.RegionHeld3
import Derived.Deep.DeepCutAuto
import Derived.Deep.RegionLaw
import Derived.Deep.AppendLies
namespace Go.Proofs.YtlhcilmnfmglfaaDoor
open Go.RowKit Go.Sort
/-- a fresh machine of a base and widths -/
def newT (b : Int) (n1 n2 n3 : Nat) : Tri := ⟨⟨b, digD b n1 0⟩, ⟨b, digD b n2 0⟩, ⟨b, digD b n3 0⟩, 0⟩
set_option maxRecDepth 100000 in
set_option maxHeartbeats 1600000 in
theorem l10New_any (b : Int) (n1 n2 n3 : Nat) (w : World) (b1 : 2 ≤ b) (b2 : b ≤ 16) (h1 : n1 ≤ 1000000) (h2 : n2 ≤ 1000000) (h3 : n3 ≤ 1000000) :
    Calls Tryd.prog 66 #[.int .i64 b, .int .i64 n1, .int .i64 n2, .int .i64 n3] w fun e w' => ∃ E1 g1 E2 g2 E3 g3, e = .returned (.agg #[.int .i64 b, .slice E1 (digD b n1 0).length g1, .int .i64 b, .slice E2 (digD b n2 0).length g2, .int .i64 b, .slice E3 (digD b n3 0).length g3, .int .i64 0]) ∧
      Kn w [rowI E3 g3 (digD b n3 0), rowI E2 g2 (digD b n2 0), rowI E1 g1 (digD b n1 0)] w' := by
  have K1 := (fun W => l02NewV_any b n1 0 W b1 b2 h1 (by decide) (by decide))
  have K2 := (fun W => l02NewV_any b n2 0 W b1 b2 h2 (by decide) (by decide))
  have K3 := (fun W => l02NewV_any b n3 0 W b1 b2 h3 (by decide) (by decide))
  obtain ⟨x1, hx1⟩ : ∃ x, digD b n1 0 = x := ⟨_, rfl⟩
  obtain ⟨x2, hx2⟩ : ∃ x, digD b n2 0 = x := ⟨_, rfl⟩
  obtain ⟨x3, hx3⟩ : ∃ x, digD b n3 0 = x := ⟨_, rfl⟩
  rw [hx1] at K1 ⊢
  rw [hx2] at K2 ⊢
  rw [hx3] at K3 ⊢
  have K1 := Lib.hid K1
  have K2 := Lib.hid K2
  have K3 := Lib.hid K3
  clear hx1 hx2 hx3
  go_enter Tryd.func66, Tryd.ntmps66
  go_wp2_with fail
  refine Calls.kn ((Kn.nil w).al [.int .i64 0, .slice none 0 0, .int .i64 0, .slice none 0 0, .int .i64 0, .slice none 0 0, .int .i64 0] 35) ?_; intro w1 hK1
  (with_reducible refine (K1.out _).mono ?_); rintro e w2 ⟨E1, g1, rfl, hKn⟩
  have hK2 := hK1.join hKn
  go_wp2_with fail
  refine Calls.kn (hK2.al [.int .i64 b, .slice E1 x1.length g1] 33) ?_; intro w3 hK3
  (with_reducible refine (K2.out _).mono ?_); rintro e w4 ⟨E2, g2, rfl, hKm⟩
  have hK4 := hK3.join hKm
  go_wp2_with fail
  refine Calls.kn (hK4.al [.int .i64 b, .slice E2 x2.length g2] 33) ?_; intro w5 hK5
  (with_reducible refine (K3.out _).mono ?_); rintro e w6 ⟨E3, g3, rfl, hKo⟩
  have hK6 := hK5.join hKo
  clear hK1 hK2 hK3 hK4 hK5 hKn hKm hKo
  obtain ⟨a1, a2, a3, d1, d2, d3, c1, c2, c3, -⟩ := hK6.cells
  go_wp2_with fail
  refine bodyPost.kn ((((((((hK6.front 5 rfl).st 0 (.int .i64 b)).st 1 (.slice E1 x1.length g1)).st 2 (.int .i64 b)).st 3 (.slice E2 x2.length g2)).st 4 (.int .i64 b)).st 5 (.slice E3 x3.length g3)).st 6 (.int .i64 0) |>.al_ _) ?_; intro w7 hK7
  clear a1 a2 a3 d1 d2 d3 c1 c2 c3
  obtain ⟨a1, a2, a3, -⟩ := hK7.cells
  refine bodyPost_ret (v := .agg #[.int .i64 b, .slice E1 x1.length g1, .int .i64 b, .slice E2 x2.length g2, .int .i64 b, .slice E3 x3.length g3, .int .i64 0]) (by simp [results, Tryd.results66, go_sem, a1]) rfl ⟨E1, g1, E2, g2, E3, g3, rfl, ?_⟩
  exact hK7.sel [1, 3, 5] 99 (by decide) (by decide)
end Go.Proofs.YtlhcilmnfmglfaaDoor

namespace Go.Proofs.YtlhcilmnfmglfaaDoor
open Go.RowKit Go.Sort
/-- a base and widths are those of machines -/
def nmOk (b n1 n2 n3 : Int) : Bool := (betB b 2 16 && betB n1 1 16 && betB n2 1 16 && betB n3 1 16) && vmach (newT b n1.toNat n2.toNat n3.toNat)
theorem regWidth_any (n : Int) (w : World) : Calls Tryd.prog 149 #[.int .i64 n] w fun e w' => e = .returned (.bool (betB n 1 16)) ∧ w = w' := by
  go_enter Tryd.func149, Tryd.ntmps149
  go_wp2_with (go_at_call 105; refine (between_any _ _ _ _).mono ?_; rintro e w' ⟨rfl, rfl⟩)
  go_ret
  exact ⟨rfl, rfl⟩
theorem l07Size_any (n : Int) (w : World) : Calls Tryd.prog 65 #[.int .i64 n] w fun e w' => e = .returned (.bool (betB n 1 16)) ∧ w = w' := by
  go_enter Tryd.func65, Tryd.ntmps65
  go_wp2_with (go_at_call 68; refine (l00In_any _ _ _ _).mono ?_; rintro e w' ⟨rfl, rfl⟩)
  go_ret
  exact ⟨rfl, rfl⟩
theorem specNewMachine_range (b n1 n2 n3 : Int) (w : World) (h : (betB b 2 16 && betB n1 1 16 && betB n2 1 16 && betB n3 1 16) = false) :
    Calls Tryd.prog 12 #[.int .i64 b, .int .i64 n1, .int .i64 n2, .int .i64 n3] w fun e w' => e = .returned (.tuple #[.agg #[.int .i64 0, .slice none 0 0, .int .i64 0, .slice none 0 0, .int .i64 0, .slice none 0 0, .int .i64 0], .int .i64 2]) ∧ Below w.heap.size w w' := by
  have KB := (fun W => l02Base_any b W)
  have K1 := (fun W => l07Size_any n1 W)
  have K2 := (fun W => l07Size_any n2 W)
  have K3 := (fun W => l07Size_any n3 W)
  rcases chain4 (betB b 2 16) (betB n1 1 16) (betB n2 1 16) (betB n3 1 16) with h1 | ⟨h1, h2⟩ | ⟨h1, h2, h3⟩ | ⟨h1, h2, h3, h4⟩ | ⟨h1, h2, h3, h4⟩
  case inr.inr.inr.inr => rw [h1, h2, h3, h4] at h; cases h
  all_goals
    rw [h1] at KB
    try rw [h2] at K1
    try rw [h3] at K2
    try rw [h4] at K3
    clear h h1
    try clear h2
    try clear h3
    try clear h4
    have KB := Lib.hid KB
    have K1 := Lib.hid K1
    have K2 := Lib.hid K2
    have K3 := Lib.hid K3
    go_enter Tryd.func12, Tryd.ntmps12
    go_wp2_with (first | (go_at_call 64; refine (KB.out _).mono ?_; rintro e w' ⟨rfl, rfl⟩) | (go_at_call 65; first | (with_reducible refine (K1.out _).mono ?_; rintro e w' ⟨rfl, rfl⟩) | (with_reducible refine (K2.out _).mono ?_; rintro e w' ⟨rfl, rfl⟩) | (with_reducible refine (K3.out _).mono ?_; rintro e w' ⟨rfl, rfl⟩)))
    refine bodyPost.kn ((Kn.nil w).al [.int .i64 0, .slice none 0 0, .int .i64 0, .slice none 0 0, .int .i64 0, .slice none 0 0, .int .i64 0] 35) ?_; intro w6 hK6
    obtain ⟨a1, a2, a3, -⟩ := hK6.cells
    exact bodyPost_ret (v := .tuple #[.agg #[.int .i64 0, .slice none 0 0, .int .i64 0, .slice none 0 0, .int .i64 0, .slice none 0 0, .int .i64 0], .int .i64 2]) (by simp [results, Tryd.results12, go_sem, a1]) rfl ⟨rfl, hK6.below⟩
/-- what NewMachine returns for widths in range -/
def NMRet (b : Int) (n1 n2 n3 : Nat) (v : Bool) (w : World) (e : Ending) (w' : World) : Prop :=
  (v = true ∧ ∃ E1 g1 E2 g2 E3 g3, e = .returned (.tuple #[.agg #[.int .i64 b, .slice E1 (digD b n1 0).length g1, .int .i64 b, .slice E2 (digD b n2 0).length g2, .int .i64 b, .slice E3 (digD b n3 0).length g3, .int .i64 0], .int .i64 0]) ∧ Kn w [rowI E3 g3 (digD b n3 0), rowI E2 g2 (digD b n2 0), rowI E1 g1 (digD b n1 0)] w') ∨
  (v = false ∧ e = .returned (.tuple #[.agg #[.int .i64 0, .slice none 0 0, .int .i64 0, .slice none 0 0, .int .i64 0, .slice none 0 0, .int .i64 0], .int .i64 2]) ∧ Below w.heap.size w w')
set_option maxRecDepth 100000 in
set_option maxHeartbeats 3200000 in
theorem specNewMachine_any (b : Int) (n1 n2 n3 : Nat) (v : Bool) (w : World) (hb1 : 2 ≤ b) (hb2 : b ≤ 16) (h1 : 1 ≤ n1) (h1' : n1 ≤ 16) (h2 : 1 ≤ n2) (h2' : n2 ≤ 16) (h3 : 1 ≤ n3) (h3' : n3 ≤ 16) (hv : vmach (newT b n1 n2 n3) = v) :
    Calls Tryd.prog 12 #[.int .i64 b, .int .i64 n1, .int .i64 n2, .int .i64 n3] w (NMRet b n1 n2 n3 v w) := by
  have B0 : betB b 2 16 = true := betB_iff.2 (by omega)
  have B1 : betB n1 1 16 = true := betB_iff.2 (by omega)
  have B2 : betB n2 1 16 = true := betB_iff.2 (by omega)
  have B3 : betB n3 1 16 = true := betB_iff.2 (by omega)
  have KB := Lib.hid (fun W => calls_val (l02Base_any b W) (congrArg Value.bool B0))
  have KW1 := Lib.hid (fun W => calls_val (l07Size_any n1 W) (congrArg Value.bool B1))
  have KW2 := Lib.hid (fun W => calls_val (l07Size_any n2 W) (congrArg Value.bool B2))
  have KW3 := Lib.hid (fun W => calls_val (l07Size_any n3 W) (congrArg Value.bool B3))
  unfold newT at hv
  have l1 := digD_len b n1 0
  have l2 := digD_len b n2 0
  have l3 := digD_len b n3 0
  unfold NMRet
  have KN := (fun W => l10New_any b n1 n2 n3 W hb1 hb2 (by omega) (by omega) (by omega))
  obtain ⟨x1, hx1⟩ : ∃ x, digD b n1 0 = x := ⟨_, rfl⟩
  obtain ⟨x2, hx2⟩ : ∃ x, digD b n2 0 = x := ⟨_, rfl⟩
  obtain ⟨x3, hx3⟩ : ∃ x, digD b n3 0 = x := ⟨_, rfl⟩
  rw [hx1] at KN hv l1 ⊢
  rw [hx2] at KN hv l2 ⊢
  rw [hx3] at KN hv l3 ⊢
  have KN := Lib.hid KN
  have KO := Lib.hid (fun (g : Nat) (E1 E2 E3 : Option Addr) (g1 g2 g3 : Nat) (W : World) (m : List Ent) (hK : Kn w (.blk g [.int .i64 b, .slice E1 x1.length g1, .int .i64 b, .slice E2 x2.length g2, .int .i64 b, .slice E3 x3.length g3, .int .i64 0] 35 :: rowI E3 g3 x3 :: rowI E2 g2 x2 :: rowI E1 g1 x1 :: m) W) =>
    calls_val (l10Ok_any ⟨g, 0, none⟩ ⟨⟨b, x1⟩, ⟨b, x2⟩, ⟨b, x3⟩, 0⟩ W (TriC.tri (A1 := E1) (c1 := g1) (A2 := E2) (c2 := g2) (A3 := E3) (c3 := g3) ⟨box7' hK, Kn.riv (hK.sel [3] 99 (by decide) (by decide)), Kn.riv (hK.sel [2] 99 (by decide) (by decide)), Kn.riv (hK.sel [1] 99 (by decide) (by decide))⟩) ⟨by unfold SmallReg; simp only []; omega, by unfold SmallReg; simp only []; omega, by unfold SmallReg; simp only []; omega⟩) (congrArg Value.bool hv))
  clear hx1 hx2 hx3 l1 l2 l3 B0 B1 B2 B3
  rcases v with _ | _
  all_goals
    clear hv
    go_enter Tryd.func12, Tryd.ntmps12
    go_wp2_with (first | (go_at_call 64; refine (KB.out _).mono ?_; rintro e w' ⟨rfl, rfl⟩) | (go_at_call 65; first | (with_reducible refine (KW1.out _).mono ?_; rintro e w' ⟨rfl, rfl⟩) | (with_reducible refine (KW2.out _).mono ?_; rintro e w' ⟨rfl, rfl⟩) | (with_reducible refine (KW3.out _).mono ?_; rintro e w' ⟨rfl, rfl⟩)))
    refine Calls.kn ((Kn.nil w).al [.int .i64 0, .slice none 0 0, .int .i64 0, .slice none 0 0, .int .i64 0, .slice none 0 0, .int .i64 0] 35) ?_; intro w1 hK1
    (with_reducible refine (KN.out _).mono ?_); rintro e w2 ⟨E1, g1, E2, g2, E3, g3, rfl, hKn⟩
    have hK2 := hK1.join hKn
    clear hK1 hKn
    go_wp2_with fail
    refine Calls.kn (hK2.al [.int .i64 b, .slice E1 x1.length g1, .int .i64 b, .slice E2 x2.length g2, .int .i64 b, .slice E3 x3.length g3, .int .i64 0] 35) ?_; intro w3 hK3
    refine (KO.out _ _ _ _ _ _ _ _ _ hK3).mono ?_; rintro e w4 ⟨rfl, q, rfl⟩
    have hK4 := hK3.drewN q
    generalize w3.drewN q = w4 at hK4 ⊢
    clear hK2 hK3
    obtain ⟨a1, a2, a3, d1, d2, d3, -⟩ := hK4.cells
    go_wp2_with fail
  · refine bodyPost.kn (((((((hK4.front 4 rfl).st 0 (.int .i64 0)).st 1 (.slice none 0 0)).st 2 (.int .i64 0)).st 3 (.slice none 0 0)).st 4 (.int .i64 0)).st 5 (.slice none 0 0) |>.st 6 (.int .i64 0)) ?_; intro w6 hK6
    clear a1 a2 a3 d1 d2 d3
    obtain ⟨a1, a2, a3, -⟩ := hK6.cells
    exact bodyPost_ret (v := .tuple #[.agg #[.int .i64 0, .slice none 0 0, .int .i64 0, .slice none 0 0, .int .i64 0, .slice none 0 0, .int .i64 0], .int .i64 2]) (by simp [results, Tryd.results12, go_sem, a1]) rfl (.inr ⟨by simp, by simp, hK6.below⟩)
  · refine bodyPost.kn (((((((hK4.front 4 rfl).st 0 (.int .i64 b)).st 1 (.slice E1 x1.length g1)).st 2 (.int .i64 b)).st 3 (.slice E2 x2.length g2)).st 4 (.int .i64 b)).st 5 (.slice E3 x3.length g3) |>.st 6 (.int .i64 0)) ?_; intro w6 hK6
    clear a1 a2 a3 d1 d2 d3
    obtain ⟨a1, a2, a3, -⟩ := hK6.cells
    exact bodyPost_ret (v := .tuple #[.agg #[.int .i64 b, .slice E1 x1.length g1, .int .i64 b, .slice E2 x2.length g2, .int .i64 b, .slice E3 x3.length g3, .int .i64 0], .int .i64 0]) (by simp [results, Tryd.results12, go_sem, a1]) rfl (.inl ⟨by simp, E1, g1, E2, g2, E3, g3, rfl, hK6.sel [2, 3, 4] 99 (by decide) (by decide)⟩)
end Go.Proofs.YtlhcilmnfmglfaaDoor

namespace Go.Proofs.YtlhcilmnfmglfaaDoor
open Go.RowKit Go.Sort
/-- accumulators: which registers they are, and what they show -/
def aOk (b : Int) (ds : List Int) : Bool := vreg b ds && decide (pw b ds.length ≤ 1000000000001)
def aSize (b : Int) (ds : List Int) : Int := if aOk b ds = true then pw b ds.length else 0
def isNm (n x : Int) : Bool := betB x (-(n.tdiv 2)) (n - 1 - n.tdiv 2)
def aNum (b : Int) (ds : List Int) : Int := if valL b ds ≤ pw b ds.length - 1 - (pw b ds.length).tdiv 2 then valL b ds else valL b ds - pw b ds.length
def aNorm (n x : Int) : Int := (x.tmod n + n).tmod n
def aSet (b : Int) (k : Nat) (x : Int) : List Int := digD b k (aNorm (pw b k) x)
theorem aOk_iff {b : Int} {ds : List Int} : aOk b ds = true ↔ vreg b ds = true ∧ pw b ds.length ≤ 1000000000001 := by
  unfold aOk; rw [Bool.and_eq_true, decide_eq_true_eq]
theorem aNorm_bd {n x : Int} (hn : 1 ≤ n) : 0 ≤ aNorm n x ∧ aNorm n x < n := by
  unfold aNorm
  have h1 : -n < x.tmod n ∧ x.tmod n < n := by
    rcases Int.le_total 0 x with h | h
    · rw [Int.tmod_eq_emod_of_nonneg h]
      have := Int.emod_nonneg x (show n ≠ 0 by omega)
      have := Int.emod_lt_of_pos x (show 0 < n by omega)
      omega
    · have h2 := Int.neg_tmod (-x) n
      rw [Int.neg_neg] at h2
      rw [h2, Int.tmod_eq_emod_of_nonneg (by omega)]
      have := Int.emod_nonneg (-x) (show n ≠ 0 by omega)
      have := Int.emod_lt_of_pos (-x) (show 0 < n by omega)
      omega
  rw [Int.tmod_eq_emod_of_nonneg (by omega)]
  exact ⟨Int.emod_nonneg _ (by omega), Int.emod_lt_of_pos _ (by omega)⟩
theorem half_bd {n : Int} (hn : 0 ≤ n) : 0 ≤ n.tdiv 2 ∧ 2 * n.tdiv 2 ≤ n ∧ n ≤ 2 * n.tdiv 2 + 1 := by
  rw [Int.tdiv_eq_ediv_of_nonneg hn]; omega
theorem valL_in {b : Int} {ds : List Int} (h : aOk b ds = true) : 0 ≤ valL b ds ∧ valL b ds < pw b ds.length ∧ 1 ≤ pw b ds.length ∧ pw b ds.length ≤ 1000000000001 := by
  obtain ⟨h1, h2⟩ := aOk_iff.1 h
  obtain ⟨⟨b1, b2⟩, -, hd, -⟩ := vreg_iff.1 h1
  exact ⟨(valL_bd b b1 ds (fun d hd' => (hd d hd').1)).1, valL_lt b b1 ds hd, pw_pos b b1 _, h2⟩
theorem aNum_bd {b : Int} {ds : List Int} (h : aOk b ds = true) : -1000000000001 ≤ aNum b ds ∧ aNum b ds ≤ 1000000000001 := by
  have := valL_in h
  unfold aNum
  split <;> omega
end Go.Proofs.YtlhcilmnfmglfaaDoor

namespace Go.Proofs.YtlhcilmnfmglfaaDoor
open Go.RowKit Go.Sort
/-- what a function that adds a number returns -/
def anuC (b : Int) (ds : List Int) (x : Int) : Int := if aOk b ds = false then 1 else if betB x (-1000000000000) 1000000000000 = false then 2 else 0
def ANRet (b : Int) (ds : List Int) (x : Int) (w : World) (e : Ending) (w' : World) : Prop :=
  (anuC b ds x ≠ 0 ∧ e = .returned (.tuple #[.agg #[.int .i64 0, .slice none 0 0], .bool false, .int .i64 (anuC b ds x)]) ∧ Below w.heap.size w w') ∨
  (anuC b ds x = 0 ∧ ∃ E g, e = .returned (.tuple #[.agg #[.int .i64 b, .slice E (aSet b ds.length (aNum b ds + x)).length g], .bool (!isNm (pw b ds.length) (aNum b ds + x)), .int .i64 0]) ∧ Kn w [rowI E g (aSet b ds.length (aNum b ds + x))] w')
end Go.Proofs.YtlhcilmnfmglfaaDoor

namespace Go.Proofs.YtlhcilmnfmglfaaDoor
open Go.RowKit Go.Sort
/-- a register in a block -/
def RegB (w : World) (g : Nat) (b : Int) (A : Option Addr) (c : Nat) (ds : List Int) : Prop := (w.cell? ⟨g, 0, none⟩ = some (.int .i64 b) ∧ w.cell? ⟨g, 1, none⟩ = some (.slice A ds.length c)) ∧ RI w A ds.length ds
theorem RegB.below {w w' : World} {g : Nat} {b : Int} {A : Option Addr} {c : Nat} {ds : List Int} (h : RegB w g b A c ds) (hb : Below w.heap.size w w') : RegB w' g b A c ds := by
  have hlt : g < w.heap.size := World.block_lt_of_cell? w _ h.1.1
  exact ⟨⟨(hb.cell (p := ⟨g, 0, none⟩) hlt).trans h.1.1, (hb.cell (p := ⟨g, 1, none⟩) hlt).trans h.1.2⟩, h.2.below hb⟩
theorem tmod_bd {n x : Int} (hn : 1 ≤ n) : -n < x.tmod n ∧ x.tmod n < n := by
  rcases Int.le_total 0 x with h | h
  · rw [Int.tmod_eq_emod_of_nonneg h]
    have := Int.emod_nonneg x (show n ≠ 0 by omega)
    have := Int.emod_lt_of_pos x (show 0 < n by omega)
    omega
  · have h2 := Int.neg_tmod (-x) n
    rw [Int.neg_neg] at h2
    rw [h2, Int.tmod_eq_emod_of_nonneg (by omega)]
    have := Int.emod_nonneg (-x) (show n ≠ 0 by omega)
    have := Int.emod_lt_of_pos (-x) (show 0 < n by omega)
    omega
end Go.Proofs.YtlhcilmnfmglfaaDoor

namespace Go.Proofs.YtlhcilmnfmglfaaDoor
open Go.RowKit Go.Sort
theorem isNm_val {n v : Int} (hn : 1 ≤ n) (h0 : 0 ≤ v) : isNm n v = decide (v ≤ n - 1 - n.tdiv 2) := by
  have hh := half_bd (n := n) (by omega)
  unfold isNm
  rw [Bool.eq_iff_iff, betB_iff, decide_eq_true_eq]
  omega
end Go.Proofs.YtlhcilmnfmglfaaDoor

namespace Go.Proofs.YtlhcilmnfmglfaaDoor
open Go.RowKit Go.Sort
/-- how far each wheel is turned to come to 0 -/
def ctL (b : Int) (ds : List Int) : List Int := ds.map (fun d => (b - d).tmod b)
def ctR (b : Int) (ds : List Int) : List Int := if vreg b ds then ctL b ds else []
def CTRet (b : Int) (ds : List Int) (w : World) (e : Ending) (w' : World) : Prop := ∃ E k, e = .returned (.tuple #[.slice E (ctR b ds).length k, .int .i64 (if vreg b ds then 0 else 1)]) ∧ Kn w [rowI E k (ctR b ds)] w'
theorem ctL_take {b : Int} {ds : List Int} {k : Nat} (h : k < ds.length) : ctL b (ds.take (k + 1)) = ctL b (ds.take k) ++ [(b - ds[k]).tmod b] := by
  unfold ctL; rw [List.take_succ_eq_append_getElem h, List.map_append]; rfl
theorem ctL_len (b : Int) (ds : List Int) : (ctL b ds).length = ds.length := by unfold ctL; rw [List.length_map]
end Go.Proofs.YtlhcilmnfmglfaaDoor

namespace Go.Proofs.YtlhcilmnfmglfaaDoor
open Go.RowKit Go.Sort
def tfC (b : Int) (ds : List Int) (b' : Int) (es : List Int) : Int := if (aOk b ds && aOk b' es) = false then 1 else if b ≠ b' then 6 else 0
/-- what a transfer returns -/
def TFRet (b : Int) (ds : List Int) (b' : Int) (es : List Int) (w : World) (e : Ending) (w' : World) : Prop :=
  (tfC b ds b' es ≠ 0 ∧ e = .returned (.tuple #[.agg #[.int .i64 0, .slice none 0 0], .agg #[.int .i64 0, .slice none 0 0], .bool false, .int .i64 (tfC b ds b' es)]) ∧ Below w.heap.size w w') ∨
  (tfC b ds b' es = 0 ∧ ∃ E1 k1 E2 k2, e = .returned (.tuple #[.agg #[.int .i64 b, .slice E1 (digD b ds.length 0).length k1], .agg #[.int .i64 b', .slice E2 (aSet b' es.length (aNum b' es + aNum b ds)).length k2], .bool (!isNm (pw b' es.length) (aNum b' es + aNum b ds)), .int .i64 0]) ∧
    Kn w [rowI E2 k2 (aSet b' es.length (aNum b' es + aNum b ds)), rowI E1 k1 (digD b ds.length 0)] w')
theorem tfC_bad {b b' : Int} {ds es : List Int} (h : (aOk b ds && aOk b' es) = false) : tfC b ds b' es = 1 := by unfold tfC; rw [if_pos h]
end Go.Proofs.YtlhcilmnfmglfaaDoor

namespace Go.Proofs.YtlhcilmnfmglfaaDoor
open Go.RowKit Go.Sort
def accD (b : Int) (ds xs : List Int) : Nat → List Int
  | 0 => ds
  | k + 1 => aSet b ds.length (aNum b (accD b ds xs k) + xs.getD k 0)
def accB (b : Int) (ds xs : List Int) : Nat → List Int
  | 0 => []
  | k + 1 => if isNm (pw b ds.length) (aNum b (accD b ds xs k) + xs.getD k 0) = true then accB b ds xs k else accB b ds xs k ++ [(k : Int)]
def inA (xs : List Int) : Bool := xs.all (fun x => betB x (-1000000000000) 1000000000000)
def aaC (b : Int) (ds xs : List Int) : Int := if aOk b ds = false then 1 else if inA xs = false then 2 else 0
theorem aSet_len (b : Int) (k : Nat) (x : Int) : (aSet b k x).length = k := digD_len ..
theorem accD_len (b : Int) (ds xs : List Int) (k : Nat) : (accD b ds xs k).length = ds.length := by
  cases k with
  | zero => rfl
  | succ k => exact aSet_len ..
theorem accB_len (b : Int) (ds xs : List Int) (k : Nat) : (accB b ds xs k).length ≤ k := by
  induction k with
  | zero => simp [accB]
  | succ k ih => unfold accB; split; omega; rw [List.length_append]; simp; omega
theorem aSet_ok {b : Int} {ds : List Int} (h : aOk b ds = true) (x : Int) : aOk b (aSet b ds.length x) = true := by
  obtain ⟨h1, h2⟩ := aOk_iff.1 h
  obtain ⟨⟨b1, b2⟩, ⟨n1, n2⟩, -⟩ := vreg_iff.1 h1
  have hp := pw_pos b b1 ds.length
  have hb := aNorm_bd (n := pw b ds.length) (x := x) hp
  refine aOk_iff.2 ⟨?_, by rw [aSet_len]; exact h2⟩
  exact digD_vreg b b1 b2 _ n1 n2 _ hb.1 hb.2 (by omega)
theorem accD_ok {b : Int} {ds : List Int} (h : aOk b ds = true) (xs : List Int) (k : Nat) : aOk b (accD b ds xs k) = true := by
  cases k with
  | zero => exact h
  | succ k => exact aSet_ok h _
theorem inA_take_succ {xs : List Int} {k : Nat} (h : k < xs.length) : inA (xs.take (k + 1)) = (inA (xs.take k) && betB xs[k] (-1000000000000) 1000000000000) := by
  unfold inA; rw [List.take_succ_eq_append_getElem h, List.all_append]; simp only [List.all_cons, List.all_nil, Bool.and_true]
theorem inA_not {xs : List Int} {k : Nat} (h : k < xs.length) (h1 : betB xs[k] (-1000000000000) 1000000000000 = false) : inA xs = false := by
  simp only [inA, List.all_eq_false]; exact ⟨xs[k], List.getElem_mem _, by simp [h1]⟩
/-- what the adding of numbers returns -/
def AARet (b : Int) (ds xs : List Int) (w : World) (e : Ending) (w' : World) : Prop :=
  (aaC b ds xs ≠ 0 ∧ e = .returned (.tuple #[.agg #[.int .i64 0, .slice none 0 0], .slice none 0 0, .int .i64 (aaC b ds xs)]) ∧ Below w.heap.size w w') ∨
  (aaC b ds xs = 0 ∧ ∃ E k B m, e = .returned (.tuple #[.agg #[.int .i64 b, .slice E (accD b ds xs xs.length).length k], .slice B (accB b ds xs xs.length).length m, .int .i64 0]) ∧
    Kn w [rowI B m (accB b ds xs xs.length), rowI E k (accD b ds xs xs.length)] w')
theorem accD_succ (b : Int) (ds : List Int) {xs : List Int} {i : Nat} (h : i < xs.length) : accD b ds xs (i + 1) = aSet b ds.length (aNum b (accD b ds xs i) + xs[i]) := by rw [← getD_of h]; rfl
theorem accB_succ (b : Int) (ds : List Int) {xs : List Int} {i : Nat} (h : i < xs.length) : accB b ds xs (i + 1) = if isNm (pw b ds.length) (aNum b (accD b ds xs i) + xs[i]) = true then accB b ds xs i else accB b ds xs i ++ [(i : Int)] := by rw [← getD_of h]; rfl
theorem inA_get {xs : List Int} (h : inA xs = true) {i : Nat} (hi : i < xs.length) : betB xs[i] (-1000000000000) 1000000000000 = true := by
  unfold inA at h
  exact List.all_eq_true.1 h _ (List.getElem_mem _)
end Go.Proofs.YtlhcilmnfmglfaaDoor

namespace Go.Proofs.YtlhcilmnfmglfaaDoor
open Go.RowKit Go.Sort
end Go.Proofs.YtlhcilmnfmglfaaDoor

namespace Go.Proofs.YtlhcilmnfmglfaaDoor
open Go.RowKit Go.Sort
/-- what the drawing of a good register returns -/
def DReg (b M : Nat) (w : World) (e : Ending) (w' : World) : Prop := ∃ (bs : Int) (A : Option Addr) (c : Nat) (ds : List Int), e = .returned (.agg #[.int .i64 bs, .slice A ds.length c]) ∧ (2 ≤ bs ∧ bs ≤ 12 ∧ 1 ≤ ds.length ∧ ds.length ≤ 6) ∧ DR b M w [rowI A c ds] w'
theorem min6 {q k : Nat} (h : 0 ≤ (q : Int) ∧ ((q : Int) < min 6 (k : Int) ∨ min 6 (k : Int) ≤ 1 ∧ (q : Int) = 0)) : q ≤ 5 := by omega
theorem wrapQ {q : Nat} (h : q ≤ 5) : IntKind.i64.wrap (1 + (q : Int)) = ((q + 1 : Nat) : Int) := by rw [wrapI64 (by omega)]; omega
set_option maxRecDepth 100000 in
set_option maxHeartbeats 1600000 in
theorem l02Draw_dr (b N : Nat) (w : World) (h : Src w b N) (hN : N ≤ 800000) :
    Calls Tryd.prog 96 #[.pointer (some ⟨b, 0, none⟩), .int .i64 6] w (DReg b (N + 40) w) := by
  unfold DReg
  have D0 := DR.nil h
  clear h
  go_enter Tryd.func96, Tryd.ntmps96
  go_wp2_with fail
  refine Calls.dr (D0.al [.int .i64 0, .slice none 0 0] 33) ?_; intro w1 D1
  refine (pick_dr b N 11 w1 D1.src (by omega)).mono ?_; rintro e w2 ⟨x, rfl, hx, h2⟩
  have D2 := D1.add h2
  clear D0 D1 h2
  obtain ⟨x0, hx1⟩ := hx
  have x1 : x < 11 := by omega
  clear hx1
  obtain ⟨g0, hg0⟩ : ∃ g, w.heap.size = g := ⟨_, rfl⟩
  rw [hg0] at D2 ⊢
  go_wp2_with fail
  refine Calls.dr (D2.al [.int .i64 (2 + x), .slice none 0 0] 33) ?_; intro w3 D3
  obtain ⟨g, hg⟩ : ∃ g, w2.heap.size = g := ⟨_, rfl⟩
  rw [hg] at D3 ⊢
  clear hg D2
  refine (one_dr b _ 2 w3 D3.src (by omega)).mono ?_; rintro e w4 ⟨y, rfl, h4⟩
  have D4 := D3.add h4
  clear D3 h4
  obtain ⟨bs, hbs⟩ : ∃ z, 2 + x = z := ⟨_, rfl⟩
  rw [hbs] at D4
  have b1 : 2 ≤ bs := by omega
  have b2 : bs ≤ 12 := by omega
  clear hbs
  obtain ⟨a1, a2, a3, -⟩ := D4.cells
  rcases y with _ | _
  · go_wp2_with fail
    have HG := Lib.hid (D4.drew.box2.1)
    have HT := HG
    go_region_held3 (fun W => W.cell? ⟨g, 0, none⟩ = some (.int .i64 bs)) (first | with_reducible exact HG.out | with_reducible exact HT.out | exact HG.out | exact HT.out) (first
      | (go_at_call 153; (with_reducible refine (l02Most_any _ _).mono ?_); rintro e w5 ⟨⟨k, rfl, k1, k2⟩, rfl⟩)
      | (go_at_call 134; (with_reducible refine (l00Min_any _ _ _).mono ?_); rintro e w5 ⟨rfl, rfl⟩)
      | (go_at_call 146; (with_reducible refine (pick_dr b _ _ _ D4.drew.src (by omega)).mono ?_); rintro e w5 ⟨y, rfl, hy, h5⟩; have D5 := D4.drew.add h5; clear HG; have HG := Lib.hid (D5.box2.1); obtain ⟨q, rfl⟩ : ∃ q : Nat, y = q := ⟨y.toNat, by omega⟩; have hq := min6 hy; have hq1 := wrapQ hq)
      | (go_at_call 97; rw [show (q : Int) + 1 = ((q + 1 : Nat) : Int) from rfl]; refine (digits_dr b _ _ (q + 1) _ D5.src (by omega) (by omega) (by omega) (by omega)).mono ?_; rintro e w6 ⟨A, c, ds, rfl, hl, hd, h6⟩; have D6 := D5.add h6; clear HG; have HG := Lib.hid ((D6.front 1 rfl).box2.1); obtain ⟨x1, x2, x3, -⟩ := (D6.front 1 rfl).cells; have D8 := (D6.front 1 rfl).st 1 (.slice A (q + 1) c); clear HT; have HT := Lib.hid (D8.box2.1)))
    all_goals
      clear D5 D6 HG HT
      try clear x1 x2 x3
      try clear a1 a2 a3
      generalize w6.setCell ⟨g, 1, none⟩ (.slice A (q + 1) c) = w8 at D8 ⊢
      obtain ⟨a1, a2, a3, -⟩ := D8.cells
      obtain ⟨d1, d2, d3, -⟩ := (D8.front 2 rfl).cells
      go_wp2_with fail
      refine bodyPost.dr (((D8.front 2 rfl).st 0 (.int .i64 bs)).st 1 (.slice A (q + 1) c)) ?_; intro w9 D9
      clear a1 a2 a3 d1 d2 d3
      obtain ⟨a1, a2, a3, -⟩ := D9.cells
      refine bodyPost_ret (v := .agg #[.int .i64 bs, .slice A (q + 1) c]) (by simp [results, Tryd.results96, go_sem, a1]) rfl ⟨bs, A, c, ds, by rw [hl], by omega, ?_⟩
      have hq' := hq
      exact (D9.sel [2] 99 (by decide) (by decide)).mono (by omega)
  · go_upto_region 4 with fail
    refine Code.wp.dr ((D4.front 0 rfl).st 0 (.int .i64 10)) ?_; intro w4 D4
    clear a1 a2 a3
    obtain ⟨a1, a2, a3, -⟩ := D4.cells
    have HG := Lib.hid (D4.drew.box2.1)
    have HT := HG
    go_region_held3 (fun W => W.cell? ⟨g, 0, none⟩ = some (.int .i64 10)) (first | with_reducible exact HG.out | with_reducible exact HT.out | exact HG.out | exact HT.out) (first
      | (go_at_call 153; (with_reducible refine (l02Most_any _ _).mono ?_); rintro e w5 ⟨⟨k, rfl, k1, k2⟩, rfl⟩)
      | (go_at_call 134; (with_reducible refine (l00Min_any _ _ _).mono ?_); rintro e w5 ⟨rfl, rfl⟩)
      | (go_at_call 146; (with_reducible refine (pick_dr b _ _ _ D4.drew.src (by omega)).mono ?_); rintro e w5 ⟨y, rfl, hy, h5⟩; have D5 := D4.drew.add h5; clear HG; have HG := Lib.hid (D5.box2.1); obtain ⟨q, rfl⟩ : ∃ q : Nat, y = q := ⟨y.toNat, by omega⟩; have hq := min6 hy; have hq1 := wrapQ hq)
      | (go_at_call 97; rw [show (q : Int) + 1 = ((q + 1 : Nat) : Int) from rfl]; refine (digits_dr b _ _ (q + 1) _ D5.src (by omega) (by omega) (by omega) (by omega)).mono ?_; rintro e w6 ⟨A, c, ds, rfl, hl, hd, h6⟩; have D6 := D5.add h6; clear HG; have HG := Lib.hid ((D6.front 1 rfl).box2.1); obtain ⟨x1, x2, x3, -⟩ := (D6.front 1 rfl).cells; have D8 := (D6.front 1 rfl).st 1 (.slice A (q + 1) c); clear HT; have HT := Lib.hid (D8.box2.1)))
    all_goals
      clear D5 D6 HG HT
      try clear x1 x2 x3
      try clear a1 a2 a3
      generalize w6.setCell ⟨g, 1, none⟩ (.slice A (q + 1) c) = w8 at D8 ⊢
      obtain ⟨a1, a2, a3, -⟩ := D8.cells
      obtain ⟨d1, d2, d3, -⟩ := (D8.front 2 rfl).cells
      go_wp2_with fail
      refine bodyPost.dr (((D8.front 2 rfl).st 0 (.int .i64 10)).st 1 (.slice A (q + 1) c)) ?_; intro w9 D9
      clear a1 a2 a3 d1 d2 d3
      obtain ⟨a1, a2, a3, -⟩ := D9.cells
      refine bodyPost_ret (v := .agg #[.int .i64 10, .slice A (q + 1) c]) (by simp [results, Tryd.results96, go_sem, a1]) rfl ⟨10, A, c, ds, by rw [hl], by omega, ?_⟩
      have hq' := hq
      exact (D9.sel [2] 99 (by decide) (by decide)).mono (by omega)
end Go.Proofs.YtlhcilmnfmglfaaDoor

namespace Go.Proofs.YtlhcilmnfmglfaaDoor
open Go.RowKit Go.Sort
end Go.Proofs.YtlhcilmnfmglfaaDoor

namespace Go.Proofs.YtlhcilmnfmglfaaDoor
open Go.RowKit Go.Sort
theorem DR.ad {b N : Nat} {w wi w' : World} {m m' : List Ent} (h : DR b N w m wi) (h1 : Kn wi m' w') : DR b N w (m' ++ m) w' := h.kn (fun _ hK => hK.join h1)
theorem pw_12 {b : Int} (b1 : 2 ≤ b) (b2 : b ≤ 12) (k : Nat) : pw b k ≤ pw 12 k := by
  induction k with
  | zero => exact Int.le_refl _
  | succ k ih =>
    rw [pw_succ, pw_succ]
    have := pw_pos b b1 k
    exact Int.mul_le_mul ih b2 (by omega) (by have := pw_pos 12 (by omega) k; omega)
theorem pw_small {b : Int} (b1 : 2 ≤ b) (b2 : b ≤ 12) {k : Nat} (hk : k ≤ 6) : pw b k ≤ 2985984 := by
  have h1 := pw_12 b1 b2 k
  have h2 := pw_mono 12 (by omega) k 6 hk
  have h3 : pw 12 6 = 2985984 := by decide
  omega
/-- what the drawing of a register returns -/
def DReg2 (b M : Nat) (w : World) (e : Ending) (w' : World) : Prop := ∃ (bs : Int) (A : Option Addr) (c : Nat) (ds : List Int), e = .returned (.agg #[.int .i64 bs, .slice A ds.length c]) ∧ ds.length ≤ 20 ∧ DR b M w [rowI A c ds] w'
end Go.Proofs.YtlhcilmnfmglfaaDoor

namespace Go.Proofs.YtlhcilmnfmglfaaDoor
open Go.RowKit Go.Sort
theorem DR.setI {b N : Nat} {w wi : World} {m : List Ent} {g c : Nat} {ds : List Int} (h : DR b N w (rowI (some ⟨g, 0, none⟩) c ds :: m) wi) (j : Nat) (v : Int) : DR b N w (rowI (some ⟨g, 0, none⟩) c (ds.set j v) :: m) (wi.setCell ⟨g, j, none⟩ (.int .i64 v)) := h.kn (fun _ hK => hK.setI j v)
theorem DR.rowCell {b N : Nat} {w wi : World} {m : List Ent} {g c : Nat} {ds : List Int} (h : DR b N w (rowI (some ⟨g, 0, none⟩) c ds :: m) wi) {j : Nat} (hj : j < ds.length) : wi.cell? ⟨g, j, none⟩ = some (.int .i64 ds[j]) ∧ wi.frozen? ⟨g, j, none⟩ = false ∧ g < wi.heap.size := by
  obtain ⟨v, -, -, hK⟩ := h
  have h1 := Kn.rowCell hK (j := j) (u := .int .i64 ds[j]) (by simp [hj])
  exact ⟨h1.1, h1.2, World.block_lt_of_cell? wi _ h1.1⟩
theorem DR.rowForm {b N : Nat} {w wi : World} {m : List Ent} {A : Option Addr} {c : Nat} {ds : List Int} (h : DR b N w (rowI A c ds :: m) wi) (hd : 0 < ds.length) : ∃ g, A = some ⟨g, 0, none⟩ := by
  obtain ⟨v, -, -, hK⟩ := h
  obtain ⟨g, c', he⟩ := Kn.rowForm hK hd
  injection he with he
  exact ⟨g, he⟩
theorem idxL {j L : Nat} (h : 0 ≤ (j : Int) ∧ ((j : Int) < (L : Int) ∨ (L : Int) ≤ 1 ∧ (j : Int) = 0)) (h1 : 1 ≤ L) : j < L := by omega
end Go.Proofs.YtlhcilmnfmglfaaDoor

namespace Go.Proofs.YtlhcilmnfmglfaaDoor
open Go.RowKit Go.Sort
end Go.Proofs.YtlhcilmnfmglfaaDoor

namespace Go.Proofs.YtlhcilmnfmglfaaDoor
open Go.RowKit Go.Sort
/-- a register that a law's draw returns -/
def DrawsReg (w : World) (e : Ending) (w' : World) : Prop := ∃ (bs : Int) (A : Option Addr) (c : Nat) (ds : List Int), e = .returned (.agg #[.int .i64 bs, .slice A ds.length c]) ∧ ds.length ≤ 20 ∧ Kn w [rowI A c ds] w'
end Go.Proofs.YtlhcilmnfmglfaaDoor

namespace Go.Proofs.YtlhcilmnfmglfaaDoor
open Go.RowKit Go.Sort
end Go.Proofs.YtlhcilmnfmglfaaDoor

namespace Go.Proofs.YtlhcilmnfmglfaaDoor
open Go.RowKit Go.Sort
/-- what the draw of two registers returns -/
def Draws2 (w : World) (e : Ending) (w' : World) : Prop := ∃ (b : Int) (A : Option Addr) (c : Nat) (ds : List Int) (b2 : Int) (B : Option Addr) (k : Nat) (es : List Int), e = .returned (.tuple #[.agg #[.int .i64 b, .slice A ds.length c], .agg #[.int .i64 b2, .slice B es.length k]]) ∧ (ds.length ≤ 20 ∧ es.length ≤ 20) ∧ Kn w [rowI A c ds, rowI B k es] w'
theorem pick5 {q : Nat} (h : 0 ≤ (q : Int) ∧ ((q : Int) < 5 ∨ (5 : Int) ≤ 1 ∧ (q : Int) = 0)) : q ≤ 5 := by omega
end Go.Proofs.YtlhcilmnfmglfaaDoor

namespace Go.Proofs.YtlhcilmnfmglfaaDoor
open Go.RowKit Go.Sort
set_option maxHeartbeats 400000 in
theorem sameNumbers_any (A B : Option Addr) (n c m d : Nat) (ds es : List Int) (w : World) (hr : RI w A n ds) (hs : RI w B m es) (hm : n ≤ 9223372036854775807) (hm2 : m ≤ 9223372036854775807) :
    Calls Tryd.prog 177 #[.slice A n c, .slice B m d] w fun e w' => e = .returned (.bool (decide (ds = es))) ∧ ∃ q, w' = w.drewN q := by
  have HL := Lib.hid hr.1
  have HM := Lib.hid hs.1
  by_cases hnm : n = m
  · subst hnm
    go_enter Tryd.func177, Tryd.ntmps177
    go_wp2
    go_loopw [13] (fun i wr => ∃ k : Nat, k ≤ n ∧ i = .int .i64 k ∧ ds.take k = es.take k ∧ ∃ q, wr = w.drewN q) (fun i _ => n - (intOf i).toNat)
    case atStart => exact ⟨0, Nat.zero_le _, rfl, by simp, 0, rfl⟩
    case round =>
      obtain ⟨k, hk, rfl, hdg, q, rfl⟩ := hrel
      have HD := Lib.hid hdg; clear hdg
      by_cases hkn : k < n
      · obtain ⟨ad, hA, hlt, hkl, hc⟩ := hr.at_ hkn
        obtain ⟨ad2, hB, hlt2, hkl2, hc2⟩ := hs.at_ hkn
        subst hA; subst hB
        have hi0 : (0 : Int) ≤ (k : Int) := by omega
        have hi1 : (k : Int) < (n : Int) := by omega
        rcases hd : (ds[k] != es[k]) with _ | _
        · go_wp2
          go_quiet (fail)
          go_wp2
          have he : ds[k] = es[k] := by simpa using hd
          have HE := Lib.hid he; clear he
          go_roundw
          case rel => exact ⟨k + 1, by omega, by go_num, take_eq_of_succ HD.out hkl hkl2 HE.out, by first | exact ⟨_, rfl⟩ | exact ⟨_, World.drewN_drewN _ _ _⟩⟩
          case measure => simp [intOf]; omega
        · go_wp2
          go_quiet (fail)
          go_wp2
          go_ret
          refine ⟨ret_bool ?_, by first | exact ⟨_, rfl⟩ | exact ⟨_, World.drewN_drewN _ _ _⟩⟩
          have : ds ≠ es := by rintro rfl; simp at hd
          simp [this]
      · have HF : Hid (ds = es) := by
          have := HD.out
          rwa [List.take_of_length_le (by have := HL.out; omega), List.take_of_length_le (by have := HM.out; omega)] at this
        go_wp2
        go_ret
        exact ⟨ret_bool (by simp [HF.out]), q, rfl⟩
  · have HF : Hid (ds ≠ es) := by rintro rfl; exact hnm (hr.1.symm.trans hs.1)
    go_enter Tryd.func177, Tryd.ntmps177
    go_wp2
    go_ret
    exact ⟨ret_bool (by simp [HF.out]), 0, rfl⟩
set_option maxHeartbeats 400000 in
theorem l00Same_any (A B : Option Addr) (n c m d : Nat) (ds es : List Int) (w : World) (hr : RI w A n ds) (hs : RI w B m es) (hm : n ≤ 9223372036854775807) (hm2 : m ≤ 9223372036854775807) :
    Calls Tryd.prog 154 #[.slice A n c, .slice B m d] w fun e w' => e = .returned (.bool (decide (ds = es))) ∧ ∃ q, w' = w.drewN q := by
  have HL := Lib.hid hr.1
  have HM := Lib.hid hs.1
  by_cases hnm : n = m
  · subst hnm
    go_enter Tryd.func154, Tryd.ntmps154
    go_wp2
    go_loopw [5] (fun i wr => ∃ k : Nat, k ≤ n ∧ i = .int .i64 k ∧ ds.take k = es.take k ∧ ∃ q, wr = w.drewN q) (fun i _ => n - (intOf i).toNat)
    case atStart => exact ⟨0, Nat.zero_le _, rfl, by simp, 0, rfl⟩
    case round =>
      obtain ⟨k, hk, rfl, hdg, q, rfl⟩ := hrel
      have HD := Lib.hid hdg; clear hdg
      by_cases hkn : k < n
      · obtain ⟨ad, hA, hlt, hkl, hc⟩ := hr.at_ hkn
        obtain ⟨ad2, hB, hlt2, hkl2, hc2⟩ := hs.at_ hkn
        subst hA; subst hB
        have hi0 : (0 : Int) ≤ (k : Int) := by omega
        have hi1 : (k : Int) < (n : Int) := by omega
        rcases hd : (ds[k] != es[k]) with _ | _
        · go_wp2
          go_quiet (fail)
          go_wp2
          have he : ds[k] = es[k] := by simpa using hd
          have HE := Lib.hid he; clear he
          go_roundw
          case rel => exact ⟨k + 1, by omega, by go_num, take_eq_of_succ HD.out hkl hkl2 HE.out, by first | exact ⟨_, rfl⟩ | exact ⟨_, World.drewN_drewN _ _ _⟩⟩
          case measure => simp [intOf]; omega
        · go_wp2
          go_quiet (fail)
          go_wp2
          go_ret
          refine ⟨ret_bool ?_, by first | exact ⟨_, rfl⟩ | exact ⟨_, World.drewN_drewN _ _ _⟩⟩
          have : ds ≠ es := by rintro rfl; simp at hd
          simp [this]
      · have HF : Hid (ds = es) := by
          have := HD.out
          rwa [List.take_of_length_le (by have := HL.out; omega), List.take_of_length_le (by have := HM.out; omega)] at this
        go_wp2
        go_ret
        exact ⟨ret_bool (by simp [HF.out]), q, rfl⟩
  · have HF : Hid (ds ≠ es) := by rintro rfl; exact hnm (hr.1.symm.trans hs.1)
    go_enter Tryd.func154, Tryd.ntmps154
    go_wp2
    go_ret
    exact ⟨ret_bool (by simp [HF.out]), 0, rfl⟩
def sameR (r s : Reg) : Bool := r.base == s.base && decide (r.digits = s.digits)
theorem SameRegister_any (r s : Reg) (A B : Option Addr) (c d : Nat) (w : World) (hr : RI w A r.digits.length r.digits) (hs : RI w B s.digits.length s.digits) (hm : SmallReg r) (hm2 : SmallReg s) :
    Calls Tryd.prog 152 #[.agg #[.int .i64 r.base, .slice A r.digits.length c], .agg #[.int .i64 s.base, .slice B s.digits.length d]] w fun e w' => e = .returned (.bool (sameR r s)) ∧ Below w.heap.size w w' := by
  have hb0 : Below w.heap.size w ((w.alloc (.cells #[.int .i64 r.base, .slice A r.digits.length c] 33)).alloc (.cells #[.int .i64 s.base, .slice B s.digits.length d] 33)) := ((Below.refl _ _).alloc (Nat.le_refl _) _).alloc (by simp) _
  unfold SmallReg at hm hm2
  rcases k : (r.base == s.base) with _ | _
  · have HF : Hid (sameR r s = false) := by simp only [Hid, sameR]; rw [k]; rfl
    go_enter Tryd.func152, Tryd.ntmps152
    go_wp2
    go_ret
    exact ⟨ret_bool HF.out.symm, hb0⟩
  · have HF : Hid (sameR r s = decide (r.digits = s.digits)) := by simp only [Hid, sameR]; rw [k]; rfl
    go_enter Tryd.func152, Tryd.ntmps152
    go_wp2_with (go_at_call 177; refine (sameNumbers_any A B _ c _ d r.digits s.digits _ (hr.below hb0) (hs.below hb0) (by omega) (by omega)).mono ?_; rintro e w1 ⟨rfl, q, rfl⟩)
    go_ret
    exact ⟨ret_bool HF.out.symm, below_drewN hb0 _⟩
theorem l02Same_any (p q : Addr) (r s : Reg) (w : World) (hp : RegM w p r) (hq : RegM w q s) (hm : SmallReg r) (hm2 : SmallReg s) :
    Calls Tryd.prog 109 #[.pointer (some p), .pointer (some q)] w fun e w' => e = .returned (.bool (sameR r s)) ∧ ∃ m, w' = w.drewN m := by
  obtain ⟨A, c, ⟨ha, hb⟩, hr⟩ := hp
  obtain ⟨B, d, ⟨ha0, hb0⟩, hs⟩ := hq
  unfold SmallReg at hm hm2
  have K1 := Lib.hid (fun (m : Nat) => l00Same_any A B _ c _ d r.digits s.digits (w.drewN m) hr hs (by omega) (by omega))
  rcases k : (r.base == s.base) with _ | _
  · have HF : Hid (sameR r s = false) := by simp only [Hid, sameR]; rw [k]; rfl
    go_enter Tryd.func109, Tryd.ntmps109
    go_wp2_with fail
    go_quiet ((go_at_call 154; exact quiet_of_ex (K1.out _)))
    go_wp2
    go_ret
    exact ⟨ret_bool HF.out.symm, _, rfl⟩
  · have HF : Hid (sameR r s = decide (r.digits = s.digits)) := by simp only [Hid, sameR]; rw [k]; rfl
    go_enter Tryd.func109, Tryd.ntmps109
    go_wp2_with fail
    go_quiet ((go_at_call 154; exact quiet_of_ex (K1.out _)))
    go_wp2
    go_ret
    exact ⟨ret_bool HF.out.symm, _, rfl⟩
/-- the carry out of a digit with a kind of fault -/
def cstep (base t c kind : Int) : Int := if kind = 1 then 0 else if kind = 2 then 1 else if kind = 3 then (if t < base then 0 else 1) else if t + c < base then 0 else 1
set_option maxHeartbeats 400000 in
theorem l08Carry_any (base t c kind : Int) (w : World) (h1 : -100 ≤ t) (h2 : t ≤ 100) (h3 : 0 ≤ c) (h4 : c ≤ 1) :
    Calls Tryd.prog 193 #[.int .i64 base, .int .i64 t, .int .i64 c, .int .i64 kind] w fun e w' => e = .returned (.int .i64 (cstep base t c kind)) ∧ w = w' := by
  by_cases g1 : t + c < base
  all_goals by_cases k1 : kind = 1
  all_goals by_cases k2 : kind = 2
  all_goals by_cases k3 : kind = 3
  all_goals by_cases g2 : t < base
  all_goals try omega
  all_goals
    go_enter Tryd.func193, Tryd.ntmps193
    go_wp2
    go_ret
    exact ⟨ret_int (by unfold cstep; simp [*]), rfl⟩
end Go.Proofs.YtlhcilmnfmglfaaDoor

namespace Go.Proofs.YtlhcilmnfmglfaaDoor
open Go.RowKit Go.Sort
theorem specSameRegister_same (b : Int) (A B : Option Addr) (c d : Nat) (ds : List Int) (w : World) (hr : RI w A ds.length ds) (hs : RI w B ds.length ds) (hm : ds.length ≤ 9223372036854775807) :
    Calls Tryd.prog 38 #[.agg #[.int .i64 b, .slice A ds.length c], .agg #[.int .i64 b, .slice B ds.length d]] w fun e w' => e = .returned (.bool true) ∧ Below w.heap.size w w' := by
  have HR := Lib.hid (fun W (hW : Below w.heap.size w W) => hr.below hW)
  have HS := Lib.hid (fun W (hW : Below w.heap.size w W) => hs.below hW)
  clear hr hs
  go_enter Tryd.func38, Tryd.ntmps38
  go_wp2_with fail
  refine Calls.kn (((Kn.nil w).al [.int .i64 b, .slice A ds.length c] 33).al [.int .i64 b, .slice B ds.length d] 33) ?_; intro w1 K1
  simp only [World.size_alloc] at K1
  refine (l02Same_any ⟨w.heap.size, 0, none⟩ ⟨w.heap.size + 1, 0, none⟩ ⟨b, ds⟩ ⟨b, ds⟩ w1 ⟨A, c, box2 (K1.front 1 rfl), HR.out _ K1.below⟩ ⟨B, d, box2 (K1.front 0 rfl), HS.out _ K1.below⟩ hm hm).mono ?_
  rintro e w2 ⟨rfl, q, rfl⟩
  have K2 := K1.drewN q
  go_wp2_with fail
  go_ret
  exact ⟨ret_bool (by simp [sameR]), K2.below⟩
end Go.Proofs.YtlhcilmnfmglfaaDoor

namespace Go.Proofs.YtlhcilmnfmglfaaDoor
open Go.RowKit Go.Sort
/-- the bytes of a string -/
def strB (s : ByteArray) : List UInt8 := s.data.toList
theorem strB_len (s : ByteArray) : (strB s).length = s.size := by simp [strB]
theorem strB_get (s : ByteArray) {k : Nat} (h : k < s.size) : s[k] = (strB s)[k]'(by rw [strB_len]; exact h) := by
  simp [strB]
  rfl
theorem strB_mk (bs : List UInt8) : strB ⟨bs.toArray⟩ = bs := by simp [strB]
theorem size_mk (bs : List UInt8) : (⟨bs.toArray⟩ : ByteArray).size = bs.length := by simp [ByteArray.size]
theorem strB_drop (s : ByteArray) (k : Nat) : strB (s.extract k s.size) = (strB s).drop k := by
  have h : (s.extract k s.size).data = s.data.extract k s.size := by simp
  unfold strB
  rw [h, Array.toList_extract, List.extract_eq_take_drop]
  rw [List.take_of_length_le]
  rw [List.length_drop, Array.length_toList]
  exact Nat.le_refl _
theorem size_zero {s : ByteArray} (h : s.size = 0) : s = ⟨#[]⟩ := by
  cases s with
  | mk a =>
    congr 1
    exact Array.eq_empty_of_size_eq_zero h
theorem str_nonempty {s : ByteArray} (h : 0 < s.size) : s.toList.isEmpty = false := by
  rw [ByteArray.toList_eq]
  cases he : s.data.toList with
  | nil =>
    have : s.data.toList.length = 0 := by rw [he]; rfl
    have h2 : s.data.toList.length = s.size := by rw [Array.length_toList]; rfl
    omega
  | cons a l => rfl
theorem strB_cons {s : ByteArray} (h : 0 < s.size) : strB s = s[0] :: (strB s).drop 1 := by
  have h1 : 0 < (strB s).length := by rw [strB_len]; exact h
  have h2 := strB_get s h
  rw [h2]
  have h3 := List.drop_eq_getElem_cons (l := strB s) (i := 0) h1
  simpa using h3
theorem strB_nil {s : ByteArray} (h : s.size = 0) : strB s = [] := by
  apply List.eq_nil_of_length_eq_zero; rw [strB_len]; exact h
theorem str_eq {s : ByteArray} {bs : List UInt8} : (⟨bs.toArray⟩ : ByteArray) = s ↔ bs = strB s := by
  constructor
  · intro h; rw [← h]; simp [strB]
  · intro h; rw [h]; cases s; simp [strB]
theorem strB_toList (s : ByteArray) : s.toList = strB s := by rw [ByteArray.toList_eq]; rfl
theorem strB_tail {s : ByteArray} : strB (s.extract 1 s.size) = (strB s).drop 1 := strB_drop s 1
theorem extract_size (s : ByteArray) (k : Nat) : (s.extract k s.size).size = s.size - k := by simp [ByteArray.size_extract]
theorem strB_extract (s : ByteArray) (i j : Nat) : strB (s.extract i j) = ((strB s).drop i).take (j - i) := by
  have h : (s.extract i j).data = s.data.extract i j := by simp
  unfold strB
  rw [h, Array.toList_extract, List.extract_eq_take_drop]
theorem strB_getD (s : ByteArray) {k : Nat} (h : k < s.size) : (strB s).getD k 0 = s[k] := by
  rw [strB_get s h]; simp [List.getD, List.getElem?_eq_getElem (show k < (strB s).length by rw [strB_len]; exact h)]
theorem wrapI {n : Int} (h : -9223372036854775808 ≤ n ∧ n ≤ 9223372036854775807) : IntKind.i64.wrap n = n := by
  rw [IntKind.wrap_i64]; omega
theorem wrapB {n : Int} (h : 0 ≤ n ∧ n < 256) : IntKind.u8.wrap n = n := by
  simp [IntKind.wrap, IntKind.bits, IntKind.signed]; omega
theorem wrap64_of {n : Int} (h : -9223372036854775808 ≤ n ∧ n ≤ 9223372036854775807) : wrap64 n = n := by unfold wrap64; omega
end Go.Proofs.YtlhcilmnfmglfaaDoor

namespace Go.Proofs.YtlhcilmnfmglfaaDoor
open Go.RowKit Go.Sort
/-! drums, plainly -/
structure Dr where
  k : Int
  b : Int
  t : Int
  f : Int
def drOk (d : Dr) : Bool := betB d.k 1 3 && (betB d.b 2 16 && (betB d.t d.b 60 && (if d.k = 3 then decide (d.f = 0) else betB d.f 1 (d.t - d.b + 2))))
/-- the time of a turn at which the tooth j of a drum that is set to g makes its step -/
def dTime (d : Dr) (g : Int) (j : Nat) : Int := if d.k = 1 then d.f + d.b - 1 - g + j else if d.k = 2 then d.f + j else (((j : Int) + 1) * d.t + g - 1) / g
def dTimes (d : Dr) (g : Int) : List Int := (List.range g.toNat).map (dTime d g)
theorem drOk_iff {d : Dr} : drOk d = true ↔ (1 ≤ d.k ∧ d.k ≤ 3) ∧ (2 ≤ d.b ∧ d.b ≤ 16) ∧ (d.b ≤ d.t ∧ d.t ≤ 60) ∧ ((d.k = 3 ∧ d.f = 0) ∨ (d.k ≠ 3 ∧ 1 ≤ d.f ∧ d.f ≤ d.t - d.b + 2)) := by
  unfold drOk
  by_cases h3 : d.k = 3
  · rw [if_pos h3]
    simp only [betB, Bool.and_eq_true, decide_eq_true_eq]
    omega
  · rw [if_neg h3]
    simp only [betB, Bool.and_eq_true, decide_eq_true_eq]
    omega
/-- the rack's times lie in the turn -/
theorem rack_bd {t g j : Int} (ht : 1 ≤ t) (hg : 1 ≤ g) (hj : 0 ≤ j) (hjg : j < g) : 1 ≤ ((j + 1) * t + g - 1) / g ∧ ((j + 1) * t + g - 1) / g ≤ t := by
  constructor
  · rw [Int.le_ediv_iff_mul_le (by omega)]
    have : 1 * 1 ≤ (j + 1) * t := Int.mul_le_mul (by omega) (by omega) (by omega) (by omega)
    omega
  · have h1 : ((j + 1) * t + g - 1) / g < t + 1 := by
      rw [Int.ediv_lt_iff_lt_mul (by omega)]
      have h2 : (j + 1) * t ≤ g * t := Int.mul_le_mul_of_nonneg_right (by omega) (by omega)
      rw [Int.add_mul (a := t), Int.one_mul, Int.mul_comm t g]
      omega
    omega
theorem dTime_bd {d : Dr} (h : drOk d = true) {g : Int} {j : Nat} (hj : (j : Int) < g) (hg : g < d.b) : 1 ≤ dTime d g j ∧ dTime d g j ≤ d.t := by
  obtain ⟨⟨k1, k2⟩, ⟨b1, b2⟩, ⟨t1, t2⟩, h4⟩ := drOk_iff.1 h
  unfold dTime
  by_cases e1 : d.k = 1
  · rw [if_pos e1]; omega
  · rw [if_neg e1]
    by_cases e2 : d.k = 2
    · rw [if_pos e2]; omega
    · rw [if_neg e2]
      exact rack_bd (by omega) (by omega) (by omega) hj
/-- one tooth's step lies behind the step of the tooth ahead of it -/
theorem dTime_lt {d : Dr} (h : drOk d = true) {g : Int} {i j : Nat} (hij : i < j) (hj : (j : Int) < g) (hg : g < d.b) : dTime d g i < dTime d g j := by
  obtain ⟨⟨k1, k2⟩, ⟨b1, b2⟩, ⟨t1, t2⟩, h4⟩ := drOk_iff.1 h
  unfold dTime
  by_cases e1 : d.k = 1
  · rw [if_pos e1, if_pos e1]; omega
  · rw [if_neg e1, if_neg e1]
    by_cases e2 : d.k = 2
    · rw [if_pos e2, if_pos e2]; omega
    · rw [if_neg e2, if_neg e2]
      have hg0 : 0 < g := by omega
      have h1 : ((i : Int) + 1) * d.t + g - 1 + g ≤ ((j : Int) + 1) * d.t + g - 1 := by
        have h2 : ((i : Int) + 1 + 1) * d.t ≤ ((j : Int) + 1) * d.t := Int.mul_le_mul_of_nonneg_right (by omega) (by omega)
        rw [Int.add_mul, Int.one_mul] at h2
        omega
      have h3 := Int.ediv_le_ediv hg0 h1
      rw [Int.add_ediv_of_dvd_right (Int.dvd_refl g), Int.ediv_self (by omega)] at h3
      omega
/-! walks -/
/-- a drum in a block -/
def DrAt (w : World) (g : Nat) (d : Dr) : Prop := w.cell? ⟨g, 0, none⟩ = some (.int .i64 d.k) ∧ w.cell? ⟨g, 1, none⟩ = some (.int .i64 d.b) ∧ w.cell? ⟨g, 2, none⟩ = some (.int .i64 d.t) ∧ w.cell? ⟨g, 3, none⟩ = some (.int .i64 d.f)
theorem DrAt.below {w w' : World} {g : Nat} {d : Dr} (h : DrAt w g d) (hb : Below w.heap.size w w') : DrAt w' g d := by
  have hlt : g < w.heap.size := World.block_lt_of_cell? w _ h.1
  exact ⟨(hb.cell (p := ⟨g, 0, none⟩) hlt).trans h.1, (hb.cell (p := ⟨g, 1, none⟩) hlt).trans h.2.1, (hb.cell (p := ⟨g, 2, none⟩) hlt).trans h.2.2.1, (hb.cell (p := ⟨g, 3, none⟩) hlt).trans h.2.2.2⟩
end Go.Proofs.YtlhcilmnfmglfaaDoor

namespace Go.Proofs.YtlhcilmnfmglfaaDoor
open Go.RowKit Go.Sort
/-! the codes -/
def drCode (d : Dr) (g : Int) : Int := if drOk d = false then 1 else if betB g 0 (d.b - 1) = false then 2 else 0
end Go.Proofs.YtlhcilmnfmglfaaDoor

namespace Go.Proofs.YtlhcilmnfmglfaaDoor
open Go.RowKit Go.Sort
theorem dTimes_succ (d : Dr) (g : Int) (k : Nat) : (List.range (k + 1)).map (dTime d g) = (List.range k).map (dTime d g) ++ [dTime d g k] := by rw [List.range_succ, List.map_append]; rfl
theorem dTimes_len (d : Dr) (g : Int) : (dTimes d g).length = g.toNat := by simp [dTimes]
theorem dTime1 {b t f g : Int} {j : Nat} : dTime ⟨1, b, t, f⟩ g j = f + b - 1 - g + j := by simp [dTime]
theorem dTime2 {b t f g : Int} {j : Nat} : dTime ⟨2, b, t, f⟩ g j = f + j := by simp [dTime]
theorem dTime3 {b t f g : Int} {j : Nat} : dTime ⟨3, b, t, f⟩ g j = (((j : Int) + 1) * t + g - 1) / g := by simp [dTime]
theorem dr_kind {d : Dr} (h : drOk d = true) : d.k = 1 ∨ d.k = 2 ∨ d.k = 3 := by have := (drOk_iff.1 h).1; omega
end Go.Proofs.YtlhcilmnfmglfaaDoor

namespace Go.Proofs.YtlhcilmnfmglfaaDoor
open Go.RowKit Go.Sort
/-- the row of a drum's times -/
def TMRet (d : Dr) (n : Nat) (w : World) (e : Ending) (w' : World) : Prop := ∃ A c, e = .returned (.slice A n c) ∧ Kn w [rowI A c (dTimes d n)] w'
theorem dTimes_nat (d : Dr) (n : Nat) : dTimes d n = (List.range n).map (dTime d n) := by unfold dTimes; rw [Int.toNat_natCast]
theorem Kn.rowSlice {w0 w : World} {m : List Ent} {v : Value} {T : TypeId} {size n : Nat} {xs : List Value} (h : Kn w0 (.row v T size n xs :: m) w) : ∃ A c, v = .slice A n c := by
  have h0 : w.ownsRow 0 T size v n xs := h.at0
  rcases h0.2 with ⟨rfl, rfl⟩ | ⟨g, cap, cur, rfl, -⟩
  · exact ⟨none, 0, rfl⟩
  · exact ⟨_, _, rfl⟩
end Go.Proofs.YtlhcilmnfmglfaaDoor

namespace Go.Proofs.YtlhcilmnfmglfaaDoor
open Go.RowKit Go.Sort
/-- how many of the first j teeth have made their step at a time m of the turn -/
def dCnt (d : Dr) (n : Nat) (m : Int) (j : Nat) : Nat := ((List.range j).map (dTime d n)).countP (fun x => decide (x ≤ m))
theorem dCnt_succ (d : Dr) (n : Nat) (m : Int) (j : Nat) : dCnt d n m (j + 1) = dCnt d n m j + (if dTime d n j ≤ m then 1 else 0) := by
  unfold dCnt
  rw [dTimes_succ, List.countP_append, List.countP_singleton]
  simp
theorem dCnt_le (d : Dr) (n : Nat) (m : Int) (j : Nat) : dCnt d n m j ≤ j := by
  unfold dCnt
  have := List.countP_le_length (p := fun x => decide (x ≤ m)) (l := (List.range j).map (dTime d n))
  simpa using this
def dBy (d : Dr) (n : Nat) (tm : Int) : Int := tm / d.t * n + dCnt d n (tm % d.t) n
theorem dTimes_get (d : Dr) (n : Nat) {j : Nat} (hj : j < n) : ∃ h : j < (dTimes d n).length, (dTimes d n)[j] = dTime d n j := by
  refine ⟨by rw [dTimes_len]; omega, ?_⟩
  unfold dTimes
  simp
end Go.Proofs.YtlhcilmnfmglfaaDoor

namespace Go.Proofs.YtlhcilmnfmglfaaDoor
open Go.RowKit Go.Sort
set_option maxRecDepth 100000 in
set_option maxHeartbeats 800000 in
theorem sole_ok (b : Int) (A : Option Addr) (c : Nat) (ds : List Int) (w : World) (hr : RI w A ds.length ds) (hv : vreg b ds = true) (hm : ds.length ≤ 1000000) : Calls Tryd.prog 108 #[.agg #[.int .i64 b, .slice A ds.length c]] w fun e w' => e = .returned (.tuple #[.agg #[.int .i64 b, .slice A ds.length c], .int .i64 0]) ∧ Below w.heap.size w w' := by
  have KV := Lib.hid (fun W (hW : Below w.heap.size w W) => calls_val (ValidRegister_any b A ds.length c ds W (hr.below hW) (by omega)) (congrArg Value.bool hv))
  clear hr hv
  go_enter Tryd.func108, Tryd.ntmps108
  go_wp2_with (go_at_call 104; refine Calls.kn (((Kn.nil w).al [.int .i64 b, .slice A ds.length c] 33).al [.int .i64 0, .slice none 0 0] 33) ?_; intro w1 K1; simp only [World.size_alloc] at K1; refine (KV.out _ K1.below).mono ?_; rintro e w2 ⟨rfl, hw⟩; have K2 := K1.keep hw; clear hw; obtain ⟨a1, a2, a3, b1, b2, b3, -⟩ := K2.cells)
  refine bodyPost.kn ((K2.st 0 (.int .i64 b)).st 1 (.slice A ds.length c)) ?_; intro w9 K9
  clear a1 a2 a3 b1 b2 b3
  obtain ⟨a1, a2, a3, -⟩ := K9.cells
  exact bodyPost_ret (v := .tuple #[.agg #[.int .i64 b, .slice A ds.length c], .int .i64 0]) (by simp [results, Tryd.results108, go_sem, a1]) rfl ⟨rfl, K9.below⟩
set_option maxRecDepth 100000 in
set_option maxHeartbeats 800000 in
theorem sole_full (b : Int) (A : Option Addr) (c : Nat) (ds : List Int) (w : World) (hr : RI w A ds.length ds) (hv : vreg b ds = false) (hm : ds.length ≤ 1000000) : Calls Tryd.prog 108 #[.agg #[.int .i64 b, .slice A ds.length c]] w fun e w' => e = .returned (.tuple #[.agg #[.int .i64 0, .slice none 0 0], .int .i64 5]) ∧ Below w.heap.size w w' := by
  have KV := Lib.hid (fun W (hW : Below w.heap.size w W) => calls_val (ValidRegister_any b A ds.length c ds W (hr.below hW) (by omega)) (congrArg Value.bool hv))
  clear hr hv
  go_enter Tryd.func108, Tryd.ntmps108
  go_wp2_with (go_at_call 104; refine Calls.kn (((Kn.nil w).al [.int .i64 b, .slice A ds.length c] 33).al [.int .i64 0, .slice none 0 0] 33) ?_; intro w1 K1; simp only [World.size_alloc] at K1; refine (KV.out _ K1.below).mono ?_; rintro e w2 ⟨rfl, hw⟩; have K2 := K1.keep hw; clear hw; obtain ⟨a1, a2, a3, b1, b2, b3, -⟩ := K2.cells)
  refine bodyPost.kn ((K2.st 0 (.int .i64 0)).st 1 (.slice none 0 0)) ?_; intro w9 K9
  clear a1 a2 a3 b1 b2 b3
  obtain ⟨a1, a2, a3, -⟩ := K9.cells
  exact bodyPost_ret (v := .tuple #[.agg #[.int .i64 0, .slice none 0 0], .int .i64 5]) (by simp [results, Tryd.results108, go_sem, a1]) rfl ⟨rfl, K9.below⟩
/-! two registers -/
def twoC (a : Int) (xs : List Int) (b : Int) (ys : List Int) : Int := if (vreg a xs && vreg b ys) = false then 1 else if a ≠ b ∨ xs.length ≠ ys.length then 6 else 0
set_option maxRecDepth 100000 in
set_option maxHeartbeats 1600000 in
theorem l02Two_any (g1 g2 : Nat) (a : Int) (A : Option Addr) (c : Nat) (xs : List Int) (b : Int) (B : Option Addr) (e : Nat) (ys : List Int) (w : World) (h1 : RegB w g1 a A c xs) (h2 : RegB w g2 b B e ys) (hm1 : xs.length ≤ 1000000) (hm2 : ys.length ≤ 1000000) :
    Calls Tryd.prog 101 #[.pointer (some ⟨g1, 0, none⟩), .pointer (some ⟨g2, 0, none⟩)] w fun r w' => r = .returned (.int .i64 (twoC a xs b ys)) ∧ Below w.heap.size w w' := by
  have K1 := l02Ok_any ⟨g1, 0, none⟩ a A xs.length c xs w h1.1 h1.2 (by omega)
  have K2 := (fun m => l02Ok_any ⟨g2, 0, none⟩ b B ys.length e ys (w.drewN m) (h2.below (drewN_below m)).1 (h2.below (drewN_below m)).2 (by omega))
  obtain ⟨⟨c0, c1⟩, -⟩ := h1
  obtain ⟨⟨e0, e1⟩, -⟩ := h2
  unfold twoC
  rcases hv1 : vreg a xs with _ | _
  · rw [hv1] at K1
    replace K1 := Lib.hid K1
    clear K2
    go_enter Tryd.func101, Tryd.ntmps101
    go_wp2_with (go_at_call 76; refine K1.out.mono ?_; rintro e w2 ⟨rfl, q, rfl⟩)
    go_ret
    exact ⟨rfl, drewN_below q⟩
  rw [hv1] at K1
  rcases hv2 : vreg b ys with _ | _
  · rw [hv2] at K2
    replace K1 := Lib.hid K1
    replace K2 := Lib.hid K2
    go_enter Tryd.func101, Tryd.ntmps101
    go_wp2_with (go_at_call 76; first | (with_reducible refine K1.out.mono ?_; rintro e w2 ⟨rfl, q1, rfl⟩) | (with_reducible refine (K2.out _).mono ?_; rintro e w3 ⟨rfl, q2, rfl⟩))
    go_ret
    exact ⟨rfl, drewN_below _⟩
  rw [hv2] at K2
  replace K1 := Lib.hid K1
  replace K2 := Lib.hid K2
  clear hv1 hv2
  obtain ⟨z, hz⟩ : ∃ z, (if (true && true) = false then (1 : Int) else if a ≠ b ∨ xs.length ≠ ys.length then 6 else 0) = z := ⟨_, rfl⟩
  rw [hz]
  have HZ := Lib.hid hz
  clear hz
  go_enter Tryd.func101, Tryd.ntmps101
  go_upto_region 3 with (go_at_call 76; first | (with_reducible refine K1.out.mono ?_; rintro e w2 ⟨rfl, q1, rfl⟩) | (with_reducible refine (K2.out _).mono ?_; rintro e w3 ⟨rfl, q2, rfl⟩))
  have c0' : (w.drewN (q1 + q2)).cell? ⟨g1, 0, none⟩ = some (.int .i64 a) := by simpa using c0
  have c1' : (w.drewN (q1 + q2)).cell? ⟨g1, 1, none⟩ = some (.slice A xs.length c) := by simpa using c1
  have e0' : (w.drewN (q1 + q2)).cell? ⟨g2, 0, none⟩ = some (.int .i64 b) := by simpa using e0
  have e1' : (w.drewN (q1 + q2)).cell? ⟨g2, 1, none⟩ = some (.slice B ys.length e) := by simpa using e1
  have hbw := drewN_below (w := w) (q1 + q2)
  generalize w.drewN (q1 + q2) = w4 at c0' c1' e0' e1' hbw ⊢
  clear c0 c1 e0 e1 K1 K2
  by_cases hab : a = b
  · subst hab
    by_cases hl : xs.length = ys.length
    · have HR := Lib.hid (HZ.out.symm.trans (show (if (true && true) = false then (1 : Int) else if a ≠ a ∨ xs.length ≠ ys.length then 6 else 0) = 0 by rw [if_neg (by decide), if_neg (by simp [hl])]))
      have x1 : (((xs.length : Nat) : Int) != ((ys.length : Nat) : Int)) = false := by rw [hl]; exact bne_self_eq_false _
      have x2 : ((xs.length : Int) == (ys.length : Int)) = true := by rw [hl]; exact beq_self_eq_true _
      clear HZ
      obtain ⟨n, hn⟩ : ∃ n, ys.length = n := ⟨_, rfl⟩
      rw [hl, hn] at c1' x1 x2
      rw [hn] at e1'
      clear hl hn
      go_quiet (fail)
      go_wp2_with fail
      go_ret
      exact ⟨ret_int HR.out.symm, by first | exact hbw | exact hbw.drewN _ | exact below_drewN hbw _⟩
    · have HR := Lib.hid (HZ.out.symm.trans (show (if (true && true) = false then (1 : Int) else if a ≠ a ∨ xs.length ≠ ys.length then 6 else 0) = 6 by rw [if_neg (by decide), if_pos (.inr hl)]))
      have x1 : (((xs.length : Nat) : Int) != ((ys.length : Nat) : Int)) = true := by simp; omega
      have x2 : ((xs.length : Int) == (ys.length : Int)) = false := beq_eq_false_iff_ne.2 (by omega)
      clear HZ
      go_quiet (fail)
      go_wp2_with fail
      go_ret
      exact ⟨ret_int HR.out.symm, by first | exact hbw | exact hbw.drewN _ | exact below_drewN hbw _⟩
  · have HR := Lib.hid (HZ.out.symm.trans (show (if (true && true) = false then (1 : Int) else if a ≠ b ∨ xs.length ≠ ys.length then 6 else 0) = 6 by rw [if_neg (by decide), if_pos (.inl hab)]))
    have x1 : (a == b) = false := beq_eq_false_iff_ne.2 hab
    clear HZ
    go_quiet (fail)
    go_wp2_with fail
    go_ret
    exact ⟨ret_int HR.out.symm, by first | exact hbw | exact hbw.drewN _ | exact below_drewN hbw _⟩
end Go.Proofs.YtlhcilmnfmglfaaDoor

namespace Go.Proofs.YtlhcilmnfmglfaaDoor
open Go.RowKit Go.Sort
set_option maxRecDepth 100000 in
set_option maxHeartbeats 1600000 in
theorem pairCode_ok (b : Int) (XA : Option Addr) (xc : Nat) (xs : List Int) (YA : Option Addr) (yc : Nat) (ys : List Int) (w : World) (hx : RI w XA xs.length xs) (hy : RI w YA ys.length ys) (hv1 : vreg b xs = true) (hv2 : vreg b ys = true) (hl : xs.length = ys.length) :
    Calls Tryd.prog 98 #[.agg #[.int .i64 b, .slice XA xs.length xc], .agg #[.int .i64 b, .slice YA ys.length yc]] w fun e w' => e = .returned (.int .i64 0) ∧ Below w.heap.size w w' := by
  have hm1 := (vreg_iff.1 hv1).2.1
  have hm2 := (vreg_iff.1 hv2).2.1
  have KX := (fun W (hW : Below w.heap.size w W) => ValidRegister_any b XA xs.length xc xs W (hx.below hW) (by omega))
  have KY := (fun W (hW : Below w.heap.size w W) => ValidRegister_any b YA ys.length yc ys W (hy.below hW) (by omega))
  rw [hv1] at KX
  rw [hv2] at KY
  replace KX := Lib.hid KX
  replace KY := Lib.hid KY
  obtain ⟨g1, hg1⟩ : ∃ g, w.heap.size = g := ⟨_, rfl⟩
  have K0 := ((Kn.nil w).al [.int .i64 b, .slice XA xs.length xc] 33).al [.int .i64 b, .slice YA ys.length yc] 33
  simp only [World.size_alloc, hg1] at K0
  have y1 : (b == b) = true := beq_self_eq_true _
  have y2 : (b != b) = false := bne_self_eq_false _
  have y5 : ((xs.length : Int) != (ys.length : Int)) = false := by rw [hl]; exact bne_self_eq_false _
  have y6 : ((xs.length : Int) == (ys.length : Int)) = true := by rw [hl]; exact beq_self_eq_true _
  clear hl hv1 hv2 hm1 hm2
  go_enter Tryd.func98, Tryd.ntmps98
  go_upto_region 3 with (go_at_call 104; first
    | (refine Calls.kn K0 ?_; intro w1 K1; (with_reducible refine (KX.out _ K1.below).mono ?_); rintro e w2 ⟨rfl, hw⟩; have K2 := K1.keep hw; clear hw; obtain ⟨a1, a2, a3, b1, b2, b3, -⟩ := K2.cells)
    | ((with_reducible refine (KY.out _ K2.below).mono ?_); rintro e w3 ⟨rfl, hw⟩; have K3 := K2.keep hw; clear hw a1 a2 a3 b1 b2 b3))
  clear K1 K2
  have x0 := cell_regrown (show w3.cell? ⟨g1, 0, none⟩ = some (.int .i64 b) from (K3.front 1 rfl).blkAt.1 0)
  have x1 := cell_regrown (show w3.cell? ⟨g1, 1, none⟩ = some (.slice XA xs.length xc) from (K3.front 1 rfl).blkAt.1 1)
  have x2 := cell_regrown (show w3.cell? ⟨g1 + 1, 0, none⟩ = some (.int .i64 b) from (K3.front 0 rfl).blkAt.1 0)
  have x3 := cell_regrown (show w3.cell? ⟨g1 + 1, 1, none⟩ = some (.slice YA ys.length yc) from (K3.front 0 rfl).blkAt.1 1)
  refine wp_region_quiet_below (by kernel_rfl) (by kernel_rfl) ?_
  repeat (go_big_quiet_step (first | (go_at_call 106; exact quietB (fun W _ => width_any _ _ _ _ W))))
  refine wpQuiet_nil ?_
  intro _ hw'
  obtain ⟨⟨dq, osq⟩, hw''⟩ := hw'
  subst hw''
  have K5 := K3.keep (below_regrown w3 dq osq)
  dsimp only
  obtain ⟨w5, hw3⟩ : ∃ W, grow (redrawn w3 dq) osq = W := ⟨_, rfl⟩
  rw [hw3] at K5 ⊢
  clear hw3 x0 x1 x2 x3 K3
  go_wp2_with fail
  go_ret
  exact ⟨rfl, by first | exact K5.below | (have := K5.below; rw [hg1] at this; exact this)⟩
set_option maxRecDepth 100000 in
set_option maxHeartbeats 800000 in
theorem whole_ok (b n : Int) (A : Option Addr) (c : Nat) (ds : List Int) (w : World) (hr : RI w A ds.length ds) (hv : vreg b ds = true) : Calls Tryd.prog 110 #[.agg #[.int .i64 b, .slice A ds.length c], .int .i64 n] w fun e w' => e = .returned (.tuple #[.agg #[.int .i64 b, .slice A ds.length c], .int .i64 n, .int .i64 0]) ∧ Below w.heap.size w w' := by
  have hm := (vreg_iff.1 hv).2.1
  have KX := (fun W (hW : Below w.heap.size w W) => ValidRegister_any b A ds.length c ds W (hr.below hW) (by omega))
  rw [hv] at KX
  replace KX := Lib.hid KX
  clear hv hm hr
  go_enter Tryd.func110, Tryd.ntmps110
  go_wp2_with (go_at_call 104; refine Calls.kn (((Kn.nil w).al [.int .i64 b, .slice A ds.length c] 33).al [.int .i64 0, .slice none 0 0] 33) ?_; intro w1 K1; simp only [World.size_alloc] at K1; refine (KX.out _ K1.below).mono ?_; rintro e w2 ⟨rfl, hw⟩; have K2 := K1.keep hw; clear hw; obtain ⟨a1, a2, a3, b1, b2, b3, -⟩ := K2.cells)
  refine bodyPost.kn (((K2.front 0 rfl).st 0 (.int .i64 b)).st 1 (.slice A ds.length c)) ?_; intro w9 K9
  clear a1 a2 a3 b1 b2 b3
  obtain ⟨a1, a2, a3, -⟩ := K9.cells
  exact bodyPost_ret (v := .tuple #[.agg #[.int .i64 b, .slice A ds.length c], .int .i64 n, .int .i64 0]) (by simp [results, Tryd.results110, go_sem, a1]) rfl ⟨rfl, K9.below⟩
end Go.Proofs.YtlhcilmnfmglfaaDoor

namespace Go.Proofs.YtlhcilmnfmglfaaDoor
open Go.RowKit Go.Sort
def carL (b : Int) (xs ys : List Int) (n : Nat) : List Int := (List.range n).map (carK b xs ys)
theorem carL_succ (b : Int) (xs ys : List Int) (n : Nat) : carL b xs ys (n + 1) = carL b xs ys n ++ [carK b xs ys n] := by unfold carL; rw [List.range_succ, List.map_append]; rfl
theorem carL_len (b : Int) (xs ys : List Int) (n : Nat) : (carL b xs ys n).length = n := by simp [carL]
theorem carL_get (b : Int) (xs ys : List Int) {n i : Nat} (h : i < n) : ∃ h' : i < (carL b xs ys n).length, (carL b xs ys n)[i] = carK b xs ys i := ⟨by rw [carL_len]; exact h, by simp [carL]⟩
def ADRet (b : Int) (xs ys : List Int) (w : World) (e : Ending) (w' : World) : Prop := ∃ E ec F fc, e = .returned (.tuple #[.agg #[.int .i64 b, .slice E xs.length ec], .slice F (xs.length + 1) fc]) ∧ Kn w [rowI E ec (addD b xs ys xs.length), rowI F fc (carL b xs ys (xs.length + 1))] w'
end Go.Proofs.YtlhcilmnfmglfaaDoor

namespace Go.Proofs.YtlhcilmnfmglfaaDoor
open Go.RowKit Go.Sort
/-- a register, a number and the code 0 -/
def R3Ret (b : Int) (es : List Int) (c : Int) (w : World) (e : Ending) (w' : World) : Prop := ∃ E ec, e = .returned (.tuple #[.agg #[.int .i64 b, .slice E es.length ec], .int .i64 c, .int .i64 0]) ∧ Kn w [rowI E ec es] w'
theorem add_vreg {b : Int} {xs : List Int} (hb : 2 ≤ b) (hb16 : b ≤ 16) (ys : List Int) (h1 : 1 ≤ xs.length) (h2 : xs.length ≤ 16) (hp : pw b xs.length ≤ 1000000000001) : vreg b (addD b xs ys xs.length) = true :=
  vreg_short hb hb16 (addD_digs hb xs ys _) (by rw [addD_len]; exact h1) (by rw [addD_len]; exact h2) (by rw [addD_len]; exact hp)
end Go.Proofs.YtlhcilmnfmglfaaDoor

namespace Go.Proofs.YtlhcilmnfmglfaaDoor
open Go.RowKit Go.Sort
theorem subD_digs {b : Int} (hb : 2 ≤ b) {xs ys : List Int} (hx : Digs b xs) (hy : Digs b ys) (n : Nat) : Digs b (subD b xs ys n) := fun d hd => by
  obtain ⟨i, -, rfl⟩ := List.mem_map.1 hd
  have h1 := hx.at hb i
  have h2 := hy.at hb i
  have h3 := borK_bd xs ys i
  unfold subK
  split <;> omega
end Go.Proofs.YtlhcilmnfmglfaaDoor

namespace Go.Proofs.YtlhcilmnfmglfaaDoor
open Go.RowKit Go.Sort
/-- what the drawing of a good register returns -/
def DReg7 (b M : Nat) (w : World) (e : Ending) (w' : World) : Prop := ∃ (bs : Int) (A : Option Addr) (c : Nat) (ds : List Int), e = .returned (.agg #[.int .i64 bs, .slice A ds.length c]) ∧ (2 ≤ bs ∧ bs ≤ 12 ∧ 1 ≤ ds.length ∧ ds.length ≤ 7 ∧ ∀ d ∈ ds, 0 ≤ d ∧ d < bs) ∧ DR b M w [rowI A c ds] w'
theorem min7 {q k : Nat} (h : 0 ≤ (q : Int) ∧ ((q : Int) < min 7 (k : Int) ∨ min 7 (k : Int) ≤ 1 ∧ (q : Int) = 0)) : q ≤ 6 := by omega
theorem wrapQ7 {q : Nat} (h : q ≤ 6) : IntKind.i64.wrap (1 + (q : Int)) = ((q + 1 : Nat) : Int) := by rw [wrapI64 (by omega)]; omega
set_option maxRecDepth 100000 in
set_option maxHeartbeats 1600000 in
theorem l02Draw7_dr (b N : Nat) (w : World) (h : Src w b N) (hN : N ≤ 800000) :
    Calls Tryd.prog 96 #[.pointer (some ⟨b, 0, none⟩), .int .i64 7] w (DReg7 b (N + 40) w) := by
  unfold DReg7
  have D0 := DR.nil h
  clear h
  go_enter Tryd.func96, Tryd.ntmps96
  go_wp2_with fail
  refine Calls.dr (D0.al [.int .i64 0, .slice none 0 0] 33) ?_; intro w1 D1
  refine (pick_dr b N 11 w1 D1.src (by omega)).mono ?_; rintro e w2 ⟨x, rfl, hx, h2⟩
  have D2 := D1.add h2
  clear D0 D1 h2
  obtain ⟨x0, hx1⟩ := hx
  have x1 : x < 11 := by omega
  clear hx1
  obtain ⟨g0, hg0⟩ : ∃ g, w.heap.size = g := ⟨_, rfl⟩
  rw [hg0] at D2 ⊢
  go_wp2_with fail
  refine Calls.dr (D2.al [.int .i64 (2 + x), .slice none 0 0] 33) ?_; intro w3 D3
  obtain ⟨g, hg⟩ : ∃ g, w2.heap.size = g := ⟨_, rfl⟩
  rw [hg] at D3 ⊢
  clear hg D2
  refine (one_dr b _ 2 w3 D3.src (by omega)).mono ?_; rintro e w4 ⟨y, rfl, h4⟩
  have D4 := D3.add h4
  clear D3 h4
  obtain ⟨bs, hbs⟩ : ∃ z, 2 + x = z := ⟨_, rfl⟩
  rw [hbs] at D4
  have b1 : 2 ≤ bs := by omega
  have b2 : bs ≤ 12 := by omega
  clear hbs
  obtain ⟨a1, a2, a3, -⟩ := D4.cells
  rcases y with _ | _
  · go_wp2_with fail
    have HG := Lib.hid (D4.drew.box2.1)
    have HT := HG
    go_region_held3 (fun W => W.cell? ⟨g, 0, none⟩ = some (.int .i64 bs)) (first | with_reducible exact HG.out | with_reducible exact HT.out | exact HG.out | exact HT.out) (first
      | (go_at_call 153; (with_reducible refine (l02Most_any _ _).mono ?_); rintro e w5 ⟨⟨k, rfl, k1, k2⟩, rfl⟩)
      | (go_at_call 134; (with_reducible refine (l00Min_any _ _ _).mono ?_); rintro e w5 ⟨rfl, rfl⟩)
      | (go_at_call 146; (with_reducible refine (pick_dr b _ _ _ D4.drew.src (by omega)).mono ?_); rintro e w5 ⟨y, rfl, hy, h5⟩; have D5 := D4.drew.add h5; clear HG; have HG := Lib.hid (D5.box2.1); obtain ⟨q, rfl⟩ : ∃ q : Nat, y = q := ⟨y.toNat, by omega⟩; have hq := min7 hy; have hq1 := wrapQ7 hq)
      | (go_at_call 97; rw [show (q : Int) + 1 = ((q + 1 : Nat) : Int) from rfl]; refine (digits_dr b _ _ (q + 1) _ D5.src (by omega) (by omega) (by omega) (by omega)).mono ?_; rintro e w6 ⟨A, c, ds, rfl, hl, hd, h6⟩; have D6 := D5.add h6; clear HG; have HG := Lib.hid ((D6.front 1 rfl).box2.1); obtain ⟨x1, x2, x3, -⟩ := (D6.front 1 rfl).cells; have D8 := (D6.front 1 rfl).st 1 (.slice A (q + 1) c); clear HT; have HT := Lib.hid (D8.box2.1)))
    all_goals
      clear D5 D6 HG HT
      try clear x1 x2 x3
      try clear a1 a2 a3
      generalize w6.setCell ⟨g, 1, none⟩ (.slice A (q + 1) c) = w8 at D8 ⊢
      obtain ⟨a1, a2, a3, -⟩ := D8.cells
      obtain ⟨d1, d2, d3, -⟩ := (D8.front 2 rfl).cells
      go_wp2_with fail
      refine bodyPost.dr (((D8.front 2 rfl).st 0 (.int .i64 bs)).st 1 (.slice A (q + 1) c)) ?_; intro w9 D9
      clear a1 a2 a3 d1 d2 d3
      obtain ⟨a1, a2, a3, -⟩ := D9.cells
      refine bodyPost_ret (v := .agg #[.int .i64 bs, .slice A (q + 1) c]) (by simp [results, Tryd.results96, go_sem, a1]) rfl ⟨bs, A, c, ds, by rw [hl], ⟨by omega, by omega, by omega, by omega, hd⟩, ?_⟩
      have hq' := hq
      exact (D9.sel [2] 99 (by decide) (by decide)).mono (by omega)
  · go_upto_region 4 with fail
    refine Code.wp.dr ((D4.front 0 rfl).st 0 (.int .i64 10)) ?_; intro w4 D4
    clear a1 a2 a3
    obtain ⟨a1, a2, a3, -⟩ := D4.cells
    have HG := Lib.hid (D4.drew.box2.1)
    have HT := HG
    go_region_held3 (fun W => W.cell? ⟨g, 0, none⟩ = some (.int .i64 10)) (first | with_reducible exact HG.out | with_reducible exact HT.out | exact HG.out | exact HT.out) (first
      | (go_at_call 153; (with_reducible refine (l02Most_any _ _).mono ?_); rintro e w5 ⟨⟨k, rfl, k1, k2⟩, rfl⟩)
      | (go_at_call 134; (with_reducible refine (l00Min_any _ _ _).mono ?_); rintro e w5 ⟨rfl, rfl⟩)
      | (go_at_call 146; (with_reducible refine (pick_dr b _ _ _ D4.drew.src (by omega)).mono ?_); rintro e w5 ⟨y, rfl, hy, h5⟩; have D5 := D4.drew.add h5; clear HG; have HG := Lib.hid (D5.box2.1); obtain ⟨q, rfl⟩ : ∃ q : Nat, y = q := ⟨y.toNat, by omega⟩; have hq := min7 hy; have hq1 := wrapQ7 hq)
      | (go_at_call 97; rw [show (q : Int) + 1 = ((q + 1 : Nat) : Int) from rfl]; refine (digits_dr b _ _ (q + 1) _ D5.src (by omega) (by omega) (by omega) (by omega)).mono ?_; rintro e w6 ⟨A, c, ds, rfl, hl, hd, h6⟩; have D6 := D5.add h6; clear HG; have HG := Lib.hid ((D6.front 1 rfl).box2.1); obtain ⟨x1, x2, x3, -⟩ := (D6.front 1 rfl).cells; have D8 := (D6.front 1 rfl).st 1 (.slice A (q + 1) c); clear HT; have HT := Lib.hid (D8.box2.1)))
    all_goals
      clear D5 D6 HG HT
      try clear x1 x2 x3
      try clear a1 a2 a3
      generalize w6.setCell ⟨g, 1, none⟩ (.slice A (q + 1) c) = w8 at D8 ⊢
      obtain ⟨a1, a2, a3, -⟩ := D8.cells
      obtain ⟨d1, d2, d3, -⟩ := (D8.front 2 rfl).cells
      go_wp2_with fail
      refine bodyPost.dr (((D8.front 2 rfl).st 0 (.int .i64 10)).st 1 (.slice A (q + 1) c)) ?_; intro w9 D9
      clear a1 a2 a3 d1 d2 d3
      obtain ⟨a1, a2, a3, -⟩ := D9.cells
      refine bodyPost_ret (v := .agg #[.int .i64 10, .slice A (q + 1) c]) (by simp [results, Tryd.results96, go_sem, a1]) rfl ⟨10, A, c, ds, by rw [hl], ⟨by omega, by omega, by omega, by omega, hd⟩, ?_⟩
      have hq' := hq
      exact (D9.sel [2] 99 (by decide) (by decide)).mono (by omega)
end Go.Proofs.YtlhcilmnfmglfaaDoor

namespace Go.Proofs.YtlhcilmnfmglfaaDoor
open Go.RowKit Go.Sort
/-! strokes that lead back, plainly -/
theorem tmod_wrap (a P : Int) (hP : 0 < P) : (a.tmod P + P).tmod P = a % P := by
  have h1 := Int.lt_tmod_of_pos a hP
  rw [Int.tmod_eq_emod_of_nonneg (by omega), Int.add_emod_right, Int.tmod_def, Int.sub_mul_emod_self_left]
theorem digD_valL (b : Int) (hb : 2 ≤ b) : ∀ ds : List Int, (∀ d ∈ ds, 0 ≤ d ∧ d < b) → valL b ds ≤ 1000000000000 → digD b ds.length (valL b ds) = ds
  | [], _, _ => rfl
  | d :: ds, hd, hl => by
    have hd0 := hd d (List.mem_cons_self ..)
    have hv0 := (valL_bd b hb ds (fun x hx => (hd x (List.mem_cons_of_mem _ hx)).1)).1
    have e1 : valL b (d :: ds) = valL b ds * b + d := by simp only [valL] at hl ⊢; omega
    have h2 : valL b ds * 1 ≤ valL b ds * b := Int.mul_le_mul_of_nonneg_left (by omega) hv0
    have ih := digD_valL b hb ds (fun x hx => hd x (List.mem_cons_of_mem _ hx)) (by omega)
    have h3 : 0 ≤ valL b ds * b + d := by omega
    have e2 : (valL b ds * b + d).tmod b = d := by
      rw [Int.tmod_eq_emod_of_nonneg h3, Int.add_comm, Int.add_mul_emod_self_right]
      exact Int.emod_eq_of_lt hd0.1 hd0.2
    have e3 : (valL b ds * b + d).tdiv b = valL b ds := by
      rw [Int.tdiv_eq_ediv_of_nonneg h3, Int.add_comm, Int.add_mul_ediv_right _ _ (by omega), Int.ediv_eq_zero_of_lt hd0.1 hd0.2, Int.zero_add]
    rw [List.length_cons, digD_cons, e1, e2, e3, ih]
theorem vreg_dig {b : Int} {ds : List Int} (hv : vreg b ds = true) : digD b ds.length (valL b ds) = ds := by
  obtain ⟨⟨b1, b2⟩, -, hd, hl⟩ := vreg_iff.1 hv
  exact digD_valL b b1 ds hd hl
theorem valL_shift {b : Int} {ds : List Int} (x : Int) (hv : vreg b ds = true) (hp : pw b ds.length ≤ 1000000000001) : valL b (shiftD b ds x) = (valL b ds + x) % pw b ds.length := by
  obtain ⟨⟨b1, b2⟩, -, hd, hl⟩ := vreg_iff.1 hv
  have hp1 := pw_pos b b1 ds.length
  unfold shiftD
  rw [tmod_wrap _ _ (by omega)]
  have h1 := Int.emod_nonneg (valL b ds + x) (show pw b ds.length ≠ 0 by omega)
  have h2 := Int.emod_lt_of_pos (valL b ds + x) (show 0 < pw b ds.length by omega)
  exact valL_digD b b1 _ _ h1 h2 (by omega)
theorem shiftD_eq (b : Int) (hb : 2 ≤ b) (ds : List Int) (y : Int) : shiftD b ds y = digD b ds.length ((valL b ds + y) % pw b ds.length) := by
  have hp1 := pw_pos b hb ds.length
  unfold shiftD
  rw [tmod_wrap _ _ (by omega)]
theorem shift_back {b : Int} {ds : List Int} (x y : Int) (hxy : x + y = 0) (hv : vreg b ds = true) (hp : pw b ds.length ≤ 1000000000001) : shiftD b (shiftD b ds x) y = ds := by
  obtain ⟨⟨b1, b2⟩, -, hd, hl⟩ := vreg_iff.1 hv
  have hp1 := pw_pos b b1 ds.length
  have hv0 := (valL_bd b b1 ds (fun x hx => (hd x hx).1)).1
  have hv1 := valL_lt b b1 ds hd
  rw [shiftD_eq b b1 (shiftD b ds x) y, valL_shift x hv hp, shiftD_len, Int.emod_add_emod, Int.add_assoc, hxy, Int.add_zero, Int.emod_eq_of_lt hv0 hv1]
  exact vreg_dig hv
/-- the stroke that leads back -/
def backK (k : Int) : Int := if k = 1 then 2 else if k = 2 then 1 else if k = 3 then 4 else 3
theorem turn_back {t : Tri} (h : vmach t = true) (s s' : Int) (hs : s + s' = 0) : (turnT (turnT t s).1 s').1 = t := by
  obtain ⟨k1, k2, k3, e1, e2, f1, f2, l1, c0, c1⟩ := vmach_all h
  have q1 := shift_back (s * (valL t.a.base t.a.digits * pw t.b.base t.carry.toNat)) (s' * (valL t.a.base t.a.digits * pw t.b.base t.carry.toNat)) (by rw [← Int.add_mul, hs, Int.zero_mul]) k2 f1
  have q2 := shift_back (s * pw t.b.base t.carry.toNat) (s' * pw t.b.base t.carry.toNat) (by rw [← Int.add_mul, hs, Int.zero_mul]) k3 f2
  rw [show (turnT (turnT t s).1 s').1 = ⟨t.a, ⟨t.b.base, shiftD t.b.base (shiftD t.b.base t.b.digits (s * (valL t.a.base t.a.digits * pw t.b.base t.carry.toNat))) (s' * (valL t.a.base t.a.digits * pw t.b.base t.carry.toNat))⟩, ⟨t.s.base, shiftD t.s.base (shiftD t.s.base t.s.digits (s * pw t.b.base t.carry.toNat)) (s' * pw t.b.base t.carry.toNat)⟩, t.carry⟩ from rfl, q1, q2]
theorem stroke_back {t : Tri} (h : vmach t = true) {k : Int} (hk : 1 ≤ k ∧ k ≤ 4) : if (strokeT k t).2 = true ∧ 2 < k then (strokeT k t).1 = t else (strokeT (backK k) (strokeT k t).1).1 = t := by
  obtain ⟨k1, k2, k3, e1, e2, f1, f2, l1, c0, c1⟩ := vmach_all h
  have hk' : k = 1 ∨ k = 2 ∨ k = 3 ∨ k = 4 := by omega
  rcases hk' with rfl | rfl | rfl | rfl
  · rw [if_neg (by omega)]
    exact turn_back h 1 (-1) (by decide)
  · rw [if_neg (by omega)]
    exact turn_back h (-1) 1 (by decide)
  · by_cases hc : t.carry + 1 = vplaces t
    · have e : strokeT 3 t = (t, true) := by simp [strokeT, hc]
      rw [e, if_pos ⟨rfl, by decide⟩]
    · have e : strokeT 3 t = ({ t with carry := t.carry + 1 }, false) := by simp [strokeT, hc]
      rw [e, if_neg (by simp)]
      have h4 : ¬ t.carry + 1 = 0 := by omega
      simp [strokeT, backK, h4]
  · by_cases hc : t.carry = 0
    · have e : strokeT 4 t = (t, true) := by simp [strokeT, hc]
      rw [e, if_pos ⟨rfl, by decide⟩]
    · have e : strokeT 4 t = ({ t with carry := t.carry - 1 }, false) := by simp [strokeT, hc]
      rw [e, if_neg (by simp)]
      have h4 : ¬ t.carry = vplaces t := by omega
      simp only [backK, strokeT]
      simp [vplaces] at h4 ⊢
      simp [h4]
end Go.Proofs.YtlhcilmnfmglfaaDoor

namespace Go.Proofs.YtlhcilmnfmglfaaDoor
open Go.RowKit Go.Sort
theorem specValueOf_okR (b : Int) (A : Option Addr) (c : Nat) (ds : List Int) (w : World) (hr : RI w A ds.length ds) (hv : vreg b ds = true) :
    Calls Tryd.prog 16 #[.agg #[.int .i64 b, .slice A ds.length c]] w fun e w' => e = .returned (.tuple #[.int .i64 (valL b ds), .int .i64 0]) ∧ Below w.heap.size w w' := by
  obtain ⟨⟨b1, b2⟩, ⟨n1, n2⟩, hd, -⟩ := vreg_iff.1 hv
  obtain ⟨p, hp⟩ : ∃ p, w.heap.size = p := ⟨_, rfl⟩
  have KR := Lib.hid (fun W (K : Kn w [.blk p [.int .i64 b, .slice A ds.length c] 33] W) => calls_val (l02Ok_any ⟨p, 0, none⟩ b A ds.length c ds W ⟨K.blkAt.1 0, K.blkAt.1 1⟩ (hr.below K.below) (by omega)) (congrArg Value.bool hv))
  have KV := Lib.hid (fun W (hW : Below w.heap.size w W) => l02Value_any b A ds.length c ds W b1 b2 hd (hr.below hW) (by omega))
  have K0 := (Kn.nil w).al [.int .i64 b, .slice A ds.length c] 33
  rw [hp] at K0
  clear hr hd hv
  go_enter Tryd.func16, Tryd.ntmps16
  go_wp2_with fail
  refine Calls.kn K0 ?_; intro w1 K1
  refine (KR.out _ K1).mono ?_; rintro e w2 ⟨rfl, q, rfl⟩
  have K2 := K1.drewN q
  generalize w1.drewN q = w2 at K2 ⊢
  clear K1
  obtain ⟨a1, a2, a3, -⟩ := K2.cells
  go_wp2_with fail
  refine (KV.out _ K2.below).mono ?_; rintro e w3 ⟨rfl, rfl⟩
  clear a1 a2 a3
  go_wp2_with fail
  go_ret2
  exact ⟨rfl, by first | exact K2.below | (have := K2.below; rw [hp] at this; exact this)⟩
theorem compD_take (b : Int) {xs : List Int} {k : Nat} (h : k < xs.length) : compD b (xs.take (k + 1)) = compD b (xs.take k) ++ [b - 1 - xs[k]] := by
  unfold compD; rw [List.take_succ_eq_append_getElem h, List.map_append]; rfl
theorem compD_len (b : Int) (xs : List Int) : (compD b xs).length = xs.length := by simp [compD]
end Go.Proofs.YtlhcilmnfmglfaaDoor

namespace Go.Proofs.YtlhcilmnfmglfaaDoor
open Go.RowKit Go.Sort
/-- two registers of digits of one base and width -/
def A2R (w : World) (e : Ending) (w' : World) : Prop := ∃ (b : Int) (A : Option Addr) (c : Nat) (ds : List Int) (B : Option Addr) (k : Nat) (es : List Int), e = .returned (.tuple #[.agg #[.int .i64 b, .slice A ds.length c], .agg #[.int .i64 b, .slice B ds.length k]]) ∧ ((2 ≤ b ∧ b ≤ 12) ∧ (1 ≤ ds.length ∧ ds.length ≤ 7) ∧ es.length = ds.length ∧ Digs b ds ∧ Digs b es) ∧ Kn w [rowI A c ds, rowI B k es] w'
set_option maxRecDepth 100000 in
set_option maxHeartbeats 3200000 in
theorem A2Registers_any (A : Option Addr) (n c : Nat) (bs : List UInt8) (w : World) (hb : RB w A n bs) (hn : n ≤ 9223372036854775807) :
    Calls Tryd.prog 29 #[.slice A n c] w (A2R w) := by
  unfold A2R
  have HB := Lib.hid hb
  clear hb
  go_enter Tryd.func29, Tryd.ntmps29
  go_wp2_with fail
  refine Calls.kn (((Kn.nil w).al [.int .i64 0, .slice none 0 0] 33).al [.int .i64 0, .slice none 0 0] 33) ?_; intro w1 K1
  simp only [World.size_alloc] at K1
  refine (l00From_any A n c bs w1 (HB.out.below K1.below) hn).mono ?_; rintro e w2 ⟨rfl, hs, hb2⟩
  have D2 := DR.nil hs
  clear HB hs
  go_wp2_with fail
  have KD := l02Draw7_dr _ _ w2 D2.src (by omega)
  unfold DReg7 at KD
  refine KD.mono ?_; rintro e w3 ⟨b, A, c, ds, rfl, ⟨b1, b2, n1, n2, hdg⟩, h3⟩
  have D3 := D2.add h3
  clear D2 h3 KD
  have HDG := Lib.hid hdg
  clear hdg
  obtain ⟨g, hg⟩ : ∃ g, w3.heap.size = g := ⟨_, rfl⟩
  go_upto_region 3 with fail
  have D4 := D3.al [.int .i64 b, .slice A ds.length c] 33
  rw [hg] at D4
  try rw [hg]
  refine Code.wp.dr D4 ?_; clear D3 D4 hg; intro w4 D4
  have HG := Lib.hid (D4.drew.box2)
  have HKA := HG
  have HP := Lib.hid (digits_dr _ _ b ds.length _ D4.drew.src (by omega) (by omega) (by omega) (by omega))
  go_region_held3 (fun W => W.cell? ⟨g, 0, none⟩ = some (.int .i64 b) ∧ W.cell? ⟨g, 1, none⟩ = some (.slice A ds.length c)) (first | with_reducible exact HG.out | with_reducible exact HKA.out | with_reducible exact HKB.out | with_reducible exact HAB.out | with_reducible exact HBA.out) (first
    | (go_at_call 97; refine HP.out.mono ?_; rintro e w5 ⟨B, k, es, rfl, hl, hd2, h5⟩; have D5 := D4.drew.add h5; have K5 : Kn w [rowI B k es, .blk g [.int .i64 b, .slice A ds.length c] 33, rowI A c ds, .blk (w.heap.size + 1) [.int .i64 0, .slice none 0 0] 33, .blk w.heap.size [.int .i64 0, .slice none 0 0] 33] w5 := K1.join (Kn.ofDR hb2 (Nat.le_refl _) D5); have HDE := Lib.hid hd2; have HLE := Lib.hid hl; clear hd2 hl HG; have HG := Lib.hid (Go.Proofs.YtlhcilmnfmglfaaDoor.box2 (K5.front 1 rfl)); have KA := ((K5.front 4 rfl).st 0 (.int .i64 b)).st 1 (.slice A ds.length c); have KB := ((K5.front 3 rfl).st 0 (.int .i64 b)).st 1 (.slice B ds.length k); have KAB := ((KA.front 4 rfl).st 0 (.int .i64 b)).st 1 (.slice B ds.length k); have KBA := ((KB.front 4 rfl).st 0 (.int .i64 b)).st 1 (.slice A ds.length c); clear HKA; have HKA := Lib.hid (Go.Proofs.YtlhcilmnfmglfaaDoor.box2 (KA.front 2 rfl)); have HKB := Lib.hid (Go.Proofs.YtlhcilmnfmglfaaDoor.box2 (KB.front 2 rfl)); have HAB := Lib.hid (Go.Proofs.YtlhcilmnfmglfaaDoor.box2 (KAB.front 3 rfl)); have HBA := Lib.hid (Go.Proofs.YtlhcilmnfmglfaaDoor.box2 (KBA.front 3 rfl)); obtain ⟨a1, a2, a3, -⟩ := (K5.front 4 rfl).cells; obtain ⟨d1, d2, d3, -⟩ := (K5.front 3 rfl).cells))
  all_goals
    clear HG HKA HKB HAB HBA HP
    go_wp2_with fail
    first
      | (refine bodyPost.kn KAB ?_; intro w9 K9)
      | (refine bodyPost.kn (KBA.sel [1, 0, 2, 3, 4] 99 (by decide) (by decide)) ?_; intro w9 K9)
    clear a1 a2 a3 d1 d2 d3
    obtain ⟨d1, d2, d3, a1, a2, a3, -⟩ := K9.cells
    exact bodyPost_ret (v := .tuple #[.agg #[.int .i64 b, .slice A ds.length c], .agg #[.int .i64 b, .slice B ds.length k]]) (by simp [results, Tryd.results29, go_sem, a1, d1]) rfl ⟨b, A, c, ds, B, k, es, rfl, ⟨⟨b1, b2⟩, ⟨n1, n2⟩, HLE.out, HDG.out, HDE.out⟩, K9.sel [4, 2] 99 (by decide) (by decide)⟩
end Go.Proofs.YtlhcilmnfmglfaaDoor

namespace Go.Proofs.YtlhcilmnfmglfaaDoor
open Go.RowKit Go.Sort
structure Flt where
  kind : Int
  lever : Int
def FltM (w : World) (p : Addr) (f : Flt) : Prop := w.cell? p = some (.int .i64 f.kind) ∧ w.cell? ⟨p.block, p.off + 1, none⟩ = some (.int .i64 f.lever)
theorem steady_FltM : Steady FltM := by
  rintro w w' p f hp hb ⟨h1, h2⟩
  exact ⟨by rw [hb.cell hp]; exact h1, by rw [hb.cell (by exact hp)]; exact h2⟩
def kindAt (fs : List Flt) (j : Int) : Int := fs.foldl (fun a f => if f.lever = j then f.kind else a) 0
theorem kindAt_succ {fs : List Flt} {k : Nat} (h : k < fs.length) (j : Int) : kindAt (fs.take (k + 1)) j = if fs[k].lever = j then fs[k].kind else kindAt (fs.take k) j := by
  unfold kindAt
  rw [List.take_succ_eq_append_getElem h, List.foldl_append]; rfl
def kindsL (fs : List Flt) (n : Nat) : List Int := (List.range n).map (fun (i : Nat) => kindAt fs (i : Int))
theorem kindsL_set {fs : List Flt} {k n l : Nat} (h : k < fs.length) (hl : fs[k].lever = (l : Int)) : ((kindsL (fs.take k) n).map (Value.int .i64)).set l (.int .i64 fs[k].kind) = (kindsL (fs.take (k + 1)) n).map (Value.int .i64) := by
  apply List.ext_getElem
  · simp [kindsL]
  · intro i h1 h2
    rw [List.getElem_set]
    simp only [kindsL, List.map_map, List.getElem_map, List.getElem_range, Function.comp, kindAt_succ h, hl]
    by_cases g : l = i
    · subst g; simp
    · have : ¬ (l : Int) = (i : Int) := by omega
      rw [if_neg g, if_neg this]
theorem kindsL_nil (n : Nat) : (kindsL [] n).map (Value.int .i64) = List.replicate n (.int .i64 0) := by
  apply List.ext_getElem
  · simp [kindsL]
  · intro i h1 h2; simp [kindsL, kindAt]
def GoodF (n : Nat) (fs : List Flt) : Prop := ∀ f ∈ fs, 1 ≤ f.kind ∧ f.kind ≤ 3 ∧ 0 ≤ f.lever ∧ f.lever < n
set_option maxHeartbeats 800000 in
theorem l08Kinds_any (n : Nat) (A : Option Addr) (m c : Nat) (fs : List Flt) (w : World) (hr : RL FltM 2 w A m fs) (hg : GoodF n fs) (hn : n ≤ 16) (hm : m ≤ 9223372036854775807) :
    Calls Tryd.prog 192 #[.int .i64 n, .slice A m c] w fun e w' => ∃ A' c', e = .returned (.slice A' n c') ∧ OwnI w' w.heap.size (.slice A' n c') (kindsL fs n) ∧ Below w.heap.size w w' := by
  have HL := Lib.hid hr.1
  obtain ⟨i0, hi, hz0, hz1, hz2⟩ := info_parts info_i64
  go_enter Tryd.func192, Tryd.ntmps192
  go_wp2_with (at_make; refine wpList_make_full _ rfl _ _ 25 rfl w.heap.size 2 i0 _ 1 Tryd.underlying25 hi hz0 hz1 _ _ _ _ n rfl rfl rfl rfl (by rw [hz2]; omega) (by unfold maxLen; omega) (Nat.le_refl _) ?_; intro w1 hown1 hg1)
  rw [madeI] at hown1
  have hb1 : Below w.heap.size w w1 := (Below.refl _ _).grown hg1 (Nat.le_refl _) (by simp)
  clear hg1
  go_loopw [6] (fun i wr => ∃ k : Nat, k ≤ m ∧ i = .int .i64 k ∧ wr.ownsRow w.heap.size 2 1 (.slice (some ⟨w.heap.size, 0, none⟩) n n) n ((kindsL (fs.take k) n).map (Value.int .i64)) ∧ Below w.heap.size w wr) (fun i _ => m - (intOf i).toNat)
  case atStart => exact ⟨0, Nat.zero_le _, rfl, by rw [List.take_zero, kindsL_nil]; exact hown1, hb1⟩
  case round =>
    obtain ⟨k, hk, rfl, hown, hbr⟩ := hrel
    by_cases hkn : k < m
    · obtain ⟨ad, hA, hlt, hkl, f1, f2⟩ := (hr.below steady_FltM hbr).at_ hkn
      obtain ⟨q1, q2, q3, q4⟩ := hg fs[k] (List.getElem_mem _)
      obtain ⟨l, hl⟩ : ∃ l : Nat, fs[k].lever = l := ⟨fs[k].lever.toNat, by omega⟩
      have hln : l < n := by omega
      have hi0 : (0 : Int) ≤ (k : Int) := by omega
      have hi1 : (k : Int) < (m : Int) := by omega
      have hi2 : (0 : Int) ≤ (l : Int) := by omega
      have hi3 : (l : Int) < (n : Int) := by omega
      rw [hl] at f2
      have HE := Lib.hid (kindsL_set (n := n) hkl hl)
      subst hA
      obtain ⟨u, hu⟩ : ∃ u, ((kindsL (fs.take k) n).map (Value.int .i64))[l]? = some u := ⟨_, List.getElem?_eq_getElem (by rw [hown.1]; omega)⟩
      have hcell := (hown.cellAt l (by omega)).trans hu
      clear hu
      have hfz := hown.frozenAt l
      have hst := Lib.hid (fun (W : World) (h : W.ownsRow w.heap.size 2 1 (.slice (some ⟨w.heap.size, 0, none⟩) n n) n ((kindsL (fs.take k) n).map (Value.int .i64))) => (h.stored l (.int .i64 fs[k].kind)).1)
      have HO := Lib.hid hown
      clear hown hl q3 q4
      go_wp2
      go_region
      all_goals
        go_wp2
        go_roundw
        case rel => exact ⟨k + 1, by omega, by go_num, by rw [← HE.out]; exact hst.out _ HO.out.drew, hbr.drew.setCell (Nat.le_refl _) _⟩
        case measure => simp [intOf]; omega
    · have HK : Hid (k = m) := by simp only [Hid]; omega
      go_wp2
      go_ret
      refine ⟨_, _, rfl, ?_, hbr⟩
      rw [HK.out, List.take_of_length_le (by have := HL.out; omega)] at hown
      unfold OwnI
      simpa [kindsL] using hown
end Go.Proofs.YtlhcilmnfmglfaaDoor

namespace Go.Proofs.YtlhcilmnfmglfaaDoor
open Go.RowKit Go.Sort
def carryAt (base : Int) (A B : List Int) (fs : List Flt) : Nat → Int
  | 0 => 0
  | k + 1 => cstep base (A.getD k 0 + B.getD k 0) (carryAt base A B fs k) (kindAt fs k)
def sumD (base : Int) (A B : List Int) (fs : List Flt) (k : Nat) : Int := (A.getD k 0 + B.getD k 0 + carryAt base A B fs k).tmod base
def sumL (base : Int) (A B : List Int) (fs : List Flt) (n : Nat) : List Int := (List.range n).map (sumD base A B fs)
theorem sumL_succ (base : Int) (A B : List Int) (fs : List Flt) (n : Nat) : sumL base A B fs (n + 1) = sumL base A B fs n ++ [sumD base A B fs n] := by simp [sumL, List.range_succ]
theorem sumL_len (base : Int) (A B : List Int) (fs : List Flt) (n : Nat) : (sumL base A B fs n).length = n := by simp [sumL]
theorem cstep_bd (base t c k : Int) : 0 ≤ cstep base t c k ∧ cstep base t c k ≤ 1 := by unfold cstep; split <;> (try split) <;> (try split) <;> (try split) <;> omega
theorem carryAt_bd (base : Int) (A B : List Int) (fs : List Flt) (k : Nat) : 0 ≤ carryAt base A B fs k ∧ carryAt base A B fs k ≤ 1 := by
  cases k with
  | zero => simp [carryAt]
  | succ k => exact cstep_bd _ _ _ _
set_option maxRecDepth 100000 in
set_option maxHeartbeats 1600000 in
theorem l08Add_any (p q : Addr) (a b : Reg) (A : Option Addr) (m c : Nat) (fs : List Flt) (w : World) (hp : RegM w p a) (hq : RegM w q b) (hpl : p.block < w.heap.size) (hql : q.block < w.heap.size) (hr : RL FltM 2 w A m fs)
    (hab : a.digits.length = b.digits.length) (hn : a.digits.length ≤ 16) (hb1 : 2 ≤ a.base) (hb2 : a.base ≤ 16) (hda : ∀ d ∈ a.digits, 0 ≤ d ∧ d < a.base) (hdb : ∀ d ∈ b.digits, 0 ≤ d ∧ d < a.base)
    (hg : GoodF a.digits.length fs) (hm : m ≤ 9223372036854775807) :
    Calls Tryd.prog 176 #[.pointer (some p), .pointer (some q), .slice A m c] w fun e w' => ∃ A' c', e = .returned (.tuple #[.agg #[.int .i64 a.base, .slice A' a.digits.length c'], .int .i64 (carryAt a.base a.digits b.digits fs a.digits.length)]) ∧
      OwnI w' w.heap.size (.slice A' a.digits.length c') (sumL a.base a.digits b.digits fs a.digits.length) ∧ Below w.heap.size w w' := by
  obtain ⟨A1, c1, ⟨ha0, ha1⟩, hra⟩ := hp
  obtain ⟨A2, c2, ⟨hq0, hq1⟩, hrb⟩ := hq
  obtain ⟨i0, hi, hz0, hz1, hz2⟩ := info_parts info_i64
  have HAB := Lib.hid hab; clear hab
  have hb0 : Below w.heap.size w (w.alloc (.cells #[.int .i64 0, .slice none 0 0] 33)) := (Below.refl _ _).alloc (Nat.le_refl _) _
  have u1 : (w.alloc (.cells #[.int .i64 0, .slice none 0 0] 33)).cell? ⟨p.block, p.off + 1, none⟩ = some (.slice A1 a.digits.length c1) := by rw [hb0.cell (by exact hpl)]; exact ha1
  go_enter Tryd.func176, Tryd.ntmps176
  go_wp2_with fail
  refine (l08Kinds_any a.digits.length A m c fs _ (hr.below steady_FltM hb0) hg hn hm).mono ?_; rintro e w1 ⟨X, x, rfl, ox, hw1⟩
  have hbA : Below w.heap.size w w1 := hb0.trans (hw1.mono (by simp))
  obtain ⟨hc, hf⟩ := bcellB (B := w.heap.size + 1) (hw1.mono (by simp))
  have q0 : w1.cell? ⟨w.heap.size, 0, none⟩ = some (.int .i64 0) := by go_simp
  have q1 : w1.cell? ⟨w.heap.size, 1, none⟩ = some (.slice none 0 0) := by go_simp
  have q2 : w1.frozen? ⟨w.heap.size, 0, none⟩ = false := by go_simp
  have q3 : w1.frozen? ⟨w.heap.size, 1, none⟩ = false := by go_simp
  have z1 : w.heap.size + 1 ≤ w1.heap.size := by have := hw1.size; simpa using this
  have y0 : w1.cell? p = some (.int .i64 a.base) := by rw [hbA.cell hpl]; exact ha0
  have y1 : w1.cell? ⟨p.block, p.off + 1, none⟩ = some (.slice A1 a.digits.length c1) := by rw [hbA.cell (by exact hpl)]; exact ha1
  have y2 : w1.cell? ⟨q.block, q.off + 1, none⟩ = some (.slice A2 b.digits.length c2) := by rw [hbA.cell (by exact hql)]; exact hq1
  have rX : RI w1 X a.digits.length (kindsL fs a.digits.length) := ox.ri
  have rA := hra.below hbA
  have rB := hrb.below hbA
  have pl1 : p.block < w1.heap.size := by omega
  have ql1 : q.block < w1.heap.size := by omega
  clear ha0 ha1 hq0 hq1 hra hrb hr ox u1
  go_wp2_with fail
  go_loopw [11, 10] (fun i cy wr => ∃ (k : Nat) (v : Value), k ≤ a.digits.length ∧ i = .int .i64 k ∧ cy = .int .i64 (carryAt a.base a.digits b.digits fs k) ∧ SumAt wr w1.heap.size a.base v (sumL a.base a.digits b.digits fs k) ∧ Below w1.heap.size w1 wr) (fun i _ _ => a.digits.length - (intOf i).toNat)
  case atStart => exact ⟨0, _, Nat.zero_le _, rfl, rfl, ⟨heap_alloc_new _ _, OwnI.nil _ _⟩, (Below.refl _ _).alloc (Nat.le_refl _) _⟩
  case round =>
    obtain ⟨k, v, hk, rfl, rfl, hS, hbr⟩ := hrel
    have HX := Lib.hid (carryAt_bd a.base a.digits b.digits fs k)
    by_cases hkn : k < a.digits.length
    · obtain ⟨ad1, hA1, hlt1, hk1, hd1⟩ := rA.at_ hkn
      rw [← hbr.cell (by rw [block_of_add]; exact hlt1)] at hd1
      obtain ⟨ad2, hA2, hlt2, hk2, hd2⟩ := rB.at_ (show k < b.digits.length from HAB.out ▸ hkn)
      rw [← hbr.cell (by rw [block_of_add]; exact hlt2)] at hd2
      obtain ⟨ad3, hA3, hlt3, hk3, hd3⟩ := rX.at_ hkn
      rw [← hbr.cell (by rw [block_of_add]; exact hlt3)] at hd3
      have e3 : (kindsL fs a.digits.length)[k] = kindAt fs (k : Int) := by simp [kindsL]
      rw [e3] at hd3
      have b1 := hda _ (List.getElem_mem hk1)
      have b2 := hdb _ (List.getElem_mem hk2)
      have v0 : wr.cell? p = some (.int .i64 a.base) := by rw [hbr.cell pl1]; exact y0
      have v1 : wr.cell? ⟨p.block, p.off + 1, none⟩ = some (.slice A1 a.digits.length c1) := by rw [hbr.cell (by exact pl1)]; exact y1
      have v2 : wr.cell? ⟨q.block, q.off + 1, none⟩ = some (.slice A2 b.digits.length c2) := by rw [hbr.cell (by exact ql1)]; exact y2
      obtain ⟨s1, s2, s3⟩ := hS.cells
      have HC := Lib.hid (show carryAt a.base a.digits b.digits fs (k + 1) = cstep a.base (a.digits[k] + b.digits[k]) (carryAt a.base a.digits b.digits fs k) (kindAt fs k) by rw [← getD_of hk1, ← getD_of hk2]; rfl)
      have HD := Lib.hid (show sumD a.base a.digits b.digits fs k = (a.digits[k] + b.digits[k] + carryAt a.base a.digits b.digits fs k).tmod a.base by rw [← getD_of hk1, ← getD_of hk2]; rfl)
      have hkb : (k : Int) < (b.digits.length : Int) := by have := HAB.out; omega
      have hka : (k : Int) < (a.digits.length : Int) := by omega
      have hk0 : (0 : Int) ≤ (k : Int) := by omega
      obtain ⟨cy, hcy⟩ : ∃ cy, cy = carryAt a.base a.digits b.digits fs k := ⟨_, rfl⟩
      obtain ⟨h0, h1⟩ := HX.out
      obtain ⟨kd, hkd⟩ : ∃ kd, kd = kindAt fs (k : Int) := ⟨_, rfl⟩
      obtain ⟨ak, hak⟩ : ∃ ak, ak = a.digits[k] := ⟨_, rfl⟩
      obtain ⟨bk, hbk⟩ : ∃ bk, bk = b.digits[k] := ⟨_, rfl⟩
      rw [← hcy] at h0 h1
      rw [← hcy, ← hkd, ← hak, ← hbk] at HC
      rw [← hcy, ← hak, ← hbk] at HD
      rw [← hak] at hd1 b1
      rw [← hbk] at hd2 b2
      rw [← hkd] at hd3
      rw [← hcy]
      clear hcy hkd hak hbk e3
      subst hA1; subst hA2; subst hA3
      have hS' := Lib.hid hS
      have HO := Lib.hid (fun (n : Nat) (o : Obj) => World.ownsRow.alloc (w := (wr.drewN n).drew) hS.2 o)
      have hbr' := Lib.hid hbr
      have hGl := hS.lt
      clear hS hbr
      have hB1 := Lib.hid hlt3
      go_wp2
      go_quiet (fail)
      go_wp2
      have nz1 : a.base ≠ 0 := by omega
      have nz2 : (a.base == 0) = false := by simp; omega
      have nz3 : ¬ a.base = 0 := by omega
      have wr2 : IntKind.i64.wrap (ak + bk + cy) = ak + bk + cy := wrapI64 (by omega)
      have sA : ((wr.drewN (nq + 1)).alloc (.cells #[.int .i64 ((ak + bk + cy).tmod a.base)] 2)).cell? ⟨w1.heap.size, 1, none⟩ = some v := by rw [World.cell?_alloc_lt _ _ _ (by exact hGl)]; exact s2
      go_region_law (refine step_append_lies _ rfl (.tmp 50) (.tmp 59) 25 rfl (w1.heap.size + 1) 2 i0 _ 1 8 Tryd.underlying25 hi hz0 hz1 hz2 rfl (by decide) v _ _ (by simp [Act.eval]) (HO.out _ _) ⟨wr.heap.size, 0, none⟩ 1 1 [.int .i64 ((ak + bk + cy).tmod a.base)] (by simp [Act.eval, Act.put]) rfl (World.news_of_block (heap_alloc_new _ _)) (by simp [Value.oneCell']) (by decide) (by rw [sumL_len]; unfold maxLen; omega) (by rw [sumL_len]; omega) (by simp; omega) _ rfl ?_; intro gg cap w2 hown2 hgrow2 hat2 hlt2; obtain ⟨t1, t2, t3, t4⟩ := SumAt.far (w := (wr.drewN nq).drew) hS'.out hgrow2)
      all_goals
        obtain ⟨hS3, hB3⟩ := SumAt.step (w := (wr.drewN nq).drew) hS'.out hgrow2 hown2
        obtain ⟨w3, hw3⟩ : ∃ w3, w3 = w2.setCell ⟨w1.heap.size, 1, none⟩ (.slice (some ⟨gg, 0, none⟩) ((sumL a.base a.digits b.digits fs k).length + 1) cap) := ⟨_, rfl⟩
        rw [← hw3] at hS3 hB3
        have hb3 : Below w1.heap.size wr w3 := (below_drewN (Below.refl w1.heap.size wr) (nq + 1)).trans (hB3 _ (Nat.le_refl _))
        have x0 : w3.cell? p = some (.int .i64 a.base) := by rw [hb3.cell pl1]; exact v0
        have x3 : w3.cell? (ad3.add k) = some (.int .i64 kd) := by rw [hb3.cell (by rw [block_of_add]; exact hB1.out)]; exact hd3
        clear hgrow2 hown2 t1 t2 t3 t4 sA hat2
        rw [← hw3]
        clear hw3
        go_wp2
        go_quiet ((go_at_call 193; exact quiet_left (l08Carry_any _ _ _ _ _ (by omega) (by omega) h0 h1)))
        go_wp2
        go_roundw
        case rel => exact ⟨k + 1, _, by omega, by go_num, by rw [HC.out], by rw [sumL_succ, HD.out]; exact hS3, hbr'.out.trans (below_drewN hb3 _)⟩
        case measure => simp [intOf]; omega
    · have HK : Hid (k = a.digits.length) := by simp only [Hid]; omega
      have v1 : wr.cell? ⟨p.block, p.off + 1, none⟩ = some (.slice A1 a.digits.length c1) := by rw [hbr.cell (by exact pl1)]; exact y1
      obtain ⟨s1, s2, s3⟩ := hS.cells
      have m0 : wr.cell? ⟨w.heap.size, 0, none⟩ = some (.int .i64 0) := by rw [hbr.cell (by exact z1)]; exact q0
      have m1 : wr.cell? ⟨w.heap.size, 1, none⟩ = some (.slice none 0 0) := by rw [hbr.cell (by exact z1)]; exact q1
      have m2 : wr.frozen? ⟨w.heap.size, 0, none⟩ = false := by rw [hbr.frozen (by exact z1)]; exact q2
      have m3 : wr.frozen? ⟨w.heap.size, 1, none⟩ = false := by rw [hbr.frozen (by exact z1)]; exact q3
      obtain ⟨A', c', rfl, hri, hge⟩ := hS.2.reads
      have hO := Lib.hid hS.2
      have hbr' := Lib.hid hbr
      clear hS hbr
      go_wp2_with fail
      refine bodyPost_ret (v := .tuple #[.agg #[.int .i64 a.base, .slice A' (sumL a.base a.digits b.digits fs k).length c'], .int .i64 (carryAt a.base a.digits b.digits fs k)]) (by simp [results, Tryd.results176, go_sem, m0, m1, m2, m3]) rfl ⟨A', c', ?_, ?_, ?_⟩
      · rw [HK.out, sumL_len]
      · have h1 := hO.out
        rw [HK.out] at h1
        rw [sumL_len] at h1
        exact (((h1.setBelow (by simp <;> omega) _).setBelow (by simp <;> omega) _)).mono (by omega)
      · exact ((hbA.trans (hbr'.out.mono (by omega))).setCell (by simp) _).setCell (by simp) _
end Go.Proofs.YtlhcilmnfmglfaaDoor
