/- Part 4: lemmas and contracts of the claim's functions. -/
import Derived.Test.YtafnebpbfmbgiaaDoorZC1
import Derived.Test.YtafnebpbfmbgiaaDoorZC2
import Derived.Test.YtafnebpbfmbgiaaDoorZC3
import Derived.Deep.RegionHeld3
import Derived.Deep.DeepCutAuto
namespace Go.Proofs.YtafnebpbfmbgiaaDoor
open Go.RowKit Go.Sort
/-- a fresh machine of a base and widths -/
def newT (b : Int) (n1 n2 n3 : Nat) : Tri := ⟨⟨b, digD b n1 0⟩, ⟨b, digD b n2 0⟩, ⟨b, digD b n3 0⟩, 0⟩
set_option maxRecDepth 100000 in
set_option maxHeartbeats 1600000 in
theorem l10New_any (b : Int) (n1 n2 n3 : Nat) (w : World) (b1 : 2 ≤ b) (b2 : b ≤ 16) (h1 : n1 ≤ 1000000) (h2 : n2 ≤ 1000000) (h3 : n3 ≤ 1000000) :
    Calls Tryd.prog 164 #[.int .i64 b, .int .i64 n1, .int .i64 n2, .int .i64 n3] w fun e w' => ∃ E1 g1 E2 g2 E3 g3, e = .returned (.agg #[.int .i64 b, .slice E1 (digD b n1 0).length g1, .int .i64 b, .slice E2 (digD b n2 0).length g2, .int .i64 b, .slice E3 (digD b n3 0).length g3, .int .i64 0]) ∧
      Kn w [rowI E3 g3 (digD b n3 0), rowI E2 g2 (digD b n2 0), rowI E1 g1 (digD b n1 0)] w' := by
  have K1 := (fun W => l02NewV_any b n1 0 W b1 b2 h1 (by decide) (by decide))
  have K2 := (fun W => l02NewV_any b n2 0 W b1 b2 h2 (by decide) (by decide))
  have K3 := (fun W => l02NewV_any b n3 0 W b1 b2 h3 (by decide) (by decide))
  obtain ⟨x1, hx1⟩ : ∃ x, digD b n1 0 = x := ⟨_, rfl⟩
  obtain ⟨x2, hx2⟩ : ∃ x, digD b n2 0 = x := ⟨_, rfl⟩
  obtain ⟨x3, hx3⟩ : ∃ x, digD b n3 0 = x := ⟨_, rfl⟩
  rw [hx1] at K1 ⊢
  rw [hx2] at K2 ⊢
  rw [hx3] at K3 ⊢
  have K1 := Lib.hid K1
  have K2 := Lib.hid K2
  have K3 := Lib.hid K3
  clear hx1 hx2 hx3
  go_enter Tryd.func164, Tryd.ntmps164
  go_wp2_with fail
  refine Calls.kn ((Kn.nil w).al [.int .i64 0, .slice none 0 0, .int .i64 0, .slice none 0 0, .int .i64 0, .slice none 0 0, .int .i64 0] 28) ?_; intro w1 hK1
  (with_reducible refine (K1.out _).mono ?_); rintro e w2 ⟨E1, g1, rfl, hKn⟩
  have hK2 := hK1.join hKn
  go_wp2_with fail
  refine Calls.kn (hK2.al [.int .i64 b, .slice E1 x1.length g1] 26) ?_; intro w3 hK3
  (with_reducible refine (K2.out _).mono ?_); rintro e w4 ⟨E2, g2, rfl, hKm⟩
  have hK4 := hK3.join hKm
  go_wp2_with fail
  refine Calls.kn (hK4.al [.int .i64 b, .slice E2 x2.length g2] 26) ?_; intro w5 hK5
  (with_reducible refine (K3.out _).mono ?_); rintro e w6 ⟨E3, g3, rfl, hKo⟩
  have hK6 := hK5.join hKo
  clear hK1 hK2 hK3 hK4 hK5 hKn hKm hKo
  obtain ⟨a1, a2, a3, d1, d2, d3, c1, c2, c3, -⟩ := hK6.cells
  go_wp2_with fail
  refine bodyPost.kn ((((((((hK6.front 5 rfl).st 0 (.int .i64 b)).st 1 (.slice E1 x1.length g1)).st 2 (.int .i64 b)).st 3 (.slice E2 x2.length g2)).st 4 (.int .i64 b)).st 5 (.slice E3 x3.length g3)).st 6 (.int .i64 0) |>.al_ _) ?_; intro w7 hK7
  clear a1 a2 a3 d1 d2 d3 c1 c2 c3
  obtain ⟨a1, a2, a3, -⟩ := hK7.cells
  refine bodyPost_ret (v := .agg #[.int .i64 b, .slice E1 x1.length g1, .int .i64 b, .slice E2 x2.length g2, .int .i64 b, .slice E3 x3.length g3, .int .i64 0]) (by simp [results, Tryd.results164, go_sem, a1]) rfl ⟨E1, g1, E2, g2, E3, g3, rfl, ?_⟩
  exact hK7.sel [1, 3, 5] 99 (by decide) (by decide)
end Go.Proofs.YtafnebpbfmbgiaaDoor

namespace Go.Proofs.YtafnebpbfmbgiaaDoor
open Go.RowKit Go.Sort
/-- a base and widths are those of machines -/
def nmOk (b n1 n2 n3 : Int) : Bool := (betB b 2 16 && betB n1 1 16 && betB n2 1 16 && betB n3 1 16) && vmach (newT b n1.toNat n2.toNat n3.toNat)
theorem regWidth_any (n : Int) (w : World) : Calls Tryd.prog 111 #[.int .i64 n] w fun e w' => e = .returned (.bool (betB n 1 16)) ∧ w = w' := by
  go_enter Tryd.func111, Tryd.ntmps111
  go_wp2_with (go_at_call 112; refine (between_any _ _ _ _).mono ?_; rintro e w' ⟨rfl, rfl⟩)
  go_ret
  exact ⟨rfl, rfl⟩
theorem l07Size_any (n : Int) (w : World) : Calls Tryd.prog 163 #[.int .i64 n] w fun e w' => e = .returned (.bool (betB n 1 16)) ∧ w = w' := by
  go_enter Tryd.func163, Tryd.ntmps163
  go_wp2_with (go_at_call 165; refine (l00In_any _ _ _ _).mono ?_; rintro e w' ⟨rfl, rfl⟩)
  go_ret
  exact ⟨rfl, rfl⟩
theorem specNewMachine_range (b n1 n2 n3 : Int) (w : World) (h : (betB b 2 16 && betB n1 1 16 && betB n2 1 16 && betB n3 1 16) = false) :
    Calls Tryd.prog 71 #[.int .i64 b, .int .i64 n1, .int .i64 n2, .int .i64 n3] w fun e w' => e = .returned (.tuple #[.agg #[.int .i64 0, .slice none 0 0, .int .i64 0, .slice none 0 0, .int .i64 0, .slice none 0 0, .int .i64 0], .int .i64 2]) ∧ Below w.heap.size w w' := by
  have KB := (fun W => l02Base_any b W)
  have K1 := (fun W => l07Size_any n1 W)
  have K2 := (fun W => l07Size_any n2 W)
  have K3 := (fun W => l07Size_any n3 W)
  rcases chain4 (betB b 2 16) (betB n1 1 16) (betB n2 1 16) (betB n3 1 16) with h1 | ⟨h1, h2⟩ | ⟨h1, h2, h3⟩ | ⟨h1, h2, h3, h4⟩ | ⟨h1, h2, h3, h4⟩
  case inr.inr.inr.inr => rw [h1, h2, h3, h4] at h; cases h
  all_goals
    rw [h1] at KB
    try rw [h2] at K1
    try rw [h3] at K2
    try rw [h4] at K3
    clear h h1
    try clear h2
    try clear h3
    try clear h4
    have KB := Lib.hid KB
    have K1 := Lib.hid K1
    have K2 := Lib.hid K2
    have K3 := Lib.hid K3
    go_enter Tryd.func71, Tryd.ntmps71
    go_wp2_with (first | (go_at_call 162; refine (KB.out _).mono ?_; rintro e w' ⟨rfl, rfl⟩) | (go_at_call 163; first | (with_reducible refine (K1.out _).mono ?_; rintro e w' ⟨rfl, rfl⟩) | (with_reducible refine (K2.out _).mono ?_; rintro e w' ⟨rfl, rfl⟩) | (with_reducible refine (K3.out _).mono ?_; rintro e w' ⟨rfl, rfl⟩)))
    refine bodyPost.kn ((Kn.nil w).al [.int .i64 0, .slice none 0 0, .int .i64 0, .slice none 0 0, .int .i64 0, .slice none 0 0, .int .i64 0] 28) ?_; intro w6 hK6
    obtain ⟨a1, a2, a3, -⟩ := hK6.cells
    exact bodyPost_ret (v := .tuple #[.agg #[.int .i64 0, .slice none 0 0, .int .i64 0, .slice none 0 0, .int .i64 0, .slice none 0 0, .int .i64 0], .int .i64 2]) (by simp [results, Tryd.results71, go_sem, a1]) rfl ⟨rfl, hK6.below⟩
/-- what NewMachine returns for widths in range -/
def NMRet (b : Int) (n1 n2 n3 : Nat) (v : Bool) (w : World) (e : Ending) (w' : World) : Prop :=
  (v = true ∧ ∃ E1 g1 E2 g2 E3 g3, e = .returned (.tuple #[.agg #[.int .i64 b, .slice E1 (digD b n1 0).length g1, .int .i64 b, .slice E2 (digD b n2 0).length g2, .int .i64 b, .slice E3 (digD b n3 0).length g3, .int .i64 0], .int .i64 0]) ∧ Kn w [rowI E3 g3 (digD b n3 0), rowI E2 g2 (digD b n2 0), rowI E1 g1 (digD b n1 0)] w') ∨
  (v = false ∧ e = .returned (.tuple #[.agg #[.int .i64 0, .slice none 0 0, .int .i64 0, .slice none 0 0, .int .i64 0, .slice none 0 0, .int .i64 0], .int .i64 2]) ∧ Below w.heap.size w w')
set_option maxRecDepth 100000 in
set_option maxHeartbeats 3200000 in
theorem specNewMachine_any (b : Int) (n1 n2 n3 : Nat) (v : Bool) (w : World) (hb1 : 2 ≤ b) (hb2 : b ≤ 16) (h1 : 1 ≤ n1) (h1' : n1 ≤ 16) (h2 : 1 ≤ n2) (h2' : n2 ≤ 16) (h3 : 1 ≤ n3) (h3' : n3 ≤ 16) (hv : vmach (newT b n1 n2 n3) = v) :
    Calls Tryd.prog 71 #[.int .i64 b, .int .i64 n1, .int .i64 n2, .int .i64 n3] w (NMRet b n1 n2 n3 v w) := by
  have B0 : betB b 2 16 = true := betB_iff.2 (by omega)
  have B1 : betB n1 1 16 = true := betB_iff.2 (by omega)
  have B2 : betB n2 1 16 = true := betB_iff.2 (by omega)
  have B3 : betB n3 1 16 = true := betB_iff.2 (by omega)
  have KB := Lib.hid (fun W => calls_val (l02Base_any b W) (congrArg Value.bool B0))
  have KW1 := Lib.hid (fun W => calls_val (l07Size_any n1 W) (congrArg Value.bool B1))
  have KW2 := Lib.hid (fun W => calls_val (l07Size_any n2 W) (congrArg Value.bool B2))
  have KW3 := Lib.hid (fun W => calls_val (l07Size_any n3 W) (congrArg Value.bool B3))
  unfold newT at hv
  have l1 := digD_len b n1 0
  have l2 := digD_len b n2 0
  have l3 := digD_len b n3 0
  unfold NMRet
  have KN := (fun W => l10New_any b n1 n2 n3 W hb1 hb2 (by omega) (by omega) (by omega))
  obtain ⟨x1, hx1⟩ : ∃ x, digD b n1 0 = x := ⟨_, rfl⟩
  obtain ⟨x2, hx2⟩ : ∃ x, digD b n2 0 = x := ⟨_, rfl⟩
  obtain ⟨x3, hx3⟩ : ∃ x, digD b n3 0 = x := ⟨_, rfl⟩
  rw [hx1] at KN hv l1 ⊢
  rw [hx2] at KN hv l2 ⊢
  rw [hx3] at KN hv l3 ⊢
  have KN := Lib.hid KN
  have KO := Lib.hid (fun (g : Nat) (E1 E2 E3 : Option Addr) (g1 g2 g3 : Nat) (W : World) (m : List Ent) (hK : Kn w (.blk g [.int .i64 b, .slice E1 x1.length g1, .int .i64 b, .slice E2 x2.length g2, .int .i64 b, .slice E3 x3.length g3, .int .i64 0] 28 :: rowI E3 g3 x3 :: rowI E2 g2 x2 :: rowI E1 g1 x1 :: m) W) =>
    calls_val (l10Ok_any ⟨g, 0, none⟩ ⟨⟨b, x1⟩, ⟨b, x2⟩, ⟨b, x3⟩, 0⟩ W (TriC.tri (A1 := E1) (c1 := g1) (A2 := E2) (c2 := g2) (A3 := E3) (c3 := g3) ⟨box7' hK, Kn.riv (hK.sel [3] 99 (by decide) (by decide)), Kn.riv (hK.sel [2] 99 (by decide) (by decide)), Kn.riv (hK.sel [1] 99 (by decide) (by decide))⟩) ⟨by unfold SmallReg; simp only []; omega, by unfold SmallReg; simp only []; omega, by unfold SmallReg; simp only []; omega⟩) (congrArg Value.bool hv))
  clear hx1 hx2 hx3 l1 l2 l3 B0 B1 B2 B3
  rcases v with _ | _
  all_goals
    clear hv
    go_enter Tryd.func71, Tryd.ntmps71
    go_wp2_with (first | (go_at_call 162; refine (KB.out _).mono ?_; rintro e w' ⟨rfl, rfl⟩) | (go_at_call 163; first | (with_reducible refine (KW1.out _).mono ?_; rintro e w' ⟨rfl, rfl⟩) | (with_reducible refine (KW2.out _).mono ?_; rintro e w' ⟨rfl, rfl⟩) | (with_reducible refine (KW3.out _).mono ?_; rintro e w' ⟨rfl, rfl⟩)))
    refine Calls.kn ((Kn.nil w).al [.int .i64 0, .slice none 0 0, .int .i64 0, .slice none 0 0, .int .i64 0, .slice none 0 0, .int .i64 0] 28) ?_; intro w1 hK1
    (with_reducible refine (KN.out _).mono ?_); rintro e w2 ⟨E1, g1, E2, g2, E3, g3, rfl, hKn⟩
    have hK2 := hK1.join hKn
    clear hK1 hKn
    go_wp2_with fail
    refine Calls.kn (hK2.al [.int .i64 b, .slice E1 x1.length g1, .int .i64 b, .slice E2 x2.length g2, .int .i64 b, .slice E3 x3.length g3, .int .i64 0] 28) ?_; intro w3 hK3
    refine (KO.out _ _ _ _ _ _ _ _ _ hK3).mono ?_; rintro e w4 ⟨rfl, q, rfl⟩
    have hK4 := hK3.drewN q
    generalize w3.drewN q = w4 at hK4 ⊢
    clear hK2 hK3
    obtain ⟨a1, a2, a3, d1, d2, d3, -⟩ := hK4.cells
    go_wp2_with fail
  · refine bodyPost.kn (((((((hK4.front 4 rfl).st 0 (.int .i64 0)).st 1 (.slice none 0 0)).st 2 (.int .i64 0)).st 3 (.slice none 0 0)).st 4 (.int .i64 0)).st 5 (.slice none 0 0) |>.st 6 (.int .i64 0)) ?_; intro w6 hK6
    clear a1 a2 a3 d1 d2 d3
    obtain ⟨a1, a2, a3, -⟩ := hK6.cells
    exact bodyPost_ret (v := .tuple #[.agg #[.int .i64 0, .slice none 0 0, .int .i64 0, .slice none 0 0, .int .i64 0, .slice none 0 0, .int .i64 0], .int .i64 2]) (by simp [results, Tryd.results71, go_sem, a1]) rfl (.inr ⟨by simp, by simp, hK6.below⟩)
  · refine bodyPost.kn (((((((hK4.front 4 rfl).st 0 (.int .i64 b)).st 1 (.slice E1 x1.length g1)).st 2 (.int .i64 b)).st 3 (.slice E2 x2.length g2)).st 4 (.int .i64 b)).st 5 (.slice E3 x3.length g3) |>.st 6 (.int .i64 0)) ?_; intro w6 hK6
    clear a1 a2 a3 d1 d2 d3
    obtain ⟨a1, a2, a3, -⟩ := hK6.cells
    exact bodyPost_ret (v := .tuple #[.agg #[.int .i64 b, .slice E1 x1.length g1, .int .i64 b, .slice E2 x2.length g2, .int .i64 b, .slice E3 x3.length g3, .int .i64 0], .int .i64 0]) (by simp [results, Tryd.results71, go_sem, a1]) rfl (.inl ⟨by simp, E1, g1, E2, g2, E3, g3, rfl, hK6.sel [2, 3, 4] 99 (by decide) (by decide)⟩)
end Go.Proofs.YtafnebpbfmbgiaaDoor

namespace Go.Proofs.YtafnebpbfmbgiaaDoor
open Go.RowKit Go.Sort
/-- accumulators: which registers they are, and what they show -/
def aOk (b : Int) (ds : List Int) : Bool := vreg b ds && decide (pw b ds.length ≤ 1000000000001)
def aSize (b : Int) (ds : List Int) : Int := if aOk b ds = true then pw b ds.length else 0
def isNm (n x : Int) : Bool := betB x (-(n.tdiv 2)) (n - 1 - n.tdiv 2)
def aNum (b : Int) (ds : List Int) : Int := if valL b ds ≤ pw b ds.length - 1 - (pw b ds.length).tdiv 2 then valL b ds else valL b ds - pw b ds.length
def aNorm (n x : Int) : Int := (x.tmod n + n).tmod n
def aSet (b : Int) (k : Nat) (x : Int) : List Int := digD b k (aNorm (pw b k) x)
theorem aOk_iff {b : Int} {ds : List Int} : aOk b ds = true ↔ vreg b ds = true ∧ pw b ds.length ≤ 1000000000001 := by
  unfold aOk; rw [Bool.and_eq_true, decide_eq_true_eq]
theorem aNorm_bd {n x : Int} (hn : 1 ≤ n) : 0 ≤ aNorm n x ∧ aNorm n x < n := by
  unfold aNorm
  have h1 : -n < x.tmod n ∧ x.tmod n < n := by
    rcases Int.le_total 0 x with h | h
    · rw [Int.tmod_eq_emod_of_nonneg h]
      have := Int.emod_nonneg x (show n ≠ 0 by omega)
      have := Int.emod_lt_of_pos x (show 0 < n by omega)
      omega
    · have h2 := Int.neg_tmod (-x) n
      rw [Int.neg_neg] at h2
      rw [h2, Int.tmod_eq_emod_of_nonneg (by omega)]
      have := Int.emod_nonneg (-x) (show n ≠ 0 by omega)
      have := Int.emod_lt_of_pos (-x) (show 0 < n by omega)
      omega
  rw [Int.tmod_eq_emod_of_nonneg (by omega)]
  exact ⟨Int.emod_nonneg _ (by omega), Int.emod_lt_of_pos _ (by omega)⟩
theorem half_bd {n : Int} (hn : 0 ≤ n) : 0 ≤ n.tdiv 2 ∧ 2 * n.tdiv 2 ≤ n ∧ n ≤ 2 * n.tdiv 2 + 1 := by
  rw [Int.tdiv_eq_ediv_of_nonneg hn]; omega
theorem valL_in {b : Int} {ds : List Int} (h : aOk b ds = true) : 0 ≤ valL b ds ∧ valL b ds < pw b ds.length ∧ 1 ≤ pw b ds.length ∧ pw b ds.length ≤ 1000000000001 := by
  obtain ⟨h1, h2⟩ := aOk_iff.1 h
  obtain ⟨⟨b1, b2⟩, -, hd, -⟩ := vreg_iff.1 h1
  exact ⟨(valL_bd b b1 ds (fun d hd' => (hd d hd').1)).1, valL_lt b b1 ds hd, pw_pos b b1 _, h2⟩
theorem aNum_bd {b : Int} {ds : List Int} (h : aOk b ds = true) : -1000000000001 ≤ aNum b ds ∧ aNum b ds ≤ 1000000000001 := by
  have := valL_in h
  unfold aNum
  split <;> omega
end Go.Proofs.YtafnebpbfmbgiaaDoor

namespace Go.Proofs.YtafnebpbfmbgiaaDoor
open Go.RowKit Go.Sort
/-- what a function that adds a number returns -/
def anuC (b : Int) (ds : List Int) (x : Int) : Int := if aOk b ds = false then 1 else if betB x (-1000000000000) 1000000000000 = false then 2 else 0
def ANRet (b : Int) (ds : List Int) (x : Int) (w : World) (e : Ending) (w' : World) : Prop :=
  (anuC b ds x ≠ 0 ∧ e = .returned (.tuple #[.agg #[.int .i64 0, .slice none 0 0], .bool false, .int .i64 (anuC b ds x)]) ∧ Below w.heap.size w w') ∨
  (anuC b ds x = 0 ∧ ∃ E g, e = .returned (.tuple #[.agg #[.int .i64 b, .slice E (aSet b ds.length (aNum b ds + x)).length g], .bool (!isNm (pw b ds.length) (aNum b ds + x)), .int .i64 0]) ∧ Kn w [rowI E g (aSet b ds.length (aNum b ds + x))] w')
end Go.Proofs.YtafnebpbfmbgiaaDoor

namespace Go.Proofs.YtafnebpbfmbgiaaDoor
open Go.RowKit Go.Sort
/-- a register in a block -/
def RegB (w : World) (g : Nat) (b : Int) (A : Option Addr) (c : Nat) (ds : List Int) : Prop := (w.cell? ⟨g, 0, none⟩ = some (.int .i64 b) ∧ w.cell? ⟨g, 1, none⟩ = some (.slice A ds.length c)) ∧ RI w A ds.length ds
theorem RegB.below {w w' : World} {g : Nat} {b : Int} {A : Option Addr} {c : Nat} {ds : List Int} (h : RegB w g b A c ds) (hb : Below w.heap.size w w') : RegB w' g b A c ds := by
  have hlt : g < w.heap.size := World.block_lt_of_cell? w _ h.1.1
  exact ⟨⟨(hb.cell (p := ⟨g, 0, none⟩) hlt).trans h.1.1, (hb.cell (p := ⟨g, 1, none⟩) hlt).trans h.1.2⟩, h.2.below hb⟩
theorem tmod_bd {n x : Int} (hn : 1 ≤ n) : -n < x.tmod n ∧ x.tmod n < n := by
  rcases Int.le_total 0 x with h | h
  · rw [Int.tmod_eq_emod_of_nonneg h]
    have := Int.emod_nonneg x (show n ≠ 0 by omega)
    have := Int.emod_lt_of_pos x (show 0 < n by omega)
    omega
  · have h2 := Int.neg_tmod (-x) n
    rw [Int.neg_neg] at h2
    rw [h2, Int.tmod_eq_emod_of_nonneg (by omega)]
    have := Int.emod_nonneg (-x) (show n ≠ 0 by omega)
    have := Int.emod_lt_of_pos (-x) (show 0 < n by omega)
    omega
end Go.Proofs.YtafnebpbfmbgiaaDoor

namespace Go.Proofs.YtafnebpbfmbgiaaDoor
open Go.RowKit Go.Sort
theorem isNm_val {n v : Int} (hn : 1 ≤ n) (h0 : 0 ≤ v) : isNm n v = decide (v ≤ n - 1 - n.tdiv 2) := by
  have hh := half_bd (n := n) (by omega)
  unfold isNm
  rw [Bool.eq_iff_iff, betB_iff, decide_eq_true_eq]
  omega
end Go.Proofs.YtafnebpbfmbgiaaDoor

namespace Go.Proofs.YtafnebpbfmbgiaaDoor
open Go.RowKit Go.Sort
/-- how far each wheel is turned to come to 0 -/
def ctL (b : Int) (ds : List Int) : List Int := ds.map (fun d => (b - d).tmod b)
def ctR (b : Int) (ds : List Int) : List Int := if vreg b ds then ctL b ds else []
def CTRet (b : Int) (ds : List Int) (w : World) (e : Ending) (w' : World) : Prop := ∃ E k, e = .returned (.tuple #[.slice E (ctR b ds).length k, .int .i64 (if vreg b ds then 0 else 1)]) ∧ Kn w [rowI E k (ctR b ds)] w'
theorem ctL_take {b : Int} {ds : List Int} {k : Nat} (h : k < ds.length) : ctL b (ds.take (k + 1)) = ctL b (ds.take k) ++ [(b - ds[k]).tmod b] := by
  unfold ctL; rw [List.take_succ_eq_append_getElem h, List.map_append]; rfl
theorem ctL_len (b : Int) (ds : List Int) : (ctL b ds).length = ds.length := by unfold ctL; rw [List.length_map]
end Go.Proofs.YtafnebpbfmbgiaaDoor

namespace Go.Proofs.YtafnebpbfmbgiaaDoor
open Go.RowKit Go.Sort
def tfC (b : Int) (ds : List Int) (b' : Int) (es : List Int) : Int := if (aOk b ds && aOk b' es) = false then 1 else if b ≠ b' then 6 else 0
/-- what a transfer returns -/
def TFRet (b : Int) (ds : List Int) (b' : Int) (es : List Int) (w : World) (e : Ending) (w' : World) : Prop :=
  (tfC b ds b' es ≠ 0 ∧ e = .returned (.tuple #[.agg #[.int .i64 0, .slice none 0 0], .agg #[.int .i64 0, .slice none 0 0], .bool false, .int .i64 (tfC b ds b' es)]) ∧ Below w.heap.size w w') ∨
  (tfC b ds b' es = 0 ∧ ∃ E1 k1 E2 k2, e = .returned (.tuple #[.agg #[.int .i64 b, .slice E1 (digD b ds.length 0).length k1], .agg #[.int .i64 b', .slice E2 (aSet b' es.length (aNum b' es + aNum b ds)).length k2], .bool (!isNm (pw b' es.length) (aNum b' es + aNum b ds)), .int .i64 0]) ∧
    Kn w [rowI E2 k2 (aSet b' es.length (aNum b' es + aNum b ds)), rowI E1 k1 (digD b ds.length 0)] w')
theorem tfC_bad {b b' : Int} {ds es : List Int} (h : (aOk b ds && aOk b' es) = false) : tfC b ds b' es = 1 := by unfold tfC; rw [if_pos h]
end Go.Proofs.YtafnebpbfmbgiaaDoor

namespace Go.Proofs.YtafnebpbfmbgiaaDoor
open Go.RowKit Go.Sort
def accD (b : Int) (ds xs : List Int) : Nat → List Int
  | 0 => ds
  | k + 1 => aSet b ds.length (aNum b (accD b ds xs k) + xs.getD k 0)
def accB (b : Int) (ds xs : List Int) : Nat → List Int
  | 0 => []
  | k + 1 => if isNm (pw b ds.length) (aNum b (accD b ds xs k) + xs.getD k 0) = true then accB b ds xs k else accB b ds xs k ++ [(k : Int)]
def inA (xs : List Int) : Bool := xs.all (fun x => betB x (-1000000000000) 1000000000000)
def aaC (b : Int) (ds xs : List Int) : Int := if aOk b ds = false then 1 else if inA xs = false then 2 else 0
theorem aSet_len (b : Int) (k : Nat) (x : Int) : (aSet b k x).length = k := digD_len ..
theorem accD_len (b : Int) (ds xs : List Int) (k : Nat) : (accD b ds xs k).length = ds.length := by
  cases k with
  | zero => rfl
  | succ k => exact aSet_len ..
theorem accB_len (b : Int) (ds xs : List Int) (k : Nat) : (accB b ds xs k).length ≤ k := by
  induction k with
  | zero => simp [accB]
  | succ k ih => unfold accB; split; omega; rw [List.length_append]; simp; omega
theorem aSet_ok {b : Int} {ds : List Int} (h : aOk b ds = true) (x : Int) : aOk b (aSet b ds.length x) = true := by
  obtain ⟨h1, h2⟩ := aOk_iff.1 h
  obtain ⟨⟨b1, b2⟩, ⟨n1, n2⟩, -⟩ := vreg_iff.1 h1
  have hp := pw_pos b b1 ds.length
  have hb := aNorm_bd (n := pw b ds.length) (x := x) hp
  refine aOk_iff.2 ⟨?_, by rw [aSet_len]; exact h2⟩
  exact digD_vreg b b1 b2 _ n1 n2 _ hb.1 hb.2 (by omega)
theorem accD_ok {b : Int} {ds : List Int} (h : aOk b ds = true) (xs : List Int) (k : Nat) : aOk b (accD b ds xs k) = true := by
  cases k with
  | zero => exact h
  | succ k => exact aSet_ok h _
theorem inA_take_succ {xs : List Int} {k : Nat} (h : k < xs.length) : inA (xs.take (k + 1)) = (inA (xs.take k) && betB xs[k] (-1000000000000) 1000000000000) := by
  unfold inA; rw [List.take_succ_eq_append_getElem h, List.all_append]; simp only [List.all_cons, List.all_nil, Bool.and_true]
theorem inA_not {xs : List Int} {k : Nat} (h : k < xs.length) (h1 : betB xs[k] (-1000000000000) 1000000000000 = false) : inA xs = false := by
  simp only [inA, List.all_eq_false]; exact ⟨xs[k], List.getElem_mem _, by simp [h1]⟩
/-- what the adding of numbers returns -/
def AARet (b : Int) (ds xs : List Int) (w : World) (e : Ending) (w' : World) : Prop :=
  (aaC b ds xs ≠ 0 ∧ e = .returned (.tuple #[.agg #[.int .i64 0, .slice none 0 0], .slice none 0 0, .int .i64 (aaC b ds xs)]) ∧ Below w.heap.size w w') ∨
  (aaC b ds xs = 0 ∧ ∃ E k B m, e = .returned (.tuple #[.agg #[.int .i64 b, .slice E (accD b ds xs xs.length).length k], .slice B (accB b ds xs xs.length).length m, .int .i64 0]) ∧
    Kn w [rowI B m (accB b ds xs xs.length), rowI E k (accD b ds xs xs.length)] w')
theorem accD_succ (b : Int) (ds : List Int) {xs : List Int} {i : Nat} (h : i < xs.length) : accD b ds xs (i + 1) = aSet b ds.length (aNum b (accD b ds xs i) + xs[i]) := by rw [← getD_of h]; rfl
theorem accB_succ (b : Int) (ds : List Int) {xs : List Int} {i : Nat} (h : i < xs.length) : accB b ds xs (i + 1) = if isNm (pw b ds.length) (aNum b (accD b ds xs i) + xs[i]) = true then accB b ds xs i else accB b ds xs i ++ [(i : Int)] := by rw [← getD_of h]; rfl
theorem inA_get {xs : List Int} (h : inA xs = true) {i : Nat} (hi : i < xs.length) : betB xs[i] (-1000000000000) 1000000000000 = true := by
  unfold inA at h
  exact List.all_eq_true.1 h _ (List.getElem_mem _)
end Go.Proofs.YtafnebpbfmbgiaaDoor

namespace Go.Proofs.YtafnebpbfmbgiaaDoor
open Go.RowKit Go.Sort
end Go.Proofs.YtafnebpbfmbgiaaDoor

namespace Go.Proofs.YtafnebpbfmbgiaaDoor
open Go.RowKit Go.Sort
/-- what the drawing of a good register returns -/
def DReg (b M : Nat) (w : World) (e : Ending) (w' : World) : Prop := ∃ (bs : Int) (A : Option Addr) (c : Nat) (ds : List Int), e = .returned (.agg #[.int .i64 bs, .slice A ds.length c]) ∧ (2 ≤ bs ∧ bs ≤ 12 ∧ 1 ≤ ds.length ∧ ds.length ≤ 6) ∧ DR b M w [rowI A c ds] w'
theorem min6 {q k : Nat} (h : 0 ≤ (q : Int) ∧ ((q : Int) < min 6 (k : Int) ∨ min 6 (k : Int) ≤ 1 ∧ (q : Int) = 0)) : q ≤ 5 := by omega
theorem wrapQ {q : Nat} (h : q ≤ 5) : IntKind.i64.wrap (1 + (q : Int)) = ((q + 1 : Nat) : Int) := by rw [wrapI64 (by omega)]; omega
set_option maxRecDepth 100000 in
set_option maxHeartbeats 1600000 in
theorem l02Draw_dr (b N : Nat) (w : World) (h : Src w b N) (hN : N ≤ 800000) :
    Calls Tryd.prog 107 #[.pointer (some ⟨b, 0, none⟩), .int .i64 6] w (DReg b (N + 40) w) := by
  unfold DReg
  have D0 := DR.nil h
  clear h
  go_enter Tryd.func107, Tryd.ntmps107
  go_wp2_with fail
  refine Calls.dr (D0.al [.int .i64 0, .slice none 0 0] 26) ?_; intro w1 D1
  refine (pick_dr b N 11 w1 D1.src (by omega)).mono ?_; rintro e w2 ⟨x, rfl, hx, h2⟩
  have D2 := D1.add h2
  clear D0 D1 h2
  obtain ⟨x0, hx1⟩ := hx
  have x1 : x < 11 := by omega
  clear hx1
  obtain ⟨g0, hg0⟩ : ∃ g, w.heap.size = g := ⟨_, rfl⟩
  rw [hg0] at D2 ⊢
  go_wp2_with fail
  refine Calls.dr (D2.al [.int .i64 (2 + x), .slice none 0 0] 26) ?_; intro w3 D3
  obtain ⟨g, hg⟩ : ∃ g, w2.heap.size = g := ⟨_, rfl⟩
  rw [hg] at D3 ⊢
  clear hg D2
  refine (one_dr b _ 2 w3 D3.src (by omega)).mono ?_; rintro e w4 ⟨y, rfl, h4⟩
  have D4 := D3.add h4
  clear D3 h4
  obtain ⟨bs, hbs⟩ : ∃ z, 2 + x = z := ⟨_, rfl⟩
  rw [hbs] at D4
  have b1 : 2 ≤ bs := by omega
  have b2 : bs ≤ 12 := by omega
  clear hbs
  obtain ⟨a1, a2, a3, -⟩ := D4.cells
  rcases y with _ | _
  · go_wp2_with fail
    have HG := Lib.hid (D4.drew.box2.1)
    have HT := HG
    go_region_held3 (fun W => W.cell? ⟨g, 0, none⟩ = some (.int .i64 bs)) (first | with_reducible exact HG.out | with_reducible exact HT.out | exact HG.out | exact HT.out) (first
      | (go_at_call 199; (with_reducible refine (l02Most_any _ _).mono ?_); rintro e w5 ⟨⟨k, rfl, k1, k2⟩, rfl⟩)
      | (go_at_call 198; (with_reducible refine (l00Min_any _ _ _).mono ?_); rintro e w5 ⟨rfl, rfl⟩)
      | (go_at_call 178; (with_reducible refine (pick_dr b _ _ _ D4.drew.src (by omega)).mono ?_); rintro e w5 ⟨y, rfl, hy, h5⟩; have D5 := D4.drew.add h5; clear HG; have HG := Lib.hid (D5.box2.1); obtain ⟨q, rfl⟩ : ∃ q : Nat, y = q := ⟨y.toNat, by omega⟩; have hq := min6 hy; have hq1 := wrapQ hq)
      | (go_at_call 108; rw [show (q : Int) + 1 = ((q + 1 : Nat) : Int) from rfl]; refine (digits_dr b _ _ (q + 1) _ D5.src (by omega) (by omega) (by omega) (by omega)).mono ?_; rintro e w6 ⟨A, c, ds, rfl, hl, hd, h6⟩; have D6 := D5.add h6; clear HG; have HG := Lib.hid ((D6.front 1 rfl).box2.1); obtain ⟨x1, x2, x3, -⟩ := (D6.front 1 rfl).cells; have D8 := (D6.front 1 rfl).st 1 (.slice A (q + 1) c); clear HT; have HT := Lib.hid (D8.box2.1)))
    all_goals
      clear D5 D6 HG HT
      try clear x1 x2 x3
      try clear a1 a2 a3
      generalize w6.setCell ⟨g, 1, none⟩ (.slice A (q + 1) c) = w8 at D8 ⊢
      obtain ⟨a1, a2, a3, -⟩ := D8.cells
      obtain ⟨d1, d2, d3, -⟩ := (D8.front 2 rfl).cells
      go_wp2_with fail
      refine bodyPost.dr (((D8.front 2 rfl).st 0 (.int .i64 bs)).st 1 (.slice A (q + 1) c)) ?_; intro w9 D9
      clear a1 a2 a3 d1 d2 d3
      obtain ⟨a1, a2, a3, -⟩ := D9.cells
      refine bodyPost_ret (v := .agg #[.int .i64 bs, .slice A (q + 1) c]) (by simp [results, Tryd.results107, go_sem, a1]) rfl ⟨bs, A, c, ds, by rw [hl], by omega, ?_⟩
      have hq' := hq
      exact (D9.sel [2] 99 (by decide) (by decide)).mono (by omega)
  · go_upto_region 4 with fail
    refine Code.wp.dr ((D4.front 0 rfl).st 0 (.int .i64 10)) ?_; intro w4 D4
    clear a1 a2 a3
    obtain ⟨a1, a2, a3, -⟩ := D4.cells
    have HG := Lib.hid (D4.drew.box2.1)
    have HT := HG
    go_region_held3 (fun W => W.cell? ⟨g, 0, none⟩ = some (.int .i64 10)) (first | with_reducible exact HG.out | with_reducible exact HT.out | exact HG.out | exact HT.out) (first
      | (go_at_call 199; (with_reducible refine (l02Most_any _ _).mono ?_); rintro e w5 ⟨⟨k, rfl, k1, k2⟩, rfl⟩)
      | (go_at_call 198; (with_reducible refine (l00Min_any _ _ _).mono ?_); rintro e w5 ⟨rfl, rfl⟩)
      | (go_at_call 178; (with_reducible refine (pick_dr b _ _ _ D4.drew.src (by omega)).mono ?_); rintro e w5 ⟨y, rfl, hy, h5⟩; have D5 := D4.drew.add h5; clear HG; have HG := Lib.hid (D5.box2.1); obtain ⟨q, rfl⟩ : ∃ q : Nat, y = q := ⟨y.toNat, by omega⟩; have hq := min6 hy; have hq1 := wrapQ hq)
      | (go_at_call 108; rw [show (q : Int) + 1 = ((q + 1 : Nat) : Int) from rfl]; refine (digits_dr b _ _ (q + 1) _ D5.src (by omega) (by omega) (by omega) (by omega)).mono ?_; rintro e w6 ⟨A, c, ds, rfl, hl, hd, h6⟩; have D6 := D5.add h6; clear HG; have HG := Lib.hid ((D6.front 1 rfl).box2.1); obtain ⟨x1, x2, x3, -⟩ := (D6.front 1 rfl).cells; have D8 := (D6.front 1 rfl).st 1 (.slice A (q + 1) c); clear HT; have HT := Lib.hid (D8.box2.1)))
    all_goals
      clear D5 D6 HG HT
      try clear x1 x2 x3
      try clear a1 a2 a3
      generalize w6.setCell ⟨g, 1, none⟩ (.slice A (q + 1) c) = w8 at D8 ⊢
      obtain ⟨a1, a2, a3, -⟩ := D8.cells
      obtain ⟨d1, d2, d3, -⟩ := (D8.front 2 rfl).cells
      go_wp2_with fail
      refine bodyPost.dr (((D8.front 2 rfl).st 0 (.int .i64 10)).st 1 (.slice A (q + 1) c)) ?_; intro w9 D9
      clear a1 a2 a3 d1 d2 d3
      obtain ⟨a1, a2, a3, -⟩ := D9.cells
      refine bodyPost_ret (v := .agg #[.int .i64 10, .slice A (q + 1) c]) (by simp [results, Tryd.results107, go_sem, a1]) rfl ⟨10, A, c, ds, by rw [hl], by omega, ?_⟩
      have hq' := hq
      exact (D9.sel [2] 99 (by decide) (by decide)).mono (by omega)
end Go.Proofs.YtafnebpbfmbgiaaDoor

namespace Go.Proofs.YtafnebpbfmbgiaaDoor
open Go.RowKit Go.Sort
end Go.Proofs.YtafnebpbfmbgiaaDoor

namespace Go.Proofs.YtafnebpbfmbgiaaDoor
open Go.RowKit Go.Sort
theorem DR.ad {b N : Nat} {w wi w' : World} {m m' : List Ent} (h : DR b N w m wi) (h1 : Kn wi m' w') : DR b N w (m' ++ m) w' := h.kn (fun _ hK => hK.join h1)
theorem pw_12 {b : Int} (b1 : 2 ≤ b) (b2 : b ≤ 12) (k : Nat) : pw b k ≤ pw 12 k := by
  induction k with
  | zero => exact Int.le_refl _
  | succ k ih =>
    rw [pw_succ, pw_succ]
    have := pw_pos b b1 k
    exact Int.mul_le_mul ih b2 (by omega) (by have := pw_pos 12 (by omega) k; omega)
theorem pw_small {b : Int} (b1 : 2 ≤ b) (b2 : b ≤ 12) {k : Nat} (hk : k ≤ 6) : pw b k ≤ 2985984 := by
  have h1 := pw_12 b1 b2 k
  have h2 := pw_mono 12 (by omega) k 6 hk
  have h3 : pw 12 6 = 2985984 := by decide
  omega
/-- what the drawing of a register returns -/
def DReg2 (b M : Nat) (w : World) (e : Ending) (w' : World) : Prop := ∃ (bs : Int) (A : Option Addr) (c : Nat) (ds : List Int), e = .returned (.agg #[.int .i64 bs, .slice A ds.length c]) ∧ ds.length ≤ 20 ∧ DR b M w [rowI A c ds] w'
end Go.Proofs.YtafnebpbfmbgiaaDoor

namespace Go.Proofs.YtafnebpbfmbgiaaDoor
open Go.RowKit Go.Sort
theorem DR.setI {b N : Nat} {w wi : World} {m : List Ent} {g c : Nat} {ds : List Int} (h : DR b N w (rowI (some ⟨g, 0, none⟩) c ds :: m) wi) (j : Nat) (v : Int) : DR b N w (rowI (some ⟨g, 0, none⟩) c (ds.set j v) :: m) (wi.setCell ⟨g, j, none⟩ (.int .i64 v)) := h.kn (fun _ hK => hK.setI j v)
theorem DR.rowCell {b N : Nat} {w wi : World} {m : List Ent} {g c : Nat} {ds : List Int} (h : DR b N w (rowI (some ⟨g, 0, none⟩) c ds :: m) wi) {j : Nat} (hj : j < ds.length) : wi.cell? ⟨g, j, none⟩ = some (.int .i64 ds[j]) ∧ wi.frozen? ⟨g, j, none⟩ = false ∧ g < wi.heap.size := by
  obtain ⟨v, -, -, hK⟩ := h
  have h1 := Kn.rowCell hK (j := j) (u := .int .i64 ds[j]) (by simp [hj])
  exact ⟨h1.1, h1.2, World.block_lt_of_cell? wi _ h1.1⟩
theorem DR.rowForm {b N : Nat} {w wi : World} {m : List Ent} {A : Option Addr} {c : Nat} {ds : List Int} (h : DR b N w (rowI A c ds :: m) wi) (hd : 0 < ds.length) : ∃ g, A = some ⟨g, 0, none⟩ := by
  obtain ⟨v, -, -, hK⟩ := h
  obtain ⟨g, c', he⟩ := Kn.rowForm hK hd
  injection he with he
  exact ⟨g, he⟩
theorem idxL {j L : Nat} (h : 0 ≤ (j : Int) ∧ ((j : Int) < (L : Int) ∨ (L : Int) ≤ 1 ∧ (j : Int) = 0)) (h1 : 1 ≤ L) : j < L := by omega
end Go.Proofs.YtafnebpbfmbgiaaDoor

namespace Go.Proofs.YtafnebpbfmbgiaaDoor
open Go.RowKit Go.Sort
end Go.Proofs.YtafnebpbfmbgiaaDoor

namespace Go.Proofs.YtafnebpbfmbgiaaDoor
open Go.RowKit Go.Sort
/-- a register that a law's draw returns -/
def DrawsReg (w : World) (e : Ending) (w' : World) : Prop := ∃ (bs : Int) (A : Option Addr) (c : Nat) (ds : List Int), e = .returned (.agg #[.int .i64 bs, .slice A ds.length c]) ∧ ds.length ≤ 20 ∧ Kn w [rowI A c ds] w'
end Go.Proofs.YtafnebpbfmbgiaaDoor

namespace Go.Proofs.YtafnebpbfmbgiaaDoor
open Go.RowKit Go.Sort
end Go.Proofs.YtafnebpbfmbgiaaDoor

namespace Go.Proofs.YtafnebpbfmbgiaaDoor
open Go.RowKit Go.Sort
/-- what the draw of two registers returns -/
def Draws2 (w : World) (e : Ending) (w' : World) : Prop := ∃ (b : Int) (A : Option Addr) (c : Nat) (ds : List Int) (b2 : Int) (B : Option Addr) (k : Nat) (es : List Int), e = .returned (.tuple #[.agg #[.int .i64 b, .slice A ds.length c], .agg #[.int .i64 b2, .slice B es.length k]]) ∧ (ds.length ≤ 20 ∧ es.length ≤ 20) ∧ Kn w [rowI A c ds, rowI B k es] w'
theorem pick5 {q : Nat} (h : 0 ≤ (q : Int) ∧ ((q : Int) < 5 ∨ (5 : Int) ≤ 1 ∧ (q : Int) = 0)) : q ≤ 5 := by omega
end Go.Proofs.YtafnebpbfmbgiaaDoor

namespace Go.Proofs.YtafnebpbfmbgiaaDoor
open Go.RowKit Go.Sort
set_option maxHeartbeats 400000 in
theorem sameNumbers_any (A B : Option Addr) (n c m d : Nat) (ds es : List Int) (w : World) (hr : RI w A n ds) (hs : RI w B m es) (hm : n ≤ 9223372036854775807) (hm2 : m ≤ 9223372036854775807) :
    Calls Tryd.prog 206 #[.slice A n c, .slice B m d] w fun e w' => e = .returned (.bool (decide (ds = es))) ∧ ∃ q, w' = w.drewN q := by
  have HL := Lib.hid hr.1
  have HM := Lib.hid hs.1
  by_cases hnm : n = m
  · subst hnm
    go_enter Tryd.func206, Tryd.ntmps206
    go_wp2
    go_loopw [13] (fun i wr => ∃ k : Nat, k ≤ n ∧ i = .int .i64 k ∧ ds.take k = es.take k ∧ ∃ q, wr = w.drewN q) (fun i _ => n - (intOf i).toNat)
    case atStart => exact ⟨0, Nat.zero_le _, rfl, by simp, 0, rfl⟩
    case round =>
      obtain ⟨k, hk, rfl, hdg, q, rfl⟩ := hrel
      have HD := Lib.hid hdg; clear hdg
      by_cases hkn : k < n
      · obtain ⟨ad, hA, hlt, hkl, hc⟩ := hr.at_ hkn
        obtain ⟨ad2, hB, hlt2, hkl2, hc2⟩ := hs.at_ hkn
        subst hA; subst hB
        have hi0 : (0 : Int) ≤ (k : Int) := by omega
        have hi1 : (k : Int) < (n : Int) := by omega
        rcases hd : (ds[k] != es[k]) with _ | _
        · go_wp2
          go_quiet (fail)
          go_wp2
          have he : ds[k] = es[k] := by simpa using hd
          have HE := Lib.hid he; clear he
          go_roundw
          case rel => exact ⟨k + 1, by omega, by go_num, take_eq_of_succ HD.out hkl hkl2 HE.out, by first | exact ⟨_, rfl⟩ | exact ⟨_, World.drewN_drewN _ _ _⟩⟩
          case measure => simp [intOf]; omega
        · go_wp2
          go_quiet (fail)
          go_wp2
          go_ret
          refine ⟨ret_bool ?_, by first | exact ⟨_, rfl⟩ | exact ⟨_, World.drewN_drewN _ _ _⟩⟩
          have : ds ≠ es := by rintro rfl; simp at hd
          simp [this]
      · have HF : Hid (ds = es) := by
          have := HD.out
          rwa [List.take_of_length_le (by have := HL.out; omega), List.take_of_length_le (by have := HM.out; omega)] at this
        go_wp2
        go_ret
        exact ⟨ret_bool (by simp [HF.out]), q, rfl⟩
  · have HF : Hid (ds ≠ es) := by rintro rfl; exact hnm (hr.1.symm.trans hs.1)
    go_enter Tryd.func206, Tryd.ntmps206
    go_wp2
    go_ret
    exact ⟨ret_bool (by simp [HF.out]), 0, rfl⟩
set_option maxHeartbeats 400000 in
theorem l00Same_any (A B : Option Addr) (n c m d : Nat) (ds es : List Int) (w : World) (hr : RI w A n ds) (hs : RI w B m es) (hm : n ≤ 9223372036854775807) (hm2 : m ≤ 9223372036854775807) :
    Calls Tryd.prog 202 #[.slice A n c, .slice B m d] w fun e w' => e = .returned (.bool (decide (ds = es))) ∧ ∃ q, w' = w.drewN q := by
  have HL := Lib.hid hr.1
  have HM := Lib.hid hs.1
  by_cases hnm : n = m
  · subst hnm
    go_enter Tryd.func202, Tryd.ntmps202
    go_wp2
    go_loopw [5] (fun i wr => ∃ k : Nat, k ≤ n ∧ i = .int .i64 k ∧ ds.take k = es.take k ∧ ∃ q, wr = w.drewN q) (fun i _ => n - (intOf i).toNat)
    case atStart => exact ⟨0, Nat.zero_le _, rfl, by simp, 0, rfl⟩
    case round =>
      obtain ⟨k, hk, rfl, hdg, q, rfl⟩ := hrel
      have HD := Lib.hid hdg; clear hdg
      by_cases hkn : k < n
      · obtain ⟨ad, hA, hlt, hkl, hc⟩ := hr.at_ hkn
        obtain ⟨ad2, hB, hlt2, hkl2, hc2⟩ := hs.at_ hkn
        subst hA; subst hB
        have hi0 : (0 : Int) ≤ (k : Int) := by omega
        have hi1 : (k : Int) < (n : Int) := by omega
        rcases hd : (ds[k] != es[k]) with _ | _
        · go_wp2
          go_quiet (fail)
          go_wp2
          have he : ds[k] = es[k] := by simpa using hd
          have HE := Lib.hid he; clear he
          go_roundw
          case rel => exact ⟨k + 1, by omega, by go_num, take_eq_of_succ HD.out hkl hkl2 HE.out, by first | exact ⟨_, rfl⟩ | exact ⟨_, World.drewN_drewN _ _ _⟩⟩
          case measure => simp [intOf]; omega
        · go_wp2
          go_quiet (fail)
          go_wp2
          go_ret
          refine ⟨ret_bool ?_, by first | exact ⟨_, rfl⟩ | exact ⟨_, World.drewN_drewN _ _ _⟩⟩
          have : ds ≠ es := by rintro rfl; simp at hd
          simp [this]
      · have HF : Hid (ds = es) := by
          have := HD.out
          rwa [List.take_of_length_le (by have := HL.out; omega), List.take_of_length_le (by have := HM.out; omega)] at this
        go_wp2
        go_ret
        exact ⟨ret_bool (by simp [HF.out]), q, rfl⟩
  · have HF : Hid (ds ≠ es) := by rintro rfl; exact hnm (hr.1.symm.trans hs.1)
    go_enter Tryd.func202, Tryd.ntmps202
    go_wp2
    go_ret
    exact ⟨ret_bool (by simp [HF.out]), 0, rfl⟩
def sameR (r s : Reg) : Bool := r.base == s.base && decide (r.digits = s.digits)
theorem SameRegister_any (r s : Reg) (A B : Option Addr) (c d : Nat) (w : World) (hr : RI w A r.digits.length r.digits) (hs : RI w B s.digits.length s.digits) (hm : SmallReg r) (hm2 : SmallReg s) :
    Calls Tryd.prog 136 #[.agg #[.int .i64 r.base, .slice A r.digits.length c], .agg #[.int .i64 s.base, .slice B s.digits.length d]] w fun e w' => e = .returned (.bool (sameR r s)) ∧ Below w.heap.size w w' := by
  have hb0 : Below w.heap.size w ((w.alloc (.cells #[.int .i64 r.base, .slice A r.digits.length c] 26)).alloc (.cells #[.int .i64 s.base, .slice B s.digits.length d] 26)) := ((Below.refl _ _).alloc (Nat.le_refl _) _).alloc (by simp) _
  unfold SmallReg at hm hm2
  rcases k : (r.base == s.base) with _ | _
  · have HF : Hid (sameR r s = false) := by simp only [Hid, sameR]; rw [k]; rfl
    go_enter Tryd.func136, Tryd.ntmps136
    go_wp2
    go_ret
    exact ⟨ret_bool HF.out.symm, hb0⟩
  · have HF : Hid (sameR r s = decide (r.digits = s.digits)) := by simp only [Hid, sameR]; rw [k]; rfl
    go_enter Tryd.func136, Tryd.ntmps136
    go_wp2_with (go_at_call 206; refine (sameNumbers_any A B _ c _ d r.digits s.digits _ (hr.below hb0) (hs.below hb0) (by omega) (by omega)).mono ?_; rintro e w1 ⟨rfl, q, rfl⟩)
    go_ret
    exact ⟨ret_bool HF.out.symm, below_drewN hb0 _⟩
theorem l02Same_any (p q : Addr) (r s : Reg) (w : World) (hp : RegM w p r) (hq : RegM w q s) (hm : SmallReg r) (hm2 : SmallReg s) :
    Calls Tryd.prog 117 #[.pointer (some p), .pointer (some q)] w fun e w' => e = .returned (.bool (sameR r s)) ∧ ∃ m, w' = w.drewN m := by
  obtain ⟨A, c, ⟨ha, hb⟩, hr⟩ := hp
  obtain ⟨B, d, ⟨ha0, hb0⟩, hs⟩ := hq
  unfold SmallReg at hm hm2
  have K1 := Lib.hid (fun (m : Nat) => l00Same_any A B _ c _ d r.digits s.digits (w.drewN m) hr hs (by omega) (by omega))
  rcases k : (r.base == s.base) with _ | _
  · have HF : Hid (sameR r s = false) := by simp only [Hid, sameR]; rw [k]; rfl
    go_enter Tryd.func117, Tryd.ntmps117
    go_wp2_with fail
    go_quiet ((go_at_call 202; exact quiet_of_ex (K1.out _)))
    go_wp2
    go_ret
    exact ⟨ret_bool HF.out.symm, _, rfl⟩
  · have HF : Hid (sameR r s = decide (r.digits = s.digits)) := by simp only [Hid, sameR]; rw [k]; rfl
    go_enter Tryd.func117, Tryd.ntmps117
    go_wp2_with fail
    go_quiet ((go_at_call 202; exact quiet_of_ex (K1.out _)))
    go_wp2
    go_ret
    exact ⟨ret_bool HF.out.symm, _, rfl⟩
/-- the carry out of a digit with a kind of fault -/
def cstep (base t c kind : Int) : Int := if kind = 1 then 0 else if kind = 2 then 1 else if kind = 3 then (if t < base then 0 else 1) else if t + c < base then 0 else 1
set_option maxHeartbeats 400000 in
theorem l08Carry_any (base t c kind : Int) (w : World) (h1 : -100 ≤ t) (h2 : t ≤ 100) (h3 : 0 ≤ c) (h4 : c ≤ 1) :
    Calls Tryd.prog 245 #[.int .i64 base, .int .i64 t, .int .i64 c, .int .i64 kind] w fun e w' => e = .returned (.int .i64 (cstep base t c kind)) ∧ w = w' := by
  by_cases g1 : t + c < base
  all_goals by_cases k1 : kind = 1
  all_goals by_cases k2 : kind = 2
  all_goals by_cases k3 : kind = 3
  all_goals by_cases g2 : t < base
  all_goals try omega
  all_goals
    go_enter Tryd.func245, Tryd.ntmps245
    go_wp2
    go_ret
    exact ⟨ret_int (by unfold cstep; simp [*]), rfl⟩
end Go.Proofs.YtafnebpbfmbgiaaDoor

namespace Go.Proofs.YtafnebpbfmbgiaaDoor
open Go.RowKit Go.Sort
theorem specSameRegister_same (b : Int) (A B : Option Addr) (c d : Nat) (ds : List Int) (w : World) (hr : RI w A ds.length ds) (hs : RI w B ds.length ds) (hm : ds.length ≤ 9223372036854775807) :
    Calls Tryd.prog 27 #[.agg #[.int .i64 b, .slice A ds.length c], .agg #[.int .i64 b, .slice B ds.length d]] w fun e w' => e = .returned (.bool true) ∧ Below w.heap.size w w' := by
  have HR := Lib.hid (fun W (hW : Below w.heap.size w W) => hr.below hW)
  have HS := Lib.hid (fun W (hW : Below w.heap.size w W) => hs.below hW)
  clear hr hs
  go_enter Tryd.func27, Tryd.ntmps27
  go_wp2_with fail
  refine Calls.kn (((Kn.nil w).al [.int .i64 b, .slice A ds.length c] 26).al [.int .i64 b, .slice B ds.length d] 26) ?_; intro w1 K1
  simp only [World.size_alloc] at K1
  refine (l02Same_any ⟨w.heap.size, 0, none⟩ ⟨w.heap.size + 1, 0, none⟩ ⟨b, ds⟩ ⟨b, ds⟩ w1 ⟨A, c, box2 (K1.front 1 rfl), HR.out _ K1.below⟩ ⟨B, d, box2 (K1.front 0 rfl), HS.out _ K1.below⟩ hm hm).mono ?_
  rintro e w2 ⟨rfl, q, rfl⟩
  have K2 := K1.drewN q
  go_wp2_with fail
  go_ret
  exact ⟨ret_bool (by simp [sameR]), K2.below⟩
end Go.Proofs.YtafnebpbfmbgiaaDoor

namespace Go.Proofs.YtafnebpbfmbgiaaDoor
open Go.RowKit Go.Sort
/-- the bytes of a string -/
def strB (s : ByteArray) : List UInt8 := s.data.toList
theorem strB_len (s : ByteArray) : (strB s).length = s.size := by simp [strB]
theorem strB_get (s : ByteArray) {k : Nat} (h : k < s.size) : s[k] = (strB s)[k]'(by rw [strB_len]; exact h) := by
  simp [strB]
  rfl
theorem strB_mk (bs : List UInt8) : strB ⟨bs.toArray⟩ = bs := by simp [strB]
theorem size_mk (bs : List UInt8) : (⟨bs.toArray⟩ : ByteArray).size = bs.length := by simp [ByteArray.size]
theorem strB_drop (s : ByteArray) (k : Nat) : strB (s.extract k s.size) = (strB s).drop k := by
  have h : (s.extract k s.size).data = s.data.extract k s.size := by simp
  unfold strB
  rw [h, Array.toList_extract, List.extract_eq_take_drop]
  rw [List.take_of_length_le]
  rw [List.length_drop, Array.length_toList]
  exact Nat.le_refl _
theorem size_zero {s : ByteArray} (h : s.size = 0) : s = ⟨#[]⟩ := by
  cases s with
  | mk a =>
    congr 1
    exact Array.eq_empty_of_size_eq_zero h
theorem str_nonempty {s : ByteArray} (h : 0 < s.size) : s.toList.isEmpty = false := by
  rw [ByteArray.toList_eq]
  cases he : s.data.toList with
  | nil =>
    have : s.data.toList.length = 0 := by rw [he]; rfl
    have h2 : s.data.toList.length = s.size := by rw [Array.length_toList]; rfl
    omega
  | cons a l => rfl
theorem strB_cons {s : ByteArray} (h : 0 < s.size) : strB s = s[0] :: (strB s).drop 1 := by
  have h1 : 0 < (strB s).length := by rw [strB_len]; exact h
  have h2 := strB_get s h
  rw [h2]
  have h3 := List.drop_eq_getElem_cons (l := strB s) (i := 0) h1
  simpa using h3
theorem strB_nil {s : ByteArray} (h : s.size = 0) : strB s = [] := by
  apply List.eq_nil_of_length_eq_zero; rw [strB_len]; exact h
theorem str_eq {s : ByteArray} {bs : List UInt8} : (⟨bs.toArray⟩ : ByteArray) = s ↔ bs = strB s := by
  constructor
  · intro h; rw [← h]; simp [strB]
  · intro h; rw [h]; cases s; simp [strB]
theorem strB_toList (s : ByteArray) : s.toList = strB s := by rw [ByteArray.toList_eq]; rfl
theorem strB_tail {s : ByteArray} : strB (s.extract 1 s.size) = (strB s).drop 1 := strB_drop s 1
theorem extract_size (s : ByteArray) (k : Nat) : (s.extract k s.size).size = s.size - k := by simp [ByteArray.size_extract]
theorem strB_extract (s : ByteArray) (i j : Nat) : strB (s.extract i j) = ((strB s).drop i).take (j - i) := by
  have h : (s.extract i j).data = s.data.extract i j := by simp
  unfold strB
  rw [h, Array.toList_extract, List.extract_eq_take_drop]
theorem strB_getD (s : ByteArray) {k : Nat} (h : k < s.size) : (strB s).getD k 0 = s[k] := by
  rw [strB_get s h]; simp [List.getD, List.getElem?_eq_getElem (show k < (strB s).length by rw [strB_len]; exact h)]
theorem wrapI {n : Int} (h : -9223372036854775808 ≤ n ∧ n ≤ 9223372036854775807) : IntKind.i64.wrap n = n := by
  rw [IntKind.wrap_i64]; omega
theorem wrapB {n : Int} (h : 0 ≤ n ∧ n < 256) : IntKind.u8.wrap n = n := by
  simp [IntKind.wrap, IntKind.bits, IntKind.signed]; omega
theorem wrap64_of {n : Int} (h : -9223372036854775808 ≤ n ∧ n ≤ 9223372036854775807) : wrap64 n = n := by unfold wrap64; omega
end Go.Proofs.YtafnebpbfmbgiaaDoor

namespace Go.Proofs.YtafnebpbfmbgiaaDoor
open Go.RowKit Go.Sort
/-! drums, plainly -/
structure Dr where
  k : Int
  b : Int
  t : Int
  f : Int
def drOk (d : Dr) : Bool := betB d.k 1 3 && (betB d.b 2 16 && (betB d.t d.b 60 && (if d.k = 3 then decide (d.f = 0) else betB d.f 1 (d.t - d.b + 2))))
/-- the time of a turn at which the tooth j of a drum that is set to g makes its step -/
def dTime (d : Dr) (g : Int) (j : Nat) : Int := if d.k = 1 then d.f + d.b - 1 - g + j else if d.k = 2 then d.f + j else (((j : Int) + 1) * d.t + g - 1) / g
def dTimes (d : Dr) (g : Int) : List Int := (List.range g.toNat).map (dTime d g)
theorem drOk_iff {d : Dr} : drOk d = true ↔ (1 ≤ d.k ∧ d.k ≤ 3) ∧ (2 ≤ d.b ∧ d.b ≤ 16) ∧ (d.b ≤ d.t ∧ d.t ≤ 60) ∧ ((d.k = 3 ∧ d.f = 0) ∨ (d.k ≠ 3 ∧ 1 ≤ d.f ∧ d.f ≤ d.t - d.b + 2)) := by
  unfold drOk
  by_cases h3 : d.k = 3
  · rw [if_pos h3]
    simp only [betB, Bool.and_eq_true, decide_eq_true_eq]
    omega
  · rw [if_neg h3]
    simp only [betB, Bool.and_eq_true, decide_eq_true_eq]
    omega
/-- the rack's times lie in the turn -/
theorem rack_bd {t g j : Int} (ht : 1 ≤ t) (hg : 1 ≤ g) (hj : 0 ≤ j) (hjg : j < g) : 1 ≤ ((j + 1) * t + g - 1) / g ∧ ((j + 1) * t + g - 1) / g ≤ t := by
  constructor
  · rw [Int.le_ediv_iff_mul_le (by omega)]
    have : 1 * 1 ≤ (j + 1) * t := Int.mul_le_mul (by omega) (by omega) (by omega) (by omega)
    omega
  · have h1 : ((j + 1) * t + g - 1) / g < t + 1 := by
      rw [Int.ediv_lt_iff_lt_mul (by omega)]
      have h2 : (j + 1) * t ≤ g * t := Int.mul_le_mul_of_nonneg_right (by omega) (by omega)
      rw [Int.add_mul (a := t), Int.one_mul, Int.mul_comm t g]
      omega
    omega
theorem dTime_bd {d : Dr} (h : drOk d = true) {g : Int} {j : Nat} (hj : (j : Int) < g) (hg : g < d.b) : 1 ≤ dTime d g j ∧ dTime d g j ≤ d.t := by
  obtain ⟨⟨k1, k2⟩, ⟨b1, b2⟩, ⟨t1, t2⟩, h4⟩ := drOk_iff.1 h
  unfold dTime
  by_cases e1 : d.k = 1
  · rw [if_pos e1]; omega
  · rw [if_neg e1]
    by_cases e2 : d.k = 2
    · rw [if_pos e2]; omega
    · rw [if_neg e2]
      exact rack_bd (by omega) (by omega) (by omega) hj
/-- one tooth's step lies behind the step of the tooth ahead of it -/
theorem dTime_lt {d : Dr} (h : drOk d = true) {g : Int} {i j : Nat} (hij : i < j) (hj : (j : Int) < g) (hg : g < d.b) : dTime d g i < dTime d g j := by
  obtain ⟨⟨k1, k2⟩, ⟨b1, b2⟩, ⟨t1, t2⟩, h4⟩ := drOk_iff.1 h
  unfold dTime
  by_cases e1 : d.k = 1
  · rw [if_pos e1, if_pos e1]; omega
  · rw [if_neg e1, if_neg e1]
    by_cases e2 : d.k = 2
    · rw [if_pos e2, if_pos e2]; omega
    · rw [if_neg e2, if_neg e2]
      have hg0 : 0 < g := by omega
      have h1 : ((i : Int) + 1) * d.t + g - 1 + g ≤ ((j : Int) + 1) * d.t + g - 1 := by
        have h2 : ((i : Int) + 1 + 1) * d.t ≤ ((j : Int) + 1) * d.t := Int.mul_le_mul_of_nonneg_right (by omega) (by omega)
        rw [Int.add_mul, Int.one_mul] at h2
        omega
      have h3 := Int.ediv_le_ediv hg0 h1
      rw [Int.add_ediv_of_dvd_right (Int.dvd_refl g), Int.ediv_self (by omega)] at h3
      omega
/-! walks -/
/-- a drum in a block -/
def DrAt (w : World) (g : Nat) (d : Dr) : Prop := w.cell? ⟨g, 0, none⟩ = some (.int .i64 d.k) ∧ w.cell? ⟨g, 1, none⟩ = some (.int .i64 d.b) ∧ w.cell? ⟨g, 2, none⟩ = some (.int .i64 d.t) ∧ w.cell? ⟨g, 3, none⟩ = some (.int .i64 d.f)
theorem DrAt.below {w w' : World} {g : Nat} {d : Dr} (h : DrAt w g d) (hb : Below w.heap.size w w') : DrAt w' g d := by
  have hlt : g < w.heap.size := World.block_lt_of_cell? w _ h.1
  exact ⟨(hb.cell (p := ⟨g, 0, none⟩) hlt).trans h.1, (hb.cell (p := ⟨g, 1, none⟩) hlt).trans h.2.1, (hb.cell (p := ⟨g, 2, none⟩) hlt).trans h.2.2.1, (hb.cell (p := ⟨g, 3, none⟩) hlt).trans h.2.2.2⟩
end Go.Proofs.YtafnebpbfmbgiaaDoor

namespace Go.Proofs.YtafnebpbfmbgiaaDoor
open Go.RowKit Go.Sort
/-! the codes -/
def drCode (d : Dr) (g : Int) : Int := if drOk d = false then 1 else if betB g 0 (d.b - 1) = false then 2 else 0
end Go.Proofs.YtafnebpbfmbgiaaDoor

namespace Go.Proofs.YtafnebpbfmbgiaaDoor
open Go.RowKit Go.Sort
theorem dTimes_succ (d : Dr) (g : Int) (k : Nat) : (List.range (k + 1)).map (dTime d g) = (List.range k).map (dTime d g) ++ [dTime d g k] := by rw [List.range_succ, List.map_append]; rfl
theorem dTimes_len (d : Dr) (g : Int) : (dTimes d g).length = g.toNat := by simp [dTimes]
theorem dTime1 {b t f g : Int} {j : Nat} : dTime ⟨1, b, t, f⟩ g j = f + b - 1 - g + j := by simp [dTime]
theorem dTime2 {b t f g : Int} {j : Nat} : dTime ⟨2, b, t, f⟩ g j = f + j := by simp [dTime]
theorem dTime3 {b t f g : Int} {j : Nat} : dTime ⟨3, b, t, f⟩ g j = (((j : Int) + 1) * t + g - 1) / g := by simp [dTime]
theorem dr_kind {d : Dr} (h : drOk d = true) : d.k = 1 ∨ d.k = 2 ∨ d.k = 3 := by have := (drOk_iff.1 h).1; omega
end Go.Proofs.YtafnebpbfmbgiaaDoor

namespace Go.Proofs.YtafnebpbfmbgiaaDoor
open Go.RowKit Go.Sort
/-- the row of a drum's times -/
def TMRet (d : Dr) (n : Nat) (w : World) (e : Ending) (w' : World) : Prop := ∃ A c, e = .returned (.slice A n c) ∧ Kn w [rowI A c (dTimes d n)] w'
theorem dTimes_nat (d : Dr) (n : Nat) : dTimes d n = (List.range n).map (dTime d n) := by unfold dTimes; rw [Int.toNat_natCast]
theorem Kn.rowSlice {w0 w : World} {m : List Ent} {v : Value} {T : TypeId} {size n : Nat} {xs : List Value} (h : Kn w0 (.row v T size n xs :: m) w) : ∃ A c, v = .slice A n c := by
  have h0 : w.ownsRow 0 T size v n xs := h.at0
  rcases h0.2 with ⟨rfl, rfl⟩ | ⟨g, cap, cur, rfl, -⟩
  · exact ⟨none, 0, rfl⟩
  · exact ⟨_, _, rfl⟩
end Go.Proofs.YtafnebpbfmbgiaaDoor

namespace Go.Proofs.YtafnebpbfmbgiaaDoor
open Go.RowKit Go.Sort
/-- how many of the first j teeth have made their step at a time m of the turn -/
def dCnt (d : Dr) (n : Nat) (m : Int) (j : Nat) : Nat := ((List.range j).map (dTime d n)).countP (fun x => decide (x ≤ m))
theorem dCnt_succ (d : Dr) (n : Nat) (m : Int) (j : Nat) : dCnt d n m (j + 1) = dCnt d n m j + (if dTime d n j ≤ m then 1 else 0) := by
  unfold dCnt
  rw [dTimes_succ, List.countP_append, List.countP_singleton]
  simp
theorem dCnt_le (d : Dr) (n : Nat) (m : Int) (j : Nat) : dCnt d n m j ≤ j := by
  unfold dCnt
  have := List.countP_le_length (p := fun x => decide (x ≤ m)) (l := (List.range j).map (dTime d n))
  simpa using this
def dBy (d : Dr) (n : Nat) (tm : Int) : Int := tm / d.t * n + dCnt d n (tm % d.t) n
theorem dTimes_get (d : Dr) (n : Nat) {j : Nat} (hj : j < n) : ∃ h : j < (dTimes d n).length, (dTimes d n)[j] = dTime d n j := by
  refine ⟨by rw [dTimes_len]; omega, ?_⟩
  unfold dTimes
  simp
end Go.Proofs.YtafnebpbfmbgiaaDoor

namespace Go.Proofs.YtafnebpbfmbgiaaDoor
open Go.RowKit Go.Sort
set_option maxRecDepth 100000 in
set_option maxHeartbeats 800000 in
theorem sole_ok (b : Int) (A : Option Addr) (c : Nat) (ds : List Int) (w : World) (hr : RI w A ds.length ds) (hv : vreg b ds = true) (hm : ds.length ≤ 1000000) : Calls Tryd.prog 124 #[.agg #[.int .i64 b, .slice A ds.length c]] w fun e w' => e = .returned (.tuple #[.agg #[.int .i64 b, .slice A ds.length c], .int .i64 0]) ∧ Below w.heap.size w w' := by
  have KV := Lib.hid (fun W (hW : Below w.heap.size w W) => calls_val (ValidRegister_any b A ds.length c ds W (hr.below hW) (by omega)) (congrArg Value.bool hv))
  clear hr hv
  go_enter Tryd.func124, Tryd.ntmps124
  go_wp2_with (go_at_call 28; refine Calls.kn (((Kn.nil w).al [.int .i64 b, .slice A ds.length c] 26).al [.int .i64 0, .slice none 0 0] 26) ?_; intro w1 K1; simp only [World.size_alloc] at K1; refine (KV.out _ K1.below).mono ?_; rintro e w2 ⟨rfl, hw⟩; have K2 := K1.keep hw; clear hw; obtain ⟨a1, a2, a3, b1, b2, b3, -⟩ := K2.cells)
  refine bodyPost.kn ((K2.st 0 (.int .i64 b)).st 1 (.slice A ds.length c)) ?_; intro w9 K9
  clear a1 a2 a3 b1 b2 b3
  obtain ⟨a1, a2, a3, -⟩ := K9.cells
  exact bodyPost_ret (v := .tuple #[.agg #[.int .i64 b, .slice A ds.length c], .int .i64 0]) (by simp [results, Tryd.results124, go_sem, a1]) rfl ⟨rfl, K9.below⟩
set_option maxRecDepth 100000 in
set_option maxHeartbeats 800000 in
theorem sole_full (b : Int) (A : Option Addr) (c : Nat) (ds : List Int) (w : World) (hr : RI w A ds.length ds) (hv : vreg b ds = false) (hm : ds.length ≤ 1000000) : Calls Tryd.prog 124 #[.agg #[.int .i64 b, .slice A ds.length c]] w fun e w' => e = .returned (.tuple #[.agg #[.int .i64 0, .slice none 0 0], .int .i64 5]) ∧ Below w.heap.size w w' := by
  have KV := Lib.hid (fun W (hW : Below w.heap.size w W) => calls_val (ValidRegister_any b A ds.length c ds W (hr.below hW) (by omega)) (congrArg Value.bool hv))
  clear hr hv
  go_enter Tryd.func124, Tryd.ntmps124
  go_wp2_with (go_at_call 28; refine Calls.kn (((Kn.nil w).al [.int .i64 b, .slice A ds.length c] 26).al [.int .i64 0, .slice none 0 0] 26) ?_; intro w1 K1; simp only [World.size_alloc] at K1; refine (KV.out _ K1.below).mono ?_; rintro e w2 ⟨rfl, hw⟩; have K2 := K1.keep hw; clear hw; obtain ⟨a1, a2, a3, b1, b2, b3, -⟩ := K2.cells)
  refine bodyPost.kn ((K2.st 0 (.int .i64 0)).st 1 (.slice none 0 0)) ?_; intro w9 K9
  clear a1 a2 a3 b1 b2 b3
  obtain ⟨a1, a2, a3, -⟩ := K9.cells
  exact bodyPost_ret (v := .tuple #[.agg #[.int .i64 0, .slice none 0 0], .int .i64 5]) (by simp [results, Tryd.results124, go_sem, a1]) rfl ⟨rfl, K9.below⟩
/-! two registers -/
def twoC (a : Int) (xs : List Int) (b : Int) (ys : List Int) : Int := if (vreg a xs && vreg b ys) = false then 1 else if a ≠ b ∨ xs.length ≠ ys.length then 6 else 0
set_option maxRecDepth 100000 in
set_option maxHeartbeats 1600000 in
theorem l02Two_any (g1 g2 : Nat) (a : Int) (A : Option Addr) (c : Nat) (xs : List Int) (b : Int) (B : Option Addr) (e : Nat) (ys : List Int) (w : World) (h1 : RegB w g1 a A c xs) (h2 : RegB w g2 b B e ys) (hm1 : xs.length ≤ 1000000) (hm2 : ys.length ≤ 1000000) :
    Calls Tryd.prog 134 #[.pointer (some ⟨g1, 0, none⟩), .pointer (some ⟨g2, 0, none⟩)] w fun r w' => r = .returned (.int .i64 (twoC a xs b ys)) ∧ Below w.heap.size w w' := by
  have K1 := l02Ok_any ⟨g1, 0, none⟩ a A xs.length c xs w h1.1 h1.2 (by omega)
  have K2 := (fun m => l02Ok_any ⟨g2, 0, none⟩ b B ys.length e ys (w.drewN m) (h2.below (drewN_below m)).1 (h2.below (drewN_below m)).2 (by omega))
  obtain ⟨⟨c0, c1⟩, -⟩ := h1
  obtain ⟨⟨e0, e1⟩, -⟩ := h2
  unfold twoC
  rcases hv1 : vreg a xs with _ | _
  · rw [hv1] at K1
    replace K1 := Lib.hid K1
    clear K2
    go_enter Tryd.func134, Tryd.ntmps134
    go_wp2_with (go_at_call 122; refine K1.out.mono ?_; rintro e w2 ⟨rfl, q, rfl⟩)
    go_ret
    exact ⟨rfl, drewN_below q⟩
  rw [hv1] at K1
  rcases hv2 : vreg b ys with _ | _
  · rw [hv2] at K2
    replace K1 := Lib.hid K1
    replace K2 := Lib.hid K2
    go_enter Tryd.func134, Tryd.ntmps134
    go_wp2_with (go_at_call 122; first | (with_reducible refine K1.out.mono ?_; rintro e w2 ⟨rfl, q1, rfl⟩) | (with_reducible refine (K2.out _).mono ?_; rintro e w3 ⟨rfl, q2, rfl⟩))
    go_ret
    exact ⟨rfl, drewN_below _⟩
  rw [hv2] at K2
  replace K1 := Lib.hid K1
  replace K2 := Lib.hid K2
  clear hv1 hv2
  obtain ⟨z, hz⟩ : ∃ z, (if (true && true) = false then (1 : Int) else if a ≠ b ∨ xs.length ≠ ys.length then 6 else 0) = z := ⟨_, rfl⟩
  rw [hz]
  have HZ := Lib.hid hz
  clear hz
  go_enter Tryd.func134, Tryd.ntmps134
  go_upto_region 3 with (go_at_call 122; first | (with_reducible refine K1.out.mono ?_; rintro e w2 ⟨rfl, q1, rfl⟩) | (with_reducible refine (K2.out _).mono ?_; rintro e w3 ⟨rfl, q2, rfl⟩))
  have c0' : (w.drewN (q1 + q2)).cell? ⟨g1, 0, none⟩ = some (.int .i64 a) := by simpa using c0
  have c1' : (w.drewN (q1 + q2)).cell? ⟨g1, 1, none⟩ = some (.slice A xs.length c) := by simpa using c1
  have e0' : (w.drewN (q1 + q2)).cell? ⟨g2, 0, none⟩ = some (.int .i64 b) := by simpa using e0
  have e1' : (w.drewN (q1 + q2)).cell? ⟨g2, 1, none⟩ = some (.slice B ys.length e) := by simpa using e1
  have hbw := drewN_below (w := w) (q1 + q2)
  generalize w.drewN (q1 + q2) = w4 at c0' c1' e0' e1' hbw ⊢
  clear c0 c1 e0 e1 K1 K2
  by_cases hab : a = b
  · subst hab
    by_cases hl : xs.length = ys.length
    · have HR := Lib.hid (HZ.out.symm.trans (show (if (true && true) = false then (1 : Int) else if a ≠ a ∨ xs.length ≠ ys.length then 6 else 0) = 0 by rw [if_neg (by decide), if_neg (by simp [hl])]))
      have x1 : (((xs.length : Nat) : Int) != ((ys.length : Nat) : Int)) = false := by rw [hl]; exact bne_self_eq_false _
      have x2 : ((xs.length : Int) == (ys.length : Int)) = true := by rw [hl]; exact beq_self_eq_true _
      clear HZ
      obtain ⟨n, hn⟩ : ∃ n, ys.length = n := ⟨_, rfl⟩
      rw [hl, hn] at c1' x1 x2
      rw [hn] at e1'
      clear hl hn
      go_quiet (fail)
      go_wp2_with fail
      go_ret
      exact ⟨ret_int HR.out.symm, by first | exact hbw | exact hbw.drewN _ | exact below_drewN hbw _⟩
    · have HR := Lib.hid (HZ.out.symm.trans (show (if (true && true) = false then (1 : Int) else if a ≠ a ∨ xs.length ≠ ys.length then 6 else 0) = 6 by rw [if_neg (by decide), if_pos (.inr hl)]))
      have x1 : (((xs.length : Nat) : Int) != ((ys.length : Nat) : Int)) = true := by simp; omega
      have x2 : ((xs.length : Int) == (ys.length : Int)) = false := beq_eq_false_iff_ne.2 (by omega)
      clear HZ
      go_quiet (fail)
      go_wp2_with fail
      go_ret
      exact ⟨ret_int HR.out.symm, by first | exact hbw | exact hbw.drewN _ | exact below_drewN hbw _⟩
  · have HR := Lib.hid (HZ.out.symm.trans (show (if (true && true) = false then (1 : Int) else if a ≠ b ∨ xs.length ≠ ys.length then 6 else 0) = 6 by rw [if_neg (by decide), if_pos (.inl hab)]))
    have x1 : (a == b) = false := beq_eq_false_iff_ne.2 hab
    clear HZ
    go_quiet (fail)
    go_wp2_with fail
    go_ret
    exact ⟨ret_int HR.out.symm, by first | exact hbw | exact hbw.drewN _ | exact below_drewN hbw _⟩
end Go.Proofs.YtafnebpbfmbgiaaDoor

namespace Go.Proofs.YtafnebpbfmbgiaaDoor
open Go.RowKit Go.Sort
set_option maxRecDepth 100000 in
set_option maxHeartbeats 1600000 in
theorem pairCode_ok (b : Int) (XA : Option Addr) (xc : Nat) (xs : List Int) (YA : Option Addr) (yc : Nat) (ys : List Int) (w : World) (hx : RI w XA xs.length xs) (hy : RI w YA ys.length ys) (hv1 : vreg b xs = true) (hv2 : vreg b ys = true) (hl : xs.length = ys.length) :
    Calls Tryd.prog 118 #[.agg #[.int .i64 b, .slice XA xs.length xc], .agg #[.int .i64 b, .slice YA ys.length yc]] w fun e w' => e = .returned (.int .i64 0) ∧ Below w.heap.size w w' := by
  have hm1 := (vreg_iff.1 hv1).2.1
  have hm2 := (vreg_iff.1 hv2).2.1
  have KX := (fun W (hW : Below w.heap.size w W) => ValidRegister_any b XA xs.length xc xs W (hx.below hW) (by omega))
  have KY := (fun W (hW : Below w.heap.size w W) => ValidRegister_any b YA ys.length yc ys W (hy.below hW) (by omega))
  rw [hv1] at KX
  rw [hv2] at KY
  replace KX := Lib.hid KX
  replace KY := Lib.hid KY
  obtain ⟨g1, hg1⟩ : ∃ g, w.heap.size = g := ⟨_, rfl⟩
  have K0 := ((Kn.nil w).al [.int .i64 b, .slice XA xs.length xc] 26).al [.int .i64 b, .slice YA ys.length yc] 26
  simp only [World.size_alloc, hg1] at K0
  have y1 : (b == b) = true := beq_self_eq_true _
  have y2 : (b != b) = false := bne_self_eq_false _
  have y5 : ((xs.length : Int) != (ys.length : Int)) = false := by rw [hl]; exact bne_self_eq_false _
  have y6 : ((xs.length : Int) == (ys.length : Int)) = true := by rw [hl]; exact beq_self_eq_true _
  clear hl hv1 hv2 hm1 hm2
  go_enter Tryd.func118, Tryd.ntmps118
  go_upto_region 3 with (go_at_call 28; first
    | (refine Calls.kn K0 ?_; intro w1 K1; (with_reducible refine (KX.out _ K1.below).mono ?_); rintro e w2 ⟨rfl, hw⟩; have K2 := K1.keep hw; clear hw; obtain ⟨a1, a2, a3, b1, b2, b3, -⟩ := K2.cells)
    | ((with_reducible refine (KY.out _ K2.below).mono ?_); rintro e w3 ⟨rfl, hw⟩; have K3 := K2.keep hw; clear hw a1 a2 a3 b1 b2 b3))
  clear K1 K2
  have x0 := cell_regrown (show w3.cell? ⟨g1, 0, none⟩ = some (.int .i64 b) from (K3.front 1 rfl).blkAt.1 0)
  have x1 := cell_regrown (show w3.cell? ⟨g1, 1, none⟩ = some (.slice XA xs.length xc) from (K3.front 1 rfl).blkAt.1 1)
  have x2 := cell_regrown (show w3.cell? ⟨g1 + 1, 0, none⟩ = some (.int .i64 b) from (K3.front 0 rfl).blkAt.1 0)
  have x3 := cell_regrown (show w3.cell? ⟨g1 + 1, 1, none⟩ = some (.slice YA ys.length yc) from (K3.front 0 rfl).blkAt.1 1)
  refine wp_region_quiet_below (by kernel_rfl) (by kernel_rfl) ?_
  repeat (go_big_quiet_step (first | (go_at_call 121; exact quietB (fun W _ => width_any _ _ _ _ W))))
  refine wpQuiet_nil ?_
  intro _ hw'
  obtain ⟨⟨dq, osq⟩, hw''⟩ := hw'
  subst hw''
  have K5 := K3.keep (below_regrown w3 dq osq)
  dsimp only
  obtain ⟨w5, hw3⟩ : ∃ W, grow (redrawn w3 dq) osq = W := ⟨_, rfl⟩
  rw [hw3] at K5 ⊢
  clear hw3 x0 x1 x2 x3 K3
  go_wp2_with fail
  go_ret
  exact ⟨rfl, by first | exact K5.below | (have := K5.below; rw [hg1] at this; exact this)⟩
set_option maxRecDepth 100000 in
set_option maxHeartbeats 800000 in
theorem whole_ok (b n : Int) (A : Option Addr) (c : Nat) (ds : List Int) (w : World) (hr : RI w A ds.length ds) (hv : vreg b ds = true) : Calls Tryd.prog 120 #[.agg #[.int .i64 b, .slice A ds.length c], .int .i64 n] w fun e w' => e = .returned (.tuple #[.agg #[.int .i64 b, .slice A ds.length c], .int .i64 n, .int .i64 0]) ∧ Below w.heap.size w w' := by
  have hm := (vreg_iff.1 hv).2.1
  have KX := (fun W (hW : Below w.heap.size w W) => ValidRegister_any b A ds.length c ds W (hr.below hW) (by omega))
  rw [hv] at KX
  replace KX := Lib.hid KX
  clear hv hm hr
  go_enter Tryd.func120, Tryd.ntmps120
  go_wp2_with (go_at_call 28; refine Calls.kn (((Kn.nil w).al [.int .i64 b, .slice A ds.length c] 26).al [.int .i64 0, .slice none 0 0] 26) ?_; intro w1 K1; simp only [World.size_alloc] at K1; refine (KX.out _ K1.below).mono ?_; rintro e w2 ⟨rfl, hw⟩; have K2 := K1.keep hw; clear hw; obtain ⟨a1, a2, a3, b1, b2, b3, -⟩ := K2.cells)
  refine bodyPost.kn (((K2.front 0 rfl).st 0 (.int .i64 b)).st 1 (.slice A ds.length c)) ?_; intro w9 K9
  clear a1 a2 a3 b1 b2 b3
  obtain ⟨a1, a2, a3, -⟩ := K9.cells
  exact bodyPost_ret (v := .tuple #[.agg #[.int .i64 b, .slice A ds.length c], .int .i64 n, .int .i64 0]) (by simp [results, Tryd.results120, go_sem, a1]) rfl ⟨rfl, K9.below⟩
end Go.Proofs.YtafnebpbfmbgiaaDoor

namespace Go.Proofs.YtafnebpbfmbgiaaDoor
open Go.RowKit Go.Sort
def carL (b : Int) (xs ys : List Int) (n : Nat) : List Int := (List.range n).map (carK b xs ys)
theorem carL_succ (b : Int) (xs ys : List Int) (n : Nat) : carL b xs ys (n + 1) = carL b xs ys n ++ [carK b xs ys n] := by unfold carL; rw [List.range_succ, List.map_append]; rfl
theorem carL_len (b : Int) (xs ys : List Int) (n : Nat) : (carL b xs ys n).length = n := by simp [carL]
theorem carL_get (b : Int) (xs ys : List Int) {n i : Nat} (h : i < n) : ∃ h' : i < (carL b xs ys n).length, (carL b xs ys n)[i] = carK b xs ys i := ⟨by rw [carL_len]; exact h, by simp [carL]⟩
def ADRet (b : Int) (xs ys : List Int) (w : World) (e : Ending) (w' : World) : Prop := ∃ E ec F fc, e = .returned (.tuple #[.agg #[.int .i64 b, .slice E xs.length ec], .slice F (xs.length + 1) fc]) ∧ Kn w [rowI E ec (addD b xs ys xs.length), rowI F fc (carL b xs ys (xs.length + 1))] w'
set_option maxRecDepth 100000 in
set_option maxHeartbeats 6400000 in
theorem added_any (b : Int) (XA : Option Addr) (xc : Nat) (xs : List Int) (YA : Option Addr) (yc : Nat) (ys : List Int) (w : World) (hx : RI w XA xs.length xs) (hy : RI w YA ys.length ys) (hb : 2 ≤ b) (hb16 : b ≤ 16) (hdx : Digs b xs) (hdy : Digs b ys) (hl : xs.length = ys.length) (hm : xs.length ≤ 16) :
    Calls Tryd.prog 119 #[.agg #[.int .i64 b, .slice XA xs.length xc], .agg #[.int .i64 b, .slice YA ys.length yc]] w (ADRet b xs ys w) := by
  unfold ADRet
  have HDX := Lib.hid hdx
  have HDY := Lib.hid hdy
  have HLL := Lib.hid hl
  have HCB := Lib.hid (carK_bd hb hdx hdy)
  have HSB := Lib.hid (fun i => sumK_bd hb xs ys i)
  clear hdx hdy hl
  obtain ⟨g1, hg1⟩ : ∃ g, w.heap.size = g := ⟨_, rfl⟩
  have K0 := (((((Kn.nil w).al [.int .i64 b, .slice XA xs.length xc] 26).al [.int .i64 b, .slice YA ys.length yc] 26).al [.int .i64 0, .slice none 0 0] 26).al [.int .i64 b, .slice none 0 0] 26).al [.int .i64 0] 2
  simp only [World.size_alloc, hg1] at K0
  go_enter Tryd.func119, Tryd.ntmps119
  go_upto_region 3 with fail
  refine Code.wp.kn K0 ?_; clear K0; intro w1 K1
  try rw [hg1]
  have K2 : Kn w [.row (.slice (some ⟨g1 + 1 + 1 + 1 + 1, 0, none⟩) 1 1) 2 1 1 ((carL b xs ys 1).map (Value.int .i64)), .blk (g1 + 1 + 1 + 1) [.int .i64 b, .slice none 0 0] 26, .blk (g1 + 1 + 1) [.int .i64 0, .slice none 0 0] 26, .blk (g1 + 1) [.int .i64 b, .slice YA ys.length yc] 26, .blk g1 [.int .i64 b, .slice XA xs.length xc] 26] w1 := K1.litRow (size := 1) (n := 1) rfl (by decide)
  clear K1
  obtain ⟨gO, hgO⟩ : ∃ g, g1 + 1 + 1 + 1 = g := ⟨_, rfl⟩
  rw [hgO] at K2 ⊢
  obtain ⟨gC, hgC⟩ : ∃ g, gO + 1 = g := ⟨_, rfl⟩
  rw [hgC] at K2
  try rw [hgC]
  clear hgO hgC
  obtain ⟨a1, a2, a3, -⟩ := (K2.front 4 rfl).cells
  go_wp2_with fail
  clear a1 a2 a3
  have K3 : Kn w [.row (.slice none 0 0) 2 1 (addD b xs ys 0).length ((addD b xs ys 0).map (Value.int .i64)), .row (.slice (some ⟨gC, 0, none⟩) 1 1) 2 1 1 ((carL b xs ys 1).map (Value.int .i64)), .blk gO [.int .i64 b, .slice none 0 0] 26, .blk (g1 + 1 + 1) [.int .i64 0, .slice none 0 0] 26, .blk (g1 + 1) [.int .i64 b, .slice YA ys.length yc] 26, .blk g1 [.int .i64 b, .slice XA xs.length xc] 26] w1 := K2.nilRow _ _
  clear K2
  go_loopw [7, 17] (fun cv ii wr => ∃ (k : Nat) (vv cw : Value), k ≤ xs.length ∧ ii = .int .i64 (k : Int) ∧ cv = cw ∧ Kn w [.row vv 2 1 (addD b xs ys k).length ((addD b xs ys k).map (Value.int .i64)), .row cw 2 1 (carL b xs ys (k + 1)).length ((carL b xs ys (k + 1)).map (Value.int .i64)), .blk gO [.int .i64 b, vv] 26, .blk (g1 + 1 + 1) [.int .i64 0, .slice none 0 0] 26, .blk (g1 + 1) [.int .i64 b, .slice YA ys.length yc] 26, .blk g1 [.int .i64 b, .slice XA xs.length xc] 26] wr) (fun _ ii _ => xs.length - (intOf ii).toNat)
  case atStart => exact ⟨0, _, _, Nat.zero_le _, rfl, rfl, K3⟩
  case round =>
    clear K3
    obtain ⟨k, vv, cw, hk, rfl, rfl, hK⟩ := hrel
    rw [carL_len] at hK
    obtain ⟨gc, cc, rfl⟩ := (hK.front 1 rfl).rowForm (by omega)
    by_cases hkn : k < xs.length
    · have i1 : (k : Int) < (xs.length : Int) := by omega
      have i0 : (0 : Int) ≤ (k : Int) := by omega
      have hkny : k < ys.length := by have := HLL.out; omega
      have i2 : (k : Int) < (ys.length : Int) := by omega
      have i3 : (k : Int) < (k : Int) + 1 := by omega
      obtain ⟨adx, hA, hltx, hkx, hcx⟩ := (hx.below hK.below).at_ hkn
      obtain ⟨ady, hB, hlty, hky, hcy⟩ := (hy.below hK.below).at_ hkny
      have bx := HDX.out xs[k] (List.getElem_mem hkn)
      have bY := HDY.out ys[k] (List.getElem_mem hkny)
      have hcb := HCB.out k
      have hsb := HSB.out k
      have hcb2 := HCB.out (k + 1)
      obtain ⟨hcl, hcg⟩ := carL_get b xs ys (show k < k + 1 by omega)
      obtain ⟨z1, z2⟩ := Kn.rowCell (hK.front 1 rfl) (j := k) (u := .int .i64 (carK b xs ys k)) (by rw [← hcg]; simp [hcl])
      have hZ : sumK b xs ys k = (xs[k] + ys[k] + carK b xs ys k) % b := by rw [sumK, getD_of hkn, getD_of hkny]
      have hQ : carK b xs ys (k + 1) = (xs[k] + ys[k] + carK b xs ys k) / b := by rw [carK, getD_of hkn, getD_of hkny]
      obtain ⟨x, hxx⟩ : ∃ x, xs[k] = x := ⟨_, rfl⟩
      obtain ⟨y, hyy⟩ : ∃ y, ys[k] = y := ⟨_, rfl⟩
      obtain ⟨cr, hcr⟩ : ∃ y, carK b xs ys k = y := ⟨_, rfl⟩
      rw [hxx] at hcx bx hZ hQ
      rw [hyy] at hcy bY hZ hQ
      rw [hcr] at hcb z1 hZ hQ
      have q1 : IntKind.i64.wrap (x + y) = x + y := wrapI (by omega)
      have q2 : IntKind.i64.wrap (x + y + cr) = x + y + cr := wrapI (by omega)
      obtain ⟨s0, hs0⟩ : ∃ s, x + y + cr = s := ⟨_, rfl⟩
      rw [hs0] at q2 hZ hQ
      have hs1 : 0 ≤ s0 ∧ s0 ≤ 40 := by omega
      obtain ⟨z, hz⟩ : ∃ z, s0 % b = z := ⟨_, rfl⟩
      obtain ⟨qq, hqq⟩ : ∃ z, s0 / b = z := ⟨_, rfl⟩
      rw [hz] at hZ
      rw [hqq] at hQ
      have r1 : Int.tmod s0 b = z := by rw [Int.tmod_eq_emod_of_nonneg (by omega)]; exact hz
      have r2 : Int.tdiv s0 b = qq := by rw [Int.tdiv_eq_ediv_of_nonneg (by omega)]; exact hqq
      have r3 : IntKind.i64.wrap (Int.tdiv s0 b) = qq := by rw [r2]; exact wrapI (by omega)
      have r0 : ¬ b = 0 := by omega
      rw [hZ] at hsb
      rw [hQ] at hcb2
      have HZ := Lib.hid hZ
      have HQ := Lib.hid hQ
      subst hA
      subst hB
      clear hxx hyy hcr hZ hQ hcg hcl hz hqq
      obtain ⟨e1, e2, e3, -⟩ := (hK.front 5 rfl).cells
      obtain ⟨f1, f2, f3, -⟩ := (hK.front 4 rfl).cells
      go_wp2_with fail
      go_quiet (fail)
      go_wp2_with fail
      obtain ⟨ss, hss⟩ : ∃ ss, addD b xs ys k = ss := ⟨_, rfl⟩
      obtain ⟨cs, hcs⟩ : ∃ cs, carL b xs ys (k + 1) = cs := ⟨_, rfl⟩
      have hcl : cs.length = k + 1 := by rw [← hcs, carL_len]
      have hL : ss.length ≤ 10000000 := by rw [← hss, addD_len]; omega
      rw [hss, hcs] at hK
      have HSS := Lib.hid hss
      have HCS := Lib.hid hcs
      have HCL := Lib.hid hcl
      have HL := Lib.hid hL
      clear hss hcs hcl hL e1 e2 e3 f1 f2 f3 z1 z2 hcx hcy
      first
        | (refine Code.wp.kn hK ?_; clear hK; intro w7 hK)
        | (refine Code.wp.kn (hK.drewN _) ?_; clear hK; intro w7 hK)
      have SP := Lib.hid (fun W m (h : Kn w (.blk g1 [.int .i64 b, .slice (some adx) xs.length xc] 26 :: m) W) => (show (W.cell? ⟨g1, 0, none⟩ = some (.int .i64 b)) from h.blkAt.1 0))
      have hKd := hK.drew
      have HG := Lib.hid (SP.out _ _ (hKd.front 5 rfl))
      refine wp_region_held_drew (S := (fun W => (W.cell? ⟨g1, 0, none⟩ = some (.int .i64 b)))) (by kernel_rfl) ?_ (fun hHeld => ?_)
      · exact HG.out
      try dsimp only
      generalize w7.drew = wd at hKd HG hHeld ⊢
      clear hK
      refine wpAnyH_take (i := 0) (v := ?_) rfl (by kernel_rfl) (by kernel_rfl) (by kernel_rfl) (fun _ _ _ h => h) (Or.inl ⟨by rfl, ?_⟩) hHeld ?_
      rotate_left
      · (intro w hSw; (try dsimp only at hSw); go_simp; try with_reducible rfl)
      try simp only [Act.put, List.setIfInBounds_toArray, List.set_cons_zero, List.set_cons_succ, List.getElem_toArray, List.getElem_cons_zero]
      refine wpAnyH_take (i := 2) (v := ?_) rfl (by kernel_rfl) (by kernel_rfl) (by kernel_rfl) (fun _ _ _ h => h) (Or.inl ⟨by rfl, ?_⟩) hHeld ?_
      rotate_left
      · (intro w hSw; (try dsimp only at hSw); go_simp; try with_reducible rfl)
      try simp only [Act.put, List.setIfInBounds_toArray, List.set_cons_zero, List.set_cons_succ, List.getElem_toArray, List.getElem_cons_succ, List.getElem_cons_zero]
      refine wpAnyH_take (i := 3) (v := ?_) rfl (by kernel_rfl) (by kernel_rfl) (by kernel_rfl) (fun _ _ _ h => h) (Or.inl ⟨by rfl, ?_⟩) hHeld ?_
      rotate_left
      · (intro w hSw; (try dsimp only at hSw); go_simp; try with_reducible rfl)
      try simp only [Act.put, List.setIfInBounds_toArray, List.set_cons_zero, List.set_cons_succ, List.getElem_toArray, List.getElem_cons_succ, List.getElem_cons_zero]
      refine wpAnyH_take (i := 4) (v := ?_) rfl (by kernel_rfl) (by kernel_rfl) (by kernel_rfl) (fun _ _ _ h => h) (Or.inl ⟨by rfl, ?_⟩) hHeld ?_
      rotate_left
      · (intro w hSw; (try dsimp only at hSw); go_simp; try with_reducible rfl)
      try simp only [Act.put, List.setIfInBounds_toArray, List.set_cons_zero, List.set_cons_succ, List.getElem_toArray, List.getElem_cons_succ, List.getElem_cons_zero]
      refine wpAnyH_take (i := 5) (v := ?_) rfl (by kernel_rfl) (by kernel_rfl) (by kernel_rfl) (fun _ _ _ h => h) (Or.inl ⟨by rfl, ?_⟩) hHeld ?_
      rotate_left
      · (intro w hSw; (try dsimp only at hSw); go_simp; try with_reducible rfl)
      try simp only [Act.put, List.setIfInBounds_toArray, List.set_cons_zero, List.set_cons_succ, List.getElem_toArray, List.getElem_cons_succ, List.getElem_cons_zero]
      refine wpAnyH_ready (rs := [1, 6]) (by kernel_rfl) (by decide) (AllReadyH.cons (o := _) rfl (fun K hK' => ?_) (AllReadyH.cons (o := _) rfl (fun K hK' => ?_) AllReadyH.nil))
      · obtain ⟨o1, o2, o3, -⟩ := (hKd.front 2 rfl).cells
        go_simp
        clear o1 o2 o3
        have HG := Lib.hid (SP.out _ _ (hKd.front 5 rfl))
        refine hK'.out _ _ HG.out (fun hHeld2 => ?_)
        clear hK' K hHeld
        have hHeld := hHeld2
        clear hHeld2
        try simp only [Act.put, List.setIfInBounds_toArray]
        refine wpAnyH_ready (rs := [6]) (by kernel_rfl) (by decide) (AllReadyH.cons (o := _) rfl (fun K hK' => ?_) AllReadyH.nil)
        go_simp
        have K9 := hKd.al [.int .i64 z] 2
        have HG := Lib.hid (SP.out _ _ (K9.front 6 rfl))
        refine hK'.out _ _ HG.out (fun hHeld2 => ?_)
        clear hK' K hHeld
        have hHeld := hHeld2
        clear hHeld2
        try simp only [Act.put, List.setIfInBounds_toArray]
        refine wpAnyH_ready (rs := [7]) (by kernel_rfl) (by decide) (AllReadyH.cons (o := _) rfl (fun K hK' => ?_) AllReadyH.nil)
        refine kn_stepI (by rfl) _ _ (by rfl) vv _ (by rfl) (by rfl) K9 HL.out ?_
        intro v' w10 K10
        obtain ⟨A', c', rfl⟩ := row_form K10.at0
        obtain ⟨m9, hm9⟩ : ∃ m, (ss ++ [z]).length = m := ⟨_, rfl⟩
        rw [hm9] at K10
        try rw [hm9]
        have HM9 := Lib.hid hm9
        clear hm9
        have HG := Lib.hid (SP.out _ _ (K10.front 5 rfl))
        refine hK'.out _ _ HG.out (fun hHeld2 => ?_)
        clear hK' K hHeld
        have hHeld := hHeld2
        clear hHeld2
        try simp only [Act.put, List.setIfInBounds_toArray]
        refine wpAnyH_take (i := 8) (v := ?_) rfl (by kernel_rfl) (by kernel_rfl) (by kernel_rfl) (fun _ _ _ h => h) (Or.inl ⟨by rfl, ?_⟩) hHeld ?_
        rotate_left
        · (intro w hSw; (try dsimp only at hSw); go_simp; try with_reducible rfl)
        try simp only [Act.put, List.setIfInBounds_toArray, List.set_cons_zero, List.set_cons_succ, List.getElem_toArray, List.getElem_cons_succ, List.getElem_cons_zero]
        refine wpAnyH_ready (rs := [9]) (by kernel_rfl) (by decide) (AllReadyH.cons (o := _) rfl (fun K hK' => ?_) AllReadyH.nil)
        obtain ⟨s1, s2, s3⟩ := (K10.front 2 rfl).blkAt
        have K11 := (K10.front 2 rfl).st 1 (.slice A' m9 c')
        go_simp
        have HG := Lib.hid (SP.out _ _ (K11.front 5 rfl))
        refine hK'.out _ _ HG.out (fun hHeld2 => ?_)
        clear hK' K hHeld
        have hHeld := hHeld2
        clear hHeld2
        try simp only [Act.put, List.setIfInBounds_toArray]
        refine wpAnyH_done (by kernel_rfl) ?_ _
        clear s1 s2 s3 HG hHeld
        have K12 : Kn w [.row (.slice (some ⟨gc, 0, none⟩) (k + 1) cc) 2 1 (k + 1) (cs.map (Value.int .i64)), .row (.slice A' m9 c') 2 1 m9 ((ss ++ [z]).map (Value.int .i64)), .blk gO [.int .i64 b, .slice A' m9 c'] 26, .blk (g1 + 1 + 1) [.int .i64 0, .slice none 0 0] 26, .blk (g1 + 1) [.int .i64 b, .slice (some ady) ys.length yc] 26, .blk g1 [.int .i64 b, .slice (some adx) xs.length xc] 26] _ := K11.sel [2, 1, 0, 3, 4, 5] 99 (by decide) (by decide)
        clear K10 K11
        go_upto_region 8 with fail
        refine Code.wp.kn K12 ?_; clear K12; intro w12 K12
        obtain ⟨e1, e2, e3, -⟩ := (K12.front 5 rfl).cells
        go_wp2_with (at_builtin; refine kn_pushI rfl _ _ rfl (.slice (some ⟨gc, 0, none⟩) (k + 1) cc) cs rfl rfl (by rw [HCL.out]; exact K12.al [.int .i64 qq] 2) (by have := HCL.out; omega) ?_; intro v13 w13 K13)
        go_roundw
        case rel => exact ⟨k + 1, _, _, by omega, by go_num, rfl, by rw [addD_succ, HSS.out, HZ.out, HM9.out, carL_succ, HCS.out, HQ.out]; exact K13.sel [1, 0, 2, 3, 4, 5] 99 (by decide) (by decide)⟩
        case measure => simp [intOf]; omega
      · go_simp
        have K9 := hKd.al [.int .i64 z] 2
        have HG := Lib.hid (SP.out _ _ (K9.front 6 rfl))
        refine hK'.out _ _ HG.out (fun hHeld2 => ?_)
        clear hK' K hHeld
        have hHeld := hHeld2
        clear hHeld2
        try simp only [Act.put, List.setIfInBounds_toArray]
        refine wpAnyH_ready (rs := [1]) (by kernel_rfl) (by decide) (AllReadyH.cons (o := _) rfl (fun K hK' => ?_) AllReadyH.nil)
        obtain ⟨o1, o2, o3, -⟩ := (K9.front 3 rfl).cells
        go_simp
        clear o1 o2 o3
        have HG := Lib.hid (SP.out _ _ (K9.front 6 rfl))
        refine hK'.out _ _ HG.out (fun hHeld2 => ?_)
        clear hK' K hHeld
        have hHeld := hHeld2
        clear hHeld2
        try simp only [Act.put, List.setIfInBounds_toArray]
        refine wpAnyH_ready (rs := [7]) (by kernel_rfl) (by decide) (AllReadyH.cons (o := _) rfl (fun K hK' => ?_) AllReadyH.nil)
        refine kn_stepI (by rfl) _ _ (by rfl) vv _ (by rfl) (by rfl) K9 HL.out ?_
        intro v' w10 K10
        obtain ⟨A', c', rfl⟩ := row_form K10.at0
        obtain ⟨m9, hm9⟩ : ∃ m, (ss ++ [z]).length = m := ⟨_, rfl⟩
        rw [hm9] at K10
        try rw [hm9]
        have HM9 := Lib.hid hm9
        clear hm9
        have HG := Lib.hid (SP.out _ _ (K10.front 5 rfl))
        refine hK'.out _ _ HG.out (fun hHeld2 => ?_)
        clear hK' K hHeld
        have hHeld := hHeld2
        clear hHeld2
        try simp only [Act.put, List.setIfInBounds_toArray]
        refine wpAnyH_take (i := 8) (v := ?_) rfl (by kernel_rfl) (by kernel_rfl) (by kernel_rfl) (fun _ _ _ h => h) (Or.inl ⟨by rfl, ?_⟩) hHeld ?_
        rotate_left
        · (intro w hSw; (try dsimp only at hSw); go_simp; try with_reducible rfl)
        try simp only [Act.put, List.setIfInBounds_toArray, List.set_cons_zero, List.set_cons_succ, List.getElem_toArray, List.getElem_cons_succ, List.getElem_cons_zero]
        refine wpAnyH_ready (rs := [9]) (by kernel_rfl) (by decide) (AllReadyH.cons (o := _) rfl (fun K hK' => ?_) AllReadyH.nil)
        obtain ⟨s1, s2, s3⟩ := (K10.front 2 rfl).blkAt
        have K11 := (K10.front 2 rfl).st 1 (.slice A' m9 c')
        go_simp
        have HG := Lib.hid (SP.out _ _ (K11.front 5 rfl))
        refine hK'.out _ _ HG.out (fun hHeld2 => ?_)
        clear hK' K hHeld
        have hHeld := hHeld2
        clear hHeld2
        try simp only [Act.put, List.setIfInBounds_toArray]
        refine wpAnyH_done (by kernel_rfl) ?_ _
        clear s1 s2 s3 HG hHeld
        have K12 : Kn w [.row (.slice (some ⟨gc, 0, none⟩) (k + 1) cc) 2 1 (k + 1) (cs.map (Value.int .i64)), .row (.slice A' m9 c') 2 1 m9 ((ss ++ [z]).map (Value.int .i64)), .blk gO [.int .i64 b, .slice A' m9 c'] 26, .blk (g1 + 1 + 1) [.int .i64 0, .slice none 0 0] 26, .blk (g1 + 1) [.int .i64 b, .slice (some ady) ys.length yc] 26, .blk g1 [.int .i64 b, .slice (some adx) xs.length xc] 26] _ := K11.sel [2, 1, 0, 3, 4, 5] 99 (by decide) (by decide)
        clear K10 K11
        go_upto_region 8 with fail
        refine Code.wp.kn K12 ?_; clear K12; intro w12 K12
        obtain ⟨e1, e2, e3, -⟩ := (K12.front 5 rfl).cells
        go_wp2_with (at_builtin; refine kn_pushI rfl _ _ rfl (.slice (some ⟨gc, 0, none⟩) (k + 1) cc) cs rfl rfl (by rw [HCL.out]; exact K12.al [.int .i64 qq] 2) (by have := HCL.out; omega) ?_; intro v13 w13 K13)
        go_roundw
        case rel => exact ⟨k + 1, _, _, by omega, by go_num, rfl, by rw [addD_succ, HSS.out, HZ.out, HM9.out, carL_succ, HCS.out, HQ.out]; exact K13.sel [1, 0, 2, 3, 4, 5] 99 (by decide) (by decide)⟩
        case measure => simp [intOf]; omega
    · have i1 : ¬ (k : Int) < (xs.length : Int) := by omega
      obtain rfl : k = xs.length := by omega
      obtain ⟨A0, c0, rfl⟩ := row_form hK.at0
      have HL1 := Lib.hid (addD_len b xs ys xs.length)
      have HL2 := Lib.hid (carL_len b xs ys (xs.length + 1))
      rw [addD_len] at hK
      obtain ⟨a1, a2, a3, -⟩ := (hK.front 2 rfl).cells
      obtain ⟨b1, b2, b3, -⟩ := (hK.front 3 rfl).cells
      try rw [addD_len]
      go_wp2_with fail
      refine bodyPost.kn (((hK.front 3 rfl).st 0 (.int .i64 b)).st 1 (.slice A0 xs.length c0)) ?_; intro w9 K9
      clear a1 a2 a3 b1 b2 b3
      obtain ⟨a1, a2, a3, -⟩ := K9.cells
      refine bodyPost_ret (v := .tuple #[.agg #[.int .i64 b, .slice A0 xs.length c0], .slice (some ⟨gc, 0, none⟩) (xs.length + 1) cc]) (by simp [results, Tryd.results119, go_sem, a1]) rfl ⟨_, _, _, _, rfl, ?_⟩
      unfold rowI
      rw [HL1.out, HL2.out]
      exact K9.sel [1, 2] 99 (by decide) (by decide)
end Go.Proofs.YtafnebpbfmbgiaaDoor

namespace Go.Proofs.YtafnebpbfmbgiaaDoor
open Go.RowKit Go.Sort
/-- a register, a number and the code 0 -/
def R3Ret (b : Int) (es : List Int) (c : Int) (w : World) (e : Ending) (w' : World) : Prop := ∃ E ec, e = .returned (.tuple #[.agg #[.int .i64 b, .slice E es.length ec], .int .i64 c, .int .i64 0]) ∧ Kn w [rowI E ec es] w'
theorem add_vreg {b : Int} {xs : List Int} (hb : 2 ≤ b) (hb16 : b ≤ 16) (ys : List Int) (h1 : 1 ≤ xs.length) (h2 : xs.length ≤ 16) (hp : pw b xs.length ≤ 1000000000001) : vreg b (addD b xs ys xs.length) = true :=
  vreg_short hb hb16 (addD_digs hb xs ys _) (by rw [addD_len]; exact h1) (by rw [addD_len]; exact h2) (by rw [addD_len]; exact hp)
set_option maxRecDepth 100000 in
set_option maxHeartbeats 3200000 in
theorem AddRegisters_ok (b : Int) (XA : Option Addr) (xc : Nat) (xs : List Int) (YA : Option Addr) (yc : Nat) (ys : List Int) (w : World) (hx : RI w XA xs.length xs) (hy : RI w YA ys.length ys) (hv1 : vreg b xs = true) (hv2 : vreg b ys = true) (hl : xs.length = ys.length) (hp : pw b xs.length ≤ 1000000000001) :
    Calls Tryd.prog 29 #[.agg #[.int .i64 b, .slice XA xs.length xc], .agg #[.int .i64 b, .slice YA ys.length yc]] w (R3Ret b (addD b xs ys xs.length) (carK b xs ys xs.length) w) := by
  obtain ⟨⟨b1, b2⟩, ⟨n1, n2⟩, hdx, -⟩ := vreg_iff.1 hv1
  have hdy := (vreg_iff.1 hv2).2.2.1
  have KP := Lib.hid (fun W (hW : Below w.heap.size w W) => pairCode_ok b XA xc xs YA yc ys W (hx.below hW) (hy.below hW) hv1 hv2 hl)
  have KA := Lib.hid (fun W (hW : Below w.heap.size w W) => added_any b XA xc xs YA yc ys W (hx.below hW) (hy.below hW) b1 b2 hdx hdy hl n2)
  unfold ADRet at KA
  unfold R3Ret
  have hva := add_vreg b1 b2 ys n1 n2 hp
  have hal := addD_len b xs ys xs.length
  have hcl := carL_len b xs ys (xs.length + 1)
  obtain ⟨hcl2, hcg⟩ := carL_get b xs ys (show xs.length < xs.length + 1 by omega)
  have hcu : (carL b xs ys (xs.length + 1)).map (Value.int .i64) = (carL b xs ys (xs.length + 1)).map (Value.int .i64) := rfl
  have hce : ((carL b xs ys (xs.length + 1)).map (Value.int .i64))[xs.length]? = some (.int .i64 (carK b xs ys xs.length)) := by rw [← hcg]; simp [hcl2]
  obtain ⟨ss, hss⟩ : ∃ s, addD b xs ys xs.length = s := ⟨_, rfl⟩
  obtain ⟨cs, hcs⟩ : ∃ s, carL b xs ys (xs.length + 1) = s := ⟨_, rfl⟩
  obtain ⟨cr, hcr⟩ : ∃ s, carK b xs ys xs.length = s := ⟨_, rfl⟩
  simp only [hss, hcs] at KA
  rw [hss] at hva hal
  rw [hcs] at hcl hce
  rw [hcr] at hce
  rw [hss, hcr]
  have HAL := Lib.hid hal
  have HCL := Lib.hid hcl
  have HCE := Lib.hid hce
  have KW := Lib.hid (fun (E : Option Addr) ec W (h : RI W E ss.length ss) => whole_ok b cr E ec ss W h hva)
  clear hss hcs hcr hal hcl hce hcl2 hcg hcu hva hdx hdy hv1 hv2 hl hp hx hy
  obtain ⟨g1, hg1⟩ : ∃ g, w.heap.size = g := ⟨_, rfl⟩
  have K0 := (((Kn.nil w).al [.int .i64 b, .slice XA xs.length xc] 26).al [.int .i64 b, .slice YA ys.length yc] 26).al [.int .i64 0, .slice none 0 0] 26
  simp only [World.size_alloc, hg1] at K0
  go_enter Tryd.func29, Tryd.ntmps29
  go_wp2_with (first
    | (go_at_call 118; refine Calls.kn K0 ?_; intro w1 K1; refine (KP.out _ K1.below).mono ?_; rintro e w2 ⟨rfl, hw⟩; have K2 := K1.keep hw; clear hw K1; obtain ⟨a1, a2, a3, c1, c2, c3, d1, d2, d3, -⟩ := K2.cells)
    | (go_at_call 119; refine (KA.out _ K2.below).mono ?_; rintro e w3 ⟨E, ec, F, fc, rfl, hK⟩; have K3 := K2.join hK; clear hK a1 a2 a3 c1 c2 c3 d1 d2 d3))
  obtain ⟨gs, hgs⟩ : ∃ g, w3.heap.size = g := ⟨_, rfl⟩
  obtain ⟨n, hn⟩ : ∃ n, xs.length = n := ⟨_, rfl⟩
  have hrow := (K3.front 0 rfl).riv
  unfold rowI at K3
  rw [HAL.out, HCL.out, hn] at K3
  rw [hn] at HCE HAL
  try rw [hn]
  have hA2 := HAL.out
  rw [hA2] at KW hrow
  have KW2 := Lib.hid (fun (E : Option Addr) ec W (h : RI W E n ss) => KW.out E ec W h)
  clear hA2
  obtain ⟨gf, fk, hFe⟩ := (K3.front 1 rfl).rowForm (by omega)
  injection hFe with hFe _ hfk
  subst hFe
  subst hfk
  have K4 := K3.al [.int .i64 b, .slice E n ec] 26
  rw [hgs] at K4
  try rw [hgs]
  refine Code.wp.kn K4 ?_; clear K3 K4 hgs; intro w4 K4
  have i1 : (n : Int) < (n : Int) + 1 := by omega
  have i0 : (0 : Int) ≤ (n : Int) := by omega
  have HF := Lib.hid (fun (W : World) (h : Kn w [.blk gs [.int .i64 b, .slice E n ec] 26, .row (.slice E n ec) 2 1 n (ss.map (Value.int .i64)), .row (.slice (some ⟨gf, 0, none⟩) (n + 1) fc) 2 1 (n + 1) (cs.map (Value.int .i64)), .blk (g1 + 1 + 1) [.int .i64 0, .slice none 0 0] 26, .blk (g1 + 1) [.int .i64 b, .slice YA ys.length yc] 26, .blk g1 [.int .i64 b, .slice XA n xc] 26] W) => And.intro (box2 (h.front 0 rfl)) (And.intro (box2 (h.front 5 rfl)) (Kn.rowCell (h.front 2 rfl) HCE.out).1))
  have HG := Lib.hid (HF.out _ K4.drew)
  have HT := HG
  go_region_held3 (fun W => (W.cell? ⟨gs, 0, none⟩ = some (.int .i64 b) ∧ W.cell? ⟨gs, 1, none⟩ = some (.slice E n ec)) ∧ (W.cell? ⟨g1, 0, none⟩ = some (.int .i64 b) ∧ W.cell? ⟨g1, 1, none⟩ = some (.slice XA n xc)) ∧ W.cell? ⟨gf, n, none⟩ = some (.int .i64 cr)) (first | with_reducible exact HG.out | with_reducible exact HT.out) (first
    | (go_at_call 121; (with_reducible refine (width_any _ _ _ _ _).mono ?_); rintro e w5 ⟨rfl, hw⟩; have K5 := K4.drew.keep hw; clear HG; have HG := Lib.hid (HF.out _ K5))
    | (go_at_call 120; (refine (KW2.out E ec _ (by have h := (K5.front 1 rfl).ownI.ri; exact h)).mono ?_); rintro e w6 ⟨rfl, hw⟩; have K6 := K5.keep hw; clear HG; have HG := Lib.hid (HF.out _ K6); have K7 := ((K6.front 3 rfl).st 0 (.int .i64 b)).st 1 (.slice E n ec); clear HT; have HT := Lib.hid (And.intro (box2 (K7.front 1 rfl)) (And.intro (box2 (K7.front 5 rfl)) (Kn.rowCell (K7.front 3 rfl) HCE.out).1)); obtain ⟨a1, a2, a3, -⟩ := (K6.front 3 rfl).cells))
  all_goals
    clear HG HT HF
    go_wp2_with fail
    refine bodyPost.kn K7 ?_; intro w9 K9
    clear a1 a2 a3
    obtain ⟨a1, a2, a3, -⟩ := K9.cells
    refine bodyPost_ret (v := .tuple #[.agg #[.int .i64 b, .slice E n ec], .int .i64 cr, .int .i64 0]) (by simp [results, Tryd.results29, go_sem, a1]) rfl ⟨E, ec, by rw [HAL.out], ?_⟩
    unfold rowI
    rw [HAL.out]
    exact K9.sel [2] 99 (by decide) (by decide)
set_option maxRecDepth 100000 in
set_option maxHeartbeats 3200000 in
theorem CompareRegisters_ok (b : Int) (XA : Option Addr) (xc : Nat) (xs : List Int) (YA : Option Addr) (yc : Nat) (ys : List Int) (w : World) (hx : RI w XA xs.length xs) (hy : RI w YA ys.length ys) (hv1 : vreg b xs = true) (hv2 : vreg b ys = true) (hl : xs.length = ys.length) :
    Calls Tryd.prog 31 #[.agg #[.int .i64 b, .slice XA xs.length xc], .agg #[.int .i64 b, .slice YA ys.length yc]] w fun e w' => (∃ c : Int, e = .returned (.tuple #[.int .i64 c, .int .i64 0]) ∧ (c < 0 ↔ valL b xs < valL b ys) ∧ (0 < c ↔ valL b ys < valL b xs) ∧ -1 ≤ c ∧ c ≤ 1) ∧ Below w.heap.size w w' := by
  obtain ⟨⟨b1, b2⟩, ⟨n1, n2⟩, hdx, -⟩ := vreg_iff.1 hv1
  obtain ⟨-, ⟨m1, m2⟩, hdy, -⟩ := vreg_iff.1 hv2
  have KP := Lib.hid (fun W (hW : Below w.heap.size w W) => pairCode_ok b XA xc xs YA yc ys W (hx.below hW) (hy.below hW) hv1 hv2 hl)
  have KA := (fun W (hW : Below w.heap.size w W) => value_any b XA xs.length xc xs W b1 b2 hdx (hx.below hW) n2)
  have KB := (fun W (hW : Below w.heap.size w W) => value_any b YA ys.length yc ys W b1 b2 hdy (hy.below hW) m2)
  obtain ⟨p, hp⟩ : ∃ p, valL b xs = p := ⟨_, rfl⟩
  obtain ⟨q, hq⟩ : ∃ p, valL b ys = p := ⟨_, rfl⟩
  rw [hp] at KA ⊢
  rw [hq] at KB ⊢
  have KA := Lib.hid KA
  have KB := Lib.hid KB
  clear hp hq hdx hdy hv1 hv2 hl hx hy
  obtain ⟨g1, hg1⟩ : ∃ g, w.heap.size = g := ⟨_, rfl⟩
  have K0 := ((Kn.nil w).al [.int .i64 b, .slice XA xs.length xc] 26).al [.int .i64 b, .slice YA ys.length yc] 26
  simp only [World.size_alloc, hg1] at K0
  go_enter Tryd.func31, Tryd.ntmps31
  go_wp2_with (go_at_call 118; refine Calls.kn K0 ?_; intro w1 K1; refine (KP.out _ K1.below).mono ?_; rintro e w2 ⟨rfl, hw⟩; have K2 := K1.keep hw; clear hw K1)
  have HF := Lib.hid (fun (W : World) (h : Kn w [.blk (g1 + 1) [.int .i64 b, .slice YA ys.length yc] 26, .blk g1 [.int .i64 b, .slice XA xs.length xc] 26] W) => And.intro (box2 (h.front 1 rfl)) (box2 (h.front 0 rfl)))
  have HG := Lib.hid (HF.out _ K2.drew)
  have HT := HG
  have HB1 := Lib.hid (fun (W : World) (h : Below w.heap.size w W) => h)
  obtain ⟨x0, hx0⟩ : ∃ x : Nat, x = 0 := ⟨0, rfl⟩
  go_region_held3 (fun W => (W.cell? ⟨g1, 0, none⟩ = some (.int .i64 b) ∧ W.cell? ⟨g1, 1, none⟩ = some (.slice XA xs.length xc)) ∧ W.cell? ⟨g1 + 1, 0, none⟩ = some (.int .i64 b) ∧ W.cell? ⟨g1 + 1, 1, none⟩ = some (.slice YA ys.length yc)) (first | with_reducible exact HG.out | with_reducible exact HT.out) (first
    | (go_at_call 109; (with_reducible refine (KA.out _ K2.drew.below).mono ?_); rintro e w3 ⟨rfl, hw⟩; have K3 := K2.drew.keep hw; clear HG; have HG := Lib.hid (HF.out _ K3))
    | (go_at_call 109; (with_reducible refine (KA.out _ K3.below).mono ?_); rintro e w4 ⟨rfl, hw⟩; have K4 := K3.keep hw; clear HT; have HT := Lib.hid (HF.out _ K4))
    | (go_at_call 109; (with_reducible refine (KB.out _ K2.drew.below).mono ?_); rintro e w3 ⟨rfl, hw⟩; have K3 := K2.drew.keep hw; clear HG; have HG := Lib.hid (HF.out _ K3))
    | (go_at_call 109; (with_reducible refine (KB.out _ K3.below).mono ?_); rintro e w4 ⟨rfl, hw⟩; have K4 := K3.keep hw; clear HT; have HT := Lib.hid (HF.out _ K4)))
  all_goals
    by_cases h1 : p < q
    · go_wp2_with fail
      go_ret2
      exact ⟨⟨-1, rfl, by omega, by omega, by omega, by omega⟩, by first | exact K4.below | (have := K4.below; rw [hg1] at this; exact this)⟩
    · by_cases h2 : q < p
      · go_wp2_with fail
        go_ret2
        exact ⟨⟨1, rfl, by omega, by omega, by omega, by omega⟩, by first | exact K4.below | (have := K4.below; rw [hg1] at this; exact this)⟩
      · go_wp2_with fail
        go_ret2
        exact ⟨⟨0, rfl, by omega, by omega, by omega, by omega⟩, by first | exact K4.below | (have := K4.below; rw [hg1] at this; exact this)⟩
end Go.Proofs.YtafnebpbfmbgiaaDoor

namespace Go.Proofs.YtafnebpbfmbgiaaDoor
open Go.RowKit Go.Sort
theorem subD_digs {b : Int} (hb : 2 ≤ b) {xs ys : List Int} (hx : Digs b xs) (hy : Digs b ys) (n : Nat) : Digs b (subD b xs ys n) := fun d hd => by
  obtain ⟨i, -, rfl⟩ := List.mem_map.1 hd
  have h1 := hx.at hb i
  have h2 := hy.at hb i
  have h3 := borK_bd xs ys i
  unfold subK
  split <;> omega
set_option maxRecDepth 100000 in
set_option maxHeartbeats 3200000 in
theorem SubRegisters_ok (b : Int) (XA : Option Addr) (xc : Nat) (xs : List Int) (YA : Option Addr) (yc : Nat) (ys : List Int) (w : World) (hx : RI w XA xs.length xs) (hy : RI w YA ys.length ys) (hv1 : vreg b xs = true) (hv2 : vreg b ys = true) (hl : xs.length = ys.length) (hp : pw b xs.length ≤ 1000000000001) :
    Calls Tryd.prog 30 #[.agg #[.int .i64 b, .slice XA xs.length xc], .agg #[.int .i64 b, .slice YA ys.length yc]] w (R3Ret b (subD b xs ys xs.length) (borK xs ys xs.length) w) := by
  obtain ⟨⟨b1, b2⟩, ⟨n1, n2⟩, hdx, -⟩ := vreg_iff.1 hv1
  have hdy := (vreg_iff.1 hv2).2.2.1
  have KP := Lib.hid (fun W (hW : Below w.heap.size w W) => pairCode_ok b XA xc xs YA yc ys W (hx.below hW) (hy.below hW) hv1 hv2 hl)
  unfold R3Ret
  have hva : vreg b (subD b xs ys xs.length) = true := vreg_short b1 b2 (subD_digs b1 hdx hdy _) (by rw [subD_len]; exact n1) (by rw [subD_len]; exact n2) (by rw [subD_len]; exact hp)
  have HVA := Lib.hid hva
  have HDX := Lib.hid hdx
  have HDY := Lib.hid hdy
  have HLL := Lib.hid hl
  clear hva hdx hdy hv1 hv2 hl hp
  obtain ⟨g1, hg1⟩ : ∃ g, w.heap.size = g := ⟨_, rfl⟩
  have K0 := (((Kn.nil w).al [.int .i64 b, .slice XA xs.length xc] 26).al [.int .i64 b, .slice YA ys.length yc] 26).al [.int .i64 0, .slice none 0 0] 26
  simp only [World.size_alloc, hg1] at K0
  go_enter Tryd.func30, Tryd.ntmps30
  go_upto_region 4 with (go_at_call 118; refine Calls.kn K0 ?_; intro w1 K1; refine (KP.out _ K1.below).mono ?_; rintro e w2 ⟨rfl, hw⟩; have K2 := K1.keep hw; clear hw K1; obtain ⟨a1, a2, a3, c1, c2, c3, d1, d2, d3, -⟩ := K2.cells)
  obtain ⟨gO, hgO⟩ : ∃ g, w2.heap.size = g := ⟨_, rfl⟩
  go_upto_region 5 with fail
  have K3 := K2.al [.int .i64 b, .slice none 0 0] 26
  rw [hgO] at K3
  try rw [hgO]
  refine Code.wp.kn K3 ?_; clear K3 K2 hgO a1 a2 a3 c1 c2 c3 d1 d2 d3; intro w4 K4
  obtain ⟨a1, a2, a3, -⟩ := (K4.front 3 rfl).cells
  go_wp2_with fail
  clear a1 a2 a3
  have K5 : Kn w [.row (.slice none 0 0) 2 1 (subD b xs ys 0).length ((subD b xs ys 0).map (Value.int .i64)), .blk gO [.int .i64 b, .slice none 0 0] 26, .blk (g1 + 1 + 1) [.int .i64 0, .slice none 0 0] 26, .blk (g1 + 1) [.int .i64 b, .slice YA ys.length yc] 26, .blk g1 [.int .i64 b, .slice XA xs.length xc] 26] w4 := K4.nilRow _ _
  clear K4
  go_loopw [9, 25] (fun cv ii wr => ∃ (k : Nat) (vv : Value), k ≤ xs.length ∧ ii = .int .i64 (k : Int) ∧ cv = .int .i64 (borK xs ys k) ∧ Kn w [.row vv 2 1 (subD b xs ys k).length ((subD b xs ys k).map (Value.int .i64)), .blk gO [.int .i64 b, vv] 26, .blk (g1 + 1 + 1) [.int .i64 0, .slice none 0 0] 26, .blk (g1 + 1) [.int .i64 b, .slice YA ys.length yc] 26, .blk g1 [.int .i64 b, .slice XA xs.length xc] 26] wr) (fun _ ii _ => xs.length - (intOf ii).toNat)
  case atStart => exact ⟨0, _, Nat.zero_le _, rfl, rfl, K5⟩
  case round =>
    clear K5
    obtain ⟨k, vv, hk, rfl, rfl, hK⟩ := hrel
    have hsl := subD_len b xs ys k
    have hss2 := subD_succ b xs ys k
    by_cases hkn : k < xs.length
    · have i1 : (k : Int) < (xs.length : Int) := by omega
      have i0 : (0 : Int) ≤ (k : Int) := by omega
      have hkny : k < ys.length := by have := HLL.out; omega
      have i2 : (k : Int) < (ys.length : Int) := by omega
      obtain ⟨adx, hA, hltx, hkx, hcx⟩ := (hx.below hK.below).at_ hkn
      obtain ⟨ady, hB, hlty, hky, hcy⟩ := (hy.below hK.below).at_ hkny
      have bx := HDX.out xs[k] (List.getElem_mem hkn)
      have bY := HDY.out ys[k] (List.getElem_mem hkny)
      have hcb := borK_bd xs ys k
      have hZ : subK b xs ys k = if xs[k] - ys[k] - borK xs ys k < 0 then xs[k] - ys[k] - borK xs ys k + b else xs[k] - ys[k] - borK xs ys k := by rw [subK, getD_of hkn, getD_of hkny]
      have hQ : borK xs ys (k + 1) = if xs[k] - ys[k] - borK xs ys k < 0 then 1 else 0 := by rw [borK, getD_of hkn, getD_of hkny]
      obtain ⟨x, hxx⟩ : ∃ x, xs[k] = x := ⟨_, rfl⟩
      obtain ⟨y, hyy⟩ : ∃ y, ys[k] = y := ⟨_, rfl⟩
      obtain ⟨cr, hcr⟩ : ∃ y, borK xs ys k = y := ⟨_, rfl⟩
      rw [hxx] at hcx bx hZ hQ
      rw [hyy] at hcy bY hZ hQ
      rw [hcr] at hcb hZ hQ
      try rw [hcr]
      obtain ⟨ss, hss⟩ : ∃ ss, subD b xs ys k = ss := ⟨_, rfl⟩
      rw [hss] at hK hsl
      have HSS := Lib.hid hss
      have HL := Lib.hid (show ss.length ≤ 10000000 by omega)
      have q1 : IntKind.i64.wrap (x - y) = x - y := wrapI (by omega)
      obtain ⟨s0, hs0⟩ : ∃ s, x - y - cr = s := ⟨_, rfl⟩
      have q2 : IntKind.i64.wrap (x - y - cr) = s0 := by rw [hs0]; exact wrapI (by omega)
      rw [hs0] at hZ hQ
      have hs1 : -b ≤ s0 ∧ s0 < b := by omega
      subst hA
      subst hB
      clear hxx hyy hcr hss hsl hss2 hs0
      obtain ⟨e1, e2, e3, -⟩ := (hK.front 4 rfl).cells
      obtain ⟨f1, f2, f3, -⟩ := (hK.front 3 rfl).cells
      by_cases hneg : s0 < 0
      · have q3 : IntKind.i64.wrap (s0 + b) = s0 + b := wrapI (by omega)
        have HZ := Lib.hid (hZ.trans (by rw [if_pos hneg]))
        have HBK := Lib.hid (hQ.trans (by rw [if_pos hneg]))
        clear hZ hQ
        go_wp2_with fail
        go_quiet (fail)
        go_upto_region 13 with fail
        first
          | (refine Code.wp.kn hK ?_; clear hK; intro w7 hK)
          | (refine Code.wp.kn (hK.drewN _) ?_; clear hK; intro w7 hK)
        clear e1 e2 e3 f1 f2 f3
        obtain ⟨o1, o2, o3, -⟩ := (hK.front 1 rfl).cells
        go_wp2_with (at_builtin; refine kn_pushI rfl _ _ rfl vv ss rfl rfl (hK.al [.int .i64 (s0 + b)] 2) HL.out ?_; intro v' w' K10; obtain ⟨A', c', rfl⟩ := row_form K10.at0; obtain ⟨m9, hm9⟩ : ∃ m, (ss ++ [(s0 + b)]).length = m := ⟨_, rfl⟩; rw [hm9] at K10; try rw [hm9]; have HM9 := Lib.hid hm9; clear hm9 o1 o2 o3; obtain ⟨s1, s2, s3⟩ := (K10.front 1 rfl).blkAt)
        go_roundw
        case rel => exact ⟨k + 1, _, by omega, by go_num, by rw [HBK.out], by rw [subD_succ, HSS.out, HZ.out, HM9.out]; exact ((K10.front 1 rfl).st 1 (.slice A' m9 c')).sel [1, 0, 2, 3, 4] 99 (by decide) (by decide)⟩
        case measure => simp [intOf]; omega
      · have HZ := Lib.hid (hZ.trans (by rw [if_neg hneg]))
        have HBK := Lib.hid (hQ.trans (by rw [if_neg hneg]))
        clear hZ hQ
        go_wp2_with fail
        go_quiet (fail)
        go_upto_region 13 with fail
        first
          | (refine Code.wp.kn hK ?_; clear hK; intro w7 hK)
          | (refine Code.wp.kn (hK.drewN _) ?_; clear hK; intro w7 hK)
        clear e1 e2 e3 f1 f2 f3
        obtain ⟨o1, o2, o3, -⟩ := (hK.front 1 rfl).cells
        go_wp2_with (at_builtin; refine kn_pushI rfl _ _ rfl vv ss rfl rfl (hK.al [.int .i64 s0] 2) HL.out ?_; intro v' w' K10; obtain ⟨A', c', rfl⟩ := row_form K10.at0; obtain ⟨m9, hm9⟩ : ∃ m, (ss ++ [s0]).length = m := ⟨_, rfl⟩; rw [hm9] at K10; try rw [hm9]; have HM9 := Lib.hid hm9; clear hm9 o1 o2 o3; obtain ⟨s1, s2, s3⟩ := (K10.front 1 rfl).blkAt)
        go_roundw
        case rel => exact ⟨k + 1, _, by omega, by go_num, by rw [HBK.out], by rw [subD_succ, HSS.out, HZ.out, HM9.out]; exact ((K10.front 1 rfl).st 1 (.slice A' m9 c')).sel [1, 0, 2, 3, 4] 99 (by decide) (by decide)⟩
        case measure => simp [intOf]; omega
    · have i1 : ¬ (k : Int) < (xs.length : Int) := by omega
      obtain rfl : k = xs.length := by omega
      obtain ⟨A0, c0, rfl⟩ := row_form hK.at0
      obtain ⟨ss, hss⟩ : ∃ ss, subD b xs ys xs.length = ss := ⟨_, rfl⟩
      obtain ⟨cr, hcr⟩ : ∃ y, borK xs ys xs.length = y := ⟨_, rfl⟩
      rw [hss] at hK HVA
      have HSS := Lib.hid hss
      have HCR := Lib.hid hcr
      try rw [hss]
      try rw [hcr]
      have hK : Kn w [rowI A0 c0 ss, .blk gO [.int .i64 b, .slice A0 ss.length c0] 26, .blk (g1 + 1 + 1) [.int .i64 0, .slice none 0 0] 26, .blk (g1 + 1) [.int .i64 b, .slice YA ys.length yc] 26, .blk g1 [.int .i64 b, .slice XA xs.length xc] 26] wr := hK
      have KW := Lib.hid (whole_ok b cr A0 c0 ss wr hK.riv HVA.out)
      clear hss hcr hsl hss2
      obtain ⟨a1, a2, a3, -⟩ := (hK.front 1 rfl).cells
      go_wp2_with (go_at_call 120; refine KW.out.mono ?_; rintro e w8 ⟨rfl, hw⟩; have K8 := (hK.keep hw).front 2 rfl; clear hw a1 a2 a3; obtain ⟨a1, a2, a3, -⟩ := K8.cells)
      refine bodyPost.kn ((K8.st 0 (.int .i64 b)).st 1 (.slice A0 ss.length c0)) ?_; intro w9 K9
      clear a1 a2 a3
      obtain ⟨a1, a2, a3, -⟩ := K9.cells
      refine bodyPost_ret (v := .tuple #[.agg #[.int .i64 b, .slice A0 ss.length c0], .int .i64 cr, .int .i64 0]) (by simp [results, Tryd.results30, go_sem, a1]) rfl ?_
      rw [HSS.out, HCR.out]
      exact ⟨A0, c0, rfl, K9.sel [1] 99 (by decide) (by decide)⟩
end Go.Proofs.YtafnebpbfmbgiaaDoor

namespace Go.Proofs.YtafnebpbfmbgiaaDoor
open Go.RowKit Go.Sort
/-- what the drawing of a good register returns -/
def DReg7 (b M : Nat) (w : World) (e : Ending) (w' : World) : Prop := ∃ (bs : Int) (A : Option Addr) (c : Nat) (ds : List Int), e = .returned (.agg #[.int .i64 bs, .slice A ds.length c]) ∧ (2 ≤ bs ∧ bs ≤ 12 ∧ 1 ≤ ds.length ∧ ds.length ≤ 7 ∧ ∀ d ∈ ds, 0 ≤ d ∧ d < bs) ∧ DR b M w [rowI A c ds] w'
theorem min7 {q k : Nat} (h : 0 ≤ (q : Int) ∧ ((q : Int) < min 7 (k : Int) ∨ min 7 (k : Int) ≤ 1 ∧ (q : Int) = 0)) : q ≤ 6 := by omega
theorem wrapQ7 {q : Nat} (h : q ≤ 6) : IntKind.i64.wrap (1 + (q : Int)) = ((q + 1 : Nat) : Int) := by rw [wrapI64 (by omega)]; omega
set_option maxRecDepth 100000 in
set_option maxHeartbeats 1600000 in
theorem l02Draw7_dr (b N : Nat) (w : World) (h : Src w b N) (hN : N ≤ 800000) :
    Calls Tryd.prog 107 #[.pointer (some ⟨b, 0, none⟩), .int .i64 7] w (DReg7 b (N + 40) w) := by
  unfold DReg7
  have D0 := DR.nil h
  clear h
  go_enter Tryd.func107, Tryd.ntmps107
  go_wp2_with fail
  refine Calls.dr (D0.al [.int .i64 0, .slice none 0 0] 26) ?_; intro w1 D1
  refine (pick_dr b N 11 w1 D1.src (by omega)).mono ?_; rintro e w2 ⟨x, rfl, hx, h2⟩
  have D2 := D1.add h2
  clear D0 D1 h2
  obtain ⟨x0, hx1⟩ := hx
  have x1 : x < 11 := by omega
  clear hx1
  obtain ⟨g0, hg0⟩ : ∃ g, w.heap.size = g := ⟨_, rfl⟩
  rw [hg0] at D2 ⊢
  go_wp2_with fail
  refine Calls.dr (D2.al [.int .i64 (2 + x), .slice none 0 0] 26) ?_; intro w3 D3
  obtain ⟨g, hg⟩ : ∃ g, w2.heap.size = g := ⟨_, rfl⟩
  rw [hg] at D3 ⊢
  clear hg D2
  refine (one_dr b _ 2 w3 D3.src (by omega)).mono ?_; rintro e w4 ⟨y, rfl, h4⟩
  have D4 := D3.add h4
  clear D3 h4
  obtain ⟨bs, hbs⟩ : ∃ z, 2 + x = z := ⟨_, rfl⟩
  rw [hbs] at D4
  have b1 : 2 ≤ bs := by omega
  have b2 : bs ≤ 12 := by omega
  clear hbs
  obtain ⟨a1, a2, a3, -⟩ := D4.cells
  rcases y with _ | _
  · go_wp2_with fail
    have HG := Lib.hid (D4.drew.box2.1)
    have HT := HG
    go_region_held3 (fun W => W.cell? ⟨g, 0, none⟩ = some (.int .i64 bs)) (first | with_reducible exact HG.out | with_reducible exact HT.out | exact HG.out | exact HT.out) (first
      | (go_at_call 199; (with_reducible refine (l02Most_any _ _).mono ?_); rintro e w5 ⟨⟨k, rfl, k1, k2⟩, rfl⟩)
      | (go_at_call 198; (with_reducible refine (l00Min_any _ _ _).mono ?_); rintro e w5 ⟨rfl, rfl⟩)
      | (go_at_call 178; (with_reducible refine (pick_dr b _ _ _ D4.drew.src (by omega)).mono ?_); rintro e w5 ⟨y, rfl, hy, h5⟩; have D5 := D4.drew.add h5; clear HG; have HG := Lib.hid (D5.box2.1); obtain ⟨q, rfl⟩ : ∃ q : Nat, y = q := ⟨y.toNat, by omega⟩; have hq := min7 hy; have hq1 := wrapQ7 hq)
      | (go_at_call 108; rw [show (q : Int) + 1 = ((q + 1 : Nat) : Int) from rfl]; refine (digits_dr b _ _ (q + 1) _ D5.src (by omega) (by omega) (by omega) (by omega)).mono ?_; rintro e w6 ⟨A, c, ds, rfl, hl, hd, h6⟩; have D6 := D5.add h6; clear HG; have HG := Lib.hid ((D6.front 1 rfl).box2.1); obtain ⟨x1, x2, x3, -⟩ := (D6.front 1 rfl).cells; have D8 := (D6.front 1 rfl).st 1 (.slice A (q + 1) c); clear HT; have HT := Lib.hid (D8.box2.1)))
    all_goals
      clear D5 D6 HG HT
      try clear x1 x2 x3
      try clear a1 a2 a3
      generalize w6.setCell ⟨g, 1, none⟩ (.slice A (q + 1) c) = w8 at D8 ⊢
      obtain ⟨a1, a2, a3, -⟩ := D8.cells
      obtain ⟨d1, d2, d3, -⟩ := (D8.front 2 rfl).cells
      go_wp2_with fail
      refine bodyPost.dr (((D8.front 2 rfl).st 0 (.int .i64 bs)).st 1 (.slice A (q + 1) c)) ?_; intro w9 D9
      clear a1 a2 a3 d1 d2 d3
      obtain ⟨a1, a2, a3, -⟩ := D9.cells
      refine bodyPost_ret (v := .agg #[.int .i64 bs, .slice A (q + 1) c]) (by simp [results, Tryd.results107, go_sem, a1]) rfl ⟨bs, A, c, ds, by rw [hl], ⟨by omega, by omega, by omega, by omega, hd⟩, ?_⟩
      have hq' := hq
      exact (D9.sel [2] 99 (by decide) (by decide)).mono (by omega)
  · go_upto_region 4 with fail
    refine Code.wp.dr ((D4.front 0 rfl).st 0 (.int .i64 10)) ?_; intro w4 D4
    clear a1 a2 a3
    obtain ⟨a1, a2, a3, -⟩ := D4.cells
    have HG := Lib.hid (D4.drew.box2.1)
    have HT := HG
    go_region_held3 (fun W => W.cell? ⟨g, 0, none⟩ = some (.int .i64 10)) (first | with_reducible exact HG.out | with_reducible exact HT.out | exact HG.out | exact HT.out) (first
      | (go_at_call 199; (with_reducible refine (l02Most_any _ _).mono ?_); rintro e w5 ⟨⟨k, rfl, k1, k2⟩, rfl⟩)
      | (go_at_call 198; (with_reducible refine (l00Min_any _ _ _).mono ?_); rintro e w5 ⟨rfl, rfl⟩)
      | (go_at_call 178; (with_reducible refine (pick_dr b _ _ _ D4.drew.src (by omega)).mono ?_); rintro e w5 ⟨y, rfl, hy, h5⟩; have D5 := D4.drew.add h5; clear HG; have HG := Lib.hid (D5.box2.1); obtain ⟨q, rfl⟩ : ∃ q : Nat, y = q := ⟨y.toNat, by omega⟩; have hq := min7 hy; have hq1 := wrapQ7 hq)
      | (go_at_call 108; rw [show (q : Int) + 1 = ((q + 1 : Nat) : Int) from rfl]; refine (digits_dr b _ _ (q + 1) _ D5.src (by omega) (by omega) (by omega) (by omega)).mono ?_; rintro e w6 ⟨A, c, ds, rfl, hl, hd, h6⟩; have D6 := D5.add h6; clear HG; have HG := Lib.hid ((D6.front 1 rfl).box2.1); obtain ⟨x1, x2, x3, -⟩ := (D6.front 1 rfl).cells; have D8 := (D6.front 1 rfl).st 1 (.slice A (q + 1) c); clear HT; have HT := Lib.hid (D8.box2.1)))
    all_goals
      clear D5 D6 HG HT
      try clear x1 x2 x3
      try clear a1 a2 a3
      generalize w6.setCell ⟨g, 1, none⟩ (.slice A (q + 1) c) = w8 at D8 ⊢
      obtain ⟨a1, a2, a3, -⟩ := D8.cells
      obtain ⟨d1, d2, d3, -⟩ := (D8.front 2 rfl).cells
      go_wp2_with fail
      refine bodyPost.dr (((D8.front 2 rfl).st 0 (.int .i64 10)).st 1 (.slice A (q + 1) c)) ?_; intro w9 D9
      clear a1 a2 a3 d1 d2 d3
      obtain ⟨a1, a2, a3, -⟩ := D9.cells
      refine bodyPost_ret (v := .agg #[.int .i64 10, .slice A (q + 1) c]) (by simp [results, Tryd.results107, go_sem, a1]) rfl ⟨10, A, c, ds, by rw [hl], ⟨by omega, by omega, by omega, by omega, hd⟩, ?_⟩
      have hq' := hq
      exact (D9.sel [2] 99 (by decide) (by decide)).mono (by omega)
end Go.Proofs.YtafnebpbfmbgiaaDoor
