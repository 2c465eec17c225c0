/- Part 2: lemmas and contracts of the claim's functions. -/
import Derived.Test.YtgpmngcemnnpmaaDoorZC1
import Derived.Deep.DeepCutAuto
import Derived.Deep.RegionHeld3
import Derived.WalkSmall
import Derived.Laws.Bits64b
namespace Go.Proofs.YtgpmngcemnnpmaaDoor
open Go.RowKit Go.Sort
/-- what is left of v when k digits are taken -/
def restD (b : Int) : Nat → Int → Int
  | 0, v => v
  | k + 1, v => (restD b k v).tdiv b
/-- the k lowest digits of v -/
def digD (b : Int) : Nat → Int → List Int
  | 0, _ => []
  | k + 1, v => digD b k v ++ [(restD b k v).tmod b]
theorem digD_len (b : Int) (k : Nat) (v : Int) : (digD b k v).length = k := by
  induction k with
  | zero => rfl
  | succ k ih => simp [digD, ih]
theorem restD_bd (b : Int) (hb : 2 ≤ b) (k : Nat) (v : Int) (h0 : 0 ≤ v) (_h1 : v ≤ 9223372036854775807) : 0 ≤ restD b k v ∧ restD b k v ≤ v := by
  induction k with
  | zero => exact ⟨h0, Int.le_refl _⟩
  | succ k ih =>
    simp only [restD]
    rw [Int.tdiv_eq_ediv_of_nonneg ih.1]
    have := Int.ediv_le_self b ih.1
    exact ⟨Int.ediv_nonneg ih.1 (by omega), by omega⟩
section
variable {ops : Array Oper} {rest : List Oper} {o : Oper} {a : Act} {Q : Exit → Act → World → Prop} {w0 w : World} {m : List Ent}
/-- append(s, x..), x a row that is only read -/
theorem kn_appC {t e : TypeId} {z : Value} {size bytes : Nat} (T : TP t e z size bytes) (hgd : o.guard = none) (s x : Operand) (ho : o.op = .call { callee := .builtin .append, args := #[s, x], argTypes := #[t, t] })
    (v : Value) (n : Nat) (xs : List Value) (hs : a.eval s = v) {ad : Addr} {c k : Nat} {l : List Value} (hx : a.eval x = .slice (some ad) k c) (hc : ∀ j u, l[j]? = some u → w.cell? (ad.add j) = some u)
    (hK : Kn w0 (.row v e size n xs :: m) w) (hl : l.length = k * size) (h1 : ∀ u ∈ l, u.oneCell' = true)
    (h63 : n + k ≤ 1000000000000000) (hb : (n + k) * bytes ≤ 140737488355328)
    (h : ∀ v' w', Kn w0 (.row v' e size (n + k) (xs ++ l) :: m) w' → wpList Tryd.prog ops Q rest (a.put o.dst v') w') : wpList Tryd.prog ops Q (o :: rest) a w :=
  appG T hgd s x ho 0 v n xs hs hK.at0 ad k c l hx hl hc h1 h63 hb (Nat.zero_le _) (fun v' w' ho' hg hv => h v' w' (hK.grow hg ho' hv))
end
set_option maxRecDepth 100000 in
theorem copyNumbers_any (A : Option Addr) (n c : Nat) (ds : List Int) (w : World) (hr : RI w A n ds) (h0 : 0 < n) (hm : n ≤ 1000000) :
    Calls Tryd.prog 110 #[.slice A n c] w fun e w' => ∃ A' c', e = .returned (.slice A' n c') ∧ Kn w [rowI A' c' ds] w' := by
  obtain ⟨hl, hc⟩ := hr
  obtain ⟨ad, rfl, hlt, hcell⟩ := hc h0
  have hcell := Lib.hid hcell
  subst hl
  go_enter Tryd.func110, Tryd.ntmps110
  go_wp2_with (first
    | (refine wpList.kn ((Kn.nil w).al [] 2) ?_; intro w1 hK1)
    | (at_builtin; refine kn_appC tpI rfl _ _ rfl _ 0 [] rfl (l := ds.map (Value.int .i64)) rfl (fun j u hu => by
        rw [List.getElem?_map] at hu
        obtain ⟨x, hx, rfl⟩ := Option.map_eq_some_iff.1 hu
        rw [hK1.below.cell (by rw [block_of_add]; exact hlt)]
        exact hcell.out j x hx) (hK1.litRow (size := 1) (n := 0) rfl (by decide)) (by simp) (by simp [Value.oneCell']) (by omega) (by omega) ?_; intro v2 w2 hK2; rw [Nat.zero_add] at hK2; obtain ⟨A2, c2, rfl⟩ := row_form hK2.at0))
  go_ret
  rw [List.nil_append] at hK2
  exact ⟨A2, c2, rfl, hK2⟩
set_option maxRecDepth 100000 in
theorem l00Own_any (A : Option Addr) (n c : Nat) (ds : List Int) (w : World) (hr : RI w A n ds) (h0 : 0 < n) (hm : n ≤ 1000000) :
    Calls Tryd.prog 113 #[.slice A n c] w fun e w' => ∃ A' c', e = .returned (.slice A' n c') ∧ Kn w [rowI A' c' ds] w' := by
  obtain ⟨hl, hc⟩ := hr
  obtain ⟨ad, rfl, hlt, hcell⟩ := hc h0
  have hcell := Lib.hid hcell
  subst hl
  go_enter Tryd.func113, Tryd.ntmps113
  go_wp2_with (first
    | (refine wpList.kn ((Kn.nil w).al [] 2) ?_; intro w1 hK1)
    | (at_builtin; refine kn_appC tpI rfl _ _ rfl _ 0 [] rfl (l := ds.map (Value.int .i64)) rfl (fun j u hu => by
        rw [List.getElem?_map] at hu
        obtain ⟨x, hx, rfl⟩ := Option.map_eq_some_iff.1 hu
        rw [hK1.below.cell (by rw [block_of_add]; exact hlt)]
        exact hcell.out j x hx) (hK1.litRow (size := 1) (n := 0) rfl (by decide)) (by simp) (by simp [Value.oneCell']) (by omega) (by omega) ?_; intro v2 w2 hK2; rw [Nat.zero_add] at hK2; obtain ⟨A2, c2, rfl⟩ := row_form hK2.at0))
  go_ret
  rw [List.nil_append] at hK2
  exact ⟨A2, c2, rfl, hK2⟩
end Go.Proofs.YtgpmngcemnnpmaaDoor

namespace Go.Proofs.YtgpmngcemnnpmaaDoor
open Go.RowKit Go.Sort
theorem restD_step (b : Int) (hb : 2 ≤ b) (hb2 : b ≤ 16) (k : Nat) (v : Int) (h0 : 0 ≤ v) (h1 : v ≤ 9223372036854775807) : 0 ≤ (restD b k v).tmod b ∧ (restD b k v).tmod b < b := by
  have := restD_bd b hb k v h0 h1
  have h2 := Int.tmod_nonneg b this.1
  have h3 : (restD b k v).tmod b < b := by rw [Int.tmod_eq_emod_of_nonneg this.1]; exact Int.emod_lt_of_pos _ (by omega)
  omega
set_option maxRecDepth 100000 in
set_option maxHeartbeats 1600000 in
theorem registerOf_any (b : Int) (k : Nat) (v : Int) (w : World) (hb : 2 ≤ b) (hb2 : b ≤ 16) (hk : k ≤ 1000000) (h0 : 0 ≤ v) (h1 : v ≤ 9223372036854775807) :
    Calls Tryd.prog 178 #[.int .i64 b, .int .i64 k, .int .i64 v] w fun e w' => ∃ A c, e = .returned (.tuple #[.agg #[.int .i64 b, .slice A (digD b k v).length c], .bool (restD b k v == 0)]) ∧ Kn w [rowI A c (digD b k v)] w' := by
  have HBD := Lib.hid (fun i => restD_bd b hb i v h0 h1)
  have HST := Lib.hid (fun i => restD_step b hb hb2 i v h0 h1)
  have nz1 : b ≠ 0 := by omega
  have nz2 : (b == 0) = false := by simp; omega
  have nz3 : ¬ b = 0 := by omega
  go_enter Tryd.func178, Tryd.ntmps178
  go_wp2_with (first | (refine wpList.kn ((Kn.nil w).al [.int .i64 0, .slice none 0 0] 41) ?_; intro w1 hK1) | (refine wpList.kn (hK1.al [.int .i64 0, .slice none 0 0] 41) ?_; intro w2 hK2; obtain ⟨a1, a2, a3, -⟩ := hK2.cells))
  have hK4 := ((hK2.st 0 (.int .i64 b)).st 1 (.slice none 0 0)).nilRow 2 1
  clear a1 a2 a3 hK1 hK2
  go_loopw [12, 2] (fun ii vv wr => ∃ (i : Nat) (x : Value), i ≤ k ∧ ii = .int .i64 i ∧ vv = .int .i64 (restD b i v) ∧
    Kn w [.row x 2 1 (digD b i v).length ((digD b i v).map (Value.int .i64)), .blk w1.heap.size [.int .i64 b, x] 41, .blk w.heap.size [.int .i64 0, .slice none 0 0] 41] wr) (fun i _ _ => k - (intOf i).toNat)
  case atStart => exact ⟨0, .slice none 0 0, Nat.zero_le _, rfl, rfl, hK4⟩
  case round =>
    obtain ⟨i, x, hi, rfl, rfl, hK⟩ := hrel
    clear hK4
    have hdl := digD_len b i v
    have HS := Lib.hid (show digD b (i + 1) v = digD b i v ++ [(restD b i v).tmod b] from rfl)
    have HR := Lib.hid (show restD b (i + 1) v = (restD b i v).tdiv b from rfl)
    have hbd := HBD.out i
    have hst := HST.out i
    have HLN := Lib.hid (digD_len b k v)
    obtain ⟨ds, hds⟩ : ∃ ds, digD b i v = ds := ⟨_, rfl⟩
    have HDS := Lib.hid hds
    rw [hds] at hK HS hdl
    obtain ⟨z, hz⟩ : ∃ z, restD b i v = z := ⟨_, rfl⟩
    rw [hz] at HS hbd hst HR ⊢
    have HZ := Lib.hid hz
    have HZ1 : Hid (-9223372036854775808 ≤ z.tmod b ∧ z.tmod b ≤ 9223372036854775807) := by simp only [Hid]; omega
    have hdm : ds.length ≤ 1000000 := by omega
    have HDL := Lib.hid hdl
    clear hds hz hdl
    obtain ⟨a1, a2, a3, d1, d2, d3, -⟩ := hK.cells
    by_cases hik : i < k
    · have hi1 : (i : Int) < (k : Int) := by omega
      go_wp2_with fail
      go_region_law (refine kn_stepI rfl _ _ rfl _ ds rfl rfl ((hK.al [.int .i64 (z.tmod b)] 2).drew) (by omega) ?_; intro v5 w6 hK9; obtain ⟨A5, c5, rfl⟩ := row_form hK9.at0; rw [show (ds ++ [z.tmod b]).length = ds.length + 1 by simp] at hK9; clear a1 a2 a3 d1 d2 d3; obtain ⟨a1, a2, a3, d1, d2, d3, -⟩ := hK9.cells)
      all_goals
        go_wp2_with fail
        go_roundw
        case rel => exact ⟨i + 1, _, by omega, by go_num, by rw [HR.out, Int.tdiv_eq_ediv_of_nonneg hbd.1], by rw [HS.out, show (ds ++ [z.tmod b]).length = ds.length + 1 by simp]; exact (hK9.sw1.st 1 _).sw1⟩
        case measure => simp [intOf]; omega
    · have hi1 : ¬ (i : Int) < (k : Int) := by omega
      obtain rfl : i = k := by omega
      obtain ⟨A, c, rfl⟩ := row_form hK.at0
      go_wp2_with fail
      refine bodyPost_ret (v := .tuple #[.agg #[.int .i64 b, .slice A ds.length c], .bool (z == 0)]) (by simp [results, Tryd.results178, go_sem, d1]) rfl ⟨A, c, by rw [HDS.out, HZ.out], ?_⟩
      rw [HDS.out]
      exact ((hK.sw2.st 0 (.int .i64 b)).st 1 (.slice A ds.length c)).drop.drop1
set_option maxRecDepth 100000 in
set_option maxHeartbeats 1600000 in
theorem l02NewV_any (b : Int) (k : Nat) (v : Int) (w : World) (hb : 2 ≤ b) (hb2 : b ≤ 16) (hk : k ≤ 1000000) (h0 : 0 ≤ v) (h1 : v ≤ 9223372036854775807) :
    Calls Tryd.prog 162 #[.int .i64 b, .int .i64 k, .int .i64 v] w fun e w' => ∃ A c, e = .returned (.tuple #[.agg #[.int .i64 b, .slice A (digD b k v).length c], .int .i64 (restD b k v)]) ∧ Kn w [rowI A c (digD b k v)] w' := by
  have HBD := Lib.hid (fun i => restD_bd b hb i v h0 h1)
  have HST := Lib.hid (fun i => restD_step b hb hb2 i v h0 h1)
  have nz1 : b ≠ 0 := by omega
  have nz2 : (b == 0) = false := by simp; omega
  have nz3 : ¬ b = 0 := by omega
  go_enter Tryd.func162, Tryd.ntmps162
  go_wp2_with (first | (refine wpList.kn ((Kn.nil w).al [.int .i64 0, .slice none 0 0] 41) ?_; intro w1 hK1) | (refine wpList.kn (hK1.al [.int .i64 0, .slice none 0 0] 41) ?_; intro w2 hK2; obtain ⟨a1, a2, a3, -⟩ := hK2.cells))
  have hK4 := ((hK2.st 0 (.int .i64 b)).st 1 (.slice none 0 0)).nilRow 2 1
  clear a1 a2 a3 hK1 hK2
  go_loopw [9, 2] (fun ii vv wr => ∃ (i : Nat) (x : Value), i ≤ k ∧ ii = .int .i64 i ∧ vv = .int .i64 (restD b i v) ∧
    Kn w [.row x 2 1 (digD b i v).length ((digD b i v).map (Value.int .i64)), .blk w1.heap.size [.int .i64 b, x] 41, .blk w.heap.size [.int .i64 0, .slice none 0 0] 41] wr) (fun i _ _ => k - (intOf i).toNat)
  case atStart => exact ⟨0, .slice none 0 0, Nat.zero_le _, rfl, rfl, hK4⟩
  case round =>
    obtain ⟨i, x, hi, rfl, rfl, hK⟩ := hrel
    clear hK4
    have hdl := digD_len b i v
    have HS := Lib.hid (show digD b (i + 1) v = digD b i v ++ [(restD b i v).tmod b] from rfl)
    have HR := Lib.hid (show restD b (i + 1) v = (restD b i v).tdiv b from rfl)
    have hbd := HBD.out i
    have hst := HST.out i
    have HLN := Lib.hid (digD_len b k v)
    obtain ⟨ds, hds⟩ : ∃ ds, digD b i v = ds := ⟨_, rfl⟩
    have HDS := Lib.hid hds
    rw [hds] at hK HS hdl
    obtain ⟨z, hz⟩ : ∃ z, restD b i v = z := ⟨_, rfl⟩
    rw [hz] at HS hbd hst HR ⊢
    have HZ := Lib.hid hz
    have HZ1 : Hid (-9223372036854775808 ≤ z.tmod b ∧ z.tmod b ≤ 9223372036854775807) := by simp only [Hid]; omega
    have hdm : ds.length ≤ 1000000 := by omega
    have HDL := Lib.hid hdl
    clear hds hz hdl
    obtain ⟨a1, a2, a3, d1, d2, d3, -⟩ := hK.cells
    by_cases hik : i < k
    · have hi1 : (i : Int) < (k : Int) := by omega
      go_wp2_with fail
      go_region_law (refine kn_stepI rfl _ _ rfl _ ds rfl rfl ((hK.al [.int .i64 (z.tmod b)] 2).drew) (by omega) ?_; intro v5 w6 hK9; obtain ⟨A5, c5, rfl⟩ := row_form hK9.at0; rw [show (ds ++ [z.tmod b]).length = ds.length + 1 by simp] at hK9; clear a1 a2 a3 d1 d2 d3; obtain ⟨a1, a2, a3, d1, d2, d3, -⟩ := hK9.cells)
      all_goals
        go_wp2_with fail
        go_roundw
        case rel => exact ⟨i + 1, _, by omega, by go_num, by rw [HR.out, Int.tdiv_eq_ediv_of_nonneg hbd.1], by rw [HS.out, show (ds ++ [z.tmod b]).length = ds.length + 1 by simp]; exact (hK9.sw1.st 1 _).sw1⟩
        case measure => simp [intOf]; omega
    · have hi1 : ¬ (i : Int) < (k : Int) := by omega
      obtain rfl : i = k := by omega
      obtain ⟨A, c, rfl⟩ := row_form hK.at0
      go_wp2_with fail
      refine bodyPost_ret (v := .tuple #[.agg #[.int .i64 b, .slice A ds.length c], .int .i64 z]) (by simp [results, Tryd.results162, go_sem, d1]) rfl ⟨A, c, by rw [HDS.out, HZ.out], ?_⟩
      rw [HDS.out]
      exact ((hK.sw2.st 0 (.int .i64 b)).st 1 (.slice A ds.length c)).drop.drop1
end Go.Proofs.YtgpmngcemnnpmaaDoor

namespace Go.Proofs.YtgpmngcemnnpmaaDoor
open Go.RowKit Go.Sort
theorem power_B (b : Int) (n : Nat) (w : World) (hb1 : 2 ≤ b) (hb2 : b ≤ 16) (hn : n ≤ 9223372036854775807) :
    Calls Tryd.prog 168 #[.int .i64 b, .int .i64 n] w fun e w' => e = .returned (.int .i64 (powC b n)) ∧ Below w.heap.size w w' :=
  (power_any b n w hb1 hb2 hn).mono fun _ _ ⟨h, e⟩ => ⟨h, e ▸ Below.refl _ _⟩
theorem between_B (a b c : Int) (w : World) : Calls Tryd.prog 71 #[.int .i64 a, .int .i64 b, .int .i64 c] w fun e w' => e = .returned (.bool (betB a b c)) ∧ Below w.heap.size w w' :=
  (between_any a b c w).mono fun _ _ ⟨h, e⟩ => ⟨h, e ▸ Below.refl _ _⟩
theorem values_any (b : Int) (A : Option Addr) (n c : Nat) (w : World) (hb1 : 2 ≤ b) (hb2 : b ≤ 16) (hn : n ≤ 9223372036854775807) :
    Calls Tryd.prog 176 #[.agg #[.int .i64 b, .slice A n c]] w fun e w' => e = .returned (.int .i64 (powC b n)) ∧ Below w.heap.size w w' := by
  go_enter Tryd.func176, Tryd.ntmps176
  go_wp2_with fail
  obtain ⟨WW, hWW⟩ : ∃ W, W = w.alloc (.cells #[.int .i64 b, .slice A n c] 41) := ⟨_, rfl⟩
  rw [← hWW]
  have hWb : Below w.heap.size w WW := by rw [hWW]; exact (Below.refl _ _).alloc (Nat.le_refl _) _
  have x1 := cell_regrown (show WW.cell? ⟨w.heap.size, 0, none⟩ = some (.int .i64 b) by rw [hWW]; go_simp)
  have x2 := cell_regrown (show WW.cell? ⟨w.heap.size, 1, none⟩ = some (.slice A n c) by rw [hWW]; go_simp)
  clear hWW
  refine wp_region_quiet_below (by kernel_rfl) (by kernel_rfl) ?_
  repeat (go_big_quiet_step (first | (go_at_call 75; exact quietB (fun W _ => width_any _ _ _ _ W)) | (go_at_call 168; exact quietB (fun W _ => power_B _ _ W hb1 hb2 hn))))
  refine wpQuiet_nil ?_
  intro W1 hw'
  have hB1 : Below WW.heap.size WW W1 := by
    obtain ⟨⟨dq, osq⟩, hw''⟩ := hw'
    rw [hw'']; exact below_regrown _ _ _
  clear hw'
  go_wp2
  go_ret
  exact ⟨rfl, hWb.trans (hB1.mono hWb.size)⟩
def vplaces (t : Tri) : Int := min ((t.b.digits.length : Int) - t.a.digits.length + 1) t.s.digits.length
def fullB (r : Reg) : Bool := decide (pw r.base r.digits.length ≤ 1000000000001)
def vmach (t : Tri) : Bool := (t.a.ok && t.b.ok && t.s.ok) && ((t.a.base == t.b.base) && (t.s.base == t.b.base) && fullB t.b && fullB t.s) && (decide (t.a.digits.length ≤ t.b.digits.length) && betB t.carry 0 (vplaces t - 1))
def TriC (w : World) (p : Addr) (t : Tri) (A1 : Option Addr) (c1 : Nat) (A2 : Option Addr) (c2 : Nat) (A3 : Option Addr) (c3 : Nat) : Prop :=
  (w.cell? ⟨p.block, p.off, none⟩ = some (.int .i64 t.a.base) ∧ w.cell? ⟨p.block, p.off + 1, none⟩ = some (.slice A1 t.a.digits.length c1) ∧ w.cell? ⟨p.block, p.off + 2, none⟩ = some (.int .i64 t.b.base) ∧ w.cell? ⟨p.block, p.off + 3, none⟩ = some (.slice A2 t.b.digits.length c2) ∧
    w.cell? ⟨p.block, p.off + 4, none⟩ = some (.int .i64 t.s.base) ∧ w.cell? ⟨p.block, p.off + 5, none⟩ = some (.slice A3 t.s.digits.length c3) ∧ w.cell? ⟨p.block, p.off + 6, none⟩ = some (.int .i64 t.carry)) ∧
    RI w A1 t.a.digits.length t.a.digits ∧ RI w A2 t.b.digits.length t.b.digits ∧ RI w A3 t.s.digits.length t.s.digits
theorem TriC.below {w w' : World} {p : Addr} {t : Tri} {A1 A2 A3 : Option Addr} {c1 c2 c3 : Nat} (h : TriC w p t A1 c1 A2 c2 A3 c3) (hp : p.block < w.heap.size) (hb : Below w.heap.size w w') : TriC w' p t A1 c1 A2 c2 A3 c3 := by
  obtain ⟨⟨h1, h2, h3, h4, h5, h6, h7⟩, r1, r2, r3⟩ := h
  exact ⟨⟨by rw [hb.cell (by exact hp)]; exact h1, by rw [hb.cell (by exact hp)]; exact h2, by rw [hb.cell (by exact hp)]; exact h3, by rw [hb.cell (by exact hp)]; exact h4, by rw [hb.cell (by exact hp)]; exact h5, by rw [hb.cell (by exact hp)]; exact h6, by rw [hb.cell (by exact hp)]; exact h7⟩, r1.below hb, r2.below hb, r3.below hb⟩
theorem TriC.of_block {w : World} {g : Nat} {T : TypeId} {t : Tri} {A1 A2 A3 : Option Addr} {c1 c2 c3 : Nat}
    (hg : w.heap[g]? = some (.cells #[.int .i64 t.a.base, .slice A1 t.a.digits.length c1, .int .i64 t.b.base, .slice A2 t.b.digits.length c2, .int .i64 t.s.base, .slice A3 t.s.digits.length c3, .int .i64 t.carry] T (0, 0)))
    (r1 : RI w A1 t.a.digits.length t.a.digits) (r2 : RI w A2 t.b.digits.length t.b.digits) (r3 : RI w A3 t.s.digits.length t.s.digits) : TriC w ⟨g, 0, none⟩ t A1 c1 A2 c2 A3 c3 := by
  have hc : ∀ i v, #[Value.int .i64 t.a.base, .slice A1 t.a.digits.length c1, .int .i64 t.b.base, .slice A2 t.b.digits.length c2, .int .i64 t.s.base, .slice A3 t.s.digits.length c3, .int .i64 t.carry][i]? = some v → w.cell? ⟨g, i, none⟩ = some v := fun i v hv => by rw [cell_of_row w g i _ T (0, 0) hg]; exact hv
  exact ⟨⟨hc 0 _ rfl, hc 1 _ rfl, hc 2 _ rfl, hc 3 _ rfl, hc 4 _ rfl, hc 5 _ rfl, hc 6 _ rfl⟩, r1, r2, r3⟩
theorem TriC.tri {w : World} {b o : Nat} {t : Tri} {A1 A2 A3 : Option Addr} {c1 c2 c3 : Nat} (h : TriC w ⟨b, o, none⟩ t A1 c1 A2 c2 A3 c3) : TriM w ⟨b, o, none⟩ t := by
  obtain ⟨⟨h1, h2, h3, h4, h5, h6, h7⟩, r1, r2, r3⟩ := h
  exact ⟨⟨A1, c1, ⟨h1, h2⟩, r1⟩, ⟨A2, c2, ⟨h3, h4⟩, r2⟩, ⟨A3, c3, ⟨h5, h6⟩, r3⟩, h7⟩
theorem places_any (t : Tri) (A1 A2 A3 : Option Addr) (c1 c2 c3 : Nat) (w : World) (r1 : RI w A1 t.a.digits.length t.a.digits) (r2 : RI w A2 t.b.digits.length t.b.digits) (r3 : RI w A3 t.s.digits.length t.s.digits) (h1 : t.a.digits.length ≤ 16) (h2 : t.b.digits.length ≤ 16) (_h3 : t.s.digits.length ≤ 16) :
    Calls Tryd.prog 170 #[.agg #[.int .i64 t.a.base, .slice A1 t.a.digits.length c1, .int .i64 t.b.base, .slice A2 t.b.digits.length c2, .int .i64 t.s.base, .slice A3 t.s.digits.length c3, .int .i64 t.carry]] w fun e w' => e = .returned (.int .i64 (vplaces t)) ∧ Below w.heap.size w w' := by
  go_enter Tryd.func170, Tryd.ntmps170
  go_wp2_with fail
  obtain ⟨WW, hWW⟩ : ∃ W, W = w.alloc (.cells #[.int .i64 t.a.base, .slice A1 t.a.digits.length c1, .int .i64 t.b.base, .slice A2 t.b.digits.length c2, .int .i64 t.s.base, .slice A3 t.s.digits.length c3, .int .i64 t.carry] 95) := ⟨_, rfl⟩
  have hbw : Below w.heap.size w WW := by rw [hWW]; exact (Below.refl _ _).alloc (Nat.le_refl _) _
  have hT : TriC WW ⟨w.heap.size, 0, none⟩ t A1 c1 A2 c2 A3 c3 := by rw [hWW]; exact TriC.of_block (g := w.heap.size) (heap_alloc_new _ _) (r1.below (hWW ▸ hbw)) (r2.below (hWW ▸ hbw)) (r3.below (hWW ▸ hbw))
  have hlt : w.heap.size < WW.heap.size := by rw [hWW]; simp
  clear r1 r2 r3
  rw [← hWW]
  clear hWW
  obtain ⟨⟨g1, g2, g3, g4, g5, g6, g7⟩, r1, r2, r3⟩ := (show _ ∧ _ from hT)
  simp only [Nat.zero_add] at g1 g2 g3 g4 g5 g6 g7
  have x1 := cell_regrown g1
  have x2 := cell_regrown g2
  have x3 := cell_regrown g3
  have x4 := cell_regrown g4
  have x5 := cell_regrown g5
  have x6 := cell_regrown g6
  have x7 := cell_regrown g7
  refine wp_region_quiet_below (by kernel_rfl) (by kernel_rfl) ?_
  repeat (go_big_quiet_step ((go_at_call 75; exact quietB (fun W _ => width_any _ _ _ _ W))))
  all_goals
    refine wpQuiet_nil ?_
    intro W1 hw'
    have hB1 : Below WW.heap.size WW W1 := by
      obtain ⟨⟨dq, osq⟩, hw''⟩ := hw'
      rw [hw'']; exact below_regrown _ _ _
    clear hw'
    go_wp2
    all_goals
      go_ret
      exact ⟨ret_int (by unfold vplaces; omega), hbw.trans (hB1.mono hbw.size)⟩
theorem ok_bd {r : Reg} (h : r.ok = true) : 2 ≤ r.base ∧ r.base ≤ 16 ∧ r.digits.length ≤ 16 := by
  obtain ⟨⟨h1, h2⟩, ⟨-, h4⟩, -⟩ := vreg_iff.1 h
  exact ⟨h1, h2, by omega⟩
set_option maxRecDepth 100000 in
set_option maxHeartbeats 1600000 in
theorem ValidMachine_any (t : Tri) (A1 A2 A3 : Option Addr) (c1 c2 c3 : Nat) (w : World) (r1 : RI w A1 t.a.digits.length t.a.digits) (r2 : RI w A2 t.b.digits.length t.b.digits) (r3 : RI w A3 t.s.digits.length t.s.digits) (hs : SmallTri t) :
    Calls Tryd.prog 166 #[.agg #[.int .i64 t.a.base, .slice A1 t.a.digits.length c1, .int .i64 t.b.base, .slice A2 t.b.digits.length c2, .int .i64 t.s.base, .slice A3 t.s.digits.length c3, .int .i64 t.carry]] w fun e w' => e = .returned (.bool (vmach t)) ∧ Below w.heap.size w w' := by
  have HV := Lib.hid (show vmach t = (((t.a.ok && t.b.ok && t.s.ok) && ((t.a.base == t.b.base) && (t.s.base == t.b.base) && fullB t.b && fullB t.s)) && (decide (t.a.digits.length ≤ t.b.digits.length) && betB t.carry 0 (vplaces t - 1))) from rfl)
  obtain ⟨s1, s2, s3⟩ := hs
  go_enter Tryd.func166, Tryd.ntmps166
  go_wp2_with fail
  obtain ⟨WW, hWW⟩ : ∃ W, W = w.alloc (.cells #[.int .i64 t.a.base, .slice A1 t.a.digits.length c1, .int .i64 t.b.base, .slice A2 t.b.digits.length c2, .int .i64 t.s.base, .slice A3 t.s.digits.length c3, .int .i64 t.carry] 95) := ⟨_, rfl⟩
  have hbw : Below w.heap.size w WW := by rw [hWW]; exact (Below.refl _ _).alloc (Nat.le_refl _) _
  have hT : TriC WW ⟨w.heap.size, 0, none⟩ t A1 c1 A2 c2 A3 c3 := by rw [hWW]; exact TriC.of_block (g := w.heap.size) (heap_alloc_new _ _) (r1.below (hWW ▸ hbw)) (r2.below (hWW ▸ hbw)) (r3.below (hWW ▸ hbw))
  have hlt : w.heap.size < WW.heap.size := by rw [hWW]; simp
  clear r1 r2 r3
  rw [← hWW]
  clear hWW
  obtain ⟨⟨g1, g2, g3, g4, g5, g6, g7⟩, r1, r2, r3⟩ := (show _ ∧ _ from hT)
  simp only [Nat.zero_add] at g1 g2 g3 g4 g5 g6 g7
  rcases k1 : t.a.ok with _ | _
  · refine (calls_val (ValidRegister_any t.a.base A1 t.a.digits.length c1 t.a.digits _ r1 (by have := s1; unfold SmallReg at this; omega)) (congrArg Value.bool k1)).mono ?_; rintro e w1 ⟨rfl, hw1⟩
    replace hT := hT.below hlt hw1
    replace hbw := hbw.trans (hw1.mono hbw.size)
    replace hlt := Nat.lt_of_lt_of_le hlt hw1.size
    clear hw1 g1 g2 g3 g4 g5 g6 g7 r1 r2 r3
    obtain ⟨⟨g1, g2, g3, g4, g5, g6, g7⟩, r1, r2, r3⟩ := (show _ ∧ _ from hT)
    simp only [Nat.zero_add] at g1 g2 g3 g4 g5 g6 g7
    go_wp2
    go_ret
    exact ⟨ret_bool (by rw [HV.out, k1]; rfl), hbw⟩
  rcases k2 : t.b.ok with _ | _
  · refine (calls_val (ValidRegister_any t.a.base A1 t.a.digits.length c1 t.a.digits _ r1 (by have := s1; unfold SmallReg at this; omega)) (congrArg Value.bool k1)).mono ?_; rintro e w1 ⟨rfl, hw1⟩
    replace hT := hT.below hlt hw1
    replace hbw := hbw.trans (hw1.mono hbw.size)
    replace hlt := Nat.lt_of_lt_of_le hlt hw1.size
    clear hw1 g1 g2 g3 g4 g5 g6 g7 r1 r2 r3
    obtain ⟨⟨g1, g2, g3, g4, g5, g6, g7⟩, r1, r2, r3⟩ := (show _ ∧ _ from hT)
    simp only [Nat.zero_add] at g1 g2 g3 g4 g5 g6 g7
    go_wp2_with fail
    refine (calls_val (ValidRegister_any t.b.base A2 t.b.digits.length c2 t.b.digits _ r2 (by have := s2; unfold SmallReg at this; omega)) (congrArg Value.bool k2)).mono ?_; rintro e w2 ⟨rfl, hw2⟩
    replace hT := hT.below hlt hw2
    replace hbw := hbw.trans (hw2.mono hbw.size)
    replace hlt := Nat.lt_of_lt_of_le hlt hw2.size
    clear hw2 g1 g2 g3 g4 g5 g6 g7 r1 r2 r3
    obtain ⟨⟨g1, g2, g3, g4, g5, g6, g7⟩, r1, r2, r3⟩ := (show _ ∧ _ from hT)
    simp only [Nat.zero_add] at g1 g2 g3 g4 g5 g6 g7
    go_wp2
    go_ret
    exact ⟨ret_bool (by rw [HV.out, k1, k2]; rfl), hbw⟩
  rcases k3 : t.s.ok with _ | _
  · refine (calls_val (ValidRegister_any t.a.base A1 t.a.digits.length c1 t.a.digits _ r1 (by have := s1; unfold SmallReg at this; omega)) (congrArg Value.bool k1)).mono ?_; rintro e w1 ⟨rfl, hw1⟩
    replace hT := hT.below hlt hw1
    replace hbw := hbw.trans (hw1.mono hbw.size)
    replace hlt := Nat.lt_of_lt_of_le hlt hw1.size
    clear hw1 g1 g2 g3 g4 g5 g6 g7 r1 r2 r3
    obtain ⟨⟨g1, g2, g3, g4, g5, g6, g7⟩, r1, r2, r3⟩ := (show _ ∧ _ from hT)
    simp only [Nat.zero_add] at g1 g2 g3 g4 g5 g6 g7
    go_wp2_with fail
    refine (calls_val (ValidRegister_any t.b.base A2 t.b.digits.length c2 t.b.digits _ r2 (by have := s2; unfold SmallReg at this; omega)) (congrArg Value.bool k2)).mono ?_; rintro e w2 ⟨rfl, hw2⟩
    replace hT := hT.below hlt hw2
    replace hbw := hbw.trans (hw2.mono hbw.size)
    replace hlt := Nat.lt_of_lt_of_le hlt hw2.size
    clear hw2 g1 g2 g3 g4 g5 g6 g7 r1 r2 r3
    obtain ⟨⟨g1, g2, g3, g4, g5, g6, g7⟩, r1, r2, r3⟩ := (show _ ∧ _ from hT)
    simp only [Nat.zero_add] at g1 g2 g3 g4 g5 g6 g7
    go_wp2_with fail
    refine (calls_val (ValidRegister_any t.s.base A3 t.s.digits.length c3 t.s.digits _ r3 (by have := s3; unfold SmallReg at this; omega)) (congrArg Value.bool k3)).mono ?_; rintro e w3 ⟨rfl, hw3⟩
    replace hT := hT.below hlt hw3
    replace hbw := hbw.trans (hw3.mono hbw.size)
    replace hlt := Nat.lt_of_lt_of_le hlt hw3.size
    clear hw3 g1 g2 g3 g4 g5 g6 g7 r1 r2 r3
    obtain ⟨⟨g1, g2, g3, g4, g5, g6, g7⟩, r1, r2, r3⟩ := (show _ ∧ _ from hT)
    simp only [Nat.zero_add] at g1 g2 g3 g4 g5 g6 g7
    go_wp2
    go_ret
    exact ⟨ret_bool (by rw [HV.out, k1, k2, k3]; rfl), hbw⟩
  refine (calls_val (ValidRegister_any t.a.base A1 t.a.digits.length c1 t.a.digits _ r1 (by have := s1; unfold SmallReg at this; omega)) (congrArg Value.bool k1)).mono ?_; rintro e w1 ⟨rfl, hw1⟩
  replace hT := hT.below hlt hw1
  replace hbw := hbw.trans (hw1.mono hbw.size)
  replace hlt := Nat.lt_of_lt_of_le hlt hw1.size
  clear hw1 g1 g2 g3 g4 g5 g6 g7 r1 r2 r3
  obtain ⟨⟨g1, g2, g3, g4, g5, g6, g7⟩, r1, r2, r3⟩ := (show _ ∧ _ from hT)
  simp only [Nat.zero_add] at g1 g2 g3 g4 g5 g6 g7
  go_wp2_with fail
  refine (calls_val (ValidRegister_any t.b.base A2 t.b.digits.length c2 t.b.digits _ r2 (by have := s2; unfold SmallReg at this; omega)) (congrArg Value.bool k2)).mono ?_; rintro e w2 ⟨rfl, hw2⟩
  replace hT := hT.below hlt hw2
  replace hbw := hbw.trans (hw2.mono hbw.size)
  replace hlt := Nat.lt_of_lt_of_le hlt hw2.size
  clear hw2 g1 g2 g3 g4 g5 g6 g7 r1 r2 r3
  obtain ⟨⟨g1, g2, g3, g4, g5, g6, g7⟩, r1, r2, r3⟩ := (show _ ∧ _ from hT)
  simp only [Nat.zero_add] at g1 g2 g3 g4 g5 g6 g7
  go_wp2_with fail
  refine (calls_val (ValidRegister_any t.s.base A3 t.s.digits.length c3 t.s.digits _ r3 (by have := s3; unfold SmallReg at this; omega)) (congrArg Value.bool k3)).mono ?_; rintro e w3 ⟨rfl, hw3⟩
  replace hT := hT.below hlt hw3
  replace hbw := hbw.trans (hw3.mono hbw.size)
  replace hlt := Nat.lt_of_lt_of_le hlt hw3.size
  clear hw3 g1 g2 g3 g4 g5 g6 g7 r1 r2 r3
  obtain ⟨⟨g1, g2, g3, g4, g5, g6, g7⟩, r1, r2, r3⟩ := (show _ ∧ _ from hT)
  simp only [Nat.zero_add] at g1 g2 g3 g4 g5 g6 g7
  obtain ⟨p1, p2, p3⟩ := ok_bd k1
  obtain ⟨p4, p5, p6⟩ := ok_bd k2
  obtain ⟨p7, p8, p9⟩ := ok_bd k3
  have HV := Lib.hid (show vmach t = (((t.a.base == t.b.base) && (t.s.base == t.b.base) && fullB t.b && fullB t.s) && (decide (t.a.digits.length ≤ t.b.digits.length) && betB t.carry 0 (vplaces t - 1))) by rw [HV.out, k1, k2, k3]; simp)
  clear k1 k2 k3
  have z1 := Lib.hid (powC_zero t.b.base p4 t.b.digits.length)
  have z2 := Lib.hid (powC_zero t.s.base p7 t.s.digits.length)
  rcases k1 : (t.a.base == t.b.base) with _ | _
  · have i1 : (t.a.base != t.b.base) = true := by simp [bne, k1]
    have K1 := Lib.hid k1; clear k1
    go_wp2
    go_ret
    exact ⟨ret_bool (by rw [HV.out, K1.out]; rfl), hbw⟩
  have i1 : (t.a.base != t.b.base) = false := by simp [bne, k1]
  rcases k2 : (t.s.base == t.b.base) with _ | _
  · have i2 : (t.s.base != t.b.base) = true := by simp [bne, k2]
    have K1 := Lib.hid k1; clear k1
    have K2 := Lib.hid k2; clear k2
    go_wp2
    go_ret
    exact ⟨ret_bool (by rw [HV.out, K1.out, K2.out]; rfl), hbw⟩
  have i2 : (t.s.base != t.b.base) = false := by simp [bne, k2]
  have HV := Lib.hid (show vmach t = (fullB t.b && fullB t.s && (decide (t.a.digits.length ≤ t.b.digits.length) && betB t.carry 0 (vplaces t - 1))) by rw [HV.out, k1, k2]; simp)
  clear k1 k2
  rcases k3 : fullB t.b with _ | _
  · have i3 : (powC t.b.base t.b.digits.length == 0) = true := by rw [z1.out]; unfold fullB at k3; rw [k3]; rfl
    have K3 := Lib.hid k3; clear k3
    go_wp2_with fail
    refine (values_any t.b.base A2 t.b.digits.length c2 _ p4 p5 (by omega)).mono ?_; rintro e w4 ⟨rfl, hw4⟩
    replace hT := hT.below hlt hw4
    replace hbw := hbw.trans (hw4.mono hbw.size)
    replace hlt := Nat.lt_of_lt_of_le hlt hw4.size
    clear hw4 g1 g2 g3 g4 g5 g6 g7 r1 r2 r3
    obtain ⟨⟨g1, g2, g3, g4, g5, g6, g7⟩, r1, r2, r3⟩ := (show _ ∧ _ from hT)
    simp only [Nat.zero_add] at g1 g2 g3 g4 g5 g6 g7
    go_wp2
    go_ret
    exact ⟨ret_bool (by rw [HV.out, K3.out]; rfl), hbw⟩
  have i3 : (powC t.b.base t.b.digits.length == 0) = false := by rw [z1.out]; unfold fullB at k3; rw [k3]; rfl
  go_wp2_with fail
  refine (values_any t.b.base A2 t.b.digits.length c2 _ p4 p5 (by omega)).mono ?_; rintro e w4 ⟨rfl, hw4⟩
  replace hT := hT.below hlt hw4
  replace hbw := hbw.trans (hw4.mono hbw.size)
  replace hlt := Nat.lt_of_lt_of_le hlt hw4.size
  clear hw4 g1 g2 g3 g4 g5 g6 g7 r1 r2 r3
  obtain ⟨⟨g1, g2, g3, g4, g5, g6, g7⟩, r1, r2, r3⟩ := (show _ ∧ _ from hT)
  simp only [Nat.zero_add] at g1 g2 g3 g4 g5 g6 g7
  go_wp2_with fail
  refine (values_any t.s.base A3 t.s.digits.length c3 _ p7 p8 (by omega)).mono ?_; rintro e w5 ⟨rfl, hw5⟩
  replace hT := hT.below hlt hw5
  replace hbw := hbw.trans (hw5.mono hbw.size)
  replace hlt := Nat.lt_of_lt_of_le hlt hw5.size
  clear hw5 g1 g2 g3 g4 g5 g6 g7 r1 r2 r3
  obtain ⟨⟨g1, g2, g3, g4, g5, g6, g7⟩, r1, r2, r3⟩ := (show _ ∧ _ from hT)
  simp only [Nat.zero_add] at g1 g2 g3 g4 g5 g6 g7
  rcases k4 : fullB t.s with _ | _
  · have i4 : (powC t.s.base t.s.digits.length == 0) = true := by rw [z2.out]; unfold fullB at k4; rw [k4]; rfl
    have K3 := Lib.hid k3; clear k3
    have K4 := Lib.hid k4; clear k4
    go_wp2
    go_ret
    exact ⟨ret_bool (by rw [HV.out, K3.out, K4.out]; rfl), hbw⟩
  have i4 : (powC t.s.base t.s.digits.length == 0) = false := by rw [z2.out]; unfold fullB at k4; rw [k4]; rfl
  have HV := Lib.hid (show vmach t = (decide (t.a.digits.length ≤ t.b.digits.length) && betB t.carry 0 (vplaces t - 1)) by rw [HV.out, k3, k4]; simp)
  clear k3 k4
  have hvp : vplaces t ≤ 16 ∧ -16 ≤ vplaces t := by unfold vplaces; omega
  go_wp2_with fail
  have x1 := cell_regrown g1
  have x2 := cell_regrown g2
  have x3 := cell_regrown g3
  have x4 := cell_regrown g4
  have x5 := cell_regrown g5
  have x6 := cell_regrown g6
  have x7 := cell_regrown g7
  have KP := Lib.hid (fun (W : World) (hW : Below w5.heap.size w5 W) => places_any t A1 A2 A3 c1 c2 c3 W (r1.below hW) (r2.below hW) (r3.below hW) p3 p6 p9)
  by_cases k5 : t.a.digits.length ≤ t.b.digits.length
  · have i5 : (t.a.digits.length : Int) ≤ (t.b.digits.length : Int) := by omega
    have K5 := Lib.hid k5; clear k5
    refine wp_region_quiet_below (by kernel_rfl) (by kernel_rfl) ?_
    repeat (go_big_quiet_step ((first | (go_at_call 75; exact quietB (fun W _ => width_any _ _ _ _ W)) | (go_at_call 170; exact quietB KP.out) | (go_at_call 71; exact quietB (fun W _ => between_B _ _ _ W)))))
    refine wpQuiet_nil ?_
    intro W1 hw'
    have hB1 : Below w5.heap.size w5 W1 := by
      obtain ⟨⟨dq, osq⟩, hw''⟩ := hw'
      rw [hw'']; exact below_regrown _ _ _
    clear hw'
    go_wp2
    go_ret
    exact ⟨ret_bool (by rw [HV.out, decide_eq_true K5.out]; rfl), hbw.trans (hB1.mono hbw.size)⟩
  · have i5 : ¬ (t.a.digits.length : Int) ≤ (t.b.digits.length : Int) := by omega
    have K5 := Lib.hid k5; clear k5
    refine wp_region_quiet_below (by kernel_rfl) (by kernel_rfl) ?_
    repeat (go_big_quiet_step ((first | (go_at_call 75; exact quietB (fun W _ => width_any _ _ _ _ W)) | (go_at_call 170; exact quietB KP.out) | (go_at_call 71; exact quietB (fun W _ => between_B _ _ _ W)))))
    refine wpQuiet_nil ?_
    intro W1 hw'
    have hB1 : Below w5.heap.size w5 W1 := by
      obtain ⟨⟨dq, osq⟩, hw''⟩ := hw'
      rw [hw'']; exact below_regrown _ _ _
    clear hw'
    go_wp2
    go_ret
    exact ⟨ret_bool (by rw [HV.out, decide_eq_false K5.out]; rfl), hbw.trans (hB1.mono hbw.size)⟩
end Go.Proofs.YtgpmngcemnnpmaaDoor

namespace Go.Proofs.YtgpmngcemnnpmaaDoor
open Go.RowKit Go.Sort
set_option maxRecDepth 100000 in
set_option maxHeartbeats 1600000 in
theorem withValue_any (b : Int) (A : Option Addr) (n c : Nat) (v : Int) (w : World) (hb : 2 ≤ b) (hb2 : b ≤ 16) (hk : n ≤ 1000000) (h0 : 0 ≤ v) (h1 : v ≤ 9223372036854775807) :
    Calls Tryd.prog 171 #[.agg #[.int .i64 b, .slice A n c], .int .i64 v] w fun e w' => ∃ A' c', e = .returned (.agg #[.int .i64 b, .slice A' (digD b n v).length c']) ∧ Kn w [rowI A' c' (digD b n v)] w' := by
  have KR := Lib.hid (fun W => registerOf_any b n v W hb hb2 hk h0 h1)
  obtain ⟨ds, hds⟩ : ∃ ds, digD b n v = ds := ⟨_, rfl⟩
  obtain ⟨ok, hok⟩ : ∃ ok, (restD b n v == 0) = ok := ⟨_, rfl⟩
  have KR := KR.out
  rw [hds, hok] at KR
  have KR := Lib.hid KR
  rw [hds]
  clear hds hok
  go_enter Tryd.func171, Tryd.ntmps171
  go_wp2_with (first | (refine wpList.kn ((Kn.nil w).al [.int .i64 b, .slice A n c] 41) ?_; intro w1 hK1) | (refine wpList.kn (hK1.al [.int .i64 0, .slice none 0 0] 41) ?_; intro w2 hK2; obtain ⟨a1, a2, a3, d1, d2, d3, -⟩ := hK2.cells))
  have hK2 := hK1.al [.int .i64 0, .slice none 0 0] 41
  generalize w1.alloc (.cells #[.int .i64 0, .slice none 0 0] 41) = w2 at hK2 ⊢
  obtain ⟨a1, a2, a3, d1, d2, d3, -⟩ := hK2.cells
  have KW := Lib.hid (fun W => width_any b A n c W)
  go_cut [5] (fun pp wx => ∃ (g : Nat) (A' : Option Addr) (c' : Nat), pp = .pointer (some ⟨g, 0, none⟩) ∧ Kn w [.blk g [.int .i64 b, .slice A' ds.length c'] 41, rowI A' c' ds, .blk w1.heap.size [.int .i64 0, .slice none 0 0] 41, .blk w.heap.size [.int .i64 b, .slice A n c] 41] wx)
  case first =>
    go_region_law (first
      | (go_simp; go_at_call 75; refine (KW.out _).mono ?_; rintro e w3 ⟨rfl, hw3⟩; first | (have hK3 := hK2.drew.keep hw3; obtain ⟨p1, q1, s1, p2, q2, s2, -⟩ := hK3.cells) | (have hK3 := (hK2.al [.int .i64 0, .slice none 0 0] 41).drew.keep hw3; obtain ⟨p1, q1, s1, p2, q2, s2, p3, q3, s3, -⟩ := hK3.cells))
      | (go_simp; go_at_call 178; refine (KR.out _).mono ?_; rintro e w4 ⟨A', c', rfl, hK⟩; first | (have hK4 := hK3.join hK; obtain ⟨g1, f1, l1, g2, f2, l2, g3, f3, l3, -⟩ := hK4.cells) | (have hK4 := hK3.join hK; obtain ⟨g1, f1, l1, g2, f2, l2, -⟩ := hK4.cells) | (have hK4 := (hK3.al [.int .i64 0, .slice none 0 0] 41).join hK; obtain ⟨g1, f1, l1, g2, f2, l2, g3, f3, l3, -⟩ := hK4.cells)))
    all_goals
      go_wp2_with fail
      go_meet
      first
        | exact ⟨_, _, _, rfl, (hK4.sw1.st 0 _).st 1 _⟩
        | exact ⟨_, _, _, rfl, hK4.al _ _⟩
  case rest =>
    obtain ⟨g, A', c', rfl, hK⟩ := hcut
    clear a1 a2 a3 d1 d2 d3 hK1 hK2
    obtain ⟨a1, a2, a3, d1, d2, d3, -⟩ := hK.cells
    go_wp2_with fail
    refine bodyPost_ret (v := .agg #[.int .i64 b, .slice A' ds.length c']) (by simp [results, Tryd.results171, go_sem, d1]) rfl ⟨A', c', rfl, ?_⟩
    exact ((hK.sw2.st 0 _).st 1 _).drop.drop.drop1
set_option maxRecDepth 100000 in
set_option maxHeartbeats 1600000 in
theorem copiedR_any (b : Int) (A : Option Addr) (n c : Nat) (ds : List Int) (w : World) (hr : RI w A n ds) (h0 : 0 < n) (hm : n ≤ 1000000) :
    Calls Tryd.prog 177 #[.agg #[.int .i64 b, .slice A n c]] w fun e w' => ∃ A' c', e = .returned (.agg #[.int .i64 b, .slice A' ds.length c']) ∧ Kn w [rowI A' c' ds] w' := by
  have KC := Lib.hid (fun W (hW : Below w.heap.size w W) => copyNumbers_any A n c ds W (hr.below hW) h0 hm)
  have hl := hr.1
  subst hl
  clear hr
  go_enter Tryd.func177, Tryd.ntmps177
  go_wp2_with (first | (refine wpList.kn ((Kn.nil w).al [.int .i64 b, .slice A ds.length c] 41) ?_; intro w1 hK1) | (refine wpList.kn (hK1.al [.int .i64 0, .slice none 0 0] 41) ?_; intro w2 hK2; obtain ⟨a1, a2, a3, d1, d2, d3, -⟩ := hK2.cells))
  have hK2 := hK1.al [.int .i64 0, .slice none 0 0] 41
  generalize w1.alloc (.cells #[.int .i64 0, .slice none 0 0] 41) = w2 at hK2 ⊢
  obtain ⟨a1, a2, a3, d1, d2, d3, -⟩ := hK2.cells
  go_region_law (go_simp; go_at_call 110; refine (KC.out _ hK2.drew.below).mono ?_; rintro e w4 ⟨A', c', rfl, hK⟩; have hK4 := hK2.drew.join hK; obtain ⟨g1, f1, l1, g2, f2, l2, -⟩ := hK4.cells)
  all_goals
    go_wp2_with fail
    refine bodyPost_ret (v := .agg #[.int .i64 b, .slice A' ds.length c']) (by simp [results, Tryd.results177, go_sem, g1]) rfl ⟨A', c', rfl, ?_⟩
    exact ((hK4.sw1.st 0 _).st 1 _).drop.drop1
end Go.Proofs.YtgpmngcemnnpmaaDoor

namespace Go.Proofs.YtgpmngcemnnpmaaDoor
open Go.RowKit Go.Sort
theorem box7 {w0 w : World} {m : List Ent} {g : Nat} {v0 v1 v2 v3 v4 v5 v6 : Value} {T : TypeId} (h : Kn w0 (.blk g [v0, v1, v2, v3, v4, v5, v6] T :: m) w) :
    w.cell? ⟨g, 0, none⟩ = some v0 ∧ w.cell? ⟨g, 1, none⟩ = some v1 ∧ w.cell? ⟨g, 2, none⟩ = some v2 ∧ w.cell? ⟨g, 3, none⟩ = some v3 ∧ w.cell? ⟨g, 4, none⟩ = some v4 ∧ w.cell? ⟨g, 5, none⟩ = some v5 ∧ w.cell? ⟨g, 6, none⟩ = some v6 :=
  ⟨h.blkAt.1 0, h.blkAt.1 1, h.blkAt.1 2, h.blkAt.1 3, h.blkAt.1 4, h.blkAt.1 5, h.blkAt.1 6⟩
/-- the machine's own numbers -/
def MRows (t : Tri) (A1 : Option Addr) (c1 : Nat) (A2 : Option Addr) (c2 : Nat) (A3 : Option Addr) (c3 : Nat) : List Ent := [rowI A3 c3 t.s.digits, rowI A2 c2 t.b.digits, rowI A1 c1 t.a.digits]
structure Sized (t : Tri) : Prop where
  a0 : 0 < t.a.digits.length
  b0 : 0 < t.b.digits.length
  s0 : 0 < t.s.digits.length
  a : t.a.digits.length ≤ 16
  b : t.b.digits.length ≤ 16
  s : t.s.digits.length ≤ 16
set_option maxRecDepth 100000 in
set_option maxHeartbeats 1600000 in
theorem copiedM_any (t : Tri) (A1 A2 A3 : Option Addr) (c1 c2 c3 : Nat) (w : World) (r1 : RI w A1 t.a.digits.length t.a.digits) (r2 : RI w A2 t.b.digits.length t.b.digits) (r3 : RI w A3 t.s.digits.length t.s.digits) (hz : Sized t) :
    Calls Tryd.prog 167 #[.agg #[.int .i64 t.a.base, .slice A1 t.a.digits.length c1, .int .i64 t.b.base, .slice A2 t.b.digits.length c2, .int .i64 t.s.base, .slice A3 t.s.digits.length c3, .int .i64 t.carry]] w fun e w' => ∃ A1 c1 A2 c2 A3 c3, e = .returned (.agg #[.int .i64 t.a.base, .slice A1 t.a.digits.length c1, .int .i64 t.b.base, .slice A2 t.b.digits.length c2, .int .i64 t.s.base, .slice A3 t.s.digits.length c3, .int .i64 t.carry]) ∧ Kn w [rowI A3 c3 t.s.digits, rowI A2 c2 t.b.digits, rowI A1 c1 t.a.digits] w' := by
  have K1 := Lib.hid (fun W (hW : Below w.heap.size w W) => copiedR_any t.a.base A1 t.a.digits.length c1 t.a.digits W (r1.below hW) hz.a0 (by have := hz.a; omega))
  have K2 := Lib.hid (fun W (hW : Below w.heap.size w W) => copiedR_any t.b.base A2 t.b.digits.length c2 t.b.digits W (r2.below hW) hz.b0 (by have := hz.b; omega))
  have K3 := Lib.hid (fun W (hW : Below w.heap.size w W) => copiedR_any t.s.base A3 t.s.digits.length c3 t.s.digits W (r3.below hW) hz.s0 (by have := hz.s; omega))
  clear r1 r2 r3 hz
  go_enter Tryd.func167, Tryd.ntmps167
  go_wp2_with (first | (refine wpList.kn ((Kn.nil w).al [.int .i64 t.a.base, .slice A1 t.a.digits.length c1, .int .i64 t.b.base, .slice A2 t.b.digits.length c2, .int .i64 t.s.base, .slice A3 t.s.digits.length c3, .int .i64 t.carry] 95) ?_; intro w1 hK1))
  have hK2 := hK1.al [.int .i64 0, .slice none 0 0, .int .i64 0, .slice none 0 0, .int .i64 0, .slice none 0 0, .int .i64 0] 95
  generalize w1.alloc (.cells #[.int .i64 0, .slice none 0 0, .int .i64 0, .slice none 0 0, .int .i64 0, .slice none 0 0, .int .i64 0] 95) = w2 at hK2 ⊢
  have HG := Lib.hid (box7 hK2.drew.drop)
  go_region_held3 (fun W => W.cell? ⟨w.heap.size, 0, none⟩ = some (.int .i64 t.a.base) ∧ W.cell? ⟨w.heap.size, 1, none⟩ = some (.slice A1 t.a.digits.length c1) ∧ W.cell? ⟨w.heap.size, 2, none⟩ = some (.int .i64 t.b.base) ∧ W.cell? ⟨w.heap.size, 3, none⟩ = some (.slice A2 t.b.digits.length c2) ∧ W.cell? ⟨w.heap.size, 4, none⟩ = some (.int .i64 t.s.base) ∧ W.cell? ⟨w.heap.size, 5, none⟩ = some (.slice A3 t.s.digits.length c3) ∧ W.cell? ⟨w.heap.size, 6, none⟩ = some (.int .i64 t.carry))
    (first | with_reducible exact HG.out | with_reducible exact HG2.out | exact HG.out) (first
    | (go_at_call 177; with_reducible refine (K1.out _ hK2.drew.below).mono ?_; rintro e w4 ⟨B1, e1, rfl, hK⟩; have hK4 := hK2.drew.join hK; clear HG; have HG := Lib.hid (box7 hK4.drop.drop))
    | (go_at_call 177; with_reducible refine (K2.out _ hK4.below).mono ?_; rintro e w5 ⟨B2, e2, rfl, hK⟩; have hK5 := hK4.join hK; clear HG; have HG := Lib.hid (box7 hK5.drop.drop.drop))
    | (go_at_call 177; with_reducible refine (K3.out _ hK5.below).mono ?_; rintro e w6 ⟨B3, e3, rfl, hK⟩; have hK6 := hK5.join hK; clear HG; have HG := Lib.hid (box7 hK6.drop.drop.drop.drop); have hK7 := ((((((hK6.sw3.st 0 (.int .i64 t.a.base)).st 1 (.slice B1 (t.a.digits).length e1)).st 2 (.int .i64 t.b.base)).st 3 (.slice B2 (t.b.digits).length e2)).st 4 (.int .i64 t.s.base)).st 5 (.slice B3 (t.s.digits).length e3)).st 6 (.int .i64 t.carry); have HG2 := Lib.hid (box7 hK7.drop.drop.drop.drop); obtain ⟨g1, f1, l1⟩ := hK6.drop.drop.drop.blkAt))
  all_goals
    go_wp2_with fail
    refine bodyPost_ret (v := .agg #[.int .i64 t.a.base, .slice B1 (t.a.digits).length e1, .int .i64 t.b.base, .slice B2 (t.b.digits).length e2, .int .i64 t.s.base, .slice B3 (t.s.digits).length e3, .int .i64 t.carry]) (by simp [results, Tryd.results167, go_sem, g1]) rfl ⟨B1, e1, B2, e2, B3, e3, rfl, ?_⟩
    exact hK7.drop.drop3
/-- a machine on which everything is 0 -/
def clrT (t : Tri) : Tri := ⟨⟨t.a.base, digD t.a.base t.a.digits.length 0⟩, ⟨t.b.base, digD t.b.base t.b.digits.length 0⟩, ⟨t.s.base, digD t.s.base t.s.digits.length 0⟩, 0⟩
end Go.Proofs.YtgpmngcemnnpmaaDoor

namespace Go.Proofs.YtgpmngcemnnpmaaDoor
open Go.RowKit
section
variable {w0 w w' : World} {m : List Ent} {e : Ent}
theorem Kn.get (h : Kn w0 m w) (i : Nat) {e : Ent} (hi : m[i]? = some e) : e.holds w := h.ents e (List.mem_of_getElem? hi)
/-- a thing of the list, by its place, comes to the front -/
theorem Kn.front (h : Kn w0 m w) (i : Nat) {e : Ent} (hi : m[i]? = some e) : Kn w0 (e :: m.eraseIdx i) w := by
  refine h.perm ?_
  induction m generalizing i with
  | nil => simp at hi
  | cons a m ih =>
    cases i with
    | zero => simp at hi; subst hi; simp
    | succ i =>
      simp only [List.getElem?_cons_succ] at hi
      simp only [List.eraseIdx_cons_succ]
      have hp : m.Perm (e :: m.eraseIdx i) := by
        clear ih h
        induction m generalizing i with
        | nil => simp at hi
        | cons b m ih =>
          cases i with
          | zero => simp at hi; subst hi; simp
          | succ i =>
            simp only [List.getElem?_cons_succ] at hi
            exact ((ih i hi).cons b).trans (.swap _ _ _)
      exact (hp.cons a).trans (.swap _ _ _)
/-- some things are forgotten -/
theorem Kn.only (h : Kn w0 m w) {m' : List Ent} (hs : m'.Sublist m) : Kn w0 m' w :=
  ⟨h.below, fun x hx => h.ents x (hs.subset hx), fun x hx => h.own x (hs.subset hx), h.apart.sublist hs⟩
/-- blocks of different places are different ones -/
theorem Kn.ne (h : Kn w0 m w) (i j : Nat) {g g' : Nat} {l l' : List Value} {T T' : TypeId} (hi : m[i]? = some (.blk g l T)) (hj : m[j]? = some (.blk g' l' T')) (hne : i ≠ j) : g ≠ g' := by
  rintro rfl
  obtain ⟨hi1, hi2⟩ := List.getElem?_eq_some_iff.1 hi
  obtain ⟨hj1, hj2⟩ := List.getElem?_eq_some_iff.1 hj
  have hp := List.pairwise_iff_getElem.1 h.apart
  rcases Nat.lt_or_gt_of_ne hne with h3 | h3
  · exact hp i j hi1 hj1 h3 g (by rw [hi2]; exact rfl) (by rw [hj2]; exact rfl)
  · exact hp j i hj1 hi1 h3 g (by rw [hj2]; exact rfl) (by rw [hi2]; exact rfl)
/-- some things, by their places and in a new order, and all behind the first n -/
theorem Kn.sel (h : Kn w0 m w) (is : List Nat) (n : Nat) (h1 : is.Nodup) (h2 : ∀ i ∈ is, i < n) : Kn w0 (is.filterMap (fun i => m[i]?) ++ m.drop n) w := by
  have hsub : ∀ x ∈ is.filterMap (fun i => m[i]?) ++ m.drop n, x ∈ m := fun x hx => by
    rcases List.mem_append.1 hx with hx | hx
    · obtain ⟨i, -, hi⟩ := List.mem_filterMap.1 hx
      exact List.mem_of_getElem? hi
    · exact List.mem_of_mem_drop hx
  have hR : ∀ (i j : Nat) (a b : Ent), m[i]? = some a → m[j]? = some b → i ≠ j → ∀ k, a.fp k → ¬ b.fp k := fun i j a b hi hj hne k h1 h2 => by
    obtain ⟨hi1, hi2⟩ := List.getElem?_eq_some_iff.1 hi
    obtain ⟨hj1, hj2⟩ := List.getElem?_eq_some_iff.1 hj
    have hp := List.pairwise_iff_getElem.1 h.apart
    rcases Nat.lt_or_gt_of_ne hne with h3 | h3
    · exact hp i j hi1 hj1 h3 k (by rw [hi2]; exact h1) (by rw [hj2]; exact h2)
    · exact hp j i hj1 hi1 h3 k (by rw [hj2]; exact h2) (by rw [hi2]; exact h1)
  refine ⟨h.below, fun x hx => h.ents x (hsub x hx), fun x hx => h.own x (hsub x hx), List.pairwise_append.2 ⟨?_, h.apart.sublist (List.drop_sublist _ _), fun a ha b hb => ?_⟩⟩
  · refine List.pairwise_filterMap.2 (h1.imp ?_)
    intro i j hne a ha b hb
    exact hR i j a b ha hb hne
  · obtain ⟨i, hi, hia⟩ := List.mem_filterMap.1 ha
    obtain ⟨j, hj⟩ := List.getElem?_of_mem hb
    rw [List.getElem?_drop] at hj
    exact hR i (n + j) a b hia hj (by have := h2 i hi; omega)
/-- a store into a row that is owned -/
theorem Kn.rowSt {g c n size : Nat} {t : TypeId} {xs : List Value} (h : Kn w0 (.row (.slice (some ⟨g, 0, none⟩) n c) t size n xs :: m) w) (j : Nat) (v : Value) :
    Kn w0 (.row (.slice (some ⟨g, 0, none⟩) n c) t size n (xs.set j v) :: m) (w.setCell ⟨g, j, none⟩ v) := by
  refine h.upd ⟨rfl, rfl, rfl, by simp [World.setCell], fun k _ hk => Below.heap_setCell _ _ _ _ (fun e => hk (by subst e; rfl))⟩ ?_ (fun k hk => .inl hk)
  have h0 : w.ownsRow 0 t size (.slice (some ⟨g, 0, none⟩) n c) n xs := h.at0
  rcases h0.2 with ⟨h1, h2⟩ | ⟨g', cap, cur, hv, hb, hg, hn, hc, hs, ht⟩
  · cases h1
  injection hv with hv hv2 hv3
  injection hv with hv
  injection hv with hv hv4
  subst hv; subst hv3
  refine ⟨by rw [List.length_set]; exact h0.1, .inr ⟨g, c, cur.setIfInBounds j v, rfl, hb, ?_, hn, hc, by simpa using hs, ?_⟩⟩
  · show (w.setCell ⟨g, j, none⟩ v).heap[g]? = some (.cells (cur.setIfInBounds j v) t (0, 0))
    simp [World.setCell, Array.getElem?_modify, hg]
  · rw [Array.toList_setIfInBounds, List.take_set, ht]
theorem Kn.rowCell {g c n size : Nat} {t : TypeId} {xs : List Value} (h : Kn w0 (.row (.slice (some ⟨g, 0, none⟩) n c) t size n xs :: m) w) {j : Nat} {u : Value} (hu : xs[j]? = some u) :
    w.cell? ⟨g, j, none⟩ = some u ∧ w.frozen? ⟨g, j, none⟩ = false := by
  have h0 : w.ownsRow 0 t size (.slice (some ⟨g, 0, none⟩) n c) n xs := h.at0
  refine ⟨by have := h0.cells (g := g) rfl j u hu; rwa [add_zero_block] at this, ?_⟩
  rcases h0.2 with ⟨h1, h2⟩ | ⟨g', cap, cur, hv, hb, hg, -⟩
  · cases h1
  injection hv with hv hv2 hv3
  injection hv with hv
  injection hv with hv hv4
  subst hv
  simp [World.frozen?, hg]
theorem Kn.rowForm {v : Value} {n size : Nat} {t : TypeId} {xs : List Value} (h : Kn w0 (.row v t size n xs :: m) w) (hn : 0 < n) : ∃ g c, v = .slice (some ⟨g, 0, none⟩) n c := by
  have h0 : w.ownsRow 0 t size v n xs := h.at0
  rcases h0.2 with ⟨h1, h2⟩ | ⟨g', cap, cur, hv, -⟩
  · omega
  · exact ⟨_, _, hv⟩
end
theorem bodyPost.kn {P : Program} {f : Func} {R : Ending → World → Prop} {x : Exit} {a : Act} {w0 w : World} {m : List Ent} (h : Kn w0 m w) (k : ∀ W, Kn w0 m W → bodyPost P f R x a W) : bodyPost P f R x a w := k w h
theorem Code.wp.kn {P : Program} {c : Code} {Q : Exit → Act → World → Prop} {a : Act} {w0 w : World} {m : List Ent} (h : Kn w0 m w) (k : ∀ W, Kn w0 m W → c.wp P Q a W) : c.wp P Q a w := k w h
/-- a store into numbers that are owned -/
theorem Kn.setI {w0 w : World} {m : List Ent} {g c : Nat} {ds : List Int} (h : Kn w0 (rowI (some ⟨g, 0, none⟩) c ds :: m) w) (j : Nat) (v : Int) :
    Kn w0 (rowI (some ⟨g, 0, none⟩) c (ds.set j v) :: m) (w.setCell ⟨g, j, none⟩ (.int .i64 v)) := by
  have h1 := Kn.rowSt h j (.int .i64 v)
  unfold rowI
  rw [List.length_set, List.map_set]
  exact h1
theorem Kn.cellIs {w0 w : World} {m : List Ent} {g : Nat} {cs : List Value} {T : TypeId} (h : Kn w0 (.blk g cs T :: m) w) (j : Nat) (v : Value) (hj : cs[j]? = some v) : w.cell? ⟨g, j, none⟩ = some v := (h.blkAt.1 j).trans hj
theorem box7' {w0 w : World} {m : List Ent} {g : Nat} {v0 v1 v2 v3 v4 v5 v6 : Value} {l : List Value} {T : TypeId} (h : Kn w0 (.blk g (v0 :: v1 :: v2 :: v3 :: v4 :: v5 :: v6 :: l) T :: m) w) :
    w.cell? ⟨g, 0, none⟩ = some v0 ∧ w.cell? ⟨g, 1, none⟩ = some v1 ∧ w.cell? ⟨g, 2, none⟩ = some v2 ∧ w.cell? ⟨g, 3, none⟩ = some v3 ∧ w.cell? ⟨g, 4, none⟩ = some v4 ∧ w.cell? ⟨g, 5, none⟩ = some v5 ∧ w.cell? ⟨g, 6, none⟩ = some v6 :=
  ⟨h.blkAt.1 0, h.blkAt.1 1, h.blkAt.1 2, h.blkAt.1 3, h.blkAt.1 4, h.blkAt.1 5, h.blkAt.1 6⟩
theorem box7at {w0 w : World} {m : List Ent} {g : Nat} {v0 v1 v2 v3 v4 v5 v6 : Value} {T : TypeId} (h : Kn w0 m w) (i : Nat) (hi : m[i]? = some (.blk g [v0, v1, v2, v3, v4, v5, v6] T)) :
    w.cell? ⟨g, 0, none⟩ = some v0 ∧ w.cell? ⟨g, 1, none⟩ = some v1 ∧ w.cell? ⟨g, 2, none⟩ = some v2 ∧ w.cell? ⟨g, 3, none⟩ = some v3 ∧ w.cell? ⟨g, 4, none⟩ = some v4 ∧ w.cell? ⟨g, 5, none⟩ = some v5 ∧ w.cell? ⟨g, 6, none⟩ = some v6 := box7' (h.front i hi)
end Go.Proofs.YtgpmngcemnnpmaaDoor

namespace Go.Proofs.YtgpmngcemnnpmaaDoor
open Go.RowKit Go.Sort
theorem box2 {w0 w : World} {m : List Ent} {g : Nat} {v0 v1 : Value} {l : List Value} {T : TypeId} (h : Kn w0 (.blk g (v0 :: v1 :: l) T :: m) w) : w.cell? ⟨g, 0, none⟩ = some v0 ∧ w.cell? ⟨g, 1, none⟩ = some v1 :=
  ⟨h.blkAt.1 0, h.blkAt.1 1⟩
set_option maxRecDepth 100000 in
set_option maxHeartbeats 1600000 in
theorem withSetting_any (t : Tri) (A1 A2 A3 : Option Addr) (c1 c2 c3 : Nat) (v : Int) (w : World) (r1 : RI w A1 t.a.digits.length t.a.digits) (r2 : RI w A2 t.b.digits.length t.b.digits) (r3 : RI w A3 t.s.digits.length t.s.digits) (hz : Sized t)
    (hb : 2 ≤ t.a.base) (hb2 : t.a.base ≤ 16) (h0 : 0 ≤ v) (h1 : v ≤ 9223372036854775807) :
    Calls Tryd.prog 172 #[.agg #[.int .i64 t.a.base, .slice A1 t.a.digits.length c1, .int .i64 t.b.base, .slice A2 t.b.digits.length c2, .int .i64 t.s.base, .slice A3 t.s.digits.length c3, .int .i64 t.carry], .int .i64 v] w fun e w' => ∃ A1 c1 A2 c2 A3 c3, e = .returned (.tuple #[.agg #[.int .i64 t.a.base, .slice A1 (digD t.a.base t.a.digits.length v).length c1, .int .i64 t.b.base, .slice A2 t.b.digits.length c2, .int .i64 t.s.base, .slice A3 t.s.digits.length c3, .int .i64 t.carry], .bool (restD t.a.base t.a.digits.length v == 0)]) ∧
      Kn w [rowI A3 c3 t.s.digits, rowI A2 c2 t.b.digits, rowI A1 c1 (digD t.a.base t.a.digits.length v)] w' := by
  have KR := (fun W => registerOf_any t.a.base t.a.digits.length v W hb hb2 (by have := hz.a; omega) h0 h1)
  have KC := Lib.hid (fun W (hW : Below w.heap.size w W) => copiedM_any t A1 A2 A3 c1 c2 c3 W (r1.below hW) (r2.below hW) (r3.below hW) hz)
  have KW := Lib.hid (fun W => width_any t.a.base A1 t.a.digits.length c1 W)
  obtain ⟨ds, hds⟩ : ∃ ds, digD t.a.base t.a.digits.length v = ds := ⟨_, rfl⟩
  obtain ⟨ok, hok⟩ : ∃ ok, (restD t.a.base t.a.digits.length v == 0) = ok := ⟨_, rfl⟩
  rw [hds, hok] at KR
  rw [hds, hok]
  have KR := Lib.hid KR
  clear hds hok r1 r2 r3 hz hb hb2 h0 h1
  go_enter Tryd.func172, Tryd.ntmps172
  go_wp2_with (first | (refine wpList.kn ((Kn.nil w).al [.int .i64 t.a.base, .slice A1 t.a.digits.length c1, .int .i64 t.b.base, .slice A2 t.b.digits.length c2, .int .i64 t.s.base, .slice A3 t.s.digits.length c3, .int .i64 t.carry] 95) ?_; intro w1 hK1))
  have hK2 := hK1.al [.int .i64 0, .slice none 0 0, .int .i64 0, .slice none 0 0, .int .i64 0, .slice none 0 0, .int .i64 0] 95
  generalize w1.alloc (.cells #[.int .i64 0, .slice none 0 0, .int .i64 0, .slice none 0 0, .int .i64 0, .slice none 0 0, .int .i64 0] 95) = w2 at hK2 ⊢
  have HG := Lib.hid (box2 hK2.drew.drop)
  have HA := Lib.hid (box2 (hK2.drew.al [.int .i64 0, .slice none 0 0] 41).drop.drop)
  have HS := HG
  go_cut [6, 7] (fun pp oo wx => ∃ (g : Nat) (A' : Option Addr) (c' : Nat), pp = .pointer (some ⟨g, 0, none⟩) ∧ oo = .bool ok ∧ Kn w [.blk g [.int .i64 t.a.base, .slice A' ds.length c'] 41, rowI A' c' ds, .blk w1.heap.size [.int .i64 0, .slice none 0 0, .int .i64 0, .slice none 0 0, .int .i64 0, .slice none 0 0, .int .i64 0] 95, .blk w.heap.size [.int .i64 t.a.base, .slice A1 t.a.digits.length c1, .int .i64 t.b.base, .slice A2 t.b.digits.length c2, .int .i64 t.s.base, .slice A3 t.s.digits.length c3, .int .i64 t.carry] 95] wx)
  case first =>
    go_region_held3 (fun W => W.cell? ⟨w.heap.size, 0, none⟩ = some (.int .i64 t.a.base) ∧ W.cell? ⟨w.heap.size, 1, none⟩ = some (.slice A1 t.a.digits.length c1))
      (first | with_reducible exact HG.out | with_reducible exact HA.out | with_reducible exact HS.out | exact HG.out | exact HA.out | exact HS.out) (first
      | (go_at_call 75; with_reducible refine (KW.out _).mono ?_; rintro e w3 ⟨rfl, hw3⟩; first | (have hK3 := hK2.drew.keep hw3; clear HG HA; have HG := Lib.hid (box2 hK3.drop); have HA := Lib.hid (box2 (hK3.al [.int .i64 0, .slice none 0 0] 41).drop.drop)) | (have hK3 := (hK2.al [.int .i64 0, .slice none 0 0] 41).drew.keep hw3; clear HG; have HG := Lib.hid (box2 hK3.drop.drop)))
      | (go_at_call 178; with_reducible refine (KR.out _).mono ?_; rintro e w4 ⟨A', c', rfl, hK⟩; clear HG HA; first
        | (have hK4 := hK3.join hK; have HG := Lib.hid (box2 (v0 := .int .i64 t.a.base) hK4.drop.drop.drop); obtain ⟨g1, f1, l1⟩ := hK4.drop.blkAt; have hK5 := (hK4.sw1.st 0 (.int .i64 t.a.base)).st 1 (.slice A' ds.length c'); have HS := Lib.hid (box2 hK5.drop.drop.drop); have HA := HG)
        | (have hK4 := (hK3.al [.int .i64 0, .slice none 0 0] 41).join hK; have HG := Lib.hid (box2 (v0 := .int .i64 t.a.base) hK4.drop.drop.drop); obtain ⟨g1, f1, l1⟩ := hK4.drop.blkAt; have hK5 := (hK4.sw1.st 0 (.int .i64 t.a.base)).st 1 (.slice A' ds.length c'); have HS := Lib.hid (box2 hK5.drop.drop.drop); have HA := HG)
        | (have hK4 := hK3.join hK; have HG := Lib.hid (box2 hK4.drop.drop); have HA := Lib.hid (box2 (hK4.al [.int .i64 0, .slice none 0 0] 41).drop.drop.drop); have hK5 := hK4.al [.int .i64 t.a.base, .slice A' ds.length c'] 41; have HS := Lib.hid (box2 hK5.drop.drop.drop))))
    all_goals
      go_wp2_with fail
      go_meet
      exact ⟨_, _, _, rfl, rfl, hK5⟩
  case rest =>
    obtain ⟨g, B1, e1, rfl, rfl, hK⟩ := hcut
    clear HG HA HS hK1 hK2 KR KW
    obtain ⟨a1, a2, a3, d1, d2, d3, g1, f1, l1, -⟩ := hK.cells
    go_wp2_with fail
    with_reducible refine (KC.out _ hK.below).mono ?_; rintro e w5 ⟨A4, e4, A5, e5, A6, e6, rfl, hKC⟩
    have hK5 := hK.join hKC
    clear a1 a2 a3 d1 d2 d3 g1 f1 l1 hK hKC
    obtain ⟨a1, a2, a3, d1, d2, d3, g1, f1, l1, -⟩ := hK5.cells
    go_wp2_with fail
    refine bodyPost.kn (((((((((hK5.sw5.st 0 _).st 1 _).st 2 _).st 3 _).st 4 _).st 5 _).st 6 _).al_ _)) ?_; intro w6 hK6
    clear a1 a2 a3 d1 d2 d3 g1 f1 l1
    obtain ⟨a1, a2, a3, -⟩ := hK6.cells
    refine bodyPost_ret (v := .tuple #[.agg #[.int .i64 t.a.base, .slice B1 ds.length e1, .int .i64 t.b.base, .slice A5 t.b.digits.length e5, .int .i64 t.s.base, .slice A6 t.s.digits.length e6, .int .i64 t.carry], .bool ok]) (by simp [results, Tryd.results172, go_sem, a1]) rfl ⟨B1, e1, A5, e5, A6, e6, rfl, ?_⟩
    exact hK6.drop.drop2.drop2.drop3
end Go.Proofs.YtgpmngcemnnpmaaDoor

namespace Go.Proofs.YtgpmngcemnnpmaaDoor
open Go.RowKit Go.Sort
/-- a register's digits when a number is added, and whether it goes round -/
def shiftD (b : Int) (ds : List Int) (x : Int) : List Int := digD b ds.length (((valL b ds + x).tmod (pw b ds.length) + pw b ds.length).tmod (pw b ds.length))
def shiftB (b : Int) (ds : List Int) (x : Int) : Bool := decide (valL b ds + x < 0) || decide (pw b ds.length ≤ valL b ds + x)
theorem shiftD_len (b : Int) (ds : List Int) (x : Int) : (shiftD b ds x).length = ds.length := digD_len _ _ _
set_option maxRecDepth 100000 in
set_option maxHeartbeats 1600000 in
theorem shifted_any (b : Int) (A : Option Addr) (c : Nat) (ds : List Int) (x : Int) (w : World) (hr : RI w A ds.length ds) (hv : vreg b ds = true) (hp : pw b ds.length ≤ 1000000000001) (hx0 : -1000000000001 ≤ x) (hx1 : x ≤ 1000000000001) :
    Calls Tryd.prog 169 #[.agg #[.int .i64 b, .slice A ds.length c], .int .i64 x] w fun e w' => ∃ A' c', e = .returned (.tuple #[.agg #[.int .i64 b, .slice A' (shiftD b ds x).length c'], .bool (shiftB b ds x)]) ∧ Kn w [rowI A' c' (shiftD b ds x)] w' := by
  obtain ⟨⟨b1, b2⟩, ⟨n1, n2⟩, hd, hl⟩ := vreg_iff.1 hv
  have hp1 := pw_pos b b1 ds.length
  have hv0 := (valL_bd b b1 ds (fun d h => (hd d h).1)).1
  have KN := (fun W => values_any b A ds.length c W b1 b2 (by omega))
  have hpc : powC b ds.length = pw b ds.length := by unfold powC; rw [if_pos hp]
  rw [hpc] at KN
  have KV := (fun W (hW : Below w.heap.size w W) => value_any b A ds.length c ds W b1 b2 hd (hr.below hW) n2)
  have hsd : shiftD b ds x = digD b ds.length (((valL b ds + x).tmod (pw b ds.length) + pw b ds.length).tmod (pw b ds.length)) := rfl
  have hsb : shiftB b ds x = (decide (valL b ds + x < 0) || decide (pw b ds.length ≤ valL b ds + x)) := rfl
  obtain ⟨N, hN⟩ : ∃ N, pw b ds.length = N := ⟨_, rfl⟩
  obtain ⟨V, hV⟩ : ∃ V, valL b ds = V := ⟨_, rfl⟩
  rw [hN] at KN hsd hsb hp hp1
  rw [hV] at KV hsd hsb hv0 hl
  obtain ⟨S, hS⟩ : ∃ S, V + x = S := ⟨_, rfl⟩
  rw [hS] at hsd hsb
  have hSb : -1000000000001 ≤ S ∧ S ≤ 2000000000001 := by omega
  have hm1 : -N < S.tmod N ∧ S.tmod N < N := by
    have h1 := Int.tmod_lt_of_pos S (show 0 < N by omega)
    have h2 := Int.lt_tmod_of_pos S (show 0 < N by omega)
    omega
  have hm2 : 0 ≤ (S.tmod N + N).tmod N ∧ (S.tmod N + N).tmod N < N := ⟨Int.tmod_nonneg _ (by omega), Int.tmod_lt_of_pos _ (by omega)⟩
  have hwr : IntKind.i64.wrap (S.tmod N + N) = S.tmod N + N := wrapI64 (by omega)
  have nz1 : N ≠ 0 := by omega
  have nz2 : (N == 0) = false := by simp; omega
  have nz3 : ¬ N = 0 := by omega
  have KW := (fun W => withValue_any b A ds.length c ((S.tmod N + N).tmod N) W b1 b2 (by omega) hm2.1 (by omega))
  rw [← hsd] at KW
  obtain ⟨es, hes⟩ : ∃ es, shiftD b ds x = es := ⟨_, rfl⟩
  rw [hes] at KW ⊢
  obtain ⟨bell, hbl⟩ : ∃ e, shiftB b ds x = e := ⟨_, rfl⟩
  have HSB := Lib.hid (hbl.symm.trans hsb)
  rw [hbl]
  have KN := Lib.hid KN
  have KV := Lib.hid KV
  have KW := Lib.hid KW
  have HSS := Lib.hid hS
  have hV2 : -9223372036854775808 ≤ V + x ∧ V + x ≤ 9223372036854775807 := by omega
  clear hsd hsb hes hbl hr hv hd hl hpc hN hV hS
  go_enter Tryd.func169, Tryd.ntmps169
  go_wp2_with (first | (refine wpList.kn ((Kn.nil w).al [.int .i64 b, .slice A ds.length c] 41) ?_; intro w1 hK1))
  have hK2 := hK1.al [.int .i64 0, .slice none 0 0] 41
  generalize w1.alloc (.cells #[.int .i64 0, .slice none 0 0] 41) = w2 at hK2 ⊢
  have HG := Lib.hid (box2 hK2.drew.drop)
  go_cut [6, 7] (fun pp oo wx => pp = .int .i64 N ∧ oo = .int .i64 S ∧ Kn w [.blk w1.heap.size [.int .i64 0, .slice none 0 0] 41, .blk w.heap.size [.int .i64 b, .slice A ds.length c] 41] wx)
  case first =>
    go_region_held3 (fun W => W.cell? ⟨w.heap.size, 0, none⟩ = some (.int .i64 b) ∧ W.cell? ⟨w.heap.size, 1, none⟩ = some (.slice A ds.length c))
      (first | with_reducible exact HG.out | exact HG.out) (first
      | (go_at_call 176; with_reducible refine (KN.out _).mono ?_; rintro e w3 ⟨rfl, hw3⟩; have hK3 := hK2.drew.keep hw3; clear HG; have HG := Lib.hid (box2 hK3.drop))
      | (go_at_call 102; with_reducible refine (KV.out _ hK3.below).mono ?_; rintro e w4 ⟨rfl, hw4⟩; have hK4 := hK3.keep hw4; clear HG; have HG := Lib.hid (box2 hK4.drop)))
    all_goals
      go_wp2_with fail
      go_meet
      exact ⟨rfl, by rw [HSS.out, wrapI64 (by omega)], hK4⟩
  case rest =>
    obtain ⟨rfl, rfl, hK⟩ := hcut
    clear HG hK1 hK2
    clear hV2 hv0
    have HG := Lib.hid (box2 hK.drew.drop)
    have HS := HG
    obtain ⟨a1, a2, a3⟩ := hK.blkAt
    rcases hlt : decide (S < 0) with _ | _
    · have hl2 := of_decide_eq_false hlt
      rcases hge : decide (N ≤ S) with _ | _
      · have hg2 := of_decide_eq_false hge
        rw [hlt, hge] at HSB
        go_wp2_with fail
        go_region_held3 (fun W => W.cell? ⟨w.heap.size, 0, none⟩ = some (.int .i64 b) ∧ W.cell? ⟨w.heap.size, 1, none⟩ = some (.slice A ds.length c)) (first | with_reducible exact HG.out | with_reducible exact HS.out | exact HG.out) (first
            | (go_at_call 171; with_reducible refine (KW.out _).mono ?_; rintro e w3 ⟨A', c', rfl, hK'⟩; have hK3 := hK.drew.join hK'; clear HG; have HG := Lib.hid (box2 hK3.drop.drop); have hK4 := (hK3.sw1.st 0 (.int .i64 b)).st 1 (.slice A' es.length c'); have HS := Lib.hid (box2 hK4.drop.drop); clear a1 a2 a3; obtain ⟨a1, a2, a3⟩ := hK3.drop.blkAt)
          )
        all_goals
          go_wp2_with fail
          refine bodyPost.kn hK4 ?_; intro w6 hK6
          clear a1 a2 a3
          obtain ⟨a1, a2, a3, -⟩ := hK6.cells
          refine bodyPost_ret (v := .tuple #[.agg #[.int .i64 b, .slice A' es.length c'], .bool bell]) (by simp [results, Tryd.results169, go_sem, a1]; rw [HSB.out]; try simp) rfl ⟨A', c', rfl, ?_⟩
          exact hK6.drop.drop1
      · have hg2 := of_decide_eq_true hge
        rw [hlt, hge] at HSB
        go_wp2_with fail
        go_region_held3 (fun W => W.cell? ⟨w.heap.size, 0, none⟩ = some (.int .i64 b) ∧ W.cell? ⟨w.heap.size, 1, none⟩ = some (.slice A ds.length c)) (first | with_reducible exact HG.out | with_reducible exact HS.out | exact HG.out) (first
            | (go_at_call 171; with_reducible refine (KW.out _).mono ?_; rintro e w3 ⟨A', c', rfl, hK'⟩; have hK3 := hK.drew.join hK'; clear HG; have HG := Lib.hid (box2 hK3.drop.drop); have hK4 := (hK3.sw1.st 0 (.int .i64 b)).st 1 (.slice A' es.length c'); have HS := Lib.hid (box2 hK4.drop.drop); clear a1 a2 a3; obtain ⟨a1, a2, a3⟩ := hK3.drop.blkAt)
          )
        all_goals
          go_wp2_with fail
          refine bodyPost.kn hK4 ?_; intro w6 hK6
          clear a1 a2 a3
          obtain ⟨a1, a2, a3, -⟩ := hK6.cells
          refine bodyPost_ret (v := .tuple #[.agg #[.int .i64 b, .slice A' es.length c'], .bool bell]) (by simp [results, Tryd.results169, go_sem, a1]; rw [HSB.out]; try simp) rfl ⟨A', c', rfl, ?_⟩
          exact hK6.drop.drop1
    · have hl2 := of_decide_eq_true hlt
      have hbe : bell = true := by rw [HSB.out, hlt]; rfl
      have HSB := Lib.hid hbe
      clear hbe
      obtain ⟨x1, x2⟩ := box2 hK.drop
      go_wp2_with fail
      first | (go_region_law (go_simp; go_at_call 171; with_reducible refine (KW.out _).mono ?_; rintro e w3 ⟨A', c', rfl, hK'⟩; have hK3 := hK.drew.join hK'; clear HG; have HG := Lib.hid (box2 hK3.drop.drop); have hK4 := (hK3.sw1.st 0 (.int .i64 b)).st 1 (.slice A' es.length c'); have HS := Lib.hid (box2 hK4.drop.drop); clear a1 a2 a3; obtain ⟨a1, a2, a3⟩ := hK3.drop.blkAt)) | fail "no"
      all_goals
        go_wp2_with fail
        refine bodyPost.kn hK4 ?_; intro w6 hK6
        clear a1 a2 a3
        obtain ⟨a1, a2, a3, -⟩ := hK6.cells
        refine bodyPost_ret (v := .tuple #[.agg #[.int .i64 b, .slice A' es.length c'], .bool bell]) (by simp [results, Tryd.results169, go_sem, a1]; rw [HSB.out]; try simp) rfl ⟨A', c', rfl, ?_⟩
        exact hK6.drop.drop1
end Go.Proofs.YtgpmngcemnnpmaaDoor

namespace Go.Proofs.YtgpmngcemnnpmaaDoor
open Go.RowKit Go.Sort
theorem restD_succ (b : Int) (k : Nat) (v : Int) : restD b (k + 1) v = restD b k (v.tdiv b) := by
  induction k with
  | zero => rfl
  | succ k ih => rw [restD, ih]; rfl
theorem digD_cons (b : Int) (k : Nat) (v : Int) : digD b (k + 1) v = v.tmod b :: digD b k (v.tdiv b) := by
  induction k with
  | zero => rfl
  | succ k ih => rw [digD, ih, restD_succ]; rfl
theorem pw_succ (b : Int) (k : Nat) : pw b (k + 1) = pw b k * b := rfl
theorem valL_lt (b : Int) (hb : 2 ≤ b) (ds : List Int) (hd : ∀ d ∈ ds, 0 ≤ d ∧ d < b) : valL b ds < pw b ds.length := by
  induction ds with
  | nil => simp [valL, pw]
  | cons d ds ih =>
    have h1 := ih (fun x hx => hd x (List.mem_cons_of_mem _ hx))
    have h2 := (hd d (List.mem_cons_self ..)).2
    have h3 : valL b ds * b ≤ (pw b ds.length - 1) * b := Int.mul_le_mul_of_nonneg_right (by omega) (by omega)
    rw [List.length_cons, pw_succ]
    have h4 : (pw b ds.length - 1) * b = pw b ds.length * b - b := by rw [Int.sub_mul]; omega
    simp only [valL]
    omega
theorem valL_digD (b : Int) (hb : 2 ≤ b) : ∀ (k : Nat) (v : Int), 0 ≤ v → v < pw b k → v ≤ 1000000000000 → valL b (digD b k v) = v
  | 0, v, h0, h1, _ => by simp only [pw] at h1; simp [digD, valL]; omega
  | k + 1, v, h0, h1, h2 => by
    rw [digD_cons]
    have e1 : v.tdiv b = v / b := Int.tdiv_eq_ediv_of_nonneg h0
    have e2 : v.tmod b = v % b := Int.tmod_eq_emod_of_nonneg h0
    have h3 : 0 ≤ v / b := Int.ediv_nonneg h0 (by omega)
    have h4 : v / b < pw b k := by rw [pw_succ] at h1; exact Int.ediv_lt_of_lt_mul (by omega) h1
    have h5 : v / b ≤ v := Int.ediv_le_self b h0
    simp only [valL]
    rw [e1, e2, valL_digD b hb k (v / b) h3 h4 (by omega)]
    have h6 := Int.emod_add_mul_ediv v b
    have h7 : v / b * b + v % b = v := by rw [Int.mul_comm]; omega
    rw [h7]; omega
theorem digD_ok (b : Int) (hb : 2 ≤ b) : ∀ (k : Nat) (v : Int), 0 ≤ v → ∀ d ∈ digD b k v, 0 ≤ d ∧ d < b
  | 0, _, _, d, h => by simp [digD] at h
  | k + 1, v, h0, d, h => by
    rw [digD_cons] at h
    have e1 : v.tdiv b = v / b := Int.tdiv_eq_ediv_of_nonneg h0
    have e2 : v.tmod b = v % b := Int.tmod_eq_emod_of_nonneg h0
    rcases List.mem_cons.1 h with rfl | h
    · rw [e2]; exact ⟨Int.emod_nonneg _ (by omega), Int.emod_lt_of_pos _ (by omega)⟩
    · rw [e1] at h; exact digD_ok b hb k _ (Int.ediv_nonneg h0 (by omega)) d h
theorem digD_vreg (b : Int) (hb : 2 ≤ b) (hb2 : b ≤ 16) (k : Nat) (hk : 1 ≤ k) (hk2 : k ≤ 16) (v : Int) (h0 : 0 ≤ v) (h1 : v < pw b k) (h2 : v ≤ 1000000000000) : vreg b (digD b k v) = true := by
  rw [vreg_iff, digD_len, valL_digD b hb k v h0 h1 h2]
  exact ⟨⟨hb, hb2⟩, ⟨by omega, by omega⟩, digD_ok b hb k v h0, h2⟩
theorem digD_zero (b : Int) : ∀ k : Nat, digD b k 0 = List.replicate k 0
  | 0 => rfl
  | k + 1 => by rw [digD_cons, Int.zero_tdiv, Int.zero_tmod, digD_zero b k]; rfl
/-- the shifted digits are valid again -/
theorem shiftD_vreg (b : Int) (ds : List Int) (x : Int) (hv : vreg b ds = true) (hp : pw b ds.length ≤ 1000000000001) : vreg b (shiftD b ds x) = true := by
  obtain ⟨⟨b1, b2⟩, ⟨n1, n2⟩, -, -⟩ := vreg_iff.1 hv
  have hp1 := pw_pos b b1 ds.length
  have h1 := Int.tmod_lt_of_pos ((valL b ds + x).tmod (pw b ds.length) + pw b ds.length) (show 0 < pw b ds.length by omega)
  have h2 := Int.lt_tmod_of_pos (valL b ds + x) (show 0 < pw b ds.length by omega)
  exact digD_vreg b b1 b2 _ (by omega) (by omega) _ (Int.tmod_nonneg _ (by omega)) h1 (by omega)
end Go.Proofs.YtgpmngcemnnpmaaDoor

namespace Go.Proofs.YtgpmngcemnnpmaaDoor
open Go.RowKit Go.Sort
/-- a turn: the setting times the unit is added -/
def turnT (t : Tri) (sign : Int) : Tri × Bool :=
  let u := pw t.b.base t.carry.toNat
  (⟨t.a, ⟨t.b.base, shiftD t.b.base t.b.digits (sign * (valL t.a.base t.a.digits * u))⟩, ⟨t.s.base, shiftD t.s.base t.s.digits (sign * u)⟩, t.carry⟩, shiftB t.b.base t.b.digits (sign * (valL t.a.base t.a.digits * u)))
/-- a stroke, and whether the bell rings -/
def strokeT (k : Int) (t : Tri) : Tri × Bool :=
  if k = 1 then turnT t 1
  else if k = 2 then turnT t (-1)
  else if k = 3 then (if t.carry + 1 = vplaces t then (t, true) else ({ t with carry := t.carry + 1 }, false))
  else if k = 4 then (if t.carry = 0 then (t, true) else ({ t with carry := t.carry - 1 }, false))
  else if k = 5 then (⟨t.a, ⟨t.b.base, digD t.b.base t.b.digits.length 0⟩, ⟨t.s.base, digD t.s.base t.s.digits.length 0⟩, t.carry⟩, false)
  else if k = 6 then ({ t with a := ⟨t.a.base, digD t.a.base t.a.digits.length 0⟩ }, false)
  else (t, false)
theorem pw_add (b : Int) (m n : Nat) : pw b (m + n) = pw b m * pw b n := by
  induction n with
  | zero => simp [pw]
  | succ n ih => rw [← Nat.add_assoc, pw_succ, ih, pw_succ, Int.mul_assoc]
theorem vmach_all {t : Tri} (h : vmach t = true) : t.a.ok = true ∧ t.b.ok = true ∧ t.s.ok = true ∧ t.a.base = t.b.base ∧ t.s.base = t.b.base ∧ pw t.b.base t.b.digits.length ≤ 1000000000001 ∧ pw t.s.base t.s.digits.length ≤ 1000000000001 ∧
    t.a.digits.length ≤ t.b.digits.length ∧ 0 ≤ t.carry ∧ t.carry ≤ vplaces t - 1 := by
  simp only [vmach, Bool.and_eq_true, beq_iff_eq, fullB, decide_eq_true_eq] at h
  obtain ⟨⟨⟨⟨h1, h2⟩, h3⟩, ⟨⟨h4, h5⟩, h6⟩, h7⟩, h8, h9⟩ := h
  obtain ⟨p, q⟩ := betB_iff.1 h9
  exact ⟨h1, h2, h3, h4, h5, h6, h7, h8, p, q⟩
theorem vmach_mk {t : Tri} (h1 : t.a.ok = true) (h2 : t.b.ok = true) (h3 : t.s.ok = true) (h4 : t.a.base = t.b.base) (h5 : t.s.base = t.b.base) (h6 : pw t.b.base t.b.digits.length ≤ 1000000000001) (h7 : pw t.s.base t.s.digits.length ≤ 1000000000001)
    (h8 : t.a.digits.length ≤ t.b.digits.length) (h9 : 0 ≤ t.carry) (h10 : t.carry ≤ vplaces t - 1) : vmach t = true := by
  simp only [vmach, Bool.and_eq_true, beq_iff_eq, fullB, decide_eq_true_eq]
  exact ⟨⟨⟨⟨h1, h2⟩, h3⟩, ⟨⟨h4, h5⟩, h6⟩, h7⟩, h8, betB_iff.2 ⟨h9, h10⟩⟩
theorem reg_ok {r : Reg} : r.ok = vreg r.base r.digits := rfl
/-- no sum of a turn runs over -/
theorem turn_bd {t : Tri} (h : vmach t = true) : 1 ≤ pw t.b.base t.carry.toNat ∧ pw t.b.base t.carry.toNat ≤ 1000000000001 ∧ 0 ≤ valL t.a.base t.a.digits * pw t.b.base t.carry.toNat ∧ valL t.a.base t.a.digits * pw t.b.base t.carry.toNat ≤ 1000000000001 := by
  obtain ⟨k1, k2, k3, e1, e2, f1, f2, l1, c0, c1⟩ := vmach_all h
  obtain ⟨⟨b1, b2⟩, ⟨n1, n2⟩, hd, hl⟩ := vreg_iff.1 k1
  have hu := pw_pos t.b.base (by omega) t.carry.toNat
  have hv0 := (valL_bd t.a.base b1 t.a.digits (fun d h => (hd d h).1)).1
  have hv1 := valL_lt t.a.base b1 t.a.digits hd
  have hadd := pw_add t.b.base t.a.digits.length t.carry.toNat
  have hc : t.a.digits.length + t.carry.toNat ≤ t.b.digits.length := by unfold vplaces at c1; omega
  have hm := pw_mono t.b.base (by omega) _ _ hc
  rw [e1] at hv1
  have h3 : valL t.a.base t.a.digits * pw t.b.base t.carry.toNat ≤ pw t.b.base t.a.digits.length * pw t.b.base t.carry.toNat := Int.mul_le_mul_of_nonneg_right (by rw [e1]; omega) (by omega)
  have hm2 := pw_mono t.b.base (by omega) t.carry.toNat t.b.digits.length (by omega)
  exact ⟨hu, by omega, Int.mul_nonneg hv0 (by omega), by omega⟩
theorem turnT_ok {t : Tri} (h : vmach t = true) (sign : Int) : vmach (turnT t sign).1 = true := by
  obtain ⟨k1, k2, k3, e1, e2, f1, f2, l1, c0, c1⟩ := vmach_all h
  refine vmach_mk k1 (shiftD_vreg _ _ _ k2 f1) (shiftD_vreg _ _ _ k3 f2) e1 e2 ?_ ?_ ?_ c0 ?_
  · simp only [turnT, shiftD_len]; exact f1
  · simp only [turnT, shiftD_len]; exact f2
  · simp only [turnT, shiftD_len]; exact l1
  · simp only [turnT, vplaces, shiftD_len]; exact c1
theorem zero_ok {b : Int} {ds : List Int} (h : vreg b ds = true) : vreg b (digD b ds.length 0) = true := by
  obtain ⟨⟨b1, b2⟩, ⟨n1, n2⟩, -, -⟩ := vreg_iff.1 h
  have := pw_pos b b1 ds.length
  exact digD_vreg b b1 b2 _ (by omega) (by omega) 0 (by omega) (by omega) (by omega)
theorem strokeT_ok {t : Tri} (k : Int) (h : vmach t = true) : vmach (strokeT k t).1 = true := by
  obtain ⟨k1, k2, k3, e1, e2, f1, f2, l1, c0, c1⟩ := vmach_all h
  unfold strokeT
  split
  · exact turnT_ok h 1
  split
  · exact turnT_ok h (-1)
  split
  · split
    · exact h
    · rename_i hc
      exact vmach_mk k1 k2 k3 e1 e2 f1 f2 l1 (by simp only []; omega) (by simp only [vplaces] at c1 hc ⊢; omega)
  split
  · split
    · exact h
    · rename_i hc
      exact vmach_mk k1 k2 k3 e1 e2 f1 f2 l1 (by simp only []; omega) (by simp only [vplaces] at c1 hc ⊢; omega)
  split
  · refine vmach_mk k1 (zero_ok k2) (zero_ok k3) e1 e2 (by simp only [digD_len]; exact f1) (by simp only [digD_len]; exact f2) (by simp only [digD_len]; exact l1) c0 (by simp only [vplaces, digD_len]; exact c1)
  split
  · refine vmach_mk (zero_ok k1) k2 k3 e1 e2 f1 f2 (by simp only [digD_len]; exact l1) c0 (by simp only [vplaces, digD_len]; exact c1)
  · exact h
end Go.Proofs.YtgpmngcemnnpmaaDoor

namespace Go.Proofs.YtgpmngcemnnpmaaDoor
open Go.RowKit Go.Sort
/-! sums and differences of registers, plainly -/
def vx (b : Int) : List Int → Int
  | [] => 0
  | d :: ds => vx b ds * b + d
theorem vx_bd {b : Int} (hb : 2 ≤ b) : ∀ {ds : List Int}, (∀ d ∈ ds, 0 ≤ d ∧ d < b) → 0 ≤ vx b ds ∧ vx b ds < pw b ds.length
  | [], _ => by simp [vx, pw]
  | d :: ds, h => by
    have ih := vx_bd hb (ds := ds) (fun x hx => h x (List.mem_cons_of_mem _ hx))
    have hd := h d (List.mem_cons_self ..)
    rw [vx, List.length_cons, pw_succ]
    have h1 : 0 ≤ vx b ds * b := Int.mul_nonneg ih.1 (by omega)
    have h2 : (vx b ds + 1) * b ≤ pw b ds.length * b := Int.mul_le_mul_of_nonneg_right (by omega) (by omega)
    rw [Int.add_mul, Int.one_mul] at h2
    omega
theorem vx_valL {b : Int} (hb : 2 ≤ b) : ∀ {ds : List Int}, (∀ d ∈ ds, 0 ≤ d ∧ d < b) → pw b ds.length ≤ 1000000000001 → valL b ds = vx b ds
  | [], _, _ => rfl
  | d :: ds, h, hp => by
    have hv := vx_bd hb h
    have hm := pw_mono b hb ds.length (ds.length + 1) (by omega)
    rw [List.length_cons] at hp hv
    rw [valL, vx_valL hb (fun x hx => h x (List.mem_cons_of_mem _ hx)) (by omega)]
    rw [vx] at hv ⊢
    omega
theorem vx_snoc (b : Int) : ∀ (l : List Int) (d : Int), vx b (l ++ [d]) = vx b l + d * pw b l.length
  | [], d => by simp [vx, pw]
  | a :: l, d => by
    rw [List.cons_append, vx, vx, vx_snoc b l d, List.length_cons, pw_succ, Int.add_mul, Int.mul_assoc]
    omega
/-- the carry into a digit -/
def carK (b : Int) (xs ys : List Int) : Nat → Int
  | 0 => 0
  | i + 1 => (xs.getD i 0 + ys.getD i 0 + carK b xs ys i) / b
def sumK (b : Int) (xs ys : List Int) (i : Nat) : Int := (xs.getD i 0 + ys.getD i 0 + carK b xs ys i) % b
def addD (b : Int) (xs ys : List Int) (n : Nat) : List Int := (List.range n).map (sumK b xs ys)
theorem addD_succ (b : Int) (xs ys : List Int) (n : Nat) : addD b xs ys (n + 1) = addD b xs ys n ++ [sumK b xs ys n] := by unfold addD; rw [List.range_succ, List.map_append]; rfl
theorem addD_len (b : Int) (xs ys : List Int) (n : Nat) : (addD b xs ys n).length = n := by simp [addD]
theorem addD_get (b : Int) (xs ys : List Int) {n i : Nat} (h : i < n) : (addD b xs ys n).getD i 0 = sumK b xs ys i := by
  rw [getD_of (by rw [addD_len]; exact h)]; simp [addD]
def Digs (b : Int) (xs : List Int) : Prop := ∀ d ∈ xs, 0 ≤ d ∧ d < b
theorem Digs.at {b : Int} {xs : List Int} (h : Digs b xs) (hb : 2 ≤ b) (i : Nat) : 0 ≤ xs.getD i 0 ∧ xs.getD i 0 < b := by
  by_cases hi : i < xs.length
  · rw [getD_of hi]; exact h _ (List.getElem_mem hi)
  · rw [List.getD_eq_getElem?_getD, List.getElem?_eq_none (by omega)]; simp; omega
theorem carK_bd {b : Int} (hb : 2 ≤ b) {xs ys : List Int} (hx : Digs b xs) (hy : Digs b ys) : ∀ i, 0 ≤ carK b xs ys i ∧ carK b xs ys i ≤ 1
  | 0 => by simp [carK]
  | i + 1 => by
    have h1 := hx.at hb i
    have h2 := hy.at hb i
    have h3 := carK_bd hb hx hy i
    rw [carK]
    constructor
    · exact Int.ediv_nonneg (by omega) (by omega)
    · have : (xs.getD i 0 + ys.getD i 0 + carK b xs ys i) / b < 2 := by rw [Int.ediv_lt_iff_lt_mul (by omega)]; omega
      omega
theorem sumK_bd {b : Int} (hb : 2 ≤ b) (xs ys : List Int) (i : Nat) : 0 ≤ sumK b xs ys i ∧ sumK b xs ys i < b := ⟨Int.emod_nonneg _ (by omega), Int.emod_lt_of_pos _ (by omega)⟩
theorem addD_digs {b : Int} (hb : 2 ≤ b) (xs ys : List Int) (n : Nat) : Digs b (addD b xs ys n) := fun d hd => by
  obtain ⟨i, -, rfl⟩ := List.mem_map.1 hd
  exact sumK_bd hb xs ys i
/-- sum and last carry have the value of both -/
theorem add_val {b : Int} {xs ys : List Int} : ∀ n, n ≤ xs.length → n ≤ ys.length → vx b (addD b xs ys n) + carK b xs ys n * pw b n = vx b (xs.take n) + vx b (ys.take n)
  | 0, _, _ => by simp [addD, carK, vx]
  | n + 1, h1, h2 => by
    have ih := add_val (b := b) (xs := xs) (ys := ys) n (by omega) (by omega)
    rw [addD_succ, vx_snoc, addD_len, List.take_succ_eq_append_getElem h1, List.take_succ_eq_append_getElem h2, vx_snoc, vx_snoc, List.length_take_of_le (show n ≤ xs.length by omega), List.length_take_of_le (show n ≤ ys.length by omega), pw_succ]
    have e : sumK b xs ys n + b * carK b xs ys (n + 1) = xs[n] + ys[n] + carK b xs ys n := by
      rw [sumK, carK, getD_of h1, getD_of h2]; exact Int.emod_add_mul_ediv _ _
    have e2 : sumK b xs ys n * pw b n + carK b xs ys (n + 1) * (pw b n * b) = (sumK b xs ys n + b * carK b xs ys (n + 1)) * pw b n := by
      rw [Int.add_mul, Int.mul_comm b (carK b xs ys (n + 1)), Int.mul_assoc, Int.mul_comm b (pw b n)]
    rw [e, Int.add_mul, Int.add_mul] at e2
    omega
/-- the borrow into a digit -/
def borK (xs ys : List Int) : Nat → Int
  | 0 => 0
  | i + 1 => if xs.getD i 0 - ys.getD i 0 - borK xs ys i < 0 then 1 else 0
def subK (b : Int) (xs ys : List Int) (i : Nat) : Int := if xs.getD i 0 - ys.getD i 0 - borK xs ys i < 0 then xs.getD i 0 - ys.getD i 0 - borK xs ys i + b else xs.getD i 0 - ys.getD i 0 - borK xs ys i
def subD (b : Int) (xs ys : List Int) (n : Nat) : List Int := (List.range n).map (subK b xs ys)
theorem subD_succ (b : Int) (xs ys : List Int) (n : Nat) : subD b xs ys (n + 1) = subD b xs ys n ++ [subK b xs ys n] := by unfold subD; rw [List.range_succ, List.map_append]; rfl
theorem subD_len (b : Int) (xs ys : List Int) (n : Nat) : (subD b xs ys n).length = n := by simp [subD]
theorem borK_bd (xs ys : List Int) : ∀ i, 0 ≤ borK xs ys i ∧ borK xs ys i ≤ 1
  | 0 => by simp [borK]
  | i + 1 => by rw [borK]; split <;> omega
theorem sub_one {b x y c : Int} (hb : 2 ≤ b) (hx : 0 ≤ x ∧ x < b) (hy : 0 ≤ y ∧ y < b) (hc : 0 ≤ c ∧ c ≤ 1) :
    ((x + y + c) % b - y - c < 0 ∧ (x + y + c) / b = 1 ∧ (x + y + c) % b - y - c + b = x) ∨ (¬ (x + y + c) % b - y - c < 0 ∧ (x + y + c) / b = 0 ∧ (x + y + c) % b - y - c = x) := by
  by_cases h : x + y + c < b
  · right
    rw [Int.emod_eq_of_lt (by omega) h, Int.ediv_eq_zero_of_lt (by omega) h]
    omega
  · left
    have e1 : (x + y + c) / b = 1 := by
      have h1 : (x + y + c) / b < 2 := by rw [Int.ediv_lt_iff_lt_mul (by omega)]; omega
      have h2 : 1 ≤ (x + y + c) / b := by rw [Int.le_ediv_iff_mul_le (by omega)]; omega
      omega
    have e2 := Int.emod_add_mul_ediv (x + y + c) b
    rw [e1] at e2
    omega
theorem sub_add {b : Int} (hb : 2 ≤ b) {xs ys : List Int} (hx : Digs b xs) (hy : Digs b ys) (n : Nat) : ∀ i, i ≤ n → borK (addD b xs ys n) ys i = carK b xs ys i
  | 0, _ => rfl
  | i + 1, hi => by
    have ih := sub_add hb hx hy n i (by omega)
    rw [borK, ih, addD_get b xs ys (show i < n by omega), carK, sumK]
    rcases sub_one hb (hx.at hb i) (hy.at hb i) (carK_bd hb hx hy i) with ⟨h1, h2, -⟩ | ⟨h1, h2, -⟩
    · rw [if_pos h1, h2]
    · rw [if_neg h1, h2]
theorem sub_addD {b : Int} (hb : 2 ≤ b) {xs ys : List Int} (hx : Digs b xs) (hy : Digs b ys) : subD b (addD b xs ys xs.length) ys xs.length = xs := by
  refine List.ext_getElem (by rw [subD_len]) (fun i h1 h2 => ?_)
  simp only [subD, List.getElem_map, List.getElem_range]
  have hi : i < xs.length := h2
  rw [subK, sub_add hb hx hy _ i (by omega), addD_get b xs ys hi, sumK, ← getD_of hi]
  rcases sub_one hb (hx.at hb i) (hy.at hb i) (carK_bd hb hx hy i) with ⟨h1, -, h3⟩ | ⟨h1, -, h3⟩
  · rw [if_pos h1, h3]
  · rw [if_neg h1, h3]
def compD (b : Int) (xs : List Int) : List Int := xs.map (fun d => b - 1 - d)
theorem comp_val (b : Int) : ∀ xs : List Int, vx b (compD b xs) = pw b xs.length - 1 - vx b xs
  | [] => by simp [compD, vx, pw]
  | d :: xs => by
    show vx b (compD b xs) * b + (b - 1 - d) = _
    rw [comp_val b xs, vx, List.length_cons, pw_succ, Int.sub_mul, Int.sub_mul, Int.one_mul]
    omega
theorem comp_digs {b : Int} {xs : List Int} (h : Digs b xs) : Digs b (compD b xs) := fun d hd => by
  obtain ⟨x, hx, rfl⟩ := List.mem_map.1 hd
  have := h x hx
  omega
/-- a short row of digits is a register -/
theorem vreg_short {b : Int} {ds : List Int} (hb : 2 ≤ b) (hb2 : b ≤ 16) (hd : Digs b ds) (h1 : 1 ≤ ds.length) (h2 : ds.length ≤ 16) (hp : pw b ds.length ≤ 1000000000001) : vreg b ds = true := by
  have hv := vx_bd hb hd
  exact vreg_iff.2 ⟨⟨hb, hb2⟩, ⟨h1, h2⟩, hd, by rw [vx_valL hb hd hp]; omega⟩
end Go.Proofs.YtgpmngcemnnpmaaDoor

namespace Go.Proofs.YtgpmngcemnnpmaaDoor
open Go.RowKit Go.Sort
theorem gtrans {w a b : World} {o : Option Nat} (h1 : w.grownBy a o) (h2 : a.grownBy b o) : w.grownBy b o :=
  ⟨h2.os.trans h1.os, h2.tape.trans h1.tape, h2.output.trans h1.output, Nat.le_trans h1.size h2.size, fun k hk hne => (h2.block k (Nat.lt_of_lt_of_le hk h1.size) hne).trans (h1.block k hk hne)⟩
/-- a source of draws at block b, from which at most N draws were taken -/
def Src (w : World) (b N : Nat) : Prop := ∃ (A : Option Addr) (n c k : Nat) (seed : Int) (bs : List UInt8), w.cell? ⟨b, 0, none⟩ = some (.slice A n c) ∧ w.cell? ⟨b, 1, none⟩ = some (.int .i64 (k : Int)) ∧ w.cell? ⟨b, 2, none⟩ = some (.int .u64 seed) ∧
  w.frozen? ⟨b, 1, none⟩ = false ∧ w.frozen? ⟨b, 2, none⟩ = false ∧ RB w A n bs ∧ k ≤ N ∧ n ≤ 9223372036854775807 ∧ (0 < n → ∀ ad, A = some ad → ad.block < b) ∧ b < w.heap.size
theorem low_byte (x : Int) : 0 ≤ wrap64 (bits .and .u64 (IntKind.u64.wrap x / 1099511627776) 255) ∧ wrap64 (bits .and .u64 (IntKind.u64.wrap x / 1099511627776) 255) ≤ 255 := by
  obtain ⟨a, ha, ha2⟩ : ∃ a : Nat, IntKind.u64.wrap x / 1099511627776 = (a : Int) ∧ a < 18446744073709551616 := by
    rw [IntKind.wrap_u64]
    exact ⟨(x % 18446744073709551616 / 1099511627776).toNat, by omega, by omega⟩
  rw [ha]
  have h := bits_and_u64_nat a 255 ha2 (by omega)
  have h2 : a &&& 255 ≤ 255 := Nat.and_le_right
  have h3 : bits .and .u64 (a : Int) 255 = ((a &&& 255 : Nat) : Int) := h
  rw [h3]
  unfold wrap64
  omega
theorem src_step {w : World} {b N k n c : Nat} {A : Option Addr} {seed : Int} {bs : List UInt8} (c0 : w.cell? ⟨b, 0, none⟩ = some (.slice A n c)) (c1 : w.cell? ⟨b, 1, none⟩ = some (.int .i64 (k : Int))) (c2 : w.cell? ⟨b, 2, none⟩ = some (.int .u64 seed))
    (f1 : w.frozen? ⟨b, 1, none⟩ = false) (f2 : w.frozen? ⟨b, 2, none⟩ = false) (hb : RB w A n bs) (hk : k ≤ N) (hn : n ≤ 9223372036854775807) (hne : 0 < n → ∀ ad, A = some ad → ad.block < b) (hlt : b < w.heap.size) (s : Int) :
    Src ((w.setCell ⟨b, 1, none⟩ (.int .i64 ((k : Int) + 1))).setCell ⟨b, 2, none⟩ (.int .u64 s)) b (N + 1) ∧ w.grownBy ((w.setCell ⟨b, 1, none⟩ (.int .i64 ((k : Int) + 1))).setCell ⟨b, 2, none⟩ (.int .u64 s)) (some b) := by
  refine ⟨⟨A, n, c, k + 1, s, bs, by go_simp, by go_simp, by go_simp, by go_simp, by go_simp, ⟨hb.1, fun h0 => ?_⟩, by omega, hn, hne, by simp [World.setCell]; exact hlt⟩, ⟨rfl, rfl, rfl, by simp [World.setCell], fun g _ hg => ?_⟩⟩
  · obtain ⟨ad, e, hl, hc⟩ := hb.2 h0
    refine ⟨ad, e, by simp [World.setCell]; exact hl, fun j u hu => ?_⟩
    have h1 : ad.block ≠ b := Nat.ne_of_lt (hne h0 ad e)
    rw [World.cell?_setCell_far _ _ _ _ (by rw [block_of_add]; exact Ne.symm h1), World.cell?_setCell_far _ _ _ _ (by rw [block_of_add]; exact Ne.symm h1)]
    exact hc j u hu
  · rw [heap_setCell_other _ _ _ _ (fun e => hg (by rw [e])), heap_setCell_other _ _ _ _ (fun e => hg (by rw [e]))]
theorem Src.drewN {w : World} {b N : Nat} (h : Src w b N) (q : Nat) : Src (w.drewN q) b N := h
theorem gDrew {w w' : World} {o : Option Nat} (h : w.grownBy w' o) (q : Nat) : w.grownBy (w'.drewN q) o := ⟨h.os, h.tape, h.output, h.size, h.block⟩
theorem gDrewL {w w' : World} {o : Option Nat} {q : Nat} (h : (w.drewN q).grownBy w' o) : w.grownBy w' o := ⟨h.os, h.tape, h.output, h.size, h.block⟩
set_option maxHeartbeats 1600000 in
theorem srcNext_any (b N : Nat) (w : World) (h : Src w b N) (hN : N ≤ 1000000) :
    Calls Tryd.prog 101 #[.pointer (some ⟨b, 0, none⟩)] w fun e w' => ∃ x : Int, e = .returned (.int .i64 x) ∧ 0 ≤ x ∧ x ≤ 255 ∧ Src w' b (N + 1) ∧ w.grownBy w' (some b) := by
  obtain ⟨A, n, c, k, seed, bs, c0, c1, c2, f1, f2, hb, hk, hn, hne, hlt⟩ := h
  have HB := Lib.hid hb
  by_cases hkn : k < n
  · obtain ⟨ad, hA, hl, hc⟩ := hb.2 (by omega)
    have hbl : k < bs.length := by have := hb.1; omega
    have hcb := hc k _ (List.getElem?_eq_getElem hbl)
    have hi0 : (0 : Int) ≤ (k : Int) := by omega
    have hi1 : (k : Int) < (n : Int) := by omega
    have hi2 : (k : Int) + 1 ≤ (n : Int) := by omega
    unfold byteV at hcb
    obtain ⟨u, hu⟩ : ∃ u : Nat, u = bs[k].toNat := ⟨_, rfl⟩
    have hu2 : u < 256 := by rw [hu]; exact UInt8.toNat_lt _
    rw [← hu] at hcb
    subst hA
    clear hu hb hc
    go_enter Tryd.func101, Tryd.ntmps101
    go_wp2
    go_quiet (fail)
    go_wp2
    go_quiet (fail)
    go_wp2
    go_quiet (fail)
    go_wp2
    go_ret
    refine ⟨_, rfl, by omega, by omega, ?_⟩
    have z := fun q => src_step (w := w.drewN q) c0 c1 c2 f1 f2 HB.out hk hn hne hlt
    exact ⟨(z _ _).1.drewN _, gDrew (gDrewL (z _ _).2) _⟩
  · have hi1 : ¬ (k : Int) < (n : Int) := by omega
    have hi2 : ¬ (k : Int) + 1 ≤ (n : Int) := by omega
    clear hb
    go_enter Tryd.func101, Tryd.ntmps101
    go_wp2
    go_quiet (fail)
    go_wp2
    go_quiet (fail)
    go_wp2
    go_ret
    obtain ⟨q1, q2⟩ := low_byte (IntKind.u64.wrap (IntKind.u64.wrap (seed * 6364136223846793005)) + 1442695040888963407)
    refine ⟨_, rfl, q1, q2, ?_⟩
    have z := fun q => src_step (w := w.drewN q) c0 c1 c2 f1 f2 HB.out hk hn hne hlt
    exact ⟨(z _ _).1.drewN _, gDrew (gDrewL (z _ _).2) _⟩
theorem Src.keep {w w' : World} {b N : Nat} (h : Src w b N) (hs : w.heap.size ≤ w'.heap.size) (hk : ∀ k, k ≤ b → w'.heap[k]? = w.heap[k]?) : Src w' b N := by
  obtain ⟨A, n, c, k, seed, bs, c0, c1, c2, f1, f2, hb, hkN, hn, hne, hlt⟩ := h
  have hcell : ∀ o, w'.cell? ⟨b, o, none⟩ = w.cell? ⟨b, o, none⟩ := fun o => World.cell?_of_block (hk b (Nat.le_refl _))
  have hfz : ∀ o, w'.frozen? ⟨b, o, none⟩ = w.frozen? ⟨b, o, none⟩ := fun o => World.frozen?_of_block (hk b (Nat.le_refl _))
  refine ⟨A, n, c, k, seed, bs, by rw [hcell]; exact c0, by rw [hcell]; exact c1, by rw [hcell]; exact c2, by rw [hfz]; exact f1, by rw [hfz]; exact f2, ⟨hb.1, fun h0 => ?_⟩, hkN, hn, hne, Nat.lt_of_lt_of_le hlt hs⟩
  obtain ⟨ad, e, hl, hc⟩ := hb.2 h0
  refine ⟨ad, e, Nat.lt_of_lt_of_le hl hs, fun j u hu => ?_⟩
  rw [World.cell?_of_block (w := w) (by rw [block_of_add]; exact hk _ (Nat.le_of_lt (hne h0 ad e)))]
  exact hc j u hu
theorem Src.mono {w : World} {b N M : Nat} (h : Src w b N) (hm : N ≤ M) : Src w b M := by
  obtain ⟨A, n, c, k, seed, bs, c0, c1, c2, f1, f2, hb, hkN, hr⟩ := h
  exact ⟨A, n, c, k, seed, bs, c0, c1, c2, f1, f2, hb, by omega, hr⟩
theorem Src.lt {w : World} {b N : Nat} (h : Src w b N) : b < w.heap.size := by
  obtain ⟨A, n, c, k, seed, bs, c0, c1, c2, f1, f2, hb, hkN, hn, hne, hlt⟩ := h
  exact hlt
theorem gRefl (w : World) (o : Option Nat) : w.grownBy w o := ⟨rfl, rfl, rfl, Nat.le_refl _, fun _ _ _ => rfl⟩
theorem gMore {w a c : World} {o o2 : Option Nat} (h1 : w.grownBy a o) (h2 : a.grownBy c o2) (ho : ∀ k, o2 = some k → w.heap.size ≤ k) : w.grownBy c o :=
  ⟨h2.os.trans h1.os, h2.tape.trans h1.tape, h2.output.trans h1.output, Nat.le_trans h1.size h2.size, fun k hk hne => (h2.block k (Nat.lt_of_lt_of_le hk h1.size) (fun e => by have := ho k e.symm; omega)).trans (h1.block k hk hne)⟩
theorem gBelow {w a c : World} {o : Option Nat} (h1 : w.grownBy a o) (h2 : Below a.heap.size a c) : w.grownBy c o :=
  ⟨h2.os.trans h1.os, h2.tape.trans h1.tape, h2.output.trans h1.output, Nat.le_trans h1.size h2.size, fun k hk hne => (h2.block k (Nat.lt_of_lt_of_le hk h1.size)).trans (h1.block k hk hne)⟩
theorem ofBelow {w c : World} (h2 : Below w.heap.size w c) (o : Option Nat) : w.grownBy c o := gBelow (gRefl w o) h2
/-- from a source's own block on, everything is new -/
theorem belowG {B b : Nat} {a w c : World} (h : Below B a w) (h2 : w.grownBy c (some b)) (hb : B ≤ b) (hs : B ≤ w.heap.size) : Below B a c :=
  h.grown h2 hs (fun k hk => by injection hk with hk; omega)
theorem Src.below {w w' : World} {b N : Nat} (h : Src w b N) (hb : Below w.heap.size w w') : Src w' b N := h.keep hb.size (fun k hk => hb.block k (Nat.lt_of_le_of_lt hk h.lt))
theorem OwnI.grown {w w' : World} {base b : Nat} {v : Value} {ds : List Int} (h : OwnI w base v ds) (hg : w.grownBy w' (some b)) (hb : b < base) : OwnI w' base v ds := by
  refine ⟨h.1, ?_⟩
  rcases h.2 with hn | ⟨g, cap, cur, rfl, hbg, hc, rest⟩
  · exact .inl hn
  · exact .inr ⟨g, cap, cur, rfl, hbg, by rw [hg.block g (Array.getElem?_eq_some_iff.1 hc).1 (fun e => by injection e with e; omega)]; exact hc, rest⟩
theorem ownI_lo {w : World} {base : Nat} {v : Value} {ds : List Int} (h : OwnI w base v ds) : ∀ k, v.ownBlock = some k → base ≤ k := by
  intro k hk
  rcases h.2 with ⟨rfl, -⟩ | ⟨g, cap, cur, rfl, hb, -⟩
  · simp [Value.ownBlock] at hk
  · simp only [Value.ownBlock, Option.some.injEq] at hk; omega
set_option maxHeartbeats 1600000 in
theorem pick_any (b N : Nat) (n : Int) (w : World) (h : Src w b N) (hN : N ≤ 999999) :
    Calls Tryd.prog 70 #[.pointer (some ⟨b, 0, none⟩), .int .i64 n] w fun e w' => ∃ x : Int, e = .returned (.int .i64 x) ∧ 0 ≤ x ∧ (x < n ∨ (n ≤ 1 ∧ x = 0)) ∧ Src w' b (N + 2) ∧ w.grownBy w' (some b) := by
  have H := Lib.hid h; clear h
  by_cases h1 : n ≤ 1
  · go_enter Tryd.func70, Tryd.ntmps70
    go_wp2
    go_ret
    exact ⟨0, rfl, by omega, .inr ⟨h1, rfl⟩, H.out.mono (by omega), gRefl _ _⟩
  · by_cases h2 : 200 < n
    · go_enter Tryd.func70, Tryd.ntmps70
      go_wp2_with fail
      refine (srcNext_any b N w H.out (by omega)).mono ?_; rintro e w1 ⟨x, rfl, x0, x1, hs1, hg1⟩
      have HS1 := Lib.hid hs1; clear hs1
      have HG1 := Lib.hid hg1; clear hg1
      go_wp2_with fail
      refine (srcNext_any b (N + 1) w1 HS1.out (by omega)).mono ?_; rintro e w2 ⟨y, rfl, y0, y1, hs2, hg2⟩
      have HS2 := Lib.hid hs2; clear hs2
      have HG2 := Lib.hid (gtrans HG1.out hg2); clear hg2
      go_wp2
      go_ret
      exact ⟨_, rfl, Int.emod_nonneg _ (by omega), .inl (Int.emod_lt_of_pos _ (by omega)), HS2.out, HG2.out⟩
    · go_enter Tryd.func70, Tryd.ntmps70
      go_wp2_with fail
      refine (srcNext_any b N w H.out (by omega)).mono ?_; rintro e w1 ⟨x, rfl, x0, x1, hs1, hg1⟩
      have HS1 := Lib.hid hs1; clear hs1
      have HG1 := Lib.hid hg1; clear hg1
      go_wp2
      go_ret
      exact ⟨_, rfl, Int.emod_nonneg _ (by omega), .inl (Int.emod_lt_of_pos _ (by omega)), HS1.out.mono (by omega), HG1.out⟩
set_option maxHeartbeats 800000 in
theorem one_any (b N : Nat) (n : Int) (w : World) (h : Src w b N) (hN : N ≤ 999999) :
    Calls Tryd.prog 69 #[.pointer (some ⟨b, 0, none⟩), .int .i64 n] w fun e w' => ∃ x : Bool, e = .returned (.bool x) ∧ Src w' b (N + 2) ∧ w.grownBy w' (some b) := by
  have H := Lib.hid h; clear h
  go_enter Tryd.func69, Tryd.ntmps69
  go_wp2_with fail
  refine (pick_any b N n w H.out hN).mono ?_; rintro e w1 ⟨x, rfl, x0, -, hs1, hg1⟩
  have HS1 := Lib.hid hs1; clear hs1
  have HG1 := Lib.hid hg1; clear hg1
  go_wp2
  go_ret
  exact ⟨_, rfl, HS1.out, HG1.out⟩
set_option maxHeartbeats 800000 in
theorem l00From_any (A : Option Addr) (n c : Nat) (bs : List UInt8) (w : World) (hb : RB w A n bs) (hn : n ≤ 9223372036854775807) :
    Calls Tryd.prog 36 #[.slice A n c] w fun e w' => e = .returned (.pointer (some ⟨w.heap.size, 0, none⟩)) ∧ Src w' w.heap.size 0 ∧ Below w.heap.size w w' := by
  have HB := Lib.hid hb; clear hb
  go_enter Tryd.func36, Tryd.ntmps36
  go_wp2
  go_ret
  have hba : Below w.heap.size w (w.alloc (.cells #[.slice A n c, .int .i64 0, .int .u64 0] 112)) := (Below.refl _ _).alloc (Nat.le_refl _) _
  exact ⟨rfl, ⟨A, n, c, 0, 0, bs, by go_simp, by go_simp, by go_simp, by go_simp, by go_simp, HB.out.below hba, Nat.le_refl _, hn, (fun h0 ad e => by obtain ⟨ad', e', hl, -⟩ := HB.out.2 h0; rw [e] at e'; injection e' with e'; rw [e']; exact hl), by simp⟩, hba⟩
end Go.Proofs.YtgpmngcemnnpmaaDoor

namespace Go.Proofs.YtgpmngcemnnpmaaDoor
open Go.RowKit Go.Sort
/-- w with its first n blocks alone -/
def trunc (w : World) (n : Nat) : World := { w with heap := w.heap.extract 0 n }
theorem trunc_size {w : World} {n : Nat} (h : n ≤ w.heap.size) : (trunc w n).heap.size = n := by
  simp only [trunc, Array.size_extract]; omega
theorem trunc_get {w : World} {n k : Nat} (h : n ≤ w.heap.size) (hk : k < n) : (trunc w n).heap[k]? = w.heap[k]? := by
  simp only [trunc, Array.getElem?_extract, Nat.sub_zero, Nat.zero_add]
  rw [if_pos (by omega)]
theorem trunc_below {w : World} {n : Nat} (h : n ≤ w.heap.size) : Below (trunc w n).heap.size (trunc w n) w := by
  rw [trunc_size h]
  exact ⟨rfl, rfl, rfl, by rw [trunc_size h]; exact h, fun k hk => (trunc_get h hk).symm⟩
/-- v is w with block b turned -/
def Tw (b : Nat) (w v : World) : Prop := w.grownBy v (some b) ∧ v.heap.size = w.heap.size
theorem Tw.refl (b : Nat) (w : World) : Tw b w w := ⟨gRefl w _, rfl⟩
theorem Tw.of {b : Nat} {w w' : World} (h : w.grownBy w' (some b)) : Tw b w (trunc w' w.heap.size) :=
  ⟨⟨h.os, h.tape, h.output, by rw [trunc_size h.size]; exact Nat.le_refl _, fun k hk hne => (trunc_get h.size hk).trans (h.block k hk hne)⟩, trunc_size h.size⟩
theorem Src.trunc {b N : Nat} {w : World} {n : Nat} (h : Src w b N) (hb : b < n) (hn : n ≤ w.heap.size) : Src (trunc w n) b N := by
  obtain ⟨A, m, c, k, seed, bs, c0, c1, c2, f1, f2, hB, hkN, hm, hne, hlt⟩ := h
  have hbl : ∀ k, k ≤ b → (Go.Proofs.YtgpmngcemnnpmaaDoor.trunc w n).heap[k]? = w.heap[k]? := fun k hk => trunc_get hn (by omega)
  have hcell : ∀ o, (Go.Proofs.YtgpmngcemnnpmaaDoor.trunc w n).cell? ⟨b, o, none⟩ = w.cell? ⟨b, o, none⟩ := fun o => World.cell?_of_block (hbl b (Nat.le_refl _))
  have hfz : ∀ o, (Go.Proofs.YtgpmngcemnnpmaaDoor.trunc w n).frozen? ⟨b, o, none⟩ = w.frozen? ⟨b, o, none⟩ := fun o => World.frozen?_of_block (hbl b (Nat.le_refl _))
  refine ⟨A, m, c, k, seed, bs, by rw [hcell]; exact c0, by rw [hcell]; exact c1, by rw [hcell]; exact c2, by rw [hfz]; exact f1, by rw [hfz]; exact f2, ⟨hB.1, fun h0 => ?_⟩, hkN, hm, hne, by rw [trunc_size hn]; exact hb⟩
  obtain ⟨ad, e, hl, hc⟩ := hB.2 h0
  have hab := hne h0 ad e
  refine ⟨ad, e, by rw [trunc_size hn]; omega, fun j u hu => ?_⟩
  rw [World.cell?_of_block (w := w) (by rw [block_of_add]; exact hbl _ (by omega))]
  exact hc j u hu
/-- what a draw leaves: the source's block is turned, and the call owns the things of m -/
def DR (b N : Nat) (w : World) (m : List Ent) (w' : World) : Prop := ∃ v, Tw b w v ∧ Src v b N ∧ Kn v m w'
theorem DR.src {b N : Nat} {w : World} {m : List Ent} {w' : World} (h : DR b N w m w') : Src w' b N := by
  obtain ⟨v, -, hS, hK⟩ := h
  exact hS.below hK.below
theorem DR.of {b N : Nat} {w w' : World} (hs : Src w' b N) (hg : w.grownBy w' (some b)) (hb : b < w.heap.size) : DR b N w [] w' :=
  ⟨_, Tw.of hg, hs.trunc hb hg.size, (Kn.nil _).keep (trunc_below hg.size)⟩
theorem DR.nil {b N : Nat} {w : World} (hs : Src w b N) : DR b N w [] w := ⟨w, Tw.refl b w, hs, Kn.nil w⟩
theorem DR.mono {b N M : Nat} {w w' : World} {m : List Ent} (h : DR b N w m w') (hm : N ≤ M) : DR b M w m w' := by
  obtain ⟨v, hT, hS, hK⟩ := h
  exact ⟨v, hT, hS.mono hm, hK⟩
theorem DR.kn {b N : Nat} {w w' : World} {m m' : List Ent} (h : DR b N w m w') {w2 : World} (f : ∀ v, Kn v m w' → Kn v m' w2) : DR b N w m' w2 := by
  obtain ⟨v, hT, hS, hK⟩ := h
  exact ⟨v, hT, hS, f v hK⟩
theorem Kn.tw {b : Nat} {w v : World} {m : List Ent} {wi wi' : World} (hT : Tw b w v) (hK : Kn v m wi) (hb : b < w.heap.size) (hg : wi.grownBy wi' (some b)) : Tw b w (trunc wi' w.heap.size) ∧ Kn (trunc wi' w.heap.size) m wi' := by
  have hs : w.heap.size ≤ wi.heap.size := by have := hK.size; rw [hT.2] at this; exact this
  have hs' : w.heap.size ≤ wi'.heap.size := Nat.le_trans hs hg.size
  have hbw := hK.below
  refine ⟨⟨⟨hg.os.trans (hbw.os.trans hT.1.os), hg.tape.trans (hbw.tape.trans hT.1.tape), hg.output.trans (hbw.output.trans hT.1.output), by rw [trunc_size hs']; exact Nat.le_refl _, fun k hk hne => ?_⟩, trunc_size hs'⟩, trunc_below hs', fun e he => ?_, fun e he k hk => ?_, hK.apart⟩
  · rw [trunc_get hs' hk, hg.block k (by omega) hne, hbw.block k (by rw [hT.2]; exact hk)]
    exact hT.1.block k hk hne
  · refine Ent.stable (hK.ents e he) hg.size (fun k hk => hg.block k (Ent.lt (hK.ents e he) hk) (fun h2 => ?_))
    have h3 := hK.own e he k hk
    rw [hT.2] at h3
    injection h2 with h2
    omega
  · rw [trunc_size hs']
    have h3 := hK.own e he k hk
    rw [hT.2] at h3
    exact h3
theorem Tw.grown {b : Nat} {w v : World} (h : Tw b w v) : w.grownBy v (some b) := h.1
/-- one draw behind another -/
theorem DR.join {b N M : Nat} {w wi w' : World} {m m' : List Ent} (h : DR b N w m wi) (h1 : DR b M wi m' w') (hb : b < w.heap.size) : DR b M w (m' ++ m) w' := by
  obtain ⟨v, hT, hS, hK⟩ := h
  obtain ⟨v1, hT1, hS1, hK1⟩ := h1
  have hs : w.heap.size ≤ wi.heap.size := by have := hK.size; rw [hT.2] at this; exact this
  have hs1 : w.heap.size ≤ v1.heap.size := by rw [hT1.2]; exact hs
  obtain ⟨h2, h3⟩ := hK.tw hT hb hT1.1
  exact ⟨_, h2, hS1.trunc hb hs1, h3.join hK1⟩
/-- a source of the call's own -/
theorem Kn.ofDR {w w1 w2 : World} {b N : Nat} {m : List Ent} (hb : Below w.heap.size w w1) (hlo : w.heap.size ≤ b) (h : DR b N w1 m w2) : Kn w m w2 := by
  obtain ⟨v, hT, -, hK⟩ := h
  exact hK.mono (belowG hb hT.1 hlo hb.size)
theorem pick_dr (b N : Nat) (n : Int) (w : World) (h : Src w b N) (hN : N ≤ 999999) :
    Calls Tryd.prog 70 #[.pointer (some ⟨b, 0, none⟩), .int .i64 n] w fun e w' => ∃ x : Int, e = .returned (.int .i64 x) ∧ (0 ≤ x ∧ (x < n ∨ (n ≤ 1 ∧ x = 0))) ∧ DR b (N + 2) w [] w' := by
  refine (pick_any b N n w h hN).mono ?_
  rintro e w' ⟨x, rfl, h0, h1, hs, hg⟩
  exact ⟨x, rfl, ⟨h0, h1⟩, .of hs hg h.lt⟩
theorem one_dr (b N : Nat) (n : Int) (w : World) (h : Src w b N) (hN : N ≤ 999999) :
    Calls Tryd.prog 69 #[.pointer (some ⟨b, 0, none⟩), .int .i64 n] w fun e w' => ∃ x : Bool, e = .returned (.bool x) ∧ DR b (N + 2) w [] w' := by
  refine (one_any b N n w h hN).mono ?_
  rintro e w' ⟨x, rfl, hs, hg⟩
  exact ⟨x, rfl, .of hs hg h.lt⟩
end Go.Proofs.YtgpmngcemnnpmaaDoor

namespace Go.Proofs.YtgpmngcemnnpmaaDoor
open Go.RowKit Go.Sort
section
variable {b N : Nat} {w wi : World} {m : List Ent}
theorem DR.al (h : DR b N w m wi) (l : List Value) (T : TypeId) : DR b N w (.blk wi.heap.size l T :: m) (wi.alloc (.cells l.toArray T)) := h.kn (fun _ hK => hK.al l T)
theorem DR.al_ (h : DR b N w m wi) (o : Obj) : DR b N w m (wi.alloc o) := h.kn (fun _ hK => hK.al_ o)
theorem DR.st {g : Nat} {l : List Value} {T : TypeId} (h : DR b N w (.blk g l T :: m) wi) (j : Nat) (v : Value) : DR b N w (.blk g (l.set j v) T :: m) (wi.setCell ⟨g, j, none⟩ v) := h.kn (fun _ hK => hK.st j v)
theorem DR.drew (h : DR b N w m wi) : DR b N w m wi.drew := h.kn (fun _ hK => hK.drew)
theorem DR.front (h : DR b N w m wi) (i : Nat) {e : Ent} (hi : m[i]? = some e) : DR b N w (e :: m.eraseIdx i) wi := h.kn (fun _ hK => hK.front i hi)
theorem DR.sel (h : DR b N w m wi) (is : List Nat) (n : Nat) (h1 : is.Nodup) (h2 : ∀ i ∈ is, i < n) : DR b N w (is.filterMap (fun i => m[i]?) ++ m.drop n) wi := h.kn (fun _ hK => hK.sel is n h1 h2)
theorem DR.cells (h : DR b N w m wi) : Cells m wi := by
  obtain ⟨v, -, -, hK⟩ := h
  exact hK.cells
theorem DR.lt (h : DR b N w m wi) : b < w.heap.size := by
  obtain ⟨v, hT, hS, -⟩ := h
  have := hS.lt
  rw [hT.2] at this
  exact this
theorem DR.add (h : DR b N w m wi) {M : Nat} {w' : World} {m' : List Ent} (h1 : DR b M wi m' w') : DR b M w (m' ++ m) w' := h.join h1 h.lt
theorem DR.keep (h : DR b N w m wi) {w' : World} (hb : Below wi.heap.size wi w') : DR b N w m w' := h.kn (fun _ hK => hK.keep hb)
theorem DR.box2 {g : Nat} {v0 v1 : Value} {T : TypeId} (h : DR b N w (.blk g [v0, v1] T :: m) wi) : wi.cell? ⟨g, 0, none⟩ = some v0 ∧ wi.cell? ⟨g, 1, none⟩ = some v1 := by
  obtain ⟨v, -, -, hK⟩ := h
  exact Go.Proofs.YtgpmngcemnnpmaaDoor.box2 hK
theorem Calls.dr {P : Program} {f : FuncId} {args : Array Value} {R : Ending → World → Prop} (h : DR b N w m wi) (k : ∀ W, DR b N w m W → Calls P f args W R) : Calls P f args wi R := k wi h
theorem Code.wp.dr {P : Program} {c : Code} {Q : Exit → Act → World → Prop} {a : Act} (h : DR b N w m wi) (k : ∀ W, DR b N w m W → c.wp P Q a W) : c.wp P Q a wi := k wi h
theorem bodyPost.dr {P : Program} {f : Func} {R : Ending → World → Prop} {x : Exit} {a : Act} (h : DR b N w m wi) (k : ∀ W, DR b N w m W → bodyPost P f R x a W) : bodyPost P f R x a wi := k wi h
end
theorem DR.lit {b N : Nat} {w wi : World} {m : List Ent} {g : Nat} {ds : List Int} (h : DR b N w (.blk g (ds.map (Value.int .i64)) 2 :: m) wi) (hd : ds.length ≤ 1000) :
    RI wi (some ⟨g, 0, none⟩) ds.length ds ∧ (∀ ad, some (⟨g, 0, none⟩ : Addr) = some ad → ad.block ≠ b) := by
  obtain ⟨v, -, hS, hK⟩ := h
  have hb := hS.lt
  have ho := hK.own _ (List.mem_cons_self ..) g rfl
  have hr : Kn v (rowI (some ⟨g, 0, none⟩) ds.length ds :: m) wi := hK.litRow (size := 1) (n := ds.length) (by simp) (by unfold maxLen; omega)
  refine ⟨Kn.riv hr, fun ad he => ?_⟩
  injection he with he
  subst he
  show g ≠ b
  omega
end Go.Proofs.YtgpmngcemnnpmaaDoor

namespace Go.Proofs.YtgpmngcemnnpmaaDoor
open Go.RowKit Go.Sort
structure Ins where
  op : Int
  arg : Int
deriving DecidableEq
def InsM (w : World) (p : Addr) (x : Ins) : Prop := w.cell? p = some (.int .i64 x.op) ∧ w.cell? ⟨p.block, p.off + 1, none⟩ = some (.int .i64 x.arg)
theorem steady_InsM : Steady InsM := by
  rintro w w' p f hp hb ⟨h1, h2⟩
  exact ⟨by rw [hb.cell hp]; exact h1, by rw [hb.cell (by exact hp)]; exact h2⟩
def instrOk (op arg : Int) : Bool := if op = 1 then betB arg 0 1000000000000 else if op = 2 ∨ op = 3 ∨ op = 4 ∨ op = 5 ∨ op = 8 then betB arg 1 100 else if op = 6 ∨ op = 7 ∨ op = 9 ∨ op = 10 then arg == 0 else false
def opens (op : Int) : Bool := op == 8 || op == 9
/-- how many loops are open behind an instruction; none where it does not fit -/
def depthStep (op d : Int) : Option Int := if op = 10 then (if d = 0 then none else some (d - 1)) else if opens op then (if d = 4 then none else some (d + 1)) else some d
def stepI (d : Option Int) (x : Ins) : Option Int := d.bind fun d => if instrOk x.op x.arg then depthStep x.op d else none
def progD (xs : List Ins) : Option Int := xs.foldl stepI (some 0)
def vprog (xs : List Ins) : Bool := decide (progD xs = some 0) && decide (xs.length ≤ 120)
theorem progD_succ {xs : List Ins} {k : Nat} (h : k < xs.length) : progD (xs.take (k + 1)) = stepI (progD (xs.take k)) xs[k] := by
  unfold progD; rw [List.take_succ_eq_append_getElem h, List.foldl_append]; rfl
theorem stepI_none (xs : List Ins) : xs.foldl stepI none = none := by
  induction xs with
  | nil => rfl
  | cons x xs ih => exact ih
theorem progD_none {xs : List Ins} {k : Nat} (h : progD (xs.take k) = none) : progD xs = none := by
  unfold progD at *
  rw [← List.take_append_drop k xs, List.foldl_append, h, stepI_none]
theorem depthStep_bd {op d e : Int} (h : depthStep op d = some e) (h0 : 0 ≤ d) (h4 : d ≤ 4) : 0 ≤ e ∧ e ≤ 4 := by
  unfold depthStep at h
  split at h
  · split at h
    · cases h
    · injection h with h; omega
  · split at h
    · split at h
      · cases h
      · injection h with h; omega
    · injection h with h; omega
theorem op_cases (op : Int) : op = 1 ∨ op = 2 ∨ op = 3 ∨ op = 4 ∨ op = 5 ∨ op = 6 ∨ op = 7 ∨ op = 8 ∨ op = 9 ∨ op = 10 ∨ (op < 1 ∨ 10 < op) := by omega
theorem op_else {op : Int} (h : op < 1 ∨ 10 < op) : (op == 1) = false ∧ (op == 2) = false ∧ (op == 3) = false ∧ (op == 4) = false ∧ (op == 5) = false ∧ (op == 6) = false ∧ (op == 7) = false ∧ (op == 8) = false ∧ (op == 9) = false ∧ (op == 10) = false := by
  simp only [beq_eq_false_iff_ne]; omega
theorem instrOk_else {op arg : Int} (h : op < 1 ∨ 10 < op) : instrOk op arg = false := by
  unfold instrOk; rw [if_neg (by omega), if_neg (by omega), if_neg (by omega)]
theorem betB_0 (arg : Int) : betB arg 0 0 = (arg == 0) := by rw [Bool.eq_iff_iff, betB_iff, beq_iff_eq]; omega
end Go.Proofs.YtgpmngcemnnpmaaDoor

namespace Go.Proofs.YtgpmngcemnnpmaaDoor
open Go.RowKit Go.Sort
end Go.Proofs.YtgpmngcemnnpmaaDoor
