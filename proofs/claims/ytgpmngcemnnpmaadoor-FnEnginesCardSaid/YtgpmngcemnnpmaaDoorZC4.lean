/- Part 4: lemmas and contracts of the claim's functions. -/
import Derived.Test.YtgpmngcemnnpmaaDoorZC1
import Derived.Test.YtgpmngcemnnpmaaDoorZC2
import Derived.Test.YtgpmngcemnnpmaaDoorZC3
import Derived.Deep.RegionHeld3
import Derived.Deep.DeepCutAuto
import Derived.Deep.RegionLaw
import Derived.Deep.AppendLies
import Derived.Maps.OwnOps
import Derived.Maps.OwnSet
import Derived.Maps.Views
namespace Go.Proofs.YtgpmngcemnnpmaaDoor
open Go.RowKit Go.Sort
/-- a base and widths are those of machines -/
def nmOk (b n1 n2 n3 : Int) : Bool := (betB b 2 16 && betB n1 1 16 && betB n2 1 16 && betB n3 1 16) && vmach (newT b n1.toNat n2.toNat n3.toNat)
theorem regWidth_any (n : Int) (w : World) : Calls Tryd.prog 73 #[.int .i64 n] w fun e w' => e = .returned (.bool (betB n 1 16)) ∧ w = w' := by
  go_enter Tryd.func73, Tryd.ntmps73
  go_wp2_with (go_at_call 71; refine (between_any _ _ _ _).mono ?_; rintro e w' ⟨rfl, rfl⟩)
  go_ret
  exact ⟨rfl, rfl⟩
theorem l07Size_any (n : Int) (w : World) : Calls Tryd.prog 78 #[.int .i64 n] w fun e w' => e = .returned (.bool (betB n 1 16)) ∧ w = w' := by
  go_enter Tryd.func78, Tryd.ntmps78
  go_wp2_with (go_at_call 77; refine (l00In_any _ _ _ _).mono ?_; rintro e w' ⟨rfl, rfl⟩)
  go_ret
  exact ⟨rfl, rfl⟩
/-- what NewMachine returns for widths in range -/
def NMRet (b : Int) (n1 n2 n3 : Nat) (v : Bool) (w : World) (e : Ending) (w' : World) : Prop :=
  (v = true ∧ ∃ E1 g1 E2 g2 E3 g3, e = .returned (.tuple #[.agg #[.int .i64 b, .slice E1 (digD b n1 0).length g1, .int .i64 b, .slice E2 (digD b n2 0).length g2, .int .i64 b, .slice E3 (digD b n3 0).length g3, .int .i64 0], .int .i64 0]) ∧ Kn w [rowI E3 g3 (digD b n3 0), rowI E2 g2 (digD b n2 0), rowI E1 g1 (digD b n1 0)] w') ∨
  (v = false ∧ e = .returned (.tuple #[.agg #[.int .i64 0, .slice none 0 0, .int .i64 0, .slice none 0 0, .int .i64 0, .slice none 0 0, .int .i64 0], .int .i64 2]) ∧ Below w.heap.size w w')
end Go.Proofs.YtgpmngcemnnpmaaDoor

namespace Go.Proofs.YtgpmngcemnnpmaaDoor
open Go.RowKit Go.Sort
/-- accumulators: which registers they are, and what they show -/
def aOk (b : Int) (ds : List Int) : Bool := vreg b ds && decide (pw b ds.length ≤ 1000000000001)
def aSize (b : Int) (ds : List Int) : Int := if aOk b ds = true then pw b ds.length else 0
def isNm (n x : Int) : Bool := betB x (-(n.tdiv 2)) (n - 1 - n.tdiv 2)
def aNum (b : Int) (ds : List Int) : Int := if valL b ds ≤ pw b ds.length - 1 - (pw b ds.length).tdiv 2 then valL b ds else valL b ds - pw b ds.length
def aNorm (n x : Int) : Int := (x.tmod n + n).tmod n
def aSet (b : Int) (k : Nat) (x : Int) : List Int := digD b k (aNorm (pw b k) x)
theorem aOk_iff {b : Int} {ds : List Int} : aOk b ds = true ↔ vreg b ds = true ∧ pw b ds.length ≤ 1000000000001 := by
  unfold aOk; rw [Bool.and_eq_true, decide_eq_true_eq]
theorem aNorm_bd {n x : Int} (hn : 1 ≤ n) : 0 ≤ aNorm n x ∧ aNorm n x < n := by
  unfold aNorm
  have h1 : -n < x.tmod n ∧ x.tmod n < n := by
    rcases Int.le_total 0 x with h | h
    · rw [Int.tmod_eq_emod_of_nonneg h]
      have := Int.emod_nonneg x (show n ≠ 0 by omega)
      have := Int.emod_lt_of_pos x (show 0 < n by omega)
      omega
    · have h2 := Int.neg_tmod (-x) n
      rw [Int.neg_neg] at h2
      rw [h2, Int.tmod_eq_emod_of_nonneg (by omega)]
      have := Int.emod_nonneg (-x) (show n ≠ 0 by omega)
      have := Int.emod_lt_of_pos (-x) (show 0 < n by omega)
      omega
  rw [Int.tmod_eq_emod_of_nonneg (by omega)]
  exact ⟨Int.emod_nonneg _ (by omega), Int.emod_lt_of_pos _ (by omega)⟩
theorem half_bd {n : Int} (hn : 0 ≤ n) : 0 ≤ n.tdiv 2 ∧ 2 * n.tdiv 2 ≤ n ∧ n ≤ 2 * n.tdiv 2 + 1 := by
  rw [Int.tdiv_eq_ediv_of_nonneg hn]; omega
theorem valL_in {b : Int} {ds : List Int} (h : aOk b ds = true) : 0 ≤ valL b ds ∧ valL b ds < pw b ds.length ∧ 1 ≤ pw b ds.length ∧ pw b ds.length ≤ 1000000000001 := by
  obtain ⟨h1, h2⟩ := aOk_iff.1 h
  obtain ⟨⟨b1, b2⟩, -, hd, -⟩ := vreg_iff.1 h1
  exact ⟨(valL_bd b b1 ds (fun d hd' => (hd d hd').1)).1, valL_lt b b1 ds hd, pw_pos b b1 _, h2⟩
theorem aNum_bd {b : Int} {ds : List Int} (h : aOk b ds = true) : -1000000000001 ≤ aNum b ds ∧ aNum b ds ≤ 1000000000001 := by
  have := valL_in h
  unfold aNum
  split <;> omega
end Go.Proofs.YtgpmngcemnnpmaaDoor

namespace Go.Proofs.YtgpmngcemnnpmaaDoor
open Go.RowKit Go.Sort
/-- what a function that adds a number returns -/
def anuC (b : Int) (ds : List Int) (x : Int) : Int := if aOk b ds = false then 1 else if betB x (-1000000000000) 1000000000000 = false then 2 else 0
def ANRet (b : Int) (ds : List Int) (x : Int) (w : World) (e : Ending) (w' : World) : Prop :=
  (anuC b ds x ≠ 0 ∧ e = .returned (.tuple #[.agg #[.int .i64 0, .slice none 0 0], .bool false, .int .i64 (anuC b ds x)]) ∧ Below w.heap.size w w') ∨
  (anuC b ds x = 0 ∧ ∃ E g, e = .returned (.tuple #[.agg #[.int .i64 b, .slice E (aSet b ds.length (aNum b ds + x)).length g], .bool (!isNm (pw b ds.length) (aNum b ds + x)), .int .i64 0]) ∧ Kn w [rowI E g (aSet b ds.length (aNum b ds + x))] w')
end Go.Proofs.YtgpmngcemnnpmaaDoor

namespace Go.Proofs.YtgpmngcemnnpmaaDoor
open Go.RowKit Go.Sort
/-- a register in a block -/
def RegB (w : World) (g : Nat) (b : Int) (A : Option Addr) (c : Nat) (ds : List Int) : Prop := (w.cell? ⟨g, 0, none⟩ = some (.int .i64 b) ∧ w.cell? ⟨g, 1, none⟩ = some (.slice A ds.length c)) ∧ RI w A ds.length ds
theorem RegB.below {w w' : World} {g : Nat} {b : Int} {A : Option Addr} {c : Nat} {ds : List Int} (h : RegB w g b A c ds) (hb : Below w.heap.size w w') : RegB w' g b A c ds := by
  have hlt : g < w.heap.size := World.block_lt_of_cell? w _ h.1.1
  exact ⟨⟨(hb.cell (p := ⟨g, 0, none⟩) hlt).trans h.1.1, (hb.cell (p := ⟨g, 1, none⟩) hlt).trans h.1.2⟩, h.2.below hb⟩
theorem tmod_bd {n x : Int} (hn : 1 ≤ n) : -n < x.tmod n ∧ x.tmod n < n := by
  rcases Int.le_total 0 x with h | h
  · rw [Int.tmod_eq_emod_of_nonneg h]
    have := Int.emod_nonneg x (show n ≠ 0 by omega)
    have := Int.emod_lt_of_pos x (show 0 < n by omega)
    omega
  · have h2 := Int.neg_tmod (-x) n
    rw [Int.neg_neg] at h2
    rw [h2, Int.tmod_eq_emod_of_nonneg (by omega)]
    have := Int.emod_nonneg (-x) (show n ≠ 0 by omega)
    have := Int.emod_lt_of_pos (-x) (show 0 < n by omega)
    omega
end Go.Proofs.YtgpmngcemnnpmaaDoor

namespace Go.Proofs.YtgpmngcemnnpmaaDoor
open Go.RowKit Go.Sort
theorem isNm_val {n v : Int} (hn : 1 ≤ n) (h0 : 0 ≤ v) : isNm n v = decide (v ≤ n - 1 - n.tdiv 2) := by
  have hh := half_bd (n := n) (by omega)
  unfold isNm
  rw [Bool.eq_iff_iff, betB_iff, decide_eq_true_eq]
  omega
end Go.Proofs.YtgpmngcemnnpmaaDoor

namespace Go.Proofs.YtgpmngcemnnpmaaDoor
open Go.RowKit Go.Sort
/-- how far each wheel is turned to come to 0 -/
def ctL (b : Int) (ds : List Int) : List Int := ds.map (fun d => (b - d).tmod b)
def ctR (b : Int) (ds : List Int) : List Int := if vreg b ds then ctL b ds else []
def CTRet (b : Int) (ds : List Int) (w : World) (e : Ending) (w' : World) : Prop := ∃ E k, e = .returned (.tuple #[.slice E (ctR b ds).length k, .int .i64 (if vreg b ds then 0 else 1)]) ∧ Kn w [rowI E k (ctR b ds)] w'
theorem ctL_take {b : Int} {ds : List Int} {k : Nat} (h : k < ds.length) : ctL b (ds.take (k + 1)) = ctL b (ds.take k) ++ [(b - ds[k]).tmod b] := by
  unfold ctL; rw [List.take_succ_eq_append_getElem h, List.map_append]; rfl
theorem ctL_len (b : Int) (ds : List Int) : (ctL b ds).length = ds.length := by unfold ctL; rw [List.length_map]
end Go.Proofs.YtgpmngcemnnpmaaDoor

namespace Go.Proofs.YtgpmngcemnnpmaaDoor
open Go.RowKit Go.Sort
def tfC (b : Int) (ds : List Int) (b' : Int) (es : List Int) : Int := if (aOk b ds && aOk b' es) = false then 1 else if b ≠ b' then 6 else 0
/-- what a transfer returns -/
def TFRet (b : Int) (ds : List Int) (b' : Int) (es : List Int) (w : World) (e : Ending) (w' : World) : Prop :=
  (tfC b ds b' es ≠ 0 ∧ e = .returned (.tuple #[.agg #[.int .i64 0, .slice none 0 0], .agg #[.int .i64 0, .slice none 0 0], .bool false, .int .i64 (tfC b ds b' es)]) ∧ Below w.heap.size w w') ∨
  (tfC b ds b' es = 0 ∧ ∃ E1 k1 E2 k2, e = .returned (.tuple #[.agg #[.int .i64 b, .slice E1 (digD b ds.length 0).length k1], .agg #[.int .i64 b', .slice E2 (aSet b' es.length (aNum b' es + aNum b ds)).length k2], .bool (!isNm (pw b' es.length) (aNum b' es + aNum b ds)), .int .i64 0]) ∧
    Kn w [rowI E2 k2 (aSet b' es.length (aNum b' es + aNum b ds)), rowI E1 k1 (digD b ds.length 0)] w')
theorem tfC_bad {b b' : Int} {ds es : List Int} (h : (aOk b ds && aOk b' es) = false) : tfC b ds b' es = 1 := by unfold tfC; rw [if_pos h]
end Go.Proofs.YtgpmngcemnnpmaaDoor

namespace Go.Proofs.YtgpmngcemnnpmaaDoor
open Go.RowKit Go.Sort
def accD (b : Int) (ds xs : List Int) : Nat → List Int
  | 0 => ds
  | k + 1 => aSet b ds.length (aNum b (accD b ds xs k) + xs.getD k 0)
def accB (b : Int) (ds xs : List Int) : Nat → List Int
  | 0 => []
  | k + 1 => if isNm (pw b ds.length) (aNum b (accD b ds xs k) + xs.getD k 0) = true then accB b ds xs k else accB b ds xs k ++ [(k : Int)]
def inA (xs : List Int) : Bool := xs.all (fun x => betB x (-1000000000000) 1000000000000)
def aaC (b : Int) (ds xs : List Int) : Int := if aOk b ds = false then 1 else if inA xs = false then 2 else 0
theorem aSet_len (b : Int) (k : Nat) (x : Int) : (aSet b k x).length = k := digD_len ..
theorem accD_len (b : Int) (ds xs : List Int) (k : Nat) : (accD b ds xs k).length = ds.length := by
  cases k with
  | zero => rfl
  | succ k => exact aSet_len ..
theorem accB_len (b : Int) (ds xs : List Int) (k : Nat) : (accB b ds xs k).length ≤ k := by
  induction k with
  | zero => simp [accB]
  | succ k ih => unfold accB; split; omega; rw [List.length_append]; simp; omega
theorem aSet_ok {b : Int} {ds : List Int} (h : aOk b ds = true) (x : Int) : aOk b (aSet b ds.length x) = true := by
  obtain ⟨h1, h2⟩ := aOk_iff.1 h
  obtain ⟨⟨b1, b2⟩, ⟨n1, n2⟩, -⟩ := vreg_iff.1 h1
  have hp := pw_pos b b1 ds.length
  have hb := aNorm_bd (n := pw b ds.length) (x := x) hp
  refine aOk_iff.2 ⟨?_, by rw [aSet_len]; exact h2⟩
  exact digD_vreg b b1 b2 _ n1 n2 _ hb.1 hb.2 (by omega)
theorem accD_ok {b : Int} {ds : List Int} (h : aOk b ds = true) (xs : List Int) (k : Nat) : aOk b (accD b ds xs k) = true := by
  cases k with
  | zero => exact h
  | succ k => exact aSet_ok h _
theorem inA_take_succ {xs : List Int} {k : Nat} (h : k < xs.length) : inA (xs.take (k + 1)) = (inA (xs.take k) && betB xs[k] (-1000000000000) 1000000000000) := by
  unfold inA; rw [List.take_succ_eq_append_getElem h, List.all_append]; simp only [List.all_cons, List.all_nil, Bool.and_true]
theorem inA_not {xs : List Int} {k : Nat} (h : k < xs.length) (h1 : betB xs[k] (-1000000000000) 1000000000000 = false) : inA xs = false := by
  simp only [inA, List.all_eq_false]; exact ⟨xs[k], List.getElem_mem _, by simp [h1]⟩
/-- what the adding of numbers returns -/
def AARet (b : Int) (ds xs : List Int) (w : World) (e : Ending) (w' : World) : Prop :=
  (aaC b ds xs ≠ 0 ∧ e = .returned (.tuple #[.agg #[.int .i64 0, .slice none 0 0], .slice none 0 0, .int .i64 (aaC b ds xs)]) ∧ Below w.heap.size w w') ∨
  (aaC b ds xs = 0 ∧ ∃ E k B m, e = .returned (.tuple #[.agg #[.int .i64 b, .slice E (accD b ds xs xs.length).length k], .slice B (accB b ds xs xs.length).length m, .int .i64 0]) ∧
    Kn w [rowI B m (accB b ds xs xs.length), rowI E k (accD b ds xs xs.length)] w')
theorem accD_succ (b : Int) (ds : List Int) {xs : List Int} {i : Nat} (h : i < xs.length) : accD b ds xs (i + 1) = aSet b ds.length (aNum b (accD b ds xs i) + xs[i]) := by rw [← getD_of h]; rfl
theorem accB_succ (b : Int) (ds : List Int) {xs : List Int} {i : Nat} (h : i < xs.length) : accB b ds xs (i + 1) = if isNm (pw b ds.length) (aNum b (accD b ds xs i) + xs[i]) = true then accB b ds xs i else accB b ds xs i ++ [(i : Int)] := by rw [← getD_of h]; rfl
theorem inA_get {xs : List Int} (h : inA xs = true) {i : Nat} (hi : i < xs.length) : betB xs[i] (-1000000000000) 1000000000000 = true := by
  unfold inA at h
  exact List.all_eq_true.1 h _ (List.getElem_mem _)
end Go.Proofs.YtgpmngcemnnpmaaDoor

namespace Go.Proofs.YtgpmngcemnnpmaaDoor
open Go.RowKit Go.Sort
end Go.Proofs.YtgpmngcemnnpmaaDoor

namespace Go.Proofs.YtgpmngcemnnpmaaDoor
open Go.RowKit Go.Sort
/-- what the drawing of a good register returns -/
def DReg (b M : Nat) (w : World) (e : Ending) (w' : World) : Prop := ∃ (bs : Int) (A : Option Addr) (c : Nat) (ds : List Int), e = .returned (.agg #[.int .i64 bs, .slice A ds.length c]) ∧ (2 ≤ bs ∧ bs ≤ 12 ∧ 1 ≤ ds.length ∧ ds.length ≤ 6) ∧ DR b M w [rowI A c ds] w'
theorem min6 {q k : Nat} (h : 0 ≤ (q : Int) ∧ ((q : Int) < min 6 (k : Int) ∨ min 6 (k : Int) ≤ 1 ∧ (q : Int) = 0)) : q ≤ 5 := by omega
theorem wrapQ {q : Nat} (h : q ≤ 5) : IntKind.i64.wrap (1 + (q : Int)) = ((q + 1 : Nat) : Int) := by rw [wrapI64 (by omega)]; omega
end Go.Proofs.YtgpmngcemnnpmaaDoor

namespace Go.Proofs.YtgpmngcemnnpmaaDoor
open Go.RowKit Go.Sort
end Go.Proofs.YtgpmngcemnnpmaaDoor

namespace Go.Proofs.YtgpmngcemnnpmaaDoor
open Go.RowKit Go.Sort
theorem DR.ad {b N : Nat} {w wi w' : World} {m m' : List Ent} (h : DR b N w m wi) (h1 : Kn wi m' w') : DR b N w (m' ++ m) w' := h.kn (fun _ hK => hK.join h1)
theorem pw_12 {b : Int} (b1 : 2 ≤ b) (b2 : b ≤ 12) (k : Nat) : pw b k ≤ pw 12 k := by
  induction k with
  | zero => exact Int.le_refl _
  | succ k ih =>
    rw [pw_succ, pw_succ]
    have := pw_pos b b1 k
    exact Int.mul_le_mul ih b2 (by omega) (by have := pw_pos 12 (by omega) k; omega)
theorem pw_small {b : Int} (b1 : 2 ≤ b) (b2 : b ≤ 12) {k : Nat} (hk : k ≤ 6) : pw b k ≤ 2985984 := by
  have h1 := pw_12 b1 b2 k
  have h2 := pw_mono 12 (by omega) k 6 hk
  have h3 : pw 12 6 = 2985984 := by decide
  omega
/-- what the drawing of a register returns -/
def DReg2 (b M : Nat) (w : World) (e : Ending) (w' : World) : Prop := ∃ (bs : Int) (A : Option Addr) (c : Nat) (ds : List Int), e = .returned (.agg #[.int .i64 bs, .slice A ds.length c]) ∧ ds.length ≤ 20 ∧ DR b M w [rowI A c ds] w'
end Go.Proofs.YtgpmngcemnnpmaaDoor

namespace Go.Proofs.YtgpmngcemnnpmaaDoor
open Go.RowKit Go.Sort
theorem DR.setI {b N : Nat} {w wi : World} {m : List Ent} {g c : Nat} {ds : List Int} (h : DR b N w (rowI (some ⟨g, 0, none⟩) c ds :: m) wi) (j : Nat) (v : Int) : DR b N w (rowI (some ⟨g, 0, none⟩) c (ds.set j v) :: m) (wi.setCell ⟨g, j, none⟩ (.int .i64 v)) := h.kn (fun _ hK => hK.setI j v)
theorem DR.rowCell {b N : Nat} {w wi : World} {m : List Ent} {g c : Nat} {ds : List Int} (h : DR b N w (rowI (some ⟨g, 0, none⟩) c ds :: m) wi) {j : Nat} (hj : j < ds.length) : wi.cell? ⟨g, j, none⟩ = some (.int .i64 ds[j]) ∧ wi.frozen? ⟨g, j, none⟩ = false ∧ g < wi.heap.size := by
  obtain ⟨v, -, -, hK⟩ := h
  have h1 := Kn.rowCell hK (j := j) (u := .int .i64 ds[j]) (by simp [hj])
  exact ⟨h1.1, h1.2, World.block_lt_of_cell? wi _ h1.1⟩
theorem DR.rowForm {b N : Nat} {w wi : World} {m : List Ent} {A : Option Addr} {c : Nat} {ds : List Int} (h : DR b N w (rowI A c ds :: m) wi) (hd : 0 < ds.length) : ∃ g, A = some ⟨g, 0, none⟩ := by
  obtain ⟨v, -, -, hK⟩ := h
  obtain ⟨g, c', he⟩ := Kn.rowForm hK hd
  injection he with he
  exact ⟨g, he⟩
theorem idxL {j L : Nat} (h : 0 ≤ (j : Int) ∧ ((j : Int) < (L : Int) ∨ (L : Int) ≤ 1 ∧ (j : Int) = 0)) (h1 : 1 ≤ L) : j < L := by omega
end Go.Proofs.YtgpmngcemnnpmaaDoor

namespace Go.Proofs.YtgpmngcemnnpmaaDoor
open Go.RowKit Go.Sort
end Go.Proofs.YtgpmngcemnnpmaaDoor

namespace Go.Proofs.YtgpmngcemnnpmaaDoor
open Go.RowKit Go.Sort
/-- a register that a law's draw returns -/
def DrawsReg (w : World) (e : Ending) (w' : World) : Prop := ∃ (bs : Int) (A : Option Addr) (c : Nat) (ds : List Int), e = .returned (.agg #[.int .i64 bs, .slice A ds.length c]) ∧ ds.length ≤ 20 ∧ Kn w [rowI A c ds] w'
end Go.Proofs.YtgpmngcemnnpmaaDoor

namespace Go.Proofs.YtgpmngcemnnpmaaDoor
open Go.RowKit Go.Sort
end Go.Proofs.YtgpmngcemnnpmaaDoor

namespace Go.Proofs.YtgpmngcemnnpmaaDoor
open Go.RowKit Go.Sort
/-- what the draw of two registers returns -/
def Draws2 (w : World) (e : Ending) (w' : World) : Prop := ∃ (b : Int) (A : Option Addr) (c : Nat) (ds : List Int) (b2 : Int) (B : Option Addr) (k : Nat) (es : List Int), e = .returned (.tuple #[.agg #[.int .i64 b, .slice A ds.length c], .agg #[.int .i64 b2, .slice B es.length k]]) ∧ (ds.length ≤ 20 ∧ es.length ≤ 20) ∧ Kn w [rowI A c ds, rowI B k es] w'
theorem pick5 {q : Nat} (h : 0 ≤ (q : Int) ∧ ((q : Int) < 5 ∨ (5 : Int) ≤ 1 ∧ (q : Int) = 0)) : q ≤ 5 := by omega
end Go.Proofs.YtgpmngcemnnpmaaDoor

namespace Go.Proofs.YtgpmngcemnnpmaaDoor
open Go.RowKit Go.Sort
set_option maxHeartbeats 400000 in
theorem sameNumbers_any (A B : Option Addr) (n c m d : Nat) (ds es : List Int) (w : World) (hr : RI w A n ds) (hs : RI w B m es) (hm : n ≤ 9223372036854775807) (hm2 : m ≤ 9223372036854775807) :
    Calls Tryd.prog 106 #[.slice A n c, .slice B m d] w fun e w' => e = .returned (.bool (decide (ds = es))) ∧ ∃ q, w' = w.drewN q := by
  have HL := Lib.hid hr.1
  have HM := Lib.hid hs.1
  by_cases hnm : n = m
  · subst hnm
    go_enter Tryd.func106, Tryd.ntmps106
    go_wp2
    go_loopw [13] (fun i wr => ∃ k : Nat, k ≤ n ∧ i = .int .i64 k ∧ ds.take k = es.take k ∧ ∃ q, wr = w.drewN q) (fun i _ => n - (intOf i).toNat)
    case atStart => exact ⟨0, Nat.zero_le _, rfl, by simp, 0, rfl⟩
    case round =>
      obtain ⟨k, hk, rfl, hdg, q, rfl⟩ := hrel
      have HD := Lib.hid hdg; clear hdg
      by_cases hkn : k < n
      · obtain ⟨ad, hA, hlt, hkl, hc⟩ := hr.at_ hkn
        obtain ⟨ad2, hB, hlt2, hkl2, hc2⟩ := hs.at_ hkn
        subst hA; subst hB
        have hi0 : (0 : Int) ≤ (k : Int) := by omega
        have hi1 : (k : Int) < (n : Int) := by omega
        rcases hd : (ds[k] != es[k]) with _ | _
        · go_wp2
          go_quiet (fail)
          go_wp2
          have he : ds[k] = es[k] := by simpa using hd
          have HE := Lib.hid he; clear he
          go_roundw
          case rel => exact ⟨k + 1, by omega, by go_num, take_eq_of_succ HD.out hkl hkl2 HE.out, by first | exact ⟨_, rfl⟩ | exact ⟨_, World.drewN_drewN _ _ _⟩⟩
          case measure => simp [intOf]; omega
        · go_wp2
          go_quiet (fail)
          go_wp2
          go_ret
          refine ⟨ret_bool ?_, by first | exact ⟨_, rfl⟩ | exact ⟨_, World.drewN_drewN _ _ _⟩⟩
          have : ds ≠ es := by rintro rfl; simp at hd
          simp [this]
      · have HF : Hid (ds = es) := by
          have := HD.out
          rwa [List.take_of_length_le (by have := HL.out; omega), List.take_of_length_le (by have := HM.out; omega)] at this
        go_wp2
        go_ret
        exact ⟨ret_bool (by simp [HF.out]), q, rfl⟩
  · have HF : Hid (ds ≠ es) := by rintro rfl; exact hnm (hr.1.symm.trans hs.1)
    go_enter Tryd.func106, Tryd.ntmps106
    go_wp2
    go_ret
    exact ⟨ret_bool (by simp [HF.out]), 0, rfl⟩
set_option maxHeartbeats 400000 in
theorem l00Same_any (A B : Option Addr) (n c m d : Nat) (ds es : List Int) (w : World) (hr : RI w A n ds) (hs : RI w B m es) (hm : n ≤ 9223372036854775807) (hm2 : m ≤ 9223372036854775807) :
    Calls Tryd.prog 89 #[.slice A n c, .slice B m d] w fun e w' => e = .returned (.bool (decide (ds = es))) ∧ ∃ q, w' = w.drewN q := by
  have HL := Lib.hid hr.1
  have HM := Lib.hid hs.1
  by_cases hnm : n = m
  · subst hnm
    go_enter Tryd.func89, Tryd.ntmps89
    go_wp2
    go_loopw [5] (fun i wr => ∃ k : Nat, k ≤ n ∧ i = .int .i64 k ∧ ds.take k = es.take k ∧ ∃ q, wr = w.drewN q) (fun i _ => n - (intOf i).toNat)
    case atStart => exact ⟨0, Nat.zero_le _, rfl, by simp, 0, rfl⟩
    case round =>
      obtain ⟨k, hk, rfl, hdg, q, rfl⟩ := hrel
      have HD := Lib.hid hdg; clear hdg
      by_cases hkn : k < n
      · obtain ⟨ad, hA, hlt, hkl, hc⟩ := hr.at_ hkn
        obtain ⟨ad2, hB, hlt2, hkl2, hc2⟩ := hs.at_ hkn
        subst hA; subst hB
        have hi0 : (0 : Int) ≤ (k : Int) := by omega
        have hi1 : (k : Int) < (n : Int) := by omega
        rcases hd : (ds[k] != es[k]) with _ | _
        · go_wp2
          go_quiet (fail)
          go_wp2
          have he : ds[k] = es[k] := by simpa using hd
          have HE := Lib.hid he; clear he
          go_roundw
          case rel => exact ⟨k + 1, by omega, by go_num, take_eq_of_succ HD.out hkl hkl2 HE.out, by first | exact ⟨_, rfl⟩ | exact ⟨_, World.drewN_drewN _ _ _⟩⟩
          case measure => simp [intOf]; omega
        · go_wp2
          go_quiet (fail)
          go_wp2
          go_ret
          refine ⟨ret_bool ?_, by first | exact ⟨_, rfl⟩ | exact ⟨_, World.drewN_drewN _ _ _⟩⟩
          have : ds ≠ es := by rintro rfl; simp at hd
          simp [this]
      · have HF : Hid (ds = es) := by
          have := HD.out
          rwa [List.take_of_length_le (by have := HL.out; omega), List.take_of_length_le (by have := HM.out; omega)] at this
        go_wp2
        go_ret
        exact ⟨ret_bool (by simp [HF.out]), q, rfl⟩
  · have HF : Hid (ds ≠ es) := by rintro rfl; exact hnm (hr.1.symm.trans hs.1)
    go_enter Tryd.func89, Tryd.ntmps89
    go_wp2
    go_ret
    exact ⟨ret_bool (by simp [HF.out]), 0, rfl⟩
def sameR (r s : Reg) : Bool := r.base == s.base && decide (r.digits = s.digits)
theorem SameRegister_any (r s : Reg) (A B : Option Addr) (c d : Nat) (w : World) (hr : RI w A r.digits.length r.digits) (hs : RI w B s.digits.length s.digits) (hm : SmallReg r) (hm2 : SmallReg s) :
    Calls Tryd.prog 80 #[.agg #[.int .i64 r.base, .slice A r.digits.length c], .agg #[.int .i64 s.base, .slice B s.digits.length d]] w fun e w' => e = .returned (.bool (sameR r s)) ∧ Below w.heap.size w w' := by
  have hb0 : Below w.heap.size w ((w.alloc (.cells #[.int .i64 r.base, .slice A r.digits.length c] 41)).alloc (.cells #[.int .i64 s.base, .slice B s.digits.length d] 41)) := ((Below.refl _ _).alloc (Nat.le_refl _) _).alloc (by simp) _
  unfold SmallReg at hm hm2
  rcases k : (r.base == s.base) with _ | _
  · have HF : Hid (sameR r s = false) := by simp only [Hid, sameR]; rw [k]; rfl
    go_enter Tryd.func80, Tryd.ntmps80
    go_wp2
    go_ret
    exact ⟨ret_bool HF.out.symm, hb0⟩
  · have HF : Hid (sameR r s = decide (r.digits = s.digits)) := by simp only [Hid, sameR]; rw [k]; rfl
    go_enter Tryd.func80, Tryd.ntmps80
    go_wp2_with (go_at_call 106; refine (sameNumbers_any A B _ c _ d r.digits s.digits _ (hr.below hb0) (hs.below hb0) (by omega) (by omega)).mono ?_; rintro e w1 ⟨rfl, q, rfl⟩)
    go_ret
    exact ⟨ret_bool HF.out.symm, below_drewN hb0 _⟩
theorem l02Same_any (p q : Addr) (r s : Reg) (w : World) (hp : RegM w p r) (hq : RegM w q s) (hm : SmallReg r) (hm2 : SmallReg s) :
    Calls Tryd.prog 105 #[.pointer (some p), .pointer (some q)] w fun e w' => e = .returned (.bool (sameR r s)) ∧ ∃ m, w' = w.drewN m := by
  obtain ⟨A, c, ⟨ha, hb⟩, hr⟩ := hp
  obtain ⟨B, d, ⟨ha0, hb0⟩, hs⟩ := hq
  unfold SmallReg at hm hm2
  have K1 := Lib.hid (fun (m : Nat) => l00Same_any A B _ c _ d r.digits s.digits (w.drewN m) hr hs (by omega) (by omega))
  rcases k : (r.base == s.base) with _ | _
  · have HF : Hid (sameR r s = false) := by simp only [Hid, sameR]; rw [k]; rfl
    go_enter Tryd.func105, Tryd.ntmps105
    go_wp2_with fail
    go_quiet ((go_at_call 89; exact quiet_of_ex (K1.out _)))
    go_wp2
    go_ret
    exact ⟨ret_bool HF.out.symm, _, rfl⟩
  · have HF : Hid (sameR r s = decide (r.digits = s.digits)) := by simp only [Hid, sameR]; rw [k]; rfl
    go_enter Tryd.func105, Tryd.ntmps105
    go_wp2_with fail
    go_quiet ((go_at_call 89; exact quiet_of_ex (K1.out _)))
    go_wp2
    go_ret
    exact ⟨ret_bool HF.out.symm, _, rfl⟩
/-- the carry out of a digit with a kind of fault -/
def cstep (base t c kind : Int) : Int := if kind = 1 then 0 else if kind = 2 then 1 else if kind = 3 then (if t < base then 0 else 1) else if t + c < base then 0 else 1
set_option maxHeartbeats 400000 in
theorem l08Carry_any (base t c kind : Int) (w : World) (h1 : -100 ≤ t) (h2 : t ≤ 100) (h3 : 0 ≤ c) (h4 : c ≤ 1) :
    Calls Tryd.prog 126 #[.int .i64 base, .int .i64 t, .int .i64 c, .int .i64 kind] w fun e w' => e = .returned (.int .i64 (cstep base t c kind)) ∧ w = w' := by
  by_cases g1 : t + c < base
  all_goals by_cases k1 : kind = 1
  all_goals by_cases k2 : kind = 2
  all_goals by_cases k3 : kind = 3
  all_goals by_cases g2 : t < base
  all_goals try omega
  all_goals
    go_enter Tryd.func126, Tryd.ntmps126
    go_wp2
    go_ret
    exact ⟨ret_int (by unfold cstep; simp [*]), rfl⟩
end Go.Proofs.YtgpmngcemnnpmaaDoor

namespace Go.Proofs.YtgpmngcemnnpmaaDoor
open Go.RowKit Go.Sort
end Go.Proofs.YtgpmngcemnnpmaaDoor

namespace Go.Proofs.YtgpmngcemnnpmaaDoor
open Go.RowKit Go.Sort
/-- the bytes of a string -/
def strB (s : ByteArray) : List UInt8 := s.data.toList
theorem strB_len (s : ByteArray) : (strB s).length = s.size := by simp [strB]
theorem strB_get (s : ByteArray) {k : Nat} (h : k < s.size) : s[k] = (strB s)[k]'(by rw [strB_len]; exact h) := by
  simp [strB]
  rfl
theorem strB_mk (bs : List UInt8) : strB ⟨bs.toArray⟩ = bs := by simp [strB]
theorem size_mk (bs : List UInt8) : (⟨bs.toArray⟩ : ByteArray).size = bs.length := by simp [ByteArray.size]
theorem strB_drop (s : ByteArray) (k : Nat) : strB (s.extract k s.size) = (strB s).drop k := by
  have h : (s.extract k s.size).data = s.data.extract k s.size := by simp
  unfold strB
  rw [h, Array.toList_extract, List.extract_eq_take_drop]
  rw [List.take_of_length_le]
  rw [List.length_drop, Array.length_toList]
  exact Nat.le_refl _
theorem size_zero {s : ByteArray} (h : s.size = 0) : s = ⟨#[]⟩ := by
  cases s with
  | mk a =>
    congr 1
    exact Array.eq_empty_of_size_eq_zero h
theorem str_nonempty {s : ByteArray} (h : 0 < s.size) : s.toList.isEmpty = false := by
  rw [ByteArray.toList_eq]
  cases he : s.data.toList with
  | nil =>
    have : s.data.toList.length = 0 := by rw [he]; rfl
    have h2 : s.data.toList.length = s.size := by rw [Array.length_toList]; rfl
    omega
  | cons a l => rfl
theorem strB_cons {s : ByteArray} (h : 0 < s.size) : strB s = s[0] :: (strB s).drop 1 := by
  have h1 : 0 < (strB s).length := by rw [strB_len]; exact h
  have h2 := strB_get s h
  rw [h2]
  have h3 := List.drop_eq_getElem_cons (l := strB s) (i := 0) h1
  simpa using h3
theorem strB_nil {s : ByteArray} (h : s.size = 0) : strB s = [] := by
  apply List.eq_nil_of_length_eq_zero; rw [strB_len]; exact h
theorem str_eq {s : ByteArray} {bs : List UInt8} : (⟨bs.toArray⟩ : ByteArray) = s ↔ bs = strB s := by
  constructor
  · intro h; rw [← h]; simp [strB]
  · intro h; rw [h]; cases s; simp [strB]
theorem strB_toList (s : ByteArray) : s.toList = strB s := by rw [ByteArray.toList_eq]; rfl
theorem strB_tail {s : ByteArray} : strB (s.extract 1 s.size) = (strB s).drop 1 := strB_drop s 1
theorem extract_size (s : ByteArray) (k : Nat) : (s.extract k s.size).size = s.size - k := by simp [ByteArray.size_extract]
theorem strB_extract (s : ByteArray) (i j : Nat) : strB (s.extract i j) = ((strB s).drop i).take (j - i) := by
  have h : (s.extract i j).data = s.data.extract i j := by simp
  unfold strB
  rw [h, Array.toList_extract, List.extract_eq_take_drop]
theorem strB_getD (s : ByteArray) {k : Nat} (h : k < s.size) : (strB s).getD k 0 = s[k] := by
  rw [strB_get s h]; simp [List.getD, List.getElem?_eq_getElem (show k < (strB s).length by rw [strB_len]; exact h)]
theorem wrapI {n : Int} (h : -9223372036854775808 ≤ n ∧ n ≤ 9223372036854775807) : IntKind.i64.wrap n = n := by
  rw [IntKind.wrap_i64]; omega
theorem wrapB {n : Int} (h : 0 ≤ n ∧ n < 256) : IntKind.u8.wrap n = n := by
  simp [IntKind.wrap, IntKind.bits, IntKind.signed]; omega
theorem wrap64_of {n : Int} (h : -9223372036854775808 ≤ n ∧ n ≤ 9223372036854775807) : wrap64 n = n := by unfold wrap64; omega
end Go.Proofs.YtgpmngcemnnpmaaDoor

namespace Go.Proofs.YtgpmngcemnnpmaaDoor
open Go.RowKit Go.Sort
/-! drums, plainly -/
structure Dr where
  k : Int
  b : Int
  t : Int
  f : Int
def drOk (d : Dr) : Bool := betB d.k 1 3 && (betB d.b 2 16 && (betB d.t d.b 60 && (if d.k = 3 then decide (d.f = 0) else betB d.f 1 (d.t - d.b + 2))))
/-- the time of a turn at which the tooth j of a drum that is set to g makes its step -/
def dTime (d : Dr) (g : Int) (j : Nat) : Int := if d.k = 1 then d.f + d.b - 1 - g + j else if d.k = 2 then d.f + j else (((j : Int) + 1) * d.t + g - 1) / g
def dTimes (d : Dr) (g : Int) : List Int := (List.range g.toNat).map (dTime d g)
theorem drOk_iff {d : Dr} : drOk d = true ↔ (1 ≤ d.k ∧ d.k ≤ 3) ∧ (2 ≤ d.b ∧ d.b ≤ 16) ∧ (d.b ≤ d.t ∧ d.t ≤ 60) ∧ ((d.k = 3 ∧ d.f = 0) ∨ (d.k ≠ 3 ∧ 1 ≤ d.f ∧ d.f ≤ d.t - d.b + 2)) := by
  unfold drOk
  by_cases h3 : d.k = 3
  · rw [if_pos h3]
    simp only [betB, Bool.and_eq_true, decide_eq_true_eq]
    omega
  · rw [if_neg h3]
    simp only [betB, Bool.and_eq_true, decide_eq_true_eq]
    omega
/-- the rack's times lie in the turn -/
theorem rack_bd {t g j : Int} (ht : 1 ≤ t) (hg : 1 ≤ g) (hj : 0 ≤ j) (hjg : j < g) : 1 ≤ ((j + 1) * t + g - 1) / g ∧ ((j + 1) * t + g - 1) / g ≤ t := by
  constructor
  · rw [Int.le_ediv_iff_mul_le (by omega)]
    have : 1 * 1 ≤ (j + 1) * t := Int.mul_le_mul (by omega) (by omega) (by omega) (by omega)
    omega
  · have h1 : ((j + 1) * t + g - 1) / g < t + 1 := by
      rw [Int.ediv_lt_iff_lt_mul (by omega)]
      have h2 : (j + 1) * t ≤ g * t := Int.mul_le_mul_of_nonneg_right (by omega) (by omega)
      rw [Int.add_mul (a := t), Int.one_mul, Int.mul_comm t g]
      omega
    omega
theorem dTime_bd {d : Dr} (h : drOk d = true) {g : Int} {j : Nat} (hj : (j : Int) < g) (hg : g < d.b) : 1 ≤ dTime d g j ∧ dTime d g j ≤ d.t := by
  obtain ⟨⟨k1, k2⟩, ⟨b1, b2⟩, ⟨t1, t2⟩, h4⟩ := drOk_iff.1 h
  unfold dTime
  by_cases e1 : d.k = 1
  · rw [if_pos e1]; omega
  · rw [if_neg e1]
    by_cases e2 : d.k = 2
    · rw [if_pos e2]; omega
    · rw [if_neg e2]
      exact rack_bd (by omega) (by omega) (by omega) hj
/-- one tooth's step lies behind the step of the tooth ahead of it -/
theorem dTime_lt {d : Dr} (h : drOk d = true) {g : Int} {i j : Nat} (hij : i < j) (hj : (j : Int) < g) (hg : g < d.b) : dTime d g i < dTime d g j := by
  obtain ⟨⟨k1, k2⟩, ⟨b1, b2⟩, ⟨t1, t2⟩, h4⟩ := drOk_iff.1 h
  unfold dTime
  by_cases e1 : d.k = 1
  · rw [if_pos e1, if_pos e1]; omega
  · rw [if_neg e1, if_neg e1]
    by_cases e2 : d.k = 2
    · rw [if_pos e2, if_pos e2]; omega
    · rw [if_neg e2, if_neg e2]
      have hg0 : 0 < g := by omega
      have h1 : ((i : Int) + 1) * d.t + g - 1 + g ≤ ((j : Int) + 1) * d.t + g - 1 := by
        have h2 : ((i : Int) + 1 + 1) * d.t ≤ ((j : Int) + 1) * d.t := Int.mul_le_mul_of_nonneg_right (by omega) (by omega)
        rw [Int.add_mul, Int.one_mul] at h2
        omega
      have h3 := Int.ediv_le_ediv hg0 h1
      rw [Int.add_ediv_of_dvd_right (Int.dvd_refl g), Int.ediv_self (by omega)] at h3
      omega
/-! walks -/
/-- a drum in a block -/
def DrAt (w : World) (g : Nat) (d : Dr) : Prop := w.cell? ⟨g, 0, none⟩ = some (.int .i64 d.k) ∧ w.cell? ⟨g, 1, none⟩ = some (.int .i64 d.b) ∧ w.cell? ⟨g, 2, none⟩ = some (.int .i64 d.t) ∧ w.cell? ⟨g, 3, none⟩ = some (.int .i64 d.f)
theorem DrAt.below {w w' : World} {g : Nat} {d : Dr} (h : DrAt w g d) (hb : Below w.heap.size w w') : DrAt w' g d := by
  have hlt : g < w.heap.size := World.block_lt_of_cell? w _ h.1
  exact ⟨(hb.cell (p := ⟨g, 0, none⟩) hlt).trans h.1, (hb.cell (p := ⟨g, 1, none⟩) hlt).trans h.2.1, (hb.cell (p := ⟨g, 2, none⟩) hlt).trans h.2.2.1, (hb.cell (p := ⟨g, 3, none⟩) hlt).trans h.2.2.2⟩
end Go.Proofs.YtgpmngcemnnpmaaDoor

namespace Go.Proofs.YtgpmngcemnnpmaaDoor
open Go.RowKit Go.Sort
/-! the codes -/
def drCode (d : Dr) (g : Int) : Int := if drOk d = false then 1 else if betB g 0 (d.b - 1) = false then 2 else 0
end Go.Proofs.YtgpmngcemnnpmaaDoor

namespace Go.Proofs.YtgpmngcemnnpmaaDoor
open Go.RowKit Go.Sort
theorem dTimes_succ (d : Dr) (g : Int) (k : Nat) : (List.range (k + 1)).map (dTime d g) = (List.range k).map (dTime d g) ++ [dTime d g k] := by rw [List.range_succ, List.map_append]; rfl
theorem dTimes_len (d : Dr) (g : Int) : (dTimes d g).length = g.toNat := by simp [dTimes]
theorem dTime1 {b t f g : Int} {j : Nat} : dTime ⟨1, b, t, f⟩ g j = f + b - 1 - g + j := by simp [dTime]
theorem dTime2 {b t f g : Int} {j : Nat} : dTime ⟨2, b, t, f⟩ g j = f + j := by simp [dTime]
theorem dTime3 {b t f g : Int} {j : Nat} : dTime ⟨3, b, t, f⟩ g j = (((j : Int) + 1) * t + g - 1) / g := by simp [dTime]
theorem dr_kind {d : Dr} (h : drOk d = true) : d.k = 1 ∨ d.k = 2 ∨ d.k = 3 := by have := (drOk_iff.1 h).1; omega
end Go.Proofs.YtgpmngcemnnpmaaDoor

namespace Go.Proofs.YtgpmngcemnnpmaaDoor
open Go.RowKit Go.Sort
/-- the row of a drum's times -/
def TMRet (d : Dr) (n : Nat) (w : World) (e : Ending) (w' : World) : Prop := ∃ A c, e = .returned (.slice A n c) ∧ Kn w [rowI A c (dTimes d n)] w'
theorem dTimes_nat (d : Dr) (n : Nat) : dTimes d n = (List.range n).map (dTime d n) := by unfold dTimes; rw [Int.toNat_natCast]
theorem Kn.rowSlice {w0 w : World} {m : List Ent} {v : Value} {T : TypeId} {size n : Nat} {xs : List Value} (h : Kn w0 (.row v T size n xs :: m) w) : ∃ A c, v = .slice A n c := by
  have h0 : w.ownsRow 0 T size v n xs := h.at0
  rcases h0.2 with ⟨rfl, rfl⟩ | ⟨g, cap, cur, rfl, -⟩
  · exact ⟨none, 0, rfl⟩
  · exact ⟨_, _, rfl⟩
end Go.Proofs.YtgpmngcemnnpmaaDoor

namespace Go.Proofs.YtgpmngcemnnpmaaDoor
open Go.RowKit Go.Sort
/-- how many of the first j teeth have made their step at a time m of the turn -/
def dCnt (d : Dr) (n : Nat) (m : Int) (j : Nat) : Nat := ((List.range j).map (dTime d n)).countP (fun x => decide (x ≤ m))
theorem dCnt_succ (d : Dr) (n : Nat) (m : Int) (j : Nat) : dCnt d n m (j + 1) = dCnt d n m j + (if dTime d n j ≤ m then 1 else 0) := by
  unfold dCnt
  rw [dTimes_succ, List.countP_append, List.countP_singleton]
  simp
theorem dCnt_le (d : Dr) (n : Nat) (m : Int) (j : Nat) : dCnt d n m j ≤ j := by
  unfold dCnt
  have := List.countP_le_length (p := fun x => decide (x ≤ m)) (l := (List.range j).map (dTime d n))
  simpa using this
def dBy (d : Dr) (n : Nat) (tm : Int) : Int := tm / d.t * n + dCnt d n (tm % d.t) n
theorem dTimes_get (d : Dr) (n : Nat) {j : Nat} (hj : j < n) : ∃ h : j < (dTimes d n).length, (dTimes d n)[j] = dTime d n j := by
  refine ⟨by rw [dTimes_len]; omega, ?_⟩
  unfold dTimes
  simp
end Go.Proofs.YtgpmngcemnnpmaaDoor

namespace Go.Proofs.YtgpmngcemnnpmaaDoor
open Go.RowKit Go.Sort
/-! two registers -/
def twoC (a : Int) (xs : List Int) (b : Int) (ys : List Int) : Int := if (vreg a xs && vreg b ys) = false then 1 else if a ≠ b ∨ xs.length ≠ ys.length then 6 else 0
end Go.Proofs.YtgpmngcemnnpmaaDoor

namespace Go.Proofs.YtgpmngcemnnpmaaDoor
open Go.RowKit Go.Sort
end Go.Proofs.YtgpmngcemnnpmaaDoor

namespace Go.Proofs.YtgpmngcemnnpmaaDoor
open Go.RowKit Go.Sort
def carL (b : Int) (xs ys : List Int) (n : Nat) : List Int := (List.range n).map (carK b xs ys)
theorem carL_succ (b : Int) (xs ys : List Int) (n : Nat) : carL b xs ys (n + 1) = carL b xs ys n ++ [carK b xs ys n] := by unfold carL; rw [List.range_succ, List.map_append]; rfl
theorem carL_len (b : Int) (xs ys : List Int) (n : Nat) : (carL b xs ys n).length = n := by simp [carL]
theorem carL_get (b : Int) (xs ys : List Int) {n i : Nat} (h : i < n) : ∃ h' : i < (carL b xs ys n).length, (carL b xs ys n)[i] = carK b xs ys i := ⟨by rw [carL_len]; exact h, by simp [carL]⟩
def ADRet (b : Int) (xs ys : List Int) (w : World) (e : Ending) (w' : World) : Prop := ∃ E ec F fc, e = .returned (.tuple #[.agg #[.int .i64 b, .slice E xs.length ec], .slice F (xs.length + 1) fc]) ∧ Kn w [rowI E ec (addD b xs ys xs.length), rowI F fc (carL b xs ys (xs.length + 1))] w'
end Go.Proofs.YtgpmngcemnnpmaaDoor

namespace Go.Proofs.YtgpmngcemnnpmaaDoor
open Go.RowKit Go.Sort
/-- a register, a number and the code 0 -/
def R3Ret (b : Int) (es : List Int) (c : Int) (w : World) (e : Ending) (w' : World) : Prop := ∃ E ec, e = .returned (.tuple #[.agg #[.int .i64 b, .slice E es.length ec], .int .i64 c, .int .i64 0]) ∧ Kn w [rowI E ec es] w'
theorem add_vreg {b : Int} {xs : List Int} (hb : 2 ≤ b) (hb16 : b ≤ 16) (ys : List Int) (h1 : 1 ≤ xs.length) (h2 : xs.length ≤ 16) (hp : pw b xs.length ≤ 1000000000001) : vreg b (addD b xs ys xs.length) = true :=
  vreg_short hb hb16 (addD_digs hb xs ys _) (by rw [addD_len]; exact h1) (by rw [addD_len]; exact h2) (by rw [addD_len]; exact hp)
end Go.Proofs.YtgpmngcemnnpmaaDoor

namespace Go.Proofs.YtgpmngcemnnpmaaDoor
open Go.RowKit Go.Sort
theorem subD_digs {b : Int} (hb : 2 ≤ b) {xs ys : List Int} (hx : Digs b xs) (hy : Digs b ys) (n : Nat) : Digs b (subD b xs ys n) := fun d hd => by
  obtain ⟨i, -, rfl⟩ := List.mem_map.1 hd
  have h1 := hx.at hb i
  have h2 := hy.at hb i
  have h3 := borK_bd xs ys i
  unfold subK
  split <;> omega
end Go.Proofs.YtgpmngcemnnpmaaDoor

namespace Go.Proofs.YtgpmngcemnnpmaaDoor
open Go.RowKit Go.Sort
/-- what the drawing of a good register returns -/
def DReg7 (b M : Nat) (w : World) (e : Ending) (w' : World) : Prop := ∃ (bs : Int) (A : Option Addr) (c : Nat) (ds : List Int), e = .returned (.agg #[.int .i64 bs, .slice A ds.length c]) ∧ (2 ≤ bs ∧ bs ≤ 12 ∧ 1 ≤ ds.length ∧ ds.length ≤ 7 ∧ ∀ d ∈ ds, 0 ≤ d ∧ d < bs) ∧ DR b M w [rowI A c ds] w'
theorem min7 {q k : Nat} (h : 0 ≤ (q : Int) ∧ ((q : Int) < min 7 (k : Int) ∨ min 7 (k : Int) ≤ 1 ∧ (q : Int) = 0)) : q ≤ 6 := by omega
theorem wrapQ7 {q : Nat} (h : q ≤ 6) : IntKind.i64.wrap (1 + (q : Int)) = ((q + 1 : Nat) : Int) := by rw [wrapI64 (by omega)]; omega
end Go.Proofs.YtgpmngcemnnpmaaDoor

namespace Go.Proofs.YtgpmngcemnnpmaaDoor
open Go.RowKit Go.Sort
/-! strokes that lead back, plainly -/
theorem tmod_wrap (a P : Int) (hP : 0 < P) : (a.tmod P + P).tmod P = a % P := by
  have h1 := Int.lt_tmod_of_pos a hP
  rw [Int.tmod_eq_emod_of_nonneg (by omega), Int.add_emod_right, Int.tmod_def, Int.sub_mul_emod_self_left]
theorem digD_valL (b : Int) (hb : 2 ≤ b) : ∀ ds : List Int, (∀ d ∈ ds, 0 ≤ d ∧ d < b) → valL b ds ≤ 1000000000000 → digD b ds.length (valL b ds) = ds
  | [], _, _ => rfl
  | d :: ds, hd, hl => by
    have hd0 := hd d (List.mem_cons_self ..)
    have hv0 := (valL_bd b hb ds (fun x hx => (hd x (List.mem_cons_of_mem _ hx)).1)).1
    have e1 : valL b (d :: ds) = valL b ds * b + d := by simp only [valL] at hl ⊢; omega
    have h2 : valL b ds * 1 ≤ valL b ds * b := Int.mul_le_mul_of_nonneg_left (by omega) hv0
    have ih := digD_valL b hb ds (fun x hx => hd x (List.mem_cons_of_mem _ hx)) (by omega)
    have h3 : 0 ≤ valL b ds * b + d := by omega
    have e2 : (valL b ds * b + d).tmod b = d := by
      rw [Int.tmod_eq_emod_of_nonneg h3, Int.add_comm, Int.add_mul_emod_self_right]
      exact Int.emod_eq_of_lt hd0.1 hd0.2
    have e3 : (valL b ds * b + d).tdiv b = valL b ds := by
      rw [Int.tdiv_eq_ediv_of_nonneg h3, Int.add_comm, Int.add_mul_ediv_right _ _ (by omega), Int.ediv_eq_zero_of_lt hd0.1 hd0.2, Int.zero_add]
    rw [List.length_cons, digD_cons, e1, e2, e3, ih]
theorem vreg_dig {b : Int} {ds : List Int} (hv : vreg b ds = true) : digD b ds.length (valL b ds) = ds := by
  obtain ⟨⟨b1, b2⟩, -, hd, hl⟩ := vreg_iff.1 hv
  exact digD_valL b b1 ds hd hl
theorem valL_shift {b : Int} {ds : List Int} (x : Int) (hv : vreg b ds = true) (hp : pw b ds.length ≤ 1000000000001) : valL b (shiftD b ds x) = (valL b ds + x) % pw b ds.length := by
  obtain ⟨⟨b1, b2⟩, -, hd, hl⟩ := vreg_iff.1 hv
  have hp1 := pw_pos b b1 ds.length
  unfold shiftD
  rw [tmod_wrap _ _ (by omega)]
  have h1 := Int.emod_nonneg (valL b ds + x) (show pw b ds.length ≠ 0 by omega)
  have h2 := Int.emod_lt_of_pos (valL b ds + x) (show 0 < pw b ds.length by omega)
  exact valL_digD b b1 _ _ h1 h2 (by omega)
theorem shiftD_eq (b : Int) (hb : 2 ≤ b) (ds : List Int) (y : Int) : shiftD b ds y = digD b ds.length ((valL b ds + y) % pw b ds.length) := by
  have hp1 := pw_pos b hb ds.length
  unfold shiftD
  rw [tmod_wrap _ _ (by omega)]
theorem shift_back {b : Int} {ds : List Int} (x y : Int) (hxy : x + y = 0) (hv : vreg b ds = true) (hp : pw b ds.length ≤ 1000000000001) : shiftD b (shiftD b ds x) y = ds := by
  obtain ⟨⟨b1, b2⟩, -, hd, hl⟩ := vreg_iff.1 hv
  have hp1 := pw_pos b b1 ds.length
  have hv0 := (valL_bd b b1 ds (fun x hx => (hd x hx).1)).1
  have hv1 := valL_lt b b1 ds hd
  rw [shiftD_eq b b1 (shiftD b ds x) y, valL_shift x hv hp, shiftD_len, Int.emod_add_emod, Int.add_assoc, hxy, Int.add_zero, Int.emod_eq_of_lt hv0 hv1]
  exact vreg_dig hv
/-- the stroke that leads back -/
def backK (k : Int) : Int := if k = 1 then 2 else if k = 2 then 1 else if k = 3 then 4 else 3
theorem turn_back {t : Tri} (h : vmach t = true) (s s' : Int) (hs : s + s' = 0) : (turnT (turnT t s).1 s').1 = t := by
  obtain ⟨k1, k2, k3, e1, e2, f1, f2, l1, c0, c1⟩ := vmach_all h
  have q1 := shift_back (s * (valL t.a.base t.a.digits * pw t.b.base t.carry.toNat)) (s' * (valL t.a.base t.a.digits * pw t.b.base t.carry.toNat)) (by rw [← Int.add_mul, hs, Int.zero_mul]) k2 f1
  have q2 := shift_back (s * pw t.b.base t.carry.toNat) (s' * pw t.b.base t.carry.toNat) (by rw [← Int.add_mul, hs, Int.zero_mul]) k3 f2
  rw [show (turnT (turnT t s).1 s').1 = ⟨t.a, ⟨t.b.base, shiftD t.b.base (shiftD t.b.base t.b.digits (s * (valL t.a.base t.a.digits * pw t.b.base t.carry.toNat))) (s' * (valL t.a.base t.a.digits * pw t.b.base t.carry.toNat))⟩, ⟨t.s.base, shiftD t.s.base (shiftD t.s.base t.s.digits (s * pw t.b.base t.carry.toNat)) (s' * pw t.b.base t.carry.toNat)⟩, t.carry⟩ from rfl, q1, q2]
theorem stroke_back {t : Tri} (h : vmach t = true) {k : Int} (hk : 1 ≤ k ∧ k ≤ 4) : if (strokeT k t).2 = true ∧ 2 < k then (strokeT k t).1 = t else (strokeT (backK k) (strokeT k t).1).1 = t := by
  obtain ⟨k1, k2, k3, e1, e2, f1, f2, l1, c0, c1⟩ := vmach_all h
  have hk' : k = 1 ∨ k = 2 ∨ k = 3 ∨ k = 4 := by omega
  rcases hk' with rfl | rfl | rfl | rfl
  · rw [if_neg (by omega)]
    exact turn_back h 1 (-1) (by decide)
  · rw [if_neg (by omega)]
    exact turn_back h (-1) 1 (by decide)
  · by_cases hc : t.carry + 1 = vplaces t
    · have e : strokeT 3 t = (t, true) := by simp [strokeT, hc]
      rw [e, if_pos ⟨rfl, by decide⟩]
    · have e : strokeT 3 t = ({ t with carry := t.carry + 1 }, false) := by simp [strokeT, hc]
      rw [e, if_neg (by simp)]
      have h4 : ¬ t.carry + 1 = 0 := by omega
      simp [strokeT, backK, h4]
  · by_cases hc : t.carry = 0
    · have e : strokeT 4 t = (t, true) := by simp [strokeT, hc]
      rw [e, if_pos ⟨rfl, by decide⟩]
    · have e : strokeT 4 t = ({ t with carry := t.carry - 1 }, false) := by simp [strokeT, hc]
      rw [e, if_neg (by simp)]
      have h4 : ¬ t.carry = vplaces t := by omega
      simp only [backK, strokeT]
      simp [vplaces] at h4 ⊢
      simp [h4]
end Go.Proofs.YtgpmngcemnnpmaaDoor

namespace Go.Proofs.YtgpmngcemnnpmaaDoor
open Go.RowKit Go.Sort
theorem compD_take (b : Int) {xs : List Int} {k : Nat} (h : k < xs.length) : compD b (xs.take (k + 1)) = compD b (xs.take k) ++ [b - 1 - xs[k]] := by
  unfold compD; rw [List.take_succ_eq_append_getElem h, List.map_append]; rfl
theorem compD_len (b : Int) (xs : List Int) : (compD b xs).length = xs.length := by simp [compD]
end Go.Proofs.YtgpmngcemnnpmaaDoor

namespace Go.Proofs.YtgpmngcemnnpmaaDoor
open Go.RowKit Go.Sort
/-- two registers of digits of one base and width -/
def A2R (w : World) (e : Ending) (w' : World) : Prop := ∃ (b : Int) (A : Option Addr) (c : Nat) (ds : List Int) (B : Option Addr) (k : Nat) (es : List Int), e = .returned (.tuple #[.agg #[.int .i64 b, .slice A ds.length c], .agg #[.int .i64 b, .slice B ds.length k]]) ∧ ((2 ≤ b ∧ b ≤ 12) ∧ (1 ≤ ds.length ∧ ds.length ≤ 7) ∧ es.length = ds.length ∧ Digs b ds ∧ Digs b es) ∧ Kn w [rowI A c ds, rowI B k es] w'
end Go.Proofs.YtgpmngcemnnpmaaDoor

namespace Go.Proofs.YtgpmngcemnnpmaaDoor
open Go.RowKit Go.Sort
structure Flt where
  kind : Int
  lever : Int
def FltM (w : World) (p : Addr) (f : Flt) : Prop := w.cell? p = some (.int .i64 f.kind) ∧ w.cell? ⟨p.block, p.off + 1, none⟩ = some (.int .i64 f.lever)
theorem steady_FltM : Steady FltM := by
  rintro w w' p f hp hb ⟨h1, h2⟩
  exact ⟨by rw [hb.cell hp]; exact h1, by rw [hb.cell (by exact hp)]; exact h2⟩
def kindAt (fs : List Flt) (j : Int) : Int := fs.foldl (fun a f => if f.lever = j then f.kind else a) 0
theorem kindAt_succ {fs : List Flt} {k : Nat} (h : k < fs.length) (j : Int) : kindAt (fs.take (k + 1)) j = if fs[k].lever = j then fs[k].kind else kindAt (fs.take k) j := by
  unfold kindAt
  rw [List.take_succ_eq_append_getElem h, List.foldl_append]; rfl
def kindsL (fs : List Flt) (n : Nat) : List Int := (List.range n).map (fun (i : Nat) => kindAt fs (i : Int))
theorem kindsL_set {fs : List Flt} {k n l : Nat} (h : k < fs.length) (hl : fs[k].lever = (l : Int)) : ((kindsL (fs.take k) n).map (Value.int .i64)).set l (.int .i64 fs[k].kind) = (kindsL (fs.take (k + 1)) n).map (Value.int .i64) := by
  apply List.ext_getElem
  · simp [kindsL]
  · intro i h1 h2
    rw [List.getElem_set]
    simp only [kindsL, List.map_map, List.getElem_map, List.getElem_range, Function.comp, kindAt_succ h, hl]
    by_cases g : l = i
    · subst g; simp
    · have : ¬ (l : Int) = (i : Int) := by omega
      rw [if_neg g, if_neg this]
theorem kindsL_nil (n : Nat) : (kindsL [] n).map (Value.int .i64) = List.replicate n (.int .i64 0) := by
  apply List.ext_getElem
  · simp [kindsL]
  · intro i h1 h2; simp [kindsL, kindAt]
def GoodF (n : Nat) (fs : List Flt) : Prop := ∀ f ∈ fs, 1 ≤ f.kind ∧ f.kind ≤ 3 ∧ 0 ≤ f.lever ∧ f.lever < n
set_option maxHeartbeats 800000 in
theorem l08Kinds_any (n : Nat) (A : Option Addr) (m c : Nat) (fs : List Flt) (w : World) (hr : RL FltM 2 w A m fs) (hg : GoodF n fs) (hn : n ≤ 16) (hm : m ≤ 9223372036854775807) :
    Calls Tryd.prog 125 #[.int .i64 n, .slice A m c] w fun e w' => ∃ A' c', e = .returned (.slice A' n c') ∧ OwnI w' w.heap.size (.slice A' n c') (kindsL fs n) ∧ Below w.heap.size w w' := by
  have HL := Lib.hid hr.1
  obtain ⟨i0, hi, hz0, hz1, hz2⟩ := info_parts info_i64
  go_enter Tryd.func125, Tryd.ntmps125
  go_wp2_with (at_make; refine wpList_make_full _ rfl _ _ 34 rfl w.heap.size 2 i0 _ 1 Tryd.underlying34 hi hz0 hz1 _ _ _ _ n rfl rfl rfl rfl (by rw [hz2]; omega) (by unfold maxLen; omega) (Nat.le_refl _) ?_; intro w1 hown1 hg1)
  rw [madeI] at hown1
  have hb1 : Below w.heap.size w w1 := (Below.refl _ _).grown hg1 (Nat.le_refl _) (by simp)
  clear hg1
  go_loopw [6] (fun i wr => ∃ k : Nat, k ≤ m ∧ i = .int .i64 k ∧ wr.ownsRow w.heap.size 2 1 (.slice (some ⟨w.heap.size, 0, none⟩) n n) n ((kindsL (fs.take k) n).map (Value.int .i64)) ∧ Below w.heap.size w wr) (fun i _ => m - (intOf i).toNat)
  case atStart => exact ⟨0, Nat.zero_le _, rfl, by rw [List.take_zero, kindsL_nil]; exact hown1, hb1⟩
  case round =>
    obtain ⟨k, hk, rfl, hown, hbr⟩ := hrel
    by_cases hkn : k < m
    · obtain ⟨ad, hA, hlt, hkl, f1, f2⟩ := (hr.below steady_FltM hbr).at_ hkn
      obtain ⟨q1, q2, q3, q4⟩ := hg fs[k] (List.getElem_mem _)
      obtain ⟨l, hl⟩ : ∃ l : Nat, fs[k].lever = l := ⟨fs[k].lever.toNat, by omega⟩
      have hln : l < n := by omega
      have hi0 : (0 : Int) ≤ (k : Int) := by omega
      have hi1 : (k : Int) < (m : Int) := by omega
      have hi2 : (0 : Int) ≤ (l : Int) := by omega
      have hi3 : (l : Int) < (n : Int) := by omega
      rw [hl] at f2
      have HE := Lib.hid (kindsL_set (n := n) hkl hl)
      subst hA
      obtain ⟨u, hu⟩ : ∃ u, ((kindsL (fs.take k) n).map (Value.int .i64))[l]? = some u := ⟨_, List.getElem?_eq_getElem (by rw [hown.1]; omega)⟩
      have hcell := (hown.cellAt l (by omega)).trans hu
      clear hu
      have hfz := hown.frozenAt l
      have hst := Lib.hid (fun (W : World) (h : W.ownsRow w.heap.size 2 1 (.slice (some ⟨w.heap.size, 0, none⟩) n n) n ((kindsL (fs.take k) n).map (Value.int .i64))) => (h.stored l (.int .i64 fs[k].kind)).1)
      have HO := Lib.hid hown
      clear hown hl q3 q4
      go_wp2
      go_region
      all_goals
        go_wp2
        go_roundw
        case rel => exact ⟨k + 1, by omega, by go_num, by rw [← HE.out]; exact hst.out _ HO.out.drew, hbr.drew.setCell (Nat.le_refl _) _⟩
        case measure => simp [intOf]; omega
    · have HK : Hid (k = m) := by simp only [Hid]; omega
      go_wp2
      go_ret
      refine ⟨_, _, rfl, ?_, hbr⟩
      rw [HK.out, List.take_of_length_le (by have := HL.out; omega)] at hown
      unfold OwnI
      simpa [kindsL] using hown
end Go.Proofs.YtgpmngcemnnpmaaDoor

namespace Go.Proofs.YtgpmngcemnnpmaaDoor
open Go.RowKit Go.Sort
def carryAt (base : Int) (A B : List Int) (fs : List Flt) : Nat → Int
  | 0 => 0
  | k + 1 => cstep base (A.getD k 0 + B.getD k 0) (carryAt base A B fs k) (kindAt fs k)
def sumD (base : Int) (A B : List Int) (fs : List Flt) (k : Nat) : Int := (A.getD k 0 + B.getD k 0 + carryAt base A B fs k).tmod base
def sumL (base : Int) (A B : List Int) (fs : List Flt) (n : Nat) : List Int := (List.range n).map (sumD base A B fs)
theorem sumL_succ (base : Int) (A B : List Int) (fs : List Flt) (n : Nat) : sumL base A B fs (n + 1) = sumL base A B fs n ++ [sumD base A B fs n] := by simp [sumL, List.range_succ]
theorem sumL_len (base : Int) (A B : List Int) (fs : List Flt) (n : Nat) : (sumL base A B fs n).length = n := by simp [sumL]
theorem cstep_bd (base t c k : Int) : 0 ≤ cstep base t c k ∧ cstep base t c k ≤ 1 := by unfold cstep; split <;> (try split) <;> (try split) <;> (try split) <;> omega
theorem carryAt_bd (base : Int) (A B : List Int) (fs : List Flt) (k : Nat) : 0 ≤ carryAt base A B fs k ∧ carryAt base A B fs k ≤ 1 := by
  cases k with
  | zero => simp [carryAt]
  | succ k => exact cstep_bd _ _ _ _
set_option maxRecDepth 100000 in
set_option maxHeartbeats 1600000 in
theorem l08Add_any (p q : Addr) (a b : Reg) (A : Option Addr) (m c : Nat) (fs : List Flt) (w : World) (hp : RegM w p a) (hq : RegM w q b) (hpl : p.block < w.heap.size) (hql : q.block < w.heap.size) (hr : RL FltM 2 w A m fs)
    (hab : a.digits.length = b.digits.length) (hn : a.digits.length ≤ 16) (hb1 : 2 ≤ a.base) (hb2 : a.base ≤ 16) (hda : ∀ d ∈ a.digits, 0 ≤ d ∧ d < a.base) (hdb : ∀ d ∈ b.digits, 0 ≤ d ∧ d < a.base)
    (hg : GoodF a.digits.length fs) (hm : m ≤ 9223372036854775807) :
    Calls Tryd.prog 104 #[.pointer (some p), .pointer (some q), .slice A m c] w fun e w' => ∃ A' c', e = .returned (.tuple #[.agg #[.int .i64 a.base, .slice A' a.digits.length c'], .int .i64 (carryAt a.base a.digits b.digits fs a.digits.length)]) ∧
      OwnI w' w.heap.size (.slice A' a.digits.length c') (sumL a.base a.digits b.digits fs a.digits.length) ∧ Below w.heap.size w w' := by
  obtain ⟨A1, c1, ⟨ha0, ha1⟩, hra⟩ := hp
  obtain ⟨A2, c2, ⟨hq0, hq1⟩, hrb⟩ := hq
  obtain ⟨i0, hi, hz0, hz1, hz2⟩ := info_parts info_i64
  have HAB := Lib.hid hab; clear hab
  have hb0 : Below w.heap.size w (w.alloc (.cells #[.int .i64 0, .slice none 0 0] 41)) := (Below.refl _ _).alloc (Nat.le_refl _) _
  have u1 : (w.alloc (.cells #[.int .i64 0, .slice none 0 0] 41)).cell? ⟨p.block, p.off + 1, none⟩ = some (.slice A1 a.digits.length c1) := by rw [hb0.cell (by exact hpl)]; exact ha1
  go_enter Tryd.func104, Tryd.ntmps104
  go_wp2_with fail
  refine (l08Kinds_any a.digits.length A m c fs _ (hr.below steady_FltM hb0) hg hn hm).mono ?_; rintro e w1 ⟨X, x, rfl, ox, hw1⟩
  have hbA : Below w.heap.size w w1 := hb0.trans (hw1.mono (by simp))
  obtain ⟨hc, hf⟩ := bcellB (B := w.heap.size + 1) (hw1.mono (by simp))
  have q0 : w1.cell? ⟨w.heap.size, 0, none⟩ = some (.int .i64 0) := by go_simp
  have q1 : w1.cell? ⟨w.heap.size, 1, none⟩ = some (.slice none 0 0) := by go_simp
  have q2 : w1.frozen? ⟨w.heap.size, 0, none⟩ = false := by go_simp
  have q3 : w1.frozen? ⟨w.heap.size, 1, none⟩ = false := by go_simp
  have z1 : w.heap.size + 1 ≤ w1.heap.size := by have := hw1.size; simpa using this
  have y0 : w1.cell? p = some (.int .i64 a.base) := by rw [hbA.cell hpl]; exact ha0
  have y1 : w1.cell? ⟨p.block, p.off + 1, none⟩ = some (.slice A1 a.digits.length c1) := by rw [hbA.cell (by exact hpl)]; exact ha1
  have y2 : w1.cell? ⟨q.block, q.off + 1, none⟩ = some (.slice A2 b.digits.length c2) := by rw [hbA.cell (by exact hql)]; exact hq1
  have rX : RI w1 X a.digits.length (kindsL fs a.digits.length) := ox.ri
  have rA := hra.below hbA
  have rB := hrb.below hbA
  have pl1 : p.block < w1.heap.size := by omega
  have ql1 : q.block < w1.heap.size := by omega
  clear ha0 ha1 hq0 hq1 hra hrb hr ox u1
  go_wp2_with fail
  go_loopw [11, 10] (fun i cy wr => ∃ (k : Nat) (v : Value), k ≤ a.digits.length ∧ i = .int .i64 k ∧ cy = .int .i64 (carryAt a.base a.digits b.digits fs k) ∧ SumAt wr w1.heap.size a.base v (sumL a.base a.digits b.digits fs k) ∧ Below w1.heap.size w1 wr) (fun i _ _ => a.digits.length - (intOf i).toNat)
  case atStart => exact ⟨0, _, Nat.zero_le _, rfl, rfl, ⟨heap_alloc_new _ _, OwnI.nil _ _⟩, (Below.refl _ _).alloc (Nat.le_refl _) _⟩
  case round =>
    obtain ⟨k, v, hk, rfl, rfl, hS, hbr⟩ := hrel
    have HX := Lib.hid (carryAt_bd a.base a.digits b.digits fs k)
    by_cases hkn : k < a.digits.length
    · obtain ⟨ad1, hA1, hlt1, hk1, hd1⟩ := rA.at_ hkn
      rw [← hbr.cell (by rw [block_of_add]; exact hlt1)] at hd1
      obtain ⟨ad2, hA2, hlt2, hk2, hd2⟩ := rB.at_ (show k < b.digits.length from HAB.out ▸ hkn)
      rw [← hbr.cell (by rw [block_of_add]; exact hlt2)] at hd2
      obtain ⟨ad3, hA3, hlt3, hk3, hd3⟩ := rX.at_ hkn
      rw [← hbr.cell (by rw [block_of_add]; exact hlt3)] at hd3
      have e3 : (kindsL fs a.digits.length)[k] = kindAt fs (k : Int) := by simp [kindsL]
      rw [e3] at hd3
      have b1 := hda _ (List.getElem_mem hk1)
      have b2 := hdb _ (List.getElem_mem hk2)
      have v0 : wr.cell? p = some (.int .i64 a.base) := by rw [hbr.cell pl1]; exact y0
      have v1 : wr.cell? ⟨p.block, p.off + 1, none⟩ = some (.slice A1 a.digits.length c1) := by rw [hbr.cell (by exact pl1)]; exact y1
      have v2 : wr.cell? ⟨q.block, q.off + 1, none⟩ = some (.slice A2 b.digits.length c2) := by rw [hbr.cell (by exact ql1)]; exact y2
      obtain ⟨s1, s2, s3⟩ := hS.cells
      have HC := Lib.hid (show carryAt a.base a.digits b.digits fs (k + 1) = cstep a.base (a.digits[k] + b.digits[k]) (carryAt a.base a.digits b.digits fs k) (kindAt fs k) by rw [← getD_of hk1, ← getD_of hk2]; rfl)
      have HD := Lib.hid (show sumD a.base a.digits b.digits fs k = (a.digits[k] + b.digits[k] + carryAt a.base a.digits b.digits fs k).tmod a.base by rw [← getD_of hk1, ← getD_of hk2]; rfl)
      have hkb : (k : Int) < (b.digits.length : Int) := by have := HAB.out; omega
      have hka : (k : Int) < (a.digits.length : Int) := by omega
      have hk0 : (0 : Int) ≤ (k : Int) := by omega
      obtain ⟨cy, hcy⟩ : ∃ cy, cy = carryAt a.base a.digits b.digits fs k := ⟨_, rfl⟩
      obtain ⟨h0, h1⟩ := HX.out
      obtain ⟨kd, hkd⟩ : ∃ kd, kd = kindAt fs (k : Int) := ⟨_, rfl⟩
      obtain ⟨ak, hak⟩ : ∃ ak, ak = a.digits[k] := ⟨_, rfl⟩
      obtain ⟨bk, hbk⟩ : ∃ bk, bk = b.digits[k] := ⟨_, rfl⟩
      rw [← hcy] at h0 h1
      rw [← hcy, ← hkd, ← hak, ← hbk] at HC
      rw [← hcy, ← hak, ← hbk] at HD
      rw [← hak] at hd1 b1
      rw [← hbk] at hd2 b2
      rw [← hkd] at hd3
      rw [← hcy]
      clear hcy hkd hak hbk e3
      subst hA1; subst hA2; subst hA3
      have hS' := Lib.hid hS
      have HO := Lib.hid (fun (n : Nat) (o : Obj) => World.ownsRow.alloc (w := (wr.drewN n).drew) hS.2 o)
      have hbr' := Lib.hid hbr
      have hGl := hS.lt
      clear hS hbr
      have hB1 := Lib.hid hlt3
      go_wp2
      go_quiet (fail)
      go_wp2
      have nz1 : a.base ≠ 0 := by omega
      have nz2 : (a.base == 0) = false := by simp; omega
      have nz3 : ¬ a.base = 0 := by omega
      have wr2 : IntKind.i64.wrap (ak + bk + cy) = ak + bk + cy := wrapI64 (by omega)
      have sA : ((wr.drewN (nq + 1)).alloc (.cells #[.int .i64 ((ak + bk + cy).tmod a.base)] 2)).cell? ⟨w1.heap.size, 1, none⟩ = some v := by rw [World.cell?_alloc_lt _ _ _ (by exact hGl)]; exact s2
      go_region_law (refine step_append_lies _ rfl (.tmp 50) (.tmp 59) 34 rfl (w1.heap.size + 1) 2 i0 _ 1 8 Tryd.underlying34 hi hz0 hz1 hz2 rfl (by decide) v _ _ (by simp [Act.eval]) (HO.out _ _) ⟨wr.heap.size, 0, none⟩ 1 1 [.int .i64 ((ak + bk + cy).tmod a.base)] (by simp [Act.eval, Act.put]) rfl (World.news_of_block (heap_alloc_new _ _)) (by simp [Value.oneCell']) (by decide) (by rw [sumL_len]; unfold maxLen; omega) (by rw [sumL_len]; omega) (by simp; omega) _ rfl ?_; intro gg cap w2 hown2 hgrow2 hat2 hlt2; obtain ⟨t1, t2, t3, t4⟩ := SumAt.far (w := (wr.drewN nq).drew) hS'.out hgrow2)
      all_goals
        obtain ⟨hS3, hB3⟩ := SumAt.step (w := (wr.drewN nq).drew) hS'.out hgrow2 hown2
        obtain ⟨w3, hw3⟩ : ∃ w3, w3 = w2.setCell ⟨w1.heap.size, 1, none⟩ (.slice (some ⟨gg, 0, none⟩) ((sumL a.base a.digits b.digits fs k).length + 1) cap) := ⟨_, rfl⟩
        rw [← hw3] at hS3 hB3
        have hb3 : Below w1.heap.size wr w3 := (below_drewN (Below.refl w1.heap.size wr) (nq + 1)).trans (hB3 _ (Nat.le_refl _))
        have x0 : w3.cell? p = some (.int .i64 a.base) := by rw [hb3.cell pl1]; exact v0
        have x3 : w3.cell? (ad3.add k) = some (.int .i64 kd) := by rw [hb3.cell (by rw [block_of_add]; exact hB1.out)]; exact hd3
        clear hgrow2 hown2 t1 t2 t3 t4 sA hat2
        rw [← hw3]
        clear hw3
        go_wp2
        go_quiet ((go_at_call 126; exact quiet_left (l08Carry_any _ _ _ _ _ (by omega) (by omega) h0 h1)))
        go_wp2
        go_roundw
        case rel => exact ⟨k + 1, _, by omega, by go_num, by rw [HC.out], by rw [sumL_succ, HD.out]; exact hS3, hbr'.out.trans (below_drewN hb3 _)⟩
        case measure => simp [intOf]; omega
    · have HK : Hid (k = a.digits.length) := by simp only [Hid]; omega
      have v1 : wr.cell? ⟨p.block, p.off + 1, none⟩ = some (.slice A1 a.digits.length c1) := by rw [hbr.cell (by exact pl1)]; exact y1
      obtain ⟨s1, s2, s3⟩ := hS.cells
      have m0 : wr.cell? ⟨w.heap.size, 0, none⟩ = some (.int .i64 0) := by rw [hbr.cell (by exact z1)]; exact q0
      have m1 : wr.cell? ⟨w.heap.size, 1, none⟩ = some (.slice none 0 0) := by rw [hbr.cell (by exact z1)]; exact q1
      have m2 : wr.frozen? ⟨w.heap.size, 0, none⟩ = false := by rw [hbr.frozen (by exact z1)]; exact q2
      have m3 : wr.frozen? ⟨w.heap.size, 1, none⟩ = false := by rw [hbr.frozen (by exact z1)]; exact q3
      obtain ⟨A', c', rfl, hri, hge⟩ := hS.2.reads
      have hO := Lib.hid hS.2
      have hbr' := Lib.hid hbr
      clear hS hbr
      go_wp2_with fail
      refine bodyPost_ret (v := .tuple #[.agg #[.int .i64 a.base, .slice A' (sumL a.base a.digits b.digits fs k).length c'], .int .i64 (carryAt a.base a.digits b.digits fs k)]) (by simp [results, Tryd.results104, go_sem, m0, m1, m2, m3]) rfl ⟨A', c', ?_, ?_, ?_⟩
      · rw [HK.out, sumL_len]
      · have h1 := hO.out
        rw [HK.out] at h1
        rw [sumL_len] at h1
        exact (((h1.setBelow (by simp <;> omega) _).setBelow (by simp <;> omega) _)).mono (by omega)
      · exact ((hbA.trans (hbr'.out.mono (by omega))).setCell (by simp) _).setCell (by simp) _
end Go.Proofs.YtgpmngcemnnpmaaDoor

namespace Go.Proofs.YtgpmngcemnnpmaaDoor
open Go.RowKit Go.Sort Go.Maps
theorem law_i64 : Keyed Tryd.prog 2 := int_keyed Tryd.underlying2
theorem zero_i64 (w : World) : (zeroValue 2).run Tryd.prog w = .ok (.int .i64 0) w := by kernel_rfl
def MapIs (D : DataW Unit) (fs : List Flt) : Prop := IsMap D ∧ ∀ j : Int, D.atKey (.int .i64 j) (.lit (.int .i64 0)) = .lit (.int .i64 (kindAt fs j))
theorem MapIs.nil : MapIs (.map []) [] := ⟨⟨_, rfl⟩, fun _ => rfl⟩
theorem MapIs.put {D : DataW Unit} {fs : List Flt} {k : Nat} (h : MapIs D (fs.take k)) (hk : k < fs.length) : MapIs (D.put (.int .i64 fs[k].lever) (.lit (.int .i64 fs[k].kind))) (fs.take (k + 1)) := by
  obtain ⟨h1, h2⟩ := h
  refine ⟨?_, fun j => ?_⟩
  · obtain ⟨es, rfl⟩ := h1
    exact ⟨_, rfl⟩
  · rw [kindAt_succ hk]
    by_cases g : fs[k].lever = j
    · rw [if_pos g, g, atKey_put_same h1 (by trivial)]
    · rw [if_neg g, atKey_put_other (by intro e; injection e with _ e; exact g e.symm), h2]
theorem qstep (base t c : Int) (h0 : 0 ≤ t + c) (h1 : t + c < 2 * base) : (t + c) / base = if t + c < base then 0 else 1 := by
  split
  · rename_i h; exact Int.ediv_eq_zero_of_lt h0 h
  · rename_i h
    have hb : 0 < base := by omega
    rw [show t + c = (t + c - base) + 1 * base by omega, Int.add_mul_ediv_right _ _ (by omega), Int.ediv_eq_zero_of_lt (by omega) (by omega)]; rfl
theorem carry_1 {base t c cc : Int} (h : (cc == 1) = true) : cstep base t c cc = 0 := by unfold cstep; rw [if_pos (by simpa using h)]
theorem carry_2 {base t c cc : Int} (h1 : (cc == 1) = false) (h : (cc == 2) = true) : cstep base t c cc = 1 := by unfold cstep; rw [if_neg (by simpa using h1), if_pos (by simpa using h)]
theorem carry_3 {base t c cc : Int} (h1 : (cc == 1) = false) (h2 : (cc == 2) = false) (h : (cc == 3) = true) (hq : t / base = if t < base then 0 else 1) : cstep base t c cc = t / base := by
  unfold cstep; rw [if_neg (by simpa using h1), if_neg (by simpa using h2), if_pos (by simpa using h), hq]
theorem carry_4 {base t c cc : Int} (h1 : (cc == 1) = false) (h2 : (cc == 2) = false) (h : (cc == 3) = false) (hq : (t + c) / base = if t + c < base then 0 else 1) : cstep base t c cc = (t + c) / base := by
  unfold cstep; rw [if_neg (by simpa using h1), if_neg (by simpa using h2), if_neg (by simpa using h), hq]
theorem ownsMap_below {w w' : World} {k e : TypeId} {b n : Nat} {D : DataW Unit} (h : w.ownsMap Tryd.prog k (plainElem Tryd.prog e) b n D) (hb : Below w.heap.size w w') : w'.ownsMap Tryd.prog k (plainElem Tryd.prog e) b n D := by
  have hlt := h.lt
  obtain ⟨es, clock, h1, F, hs, hD⟩ := h
  exact ⟨es, clock, (hb.block b hlt).trans h1, F, hs, hD⟩
set_option maxRecDepth 100000 in
set_option maxHeartbeats 3200000 in
theorem addedWith_any (a b : Reg) (A1 A2 : Option Addr) (c1 c2 : Nat) (A : Option Addr) (m c : Nat) (fs : List Flt) (w : World) (hra : RI w A1 a.digits.length a.digits) (hrb : RI w A2 b.digits.length b.digits) (hr : RL FltM 2 w A m fs)
    (hab : a.digits.length = b.digits.length) (hn : a.digits.length ≤ 16) (hb1 : 2 ≤ a.base) (hb2 : a.base ≤ 16) (hda : ∀ d ∈ a.digits, 0 ≤ d ∧ d < a.base) (hdb : ∀ d ∈ b.digits, 0 ≤ d ∧ d < a.base)
    (hg : GoodF a.digits.length fs) (hm : m ≤ 1000000) :
    Calls Tryd.prog 40 #[.agg #[.int .i64 a.base, .slice A1 a.digits.length c1], .agg #[.int .i64 b.base, .slice A2 b.digits.length c2], .slice A m c] w fun e w' => ∃ A' c', e = .returned (.tuple #[.agg #[.int .i64 a.base, .slice A' a.digits.length c'], .int .i64 (carryAt a.base a.digits b.digits fs a.digits.length)]) ∧
      OwnI w' w.heap.size (.slice A' a.digits.length c') (sumL a.base a.digits b.digits fs a.digits.length) ∧ Below w.heap.size w w' := by
  have hmm := @run_makeMap Tryd.prog
  have HL := Lib.hid hr.1
  obtain ⟨i0, hi, hz0, hz1, hz2⟩ := info_parts info_i64
  have HAB := Lib.hid hab; clear hab
  have hb0 : Below w.heap.size w (((w.alloc (.cells #[.int .i64 a.base, .slice A1 a.digits.length c1] 41)).alloc (.cells #[.int .i64 b.base, .slice A2 b.digits.length c2] 41)).alloc (.cells #[.int .i64 0, .slice none 0 0] 41)) := (((Below.refl _ _).alloc (Nat.le_refl _) _).alloc (by simp) _).alloc (by simp <;> omega) _
  go_enter Tryd.func40, Tryd.ntmps40
  go_wp2_with fail
  go_loopw [20] (fun i wr => ∃ (k : Nat) (D : DataW Unit), k ≤ m ∧ i = .int .i64 k ∧ wr.ownsMap Tryd.prog 2 (plainElem Tryd.prog 2) (w.heap.size + 3) k D ∧ MapIs D (fs.take k) ∧ Below (w.heap.size + 3) (((w.alloc (.cells #[.int .i64 a.base, .slice A1 a.digits.length c1] 41)).alloc (.cells #[.int .i64 b.base, .slice A2 b.digits.length c2] 41)).alloc (.cells #[.int .i64 0, .slice none 0 0] 41)) wr) (fun i _ => m - (intOf i).toNat)
  case atStart => exact ⟨0, .map [], Nat.zero_le _, rfl, by have h := World.ownsMap_made (((w.alloc (.cells #[.int .i64 a.base, .slice A1 a.digits.length c1] 41)).alloc (.cells #[.int .i64 b.base, .slice A2 b.digits.length c2] 41)).alloc (.cells #[.int .i64 0, .slice none 0 0] 41)) Tryd.prog 2 (plainElem (H := Unit) Tryd.prog 2); rw [show ((((w.alloc (.cells #[.int .i64 a.base, .slice A1 a.digits.length c1] 41)).alloc (.cells #[.int .i64 b.base, .slice A2 b.digits.length c2] 41)).alloc (.cells #[.int .i64 0, .slice none 0 0] 41))).heap.size = w.heap.size + 3 by simp] at h; exact h, by rw [List.take_zero]; exact MapIs.nil, (Below.refl _ _).alloc (by simp) _⟩
  case round =>
    obtain ⟨k, D, hk, rfl, hown, hMI, hbr⟩ := hrel
    have hbw : Below w.heap.size w wr := hb0.trans (hbr.mono (by omega))
    by_cases hkn : k < m
    · obtain ⟨ad, hA, hlt, hkl, f1, f2⟩ := (hr.below steady_FltM hbw).at_ hkn
      obtain ⟨q1, q2, q3, q4⟩ := hg fs[k] (List.getElem_mem _)
      have hi0 : (0 : Int) ≤ (k : Int) := by omega
      have hi1 : (k : Int) < (m : Int) := by omega
      subst hA
      have hz : w.heap.size + 3 ≤ wr.heap.size := by have := hbr.size; simpa using this
      go_wp2_with (at_mapUpdate; refine wpList_mapUpdate_own _ rfl _ _ _ 69 rfl 2 2 law_i64 Tryd.underlying69 _ (w.heap.size + 3) k _ rfl (hown.alloc _) (by unfold maxLen; omega) _ _ _ rfl rfl (keyOf_int_mk Tryd.underlying2 (WalkArith.wf_i64 (by omega))) _ [] (plainElem_int Tryd.underlying2 (WalkArith.wf_i64 (by omega))) ?_; intro w1 hown1 hgrow1)
      go_roundw
      case rel => exact ⟨k + 1, _, by omega, by go_num, hown1, hMI.put hkl, (hbr.alloc (by omega) _).grown hgrow1 (by simp; omega) (fun j hj => by cases hj; omega)⟩
      case measure => simp [intOf]; omega
    · have HK : Hid (k = m) := by simp only [Hid]; omega
      have hMI' : MapIs D fs := by have := hMI; rwa [HK.out, List.take_of_length_le (by have := HL.out; omega)] at this
      clear hMI
      have hz : w.heap.size + 3 ≤ wr.heap.size := by have := hbr.size; simpa using this
      obtain ⟨hc, hf⟩ := bcellB hbr
      have y0 : wr.cell? ⟨w.heap.size, 0, none⟩ = some (.int .i64 a.base) := by go_simp
      have y1 : wr.cell? ⟨w.heap.size, 1, none⟩ = some (.slice A1 a.digits.length c1) := by go_simp
      have y2 : wr.cell? ⟨w.heap.size + 1, 1, none⟩ = some (.slice A2 b.digits.length c2) := by go_simp
      have q0 : wr.cell? ⟨w.heap.size + 2, 0, none⟩ = some (.int .i64 0) := by go_simp
      have q1 : wr.cell? ⟨w.heap.size + 2, 1, none⟩ = some (.slice none 0 0) := by go_simp
      have q2 : wr.frozen? ⟨w.heap.size + 2, 0, none⟩ = false := by go_simp
      have q3 : wr.frozen? ⟨w.heap.size + 2, 1, none⟩ = false := by go_simp
      have rA := hra.below hbw
      have rB := hrb.below hbw
      clear hc hf hra hrb hr hbr hmm hg
      obtain ⟨w1, rfl⟩ : ∃ w1 : World, w1 = wr := ⟨_, rfl⟩
      have yA : (w1.alloc (.cells #[.int .i64 a.base, .slice none 0 0] 41)).cell? ⟨w.heap.size, 1, none⟩ = some (.slice A1 a.digits.length c1) := by rw [World.cell?_alloc_lt _ _ _ (by exact (by omega : w.heap.size < w1.heap.size))]; exact y1
      go_wp2_with fail
      clear yA
      go_loopw [36, 12] (fun i cy wr => ∃ (k : Nat) (v : Value), k ≤ a.digits.length ∧ i = .int .i64 k ∧ cy = .int .i64 (carryAt a.base a.digits b.digits fs k) ∧ SumAt wr w1.heap.size a.base v (sumL a.base a.digits b.digits fs k) ∧ Below w1.heap.size w1 wr) (fun i _ _ => a.digits.length - (intOf i).toNat)
      case atStart => exact ⟨0, _, Nat.zero_le _, rfl, rfl, ⟨heap_alloc_new _ _, OwnI.nil _ _⟩, (Below.refl _ _).alloc (Nat.le_refl _) _⟩
      case round =>
        obtain ⟨k, v, hk, rfl, rfl, hS, hbr⟩ := hrel
        have HX := Lib.hid (carryAt_bd a.base a.digits b.digits fs k)
        by_cases hkn : k < a.digits.length
        · obtain ⟨ad1, hA1, hlt1, hk1, hd1⟩ := rA.at_ hkn
          rw [← hbr.cell (by rw [block_of_add]; exact hlt1)] at hd1
          obtain ⟨ad2, hA2, hlt2, hk2, hd2⟩ := rB.at_ (show k < b.digits.length from HAB.out ▸ hkn)
          rw [← hbr.cell (by rw [block_of_add]; exact hlt2)] at hd2
          have b1 := hda _ (List.getElem_mem hk1)
          have b2 := hdb _ (List.getElem_mem hk2)
          have v0 : wr.cell? ⟨w.heap.size, 0, none⟩ = some (.int .i64 a.base) := by rw [hbr.cell (by exact (by omega : w.heap.size < w1.heap.size))]; exact y0
          have v2 : wr.cell? ⟨w.heap.size + 1, 1, none⟩ = some (.slice A2 b.digits.length c2) := by rw [hbr.cell (by exact (by omega : w.heap.size + 1 < w1.heap.size))]; exact y2
          obtain ⟨s1, s2, s3⟩ := hS.cells
          have HC := Lib.hid (show carryAt a.base a.digits b.digits fs (k + 1) = cstep a.base (a.digits[k] + b.digits[k]) (carryAt a.base a.digits b.digits fs k) (kindAt fs k) by rw [← getD_of hk1, ← getD_of hk2]; rfl)
          have HD := Lib.hid (show sumD a.base a.digits b.digits fs k = (a.digits[k] + b.digits[k] + carryAt a.base a.digits b.digits fs k).tmod a.base by rw [← getD_of hk1, ← getD_of hk2]; rfl)
          have hkb : (k : Int) < (b.digits.length : Int) := by have := HAB.out; omega
          have hka : (k : Int) < (a.digits.length : Int) := by omega
          have hk0 : (0 : Int) ≤ (k : Int) := by omega
          obtain ⟨cy, hcy⟩ : ∃ cy, cy = carryAt a.base a.digits b.digits fs k := ⟨_, rfl⟩
          obtain ⟨h0, h1⟩ := HX.out
          obtain ⟨ak, hak⟩ : ∃ ak, ak = a.digits[k] := ⟨_, rfl⟩
          obtain ⟨bk, hbk⟩ : ∃ bk, bk = b.digits[k] := ⟨_, rfl⟩
          rw [← hcy] at h0 h1
          rw [← hcy, ← hak, ← hbk] at HC
          rw [← hcy, ← hak, ← hbk] at HD
          rw [← hak] at hd1 b1
          rw [← hbk] at hd2 b2
          rw [← hcy]
          clear hcy hak hbk
          subst hA1; subst hA2
          have hS' := Lib.hid hS
          have HO := Lib.hid (fun (o : Obj) => World.ownsRow.alloc (w := wr.drew) hS.2 o)
          have hbr' := Lib.hid hbr
          have hGl := hS.lt
          clear hS hbr
          go_wp2
          have nz1 : a.base ≠ 0 := by omega
          have wr2 : IntKind.i64.wrap (ak + bk + cy) = ak + bk + cy := wrapI64 (by omega)
          have sA : (wr.drew.alloc (.cells #[.int .i64 ((ak + bk + cy).tmod a.base)] 2)).cell? ⟨w1.heap.size, 1, none⟩ = some v := by rw [World.cell?_alloc_lt _ _ _ (by exact hGl)]; exact s2
          have sB : (wr.drew.alloc (.cells #[.int .i64 ((ak + bk + cy).tmod a.base)] 2)).cell? ⟨w.heap.size, 0, none⟩ = some (.int .i64 a.base) := by rw [World.cell?_alloc_lt _ _ _ (by exact (by omega : w.heap.size < wr.heap.size))]; exact v0
          go_region_law (refine step_append_lies _ rfl (.tmp 49) (.tmp 56) 34 rfl (w1.heap.size + 1) 2 i0 _ 1 8 Tryd.underlying34 hi hz0 hz1 hz2 rfl (by decide) v _ _ (by simp [Act.eval]) (HO.out _) ⟨wr.heap.size, 0, none⟩ 1 1 [.int .i64 ((ak + bk + cy).tmod a.base)] (by simp [Act.eval]) rfl (World.news_of_block (heap_alloc_new _ _)) (by simp [Value.oneCell']) (by decide) (by rw [sumL_len]; unfold maxLen; omega) (by rw [sumL_len]; omega) (by simp; omega) _ rfl ?_; intro gg cap w2 hown2 hgrow2 hat2 hlt2; obtain ⟨t1, t2, t3, t4⟩ := SumAt.far (w := wr.drew) hS'.out hgrow2)
          all_goals
            obtain ⟨hS3, hB3⟩ := SumAt.step (w := wr.drew) hS'.out hgrow2 hown2
            obtain ⟨w3, hw3⟩ : ∃ w3, w3 = w2.setCell ⟨w1.heap.size, 1, none⟩ (.slice (some ⟨gg, 0, none⟩) ((sumL a.base a.digits b.digits fs k).length + 1) cap) := ⟨_, rfl⟩
            rw [← hw3] at hS3 hB3
            have hb3 : Below w1.heap.size wr w3 := (below_drewN (Below.refl w1.heap.size wr) 1).trans (hB3 _ (Nat.le_refl _))
            have x0 : w3.cell? ⟨w.heap.size, 0, none⟩ = some (.int .i64 a.base) := by rw [hb3.cell (by exact (by omega : w.heap.size < w1.heap.size))]; exact v0
            have hM3 := ownsMap_below hown (hbr'.out.trans hb3)
            clear hgrow2 hown2 t1 t2 t3 t4 sA sB hat2
            rw [← hw3]
            clear hw3
            go_wp2_with (at_lookup; refine wpList_lookup_own_int _ rfl _ _ 69 rfl 2 2 .i64 law_i64 Tryd.underlying69 Tryd.underlying2 (zero_i64 _) (w.heap.size + 3) _ _ rfl hM3 _ _ rfl (keyOf_int_mk Tryd.underlying2 (WalkArith.wf_i64 (by omega))) ?_; intro cc hat hwc)
            all_goals
              have hcc : kindAt fs (k : Int) = cc := by
                have h := hMI'.2 (k : Int)
                rw [hat] at h
                injection h with h; injection h with _ h; exact h.symm
              rw [hcc] at HC
              have g1 := qstep a.base (ak + bk) cy (by omega) (by omega)
              have g2 := qstep a.base (ak + bk) 0 (by omega) (by omega)
              rw [Int.add_zero] at g2
              have HQ := Lib.hid g1
              have HQ2 := Lib.hid g2
              clear g1 g2
              go_roundw
              case rel =>
                refine ⟨k + 1, _, by omega, by go_num, ?_, by rw [sumL_succ, HD.out]; exact hS3, hbr'.out.trans hb3⟩
                rw [HC.out]
                first
                  | exact congrArg (Value.int .i64) (carry_1 (by assumption)).symm
                  | exact congrArg (Value.int .i64) (carry_2 (by assumption) (by assumption)).symm
                  | exact congrArg (Value.int .i64) (carry_3 (by assumption) (by assumption) (by assumption) HQ2.out).symm
                  | exact congrArg (Value.int .i64) (carry_4 (by assumption) (by assumption) (by assumption) HQ.out).symm
              case measure => simp [intOf]; omega
        · have HK : Hid (k = a.digits.length) := by simp only [Hid]; omega
          have m0 : wr.cell? ⟨w.heap.size + 2, 0, none⟩ = some (.int .i64 0) := by rw [hbr.cell (by exact (by omega : w.heap.size + 2 < w1.heap.size))]; exact q0
          have m1 : wr.cell? ⟨w.heap.size + 2, 1, none⟩ = some (.slice none 0 0) := by rw [hbr.cell (by exact (by omega : w.heap.size + 2 < w1.heap.size))]; exact q1
          have m2 : wr.frozen? ⟨w.heap.size + 2, 0, none⟩ = false := by rw [hbr.frozen (by exact (by omega : w.heap.size + 2 < w1.heap.size))]; exact q2
          have m3 : wr.frozen? ⟨w.heap.size + 2, 1, none⟩ = false := by rw [hbr.frozen (by exact (by omega : w.heap.size + 2 < w1.heap.size))]; exact q3
          obtain ⟨s1, s2, s3⟩ := hS.cells
          obtain ⟨A', c', rfl, hri, hge⟩ := hS.2.reads
          have hO := Lib.hid hS.2
          have hbr' := Lib.hid hbr
          clear hS hbr
          go_wp2_with fail
          refine bodyPost_ret (v := .tuple #[.agg #[.int .i64 a.base, .slice A' (sumL a.base a.digits b.digits fs k).length c'], .int .i64 (carryAt a.base a.digits b.digits fs k)]) (by simp [results, Tryd.results40, go_sem, m0, m1, m2, m3]) rfl ⟨A', c', ?_, ?_, ?_⟩
          · rw [HK.out, sumL_len]
          · have h1 := hO.out
            rw [HK.out] at h1
            rw [sumL_len] at h1
            exact (((h1.setBelow (by simp <;> omega) _).setBelow (by simp <;> omega) _)).mono (by omega)
          · exact ((hbw.trans (hbr'.out.mono (by omega))).setCell (by simp <;> omega) _).setCell (by simp <;> omega) _
end Go.Proofs.YtgpmngcemnnpmaaDoor

namespace Go.Proofs.YtgpmngcemnnpmaaDoor
open Go.RowKit Go.Sort
def TOK (t : Tri) : Prop := t.a.digits.length = t.b.digits.length ∧ t.a.digits.length ≤ 16 ∧ 2 ≤ t.a.base ∧ t.a.base ≤ 16 ∧ (∀ d ∈ t.a.digits, 0 ≤ d ∧ d < t.a.base) ∧ (∀ d ∈ t.b.digits, 0 ≤ d ∧ d < t.a.base) ∧ SmallTri t
theorem tok_of {r0 : Reg} {t : Tri} (h : triGood r0 t = true) (hs : SmallTri t) : TOK t := by
  simp only [triGood, vlike, Bool.and_eq_true, decide_eq_true_eq, beq_iff_eq] at h
  obtain ⟨⟨⟨⟨⟨h1, h2⟩, h3⟩, ⟨h4, h5⟩, h6⟩, -⟩, -⟩ := h
  obtain ⟨⟨p1, p2⟩, ⟨-, p4⟩, p5, -⟩ := vreg_iff.1 h1
  obtain ⟨-, -, q5, -⟩ := vreg_iff.1 h4
  refine ⟨by omega, by omega, p1, p2, p5, ?_, hs⟩
  rw [h2, ← h5]; exact q5
def sumReg (t : Tri) (fs : List Flt) : Reg := ⟨t.a.base, sumL t.a.base t.a.digits t.b.digits fs t.a.digits.length⟩
def expl (t : Tri) (fs : List Flt) : Bool := sameR (sumReg t fs) t.s && (carryAt t.a.base t.a.digits t.b.digits fs t.a.digits.length == t.carry)
set_option maxHeartbeats 1600000 in
theorem explained_any (t : Tri) (A1 A2 A3 : Option Addr) (c1 c2 c3 : Nat) (A : Option Addr) (m c : Nat) (fs : List Flt) (w : World) (r1 : RI w A1 t.a.digits.length t.a.digits) (r2 : RI w A2 t.b.digits.length t.b.digits) (r3 : RI w A3 t.s.digits.length t.s.digits)
    (hr : RL FltM 2 w A m fs) (ht : TOK t) (hg : GoodF t.a.digits.length fs) (hm : m ≤ 1000000) :
    Calls Tryd.prog 46 #[.agg #[.int .i64 t.a.base, .slice A1 t.a.digits.length c1, .int .i64 t.b.base, .slice A2 t.b.digits.length c2, .int .i64 t.s.base, .slice A3 t.s.digits.length c3, .int .i64 t.carry], .slice A m c] w fun e w' => e = .returned (.bool (expl t fs)) ∧ Below w.heap.size w w' := by
  obtain ⟨t1, t2, t3, t4, t5, t6, -, -, s3⟩ := ht
  unfold SmallReg at s3
  have hb0 : Below w.heap.size w (w.alloc (.cells #[.int .i64 t.a.base, .slice A1 t.a.digits.length c1, .int .i64 t.b.base, .slice A2 t.b.digits.length c2, .int .i64 t.s.base, .slice A3 t.s.digits.length c3, .int .i64 t.carry] 43)) := (Below.refl _ _).alloc (Nat.le_refl _) _
  have T1 := Lib.hid t1; clear t1
  go_enter Tryd.func46, Tryd.ntmps46
  go_wp2_with fail
  refine (addedWith_any t.a t.b A1 A2 c1 c2 A m c fs _ (r1.below hb0) (r2.below hb0) (hr.below steady_FltM hb0) T1.out t2 t3 t4 t5 t6 hg hm).mono ?_; rintro e w1 ⟨X, x, rfl, ox, hw1⟩
  have hb1 : Below w.heap.size w w1 := hb0.trans (hw1.mono (by simp))
  obtain ⟨hc, hf⟩ := bcellB (B := w.heap.size + 1) (hw1.mono (by simp))
  have z1 : w.heap.size + 1 ≤ w1.heap.size := by have := hw1.size; simpa using this
  have rX := ox.ri
  have hl := sumL_len t.a.base t.a.digits t.b.digits fs t.a.digits.length
  have x0 : w1.cell? ⟨w.heap.size, 4, none⟩ = some (.int .i64 t.s.base) := by go_simp
  have x1 : w1.cell? ⟨w.heap.size, 5, none⟩ = some (.slice A3 t.s.digits.length c3) := by go_simp
  have x2 : w1.cell? ⟨w.heap.size, 6, none⟩ = some (.int .i64 t.carry) := by go_simp
  have hbA : Below w1.heap.size w1 (w1.alloc (.cells #[.int .i64 t.a.base, .slice X t.a.digits.length x] 41)) := (Below.refl _ _).alloc (Nat.le_refl _) _
  have y0 : (w1.alloc (.cells #[.int .i64 t.a.base, .slice X t.a.digits.length x] 41)).cell? ⟨w.heap.size, 4, none⟩ = some (.int .i64 t.s.base) := by rw [hbA.cell (by exact z1)]; exact x0
  have y1 : (w1.alloc (.cells #[.int .i64 t.a.base, .slice X t.a.digits.length x] 41)).cell? ⟨w.heap.size, 5, none⟩ = some (.slice A3 t.s.digits.length c3) := by rw [hbA.cell (by exact z1)]; exact x1
  have y2 : (w1.alloc (.cells #[.int .i64 t.a.base, .slice X t.a.digits.length x] 41)).cell? ⟨w.heap.size, 6, none⟩ = some (.int .i64 t.carry) := by rw [hbA.cell (by exact z1)]; exact x2
  have K := SameRegister_any (sumReg t fs) t.s X A3 x c3 (w1.alloc (.cells #[.int .i64 t.a.base, .slice X t.a.digits.length x] 41)) (by show RI _ X (sumL t.a.base t.a.digits t.b.digits fs t.a.digits.length).length _; rw [hl]; exact rX.below hbA) ((r3.below hb1).below hbA) (by unfold SmallReg sumReg; simp only; omega) s3
  rw [show (sumReg t fs).digits.length = t.a.digits.length from hl] at K
  have KK := Lib.hid K
  clear K hc hf ox hl
  rcases k : sameR (sumReg t fs) t.s with _ | _
  all_goals
    have HF := Lib.hid (show expl t fs = (sameR (sumReg t fs) t.s && (carryAt t.a.base t.a.digits t.b.digits fs t.a.digits.length == t.carry)) from rfl)
    have K1 := Lib.hid k; clear k
    obtain ⟨cy, hcy⟩ : ∃ cy, cy = carryAt t.a.base t.a.digits t.b.digits fs t.a.digits.length := ⟨_, rfl⟩
    rw [← hcy] at HF
    rw [← hcy]
    clear hcy
    go_wp2_with fail
    refine (calls_val KK.out (congrArg Value.bool K1.out)).mono ?_; rintro e w2 ⟨rfl, hw2⟩
    have hb2 := hb1.trans ((hbA.mono (by omega)).trans (hw2.mono (by simp; omega)))
    have u2 : w2.cell? ⟨w.heap.size, 6, none⟩ = some (.int .i64 t.carry) := by rw [hw2.cell (by simp; omega)]; exact y2
    go_wp2
    go_ret
    exact ⟨ret_bool (by rw [HF.out, K1.out]; rfl), hb2⟩
end Go.Proofs.YtgpmngcemnnpmaaDoor

namespace Go.Proofs.YtgpmngcemnnpmaaDoor
open Go.RowKit Go.Sort
def Asc (fs : List Flt) : Prop := ∀ (k : Nat) (h : k + 1 < fs.length), (fs[k]'(by omega)).lever < fs[k + 1].lever
def vexpl (ts : List Tri) (fs : List Flt) : Bool := ts.all (fun t => expl t fs)
theorem between_b (a b c : Int) (w : World) : Calls Tryd.prog 71 #[.int .i64 a, .int .i64 b, .int .i64 c] w fun e w' => e = .returned (.bool (betB a b c)) ∧ Below w.heap.size w w' :=
  (between_any a b c w).mono fun _ _ ⟨h, e⟩ => ⟨h, e ▸ Below.refl _ _⟩
theorem isFault_any (n : Nat) (f : Flt) (w : World) (hn : n ≤ 16) (h1 : 1 ≤ f.kind) (h2 : f.kind ≤ 3) (h3 : 0 ≤ f.lever) (h4 : f.lever < n) :
    Calls Tryd.prog 72 #[.int .i64 n, .agg #[.int .i64 f.kind, .int .i64 f.lever]] w fun e w' => e = .returned (.bool true) ∧ Below w.heap.size w w' := by
  have k1 : betB f.kind 1 3 = true := betB_iff.2 ⟨h1, h2⟩
  have k2 : betB f.lever 0 (n - 1) = true := betB_iff.2 ⟨h3, by omega⟩
  have K1 := Lib.hid k1; have K2 := Lib.hid k2
  clear k1 k2
  go_enter Tryd.func72, Tryd.ntmps72
  go_wp2_with (go_at_call 71; refine (between_any _ _ _ _).mono ?_; rintro e w' ⟨rfl, rfl⟩; first | rw [K1.out] | rw [K2.out])
  go_ret
  exact ⟨rfl, (Below.refl _ _).alloc (Nat.le_refl _) _⟩
set_option maxHeartbeats 1600000 in
theorem ValidFaults_true (n : Nat) (A : Option Addr) (m c : Nat) (fs : List Flt) (w : World) (hr : RL FltM 2 w A m fs) (hg : GoodF n fs) (ha : Asc fs) (hn1 : 1 ≤ n) (hn : n ≤ 16) (hm : m ≤ 1000000) :
    Calls Tryd.prog 38 #[.int .i64 n, .slice A m c] w fun e w' => e = .returned (.bool true) ∧ Below w.heap.size w w' := by
  have HL := Lib.hid hr.1
  go_enter Tryd.func38, Tryd.ntmps38
  go_wp2
  go_loopw [9] (fun i wr => ∃ k : Nat, k ≤ m ∧ i = .int .i64 k ∧ Below w.heap.size w wr) (fun i _ => m - (intOf i).toNat)
  case atStart => exact ⟨0, Nat.zero_le _, rfl, Below.refl _ _⟩
  case round =>
    obtain ⟨k, hk, rfl, hbr⟩ := hrel
    by_cases hkn : k < m
    · obtain ⟨ad, hA, hlt, hkl, f1, f2⟩ := (hr.below steady_FltM hbr).at_ hkn
      obtain ⟨q1, q2, q3, q4⟩ := hg fs[k] (List.getElem_mem _)
      have KF := Lib.hid (fun (W : World) => isFault_any n fs[k] W hn q1 q2 q3 q4)
      have hi0 : (0 : Int) ≤ (k : Int) := by omega
      have hi1 : (k : Int) < (m : Int) := by omega
      have hfb : Below wr.heap.size wr (wr.alloc (.cells #[.int .i64 fs[k].kind, .int .i64 fs[k].lever] 38)) := (Below.refl _ _).alloc (Nat.le_refl _) _
      have x1 := cell_regrown (show (wr.alloc (.cells #[.int .i64 fs[k].kind, .int .i64 fs[k].lever] 38)).cell? ⟨wr.heap.size, 0, none⟩ = some (.int .i64 fs[k].kind) by go_simp)
      have x2 := cell_regrown (show (wr.alloc (.cells #[.int .i64 fs[k].kind, .int .i64 fs[k].lever] 38)).cell? ⟨wr.heap.size, 1, none⟩ = some (.int .i64 fs[k].lever) by go_simp)
      rcases Nat.eq_zero_or_pos k with hk0 | hk0
      · subst hk0
        rw [Nat.zero_mul, addr_add_zero] at f1 f2
        subst hA
        go_wp2_with fail
        refine wp_region_quiet_below (by kernel_rfl) (by kernel_rfl) ?_
        repeat (go_big_quiet_step ((go_at_call 72; exact quietB (fun W _ => KF.out W))))
        refine wpQuiet_nil ?_
        intro W1 hw'
        have hB1 : Below wr.heap.size wr W1 := by
          obtain ⟨⟨dq, osq⟩, hw''⟩ := hw'
          rw [hw'']; exact hfb.trans ((below_regrown _ dq osq).mono hfb.size)
        clear hw'
        go_wp2
        go_roundw
        case rel => exact ⟨1, by omega, by go_num, hbr.trans (hB1.mono hbr.size)⟩
        case measure => simp [intOf]; omega
      · obtain ⟨ad', hA', -, hkl', g1, g2⟩ := (hr.below steady_FltM hbr).at_ (show k - 1 < m by omega)
        obtain rfl : ad = ad' := by rw [hA] at hA'; injection hA'
        clear hA'
        have hasc := ha (k - 1) (by omega)
        have he : fs[k - 1 + 1] = fs[k] := by congr 1; omega
        rw [he] at hasc
        obtain ⟨lv, hlv⟩ : ∃ lv, lv = fs[k - 1].lever := ⟨_, rfl⟩
        rw [← hlv] at g2 hasc
        clear hlv he g1
        have y2 := cell_regrown ((hfb.cell (by rw [show (⟨(ad.add ((k - 1) * 2)).block, (ad.add ((k - 1) * 2)).off + 1, none⟩ : Addr).block = ad.block from block_of_add _ _]; exact hlt)).trans g2)
        have hd : decide ((0 : Int) < (k : Int)) = true := decide_eq_true (by omega)
        have hd2 : decide (fs[k].lever ≤ lv) = false := decide_eq_false (by omega)
        have hi2 : (0 : Int) < (k : Int) := by omega
        subst hA
        go_wp2_with fail
        refine wp_region_quiet_below (by kernel_rfl) (by kernel_rfl) ?_
        repeat (go_big_quiet_step ((go_at_call 72; exact quietB (fun W _ => KF.out W))))
        refine wpQuiet_nil ?_
        intro W1 hw'
        have hB1 : Below wr.heap.size wr W1 := by
          obtain ⟨⟨dq, osq⟩, hw''⟩ := hw'
          rw [hw'']; exact hfb.trans ((below_regrown _ dq osq).mono hfb.size)
        clear hw'
        go_wp2
        go_roundw
        case rel => exact ⟨k + 1, by omega, by go_num, hbr.trans (hB1.mono hbr.size)⟩
        case measure => simp [intOf]; omega
    · have K1 : betB (n : Int) 1 16 = true := betB_iff.2 ⟨by omega, by omega⟩
      have KK := Lib.hid K1; clear K1
      go_wp2_with (go_at_call 73; refine (isRegisterWidth_any _ _).mono ?_; rintro e w' ⟨rfl, rfl⟩; rw [KK.out])
      go_ret
      exact ⟨rfl, hbr⟩
end Go.Proofs.YtgpmngcemnnpmaaDoor

namespace Go.Proofs.YtgpmngcemnnpmaaDoor
open Go.RowKit Go.Sort
end Go.Proofs.YtgpmngcemnnpmaaDoor

namespace Go.Proofs.YtgpmngcemnnpmaaDoor
open Go.RowKit Go.Sort
end Go.Proofs.YtgpmngcemnnpmaaDoor

namespace Go.Proofs.YtgpmngcemnnpmaaDoor
open Go.RowKit Go.Sort
theorem twoC_zero {b : Int} {xs ys : List Int} (h1 : vreg b xs = true) (h2 : vreg b ys = true) (hl : xs.length = ys.length) : twoC b xs b ys = 0 := by
  simp [twoC, h1, h2, hl]
/-! the sum of a row of digits with faults -/
theorem sumL_vreg {b : Int} {xs ys : List Int} {fs : List Flt} (hb : 2 ≤ b) (hb16 : b ≤ 16) (hdx : Digs b xs) (hdy : Digs b ys) (n1 : 1 ≤ xs.length) (n2 : xs.length ≤ 16) (hp : pw b xs.length ≤ 1000000000001) : vreg b (sumL b xs ys fs xs.length) = true := by
  refine vreg_short hb hb16 ?_ (by rw [sumL_len]; exact n1) (by rw [sumL_len]; exact n2) (by rw [sumL_len]; exact hp)
  intro d hd
  obtain ⟨k, -, rfl⟩ := List.mem_map.1 hd
  have h1 := hdx.at hb k
  have h2 := hdy.at hb k
  have h3 := carryAt_bd b xs ys fs k
  unfold sumD
  rw [Int.tmod_eq_emod_of_nonneg (by omega)]
  exact ⟨Int.emod_nonneg _ (by omega), Int.emod_lt_of_pos _ (by omega)⟩
theorem cstep_none {b t c : Int} (hb : 2 ≤ b) (ht : 0 ≤ t) (hc : 0 ≤ c) (hc1 : c ≤ 1) (ht2 : t + c < 2 * b) : cstep b t c 0 = (t + c) / b := by
  unfold cstep
  rw [if_neg (by decide), if_neg (by decide), if_neg (by decide)]
  split
  · exact (Int.ediv_eq_zero_of_lt (by omega) (by omega)).symm
  · have e : t + c = (t + c - b) + 1 * b := by omega
    rw [e, Int.add_mul_ediv_right _ _ (by omega), Int.ediv_eq_zero_of_lt (by omega) (by omega)]
    rfl
theorem carryAt_none {b : Int} {xs ys : List Int} (hb : 2 ≤ b) (hdx : Digs b xs) (hdy : Digs b ys) (k : Nat) : carryAt b xs ys [] k = carK b xs ys k := by
  induction k with
  | zero => rfl
  | succ k ih =>
    have h1 := hdx.at hb k
    have h2 := hdy.at hb k
    have h3 := carryAt_bd b xs ys [] k
    rw [carryAt, carK, ← ih]
    exact cstep_none hb (by omega) h3.1 h3.2 (by omega)
theorem sumL_none {b : Int} {xs ys : List Int} (hb : 2 ≤ b) (hdx : Digs b xs) (hdy : Digs b ys) (n : Nat) : sumL b xs ys [] n = addD b xs ys n := by
  unfold sumL addD
  refine List.map_congr_left fun k _ => ?_
  have h1 := hdx.at hb k
  have h2 := hdy.at hb k
  have h3 := carryAt_bd b xs ys [] k
  unfold sumD sumK
  rw [Int.tmod_eq_emod_of_nonneg (by omega), carryAt_none hb hdx hdy]
end Go.Proofs.YtgpmngcemnnpmaaDoor

namespace Go.Proofs.YtgpmngcemnnpmaaDoor
open Go.RowKit Go.Sort
/-! the first phase: the wheels turned, and which levers are cocked -/
def turnK (b : Int) (xs ys : List Int) (k : Nat) : Int := (xs.getD k 0 + ys.getD k 0) % b
def turnD (b : Int) (xs ys : List Int) (n : Nat) : List Int := (List.range n).map (turnK b xs ys)
def cockK (b : Int) (xs ys : List Int) (k : Nat) : Bool := decide (b ≤ xs.getD k 0 + ys.getD k 0)
def cockL (b : Int) (xs ys : List Int) (n : Nat) : List Bool := (List.range n).map (cockK b xs ys)
theorem turnD_succ (b : Int) (xs ys : List Int) (n : Nat) : turnD b xs ys (n + 1) = turnD b xs ys n ++ [turnK b xs ys n] := by unfold turnD; rw [List.range_succ, List.map_append]; rfl
theorem turnD_len (b : Int) (xs ys : List Int) (n : Nat) : (turnD b xs ys n).length = n := by simp [turnD]
theorem cockL_succ (b : Int) (xs ys : List Int) (n : Nat) : cockL b xs ys (n + 1) = cockL b xs ys n ++ [cockK b xs ys n] := by unfold cockL; rw [List.range_succ, List.map_append]; rfl
theorem cockL_len (b : Int) (xs ys : List Int) (n : Nat) : (cockL b xs ys n).length = n := by simp [cockL]
theorem turnD_digs {b : Int} (hb : 2 ≤ b) (xs ys : List Int) (n : Nat) : Digs b (turnD b xs ys n) := by
  intro d hd
  obtain ⟨k, -, rfl⟩ := List.mem_map.1 hd
  exact ⟨Int.emod_nonneg _ (by omega), Int.emod_lt_of_pos _ (by omega)⟩
theorem tpBl : TP 92 4 (.bool false) 1 1 := ⟨Tryd.underlying92, by kernel_rfl, rfl, by decide⟩
def rowBl (C : Option Addr) (cc : Nat) (bs : List Bool) : Ent := .row (.slice C bs.length cc) 4 1 bs.length (bs.map Value.bool)
end Go.Proofs.YtgpmngcemnnpmaaDoor

namespace Go.Proofs.YtgpmngcemnnpmaaDoor
open Go.RowKit Go.Sort
theorem divmod2 {b u : Int} (hb : 0 < b) (h0 : 0 ≤ u) (h1 : u < 2 * b) : (u < b ∧ u % b = u ∧ u / b = 0) ∨ (b ≤ u ∧ u % b = u - b ∧ u / b = 1) := by
  by_cases h : u < b
  · exact .inl ⟨h, Int.emod_eq_of_lt h0 h, Int.ediv_eq_zero_of_lt h0 h⟩
  · refine .inr ⟨by omega, ?_, ?_⟩
    · have e : u = (u - b) + b * 1 := by omega
      rw [e, Int.add_mul_emod_self_left, Int.emod_eq_of_lt (by omega) (by omega)]
      omega
    · have e : u = (u - b) + 1 * b := by omega
      rw [e, Int.add_mul_ediv_right _ _ (by omega), Int.ediv_eq_zero_of_lt (by omega) (by omega)]
      omega
/-- digits and levers behind the first k pushes -/
def digP (b : Int) (xs ys : List Int) (k i : Nat) : Int := if i ≤ k then sumK b xs ys i else turnK b xs ys i
def levP (b : Int) (xs ys : List Int) (k i : Nat) : Bool := if i ≤ k then decide (carK b xs ys (i + 1) = 1) else cockK b xs ys i
def digPL (b : Int) (xs ys : List Int) (n k : Nat) : List Int := (List.range n).map (digP b xs ys k)
def levPL (b : Int) (xs ys : List Int) (n k : Nat) : List Bool := (List.range n).map (levP b xs ys k)
/-- the levers that are pushed -/
def levL (b : Int) (xs ys : List Int) (n : Nat) : List Bool := (List.range n).map fun i => decide (carK b xs ys (i + 1) = 1)
theorem digPL_len (b : Int) (xs ys : List Int) (n k : Nat) : (digPL b xs ys n k).length = n := by simp [digPL]
theorem levPL_len (b : Int) (xs ys : List Int) (n k : Nat) : (levPL b xs ys n k).length = n := by simp [levPL]
theorem levL_len (b : Int) (xs ys : List Int) (n : Nat) : (levL b xs ys n).length = n := by simp [levL]
section
variable {b : Int} {xs ys : List Int} (hb : 2 ≤ b) (hdx : Digs b xs) (hdy : Digs b ys)
include hb hdx hdy
theorem pp_zero : sumK b xs ys 0 = turnK b xs ys 0 ∧ decide (carK b xs ys 1 = 1) = cockK b xs ys 0 := by
  have h1 := hdx.at hb 0
  have h2 := hdy.at hb 0
  constructor
  · rw [sumK, carK, turnK, Int.add_zero]
  · rw [carK, carK, cockK, Int.add_zero]
    rcases divmod2 (b := b) (u := xs.getD 0 0 + ys.getD 0 0) (by omega) (by omega) (by omega) with ⟨a1, a2, a3⟩ | ⟨a1, a2, a3⟩
    · rw [a3]; exact decide_eq_decide.2 (by omega)
    · rw [a3]; exact decide_eq_decide.2 (by omega)
theorem pp_no {k : Nat} (hc : carK b xs ys (k + 1) = 0) : sumK b xs ys (k + 1) = turnK b xs ys (k + 1) ∧ decide (carK b xs ys (k + 1 + 1) = 1) = cockK b xs ys (k + 1) := by
  have h1 := hdx.at hb (k + 1)
  have h2 := hdy.at hb (k + 1)
  constructor
  · rw [sumK, hc, turnK, Int.add_zero]
  · rw [carK, hc, cockK, Int.add_zero]
    rcases divmod2 (b := b) (u := xs.getD (k + 1) 0 + ys.getD (k + 1) 0) (by omega) (by omega) (by omega) with ⟨a1, a2, a3⟩ | ⟨a1, a2, a3⟩
    · rw [a3]; exact decide_eq_decide.2 (by omega)
    · rw [a3]; exact decide_eq_decide.2 (by omega)
theorem pp_yes {k : Nat} (hc : carK b xs ys (k + 1) = 1) :
    (turnK b xs ys (k + 1) + 1 = b ∧ sumK b xs ys (k + 1) = 0 ∧ carK b xs ys (k + 1 + 1) = 1) ∨
    (turnK b xs ys (k + 1) + 1 ≠ b ∧ sumK b xs ys (k + 1) = turnK b xs ys (k + 1) + 1 ∧ decide (carK b xs ys (k + 1 + 1) = 1) = cockK b xs ys (k + 1)) := by
  have h1 := hdx.at hb (k + 1)
  have h2 := hdy.at hb (k + 1)
  rw [carK, hc, cockK, sumK, hc, turnK]
  obtain ⟨u, hu⟩ : ∃ u, xs.getD (k + 1) 0 + ys.getD (k + 1) 0 = u := ⟨_, rfl⟩
  rw [hu]
  rcases divmod2 (b := b) (u := u) (by omega) (by omega) (by omega) with ⟨a1, a2, a3⟩ | ⟨a1, a2, a3⟩ <;>
  rcases divmod2 (b := b) (u := u + 1) (by omega) (by omega) (by omega) with ⟨c1, c2, c3⟩ | ⟨c1, c2, c3⟩ <;>
  rw [a2, c2, c3]
  · exact .inr ⟨by omega, by omega, decide_eq_decide.2 (by omega)⟩
  · exact .inl ⟨by omega, by omega, by omega⟩
  · omega
  · exact .inr ⟨by omega, by omega, decide_eq_decide.2 (by omega)⟩
theorem digPL_zero (n : Nat) : digPL b xs ys n 0 = turnD b xs ys n := by
  unfold digPL turnD
  refine List.map_congr_left fun i _ => ?_
  unfold digP
  split
  · obtain rfl : i = 0 := by omega
    exact (pp_zero hb hdx hdy).1
  · rfl
theorem levPL_zero (n : Nat) : levPL b xs ys n 0 = cockL b xs ys n := by
  unfold levPL cockL
  refine List.map_congr_left fun i _ => ?_
  unfold levP
  split
  · obtain rfl : i = 0 := by omega
    exact (pp_zero hb hdx hdy).2
  · rfl
theorem PL_no {n k : Nat} (h : carK b xs ys (k + 1) = 0) : digPL b xs ys n (k + 1) = digPL b xs ys n k ∧ levPL b xs ys n (k + 1) = levPL b xs ys n k := by
  obtain ⟨p1, p2⟩ := pp_no hb hdx hdy h
  constructor
  · refine List.map_congr_left fun i _ => ?_
    unfold digP
    by_cases h1 : i ≤ k
    · rw [if_pos h1, if_pos (by omega)]
    · rw [if_neg h1]
      split
      · obtain rfl : i = k + 1 := by omega
        exact p1
      · rfl
  · refine List.map_congr_left fun i _ => ?_
    unfold levP
    by_cases h1 : i ≤ k
    · rw [if_pos h1, if_pos (by omega)]
    · rw [if_neg h1]
      split
      · obtain rfl : i = k + 1 := by omega
        exact p2
      · rfl
omit hb hdx hdy in
theorem digPL_set (n k : Nat) (h : k + 1 < n) : digPL b xs ys n (k + 1) = (digPL b xs ys n k).set (k + 1) (sumK b xs ys (k + 1)) := by
  apply List.ext_getElem (by simp [digPL])
  intro i h1 h2
  rw [List.getElem_set]
  simp only [digPL, List.getElem_map, List.getElem_range, digP]
  by_cases e : k + 1 = i
  · subst e; simp
  · rw [if_neg e]
    by_cases h3 : i ≤ k
    · rw [if_pos h3, if_pos (by omega)]
    · rw [if_neg h3, if_neg (by omega)]
omit hb hdx hdy in
theorem levPL_set (n k : Nat) (h : k + 1 < n) : levPL b xs ys n (k + 1) = (levPL b xs ys n k).set (k + 1) (decide (carK b xs ys (k + 1 + 1) = 1)) := by
  apply List.ext_getElem (by simp [levPL])
  intro i h1 h2
  rw [List.getElem_set]
  simp only [levPL, List.getElem_map, List.getElem_range, levP]
  by_cases e : k + 1 = i
  · subst e; simp
  · rw [if_neg e]
    by_cases h3 : i ≤ k
    · rw [if_pos h3, if_pos (by omega)]
    · rw [if_neg h3, if_neg (by omega)]
omit hb hdx hdy in
theorem digPL_end (n : Nat) : digPL b xs ys n n = addD b xs ys n ∧ levPL b xs ys n n = levL b xs ys n := by
  constructor
  · refine List.map_congr_left fun i hi => ?_
    have := List.mem_range.1 hi
    unfold digP
    rw [if_pos (by omega)]
  · refine List.map_congr_left fun i hi => ?_
    have := List.mem_range.1 hi
    unfold levP
    rw [if_pos (by omega)]
end
end Go.Proofs.YtgpmngcemnnpmaaDoor
