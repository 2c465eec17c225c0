/- Part 8: lemmas and contracts of the claim's functions. -/
import Derived.Test.YtgpmngcemnnpmaaDoorZC1
import Derived.Test.YtgpmngcemnnpmaaDoorZC2
import Derived.Test.YtgpmngcemnnpmaaDoorZC3
import Derived.Test.YtgpmngcemnnpmaaDoorZC4
import Derived.Test.YtgpmngcemnnpmaaDoorZC5
import Derived.Test.YtgpmngcemnnpmaaDoorZC6
import Derived.Test.YtgpmngcemnnpmaaDoorZC7
import Derived.Deep.RegionLaw
import Derived.Deep.AppendLies
import Derived.Maps.OwnOps
import Derived.Maps.OwnSet
import Derived.Maps.Views
namespace Go.Proofs.YtgpmngcemnnpmaaDoor
open Go.RowKit Go.Sort
theorem DR.ad {b N : Nat} {w wi w' : World} {m m' : List Ent} (h : DR b N w m wi) (h1 : Kn wi m' w') : DR b N w (m' ++ m) w' := h.kn (fun _ hK => hK.join h1)
theorem pw_12 {b : Int} (b1 : 2 ≤ b) (b2 : b ≤ 12) (k : Nat) : pw b k ≤ pw 12 k := by
  induction k with
  | zero => exact Int.le_refl _
  | succ k ih =>
    rw [pw_succ, pw_succ]
    have := pw_pos b b1 k
    exact Int.mul_le_mul ih b2 (by omega) (by have := pw_pos 12 (by omega) k; omega)
theorem pw_small {b : Int} (b1 : 2 ≤ b) (b2 : b ≤ 12) {k : Nat} (hk : k ≤ 6) : pw b k ≤ 2985984 := by
  have h1 := pw_12 b1 b2 k
  have h2 := pw_mono 12 (by omega) k 6 hk
  have h3 : pw 12 6 = 2985984 := by decide
  omega
/-- what the drawing of a register returns -/
def DReg2 (b M : Nat) (w : World) (e : Ending) (w' : World) : Prop := ∃ (bs : Int) (A : Option Addr) (c : Nat) (ds : List Int), e = .returned (.agg #[.int .i64 bs, .slice A ds.length c]) ∧ ds.length ≤ 20 ∧ DR b M w [rowI A c ds] w'
end Go.Proofs.YtgpmngcemnnpmaaDoor

namespace Go.Proofs.YtgpmngcemnnpmaaDoor
open Go.RowKit Go.Sort
theorem DR.setI {b N : Nat} {w wi : World} {m : List Ent} {g c : Nat} {ds : List Int} (h : DR b N w (rowI (some ⟨g, 0, none⟩) c ds :: m) wi) (j : Nat) (v : Int) : DR b N w (rowI (some ⟨g, 0, none⟩) c (ds.set j v) :: m) (wi.setCell ⟨g, j, none⟩ (.int .i64 v)) := h.kn (fun _ hK => hK.setI j v)
theorem DR.rowCell {b N : Nat} {w wi : World} {m : List Ent} {g c : Nat} {ds : List Int} (h : DR b N w (rowI (some ⟨g, 0, none⟩) c ds :: m) wi) {j : Nat} (hj : j < ds.length) : wi.cell? ⟨g, j, none⟩ = some (.int .i64 ds[j]) ∧ wi.frozen? ⟨g, j, none⟩ = false ∧ g < wi.heap.size := by
  obtain ⟨v, -, -, hK⟩ := h
  have h1 := Kn.rowCell hK (j := j) (u := .int .i64 ds[j]) (by simp [hj])
  exact ⟨h1.1, h1.2, World.block_lt_of_cell? wi _ h1.1⟩
theorem DR.rowForm {b N : Nat} {w wi : World} {m : List Ent} {A : Option Addr} {c : Nat} {ds : List Int} (h : DR b N w (rowI A c ds :: m) wi) (hd : 0 < ds.length) : ∃ g, A = some ⟨g, 0, none⟩ := by
  obtain ⟨v, -, -, hK⟩ := h
  obtain ⟨g, c', he⟩ := Kn.rowForm hK hd
  injection he with he
  exact ⟨g, he⟩
theorem idxL {j L : Nat} (h : 0 ≤ (j : Int) ∧ ((j : Int) < (L : Int) ∨ (L : Int) ≤ 1 ∧ (j : Int) = 0)) (h1 : 1 ≤ L) : j < L := by omega
end Go.Proofs.YtgpmngcemnnpmaaDoor

namespace Go.Proofs.YtgpmngcemnnpmaaDoor
open Go.RowKit Go.Sort
end Go.Proofs.YtgpmngcemnnpmaaDoor

namespace Go.Proofs.YtgpmngcemnnpmaaDoor
open Go.RowKit Go.Sort
/-- a register that a law's draw returns -/
def DrawsReg (w : World) (e : Ending) (w' : World) : Prop := ∃ (bs : Int) (A : Option Addr) (c : Nat) (ds : List Int), e = .returned (.agg #[.int .i64 bs, .slice A ds.length c]) ∧ ds.length ≤ 20 ∧ Kn w [rowI A c ds] w'
end Go.Proofs.YtgpmngcemnnpmaaDoor

namespace Go.Proofs.YtgpmngcemnnpmaaDoor
open Go.RowKit Go.Sort
end Go.Proofs.YtgpmngcemnnpmaaDoor

namespace Go.Proofs.YtgpmngcemnnpmaaDoor
open Go.RowKit Go.Sort
/-- what the draw of two registers returns -/
def Draws2 (w : World) (e : Ending) (w' : World) : Prop := ∃ (b : Int) (A : Option Addr) (c : Nat) (ds : List Int) (b2 : Int) (B : Option Addr) (k : Nat) (es : List Int), e = .returned (.tuple #[.agg #[.int .i64 b, .slice A ds.length c], .agg #[.int .i64 b2, .slice B es.length k]]) ∧ (ds.length ≤ 20 ∧ es.length ≤ 20) ∧ Kn w [rowI A c ds, rowI B k es] w'
theorem pick5 {q : Nat} (h : 0 ≤ (q : Int) ∧ ((q : Int) < 5 ∨ (5 : Int) ≤ 1 ∧ (q : Int) = 0)) : q ≤ 5 := by omega
end Go.Proofs.YtgpmngcemnnpmaaDoor

namespace Go.Proofs.YtgpmngcemnnpmaaDoor
open Go.RowKit Go.Sort
end Go.Proofs.YtgpmngcemnnpmaaDoor

namespace Go.Proofs.YtgpmngcemnnpmaaDoor
open Go.RowKit Go.Sort
/-! drums, plainly -/
structure Dr where
  k : Int
  b : Int
  t : Int
  f : Int
def drOk (d : Dr) : Bool := betB d.k 1 3 && (betB d.b 2 16 && (betB d.t d.b 60 && (if d.k = 3 then decide (d.f = 0) else betB d.f 1 (d.t - d.b + 2))))
/-- the time of a turn at which the tooth j of a drum that is set to g makes its step -/
def dTime (d : Dr) (g : Int) (j : Nat) : Int := if d.k = 1 then d.f + d.b - 1 - g + j else if d.k = 2 then d.f + j else (((j : Int) + 1) * d.t + g - 1) / g
def dTimes (d : Dr) (g : Int) : List Int := (List.range g.toNat).map (dTime d g)
theorem drOk_iff {d : Dr} : drOk d = true ↔ (1 ≤ d.k ∧ d.k ≤ 3) ∧ (2 ≤ d.b ∧ d.b ≤ 16) ∧ (d.b ≤ d.t ∧ d.t ≤ 60) ∧ ((d.k = 3 ∧ d.f = 0) ∨ (d.k ≠ 3 ∧ 1 ≤ d.f ∧ d.f ≤ d.t - d.b + 2)) := by
  unfold drOk
  by_cases h3 : d.k = 3
  · rw [if_pos h3]
    simp only [betB, Bool.and_eq_true, decide_eq_true_eq]
    omega
  · rw [if_neg h3]
    simp only [betB, Bool.and_eq_true, decide_eq_true_eq]
    omega
/-- the rack's times lie in the turn -/
theorem rack_bd {t g j : Int} (ht : 1 ≤ t) (hg : 1 ≤ g) (hj : 0 ≤ j) (hjg : j < g) : 1 ≤ ((j + 1) * t + g - 1) / g ∧ ((j + 1) * t + g - 1) / g ≤ t := by
  constructor
  · rw [Int.le_ediv_iff_mul_le (by omega)]
    have : 1 * 1 ≤ (j + 1) * t := Int.mul_le_mul (by omega) (by omega) (by omega) (by omega)
    omega
  · have h1 : ((j + 1) * t + g - 1) / g < t + 1 := by
      rw [Int.ediv_lt_iff_lt_mul (by omega)]
      have h2 : (j + 1) * t ≤ g * t := Int.mul_le_mul_of_nonneg_right (by omega) (by omega)
      rw [Int.add_mul (a := t), Int.one_mul, Int.mul_comm t g]
      omega
    omega
theorem dTime_bd {d : Dr} (h : drOk d = true) {g : Int} {j : Nat} (hj : (j : Int) < g) (hg : g < d.b) : 1 ≤ dTime d g j ∧ dTime d g j ≤ d.t := by
  obtain ⟨⟨k1, k2⟩, ⟨b1, b2⟩, ⟨t1, t2⟩, h4⟩ := drOk_iff.1 h
  unfold dTime
  by_cases e1 : d.k = 1
  · rw [if_pos e1]; omega
  · rw [if_neg e1]
    by_cases e2 : d.k = 2
    · rw [if_pos e2]; omega
    · rw [if_neg e2]
      exact rack_bd (by omega) (by omega) (by omega) hj
/-- one tooth's step lies behind the step of the tooth ahead of it -/
theorem dTime_lt {d : Dr} (h : drOk d = true) {g : Int} {i j : Nat} (hij : i < j) (hj : (j : Int) < g) (hg : g < d.b) : dTime d g i < dTime d g j := by
  obtain ⟨⟨k1, k2⟩, ⟨b1, b2⟩, ⟨t1, t2⟩, h4⟩ := drOk_iff.1 h
  unfold dTime
  by_cases e1 : d.k = 1
  · rw [if_pos e1, if_pos e1]; omega
  · rw [if_neg e1, if_neg e1]
    by_cases e2 : d.k = 2
    · rw [if_pos e2, if_pos e2]; omega
    · rw [if_neg e2, if_neg e2]
      have hg0 : 0 < g := by omega
      have h1 : ((i : Int) + 1) * d.t + g - 1 + g ≤ ((j : Int) + 1) * d.t + g - 1 := by
        have h2 : ((i : Int) + 1 + 1) * d.t ≤ ((j : Int) + 1) * d.t := Int.mul_le_mul_of_nonneg_right (by omega) (by omega)
        rw [Int.add_mul, Int.one_mul] at h2
        omega
      have h3 := Int.ediv_le_ediv hg0 h1
      rw [Int.add_ediv_of_dvd_right (Int.dvd_refl g), Int.ediv_self (by omega)] at h3
      omega
/-! walks -/
/-- a drum in a block -/
def DrAt (w : World) (g : Nat) (d : Dr) : Prop := w.cell? ⟨g, 0, none⟩ = some (.int .i64 d.k) ∧ w.cell? ⟨g, 1, none⟩ = some (.int .i64 d.b) ∧ w.cell? ⟨g, 2, none⟩ = some (.int .i64 d.t) ∧ w.cell? ⟨g, 3, none⟩ = some (.int .i64 d.f)
theorem DrAt.below {w w' : World} {g : Nat} {d : Dr} (h : DrAt w g d) (hb : Below w.heap.size w w') : DrAt w' g d := by
  have hlt : g < w.heap.size := World.block_lt_of_cell? w _ h.1
  exact ⟨(hb.cell (p := ⟨g, 0, none⟩) hlt).trans h.1, (hb.cell (p := ⟨g, 1, none⟩) hlt).trans h.2.1, (hb.cell (p := ⟨g, 2, none⟩) hlt).trans h.2.2.1, (hb.cell (p := ⟨g, 3, none⟩) hlt).trans h.2.2.2⟩
end Go.Proofs.YtgpmngcemnnpmaaDoor

namespace Go.Proofs.YtgpmngcemnnpmaaDoor
open Go.RowKit Go.Sort
/-! the codes -/
def drCode (d : Dr) (g : Int) : Int := if drOk d = false then 1 else if betB g 0 (d.b - 1) = false then 2 else 0
end Go.Proofs.YtgpmngcemnnpmaaDoor

namespace Go.Proofs.YtgpmngcemnnpmaaDoor
open Go.RowKit Go.Sort
theorem dTimes_succ (d : Dr) (g : Int) (k : Nat) : (List.range (k + 1)).map (dTime d g) = (List.range k).map (dTime d g) ++ [dTime d g k] := by rw [List.range_succ, List.map_append]; rfl
theorem dTimes_len (d : Dr) (g : Int) : (dTimes d g).length = g.toNat := by simp [dTimes]
theorem dTime1 {b t f g : Int} {j : Nat} : dTime ⟨1, b, t, f⟩ g j = f + b - 1 - g + j := by simp [dTime]
theorem dTime2 {b t f g : Int} {j : Nat} : dTime ⟨2, b, t, f⟩ g j = f + j := by simp [dTime]
theorem dTime3 {b t f g : Int} {j : Nat} : dTime ⟨3, b, t, f⟩ g j = (((j : Int) + 1) * t + g - 1) / g := by simp [dTime]
theorem dr_kind {d : Dr} (h : drOk d = true) : d.k = 1 ∨ d.k = 2 ∨ d.k = 3 := by have := (drOk_iff.1 h).1; omega
end Go.Proofs.YtgpmngcemnnpmaaDoor

namespace Go.Proofs.YtgpmngcemnnpmaaDoor
open Go.RowKit Go.Sort
/-- the row of a drum's times -/
def TMRet (d : Dr) (n : Nat) (w : World) (e : Ending) (w' : World) : Prop := ∃ A c, e = .returned (.slice A n c) ∧ Kn w [rowI A c (dTimes d n)] w'
theorem dTimes_nat (d : Dr) (n : Nat) : dTimes d n = (List.range n).map (dTime d n) := by unfold dTimes; rw [Int.toNat_natCast]
theorem Kn.rowSlice {w0 w : World} {m : List Ent} {v : Value} {T : TypeId} {size n : Nat} {xs : List Value} (h : Kn w0 (.row v T size n xs :: m) w) : ∃ A c, v = .slice A n c := by
  have h0 : w.ownsRow 0 T size v n xs := h.at0
  rcases h0.2 with ⟨rfl, rfl⟩ | ⟨g, cap, cur, rfl, -⟩
  · exact ⟨none, 0, rfl⟩
  · exact ⟨_, _, rfl⟩
end Go.Proofs.YtgpmngcemnnpmaaDoor

namespace Go.Proofs.YtgpmngcemnnpmaaDoor
open Go.RowKit Go.Sort
/-- how many of the first j teeth have made their step at a time m of the turn -/
def dCnt (d : Dr) (n : Nat) (m : Int) (j : Nat) : Nat := ((List.range j).map (dTime d n)).countP (fun x => decide (x ≤ m))
theorem dCnt_succ (d : Dr) (n : Nat) (m : Int) (j : Nat) : dCnt d n m (j + 1) = dCnt d n m j + (if dTime d n j ≤ m then 1 else 0) := by
  unfold dCnt
  rw [dTimes_succ, List.countP_append, List.countP_singleton]
  simp
theorem dCnt_le (d : Dr) (n : Nat) (m : Int) (j : Nat) : dCnt d n m j ≤ j := by
  unfold dCnt
  have := List.countP_le_length (p := fun x => decide (x ≤ m)) (l := (List.range j).map (dTime d n))
  simpa using this
def dBy (d : Dr) (n : Nat) (tm : Int) : Int := tm / d.t * n + dCnt d n (tm % d.t) n
theorem dTimes_get (d : Dr) (n : Nat) {j : Nat} (hj : j < n) : ∃ h : j < (dTimes d n).length, (dTimes d n)[j] = dTime d n j := by
  refine ⟨by rw [dTimes_len]; omega, ?_⟩
  unfold dTimes
  simp
end Go.Proofs.YtgpmngcemnnpmaaDoor

namespace Go.Proofs.YtgpmngcemnnpmaaDoor
open Go.RowKit Go.Sort
/-! two registers -/
def twoC (a : Int) (xs : List Int) (b : Int) (ys : List Int) : Int := if (vreg a xs && vreg b ys) = false then 1 else if a ≠ b ∨ xs.length ≠ ys.length then 6 else 0
end Go.Proofs.YtgpmngcemnnpmaaDoor

namespace Go.Proofs.YtgpmngcemnnpmaaDoor
open Go.RowKit Go.Sort
end Go.Proofs.YtgpmngcemnnpmaaDoor

namespace Go.Proofs.YtgpmngcemnnpmaaDoor
open Go.RowKit Go.Sort
def carL (b : Int) (xs ys : List Int) (n : Nat) : List Int := (List.range n).map (carK b xs ys)
theorem carL_succ (b : Int) (xs ys : List Int) (n : Nat) : carL b xs ys (n + 1) = carL b xs ys n ++ [carK b xs ys n] := by unfold carL; rw [List.range_succ, List.map_append]; rfl
theorem carL_len (b : Int) (xs ys : List Int) (n : Nat) : (carL b xs ys n).length = n := by simp [carL]
theorem carL_get (b : Int) (xs ys : List Int) {n i : Nat} (h : i < n) : ∃ h' : i < (carL b xs ys n).length, (carL b xs ys n)[i] = carK b xs ys i := ⟨by rw [carL_len]; exact h, by simp [carL]⟩
def ADRet (b : Int) (xs ys : List Int) (w : World) (e : Ending) (w' : World) : Prop := ∃ E ec F fc, e = .returned (.tuple #[.agg #[.int .i64 b, .slice E xs.length ec], .slice F (xs.length + 1) fc]) ∧ Kn w [rowI E ec (addD b xs ys xs.length), rowI F fc (carL b xs ys (xs.length + 1))] w'
end Go.Proofs.YtgpmngcemnnpmaaDoor

namespace Go.Proofs.YtgpmngcemnnpmaaDoor
open Go.RowKit Go.Sort
/-- a register, a number and the code 0 -/
def R3Ret (b : Int) (es : List Int) (c : Int) (w : World) (e : Ending) (w' : World) : Prop := ∃ E ec, e = .returned (.tuple #[.agg #[.int .i64 b, .slice E es.length ec], .int .i64 c, .int .i64 0]) ∧ Kn w [rowI E ec es] w'
theorem add_vreg {b : Int} {xs : List Int} (hb : 2 ≤ b) (hb16 : b ≤ 16) (ys : List Int) (h1 : 1 ≤ xs.length) (h2 : xs.length ≤ 16) (hp : pw b xs.length ≤ 1000000000001) : vreg b (addD b xs ys xs.length) = true :=
  vreg_short hb hb16 (addD_digs hb xs ys _) (by rw [addD_len]; exact h1) (by rw [addD_len]; exact h2) (by rw [addD_len]; exact hp)
end Go.Proofs.YtgpmngcemnnpmaaDoor

namespace Go.Proofs.YtgpmngcemnnpmaaDoor
open Go.RowKit Go.Sort
theorem subD_digs {b : Int} (hb : 2 ≤ b) {xs ys : List Int} (hx : Digs b xs) (hy : Digs b ys) (n : Nat) : Digs b (subD b xs ys n) := fun d hd => by
  obtain ⟨i, -, rfl⟩ := List.mem_map.1 hd
  have h1 := hx.at hb i
  have h2 := hy.at hb i
  have h3 := borK_bd xs ys i
  unfold subK
  split <;> omega
end Go.Proofs.YtgpmngcemnnpmaaDoor

namespace Go.Proofs.YtgpmngcemnnpmaaDoor
open Go.RowKit Go.Sort
/-- what the drawing of a good register returns -/
def DReg7 (b M : Nat) (w : World) (e : Ending) (w' : World) : Prop := ∃ (bs : Int) (A : Option Addr) (c : Nat) (ds : List Int), e = .returned (.agg #[.int .i64 bs, .slice A ds.length c]) ∧ (2 ≤ bs ∧ bs ≤ 12 ∧ 1 ≤ ds.length ∧ ds.length ≤ 7 ∧ ∀ d ∈ ds, 0 ≤ d ∧ d < bs) ∧ DR b M w [rowI A c ds] w'
theorem min7 {q k : Nat} (h : 0 ≤ (q : Int) ∧ ((q : Int) < min 7 (k : Int) ∨ min 7 (k : Int) ≤ 1 ∧ (q : Int) = 0)) : q ≤ 6 := by omega
theorem wrapQ7 {q : Nat} (h : q ≤ 6) : IntKind.i64.wrap (1 + (q : Int)) = ((q + 1 : Nat) : Int) := by rw [wrapI64 (by omega)]; omega
end Go.Proofs.YtgpmngcemnnpmaaDoor

namespace Go.Proofs.YtgpmngcemnnpmaaDoor
open Go.RowKit Go.Sort
theorem compD_take (b : Int) {xs : List Int} {k : Nat} (h : k < xs.length) : compD b (xs.take (k + 1)) = compD b (xs.take k) ++ [b - 1 - xs[k]] := by
  unfold compD; rw [List.take_succ_eq_append_getElem h, List.map_append]; rfl
theorem compD_len (b : Int) (xs : List Int) : (compD b xs).length = xs.length := by simp [compD]
end Go.Proofs.YtgpmngcemnnpmaaDoor

namespace Go.Proofs.YtgpmngcemnnpmaaDoor
open Go.RowKit Go.Sort
/-- two registers of digits of one base and width -/
def A2R (w : World) (e : Ending) (w' : World) : Prop := ∃ (b : Int) (A : Option Addr) (c : Nat) (ds : List Int) (B : Option Addr) (k : Nat) (es : List Int), e = .returned (.tuple #[.agg #[.int .i64 b, .slice A ds.length c], .agg #[.int .i64 b, .slice B ds.length k]]) ∧ ((2 ≤ b ∧ b ≤ 12) ∧ (1 ≤ ds.length ∧ ds.length ≤ 7) ∧ es.length = ds.length ∧ Digs b ds ∧ Digs b es) ∧ Kn w [rowI A c ds, rowI B k es] w'
end Go.Proofs.YtgpmngcemnnpmaaDoor

namespace Go.Proofs.YtgpmngcemnnpmaaDoor
open Go.RowKit Go.Sort
structure Flt where
  kind : Int
  lever : Int
def FltM (w : World) (p : Addr) (f : Flt) : Prop := w.cell? p = some (.int .i64 f.kind) ∧ w.cell? ⟨p.block, p.off + 1, none⟩ = some (.int .i64 f.lever)
theorem steady_FltM : Steady FltM := by
  rintro w w' p f hp hb ⟨h1, h2⟩
  exact ⟨by rw [hb.cell hp]; exact h1, by rw [hb.cell (by exact hp)]; exact h2⟩
def kindAt (fs : List Flt) (j : Int) : Int := fs.foldl (fun a f => if f.lever = j then f.kind else a) 0
theorem kindAt_succ {fs : List Flt} {k : Nat} (h : k < fs.length) (j : Int) : kindAt (fs.take (k + 1)) j = if fs[k].lever = j then fs[k].kind else kindAt (fs.take k) j := by
  unfold kindAt
  rw [List.take_succ_eq_append_getElem h, List.foldl_append]; rfl
def kindsL (fs : List Flt) (n : Nat) : List Int := (List.range n).map (fun (i : Nat) => kindAt fs (i : Int))
theorem kindsL_set {fs : List Flt} {k n l : Nat} (h : k < fs.length) (hl : fs[k].lever = (l : Int)) : ((kindsL (fs.take k) n).map (Value.int .i64)).set l (.int .i64 fs[k].kind) = (kindsL (fs.take (k + 1)) n).map (Value.int .i64) := by
  apply List.ext_getElem
  · simp [kindsL]
  · intro i h1 h2
    rw [List.getElem_set]
    simp only [kindsL, List.map_map, List.getElem_map, List.getElem_range, Function.comp, kindAt_succ h, hl]
    by_cases g : l = i
    · subst g; simp
    · have : ¬ (l : Int) = (i : Int) := by omega
      rw [if_neg g, if_neg this]
theorem kindsL_nil (n : Nat) : (kindsL [] n).map (Value.int .i64) = List.replicate n (.int .i64 0) := by
  apply List.ext_getElem
  · simp [kindsL]
  · intro i h1 h2; simp [kindsL, kindAt]
def GoodF (n : Nat) (fs : List Flt) : Prop := ∀ f ∈ fs, 1 ≤ f.kind ∧ f.kind ≤ 3 ∧ 0 ≤ f.lever ∧ f.lever < n
set_option maxHeartbeats 800000 in
theorem l08Kinds_any (n : Nat) (A : Option Addr) (m c : Nat) (fs : List Flt) (w : World) (hr : RL FltM 2 w A m fs) (hg : GoodF n fs) (hn : n ≤ 16) (hm : m ≤ 9223372036854775807) :
    Calls Tryd.prog 125 #[.int .i64 n, .slice A m c] w fun e w' => ∃ A' c', e = .returned (.slice A' n c') ∧ OwnI w' w.heap.size (.slice A' n c') (kindsL fs n) ∧ Below w.heap.size w w' := by
  have HL := Lib.hid hr.1
  obtain ⟨i0, hi, hz0, hz1, hz2⟩ := info_parts info_i64
  go_enter Tryd.func125, Tryd.ntmps125
  go_wp2_with (at_make; refine wpList_make_full _ rfl _ _ 34 rfl w.heap.size 2 i0 _ 1 Tryd.underlying34 hi hz0 hz1 _ _ _ _ n rfl rfl rfl rfl (by rw [hz2]; omega) (by unfold maxLen; omega) (Nat.le_refl _) ?_; intro w1 hown1 hg1)
  rw [madeI] at hown1
  have hb1 : Below w.heap.size w w1 := (Below.refl _ _).grown hg1 (Nat.le_refl _) (by simp)
  clear hg1
  go_loopw [6] (fun i wr => ∃ k : Nat, k ≤ m ∧ i = .int .i64 k ∧ wr.ownsRow w.heap.size 2 1 (.slice (some ⟨w.heap.size, 0, none⟩) n n) n ((kindsL (fs.take k) n).map (Value.int .i64)) ∧ Below w.heap.size w wr) (fun i _ => m - (intOf i).toNat)
  case atStart => exact ⟨0, Nat.zero_le _, rfl, by rw [List.take_zero, kindsL_nil]; exact hown1, hb1⟩
  case round =>
    obtain ⟨k, hk, rfl, hown, hbr⟩ := hrel
    by_cases hkn : k < m
    · obtain ⟨ad, hA, hlt, hkl, f1, f2⟩ := (hr.below steady_FltM hbr).at_ hkn
      obtain ⟨q1, q2, q3, q4⟩ := hg fs[k] (List.getElem_mem _)
      obtain ⟨l, hl⟩ : ∃ l : Nat, fs[k].lever = l := ⟨fs[k].lever.toNat, by omega⟩
      have hln : l < n := by omega
      have hi0 : (0 : Int) ≤ (k : Int) := by omega
      have hi1 : (k : Int) < (m : Int) := by omega
      have hi2 : (0 : Int) ≤ (l : Int) := by omega
      have hi3 : (l : Int) < (n : Int) := by omega
      rw [hl] at f2
      have HE := Lib.hid (kindsL_set (n := n) hkl hl)
      subst hA
      obtain ⟨u, hu⟩ : ∃ u, ((kindsL (fs.take k) n).map (Value.int .i64))[l]? = some u := ⟨_, List.getElem?_eq_getElem (by rw [hown.1]; omega)⟩
      have hcell := (hown.cellAt l (by omega)).trans hu
      clear hu
      have hfz := hown.frozenAt l
      have hst := Lib.hid (fun (W : World) (h : W.ownsRow w.heap.size 2 1 (.slice (some ⟨w.heap.size, 0, none⟩) n n) n ((kindsL (fs.take k) n).map (Value.int .i64))) => (h.stored l (.int .i64 fs[k].kind)).1)
      have HO := Lib.hid hown
      clear hown hl q3 q4
      go_wp2
      go_region
      all_goals
        go_wp2
        go_roundw
        case rel => exact ⟨k + 1, by omega, by go_num, by rw [← HE.out]; exact hst.out _ HO.out.drew, hbr.drew.setCell (Nat.le_refl _) _⟩
        case measure => simp [intOf]; omega
    · have HK : Hid (k = m) := by simp only [Hid]; omega
      go_wp2
      go_ret
      refine ⟨_, _, rfl, ?_, hbr⟩
      rw [HK.out, List.take_of_length_le (by have := HL.out; omega)] at hown
      unfold OwnI
      simpa [kindsL] using hown
end Go.Proofs.YtgpmngcemnnpmaaDoor

namespace Go.Proofs.YtgpmngcemnnpmaaDoor
open Go.RowKit Go.Sort
def carryAt (base : Int) (A B : List Int) (fs : List Flt) : Nat → Int
  | 0 => 0
  | k + 1 => cstep base (A.getD k 0 + B.getD k 0) (carryAt base A B fs k) (kindAt fs k)
def sumD (base : Int) (A B : List Int) (fs : List Flt) (k : Nat) : Int := (A.getD k 0 + B.getD k 0 + carryAt base A B fs k).tmod base
def sumL (base : Int) (A B : List Int) (fs : List Flt) (n : Nat) : List Int := (List.range n).map (sumD base A B fs)
theorem sumL_succ (base : Int) (A B : List Int) (fs : List Flt) (n : Nat) : sumL base A B fs (n + 1) = sumL base A B fs n ++ [sumD base A B fs n] := by simp [sumL, List.range_succ]
theorem sumL_len (base : Int) (A B : List Int) (fs : List Flt) (n : Nat) : (sumL base A B fs n).length = n := by simp [sumL]
theorem cstep_bd (base t c k : Int) : 0 ≤ cstep base t c k ∧ cstep base t c k ≤ 1 := by unfold cstep; split <;> (try split) <;> (try split) <;> (try split) <;> omega
theorem carryAt_bd (base : Int) (A B : List Int) (fs : List Flt) (k : Nat) : 0 ≤ carryAt base A B fs k ∧ carryAt base A B fs k ≤ 1 := by
  cases k with
  | zero => simp [carryAt]
  | succ k => exact cstep_bd _ _ _ _
set_option maxRecDepth 100000 in
set_option maxHeartbeats 1600000 in
theorem l08Add_any (p q : Addr) (a b : Reg) (A : Option Addr) (m c : Nat) (fs : List Flt) (w : World) (hp : RegM w p a) (hq : RegM w q b) (hpl : p.block < w.heap.size) (hql : q.block < w.heap.size) (hr : RL FltM 2 w A m fs)
    (hab : a.digits.length = b.digits.length) (hn : a.digits.length ≤ 16) (hb1 : 2 ≤ a.base) (hb2 : a.base ≤ 16) (hda : ∀ d ∈ a.digits, 0 ≤ d ∧ d < a.base) (hdb : ∀ d ∈ b.digits, 0 ≤ d ∧ d < a.base)
    (hg : GoodF a.digits.length fs) (hm : m ≤ 9223372036854775807) :
    Calls Tryd.prog 104 #[.pointer (some p), .pointer (some q), .slice A m c] w fun e w' => ∃ A' c', e = .returned (.tuple #[.agg #[.int .i64 a.base, .slice A' a.digits.length c'], .int .i64 (carryAt a.base a.digits b.digits fs a.digits.length)]) ∧
      OwnI w' w.heap.size (.slice A' a.digits.length c') (sumL a.base a.digits b.digits fs a.digits.length) ∧ Below w.heap.size w w' := by
  obtain ⟨A1, c1, ⟨ha0, ha1⟩, hra⟩ := hp
  obtain ⟨A2, c2, ⟨hq0, hq1⟩, hrb⟩ := hq
  obtain ⟨i0, hi, hz0, hz1, hz2⟩ := info_parts info_i64
  have HAB := Lib.hid hab; clear hab
  have hb0 : Below w.heap.size w (w.alloc (.cells #[.int .i64 0, .slice none 0 0] 41)) := (Below.refl _ _).alloc (Nat.le_refl _) _
  have u1 : (w.alloc (.cells #[.int .i64 0, .slice none 0 0] 41)).cell? ⟨p.block, p.off + 1, none⟩ = some (.slice A1 a.digits.length c1) := by rw [hb0.cell (by exact hpl)]; exact ha1
  go_enter Tryd.func104, Tryd.ntmps104
  go_wp2_with fail
  refine (l08Kinds_any a.digits.length A m c fs _ (hr.below steady_FltM hb0) hg hn hm).mono ?_; rintro e w1 ⟨X, x, rfl, ox, hw1⟩
  have hbA : Below w.heap.size w w1 := hb0.trans (hw1.mono (by simp))
  obtain ⟨hc, hf⟩ := bcellB (B := w.heap.size + 1) (hw1.mono (by simp))
  have q0 : w1.cell? ⟨w.heap.size, 0, none⟩ = some (.int .i64 0) := by go_simp
  have q1 : w1.cell? ⟨w.heap.size, 1, none⟩ = some (.slice none 0 0) := by go_simp
  have q2 : w1.frozen? ⟨w.heap.size, 0, none⟩ = false := by go_simp
  have q3 : w1.frozen? ⟨w.heap.size, 1, none⟩ = false := by go_simp
  have z1 : w.heap.size + 1 ≤ w1.heap.size := by have := hw1.size; simpa using this
  have y0 : w1.cell? p = some (.int .i64 a.base) := by rw [hbA.cell hpl]; exact ha0
  have y1 : w1.cell? ⟨p.block, p.off + 1, none⟩ = some (.slice A1 a.digits.length c1) := by rw [hbA.cell (by exact hpl)]; exact ha1
  have y2 : w1.cell? ⟨q.block, q.off + 1, none⟩ = some (.slice A2 b.digits.length c2) := by rw [hbA.cell (by exact hql)]; exact hq1
  have rX : RI w1 X a.digits.length (kindsL fs a.digits.length) := ox.ri
  have rA := hra.below hbA
  have rB := hrb.below hbA
  have pl1 : p.block < w1.heap.size := by omega
  have ql1 : q.block < w1.heap.size := by omega
  clear ha0 ha1 hq0 hq1 hra hrb hr ox u1
  go_wp2_with fail
  go_loopw [11, 10] (fun i cy wr => ∃ (k : Nat) (v : Value), k ≤ a.digits.length ∧ i = .int .i64 k ∧ cy = .int .i64 (carryAt a.base a.digits b.digits fs k) ∧ SumAt wr w1.heap.size a.base v (sumL a.base a.digits b.digits fs k) ∧ Below w1.heap.size w1 wr) (fun i _ _ => a.digits.length - (intOf i).toNat)
  case atStart => exact ⟨0, _, Nat.zero_le _, rfl, rfl, ⟨heap_alloc_new _ _, OwnI.nil _ _⟩, (Below.refl _ _).alloc (Nat.le_refl _) _⟩
  case round =>
    obtain ⟨k, v, hk, rfl, rfl, hS, hbr⟩ := hrel
    have HX := Lib.hid (carryAt_bd a.base a.digits b.digits fs k)
    by_cases hkn : k < a.digits.length
    · obtain ⟨ad1, hA1, hlt1, hk1, hd1⟩ := rA.at_ hkn
      rw [← hbr.cell (by rw [block_of_add]; exact hlt1)] at hd1
      obtain ⟨ad2, hA2, hlt2, hk2, hd2⟩ := rB.at_ (show k < b.digits.length from HAB.out ▸ hkn)
      rw [← hbr.cell (by rw [block_of_add]; exact hlt2)] at hd2
      obtain ⟨ad3, hA3, hlt3, hk3, hd3⟩ := rX.at_ hkn
      rw [← hbr.cell (by rw [block_of_add]; exact hlt3)] at hd3
      have e3 : (kindsL fs a.digits.length)[k] = kindAt fs (k : Int) := by simp [kindsL]
      rw [e3] at hd3
      have b1 := hda _ (List.getElem_mem hk1)
      have b2 := hdb _ (List.getElem_mem hk2)
      have v0 : wr.cell? p = some (.int .i64 a.base) := by rw [hbr.cell pl1]; exact y0
      have v1 : wr.cell? ⟨p.block, p.off + 1, none⟩ = some (.slice A1 a.digits.length c1) := by rw [hbr.cell (by exact pl1)]; exact y1
      have v2 : wr.cell? ⟨q.block, q.off + 1, none⟩ = some (.slice A2 b.digits.length c2) := by rw [hbr.cell (by exact ql1)]; exact y2
      obtain ⟨s1, s2, s3⟩ := hS.cells
      have HC := Lib.hid (show carryAt a.base a.digits b.digits fs (k + 1) = cstep a.base (a.digits[k] + b.digits[k]) (carryAt a.base a.digits b.digits fs k) (kindAt fs k) by rw [← getD_of hk1, ← getD_of hk2]; rfl)
      have HD := Lib.hid (show sumD a.base a.digits b.digits fs k = (a.digits[k] + b.digits[k] + carryAt a.base a.digits b.digits fs k).tmod a.base by rw [← getD_of hk1, ← getD_of hk2]; rfl)
      have hkb : (k : Int) < (b.digits.length : Int) := by have := HAB.out; omega
      have hka : (k : Int) < (a.digits.length : Int) := by omega
      have hk0 : (0 : Int) ≤ (k : Int) := by omega
      obtain ⟨cy, hcy⟩ : ∃ cy, cy = carryAt a.base a.digits b.digits fs k := ⟨_, rfl⟩
      obtain ⟨h0, h1⟩ := HX.out
      obtain ⟨kd, hkd⟩ : ∃ kd, kd = kindAt fs (k : Int) := ⟨_, rfl⟩
      obtain ⟨ak, hak⟩ : ∃ ak, ak = a.digits[k] := ⟨_, rfl⟩
      obtain ⟨bk, hbk⟩ : ∃ bk, bk = b.digits[k] := ⟨_, rfl⟩
      rw [← hcy] at h0 h1
      rw [← hcy, ← hkd, ← hak, ← hbk] at HC
      rw [← hcy, ← hak, ← hbk] at HD
      rw [← hak] at hd1 b1
      rw [← hbk] at hd2 b2
      rw [← hkd] at hd3
      rw [← hcy]
      clear hcy hkd hak hbk e3
      subst hA1; subst hA2; subst hA3
      have hS' := Lib.hid hS
      have HO := Lib.hid (fun (n : Nat) (o : Obj) => World.ownsRow.alloc (w := (wr.drewN n).drew) hS.2 o)
      have hbr' := Lib.hid hbr
      have hGl := hS.lt
      clear hS hbr
      have hB1 := Lib.hid hlt3
      go_wp2
      go_quiet (fail)
      go_wp2
      have nz1 : a.base ≠ 0 := by omega
      have nz2 : (a.base == 0) = false := by simp; omega
      have nz3 : ¬ a.base = 0 := by omega
      have wr2 : IntKind.i64.wrap (ak + bk + cy) = ak + bk + cy := wrapI64 (by omega)
      have sA : ((wr.drewN (nq + 1)).alloc (.cells #[.int .i64 ((ak + bk + cy).tmod a.base)] 2)).cell? ⟨w1.heap.size, 1, none⟩ = some v := by rw [World.cell?_alloc_lt _ _ _ (by exact hGl)]; exact s2
      go_region_law (refine step_append_lies _ rfl (.tmp 50) (.tmp 59) 34 rfl (w1.heap.size + 1) 2 i0 _ 1 8 Tryd.underlying34 hi hz0 hz1 hz2 rfl (by decide) v _ _ (by simp [Act.eval]) (HO.out _ _) ⟨wr.heap.size, 0, none⟩ 1 1 [.int .i64 ((ak + bk + cy).tmod a.base)] (by simp [Act.eval, Act.put]) rfl (World.news_of_block (heap_alloc_new _ _)) (by simp [Value.oneCell']) (by decide) (by rw [sumL_len]; unfold maxLen; omega) (by rw [sumL_len]; omega) (by simp; omega) _ rfl ?_; intro gg cap w2 hown2 hgrow2 hat2 hlt2; obtain ⟨t1, t2, t3, t4⟩ := SumAt.far (w := (wr.drewN nq).drew) hS'.out hgrow2)
      all_goals
        obtain ⟨hS3, hB3⟩ := SumAt.step (w := (wr.drewN nq).drew) hS'.out hgrow2 hown2
        obtain ⟨w3, hw3⟩ : ∃ w3, w3 = w2.setCell ⟨w1.heap.size, 1, none⟩ (.slice (some ⟨gg, 0, none⟩) ((sumL a.base a.digits b.digits fs k).length + 1) cap) := ⟨_, rfl⟩
        rw [← hw3] at hS3 hB3
        have hb3 : Below w1.heap.size wr w3 := (below_drewN (Below.refl w1.heap.size wr) (nq + 1)).trans (hB3 _ (Nat.le_refl _))
        have x0 : w3.cell? p = some (.int .i64 a.base) := by rw [hb3.cell pl1]; exact v0
        have x3 : w3.cell? (ad3.add k) = some (.int .i64 kd) := by rw [hb3.cell (by rw [block_of_add]; exact hB1.out)]; exact hd3
        clear hgrow2 hown2 t1 t2 t3 t4 sA hat2
        rw [← hw3]
        clear hw3
        go_wp2
        go_quiet ((go_at_call 126; exact quiet_left (l08Carry_any _ _ _ _ _ (by omega) (by omega) h0 h1)))
        go_wp2
        go_roundw
        case rel => exact ⟨k + 1, _, by omega, by go_num, by rw [HC.out], by rw [sumL_succ, HD.out]; exact hS3, hbr'.out.trans (below_drewN hb3 _)⟩
        case measure => simp [intOf]; omega
    · have HK : Hid (k = a.digits.length) := by simp only [Hid]; omega
      have v1 : wr.cell? ⟨p.block, p.off + 1, none⟩ = some (.slice A1 a.digits.length c1) := by rw [hbr.cell (by exact pl1)]; exact y1
      obtain ⟨s1, s2, s3⟩ := hS.cells
      have m0 : wr.cell? ⟨w.heap.size, 0, none⟩ = some (.int .i64 0) := by rw [hbr.cell (by exact z1)]; exact q0
      have m1 : wr.cell? ⟨w.heap.size, 1, none⟩ = some (.slice none 0 0) := by rw [hbr.cell (by exact z1)]; exact q1
      have m2 : wr.frozen? ⟨w.heap.size, 0, none⟩ = false := by rw [hbr.frozen (by exact z1)]; exact q2
      have m3 : wr.frozen? ⟨w.heap.size, 1, none⟩ = false := by rw [hbr.frozen (by exact z1)]; exact q3
      obtain ⟨A', c', rfl, hri, hge⟩ := hS.2.reads
      have hO := Lib.hid hS.2
      have hbr' := Lib.hid hbr
      clear hS hbr
      go_wp2_with fail
      refine bodyPost_ret (v := .tuple #[.agg #[.int .i64 a.base, .slice A' (sumL a.base a.digits b.digits fs k).length c'], .int .i64 (carryAt a.base a.digits b.digits fs k)]) (by simp [results, Tryd.results104, go_sem, m0, m1, m2, m3]) rfl ⟨A', c', ?_, ?_, ?_⟩
      · rw [HK.out, sumL_len]
      · have h1 := hO.out
        rw [HK.out] at h1
        rw [sumL_len] at h1
        exact (((h1.setBelow (by simp <;> omega) _).setBelow (by simp <;> omega) _)).mono (by omega)
      · exact ((hbA.trans (hbr'.out.mono (by omega))).setCell (by simp) _).setCell (by simp) _
end Go.Proofs.YtgpmngcemnnpmaaDoor

namespace Go.Proofs.YtgpmngcemnnpmaaDoor
open Go.RowKit Go.Sort Go.Maps
theorem law_i64 : Keyed Tryd.prog 2 := int_keyed Tryd.underlying2
theorem zero_i64 (w : World) : (zeroValue 2).run Tryd.prog w = .ok (.int .i64 0) w := by kernel_rfl
def MapIs (D : DataW Unit) (fs : List Flt) : Prop := IsMap D ∧ ∀ j : Int, D.atKey (.int .i64 j) (.lit (.int .i64 0)) = .lit (.int .i64 (kindAt fs j))
theorem MapIs.nil : MapIs (.map []) [] := ⟨⟨_, rfl⟩, fun _ => rfl⟩
theorem MapIs.put {D : DataW Unit} {fs : List Flt} {k : Nat} (h : MapIs D (fs.take k)) (hk : k < fs.length) : MapIs (D.put (.int .i64 fs[k].lever) (.lit (.int .i64 fs[k].kind))) (fs.take (k + 1)) := by
  obtain ⟨h1, h2⟩ := h
  refine ⟨?_, fun j => ?_⟩
  · obtain ⟨es, rfl⟩ := h1
    exact ⟨_, rfl⟩
  · rw [kindAt_succ hk]
    by_cases g : fs[k].lever = j
    · rw [if_pos g, g, atKey_put_same h1 (by trivial)]
    · rw [if_neg g, atKey_put_other (by intro e; injection e with _ e; exact g e.symm), h2]
theorem qstep (base t c : Int) (h0 : 0 ≤ t + c) (h1 : t + c < 2 * base) : (t + c) / base = if t + c < base then 0 else 1 := by
  split
  · rename_i h; exact Int.ediv_eq_zero_of_lt h0 h
  · rename_i h
    have hb : 0 < base := by omega
    rw [show t + c = (t + c - base) + 1 * base by omega, Int.add_mul_ediv_right _ _ (by omega), Int.ediv_eq_zero_of_lt (by omega) (by omega)]; rfl
theorem carry_1 {base t c cc : Int} (h : (cc == 1) = true) : cstep base t c cc = 0 := by unfold cstep; rw [if_pos (by simpa using h)]
theorem carry_2 {base t c cc : Int} (h1 : (cc == 1) = false) (h : (cc == 2) = true) : cstep base t c cc = 1 := by unfold cstep; rw [if_neg (by simpa using h1), if_pos (by simpa using h)]
theorem carry_3 {base t c cc : Int} (h1 : (cc == 1) = false) (h2 : (cc == 2) = false) (h : (cc == 3) = true) (hq : t / base = if t < base then 0 else 1) : cstep base t c cc = t / base := by
  unfold cstep; rw [if_neg (by simpa using h1), if_neg (by simpa using h2), if_pos (by simpa using h), hq]
theorem carry_4 {base t c cc : Int} (h1 : (cc == 1) = false) (h2 : (cc == 2) = false) (h : (cc == 3) = false) (hq : (t + c) / base = if t + c < base then 0 else 1) : cstep base t c cc = (t + c) / base := by
  unfold cstep; rw [if_neg (by simpa using h1), if_neg (by simpa using h2), if_neg (by simpa using h), hq]
theorem ownsMap_below {w w' : World} {k e : TypeId} {b n : Nat} {D : DataW Unit} (h : w.ownsMap Tryd.prog k (plainElem Tryd.prog e) b n D) (hb : Below w.heap.size w w') : w'.ownsMap Tryd.prog k (plainElem Tryd.prog e) b n D := by
  have hlt := h.lt
  obtain ⟨es, clock, h1, F, hs, hD⟩ := h
  exact ⟨es, clock, (hb.block b hlt).trans h1, F, hs, hD⟩
set_option maxRecDepth 100000 in
set_option maxHeartbeats 3200000 in
theorem addedWith_any (a b : Reg) (A1 A2 : Option Addr) (c1 c2 : Nat) (A : Option Addr) (m c : Nat) (fs : List Flt) (w : World) (hra : RI w A1 a.digits.length a.digits) (hrb : RI w A2 b.digits.length b.digits) (hr : RL FltM 2 w A m fs)
    (hab : a.digits.length = b.digits.length) (hn : a.digits.length ≤ 16) (hb1 : 2 ≤ a.base) (hb2 : a.base ≤ 16) (hda : ∀ d ∈ a.digits, 0 ≤ d ∧ d < a.base) (hdb : ∀ d ∈ b.digits, 0 ≤ d ∧ d < a.base)
    (hg : GoodF a.digits.length fs) (hm : m ≤ 1000000) :
    Calls Tryd.prog 40 #[.agg #[.int .i64 a.base, .slice A1 a.digits.length c1], .agg #[.int .i64 b.base, .slice A2 b.digits.length c2], .slice A m c] w fun e w' => ∃ A' c', e = .returned (.tuple #[.agg #[.int .i64 a.base, .slice A' a.digits.length c'], .int .i64 (carryAt a.base a.digits b.digits fs a.digits.length)]) ∧
      OwnI w' w.heap.size (.slice A' a.digits.length c') (sumL a.base a.digits b.digits fs a.digits.length) ∧ Below w.heap.size w w' := by
  have hmm := @run_makeMap Tryd.prog
  have HL := Lib.hid hr.1
  obtain ⟨i0, hi, hz0, hz1, hz2⟩ := info_parts info_i64
  have HAB := Lib.hid hab; clear hab
  have hb0 : Below w.heap.size w (((w.alloc (.cells #[.int .i64 a.base, .slice A1 a.digits.length c1] 41)).alloc (.cells #[.int .i64 b.base, .slice A2 b.digits.length c2] 41)).alloc (.cells #[.int .i64 0, .slice none 0 0] 41)) := (((Below.refl _ _).alloc (Nat.le_refl _) _).alloc (by simp) _).alloc (by simp <;> omega) _
  go_enter Tryd.func40, Tryd.ntmps40
  go_wp2_with fail
  go_loopw [20] (fun i wr => ∃ (k : Nat) (D : DataW Unit), k ≤ m ∧ i = .int .i64 k ∧ wr.ownsMap Tryd.prog 2 (plainElem Tryd.prog 2) (w.heap.size + 3) k D ∧ MapIs D (fs.take k) ∧ Below (w.heap.size + 3) (((w.alloc (.cells #[.int .i64 a.base, .slice A1 a.digits.length c1] 41)).alloc (.cells #[.int .i64 b.base, .slice A2 b.digits.length c2] 41)).alloc (.cells #[.int .i64 0, .slice none 0 0] 41)) wr) (fun i _ => m - (intOf i).toNat)
  case atStart => exact ⟨0, .map [], Nat.zero_le _, rfl, by have h := World.ownsMap_made (((w.alloc (.cells #[.int .i64 a.base, .slice A1 a.digits.length c1] 41)).alloc (.cells #[.int .i64 b.base, .slice A2 b.digits.length c2] 41)).alloc (.cells #[.int .i64 0, .slice none 0 0] 41)) Tryd.prog 2 (plainElem (H := Unit) Tryd.prog 2); rw [show ((((w.alloc (.cells #[.int .i64 a.base, .slice A1 a.digits.length c1] 41)).alloc (.cells #[.int .i64 b.base, .slice A2 b.digits.length c2] 41)).alloc (.cells #[.int .i64 0, .slice none 0 0] 41))).heap.size = w.heap.size + 3 by simp] at h; exact h, by rw [List.take_zero]; exact MapIs.nil, (Below.refl _ _).alloc (by simp) _⟩
  case round =>
    obtain ⟨k, D, hk, rfl, hown, hMI, hbr⟩ := hrel
    have hbw : Below w.heap.size w wr := hb0.trans (hbr.mono (by omega))
    by_cases hkn : k < m
    · obtain ⟨ad, hA, hlt, hkl, f1, f2⟩ := (hr.below steady_FltM hbw).at_ hkn
      obtain ⟨q1, q2, q3, q4⟩ := hg fs[k] (List.getElem_mem _)
      have hi0 : (0 : Int) ≤ (k : Int) := by omega
      have hi1 : (k : Int) < (m : Int) := by omega
      subst hA
      have hz : w.heap.size + 3 ≤ wr.heap.size := by have := hbr.size; simpa using this
      go_wp2_with (at_mapUpdate; refine wpList_mapUpdate_own _ rfl _ _ _ 69 rfl 2 2 law_i64 Tryd.underlying69 _ (w.heap.size + 3) k _ rfl (hown.alloc _) (by unfold maxLen; omega) _ _ _ rfl rfl (keyOf_int_mk Tryd.underlying2 (WalkArith.wf_i64 (by omega))) _ [] (plainElem_int Tryd.underlying2 (WalkArith.wf_i64 (by omega))) ?_; intro w1 hown1 hgrow1)
      go_roundw
      case rel => exact ⟨k + 1, _, by omega, by go_num, hown1, hMI.put hkl, (hbr.alloc (by omega) _).grown hgrow1 (by simp; omega) (fun j hj => by cases hj; omega)⟩
      case measure => simp [intOf]; omega
    · have HK : Hid (k = m) := by simp only [Hid]; omega
      have hMI' : MapIs D fs := by have := hMI; rwa [HK.out, List.take_of_length_le (by have := HL.out; omega)] at this
      clear hMI
      have hz : w.heap.size + 3 ≤ wr.heap.size := by have := hbr.size; simpa using this
      obtain ⟨hc, hf⟩ := bcellB hbr
      have y0 : wr.cell? ⟨w.heap.size, 0, none⟩ = some (.int .i64 a.base) := by go_simp
      have y1 : wr.cell? ⟨w.heap.size, 1, none⟩ = some (.slice A1 a.digits.length c1) := by go_simp
      have y2 : wr.cell? ⟨w.heap.size + 1, 1, none⟩ = some (.slice A2 b.digits.length c2) := by go_simp
      have q0 : wr.cell? ⟨w.heap.size + 2, 0, none⟩ = some (.int .i64 0) := by go_simp
      have q1 : wr.cell? ⟨w.heap.size + 2, 1, none⟩ = some (.slice none 0 0) := by go_simp
      have q2 : wr.frozen? ⟨w.heap.size + 2, 0, none⟩ = false := by go_simp
      have q3 : wr.frozen? ⟨w.heap.size + 2, 1, none⟩ = false := by go_simp
      have rA := hra.below hbw
      have rB := hrb.below hbw
      clear hc hf hra hrb hr hbr hmm hg
      obtain ⟨w1, rfl⟩ : ∃ w1 : World, w1 = wr := ⟨_, rfl⟩
      have yA : (w1.alloc (.cells #[.int .i64 a.base, .slice none 0 0] 41)).cell? ⟨w.heap.size, 1, none⟩ = some (.slice A1 a.digits.length c1) := by rw [World.cell?_alloc_lt _ _ _ (by exact (by omega : w.heap.size < w1.heap.size))]; exact y1
      go_wp2_with fail
      clear yA
      go_loopw [36, 12] (fun i cy wr => ∃ (k : Nat) (v : Value), k ≤ a.digits.length ∧ i = .int .i64 k ∧ cy = .int .i64 (carryAt a.base a.digits b.digits fs k) ∧ SumAt wr w1.heap.size a.base v (sumL a.base a.digits b.digits fs k) ∧ Below w1.heap.size w1 wr) (fun i _ _ => a.digits.length - (intOf i).toNat)
      case atStart => exact ⟨0, _, Nat.zero_le _, rfl, rfl, ⟨heap_alloc_new _ _, OwnI.nil _ _⟩, (Below.refl _ _).alloc (Nat.le_refl _) _⟩
      case round =>
        obtain ⟨k, v, hk, rfl, rfl, hS, hbr⟩ := hrel
        have HX := Lib.hid (carryAt_bd a.base a.digits b.digits fs k)
        by_cases hkn : k < a.digits.length
        · obtain ⟨ad1, hA1, hlt1, hk1, hd1⟩ := rA.at_ hkn
          rw [← hbr.cell (by rw [block_of_add]; exact hlt1)] at hd1
          obtain ⟨ad2, hA2, hlt2, hk2, hd2⟩ := rB.at_ (show k < b.digits.length from HAB.out ▸ hkn)
          rw [← hbr.cell (by rw [block_of_add]; exact hlt2)] at hd2
          have b1 := hda _ (List.getElem_mem hk1)
          have b2 := hdb _ (List.getElem_mem hk2)
          have v0 : wr.cell? ⟨w.heap.size, 0, none⟩ = some (.int .i64 a.base) := by rw [hbr.cell (by exact (by omega : w.heap.size < w1.heap.size))]; exact y0
          have v2 : wr.cell? ⟨w.heap.size + 1, 1, none⟩ = some (.slice A2 b.digits.length c2) := by rw [hbr.cell (by exact (by omega : w.heap.size + 1 < w1.heap.size))]; exact y2
          obtain ⟨s1, s2, s3⟩ := hS.cells
          have HC := Lib.hid (show carryAt a.base a.digits b.digits fs (k + 1) = cstep a.base (a.digits[k] + b.digits[k]) (carryAt a.base a.digits b.digits fs k) (kindAt fs k) by rw [← getD_of hk1, ← getD_of hk2]; rfl)
          have HD := Lib.hid (show sumD a.base a.digits b.digits fs k = (a.digits[k] + b.digits[k] + carryAt a.base a.digits b.digits fs k).tmod a.base by rw [← getD_of hk1, ← getD_of hk2]; rfl)
          have hkb : (k : Int) < (b.digits.length : Int) := by have := HAB.out; omega
          have hka : (k : Int) < (a.digits.length : Int) := by omega
          have hk0 : (0 : Int) ≤ (k : Int) := by omega
          obtain ⟨cy, hcy⟩ : ∃ cy, cy = carryAt a.base a.digits b.digits fs k := ⟨_, rfl⟩
          obtain ⟨h0, h1⟩ := HX.out
          obtain ⟨ak, hak⟩ : ∃ ak, ak = a.digits[k] := ⟨_, rfl⟩
          obtain ⟨bk, hbk⟩ : ∃ bk, bk = b.digits[k] := ⟨_, rfl⟩
          rw [← hcy] at h0 h1
          rw [← hcy, ← hak, ← hbk] at HC
          rw [← hcy, ← hak, ← hbk] at HD
          rw [← hak] at hd1 b1
          rw [← hbk] at hd2 b2
          rw [← hcy]
          clear hcy hak hbk
          subst hA1; subst hA2
          have hS' := Lib.hid hS
          have HO := Lib.hid (fun (o : Obj) => World.ownsRow.alloc (w := wr.drew) hS.2 o)
          have hbr' := Lib.hid hbr
          have hGl := hS.lt
          clear hS hbr
          go_wp2
          have nz1 : a.base ≠ 0 := by omega
          have wr2 : IntKind.i64.wrap (ak + bk + cy) = ak + bk + cy := wrapI64 (by omega)
          have sA : (wr.drew.alloc (.cells #[.int .i64 ((ak + bk + cy).tmod a.base)] 2)).cell? ⟨w1.heap.size, 1, none⟩ = some v := by rw [World.cell?_alloc_lt _ _ _ (by exact hGl)]; exact s2
          have sB : (wr.drew.alloc (.cells #[.int .i64 ((ak + bk + cy).tmod a.base)] 2)).cell? ⟨w.heap.size, 0, none⟩ = some (.int .i64 a.base) := by rw [World.cell?_alloc_lt _ _ _ (by exact (by omega : w.heap.size < wr.heap.size))]; exact v0
          go_region_law (refine step_append_lies _ rfl (.tmp 49) (.tmp 56) 34 rfl (w1.heap.size + 1) 2 i0 _ 1 8 Tryd.underlying34 hi hz0 hz1 hz2 rfl (by decide) v _ _ (by simp [Act.eval]) (HO.out _) ⟨wr.heap.size, 0, none⟩ 1 1 [.int .i64 ((ak + bk + cy).tmod a.base)] (by simp [Act.eval]) rfl (World.news_of_block (heap_alloc_new _ _)) (by simp [Value.oneCell']) (by decide) (by rw [sumL_len]; unfold maxLen; omega) (by rw [sumL_len]; omega) (by simp; omega) _ rfl ?_; intro gg cap w2 hown2 hgrow2 hat2 hlt2; obtain ⟨t1, t2, t3, t4⟩ := SumAt.far (w := wr.drew) hS'.out hgrow2)
          all_goals
            obtain ⟨hS3, hB3⟩ := SumAt.step (w := wr.drew) hS'.out hgrow2 hown2
            obtain ⟨w3, hw3⟩ : ∃ w3, w3 = w2.setCell ⟨w1.heap.size, 1, none⟩ (.slice (some ⟨gg, 0, none⟩) ((sumL a.base a.digits b.digits fs k).length + 1) cap) := ⟨_, rfl⟩
            rw [← hw3] at hS3 hB3
            have hb3 : Below w1.heap.size wr w3 := (below_drewN (Below.refl w1.heap.size wr) 1).trans (hB3 _ (Nat.le_refl _))
            have x0 : w3.cell? ⟨w.heap.size, 0, none⟩ = some (.int .i64 a.base) := by rw [hb3.cell (by exact (by omega : w.heap.size < w1.heap.size))]; exact v0
            have hM3 := ownsMap_below hown (hbr'.out.trans hb3)
            clear hgrow2 hown2 t1 t2 t3 t4 sA sB hat2
            rw [← hw3]
            clear hw3
            go_wp2_with (at_lookup; refine wpList_lookup_own_int _ rfl _ _ 69 rfl 2 2 .i64 law_i64 Tryd.underlying69 Tryd.underlying2 (zero_i64 _) (w.heap.size + 3) _ _ rfl hM3 _ _ rfl (keyOf_int_mk Tryd.underlying2 (WalkArith.wf_i64 (by omega))) ?_; intro cc hat hwc)
            all_goals
              have hcc : kindAt fs (k : Int) = cc := by
                have h := hMI'.2 (k : Int)
                rw [hat] at h
                injection h with h; injection h with _ h; exact h.symm
              rw [hcc] at HC
              have g1 := qstep a.base (ak + bk) cy (by omega) (by omega)
              have g2 := qstep a.base (ak + bk) 0 (by omega) (by omega)
              rw [Int.add_zero] at g2
              have HQ := Lib.hid g1
              have HQ2 := Lib.hid g2
              clear g1 g2
              go_roundw
              case rel =>
                refine ⟨k + 1, _, by omega, by go_num, ?_, by rw [sumL_succ, HD.out]; exact hS3, hbr'.out.trans hb3⟩
                rw [HC.out]
                first
                  | exact congrArg (Value.int .i64) (carry_1 (by assumption)).symm
                  | exact congrArg (Value.int .i64) (carry_2 (by assumption) (by assumption)).symm
                  | exact congrArg (Value.int .i64) (carry_3 (by assumption) (by assumption) (by assumption) HQ2.out).symm
                  | exact congrArg (Value.int .i64) (carry_4 (by assumption) (by assumption) (by assumption) HQ.out).symm
              case measure => simp [intOf]; omega
        · have HK : Hid (k = a.digits.length) := by simp only [Hid]; omega
          have m0 : wr.cell? ⟨w.heap.size + 2, 0, none⟩ = some (.int .i64 0) := by rw [hbr.cell (by exact (by omega : w.heap.size + 2 < w1.heap.size))]; exact q0
          have m1 : wr.cell? ⟨w.heap.size + 2, 1, none⟩ = some (.slice none 0 0) := by rw [hbr.cell (by exact (by omega : w.heap.size + 2 < w1.heap.size))]; exact q1
          have m2 : wr.frozen? ⟨w.heap.size + 2, 0, none⟩ = false := by rw [hbr.frozen (by exact (by omega : w.heap.size + 2 < w1.heap.size))]; exact q2
          have m3 : wr.frozen? ⟨w.heap.size + 2, 1, none⟩ = false := by rw [hbr.frozen (by exact (by omega : w.heap.size + 2 < w1.heap.size))]; exact q3
          obtain ⟨s1, s2, s3⟩ := hS.cells
          obtain ⟨A', c', rfl, hri, hge⟩ := hS.2.reads
          have hO := Lib.hid hS.2
          have hbr' := Lib.hid hbr
          clear hS hbr
          go_wp2_with fail
          refine bodyPost_ret (v := .tuple #[.agg #[.int .i64 a.base, .slice A' (sumL a.base a.digits b.digits fs k).length c'], .int .i64 (carryAt a.base a.digits b.digits fs k)]) (by simp [results, Tryd.results40, go_sem, m0, m1, m2, m3]) rfl ⟨A', c', ?_, ?_, ?_⟩
          · rw [HK.out, sumL_len]
          · have h1 := hO.out
            rw [HK.out] at h1
            rw [sumL_len] at h1
            exact (((h1.setBelow (by simp <;> omega) _).setBelow (by simp <;> omega) _)).mono (by omega)
          · exact ((hbw.trans (hbr'.out.mono (by omega))).setCell (by simp <;> omega) _).setCell (by simp <;> omega) _
end Go.Proofs.YtgpmngcemnnpmaaDoor

namespace Go.Proofs.YtgpmngcemnnpmaaDoor
open Go.RowKit Go.Sort
def TOK (t : Tri) : Prop := t.a.digits.length = t.b.digits.length ∧ t.a.digits.length ≤ 16 ∧ 2 ≤ t.a.base ∧ t.a.base ≤ 16 ∧ (∀ d ∈ t.a.digits, 0 ≤ d ∧ d < t.a.base) ∧ (∀ d ∈ t.b.digits, 0 ≤ d ∧ d < t.a.base) ∧ SmallTri t
theorem tok_of {r0 : Reg} {t : Tri} (h : triGood r0 t = true) (hs : SmallTri t) : TOK t := by
  simp only [triGood, vlike, Bool.and_eq_true, decide_eq_true_eq, beq_iff_eq] at h
  obtain ⟨⟨⟨⟨⟨h1, h2⟩, h3⟩, ⟨h4, h5⟩, h6⟩, -⟩, -⟩ := h
  obtain ⟨⟨p1, p2⟩, ⟨-, p4⟩, p5, -⟩ := vreg_iff.1 h1
  obtain ⟨-, -, q5, -⟩ := vreg_iff.1 h4
  refine ⟨by omega, by omega, p1, p2, p5, ?_, hs⟩
  rw [h2, ← h5]; exact q5
def sumReg (t : Tri) (fs : List Flt) : Reg := ⟨t.a.base, sumL t.a.base t.a.digits t.b.digits fs t.a.digits.length⟩
def expl (t : Tri) (fs : List Flt) : Bool := sameR (sumReg t fs) t.s && (carryAt t.a.base t.a.digits t.b.digits fs t.a.digits.length == t.carry)
set_option maxHeartbeats 1600000 in
theorem explained_any (t : Tri) (A1 A2 A3 : Option Addr) (c1 c2 c3 : Nat) (A : Option Addr) (m c : Nat) (fs : List Flt) (w : World) (r1 : RI w A1 t.a.digits.length t.a.digits) (r2 : RI w A2 t.b.digits.length t.b.digits) (r3 : RI w A3 t.s.digits.length t.s.digits)
    (hr : RL FltM 2 w A m fs) (ht : TOK t) (hg : GoodF t.a.digits.length fs) (hm : m ≤ 1000000) :
    Calls Tryd.prog 46 #[.agg #[.int .i64 t.a.base, .slice A1 t.a.digits.length c1, .int .i64 t.b.base, .slice A2 t.b.digits.length c2, .int .i64 t.s.base, .slice A3 t.s.digits.length c3, .int .i64 t.carry], .slice A m c] w fun e w' => e = .returned (.bool (expl t fs)) ∧ Below w.heap.size w w' := by
  obtain ⟨t1, t2, t3, t4, t5, t6, -, -, s3⟩ := ht
  unfold SmallReg at s3
  have hb0 : Below w.heap.size w (w.alloc (.cells #[.int .i64 t.a.base, .slice A1 t.a.digits.length c1, .int .i64 t.b.base, .slice A2 t.b.digits.length c2, .int .i64 t.s.base, .slice A3 t.s.digits.length c3, .int .i64 t.carry] 43)) := (Below.refl _ _).alloc (Nat.le_refl _) _
  have T1 := Lib.hid t1; clear t1
  go_enter Tryd.func46, Tryd.ntmps46
  go_wp2_with fail
  refine (addedWith_any t.a t.b A1 A2 c1 c2 A m c fs _ (r1.below hb0) (r2.below hb0) (hr.below steady_FltM hb0) T1.out t2 t3 t4 t5 t6 hg hm).mono ?_; rintro e w1 ⟨X, x, rfl, ox, hw1⟩
  have hb1 : Below w.heap.size w w1 := hb0.trans (hw1.mono (by simp))
  obtain ⟨hc, hf⟩ := bcellB (B := w.heap.size + 1) (hw1.mono (by simp))
  have z1 : w.heap.size + 1 ≤ w1.heap.size := by have := hw1.size; simpa using this
  have rX := ox.ri
  have hl := sumL_len t.a.base t.a.digits t.b.digits fs t.a.digits.length
  have x0 : w1.cell? ⟨w.heap.size, 4, none⟩ = some (.int .i64 t.s.base) := by go_simp
  have x1 : w1.cell? ⟨w.heap.size, 5, none⟩ = some (.slice A3 t.s.digits.length c3) := by go_simp
  have x2 : w1.cell? ⟨w.heap.size, 6, none⟩ = some (.int .i64 t.carry) := by go_simp
  have hbA : Below w1.heap.size w1 (w1.alloc (.cells #[.int .i64 t.a.base, .slice X t.a.digits.length x] 41)) := (Below.refl _ _).alloc (Nat.le_refl _) _
  have y0 : (w1.alloc (.cells #[.int .i64 t.a.base, .slice X t.a.digits.length x] 41)).cell? ⟨w.heap.size, 4, none⟩ = some (.int .i64 t.s.base) := by rw [hbA.cell (by exact z1)]; exact x0
  have y1 : (w1.alloc (.cells #[.int .i64 t.a.base, .slice X t.a.digits.length x] 41)).cell? ⟨w.heap.size, 5, none⟩ = some (.slice A3 t.s.digits.length c3) := by rw [hbA.cell (by exact z1)]; exact x1
  have y2 : (w1.alloc (.cells #[.int .i64 t.a.base, .slice X t.a.digits.length x] 41)).cell? ⟨w.heap.size, 6, none⟩ = some (.int .i64 t.carry) := by rw [hbA.cell (by exact z1)]; exact x2
  have K := SameRegister_any (sumReg t fs) t.s X A3 x c3 (w1.alloc (.cells #[.int .i64 t.a.base, .slice X t.a.digits.length x] 41)) (by show RI _ X (sumL t.a.base t.a.digits t.b.digits fs t.a.digits.length).length _; rw [hl]; exact rX.below hbA) ((r3.below hb1).below hbA) (by unfold SmallReg sumReg; simp only; omega) s3
  rw [show (sumReg t fs).digits.length = t.a.digits.length from hl] at K
  have KK := Lib.hid K
  clear K hc hf ox hl
  rcases k : sameR (sumReg t fs) t.s with _ | _
  all_goals
    have HF := Lib.hid (show expl t fs = (sameR (sumReg t fs) t.s && (carryAt t.a.base t.a.digits t.b.digits fs t.a.digits.length == t.carry)) from rfl)
    have K1 := Lib.hid k; clear k
    obtain ⟨cy, hcy⟩ : ∃ cy, cy = carryAt t.a.base t.a.digits t.b.digits fs t.a.digits.length := ⟨_, rfl⟩
    rw [← hcy] at HF
    rw [← hcy]
    clear hcy
    go_wp2_with fail
    refine (calls_val KK.out (congrArg Value.bool K1.out)).mono ?_; rintro e w2 ⟨rfl, hw2⟩
    have hb2 := hb1.trans ((hbA.mono (by omega)).trans (hw2.mono (by simp; omega)))
    have u2 : w2.cell? ⟨w.heap.size, 6, none⟩ = some (.int .i64 t.carry) := by rw [hw2.cell (by simp; omega)]; exact y2
    go_wp2
    go_ret
    exact ⟨ret_bool (by rw [HF.out, K1.out]; rfl), hb2⟩
end Go.Proofs.YtgpmngcemnnpmaaDoor

namespace Go.Proofs.YtgpmngcemnnpmaaDoor
open Go.RowKit Go.Sort
def Asc (fs : List Flt) : Prop := ∀ (k : Nat) (h : k + 1 < fs.length), (fs[k]'(by omega)).lever < fs[k + 1].lever
def vexpl (ts : List Tri) (fs : List Flt) : Bool := ts.all (fun t => expl t fs)
theorem between_b (a b c : Int) (w : World) : Calls Tryd.prog 71 #[.int .i64 a, .int .i64 b, .int .i64 c] w fun e w' => e = .returned (.bool (betB a b c)) ∧ Below w.heap.size w w' :=
  (between_any a b c w).mono fun _ _ ⟨h, e⟩ => ⟨h, e ▸ Below.refl _ _⟩
theorem isFault_any (n : Nat) (f : Flt) (w : World) (hn : n ≤ 16) (h1 : 1 ≤ f.kind) (h2 : f.kind ≤ 3) (h3 : 0 ≤ f.lever) (h4 : f.lever < n) :
    Calls Tryd.prog 72 #[.int .i64 n, .agg #[.int .i64 f.kind, .int .i64 f.lever]] w fun e w' => e = .returned (.bool true) ∧ Below w.heap.size w w' := by
  have k1 : betB f.kind 1 3 = true := betB_iff.2 ⟨h1, h2⟩
  have k2 : betB f.lever 0 (n - 1) = true := betB_iff.2 ⟨h3, by omega⟩
  have K1 := Lib.hid k1; have K2 := Lib.hid k2
  clear k1 k2
  go_enter Tryd.func72, Tryd.ntmps72
  go_wp2_with (go_at_call 71; refine (between_any _ _ _ _).mono ?_; rintro e w' ⟨rfl, rfl⟩; first | rw [K1.out] | rw [K2.out])
  go_ret
  exact ⟨rfl, (Below.refl _ _).alloc (Nat.le_refl _) _⟩
set_option maxHeartbeats 1600000 in
theorem ValidFaults_true (n : Nat) (A : Option Addr) (m c : Nat) (fs : List Flt) (w : World) (hr : RL FltM 2 w A m fs) (hg : GoodF n fs) (ha : Asc fs) (hn1 : 1 ≤ n) (hn : n ≤ 16) (hm : m ≤ 1000000) :
    Calls Tryd.prog 38 #[.int .i64 n, .slice A m c] w fun e w' => e = .returned (.bool true) ∧ Below w.heap.size w w' := by
  have HL := Lib.hid hr.1
  go_enter Tryd.func38, Tryd.ntmps38
  go_wp2
  go_loopw [9] (fun i wr => ∃ k : Nat, k ≤ m ∧ i = .int .i64 k ∧ Below w.heap.size w wr) (fun i _ => m - (intOf i).toNat)
  case atStart => exact ⟨0, Nat.zero_le _, rfl, Below.refl _ _⟩
  case round =>
    obtain ⟨k, hk, rfl, hbr⟩ := hrel
    by_cases hkn : k < m
    · obtain ⟨ad, hA, hlt, hkl, f1, f2⟩ := (hr.below steady_FltM hbr).at_ hkn
      obtain ⟨q1, q2, q3, q4⟩ := hg fs[k] (List.getElem_mem _)
      have KF := Lib.hid (fun (W : World) => isFault_any n fs[k] W hn q1 q2 q3 q4)
      have hi0 : (0 : Int) ≤ (k : Int) := by omega
      have hi1 : (k : Int) < (m : Int) := by omega
      have hfb : Below wr.heap.size wr (wr.alloc (.cells #[.int .i64 fs[k].kind, .int .i64 fs[k].lever] 38)) := (Below.refl _ _).alloc (Nat.le_refl _) _
      have x1 := cell_regrown (show (wr.alloc (.cells #[.int .i64 fs[k].kind, .int .i64 fs[k].lever] 38)).cell? ⟨wr.heap.size, 0, none⟩ = some (.int .i64 fs[k].kind) by go_simp)
      have x2 := cell_regrown (show (wr.alloc (.cells #[.int .i64 fs[k].kind, .int .i64 fs[k].lever] 38)).cell? ⟨wr.heap.size, 1, none⟩ = some (.int .i64 fs[k].lever) by go_simp)
      rcases Nat.eq_zero_or_pos k with hk0 | hk0
      · subst hk0
        rw [Nat.zero_mul, addr_add_zero] at f1 f2
        subst hA
        go_wp2_with fail
        refine wp_region_quiet_below (by kernel_rfl) (by kernel_rfl) ?_
        repeat (go_big_quiet_step ((go_at_call 72; exact quietB (fun W _ => KF.out W))))
        refine wpQuiet_nil ?_
        intro W1 hw'
        have hB1 : Below wr.heap.size wr W1 := by
          obtain ⟨⟨dq, osq⟩, hw''⟩ := hw'
          rw [hw'']; exact hfb.trans ((below_regrown _ dq osq).mono hfb.size)
        clear hw'
        go_wp2
        go_roundw
        case rel => exact ⟨1, by omega, by go_num, hbr.trans (hB1.mono hbr.size)⟩
        case measure => simp [intOf]; omega
      · obtain ⟨ad', hA', -, hkl', g1, g2⟩ := (hr.below steady_FltM hbr).at_ (show k - 1 < m by omega)
        obtain rfl : ad = ad' := by rw [hA] at hA'; injection hA'
        clear hA'
        have hasc := ha (k - 1) (by omega)
        have he : fs[k - 1 + 1] = fs[k] := by congr 1; omega
        rw [he] at hasc
        obtain ⟨lv, hlv⟩ : ∃ lv, lv = fs[k - 1].lever := ⟨_, rfl⟩
        rw [← hlv] at g2 hasc
        clear hlv he g1
        have y2 := cell_regrown ((hfb.cell (by rw [show (⟨(ad.add ((k - 1) * 2)).block, (ad.add ((k - 1) * 2)).off + 1, none⟩ : Addr).block = ad.block from block_of_add _ _]; exact hlt)).trans g2)
        have hd : decide ((0 : Int) < (k : Int)) = true := decide_eq_true (by omega)
        have hd2 : decide (fs[k].lever ≤ lv) = false := decide_eq_false (by omega)
        have hi2 : (0 : Int) < (k : Int) := by omega
        subst hA
        go_wp2_with fail
        refine wp_region_quiet_below (by kernel_rfl) (by kernel_rfl) ?_
        repeat (go_big_quiet_step ((go_at_call 72; exact quietB (fun W _ => KF.out W))))
        refine wpQuiet_nil ?_
        intro W1 hw'
        have hB1 : Below wr.heap.size wr W1 := by
          obtain ⟨⟨dq, osq⟩, hw''⟩ := hw'
          rw [hw'']; exact hfb.trans ((below_regrown _ dq osq).mono hfb.size)
        clear hw'
        go_wp2
        go_roundw
        case rel => exact ⟨k + 1, by omega, by go_num, hbr.trans (hB1.mono hbr.size)⟩
        case measure => simp [intOf]; omega
    · have K1 : betB (n : Int) 1 16 = true := betB_iff.2 ⟨by omega, by omega⟩
      have KK := Lib.hid K1; clear K1
      go_wp2_with (go_at_call 73; refine (isRegisterWidth_any _ _).mono ?_; rintro e w' ⟨rfl, rfl⟩; rw [KK.out])
      go_ret
      exact ⟨rfl, hbr⟩
end Go.Proofs.YtgpmngcemnnpmaaDoor

namespace Go.Proofs.YtgpmngcemnnpmaaDoor
open Go.RowKit Go.Sort
end Go.Proofs.YtgpmngcemnnpmaaDoor

namespace Go.Proofs.YtgpmngcemnnpmaaDoor
open Go.RowKit Go.Sort
end Go.Proofs.YtgpmngcemnnpmaaDoor

namespace Go.Proofs.YtgpmngcemnnpmaaDoor
open Go.RowKit Go.Sort
theorem twoC_zero {b : Int} {xs ys : List Int} (h1 : vreg b xs = true) (h2 : vreg b ys = true) (hl : xs.length = ys.length) : twoC b xs b ys = 0 := by
  simp [twoC, h1, h2, hl]
/-! the sum of a row of digits with faults -/
theorem sumL_vreg {b : Int} {xs ys : List Int} {fs : List Flt} (hb : 2 ≤ b) (hb16 : b ≤ 16) (hdx : Digs b xs) (hdy : Digs b ys) (n1 : 1 ≤ xs.length) (n2 : xs.length ≤ 16) (hp : pw b xs.length ≤ 1000000000001) : vreg b (sumL b xs ys fs xs.length) = true := by
  refine vreg_short hb hb16 ?_ (by rw [sumL_len]; exact n1) (by rw [sumL_len]; exact n2) (by rw [sumL_len]; exact hp)
  intro d hd
  obtain ⟨k, -, rfl⟩ := List.mem_map.1 hd
  have h1 := hdx.at hb k
  have h2 := hdy.at hb k
  have h3 := carryAt_bd b xs ys fs k
  unfold sumD
  rw [Int.tmod_eq_emod_of_nonneg (by omega)]
  exact ⟨Int.emod_nonneg _ (by omega), Int.emod_lt_of_pos _ (by omega)⟩
theorem cstep_none {b t c : Int} (hb : 2 ≤ b) (ht : 0 ≤ t) (hc : 0 ≤ c) (hc1 : c ≤ 1) (ht2 : t + c < 2 * b) : cstep b t c 0 = (t + c) / b := by
  unfold cstep
  rw [if_neg (by decide), if_neg (by decide), if_neg (by decide)]
  split
  · exact (Int.ediv_eq_zero_of_lt (by omega) (by omega)).symm
  · have e : t + c = (t + c - b) + 1 * b := by omega
    rw [e, Int.add_mul_ediv_right _ _ (by omega), Int.ediv_eq_zero_of_lt (by omega) (by omega)]
    rfl
theorem carryAt_none {b : Int} {xs ys : List Int} (hb : 2 ≤ b) (hdx : Digs b xs) (hdy : Digs b ys) (k : Nat) : carryAt b xs ys [] k = carK b xs ys k := by
  induction k with
  | zero => rfl
  | succ k ih =>
    have h1 := hdx.at hb k
    have h2 := hdy.at hb k
    have h3 := carryAt_bd b xs ys [] k
    rw [carryAt, carK, ← ih]
    exact cstep_none hb (by omega) h3.1 h3.2 (by omega)
theorem sumL_none {b : Int} {xs ys : List Int} (hb : 2 ≤ b) (hdx : Digs b xs) (hdy : Digs b ys) (n : Nat) : sumL b xs ys [] n = addD b xs ys n := by
  unfold sumL addD
  refine List.map_congr_left fun k _ => ?_
  have h1 := hdx.at hb k
  have h2 := hdy.at hb k
  have h3 := carryAt_bd b xs ys [] k
  unfold sumD sumK
  rw [Int.tmod_eq_emod_of_nonneg (by omega), carryAt_none hb hdx hdy]
end Go.Proofs.YtgpmngcemnnpmaaDoor

namespace Go.Proofs.YtgpmngcemnnpmaaDoor
open Go.RowKit Go.Sort
/-! the first phase: the wheels turned, and which levers are cocked -/
def turnK (b : Int) (xs ys : List Int) (k : Nat) : Int := (xs.getD k 0 + ys.getD k 0) % b
def turnD (b : Int) (xs ys : List Int) (n : Nat) : List Int := (List.range n).map (turnK b xs ys)
def cockK (b : Int) (xs ys : List Int) (k : Nat) : Bool := decide (b ≤ xs.getD k 0 + ys.getD k 0)
def cockL (b : Int) (xs ys : List Int) (n : Nat) : List Bool := (List.range n).map (cockK b xs ys)
theorem turnD_succ (b : Int) (xs ys : List Int) (n : Nat) : turnD b xs ys (n + 1) = turnD b xs ys n ++ [turnK b xs ys n] := by unfold turnD; rw [List.range_succ, List.map_append]; rfl
theorem turnD_len (b : Int) (xs ys : List Int) (n : Nat) : (turnD b xs ys n).length = n := by simp [turnD]
theorem cockL_succ (b : Int) (xs ys : List Int) (n : Nat) : cockL b xs ys (n + 1) = cockL b xs ys n ++ [cockK b xs ys n] := by unfold cockL; rw [List.range_succ, List.map_append]; rfl
theorem cockL_len (b : Int) (xs ys : List Int) (n : Nat) : (cockL b xs ys n).length = n := by simp [cockL]
theorem turnD_digs {b : Int} (hb : 2 ≤ b) (xs ys : List Int) (n : Nat) : Digs b (turnD b xs ys n) := by
  intro d hd
  obtain ⟨k, -, rfl⟩ := List.mem_map.1 hd
  exact ⟨Int.emod_nonneg _ (by omega), Int.emod_lt_of_pos _ (by omega)⟩
theorem tpBl : TP 92 4 (.bool false) 1 1 := ⟨Tryd.underlying92, by kernel_rfl, rfl, by decide⟩
def rowBl (C : Option Addr) (cc : Nat) (bs : List Bool) : Ent := .row (.slice C bs.length cc) 4 1 bs.length (bs.map Value.bool)
end Go.Proofs.YtgpmngcemnnpmaaDoor

namespace Go.Proofs.YtgpmngcemnnpmaaDoor
open Go.RowKit Go.Sort
theorem Kn.prefixG {w0 w : World} {m : List Ent} {g c n j size : Nat} {e : TypeId} {xs : List Value} (h : Kn w0 (.row (.slice (some ⟨g, 0, none⟩) n c) e size n xs :: m) w) (hj : j ≤ n) : Kn w0 (.row (.slice (some ⟨g, 0, none⟩) j c) e size j (xs.take (j * size)) :: m) w := by
  have h0 : w.ownsRow 0 e size (.slice (some ⟨g, 0, none⟩) n c) n xs := h.at0
  have hm : j * size ≤ n * size := Nat.mul_le_mul_right _ hj
  refine ⟨h.below, fun x hx => ?_, fun x hx k hk => ?_, List.pairwise_cons.2 ⟨fun x hx k hk => ?_, (List.pairwise_cons.1 h.apart).2⟩⟩
  · rcases List.mem_cons.1 hx with rfl | hx
    · rcases h0.2 with ⟨hv, _⟩ | ⟨g', cap, cur, hv, hb, hg, h1, h2, h3, h4⟩
      · cases hv
      · injection hv with hv1 hv2 hv3
        injection hv1 with hv1
        injection hv1 with hv1
        subst hv1
        subst hv3
        refine ⟨by rw [List.length_take, h0.1]; omega, .inr ⟨g, c, cur, rfl, hb, hg, by omega, h2, h3, ?_⟩⟩
        rw [← h4, List.take_take, Nat.min_eq_left hm]
    · exact h.ents x (List.mem_cons_of_mem _ hx)
  · rcases List.mem_cons.1 hx with rfl | hx
    · exact h.own _ (List.mem_cons_self ..) k hk
    · exact h.own x (List.mem_cons_of_mem _ hx) k hk
  · exact (List.pairwise_cons.1 h.apart).1 x hx k hk
theorem Kn.capG {w0 w : World} {m : List Ent} {g c n : Nat} {xs : List Value} {e : TypeId} {s : Nat} (h : Kn w0 (.row (.slice (some ⟨g, 0, none⟩) n c) e s n xs :: m) w) : n ≤ c := by
  have h0 : w.ownsRow 0 e s (.slice (some ⟨g, 0, none⟩) n c) n xs := h.at0
  rcases h0.2 with ⟨hv, _⟩ | ⟨g', cap, cur, hv, -, -, h1, h2, -⟩
  · cases hv
  · injection hv with _ _ hv
    subst hv
    exact h1
set_option maxHeartbeats 800000 in
theorem l24Undo_any (s t : ByteArray) (w : World) : Calls Tryd.prog 65 #[.string s, .string t] w fun e w' => e = .returned (.bool (undoB (strB s) (strB t))) ∧ Below w.heap.size w w' := by
  have K1 := (fun W => l24Kind_any s W)
  have K2 := (fun W => l24Kind_any t W)
  obtain ⟨R, hR⟩ : ∃ r, undoB (strB s) (strB t) = r := ⟨_, rfl⟩
  rw [hR]
  unfold undoB at hR
  have ha := kindOf_bd (strB s)
  obtain ⟨a, haa⟩ : ∃ a, kindOf (strB s) = a := ⟨_, rfl⟩
  obtain ⟨b, hbb⟩ : ∃ a, kindOf (strB t) = a := ⟨_, rfl⟩
  rw [haa] at K1 hR ha
  rw [hbb] at K2 hR
  have KB := (fun W => specStrokeBack_all a W ha)
  have hfit : R = (decide (0 < a) && (sbCode a == 0) && (b == sbBack a)) := by
    rw [← hR]
    unfold sbCode sbBack
    by_cases h : 1 ≤ a ∧ a ≤ 4
    · rw [if_pos h, if_pos h, decide_eq_true h, decide_eq_true (show 0 < a by omega)]
      by_cases h3 : backK a = b
      · rw [beq_iff_eq.2 h3, beq_iff_eq.2 h3.symm]; rfl
      · rw [beq_eq_false_iff_ne.2 h3, beq_eq_false_iff_ne.2 (fun e => h3 e.symm)]; simp
    · rw [if_neg h, decide_eq_false h, Bool.false_and]
      split <;> simp
  obtain ⟨c, hc⟩ : ∃ c, sbCode a = c := ⟨_, rfl⟩
  obtain ⟨d, hd⟩ : ∃ c, sbBack a = c := ⟨_, rfl⟩
  rw [hc, hd] at hfit
  simp only [hc, hd] at KB
  have HF := Lib.hid hfit
  replace K1 := Lib.hid K1
  replace K2 := Lib.hid K2
  replace KB := Lib.hid KB
  clear hR hc hd haa hbb ha hfit
  have fin : ∀ x y, (c == 0) = x → (b == d) = y → Calls Tryd.prog 65 #[.string s, .string t] w fun e w' => e = .returned (.bool R) ∧ Below w.heap.size w w' := by
    intro x y hx hy
    by_cases hp : 0 < a
    · have HR := Lib.hid (show R = (true && x && y) by rw [HF.out, hx, hy, decide_eq_true hp])
      cases x <;> cases y <;>
      · go_enter Tryd.func65, Tryd.ntmps65
        go_wp2_with (first
          | (go_at_call 96; with_reducible refine (K1.out _).mono ?_; rintro e w1 ⟨rfl, h1⟩)
          | (go_at_call 96; with_reducible refine (K2.out _).mono ?_; rintro e w2 ⟨rfl, h2⟩)
          | (go_at_call 97; refine (KB.out _).mono ?_; rintro e w' ⟨rfl, rfl⟩))
        go_ret
        exact ⟨by rw [HR.out]; rfl, by first | exact h1.trans (h2.mono h1.size) | exact h1⟩
    · have HR := Lib.hid (show R = (false && x && y) by rw [HF.out, hx, hy, decide_eq_false hp])
      cases x <;> cases y <;>
      · go_enter Tryd.func65, Tryd.ntmps65
        go_wp2_with (first
          | (go_at_call 96; with_reducible refine (K1.out _).mono ?_; rintro e w1 ⟨rfl, h1⟩)
          | (go_at_call 97; refine (KB.out _).mono ?_; rintro e w' ⟨rfl, rfl⟩))
        go_ret
        exact ⟨by rw [HR.out]; rfl, h1⟩
  exact fin _ _ rfl rfl
set_option maxHeartbeats 800000 in
theorem l00Has_any (A : Option Addr) (n c : Nat) (ds : List Int) (x : Int) (w : World) (hr : RI w A n ds) (hn : n ≤ 1000000) :
    Calls Tryd.prog 64 #[.slice A n c, .int .i64 x] w fun e w' => e = .returned (.bool (decide (x ∈ ds))) ∧ w = w' := by
  have hl := hr.1
  obtain ⟨R, hR⟩ : ∃ r, decide (x ∈ ds) = r := ⟨_, rfl⟩
  rw [hR]
  have HR := Lib.hid hR
  have HL := Lib.hid hl
  clear hR hl
  go_enter Tryd.func64, Tryd.ntmps64
  go_wp2_with fail
  go_loopw [5] (fun ii wr => ∃ k : Nat, k ≤ n ∧ ii = .int .i64 (k : Int) ∧ Hid (∀ j : Nat, j < k → ds[j]? ≠ some x) ∧ w = wr) (fun ii _ => n - (intOf ii).toNat)
  case atStart => exact ⟨0, Nat.zero_le _, rfl, Lib.hid (fun j h => by omega), rfl⟩
  case round =>
    obtain ⟨k, hk, rfl, HN, rfl⟩ := hrel
    by_cases hkn : k < n
    · have i1 : (k : Int) < (n : Int) := by omega
      have i0 : (0 : Int) ≤ (k : Int) := by omega
      obtain ⟨ad, hA, hlt, hkx, hcx⟩ := hr.at_ hkn
      have hget := List.getElem?_eq_getElem hkx
      obtain ⟨y, hy⟩ : ∃ y, ds[k] = y := ⟨_, rfl⟩
      rw [hy] at hcx hget
      have HG := Lib.hid hget
      subst hA
      clear hy hget hkx hr
      by_cases hyx : y = x
      · subst hyx
        have e1 : R = true := by rw [← HR.out]; exact decide_eq_true (List.mem_of_getElem? HG.out)
        subst e1
        go_wp2_with fail
        go_ret
        exact ⟨rfl, by first | rfl | trivial⟩
      · have y1 : (y == x) = false := beq_eq_false_iff_ne.2 hyx
        have HN2 := Lib.hid (fun (j : Nat) (h : j < k + 1) => (show ds[j]? ≠ some x by
          rcases Nat.lt_or_ge j k with h2 | h2
          · exact HN.out j h2
          · obtain rfl : j = k := by omega
            rw [HG.out]
            intro e
            exact hyx (Option.some.inj e)))
        go_wp2_with fail
        go_roundw
        case rel => exact ⟨k + 1, by omega, by go_num, HN2, by first | rfl | trivial⟩
        case measure => simp [intOf] <;> omega
    · have i1 : ¬ (k : Int) < (n : Int) := by omega
      obtain rfl : k = n := by omega
      have e1 : R = false := by
        rw [← HR.out]
        refine decide_eq_false (fun h => ?_)
        obtain ⟨j, hj⟩ := List.getElem?_of_mem h
        exact HN.out j (by have := (List.getElem?_eq_some_iff.1 hj).1; have := HL.out; omega) hj
      subst e1
      go_wp2_with fail
      go_ret
      exact ⟨rfl, by first | rfl | trivial⟩
end Go.Proofs.YtgpmngcemnnpmaaDoor

namespace Go.Proofs.YtgpmngcemnnpmaaDoor
open Go.RowKit Go.Sort
theorem lastUndo_nil (bel : List Int) (i : Nat) (L : ByteArray) : lastUndo bel [] i L = false := rfl
theorem lastUndo_snoc (bel : List Int) (K : List Kept) (k : Kept) (i : Nat) (L : ByteArray) : lastUndo bel (K ++ [k]) i L = (undoB (strB k.text) (strB L) && !(decide ((k.at_ : Int) ∈ bel)) && !(decide ((i : Int) ∈ bel))) := by
  unfold lastUndo
  rw [List.getLast?_append]; rfl
theorem stepKp_push {bel : List Int} {K : List Kept} {i : Nat} {L : ByteArray} (h : lastUndo bel K i L = false) : stepKp bel K i L = K ++ [⟨i, L⟩] := by unfold stepKp; rw [h]; rfl
theorem stepKp_pop {bel : List Int} {K : List Kept} {k : Kept} {i : Nat} {L : ByteArray} (h : lastUndo bel (K ++ [k]) i L = true) : stepKp bel (K ++ [k]) i L = K := by unfold stepKp; rw [h, if_pos rfl, List.dropLast_concat]
theorem rlStr_cell {w : World} {ad : Addr} {n k : Nat} {ss : List ByteArray} {L : ByteArray} (h : RL StrM 1 w (some ad) n ss) (hL : ss[k]? = some L) : w.cell? (ad.add k) = some (.string L) := by
  obtain ⟨hl, he⟩ := List.getElem?_eq_some_iff.1 hL
  obtain ⟨ad2, hA, _, _, h2⟩ := h.at_ (show k < n by have := h.1; omega)
  injection hA with hA
  subst hA
  unfold StrM at h2
  rw [Nat.mul_one] at h2
  rw [h2, he]
def textsK (K : List Kept) : List Value := (K.map Kept.text).map Value.string
def ringsK (bel : List Int) (K : List Kept) : List Value := (K.map fun x => decide ((x.at_ : Int) ∈ bel)).map Value.bool
set_option maxRecDepth 100000 in
set_option maxHeartbeats 6400000 in
theorem specShortSession_any (A : Option Addr) (n c : Nat) (ss : List ByteArray) (w : World) (hr : RL StrM 1 w A n ss) (hsz : ∀ s ∈ ss, s.size ≤ 1048576) :
    Calls Tryd.prog 29 #[.slice A n c] w (SCRet (shoL ss) (wholeC (ss.map strB)) w) := by
  have KW := (l24Ask_any A n c ss w hr hsz)
  have hl := hr.1
  have HR := Lib.hid (fun W (hW : Below w.heap.size w W) => hr.below steady_StrM hW)
  unfold WholeS at KW
  clear hr hsz
  by_cases hC : wholeC (ss.map strB) = 0
  rotate_left
  · have e2 : shoL ss = [] := by unfold shoL; rw [if_neg hC]
    rw [e2]
    obtain ⟨C, hCC⟩ : ∃ C, wholeC (ss.map strB) = C := ⟨_, rfl⟩
    rw [hCC] at KW hC ⊢
    replace KW := Lib.hid KW
    have HC := Lib.hid hC
    clear e2 hCC
    have hcb : (C == 0) = false := by simpa using hC
    have hcb2 : (C != 0) = true := by simpa using hC
    clear hC
    go_enter Tryd.func29, Tryd.ntmps29
    go_wp2_with fail
    refine KW.out.mono ?_; rintro e w1 (⟨h0, -⟩ | ⟨-, g, rfl, hw⟩)
    · exact absurd h0 HC.out
    go_wp2_with fail
    go_ret2
    exact SCRet.none hw
  · have h100 := (wholeC_ok hC).1
    rw [List.length_map] at h100
    have e2 : shoL ss = (keptU (runS (ss.map strB)).1.bel ss n).map Kept.text := by unfold shoL; rw [if_pos hC, hl]
    rw [e2]
    rw [hC] at KW ⊢
    have hn : n ≤ 100 := by omega
    obtain ⟨s, hs⟩ : ∃ s, (runS (ss.map strB)).1 = s := ⟨_, rfl⟩
    rw [hs] at KW ⊢
    have hgood := (runS_good (wholeC_ok hC).2).bel
    rw [hs, List.length_map] at hgood
    obtain ⟨bel, hbel⟩ : ∃ b, s.bel = b := ⟨_, rfl⟩
    rw [hbel] at hgood ⊢
    have hbl : bel.length ≤ 100 := by omega
    replace KW := Lib.hid KW
    have HL := Lib.hid hl
    have HKU := Lib.hid (fun k => (show keptU bel ss (k + 1) = stepKp bel (keptU bel ss k) k (ss.getD k ByteArray.empty) from rfl))
    have HKN := Lib.hid (fun k => keptU_len bel ss k)
    obtain ⟨F, hF⟩ : ∃ F, keptU bel ss n = F := ⟨_, rfl⟩
    rw [hF]
    have HF := Lib.hid hF
    clear hs hC hl e2 h100 hgood hF
    go_enter Tryd.func29, Tryd.ntmps29
    go_wp2_with fail
    refine KW.out.mono ?_; rintro e w1 (⟨-, g, rfl, hS⟩ | ⟨h0, -⟩)
    rotate_left
    · exact absurd rfl h0
    obtain ⟨U1, u1, U2, u2, U3, u3, A1, c1, A2, c2, A3, c3, SA, sc, BA, bc, m, hK, -⟩ := hS
    have K1 : Kn w [.blk g [.int .i64 s.start.a.base, .slice U1 s.start.a.digits.length u1, .int .i64 s.start.b.base, .slice U2 s.start.b.digits.length u2, .int .i64 s.start.s.base, .slice U3 s.start.s.digits.length u3, .int .i64 s.start.carry, .int .i64 s.m.a.base, .slice A1 s.m.a.digits.length c1, .int .i64 s.m.b.base, .slice A2 s.m.b.digits.length c2, .int .i64 s.m.s.base, .slice A3 s.m.s.digits.length c3, .int .i64 s.m.carry, .slice SA s.str.length sc, .slice BA s.bel.length bc, .bool s.ended] 97, rowI BA bc s.bel] w1 := (hK.front 5 rfl).sel [1, 0] 2 (by decide) (by decide) |>.only (by exact List.Sublist.cons_cons _ (List.Sublist.cons_cons _ (List.nil_sublist _)))
    rw [hbel] at K1
    obtain ⟨CS, hCS⟩ : ∃ CS, ([.int .i64 s.start.a.base, .slice U1 s.start.a.digits.length u1, .int .i64 s.start.b.base, .slice U2 s.start.b.digits.length u2, .int .i64 s.start.s.base, .slice U3 s.start.s.digits.length u3, .int .i64 s.start.carry, .int .i64 s.m.a.base, .slice A1 s.m.a.digits.length c1, .int .i64 s.m.b.base, .slice A2 s.m.b.digits.length c2, .int .i64 s.m.s.base, .slice A3 s.m.s.digits.length c3, .int .i64 s.m.carry, .slice SA s.str.length sc, .slice BA s.bel.length bc, .bool s.ended] : List Value) = CS := ⟨_, rfl⟩
    have hb15 : CS[15]? = some (.slice BA bel.length bc) := by rw [← hCS, ← hbel]; rfl
    rw [hbel] at hCS
    rw [hCS] at K1
    have HB15 := Lib.hid hb15
    clear hK hCS hbel hb15 KW
    have K2 : Kn w [.row (.slice (some ⟨w1.heap.size, 0, none⟩) 0 0) 9 1 0 [], .blk g CS 97, rowI BA bc bel] _ := (K1.al [] 9).litRow (size := 1) (n := 0) rfl (by decide)
    go_upto_region 5 with fail
    refine Code.wp.kn K2 ?_; clear K1 K2; intro w2 K2
    obtain ⟨gO, hgO⟩ : ∃ g, w1.heap.size = g := ⟨_, rfl⟩
    rw [hgO] at K2
    try rw [hgO]
    clear hgO
    have K3 : Kn w [.row (.slice (some ⟨w2.heap.size, 0, none⟩) 0 0) 4 1 0 [], .row (.slice (some ⟨gO, 0, none⟩) 0 0) 9 1 0 [], .blk g CS 97, rowI BA bc bel] _ := (K2.al [] 4).litRow (size := 1) (n := 0) rfl (by decide)
    go_upto_region 6 with fail
    refine Code.wp.kn K3 ?_; clear K2 K3; intro w3 K3
    obtain ⟨gB, hgB⟩ : ∃ g, w2.heap.size = g := ⟨_, rfl⟩
    rw [hgB] at K3
    try rw [hgB]
    clear hgB
    go_wp2_with fail
    go_loopw [6, 7, 8] (fun oo rr ii wr => ∃ (k p : Nat) (K : List Kept) (vo vr : Value), k ≤ n ∧ ii = .int .i64 (k : Int) ∧ oo = vo ∧ rr = vr ∧ Hid (K.length = p) ∧ Hid (K = keptU bel ss k) ∧ Kn w [.row vo 9 1 p (textsK K), .row vr 4 1 p (ringsK bel K), .blk g CS 97, rowI BA bc bel] wr) (fun _ _ ii _ => n - (intOf ii).toNat)
    case atStart => exact ⟨0, 0, [], _, _, Nat.zero_le _, rfl, rfl, rfl, Lib.hid rfl, Lib.hid rfl, K3.sel [1, 0, 2, 3] 99 (by decide) (by decide)⟩
    case round =>
      clear K3
      obtain ⟨k, p, K, vo, vr, hk, rfl, rfl, rfl, HKL, HK, KR⟩ := hrel
      have HP := Lib.hid (show p ≤ 100 by have h := HKN.out k; rw [← HK.out, HKL.out] at h; omega)
      obtain ⟨Ao, ao, rfl⟩ := row_form KR.at0
      obtain ⟨Ar, ar, rfl⟩ := row_form (KR.front 1 rfl).at0
      by_cases hkn : k < n
      · have i1 : (k : Int) < (n : Int) := by omega
        have i0 : (0 : Int) ≤ (k : Int) := by omega
        obtain ⟨adL, hAL, hltL, hkx, hcL⟩ := (HR.out _ KR.below).at_ hkn
        have hku := HKU.out k
        rw [← HK.out, List.getD_eq_getElem?_getD, List.getElem?_eq_getElem hkx, Option.getD_some] at hku
        obtain ⟨L, hLL⟩ : ∃ L, ss[k] = L := ⟨_, rfl⟩
        rw [hLL] at hcL hku
        unfold StrM at hcL
        rw [Nat.mul_one] at hcL
        obtain ⟨be, hbe⟩ : ∃ b, decide ((k : Int) ∈ bel) = b := ⟨_, rfl⟩
        have KH := (l00Has_any BA bel.length bc bel (k : Int) wr (KR.front 3 rfl).riv (by omega))
        rw [hbe] at KH
        replace KH := Lib.hid KH
        have HBE := Lib.hid hbe
        have HLK := Lib.hid (show ss[k]? = some L by rw [List.getElem?_eq_getElem hkx, hLL])
        have HST0 := Lib.hid hku
        have c15 := ((KR.front 2 rfl).blkAt.1 15).trans HB15.out
        have g15 := (KR.front 2 rfl).blkAt.2.2
        subst hAL
        clear hLL hku hkx hbe hcL
        have HLC := Lib.hid (fun W (hW : Below w.heap.size w W) => rlStr_cell (HR.out W hW) HLK.out)
        have x2 := HLC.out wr KR.below
        rcases Nat.eq_zero_or_pos p with hp0 | hp0
        · have hK0 : K = [] := List.length_eq_zero_iff.1 (by rw [HKL.out]; exact hp0)
          have HST := Lib.hid (show keptU bel ss (k + 1) = K ++ [⟨k, L⟩] by rw [HST0.out, stepKp_push (by rw [hK0]; exact lastUndo_nil _ _ _)])
          have p1 : ¬ (0 : Int) < (p : Int) := by omega
          have p1b : decide ((0 : Int) < (p : Int)) = false := decide_eq_false p1
          have p1c : decide (0 < p) = false := decide_eq_false (by omega)
          clear hK0 hp0
          go_upto_region 11 with (go_at_call 64; refine KH.out.mono ?_; rintro e w' ⟨rfl, rfl⟩)
          clear c15 g15
          refine wp_region_quiet_below (by kernel_rfl) (by kernel_rfl) ?_
          repeat (go_big_quiet_step ((go_at_call 65; exact quietB (fun W _ => KU.out W))))
          refine wpQuiet_nil ?_
          intro _ hw'
          obtain ⟨⟨dq, osq⟩, hw''⟩ := hw'
          subst hw''
          obtain ⟨wq, hwq⟩ : ∃ W, grow (redrawn wr dq) osq = W := ⟨_, rfl⟩
          replace KR := KR.keep (below_regrown wr dq osq)
          dsimp only
          rw [hwq] at KR ⊢
          clear hwq
          try clear x0
          try clear x1
          try clear x2
          have x2 := HLC.out _ KR.below
          go_upto_region 15 with (at_builtin; refine kn_app tpS rfl _ _ rfl _ p (textsK K) rfl rfl (KR.al [.string L] 9) rfl (by simp [Value.oneCell']) (by have := HP.out; omega) (by have := HP.out; omega) ?_; intro v5 w5 K5)
          go_wp2_with (at_builtin; refine kn_app tpBl rfl _ _ rfl _ p (ringsK bel K) rfl rfl ((K5.front 1 rfl).al [.bool be] 4) rfl (by simp [Value.oneCell']) (by have := HP.out; omega) (by have := HP.out; omega) ?_; intro v6 w6 K6)
          go_roundw
          case rel => exact ⟨k + 1, p + 1, _, v5, v6, by omega, by go_num, rfl, rfl, Lib.hid (by rw [HST.out, List.length_append, HKL.out]; rfl), Lib.hid rfl, by rw [HST.out, textsK, ringsK, List.map_append, List.map_append, List.map_append, List.map_append]; have K7 := K6.sel [1, 0, 2, 3] 99 (by decide) (by decide); rw [← HBE.out] at K7; exact K7⟩
          case measure => simp [intOf] <;> omega
        · obtain ⟨q, hq⟩ : ∃ q, p = q + 1 := ⟨p - 1, by omega⟩
          obtain ⟨Ks, kk, hKs⟩ : ∃ Ks kk, K = Ks ++ [kk] := ⟨K.dropLast, K.getLast (by intro h; have := HKL.out; rw [h] at this; simp at this; omega), (List.dropLast_concat_getLast _).symm⟩
          have hql : Ks.length = q := by have h := HKL.out; rw [hKs, List.length_append, List.length_singleton] at h; omega
          obtain ⟨go, o1, hE⟩ := Kn.rowForm KR hp0
          injection hE with hE hE2 hE3
          subst hE hE3
          obtain ⟨gr, o2, hE⟩ := Kn.rowForm (KR.front 1 rfl) hp0
          injection hE with hE hE2 hE3
          subst hE hE3
          have p1 : (0 : Int) < (p : Int) := by omega
          have p1b : decide ((0 : Int) < (p : Int)) = true := decide_eq_true p1
          have p1c : decide (0 < p) = true := decide_eq_true (by omega)
          have p2 : IntKind.i64.wrap ((p : Int) - 1) = (q : Int) := by have := HP.out; rw [wrapI64 (by omega)]; omega
          have p3 : (0 : Int) ≤ (q : Int) := by omega
          have p4 : (q : Int) < (p : Int) := by omega
          have hlu := lastUndo_snoc bel Ks kk k L
          rw [← hKs] at hlu
          obtain ⟨T, hT⟩ : ∃ T, kk.text = T := ⟨_, rfl⟩
          obtain ⟨rg, hrg⟩ : ∃ r, decide ((kk.at_ : Int) ∈ bel) = r := ⟨_, rfl⟩
          have KU := (fun W => l24Undo_any T L W)
          obtain ⟨u, hu⟩ : ∃ u, undoB (strB T) (strB L) = u := ⟨_, rfl⟩
          rw [hu] at KU
          rw [hT, hrg, HBE.out, hu] at hlu
          obtain ⟨x0, -⟩ := Kn.rowCell KR (j := q) (u := .string T) (by rw [hKs, textsK, ← hT, ← hql]; simp)
          obtain ⟨x1, -⟩ := Kn.rowCell (KR.front 1 rfl) (j := q) (u := .bool rg) (by rw [hKs, ringsK, ← hrg, ← hql]; simp)
          replace KU := Lib.hid KU
          have HLU := Lib.hid hlu
          have HKs := Lib.hid hKs
          have HQL := Lib.hid hql
          have HQ := Lib.hid hq
          clear hT hrg hu hlu hKs hql hq hp0
          cases be with
          | true =>
            have HST := Lib.hid (show keptU bel ss (k + 1) = K ++ [⟨k, L⟩] by rw [HST0.out, stepKp_push (by rw [HLU.out]; simp)])
            go_upto_region 11 with (go_at_call 64; refine KH.out.mono ?_; rintro e w' ⟨rfl, rfl⟩)
            clear c15 g15
            refine wp_region_quiet_below (by kernel_rfl) (by kernel_rfl) ?_
            repeat (go_big_quiet_step ((go_at_call 65; exact quietB (fun W _ => KU.out W))))
            refine wpQuiet_nil ?_
            intro _ hw'
            obtain ⟨⟨dq, osq⟩, hw''⟩ := hw'
            subst hw''
            obtain ⟨wq, hwq⟩ : ∃ W, grow (redrawn wr dq) osq = W := ⟨_, rfl⟩
            replace KR := KR.keep (below_regrown wr dq osq)
            dsimp only
            rw [hwq] at KR ⊢
            clear hwq
            try clear x0
            try clear x1
            try clear x2
            have x2 := HLC.out _ KR.below
            go_upto_region 15 with (at_builtin; refine kn_app tpS rfl _ _ rfl _ p (textsK K) rfl rfl (KR.al [.string L] 9) rfl (by simp [Value.oneCell']) (by have := HP.out; omega) (by have := HP.out; omega) ?_; intro v5 w5 K5)
            go_wp2_with (at_builtin; refine kn_app tpBl rfl _ _ rfl _ p (ringsK bel K) rfl rfl ((K5.front 1 rfl).al [.bool true] 4) rfl (by simp [Value.oneCell']) (by have := HP.out; omega) (by have := HP.out; omega) ?_; intro v6 w6 K6)
            go_roundw
            case rel => exact ⟨k + 1, p + 1, _, v5, v6, by omega, by go_num, rfl, rfl, Lib.hid (by rw [HST.out, List.length_append, HKL.out]; rfl), Lib.hid rfl, by rw [HST.out, textsK, ringsK, List.map_append, List.map_append, List.map_append, List.map_append]; have K7 := K6.sel [1, 0, 2, 3] 99 (by decide) (by decide); rw [← HBE.out] at K7; exact K7⟩
            case measure => simp [intOf] <;> omega
          | false =>
            cases rg with
            | true =>
              have HST := Lib.hid (show keptU bel ss (k + 1) = K ++ [⟨k, L⟩] by rw [HST0.out, stepKp_push (by rw [HLU.out]; simp)])
              go_upto_region 11 with (go_at_call 64; refine KH.out.mono ?_; rintro e w' ⟨rfl, rfl⟩)
              clear c15 g15
              have x1 := cell_regrown x1
              refine wp_region_quiet_below (by kernel_rfl) (by kernel_rfl) ?_
              repeat (go_big_quiet_step ((go_at_call 65; exact quietB (fun W _ => KU.out W))))
              refine wpQuiet_nil ?_
              intro _ hw'
              obtain ⟨⟨dq, osq⟩, hw''⟩ := hw'
              subst hw''
              obtain ⟨wq, hwq⟩ : ∃ W, grow (redrawn wr dq) osq = W := ⟨_, rfl⟩
              replace KR := KR.keep (below_regrown wr dq osq)
              dsimp only
              rw [hwq] at KR ⊢
              clear hwq
              try clear x0
              try clear x1
              try clear x2
              have x2 := HLC.out _ KR.below
              go_upto_region 15 with (at_builtin; refine kn_app tpS rfl _ _ rfl _ p (textsK K) rfl rfl (KR.al [.string L] 9) rfl (by simp [Value.oneCell']) (by have := HP.out; omega) (by have := HP.out; omega) ?_; intro v5 w5 K5)
              go_wp2_with (at_builtin; refine kn_app tpBl rfl _ _ rfl _ p (ringsK bel K) rfl rfl ((K5.front 1 rfl).al [.bool false] 4) rfl (by simp [Value.oneCell']) (by have := HP.out; omega) (by have := HP.out; omega) ?_; intro v6 w6 K6)
              go_roundw
              case rel => exact ⟨k + 1, p + 1, _, v5, v6, by omega, by go_num, rfl, rfl, Lib.hid (by rw [HST.out, List.length_append, HKL.out]; rfl), Lib.hid rfl, by rw [HST.out, textsK, ringsK, List.map_append, List.map_append, List.map_append, List.map_append]; have K7 := K6.sel [1, 0, 2, 3] 99 (by decide) (by decide); rw [← HBE.out] at K7; exact K7⟩
              case measure => simp [intOf] <;> omega
            | false =>
              cases u with
              | false =>
                have HST := Lib.hid (show keptU bel ss (k + 1) = K ++ [⟨k, L⟩] by rw [HST0.out, stepKp_push (by rw [HLU.out]; simp)])
                go_upto_region 11 with (go_at_call 64; refine KH.out.mono ?_; rintro e w' ⟨rfl, rfl⟩)
                clear c15 g15
                have x0 := cell_regrown x0
                have x1 := cell_regrown x1
                have x2 := cell_regrown x2
                refine wp_region_quiet_below (by kernel_rfl) (by kernel_rfl) ?_
                repeat (go_big_quiet_step ((go_at_call 65; exact quietB (fun W _ => KU.out W))))
                refine wpQuiet_nil ?_
                intro _ hw'
                obtain ⟨⟨dq, osq⟩, hw''⟩ := hw'
                subst hw''
                obtain ⟨wq, hwq⟩ : ∃ W, grow (redrawn wr dq) osq = W := ⟨_, rfl⟩
                replace KR := KR.keep (below_regrown wr dq osq)
                dsimp only
                rw [hwq] at KR ⊢
                clear hwq
                try clear x0
                try clear x1
                try clear x2
                have x2 := HLC.out _ KR.below
                go_upto_region 15 with (at_builtin; refine kn_app tpS rfl _ _ rfl _ p (textsK K) rfl rfl (KR.al [.string L] 9) rfl (by simp [Value.oneCell']) (by have := HP.out; omega) (by have := HP.out; omega) ?_; intro v5 w5 K5)
                go_wp2_with (at_builtin; refine kn_app tpBl rfl _ _ rfl _ p (ringsK bel K) rfl rfl ((K5.front 1 rfl).al [.bool false] 4) rfl (by simp [Value.oneCell']) (by have := HP.out; omega) (by have := HP.out; omega) ?_; intro v6 w6 K6)
                go_roundw
                case rel => exact ⟨k + 1, p + 1, _, v5, v6, by omega, by go_num, rfl, rfl, Lib.hid (by rw [HST.out, List.length_append, HKL.out]; rfl), Lib.hid rfl, by rw [HST.out, textsK, ringsK, List.map_append, List.map_append, List.map_append, List.map_append]; have K7 := K6.sel [1, 0, 2, 3] 99 (by decide) (by decide); rw [← HBE.out] at K7; exact K7⟩
                case measure => simp [intOf] <;> omega
              | true =>
                have HST := Lib.hid (show keptU bel ss (k + 1) = Ks by rw [HST0.out, HKs.out, stepKp_pop (by rw [← HKs.out, HLU.out]; rfl)])
                go_upto_region 11 with (go_at_call 64; refine KH.out.mono ?_; rintro e w' ⟨rfl, rfl⟩)
                clear c15 g15
                have x0 := cell_regrown x0
                have x1 := cell_regrown x1
                have x2 := cell_regrown x2
                refine wp_region_quiet_below (by kernel_rfl) (by kernel_rfl) ?_
                repeat (go_big_quiet_step ((go_at_call 65; exact quietB (fun W _ => KU.out W))))
                refine wpQuiet_nil ?_
                intro _ hw'
                obtain ⟨⟨dq, osq⟩, hw''⟩ := hw'
                subst hw''
                obtain ⟨wq, hwq⟩ : ∃ W, grow (redrawn wr dq) osq = W := ⟨_, rfl⟩
                replace KR := KR.keep (below_regrown wr dq osq)
                dsimp only
                rw [hwq] at KR ⊢
                clear hwq
                try clear x0
                try clear x1
                try clear x2
                have x2 := HLC.out _ KR.below
                have hc1 := Kn.capG KR
                have hc2 := Kn.capG (KR.front 1 rfl)
                have s1 : (q : Int) ≤ (ao : Int) := by omega
                have s2 : (q : Int) ≤ (ar : Int) := by omega
                have K5 := Kn.prefixG KR (j := q) (by have := HQ.out; omega)
                have K6 := (Kn.prefixG (K5.front 1 rfl) (j := q) (by have := HQ.out; omega)).sel [1, 0, 2, 3] 99 (by decide) (by decide)
                have HT1 := Lib.hid (show (textsK K).take (q * 1) = textsK Ks by rw [HKs.out, textsK, textsK, List.map_append, List.map_append, Nat.mul_one, List.take_append_of_le_length (by simp [HQL.out]), List.take_of_length_le (by simp [HQL.out])])
                have HT2 := Lib.hid (show (ringsK bel K).take (q * 1) = ringsK bel Ks by rw [HKs.out, ringsK, ringsK, List.map_append, List.map_append, Nat.mul_one, List.take_append_of_le_length (by simp [HQL.out]), List.take_of_length_le (by simp [HQL.out])])
                rw [HT1.out, HT2.out] at K6
                clear K5 hc1 hc2
                go_wp2_with fail
                go_roundw
                case rel => exact ⟨k + 1, q, Ks, _, _, by omega, by go_num, rfl, rfl, HQL, Lib.hid HST.out.symm, K6⟩
                case measure => simp [intOf] <;> omega
      · have i1 : ¬ (k : Int) < (n : Int) := by omega
        obtain rfl : k = n := by omega
        have hKF : K = F := HK.out.trans HF.out
        subst hKF
        go_wp2_with fail
        go_ret2
        refine ⟨Ao, ao, ?_, ?_⟩
        · rw [List.length_map, HKL.out]; rfl
        · unfold rowT rowSN
          rw [List.length_map, HKL.out]
          exact KR.sel [0] 99 (by decide) (by decide)
end Go.Proofs.YtgpmngcemnnpmaaDoor
