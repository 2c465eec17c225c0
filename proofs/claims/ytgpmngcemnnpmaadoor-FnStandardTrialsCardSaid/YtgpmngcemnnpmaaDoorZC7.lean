/- Part 7: lemmas and contracts of the claim's functions. -/
import Derived.Test.YtgpmngcemnnpmaaDoorZC1
import Derived.Test.YtgpmngcemnnpmaaDoorZC2
import Derived.Test.YtgpmngcemnnpmaaDoorZC3
import Derived.Test.YtgpmngcemnnpmaaDoorZC4
import Derived.Test.YtgpmngcemnnpmaaDoorZC5
import Derived.Test.YtgpmngcemnnpmaaDoorZC6
import Derived.Lib.ItoaLen
import Derived.Test.YtgpmngcemnnpmaaDoorShelf
import Derived.Test.YtgpmngcemnnpmaaDoorTie
import Derived.Test.YtgpmngcemnnpmaaDoorCards
import Derived.Deep.DeepHandedRow
import Derived.Lib.LaidTab
namespace Go.Proofs.YtgpmngcemnnpmaaDoor
open Go.RowKit Go.Sort
/-- what the draw of two registers returns -/
def Draws2 (w : World) (e : Ending) (w' : World) : Prop := ∃ (b : Int) (A : Option Addr) (c : Nat) (ds : List Int) (b2 : Int) (B : Option Addr) (k : Nat) (es : List Int), e = .returned (.tuple #[.agg #[.int .i64 b, .slice A ds.length c], .agg #[.int .i64 b2, .slice B es.length k]]) ∧ (ds.length ≤ 20 ∧ es.length ≤ 20) ∧ Kn w [rowI A c ds, rowI B k es] w'
theorem pick5 {q : Nat} (h : 0 ≤ (q : Int) ∧ ((q : Int) < 5 ∨ (5 : Int) ≤ 1 ∧ (q : Int) = 0)) : q ≤ 5 := by omega
end Go.Proofs.YtgpmngcemnnpmaaDoor

namespace Go.Proofs.YtgpmngcemnnpmaaDoor
open Go.RowKit Go.Sort
end Go.Proofs.YtgpmngcemnnpmaaDoor

namespace Go.Proofs.YtgpmngcemnnpmaaDoor
open Go.RowKit Go.Sort
/-- the bytes of a string -/
def strB (s : ByteArray) : List UInt8 := s.data.toList
theorem strB_len (s : ByteArray) : (strB s).length = s.size := by simp [strB]
theorem strB_get (s : ByteArray) {k : Nat} (h : k < s.size) : s[k] = (strB s)[k]'(by rw [strB_len]; exact h) := by
  simp [strB]
  rfl
theorem strB_mk (bs : List UInt8) : strB ⟨bs.toArray⟩ = bs := by simp [strB]
theorem size_mk (bs : List UInt8) : (⟨bs.toArray⟩ : ByteArray).size = bs.length := by simp [ByteArray.size]
theorem strB_drop (s : ByteArray) (k : Nat) : strB (s.extract k s.size) = (strB s).drop k := by
  have h : (s.extract k s.size).data = s.data.extract k s.size := by simp
  unfold strB
  rw [h, Array.toList_extract, List.extract_eq_take_drop]
  rw [List.take_of_length_le]
  rw [List.length_drop, Array.length_toList]
  exact Nat.le_refl _
theorem size_zero {s : ByteArray} (h : s.size = 0) : s = ⟨#[]⟩ := by
  cases s with
  | mk a =>
    congr 1
    exact Array.eq_empty_of_size_eq_zero h
theorem str_nonempty {s : ByteArray} (h : 0 < s.size) : s.toList.isEmpty = false := by
  rw [ByteArray.toList_eq]
  cases he : s.data.toList with
  | nil =>
    have : s.data.toList.length = 0 := by rw [he]; rfl
    have h2 : s.data.toList.length = s.size := by rw [Array.length_toList]; rfl
    omega
  | cons a l => rfl
theorem strB_cons {s : ByteArray} (h : 0 < s.size) : strB s = s[0] :: (strB s).drop 1 := by
  have h1 : 0 < (strB s).length := by rw [strB_len]; exact h
  have h2 := strB_get s h
  rw [h2]
  have h3 := List.drop_eq_getElem_cons (l := strB s) (i := 0) h1
  simpa using h3
theorem strB_nil {s : ByteArray} (h : s.size = 0) : strB s = [] := by
  apply List.eq_nil_of_length_eq_zero; rw [strB_len]; exact h
theorem str_eq {s : ByteArray} {bs : List UInt8} : (⟨bs.toArray⟩ : ByteArray) = s ↔ bs = strB s := by
  constructor
  · intro h; rw [← h]; simp [strB]
  · intro h; rw [h]; cases s; simp [strB]
theorem strB_toList (s : ByteArray) : s.toList = strB s := by rw [ByteArray.toList_eq]; rfl
theorem strB_tail {s : ByteArray} : strB (s.extract 1 s.size) = (strB s).drop 1 := strB_drop s 1
theorem extract_size (s : ByteArray) (k : Nat) : (s.extract k s.size).size = s.size - k := by simp [ByteArray.size_extract]
theorem strB_extract (s : ByteArray) (i j : Nat) : strB (s.extract i j) = ((strB s).drop i).take (j - i) := by
  have h : (s.extract i j).data = s.data.extract i j := by simp
  unfold strB
  rw [h, Array.toList_extract, List.extract_eq_take_drop]
theorem strB_getD (s : ByteArray) {k : Nat} (h : k < s.size) : (strB s).getD k 0 = s[k] := by
  rw [strB_get s h]; simp [List.getD, List.getElem?_eq_getElem (show k < (strB s).length by rw [strB_len]; exact h)]
theorem wrapI {n : Int} (h : -9223372036854775808 ≤ n ∧ n ≤ 9223372036854775807) : IntKind.i64.wrap n = n := by
  rw [IntKind.wrap_i64]; omega
theorem wrapB {n : Int} (h : 0 ≤ n ∧ n < 256) : IntKind.u8.wrap n = n := by
  simp [IntKind.wrap, IntKind.bits, IntKind.signed]; omega
theorem wrap64_of {n : Int} (h : -9223372036854775808 ≤ n ∧ n ≤ 9223372036854775807) : wrap64 n = n := by unfold wrap64; omega
end Go.Proofs.YtgpmngcemnnpmaaDoor

namespace Go.Proofs.YtgpmngcemnnpmaaDoor
open Go.RowKit Go.Sort
/-! drums, plainly -/
structure Dr where
  k : Int
  b : Int
  t : Int
  f : Int
def drOk (d : Dr) : Bool := betB d.k 1 3 && (betB d.b 2 16 && (betB d.t d.b 60 && (if d.k = 3 then decide (d.f = 0) else betB d.f 1 (d.t - d.b + 2))))
/-- the time of a turn at which the tooth j of a drum that is set to g makes its step -/
def dTime (d : Dr) (g : Int) (j : Nat) : Int := if d.k = 1 then d.f + d.b - 1 - g + j else if d.k = 2 then d.f + j else (((j : Int) + 1) * d.t + g - 1) / g
def dTimes (d : Dr) (g : Int) : List Int := (List.range g.toNat).map (dTime d g)
theorem drOk_iff {d : Dr} : drOk d = true ↔ (1 ≤ d.k ∧ d.k ≤ 3) ∧ (2 ≤ d.b ∧ d.b ≤ 16) ∧ (d.b ≤ d.t ∧ d.t ≤ 60) ∧ ((d.k = 3 ∧ d.f = 0) ∨ (d.k ≠ 3 ∧ 1 ≤ d.f ∧ d.f ≤ d.t - d.b + 2)) := by
  unfold drOk
  by_cases h3 : d.k = 3
  · rw [if_pos h3]
    simp only [betB, Bool.and_eq_true, decide_eq_true_eq]
    omega
  · rw [if_neg h3]
    simp only [betB, Bool.and_eq_true, decide_eq_true_eq]
    omega
/-- the rack's times lie in the turn -/
theorem rack_bd {t g j : Int} (ht : 1 ≤ t) (hg : 1 ≤ g) (hj : 0 ≤ j) (hjg : j < g) : 1 ≤ ((j + 1) * t + g - 1) / g ∧ ((j + 1) * t + g - 1) / g ≤ t := by
  constructor
  · rw [Int.le_ediv_iff_mul_le (by omega)]
    have : 1 * 1 ≤ (j + 1) * t := Int.mul_le_mul (by omega) (by omega) (by omega) (by omega)
    omega
  · have h1 : ((j + 1) * t + g - 1) / g < t + 1 := by
      rw [Int.ediv_lt_iff_lt_mul (by omega)]
      have h2 : (j + 1) * t ≤ g * t := Int.mul_le_mul_of_nonneg_right (by omega) (by omega)
      rw [Int.add_mul (a := t), Int.one_mul, Int.mul_comm t g]
      omega
    omega
theorem dTime_bd {d : Dr} (h : drOk d = true) {g : Int} {j : Nat} (hj : (j : Int) < g) (hg : g < d.b) : 1 ≤ dTime d g j ∧ dTime d g j ≤ d.t := by
  obtain ⟨⟨k1, k2⟩, ⟨b1, b2⟩, ⟨t1, t2⟩, h4⟩ := drOk_iff.1 h
  unfold dTime
  by_cases e1 : d.k = 1
  · rw [if_pos e1]; omega
  · rw [if_neg e1]
    by_cases e2 : d.k = 2
    · rw [if_pos e2]; omega
    · rw [if_neg e2]
      exact rack_bd (by omega) (by omega) (by omega) hj
/-- one tooth's step lies behind the step of the tooth ahead of it -/
theorem dTime_lt {d : Dr} (h : drOk d = true) {g : Int} {i j : Nat} (hij : i < j) (hj : (j : Int) < g) (hg : g < d.b) : dTime d g i < dTime d g j := by
  obtain ⟨⟨k1, k2⟩, ⟨b1, b2⟩, ⟨t1, t2⟩, h4⟩ := drOk_iff.1 h
  unfold dTime
  by_cases e1 : d.k = 1
  · rw [if_pos e1, if_pos e1]; omega
  · rw [if_neg e1, if_neg e1]
    by_cases e2 : d.k = 2
    · rw [if_pos e2, if_pos e2]; omega
    · rw [if_neg e2, if_neg e2]
      have hg0 : 0 < g := by omega
      have h1 : ((i : Int) + 1) * d.t + g - 1 + g ≤ ((j : Int) + 1) * d.t + g - 1 := by
        have h2 : ((i : Int) + 1 + 1) * d.t ≤ ((j : Int) + 1) * d.t := Int.mul_le_mul_of_nonneg_right (by omega) (by omega)
        rw [Int.add_mul, Int.one_mul] at h2
        omega
      have h3 := Int.ediv_le_ediv hg0 h1
      rw [Int.add_ediv_of_dvd_right (Int.dvd_refl g), Int.ediv_self (by omega)] at h3
      omega
/-! walks -/
/-- a drum in a block -/
def DrAt (w : World) (g : Nat) (d : Dr) : Prop := w.cell? ⟨g, 0, none⟩ = some (.int .i64 d.k) ∧ w.cell? ⟨g, 1, none⟩ = some (.int .i64 d.b) ∧ w.cell? ⟨g, 2, none⟩ = some (.int .i64 d.t) ∧ w.cell? ⟨g, 3, none⟩ = some (.int .i64 d.f)
theorem DrAt.below {w w' : World} {g : Nat} {d : Dr} (h : DrAt w g d) (hb : Below w.heap.size w w') : DrAt w' g d := by
  have hlt : g < w.heap.size := World.block_lt_of_cell? w _ h.1
  exact ⟨(hb.cell (p := ⟨g, 0, none⟩) hlt).trans h.1, (hb.cell (p := ⟨g, 1, none⟩) hlt).trans h.2.1, (hb.cell (p := ⟨g, 2, none⟩) hlt).trans h.2.2.1, (hb.cell (p := ⟨g, 3, none⟩) hlt).trans h.2.2.2⟩
end Go.Proofs.YtgpmngcemnnpmaaDoor

namespace Go.Proofs.YtgpmngcemnnpmaaDoor
open Go.RowKit Go.Sort
/-! the codes -/
def drCode (d : Dr) (g : Int) : Int := if drOk d = false then 1 else if betB g 0 (d.b - 1) = false then 2 else 0
end Go.Proofs.YtgpmngcemnnpmaaDoor

namespace Go.Proofs.YtgpmngcemnnpmaaDoor
open Go.RowKit Go.Sort
theorem dTimes_succ (d : Dr) (g : Int) (k : Nat) : (List.range (k + 1)).map (dTime d g) = (List.range k).map (dTime d g) ++ [dTime d g k] := by rw [List.range_succ, List.map_append]; rfl
theorem dTimes_len (d : Dr) (g : Int) : (dTimes d g).length = g.toNat := by simp [dTimes]
theorem dTime1 {b t f g : Int} {j : Nat} : dTime ⟨1, b, t, f⟩ g j = f + b - 1 - g + j := by simp [dTime]
theorem dTime2 {b t f g : Int} {j : Nat} : dTime ⟨2, b, t, f⟩ g j = f + j := by simp [dTime]
theorem dTime3 {b t f g : Int} {j : Nat} : dTime ⟨3, b, t, f⟩ g j = (((j : Int) + 1) * t + g - 1) / g := by simp [dTime]
theorem dr_kind {d : Dr} (h : drOk d = true) : d.k = 1 ∨ d.k = 2 ∨ d.k = 3 := by have := (drOk_iff.1 h).1; omega
end Go.Proofs.YtgpmngcemnnpmaaDoor

namespace Go.Proofs.YtgpmngcemnnpmaaDoor
open Go.RowKit Go.Sort
/-- the row of a drum's times -/
def TMRet (d : Dr) (n : Nat) (w : World) (e : Ending) (w' : World) : Prop := ∃ A c, e = .returned (.slice A n c) ∧ Kn w [rowI A c (dTimes d n)] w'
theorem dTimes_nat (d : Dr) (n : Nat) : dTimes d n = (List.range n).map (dTime d n) := by unfold dTimes; rw [Int.toNat_natCast]
theorem Kn.rowSlice {w0 w : World} {m : List Ent} {v : Value} {T : TypeId} {size n : Nat} {xs : List Value} (h : Kn w0 (.row v T size n xs :: m) w) : ∃ A c, v = .slice A n c := by
  have h0 : w.ownsRow 0 T size v n xs := h.at0
  rcases h0.2 with ⟨rfl, rfl⟩ | ⟨g, cap, cur, rfl, -⟩
  · exact ⟨none, 0, rfl⟩
  · exact ⟨_, _, rfl⟩
end Go.Proofs.YtgpmngcemnnpmaaDoor

namespace Go.Proofs.YtgpmngcemnnpmaaDoor
open Go.RowKit Go.Sort
/-- how many of the first j teeth have made their step at a time m of the turn -/
def dCnt (d : Dr) (n : Nat) (m : Int) (j : Nat) : Nat := ((List.range j).map (dTime d n)).countP (fun x => decide (x ≤ m))
theorem dCnt_succ (d : Dr) (n : Nat) (m : Int) (j : Nat) : dCnt d n m (j + 1) = dCnt d n m j + (if dTime d n j ≤ m then 1 else 0) := by
  unfold dCnt
  rw [dTimes_succ, List.countP_append, List.countP_singleton]
  simp
theorem dCnt_le (d : Dr) (n : Nat) (m : Int) (j : Nat) : dCnt d n m j ≤ j := by
  unfold dCnt
  have := List.countP_le_length (p := fun x => decide (x ≤ m)) (l := (List.range j).map (dTime d n))
  simpa using this
def dBy (d : Dr) (n : Nat) (tm : Int) : Int := tm / d.t * n + dCnt d n (tm % d.t) n
theorem dTimes_get (d : Dr) (n : Nat) {j : Nat} (hj : j < n) : ∃ h : j < (dTimes d n).length, (dTimes d n)[j] = dTime d n j := by
  refine ⟨by rw [dTimes_len]; omega, ?_⟩
  unfold dTimes
  simp
end Go.Proofs.YtgpmngcemnnpmaaDoor

namespace Go.Proofs.YtgpmngcemnnpmaaDoor
open Go.RowKit Go.Sort
/-! two registers -/
def twoC (a : Int) (xs : List Int) (b : Int) (ys : List Int) : Int := if (vreg a xs && vreg b ys) = false then 1 else if a ≠ b ∨ xs.length ≠ ys.length then 6 else 0
end Go.Proofs.YtgpmngcemnnpmaaDoor

namespace Go.Proofs.YtgpmngcemnnpmaaDoor
open Go.RowKit Go.Sort
end Go.Proofs.YtgpmngcemnnpmaaDoor

namespace Go.Proofs.YtgpmngcemnnpmaaDoor
open Go.RowKit Go.Sort
def carL (b : Int) (xs ys : List Int) (n : Nat) : List Int := (List.range n).map (carK b xs ys)
theorem carL_succ (b : Int) (xs ys : List Int) (n : Nat) : carL b xs ys (n + 1) = carL b xs ys n ++ [carK b xs ys n] := by unfold carL; rw [List.range_succ, List.map_append]; rfl
theorem carL_len (b : Int) (xs ys : List Int) (n : Nat) : (carL b xs ys n).length = n := by simp [carL]
theorem carL_get (b : Int) (xs ys : List Int) {n i : Nat} (h : i < n) : ∃ h' : i < (carL b xs ys n).length, (carL b xs ys n)[i] = carK b xs ys i := ⟨by rw [carL_len]; exact h, by simp [carL]⟩
def ADRet (b : Int) (xs ys : List Int) (w : World) (e : Ending) (w' : World) : Prop := ∃ E ec F fc, e = .returned (.tuple #[.agg #[.int .i64 b, .slice E xs.length ec], .slice F (xs.length + 1) fc]) ∧ Kn w [rowI E ec (addD b xs ys xs.length), rowI F fc (carL b xs ys (xs.length + 1))] w'
end Go.Proofs.YtgpmngcemnnpmaaDoor

namespace Go.Proofs.YtgpmngcemnnpmaaDoor
open Go.RowKit Go.Sort
/-- a register, a number and the code 0 -/
def R3Ret (b : Int) (es : List Int) (c : Int) (w : World) (e : Ending) (w' : World) : Prop := ∃ E ec, e = .returned (.tuple #[.agg #[.int .i64 b, .slice E es.length ec], .int .i64 c, .int .i64 0]) ∧ Kn w [rowI E ec es] w'
theorem add_vreg {b : Int} {xs : List Int} (hb : 2 ≤ b) (hb16 : b ≤ 16) (ys : List Int) (h1 : 1 ≤ xs.length) (h2 : xs.length ≤ 16) (hp : pw b xs.length ≤ 1000000000001) : vreg b (addD b xs ys xs.length) = true :=
  vreg_short hb hb16 (addD_digs hb xs ys _) (by rw [addD_len]; exact h1) (by rw [addD_len]; exact h2) (by rw [addD_len]; exact hp)
end Go.Proofs.YtgpmngcemnnpmaaDoor

namespace Go.Proofs.YtgpmngcemnnpmaaDoor
open Go.RowKit Go.Sort
theorem subD_digs {b : Int} (hb : 2 ≤ b) {xs ys : List Int} (hx : Digs b xs) (hy : Digs b ys) (n : Nat) : Digs b (subD b xs ys n) := fun d hd => by
  obtain ⟨i, -, rfl⟩ := List.mem_map.1 hd
  have h1 := hx.at hb i
  have h2 := hy.at hb i
  have h3 := borK_bd xs ys i
  unfold subK
  split <;> omega
end Go.Proofs.YtgpmngcemnnpmaaDoor

namespace Go.Proofs.YtgpmngcemnnpmaaDoor
open Go.RowKit Go.Sort
/-- what the drawing of a good register returns -/
def DReg7 (b M : Nat) (w : World) (e : Ending) (w' : World) : Prop := ∃ (bs : Int) (A : Option Addr) (c : Nat) (ds : List Int), e = .returned (.agg #[.int .i64 bs, .slice A ds.length c]) ∧ (2 ≤ bs ∧ bs ≤ 12 ∧ 1 ≤ ds.length ∧ ds.length ≤ 7 ∧ ∀ d ∈ ds, 0 ≤ d ∧ d < bs) ∧ DR b M w [rowI A c ds] w'
theorem min7 {q k : Nat} (h : 0 ≤ (q : Int) ∧ ((q : Int) < min 7 (k : Int) ∨ min 7 (k : Int) ≤ 1 ∧ (q : Int) = 0)) : q ≤ 6 := by omega
theorem wrapQ7 {q : Nat} (h : q ≤ 6) : IntKind.i64.wrap (1 + (q : Int)) = ((q + 1 : Nat) : Int) := by rw [wrapI64 (by omega)]; omega
end Go.Proofs.YtgpmngcemnnpmaaDoor

namespace Go.Proofs.YtgpmngcemnnpmaaDoor
open Go.RowKit Go.Sort
/-! strokes that lead back, plainly -/
theorem tmod_wrap (a P : Int) (hP : 0 < P) : (a.tmod P + P).tmod P = a % P := by
  have h1 := Int.lt_tmod_of_pos a hP
  rw [Int.tmod_eq_emod_of_nonneg (by omega), Int.add_emod_right, Int.tmod_def, Int.sub_mul_emod_self_left]
theorem digD_valL (b : Int) (hb : 2 ≤ b) : ∀ ds : List Int, (∀ d ∈ ds, 0 ≤ d ∧ d < b) → valL b ds ≤ 1000000000000 → digD b ds.length (valL b ds) = ds
  | [], _, _ => rfl
  | d :: ds, hd, hl => by
    have hd0 := hd d (List.mem_cons_self ..)
    have hv0 := (valL_bd b hb ds (fun x hx => (hd x (List.mem_cons_of_mem _ hx)).1)).1
    have e1 : valL b (d :: ds) = valL b ds * b + d := by simp only [valL] at hl ⊢; omega
    have h2 : valL b ds * 1 ≤ valL b ds * b := Int.mul_le_mul_of_nonneg_left (by omega) hv0
    have ih := digD_valL b hb ds (fun x hx => hd x (List.mem_cons_of_mem _ hx)) (by omega)
    have h3 : 0 ≤ valL b ds * b + d := by omega
    have e2 : (valL b ds * b + d).tmod b = d := by
      rw [Int.tmod_eq_emod_of_nonneg h3, Int.add_comm, Int.add_mul_emod_self_right]
      exact Int.emod_eq_of_lt hd0.1 hd0.2
    have e3 : (valL b ds * b + d).tdiv b = valL b ds := by
      rw [Int.tdiv_eq_ediv_of_nonneg h3, Int.add_comm, Int.add_mul_ediv_right _ _ (by omega), Int.ediv_eq_zero_of_lt hd0.1 hd0.2, Int.zero_add]
    rw [List.length_cons, digD_cons, e1, e2, e3, ih]
theorem vreg_dig {b : Int} {ds : List Int} (hv : vreg b ds = true) : digD b ds.length (valL b ds) = ds := by
  obtain ⟨⟨b1, b2⟩, -, hd, hl⟩ := vreg_iff.1 hv
  exact digD_valL b b1 ds hd hl
theorem valL_shift {b : Int} {ds : List Int} (x : Int) (hv : vreg b ds = true) (hp : pw b ds.length ≤ 1000000000001) : valL b (shiftD b ds x) = (valL b ds + x) % pw b ds.length := by
  obtain ⟨⟨b1, b2⟩, -, hd, hl⟩ := vreg_iff.1 hv
  have hp1 := pw_pos b b1 ds.length
  unfold shiftD
  rw [tmod_wrap _ _ (by omega)]
  have h1 := Int.emod_nonneg (valL b ds + x) (show pw b ds.length ≠ 0 by omega)
  have h2 := Int.emod_lt_of_pos (valL b ds + x) (show 0 < pw b ds.length by omega)
  exact valL_digD b b1 _ _ h1 h2 (by omega)
theorem shiftD_eq (b : Int) (hb : 2 ≤ b) (ds : List Int) (y : Int) : shiftD b ds y = digD b ds.length ((valL b ds + y) % pw b ds.length) := by
  have hp1 := pw_pos b hb ds.length
  unfold shiftD
  rw [tmod_wrap _ _ (by omega)]
theorem shift_back {b : Int} {ds : List Int} (x y : Int) (hxy : x + y = 0) (hv : vreg b ds = true) (hp : pw b ds.length ≤ 1000000000001) : shiftD b (shiftD b ds x) y = ds := by
  obtain ⟨⟨b1, b2⟩, -, hd, hl⟩ := vreg_iff.1 hv
  have hp1 := pw_pos b b1 ds.length
  have hv0 := (valL_bd b b1 ds (fun x hx => (hd x hx).1)).1
  have hv1 := valL_lt b b1 ds hd
  rw [shiftD_eq b b1 (shiftD b ds x) y, valL_shift x hv hp, shiftD_len, Int.emod_add_emod, Int.add_assoc, hxy, Int.add_zero, Int.emod_eq_of_lt hv0 hv1]
  exact vreg_dig hv
/-- the stroke that leads back -/
def backK (k : Int) : Int := if k = 1 then 2 else if k = 2 then 1 else if k = 3 then 4 else 3
theorem turn_back {t : Tri} (h : vmach t = true) (s s' : Int) (hs : s + s' = 0) : (turnT (turnT t s).1 s').1 = t := by
  obtain ⟨k1, k2, k3, e1, e2, f1, f2, l1, c0, c1⟩ := vmach_all h
  have q1 := shift_back (s * (valL t.a.base t.a.digits * pw t.b.base t.carry.toNat)) (s' * (valL t.a.base t.a.digits * pw t.b.base t.carry.toNat)) (by rw [← Int.add_mul, hs, Int.zero_mul]) k2 f1
  have q2 := shift_back (s * pw t.b.base t.carry.toNat) (s' * pw t.b.base t.carry.toNat) (by rw [← Int.add_mul, hs, Int.zero_mul]) k3 f2
  rw [show (turnT (turnT t s).1 s').1 = ⟨t.a, ⟨t.b.base, shiftD t.b.base (shiftD t.b.base t.b.digits (s * (valL t.a.base t.a.digits * pw t.b.base t.carry.toNat))) (s' * (valL t.a.base t.a.digits * pw t.b.base t.carry.toNat))⟩, ⟨t.s.base, shiftD t.s.base (shiftD t.s.base t.s.digits (s * pw t.b.base t.carry.toNat)) (s' * pw t.b.base t.carry.toNat)⟩, t.carry⟩ from rfl, q1, q2]
theorem stroke_back {t : Tri} (h : vmach t = true) {k : Int} (hk : 1 ≤ k ∧ k ≤ 4) : if (strokeT k t).2 = true ∧ 2 < k then (strokeT k t).1 = t else (strokeT (backK k) (strokeT k t).1).1 = t := by
  obtain ⟨k1, k2, k3, e1, e2, f1, f2, l1, c0, c1⟩ := vmach_all h
  have hk' : k = 1 ∨ k = 2 ∨ k = 3 ∨ k = 4 := by omega
  rcases hk' with rfl | rfl | rfl | rfl
  · rw [if_neg (by omega)]
    exact turn_back h 1 (-1) (by decide)
  · rw [if_neg (by omega)]
    exact turn_back h (-1) 1 (by decide)
  · by_cases hc : t.carry + 1 = vplaces t
    · have e : strokeT 3 t = (t, true) := by simp [strokeT, hc]
      rw [e, if_pos ⟨rfl, by decide⟩]
    · have e : strokeT 3 t = ({ t with carry := t.carry + 1 }, false) := by simp [strokeT, hc]
      rw [e, if_neg (by simp)]
      have h4 : ¬ t.carry + 1 = 0 := by omega
      simp [strokeT, backK, h4]
  · by_cases hc : t.carry = 0
    · have e : strokeT 4 t = (t, true) := by simp [strokeT, hc]
      rw [e, if_pos ⟨rfl, by decide⟩]
    · have e : strokeT 4 t = ({ t with carry := t.carry - 1 }, false) := by simp [strokeT, hc]
      rw [e, if_neg (by simp)]
      have h4 : ¬ t.carry = vplaces t := by omega
      simp only [backK, strokeT]
      simp [vplaces] at h4 ⊢
      simp [h4]
end Go.Proofs.YtgpmngcemnnpmaaDoor

namespace Go.Proofs.YtgpmngcemnnpmaaDoor
open Go.RowKit Go.Sort
theorem compD_take (b : Int) {xs : List Int} {k : Nat} (h : k < xs.length) : compD b (xs.take (k + 1)) = compD b (xs.take k) ++ [b - 1 - xs[k]] := by
  unfold compD; rw [List.take_succ_eq_append_getElem h, List.map_append]; rfl
theorem compD_len (b : Int) (xs : List Int) : (compD b xs).length = xs.length := by simp [compD]
end Go.Proofs.YtgpmngcemnnpmaaDoor

namespace Go.Proofs.YtgpmngcemnnpmaaDoor
open Go.RowKit Go.Sort
/-- two registers of digits of one base and width -/
def A2R (w : World) (e : Ending) (w' : World) : Prop := ∃ (b : Int) (A : Option Addr) (c : Nat) (ds : List Int) (B : Option Addr) (k : Nat) (es : List Int), e = .returned (.tuple #[.agg #[.int .i64 b, .slice A ds.length c], .agg #[.int .i64 b, .slice B ds.length k]]) ∧ ((2 ≤ b ∧ b ≤ 12) ∧ (1 ≤ ds.length ∧ ds.length ≤ 7) ∧ es.length = ds.length ∧ Digs b ds ∧ Digs b es) ∧ Kn w [rowI A c ds, rowI B k es] w'
end Go.Proofs.YtgpmngcemnnpmaaDoor

namespace Go.Proofs.YtgpmngcemnnpmaaDoor
open Go.RowKit Go.Sort
end Go.Proofs.YtgpmngcemnnpmaaDoor

namespace Go.Proofs.YtgpmngcemnnpmaaDoor
open Go.RowKit Go.Sort
end Go.Proofs.YtgpmngcemnnpmaaDoor

namespace Go.Proofs.YtgpmngcemnnpmaaDoor
open Go.RowKit Go.Sort
theorem twoC_zero {b : Int} {xs ys : List Int} (h1 : vreg b xs = true) (h2 : vreg b ys = true) (hl : xs.length = ys.length) : twoC b xs b ys = 0 := by
  simp [twoC, h1, h2, hl]
/-! the sum of a row of digits with faults -/
theorem sumL_vreg {b : Int} {xs ys : List Int} {fs : List Flt} (hb : 2 ≤ b) (hb16 : b ≤ 16) (hdx : Digs b xs) (hdy : Digs b ys) (n1 : 1 ≤ xs.length) (n2 : xs.length ≤ 16) (hp : pw b xs.length ≤ 1000000000001) : vreg b (sumL b xs ys fs xs.length) = true := by
  refine vreg_short hb hb16 ?_ (by rw [sumL_len]; exact n1) (by rw [sumL_len]; exact n2) (by rw [sumL_len]; exact hp)
  intro d hd
  obtain ⟨k, -, rfl⟩ := List.mem_map.1 hd
  have h1 := hdx.at hb k
  have h2 := hdy.at hb k
  have h3 := carryAt_bd b xs ys fs k
  unfold sumD
  rw [Int.tmod_eq_emod_of_nonneg (by omega)]
  exact ⟨Int.emod_nonneg _ (by omega), Int.emod_lt_of_pos _ (by omega)⟩
theorem cstep_none {b t c : Int} (hb : 2 ≤ b) (ht : 0 ≤ t) (hc : 0 ≤ c) (hc1 : c ≤ 1) (ht2 : t + c < 2 * b) : cstep b t c 0 = (t + c) / b := by
  unfold cstep
  rw [if_neg (by decide), if_neg (by decide), if_neg (by decide)]
  split
  · exact (Int.ediv_eq_zero_of_lt (by omega) (by omega)).symm
  · have e : t + c = (t + c - b) + 1 * b := by omega
    rw [e, Int.add_mul_ediv_right _ _ (by omega), Int.ediv_eq_zero_of_lt (by omega) (by omega)]
    rfl
theorem carryAt_none {b : Int} {xs ys : List Int} (hb : 2 ≤ b) (hdx : Digs b xs) (hdy : Digs b ys) (k : Nat) : carryAt b xs ys [] k = carK b xs ys k := by
  induction k with
  | zero => rfl
  | succ k ih =>
    have h1 := hdx.at hb k
    have h2 := hdy.at hb k
    have h3 := carryAt_bd b xs ys [] k
    rw [carryAt, carK, ← ih]
    exact cstep_none hb (by omega) h3.1 h3.2 (by omega)
theorem sumL_none {b : Int} {xs ys : List Int} (hb : 2 ≤ b) (hdx : Digs b xs) (hdy : Digs b ys) (n : Nat) : sumL b xs ys [] n = addD b xs ys n := by
  unfold sumL addD
  refine List.map_congr_left fun k _ => ?_
  have h1 := hdx.at hb k
  have h2 := hdy.at hb k
  have h3 := carryAt_bd b xs ys [] k
  unfold sumD sumK
  rw [Int.tmod_eq_emod_of_nonneg (by omega), carryAt_none hb hdx hdy]
end Go.Proofs.YtgpmngcemnnpmaaDoor

namespace Go.Proofs.YtgpmngcemnnpmaaDoor
open Go.RowKit Go.Sort
/-! equal registers, whatever they are -/
/-- the sum of levers differs from the true sum -/
def showsB (ss ts : List Int) (c d : Int) : Bool := !(decide (ss = ts)) || !(decide (c = d))
end Go.Proofs.YtgpmngcemnnpmaaDoor

namespace Go.Proofs.YtgpmngcemnnpmaaDoor
open Go.RowKit Go.Sort
def cellsFl (xs : List Flt) : List Value := xs.flatMap fun x => [.int .i64 x.kind, .int .i64 x.lever]
theorem cellsFl_len (xs : List Flt) : (cellsFl xs).length = xs.length * 2 := by
  induction xs with
  | nil => rfl
  | cons x xs ih => unfold cellsFl at *; rw [List.flatMap_cons, List.length_append, ih]; simp; omega
theorem cellsFl_snoc (xs : List Flt) (x : Flt) : cellsFl (xs ++ [x]) = cellsFl xs ++ [.int .i64 x.kind, .int .i64 x.lever] := by simp [cellsFl]
theorem cellsFl_get : ∀ (xs : List Flt) (k : Nat) (h : k < xs.length), (cellsFl xs)[k * 2]? = some (.int .i64 xs[k].kind) ∧ (cellsFl xs)[k * 2 + 1]? = some (.int .i64 xs[k].lever)
  | [], k, h => by simp at h
  | x :: xs, 0, h => by simp [cellsFl]
  | x :: xs, k + 1, h => by
    have h1 := cellsFl_get xs k (by simpa using h)
    have h2 : cellsFl (x :: xs) = .int .i64 x.kind :: .int .i64 x.lever :: cellsFl xs := by simp [cellsFl]
    rw [h2, show (k + 1) * 2 = k * 2 + 1 + 1 by omega]
    simp only [List.getElem?_cons_succ, List.getElem_cons_succ]
    exact h1
theorem cellsFl_one (xs : List Flt) : ∀ u ∈ cellsFl xs, u.oneCell' = true := by
  intro u hu
  obtain ⟨x, -, h⟩ := List.mem_flatMap.1 hu
  simp at h
  rcases h with rfl | rfl <;> rfl
def rowFl (v : Value) (xs : List Flt) : Ent := .row v 38 2 xs.length (cellsFl xs)
theorem tpFl : TP 25 38 (.agg #[.int .i64 0, .int .i64 0]) 2 16 := ⟨Tryd.underlying25, by kernel_rfl, rfl, by decide⟩
theorem Kn.rlFl {w0 w : World} {m : List Ent} {A : Option Addr} {n c : Nat} {xs : List Flt} (h : Kn w0 (rowFl (.slice A n c) xs :: m) w) : n = xs.length ∧ RL FltM 2 w A n xs := by
  have h0 : w.ownsRow 0 38 2 (.slice A n c) xs.length (cellsFl xs) := h.at0
  rcases h0.2 with ⟨hv, hn⟩ | ⟨g, cap, cur, hv, -, hg, -⟩
  · injection hv with h1 h2 h3
    exact ⟨by omega, by omega, fun h => by omega⟩
  · injection hv with h1 h2 h3
    refine ⟨h2, h2.symm, fun h => ⟨_, h1, (Array.getElem?_eq_some_iff.1 hg).1, fun k hk => ?_⟩⟩
    obtain ⟨c1, c2⟩ := cellsFl_get xs k hk
    rw [h1] at h0
    have d1 := h0.cells (g := g) rfl _ _ c1
    have d2 := h0.cells (g := g) rfl _ _ c2
    refine ⟨d1, ?_⟩
    rw [add_zero_block] at d2 ⊢
    exact d2
theorem Kn.nilFl {w0 w : World} {m : List Ent} (h : Kn w0 m w) : Kn w0 (rowFl (.slice none 0 0) [] :: m) w := h.nilRow _ _
def rowFlN (A : Option Addr) (n c : Nat) (xs : List Flt) : Ent := .row (.slice A n c) 38 2 n (cellsFl xs)
theorem Kn.rlFlN {w0 w : World} {m : List Ent} {A : Option Addr} {n c : Nat} {xs : List Flt} (h : Kn w0 (rowFlN A n c xs :: m) w) (hl : xs.length = n) : RL FltM 2 w A n xs := by
  subst hl
  exact (Kn.rlFl (m := m) h).2
/-- drawn faults -/
def DFlt (b M n : Nat) (w : World) (e : Ending) (w' : World) : Prop := ∃ (A : Option Addr) (c : Nat) (fs : List Flt), e = .returned (.slice A fs.length c) ∧ fs.length ≤ n ∧ GoodF n fs ∧ Asc fs ∧ DR b M w [rowFl (.slice A fs.length c) fs] w'
theorem Asc.snoc {fs : List Flt} {f : Flt} (h : Asc fs) (hf : ∀ x ∈ fs, x.lever < f.lever) : Asc (fs ++ [f]) := by
  intro k hk
  simp only [List.length_append, List.length_cons, List.length_nil] at hk
  by_cases hl : k + 1 < fs.length
  · rw [List.getElem_append_left (by omega), List.getElem_append_left hl]
    exact h k hl
  · have he : k + 1 = fs.length := by omega
    rw [List.getElem_append_left (by omega)]
    have : (fs ++ [f])[k + 1]'(by simp; omega) = f := by
      rw [List.getElem_append_right (by omega)]; simp [he]
    rw [this]
    exact hf _ (List.getElem_mem _)
theorem GoodF.snoc {n k : Nat} {fs : List Flt} {f : Flt} (h : GoodF k fs) (hk : k < n) (h1 : 1 ≤ f.kind) (h2 : f.kind ≤ 3) (h3 : f.lever = k) : GoodF (k + 1) (fs ++ [f]) := by
  intro x hx
  rcases List.mem_append.1 hx with hx | hx
  · obtain ⟨a, b, c, d⟩ := h x hx
    exact ⟨a, b, c, by omega⟩
  · rw [List.mem_singleton.1 hx]
    exact ⟨h1, h2, by omega, by omega⟩
theorem GoodF.up {n k : Nat} {fs : List Flt} (h : GoodF k fs) (hk : k ≤ n) : GoodF n fs := fun x hx => by
  obtain ⟨a, b, c, d⟩ := h x hx
  exact ⟨a, b, c, by omega⟩
set_option maxRecDepth 100000 in
set_option maxHeartbeats 1600000 in
theorem l08Draw_dr (b N n : Nat) (w : World) (h : Src w b N) (hN : N ≤ 600000) (hn : n ≤ 1000) :
    Calls Tryd.prog 35 #[.pointer (some ⟨b, 0, none⟩), .int .i64 (n : Int)] w (DFlt b (N + n * 4) n w) := by
  unfold DFlt
  have D0 := DR.nil h
  clear h
  go_enter Tryd.func35, Tryd.ntmps35
  go_upto_region 2 with fail
  refine Code.wp.dr (D0.al [] 38) ?_; intro w1 D1
  obtain ⟨g, hg⟩ : ∃ g, w.heap.size = g := ⟨_, rfl⟩
  rw [hg] at D1
  try rw [hg]
  have D2 : DR b _ w [rowFl (.slice (some ⟨g, 0, none⟩) 0 0) []] w1 := D1.kn (fun v hK => hK.litRow (size := 2) (n := 0) rfl (by decide))
  clear D0 D1 hg
  go_wp2_with fail
  go_loopw [5, 6] (fun ll kk wr => ∃ (k : Nat) (vv : Value) (fs : List Flt), kk = .int .i64 (k : Int) ∧ k ≤ n ∧ fs.length ≤ k ∧ GoodF k fs ∧ Asc fs ∧ vv = ll ∧ DR b (N + k * 4) w [rowFl vv fs] wr) (fun _ kk _ => n - (intOf kk).toNat)
  case atStart => exact ⟨0, _, [], rfl, by omega, Nat.le_refl _, (fun _ h => by cases h), (fun k h => by cases h), rfl, D2.mono (by omega)⟩
  case round =>
    obtain ⟨k, vv, fs, rfl, hk, hl, hgf, has, rfl, D⟩ := hrel
    clear D2
    by_cases hkn : k < n
    · have hk1 : (k : Int) < (n : Int) := by omega
      go_wp2_with fail
      refine (one_dr b _ 4 wr D.src (by omega)).mono ?_; rintro e w5 ⟨x, rfl, h5⟩
      have D5 : DR b _ w [rowFl vv fs] w5 := D.add h5
      clear D h5
      cases x
      · go_wp2_with fail
        go_roundw
        case rel => exact ⟨k + 1, _, fs, by go_num, by omega, by omega, hgf.up (by omega), has, rfl, D5.mono (by omega)⟩
        case measure => simp [intOf]; omega
      · go_wp2_with fail
        refine (pick_dr b _ 3 w5 D5.src (by omega)).mono ?_; rintro e w6 ⟨y, rfl, hy, h6⟩
        obtain ⟨v, hT, hS, hK⟩ : DR b _ w [rowFl vv fs] w6 := D5.add h6
        clear D5 h6
        have hy1 : 0 ≤ y ∧ y ≤ 2 := ⟨hy.1, by rcases hy.2 with h | h <;> omega⟩
        clear hy
        obtain ⟨z, hz⟩ : ∃ z, 1 + y = z := ⟨_, rfl⟩
        have hz1 : 1 ≤ z ∧ z ≤ 3 := by omega
        have hzw : IntKind.i64.wrap (1 + y) = z := by rw [wrapI64 (by omega)]; exact hz
        clear hz hy1
        unfold rowFl at hK
        go_wp2_with (at_builtin; refine kn_app tpFl rfl _ _ rfl _ fs.length (cellsFl fs) rfl rfl (hK.al [.int .i64 z, .int .i64 (k : Int)] 38) rfl (by simp [Value.oneCell']) (by omega) (by omega) ?_; intro v5 w7 hK9)
        go_roundw
        case rel => exact ⟨k + 1, v5, fs ++ [⟨z, k⟩], by go_num, by omega, by simp; omega, hgf.snoc hkn hz1.1 hz1.2 rfl, has.snoc (fun x hx => (hgf x hx).2.2.2), rfl, v, hT, hS.mono (by omega), by unfold rowFl; rw [cellsFl_snoc, List.length_append]; exact hK9⟩
        case measure => simp [intOf]; omega
    · have hk1 : ¬ (k : Int) < (n : Int) := by omega
      have hkk : k = n := by omega
      subst hkk
      obtain ⟨v, hT, hS, hK⟩ := D
      obtain ⟨A5, c5, rfl⟩ := row_form hK.at0
      go_wp2_with fail
      go_ret
      exact ⟨A5, c5, fs, rfl, hl, hgf, has, v, hT, hS, hK⟩
end Go.Proofs.YtgpmngcemnnpmaaDoor

namespace Go.Proofs.YtgpmngcemnnpmaaDoor
open Go.RowKit Go.Sort
set_option maxRecDepth 100000 in
set_option maxHeartbeats 1600000 in
theorem A2Faults_any (A : Option Addr) (n c m : Nat) (bs : List UInt8) (w : World) (hb : RB w A n bs) (hn : n ≤ 9223372036854775807) (hm : m ≤ 1000) :
    Calls Tryd.prog 8 #[.slice A n c, .int .i64 (m : Int)] w fun e w' => ∃ (B : Option Addr) (k : Nat) (fs : List Flt), e = .returned (.slice B fs.length k) ∧ fs.length ≤ m ∧ GoodF m fs ∧ Asc fs ∧ Kn w [rowFl (.slice B fs.length k) fs] w' := by
  go_enter Tryd.func8, Tryd.ntmps8
  go_wp2_with fail
  refine (l00From_any A n c bs w hb hn).mono ?_; rintro e w2 ⟨rfl, hs, hb2⟩
  have KD := l08Draw_dr _ _ m w2 hs (by omega) hm
  unfold DFlt at KD
  go_wp2_with fail
  refine KD.mono ?_; rintro e w3 ⟨B, k, fs, rfl, hl, hg, ha, h3⟩
  have K3 := Kn.ofDR hb2 (Nat.le_refl _) h3
  go_wp2_with fail
  go_ret
  exact ⟨B, k, fs, rfl, hl, hg, ha, K3⟩
end Go.Proofs.YtgpmngcemnnpmaaDoor

namespace Go.Proofs.YtgpmngcemnnpmaaDoor
open Go.RowKit Go.Sort
set_option maxRecDepth 100000 in
set_option maxHeartbeats 1600000 in
theorem same_any (t u : Tri) (A1 A2 A3 B1 B2 B3 : Option Addr) (c1 c2 c3 d1 d2 d3 : Nat) (w : World) (r1 : RI w A1 t.a.digits.length t.a.digits) (r2 : RI w A2 t.b.digits.length t.b.digits) (r3 : RI w A3 t.s.digits.length t.s.digits)
    (q1 : RI w B1 u.a.digits.length u.a.digits) (q2 : RI w B2 u.b.digits.length u.b.digits) (q3 : RI w B3 u.s.digits.length u.s.digits) (hs : SmallTri t) (hs2 : SmallTri u) :
    Calls Tryd.prog 45 #[.agg #[.int .i64 t.a.base, .slice A1 t.a.digits.length c1, .int .i64 t.b.base, .slice A2 t.b.digits.length c2, .int .i64 t.s.base, .slice A3 t.s.digits.length c3, .int .i64 t.carry], .agg #[.int .i64 u.a.base, .slice B1 u.a.digits.length d1, .int .i64 u.b.base, .slice B2 u.b.digits.length d2, .int .i64 u.s.base, .slice B3 u.s.digits.length d3, .int .i64 u.carry]] w fun e w' => e = .returned (.bool (sameT t u)) ∧ Below w.heap.size w w' := by
  have K1 := Lib.hid (fun W (hW : Below w.heap.size w W) => SameRegister_any t.a u.a A1 B1 c1 d1 W (r1.below hW) (q1.below hW) hs.1 hs2.1)
  have K2 := Lib.hid (fun W (hW : Below w.heap.size w W) => SameRegister_any t.b u.b A2 B2 c2 d2 W (r2.below hW) (q2.below hW) hs.2.1 hs2.2.1)
  have K3 := Lib.hid (fun W (hW : Below w.heap.size w W) => SameRegister_any t.s u.s A3 B3 c3 d3 W (r3.below hW) (q3.below hW) hs.2.2 hs2.2.2)
  clear r1 r2 r3 q1 q2 q3 hs hs2
  have K0 := ((Kn.nil w).al [.int .i64 t.a.base, .slice A1 t.a.digits.length c1, .int .i64 t.b.base, .slice A2 t.b.digits.length c2, .int .i64 t.s.base, .slice A3 t.s.digits.length c3, .int .i64 t.carry] 43).al [.int .i64 u.a.base, .slice B1 u.a.digits.length d1, .int .i64 u.b.base, .slice B2 u.b.digits.length d2, .int .i64 u.s.base, .slice B3 u.s.digits.length d3, .int .i64 u.carry] 43
  simp only [World.size_alloc] at K0
  obtain ⟨g, hg⟩ : ∃ g, w.heap.size = g := ⟨_, rfl⟩
  rw [hg] at K0
  rcases e1 : sameR t.a u.a with _ | _
  · have HF : Hid (sameT t u = false) := by simp only [Hid, sameT]; rw [e1]; rfl
    go_enter Tryd.func45, Tryd.ntmps45
    go_wp2_with fail
    try rw [hg]
    refine Calls.kn K0 ?_; clear K0 hg; intro w1 K0
    refine (calls_val (K1.out _ K0.below) (congrArg Value.bool e1)).mono ?_; rintro e w2 ⟨rfl, hw⟩; have KA := K0.keep hw; clear hw
    go_wp2_with fail
    go_ret
    exact ⟨ret_bool HF.out.symm, KA.below⟩
  · rcases e2 : sameR t.b u.b with _ | _
    · have HF : Hid (sameT t u = false) := by simp only [Hid, sameT]; rw [e1, e2]; rfl
      go_enter Tryd.func45, Tryd.ntmps45
      go_wp2_with fail
      try rw [hg]
      refine Calls.kn K0 ?_; clear K0 hg; intro w1 K0
      refine (calls_val (K1.out _ K0.below) (congrArg Value.bool e1)).mono ?_; rintro e w2 ⟨rfl, hw⟩; have KA := K0.keep hw; clear hw
      obtain ⟨a1, a2, a3, b1, b2, b3, -⟩ := KA.cells
      go_wp2_with fail
      refine (calls_val (K2.out _ KA.below) (congrArg Value.bool e2)).mono ?_; rintro e w3 ⟨rfl, hw⟩; have KB := KA.keep hw; clear hw
      go_wp2_with fail
      go_ret
      exact ⟨ret_bool HF.out.symm, KB.below⟩
    · rcases e3 : sameR t.s u.s with _ | _
      · have HF : Hid (sameT t u = false) := by simp only [Hid, sameT]; rw [e1, e2, e3]; rfl
        go_enter Tryd.func45, Tryd.ntmps45
        go_wp2_with fail
        try rw [hg]
        refine Calls.kn K0 ?_; clear K0 hg; intro w1 K0
        refine (calls_val (K1.out _ K0.below) (congrArg Value.bool e1)).mono ?_; rintro e w2 ⟨rfl, hw⟩; have KA := K0.keep hw; clear hw
        obtain ⟨a1, a2, a3, b1, b2, b3, -⟩ := KA.cells
        go_wp2_with fail
        refine (calls_val (K2.out _ KA.below) (congrArg Value.bool e2)).mono ?_; rintro e w3 ⟨rfl, hw⟩; have KB := KA.keep hw; clear hw a1 a2 a3 b1 b2 b3
        obtain ⟨a1, a2, a3, b1, b2, b3, -⟩ := KB.cells
        go_wp2_with fail
        refine (calls_val (K3.out _ KB.below) (congrArg Value.bool e3)).mono ?_; rintro e w4 ⟨rfl, hw⟩; have KC := KB.keep hw; clear hw
        go_wp2_with fail
        go_ret
        exact ⟨ret_bool HF.out.symm, KC.below⟩
      · have HF : Hid (sameT t u = (t.carry == u.carry)) := by simp only [Hid, sameT]; rw [e1, e2, e3]; rfl
        go_enter Tryd.func45, Tryd.ntmps45
        go_wp2_with fail
        try rw [hg]
        refine Calls.kn K0 ?_; clear K0 hg; intro w1 K0
        refine (calls_val (K1.out _ K0.below) (congrArg Value.bool e1)).mono ?_; rintro e w2 ⟨rfl, hw⟩; have KA := K0.keep hw; clear hw
        obtain ⟨a1, a2, a3, b1, b2, b3, -⟩ := KA.cells
        go_wp2_with fail
        refine (calls_val (K2.out _ KA.below) (congrArg Value.bool e2)).mono ?_; rintro e w3 ⟨rfl, hw⟩; have KB := KA.keep hw; clear hw a1 a2 a3 b1 b2 b3
        obtain ⟨a1, a2, a3, b1, b2, b3, -⟩ := KB.cells
        go_wp2_with fail
        refine (calls_val (K3.out _ KB.below) (congrArg Value.bool e3)).mono ?_; rintro e w4 ⟨rfl, hw⟩; have KC := KB.keep hw; clear hw a1 a2 a3 b1 b2 b3
        obtain ⟨a1, a2, a3, b1, b2, b3, -⟩ := KC.cells
        go_wp2_with fail
        go_ret
        exact ⟨ret_bool HF.out.symm, KC.below⟩
set_option maxHeartbeats 800000 in
theorem a2Long2_any (A B : Option Addr) (n c m d : Nat) (w : World) (hn : n ≤ 9223372036854775807) (hm : m ≤ 9223372036854775807) :
    Calls Tryd.prog 6 #[.slice A n c, .slice B m d] w fun e w' => e = .returned (.bool (decide (3000 < n) || decide (3000 < m))) ∧ w = w' := by
  by_cases h : 3000 < n
  · have h1 : (3000 : Int) < (n : Int) := by omega
    have HF : Hid ((decide (3000 < n) || decide (3000 < m)) = true) := by simp [Hid, h]
    obtain ⟨R, hR⟩ : ∃ R, (decide (3000 < n) || decide (3000 < m)) = R := ⟨_, rfl⟩
    rw [hR] at HF ⊢
    clear hR
    go_enter Tryd.func6, Tryd.ntmps6
    go_wp2
    go_ret
    exact ⟨by first | exact ret_bool HF.out.symm | rfl, rfl⟩
  · by_cases h2 : 3000 < m
    · have h1 : ¬ (3000 : Int) < (n : Int) := by omega
      have h3 : (3000 : Int) < (m : Int) := by omega
      have HF : Hid ((decide (3000 < n) || decide (3000 < m)) = true) := by simp [Hid, h2]
      obtain ⟨R, hR⟩ : ∃ R, (decide (3000 < n) || decide (3000 < m)) = R := ⟨_, rfl⟩
      rw [hR] at HF ⊢
      clear hR
      have hd : decide ((3000 : Int) < (n : Int)) = false := decide_eq_false h1
      go_enter Tryd.func6, Tryd.ntmps6
      go_wp2
      go_ret
      exact ⟨by first | exact ret_bool HF.out.symm | rfl, rfl⟩
    · have h1 : ¬ (3000 : Int) < (n : Int) := by omega
      have h3 : ¬ (3000 : Int) < (m : Int) := by omega
      have HF : Hid ((decide (3000 < n) || decide (3000 < m)) = false) := by simp [Hid, h, h2]
      obtain ⟨R, hR⟩ : ∃ R, (decide (3000 < n) || decide (3000 < m)) = R := ⟨_, rfl⟩
      rw [hR] at HF ⊢
      clear hR
      have hd : decide ((3000 : Int) < (n : Int)) = false := decide_eq_false h1
      have hd2 : decide ((3000 : Int) < (m : Int)) = false := decide_eq_false h3
      go_enter Tryd.func6, Tryd.ntmps6
      go_wp2
      go_ret
      exact ⟨by first | exact ret_bool HF.out.symm | rfl, rfl⟩
set_option maxHeartbeats 800000 in
theorem a2AtI_any (A : Option Addr) (n c : Nat) (bs : List UInt8) (i : Nat) (q : Int) (w : World) (hb : RB w A n bs) (hn : n ≤ 9223372036854775807) (hi : i ≤ 1000) (hq : 1 ≤ q ∧ q ≤ 1000) :
    Calls Tryd.prog 7 #[.slice A n c, .int .i64 (i : Int), .int .i64 q] w fun e w' => (∃ x : Int, e = .returned (.int .i64 x) ∧ 0 ≤ x ∧ x < q) ∧ w = w' := by
  rcases Nat.lt_or_ge i n with h0 | h0
  · obtain ⟨ad, rfl, hl, hc⟩ := hb.2 (by omega)
    have hl0 : i < bs.length := by rw [hb.1]; exact h0
    obtain ⟨z, hz⟩ : ∃ z : Nat, bs[i].toNat = z := ⟨_, rfl⟩
    have hc0 := hc i bs[i] (by simp [hl0])
    have hz2 : z < 256 := by rw [← hz]; exact bs[i].toNat_lt
    unfold byteV at hc0
    rw [hz] at hc0
    have i1 : ¬ (n : Int) ≤ (i : Int) := by omega
    have i2 : (i : Int) < (n : Int) := by omega
    have i6 : (0 : Int) ≤ (i : Int) := by omega
    have i3 : ¬ q < 1 := by omega
    have i4 : ¬ q = 0 := by omega
    have i5 : q ≠ 0 := by omega
    have hm0 := Int.emod_nonneg (z : Int) i5
    have hm1 := Int.emod_lt_of_pos (z : Int) (show 0 < q by omega)
    have hw1 : IntKind.i64.wrap (z : Int) = z := wrapI64 (by omega)
    have hw2 : IntKind.i64.wrap ((z : Int) % q) = (z : Int) % q := wrapI64 (by omega)
    have hw3 : IntKind.i64.wrap ((z : Int).tmod q) = (z : Int) % q := by rw [Int.tmod_eq_emod_of_nonneg (by omega)]; exact hw2
    clear hc hb hz hl
    go_enter Tryd.func7, Tryd.ntmps7
    go_wp2_with fail
    go_ret
    exact ⟨⟨(z : Int) % q, rfl, hm0, hm1⟩, rfl⟩
  · have i1 : (n : Int) ≤ (i : Int) := by omega
    clear hb
    go_enter Tryd.func7, Tryd.ntmps7
    go_wp2_with fail
    go_ret
    exact ⟨⟨0, rfl, by omega, by omega⟩, rfl⟩
set_option maxRecDepth 100000 in
set_option maxHeartbeats 3200000 in
theorem WrongTrials_fst (A : Option Addr) (n c : Nat) (ts : List Tri) (w : World) (hr : RL TriM 7 w A n ts) (hs : ∀ t ∈ ts, SmallTri t) (hv : vtrials ts = true) (hT : ∀ t ∈ ts, TOK t) (hn : n ≤ 1000) :
    Calls Tryd.prog 13 #[.slice A n c] w fun e w' => ∃ A' c' ds, e = .returned (.tuple #[.slice A' ds.length c', .int .i64 0]) ∧ OwnI w' w.heap.size (.slice A' ds.length c') ds ∧ Fst (fun i => expl (ts.getD i default) []) n ds ∧ Below w.heap.size w w' := by
  have KV := Lib.hid (calls_val (ValidTrials_any A n c ts w hr hs (by omega)) (congrArg Value.bool hv))
  have HL := Lib.hid hr.1
  have HT := Lib.hid hT
  clear hv hT hs
  go_enter Tryd.func13, Tryd.ntmps13
  go_wp2_with (go_at_call 41; refine KV.out.mono ?_; rintro e w1 ⟨rfl, hw1⟩)
  have hz1 := hw1.size
  go_loopw [13, 4] (fun kk out wr => ∃ (k : Nat) (ds : List Int), k ≤ n ∧ kk = .int .i64 k ∧ OwnI wr w.heap.size out ds ∧ ds.length ≤ k ∧ Fst (fun i => expl (ts.getD i default) []) k ds ∧ Below w.heap.size w wr) (fun kk _ _ => n - (intOf kk).toNat)
  case atStart => exact ⟨0, [], Nat.zero_le _, rfl, own_lit (n := 0) (heap_alloc_new _ _) hz1 rfl (by decide), Nat.le_refl _, Fst.zero _, hw1.alloc hz1 _⟩
  case round =>
    obtain ⟨k, ds, hk, rfl, hown, hdl, hiff, hbr⟩ := hrel
    have HO := Lib.hid hown
    have HI := Lib.hid hiff
    have HBR := Lib.hid hbr
    have hwz := hbr.size
    clear hown hiff hbr
    by_cases hkn : k < n
    · obtain ⟨ad, hA, hlt, hkl, htk⟩ := (hr.below steady_TriM HBR.out).at_ hkn
      obtain ⟨A1, c1, A2, c2, A3, c3, ⟨g1, g2, g3, g4, g5, g6, g7⟩, r1, r2, r3⟩ := htk.cells
      have hi0 : (0 : Int) ≤ (k : Int) := by omega
      have hi1 : (k : Int) < (n : Int) := by omega
      have hb1 : Below wr.heap.size wr (wr.alloc (.cells #[.int .i64 ts[k].a.base, .slice A1 ts[k].a.digits.length c1, .int .i64 ts[k].b.base, .slice A2 ts[k].b.digits.length c2, .int .i64 ts[k].s.base, .slice A3 ts[k].s.digits.length c3, .int .i64 ts[k].carry] 43)) := (Below.refl _ _).alloc (Nat.le_refl _) _
      have HAS := Lib.hid (show ts.getD k default = ts[k] by simp [List.getD, hkl])
      have KX := fun W (hW : Below wr.heap.size wr W) => explained_any ts[k] A1 A2 A3 c1 c2 c3 none 0 0 [] W (r1.below hW) (r2.below hW) (r3.below hW) ⟨rfl, fun h => absurd h (by omega)⟩ (HT.out _ (List.getElem_mem _)) (fun f hf => absurd hf List.not_mem_nil) (by omega)
      subst hA
      clear htk r1 r2 r3
      rcases hx : expl ts[k] [] with _ | _
      all_goals
        rw [hx] at KX
        have HX := Lib.hid hx
        have KX := Lib.hid KX
        clear hx
        go_wp2_with fail
        refine (KX.out _ hb1).mono ?_; rintro e w3 ⟨rfl, hw3⟩
        have hz3 : wr.heap.size ≤ w3.heap.size := by have := hw3.size; have := hb1.size; omega
        have hb3 : Below wr.heap.size wr w3 := hb1.trans (hw3.mono hb1.size)
        have HB3 := Lib.hid hb3
        have HO3 := Lib.hid (HO.out.below hb3)
        have HBR3 := Lib.hid (HBR.out.trans (hb3.mono hwz))
        clear hw3 hb3
      · have HOB := Lib.hid (HO3.out.below ((Below.refl _ _).alloc (Nat.le_refl _) (.cells #[.int .i64 (k : Int)] 2)))
        have hbb := HBR3.out.alloc (by omega) (.cells #[.int .i64 (k : Int)] 2)
        go_wp2_with (at_builtin; refine app1I rfl _ _ rfl w.heap.size _ ds rfl HOB.out w3.heap.size (k : Int) rfl (heap_alloc_new _ _) (by omega) (by simp; omega) ?_; intro v5 w6 hown5 hg5 hv5)
        have hbf := hbb.grown hg5 (by simp; omega) (ownI_lo HOB.out)
        have HOF := Lib.hid hown5; clear hown5
        have HBF := Lib.hid hbf; clear hbf
        go_roundw
        case rel => exact ⟨k + 1, ds ++ [(k : Int)], by omega, by go_num, HOF.out, by rw [List.length_append, List.length_cons, List.length_nil]; omega, Fst.no HI.out (by show expl (ts.getD k default) [] = false; rw [HAS.out]; exact HX.out), HBF.out⟩
        case measure => simp [intOf]; omega
      · go_wp2
        go_roundw
        case rel => exact ⟨k + 1, ds, by omega, by go_num, HO3.out, by omega, Fst.yes HI.out (by show expl (ts.getD k default) [] = true; rw [HAS.out]; exact HX.out), HBR3.out⟩
        case measure => simp [intOf]; omega
    · have HF : Hid (Fst (fun i => expl (ts.getD i default) []) n ds) := by
        have h := HI.out
        rw [show k = n by omega] at h
        exact h
      obtain ⟨AO, cO, rfl, -⟩ := HO.out.reads
      go_wp2
      refine bodyPost_ret (v := .tuple #[.slice AO ds.length cO, .int .i64 0]) (by simp [results, Tryd.results13, go_sem]) rfl ⟨_, _, ds, rfl, HO.out, HF.out, HBR.out⟩
end Go.Proofs.YtgpmngcemnnpmaaDoor

namespace Go.Proofs.YtgpmngcemnnpmaaDoor
open Go.RowKit Go.Sort
theorem getTri {ts : List Tri} {k : Nat} (h : k < ts.length) : ts.getD k default = ts[k] := by simp [List.getD, h]
set_option maxRecDepth 100000 in
set_option maxHeartbeats 3200000 in
theorem FirstDifference_ok (A B : Option Addr) (n c d : Nat) (ts us : List Tri) (w : World) (hr : RL TriM 7 w A n ts) (hr2 : RL TriM 7 w B n us) (hs : ∀ t ∈ ts, SmallTri t) (hs2 : ∀ t ∈ us, SmallTri t) (hv : vtrials ts = true) (hv2 : vtrials us = true) (hn : n ≤ 1000) :
    Calls Tryd.prog 12 #[.slice A n c, .slice B n d] w fun e w' => (∃ r : Int × Int, e = .returned (.tuple #[.int .i64 r.1, .int .i64 r.2]) ∧ FD (fun i => sameT (ts.getD i default) (us.getD i default)) n r) ∧ Below w.heap.size w w' := by
  have KV := Lib.hid (calls_val (ValidTrials_any A n c ts w hr hs (by omega)) (congrArg Value.bool hv))
  have KV2 := Lib.hid (fun W (hW : Below w.heap.size w W) => calls_val (ValidTrials_any B n d us W (hr2.below steady_TriM hW) hs2 (by omega)) (congrArg Value.bool hv2))
  have HR := Lib.hid (fun W (hW : Below w.heap.size w W) => hr.below steady_TriM hW)
  have HR2 := Lib.hid (fun W (hW : Below w.heap.size w W) => hr2.below steady_TriM hW)
  have HS := Lib.hid hs
  have HS2 := Lib.hid hs2
  clear hv hv2 hr hr2 hs hs2
  have hmin : ¬ (n : Int) < (n : Int) := by omega
  go_enter Tryd.func12, Tryd.ntmps12
  go_wp2_with (first | (go_at_call 41; first | (with_reducible refine KV.out.mono ?_; rintro e w1 ⟨rfl, hw1⟩) | (with_reducible refine (KV2.out _ hw1).mono ?_; rintro e w2 ⟨rfl, hw2⟩)))
  have HW := Lib.hid (hw1.trans (hw2.mono hw1.size))
  clear hw1 hw2
  go_loopw [20] (fun kk wr => ∃ k : Nat, k ≤ n ∧ kk = .int .i64 (k : Int) ∧ (∀ j, j < k → sameT (ts.getD j default) (us.getD j default) = true) ∧ Below w.heap.size w wr) (fun kk _ => n - (intOf kk).toNat)
  case atStart => exact ⟨0, Nat.zero_le _, rfl, fun j hj => absurd hj (by omega), HW.out⟩
  case round =>
    clear HW
    obtain ⟨k, hk, rfl, hall, hbr⟩ := hrel
    have HALL := Lib.hid hall
    have HBR := Lib.hid hbr
    clear hall hbr
    by_cases hkn : k < n
    · obtain ⟨ad, hA, hlt, hkl, htk⟩ := (HR.out _ HBR.out).at_ hkn
      obtain ⟨be, hB, hlt2, hkl2, htk2⟩ := (HR2.out _ HBR.out).at_ hkn
      obtain ⟨A1, c1, A2, c2, A3, c3, ⟨g1, g2, g3, g4, g5, g6, g7⟩, r1, r2, r3⟩ := htk.cells
      obtain ⟨B1, d1, B2, d2, B3, d3, ⟨h1, h2, h3, h4, h5, h6, h7⟩, q1, q2, q3⟩ := htk2.cells
      have i0 : (0 : Int) ≤ (k : Int) := by omega
      have i1 : (k : Int) < (n : Int) := by omega
      have HP := Lib.hid (show sameT (ts.getD k default) (us.getD k default) = sameT ts[k] us[k] by rw [getTri hkl, getTri hkl2])
      have KS := fun W (hW : Below wr.heap.size wr W) => same_any ts[k] us[k] A1 A2 A3 B1 B2 B3 c1 c2 c3 d1 d2 d3 W (r1.below hW) (r2.below hW) (r3.below hW) (q1.below hW) (q2.below hW) (q3.below hW) (HS.out _ (List.getElem_mem _)) (HS2.out _ (List.getElem_mem _))
      obtain ⟨t, ht⟩ : ∃ t, ts[k] = t := ⟨_, rfl⟩
      obtain ⟨u, hu⟩ : ∃ u, us[k] = u := ⟨_, rfl⟩
      rw [ht, hu] at HP KS
      rw [ht] at g1 g2 g3 g4 g5 g6 g7
      rw [hu] at h1 h2 h3 h4 h5 h6 h7
      subst hA hB
      clear htk htk2 r1 r2 r3 q1 q2 q3 ht hu hkl hkl2
      obtain ⟨b, hb⟩ : ∃ b, sameT t u = b := ⟨_, rfl⟩
      rw [hb] at HP KS
      replace KS := Lib.hid KS
      clear hb
      have x1 := cell_regrown g1
      have x2 := cell_regrown g2
      have x3 := cell_regrown g3
      have x4 := cell_regrown g4
      have x5 := cell_regrown g5
      have x6 := cell_regrown g6
      have x7 := cell_regrown g7
      have y1 := cell_regrown h1
      have y2 := cell_regrown h2
      have y3 := cell_regrown h3
      have y4 := cell_regrown h4
      have y5 := cell_regrown h5
      have y6 := cell_regrown h6
      have y7 := cell_regrown h7
      clear g1 g2 g3 g4 g5 g6 g7 h1 h2 h3 h4 h5 h6 h7
      go_upto_region 6 with fail
      refine wp_region_quiet_below (by kernel_rfl) (by kernel_rfl) ?_
      repeat (go_big_quiet_step ((go_at_call 45; exact quietB KS.out)))
      refine wpQuiet_nil ?_
      intro _ hw'
      obtain ⟨⟨dq, osq⟩, hw''⟩ := hw'
      subst hw''
      have HB2 := Lib.hid (HBR.out.trans ((below_regrown wr dq osq).mono HBR.out.size))
      dsimp only
      clear x1 x2 x3 x4 x5 x6 x7 y1 y2 y3 y4 y5 y6 y7
      obtain ⟨w9, hw9⟩ : ∃ W, grow (redrawn wr dq) osq = W := ⟨_, rfl⟩
      rw [hw9] at HB2 ⊢
      clear hw9
      rcases b with _ | _
      · have HF : Hid (FD (fun i => sameT (ts.getD i default) (us.getD i default)) n ((k : Int), 0)) := .inl ⟨k, rfl, hkn, HP.out, HALL.out⟩
        go_wp2_with fail
        go_ret2
        exact ⟨⟨((k : Int), 0), rfl, HF.out⟩, HB2.out⟩
      · go_wp2_with fail
        go_roundw
        case rel => exact ⟨k + 1, by omega, by go_num, fun j hj => by
          by_cases e : j = k
          · subst e; exact HP.out
          · exact HALL.out j (by omega), HB2.out⟩
        case measure => simp [intOf]; omega
    · obtain rfl : n = k := by omega
      have HF : Hid (FD (fun i => sameT (ts.getD i default) (us.getD i default)) n (0, 3)) := .inr ⟨rfl, HALL.out⟩
      go_wp2_with fail
      go_ret2
      exact ⟨⟨(0, 3), rfl, HF.out⟩, HBR.out⟩
end Go.Proofs.YtgpmngcemnnpmaaDoor

namespace Go.Proofs.YtgpmngcemnnpmaaDoor
open Go.RowKit
/-- the decimal form -/
def dec (n : Int) : List UInt8 := Lib.itoa n
def digs (u : Nat) : List UInt8 := if u = 0 then [] else Lib.decDigits u
theorem digs_step (u : Nat) (h : u ≠ 0) : digs u = digs (u / 10) ++ [UInt8.ofNat (48 + u % 10)] := by
  unfold digs
  rw [if_neg h]
  by_cases h1 : u < 10
  · rw [if_pos (by omega), Lib.decDigits_one h1, Nat.mod_eq_of_lt h1]; rfl
  · rw [if_neg (by omega)]
    conv => lhs; rw [Lib.decDigits, dif_neg h1]
theorem digs_len (n : Int) (h0 : -9223372036854775808 ≤ n) (h1 : n ≤ 9223372036854775807) : (digs n.natAbs).length ≤ 21 := by
  have h := Lib.itoa_length_le n h0 h1
  unfold digs
  split
  · simp
  · by_cases hn : n < 0
    · unfold Lib.itoa at h; rw [if_pos hn] at h; simp at h; omega
    · unfold Lib.itoa at h; rw [if_neg hn] at h
      have : n.natAbs = n.toNat := by omega
      rw [this]; omega
theorem dec_of (n : Int) : dec n = if n = 0 then [48] else if n < 0 then 45 :: digs n.natAbs else digs n.natAbs := by
  unfold dec Lib.itoa digs
  by_cases h0 : n = 0
  · subst h0; rw [if_pos rfl]; simp [Lib.decDigits_one]
  · rw [if_neg h0, if_neg (by omega : ¬ n.natAbs = 0)]
    by_cases hn : n < 0
    · rw [if_pos hn, if_pos hn]
    · rw [if_neg hn, if_neg hn, show n.natAbs = n.toNat by omega]
theorem ofNat_toNat48 (d : Nat) (h : d < 10) : ((UInt8.ofNat (48 + d)).toNat : Int) = 48 + (d : Int) := by
  simp [UInt8.toNat_ofNat]; omega
theorem tmod_neg10 (u : Nat) : (-(u : Int)).tmod 10 = -((u % 10 : Nat) : Int) := by
  rw [Int.neg_tmod]; rfl
theorem tdiv_neg10 (u : Nat) : (-(u : Int)).tdiv 10 = -((u / 10 : Nat) : Int) := by
  rw [Int.neg_tdiv]; rfl
theorem OwnB.lit1 (w : World) (b : UInt8) (base : Nat) (hb : base ≤ w.heap.size) : OwnB (w.alloc (.cells #[byteV b] 5)) base (.slice (some ⟨w.heap.size, 0, none⟩) 1 1) [b] := World.ownsRow_lit w #[byteV b] 1 hb (by decide) rfl
theorem OwnB.cells_at {w : World} {base g c n : Nat} {ds : List UInt8} (h : OwnB w base (.slice (some ⟨g, 0, none⟩) n c) ds) : RB w (some ⟨g, 0, none⟩) ds.length ds ∧ g < w.heap.size := by
  rcases h.2 with ⟨h1, _⟩ | ⟨g', cap, cur, h1, hb, hg, hnc, _, hcs, htake⟩
  · cases h1
  · injection h1 with h1 h2 h3; injection h1 with h1; injection h1 with h1; subst h1
    exact ⟨⟨rfl, fun _ => ⟨_, rfl, (Array.getElem?_eq_some_iff.1 hg).1, fun j u hu => h.cells (g := g) rfl j (byteV u) (by simp [hu])⟩⟩, (Array.getElem?_eq_some_iff.1 hg).1⟩
theorem byteV_one (bs : List UInt8) : ∀ u ∈ bs.map byteV, u.oneCell' = true := by
  intro u hu; obtain ⟨b, -, rfl⟩ := List.mem_map.1 hu; rfl
theorem byte48 (u : Nat) : byteV (UInt8.ofNat (48 + u % 10)) = .int .u8 (48 + (u : Int) % 10) := by
  unfold byteV; rw [ofNat_toNat48 (u % 10) (by omega)]; rfl
theorem ret_str {a b : ByteArray} (h : a = b) : Ending.returned (.string a) = .returned (.string b) := by rw [h]
set_option maxRecDepth 100000 in
set_option maxHeartbeats 800000 in
theorem l01Dec_any (n : Int) (w : World) (h0 : -9223372036854775808 ≤ n) (h1 : n ≤ 9223372036854775807) :
    Calls Tryd.prog 156 #[.int .i64 n] w fun e w' => e = .returned (.string ⟨(dec n).toArray⟩) ∧ Below w.heap.size w w' := by
  have hlen := digs_len n h0 h1
  rcases Int.lt_or_le n 0 with hn | hn
  · obtain ⟨u0, rfl⟩ : ∃ u : Nat, n = -(u : Int) := ⟨n.natAbs, by omega⟩
    have HD := Lib.hid (dec_of (-(u0 : Int)))
    have hu0 : (-(u0 : Int)).natAbs = u0 := by omega
    rw [hu0] at hlen
    have HU := Lib.hid hu0; clear hu0
    go_enter Tryd.func156, Tryd.ntmps156
    go_wp2
    go_loopw [3, 4, 5] (fun v k _ wr => ∃ (u : Nat) (bs : List UInt8) (g c : Nat), u ≤ u0 ∧ k = .int .i64 (-(u : Int)) ∧ v = .slice (some ⟨g, 0, none⟩) bs.length c ∧ OwnB wr w.heap.size (.slice (some ⟨g, 0, none⟩) bs.length c) bs ∧ digs u0 = digs u ++ bs ∧ Below w.heap.size w wr) (fun _ k _ _ => (intOf k).natAbs)
    case atStart => exact ⟨u0, [], w.heap.size, 0, Nat.le_refl _, rfl, rfl, World.ownsRow_lit w #[] 0 (Nat.le_refl _) (by decide) rfl, by simp, (Below.refl _ _).alloc (Nat.le_refl _) _⟩
    case round =>
      obtain ⟨u, bs, g, c, hu, rfl, rfl, hown, hdg, hbr⟩ := hrel
      have hbl : bs.length ≤ 21 := by rw [hdg] at hlen; simp at hlen; omega
      obtain ⟨hrb, hgl⟩ := hown.cells_at
      have HG := Lib.hid hdg; clear hdg
      rcases Nat.eq_zero_or_pos u with hu1 | hu1
      · subst hu1
        have HE : Hid (digs u0 = bs) := HG.out
        have hcv := conv_bytes wr (some ⟨g, 0, none⟩) bs.length c bs hrb
        by_cases hz : bs.length = 0
        · have hzz : ((bs.length : Int) == 0) = true := by simp [hz]
          have HF : Hid (dec (-(u0 : Int)) = [48]) := by
            have h1 := HE.out
            have : u0 = 0 := by
              rcases Nat.eq_zero_or_pos u0 with h | h
              · exact h
              · rw [digs_step u0 (by omega)] at h1; rw [← h1] at hz; simp at hz
            rw [Hid, HD.out, if_pos (by omega)]
          have Hz := Lib.hid hz; clear hz
          go_wp2
          go_ret
          exact ⟨ret_str (by rw [HF.out]), hbr⟩
        · have hzz : ((bs.length : Int) == 0) = false := by rw [beq_eq_false_iff_ne]; omega
          have h0 : u0 ≠ 0 := by rintro rfl; have h1 := HE.out; simp [digs] at h1; exact hz (by rw [h1]; rfl)
          have HF : Hid (dec (-(u0 : Int)) = if (-(u0 : Int)) < 0 then 45 :: bs else bs) := by rw [Hid, HD.out, if_neg (by omega), HU.out, HE.out]
          clear hz
          first
            | (have hnn : (-(u0 : Int)) < 0 := by omega
               go_wp2
               go_ret
               exact ⟨ret_str (by rw [HF.out, if_pos hnn]; rfl), hbr⟩)
            | (have hnn : ¬ (-(u0 : Int)) < 0 := by omega
               go_wp2
               go_ret
               exact ⟨ret_str (by rw [HF.out, if_neg (by omega)]), hbr⟩)
      · have t3 : ((-(u : Int)) != 0) = true := by rw [bne_iff_ne]; omega
        have HN : Hid (digs u0 = digs (u / 10) ++ (UInt8.ofNat (48 + u % 10) :: bs)) := by rw [Hid, HG.out, digs_step u (by omega)]; simp
        clear hrb
        obtain ⟨dd, hdd⟩ : ∃ dd : Int, dd = (u : Int) % 10 := ⟨_, rfl⟩
        have hd0 : 0 ≤ dd := by omega
        have hd1 : dd < 10 := by omega
        have hbv : byteV (UInt8.ofNat (48 + u % 10)) = .int .u8 (48 + dd) := by rw [byte48 u, hdd]
        have hl1 := OwnB.lit1 wr (UInt8.ofNat (48 + u % 10)) w.heap.size hbr.size
        have t1 := tmod_neg10 u
        have t2 := tdiv_neg10 u
        have t4 : ((u : Int)) % 10 = dd := hdd.symm
        have t5 : (((u % 10 : Nat)) : Int) = dd := by omega
        rw [t5] at t1
        clear t5
        have HDD := Lib.hid hdd; clear hdd
        rcases Int.lt_or_eq_of_le hd0 with hpos | hzero
        rotate_right 1
        · subst hzero
          rw [Int.neg_zero] at t1
          have hbv : byteV (UInt8.ofNat (48 + u % 10)) = .int .u8 48 := hbv
          rw [hbv] at hl1
          have hcs := (World.ownsRow.alloc hown (.cells #[.int .u8 48] 5)).cells (g := g) rfl
          clear hbv
          go_wp2_with (at_builtin; refine appG tpB rfl _ _ rfl w.heap.size (.slice (some ⟨wr.heap.size, 0, none⟩) 1 1) 1 ([UInt8.ofNat (48 + u % 10)].map byteV) rfl hl1 ⟨g, 0, none⟩ bs.length c (bs.map byteV) rfl (by simp) hcs (byteV_one bs) (by omega) (by omega) (by have := hbr.size; simp; omega) ?_; intro v1 w1 hown1 hg1 hat1)
          obtain ⟨g', c', hv', hbg', hlt'⟩ := hown1.form (by omega)
          subst hv'
          have hbz : Below w.heap.size w w1 := (hbr.alloc hbr.size _).grown hg1 (Nat.le_trans hbr.size (by simp)) (fun k hk => Nat.le_trans hbr.size (Nat.le_of_eq (by simpa [Value.ownBlock] using hk)))
          have hown2 : OwnB w1 w.heap.size (.slice (some ⟨g', 0, none⟩) (UInt8.ofNat (48 + u % 10) :: bs).length c') (UInt8.ofNat (48 + u % 10) :: bs) := by unfold OwnB; rw [List.length_cons, Nat.add_comm]; exact hown1
          clear hown1 hl1 hcs
          go_roundw
          case rel => exact ⟨u / 10, UInt8.ofNat (48 + u % 10) :: bs, g', c', by omega, by congr 1, by rw [List.length_cons, Nat.add_comm], hown2, HN.out, hbz⟩
          case measure => simp [intOf]; omega
        · skip
          rw [hbv] at hl1
          have hcs := (World.ownsRow.alloc hown (.cells #[.int .u8 (48 + dd)] 5)).cells (g := g) rfl
          clear hbv
          go_wp2_with (at_builtin; refine appG tpB rfl _ _ rfl w.heap.size (.slice (some ⟨wr.heap.size, 0, none⟩) 1 1) 1 ([UInt8.ofNat (48 + u % 10)].map byteV) rfl hl1 ⟨g, 0, none⟩ bs.length c (bs.map byteV) rfl (by simp) hcs (byteV_one bs) (by omega) (by omega) (by have := hbr.size; simp; omega) ?_; intro v1 w1 hown1 hg1 hat1)
          obtain ⟨g', c', hv', hbg', hlt'⟩ := hown1.form (by omega)
          subst hv'
          have hbz : Below w.heap.size w w1 := (hbr.alloc hbr.size _).grown hg1 (Nat.le_trans hbr.size (by simp)) (fun k hk => Nat.le_trans hbr.size (Nat.le_of_eq (by simpa [Value.ownBlock] using hk)))
          have hown2 : OwnB w1 w.heap.size (.slice (some ⟨g', 0, none⟩) (UInt8.ofNat (48 + u % 10) :: bs).length c') (UInt8.ofNat (48 + u % 10) :: bs) := by unfold OwnB; rw [List.length_cons, Nat.add_comm]; exact hown1
          clear hown1 hl1 hcs
          go_roundw
          case rel => exact ⟨u / 10, UInt8.ofNat (48 + u % 10) :: bs, g', c', by omega, by congr 1, by rw [List.length_cons, Nat.add_comm], hown2, HN.out, hbz⟩
          case measure => simp [intOf]; omega
  · obtain ⟨u0, rfl⟩ : ∃ u : Nat, n = (u : Int) := ⟨n.natAbs, by omega⟩
    have HD := Lib.hid (dec_of (u0 : Int))
    have hu0 : ((u0 : Int)).natAbs = u0 := by omega
    rw [hu0] at hlen
    have HU := Lib.hid hu0; clear hu0
    go_enter Tryd.func156, Tryd.ntmps156
    go_wp2
    go_loopw [3, 4, 5] (fun v k _ wr => ∃ (u : Nat) (bs : List UInt8) (g c : Nat), u ≤ u0 ∧ k = .int .i64 ((u : Int)) ∧ v = .slice (some ⟨g, 0, none⟩) bs.length c ∧ OwnB wr w.heap.size (.slice (some ⟨g, 0, none⟩) bs.length c) bs ∧ digs u0 = digs u ++ bs ∧ Below w.heap.size w wr) (fun _ k _ _ => (intOf k).natAbs)
    case atStart => exact ⟨u0, [], w.heap.size, 0, Nat.le_refl _, rfl, rfl, World.ownsRow_lit w #[] 0 (Nat.le_refl _) (by decide) rfl, by simp, (Below.refl _ _).alloc (Nat.le_refl _) _⟩
    case round =>
      obtain ⟨u, bs, g, c, hu, rfl, rfl, hown, hdg, hbr⟩ := hrel
      have hbl : bs.length ≤ 21 := by rw [hdg] at hlen; simp at hlen; omega
      obtain ⟨hrb, hgl⟩ := hown.cells_at
      have HG := Lib.hid hdg; clear hdg
      rcases Nat.eq_zero_or_pos u with hu1 | hu1
      · subst hu1
        have HE : Hid (digs u0 = bs) := HG.out
        have hcv := conv_bytes wr (some ⟨g, 0, none⟩) bs.length c bs hrb
        by_cases hz : bs.length = 0
        · have hzz : ((bs.length : Int) == 0) = true := by simp [hz]
          have HF : Hid (dec ((u0 : Int)) = [48]) := by
            have h1 := HE.out
            have : u0 = 0 := by
              rcases Nat.eq_zero_or_pos u0 with h | h
              · exact h
              · rw [digs_step u0 (by omega)] at h1; rw [← h1] at hz; simp at hz
            rw [Hid, HD.out, if_pos (by omega)]
          have Hz := Lib.hid hz; clear hz
          go_wp2
          go_ret
          exact ⟨ret_str (by rw [HF.out]), hbr⟩
        · have hzz : ((bs.length : Int) == 0) = false := by rw [beq_eq_false_iff_ne]; omega
          have h0 : u0 ≠ 0 := by rintro rfl; have h1 := HE.out; simp [digs] at h1; exact hz (by rw [h1]; rfl)
          have HF : Hid (dec ((u0 : Int)) = if ((u0 : Int)) < 0 then 45 :: bs else bs) := by rw [Hid, HD.out, if_neg (by omega), HU.out, HE.out]
          clear hz
          first
            | (have hnn : ((u0 : Int)) < 0 := by omega
               go_wp2
               go_ret
               exact ⟨ret_str (by rw [HF.out, if_pos hnn]; rfl), hbr⟩)
            | (have hnn : ¬ ((u0 : Int)) < 0 := by omega
               go_wp2
               go_ret
               exact ⟨ret_str (by rw [HF.out, if_neg (by omega)]), hbr⟩)
      · have t3 : (((u : Int)) != 0) = true := by rw [bne_iff_ne]; omega
        have HN : Hid (digs u0 = digs (u / 10) ++ (UInt8.ofNat (48 + u % 10) :: bs)) := by rw [Hid, HG.out, digs_step u (by omega)]; simp
        clear hrb
        obtain ⟨dd, hdd⟩ : ∃ dd : Int, dd = (u : Int) % 10 := ⟨_, rfl⟩
        have hd0 : 0 ≤ dd := by omega
        have hd1 : dd < 10 := by omega
        have hbv : byteV (UInt8.ofNat (48 + u % 10)) = .int .u8 (48 + dd) := by rw [byte48 u, hdd]
        have hl1 := OwnB.lit1 wr (UInt8.ofNat (48 + u % 10)) w.heap.size hbr.size
        have t1 := tmod_neg10 u
        have t2 := tdiv_neg10 u
        have t4 : ((u : Int)) % 10 = dd := hdd.symm
        have t5 : (((u % 10 : Nat)) : Int) = dd := by omega
        rw [t5] at t1
        clear t5
        have HDD := Lib.hid hdd; clear hdd
        rcases Int.lt_or_eq_of_le hd0 with hpos | hzero
        rotate_right 1
        · subst hzero
          skip
          have hbv : byteV (UInt8.ofNat (48 + u % 10)) = .int .u8 48 := hbv
          rw [hbv] at hl1
          have hcs := (World.ownsRow.alloc hown (.cells #[.int .u8 48] 5)).cells (g := g) rfl
          clear hbv
          go_wp2_with (at_builtin; refine appG tpB rfl _ _ rfl w.heap.size (.slice (some ⟨wr.heap.size, 0, none⟩) 1 1) 1 ([UInt8.ofNat (48 + u % 10)].map byteV) rfl hl1 ⟨g, 0, none⟩ bs.length c (bs.map byteV) rfl (by simp) hcs (byteV_one bs) (by omega) (by omega) (by have := hbr.size; simp; omega) ?_; intro v1 w1 hown1 hg1 hat1)
          obtain ⟨g', c', hv', hbg', hlt'⟩ := hown1.form (by omega)
          subst hv'
          have hbz : Below w.heap.size w w1 := (hbr.alloc hbr.size _).grown hg1 (Nat.le_trans hbr.size (by simp)) (fun k hk => Nat.le_trans hbr.size (Nat.le_of_eq (by simpa [Value.ownBlock] using hk)))
          have hown2 : OwnB w1 w.heap.size (.slice (some ⟨g', 0, none⟩) (UInt8.ofNat (48 + u % 10) :: bs).length c') (UInt8.ofNat (48 + u % 10) :: bs) := by unfold OwnB; rw [List.length_cons, Nat.add_comm]; exact hown1
          clear hown1 hl1 hcs
          go_roundw
          case rel => exact ⟨u / 10, UInt8.ofNat (48 + u % 10) :: bs, g', c', by omega, by congr 1, by rw [List.length_cons, Nat.add_comm], hown2, HN.out, hbz⟩
          case measure => simp [intOf]; omega
        · skip
          rw [hbv] at hl1
          have hcs := (World.ownsRow.alloc hown (.cells #[.int .u8 (48 + dd)] 5)).cells (g := g) rfl
          clear hbv
          go_wp2_with (at_builtin; refine appG tpB rfl _ _ rfl w.heap.size (.slice (some ⟨wr.heap.size, 0, none⟩) 1 1) 1 ([UInt8.ofNat (48 + u % 10)].map byteV) rfl hl1 ⟨g, 0, none⟩ bs.length c (bs.map byteV) rfl (by simp) hcs (byteV_one bs) (by omega) (by omega) (by have := hbr.size; simp; omega) ?_; intro v1 w1 hown1 hg1 hat1)
          obtain ⟨g', c', hv', hbg', hlt'⟩ := hown1.form (by omega)
          subst hv'
          have hbz : Below w.heap.size w w1 := (hbr.alloc hbr.size _).grown hg1 (Nat.le_trans hbr.size (by simp)) (fun k hk => Nat.le_trans hbr.size (Nat.le_of_eq (by simpa [Value.ownBlock] using hk)))
          have hown2 : OwnB w1 w.heap.size (.slice (some ⟨g', 0, none⟩) (UInt8.ofNat (48 + u % 10) :: bs).length c') (UInt8.ofNat (48 + u % 10) :: bs) := by unfold OwnB; rw [List.length_cons, Nat.add_comm]; exact hown1
          clear hown1 hl1 hcs
          go_roundw
          case rel => exact ⟨u / 10, UInt8.ofNat (48 + u % 10) :: bs, g', c', by omega, by congr 1, by rw [List.length_cons, Nat.add_comm], hown2, HN.out, hbz⟩
          case measure => simp [intOf]; omega
end Go.Proofs.YtgpmngcemnnpmaaDoor

namespace Go.Proofs.YtgpmngcemnnpmaaDoor
open Go.RowKit Go.Sort
/-- strconv's table stands in memory -/
def TB (w : World) : Prop := Lib.TabIs Tryd.prog w "internal/strconv.uint64pow10" .u64 Lib.pow10Tab
theorem TB.below {w w' : World} (h : TB w) (hb : Below w.heap.size w w') : TB w' := by
  unfold TB Lib.TabIs World.var? at *
  cases hg : Tryd.prog.globalNamed "internal/strconv.uint64pow10" with
  | none => rw [hg] at h; cases h
  | some g =>
    rw [hg] at h
    simp only [Option.bind_some] at h ⊢
    have hl : g < w.heap.size := by
      rcases Nat.lt_or_ge g w.heap.size with h1 | h1
      · exact h1
      · rw [Array.getElem?_eq_none h1] at h; cases h
    rw [hb.block g hl]; exact h
theorem cat_bytes (a b : List UInt8) : (⟨a.toArray⟩ : ByteArray) ++ (⟨b.toArray⟩ : ByteArray) = ⟨(a ++ b).toArray⟩ := by
  apply ByteArray.ext; simp
theorem dec_len (n : Int) (h0 : -9223372036854775808 ≤ n) (h1 : n ≤ 9223372036854775807) : (dec n).length ≤ 21 := Lib.itoa_length_le n h0 h1
theorem Decimal_any (n : Int) (w : World) (h0 : -9223372036854775808 ≤ n) (h1 : n ≤ 9223372036854775807) (ht : TB w) :
    Calls Tryd.prog 48 #[.int .i64 n] w fun e w' => e = .returned (.string ⟨(dec n).toArray⟩) ∧ Below w.heap.size w w' := by
  go_enter Tryd.func48, Tryd.ntmps48
  go_wp2_with (go_at_call 81; refine (Tryd.strconv_FormatInt_10 n h0 h1 _ ht).mono ?_; rintro e w' ⟨rfl, k, os, rfl⟩)
  go_ret
  exact ⟨rfl, by rw [show grow (w.drewN k) os = grow (redrawn w (w.drawn + k)) os from rfl]; exact below_regrown w _ _⟩
/-- the character of a digit -/
def dch (d : Int) : UInt8 := if d < 10 then UInt8.ofNat (48 + d.toNat) else UInt8.ofNat (87 + d.toNat)
def rtextL (b : Int) (ds : List Int) : List UInt8 := dec b ++ [58] ++ (ds.reverse.map dch)
def rtS (b : Int) (ds : List Int) : ByteArray := ⟨(rtextL b ds).toArray⟩
theorem rtS_nil (b : Int) : rtS b [] = (⟨(dec b).toArray⟩ : ByteArray) ++ (⟨#[58]⟩ : ByteArray) := by
  rw [show (#[58] : Array UInt8) = [58].toArray from rfl, cat_bytes]; simp [rtS, rtextL]
theorem rtS_step (b : Int) (ds : List Int) (k : Nat) (h : k < ds.length) : rtS b (ds.drop k) = rtS b (ds.drop (k + 1)) ++ (⟨[dch ds[k]].toArray⟩ : ByteArray) := by
  unfold rtS; rw [cat_bytes, List.drop_eq_getElem_cons h]; unfold rtextL; rw [List.reverse_cons, List.map_append, List.append_assoc (dec b ++ [58])]; rfl
theorem rtS_len (b : Int) (ds : List Int) : (rtS b ds).size = (dec b).length + 1 + ds.length := by
  unfold rtS rtextL; simp [ByteArray.size]; omega
theorem piece (d : Int) (h0 : 0 ≤ d) (h1 : d < 16) : (⟨#[48, 49, 50, 51, 52, 53, 54, 55, 56, 57, 97, 98, 99, 100, 101, 102]⟩ : ByteArray).extract d.toNat (d + 1).toNat = ⟨[dch d].toArray⟩ := by
  obtain ⟨m, rfl⟩ : ∃ m : Nat, d = (m : Int) := ⟨d.toNat, by omega⟩
  have hm : m < 16 := by omega
  have : ∀ m : Fin 16, (⟨#[48, 49, 50, 51, 52, 53, 54, 55, 56, 57, 97, 98, 99, 100, 101, 102]⟩ : ByteArray).extract ((m.val : Int)).toNat ((m.val : Int) + 1).toNat = ⟨[dch m.val].toArray⟩ := by decide
  exact this ⟨m, hm⟩
def rtext (r : Reg) : List UInt8 := if r.ok then rtextL r.base r.digits else []
set_option maxHeartbeats 800000 in
theorem RegisterText_any (b : Int) (A : Option Addr) (n c : Nat) (ds : List Int) (w : World) (hr : RI w A n ds) (hm : n ≤ 9223372036854775807) (ht : TB w) :
    Calls Tryd.prog 47 #[.agg #[.int .i64 b, .slice A n c]] w fun e w' => e = .returned (.string ⟨(rtext ⟨b, ds⟩).toArray⟩) ∧ Below w.heap.size w w' := by
  have HL := Lib.hid hr.1
  have hb0 : Below w.heap.size w (w.alloc (.cells #[.int .i64 b, .slice A n c] 41)) := (Below.refl _ _).alloc (Nat.le_refl _) _
  rcases hv : vreg b ds with _ | _
  · have HF : Hid (rtext ⟨b, ds⟩ = []) := by simp [Hid, rtext, Reg.ok, hv]
    go_enter Tryd.func47, Tryd.ntmps47
    go_wp2_with (go_at_call 74; refine (ValidRegister_any b A n c ds _ (hr.below hb0) (by omega)).mono ?_; rintro e w1 ⟨rfl, hw1⟩; rw [hv])
    go_ret
    exact ⟨ret_str (by rw [HF.out]), hb0.trans (hw1.mono (by simp))⟩
  · have HF : Hid (rtext ⟨b, ds⟩ = rtextL b ds) := by simp [Hid, rtext, Reg.ok, hv]
    obtain ⟨⟨hb1, hb2⟩, ⟨hl1, hl2⟩, hd, -⟩ := vreg_iff.1 hv
    go_enter Tryd.func47, Tryd.ntmps47
    go_wp2_with fail
    refine (ValidRegister_any b A n c ds _ (hr.below hb0) (by omega)).mono ?_; rintro e w1 ⟨rfl, hw1⟩; rw [hv]
    obtain ⟨hc1, -⟩ := bcellB (B := w.heap.size + 1) (hw1.mono (by simp))
    go_wp2_with fail
    refine (Decimal_any b _ (by omega) (by omega) ((ht.below hb0).below hw1)).mono ?_
    rintro e w2 ⟨rfl, hw2⟩
    have hW2 : Below (w.heap.size + 1) (w.alloc (.cells #[.int .i64 b, .slice A n c] 41)) w2 := (hw1.mono (by simp)).trans (hw2.mono (by have := hw1.size; simpa using this))
    obtain ⟨hc2, -⟩ := bcellB hW2
    clear hc1
    have hdl := dec_len b (by omega) (by omega)
    go_wp2_with fail
    go_loopw [3, 4] (fun v i wr => ∃ k : Nat, k ≤ n ∧ i = .int .i64 ((k : Int) - 1) ∧ v = .string (rtS b (ds.drop k)) ∧ Below (w.heap.size + 1) (w.alloc (.cells #[.int .i64 b, .slice A n c] 41)) wr) (fun _ i _ => (intOf i + 1).toNat)
    case atStart => exact ⟨n, Nat.le_refl _, rfl, by rw [List.drop_of_length_le (by have := HL.out; omega), rtS_nil], hW2⟩
    case round =>
      obtain ⟨k, hk, rfl, rfl, hbl⟩ := hrel
      clear hc2
      rcases Nat.eq_zero_or_pos k with hk0 | hk0
      · subst hk0
        go_wp2
        go_ret
        exact ⟨ret_str (by rw [HF.out]; rfl), hb0.trans (hbl.mono (by omega))⟩
      · obtain ⟨ad, hA, hlt, hkl, hc⟩ := hr.at_ (show k - 1 < n by omega)
        rw [← World.cell?_alloc_lt w (.cells #[.int .i64 b, .slice A n c] 41) (ad.add (k - 1)) (by rw [block_of_add]; omega), ← hbl.cell (by rw [block_of_add]; omega)] at hc
        have hb0' : wr.cell? ⟨w.heap.size, 0, none⟩ = some (.int .i64 b) := by rw [hbl.cell (by simp)]; go_simp
        have hb1' : wr.cell? ⟨w.heap.size, 1, none⟩ = some (.slice A n c) := by rw [hbl.cell (by simp)]; go_simp
        obtain ⟨hd0, hd1⟩ := hd ds[k-1] (List.getElem_mem _)
        have hll : (rtS b (ds.drop k)).size ≤ 40 := by rw [rtS_len]; simp; omega
        have HS : Hid (rtS b (ds.drop (k - 1)) = rtS b (ds.drop k) ++ (⟨[dch ds[k-1]].toArray⟩ : ByteArray)) := by
          have := rtS_step b ds (k - 1) hkl; rwa [show k - 1 + 1 = k by omega] at this
        subst hA
        go_wp2
        go_quiet (fail)
        go_wp2
        go_roundw
        case rel => exact ⟨k - 1, by omega, by congr 1; omega, by rw [HS.out, piece _ hd0 (by omega)], hbl.trans (below_drewN (Below.refl _ _) _)⟩
        case measure => simp [intOf]; omega
set_option maxHeartbeats 800000 in
theorem l02Text_any (p : Addr) (r : Reg) (w : World) (hp : RegM w p r) (hv : r.ok = true) (hpb : p.block < w.heap.size) :
    Calls Tryd.prog 163 #[.pointer (some p)] w fun e w' => e = .returned (.string ⟨(rtext r).toArray⟩) ∧ Below w.heap.size w w' := by
  obtain ⟨b, ds⟩ := r
  obtain ⟨A, c, ⟨hc0, hc1⟩, hr⟩ := hp
  simp only at hc0 hc1 hr
  have HF : Hid (rtext ⟨b, ds⟩ = rtextL b ds) := by simp [Hid, rtext, hv]
  obtain ⟨⟨hb1, hb2⟩, ⟨hl1, hl2⟩, hd, -⟩ := vreg_iff.1 hv
  obtain ⟨n, hn⟩ : ∃ n, n = ds.length := ⟨_, rfl⟩
  rw [← hn] at hc1 hr
  have HL := Lib.hid hn
  rw [← hn] at hl1 hl2
  clear hn
  go_enter Tryd.func163, Tryd.ntmps163
  go_wp2_with fail
  refine (l01Dec_any b _ (by omega) (by omega)).mono ?_
  rintro e w2 ⟨rfl, hw2⟩
  have hdl := dec_len b (by omega) (by omega)
  have hc0' : w2.cell? p = some (.int .i64 b) := by rw [hw2.cell hpb]; exact hc0
  have hc1' : w2.cell? ⟨p.block, p.off + 1, none⟩ = some (.slice A n c) := by rw [hw2.cell (by exact hpb)]; exact hc1
  go_wp2_with fail
  go_loopw [4, 5] (fun v i wr => ∃ k : Nat, k ≤ n ∧ i = .int .i64 ((k : Int) - 1) ∧ v = .string (rtS b (ds.drop k)) ∧ Below w.heap.size w wr) (fun _ i _ => (intOf i + 1).toNat)
  case atStart => exact ⟨n, Nat.le_refl _, rfl, by rw [List.drop_of_length_le (by have := HL.out; omega), rtS_nil], hw2⟩
  case round =>
    obtain ⟨k, hk, rfl, rfl, hbl⟩ := hrel
    clear hc0' hc1'
    rcases Nat.eq_zero_or_pos k with hk0 | hk0
    · subst hk0
      go_wp2
      go_ret
      exact ⟨ret_str (by rw [HF.out]; rfl), hbl⟩
    · obtain ⟨ad, hA, hlt, hkl, hc⟩ := hr.at_ (show k - 1 < n by omega)
      rw [← hbl.cell (by rw [block_of_add]; omega)] at hc
      have hc0' : wr.cell? p = some (.int .i64 b) := by rw [hbl.cell hpb]; exact hc0
      have hc1' : wr.cell? ⟨p.block, p.off + 1, none⟩ = some (.slice A n c) := by rw [hbl.cell (by exact hpb)]; exact hc1
      obtain ⟨hd0, hd1⟩ := hd ds[k-1] (List.getElem_mem _)
      have hll : (rtS b (ds.drop k)).size ≤ 40 := by rw [rtS_len]; have := HL.out; simp; omega
      have HS : Hid (rtS b (ds.drop (k - 1)) = rtS b (ds.drop k) ++ (⟨[dch ds[k-1]].toArray⟩ : ByteArray)) := by
        have := rtS_step b ds (k - 1) hkl; rwa [show k - 1 + 1 = k by omega] at this
      subst hA
      go_wp2
      go_quiet (fail)
      go_wp2
      go_roundw
      case rel => exact ⟨k - 1, by omega, by congr 1; omega, by rw [HS.out, piece _ hd0 (by omega)], hbl.trans (below_drewN (Below.refl _ _) _)⟩
      case measure => simp [intOf]; omega
end Go.Proofs.YtgpmngcemnnpmaaDoor

namespace Go.Proofs.YtgpmngcemnnpmaaDoor
open Go.RowKit Go.Sort
theorem TriM.of_block {w : World} {g : Nat} {T : TypeId} {t : Tri} {A1 A2 A3 : Option Addr} {c1 c2 c3 : Nat}
    (hg : w.heap[g]? = some (.cells #[.int .i64 t.a.base, .slice A1 t.a.digits.length c1, .int .i64 t.b.base, .slice A2 t.b.digits.length c2, .int .i64 t.s.base, .slice A3 t.s.digits.length c3, .int .i64 t.carry] T (0, 0)))
    (r1 : RI w A1 t.a.digits.length t.a.digits) (r2 : RI w A2 t.b.digits.length t.b.digits) (r3 : RI w A3 t.s.digits.length t.s.digits) : TriM w ⟨g, 0, none⟩ t := by
  have hc : ∀ i v, #[Value.int .i64 t.a.base, .slice A1 t.a.digits.length c1, .int .i64 t.b.base, .slice A2 t.b.digits.length c2, .int .i64 t.s.base, .slice A3 t.s.digits.length c3, .int .i64 t.carry][i]? = some v → w.cell? ⟨g, i, none⟩ = some v := fun i v hv => by rw [cell_of_row w g i _ T (0, 0) hg]; exact hv
  exact ⟨⟨A1, c1, ⟨hc 0 _ rfl, hc 1 _ rfl⟩, r1⟩, ⟨A2, c2, ⟨hc 2 _ rfl, hc 3 _ rfl⟩, r2⟩, ⟨A3, c3, ⟨hc 4 _ rfl, hc 5 _ rfl⟩, r3⟩, hc 6 _ rfl⟩
theorem RL.one {w : World} {g : Nat} {t : Tri} (h : TriM w ⟨g, 0, none⟩ t) (hl : g < w.heap.size) : RL TriM 7 w (some ⟨g, 0, none⟩) 1 [t] :=
  ⟨rfl, fun _ => ⟨_, rfl, hl, fun k hk => by
    have : k = 0 := by simp at hk; omega
    subst this
    rw [Nat.zero_mul, addr_add_zero]; exact h⟩⟩
theorem RegisterText_reg (r : Reg) (A : Option Addr) (c : Nat) (w : World) (hr : RI w A r.digits.length r.digits) (hm : SmallReg r) (ht : TB w) :
    Calls Tryd.prog 47 #[.agg #[.int .i64 r.base, .slice A r.digits.length c]] w fun e w' => e = .returned (.string ⟨(rtext r).toArray⟩) ∧ Below w.heap.size w w' := RegisterText_any r.base A _ c r.digits w hr hm ht
def ttextL (t : Tri) : ByteArray := ((((((⟨(rtext t.a).toArray⟩ : ByteArray) ++ (⟨#[32, 43, 32]⟩ : ByteArray)) ++ (⟨(rtext t.b).toArray⟩ : ByteArray)) ++ (⟨#[32, 61, 32]⟩ : ByteArray)) ++ (⟨(rtext t.s).toArray⟩ : ByteArray)) ++ (⟨#[32]⟩ : ByteArray)) ++ (⟨(dec t.carry).toArray⟩ : ByteArray)
def ttext (t : Tri) : ByteArray := if vtrials [t] then ttextL t else ⟨#[]⟩
theorem rtext_len (r : Reg) : (rtext r).length ≤ 60 := by
  unfold rtext
  split
  · rename_i h
    obtain ⟨⟨hb1, hb2⟩, ⟨hl1, hl2⟩, -, -⟩ := vreg_iff.1 h
    have := dec_len r.base (by omega) (by omega)
    simp only [rtextL, List.length_append, List.length_map, List.length_reverse, List.length_cons, List.length_nil]; omega
  · simp
theorem vtrials_one {t : Tri} (h : vtrials [t] = true) : t.a.ok = true ∧ t.b.ok = true ∧ t.s.ok = true ∧ 0 ≤ t.carry ∧ t.carry ≤ 1 := by
  simp only [vtrials, List.all_cons, List.all_nil, Bool.and_true, Bool.and_eq_true, List.headD_cons, triGood, vlike] at h
  obtain ⟨⟨⟨⟨h1, h2⟩, h3⟩, h4⟩, -⟩ := h
  obtain ⟨h5, h6⟩ := betB_iff.1 h4
  exact ⟨h1.1.1, h2.1.1, h3.1.1, h5, h6⟩
set_option maxRecDepth 100000 in
set_option maxHeartbeats 1600000 in
theorem TrialText_any (t : Tri) (A1 A2 A3 : Option Addr) (c1 c2 c3 : Nat) (w : World) (r1 : RI w A1 t.a.digits.length t.a.digits) (r2 : RI w A2 t.b.digits.length t.b.digits) (r3 : RI w A3 t.s.digits.length t.s.digits) (hs : SmallTri t) (ht : TB w) :
    Calls Tryd.prog 14 #[.agg #[.int .i64 t.a.base, .slice A1 t.a.digits.length c1, .int .i64 t.b.base, .slice A2 t.b.digits.length c2, .int .i64 t.s.base, .slice A3 t.s.digits.length c3, .int .i64 t.carry]] w
      fun e w' => e = .returned (.string (ttext t)) ∧ Below w.heap.size w w' := by
  have hb0 : Below w.heap.size w ((w.alloc (.cells #[.int .i64 t.a.base, .slice A1 t.a.digits.length c1, .int .i64 t.b.base, .slice A2 t.b.digits.length c2, .int .i64 t.s.base, .slice A3 t.s.digits.length c3, .int .i64 t.carry] 43)).alloc (.cells #[.int .i64 t.a.base, .slice A1 t.a.digits.length c1, .int .i64 t.b.base, .slice A2 t.b.digits.length c2, .int .i64 t.s.base, .slice A3 t.s.digits.length c3, .int .i64 t.carry] 43)) := ((Below.refl _ _).alloc (Nat.le_refl _) _).alloc (by simp) _
  have hT := RL.one (g := w.heap.size + 1) (TriM.of_block (g := w.heap.size + 1) (t := t) (by rw [show w.heap.size + 1 = (w.alloc (.cells #[.int .i64 t.a.base, .slice A1 t.a.digits.length c1, .int .i64 t.b.base, .slice A2 t.b.digits.length c2, .int .i64 t.s.base, .slice A3 t.s.digits.length c3, .int .i64 t.carry] 43)).heap.size by simp]; exact heap_alloc_new _ _) (r1.below hb0) (r2.below hb0) (r3.below hb0)) (by simp)
  rcases hv : vtrials [t] with _ | _
  · have HF : Hid (ttext t = ⟨#[]⟩) := by simp [Hid, ttext, hv]
    go_enter Tryd.func14, Tryd.ntmps14
    go_wp2_with fail
    refine (ValidTrials_any _ _ _ [t] _ hT (by simpa using hs) (by omega)).mono ?_; rintro e w1 ⟨rfl, hw1⟩
    rw [hv]
    go_wp2_with fail
    go_ret
    exact ⟨ret_str HF.out.symm, hb0.trans (hw1.mono (by simp <;> omega))⟩
  · have HF : Hid (ttext t = ttextL t) := by simp [Hid, ttext, hv]
    obtain ⟨o1, o2, o3, y0, y1⟩ := vtrials_one hv
    have l1 := rtext_len t.a
    have l2 := rtext_len t.b
    have l3 := rtext_len t.s
    have l4 := dec_len t.carry (by omega) (by omega)
    go_enter Tryd.func14, Tryd.ntmps14
    go_wp2_with fail
    refine (ValidTrials_any _ _ _ [t] _ hT (by simpa using hs) (by omega)).mono ?_; rintro e w1 ⟨rfl, hw1⟩
    rw [hv]
    have hbw := hb0.trans (hw1.mono (by simp <;> omega))
    obtain ⟨hc, -⟩ := bcellB (B := w.heap.size + 1) (hw1.mono (by simp <;> omega))
    have x0 := cell_regrown (show w1.cell? ⟨w.heap.size, 0, none⟩ = some (.int .i64 t.a.base) by go_simp)
    have x1 := cell_regrown (show w1.cell? ⟨w.heap.size, 1, none⟩ = some (.slice A1 t.a.digits.length c1) by go_simp)
    have x2 := cell_regrown (show w1.cell? ⟨w.heap.size, 2, none⟩ = some (.int .i64 t.b.base) by go_simp)
    have x3 := cell_regrown (show w1.cell? ⟨w.heap.size, 3, none⟩ = some (.slice A2 t.b.digits.length c2) by go_simp)
    have x4 := cell_regrown (show w1.cell? ⟨w.heap.size, 4, none⟩ = some (.int .i64 t.s.base) by go_simp)
    have x5 := cell_regrown (show w1.cell? ⟨w.heap.size, 5, none⟩ = some (.slice A3 t.s.digits.length c3) by go_simp)
    have x6 := cell_regrown (show w1.cell? ⟨w.heap.size, 6, none⟩ = some (.int .i64 t.carry) by go_simp)
    have K1 := Lib.hid (fun (W : World) (hW : Below w1.heap.size w1 W) => RegisterText_reg t.a A1 c1 W ((r1.below hbw).below hW) hs.1 ((ht.below hbw).below hW))
    have K2 := Lib.hid (fun (W : World) (hW : Below w1.heap.size w1 W) => RegisterText_reg t.b A2 c2 W ((r2.below hbw).below hW) hs.2.1 ((ht.below hbw).below hW))
    have K3 := Lib.hid (fun (W : World) (hW : Below w1.heap.size w1 W) => RegisterText_reg t.s A3 c3 W ((r3.below hbw).below hW) hs.2.2 ((ht.below hbw).below hW))
    have K4 := Lib.hid (fun (W : World) (hW : Below w1.heap.size w1 W) => Decimal_any t.carry W (by omega) (by omega) ((ht.below hbw).below hW))
    clear hc hT
    go_wp2_with fail
    refine wp_region_quiet_below (by kernel_rfl) (by kernel_rfl) ?_
    repeat (go_big_quiet_step ((first | (go_at_call 47; first | (with_reducible exact quietB K1.out) | (with_reducible exact quietB K2.out) | (with_reducible exact quietB K3.out)) | (go_at_call 48; exact quietB K4.out))))
    refine wpQuiet_nil ?_
    intro _ hw'
    obtain ⟨⟨dq, osq⟩, hw''⟩ := hw'
    subst hw''
    go_wp2
    go_ret
    exact ⟨ret_str (by rw [HF.out]; rfl), hbw.trans ((below_regrown w1 dq osq).mono hbw.size)⟩
end Go.Proofs.YtgpmngcemnnpmaaDoor

namespace Go.Proofs.YtgpmngcemnnpmaaDoor
open Go.RowKit Go.Sort
theorem stdTs_wid (b : Int) (n : Nat) (fs : List Flt) {u : Nat} (hb : 2 ≤ b) (hu : 0 < u) : wid (stdTs b n fs u) = n :=
  wid_of (fun t ht => (stdTs_ok b n fs u hb t ht).2.1.1) (by rw [stdTs_len]; exact hu)
theorem stdTs_tok (b : Int) (n : Nat) (fs : List Flt) {u : Nat} (hb : 2 ≤ b) (hb2 : b ≤ 16) (hn : n ≤ 16) : ∀ t ∈ stdTs b n fs u, TOK t := fun t ht => by
  obtain ⟨a1, a2, b1, b2, s1, s2, c1, c2⟩ := stdTs_ok b n fs u hb t ht
  exact ⟨by rw [a2.1, b2.1], by rw [a2.1]; exact hn, by rw [a1]; exact hb, by rw [a1]; exact hb2, by rw [a1]; exact a2.2, by rw [a1]; exact b2.2, stdTs_small b n fs u (by omega) t ht⟩
theorem stdTs_v (b : Int) (n : Nat) (fs : List Flt) (hb : 2 ≤ b) (hb2 : b ≤ 10) (h1 : 1 ≤ n) (hn : n ≤ 6) : vtrials (stdTs b n fs (2 * n)) = true :=
  vtrials6 (stdTs_ok b n fs _ hb) hb hb2 h1 hn (by rw [stdTs_len]; omega) (by rw [stdTs_len]; omega)
/-- trials that the call owns are read as those of the machine -/
theorem Kn.rlTs {w0 w : World} {m : List Ent} {A : Option Addr} {q c : Nat} {L : List TE} {ts : List Tri} (h : Kn w0 (.row (.slice A q c) 43 7 q (cellsT L) :: bun (rowsT L) :: m) w) (hl : L.length = q) (he : L.map TE.t = ts) : RL TriM 7 w A q ts := by
  subst hl he
  obtain ⟨A', c', e, h2⟩ := h.rlT
  injection e with e1 e2 e3
  subst e1
  exact h2
theorem specValidTrials_true (A : Option Addr) (n c : Nat) (ts : List Tri) (w : World) (hr : RL TriM 7 w A n ts) (hs : ∀ t ∈ ts, SmallTri t) (hv : vtrials ts = true) (hm : n ≤ 9223372036854775807) :
    Calls Tryd.prog 10 #[.slice A n c] w fun e w' => e = .returned (.bool true) ∧ Below w.heap.size w w' := by
  have KV := Lib.hid (l20Ok_any A n c ts w hr hs hm)
  have HV := Lib.hid hv
  clear hr hs hv
  go_enter Tryd.func10, Tryd.ntmps10
  go_wp2_with (go_at_call 42; refine KV.out.mono ?_; rintro e w1 ⟨rfl, q, rfl⟩)
  go_ret
  exact ⟨ret_bool HV.out, below_drewN (Below.refl _ _) _⟩
theorem TrialText_some (t : Tri) (A1 A2 A3 : Option Addr) (c1 c2 c3 : Nat) (w : World) (r1 : RI w A1 t.a.digits.length t.a.digits) (r2 : RI w A2 t.b.digits.length t.b.digits) (r3 : RI w A3 t.s.digits.length t.s.digits) (hs : SmallTri t) (ht : TB w) (hv : vtrials [t] = true) :
    Calls Tryd.prog 14 #[.agg #[.int .i64 t.a.base, .slice A1 t.a.digits.length c1, .int .i64 t.b.base, .slice A2 t.b.digits.length c2, .int .i64 t.s.base, .slice A3 t.s.digits.length c3, .int .i64 t.carry]] w fun e w' => ∃ T : ByteArray, e = .returned (.string T) ∧ 0 < T.size ∧ Below w.heap.size w w' := by
  refine (TrialText_any t A1 A2 A3 c1 c2 c3 w r1 r2 r3 hs ht).mono fun e w' h => ?_
  obtain ⟨h1, h2⟩ := h
  refine ⟨_, h1, ?_, h2⟩
  unfold ttext
  rw [if_pos hv]
  unfold ttextL
  simp only [ByteArray.size_append]
  have : (⟨#[32, 43, 32]⟩ : ByteArray).size = 3 := rfl
  omega
theorem fd_right (b : Int) (n : Nat) (fs : List Flt) {u : Nat} {r : Int × Int} (h : FD (fun i => sameT ((stdTs b n fs u).getD i default) ((stdTs b n [] u).getD i default)) u r) : FD (fun i => expl ((stdTs b n fs u).getD i default) []) u r :=
  h.congr fun i hi => by
    show sameT _ _ = expl _ _
    rw [stdTs_at b n fs hi, stdTs_at b n [] hi]
    obtain ⟨fa, fb, -, -, h⟩ := stdT_mk b n i
    rw [h, h]; exact sameT_mk ..
theorem fd_single (b : Int) (n l : Nat) (kd : Int) (hb : 2 ≤ b) (hl : l < n) (h1 : 1 ≤ kd) (h3 : kd ≤ 3) {r : Int × Int} (h : FD (fun i => sameT ((stdTs b n [⟨kd, l⟩] (2 * n)).getD i default) ((stdTs b n [] (2 * n)).getD i default)) (2 * n) r) :
    ((kd ≠ 3 ∨ 0 < l) ∧ r.2 = 0) ∨ (kd = 3 ∧ l = 0 ∧ r.2 = 3) := by
  by_cases hs : kd ≠ 3 ∨ 0 < l
  · obtain ⟨i, hi, he⟩ := single_seen b n l kd hb hl h1 h3 hs
    exact .inl ⟨hs, h.some hi (by show sameT _ _ = false; rw [stdTs_at b n _ hi, stdTs_at b n _ hi]; exact he)⟩
  · obtain ⟨rfl, rfl⟩ : kd = 3 ∧ l = 0 := by omega
    exact .inr ⟨rfl, rfl, h.all fun i hi => by show sameT _ _ = true; rw [stdTs_at b n _ hi, stdTs_at b n _ hi]; exact late_same b n i⟩
/-- StandardTrials, as the law asks it -/
theorem StdLaw (b : Int) (n q : Nat) (FA : Option Addr) (fm fc : Nat) (fs : List Flt) (w : World) (hb : 2 ≤ b) (hb2 : b ≤ 10) (h1 : 1 ≤ n) (hn : n ≤ 6) (hq : 2 * n = q)
    (hf : RL FltM 2 w FA fm fs) (hg : GoodF n fs) (has : Asc fs) (hm : fm ≤ 1000) :
    Calls Tryd.prog 9 #[.int .i64 b, .int .i64 (n : Int), .slice FA fm fc] w
      fun e w' => ∃ A c L, e = .returned (.tuple #[.slice A q c, .int .i64 0]) ∧ L.length = q ∧ L.map TE.t = stdTs b n fs q ∧ Kn w [.row (.slice A q c) 43 7 q (cellsT L), bun (rowsT L)] w' := by
  subst hq
  refine (StandardTrials_ok b n FA fm fc fs w hb (by omega) h1 (by omega) hf hg has hm (stdTs_v b n fs hb hb2 h1 hn)).mono fun e w' h => ?_
  obtain ⟨vt, L, rfl, hL, hK⟩ := h
  have hl : L.length = 2 * n := by rw [← List.length_map (f := TE.t), hL, stdTs_len]
  obtain ⟨A, c, rfl⟩ := row_form hK.at0
  rw [hl] at hK ⊢
  exact ⟨A, c, L, rfl, hl, hL, hK⟩
theorem rlF_one {w : World} {g : Nat} {T : TypeId} {kd lv : Int} (hg : w.heap[g]? = some (.cells #[.int .i64 kd, .int .i64 lv] T (0, 0))) : RL FltM 2 w (some ⟨g, 0, none⟩) 1 [⟨kd, lv⟩] :=
  ⟨rfl, fun _ => ⟨_, rfl, (Array.getElem?_eq_some_iff.1 hg).1, fun k hk => by
    have : k = 0 := by simp at hk; omega
    subst this
    rw [Nat.zero_mul, addr_add_zero]
    exact ⟨by rw [cell_of_row _ _ _ _ _ _ hg]; rfl, by rw [cell_of_row _ _ _ _ _ _ hg]; rfl⟩⟩⟩
theorem good_one {n l : Nat} {kd : Int} (h1 : 1 ≤ kd) (h3 : kd ≤ 3) (hl : l < n) : GoodF n [⟨kd, l⟩] := fun f hf => by
  rw [List.mem_singleton.1 hf]
  exact ⟨h1, h3, by show (0 : Int) ≤ (l : Int); omega, by show (l : Int) < (n : Int); omega⟩
theorem asc_one (f : Flt) : Asc [f] := fun k h => by simp at h
theorem rlF_nilW (w : World) (A : Option Addr) : RL FltM 2 w A 0 [] := ⟨rfl, fun h => by omega⟩
theorem asc_nilW : Asc [] := fun k h => by simp at h
theorem good_nilW (n : Nat) : GoodF n [] := fun f h => by cases h
end Go.Proofs.YtgpmngcemnnpmaaDoor

namespace Go.Proofs.YtgpmngcemnnpmaaDoor
open Go.RowKit Go.Sort
theorem Kn.rlOne {w0 w : World} {m : List Ent} {g : Nat} {T : TypeId} {kd lv : Int} (h : Kn w0 (.blk g [.int .i64 kd, .int .i64 lv] T :: m) w) : RL FltM 2 w (some ⟨g, 0, none⟩) 1 [⟨kd, lv⟩] := by
  obtain ⟨s1, s2, s3⟩ := h.blkAt
  refine ⟨rfl, fun _ => ⟨_, rfl, s3, fun k hk => ?_⟩⟩
  have : k = 0 := by simp at hk; omega
  subst this
  rw [Nat.zero_mul, addr_add_zero]
  exact ⟨(s1 0).trans rfl, (s1 1).trans rfl⟩
set_option maxRecDepth 100000 in
set_option maxHeartbeats 12800000 in
theorem law_StandardTrials (A : Option Addr) (n1 c : Nat) (bs : List UInt8) (B : Option Addr) (n2 d : Nat) (cs : List UInt8) (w : World) (hb : RB w A n1 bs) (hn : n1 ≤ 9223372036854775807) (hb2 : RB w B n2 cs) (hn2 : n2 ≤ 9223372036854775807) (ht : TB w) :
    Calls Tryd.prog 3 #[.slice A n1 c, .slice B n2 d] w fun e w' => e = .returned (.bool true) ∧ Below w.heap.size w w' := by
  have KF := Lib.hid (fun (m : Nat) (hm : m ≤ 1000) W (hW : Below w.heap.size w W) => A2Faults_any A n1 c m bs W (hb.below hW) hn hm)
  have KA := Lib.hid (fun (i : Nat) (x : Int) (hi : i ≤ 1000) (hx : 1 ≤ x ∧ x ≤ 1000) W (hW : Below w.heap.size w W) => a2AtI_any B n2 d cs i x W (hb2.below hW) hn2 hi hx)
  have HTB := Lib.hid (fun W (hW : Below w.heap.size w W) => TB.below ht hW)
  clear hb hb2 ht
  have KG := (fun W => a2Long2_any A B n1 c n2 d W hn hn2)
  obtain ⟨bg, hbg⟩ : ∃ b, (decide (3000 < n1) || decide (3000 < n2)) = b := ⟨_, rfl⟩
  rw [hbg] at KG
  replace KG := Lib.hid KG
  clear hbg
  rcases bg with _ | _
  rotate_left
  · go_enter Tryd.func3, Tryd.ntmps3
    go_wp2_with (go_at_call 6; refine (KG.out _).mono ?_; rintro e w' ⟨rfl, rfl⟩)
    go_ret
    exact ⟨rfl, Below.refl _ _⟩
  go_enter Tryd.func3, Tryd.ntmps3
  go_upto_region 3 with (go_at_call 6; refine (KG.out _).mono ?_; rintro e w' ⟨rfl, rfl⟩)
  go_upto_region 4 with (go_at_call 7; refine (KA.out 0 9 (by omega) (by omega) _ (Below.refl _ _)).mono ?_; rintro e w' ⟨⟨x0, rfl, p0, p1⟩, rfl⟩; obtain ⟨b, hbb⟩ : ∃ b, 2 + x0 = b := ⟨_, rfl⟩; have hw0 : IntKind.i64.wrap (2 + x0) = b := by rw [hbb]; exact wrapI64 (by omega))
  have b1 : 2 ≤ b := by omega
  have b2 : b ≤ 10 := by omega
  clear hbb p0 p1 hw0
  go_upto_region 5 with (go_at_call 7; refine (KA.out 1 6 (by omega) (by omega) _ (Below.refl _ _)).mono ?_; rintro e w' ⟨⟨x1, rfl, p0, p1⟩, rfl⟩; obtain ⟨n, hnn⟩ : ∃ n : Nat, 1 + x1 = (n : Int) := ⟨(1 + x1).toNat, by omega⟩; have hw0 : IntKind.i64.wrap (1 + x1) = (n : Int) := by rw [hnn]; exact wrapI64 (by omega))
  have m1 : 1 ≤ n := by omega
  have m2 : n ≤ 6 := by omega
  clear hnn p0 p1 hw0
  go_upto_region 6 with (go_at_call 8; refine (KF.out n (by omega) _ (Below.refl _ _)).mono ?_; rintro e w1 ⟨X, xc, fs, rfl, hfl, hgf, has, K1⟩)
  have HGF := Lib.hid hgf
  have HAS := Lib.hid has
  clear hgf has KF
  obtain ⟨q, hq⟩ : ∃ q, 2 * n = q := ⟨_, rfl⟩
  have HQ := Lib.hid hq
  have hw2 : IntKind.i64.wrap (2 * (n : Int)) = (q : Int) := by rw [show (2 : Int) * (n : Int) = (q : Int) by omega]; exact wrapI64 (by omega)
  have hq0 : 0 < q := by omega
  have hq12 : q ≤ 12 := by omega
  have hqz : ((q : Int) == 0) = false := by rw [beq_eq_false_iff_ne]; omega
  clear hq
  go_upto_region 7 with (go_at_call 9; refine (StdLaw b n q X fs.length xc fs _ b1 b2 m1 m2 HQ.out (Kn.rlFl (K1.front 0 rfl)).2 HGF.out HAS.out (by omega)).mono ?_; rintro e w2 ⟨A1, c1, L1, rfl, hl1, he1, hK⟩)
  have K2 : Kn w [.row (.slice A1 q c1) 43 7 q (cellsT L1), bun (rowsT L1), rowFl (.slice X fs.length xc) fs] w2 := K1.join hK
  clear hK K1
  have HL1 := Lib.hid hl1
  have HE1 := Lib.hid he1
  have HV1 := Lib.hid (show vtrials (stdTs b n fs q) = true by rw [← HQ.out]; exact stdTs_v b n fs b1 b2 m1 m2)
  have HW1 := Lib.hid (stdTs_wid b n fs b1 hq0)
  clear hl1 he1
  go_upto_region 9 with (first
    | (go_at_call 10; refine (specValidTrials_true A1 q c1 _ _ (K2.rlTs HL1.out HE1.out) (stdTs_small b n fs q (by omega)) HV1.out (by omega)).mono ?_; rintro e w3 ⟨rfl, hw⟩; have K3 := K2.keep hw; clear hw K2)
    | (go_at_call 11; refine (specExplains_true A1 q c1 _ X fs.length xc fs _ (K3.rlTs HL1.out HE1.out) (stdTs_small b n fs q (by omega)) HV1.out (fun t ht => ⟨stdTs_tok b n fs b1 (by omega) (by omega) t ht, by rw [HW1.out]; exact (stdTs_ok b n fs q b1 t ht).2.1.1⟩) (by rw [HW1.out]; exact m1) (by rw [HW1.out]; exact m2) (Kn.rlFl (K3.front 2 rfl)).2 (by rw [HW1.out]; exact HGF.out) HAS.out (stdTs_vexpl b n fs q) hq0 (by omega) (by omega)).mono ?_; rintro e w4 ⟨rfl, hw⟩; have K4 := K3.keep hw; clear hw K3))
  go_upto_region 10 with (go_at_call 9; refine Calls.kn (K4.al_ _) ?_; clear K4; intro w5 K5; refine (StdLaw b n q _ _ _ [] _ b1 b2 m1 m2 HQ.out (rlF_nilW _ _) (good_nilW _) asc_nilW (by decide)).mono ?_; rintro e w6 ⟨A2, c2, L2, rfl, hl2, he2, hK⟩)
  have K6 : Kn w [.row (.slice A2 q c2) 43 7 q (cellsT L2), bun (rowsT L2), .row (.slice A1 q c1) 43 7 q (cellsT L1), bun (rowsT L1), rowFl (.slice X fs.length xc) fs] w6 := K5.join hK
  clear hK K5
  have HL2 := Lib.hid hl2
  have HE2 := Lib.hid he2
  have HV2 := Lib.hid (show vtrials (stdTs b n [] q) = true by rw [← HQ.out]; exact stdTs_v b n [] b1 b2 m1 m2)
  clear hl2 he2
  go_upto_region 12 with (go_at_call 10; refine (specValidTrials_true A2 q c2 _ _ (K6.rlTs HL2.out HE2.out) (stdTs_small b n [] q (by omega)) HV2.out (by omega)).mono ?_; rintro e w7 ⟨rfl, hw⟩; have K7 := K6.keep hw; clear hw K6)
  go_upto_region 13 with (go_at_call 12; refine (FirstDifference_ok A1 A2 q c1 c2 _ _ _ (Kn.rlTs (K7.sel [2, 3] 99 (by decide) (by decide)) HL1.out HE1.out) (K7.rlTs HL2.out HE2.out) (stdTs_small b n fs q (by omega)) (stdTs_small b n [] q (by omega)) HV1.out HV2.out (by omega)).mono ?_; rintro e w8 ⟨⟨r, rfl, hfd⟩, hw⟩; have K8 := K7.keep hw; clear hw K7)
  obtain ⟨at0, c3⟩ := r
  have hfd2 := fd_right b n fs hfd
  clear hfd
  go_upto_region 14 with (go_at_call 13; refine (WrongTrials_fst A1 q c1 _ _ (Kn.rlTs (K8.sel [2, 3] 99 (by decide) (by decide)) HL1.out HE1.out) (stdTs_small b n fs q (by omega)) HV1.out (stdTs_tok b n fs b1 (by omega) (by omega)) (by omega)).mono ?_; rintro e w9 ⟨D, dc, ds, rfl, hO, hfst, hw⟩; have K9 := K8.addI hw hO; clear hw K8 hO)
  have hfs := hfd2.fst hfst
  clear hfd2 hfst
  have HFS := Lib.hid hfs
  clear hfs
  have K10 : Kn w [.row (.slice A2 q c2) 43 7 q (cellsT L2), bun (rowsT L2), .row (.slice A1 q c1) 43 7 q (cellsT L1), bun (rowsT L1), rowFl (.slice X fs.length xc) fs] w9 := K9.sel [1, 2, 3, 4, 5] 99 (by decide) (by decide)
  rcases HFS.out with ⟨h3, hds⟩ | ⟨h3, t, hds⟩
  · obtain rfl : c3 = 3 := h3
    subst hds
    clear HFS K9
    have KA2 := Lib.hid (show Calls Tryd.prog 7 #[.slice B n2 d, .int .i64 2, .int .i64 3] w9 (fun e w' => (∃ x : Int, e = .returned (.int .i64 x) ∧ 0 ≤ x ∧ x < 3) ∧ w9 = w') from KA.out 2 3 (by omega) (by omega) _ K10.below)
    have KA3 := Lib.hid (show Calls Tryd.prog 7 #[.slice B n2 d, .int .i64 3, .int .i64 (n : Int)] w9 (fun e w' => (∃ x : Int, e = .returned (.int .i64 x) ∧ 0 ≤ x ∧ x < n) ∧ w9 = w') from KA.out 3 (n : Int) (by omega) (by omega) _ K10.below)
    go_upto_region 19 with (go_at_call 7; first
      | (with_reducible refine KA2.out.mono ?_; rintro e w' ⟨⟨x2, rfl, p0, p1⟩, rfl⟩; obtain ⟨kd, hkd⟩ : ∃ kd, 1 + x2 = kd := ⟨_, rfl⟩; have hw0 : IntKind.i64.wrap (1 + x2) = kd := by rw [hkd]; exact wrapI64 (by omega))
      | (with_reducible refine KA3.out.mono ?_; rintro e w' ⟨⟨x3, rfl, p2, p3⟩, rfl⟩; obtain ⟨l, rfl⟩ : ∃ l : Nat, x3 = (l : Int) := ⟨x3.toNat, by omega⟩))
    have k1 : 1 ≤ kd := by omega
    have k3 : kd ≤ 3 := by omega
    have l1 : l < n := by omega
    clear hkd p0 p1 p2 p3 hw0 KA2 KA3
    have K11 := K10.al [.int .i64 kd, .int .i64 (l : Int)] 38
    obtain ⟨gf, hgf⟩ : ∃ g, w9.heap.size = g := ⟨_, rfl⟩
    refine Code.wp.kn K11 ?_; clear K11 K10; intro w11 K11
    rw [hgf] at K11
    try rw [hgf]
    clear hgf
    obtain ⟨f1, f2, f3, -⟩ := K11.cells
    go_upto_region 20 with (go_at_call 9; refine Calls.kn (K11.al [.int .i64 kd, .int .i64 (l : Int)] 38) ?_; clear K11 f1 f2 f3; intro w12 K12; refine (StdLaw b n q _ _ _ [⟨kd, l⟩] _ b1 b2 m1 m2 HQ.out K12.rlOne (good_one k1 k3 l1) (asc_one _) (by decide)).mono ?_; rintro e w13 ⟨A3, c3, L3, rfl, hl3, he3, hK⟩)
    have K13 := K12.join hK
    clear hK K12
    have HL3 := Lib.hid hl3
    have HE3 := Lib.hid he3
    have HV3 := Lib.hid (show vtrials (stdTs b n [⟨kd, l⟩] q) = true by rw [← HQ.out]; exact stdTs_v b n _ b1 b2 m1 m2)
    clear hl3 he3
    go_upto_region 22 with (first
      | (go_at_call 10; refine (specValidTrials_true A3 q c3 _ _ (K13.rlTs HL3.out HE3.out) (stdTs_small b n _ q (by omega)) HV3.out (by omega)).mono ?_; rintro e w14 ⟨rfl, hw⟩; have K14 := K13.keep hw; clear hw K13; obtain ⟨ad3, hA3, hlt3, hk3, ht3⟩ := (K14.rlTs HL3.out HE3.out).at_ hq0; rw [Nat.zero_mul, addr_add_zero] at ht3; obtain ⟨E1, d1, E2, d2, E3, d3, ⟨g1, g2, g3, g4, g5, g6, g7⟩, r1, r2, r3⟩ := ht3.cells; have HT3 := Lib.hid (And.intro (stdTs_small b n [⟨kd, l⟩] q (by omega) _ (List.getElem_mem hk3)) (stdTs_ok b n [⟨kd, l⟩] q b1 _ (List.getElem_mem hk3))); obtain ⟨t3, het⟩ : ∃ t, (stdTs b n [⟨kd, l⟩] q)[0] = t := ⟨_, rfl⟩; rw [het] at g1 g2 g3 g4 g5 g6 g7 r1 r2 r3 HT3; subst hA3; clear ht3 het hk3 hlt3)
      | (go_at_call 14; refine (TrialText_some t3 E1 E2 E3 d1 d2 d3 _ r1 r2 r3 HT3.out.1 (HTB.out _ K14.below) (vtrials6 (by intro t ht; rw [List.mem_singleton.1 ht]; exact HT3.out.2) b1 b2 m1 m2 (by simp) (by simp))).mono ?_; rintro e w15 ⟨T, rfl, hT, hw⟩; have K15 := K14.keep hw; have hne : T.toList.isEmpty = false := str_nonempty hT; clear hw K14 g1 g2 g3 g4 g5 g6 g7 r1 r2 r3 HT3))
    clear hne hT
    go_upto_region 23 with (go_at_call 12; refine (FirstDifference_ok (some ad3) A2 q c3 c2 _ _ _ (K15.rlTs HL3.out HE3.out) (Kn.rlTs (K15.sel [4, 5] 99 (by decide) (by decide)) HL2.out HE2.out) (stdTs_small b n _ q (by omega)) (stdTs_small b n [] q (by omega)) HV3.out HV2.out (by omega)).mono ?_; rintro e w16 ⟨⟨⟨x6, c6⟩, rfl, hfd⟩, hw⟩; have K16 := K15.keep hw; clear hw K15)
    obtain ⟨f1, f2, f3, -⟩ := (K16.front 3 rfl).cells
    have hfd6 := fd_single b n l kd b1 l1 k1 k3 (by rw [HQ.out]; exact hfd)
    have HB16 := Lib.hid K16.below
    clear hfd K16
    rcases hfd6 with ⟨hs, h6⟩ | ⟨hs1, hs2, h6⟩
    · obtain rfl : c6 = 0 := h6
      by_cases hk : kd = 3
      · have hl0 : (0 : Int) < (l : Int) := by omega
        have hl2 : decide (0 < l) = true := decide_eq_true (by omega)
        subst hk
        clear hs
        go_wp2_with fail
        go_ret
        exact ⟨rfl, HB16.out⟩
      · have hk2 : (kd != 3) = true := bne_iff_ne.2 hk
        clear hs
        go_wp2_with fail
        go_ret
        exact ⟨rfl, HB16.out⟩
    · obtain rfl : c6 = 3 := h6
      subst hs1 hs2
      go_wp2_with fail
      go_ret
      exact ⟨rfl, HB16.out⟩
  · obtain rfl : c3 = 0 := h3
    subst hds
    clear HFS
    obtain ⟨ad, hA, hltA, hkA, hcA⟩ := K9.riv.at_ (show 0 < (at0 :: t).length by simp)
    have i0 : (((at0 :: t).length : Nat) : Int) = (t.length : Int) + 1 := by simp
    have i1 : ((t.length : Int) + 1 == 0) = false := by rw [beq_eq_false_iff_ne]; omega
    have i2 : (0 : Int) < (t.length : Int) + 1 := by omega
    have hcA2 : w9.cell? ad = some (.int .i64 at0) := by rw [addr_add_zero] at hcA; exact hcA
    have i3 : (at0 != at0) = false := bne_self_eq_false _
    subst hA
    clear K9 hcA
    go_upto_region 18 with fail
    clear hcA2 hltA hkA i0 i1 i2 i3
    have KA2 := Lib.hid (show Calls Tryd.prog 7 #[.slice B n2 d, .int .i64 2, .int .i64 3] w9 (fun e w' => (∃ x : Int, e = .returned (.int .i64 x) ∧ 0 ≤ x ∧ x < 3) ∧ w9 = w') from KA.out 2 3 (by omega) (by omega) _ K10.below)
    have KA3 := Lib.hid (show Calls Tryd.prog 7 #[.slice B n2 d, .int .i64 3, .int .i64 (n : Int)] w9 (fun e w' => (∃ x : Int, e = .returned (.int .i64 x) ∧ 0 ≤ x ∧ x < n) ∧ w9 = w') from KA.out 3 (n : Int) (by omega) (by omega) _ K10.below)
    go_upto_region 19 with (go_at_call 7; first
      | (with_reducible refine KA2.out.mono ?_; rintro e w' ⟨⟨x2, rfl, p0, p1⟩, rfl⟩; obtain ⟨kd, hkd⟩ : ∃ kd, 1 + x2 = kd := ⟨_, rfl⟩; have hw0 : IntKind.i64.wrap (1 + x2) = kd := by rw [hkd]; exact wrapI64 (by omega))
      | (with_reducible refine KA3.out.mono ?_; rintro e w' ⟨⟨x3, rfl, p2, p3⟩, rfl⟩; obtain ⟨l, rfl⟩ : ∃ l : Nat, x3 = (l : Int) := ⟨x3.toNat, by omega⟩))
    have k1 : 1 ≤ kd := by omega
    have k3 : kd ≤ 3 := by omega
    have l1 : l < n := by omega
    clear hkd p0 p1 p2 p3 hw0 KA2 KA3
    have K11 := K10.al [.int .i64 kd, .int .i64 (l : Int)] 38
    obtain ⟨gf, hgf⟩ : ∃ g, w9.heap.size = g := ⟨_, rfl⟩
    refine Code.wp.kn K11 ?_; clear K11 K10; intro w11 K11
    rw [hgf] at K11
    try rw [hgf]
    clear hgf
    obtain ⟨f1, f2, f3, -⟩ := K11.cells
    go_upto_region 20 with (go_at_call 9; refine Calls.kn (K11.al [.int .i64 kd, .int .i64 (l : Int)] 38) ?_; clear K11 f1 f2 f3; intro w12 K12; refine (StdLaw b n q _ _ _ [⟨kd, l⟩] _ b1 b2 m1 m2 HQ.out K12.rlOne (good_one k1 k3 l1) (asc_one _) (by decide)).mono ?_; rintro e w13 ⟨A3, c3, L3, rfl, hl3, he3, hK⟩)
    have K13 := K12.join hK
    clear hK K12
    have HL3 := Lib.hid hl3
    have HE3 := Lib.hid he3
    have HV3 := Lib.hid (show vtrials (stdTs b n [⟨kd, l⟩] q) = true by rw [← HQ.out]; exact stdTs_v b n _ b1 b2 m1 m2)
    clear hl3 he3
    go_upto_region 22 with (first
      | (go_at_call 10; refine (specValidTrials_true A3 q c3 _ _ (K13.rlTs HL3.out HE3.out) (stdTs_small b n _ q (by omega)) HV3.out (by omega)).mono ?_; rintro e w14 ⟨rfl, hw⟩; have K14 := K13.keep hw; clear hw K13; obtain ⟨ad3, hA3, hlt3, hk3, ht3⟩ := (K14.rlTs HL3.out HE3.out).at_ hq0; rw [Nat.zero_mul, addr_add_zero] at ht3; obtain ⟨E1, d1, E2, d2, E3, d3, ⟨g1, g2, g3, g4, g5, g6, g7⟩, r1, r2, r3⟩ := ht3.cells; have HT3 := Lib.hid (And.intro (stdTs_small b n [⟨kd, l⟩] q (by omega) _ (List.getElem_mem hk3)) (stdTs_ok b n [⟨kd, l⟩] q b1 _ (List.getElem_mem hk3))); obtain ⟨t3, het⟩ : ∃ t, (stdTs b n [⟨kd, l⟩] q)[0] = t := ⟨_, rfl⟩; rw [het] at g1 g2 g3 g4 g5 g6 g7 r1 r2 r3 HT3; subst hA3; clear ht3 het hk3 hlt3)
      | (go_at_call 14; refine (TrialText_some t3 E1 E2 E3 d1 d2 d3 _ r1 r2 r3 HT3.out.1 (HTB.out _ K14.below) (vtrials6 (by intro t ht; rw [List.mem_singleton.1 ht]; exact HT3.out.2) b1 b2 m1 m2 (by simp) (by simp))).mono ?_; rintro e w15 ⟨T, rfl, hT, hw⟩; have K15 := K14.keep hw; have hne : T.toList.isEmpty = false := str_nonempty hT; clear hw K14 g1 g2 g3 g4 g5 g6 g7 r1 r2 r3 HT3))
    clear hne hT
    go_upto_region 23 with (go_at_call 12; refine (FirstDifference_ok (some ad3) A2 q c3 c2 _ _ _ (K15.rlTs HL3.out HE3.out) (Kn.rlTs (K15.sel [4, 5] 99 (by decide) (by decide)) HL2.out HE2.out) (stdTs_small b n _ q (by omega)) (stdTs_small b n [] q (by omega)) HV3.out HV2.out (by omega)).mono ?_; rintro e w16 ⟨⟨⟨x6, c6⟩, rfl, hfd⟩, hw⟩; have K16 := K15.keep hw; clear hw K15)
    obtain ⟨f1, f2, f3, -⟩ := (K16.front 3 rfl).cells
    have hfd6 := fd_single b n l kd b1 l1 k1 k3 (by rw [HQ.out]; exact hfd)
    have HB16 := Lib.hid K16.below
    clear hfd K16
    rcases hfd6 with ⟨hs, h6⟩ | ⟨hs1, hs2, h6⟩
    · obtain rfl : c6 = 0 := h6
      by_cases hk : kd = 3
      · have hl0 : (0 : Int) < (l : Int) := by omega
        have hl2 : decide (0 < l) = true := decide_eq_true (by omega)
        subst hk
        clear hs
        go_wp2_with fail
        go_ret
        exact ⟨rfl, HB16.out⟩
      · have hk2 : (kd != 3) = true := bne_iff_ne.2 hk
        clear hs
        go_wp2_with fail
        go_ret
        exact ⟨rfl, HB16.out⟩
    · obtain rfl : c6 = 3 := h6
      subst hs1 hs2
      go_wp2_with fail
      go_ret
      exact ⟨rfl, HB16.out⟩
end Go.Proofs.YtgpmngcemnnpmaaDoor

namespace Go.Proofs.YtgpmngcemnnpmaaDoor
open Go.RowKit Go.ChangeShapes Go.WideShapes Go.ChangeAt
theorem laid_tail {P : Program} {W : World} {x : String × DataW Unit} {rest : List (String × DataW Unit)} (h : laidMet P (x :: rest) W) : laidMet P rest W := by
  obtain ⟨ps, ⟨g, t, cs, fuel, p, q, h1, h2, h3, h4, h5, rfl⟩, hn, hr⟩ := h
  exact ⟨q, h5, (List.nodup_append.1 hn).2.1, fun b off hb => hr b off (List.mem_append_right _ hb)⟩
theorem cellsU64 : Tryd.prog.cellsOf 110 = 1 := by kernel_rfl
theorem cellsTab : Tryd.prog.cellsOf 186 = 20 := by kernel_rfl
theorem gTab : Tryd.prog.globalNamed "internal/strconv.uint64pow10" = some 0 := by kernel_rfl
theorem gTabType : (Tryd.prog.globals[0]?).map (·.type) = some 186 := by kernel_rfl
theorem tb_of_laid {W : World} (h : laidMetH Tryd.prog [("math/bits.deBruijn32tab", Rows.laid_math_bits_deBruijn32tab), ("math/bits.deBruijn64tab", Rows.laid_math_bits_deBruijn64tab), ("internal/strconv.uint64pow10", Rows.laid_internal_strconv_uint64pow10)] W) : TB W := by
  have h1 : laidMet Tryd.prog [("math/bits.deBruijn32tab", Rows.laid_math_bits_deBruijn32tab), ("math/bits.deBruijn64tab", Rows.laid_math_bits_deBruijn64tab), ("internal/strconv.uint64pow10", Rows.laid_internal_strconv_uint64pow10)] W := h
  exact Lib.tabIs_of_head (rest := []) gTab gTabType Tryd.underlying186 Tryd.underlying110 cellsU64 cellsTab (laid_tail (laid_tail h1))
def tabCells (l : DataW Unit) (k : IntKind) : Array Value := match l with
  | .agg ds => (ds.map fun d => match d with | .lit (.int _ n) => Value.int k n | _ => .int k 0).toArray
  | _ => #[]
def setTab (cs : Array Value) (o : Obj) : Obj := match o with
  | .cells _ t frozen => .cells cs t frozen
  | o => o
noncomputable def laidWorld (os : Os) : World :=
  { World.holding Tryd.prog os ⟨#[], #[], []⟩ with heap := (((World.holding Tryd.prog os ⟨#[], #[], []⟩).heap.modify 0 (setTab (tabCells Rows.laid_internal_strconv_uint64pow10 .u64))).modify 2 (setTab (tabCells Rows.laid_math_bits_deBruijn32tab .u8))).modify 3 (setTab (tabCells Rows.laid_math_bits_deBruijn64tab .u8)) }
theorem laid_met (os : Os) (args : Array Value) : laidMet Tryd.prog [("math/bits.deBruijn32tab", Rows.laid_math_bits_deBruijn32tab), ("math/bits.deBruijn64tab", Rows.laid_math_bits_deBruijn64tab), ("internal/strconv.uint64pow10", Rows.laid_internal_strconv_uint64pow10)] ((laidWorld os).forCall (fun _ _ => 0) ⟨#[], args, []⟩).memory :=
  laidMet_of_run' 8 (by kernel_rfl) (by kernel_rfl)
theorem own : ownKnob Tryd.prog.godebug = none := by kernel_rfl
theorem laidOut : laidOutB Tryd.prog = true := by kernel_rfl
end Go.Proofs.YtgpmngcemnnpmaaDoor
