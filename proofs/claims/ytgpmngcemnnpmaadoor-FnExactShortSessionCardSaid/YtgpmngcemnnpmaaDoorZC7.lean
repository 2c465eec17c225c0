/- Part 7: lemmas and contracts of the claim's functions. -/
import Derived.Test.YtgpmngcemnnpmaaDoorZC1
import Derived.Test.YtgpmngcemnnpmaaDoorZC2
import Derived.Test.YtgpmngcemnnpmaaDoorZC3
import Derived.Test.YtgpmngcemnnpmaaDoorZC4
import Derived.Test.YtgpmngcemnnpmaaDoorZC5
import Derived.Test.YtgpmngcemnnpmaaDoorZC6
import Derived.Deep.DrawnRows
import Derived.Deep.LoopGhost
import Derived.WalkSmall
import Derived.Laws.Bits64b
import Derived.Deep.RegionHeld3
import Derived.Deep.DeepCutAuto
namespace Go.Proofs.YtgpmngcemnnpmaaDoor
open Go.RowKit Go.Sort
/-! strokes that lead back, plainly -/
theorem tmod_wrap (a P : Int) (hP : 0 < P) : (a.tmod P + P).tmod P = a % P := by
  have h1 := Int.lt_tmod_of_pos a hP
  rw [Int.tmod_eq_emod_of_nonneg (by omega), Int.add_emod_right, Int.tmod_def, Int.sub_mul_emod_self_left]
theorem digD_valL (b : Int) (hb : 2 ≤ b) : ∀ ds : List Int, (∀ d ∈ ds, 0 ≤ d ∧ d < b) → valL b ds ≤ 1000000000000 → digD b ds.length (valL b ds) = ds
  | [], _, _ => rfl
  | d :: ds, hd, hl => by
    have hd0 := hd d (List.mem_cons_self ..)
    have hv0 := (valL_bd b hb ds (fun x hx => (hd x (List.mem_cons_of_mem _ hx)).1)).1
    have e1 : valL b (d :: ds) = valL b ds * b + d := by simp only [valL] at hl ⊢; omega
    have h2 : valL b ds * 1 ≤ valL b ds * b := Int.mul_le_mul_of_nonneg_left (by omega) hv0
    have ih := digD_valL b hb ds (fun x hx => hd x (List.mem_cons_of_mem _ hx)) (by omega)
    have h3 : 0 ≤ valL b ds * b + d := by omega
    have e2 : (valL b ds * b + d).tmod b = d := by
      rw [Int.tmod_eq_emod_of_nonneg h3, Int.add_comm, Int.add_mul_emod_self_right]
      exact Int.emod_eq_of_lt hd0.1 hd0.2
    have e3 : (valL b ds * b + d).tdiv b = valL b ds := by
      rw [Int.tdiv_eq_ediv_of_nonneg h3, Int.add_comm, Int.add_mul_ediv_right _ _ (by omega), Int.ediv_eq_zero_of_lt hd0.1 hd0.2, Int.zero_add]
    rw [List.length_cons, digD_cons, e1, e2, e3, ih]
theorem vreg_dig {b : Int} {ds : List Int} (hv : vreg b ds = true) : digD b ds.length (valL b ds) = ds := by
  obtain ⟨⟨b1, b2⟩, -, hd, hl⟩ := vreg_iff.1 hv
  exact digD_valL b b1 ds hd hl
theorem valL_shift {b : Int} {ds : List Int} (x : Int) (hv : vreg b ds = true) (hp : pw b ds.length ≤ 1000000000001) : valL b (shiftD b ds x) = (valL b ds + x) % pw b ds.length := by
  obtain ⟨⟨b1, b2⟩, -, hd, hl⟩ := vreg_iff.1 hv
  have hp1 := pw_pos b b1 ds.length
  unfold shiftD
  rw [tmod_wrap _ _ (by omega)]
  have h1 := Int.emod_nonneg (valL b ds + x) (show pw b ds.length ≠ 0 by omega)
  have h2 := Int.emod_lt_of_pos (valL b ds + x) (show 0 < pw b ds.length by omega)
  exact valL_digD b b1 _ _ h1 h2 (by omega)
theorem shiftD_eq (b : Int) (hb : 2 ≤ b) (ds : List Int) (y : Int) : shiftD b ds y = digD b ds.length ((valL b ds + y) % pw b ds.length) := by
  have hp1 := pw_pos b hb ds.length
  unfold shiftD
  rw [tmod_wrap _ _ (by omega)]
theorem shift_back {b : Int} {ds : List Int} (x y : Int) (hxy : x + y = 0) (hv : vreg b ds = true) (hp : pw b ds.length ≤ 1000000000001) : shiftD b (shiftD b ds x) y = ds := by
  obtain ⟨⟨b1, b2⟩, -, hd, hl⟩ := vreg_iff.1 hv
  have hp1 := pw_pos b b1 ds.length
  have hv0 := (valL_bd b b1 ds (fun x hx => (hd x hx).1)).1
  have hv1 := valL_lt b b1 ds hd
  rw [shiftD_eq b b1 (shiftD b ds x) y, valL_shift x hv hp, shiftD_len, Int.emod_add_emod, Int.add_assoc, hxy, Int.add_zero, Int.emod_eq_of_lt hv0 hv1]
  exact vreg_dig hv
/-- the stroke that leads back -/
def backK (k : Int) : Int := if k = 1 then 2 else if k = 2 then 1 else if k = 3 then 4 else 3
theorem turn_back {t : Tri} (h : vmach t = true) (s s' : Int) (hs : s + s' = 0) : (turnT (turnT t s).1 s').1 = t := by
  obtain ⟨k1, k2, k3, e1, e2, f1, f2, l1, c0, c1⟩ := vmach_all h
  have q1 := shift_back (s * (valL t.a.base t.a.digits * pw t.b.base t.carry.toNat)) (s' * (valL t.a.base t.a.digits * pw t.b.base t.carry.toNat)) (by rw [← Int.add_mul, hs, Int.zero_mul]) k2 f1
  have q2 := shift_back (s * pw t.b.base t.carry.toNat) (s' * pw t.b.base t.carry.toNat) (by rw [← Int.add_mul, hs, Int.zero_mul]) k3 f2
  rw [show (turnT (turnT t s).1 s').1 = ⟨t.a, ⟨t.b.base, shiftD t.b.base (shiftD t.b.base t.b.digits (s * (valL t.a.base t.a.digits * pw t.b.base t.carry.toNat))) (s' * (valL t.a.base t.a.digits * pw t.b.base t.carry.toNat))⟩, ⟨t.s.base, shiftD t.s.base (shiftD t.s.base t.s.digits (s * pw t.b.base t.carry.toNat)) (s' * pw t.b.base t.carry.toNat)⟩, t.carry⟩ from rfl, q1, q2]
theorem stroke_back {t : Tri} (h : vmach t = true) {k : Int} (hk : 1 ≤ k ∧ k ≤ 4) : if (strokeT k t).2 = true ∧ 2 < k then (strokeT k t).1 = t else (strokeT (backK k) (strokeT k t).1).1 = t := by
  obtain ⟨k1, k2, k3, e1, e2, f1, f2, l1, c0, c1⟩ := vmach_all h
  have hk' : k = 1 ∨ k = 2 ∨ k = 3 ∨ k = 4 := by omega
  rcases hk' with rfl | rfl | rfl | rfl
  · rw [if_neg (by omega)]
    exact turn_back h 1 (-1) (by decide)
  · rw [if_neg (by omega)]
    exact turn_back h (-1) 1 (by decide)
  · by_cases hc : t.carry + 1 = vplaces t
    · have e : strokeT 3 t = (t, true) := by simp [strokeT, hc]
      rw [e, if_pos ⟨rfl, by decide⟩]
    · have e : strokeT 3 t = ({ t with carry := t.carry + 1 }, false) := by simp [strokeT, hc]
      rw [e, if_neg (by simp)]
      have h4 : ¬ t.carry + 1 = 0 := by omega
      simp [strokeT, backK, h4]
  · by_cases hc : t.carry = 0
    · have e : strokeT 4 t = (t, true) := by simp [strokeT, hc]
      rw [e, if_pos ⟨rfl, by decide⟩]
    · have e : strokeT 4 t = ({ t with carry := t.carry - 1 }, false) := by simp [strokeT, hc]
      rw [e, if_neg (by simp)]
      have h4 : ¬ t.carry = vplaces t := by omega
      simp only [backK, strokeT]
      simp [vplaces] at h4 ⊢
      simp [h4]
end Go.Proofs.YtgpmngcemnnpmaaDoor

namespace Go.Proofs.YtgpmngcemnnpmaaDoor
open Go.RowKit Go.Sort
/-! notes and their sums -/
def noteB (b : UInt8) : Bool := decide (32 ≤ b.toNat) && decide (b.toNat ≤ 126)
def noteOk (bs : List UInt8) : Bool := bs.all noteB && decide (bs.length ≤ 60)
def nfold (y : Int) (bs : List UInt8) : Int := bs.foldl (fun s b => (31 * s + (b.toNat : Int)).tmod 65521) y
def nsum (before number : Int) (bs : List UInt8) : Int := if betB before 0 65520 && betB number 0 1000000 then nfold ((before + 7 * number).tmod 65521) bs else 0
theorem nmod_bd {a : Int} (h : 0 ≤ a) : 0 ≤ a.tmod 65521 ∧ a.tmod 65521 ≤ 65520 := by
  rw [Int.tmod_eq_emod_of_nonneg h]; omega
theorem nfold_bd {y : Int} (h0 : 0 ≤ y) (h1 : y ≤ 65520) (bs : List UInt8) : 0 ≤ nfold y bs ∧ nfold y bs ≤ 65520 := by
  unfold nfold
  induction bs generalizing y with
  | nil => exact ⟨h0, h1⟩
  | cons b bs ih =>
    rw [List.foldl_cons]
    have := nmod_bd (a := 31 * y + (b.toNat : Int)) (by omega)
    exact ih this.1 this.2
theorem nsum_bd (before number : Int) (bs : List UInt8) : 0 ≤ nsum before number bs ∧ nsum before number bs ≤ 65520 := by
  unfold nsum
  split
  · rename_i h
    rw [Bool.and_eq_true] at h
    have b1 := betB_iff.1 h.1
    have b2 := betB_iff.1 h.2
    have := nmod_bd (a := before + 7 * number) (by omega)
    exact nfold_bd this.1 this.2 bs
  · omega
end Go.Proofs.YtgpmngcemnnpmaaDoor

namespace Go.Proofs.YtgpmngcemnnpmaaDoor
open Go.RowKit Go.Sort
/-! journals, plainly -/
/-- a line of a journal -/
def jline (sum : Int) (n : Nat) (note : List UInt8) : List UInt8 := dec ((n : Int) + 1) ++ [32] ++ dec (nsum sum ((n : Int) + 1) note) ++ [32] ++ note ++ [10]
def jlineB (sum : Int) (n : Nat) (note : ByteArray) : ByteArray := (((((⟨(dec ((n : Int) + 1)).toArray⟩ : ByteArray) ++ (⟨#[32]⟩ : ByteArray)) ++ (⟨(dec (nsum sum ((n : Int) + 1) (strB note))).toArray⟩ : ByteArray)) ++ (⟨#[32]⟩ : ByteArray)) ++ note) ++ (⟨#[10]⟩ : ByteArray)
theorem strB_jlineB (sum : Int) (n : Nat) (note : ByteArray) : strB (jlineB sum n note) = jline sum n (strB note) := by
  simp [jlineB, jline, strB]
theorem jlineB_size (sum : Int) (n : Nat) (note : ByteArray) : (jlineB sum n note).size = (jline sum n (strB note)).length := by
  rw [← strB_jlineB, strB_len]
theorem jline_len (sum : Int) (n : Nat) (hn : n ≤ 1000000) (note : List UInt8) : note.length + 3 ≤ (jline sum n note).length ∧ (jline sum n note).length ≤ note.length + 45 := by
  have h1 := dec_len ((n : Int) + 1) (by omega) (by omega)
  have h2 := nsum_bd sum ((n : Int) + 1) note
  have h3 := dec_len (nsum sum ((n : Int) + 1) note) (by omega) (by omega)
  simp only [jline, List.length_append, List.length_cons, List.length_nil]
  omega
/-- the note of the next line of what is left of a journal -/
def jstep (sum : Int) (n : Nat) (rest : List UInt8) : Option (List UInt8) :=
  (cutB [10] rest).bind fun q => (cutB [32] q.1).bind fun r => (cutB [32] r.2).bind fun t => if noteOk t.2 && (jline sum n t.2 == q.1 ++ [10]) then some t.2 else none
theorem cutB_len (p : List UInt8) : ∀ (l : List UInt8) (q), cutB p l = some q → q.1.length + p.length + q.2.length = l.length
  | [], q, h => by simp [cutB] at h
  | b :: tl, q, h => by
    simp only [cutB] at h
    split at h
    · rename_i hp
      obtain rfl := (Option.some.inj h).symm
      have := (List.isPrefixOf_iff_prefix.1 hp).length_le
      simp at this ⊢; omega
    · cases h1 : cutB p tl with
      | none => rw [h1] at h; simp at h
      | some r =>
        rw [h1] at h
        obtain rfl := (Option.some.inj h).symm
        have := cutB_len p tl r h1
        simp; omega
theorem jstep_some {sum : Int} {n : Nat} {rest note : List UInt8} (h : jstep sum n rest = some note) : noteOk note = true ∧ 3 + note.length ≤ (jline sum n note).length ∧ (jline sum n note).length ≤ rest.length := by
  unfold jstep at h
  cases h1 : cutB [10] rest with
  | none => rw [h1] at h; simp at h
  | some q =>
    rw [h1, Option.bind_some] at h
    cases h2 : cutB [32] q.1 with
    | none => rw [h2] at h; simp at h
    | some r =>
      rw [h2, Option.bind_some] at h
      cases h3 : cutB [32] r.2 with
      | none => rw [h3] at h; simp at h
      | some t =>
        rw [h3, Option.bind_some] at h
        split at h
        · rename_i h4
          obtain rfl := Option.some.inj h
          rw [Bool.and_eq_true, beq_iff_eq] at h4
          have l1 := cutB_len _ _ _ h1
          have l5 := congrArg List.length h4.2
          refine ⟨h4.1, ?_, ?_⟩
          · simp only [jline, List.length_append, List.length_cons, List.length_nil]; omega
          · rw [l5]; simp at l1 ⊢; omega
        · simp at h
/-- what is read of a journal: the notes, the last sum, the bytes -/
structure JS where
  notes : List (List UInt8)
  sum : Int
  size : Nat
def jread (rest : List UInt8) (j : JS) : JS :=
  match _h : jstep j.sum j.notes.length rest with
  | none => j
  | some note => jread (rest.drop (jline j.sum j.notes.length note).length) ⟨j.notes ++ [note], nsum j.sum ((j.notes.length : Int) + 1) note, j.size + (jline j.sum j.notes.length note).length⟩
termination_by rest.length
decreasing_by
  have := jstep_some _h
  rw [List.length_drop]; omega
theorem jread_none {rest : List UInt8} {j : JS} (h : jstep j.sum j.notes.length rest = none) : jread rest j = j := by
  rw [jread]; split
  · rfl
  · rename_i h1; rw [h] at h1; cases h1
theorem jread_some {rest : List UInt8} {j : JS} {note : List UInt8} (h : jstep j.sum j.notes.length rest = some note) :
    jread rest j = jread (rest.drop (jline j.sum j.notes.length note).length) ⟨j.notes ++ [note], nsum j.sum ((j.notes.length : Int) + 1) note, j.size + (jline j.sum j.notes.length note).length⟩ := by
  rw [jread]; split
  · rename_i h1; rw [h] at h1; cases h1
  · rename_i n1 h1; rw [h] at h1; obtain rfl := Option.some.inj h1; rfl
/-- the whole reading -/
def jall (bs : List UInt8) : JS := jread bs ⟨[], 0, 0⟩
/-- the code of a text that must be a journal -/
def jcode (bs : List UInt8) : Int := if bs.length > 4000 then 5 else if (jall bs).size = bs.length then 0 else 8
/-- behind the first blanks: how many, and what is left -/
def aft : Nat → List UInt8 → Nat × List UInt8
  | b, [] => (b, [])
  | b, x :: tl => if 2 ≤ b then (b, x :: tl) else aft (if x.toNat = 32 then b + 1 else b) tl
theorem aft_two (l : List UInt8) : aft 2 l = (2, l) := by cases l <;> simp [aft]
theorem aft_step (b : Nat) (hb : b < 2) (l : List UInt8) : aft b l = match cutB [32] l with | none => (b, []) | some q => aft (b + 1) q.2 := by
  induction l with
  | nil => rfl
  | cons x tl ih =>
    rw [aft, if_neg (by omega)]
    simp only [cutB]
    by_cases hx : x.toNat = 32
    · rw [if_pos hx]
      have h1 : ([32] : List UInt8).isPrefixOf (x :: tl) = true := by
        have : x = 32 := UInt8.toNat_inj.1 hx
        subst this; simp [List.isPrefixOf]
      rw [h1]; rfl
    · rw [if_neg hx, ih]
      have h1 : ([32] : List UInt8).isPrefixOf (x :: tl) = false := by
        have : ¬ (32 : UInt8) = x := fun h => hx (by rw [← h]; rfl)
        simp [List.isPrefixOf, this]
      rw [h1]
      cases cutB [32] tl <;> rfl
theorem aft_cut (l : List UInt8) : aft 0 l = match cutB [32] l with | none => (0, []) | some q => match cutB [32] q.2 with | none => (1, []) | some t => (2, t.2) := by
  rw [aft_step 0 (by omega)]
  cases cutB [32] l with
  | none => rfl
  | some q =>
    show aft 1 q.2 = _
    rw [aft_step 1 (by omega)]
    dsimp only
    cases cutB [32] q.2 with
    | none => simp
    | some t => simp [aft_two]
/-! the next line, both -/
end Go.Proofs.YtgpmngcemnnpmaaDoor

namespace Go.Proofs.YtgpmngcemnnpmaaDoor
open Go.RowKit Go.Sort
theorem cutB_skip {k : Nat} {l : List UInt8} {q : UInt8} (hk : k < l.length) (hq : l[k] = q) (hne : q.toNat ≠ 10) : cutB [10] (l.drop k) = (cutB [10] (l.drop (k + 1))).map fun r => (q :: r.1, r.2) := by
  rw [List.drop_eq_getElem_cons hk, hq]
  simp only [cutB]
  have h1 : ([10] : List UInt8).isPrefixOf (q :: l.drop (k + 1)) = false := by
    have : ¬ (10 : UInt8) = q := fun h => hne (by rw [← h]; rfl)
    simp [List.isPrefixOf, this]
  rw [h1]; rfl
theorem cutB_hit {k : Nat} {l : List UInt8} {q : UInt8} (hk : k < l.length) (hq : l[k] = q) (hne : q.toNat = 10) : cutB [10] (l.drop k) = some ([], l.drop (k + 1)) := by
  rw [List.drop_eq_getElem_cons hk, hq]
  simp only [cutB]
  have h1 : ([10] : List UInt8).isPrefixOf (q :: l.drop (k + 1)) = true := by
    have : q = 10 := UInt8.toNat_inj.1 hne
    subst this; simp [List.isPrefixOf]
  rw [h1]; rfl
/-- the next line of what is left, by the blanks -/
theorem jstep_aft {sum : Int} {n : Nat} {rest : List UInt8} {q : List UInt8 × List UInt8} {b : Nat} {note : List UInt8} (h1 : cutB [10] rest = some q) (h2 : aft 0 q.1 = (b, note)) :
    jstep sum n rest = if !(decide (b < 2)) && (noteOk note && (jline sum n note == q.1 ++ [10])) then some note else none := by
  unfold jstep
  rw [h1, Option.bind_some]
  rw [aft_cut] at h2
  cases h3 : cutB [32] q.1 with
  | none => rw [h3] at h2; obtain ⟨rfl, rfl⟩ := Prod.mk.inj h2; simp
  | some r =>
    rw [h3] at h2
    rw [Option.bind_some]
    dsimp only at h2
    cases h4 : cutB [32] r.2 with
    | none => rw [h4] at h2; obtain ⟨rfl, rfl⟩ := Prod.mk.inj h2; simp
    | some t => rw [h4] at h2; obtain ⟨rfl, rfl⟩ := Prod.mk.inj h2; simp
theorem cutB_ten {l : List UInt8} {q : List UInt8 × List UInt8} (h : cutB [10] l = some q) : l.take q.1.length = q.1 ∧ q.1.length < l.length := by
  obtain ⟨h1, -⟩ := cutB_mem 10 l q.1 q.2 h
  have h2 := congrArg List.length h1
  simp at h2
  refine ⟨?_, by omega⟩
  conv => lhs; rw [h1]
  exact List.take_left
theorem cutB_take {l : List UInt8} {q : List UInt8 × List UInt8} (h : cutB [10] l = some q) : l.take (q.1.length + 1) = q.1 ++ [10] := by
  obtain ⟨h1, -⟩ := cutB_mem 10 l q.1 q.2 h
  conv => lhs; rw [h1]
  rw [show q.1 ++ (10 : UInt8) :: q.2 = (q.1 ++ [10]) ++ q.2 by simp, List.take_left' (by simp)]
end Go.Proofs.YtgpmngcemnnpmaaDoor

namespace Go.Proofs.YtgpmngcemnnpmaaDoor
open Go.RowKit Go.Sort
theorem kn_stepS {ops : Array Oper} {o : Oper} {a : Act} {Q : Exit → Act → World → Prop} {w0 w : World} {m : List Ent} {K : Act → World → Prop} {E : Prop} (hgd : o.guard = none) (s x : Operand) (ho : o.op = .call { callee := .builtin .append, args := #[s, x], argTypes := #[57, 57] })
    (v : Value) (ss : List ByteArray) (hs : a.eval s = v) {g c : Nat} {T' : TypeId} {z : ByteArray} (hx : a.eval x = .slice (some ⟨g, 0, none⟩) 1 c)
    (hK : Kn w0 (.blk g [.string z] T' :: rowS v ss :: m) w) (hl : ss.length ≤ 10000000)
    (h : ∀ v' w', Kn w0 (rowS v' (ss ++ [z]) :: m) w' → K (a.put o.dst v') w') : if Region.wanted o (yielded ops a.tmps) = true then Oper.wp Tryd.prog o a w K Q else E := by
  refine kn_step_app tpS hgd s x ho v ss.length (ss.map Value.string) hs hx hK rfl (by simp [Value.oneCell']) (by omega) (by omega) (fun v' w' hK' => h v' w' ?_)
  unfold rowS
  rw [List.length_append, List.map_append, List.map_cons, List.map_nil]
  exact hK'
theorem cutY_len (p l : List UInt8) : (cutY p l).length ≤ l.length := by
  unfold cutY
  cases h : cutB p l with
  | none => exact Nat.zero_le _
  | some q => have := cutB_len p l q h; simp; omega
theorem jstep_eq {sum : Int} {n : Nat} {rest : List UInt8} {q : List UInt8 × List UInt8} {x y2 y3 : ByteArray} (h1 : cutB [10] rest = some q) (hx : strB x = q.1) (hy2 : strB y2 = cutY [32] (strB x)) (hy3 : strB y3 = cutY [32] (strB y2)) :
    jstep sum n rest = if (cutB [32] (strB x)).isSome && ((cutB [32] (strB y2)).isSome && (noteOk (strB y3) && ((jlineB sum n y3).toList == (x ++ (⟨#[10]⟩ : ByteArray)).toList))) then some (strB y3) else none := by
  have hl : ((jlineB sum n y3).toList == (x ++ (⟨#[10]⟩ : ByteArray)).toList) = (jline sum n (strB y3) == strB x ++ [10]) := by
    rw [strB_toList, strB_toList, strB_jlineB]
    rfl
  rw [hl]
  unfold jstep
  rw [h1, Option.bind_some, ← hx]
  cases h2 : cutB [32] (strB x) with
  | none => rfl
  | some r =>
    rw [cutY, h2] at hy2
    simp only [Option.map_some, Option.getD_some] at hy2
    rw [Option.bind_some, ← hy2]
    cases h3 : cutB [32] (strB y2) with
    | none => simp
    | some t =>
      rw [cutY, h3] at hy3
      simp only [Option.map_some, Option.getD_some] at hy3
      rw [Option.bind_some, hy3]
      simp
end Go.Proofs.YtgpmngcemnnpmaaDoor

namespace Go.Proofs.YtgpmngcemnnpmaaDoor
open Go.RowKit Go.Sort
theorem jread_size (rest : List UInt8) (j : JS) : (jread rest j).size ≤ j.size + rest.length := by
  induction h : rest.length using Nat.strongRecOn generalizing rest j with
  | _ n ih =>
    subst h
    cases h1 : jstep j.sum j.notes.length rest with
    | none => rw [jread_none h1]; omega
    | some note =>
      have h2 := jstep_some h1
      rw [jread_some h1]
      have h3 := ih _ (by rw [List.length_drop]; omega) (rest.drop (jline j.sum j.notes.length note).length) ⟨j.notes ++ [note], nsum j.sum ((j.notes.length : Int) + 1) note, j.size + (jline j.sum j.notes.length note).length⟩ rfl
      rw [List.length_drop] at h3
      simp only at h3
      omega
theorem jall_size (bs : List UInt8) : (jall bs).size ≤ bs.length := by
  have := jread_size bs ⟨[], 0, 0⟩
  simpa [jall] using this
end Go.Proofs.YtgpmngcemnnpmaaDoor

namespace Go.Proofs.YtgpmngcemnnpmaaDoor
open Go.RowKit Go.Sort
theorem jread_notes (rest : List UInt8) (j : JS) (h0 : j.notes.length ≤ j.size) : (jread rest j).notes.length ≤ (jread rest j).size := by
  induction h : rest.length using Nat.strongRecOn generalizing rest j with
  | _ n ih =>
    subst h
    cases h1 : jstep j.sum j.notes.length rest with
    | none => rw [jread_none h1]; exact h0
    | some note =>
      have h2 := jstep_some h1
      rw [jread_some h1]
      refine ih _ (by rw [List.length_drop]; omega) _ _ ?_ rfl
      simp only [List.length_append, List.length_cons, List.length_nil]
      omega
theorem jcode_zero {bs : List UInt8} (h : jcode bs = 0) : bs.length ≤ 4000 ∧ (jall bs).size = bs.length ∧ (jall bs).notes.length ≤ 4000 := by
  unfold jcode at h
  split at h
  · cases h
  · split at h
    · rename_i h1 h2
      have := jread_notes bs ⟨[], 0, 0⟩ (Nat.le_refl _)
      refine ⟨by omega, h2, ?_⟩
      show (jread bs ⟨[], 0, 0⟩).notes.length ≤ 4000
      have h3 : (jread bs ⟨[], 0, 0⟩).size = bs.length := h2
      omega
    · cases h
/-- what the appending of a note gives -/
def anC (S N : List UInt8) : Int := if jcode S ≠ 0 then jcode S else if noteOk N = false then 7 else if S.length + (jline (jall S).sum (jall S).notes.length N).length > 4000 then 5 else 0
def anT (s note : ByteArray) : ByteArray := if anC (strB s) (strB note) = 0 then s ++ jlineB (jall (strB s)).sum (jall (strB s)).notes.length note else ⟨#[]⟩
theorem an_bad {s note : ByteArray} (h : jcode (strB s) ≠ 0) : anC (strB s) (strB note) = jcode (strB s) ∧ anT s note = ⟨#[]⟩ := by
  have h1 : anC (strB s) (strB note) = jcode (strB s) := by unfold anC; rw [if_pos h]
  exact ⟨h1, by unfold anT; rw [h1, if_neg h]⟩
theorem an_note {s note : ByteArray} (h : jcode (strB s) = 0) (h2 : noteOk (strB note) = false) : anC (strB s) (strB note) = 7 ∧ anT s note = ⟨#[]⟩ := by
  have h1 : anC (strB s) (strB note) = 7 := by unfold anC; rw [if_neg (fun h' => h' h), if_pos h2]
  exact ⟨h1, by unfold anT; rw [h1, if_neg (by decide)]⟩
theorem an_full {s note : ByteArray} (h : jcode (strB s) = 0) (h2 : noteOk (strB note) = true) (h3 : s.size + (jlineB (jall (strB s)).sum (jall (strB s)).notes.length note).size > 4000) : anC (strB s) (strB note) = 5 ∧ anT s note = ⟨#[]⟩ := by
  have h1 : anC (strB s) (strB note) = 5 := by
    unfold anC; rw [if_neg (fun h' => h' h), if_neg (by rw [h2]; decide), if_pos (by rw [strB_len, ← jlineB_size]; exact h3)]
  exact ⟨h1, by unfold anT; rw [h1, if_neg (by decide)]⟩
theorem an_fine {s note : ByteArray} (h : jcode (strB s) = 0) (h2 : noteOk (strB note) = true) (h3 : ¬ s.size + (jlineB (jall (strB s)).sum (jall (strB s)).notes.length note).size > 4000) : anC (strB s) (strB note) = 0 ∧ anT s note = s ++ jlineB (jall (strB s)).sum (jall (strB s)).notes.length note := by
  have h1 : anC (strB s) (strB note) = 0 := by
    unfold anC; rw [if_neg (fun h' => h' h), if_neg (by rw [h2]; decide), if_neg (by rw [strB_len, ← jlineB_size]; exact h3)]
  exact ⟨h1, by unfold anT; rw [h1, if_pos rfl]⟩
end Go.Proofs.YtgpmngcemnnpmaaDoor

namespace Go.Proofs.YtgpmngcemnnpmaaDoor
open Go.RowKit Go.Sort
end Go.Proofs.YtgpmngcemnnpmaaDoor

namespace Go.Proofs.YtgpmngcemnnpmaaDoor
open Go.RowKit Go.Sort
def rsM (bs : List (List UInt8)) : Tri := if wholeC bs = 0 then (runS bs).1.m else zTri
theorem rsM_len (bs : List (List UInt8)) : (rsM bs).a.digits.length ≤ 16 ∧ (rsM bs).b.digits.length ≤ 16 ∧ (rsM bs).s.digits.length ≤ 16 := by
  unfold rsM
  split
  · rename_i h
    have := sized_of (runS_good (wholeC_ok h).2).m
    exact ⟨this.a, this.b, this.s⟩
  · simp [zTri]
/-- a machine and a code -/
def MCRet (t : Tri) (C : Int) (w : World) (e : Ending) (w' : World) : Prop := ∃ A1 c1 A2 c2 A3 c3, e = .returned (.tuple #[.agg #[.int .i64 t.a.base, .slice A1 t.a.digits.length c1, .int .i64 t.b.base, .slice A2 t.b.digits.length c2, .int .i64 t.s.base, .slice A3 t.s.digits.length c3, .int .i64 t.carry], .int .i64 C]) ∧ Kn w [rowI A3 c3 t.s.digits, rowI A2 c2 t.b.digits, rowI A1 c1 t.a.digits] w'
def RSRet (bs : List (List UInt8)) (w : World) (e : Ending) (w' : World) : Prop := MCRet (rsM bs) (wholeC bs) w e w'
theorem MCRet.zero {C : Int} {w w' : World} (h : Below w.heap.size w w') : MCRet zTri C w (.returned (.tuple #[.agg #[.int .i64 0, .slice none 0 0, .int .i64 0, .slice none 0 0, .int .i64 0, .slice none 0 0, .int .i64 0], .int .i64 C])) w' :=
  ⟨none, 0, none, 0, none, 0, rfl, ((((Kn.nil w).keep h).nilRow _ _).nilRow _ _).nilRow _ _⟩
end Go.Proofs.YtgpmngcemnnpmaaDoor

namespace Go.Proofs.YtgpmngcemnnpmaaDoor
open Go.RowKit Go.Sort
/-- a machine, a value and a code -/
def M2Ret (t : Tri) (x : Value) (C : Int) (w : World) (e : Ending) (w' : World) : Prop := ∃ A1 c1 A2 c2 A3 c3, e = .returned (.tuple #[.agg #[.int .i64 t.a.base, .slice A1 t.a.digits.length c1, .int .i64 t.b.base, .slice A2 t.b.digits.length c2, .int .i64 t.s.base, .slice A3 t.s.digits.length c3, .int .i64 t.carry], x, .int .i64 C]) ∧ Kn w [rowI A3 c3 t.s.digits, rowI A2 c2 t.b.digits, rowI A1 c1 t.a.digits] w'
theorem M2Ret.zero {x : Value} {C : Int} {w w' : World} (h : Below w.heap.size w w') : M2Ret zTri x C w (.returned (.tuple #[.agg #[.int .i64 0, .slice none 0 0, .int .i64 0, .slice none 0 0, .int .i64 0, .slice none 0 0, .int .i64 0], x, .int .i64 C])) w' :=
  ⟨none, 0, none, 0, none, 0, rfl, ((((Kn.nil w).keep h).nilRow _ _).nilRow _ _).nilRow _ _⟩
/-! a journal's replay, plainly -/
def rjStep (t : Tri) (n : List UInt8) : Tri := if kindOf n = 0 then t else (strokeT (kindOf n) t).1
def rjFold (t : Tri) (l : List (List UInt8)) : Tri := l.foldl rjStep t
def rjCount (l : List (List UInt8)) : Nat := (l.filter (fun n => decide (kindOf n ≠ 0))).length
theorem rjFold_ok {t : Tri} (h : vmach t = true) (l : List (List UInt8)) : vmach (rjFold t l) = true := by
  induction l generalizing t with
  | nil => exact h
  | cons n l ih =>
    show vmach (rjFold (rjStep t n) l) = true
    refine ih ?_
    unfold rjStep
    split
    · exact h
    · exact strokeT_ok _ h
theorem rj_next {l : List (List UInt8)} {k : Nat} (h : k < l.length) (t : Tri) : rjFold t (l.take (k + 1)) = rjStep (rjFold t (l.take k)) l[k] ∧ rjCount (l.take (k + 1)) = rjCount (l.take k) + (if kindOf l[k] = 0 then 0 else 1) := by
  rw [List.take_succ_eq_append_getElem h]
  constructor
  · unfold rjFold; rw [List.foldl_append]; rfl
  · unfold rjCount
    rw [List.filter_append, List.length_append]
    congr 1
    by_cases h0 : kindOf l[k] = 0 <;> simp [h0]
theorem rjCount_le (l : List (List UInt8)) (k : Nat) : rjCount (l.take k) ≤ k := by
  unfold rjCount
  refine Nat.le_trans (List.length_filter_le _ _) ?_
  rw [List.length_take]; omega
def rjC (t : Tri) (S : List UInt8) : Int := if vmach t then jcode S else 1
def rjM (t : Tri) (S : List UInt8) : Tri := if rjC t S = 0 then rjFold t (jall S).notes else zTri
def rjN (t : Tri) (S : List UInt8) : Int := if rjC t S = 0 then (rjCount (jall S).notes : Int) else 0
theorem rj_bad {t : Tri} {S : List UInt8} (h : vmach t = false) : rjC t S = 1 ∧ rjM t S = zTri ∧ rjN t S = 0 := by
  have h1 : rjC t S = 1 := by unfold rjC; rw [h]; rfl
  exact ⟨h1, by unfold rjM; rw [h1, if_neg (by decide)], by unfold rjN; rw [h1, if_neg (by decide)]⟩
theorem rj_code {t : Tri} {S : List UInt8} (h : vmach t = true) (hc : jcode S ≠ 0) : rjC t S = jcode S ∧ rjM t S = zTri ∧ rjN t S = 0 := by
  have h1 : rjC t S = jcode S := by unfold rjC; rw [h]; rfl
  exact ⟨h1, by unfold rjM; rw [h1, if_neg hc], by unfold rjN; rw [h1, if_neg hc]⟩
theorem rj_fine {t : Tri} {S : List UInt8} (h : vmach t = true) (hc : jcode S = 0) : rjC t S = 0 ∧ rjM t S = rjFold t (jall S).notes ∧ rjN t S = (rjCount (jall S).notes : Int) := by
  have h1 : rjC t S = 0 := by unfold rjC; rw [h]; exact hc
  exact ⟨h1, by unfold rjM; rw [h1, if_pos rfl], by unfold rjN; rw [h1, if_pos rfl]⟩
theorem rjM_ok {t : Tri} {S : List UInt8} (h : rjC t S = 0) : vmach (rjM t S) = true := by
  have hv : vmach t = true := by
    cases hv : vmach t with
    | true => rfl
    | false => rw [(rj_bad hv).1] at h; cases h
  unfold rjM
  rw [if_pos h]
  exact rjFold_ok hv _
theorem rjM_len (t : Tri) (S : List UInt8) : (rjM t S).a.digits.length ≤ 16 ∧ (rjM t S).b.digits.length ≤ 16 ∧ (rjM t S).s.digits.length ≤ 16 := by
  by_cases h : rjC t S = 0
  · have := sized_of (rjM_ok h)
    exact ⟨this.a, this.b, this.s⟩
  · unfold rjM; rw [if_neg h]; simp [zTri]
def RJRet (t : Tri) (S : List UInt8) : World → Ending → World → Prop := M2Ret (rjM t S) (.int .i64 (rjN t S)) (rjC t S)
end Go.Proofs.YtgpmngcemnnpmaaDoor

namespace Go.Proofs.YtgpmngcemnnpmaaDoor
open Go.RowKit Go.Sort
end Go.Proofs.YtgpmngcemnnpmaaDoor

namespace Go.Proofs.YtgpmngcemnnpmaaDoor
open Go.RowKit Go.Sort
/-! the recording of a stroke, plainly -/
def rkC (t : Tri) (s : ByteArray) (k : Int) : Int := if vmach t = false then 1 else if jcode (strB s) ≠ 0 then jcode (strB s) else if betB k 1 6 = false then 2 else anC (strB s) (strB (sname k))
def rkM (t : Tri) (s : ByteArray) (k : Int) : Tri := if rkC t s k = 0 then (strokeT k t).1 else zTri
def rkT (t : Tri) (s : ByteArray) (k : Int) : ByteArray := if rkC t s k = 0 then anT s (sname k) else ⟨#[]⟩
theorem rk_not {t : Tri} {s : ByteArray} {k c : Int} (h : rkC t s k = c) (hc : c ≠ 0) : rkC t s k = c ∧ rkM t s k = zTri ∧ rkT t s k = ⟨#[]⟩ :=
  ⟨h, by unfold rkM; rw [h, if_neg hc], by unfold rkT; rw [h, if_neg hc]⟩
theorem rk_bad {t : Tri} {s : ByteArray} {k : Int} (h : vmach t = false) : rkC t s k = 1 ∧ rkM t s k = zTri ∧ rkT t s k = ⟨#[]⟩ := rk_not (by unfold rkC; rw [if_pos h]) (by decide)
theorem rk_code {t : Tri} {s : ByteArray} {k : Int} (h : vmach t = true) (h2 : jcode (strB s) ≠ 0) : rkC t s k = jcode (strB s) ∧ rkM t s k = zTri ∧ rkT t s k = ⟨#[]⟩ := rk_not (by unfold rkC; rw [if_neg (by rw [h]; decide), if_pos h2]) h2
theorem rk_kind {t : Tri} {s : ByteArray} {k : Int} (h : vmach t = true) (h2 : jcode (strB s) = 0) (h3 : betB k 1 6 = false) : rkC t s k = 2 ∧ rkM t s k = zTri ∧ rkT t s k = ⟨#[]⟩ := rk_not (by unfold rkC; rw [if_neg (by rw [h]; decide), if_neg (fun h' => h' h2), if_pos h3]) (by decide)
theorem rk_note {t : Tri} {s : ByteArray} {k : Int} (h : vmach t = true) (h2 : jcode (strB s) = 0) (h3 : betB k 1 6 = true) (h4 : anC (strB s) (strB (sname k)) ≠ 0) : rkC t s k = anC (strB s) (strB (sname k)) ∧ rkM t s k = zTri ∧ rkT t s k = ⟨#[]⟩ := rk_not (by unfold rkC; rw [if_neg (by rw [h]; decide), if_neg (fun h' => h' h2), if_neg (by rw [h3]; decide)]) h4
theorem rk_fine {t : Tri} {s : ByteArray} {k : Int} (h : vmach t = true) (h2 : jcode (strB s) = 0) (h3 : betB k 1 6 = true) (h4 : anC (strB s) (strB (sname k)) = 0) : rkC t s k = 0 ∧ rkM t s k = (strokeT k t).1 ∧ rkT t s k = anT s (sname k) := by
  have h1 : rkC t s k = 0 := by unfold rkC; rw [if_neg (by rw [h]; decide), if_neg (fun h' => h' h2), if_neg (by rw [h3]; decide)]; exact h4
  exact ⟨h1, by unfold rkM; rw [h1, if_pos rfl], by unfold rkT; rw [h1, if_pos rfl]⟩
theorem rkM_ok {t : Tri} {s : ByteArray} {k : Int} (h : rkC t s k = 0) : vmach (rkM t s k) = true := by
  have hv : vmach t = true := by
    cases hv : vmach t with
    | true => rfl
    | false => rw [(rk_bad hv).1] at h; cases h
  unfold rkM
  rw [if_pos h]
  exact strokeT_ok _ hv
theorem rkM_len (t : Tri) (s : ByteArray) (k : Int) : (rkM t s k).a.digits.length ≤ 16 ∧ (rkM t s k).b.digits.length ≤ 16 ∧ (rkM t s k).s.digits.length ≤ 16 := by
  by_cases h : rkC t s k = 0
  · have := sized_of (rkM_ok h)
    exact ⟨this.a, this.b, this.s⟩
  · unfold rkM; rw [if_neg h]; simp [zTri]
def RKRet (t : Tri) (s : ByteArray) (k : Int) : World → Ending → World → Prop := M2Ret (rkM t s k) (.string (rkT t s k)) (rkC t s k)
theorem isStroke_any (k : Int) (w : World) : Calls Tryd.prog 148 #[.int .i64 k] w fun e w' => e = .returned (.bool (betB k 1 6)) ∧ w = w' := by
  have KB := Lib.hid (fun W => between_any k 1 6 W)
  go_enter Tryd.func148, Tryd.ntmps148
  go_wp2_with (go_at_call 71; refine (KB.out _).mono ?_; rintro e w' ⟨rfl, rfl⟩)
  go_ret
  exact ⟨rfl, rfl⟩
theorem l10Kind_any (k : Int) (w : World) : Calls Tryd.prog 141 #[.int .i64 k] w fun e w' => e = .returned (.bool (betB k 1 6)) ∧ w = w' := by
  have KB := Lib.hid (fun W => l00In_any k 1 6 W)
  go_enter Tryd.func141, Tryd.ntmps141
  go_wp2_with (go_at_call 77; refine (KB.out _).mono ?_; rintro e w' ⟨rfl, rfl⟩)
  go_ret
  exact ⟨rfl, rfl⟩
end Go.Proofs.YtgpmngcemnnpmaaDoor

namespace Go.Proofs.YtgpmngcemnnpmaaDoor
open Go.RowKit Go.Sort
set_option maxHeartbeats 400000 in
theorem sameNumbers_any (A B : Option Addr) (n c m d : Nat) (ds es : List Int) (w : World) (hr : RI w A n ds) (hs : RI w B m es) (hm : n ≤ 9223372036854775807) (hm2 : m ≤ 9223372036854775807) :
    Calls Tryd.prog 106 #[.slice A n c, .slice B m d] w fun e w' => e = .returned (.bool (decide (ds = es))) ∧ ∃ q, w' = w.drewN q := by
  have HL := Lib.hid hr.1
  have HM := Lib.hid hs.1
  by_cases hnm : n = m
  · subst hnm
    go_enter Tryd.func106, Tryd.ntmps106
    go_wp2
    go_loopw [13] (fun i wr => ∃ k : Nat, k ≤ n ∧ i = .int .i64 k ∧ ds.take k = es.take k ∧ ∃ q, wr = w.drewN q) (fun i _ => n - (intOf i).toNat)
    case atStart => exact ⟨0, Nat.zero_le _, rfl, by simp, 0, rfl⟩
    case round =>
      obtain ⟨k, hk, rfl, hdg, q, rfl⟩ := hrel
      have HD := Lib.hid hdg; clear hdg
      by_cases hkn : k < n
      · obtain ⟨ad, hA, hlt, hkl, hc⟩ := hr.at_ hkn
        obtain ⟨ad2, hB, hlt2, hkl2, hc2⟩ := hs.at_ hkn
        subst hA; subst hB
        have hi0 : (0 : Int) ≤ (k : Int) := by omega
        have hi1 : (k : Int) < (n : Int) := by omega
        rcases hd : (ds[k] != es[k]) with _ | _
        · go_wp2
          go_quiet (fail)
          go_wp2
          have he : ds[k] = es[k] := by simpa using hd
          have HE := Lib.hid he; clear he
          go_roundw
          case rel => exact ⟨k + 1, by omega, by go_num, take_eq_of_succ HD.out hkl hkl2 HE.out, by first | exact ⟨_, rfl⟩ | exact ⟨_, World.drewN_drewN _ _ _⟩⟩
          case measure => simp [intOf]; omega
        · go_wp2
          go_quiet (fail)
          go_wp2
          go_ret
          refine ⟨ret_bool ?_, by first | exact ⟨_, rfl⟩ | exact ⟨_, World.drewN_drewN _ _ _⟩⟩
          have : ds ≠ es := by rintro rfl; simp at hd
          simp [this]
      · have HF : Hid (ds = es) := by
          have := HD.out
          rwa [List.take_of_length_le (by have := HL.out; omega), List.take_of_length_le (by have := HM.out; omega)] at this
        go_wp2
        go_ret
        exact ⟨ret_bool (by simp [HF.out]), q, rfl⟩
  · have HF : Hid (ds ≠ es) := by rintro rfl; exact hnm (hr.1.symm.trans hs.1)
    go_enter Tryd.func106, Tryd.ntmps106
    go_wp2
    go_ret
    exact ⟨ret_bool (by simp [HF.out]), 0, rfl⟩
set_option maxHeartbeats 400000 in
theorem l00Same_any (A B : Option Addr) (n c m d : Nat) (ds es : List Int) (w : World) (hr : RI w A n ds) (hs : RI w B m es) (hm : n ≤ 9223372036854775807) (hm2 : m ≤ 9223372036854775807) :
    Calls Tryd.prog 89 #[.slice A n c, .slice B m d] w fun e w' => e = .returned (.bool (decide (ds = es))) ∧ ∃ q, w' = w.drewN q := by
  have HL := Lib.hid hr.1
  have HM := Lib.hid hs.1
  by_cases hnm : n = m
  · subst hnm
    go_enter Tryd.func89, Tryd.ntmps89
    go_wp2
    go_loopw [5] (fun i wr => ∃ k : Nat, k ≤ n ∧ i = .int .i64 k ∧ ds.take k = es.take k ∧ ∃ q, wr = w.drewN q) (fun i _ => n - (intOf i).toNat)
    case atStart => exact ⟨0, Nat.zero_le _, rfl, by simp, 0, rfl⟩
    case round =>
      obtain ⟨k, hk, rfl, hdg, q, rfl⟩ := hrel
      have HD := Lib.hid hdg; clear hdg
      by_cases hkn : k < n
      · obtain ⟨ad, hA, hlt, hkl, hc⟩ := hr.at_ hkn
        obtain ⟨ad2, hB, hlt2, hkl2, hc2⟩ := hs.at_ hkn
        subst hA; subst hB
        have hi0 : (0 : Int) ≤ (k : Int) := by omega
        have hi1 : (k : Int) < (n : Int) := by omega
        rcases hd : (ds[k] != es[k]) with _ | _
        · go_wp2
          go_quiet (fail)
          go_wp2
          have he : ds[k] = es[k] := by simpa using hd
          have HE := Lib.hid he; clear he
          go_roundw
          case rel => exact ⟨k + 1, by omega, by go_num, take_eq_of_succ HD.out hkl hkl2 HE.out, by first | exact ⟨_, rfl⟩ | exact ⟨_, World.drewN_drewN _ _ _⟩⟩
          case measure => simp [intOf]; omega
        · go_wp2
          go_quiet (fail)
          go_wp2
          go_ret
          refine ⟨ret_bool ?_, by first | exact ⟨_, rfl⟩ | exact ⟨_, World.drewN_drewN _ _ _⟩⟩
          have : ds ≠ es := by rintro rfl; simp at hd
          simp [this]
      · have HF : Hid (ds = es) := by
          have := HD.out
          rwa [List.take_of_length_le (by have := HL.out; omega), List.take_of_length_le (by have := HM.out; omega)] at this
        go_wp2
        go_ret
        exact ⟨ret_bool (by simp [HF.out]), q, rfl⟩
  · have HF : Hid (ds ≠ es) := by rintro rfl; exact hnm (hr.1.symm.trans hs.1)
    go_enter Tryd.func89, Tryd.ntmps89
    go_wp2
    go_ret
    exact ⟨ret_bool (by simp [HF.out]), 0, rfl⟩
def sameR (r s : Reg) : Bool := r.base == s.base && decide (r.digits = s.digits)
theorem SameRegister_any (r s : Reg) (A B : Option Addr) (c d : Nat) (w : World) (hr : RI w A r.digits.length r.digits) (hs : RI w B s.digits.length s.digits) (hm : SmallReg r) (hm2 : SmallReg s) :
    Calls Tryd.prog 80 #[.agg #[.int .i64 r.base, .slice A r.digits.length c], .agg #[.int .i64 s.base, .slice B s.digits.length d]] w fun e w' => e = .returned (.bool (sameR r s)) ∧ Below w.heap.size w w' := by
  have hb0 : Below w.heap.size w ((w.alloc (.cells #[.int .i64 r.base, .slice A r.digits.length c] 41)).alloc (.cells #[.int .i64 s.base, .slice B s.digits.length d] 41)) := ((Below.refl _ _).alloc (Nat.le_refl _) _).alloc (by simp) _
  unfold SmallReg at hm hm2
  rcases k : (r.base == s.base) with _ | _
  · have HF : Hid (sameR r s = false) := by simp only [Hid, sameR]; rw [k]; rfl
    go_enter Tryd.func80, Tryd.ntmps80
    go_wp2
    go_ret
    exact ⟨ret_bool HF.out.symm, hb0⟩
  · have HF : Hid (sameR r s = decide (r.digits = s.digits)) := by simp only [Hid, sameR]; rw [k]; rfl
    go_enter Tryd.func80, Tryd.ntmps80
    go_wp2_with (go_at_call 106; refine (sameNumbers_any A B _ c _ d r.digits s.digits _ (hr.below hb0) (hs.below hb0) (by omega) (by omega)).mono ?_; rintro e w1 ⟨rfl, q, rfl⟩)
    go_ret
    exact ⟨ret_bool HF.out.symm, below_drewN hb0 _⟩
theorem l02Same_any (p q : Addr) (r s : Reg) (w : World) (hp : RegM w p r) (hq : RegM w q s) (hm : SmallReg r) (hm2 : SmallReg s) :
    Calls Tryd.prog 105 #[.pointer (some p), .pointer (some q)] w fun e w' => e = .returned (.bool (sameR r s)) ∧ ∃ m, w' = w.drewN m := by
  obtain ⟨A, c, ⟨ha, hb⟩, hr⟩ := hp
  obtain ⟨B, d, ⟨ha0, hb0⟩, hs⟩ := hq
  unfold SmallReg at hm hm2
  have K1 := Lib.hid (fun (m : Nat) => l00Same_any A B _ c _ d r.digits s.digits (w.drewN m) hr hs (by omega) (by omega))
  rcases k : (r.base == s.base) with _ | _
  · have HF : Hid (sameR r s = false) := by simp only [Hid, sameR]; rw [k]; rfl
    go_enter Tryd.func105, Tryd.ntmps105
    go_wp2_with fail
    go_quiet ((go_at_call 89; exact quiet_of_ex (K1.out _)))
    go_wp2
    go_ret
    exact ⟨ret_bool HF.out.symm, _, rfl⟩
  · have HF : Hid (sameR r s = decide (r.digits = s.digits)) := by simp only [Hid, sameR]; rw [k]; rfl
    go_enter Tryd.func105, Tryd.ntmps105
    go_wp2_with fail
    go_quiet ((go_at_call 89; exact quiet_of_ex (K1.out _)))
    go_wp2
    go_ret
    exact ⟨ret_bool HF.out.symm, _, rfl⟩
/-- the carry out of a digit with a kind of fault -/
def cstep (base t c kind : Int) : Int := if kind = 1 then 0 else if kind = 2 then 1 else if kind = 3 then (if t < base then 0 else 1) else if t + c < base then 0 else 1
set_option maxHeartbeats 400000 in
theorem l08Carry_any (base t c kind : Int) (w : World) (h1 : -100 ≤ t) (h2 : t ≤ 100) (h3 : 0 ≤ c) (h4 : c ≤ 1) :
    Calls Tryd.prog 126 #[.int .i64 base, .int .i64 t, .int .i64 c, .int .i64 kind] w fun e w' => e = .returned (.int .i64 (cstep base t c kind)) ∧ w = w' := by
  by_cases g1 : t + c < base
  all_goals by_cases k1 : kind = 1
  all_goals by_cases k2 : kind = 2
  all_goals by_cases k3 : kind = 3
  all_goals by_cases g2 : t < base
  all_goals try omega
  all_goals
    go_enter Tryd.func126, Tryd.ntmps126
    go_wp2
    go_ret
    exact ⟨ret_int (by unfold cstep; simp [*]), rfl⟩
end Go.Proofs.YtgpmngcemnnpmaaDoor

namespace Go.Proofs.YtgpmngcemnnpmaaDoor
open Go.RowKit Go.Sort
def sameM (t u : Tri) : Bool := sameR t.a u.a && sameR t.b u.b && sameR t.s u.s && (t.carry == u.carry)
end Go.Proofs.YtgpmngcemnnpmaaDoor

namespace Go.Proofs.YtgpmngcemnnpmaaDoor
open Go.RowKit Go.Sort
instance : Inhabited RS := ⟨⟨default, [], 0, 0⟩⟩
/-- where a run ends -/
noncomputable def endR (L : List Ins) (t : Tri) : RS := Classical.epsilon (fun s' => ∃ b', Ev L (.run 0 L.length) (startR t) s' b')
theorem endR_eq {L : List Ins} {t : Tri} {s' : RS} {b' : Bool} (h : Ev L (.run 0 L.length) (startR t) s' b') : endR L t = s' := by
  obtain ⟨b2, h2⟩ := Classical.epsilon_spec (p := fun s' => ∃ b', Ev L (.run 0 L.length) (startR t) s' b') ⟨s', b', h⟩
  exact (h2.one h).1
noncomputable def rpC (L : List Ins) (t : Tri) : Int := if vmach t && vprog L then (endR L t).code else 1
noncomputable def rpM (L : List Ins) (t : Tri) : Tri := if rpC L t = 0 ∧ vmach (endR L t).m = true then (endR L t).m else zTri
noncomputable def rpT (L : List Ins) (t : Tri) : List Int := if rpC L t = 0 ∧ (endR L t).tr.length ≤ 3001 then (endR L t).tr else []
theorem rp_bad {L : List Ins} {t : Tri} (h : (vmach t && vprog L) = false) : rpC L t = 1 ∧ rpM L t = zTri ∧ rpT L t = [] := by
  have h1 : rpC L t = 1 := by unfold rpC; rw [h]; rfl
  refine ⟨h1, ?_, ?_⟩
  · unfold rpM; rw [h1, if_neg (fun h => absurd h.1 (by decide))]
  · unfold rpT; rw [h1, if_neg (fun h => absurd h.1 (by decide))]
theorem rp_code {L : List Ins} {t : Tri} (h1 : vmach t = true) (h2 : vprog L = true) {s' : RS} {b' : Bool} (h : Ev L (.run 0 L.length) (startR t) s' b') (hc : ¬ s'.code = 0) : rpC L t = s'.code ∧ rpM L t = zTri ∧ rpT L t = [] := by
  have h3 : rpC L t = s'.code := by unfold rpC; rw [h1, h2, endR_eq h]; rfl
  refine ⟨h3, ?_, ?_⟩
  · unfold rpM; rw [h3, if_neg (fun h => hc h.1)]
  · unfold rpT; rw [h3, if_neg (fun h => hc h.1)]
theorem rp_fine {L : List Ins} {t : Tri} (h1 : vmach t = true) (h2 : vprog L = true) {s' : RS} {b' : Bool} (h : Ev L (.run 0 L.length) (startR t) s' b') (hg : s'.Good) (hc : s'.code = 0) : rpC L t = 0 ∧ rpM L t = s'.m ∧ rpT L t = s'.tr := by
  have h3 : rpC L t = 0 := by unfold rpC; rw [h1, h2, endR_eq h]; exact hc
  refine ⟨h3, ?_, ?_⟩
  · unfold rpM; rw [h3, endR_eq h, if_pos ⟨rfl, hg.m⟩]
  · unfold rpT; rw [h3, endR_eq h, if_pos ⟨rfl, by have := hg.tr; have := hg.top; omega⟩]
theorem rpM_len (L : List Ins) (t : Tri) : (rpM L t).a.digits.length ≤ 16 ∧ (rpM L t).b.digits.length ≤ 16 ∧ (rpM L t).s.digits.length ≤ 16 := by
  unfold rpM
  split
  · rename_i h
    have := sized_of h.2
    exact ⟨this.a, this.b, this.s⟩
  · simp [zTri]
theorem rpT_len (L : List Ins) (t : Tri) : (rpT L t).length ≤ 3001 := by
  unfold rpT
  split
  · rename_i h; exact h.2
  · simp
/-- what RunProgram returns -/
def RPRet (L : List Ins) (t : Tri) (w : World) (e : Ending) (w' : World) : Prop := ∃ A1 c1 A2 c2 A3 c3, e = .returned (.tuple #[.agg #[.int .i64 (rpM L t).a.base, .slice A1 (rpM L t).a.digits.length c1, .int .i64 (rpM L t).b.base, .slice A2 (rpM L t).b.digits.length c2, .int .i64 (rpM L t).s.base, .slice A3 (rpM L t).s.digits.length c3, .int .i64 (rpM L t).carry], .int .i64 ((rpT L t).length : Int), .int .i64 (rpC L t)]) ∧
  Kn w [rowI A3 c3 (rpM L t).s.digits, rowI A2 c2 (rpM L t).b.digits, rowI A1 c1 (rpM L t).a.digits] w'
/-- what TraceProgram returns -/
def TPRet (L : List Ins) (t : Tri) (w : World) (e : Ending) (w' : World) : Prop := ∃ A c, e = .returned (.tuple #[.slice A (rpT L t).length c, .int .i64 (rpC L t)]) ∧ Kn w [rowI A c (rpT L t)] w'
end Go.Proofs.YtgpmngcemnnpmaaDoor

namespace Go.Proofs.YtgpmngcemnnpmaaDoor
open Go.RowKit Go.Sort
theorem StrokeName_all (k : Int) (w : World) : Calls Tryd.prog 121 #[.int .i64 k] w fun e w' => e = .returned (.string (sname k)) ∧ Below w.heap.size w w' := by
  by_cases h : 1 ≤ k ∧ k ≤ 6
  · exact StrokeName_any k w h
  · have hs : sname k = ⟨#[]⟩ := by
      unfold sname
      rw [if_neg (by omega), if_neg (by omega), if_neg (by omega), if_neg (by omega), if_neg (by omega), if_neg (by omega)]
    have hb : betB k 1 6 = false := betB_false.2 (by omega)
    have KB := Lib.hid (fun W => calls_val (between_any k 1 6 W) (congrArg Value.bool hb))
    have KI : ∀ W, Calls Tryd.prog 148 #[.int .i64 k] W fun e w' => e = .returned (.bool false) ∧ W = w' := fun W => by
      go_enter Tryd.func148, Tryd.ntmps148
      go_wp2_with (go_at_call 71; refine (KB.out _).mono ?_; rintro e w' ⟨rfl, rfl⟩)
      go_ret
      exact ⟨rfl, rfl⟩
    have KI := Lib.hid KI
    rw [hs]
    clear hb h hs KB
    go_enter Tryd.func121, Tryd.ntmps121
    go_wp2_with (go_at_call 148; refine (KI.out _).mono ?_; rintro e w' ⟨rfl, rfl⟩)
    go_ret
    exact ⟨rfl, Below.refl _ _⟩
theorem specStrokeName_all (k : Int) (w : World) : Calls Tryd.prog 117 #[.int .i64 k] w fun e w' => e = .returned (.string (sname k)) ∧ Below w.heap.size w w' := by
  by_cases h : 1 ≤ k ∧ k ≤ 6
  · exact specStrokeName_any k w h
  · have hs : sname k = ⟨#[]⟩ := by
      unfold sname
      rw [if_neg (by omega), if_neg (by omega), if_neg (by omega), if_neg (by omega), if_neg (by omega), if_neg (by omega)]
    have hb : betB k 1 6 = false := betB_false.2 (by omega)
    have KB := Lib.hid (fun W => calls_val (l00In_any k 1 6 W) (congrArg Value.bool hb))
    have KI : ∀ W, Calls Tryd.prog 141 #[.int .i64 k] W fun e w' => e = .returned (.bool false) ∧ W = w' := fun W => by
      go_enter Tryd.func141, Tryd.ntmps141
      go_wp2_with (go_at_call 77; refine (KB.out _).mono ?_; rintro e w' ⟨rfl, rfl⟩)
      go_ret
      exact ⟨rfl, rfl⟩
    have KI := Lib.hid KI
    rw [hs]
    clear hb h hs KB
    go_enter Tryd.func117, Tryd.ntmps117
    go_wp2_with (go_at_call 141; refine (KI.out _).mono ?_; rintro e w' ⟨rfl, rfl⟩)
    go_ret
    exact ⟨rfl, by first | exact Below.refl _ _ | exact (Below.refl _ _).alloc (Nat.le_refl _) _⟩
/-- a recorded session -/
def startT (t : Tri) : ByteArray := startW ++ mtext t
def recL (t : Tri) (s : RS) : List ByteArray := startT t :: (s.tr.map sname ++ [showT s.m, endW])
def hasSet (L : List Ins) : Bool := L.any (fun x => x.op == 1)
noncomputable def rcC (L : List Ins) (t : Tri) : Int :=
  if (vmach t && vprog L) = false then 1 else if hasSet L then 6 else if (endR L t).code ≠ 0 then (endR L t).code else if (recL t (endR L t)).length > 100 then 5 else 0
noncomputable def rcR (L : List Ins) (t : Tri) : List ByteArray := if rcC L t = 0 then recL t (endR L t) else []
theorem rcR_len (L : List Ins) (t : Tri) : (rcR L t).length ≤ 100 := by
  unfold rcR
  split
  · rename_i h
    unfold rcC at h
    split at h
    · cases h
    · split at h
      · cases h
      · split at h
        · rename_i h1; exact absurd h h1
        · split at h
          · cases h
          · omega
  · simp
theorem rc_bad {L : List Ins} {t : Tri} (h : (vmach t && vprog L) = false) : rcC L t = 1 ∧ rcR L t = [] := by
  have h1 : rcC L t = 1 := by unfold rcC; rw [if_pos h]
  exact ⟨h1, by unfold rcR; rw [h1, if_neg (by decide)]⟩
theorem rc_set {L : List Ins} {t : Tri} (h : (vmach t && vprog L) = true) (hs : hasSet L = true) : rcC L t = 6 ∧ rcR L t = [] := by
  have h1 : rcC L t = 6 := by unfold rcC; rw [if_neg (by rw [h]; decide), if_pos hs]
  exact ⟨h1, by unfold rcR; rw [h1, if_neg (by decide)]⟩
theorem rc_code {L : List Ins} {t : Tri} (h : (vmach t && vprog L) = true) (hs : hasSet L = false) {s' : RS} {b' : Bool} (he : Ev L (.run 0 L.length) (startR t) s' b') (hc : s'.code ≠ 0) : rcC L t = s'.code ∧ rcR L t = [] := by
  have h1 : rcC L t = s'.code := by unfold rcC; rw [if_neg (by rw [h]; decide), hs, if_neg (by decide), endR_eq he, if_pos hc]
  exact ⟨h1, by unfold rcR; rw [h1, if_neg hc]⟩
theorem rc_fine {L : List Ins} {t : Tri} (h : (vmach t && vprog L) = true) (hs : hasSet L = false) {s' : RS} {b' : Bool} (he : Ev L (.run 0 L.length) (startR t) s' b') (hc : s'.code = 0) : rcC L t = (if (recL t s').length > 100 then 5 else 0) ∧ rcR L t = (if (recL t s').length > 100 then [] else recL t s') := by
  have h1 : rcC L t = (if (recL t s').length > 100 then 5 else 0) := by
    unfold rcC; rw [if_neg (by rw [h]; decide), hs, if_neg (by decide), endR_eq he, if_neg (fun h => h hc)]
  refine ⟨h1, ?_⟩
  unfold rcR
  rw [h1, endR_eq he]
  by_cases hl : (recL t s').length > 100
  · rw [if_pos hl, if_neg (by decide), if_pos hl]
  · rw [if_neg hl, if_pos rfl, if_neg hl]
theorem hasSet_take_succ {L : List Ins} {k : Nat} (h : k < L.length) : hasSet (L.take (k + 1)) = (hasSet (L.take k) || (L[k].op == 1)) := by
  unfold hasSet
  rw [List.take_succ_eq_append_getElem h, List.any_append]; simp
theorem hasSet_at {L : List Ins} {k : Nat} (h : k < L.length) (h1 : (L[k].op == 1) = true) : hasSet L = true := by
  unfold hasSet
  rw [List.any_eq_true]
  exact ⟨_, List.getElem_mem h, h1⟩
theorem mtext_size {t : Tri} (hv : vmach t = true) : (mtext t).size ≤ 300 := by
  obtain ⟨o1, o2, o3, y0, y1⟩ := vmach_parts hv
  have l1 := rtext_len t.a
  have l2 := rtext_len t.b
  have l3 := rtext_len t.s
  have l4 := dec_len t.carry (by omega) (by omega)
  unfold mtext
  rw [if_pos hv]
  unfold mtextL
  have e1 : (⟨#[32]⟩ : ByteArray).size = 1 := rfl
  simp only [ByteArray.size_append, size_mk, e1]
  omega
theorem small_of' {t : Tri} (h : vmach t = true) : SmallTri t := by
  have hz := sized_of h
  exact ⟨by have := hz.a; unfold SmallReg; omega, by have := hz.b; unfold SmallReg; omega, by have := hz.s; unfold SmallReg; omega⟩
end Go.Proofs.YtgpmngcemnnpmaaDoor

namespace Go.Proofs.YtgpmngcemnnpmaaDoor
open Go.RowKit Go.Sort
theorem gtrans {w a b : World} {o : Option Nat} (h1 : w.grownBy a o) (h2 : a.grownBy b o) : w.grownBy b o :=
  ⟨h2.os.trans h1.os, h2.tape.trans h1.tape, h2.output.trans h1.output, Nat.le_trans h1.size h2.size, fun k hk hne => (h2.block k (Nat.lt_of_lt_of_le hk h1.size) hne).trans (h1.block k hk hne)⟩
/-- a source of draws at block b, from which at most N draws were taken -/
def Src (w : World) (b N : Nat) : Prop := ∃ (A : Option Addr) (n c k : Nat) (seed : Int) (bs : List UInt8), w.cell? ⟨b, 0, none⟩ = some (.slice A n c) ∧ w.cell? ⟨b, 1, none⟩ = some (.int .i64 (k : Int)) ∧ w.cell? ⟨b, 2, none⟩ = some (.int .u64 seed) ∧
  w.frozen? ⟨b, 1, none⟩ = false ∧ w.frozen? ⟨b, 2, none⟩ = false ∧ RB w A n bs ∧ k ≤ N ∧ n ≤ 9223372036854775807 ∧ (0 < n → ∀ ad, A = some ad → ad.block < b) ∧ b < w.heap.size
theorem low_byte (x : Int) : 0 ≤ wrap64 (bits .and .u64 (IntKind.u64.wrap x / 1099511627776) 255) ∧ wrap64 (bits .and .u64 (IntKind.u64.wrap x / 1099511627776) 255) ≤ 255 := by
  obtain ⟨a, ha, ha2⟩ : ∃ a : Nat, IntKind.u64.wrap x / 1099511627776 = (a : Int) ∧ a < 18446744073709551616 := by
    rw [IntKind.wrap_u64]
    exact ⟨(x % 18446744073709551616 / 1099511627776).toNat, by omega, by omega⟩
  rw [ha]
  have h := bits_and_u64_nat a 255 ha2 (by omega)
  have h2 : a &&& 255 ≤ 255 := Nat.and_le_right
  have h3 : bits .and .u64 (a : Int) 255 = ((a &&& 255 : Nat) : Int) := h
  rw [h3]
  unfold wrap64
  omega
theorem src_step {w : World} {b N k n c : Nat} {A : Option Addr} {seed : Int} {bs : List UInt8} (c0 : w.cell? ⟨b, 0, none⟩ = some (.slice A n c)) (c1 : w.cell? ⟨b, 1, none⟩ = some (.int .i64 (k : Int))) (c2 : w.cell? ⟨b, 2, none⟩ = some (.int .u64 seed))
    (f1 : w.frozen? ⟨b, 1, none⟩ = false) (f2 : w.frozen? ⟨b, 2, none⟩ = false) (hb : RB w A n bs) (hk : k ≤ N) (hn : n ≤ 9223372036854775807) (hne : 0 < n → ∀ ad, A = some ad → ad.block < b) (hlt : b < w.heap.size) (s : Int) :
    Src ((w.setCell ⟨b, 1, none⟩ (.int .i64 ((k : Int) + 1))).setCell ⟨b, 2, none⟩ (.int .u64 s)) b (N + 1) ∧ w.grownBy ((w.setCell ⟨b, 1, none⟩ (.int .i64 ((k : Int) + 1))).setCell ⟨b, 2, none⟩ (.int .u64 s)) (some b) := by
  refine ⟨⟨A, n, c, k + 1, s, bs, by go_simp, by go_simp, by go_simp, by go_simp, by go_simp, ⟨hb.1, fun h0 => ?_⟩, by omega, hn, hne, by simp [World.setCell]; exact hlt⟩, ⟨rfl, rfl, rfl, by simp [World.setCell], fun g _ hg => ?_⟩⟩
  · obtain ⟨ad, e, hl, hc⟩ := hb.2 h0
    refine ⟨ad, e, by simp [World.setCell]; exact hl, fun j u hu => ?_⟩
    have h1 : ad.block ≠ b := Nat.ne_of_lt (hne h0 ad e)
    rw [World.cell?_setCell_far _ _ _ _ (by rw [block_of_add]; exact Ne.symm h1), World.cell?_setCell_far _ _ _ _ (by rw [block_of_add]; exact Ne.symm h1)]
    exact hc j u hu
  · rw [heap_setCell_other _ _ _ _ (fun e => hg (by rw [e])), heap_setCell_other _ _ _ _ (fun e => hg (by rw [e]))]
theorem Src.drewN {w : World} {b N : Nat} (h : Src w b N) (q : Nat) : Src (w.drewN q) b N := h
theorem gDrew {w w' : World} {o : Option Nat} (h : w.grownBy w' o) (q : Nat) : w.grownBy (w'.drewN q) o := ⟨h.os, h.tape, h.output, h.size, h.block⟩
theorem gDrewL {w w' : World} {o : Option Nat} {q : Nat} (h : (w.drewN q).grownBy w' o) : w.grownBy w' o := ⟨h.os, h.tape, h.output, h.size, h.block⟩
set_option maxHeartbeats 1600000 in
theorem srcNext_any (b N : Nat) (w : World) (h : Src w b N) (hN : N ≤ 1000000) :
    Calls Tryd.prog 101 #[.pointer (some ⟨b, 0, none⟩)] w fun e w' => ∃ x : Int, e = .returned (.int .i64 x) ∧ 0 ≤ x ∧ x ≤ 255 ∧ Src w' b (N + 1) ∧ w.grownBy w' (some b) := by
  obtain ⟨A, n, c, k, seed, bs, c0, c1, c2, f1, f2, hb, hk, hn, hne, hlt⟩ := h
  have HB := Lib.hid hb
  by_cases hkn : k < n
  · obtain ⟨ad, hA, hl, hc⟩ := hb.2 (by omega)
    have hbl : k < bs.length := by have := hb.1; omega
    have hcb := hc k _ (List.getElem?_eq_getElem hbl)
    have hi0 : (0 : Int) ≤ (k : Int) := by omega
    have hi1 : (k : Int) < (n : Int) := by omega
    have hi2 : (k : Int) + 1 ≤ (n : Int) := by omega
    unfold byteV at hcb
    obtain ⟨u, hu⟩ : ∃ u : Nat, u = bs[k].toNat := ⟨_, rfl⟩
    have hu2 : u < 256 := by rw [hu]; exact UInt8.toNat_lt _
    rw [← hu] at hcb
    subst hA
    clear hu hb hc
    go_enter Tryd.func101, Tryd.ntmps101
    go_wp2
    go_quiet (fail)
    go_wp2
    go_quiet (fail)
    go_wp2
    go_quiet (fail)
    go_wp2
    go_ret
    refine ⟨_, rfl, by omega, by omega, ?_⟩
    have z := fun q => src_step (w := w.drewN q) c0 c1 c2 f1 f2 HB.out hk hn hne hlt
    exact ⟨(z _ _).1.drewN _, gDrew (gDrewL (z _ _).2) _⟩
  · have hi1 : ¬ (k : Int) < (n : Int) := by omega
    have hi2 : ¬ (k : Int) + 1 ≤ (n : Int) := by omega
    clear hb
    go_enter Tryd.func101, Tryd.ntmps101
    go_wp2
    go_quiet (fail)
    go_wp2
    go_quiet (fail)
    go_wp2
    go_ret
    obtain ⟨q1, q2⟩ := low_byte (IntKind.u64.wrap (IntKind.u64.wrap (seed * 6364136223846793005)) + 1442695040888963407)
    refine ⟨_, rfl, q1, q2, ?_⟩
    have z := fun q => src_step (w := w.drewN q) c0 c1 c2 f1 f2 HB.out hk hn hne hlt
    exact ⟨(z _ _).1.drewN _, gDrew (gDrewL (z _ _).2) _⟩
theorem Src.keep {w w' : World} {b N : Nat} (h : Src w b N) (hs : w.heap.size ≤ w'.heap.size) (hk : ∀ k, k ≤ b → w'.heap[k]? = w.heap[k]?) : Src w' b N := by
  obtain ⟨A, n, c, k, seed, bs, c0, c1, c2, f1, f2, hb, hkN, hn, hne, hlt⟩ := h
  have hcell : ∀ o, w'.cell? ⟨b, o, none⟩ = w.cell? ⟨b, o, none⟩ := fun o => World.cell?_of_block (hk b (Nat.le_refl _))
  have hfz : ∀ o, w'.frozen? ⟨b, o, none⟩ = w.frozen? ⟨b, o, none⟩ := fun o => World.frozen?_of_block (hk b (Nat.le_refl _))
  refine ⟨A, n, c, k, seed, bs, by rw [hcell]; exact c0, by rw [hcell]; exact c1, by rw [hcell]; exact c2, by rw [hfz]; exact f1, by rw [hfz]; exact f2, ⟨hb.1, fun h0 => ?_⟩, hkN, hn, hne, Nat.lt_of_lt_of_le hlt hs⟩
  obtain ⟨ad, e, hl, hc⟩ := hb.2 h0
  refine ⟨ad, e, Nat.lt_of_lt_of_le hl hs, fun j u hu => ?_⟩
  rw [World.cell?_of_block (w := w) (by rw [block_of_add]; exact hk _ (Nat.le_of_lt (hne h0 ad e)))]
  exact hc j u hu
theorem Src.mono {w : World} {b N M : Nat} (h : Src w b N) (hm : N ≤ M) : Src w b M := by
  obtain ⟨A, n, c, k, seed, bs, c0, c1, c2, f1, f2, hb, hkN, hr⟩ := h
  exact ⟨A, n, c, k, seed, bs, c0, c1, c2, f1, f2, hb, by omega, hr⟩
theorem Src.lt {w : World} {b N : Nat} (h : Src w b N) : b < w.heap.size := by
  obtain ⟨A, n, c, k, seed, bs, c0, c1, c2, f1, f2, hb, hkN, hn, hne, hlt⟩ := h
  exact hlt
theorem gRefl (w : World) (o : Option Nat) : w.grownBy w o := ⟨rfl, rfl, rfl, Nat.le_refl _, fun _ _ _ => rfl⟩
theorem gMore {w a c : World} {o o2 : Option Nat} (h1 : w.grownBy a o) (h2 : a.grownBy c o2) (ho : ∀ k, o2 = some k → w.heap.size ≤ k) : w.grownBy c o :=
  ⟨h2.os.trans h1.os, h2.tape.trans h1.tape, h2.output.trans h1.output, Nat.le_trans h1.size h2.size, fun k hk hne => (h2.block k (Nat.lt_of_lt_of_le hk h1.size) (fun e => by have := ho k e.symm; omega)).trans (h1.block k hk hne)⟩
theorem gBelow {w a c : World} {o : Option Nat} (h1 : w.grownBy a o) (h2 : Below a.heap.size a c) : w.grownBy c o :=
  ⟨h2.os.trans h1.os, h2.tape.trans h1.tape, h2.output.trans h1.output, Nat.le_trans h1.size h2.size, fun k hk hne => (h2.block k (Nat.lt_of_lt_of_le hk h1.size)).trans (h1.block k hk hne)⟩
theorem ofBelow {w c : World} (h2 : Below w.heap.size w c) (o : Option Nat) : w.grownBy c o := gBelow (gRefl w o) h2
/-- from a source's own block on, everything is new -/
theorem belowG {B b : Nat} {a w c : World} (h : Below B a w) (h2 : w.grownBy c (some b)) (hb : B ≤ b) (hs : B ≤ w.heap.size) : Below B a c :=
  h.grown h2 hs (fun k hk => by injection hk with hk; omega)
theorem Src.below {w w' : World} {b N : Nat} (h : Src w b N) (hb : Below w.heap.size w w') : Src w' b N := h.keep hb.size (fun k hk => hb.block k (Nat.lt_of_le_of_lt hk h.lt))
theorem OwnI.grown {w w' : World} {base b : Nat} {v : Value} {ds : List Int} (h : OwnI w base v ds) (hg : w.grownBy w' (some b)) (hb : b < base) : OwnI w' base v ds := by
  refine ⟨h.1, ?_⟩
  rcases h.2 with hn | ⟨g, cap, cur, rfl, hbg, hc, rest⟩
  · exact .inl hn
  · exact .inr ⟨g, cap, cur, rfl, hbg, by rw [hg.block g (Array.getElem?_eq_some_iff.1 hc).1 (fun e => by injection e with e; omega)]; exact hc, rest⟩
theorem ownI_lo {w : World} {base : Nat} {v : Value} {ds : List Int} (h : OwnI w base v ds) : ∀ k, v.ownBlock = some k → base ≤ k := by
  intro k hk
  rcases h.2 with ⟨rfl, -⟩ | ⟨g, cap, cur, rfl, hb, -⟩
  · simp [Value.ownBlock] at hk
  · simp only [Value.ownBlock, Option.some.injEq] at hk; omega
set_option maxHeartbeats 1600000 in
theorem pick_any (b N : Nat) (n : Int) (w : World) (h : Src w b N) (hN : N ≤ 999999) :
    Calls Tryd.prog 70 #[.pointer (some ⟨b, 0, none⟩), .int .i64 n] w fun e w' => ∃ x : Int, e = .returned (.int .i64 x) ∧ 0 ≤ x ∧ (x < n ∨ (n ≤ 1 ∧ x = 0)) ∧ Src w' b (N + 2) ∧ w.grownBy w' (some b) := by
  have H := Lib.hid h; clear h
  by_cases h1 : n ≤ 1
  · go_enter Tryd.func70, Tryd.ntmps70
    go_wp2
    go_ret
    exact ⟨0, rfl, by omega, .inr ⟨h1, rfl⟩, H.out.mono (by omega), gRefl _ _⟩
  · by_cases h2 : 200 < n
    · go_enter Tryd.func70, Tryd.ntmps70
      go_wp2_with fail
      refine (srcNext_any b N w H.out (by omega)).mono ?_; rintro e w1 ⟨x, rfl, x0, x1, hs1, hg1⟩
      have HS1 := Lib.hid hs1; clear hs1
      have HG1 := Lib.hid hg1; clear hg1
      go_wp2_with fail
      refine (srcNext_any b (N + 1) w1 HS1.out (by omega)).mono ?_; rintro e w2 ⟨y, rfl, y0, y1, hs2, hg2⟩
      have HS2 := Lib.hid hs2; clear hs2
      have HG2 := Lib.hid (gtrans HG1.out hg2); clear hg2
      go_wp2
      go_ret
      exact ⟨_, rfl, Int.emod_nonneg _ (by omega), .inl (Int.emod_lt_of_pos _ (by omega)), HS2.out, HG2.out⟩
    · go_enter Tryd.func70, Tryd.ntmps70
      go_wp2_with fail
      refine (srcNext_any b N w H.out (by omega)).mono ?_; rintro e w1 ⟨x, rfl, x0, x1, hs1, hg1⟩
      have HS1 := Lib.hid hs1; clear hs1
      have HG1 := Lib.hid hg1; clear hg1
      go_wp2
      go_ret
      exact ⟨_, rfl, Int.emod_nonneg _ (by omega), .inl (Int.emod_lt_of_pos _ (by omega)), HS1.out.mono (by omega), HG1.out⟩
set_option maxHeartbeats 800000 in
theorem one_any (b N : Nat) (n : Int) (w : World) (h : Src w b N) (hN : N ≤ 999999) :
    Calls Tryd.prog 69 #[.pointer (some ⟨b, 0, none⟩), .int .i64 n] w fun e w' => ∃ x : Bool, e = .returned (.bool x) ∧ Src w' b (N + 2) ∧ w.grownBy w' (some b) := by
  have H := Lib.hid h; clear h
  go_enter Tryd.func69, Tryd.ntmps69
  go_wp2_with fail
  refine (pick_any b N n w H.out hN).mono ?_; rintro e w1 ⟨x, rfl, x0, -, hs1, hg1⟩
  have HS1 := Lib.hid hs1; clear hs1
  have HG1 := Lib.hid hg1; clear hg1
  go_wp2
  go_ret
  exact ⟨_, rfl, HS1.out, HG1.out⟩
set_option maxHeartbeats 800000 in
theorem l00From_any (A : Option Addr) (n c : Nat) (bs : List UInt8) (w : World) (hb : RB w A n bs) (hn : n ≤ 9223372036854775807) :
    Calls Tryd.prog 36 #[.slice A n c] w fun e w' => e = .returned (.pointer (some ⟨w.heap.size, 0, none⟩)) ∧ Src w' w.heap.size 0 ∧ Below w.heap.size w w' := by
  have HB := Lib.hid hb; clear hb
  go_enter Tryd.func36, Tryd.ntmps36
  go_wp2
  go_ret
  have hba : Below w.heap.size w (w.alloc (.cells #[.slice A n c, .int .i64 0, .int .u64 0] 112)) := (Below.refl _ _).alloc (Nat.le_refl _) _
  exact ⟨rfl, ⟨A, n, c, 0, 0, bs, by go_simp, by go_simp, by go_simp, by go_simp, by go_simp, HB.out.below hba, Nat.le_refl _, hn, (fun h0 ad e => by obtain ⟨ad', e', hl, -⟩ := HB.out.2 h0; rw [e] at e'; injection e' with e'; rw [e']; exact hl), by simp⟩, hba⟩
end Go.Proofs.YtgpmngcemnnpmaaDoor

namespace Go.Proofs.YtgpmngcemnnpmaaDoor
open Go.RowKit Go.Sort
theorem sameR_refl (r : Reg) : sameR r r = true := by simp [sameR]
theorem sameM_refl (t : Tri) : sameM t t = true := by simp [sameM, sameR_refl]
set_option maxHeartbeats 800000 in
theorem a2Long2_any (A B : Option Addr) (n c m d : Nat) (w : World) (hn : n ≤ 9223372036854775807) (hm : m ≤ 9223372036854775807) :
    Calls Tryd.prog 6 #[.slice A n c, .slice B m d] w fun e w' => e = .returned (.bool (decide (3000 < n) || decide (3000 < m))) ∧ w = w' := by
  by_cases h : 3000 < n
  · have h1 : (3000 : Int) < (n : Int) := by omega
    have HF : Hid ((decide (3000 < n) || decide (3000 < m)) = true) := by simp [Hid, h]
    obtain ⟨R, hR⟩ : ∃ R, (decide (3000 < n) || decide (3000 < m)) = R := ⟨_, rfl⟩
    rw [hR] at HF ⊢
    clear hR
    go_enter Tryd.func6, Tryd.ntmps6
    go_wp2
    go_ret
    exact ⟨by first | exact ret_bool HF.out.symm | rfl, rfl⟩
  · by_cases h2 : 3000 < m
    · have h1 : ¬ (3000 : Int) < (n : Int) := by omega
      have h3 : (3000 : Int) < (m : Int) := by omega
      have HF : Hid ((decide (3000 < n) || decide (3000 < m)) = true) := by simp [Hid, h2]
      obtain ⟨R, hR⟩ : ∃ R, (decide (3000 < n) || decide (3000 < m)) = R := ⟨_, rfl⟩
      rw [hR] at HF ⊢
      clear hR
      have hd : decide ((3000 : Int) < (n : Int)) = false := decide_eq_false h1
      go_enter Tryd.func6, Tryd.ntmps6
      go_wp2
      go_ret
      exact ⟨by first | exact ret_bool HF.out.symm | rfl, rfl⟩
    · have h1 : ¬ (3000 : Int) < (n : Int) := by omega
      have h3 : ¬ (3000 : Int) < (m : Int) := by omega
      have HF : Hid ((decide (3000 < n) || decide (3000 < m)) = false) := by simp [Hid, h, h2]
      obtain ⟨R, hR⟩ : ∃ R, (decide (3000 < n) || decide (3000 < m)) = R := ⟨_, rfl⟩
      rw [hR] at HF ⊢
      clear hR
      have hd : decide ((3000 : Int) < (n : Int)) = false := decide_eq_false h1
      have hd2 : decide ((3000 : Int) < (m : Int)) = false := decide_eq_false h3
      go_enter Tryd.func6, Tryd.ntmps6
      go_wp2
      go_ret
      exact ⟨by first | exact ret_bool HF.out.symm | rfl, rfl⟩
set_option maxHeartbeats 800000 in
theorem a2At0_any (A : Option Addr) (n c : Nat) (bs : List UInt8) (q : Int) (w : World) (hb : RB w A n bs) (hn : n ≤ 9223372036854775807) (hq : 1 ≤ q ∧ q ≤ 1000) :
    Calls Tryd.prog 7 #[.slice A n c, .int .i64 0, .int .i64 q] w fun e w' => (∃ x : Int, e = .returned (.int .i64 x) ∧ 0 ≤ x ∧ x < q) ∧ w = w' := by
  rcases Nat.eq_zero_or_pos n with h0 | h0
  · subst h0
    clear hb
    go_enter Tryd.func7, Tryd.ntmps7
    go_wp2_with fail
    go_ret
    exact ⟨⟨0, rfl, by omega, by omega⟩, rfl⟩
  · obtain ⟨ad, rfl, hl, hc⟩ := hb.2 h0
    have hl0 : 0 < bs.length := by rw [hb.1]; exact h0
    obtain ⟨z, hz⟩ : ∃ z : Nat, bs[0].toNat = z := ⟨_, rfl⟩
    have hc0 := hc 0 bs[0] (by simp [hl0])
    have hz2 : z < 256 := by rw [← hz]; exact bs[0].toNat_lt
    unfold byteV at hc0
    rw [hz] at hc0
    have hc1 : w.cell? ad = some (.int .u8 (z : Int)) := by
      have e0 : ad.add 0 = ad := by unfold Addr.add; split <;> simp_all
      rw [e0] at hc0; exact hc0
    clear hc0
    have i1 : ¬ (n : Int) ≤ 0 := by omega
    have i2 : (0 : Int) < (n : Int) := by omega
    have i3 : ¬ q < 1 := by omega
    have i4 : ¬ q = 0 := by omega
    have i5 : q ≠ 0 := by omega
    have hm0 := Int.emod_nonneg (z : Int) i5
    have hm1 := Int.emod_lt_of_pos (z : Int) (show 0 < q by omega)
    have hw1 : IntKind.i64.wrap (z : Int) = z := wrapI64 (by omega)
    have hw2 : IntKind.i64.wrap ((z : Int) % q) = (z : Int) % q := wrapI64 (by omega)
    have hw3 : IntKind.i64.wrap ((z : Int).tmod q) = (z : Int) % q := by rw [Int.tmod_eq_emod_of_nonneg (by omega)]; exact hw2
    clear hc hb hz hl
    go_enter Tryd.func7, Tryd.ntmps7
    go_wp2_with fail
    go_ret
    exact ⟨⟨(z : Int) % q, rfl, hm0, hm1⟩, rfl⟩
theorem StrokeBack_any (k : Int) (w : World) (hk : 1 ≤ k ∧ k ≤ 6) :
    Calls Tryd.prog 100 #[.int .i64 k] w fun e w' => e = .returned (.tuple #[.int .i64 (if k ≤ 4 then backK k else 0), .int .i64 (if k ≤ 4 then 0 else 3)]) ∧ w = w' := by
  have hk' : k = 1 ∨ k = 2 ∨ k = 3 ∨ k = 4 ∨ k = 5 ∨ k = 6 := by omega
  clear hk
  rcases hk' with rfl | rfl | rfl | rfl | rfl | rfl <;>
  · go_enter Tryd.func100, Tryd.ntmps100
    go_wp2_with fail
    go_ret2
    exact ⟨rfl, rfl⟩
/-- a machine, a bell and a code -/
def DSRet (r : Tri × Bool) (w : World) (e : Ending) (w' : World) : Prop := ∃ E1 f1 E2 f2 E3 f3, e = .returned (.tuple #[.agg #[.int .i64 r.1.a.base, .slice E1 r.1.a.digits.length f1, .int .i64 r.1.b.base, .slice E2 r.1.b.digits.length f2, .int .i64 r.1.s.base, .slice E3 r.1.s.digits.length f3, .int .i64 r.1.carry], .bool r.2, .int .i64 0]) ∧ Kn w [rowI E3 f3 r.1.s.digits, rowI E2 f2 r.1.b.digits, rowI E1 f1 r.1.a.digits] w'
end Go.Proofs.YtgpmngcemnnpmaaDoor

namespace Go.Proofs.YtgpmngcemnnpmaaDoor
open Go.RowKit Go.Sort
/-! shortened sessions, plainly -/
def undoB (a b : List UInt8) : Bool := decide (1 ≤ kindOf a ∧ kindOf a ≤ 4) && (backK (kindOf a) == kindOf b)
structure Kept where
  at_ : Nat
  text : ByteArray
/-- is the last kept line undone? -/
def lastUndo (bel : List Int) (K : List Kept) (i : Nat) (L : ByteArray) : Bool :=
  match K.getLast? with
  | none => false
  | some k => undoB (strB k.text) (strB L) && !(decide ((k.at_ : Int) ∈ bel)) && !(decide ((i : Int) ∈ bel))
def stepKp (bel : List Int) (K : List Kept) (i : Nat) (L : ByteArray) : List Kept := if lastUndo bel K i L then K.dropLast else K ++ [⟨i, L⟩]
def keptU (bel : List Int) (ss : List ByteArray) : Nat → List Kept
  | 0 => []
  | k + 1 => stepKp bel (keptU bel ss k) k (ss.getD k ByteArray.empty)
theorem stepKp_len (bel : List Int) (K : List Kept) (i : Nat) (L : ByteArray) : (stepKp bel K i L).length ≤ K.length + 1 := by
  unfold stepKp
  split
  · rw [List.length_dropLast]; omega
  · simp
theorem keptU_len (bel : List Int) (ss : List ByteArray) (k : Nat) : (keptU bel ss k).length ≤ k := by
  induction k with
  | zero => exact Nat.le_refl _
  | succ k ih => have := stepKp_len bel (keptU bel ss k) k (ss.getD k ByteArray.empty); show (stepKp bel (keptU bel ss k) k _).length ≤ _; omega
theorem stepKp_at (bel : List Int) (K : List Kept) (i : Nat) (L : ByteArray) (h : ∀ x ∈ K, x.at_ < i) : ∀ x ∈ stepKp bel K i L, x.at_ < i + 1 := by
  intro x hx
  unfold stepKp at hx
  split at hx
  · have := h x (List.dropLast_subset _ hx); omega
  · rcases List.mem_append.1 hx with hx | hx
    · have := h x hx; omega
    · rw [List.mem_singleton.1 hx]; show i < i + 1; omega
theorem keptU_at (bel : List Int) (ss : List ByteArray) (k : Nat) : ∀ x ∈ keptU bel ss k, x.at_ < k := by
  induction k with
  | zero => intro x hx; cases hx
  | succ k ih => exact stepKp_at bel _ k _ ih
def shoL (ss : List ByteArray) : List ByteArray := if wholeC (ss.map strB) = 0 then (keptU (runS (ss.map strB)).1.bel ss ss.length).map Kept.text else []
theorem lineS_bel (s : SS) (i : Int) (b : List UInt8) : (lineS s i b).1.bel = s.bel ∨ (lineS s i b).1.bel = s.bel ++ [i] := by
  unfold lineS
  split
  · exact .inl rfl
  split
  · show (if _ then _ else _ : List Int) = _ ∨ _
    split
    · exact .inr rfl
    · exact .inl rfl
  split
  · exact .inl rfl
  split
  · split <;> exact .inl rfl
  split
  · split <;> exact .inl rfl
  · exact .inl rfl
theorem goS_bel : ∀ (l : List (List UInt8)) (s : SS) (i : Int), 0 ≤ i → (∀ j ∈ s.bel, 0 ≤ j ∧ j < i) → ∀ j ∈ (goS s i l).1.bel, 0 ≤ j ∧ j < i + l.length
  | [], s, i, h0, h, j, hj => by
    unfold goS at hj
    split at hj
    · have := h j hj; simp; omega
    · have := h j hj; simp; omega
  | b :: t, s, i, h0, h, j, hj => by
    have hn : ∀ j ∈ (lineS s i b).1.bel, 0 ≤ j ∧ j < i + 1 := by
      intro j hj
      rcases lineS_bel s i b with e | e <;> rw [e] at hj
      · have := h j hj; omega
      · rcases List.mem_append.1 hj with hj | hj
        · have := h j hj; omega
        · rw [List.mem_singleton.1 hj]; omega
    unfold goS at hj
    simp only [List.length_cons]
    split at hj
    · have := hn j hj; omega
    · have := goS_bel t (lineS s i b).1 (i + 1) (by omega) hn j hj
      omega
theorem runS_bel (l : List (List UInt8)) : ∀ j ∈ (runS l).1.bel, 0 ≤ j ∧ j < l.length + 1 := by
  intro j hj
  cases l with
  | nil => have hj : j ∈ ([] : List Int) := hj; cases hj
  | cons b t =>
    by_cases h : (begins startB b && (rdM (b.drop 6)).isSome) = true
    · have e : runS (b :: t) = goS ⟨rdMach (b.drop 6), rdMach (b.drop 6), [], [], false⟩ 1 t := if_pos h
      rw [e] at hj
      have := goS_bel t ⟨rdMach (b.drop 6), rdMach (b.drop 6), [], [], false⟩ 1 (by omega) (fun j h => by have h : j ∈ ([] : List Int) := h; cases h) j hj
      simp only [List.length_cons]; omega
    · have e : runS (b :: t) = (zSS, 0, 1) := if_neg h
      rw [e] at hj
      have hj : j ∈ ([] : List Int) := hj
      cases hj
theorem backK_bd' {k : Int} (h : 1 ≤ k ∧ k ≤ 4) : 1 ≤ backK k ∧ backK k ≤ 4 := by
  have h' : k = 1 ∨ k = 2 ∨ k = 3 ∨ k = 4 := by omega
  rcases h' with rfl | rfl | rfl | rfl <;> decide
def sbCode (k : Int) : Int := if 1 ≤ k ∧ k ≤ 4 then 0 else if k = 5 ∨ k = 6 then 3 else 2
def sbBack (k : Int) : Int := if 1 ≤ k ∧ k ≤ 4 then backK k else 0
theorem StrokeBack_all (k : Int) (w : World) (hk : 0 ≤ k ∧ k ≤ 6) :
    Calls Tryd.prog 100 #[.int .i64 k] w fun e w' => e = .returned (.tuple #[.int .i64 (sbBack k), .int .i64 (sbCode k)]) ∧ w = w' := by
  have hk' : k = 0 ∨ k = 1 ∨ k = 2 ∨ k = 3 ∨ k = 4 ∨ k = 5 ∨ k = 6 := by omega
  clear hk
  rcases hk' with rfl | rfl | rfl | rfl | rfl | rfl | rfl <;>
  · go_enter Tryd.func100, Tryd.ntmps100
    go_wp2_with fail
    go_ret2
    exact ⟨rfl, rfl⟩
theorem specStrokeBack_all (k : Int) (w : World) (hk : 0 ≤ k ∧ k ≤ 6) :
    Calls Tryd.prog 97 #[.int .i64 k] w fun e w' => e = .returned (.tuple #[.int .i64 (sbBack k), .int .i64 (sbCode k)]) ∧ w = w' := by
  have hk' : k = 0 ∨ k = 1 ∨ k = 2 ∨ k = 3 ∨ k = 4 ∨ k = 5 ∨ k = 6 := by omega
  clear hk
  rcases hk' with rfl | rfl | rfl | rfl | rfl | rfl | rfl <;>
  · go_enter Tryd.func97, Tryd.ntmps97
    go_wp2_with fail
    go_ret2
    exact ⟨rfl, rfl⟩
set_option maxHeartbeats 800000 in
theorem undoes_any (s t : ByteArray) (w : World) : Calls Tryd.prog 67 #[.string s, .string t] w fun e w' => e = .returned (.bool (undoB (strB s) (strB t))) ∧ Below w.heap.size w w' := by
  have K1 := (fun W => strokeNamed_any s W)
  have K2 := (fun W => strokeNamed_any t W)
  obtain ⟨R, hR⟩ : ∃ r, undoB (strB s) (strB t) = r := ⟨_, rfl⟩
  rw [hR]
  unfold undoB at hR
  have ha := kindOf_bd (strB s)
  have hb := kindOf_bd (strB t)
  obtain ⟨a, haa⟩ : ∃ a, kindOf (strB s) = a := ⟨_, rfl⟩
  obtain ⟨b, hbb⟩ : ∃ a, kindOf (strB t) = a := ⟨_, rfl⟩
  rw [haa] at K1 hR ha
  rw [hbb] at K2 hR hb
  have KB := (fun W => StrokeBack_all a W ha)
  have hfit : R = (decide (a ≠ 0) && decide (b ≠ 0) && (sbCode a == 0) && (sbBack a == b)) := by
    rw [← hR]
    unfold sbCode sbBack
    by_cases h : 1 ≤ a ∧ a ≤ 4
    · have h1 : a ≠ 0 := by omega
      have h2 := backK_bd' h
      rw [if_pos h, if_pos h, decide_eq_true h, decide_eq_true h1]
      by_cases h3 : backK a = b
      · have h4 : b ≠ 0 := by omega
        rw [decide_eq_true h4, beq_iff_eq.2 h3]; rfl
      · rw [beq_eq_false_iff_ne.2 h3]; simp
    · rw [if_neg h, decide_eq_false h, Bool.false_and]
      split <;> simp
  obtain ⟨c, hc⟩ : ∃ c, sbCode a = c := ⟨_, rfl⟩
  obtain ⟨d, hd⟩ : ∃ c, sbBack a = c := ⟨_, rfl⟩
  rw [hc, hd] at hfit
  simp only [hc, hd] at KB
  obtain ⟨p, hp⟩ : ∃ p, decide (a ≠ 0) = p := ⟨_, rfl⟩
  obtain ⟨q, hq⟩ : ∃ p, decide (b ≠ 0) = p := ⟨_, rfl⟩
  rw [hp] at K1 hfit
  rw [hq] at K2 hfit
  have HF := Lib.hid hfit
  replace K1 := Lib.hid K1
  replace K2 := Lib.hid K2
  replace KB := Lib.hid KB
  clear hR hp hq hc hd haa hbb ha hb hfit
  have fin : ∀ x y, (c == 0) = x → (d == b) = y → Calls Tryd.prog 67 #[.string s, .string t] w fun e w' => e = .returned (.bool R) ∧ Below w.heap.size w w' := by
    intro x y hx hy
    have HR := Lib.hid (show R = (p && q && x && y) by rw [HF.out, hx, hy])
    cases p <;> cases q <;> cases x <;> cases y <;>
    · go_enter Tryd.func67, Tryd.ntmps67
      go_wp2_with (first
        | (go_at_call 99; with_reducible refine (K1.out _).mono ?_; rintro e w1 ⟨rfl, h1⟩)
        | (go_at_call 99; with_reducible refine (K2.out _).mono ?_; rintro e w2 ⟨rfl, h2⟩)
        | (go_at_call 100; refine (KB.out _).mono ?_; rintro e w' ⟨rfl, rfl⟩))
      go_ret
      exact ⟨by rw [HR.out]; rfl, h1.trans (h2.mono h1.size)⟩
  exact fin _ _ rfl rfl
end Go.Proofs.YtgpmngcemnnpmaaDoor

namespace Go.Proofs.YtgpmngcemnnpmaaDoor
open Go.RowKit Go.Sort
/-! sums and differences of registers, plainly -/
def vx (b : Int) : List Int → Int
  | [] => 0
  | d :: ds => vx b ds * b + d
theorem vx_bd {b : Int} (hb : 2 ≤ b) : ∀ {ds : List Int}, (∀ d ∈ ds, 0 ≤ d ∧ d < b) → 0 ≤ vx b ds ∧ vx b ds < pw b ds.length
  | [], _ => by simp [vx, pw]
  | d :: ds, h => by
    have ih := vx_bd hb (ds := ds) (fun x hx => h x (List.mem_cons_of_mem _ hx))
    have hd := h d (List.mem_cons_self ..)
    rw [vx, List.length_cons, pw_succ]
    have h1 : 0 ≤ vx b ds * b := Int.mul_nonneg ih.1 (by omega)
    have h2 : (vx b ds + 1) * b ≤ pw b ds.length * b := Int.mul_le_mul_of_nonneg_right (by omega) (by omega)
    rw [Int.add_mul, Int.one_mul] at h2
    omega
theorem vx_valL {b : Int} (hb : 2 ≤ b) : ∀ {ds : List Int}, (∀ d ∈ ds, 0 ≤ d ∧ d < b) → pw b ds.length ≤ 1000000000001 → valL b ds = vx b ds
  | [], _, _ => rfl
  | d :: ds, h, hp => by
    have hv := vx_bd hb h
    have hm := pw_mono b hb ds.length (ds.length + 1) (by omega)
    rw [List.length_cons] at hp hv
    rw [valL, vx_valL hb (fun x hx => h x (List.mem_cons_of_mem _ hx)) (by omega)]
    rw [vx] at hv ⊢
    omega
theorem vx_snoc (b : Int) : ∀ (l : List Int) (d : Int), vx b (l ++ [d]) = vx b l + d * pw b l.length
  | [], d => by simp [vx, pw]
  | a :: l, d => by
    rw [List.cons_append, vx, vx, vx_snoc b l d, List.length_cons, pw_succ, Int.add_mul, Int.mul_assoc]
    omega
/-- the carry into a digit -/
def carK (b : Int) (xs ys : List Int) : Nat → Int
  | 0 => 0
  | i + 1 => (xs.getD i 0 + ys.getD i 0 + carK b xs ys i) / b
def sumK (b : Int) (xs ys : List Int) (i : Nat) : Int := (xs.getD i 0 + ys.getD i 0 + carK b xs ys i) % b
def addD (b : Int) (xs ys : List Int) (n : Nat) : List Int := (List.range n).map (sumK b xs ys)
theorem addD_succ (b : Int) (xs ys : List Int) (n : Nat) : addD b xs ys (n + 1) = addD b xs ys n ++ [sumK b xs ys n] := by unfold addD; rw [List.range_succ, List.map_append]; rfl
theorem addD_len (b : Int) (xs ys : List Int) (n : Nat) : (addD b xs ys n).length = n := by simp [addD]
theorem addD_get (b : Int) (xs ys : List Int) {n i : Nat} (h : i < n) : (addD b xs ys n).getD i 0 = sumK b xs ys i := by
  rw [getD_of (by rw [addD_len]; exact h)]; simp [addD]
def Digs (b : Int) (xs : List Int) : Prop := ∀ d ∈ xs, 0 ≤ d ∧ d < b
theorem Digs.at {b : Int} {xs : List Int} (h : Digs b xs) (hb : 2 ≤ b) (i : Nat) : 0 ≤ xs.getD i 0 ∧ xs.getD i 0 < b := by
  by_cases hi : i < xs.length
  · rw [getD_of hi]; exact h _ (List.getElem_mem hi)
  · rw [List.getD_eq_getElem?_getD, List.getElem?_eq_none (by omega)]; simp; omega
theorem carK_bd {b : Int} (hb : 2 ≤ b) {xs ys : List Int} (hx : Digs b xs) (hy : Digs b ys) : ∀ i, 0 ≤ carK b xs ys i ∧ carK b xs ys i ≤ 1
  | 0 => by simp [carK]
  | i + 1 => by
    have h1 := hx.at hb i
    have h2 := hy.at hb i
    have h3 := carK_bd hb hx hy i
    rw [carK]
    constructor
    · exact Int.ediv_nonneg (by omega) (by omega)
    · have : (xs.getD i 0 + ys.getD i 0 + carK b xs ys i) / b < 2 := by rw [Int.ediv_lt_iff_lt_mul (by omega)]; omega
      omega
theorem sumK_bd {b : Int} (hb : 2 ≤ b) (xs ys : List Int) (i : Nat) : 0 ≤ sumK b xs ys i ∧ sumK b xs ys i < b := ⟨Int.emod_nonneg _ (by omega), Int.emod_lt_of_pos _ (by omega)⟩
theorem addD_digs {b : Int} (hb : 2 ≤ b) (xs ys : List Int) (n : Nat) : Digs b (addD b xs ys n) := fun d hd => by
  obtain ⟨i, -, rfl⟩ := List.mem_map.1 hd
  exact sumK_bd hb xs ys i
/-- sum and last carry have the value of both -/
theorem add_val {b : Int} {xs ys : List Int} : ∀ n, n ≤ xs.length → n ≤ ys.length → vx b (addD b xs ys n) + carK b xs ys n * pw b n = vx b (xs.take n) + vx b (ys.take n)
  | 0, _, _ => by simp [addD, carK, vx]
  | n + 1, h1, h2 => by
    have ih := add_val (b := b) (xs := xs) (ys := ys) n (by omega) (by omega)
    rw [addD_succ, vx_snoc, addD_len, List.take_succ_eq_append_getElem h1, List.take_succ_eq_append_getElem h2, vx_snoc, vx_snoc, List.length_take_of_le (show n ≤ xs.length by omega), List.length_take_of_le (show n ≤ ys.length by omega), pw_succ]
    have e : sumK b xs ys n + b * carK b xs ys (n + 1) = xs[n] + ys[n] + carK b xs ys n := by
      rw [sumK, carK, getD_of h1, getD_of h2]; exact Int.emod_add_mul_ediv _ _
    have e2 : sumK b xs ys n * pw b n + carK b xs ys (n + 1) * (pw b n * b) = (sumK b xs ys n + b * carK b xs ys (n + 1)) * pw b n := by
      rw [Int.add_mul, Int.mul_comm b (carK b xs ys (n + 1)), Int.mul_assoc, Int.mul_comm b (pw b n)]
    rw [e, Int.add_mul, Int.add_mul] at e2
    omega
/-- the borrow into a digit -/
def borK (xs ys : List Int) : Nat → Int
  | 0 => 0
  | i + 1 => if xs.getD i 0 - ys.getD i 0 - borK xs ys i < 0 then 1 else 0
def subK (b : Int) (xs ys : List Int) (i : Nat) : Int := if xs.getD i 0 - ys.getD i 0 - borK xs ys i < 0 then xs.getD i 0 - ys.getD i 0 - borK xs ys i + b else xs.getD i 0 - ys.getD i 0 - borK xs ys i
def subD (b : Int) (xs ys : List Int) (n : Nat) : List Int := (List.range n).map (subK b xs ys)
theorem subD_succ (b : Int) (xs ys : List Int) (n : Nat) : subD b xs ys (n + 1) = subD b xs ys n ++ [subK b xs ys n] := by unfold subD; rw [List.range_succ, List.map_append]; rfl
theorem subD_len (b : Int) (xs ys : List Int) (n : Nat) : (subD b xs ys n).length = n := by simp [subD]
theorem borK_bd (xs ys : List Int) : ∀ i, 0 ≤ borK xs ys i ∧ borK xs ys i ≤ 1
  | 0 => by simp [borK]
  | i + 1 => by rw [borK]; split <;> omega
theorem sub_one {b x y c : Int} (hb : 2 ≤ b) (hx : 0 ≤ x ∧ x < b) (hy : 0 ≤ y ∧ y < b) (hc : 0 ≤ c ∧ c ≤ 1) :
    ((x + y + c) % b - y - c < 0 ∧ (x + y + c) / b = 1 ∧ (x + y + c) % b - y - c + b = x) ∨ (¬ (x + y + c) % b - y - c < 0 ∧ (x + y + c) / b = 0 ∧ (x + y + c) % b - y - c = x) := by
  by_cases h : x + y + c < b
  · right
    rw [Int.emod_eq_of_lt (by omega) h, Int.ediv_eq_zero_of_lt (by omega) h]
    omega
  · left
    have e1 : (x + y + c) / b = 1 := by
      have h1 : (x + y + c) / b < 2 := by rw [Int.ediv_lt_iff_lt_mul (by omega)]; omega
      have h2 : 1 ≤ (x + y + c) / b := by rw [Int.le_ediv_iff_mul_le (by omega)]; omega
      omega
    have e2 := Int.emod_add_mul_ediv (x + y + c) b
    rw [e1] at e2
    omega
theorem sub_add {b : Int} (hb : 2 ≤ b) {xs ys : List Int} (hx : Digs b xs) (hy : Digs b ys) (n : Nat) : ∀ i, i ≤ n → borK (addD b xs ys n) ys i = carK b xs ys i
  | 0, _ => rfl
  | i + 1, hi => by
    have ih := sub_add hb hx hy n i (by omega)
    rw [borK, ih, addD_get b xs ys (show i < n by omega), carK, sumK]
    rcases sub_one hb (hx.at hb i) (hy.at hb i) (carK_bd hb hx hy i) with ⟨h1, h2, -⟩ | ⟨h1, h2, -⟩
    · rw [if_pos h1, h2]
    · rw [if_neg h1, h2]
theorem sub_addD {b : Int} (hb : 2 ≤ b) {xs ys : List Int} (hx : Digs b xs) (hy : Digs b ys) : subD b (addD b xs ys xs.length) ys xs.length = xs := by
  refine List.ext_getElem (by rw [subD_len]) (fun i h1 h2 => ?_)
  simp only [subD, List.getElem_map, List.getElem_range]
  have hi : i < xs.length := h2
  rw [subK, sub_add hb hx hy _ i (by omega), addD_get b xs ys hi, sumK, ← getD_of hi]
  rcases sub_one hb (hx.at hb i) (hy.at hb i) (carK_bd hb hx hy i) with ⟨h1, -, h3⟩ | ⟨h1, -, h3⟩
  · rw [if_pos h1, h3]
  · rw [if_neg h1, h3]
def compD (b : Int) (xs : List Int) : List Int := xs.map (fun d => b - 1 - d)
theorem comp_val (b : Int) : ∀ xs : List Int, vx b (compD b xs) = pw b xs.length - 1 - vx b xs
  | [] => by simp [compD, vx, pw]
  | d :: xs => by
    show vx b (compD b xs) * b + (b - 1 - d) = _
    rw [comp_val b xs, vx, List.length_cons, pw_succ, Int.sub_mul, Int.sub_mul, Int.one_mul]
    omega
theorem comp_digs {b : Int} {xs : List Int} (h : Digs b xs) : Digs b (compD b xs) := fun d hd => by
  obtain ⟨x, hx, rfl⟩ := List.mem_map.1 hd
  have := h x hx
  omega
/-- a short row of digits is a register -/
theorem vreg_short {b : Int} {ds : List Int} (hb : 2 ≤ b) (hb2 : b ≤ 16) (hd : Digs b ds) (h1 : 1 ≤ ds.length) (h2 : ds.length ≤ 16) (hp : pw b ds.length ≤ 1000000000001) : vreg b ds = true := by
  have hv := vx_bd hb hd
  exact vreg_iff.2 ⟨⟨hb, hb2⟩, ⟨h1, h2⟩, hd, by rw [vx_valL hb hd hp]; omega⟩
end Go.Proofs.YtgpmngcemnnpmaaDoor

namespace Go.Proofs.YtgpmngcemnnpmaaDoor
open Go.RowKit Go.Sort
/-- w with its first n blocks alone -/
def trunc (w : World) (n : Nat) : World := { w with heap := w.heap.extract 0 n }
theorem trunc_size {w : World} {n : Nat} (h : n ≤ w.heap.size) : (trunc w n).heap.size = n := by
  simp only [trunc, Array.size_extract]; omega
theorem trunc_get {w : World} {n k : Nat} (h : n ≤ w.heap.size) (hk : k < n) : (trunc w n).heap[k]? = w.heap[k]? := by
  simp only [trunc, Array.getElem?_extract, Nat.sub_zero, Nat.zero_add]
  rw [if_pos (by omega)]
theorem trunc_below {w : World} {n : Nat} (h : n ≤ w.heap.size) : Below (trunc w n).heap.size (trunc w n) w := by
  rw [trunc_size h]
  exact ⟨rfl, rfl, rfl, by rw [trunc_size h]; exact h, fun k hk => (trunc_get h hk).symm⟩
/-- v is w with block b turned -/
def Tw (b : Nat) (w v : World) : Prop := w.grownBy v (some b) ∧ v.heap.size = w.heap.size
theorem Tw.refl (b : Nat) (w : World) : Tw b w w := ⟨gRefl w _, rfl⟩
theorem Tw.of {b : Nat} {w w' : World} (h : w.grownBy w' (some b)) : Tw b w (trunc w' w.heap.size) :=
  ⟨⟨h.os, h.tape, h.output, by rw [trunc_size h.size]; exact Nat.le_refl _, fun k hk hne => (trunc_get h.size hk).trans (h.block k hk hne)⟩, trunc_size h.size⟩
theorem Src.trunc {b N : Nat} {w : World} {n : Nat} (h : Src w b N) (hb : b < n) (hn : n ≤ w.heap.size) : Src (trunc w n) b N := by
  obtain ⟨A, m, c, k, seed, bs, c0, c1, c2, f1, f2, hB, hkN, hm, hne, hlt⟩ := h
  have hbl : ∀ k, k ≤ b → (Go.Proofs.YtgpmngcemnnpmaaDoor.trunc w n).heap[k]? = w.heap[k]? := fun k hk => trunc_get hn (by omega)
  have hcell : ∀ o, (Go.Proofs.YtgpmngcemnnpmaaDoor.trunc w n).cell? ⟨b, o, none⟩ = w.cell? ⟨b, o, none⟩ := fun o => World.cell?_of_block (hbl b (Nat.le_refl _))
  have hfz : ∀ o, (Go.Proofs.YtgpmngcemnnpmaaDoor.trunc w n).frozen? ⟨b, o, none⟩ = w.frozen? ⟨b, o, none⟩ := fun o => World.frozen?_of_block (hbl b (Nat.le_refl _))
  refine ⟨A, m, c, k, seed, bs, by rw [hcell]; exact c0, by rw [hcell]; exact c1, by rw [hcell]; exact c2, by rw [hfz]; exact f1, by rw [hfz]; exact f2, ⟨hB.1, fun h0 => ?_⟩, hkN, hm, hne, by rw [trunc_size hn]; exact hb⟩
  obtain ⟨ad, e, hl, hc⟩ := hB.2 h0
  have hab := hne h0 ad e
  refine ⟨ad, e, by rw [trunc_size hn]; omega, fun j u hu => ?_⟩
  rw [World.cell?_of_block (w := w) (by rw [block_of_add]; exact hbl _ (by omega))]
  exact hc j u hu
/-- what a draw leaves: the source's block is turned, and the call owns the things of m -/
def DR (b N : Nat) (w : World) (m : List Ent) (w' : World) : Prop := ∃ v, Tw b w v ∧ Src v b N ∧ Kn v m w'
theorem DR.src {b N : Nat} {w : World} {m : List Ent} {w' : World} (h : DR b N w m w') : Src w' b N := by
  obtain ⟨v, -, hS, hK⟩ := h
  exact hS.below hK.below
theorem DR.of {b N : Nat} {w w' : World} (hs : Src w' b N) (hg : w.grownBy w' (some b)) (hb : b < w.heap.size) : DR b N w [] w' :=
  ⟨_, Tw.of hg, hs.trunc hb hg.size, (Kn.nil _).keep (trunc_below hg.size)⟩
theorem DR.nil {b N : Nat} {w : World} (hs : Src w b N) : DR b N w [] w := ⟨w, Tw.refl b w, hs, Kn.nil w⟩
theorem DR.mono {b N M : Nat} {w w' : World} {m : List Ent} (h : DR b N w m w') (hm : N ≤ M) : DR b M w m w' := by
  obtain ⟨v, hT, hS, hK⟩ := h
  exact ⟨v, hT, hS.mono hm, hK⟩
theorem DR.kn {b N : Nat} {w w' : World} {m m' : List Ent} (h : DR b N w m w') {w2 : World} (f : ∀ v, Kn v m w' → Kn v m' w2) : DR b N w m' w2 := by
  obtain ⟨v, hT, hS, hK⟩ := h
  exact ⟨v, hT, hS, f v hK⟩
theorem Kn.tw {b : Nat} {w v : World} {m : List Ent} {wi wi' : World} (hT : Tw b w v) (hK : Kn v m wi) (hb : b < w.heap.size) (hg : wi.grownBy wi' (some b)) : Tw b w (trunc wi' w.heap.size) ∧ Kn (trunc wi' w.heap.size) m wi' := by
  have hs : w.heap.size ≤ wi.heap.size := by have := hK.size; rw [hT.2] at this; exact this
  have hs' : w.heap.size ≤ wi'.heap.size := Nat.le_trans hs hg.size
  have hbw := hK.below
  refine ⟨⟨⟨hg.os.trans (hbw.os.trans hT.1.os), hg.tape.trans (hbw.tape.trans hT.1.tape), hg.output.trans (hbw.output.trans hT.1.output), by rw [trunc_size hs']; exact Nat.le_refl _, fun k hk hne => ?_⟩, trunc_size hs'⟩, trunc_below hs', fun e he => ?_, fun e he k hk => ?_, hK.apart⟩
  · rw [trunc_get hs' hk, hg.block k (by omega) hne, hbw.block k (by rw [hT.2]; exact hk)]
    exact hT.1.block k hk hne
  · refine Ent.stable (hK.ents e he) hg.size (fun k hk => hg.block k (Ent.lt (hK.ents e he) hk) (fun h2 => ?_))
    have h3 := hK.own e he k hk
    rw [hT.2] at h3
    injection h2 with h2
    omega
  · rw [trunc_size hs']
    have h3 := hK.own e he k hk
    rw [hT.2] at h3
    exact h3
theorem Tw.grown {b : Nat} {w v : World} (h : Tw b w v) : w.grownBy v (some b) := h.1
/-- one draw behind another -/
theorem DR.join {b N M : Nat} {w wi w' : World} {m m' : List Ent} (h : DR b N w m wi) (h1 : DR b M wi m' w') (hb : b < w.heap.size) : DR b M w (m' ++ m) w' := by
  obtain ⟨v, hT, hS, hK⟩ := h
  obtain ⟨v1, hT1, hS1, hK1⟩ := h1
  have hs : w.heap.size ≤ wi.heap.size := by have := hK.size; rw [hT.2] at this; exact this
  have hs1 : w.heap.size ≤ v1.heap.size := by rw [hT1.2]; exact hs
  obtain ⟨h2, h3⟩ := hK.tw hT hb hT1.1
  exact ⟨_, h2, hS1.trunc hb hs1, h3.join hK1⟩
/-- a source of the call's own -/
theorem Kn.ofDR {w w1 w2 : World} {b N : Nat} {m : List Ent} (hb : Below w.heap.size w w1) (hlo : w.heap.size ≤ b) (h : DR b N w1 m w2) : Kn w m w2 := by
  obtain ⟨v, hT, -, hK⟩ := h
  exact hK.mono (belowG hb hT.1 hlo hb.size)
theorem pick_dr (b N : Nat) (n : Int) (w : World) (h : Src w b N) (hN : N ≤ 999999) :
    Calls Tryd.prog 70 #[.pointer (some ⟨b, 0, none⟩), .int .i64 n] w fun e w' => ∃ x : Int, e = .returned (.int .i64 x) ∧ (0 ≤ x ∧ (x < n ∨ (n ≤ 1 ∧ x = 0))) ∧ DR b (N + 2) w [] w' := by
  refine (pick_any b N n w h hN).mono ?_
  rintro e w' ⟨x, rfl, h0, h1, hs, hg⟩
  exact ⟨x, rfl, ⟨h0, h1⟩, .of hs hg h.lt⟩
theorem one_dr (b N : Nat) (n : Int) (w : World) (h : Src w b N) (hN : N ≤ 999999) :
    Calls Tryd.prog 69 #[.pointer (some ⟨b, 0, none⟩), .int .i64 n] w fun e w' => ∃ x : Bool, e = .returned (.bool x) ∧ DR b (N + 2) w [] w' := by
  refine (one_any b N n w h hN).mono ?_
  rintro e w' ⟨x, rfl, hs, hg⟩
  exact ⟨x, rfl, .of hs hg h.lt⟩
end Go.Proofs.YtgpmngcemnnpmaaDoor

namespace Go.Proofs.YtgpmngcemnnpmaaDoor
open Go.RowKit Go.Sort
section
variable {b N : Nat} {w wi : World} {m : List Ent}
theorem DR.al (h : DR b N w m wi) (l : List Value) (T : TypeId) : DR b N w (.blk wi.heap.size l T :: m) (wi.alloc (.cells l.toArray T)) := h.kn (fun _ hK => hK.al l T)
theorem DR.al_ (h : DR b N w m wi) (o : Obj) : DR b N w m (wi.alloc o) := h.kn (fun _ hK => hK.al_ o)
theorem DR.st {g : Nat} {l : List Value} {T : TypeId} (h : DR b N w (.blk g l T :: m) wi) (j : Nat) (v : Value) : DR b N w (.blk g (l.set j v) T :: m) (wi.setCell ⟨g, j, none⟩ v) := h.kn (fun _ hK => hK.st j v)
theorem DR.drew (h : DR b N w m wi) : DR b N w m wi.drew := h.kn (fun _ hK => hK.drew)
theorem DR.front (h : DR b N w m wi) (i : Nat) {e : Ent} (hi : m[i]? = some e) : DR b N w (e :: m.eraseIdx i) wi := h.kn (fun _ hK => hK.front i hi)
theorem DR.sel (h : DR b N w m wi) (is : List Nat) (n : Nat) (h1 : is.Nodup) (h2 : ∀ i ∈ is, i < n) : DR b N w (is.filterMap (fun i => m[i]?) ++ m.drop n) wi := h.kn (fun _ hK => hK.sel is n h1 h2)
theorem DR.cells (h : DR b N w m wi) : Cells m wi := by
  obtain ⟨v, -, -, hK⟩ := h
  exact hK.cells
theorem DR.lt (h : DR b N w m wi) : b < w.heap.size := by
  obtain ⟨v, hT, hS, -⟩ := h
  have := hS.lt
  rw [hT.2] at this
  exact this
theorem DR.add (h : DR b N w m wi) {M : Nat} {w' : World} {m' : List Ent} (h1 : DR b M wi m' w') : DR b M w (m' ++ m) w' := h.join h1 h.lt
theorem DR.keep (h : DR b N w m wi) {w' : World} (hb : Below wi.heap.size wi w') : DR b N w m w' := h.kn (fun _ hK => hK.keep hb)
theorem DR.box2 {g : Nat} {v0 v1 : Value} {T : TypeId} (h : DR b N w (.blk g [v0, v1] T :: m) wi) : wi.cell? ⟨g, 0, none⟩ = some v0 ∧ wi.cell? ⟨g, 1, none⟩ = some v1 := by
  obtain ⟨v, -, -, hK⟩ := h
  exact Go.Proofs.YtgpmngcemnnpmaaDoor.box2 hK
theorem Calls.dr {P : Program} {f : FuncId} {args : Array Value} {R : Ending → World → Prop} (h : DR b N w m wi) (k : ∀ W, DR b N w m W → Calls P f args W R) : Calls P f args wi R := k wi h
theorem Code.wp.dr {P : Program} {c : Code} {Q : Exit → Act → World → Prop} {a : Act} (h : DR b N w m wi) (k : ∀ W, DR b N w m W → c.wp P Q a W) : c.wp P Q a wi := k wi h
theorem bodyPost.dr {P : Program} {f : Func} {R : Ending → World → Prop} {x : Exit} {a : Act} (h : DR b N w m wi) (k : ∀ W, DR b N w m W → bodyPost P f R x a W) : bodyPost P f R x a wi := k wi h
end
theorem DR.lit {b N : Nat} {w wi : World} {m : List Ent} {g : Nat} {ds : List Int} (h : DR b N w (.blk g (ds.map (Value.int .i64)) 2 :: m) wi) (hd : ds.length ≤ 1000) :
    RI wi (some ⟨g, 0, none⟩) ds.length ds ∧ (∀ ad, some (⟨g, 0, none⟩ : Addr) = some ad → ad.block ≠ b) := by
  obtain ⟨v, -, hS, hK⟩ := h
  have hb := hS.lt
  have ho := hK.own _ (List.mem_cons_self ..) g rfl
  have hr : Kn v (rowI (some ⟨g, 0, none⟩) ds.length ds :: m) wi := hK.litRow (size := 1) (n := ds.length) (by simp) (by unfold maxLen; omega)
  refine ⟨Kn.riv hr, fun ad he => ?_⟩
  injection he with he
  subst he
  show g ≠ b
  omega
end Go.Proofs.YtgpmngcemnnpmaaDoor

/- rows of instructions -/
namespace Go.Proofs.YtgpmngcemnnpmaaDoor
open Go.RowKit Go.Sort
def cellsIns (xs : List Ins) : List Value := xs.flatMap fun x => [.int .i64 x.op, .int .i64 x.arg]
theorem cellsIns_len (xs : List Ins) : (cellsIns xs).length = xs.length * 2 := by
  induction xs with
  | nil => rfl
  | cons x xs ih => unfold cellsIns at *; rw [List.flatMap_cons, List.length_append, ih]; simp; omega
theorem cellsIns_snoc (xs : List Ins) (x : Ins) : cellsIns (xs ++ [x]) = cellsIns xs ++ [.int .i64 x.op, .int .i64 x.arg] := by simp [cellsIns]
theorem cellsIns_get : ∀ (xs : List Ins) (k : Nat) (h : k < xs.length), (cellsIns xs)[k * 2]? = some (.int .i64 xs[k].op) ∧ (cellsIns xs)[k * 2 + 1]? = some (.int .i64 xs[k].arg)
  | [], k, h => by simp at h
  | x :: xs, 0, h => by simp [cellsIns]
  | x :: xs, k + 1, h => by
    have h1 := cellsIns_get xs k (by simpa using h)
    have h2 : cellsIns (x :: xs) = .int .i64 x.op :: .int .i64 x.arg :: cellsIns xs := by simp [cellsIns]
    rw [h2, show (k + 1) * 2 = k * 2 + 1 + 1 by omega]
    simp only [List.getElem?_cons_succ, List.getElem_cons_succ]
    exact h1
theorem cellsIns_one (xs : List Ins) : ∀ u ∈ cellsIns xs, u.oneCell' = true := by
  intro u hu
  obtain ⟨x, -, h⟩ := List.mem_flatMap.1 hu
  simp at h
  rcases h with rfl | rfl <;> rfl
end Go.Proofs.YtgpmngcemnnpmaaDoor

namespace Go.Proofs.YtgpmngcemnnpmaaDoor
open Go.RowKit Go.Sort
theorem cellsIns_app (xs ys : List Ins) : cellsIns (xs ++ ys) = cellsIns xs ++ cellsIns ys := by simp [cellsIns]
/-- the program that divides -/
def divHead (p : Nat) : List Ins := if 1 < p then [⟨4, (p : Int) - 1⟩] else []
def divPart (p j : Nat) : List Ins := [⟨9, 0⟩, ⟨3, 1⟩, ⟨10, 0⟩, ⟨2, 1⟩] ++ (if j + 1 < p then [⟨5, 1⟩] else [])
def divUpto (p : Nat) : Nat → List Ins
  | 0 => divHead p
  | j + 1 => divUpto p j ++ divPart p j
def divProg (p : Nat) : List Ins := divUpto p p
theorem divUpto_len (p j : Nat) : (divUpto p j).length ≤ 1 + 5 * j := by
  induction j with
  | zero => simp only [divUpto, divHead]; split <;> simp
  | succ j ih => simp only [divUpto, divPart, List.length_append]; split <;> simp <;> omega
theorem divProg_ok {p : Nat} (h1 : 1 ≤ p) (h2 : p ≤ 16) : vprog (divProg p) = true := by
  have H : ∀ p : Fin 17, 1 ≤ p.val → vprog (divProg p.val) = true := by decide +kernel
  exact H ⟨p, by omega⟩ h1
end Go.Proofs.YtgpmngcemnnpmaaDoor

namespace Go.Proofs.YtgpmngcemnnpmaaDoor
open Go.RowKit Go.Sort
/-- a fresh machine of a base and widths -/
def newT (b : Int) (n1 n2 n3 : Nat) : Tri := ⟨⟨b, digD b n1 0⟩, ⟨b, digD b n2 0⟩, ⟨b, digD b n3 0⟩, 0⟩
end Go.Proofs.YtgpmngcemnnpmaaDoor

namespace Go.Proofs.YtgpmngcemnnpmaaDoor
open Go.RowKit Go.Sort
/-- a base and widths are those of machines -/
def nmOk (b n1 n2 n3 : Int) : Bool := (betB b 2 16 && betB n1 1 16 && betB n2 1 16 && betB n3 1 16) && vmach (newT b n1.toNat n2.toNat n3.toNat)
theorem regWidth_any (n : Int) (w : World) : Calls Tryd.prog 73 #[.int .i64 n] w fun e w' => e = .returned (.bool (betB n 1 16)) ∧ w = w' := by
  go_enter Tryd.func73, Tryd.ntmps73
  go_wp2_with (go_at_call 71; refine (between_any _ _ _ _).mono ?_; rintro e w' ⟨rfl, rfl⟩)
  go_ret
  exact ⟨rfl, rfl⟩
theorem l07Size_any (n : Int) (w : World) : Calls Tryd.prog 78 #[.int .i64 n] w fun e w' => e = .returned (.bool (betB n 1 16)) ∧ w = w' := by
  go_enter Tryd.func78, Tryd.ntmps78
  go_wp2_with (go_at_call 77; refine (l00In_any _ _ _ _).mono ?_; rintro e w' ⟨rfl, rfl⟩)
  go_ret
  exact ⟨rfl, rfl⟩
/-- what NewMachine returns for widths in range -/
def NMRet (b : Int) (n1 n2 n3 : Nat) (v : Bool) (w : World) (e : Ending) (w' : World) : Prop :=
  (v = true ∧ ∃ E1 g1 E2 g2 E3 g3, e = .returned (.tuple #[.agg #[.int .i64 b, .slice E1 (digD b n1 0).length g1, .int .i64 b, .slice E2 (digD b n2 0).length g2, .int .i64 b, .slice E3 (digD b n3 0).length g3, .int .i64 0], .int .i64 0]) ∧ Kn w [rowI E3 g3 (digD b n3 0), rowI E2 g2 (digD b n2 0), rowI E1 g1 (digD b n1 0)] w') ∨
  (v = false ∧ e = .returned (.tuple #[.agg #[.int .i64 0, .slice none 0 0, .int .i64 0, .slice none 0 0, .int .i64 0, .slice none 0 0, .int .i64 0], .int .i64 2]) ∧ Below w.heap.size w w')
end Go.Proofs.YtgpmngcemnnpmaaDoor

namespace Go.Proofs.YtgpmngcemnnpmaaDoor
open Go.RowKit Go.Sort
/-- accumulators: which registers they are, and what they show -/
def aOk (b : Int) (ds : List Int) : Bool := vreg b ds && decide (pw b ds.length ≤ 1000000000001)
def aSize (b : Int) (ds : List Int) : Int := if aOk b ds = true then pw b ds.length else 0
def isNm (n x : Int) : Bool := betB x (-(n.tdiv 2)) (n - 1 - n.tdiv 2)
def aNum (b : Int) (ds : List Int) : Int := if valL b ds ≤ pw b ds.length - 1 - (pw b ds.length).tdiv 2 then valL b ds else valL b ds - pw b ds.length
def aNorm (n x : Int) : Int := (x.tmod n + n).tmod n
def aSet (b : Int) (k : Nat) (x : Int) : List Int := digD b k (aNorm (pw b k) x)
theorem aOk_iff {b : Int} {ds : List Int} : aOk b ds = true ↔ vreg b ds = true ∧ pw b ds.length ≤ 1000000000001 := by
  unfold aOk; rw [Bool.and_eq_true, decide_eq_true_eq]
theorem aNorm_bd {n x : Int} (hn : 1 ≤ n) : 0 ≤ aNorm n x ∧ aNorm n x < n := by
  unfold aNorm
  have h1 : -n < x.tmod n ∧ x.tmod n < n := by
    rcases Int.le_total 0 x with h | h
    · rw [Int.tmod_eq_emod_of_nonneg h]
      have := Int.emod_nonneg x (show n ≠ 0 by omega)
      have := Int.emod_lt_of_pos x (show 0 < n by omega)
      omega
    · have h2 := Int.neg_tmod (-x) n
      rw [Int.neg_neg] at h2
      rw [h2, Int.tmod_eq_emod_of_nonneg (by omega)]
      have := Int.emod_nonneg (-x) (show n ≠ 0 by omega)
      have := Int.emod_lt_of_pos (-x) (show 0 < n by omega)
      omega
  rw [Int.tmod_eq_emod_of_nonneg (by omega)]
  exact ⟨Int.emod_nonneg _ (by omega), Int.emod_lt_of_pos _ (by omega)⟩
theorem half_bd {n : Int} (hn : 0 ≤ n) : 0 ≤ n.tdiv 2 ∧ 2 * n.tdiv 2 ≤ n ∧ n ≤ 2 * n.tdiv 2 + 1 := by
  rw [Int.tdiv_eq_ediv_of_nonneg hn]; omega
theorem valL_in {b : Int} {ds : List Int} (h : aOk b ds = true) : 0 ≤ valL b ds ∧ valL b ds < pw b ds.length ∧ 1 ≤ pw b ds.length ∧ pw b ds.length ≤ 1000000000001 := by
  obtain ⟨h1, h2⟩ := aOk_iff.1 h
  obtain ⟨⟨b1, b2⟩, -, hd, -⟩ := vreg_iff.1 h1
  exact ⟨(valL_bd b b1 ds (fun d hd' => (hd d hd').1)).1, valL_lt b b1 ds hd, pw_pos b b1 _, h2⟩
theorem aNum_bd {b : Int} {ds : List Int} (h : aOk b ds = true) : -1000000000001 ≤ aNum b ds ∧ aNum b ds ≤ 1000000000001 := by
  have := valL_in h
  unfold aNum
  split <;> omega
end Go.Proofs.YtgpmngcemnnpmaaDoor

namespace Go.Proofs.YtgpmngcemnnpmaaDoor
open Go.RowKit Go.Sort
/-- what a function that adds a number returns -/
def anuC (b : Int) (ds : List Int) (x : Int) : Int := if aOk b ds = false then 1 else if betB x (-1000000000000) 1000000000000 = false then 2 else 0
def ANRet (b : Int) (ds : List Int) (x : Int) (w : World) (e : Ending) (w' : World) : Prop :=
  (anuC b ds x ≠ 0 ∧ e = .returned (.tuple #[.agg #[.int .i64 0, .slice none 0 0], .bool false, .int .i64 (anuC b ds x)]) ∧ Below w.heap.size w w') ∨
  (anuC b ds x = 0 ∧ ∃ E g, e = .returned (.tuple #[.agg #[.int .i64 b, .slice E (aSet b ds.length (aNum b ds + x)).length g], .bool (!isNm (pw b ds.length) (aNum b ds + x)), .int .i64 0]) ∧ Kn w [rowI E g (aSet b ds.length (aNum b ds + x))] w')
end Go.Proofs.YtgpmngcemnnpmaaDoor

namespace Go.Proofs.YtgpmngcemnnpmaaDoor
open Go.RowKit Go.Sort
/-- a register in a block -/
def RegB (w : World) (g : Nat) (b : Int) (A : Option Addr) (c : Nat) (ds : List Int) : Prop := (w.cell? ⟨g, 0, none⟩ = some (.int .i64 b) ∧ w.cell? ⟨g, 1, none⟩ = some (.slice A ds.length c)) ∧ RI w A ds.length ds
theorem RegB.below {w w' : World} {g : Nat} {b : Int} {A : Option Addr} {c : Nat} {ds : List Int} (h : RegB w g b A c ds) (hb : Below w.heap.size w w') : RegB w' g b A c ds := by
  have hlt : g < w.heap.size := World.block_lt_of_cell? w _ h.1.1
  exact ⟨⟨(hb.cell (p := ⟨g, 0, none⟩) hlt).trans h.1.1, (hb.cell (p := ⟨g, 1, none⟩) hlt).trans h.1.2⟩, h.2.below hb⟩
theorem tmod_bd {n x : Int} (hn : 1 ≤ n) : -n < x.tmod n ∧ x.tmod n < n := by
  rcases Int.le_total 0 x with h | h
  · rw [Int.tmod_eq_emod_of_nonneg h]
    have := Int.emod_nonneg x (show n ≠ 0 by omega)
    have := Int.emod_lt_of_pos x (show 0 < n by omega)
    omega
  · have h2 := Int.neg_tmod (-x) n
    rw [Int.neg_neg] at h2
    rw [h2, Int.tmod_eq_emod_of_nonneg (by omega)]
    have := Int.emod_nonneg (-x) (show n ≠ 0 by omega)
    have := Int.emod_lt_of_pos (-x) (show 0 < n by omega)
    omega
end Go.Proofs.YtgpmngcemnnpmaaDoor

namespace Go.Proofs.YtgpmngcemnnpmaaDoor
open Go.RowKit Go.Sort
theorem isNm_val {n v : Int} (hn : 1 ≤ n) (h0 : 0 ≤ v) : isNm n v = decide (v ≤ n - 1 - n.tdiv 2) := by
  have hh := half_bd (n := n) (by omega)
  unfold isNm
  rw [Bool.eq_iff_iff, betB_iff, decide_eq_true_eq]
  omega
end Go.Proofs.YtgpmngcemnnpmaaDoor

namespace Go.Proofs.YtgpmngcemnnpmaaDoor
open Go.RowKit Go.Sort
/-- how far each wheel is turned to come to 0 -/
def ctL (b : Int) (ds : List Int) : List Int := ds.map (fun d => (b - d).tmod b)
def ctR (b : Int) (ds : List Int) : List Int := if vreg b ds then ctL b ds else []
def CTRet (b : Int) (ds : List Int) (w : World) (e : Ending) (w' : World) : Prop := ∃ E k, e = .returned (.tuple #[.slice E (ctR b ds).length k, .int .i64 (if vreg b ds then 0 else 1)]) ∧ Kn w [rowI E k (ctR b ds)] w'
theorem ctL_take {b : Int} {ds : List Int} {k : Nat} (h : k < ds.length) : ctL b (ds.take (k + 1)) = ctL b (ds.take k) ++ [(b - ds[k]).tmod b] := by
  unfold ctL; rw [List.take_succ_eq_append_getElem h, List.map_append]; rfl
theorem ctL_len (b : Int) (ds : List Int) : (ctL b ds).length = ds.length := by unfold ctL; rw [List.length_map]
end Go.Proofs.YtgpmngcemnnpmaaDoor

namespace Go.Proofs.YtgpmngcemnnpmaaDoor
open Go.RowKit Go.Sort
def tfC (b : Int) (ds : List Int) (b' : Int) (es : List Int) : Int := if (aOk b ds && aOk b' es) = false then 1 else if b ≠ b' then 6 else 0
/-- what a transfer returns -/
def TFRet (b : Int) (ds : List Int) (b' : Int) (es : List Int) (w : World) (e : Ending) (w' : World) : Prop :=
  (tfC b ds b' es ≠ 0 ∧ e = .returned (.tuple #[.agg #[.int .i64 0, .slice none 0 0], .agg #[.int .i64 0, .slice none 0 0], .bool false, .int .i64 (tfC b ds b' es)]) ∧ Below w.heap.size w w') ∨
  (tfC b ds b' es = 0 ∧ ∃ E1 k1 E2 k2, e = .returned (.tuple #[.agg #[.int .i64 b, .slice E1 (digD b ds.length 0).length k1], .agg #[.int .i64 b', .slice E2 (aSet b' es.length (aNum b' es + aNum b ds)).length k2], .bool (!isNm (pw b' es.length) (aNum b' es + aNum b ds)), .int .i64 0]) ∧
    Kn w [rowI E2 k2 (aSet b' es.length (aNum b' es + aNum b ds)), rowI E1 k1 (digD b ds.length 0)] w')
theorem tfC_bad {b b' : Int} {ds es : List Int} (h : (aOk b ds && aOk b' es) = false) : tfC b ds b' es = 1 := by unfold tfC; rw [if_pos h]
end Go.Proofs.YtgpmngcemnnpmaaDoor

namespace Go.Proofs.YtgpmngcemnnpmaaDoor
open Go.RowKit Go.Sort
def accD (b : Int) (ds xs : List Int) : Nat → List Int
  | 0 => ds
  | k + 1 => aSet b ds.length (aNum b (accD b ds xs k) + xs.getD k 0)
def accB (b : Int) (ds xs : List Int) : Nat → List Int
  | 0 => []
  | k + 1 => if isNm (pw b ds.length) (aNum b (accD b ds xs k) + xs.getD k 0) = true then accB b ds xs k else accB b ds xs k ++ [(k : Int)]
def inA (xs : List Int) : Bool := xs.all (fun x => betB x (-1000000000000) 1000000000000)
def aaC (b : Int) (ds xs : List Int) : Int := if aOk b ds = false then 1 else if inA xs = false then 2 else 0
theorem aSet_len (b : Int) (k : Nat) (x : Int) : (aSet b k x).length = k := digD_len ..
theorem accD_len (b : Int) (ds xs : List Int) (k : Nat) : (accD b ds xs k).length = ds.length := by
  cases k with
  | zero => rfl
  | succ k => exact aSet_len ..
theorem accB_len (b : Int) (ds xs : List Int) (k : Nat) : (accB b ds xs k).length ≤ k := by
  induction k with
  | zero => simp [accB]
  | succ k ih => unfold accB; split; omega; rw [List.length_append]; simp; omega
theorem aSet_ok {b : Int} {ds : List Int} (h : aOk b ds = true) (x : Int) : aOk b (aSet b ds.length x) = true := by
  obtain ⟨h1, h2⟩ := aOk_iff.1 h
  obtain ⟨⟨b1, b2⟩, ⟨n1, n2⟩, -⟩ := vreg_iff.1 h1
  have hp := pw_pos b b1 ds.length
  have hb := aNorm_bd (n := pw b ds.length) (x := x) hp
  refine aOk_iff.2 ⟨?_, by rw [aSet_len]; exact h2⟩
  exact digD_vreg b b1 b2 _ n1 n2 _ hb.1 hb.2 (by omega)
theorem accD_ok {b : Int} {ds : List Int} (h : aOk b ds = true) (xs : List Int) (k : Nat) : aOk b (accD b ds xs k) = true := by
  cases k with
  | zero => exact h
  | succ k => exact aSet_ok h _
theorem inA_take_succ {xs : List Int} {k : Nat} (h : k < xs.length) : inA (xs.take (k + 1)) = (inA (xs.take k) && betB xs[k] (-1000000000000) 1000000000000) := by
  unfold inA; rw [List.take_succ_eq_append_getElem h, List.all_append]; simp only [List.all_cons, List.all_nil, Bool.and_true]
theorem inA_not {xs : List Int} {k : Nat} (h : k < xs.length) (h1 : betB xs[k] (-1000000000000) 1000000000000 = false) : inA xs = false := by
  simp only [inA, List.all_eq_false]; exact ⟨xs[k], List.getElem_mem _, by simp [h1]⟩
/-- what the adding of numbers returns -/
def AARet (b : Int) (ds xs : List Int) (w : World) (e : Ending) (w' : World) : Prop :=
  (aaC b ds xs ≠ 0 ∧ e = .returned (.tuple #[.agg #[.int .i64 0, .slice none 0 0], .slice none 0 0, .int .i64 (aaC b ds xs)]) ∧ Below w.heap.size w w') ∨
  (aaC b ds xs = 0 ∧ ∃ E k B m, e = .returned (.tuple #[.agg #[.int .i64 b, .slice E (accD b ds xs xs.length).length k], .slice B (accB b ds xs xs.length).length m, .int .i64 0]) ∧
    Kn w [rowI B m (accB b ds xs xs.length), rowI E k (accD b ds xs xs.length)] w')
theorem accD_succ (b : Int) (ds : List Int) {xs : List Int} {i : Nat} (h : i < xs.length) : accD b ds xs (i + 1) = aSet b ds.length (aNum b (accD b ds xs i) + xs[i]) := by rw [← getD_of h]; rfl
theorem accB_succ (b : Int) (ds : List Int) {xs : List Int} {i : Nat} (h : i < xs.length) : accB b ds xs (i + 1) = if isNm (pw b ds.length) (aNum b (accD b ds xs i) + xs[i]) = true then accB b ds xs i else accB b ds xs i ++ [(i : Int)] := by rw [← getD_of h]; rfl
theorem inA_get {xs : List Int} (h : inA xs = true) {i : Nat} (hi : i < xs.length) : betB xs[i] (-1000000000000) 1000000000000 = true := by
  unfold inA at h
  exact List.all_eq_true.1 h _ (List.getElem_mem _)
end Go.Proofs.YtgpmngcemnnpmaaDoor

namespace Go.Proofs.YtgpmngcemnnpmaaDoor
open Go.RowKit Go.Sort
end Go.Proofs.YtgpmngcemnnpmaaDoor

namespace Go.Proofs.YtgpmngcemnnpmaaDoor
open Go.RowKit Go.Sort
/-- what the drawing of a good register returns -/
def DReg (b M : Nat) (w : World) (e : Ending) (w' : World) : Prop := ∃ (bs : Int) (A : Option Addr) (c : Nat) (ds : List Int), e = .returned (.agg #[.int .i64 bs, .slice A ds.length c]) ∧ (2 ≤ bs ∧ bs ≤ 12 ∧ 1 ≤ ds.length ∧ ds.length ≤ 6) ∧ DR b M w [rowI A c ds] w'
theorem min6 {q k : Nat} (h : 0 ≤ (q : Int) ∧ ((q : Int) < min 6 (k : Int) ∨ min 6 (k : Int) ≤ 1 ∧ (q : Int) = 0)) : q ≤ 5 := by omega
theorem wrapQ {q : Nat} (h : q ≤ 5) : IntKind.i64.wrap (1 + (q : Int)) = ((q + 1 : Nat) : Int) := by rw [wrapI64 (by omega)]; omega
end Go.Proofs.YtgpmngcemnnpmaaDoor

namespace Go.Proofs.YtgpmngcemnnpmaaDoor
open Go.RowKit Go.Sort
end Go.Proofs.YtgpmngcemnnpmaaDoor
