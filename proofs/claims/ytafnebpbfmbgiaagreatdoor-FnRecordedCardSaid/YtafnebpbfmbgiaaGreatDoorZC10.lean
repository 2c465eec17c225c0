/- Part 10: lemmas and contracts of the claim's functions. -/
import Derived.Test.YtafnebpbfmbgiaaGreatDoorZC1
import Derived.Test.YtafnebpbfmbgiaaGreatDoorZC2
import Derived.Test.YtafnebpbfmbgiaaGreatDoorZC3
import Derived.Test.YtafnebpbfmbgiaaGreatDoorZC4
import Derived.Test.YtafnebpbfmbgiaaGreatDoorZC5
import Derived.Test.YtafnebpbfmbgiaaGreatDoorZC6
import Derived.Test.YtafnebpbfmbgiaaGreatDoorZC7
import Derived.Test.YtafnebpbfmbgiaaGreatDoorZC8
import Derived.Test.YtafnebpbfmbgiaaGreatDoorZC9
import Derived.Deep.OwnRows
import Derived.Deep.RegionHeld3
import Derived.Deep.DeepCutAuto
namespace Go.Proofs.YtafnebpbfmbgiaaGreatDoor
open Go.RowKit Go.Sort
/-- the inputs for which a promise is not kept -/
noncomputable def ffL (b z1 z2 z3 : Int) (L : List Ins) (kind arg : Int) : List Int := failsL (badB L b z1.toNat z2.toNat z3.toNat kind arg) (pw b z1.toNat * pw b z2.toNat).toNat
noncomputable def ffC (b z1 z2 z3 : Int) (L : List Ins) (kind arg : Int) : Int := if pC b z1 z2 z3 L kind arg ≠ 0 then pC b z1 z2 z3 L kind arg else if ffL b z1 z2 z3 L kind arg = [] then 3 else 0
noncomputable def ffV (b z1 z2 z3 : Int) (L : List Ins) (kind arg : Int) : Int := if pC b z1 z2 z3 L kind arg ≠ 0 then 0 else (ffL b z1 z2 z3 L kind arg).headD 0
noncomputable def cfV (b z1 z2 z3 : Int) (L : List Ins) (kind arg : Int) : Int := if pC b z1 z2 z3 L kind arg ≠ 0 then 0 else ((ffL b z1 z2 z3 L kind arg).length : Int)
def FFRet (b z1 z2 z3 : Int) (L : List Ins) (kind arg : Int) (w : World) (e : Ending) (w' : World) : Prop := e = .returned (.tuple #[.int .i64 (ffV b z1 z2 z3 L kind arg), .int .i64 (ffC b z1 z2 z3 L kind arg)]) ∧ Below w.heap.size w w'
def CFRet (b z1 z2 z3 : Int) (L : List Ins) (kind arg : Int) (w : World) (e : Ending) (w' : World) : Prop := e = .returned (.tuple #[.int .i64 (cfV b z1 z2 z3 L kind arg), .int .i64 (pC b z1 z2 z3 L kind arg)]) ∧ Below w.heap.size w w'
theorem pC_cases (b z1 z2 z3 : Int) (L : List Ins) (kind arg : Int) : pC b z1 z2 z3 L kind arg ≠ 0 ∨ (pC b z1 z2 z3 L kind arg = 0 ∧ vprog L = true ∧ isP kind arg = true ∧ ∃ n1 n2 n3 N : Nat, z1 = n1 ∧ z2 = n2 ∧ z3 = n3 ∧ NmB b n1 n2 n3 ∧ ¬ 256 < pw b n1 * pw b n2 ∧ pw b n1 * pw b n2 = (N : Int) ∧ N ≤ 256) := by
  by_cases h : pC b z1 z2 z3 L kind arg = 0
  · refine .inr ⟨h, ?_⟩
    unfold pC at h
    split at h
    · cases h
    rename_i hp
    split at h
    · cases h
    rename_i hk
    rcases inC_cases b z1 z2 z3 with h2 | ⟨-, n1, n2, n3, e1, e2, e3, hB, hbig⟩
    · exact absurd h h2
    · have hm0 : 0 ≤ pw b n1 * pw b n2 := Int.mul_nonneg (by have := hB.q1; omega) (by have := hB.q2; omega)
      obtain ⟨N, hN⟩ := Int.eq_ofNat_of_zero_le hm0
      exact ⟨by simpa using hp, by simpa using hk, n1, n2, n3, N, e1, e2, e3, hB, hbig, hN, by omega⟩
  · exact .inl h
theorem ff_bad {b z1 z2 z3 : Int} {L : List Ins} {kind arg : Int} (h : pC b z1 z2 z3 L kind arg ≠ 0) : ffV b z1 z2 z3 L kind arg = 0 ∧ ffC b z1 z2 z3 L kind arg = pC b z1 z2 z3 L kind arg ∧ cfV b z1 z2 z3 L kind arg = 0 := by
  unfold ffV ffC cfV
  rw [if_pos h, if_pos h, if_pos h]
  exact ⟨rfl, rfl, rfl⟩
theorem ff_fine {b : Int} {n1 n2 n3 N : Nat} {L : List Ins} {kind arg : Int} (h : pC b n1 n2 n3 L kind arg = 0) (hN : pw b n1 * pw b n2 = (N : Int)) : ffV b n1 n2 n3 L kind arg = (failsL (badB L b n1 n2 n3 kind arg) N).headD 0 ∧ ffC b n1 n2 n3 L kind arg = (if failsL (badB L b n1 n2 n3 kind arg) N = [] then 3 else 0) ∧ cfV b n1 n2 n3 L kind arg = ((failsL (badB L b n1 n2 n3 kind arg) N).length : Int) := by
  have hL : ffL b n1 n2 n3 L kind arg = failsL (badB L b n1 n2 n3 kind arg) N := by
    unfold ffL
    simp only [Int.toNat_natCast, hN]
  unfold ffV ffC cfV
  have hn : ¬ (pC b n1 n2 n3 L kind arg ≠ 0) := fun h2 => h2 h
  rw [if_neg hn, if_neg hn, if_neg hn, hL]
  exact ⟨rfl, rfl, rfl⟩
theorem head_neg {p : Nat → Bool} {N : Nat} : (failsL p N = [] ∧ (failsL p N).headD (-1) = -1) ∨ (failsL p N ≠ [] ∧ (failsL p N).headD (-1) = (failsL p N).headD 0 ∧ 0 ≤ (failsL p N).headD 0 ∧ (failsL p N).headD 0 ≤ N) := by
  have hall : ∀ n, ∀ x ∈ failsL p n, 0 ≤ x ∧ x ≤ n := by
    intro n
    induction n with
    | zero => intro x hx; simp [failsL] at hx
    | succ k ih =>
      intro x hx
      rw [failsL_succ] at hx
      split at hx
      · rcases List.mem_append.1 hx with hx | hx
        · have := ih x hx; omega
        · have := List.mem_singleton.1 hx; omega
      · have := ih x hx; omega
  have h := hall N
  rcases hf : failsL p N with _ | ⟨x, xs⟩
  · exact .inl ⟨rfl, rfl⟩
  · rw [hf] at h
    exact .inr ⟨by simp, rfl, h x (List.mem_cons_self ..)⟩
end Go.Proofs.YtafnebpbfmbgiaaGreatDoor

namespace Go.Proofs.YtafnebpbfmbgiaaGreatDoor
open Go.RowKit Go.Sort
def lftT (left : Int) (t : Tri) : Int := lft3 left t.a.digits.length t.b.digits.length t.s.digits.length
def lftS : Int → List Tri → Int
  | left, [] => left
  | left, t :: ts => if lftT left t < 0 then -1 else lftS (lftT left t) ts
def szS (left : Int) (ts : List Tri) : Int := if left - ts.length < 0 then -1 else lftS (left - ts.length) ts
theorem lftT_bd (left : Int) (t : Tri) (h : -1 ≤ left) : -1 ≤ lftT left t ∧ lftT left t ≤ left := by
  unfold lftT lft3
  have b1 := lft_bd left t.a.digits.length h (by omega)
  have b2 := lft_bd _ t.b.digits.length b1.1 (by omega)
  have b3 := lft_bd _ t.s.digits.length b2.1 (by omega)
  split
  · omega
  · split <;> omega
theorem lftT_small {left : Int} {t : Tri} (hl : left ≤ 1048576) (h0 : -1 ≤ left) (h : ¬ lftT left t < 0) : t.a.digits.length ≤ 1048576 ∧ t.b.digits.length ≤ 1048576 ∧ t.s.digits.length ≤ 1048576 := by
  unfold lftT lft3 at h
  split at h
  · omega
  · rename_i k1
    split at h
    · omega
    · rename_i k2
      have b1 := lft_bd left t.a.digits.length h0 (by omega)
      have b2 := lft_bd _ t.b.digits.length b1.1 (by omega)
      unfold lft at h k1 k2 b1 b2
      refine ⟨?_, ?_, ?_⟩
      · split at k1 <;> omega
      · split at k2 <;> split at k2 <;> omega
      · split at h <;> split at h <;> split at h <;> omega
theorem lftS_small : ∀ (ts : List Tri) (left : Int), 0 ≤ left → left ≤ 1048576 → ¬ lftS left ts < 0 → ∀ t ∈ ts, t.a.digits.length ≤ 1048576 ∧ t.b.digits.length ≤ 1048576 ∧ t.s.digits.length ≤ 1048576
  | [], _, _, _, _ => fun t h => by cases h
  | t :: ts, left, h0, hl, h => by
    unfold lftS at h
    split at h
    · omega
    · rename_i k1
      have hb := lftT_bd left t (by omega)
      intro u hu
      rcases List.mem_cons.1 hu with rfl | hu
      · exact lftT_small hl (by omega) k1
      · exact lftS_small ts (lftT left t) (by omega) (by omega) h u hu
theorem szS_small {ts : List Tri} (h : ¬ szS 1048576 ts < 0) : ts.length ≤ 1048576 ∧ ∀ t ∈ ts, t.a.digits.length ≤ 1048576 ∧ t.b.digits.length ≤ 1048576 ∧ t.s.digits.length ≤ 1048576 := by
  unfold szS at h
  split at h
  · omega
  · exact ⟨by omega, lftS_small ts _ (by omega) (by omega) h⟩
theorem smallTri_of {t : Tri} (h : t.a.digits.length ≤ 1048576 ∧ t.b.digits.length ≤ 1048576 ∧ t.s.digits.length ≤ 1048576) : SmallTri t := by
  unfold SmallTri SmallReg; omega
end Go.Proofs.YtafnebpbfmbgiaaGreatDoor

namespace Go.Proofs.YtafnebpbfmbgiaaGreatDoor
open Go.RowKit Go.Sort
theorem ownI_ri {w : World} {base n c : Nat} {A : Option Addr} {ds : List Int} (h : OwnI w base (.slice A n c) ds) : RI w A n ds := by
  obtain ⟨A', c', h1, h2, -⟩ := h.reads
  injection h1 with h1 h3 h4
  rw [h1, h3]; exact h2
theorem row_below {w w' : World} {base : Nat} {e : TypeId} {size : Nat} {v : Value} {n : Nat} {xs : List Value} (h : w.ownsRow base e size v n xs) (hb : Below w.heap.size w w') : w'.ownsRow base e size v n xs := by
  refine ⟨h.1, ?_⟩
  rcases h.2 with hn | ⟨g, cap, cur, rfl, hbg, hg, rest⟩
  · exact .inl hn
  · exact .inr ⟨g, cap, cur, rfl, hbg, by rw [hb.block g (Array.getElem?_eq_some_iff.1 hg).1]; exact hg, rest⟩
/-- trial i in the cells xs of an own row, its digits in own rows from block b on -/
def TriX (w : World) (b : Nat) (xs : List Value) (i : Nat) (t : Tri) : Prop := ∃ X1 x1 X2 x2 X3 x3, (xs[i * 7]? = some (.int .i64 t.a.base) ∧ xs[i * 7 + 1]? = some (.slice X1 t.a.digits.length x1) ∧ xs[i * 7 + 2]? = some (.int .i64 t.b.base) ∧ xs[i * 7 + 3]? = some (.slice X2 t.b.digits.length x2) ∧
    xs[i * 7 + 4]? = some (.int .i64 t.s.base) ∧ xs[i * 7 + 5]? = some (.slice X3 t.s.digits.length x3) ∧ xs[i * 7 + 6]? = some (.int .i64 t.carry)) ∧ OwnI w b (.slice X1 t.a.digits.length x1) t.a.digits ∧ OwnI w b (.slice X2 t.b.digits.length x2) t.b.digits ∧ OwnI w b (.slice X3 t.s.digits.length x3) t.s.digits
theorem TriX.below {w w' : World} {b : Nat} {xs : List Value} {i : Nat} {t : Tri} (h : TriX w b xs i t) (hb : Below w.heap.size w w') : TriX w' b xs i t := by
  obtain ⟨X1, x1, X2, x2, X3, x3, h1, h2, h3, h4⟩ := h
  exact ⟨X1, x1, X2, x2, X3, x3, h1, h2.below hb, h3.below hb, h4.below hb⟩
theorem TriX.setBelow {w : World} {b : Nat} {xs : List Value} {i : Nat} {t : Tri} (h : TriX w b xs i t) {a : Addr} (ha : a.block < b) (u : Value) : TriX (w.setCell a u) b xs i t := by
  obtain ⟨X1, x1, X2, x2, X3, x3, h1, h2, h3, h4⟩ := h
  exact ⟨X1, x1, X2, x2, X3, x3, h1, h2.setBelow ha u, h3.setBelow ha u, h4.setBelow ha u⟩
theorem row7 {w : World} {g n k : Nat} {T : TypeId} {xs : List Value} (h : w.ownsRow g T 7 (.slice (some ⟨g, 0, none⟩) n n) n xs) (hk : k < n) :
    (∃ u, w.cell? ⟨g, k * 7, none⟩ = some u) ∧ (∃ u, w.cell? ⟨g, k * 7 + 1, none⟩ = some u) ∧ (∃ u, w.cell? ⟨g, k * 7 + 2, none⟩ = some u) ∧ (∃ u, w.cell? ⟨g, k * 7 + 3, none⟩ = some u) ∧ (∃ u, w.cell? ⟨g, k * 7 + 4, none⟩ = some u) ∧ (∃ u, w.cell? ⟨g, k * 7 + 5, none⟩ = some u) ∧ (∃ u, w.cell? ⟨g, k * 7 + 6, none⟩ = some u) := by
  have hl := h.1
  have H : ∀ j, j < n * 7 → ∃ u, w.cell? ⟨g, j, none⟩ = some u := fun j hj => ⟨xs[j]'(by omega), (h.cellAt j (by omega)).trans (List.getElem?_eq_getElem (by omega))⟩
  exact ⟨H _ (by omega), H _ (by omega), H _ (by omega), H _ (by omega), H _ (by omega), H _ (by omega), H _ (by omega)⟩
def set7 (xs : List Value) (o : Nat) (v0 v1 v2 v3 v4 v5 v6 : Value) : List Value := ((((((xs.set o v0).set (o + 1) v1).set (o + 2) v2).set (o + 3) v3).set (o + 4) v4).set (o + 5) v5).set (o + 6) v6
theorem set7_ne {xs : List Value} {o i : Nat} {v0 v1 v2 v3 v4 v5 v6 : Value} (h : i < o) : (set7 xs o v0 v1 v2 v3 v4 v5 v6)[i]? = xs[i]? := by
  unfold set7
  rw [List.getElem?_set_ne (by omega), List.getElem?_set_ne (by omega), List.getElem?_set_ne (by omega), List.getElem?_set_ne (by omega), List.getElem?_set_ne (by omega), List.getElem?_set_ne (by omega), List.getElem?_set_ne (by omega)]
theorem set7_at {xs : List Value} {o : Nat} {v0 v1 v2 v3 v4 v5 v6 : Value} (h : o + 6 < xs.length) : (set7 xs o v0 v1 v2 v3 v4 v5 v6)[o]? = some v0 ∧ (set7 xs o v0 v1 v2 v3 v4 v5 v6)[o + 1]? = some v1 ∧ (set7 xs o v0 v1 v2 v3 v4 v5 v6)[o + 2]? = some v2 ∧ (set7 xs o v0 v1 v2 v3 v4 v5 v6)[o + 3]? = some v3 ∧
    (set7 xs o v0 v1 v2 v3 v4 v5 v6)[o + 4]? = some v4 ∧ (set7 xs o v0 v1 v2 v3 v4 v5 v6)[o + 5]? = some v5 ∧ (set7 xs o v0 v1 v2 v3 v4 v5 v6)[o + 6]? = some v6 := by
  unfold set7
  refine ⟨?_, ?_, ?_, ?_, ?_, ?_, ?_⟩ <;>
    (repeat rw [List.getElem?_set_ne (by omega)]) <;> rw [List.getElem?_set_self (by first | omega | (simp only [List.length_set]; omega))]
theorem stored7 {w : World} {g n : Nat} {T : TypeId} {xs : List Value} (h : w.ownsRow g T 7 (.slice (some ⟨g, 0, none⟩) n n) n xs) (o : Nat) (v0 v1 v2 v3 v4 v5 v6 : Value) :
    (((((((w.setCell ⟨g, o, none⟩ v0).setCell ⟨g, o + 1, none⟩ v1).setCell ⟨g, o + 2, none⟩ v2).setCell ⟨g, o + 3, none⟩ v3).setCell ⟨g, o + 4, none⟩ v4).setCell ⟨g, o + 5, none⟩ v5).setCell ⟨g, o + 6, none⟩ v6).ownsRow g T 7 (.slice (some ⟨g, 0, none⟩) n n) n (set7 xs o v0 v1 v2 v3 v4 v5 v6) :=
  ((((((((h.stored o v0).1.stored (o + 1) v1).1.stored (o + 2) v2).1.stored (o + 3) v3).1.stored (o + 4) v4).1.stored (o + 5) v5).1.stored (o + 6) v6)).1
end Go.Proofs.YtafnebpbfmbgiaaGreatDoor

namespace Go.Proofs.YtafnebpbfmbgiaaGreatDoor
open Go.RowKit Go.Sort
/-- numbers were stored into blocks of P -/
inductive Marks (P : Nat → Prop) : World → World → Prop
  | refl (w : World) : Marks P w w
  | step {w w' : World} {b : Nat} (h : Marks P w w') (hb : P b) (j : Nat) (u : Int) : Marks P w (w'.setCell ⟨b, j, none⟩ (.int .i64 u))
theorem Marks.trans {P : Nat → Prop} {a b c : World} (h1 : Marks P a b) (h2 : Marks P b c) : Marks P a c := by
  induction h2 with
  | refl => exact h1
  | step _ hb j u ih => exact ih.step hb j u
theorem Marks.weaken {P Q : Nat → Prop} {a b : World} (h : Marks P a b) (hq : ∀ k, P k → Q k) : Marks Q a b := by
  induction h with
  | refl => exact .refl _
  | step _ hb j u ih => exact ih.step (hq _ hb) j u
theorem Marks.under {P : Nat → Prop} {B : Nat} {a w w' : World} (h : Marks P w w') (hb : Below B a w) (hP : ∀ k, P k → B ≤ k) : Below B a w' := by
  induction h with
  | refl => exact hb
  | step _ hk j u ih => exact ih.setCell (hP _ hk) _
theorem Marks.size {P : Nat → Prop} {w w' : World} (h : Marks P w w') : w'.heap.size = w.heap.size := by
  induction h with
  | refl => rfl
  | step _ hk j u ih => rw [← ih]; simp [World.setCell]
theorem Marks.block {P : Nat → Prop} {w w' : World} (h : Marks P w w') {k : Nat} (hk : ¬ P k) : w'.heap[k]? = w.heap[k]? := by
  induction h with
  | refl => rfl
  | step _ hb j u ih => rw [← ih]; exact heap_setCell_other _ _ k _ (fun e => hk (by rw [e]; exact hb))
theorem map_set_int (ds : List Int) (j : Nat) (u : Int) : (ds.map (Value.int .i64)).set j (.int .i64 u) = (ds.set j u).map (Value.int .i64) := by
  rw [List.map_set]
theorem OwnI.setAny {w : World} {base : Nat} {v : Value} {ds : List Int} (h : OwnI w base v ds) (b j : Nat) (u : Int) : ∃ ds', ds'.length = ds.length ∧ OwnI (w.setCell ⟨b, j, none⟩ (.int .i64 u)) base v ds' := by
  have h' := h
  rcases h.2 with ⟨rfl, hn⟩ | ⟨g, cap, cur, rfl, hb, hg, rest⟩
  · exact ⟨ds, rfl, by simp [hn], .inl ⟨rfl, hn⟩⟩
  · by_cases hgb : g = b
    · subst hgb
      refine ⟨ds.set j u, by simp, ?_⟩
      have hs := (World.ownsRow.stored h j (.int .i64 u)).1
      rw [map_set_int] at hs
      unfold OwnI
      rw [List.length_set]
      exact hs
    · refine ⟨ds, rfl, h.1, .inr ⟨g, cap, cur, rfl, hb, ?_, rest⟩⟩
      rw [heap_setCell_other _ _ _ _ (by simpa using hgb)]
      exact hg
theorem Marks.ownI {P : Nat → Prop} {w w' : World} (h : Marks P w w') {base : Nat} {v : Value} {ds : List Int} (ho : OwnI w base v ds) : ∃ ds', ds'.length = ds.length ∧ OwnI w' base v ds' := by
  induction h with
  | refl => exact ⟨ds, rfl, ho⟩
  | step _ hb j u ih =>
    obtain ⟨d1, l1, o1⟩ := ih
    obtain ⟨d2, l2, o2⟩ := o1.setAny _ j u
    exact ⟨d2, l2.trans l1, o2⟩
/-- k, k + 1, .. -/
def upto (k : Int) (n : Nat) : List Int := (List.range n).map (fun (i : Nat) => k + (i : Int))
theorem upto_len (k : Int) (n : Nat) : (upto k n).length = n := by simp [upto]
theorem upto_get (k : Int) {n i : Nat} (h : i < n) : (upto k n)[i]? = some (k + i) := by simp [upto, h]
/-- the first j are marked -/
def marked (k : Int) (ds : List Int) (j : Nat) : List Int := upto k j ++ ds.drop j
theorem marked_len (k : Int) (ds : List Int) {j : Nat} (h : j ≤ ds.length) : (marked k ds j).length = ds.length := by simp [marked, upto_len]; omega
theorem marked_set (k : Int) (ds : List Int) {j : Nat} (h : j < ds.length) : (marked k ds j).set j (k + j) = marked k ds (j + 1) := by
  unfold marked
  rw [List.set_append_right _ _ (by rw [upto_len]; exact Nat.le_refl _), upto_len, Nat.sub_self, List.drop_eq_getElem_cons h, List.set_cons_zero]
  simp [upto, List.range_succ]
end Go.Proofs.YtafnebpbfmbgiaaGreatDoor

namespace Go.Proofs.YtafnebpbfmbgiaaGreatDoor
open Go.RowKit Go.Sort
theorem Marks.chg {P : Nat → Prop} {w w' : World} (h : Marks P w w') : Chg P w w' := by
  induction h with
  | refl => exact ⟨rfl, rfl, rfl, Nat.le_refl _, fun _ _ _ => rfl⟩
  | step h hb j u ih =>
    refine ⟨ih.os, ih.tape, ih.output, Nat.le_trans ih.size (by simp [World.setCell]), fun k hk hn => ?_⟩
    rw [Below.heap_setCell _ _ _ _ (fun e => hn (by rw [e]; exact hb))]
    exact ih.block k hk hn
def rowN (A : Option Addr) (n c : Nat) (ds : List Int) : Ent := .row (.slice A n c) 2 1 n (ds.map (Value.int .i64))
theorem Kn.marks {w0 w w' : World} {m : List Ent} {A : Option Addr} {n c : Nat} {ds ds' : List Int} (h : Kn w0 (rowN A n c ds :: m) w) (hm : Marks (fun b => (Value.slice A n c).ownBlock = some b) w w') (ho : OwnI w' 0 (.slice A n c) ds') (hl : ds'.length = n) : Kn w0 (rowN A n c ds' :: m) w' := by
  subst hl
  exact h.upd (e' := rowN A ds'.length c ds') hm.chg ho (fun k hk => .inl hk)
theorem Kn.ownN {w0 w : World} {m : List Ent} {A : Option Addr} {n c : Nat} {ds : List Int} (h : Kn w0 (rowN A n c ds :: m) w) : OwnI w 0 (.slice A n c) ds ∧ ds.length = n := by
  have h1 : w.ownsRow 0 2 1 (.slice A n c) n (ds.map (Value.int .i64)) := h.at0
  have h2 := h1.1
  rw [List.length_map, Nat.mul_one] at h2
  subst h2
  exact ⟨h1, rfl⟩
theorem Kn.riN {w0 w : World} {m : List Ent} {A : Option Addr} {n c : Nat} {ds : List Int} (h : Kn w0 (rowN A n c ds :: m) w) : RI w A n ds := h.ownN.1.ri
theorem Kn.tail3 {w0 w : World} {m : List Ent} {a b c d : Ent} (h : Kn w0 (a :: b :: c :: d :: m) w) : Kn w0 (b :: c :: d :: a :: m) w := h.perm (List.perm_middle (a := a) (l₁ := [b, c, d]) (l₂ := m)).symm
theorem Kn.rot3 {w0 w : World} {m : List Ent} {b c d : Ent} (h : Kn w0 (b :: c :: d :: m) w) : Kn w0 (c :: d :: b :: m) w := h.perm (List.perm_middle (a := b) (l₁ := [c, d]) (l₂ := m)).symm
theorem Kn.addN {w0 w w' : World} {m : List Ent} {A : Option Addr} {n c : Nat} {ds : List Int} (h : Kn w0 m w) (hb : Below w.heap.size w w') (ho : OwnI w' w.heap.size (.slice A n c) ds) (hl : ds.length = n) : Kn w0 (rowN A n c ds :: m) w' := by
  subst hl
  exact h.addI hb ho
theorem lf_small {left n : Int} (h : ¬ lft left n < 0) (hl : left ≤ 1048576) : n ≤ 1048576 := by unfold lft at h; split at h <;> omega
theorem lf3_small {n1 n2 n3 : Int} (p1 : 0 ≤ n1) (p2 : 0 ≤ n2) (_p3 : 0 ≤ n3) (h : ¬ lft3 1048576 n1 n2 n3 < 0) : n1 ≤ 1048576 ∧ n2 ≤ 1048576 ∧ n3 ≤ 1048576 := by
  unfold lft3 at h
  split at h
  · omega
  · rename_i k1
    split at h
    · omega
    · rename_i k2
      have h1 := lf_small k1 (Int.le_refl _)
      have b1 := lft_bd 1048576 n1 (by omega) p1
      have h2 := lf_small k2 b1.2
      have b2 := lft_bd _ n2 b1.1 p2
      have h3 := lf_small h (by omega)
      exact ⟨h1, h2, h3⟩
theorem lf3_lo (n1 n2 n3 : Int) (p1 : 0 ≤ n1) (p2 : 0 ≤ n2) (p3 : 0 ≤ n3) : lft3 1048576 n1 n2 n3 ≤ 1048576 ∧ -1 ≤ lft3 1048576 n1 n2 n3 := by
  unfold lft3
  have b1 := lft_bd 1048576 n1 (by omega) p1
  have b2 := lft_bd _ n2 b1.1 p2
  have b3 := lft_bd _ n3 b2.1 p3
  split
  · omega
  · split <;> omega
end Go.Proofs.YtafnebpbfmbgiaaGreatDoor

namespace Go.Proofs.YtafnebpbfmbgiaaGreatDoor
open Go.RowKit Go.Sort
theorem info_ins : (Tryz.prog.info? 93).map (fun i => (i.zero, i.size, i.bytes)) = some (some (.agg #[.int .i64 0, .int .i64 0]), 2, 16) := by kernel_rfl
theorem cellsIns_ext {xs : List Ins} {cs : List Value} (hl : cs.length = xs.length * 2) (h : ∀ (i : Nat) (h : i < xs.length), cs[i * 2]? = some (.int .i64 xs[i].op) ∧ cs[i * 2 + 1]? = some (.int .i64 xs[i].arg)) : cs = cellsIns xs := by
  apply List.ext_getElem?
  intro j
  by_cases hj : j < xs.length * 2
  · obtain ⟨h1, h2⟩ := h (j / 2) (by omega)
    obtain ⟨h3, h4⟩ := cellsIns_get xs (j / 2) (by omega)
    rcases Nat.mod_two_eq_zero_or_one j with he | he
    · have e : j / 2 * 2 = j := by omega
      rw [e] at h1 h3; rw [h1, h3]
    · have e : j / 2 * 2 + 1 = j := by omega
      rw [e] at h2 h4; rw [h2, h4]
  · rw [List.getElem?_eq_none (by omega), List.getElem?_eq_none (by rw [cellsIns_len]; omega)]
def rowInsN (A : Option Addr) (n c : Nat) (xs : List Ins) : Ent := .row (.slice A n c) 93 2 n (cellsIns xs)
theorem Kn.rlInsN {w0 w : World} {m : List Ent} {A : Option Addr} {n c : Nat} {xs : List Ins} (h : Kn w0 (rowInsN A n c xs :: m) w) (hl : xs.length = n) : RL InsM 2 w A n xs := by
  subst hl
  exact (Kn.rlIns (m := m) h).2
/-- the first j cells are marked -/
def markedV (k : Int) (cs : List Value) (j : Nat) : List Value := (upto k j).map (Value.int .i64) ++ cs.drop j
theorem markedV_set (k : Int) (cs : List Value) {j : Nat} (h : j < cs.length) : (markedV k cs j).set j (.int .i64 (k + j)) = markedV k cs (j + 1) := by
  unfold markedV
  rw [List.set_append_right _ _ (by rw [List.length_map, upto_len]; exact Nat.le_refl _), List.length_map, upto_len, Nat.sub_self, List.drop_eq_getElem_cons h, List.set_cons_zero]
  simp [upto, List.range_succ]
theorem markedV_len (k : Int) (cs : List Value) {j : Nat} (h : j ≤ cs.length) : (markedV k cs j).length = cs.length := by simp [markedV, upto_len]; omega
end Go.Proofs.YtafnebpbfmbgiaaGreatDoor

namespace Go.Proofs.YtafnebpbfmbgiaaGreatDoor
open Go.RowKit Go.Sort
/-- the program of n strokes with number k -/
def numP : Nat → Nat → List Ins
  | 0, _ => []
  | n + 1, k => numP n (k / 4) ++ [⟨2 + (k % 4 : Nat), 1⟩]
def addI : Ins := ⟨2, 1⟩
theorem numP_len (n k : Nat) : (numP n k).length = n := by
  induction n generalizing k with
  | zero => rfl
  | succ n ih => simp [numP, ih]
theorem numP_zero (n : Nat) : numP n 0 = List.replicate n addI := by
  induction n with
  | zero => rfl
  | succ n ih =>
    show numP n (0 / 4) ++ [⟨2 + ((0 % 4 : Nat) : Int), 1⟩] = _
    rw [Nat.zero_div, ih, List.replicate_succ']
    rfl
theorem numP_pow (m d x : Nat) : numP (m + d) (x * 4 ^ d) = numP m x ++ List.replicate d addI := by
  induction d with
  | zero => simp
  | succ d ih =>
    show numP (m + d) (x * 4 ^ (d + 1) / 4) ++ [⟨2 + ((x * 4 ^ (d + 1) % 4 : Nat) : Int), 1⟩] = _
    have h1 : x * 4 ^ (d + 1) = 4 * (x * 4 ^ d) := by rw [Nat.pow_succ]; ac_rfl
    rw [h1, Nat.mul_div_cancel_left _ (by decide), Nat.mul_mod_right, ih, List.replicate_succ', List.append_assoc]
    rfl
theorem numP_ok (n k : Nat) (hn : n ≤ 4) : vprog (numP n k) = true := by
  have h : ∀ n k, ∀ x ∈ numP n k, instrOk x.op x.arg = true ∧ x.op ≤ 7 := by
    intro n
    induction n with
    | zero => intro k x hx; cases hx
    | succ n ih =>
      intro k x hx
      rcases List.mem_append.1 hx with hx | hx
      · exact ih _ x hx
      · rw [List.mem_singleton.1 hx]
        have h4 : k % 4 < 4 := Nat.mod_lt _ (by decide)
        have : k % 4 = 0 ∨ k % 4 = 1 ∨ k % 4 = 2 ∨ k % 4 = 3 := by omega
        rcases this with h | h | h | h <;> rw [h] <;> exact ⟨by decide, by decide⟩
  have hd : ∀ (ys : List Ins), (∀ x ∈ ys, instrOk x.op x.arg = true ∧ x.op ≤ 7) → ys.foldl stepI (some 0) = some 0 := by
    intro ys
    induction ys with
    | nil => intro _; rfl
    | cons y ys ih =>
      intro hy
      obtain ⟨h1, h2⟩ := hy y (List.mem_cons_self ..)
      have hs : stepI (some 0) y = some 0 := by
        unfold stepI
        simp only [Option.bind_some, h1, if_true]
        unfold depthStep opens
        rw [if_neg (by omega), if_neg (by simp; omega)]
      rw [List.foldl_cons, hs]
      exact ih (fun x hx => hy x (List.mem_cons_of_mem _ hx))
  unfold vprog progD
  rw [hd _ (h n k), numP_len]
  simp; omega
theorem cellsIns_set (xs : List Ins) (j : Nat) (y : Ins) (h : j < xs.length) : ((cellsIns xs).set (j * 2) (.int .i64 y.op)).set (j * 2 + 1) (.int .i64 y.arg) = cellsIns (xs.set j y) := by
  induction xs generalizing j with
  | nil => simp at h
  | cons x xs ih =>
    have h2 : ∀ (a : Ins) (l : List Ins), cellsIns (a :: l) = .int .i64 a.op :: .int .i64 a.arg :: cellsIns l := fun a l => by simp [cellsIns]
    cases j with
    | zero => simp [h2]
    | succ j =>
      rw [h2, show (j + 1) * 2 = j * 2 + 1 + 1 by omega]
      simp only [List.set_cons_succ]
      rw [ih j (by simpa using h), h2]
theorem set_mid {α : Type} (xs ys : List α) (a b : α) (n : Nat) (h : xs.length = n) : (xs ++ a :: ys).set n b = xs ++ b :: ys := by
  subst h
  rw [List.set_append_right _ _ (Nat.le_refl _), Nat.sub_self]
  rfl
theorem get_mid {α : Type} (xs ys : List α) (a : α) (n : Nat) (h : xs.length = n) (hl : n < (xs ++ a :: ys).length) : (xs ++ a :: ys)[n] = a := by
  subst h
  simp
/-- the list of strokes while the next one is sought -/
def oddP (n m x : Nat) : List Ins := numP m x ++ List.replicate (n - m) addI
theorem oddP_len {n m x : Nat} (h : m ≤ n) : (oddP n m x).length = n := by
  unfold oddP; rw [List.length_append, numP_len, List.length_replicate]; omega
theorem oddP_succ {n m x : Nat} : oddP n (m + 1) x = numP m (x / 4) ++ ⟨2 + ((x % 4 : Nat) : Int), 1⟩ :: List.replicate (n - (m + 1)) addI := by
  show (numP m (x / 4) ++ [⟨2 + ((x % 4 : Nat) : Int), 1⟩]) ++ List.replicate (n - (m + 1)) addI = _
  rw [List.append_assoc]; rfl
theorem oddP_back {n m x : Nat} (h : m + 1 ≤ n) : numP m (x / 4) ++ addI :: List.replicate (n - (m + 1)) addI = oddP n m (x / 4) := by
  unfold oddP; rw [show n - m = (n - (m + 1)) + 1 by omega, List.replicate_succ]
theorem oddP_next {n m x k : Nat} (h : m + 1 ≤ n) (hk : k + 1 = (x + 1) * 4 ^ (n - (m + 1))) (h4 : x % 4 < 3) : numP m (x / 4) ++ ⟨2 + ((x % 4 : Nat) : Int) + 1, 1⟩ :: List.replicate (n - (m + 1)) addI = numP n (k + 1) := by
  have e := numP_pow (m + 1) (n - (m + 1)) (x + 1)
  rw [show m + 1 + (n - (m + 1)) = n by omega, ← hk] at e
  rw [e]
  have h1 : (x + 1) / 4 = x / 4 := by omega
  have h2 : (x + 1) % 4 = x % 4 + 1 := by omega
  show _ = (numP m ((x + 1) / 4) ++ [⟨2 + (((x + 1) % 4 : Nat) : Int), 1⟩]) ++ _
  rw [h1, h2, List.append_assoc]
  congr 1
theorem pow_next {n m x k : Nat} (h : m + 1 ≤ n) (hk : k + 1 = (x + 1) * 4 ^ (n - (m + 1))) (h4 : ¬ x % 4 < 3) : k + 1 = (x / 4 + 1) * 4 ^ (n - m) := by
  have h1 : x + 1 = 4 * (x / 4 + 1) := by omega
  rw [hk, h1, show n - m = (n - (m + 1)) + 1 by omega, Nat.pow_succ]
  ac_rfl
theorem div_pow {m x : Nat} (h : x < 4 ^ (m + 1)) : x / 4 < 4 ^ m := by
  rw [Nat.pow_succ] at h; omega
/-- a stroke that follows leads to a number in range -/
theorem next_lt {n m x k : Nat} (hm : m + 1 ≤ n) (hx : x < 4 ^ (m + 1)) (hk : k + 1 = (x + 1) * 4 ^ (n - (m + 1))) (h4 : x % 4 < 3) : k + 1 < 4 ^ n := by
  have h1 : x + 1 < 4 ^ (m + 1) := by
    rcases Nat.lt_or_ge (x + 1) (4 ^ (m + 1)) with h | h
    · exact h
    · exfalso
      have : x + 1 = 4 ^ (m + 1) := by omega
      rw [Nat.pow_succ] at this
      omega
  have h2 : (4 : Nat) ^ n = 4 ^ (m + 1) * 4 ^ (n - (m + 1)) := by rw [← Nat.pow_add]; congr 1; omega
  rw [hk, h2]
  exact Nat.mul_lt_mul_of_pos_right h1 (Nat.pow_pos (by decide))
theorem Kn.setP {w0 w : World} {mm : List Ent} {g n c : Nat} {xs : List Ins} (h : Kn w0 (rowInsN (some ⟨g, 0, none⟩) n c xs :: mm) w) (j : Nat) (y : Ins) (hj : j < xs.length) :
    Kn w0 (rowInsN (some ⟨g, 0, none⟩) n c (xs.set j y) :: mm) ((w.setCell ⟨g, j * 2, none⟩ (.int .i64 y.op)).setCell ⟨g, j * 2 + 1, none⟩ (.int .i64 y.arg)) := by
  unfold rowInsN at *
  have h1 := (h.rowSt (j * 2) (.int .i64 y.op)).rowSt (j * 2 + 1) (.int .i64 y.arg)
  rw [cellsIns_set xs j y hj] at h1
  exact h1
end Go.Proofs.YtafnebpbfmbgiaaGreatDoor

namespace Go.Proofs.YtafnebpbfmbgiaaGreatDoor
open Go.RowKit Go.Sort
theorem set_same {α : Type} {l : List α} {i : Nat} {v : α} (h : l[i]? = some v) : l.set i v = l := by
  apply List.ext_getElem?
  intro k
  rw [List.getElem?_set]
  split
  · rename_i hk
    subst hk
    split
    · exact h.symm
    · rename_i hl
      rw [List.getElem?_eq_none (by omega)] at h
      cases h
  · rfl
theorem cellsIns_op (xs : List Ins) (j : Nat) (x : Int) (h : j < xs.length) : (cellsIns xs).set (j * 2) (.int .i64 x) = cellsIns (xs.set j ⟨x, xs[j].arg⟩) := by
  have h1 := cellsIns_set xs j ⟨x, xs[j].arg⟩ h
  rw [← h1]
  refine (set_same ?_).symm
  rw [List.getElem?_set_ne (by omega)]
  exact (cellsIns_get xs j h).2
theorem cellsIns_arg (xs : List Ins) (j : Nat) (x : Int) (h : j < xs.length) : (cellsIns xs).set (j * 2 + 1) (.int .i64 x) = cellsIns (xs.set j ⟨xs[j].op, x⟩) := by
  have h1 := cellsIns_set xs j ⟨xs[j].op, x⟩ h
  rw [← h1]
  congr 1
  exact (set_same (cellsIns_get xs j h).1).symm
theorem cellsIns_take (xs : List Ins) : ∀ j : Nat, (cellsIns xs).take (j * 2) = cellsIns (xs.take j) := by
  induction xs with
  | nil => intro j; simp [cellsIns]
  | cons x xs ih =>
    intro j
    cases j with
    | zero => simp [cellsIns]
    | succ j =>
      have h2 := ih j
      show List.take ((j + 1) * 2) (Value.int .i64 x.op :: Value.int .i64 x.arg :: cellsIns xs) = Value.int .i64 x.op :: Value.int .i64 x.arg :: cellsIns (xs.take j)
      rw [← h2, show (j + 1) * 2 = j * 2 + 1 + 1 by omega]
      rfl
theorem Kn.prefixRow {w0 w : World} {m : List Ent} {g c n j size : Nat} {e : TypeId} {xs : List Value} (h : Kn w0 (.row (.slice (some ⟨g, 0, none⟩) n c) e size n xs :: m) w) (hj : j ≤ n) : Kn w0 (.row (.slice (some ⟨g, 0, none⟩) j c) e size j (xs.take (j * size)) :: m) w := by
  have h0 : w.ownsRow 0 e size (.slice (some ⟨g, 0, none⟩) n c) n xs := h.at0
  have hm : j * size ≤ n * size := Nat.mul_le_mul_right _ hj
  refine ⟨h.below, fun x hx => ?_, fun x hx k hk => ?_, List.pairwise_cons.2 ⟨fun x hx k hk => ?_, (List.pairwise_cons.1 h.apart).2⟩⟩
  · rcases List.mem_cons.1 hx with rfl | hx
    · rcases h0.2 with ⟨hv, _⟩ | ⟨g', cap, cur, hv, hb, hg, h1, h2, h3, h4⟩
      · cases hv
      · injection hv with hv1 hv2 hv3
        injection hv1 with hv1
        injection hv1 with hv1
        subst hv1
        subst hv3
        refine ⟨by rw [List.length_take, h0.1]; omega, .inr ⟨g, c, cur, rfl, hb, hg, by omega, h2, h3, ?_⟩⟩
        rw [← h4, List.take_take, Nat.min_eq_left hm]
    · exact h.ents x (List.mem_cons_of_mem _ hx)
  · rcases List.mem_cons.1 hx with rfl | hx
    · exact h.own _ (List.mem_cons_self ..) k hk
    · exact h.own x (List.mem_cons_of_mem _ hx) k hk
  · exact (List.pairwise_cons.1 h.apart).1 x hx k hk
theorem Kn.prefixIns {w0 w : World} {m : List Ent} {g c j : Nat} {xs : List Ins} (h : Kn w0 (rowIns (.slice (some ⟨g, 0, none⟩) xs.length c) xs :: m) w) (hj : j ≤ xs.length) : Kn w0 (rowIns (.slice (some ⟨g, 0, none⟩) (xs.take j).length c) (xs.take j) :: m) w := by
  have h1 := Kn.prefixRow h hj
  unfold rowIns
  rw [cellsIns_take] at h1
  rw [show (xs.take j).length = j by rw [List.length_take]; omega]
  exact h1
theorem Kn.setOp {w0 w : World} {m : List Ent} {g n c : Nat} {xs : List Ins} (h : Kn w0 (rowInsN (some ⟨g, 0, none⟩) n c xs :: m) w) (j : Nat) (x : Int) (hj : j < xs.length) :
    Kn w0 (rowInsN (some ⟨g, 0, none⟩) n c (xs.set j ⟨x, xs[j].arg⟩) :: m) (w.setCell ⟨g, j * 2, none⟩ (.int .i64 x)) := by
  unfold rowInsN at *
  have h1 := h.rowSt (j * 2) (.int .i64 x)
  rw [cellsIns_op xs j x hj] at h1
  exact h1
theorem Kn.setArg {w0 w : World} {m : List Ent} {g n c : Nat} {xs : List Ins} (h : Kn w0 (rowInsN (some ⟨g, 0, none⟩) n c xs :: m) w) (j : Nat) (x : Int) (hj : j < xs.length) :
    Kn w0 (rowInsN (some ⟨g, 0, none⟩) n c (xs.set j ⟨xs[j].op, x⟩) :: m) (w.setCell ⟨g, j * 2 + 1, none⟩ (.int .i64 x)) := by
  unfold rowInsN at *
  have h1 := h.rowSt (j * 2 + 1) (.int .i64 x)
  rw [cellsIns_arg xs j x hj] at h1
  exact h1
set_option maxRecDepth 100000 in
set_option maxHeartbeats 1600000 in
theorem l11Draw_dr (b N : Nat) (w : World) (h : Src w b N) (hN : N ≤ 500000) : Calls Tryz.prog 96 #[.pointer (some ⟨b, 0, none⟩)] w (DIns b (N + 1000) 168 w) := by
  unfold DIns
  have D0 := DR.nil h
  clear h
  go_enter Tryz.func96, Tryz.ntmps96
  go_wp2_with fail
  refine (one_dr b _ 20 w D0.src (by omega)).mono ?_; rintro e w1 ⟨x, rfl, h1⟩
  have D1 := D0.add h1
  clear D0 h1
  rcases x with _ | _
  · have KR := Lib.hid (l11Some2_dr b _ w1 D1.src (by omega))
    unfold DIns at KR
    go_wp2_with fail
    refine KR.out.mono ?_; rintro e w2 ⟨g, c, xs, rfl, hl, h2⟩
    have D2 := D1.add h2
    clear D1 h2 KR
    go_wp2_with fail
    go_ret
    exact ⟨g, c, xs, rfl, by omega, D2.mono (by omega)⟩
  · go_wp2_with fail
    refine (pick_dr b _ 9 w1 D1.src (by omega)).mono ?_; rintro e w2 ⟨p, rfl, hp, h2⟩
    have D2 := D1.add h2
    clear D1 h2
    have KR := Lib.hid (fun t W => l11Nest_any 4 t W (by decide))
    unfold InsRet at KR
    go_wp2_with fail
    refine (KR.out _ _).mono ?_; rintro e w3 ⟨g, c, xs, rfl, hl, h3⟩
    have D3 : DR b _ w [rowIns (.slice (some ⟨g, 0, none⟩) xs.length c) xs] w3 := D2.kn (fun v hK => hK.join h3)
    clear D2 h3 KR
    go_wp2_with fail
    go_ret
    exact ⟨g, c, xs, rfl, by omega, D3.mono (by omega)⟩
end Go.Proofs.YtafnebpbfmbgiaaGreatDoor

namespace Go.Proofs.YtafnebpbfmbgiaaGreatDoor
open Go.RowKit Go.Sort
theorem DR.capIns {b N : Nat} {w wi : World} {m : List Ent} {g c : Nat} {xs : List Ins} (h : DR b N w (rowIns (.slice (some ⟨g, 0, none⟩) xs.length c) xs :: m) wi) : xs.length ≤ c ∧ c ≤ 9223372036854775807 := by
  obtain ⟨v, -, -, hK⟩ := h
  have h0 : wi.ownsRow 0 93 2 (.slice (some ⟨g, 0, none⟩) xs.length c) xs.length (cellsIns xs) := hK.at0
  rcases h0.2 with ⟨hv, _⟩ | ⟨g', cap, cur, hv, -, -, h1, h2, -⟩
  · cases hv
  · injection hv with _ _ hv
    subst hv
    unfold maxLen at h2
    omega
set_option maxRecDepth 100000 in
set_option maxHeartbeats 3200000 in
theorem l11Bent_dr (b N : Nat) (w : World) (h : Src w b N) (hN : N ≤ 400000) : Calls Tryz.prog 57 #[.pointer (some ⟨b, 0, none⟩)] w (DIns b (N + 1010) 168 w) := by
  unfold DIns
  have D0 := DR.nil h
  have KR := Lib.hid (l11Draw_dr b _ w h (by omega))
  unfold DIns at KR
  clear h
  go_enter Tryz.func57, Tryz.ntmps57
  go_wp2_with fail
  refine KR.out.mono ?_; rintro e w1 ⟨g, c, xs, rfl, hl, h1⟩
  have D1 : DR b _ w [rowIns (.slice (some ⟨g, 0, none⟩) xs.length c) xs] w1 := D0.add h1
  clear D0 h1 KR
  rcases Nat.eq_zero_or_pos xs.length with h0 | h0
  · have hz : ((xs.length : Int) == 0) = true := by simp [h0]
    go_wp2_with fail
    go_ret
    exact ⟨g, c, xs, (by rw [h0]; rfl), hl, D1.mono (by omega)⟩
  have hz : ((xs.length : Int) == 0) = false := beq_eq_false_iff_ne.2 (by omega)
  go_wp2_with fail
  refine (pick_dr b _ xs.length w1 D1.src (by omega)).mono ?_; rintro e w2 ⟨x, rfl, hx, h2⟩
  have D2 : DR b _ w [rowIns (.slice (some ⟨g, 0, none⟩) xs.length c) xs] w2 := D1.add h2
  clear D1 h2
  obtain ⟨j, rfl⟩ : ∃ q : Nat, x = q := ⟨x.toNat, by omega⟩
  have hj : j < xs.length := by rcases hx.2 with h | h <;> omega
  clear hx
  go_wp2_with fail
  refine (pick_dr b _ 24 w2 D2.src (by omega)).mono ?_; rintro e w3 ⟨z, rfl, hz2, h3⟩
  have D3 : DR b _ w [rowIns (.slice (some ⟨g, 0, none⟩) xs.length c) xs] w3 := D2.add h3
  clear D2 h3
  have hi0 : (0 : Int) ≤ (j : Int) := by omega
  have hi1 : (j : Int) < (xs.length : Int) := by omega
  by_cases z0 : z = 0
  · subst z0
    go_wp2_with fail
    refine Calls.dr (D3.al [.int .i64 0, .int .i64 1, .int .i64 9, .int .i64 10, .int .i64 11, .int .i64 (-9223372036854775808)] 2) ?_; intro w90 D90
    obtain ⟨hr, hA⟩ := DR.lit (ds := [0, 1, 9, 10, 11, -9223372036854775808]) D90 (by decide)
    refine (among_dr _ _ _ 6 6 _ w90 D90.src (by omega) hr hA (by omega) (by omega)).mono ?_; rintro e w91 ⟨x, rfl, hx, h10⟩
    have D9 := ((D90.add h10).sel [1] 99 (by decide) (by decide))
    clear hr hA D3 D90 h10 hx
    obtain ⟨v, hT, hS, hK⟩ := D9
    have cg := cellsIns_get xs j hj
    have hgr : g < w91.heap.size := Ent.lt hK.at0 rfl
    have hKN : Kn v (rowInsN (some ⟨g, 0, none⟩) xs.length c xs :: _) w91 := hK
    obtain ⟨y1, y2⟩ := Kn.rowCell (show Kn v (.row (.slice (some ⟨g, 0, none⟩) xs.length c) 93 2 xs.length (cellsIns xs) :: _) w91 from hK) cg.1
    obtain ⟨y3, y4⟩ := Kn.rowCell (show Kn v (.row (.slice (some ⟨g, 0, none⟩) xs.length c) 93 2 xs.length (cellsIns xs) :: _) w91 from hK) cg.2
    have z1 : w91.cell? ⟨g, j * 2, none⟩ = some (.int .i64 xs[j].op) := y1
    have z3 : w91.cell? ⟨g, j * 2 + 1, none⟩ = some (.int .i64 xs[j].arg) := y3
    clear y1 y3 cg
    have hK9 := Kn.setOp hKN j x hj
    clear hK hKN
    go_wp2_with fail
    go_ret
    exact ⟨g, c, xs.set j ⟨x, xs[j].arg⟩, by simp, by simp; omega, (show DR b _ w _ _ from ⟨v, hT, hS, (by rw [show (xs.set j ⟨x, xs[j].arg⟩).length = xs.length by simp]; unfold rowIns; rw [show (xs.set j ⟨x, xs[j].arg⟩).length = xs.length by simp]; exact hK9)⟩).mono (by omega)⟩
  by_cases z1 : z = 1
  · subst z1
    go_wp2_with fail
    refine Calls.dr (D3.al [.int .i64 (-1), .int .i64 0, .int .i64 1, .int .i64 100, .int .i64 101, .int .i64 1000000000000, .int .i64 1000000000001] 2) ?_; intro w90 D90
    obtain ⟨hr, hA⟩ := DR.lit (ds := [-1, 0, 1, 100, 101, 1000000000000, 1000000000001]) D90 (by decide)
    refine (among_dr _ _ _ 7 7 _ w90 D90.src (by omega) hr hA (by omega) (by omega)).mono ?_; rintro e w91 ⟨x, rfl, hx, h10⟩
    have D9 := ((D90.add h10).sel [1] 99 (by decide) (by decide))
    clear hr hA D3 D90 h10 hx
    obtain ⟨v, hT, hS, hK⟩ := D9
    have cg := cellsIns_get xs j hj
    have hgr : g < w91.heap.size := Ent.lt hK.at0 rfl
    have hKN : Kn v (rowInsN (some ⟨g, 0, none⟩) xs.length c xs :: _) w91 := hK
    obtain ⟨y1, y2⟩ := Kn.rowCell (show Kn v (.row (.slice (some ⟨g, 0, none⟩) xs.length c) 93 2 xs.length (cellsIns xs) :: _) w91 from hK) cg.1
    obtain ⟨y3, y4⟩ := Kn.rowCell (show Kn v (.row (.slice (some ⟨g, 0, none⟩) xs.length c) 93 2 xs.length (cellsIns xs) :: _) w91 from hK) cg.2
    have z1 : w91.cell? ⟨g, j * 2, none⟩ = some (.int .i64 xs[j].op) := y1
    have z3 : w91.cell? ⟨g, j * 2 + 1, none⟩ = some (.int .i64 xs[j].arg) := y3
    clear y1 y3 cg
    have hK9 := Kn.setArg hKN j x hj
    clear hK hKN
    go_wp2_with fail
    go_ret
    exact ⟨g, c, xs.set j ⟨xs[j].op, x⟩, by simp, by simp; omega, (show DR b _ w _ _ from ⟨v, hT, hS, (by rw [show (xs.set j ⟨xs[j].op, x⟩).length = xs.length by simp]; unfold rowIns; rw [show (xs.set j ⟨xs[j].op, x⟩).length = xs.length by simp]; exact hK9)⟩).mono (by omega)⟩
  by_cases z2 : z = 2
  · subst z2
    obtain ⟨hc1, hc2⟩ := D3.capIns
    have hi2 : (j : Int) ≤ (c : Int) := by omega
    have D4 := D3.kn (fun v hK => Kn.prefixIns (j := j) hK (by omega))
    have hjl : (xs.take j).length = j := by rw [List.length_take]; omega
    go_wp2_with fail
    go_ret
    exact ⟨g, c, xs.take j, by rw [hjl]; first | rfl | (go_num), by rw [hjl]; omega, D4.mono (by omega)⟩
  by_cases z3 : z = 3
  · subst z3
    have KR := Lib.hid (fun W => l11Nest_any 5 2 W (by decide))
    unfold InsRet at KR
    go_wp2_with fail
    refine (KR.out _).mono ?_; rintro e w4 ⟨g5, c5, ys, rfl, hyl, h3⟩
    have D4 : DR b _ w [rowIns (.slice (some ⟨g5, 0, none⟩) ys.length c5) ys] w4 := DR.sel (D3.kn (fun v hK => hK.join h3)) [0] 99 (by decide) (by decide)
    clear D3 h3 KR
    go_wp2_with fail
    go_ret
    exact ⟨g5, c5, ys, rfl, by omega, D4.mono (by omega)⟩
  have e0 : (z == 0) = false := by simp [z0]
  have e1 : (z == 1) = false := by simp [z1]
  have e2 : (z == 2) = false := by simp [z2]
  have e3 : (z == 3) = false := by simp [z3]
  by_cases z4 : z = 4
  · subst z4
    go_wp2_with fail
    refine Calls.dr (D3.al [] 93) ?_; intro w4 D4
    obtain ⟨g5, hg⟩ : ∃ g, w3.heap.size = g := ⟨_, rfl⟩
    rw [hg] at D4 ⊢
    have D5 : DR b _ w [rowIns (.slice (some ⟨g5, 0, none⟩) 0 0) []] w4 := DR.sel (D4.kn (fun v hK => hK.litRow (size := 2) (n := 0) rfl (by decide))) [0] 99 (by decide) (by decide)
    clear D4 D3 hg
    refine (pick_dr b _ 2 w4 D5.src (by omega)).mono ?_; rintro e w5 ⟨x, rfl, hx, h5⟩
    have D6 : DR b _ w [rowIns (.slice (some ⟨g5, 0, none⟩) 0 0) []] w5 := D5.add h5
    clear D5 h5
    obtain ⟨q, rfl⟩ : ∃ q : Nat, x = q := ⟨x.toNat, by omega⟩
    have hq : q ≤ 1 := by rcases hx.2 with h | h <;> omega
    have hw1 : IntKind.i64.wrap (120 + (q : Int)) = ((q + 120 : Nat) : Int) := by rw [wrapI64 (by omega)]; omega
    clear hx
    go_wp2_with fail
    go_loopw [3, 5] (fun vv kk wr => ∃ (k : Nat) (g c : Nat) (zs : List Ins), kk = .int .i64 (k : Int) ∧ zs.length + k ≤ 121 ∧ vv = .slice (some ⟨g, 0, none⟩) zs.length c ∧ DR b (N + 1010) w [rowIns (.slice (some ⟨g, 0, none⟩) zs.length c) zs] wr) (fun _ kk _ => (intOf kk).toNat)
    case atStart => exact ⟨q + 120, g5, 0, [], by go_num, by simp; omega, rfl, D6.mono (by omega)⟩
    case round =>
      clear D6 hw1
      obtain ⟨k, g6, c6, zs, rfl, hzl, rfl, D⟩ := hrel
      by_cases hk : 0 < k
      · have i1 : (0 : Int) < (k : Int) := by omega
        have i2 : (k : Int) > 0 := i1
        obtain ⟨v, hT, hS, hK⟩ := D
        go_wp2_with (at_builtin; refine kn_pushIns (ys := [⟨6, 0⟩]) rfl _ _ rfl _ zs rfl rfl (hK.al [.int .i64 6, .int .i64 0] 93) (by simp; omega) ?_; intro v9 w9 hK9; obtain ⟨g7, c7, rfl⟩ := row_pos hK9.at0 (by simp))
        go_roundw
        case rel => exact ⟨k - 1, g7, c7, zs ++ [⟨6, 0⟩], by go_num, by simp; omega, by simp, ⟨v, hT, hS, hK9⟩⟩
        case measure => simp [intOf]; omega
      · have i1 : ¬ (k : Int) > 0 := by omega
        go_wp2_with fail
        go_ret
        exact ⟨g6, c6, zs, rfl, by omega, D⟩
  have e4 : (z == 4) = false := by simp [z4]
  go_wp2_with fail
  go_ret
  exact ⟨g, c, xs, rfl, hl, D3.mono (by omega)⟩
end Go.Proofs.YtafnebpbfmbgiaaGreatDoor

namespace Go.Proofs.YtafnebpbfmbgiaaGreatDoor
open Go.RowKit Go.Sort
/-- what the drawing of a machine returns that may be none -/
def DBent (b M : Nat) (w : World) (e : Ending) (w' : World) : Prop := ∃ (t : Tri) (A1 : Option Addr) (c1 : Nat) (A2 : Option Addr) (c2 : Nat) (A3 : Option Addr) (c3 : Nat), e = .returned (.agg #[.int .i64 t.a.base, .slice A1 t.a.digits.length c1, .int .i64 t.b.base, .slice A2 t.b.digits.length c2, .int .i64 t.s.base, .slice A3 t.s.digits.length c3, .int .i64 t.carry]) ∧ (t.a.digits.length ≤ 22 ∧ t.b.digits.length ≤ 22 ∧ t.s.digits.length ≤ 22) ∧ DR b M w [rowI A3 c3 t.s.digits, rowI A2 c2 t.b.digits, rowI A1 c1 t.a.digits] w'
theorem DR.rowFormP {b N : Nat} {w wi : World} {m : List Ent} {A : Option Addr} {c : Nat} {ds : List Int} (h : DR b N w (rowI A c ds :: m) wi) (hd : 0 < ds.length) : ∃ g, A = some ⟨g, 0, none⟩ := by
  obtain ⟨v, -, -, hK⟩ := h
  obtain ⟨g, c', he⟩ := Kn.rowForm hK hd
  injection he with he
  exact ⟨g, he⟩
theorem DR.setIP {b N : Nat} {w wi : World} {m : List Ent} {g c : Nat} {ds : List Int} (h : DR b N w (rowI (some ⟨g, 0, none⟩) c ds :: m) wi) (j : Nat) (v : Int) : DR b N w (rowI (some ⟨g, 0, none⟩) c (ds.set j v) :: m) (wi.setCell ⟨g, j, none⟩ (.int .i64 v)) := h.kn (fun _ hK => hK.setI j v)
theorem DR.rowCellP {b N : Nat} {w wi : World} {m : List Ent} {g c : Nat} {ds : List Int} (h : DR b N w (rowI (some ⟨g, 0, none⟩) c ds :: m) wi) {j : Nat} (hj : j < ds.length) : wi.cell? ⟨g, j, none⟩ = some (.int .i64 ds[j]) ∧ wi.frozen? ⟨g, j, none⟩ = false ∧ g < wi.heap.size := by
  obtain ⟨v, -, -, hK⟩ := h
  have h1 := Kn.rowCell hK (j := j) (u := .int .i64 ds[j]) (by simp [hj])
  exact ⟨h1.1, h1.2, World.block_lt_of_cell? wi _ h1.1⟩
theorem DR.cell23 {b N : Nat} {w wi : World} {m : List Ent} {g : Nat} {v0 v1 v2 v3 v4 v5 v6 : Value} {T : TypeId} (h : DR b N w m wi) (i : Nat) (hi : m[i]? = some (.blk g [v0, v1, v2, v3, v4, v5, v6] T)) : wi.cell? ⟨g, 2, none⟩ = some v2 ∧ wi.cell? ⟨g, 3, none⟩ = some v3 := by
  obtain ⟨v, -, -, hK⟩ := h
  have h7 := box7at hK i hi
  exact ⟨h7.2.2.1, h7.2.2.2.1⟩
set_option maxRecDepth 100000 in
set_option maxHeartbeats 3200000 in
theorem l10Bent_dr (b N : Nat) (w : World) (h : Src w b N) (hN : N ≤ 600000) :
    Calls Tryz.prog 55 #[.pointer (some ⟨b, 0, none⟩)] w (DBent b (N + 300) w) := by
  unfold DBent
  have D0 := DR.nil h
  clear h
  go_enter Tryz.func55, Tryz.ntmps55
  go_wp2_with fail
  refine Calls.dr (D0.al [.int .i64 0, .slice none 0 0, .int .i64 0, .slice none 0 0, .int .i64 0, .slice none 0 0, .int .i64 0] 32) ?_; intro w1 D1
  have KD := Lib.hid (l10Draw_dr b N w1 D1.src (by omega))
  unfold DMach at KD
  refine KD.out.mono ?_; rintro e w2 ⟨t, A1, c1, A2, c2, A3, c3, rfl, hv, h2⟩
  have D2 := D1.add h2
  have hz := sized_of hv
  have HV := Lib.hid hv
  clear D0 D1 h2 KD hv
  go_wp2_with fail
  refine Calls.dr (D2.al [.int .i64 t.a.base, .slice A1 t.a.digits.length c1, .int .i64 t.b.base, .slice A2 t.b.digits.length c2, .int .i64 t.s.base, .slice A3 t.s.digits.length c3, .int .i64 t.carry] 32) ?_; intro w3 D3
  obtain ⟨g, hg⟩ : ∃ g, w2.heap.size = g := ⟨_, rfl⟩
  rw [hg] at D3 ⊢
  clear hg D2
  refine (pick_dr b _ 20 w3 D3.src (by omega)).mono ?_; rintro e w4 ⟨y, rfl, hy, h4⟩
  have D4 : DR b _ w [.blk g [.int .i64 t.a.base, .slice A1 t.a.digits.length c1, .int .i64 t.b.base, .slice A2 t.b.digits.length c2, .int .i64 t.s.base, .slice A3 t.s.digits.length c3, .int .i64 t.carry] 32, rowI A3 c3 t.s.digits, rowI A2 c2 t.b.digits, rowI A1 c1 t.a.digits, .blk w.heap.size [.int .i64 0, .slice none 0 0, .int .i64 0, .slice none 0 0, .int .i64 0, .slice none 0 0, .int .i64 0] 32] w4 := D3.add h4
  have y0 : 0 ≤ y := hy.1
  have z1 := hz.a
  have z2 := hz.b
  have z3 := hz.s
  clear D3 h4 hy hz
  by_cases h0 : y = 0
  · subst h0
    have KP := Lib.hid (l10Places_any ⟨g, 0, none⟩ t w4 (DR.triC (m := [.blk w.heap.size [.int .i64 0, .slice none 0 0, .int .i64 0, .slice none 0 0, .int .i64 0, .slice none 0 0, .int .i64 0] 32]) D4).tri z1 z2 z3)
    go_wp2_with fail
    refine KP.out.mono ?_; rintro e w5 ⟨rfl, mq, rfl⟩
    have D5 := D4.kn (fun v hK => hK.drewN mq)
    clear D4 KP
    obtain ⟨vp, hvp⟩ : ∃ vp, vplaces t = vp := ⟨_, rfl⟩
    simp only [hvp]
    clear hvp
    go_wp2_with fail
    refine Calls.dr (D5.al [.int .i64 (-1), .int .i64 vp, .int .i64 9223372036854775807] 2) ?_; intro w6 D6
    obtain ⟨hr, hA⟩ := DR.lit (ds := [-1, vp, 9223372036854775807]) D6 (by simp)
    refine (among_dr b _ _ 3 3 _ w6 D6.src (by omega) hr hA (by omega) (by omega)).mono ?_; rintro e w7 ⟨x, rfl, hx, h7⟩
    have D7 := (D6.add h7).sel [1, 2, 3, 4, 5] 99 (by decide) (by decide)
    clear hr hA D5 D6 h7 hx
    obtain ⟨a1, a2, a3, d1, d2, d3, -⟩ := D7.cells
    go_upto_region 13 with fail
    refine Code.wp.dr (D7.st 6 (.int .i64 x)) ?_; intro w8 D8
    clear D7 a1 a2 a3 d1 d2 d3
    obtain ⟨u, B1, d1, B2, d2, B3, d3, hul, D9⟩ : ∃ (u : Tri) (B1 : Option Addr) (d1 : Nat) (B2 : Option Addr) (d2 : Nat) (B3 : Option Addr) (d3 : Nat), (u.a.digits.length ≤ 22 ∧ u.b.digits.length ≤ 22 ∧ u.s.digits.length ≤ 22) ∧ DR b (N + 290) w [.blk g [.int .i64 u.a.base, .slice B1 u.a.digits.length d1, .int .i64 u.b.base, .slice B2 u.b.digits.length d2, .int .i64 u.s.base, .slice B3 u.s.digits.length d3, .int .i64 u.carry] 32, rowI B3 d3 u.s.digits, rowI B2 d2 u.b.digits, rowI B1 d1 u.a.digits, .blk w.heap.size [.int .i64 0, .slice none 0 0, .int .i64 0, .slice none 0 0, .int .i64 0, .slice none 0 0, .int .i64 0] 32] w8 := ⟨{ t with carry := x }, A1, c1, A2, c2, A3, c3, by simp only; omega, D8.mono (by omega)⟩
    clear D8
    have D4 := D9
    clear D4 HV
    obtain ⟨a1, a2, a3, x1, x2, x3, -⟩ := D9.cells
    go_wp2_with fail
    refine bodyPost.dr ((((((((D9.front 4 rfl).st 0 (.int .i64 u.a.base)).st 1 (.slice B1 u.a.digits.length d1)).st 2 (.int .i64 u.b.base)).st 3 (.slice B2 u.b.digits.length d2)).st 4 (.int .i64 u.s.base)).st 5 (.slice B3 u.s.digits.length d3)).st 6 (.int .i64 u.carry)) ?_; intro w19 D19
    clear a1 a2 a3 x1 x2 x3
    obtain ⟨a1, a2, a3, -⟩ := D19.cells
    refine bodyPost_ret (v := .agg #[.int .i64 u.a.base, .slice B1 u.a.digits.length d1, .int .i64 u.b.base, .slice B2 u.b.digits.length d2, .int .i64 u.s.base, .slice B3 u.s.digits.length d3, .int .i64 u.carry]) (by simp [results, Tryz.results55, go_sem, a1]) rfl ⟨u, B1, d1, B2, d2, B3, d3, rfl, hul, ?_⟩
    exact (D19.sel [2, 3, 4] 99 (by decide) (by decide)).mono (by omega)
  by_cases h1 : y = 1
  · subst h1
    obtain ⟨-, -, k3, -⟩ := vmach_all HV.out
    obtain ⟨⟨b5, b6⟩, -⟩ := vreg_iff.1 k3
    have hwr : IntKind.i64.wrap (t.s.base + 1) = t.s.base + 1 := wrapI64 (by omega)
    obtain ⟨a1, a2, a3, x1, x2, x3, -⟩ := D4.cells
    go_upto_region 13 with fail
    refine Code.wp.dr (D4.st 4 (.int .i64 (t.s.base + 1))) ?_; intro w8 D8
    obtain ⟨u, B1, d1, B2, d2, B3, d3, hul, D9⟩ : ∃ (u : Tri) (B1 : Option Addr) (d1 : Nat) (B2 : Option Addr) (d2 : Nat) (B3 : Option Addr) (d3 : Nat), (u.a.digits.length ≤ 22 ∧ u.b.digits.length ≤ 22 ∧ u.s.digits.length ≤ 22) ∧ DR b (N + 290) w [.blk g [.int .i64 u.a.base, .slice B1 u.a.digits.length d1, .int .i64 u.b.base, .slice B2 u.b.digits.length d2, .int .i64 u.s.base, .slice B3 u.s.digits.length d3, .int .i64 u.carry] 32, rowI B3 d3 u.s.digits, rowI B2 d2 u.b.digits, rowI B1 d1 u.a.digits, .blk w.heap.size [.int .i64 0, .slice none 0 0, .int .i64 0, .slice none 0 0, .int .i64 0, .slice none 0 0, .int .i64 0] 32] w8 := ⟨{ t with s := ⟨t.s.base + 1, t.s.digits⟩ }, A1, c1, A2, c2, A3, c3, by simp only; omega, D8.mono (by omega)⟩
    clear D8 a1 a2 a3 x1 x2 x3
    clear D4 HV
    obtain ⟨a1, a2, a3, x1, x2, x3, -⟩ := D9.cells
    go_wp2_with fail
    refine bodyPost.dr ((((((((D9.front 4 rfl).st 0 (.int .i64 u.a.base)).st 1 (.slice B1 u.a.digits.length d1)).st 2 (.int .i64 u.b.base)).st 3 (.slice B2 u.b.digits.length d2)).st 4 (.int .i64 u.s.base)).st 5 (.slice B3 u.s.digits.length d3)).st 6 (.int .i64 u.carry)) ?_; intro w19 D19
    clear a1 a2 a3 x1 x2 x3
    obtain ⟨a1, a2, a3, -⟩ := D19.cells
    refine bodyPost_ret (v := .agg #[.int .i64 u.a.base, .slice B1 u.a.digits.length d1, .int .i64 u.b.base, .slice B2 u.b.digits.length d2, .int .i64 u.s.base, .slice B3 u.s.digits.length d3, .int .i64 u.carry]) (by simp [results, Tryz.results55, go_sem, a1]) rfl ⟨u, B1, d1, B2, d2, B3, d3, rfl, hul, ?_⟩
    exact (D19.sel [2, 3, 4] 99 (by decide) (by decide)).mono (by omega)
  by_cases h2 : y = 2
  · subst h2
    obtain ⟨L1, hL1⟩ : ∃ L, t.a.digits.length = L := ⟨_, rfl⟩
    have HL1 := Lib.hid hL1
    rw [hL1] at D4 z1
    clear hL1
    go_wp2_with fail
    refine wp_region_held_drew (S := fun _ => True) (by kernel_rfl) trivial (fun hHeld => ?_)
    try dsimp only
    have D5 := D4.drew
    obtain ⟨wd, hwd⟩ : ∃ W, w4.drew = W := ⟨_, rfl⟩
    rw [hwd] at D5 ⊢
    clear D4 hwd
    refine wpAnyH_take (i := 0) (v := ?_) rfl (by kernel_rfl) (by kernel_rfl) (by kernel_rfl) (fun _ _ _ h => h) (Or.inl ⟨by rfl, ?_⟩) hHeld ?_
    rotate_left
    · (intro w hSw; (try dsimp only at hSw); go_simp; try with_reducible rfl)
    try simp only [Act.put, List.setIfInBounds_toArray, List.set_cons_zero, List.set_cons_succ, List.getElem_toArray, List.getElem_cons_zero]
    refine wpAnyH_take (i := 1) (v := ?_) rfl (by kernel_rfl) (by kernel_rfl) (by kernel_rfl) (fun _ _ _ h => h) (Or.inl ⟨by rfl, ?_⟩) hHeld ?_
    rotate_left
    · (intro w hSw; (try dsimp only at hSw); go_simp; try with_reducible rfl)
    try simp only [Act.put, List.setIfInBounds_toArray, List.set_cons_zero, List.set_cons_succ, List.getElem_toArray, List.getElem_cons_succ, List.getElem_cons_zero]
    refine wpAnyH_take (i := 3) (v := ?_) rfl (by kernel_rfl) (by kernel_rfl) (by kernel_rfl) (fun _ _ _ h => h) (Or.inl ⟨by rfl, ?_⟩) hHeld ?_
    rotate_left
    · (intro w hSw; (try dsimp only at hSw); go_simp; try with_reducible rfl)
    try simp only [Act.put, List.setIfInBounds_toArray, List.set_cons_zero, List.set_cons_succ, List.getElem_toArray, List.getElem_cons_succ, List.getElem_cons_zero]
    obtain ⟨a1, a2, a3, -⟩ := D5.cells
    refine wpAnyH_ready (rs := [2, 4]) (by kernel_rfl) (by decide) (AllReadyH.cons (o := _) rfl (fun K hK' => ?_) (AllReadyH.cons (o := _) rfl (fun K hK' => ?_) AllReadyH.nil))
    · go_simp
      refine hK'.out _ _ trivial (fun hHeld2 => ?_)
      clear hK' K hHeld
      have hHeld := hHeld2
      clear hHeld2
      try simp only [Act.put, List.setIfInBounds_toArray]
      clear a1 a2 a3
      refine wpAnyH_ready (rs := [4]) (by kernel_rfl) (by decide) (AllReadyH.cons (o := _) rfl (fun K hK' => ?_) AllReadyH.nil)
      go_simp
      go_at_call 95
      refine (digits_dr b _ 2 6 wd D5.src (by omega) (by omega) (by omega) (by omega)).mono ?_; rintro e w5 ⟨X, xx, dd, rfl, hdl, hdd, h5⟩
      have D6 := D5.add h5
      refine hK'.out _ _ trivial (fun hHeld2 => ?_)
      clear hK' K hHeld
      have hHeld := hHeld2
      clear hHeld2
      try simp only [Act.put, List.setIfInBounds_toArray]
      clear h5 hdd D5
      obtain ⟨v, hT, hS, hK⟩ := D6
      have HT := Lib.hid hT
      have HS := Lib.hid hS
      have hKA : Kn v (.row (.slice X 6 xx) 2 1 6 (dd.map (Value.int .i64)) :: .row (.slice A1 L1 c1) 2 1 L1 (t.a.digits.map (Value.int .i64)) :: .blk g [.int .i64 t.a.base, .slice A1 L1 c1, .int .i64 t.b.base, .slice A2 t.b.digits.length c2, .int .i64 t.s.base, .slice A3 t.s.digits.length c3, .int .i64 t.carry] 32 :: rowI A3 c3 t.s.digits :: rowI A2 c2 t.b.digits :: .blk w.heap.size [.int .i64 0, .slice none 0 0, .int .i64 0, .slice none 0 0, .int .i64 0, .slice none 0 0, .int .i64 0] 32 :: []) w5 := by
        have h9 := hK.sel [0, 4, 1, 2, 3, 5] 99 (by decide) (by decide)
        unfold rowI at h9
        rw [hdl, HL1.out] at h9
        exact h9
      clear hT hS hK
      refine wpAnyH_ready (rs := [5]) (by kernel_rfl) (by decide) (AllReadyH.cons (o := _) rfl (fun K hK' => ?_) AllReadyH.nil)
      refine kn_step_row tpI (by rfl) _ _ (by rfl) (.slice A1 L1 c1) L1 (t.a.digits.map (Value.int .i64)) (by rfl) (by rfl) (by decide) hKA (by simp [Value.oneCell']) (by omega) (by omega) ?_; intro v7 w7 hK7
      refine hK'.out _ _ trivial (fun hHeld2 => ?_)
      clear hK' K hHeld
      have hHeld := hHeld2
      clear hHeld2
      try simp only [Act.put, List.setIfInBounds_toArray]
      generalize hv7 : v7 = vv at hK7 ⊢
      have hrow : ∃ A' c', vv = .slice A' (L1 + 6) c' := by
        have h0 : w7.ownsRow 0 2 1 vv (L1 + 6) _ := hK7.at0
        rcases h0.2 with ⟨_, h2⟩ | ⟨gq, cap, cur, hvq, -⟩
        · omega
        · exact ⟨_, _, hvq⟩
      obtain ⟨A', c', rfl⟩ := hrow
      clear hv7
      refine wpAnyH_take (i := 6) (v := ?_) rfl (by kernel_rfl) (by kernel_rfl) (by kernel_rfl) (fun _ _ _ h => h) (Or.inl ⟨by rfl, ?_⟩) hHeld ?_
      rotate_left
      · (intro w hSw; (try dsimp only at hSw); go_simp; try with_reducible rfl)
      try simp only [Act.put, List.setIfInBounds_toArray, List.set_cons_zero, List.set_cons_succ, List.getElem_toArray, List.getElem_cons_succ, List.getElem_cons_zero]
      refine wpAnyH_take (i := 7) (v := ?_) rfl (by kernel_rfl) (by kernel_rfl) (by kernel_rfl) (fun _ _ _ h => h) (Or.inl ⟨by rfl, ?_⟩) hHeld ?_
      rotate_left
      · (intro w hSw; (try dsimp only at hSw); go_simp; try with_reducible rfl)
      try simp only [Act.put, List.setIfInBounds_toArray, List.set_cons_zero, List.set_cons_succ, List.getElem_toArray, List.getElem_cons_succ, List.getElem_cons_zero]
      have D7 : DR b _ w _ w7 := ⟨v, HT.out, HS.out, hK7⟩
      have D8 := D7.front 2 rfl
      obtain ⟨y1, y2, y3, -⟩ := D8.cells
      refine wpAnyH_ready (rs := [8]) (by kernel_rfl) (by decide) (AllReadyH.cons (o := _) rfl (fun K hK' => ?_) AllReadyH.nil)
      go_simp
      refine hK'.out _ _ trivial (fun hHeld2 => ?_)
      clear hK' K hHeld
      have hHeld := hHeld2
      clear hHeld2
      try simp only [Act.put, List.setIfInBounds_toArray]
      refine wpAnyH_done (by kernel_rfl) ?_ _
      have D9 := D8.st 1 (.slice A' (L1 + 6) c')
      clear y1 y2 y3 D8 D7 hK7
      generalize w7.setCell ⟨g, 1, none⟩ (.slice A' (L1 + 6) c') = w8 at D9 ⊢
      obtain ⟨u, B1, d1, B2, d2, B3, d3, hul, D9⟩ : ∃ (u : Tri) (B1 : Option Addr) (d1 : Nat) (B2 : Option Addr) (d2 : Nat) (B3 : Option Addr) (d3 : Nat), (u.a.digits.length ≤ 22 ∧ u.b.digits.length ≤ 22 ∧ u.s.digits.length ≤ 22) ∧ DR b (N + 290) w [.blk g [.int .i64 u.a.base, .slice B1 u.a.digits.length d1, .int .i64 u.b.base, .slice B2 u.b.digits.length d2, .int .i64 u.s.base, .slice B3 u.s.digits.length d3, .int .i64 u.carry] 32, rowI B3 d3 u.s.digits, rowI B2 d2 u.b.digits, rowI B1 d1 u.a.digits, .blk w.heap.size [.int .i64 0, .slice none 0 0, .int .i64 0, .slice none 0 0, .int .i64 0, .slice none 0 0, .int .i64 0] 32] w8 := by
        refine ⟨{ t with a := ⟨t.a.base, t.a.digits ++ dd⟩ }, A', c', A2, c2, A3, c3, by simp only [List.length_append]; have := HL1.out; omega, ?_⟩
        have h9 := (D9.sel [0, 3, 4, 1, 5] 99 (by decide) (by decide)).mono (M := N + 290) (by omega)
        show DR b _ w [.blk g [.int .i64 t.a.base, .slice A' (t.a.digits ++ dd).length c', _, _, _, _, _] _, rowI A3 c3 t.s.digits, rowI A2 c2 t.b.digits, rowI A' c' (t.a.digits ++ dd), _] w8
        unfold rowI at h9 ⊢
        rw [List.length_append, HL1.out, hdl, List.map_append]
        exact h9
      clear HT HS
      have D4 := D9
      clear D4 HV
      obtain ⟨a1, a2, a3, x1, x2, x3, -⟩ := D9.cells
      go_wp2_with fail
      refine bodyPost.dr ((((((((D9.front 4 rfl).st 0 (.int .i64 u.a.base)).st 1 (.slice B1 u.a.digits.length d1)).st 2 (.int .i64 u.b.base)).st 3 (.slice B2 u.b.digits.length d2)).st 4 (.int .i64 u.s.base)).st 5 (.slice B3 u.s.digits.length d3)).st 6 (.int .i64 u.carry)) ?_; intro w19 D19
      clear a1 a2 a3 x1 x2 x3
      obtain ⟨a1, a2, a3, -⟩ := D19.cells
      refine bodyPost_ret (v := .agg #[.int .i64 u.a.base, .slice B1 u.a.digits.length d1, .int .i64 u.b.base, .slice B2 u.b.digits.length d2, .int .i64 u.s.base, .slice B3 u.s.digits.length d3, .int .i64 u.carry]) (by simp [results, Tryz.results55, go_sem, a1]) rfl ⟨u, B1, d1, B2, d2, B3, d3, rfl, hul, ?_⟩
      exact (D19.sel [2, 3, 4] 99 (by decide) (by decide)).mono (by omega)
    · go_simp
      go_at_call 95
      refine (digits_dr b _ 2 6 wd D5.src (by omega) (by omega) (by omega) (by omega)).mono ?_; rintro e w5 ⟨X, xx, dd, rfl, hdl, hdd, h5⟩
      have D6 := D5.add h5
      refine hK'.out _ _ trivial (fun hHeld2 => ?_)
      clear hK' K hHeld
      have hHeld := hHeld2
      clear hHeld2
      try simp only [Act.put, List.setIfInBounds_toArray]
      clear h5 hdd D5 a1 a2 a3
      obtain ⟨a1, a2, a3, -⟩ := (D6.front 1 rfl).cells
      refine wpAnyH_ready (rs := [2]) (by kernel_rfl) (by decide) (AllReadyH.cons (o := _) rfl (fun K hK' => ?_) AllReadyH.nil)
      go_simp
      refine hK'.out _ _ trivial (fun hHeld2 => ?_)
      clear hK' K hHeld
      have hHeld := hHeld2
      clear hHeld2
      try simp only [Act.put, List.setIfInBounds_toArray]
      clear a1 a2 a3
      obtain ⟨v, hT, hS, hK⟩ := D6
      have HT := Lib.hid hT
      have HS := Lib.hid hS
      have hKA : Kn v (.row (.slice X 6 xx) 2 1 6 (dd.map (Value.int .i64)) :: .row (.slice A1 L1 c1) 2 1 L1 (t.a.digits.map (Value.int .i64)) :: .blk g [.int .i64 t.a.base, .slice A1 L1 c1, .int .i64 t.b.base, .slice A2 t.b.digits.length c2, .int .i64 t.s.base, .slice A3 t.s.digits.length c3, .int .i64 t.carry] 32 :: rowI A3 c3 t.s.digits :: rowI A2 c2 t.b.digits :: .blk w.heap.size [.int .i64 0, .slice none 0 0, .int .i64 0, .slice none 0 0, .int .i64 0, .slice none 0 0, .int .i64 0] 32 :: []) w5 := by
        have h9 := hK.sel [0, 4, 1, 2, 3, 5] 99 (by decide) (by decide)
        unfold rowI at h9
        rw [hdl, HL1.out] at h9
        exact h9
      clear hT hS hK
      refine wpAnyH_ready (rs := [5]) (by kernel_rfl) (by decide) (AllReadyH.cons (o := _) rfl (fun K hK' => ?_) AllReadyH.nil)
      refine kn_step_row tpI (by rfl) _ _ (by rfl) (.slice A1 L1 c1) L1 (t.a.digits.map (Value.int .i64)) (by rfl) (by rfl) (by decide) hKA (by simp [Value.oneCell']) (by omega) (by omega) ?_; intro v7 w7 hK7
      refine hK'.out _ _ trivial (fun hHeld2 => ?_)
      clear hK' K hHeld
      have hHeld := hHeld2
      clear hHeld2
      try simp only [Act.put, List.setIfInBounds_toArray]
      generalize hv7 : v7 = vv at hK7 ⊢
      have hrow : ∃ A' c', vv = .slice A' (L1 + 6) c' := by
        have h0 : w7.ownsRow 0 2 1 vv (L1 + 6) _ := hK7.at0
        rcases h0.2 with ⟨_, h2⟩ | ⟨gq, cap, cur, hvq, -⟩
        · omega
        · exact ⟨_, _, hvq⟩
      obtain ⟨A', c', rfl⟩ := hrow
      clear hv7
      refine wpAnyH_take (i := 6) (v := ?_) rfl (by kernel_rfl) (by kernel_rfl) (by kernel_rfl) (fun _ _ _ h => h) (Or.inl ⟨by rfl, ?_⟩) hHeld ?_
      rotate_left
      · (intro w hSw; (try dsimp only at hSw); go_simp; try with_reducible rfl)
      try simp only [Act.put, List.setIfInBounds_toArray, List.set_cons_zero, List.set_cons_succ, List.getElem_toArray, List.getElem_cons_succ, List.getElem_cons_zero]
      refine wpAnyH_take (i := 7) (v := ?_) rfl (by kernel_rfl) (by kernel_rfl) (by kernel_rfl) (fun _ _ _ h => h) (Or.inl ⟨by rfl, ?_⟩) hHeld ?_
      rotate_left
      · (intro w hSw; (try dsimp only at hSw); go_simp; try with_reducible rfl)
      try simp only [Act.put, List.setIfInBounds_toArray, List.set_cons_zero, List.set_cons_succ, List.getElem_toArray, List.getElem_cons_succ, List.getElem_cons_zero]
      have D7 : DR b _ w _ w7 := ⟨v, HT.out, HS.out, hK7⟩
      have D8 := D7.front 2 rfl
      obtain ⟨y1, y2, y3, -⟩ := D8.cells
      refine wpAnyH_ready (rs := [8]) (by kernel_rfl) (by decide) (AllReadyH.cons (o := _) rfl (fun K hK' => ?_) AllReadyH.nil)
      go_simp
      refine hK'.out _ _ trivial (fun hHeld2 => ?_)
      clear hK' K hHeld
      have hHeld := hHeld2
      clear hHeld2
      try simp only [Act.put, List.setIfInBounds_toArray]
      refine wpAnyH_done (by kernel_rfl) ?_ _
      have D9 := D8.st 1 (.slice A' (L1 + 6) c')
      clear y1 y2 y3 D8 D7 hK7
      generalize w7.setCell ⟨g, 1, none⟩ (.slice A' (L1 + 6) c') = w8 at D9 ⊢
      obtain ⟨u, B1, d1, B2, d2, B3, d3, hul, D9⟩ : ∃ (u : Tri) (B1 : Option Addr) (d1 : Nat) (B2 : Option Addr) (d2 : Nat) (B3 : Option Addr) (d3 : Nat), (u.a.digits.length ≤ 22 ∧ u.b.digits.length ≤ 22 ∧ u.s.digits.length ≤ 22) ∧ DR b (N + 290) w [.blk g [.int .i64 u.a.base, .slice B1 u.a.digits.length d1, .int .i64 u.b.base, .slice B2 u.b.digits.length d2, .int .i64 u.s.base, .slice B3 u.s.digits.length d3, .int .i64 u.carry] 32, rowI B3 d3 u.s.digits, rowI B2 d2 u.b.digits, rowI B1 d1 u.a.digits, .blk w.heap.size [.int .i64 0, .slice none 0 0, .int .i64 0, .slice none 0 0, .int .i64 0, .slice none 0 0, .int .i64 0] 32] w8 := by
        refine ⟨{ t with a := ⟨t.a.base, t.a.digits ++ dd⟩ }, A', c', A2, c2, A3, c3, by simp only [List.length_append]; have := HL1.out; omega, ?_⟩
        have h9 := (D9.sel [0, 3, 4, 1, 5] 99 (by decide) (by decide)).mono (M := N + 290) (by omega)
        show DR b _ w [.blk g [.int .i64 t.a.base, .slice A' (t.a.digits ++ dd).length c', _, _, _, _, _] _, rowI A3 c3 t.s.digits, rowI A2 c2 t.b.digits, rowI A' c' (t.a.digits ++ dd), _] w8
        unfold rowI at h9 ⊢
        rw [List.length_append, HL1.out, hdl, List.map_append]
        exact h9
      clear HT HS
      have D4 := D9
      clear D4 HV
      obtain ⟨a1, a2, a3, x1, x2, x3, -⟩ := D9.cells
      go_wp2_with fail
      refine bodyPost.dr ((((((((D9.front 4 rfl).st 0 (.int .i64 u.a.base)).st 1 (.slice B1 u.a.digits.length d1)).st 2 (.int .i64 u.b.base)).st 3 (.slice B2 u.b.digits.length d2)).st 4 (.int .i64 u.s.base)).st 5 (.slice B3 u.s.digits.length d3)).st 6 (.int .i64 u.carry)) ?_; intro w19 D19
      clear a1 a2 a3 x1 x2 x3
      obtain ⟨a1, a2, a3, -⟩ := D19.cells
      refine bodyPost_ret (v := .agg #[.int .i64 u.a.base, .slice B1 u.a.digits.length d1, .int .i64 u.b.base, .slice B2 u.b.digits.length d2, .int .i64 u.s.base, .slice B3 u.s.digits.length d3, .int .i64 u.carry]) (by simp [results, Tryz.results55, go_sem, a1]) rfl ⟨u, B1, d1, B2, d2, B3, d3, rfl, hul, ?_⟩
      exact (D19.sel [2, 3, 4] 99 (by decide) (by decide)).mono (by omega)
  by_cases h3 : y = 3
  · subst h3
    obtain ⟨-, k2, k3, -⟩ := vmach_all HV.out
    obtain ⟨-, ⟨n3, n4⟩, -, -⟩ := vreg_iff.1 k2
    obtain ⟨gB, rfl⟩ := DR.rowFormP (D4.front 2 rfl) (by omega)
    obtain ⟨L2, hL2⟩ : ∃ L, t.b.digits.length = L := ⟨_, rfl⟩
    have HL2 := Lib.hid hL2
    rw [hL2] at D4 n3 n4 z2
    obtain ⟨bs, hbs⟩ : ∃ bs, t.b.base = bs := ⟨_, rfl⟩
    have HBS := Lib.hid hbs
    rw [hbs] at D4
    clear hL2 hbs k2 k3
    go_wp2_with fail
    refine wp_region_held_drew (S := fun W => W.cell? ⟨g, 2, none⟩ = some (.int .i64 bs) ∧ W.cell? ⟨g, 3, none⟩ = some (.slice (some ⟨gB, 0, none⟩) L2 c2)) (by kernel_rfl) (D4.drew.cell23 0 rfl) (fun hHeld => ?_)
    try dsimp only
    have D5 := D4.drew
    obtain ⟨wd, hwd⟩ : ∃ W, w4.drew = W := ⟨_, rfl⟩
    rw [hwd] at D5 hHeld ⊢
    clear D4 hwd
    refine wpAnyH_take (i := 0) (v := ?_) rfl (by kernel_rfl) (by kernel_rfl) (by kernel_rfl) (fun _ _ _ h => h) (Or.inl ⟨by rfl, ?_⟩) hHeld ?_
    rotate_left
    · (intro w hSw; (try dsimp only at hSw); go_simp; try with_reducible rfl)
    try simp only [Act.put, List.setIfInBounds_toArray, List.set_cons_zero, List.set_cons_succ, List.getElem_toArray, List.getElem_cons_succ, List.getElem_cons_zero]
    refine wpAnyH_take (i := 1) (v := ?_) rfl (by kernel_rfl) (by kernel_rfl) (by kernel_rfl) (fun _ _ _ h => h) (Or.inl ⟨by rfl, ?_⟩) hHeld ?_
    rotate_left
    · (intro w hSw; (try dsimp only at hSw); go_simp; try with_reducible rfl)
    try simp only [Act.put, List.setIfInBounds_toArray, List.set_cons_zero, List.set_cons_succ, List.getElem_toArray, List.getElem_cons_succ, List.getElem_cons_zero]
    refine wpAnyH_take (i := 2) (v := ?_) rfl (by kernel_rfl) (by kernel_rfl) (by kernel_rfl) (fun _ _ _ h => h) (Or.inl ⟨by rfl, ?_⟩) hHeld ?_
    rotate_left
    · (intro w hSw; (try dsimp only at hSw); go_simp; try with_reducible rfl)
    try simp only [Act.put, List.setIfInBounds_toArray, List.set_cons_zero, List.set_cons_succ, List.getElem_toArray, List.getElem_cons_succ, List.getElem_cons_zero]
    refine wpAnyH_take (i := 3) (v := ?_) rfl (by kernel_rfl) (by kernel_rfl) (by kernel_rfl) (fun _ _ _ h => h) (Or.inl ⟨by rfl, ?_⟩) hHeld ?_
    rotate_left
    · (intro w hSw; (try dsimp only at hSw); go_simp; try with_reducible rfl)
    try simp only [Act.put, List.setIfInBounds_toArray, List.set_cons_zero, List.set_cons_succ, List.getElem_toArray, List.getElem_cons_succ, List.getElem_cons_zero]
    refine wpAnyH_take (i := 4) (v := ?_) rfl (by kernel_rfl) (by kernel_rfl) (by kernel_rfl) (fun _ _ _ h => h) (Or.inl ⟨by rfl, ?_⟩) hHeld ?_
    rotate_left
    · (intro w hSw; (try dsimp only at hSw); go_simp; try with_reducible rfl)
    try simp only [Act.put, List.setIfInBounds_toArray, List.set_cons_zero, List.set_cons_succ, List.getElem_toArray, List.getElem_cons_succ, List.getElem_cons_zero]
    refine wpAnyH_take (i := 5) (v := ?_) rfl (by kernel_rfl) (by kernel_rfl) (by kernel_rfl) (fun _ _ _ h => h) (Or.inl ⟨by rfl, ?_⟩) hHeld ?_
    rotate_left
    · (intro w hSw; (try dsimp only at hSw); go_simp; try with_reducible rfl)
    try simp only [Act.put, List.setIfInBounds_toArray, List.set_cons_zero, List.set_cons_succ, List.getElem_toArray, List.getElem_cons_succ, List.getElem_cons_zero]
    refine wpAnyH_take (i := 6) (v := ?_) rfl (by kernel_rfl) (by kernel_rfl) (by kernel_rfl) (fun _ _ _ h => h) (Or.inl ⟨by rfl, ?_⟩) hHeld ?_
    rotate_left
    · (intro w hSw; (try dsimp only at hSw); go_simp; try with_reducible rfl)
    try simp only [Act.put, List.setIfInBounds_toArray, List.set_cons_zero, List.set_cons_succ, List.getElem_toArray, List.getElem_cons_succ, List.getElem_cons_zero]
    refine wpAnyH_ready (rs := [7]) (by kernel_rfl) (by decide) (AllReadyH.cons (o := _) rfl (fun K hK' => ?_) AllReadyH.nil)
    go_simp
    have D6 := D5.al [.int .i64 (-1), .int .i64 bs] 2
    refine hK'.out _ _ (D6.cell23 1 rfl) (fun hHeld2 => ?_)
    clear hK' K hHeld
    have hHeld := hHeld2
    clear hHeld2
    try simp only [Act.put, List.setIfInBounds_toArray]
    obtain ⟨hr, hA⟩ := DR.lit (ds := [-1, bs]) D6 (by simp)
    refine wpAnyH_ready (rs := [8]) (by kernel_rfl) (by decide) (AllReadyH.cons (o := _) rfl (fun K hK' => ?_) AllReadyH.nil)
    go_simp
    go_at_call 88
    refine (among_dr b _ _ 2 2 _ _ D6.src (by omega) hr hA (by omega) (by omega)).mono ?_; rintro e w7 ⟨x, rfl, hx, h7⟩
    have D7 := (D6.add h7).sel [1, 2, 3, 4, 5] 99 (by decide) (by decide)
    clear hr hA D5 D6 h7 hx
    refine hK'.out _ _ (D7.cell23 0 rfl) (fun hHeld2 => ?_)
    clear hK' K hHeld
    have hHeld := hHeld2
    clear hHeld2
    try simp only [Act.put, List.setIfInBounds_toArray]
    have hp0 : 0 < L2 := n3
    refine wpAnyH_take (i := 9) (v := ?_) rfl (by kernel_rfl) (by kernel_rfl) (by kernel_rfl) (fun _ _ _ h => h) (Or.inl ⟨by rfl, ?_⟩) hHeld ?_
    rotate_left
    · (intro w hSw; (try dsimp only at hSw); go_simp; first | with_reducible rfl | (rw [if_pos hp0]))
    try simp only [Act.put, List.setIfInBounds_toArray, List.set_cons_zero, List.set_cons_succ, List.getElem_toArray, List.getElem_cons_succ, List.getElem_cons_zero]
    obtain ⟨r1, r2, r3⟩ := (D7.front 2 rfl).rowCellP (j := 0) (by rw [HL2.out]; omega)
    have D8 := (D7.front 2 rfl).setIP 0 x
    refine wpAnyH_ready (rs := [10]) (by kernel_rfl) (by decide) (AllReadyH.cons (o := _) rfl (fun K hK' => ?_) AllReadyH.nil)
    go_simp
    refine hK'.out _ _ (D8.cell23 1 rfl) (fun hHeld2 => ?_)
    clear hK' K hHeld hHeld2
    try simp only [Act.put, List.setIfInBounds_toArray]
    refine wpAnyH_done (by kernel_rfl) ?_ _
    clear r1 r2 r3 D7
    generalize w7.setCell ⟨gB, 0, none⟩ (.int .i64 x) = w8 at D8 ⊢
    obtain ⟨u, B1, d1, B2, d2, B3, d3, hul, D9⟩ : ∃ (u : Tri) (B1 : Option Addr) (d1 : Nat) (B2 : Option Addr) (d2 : Nat) (B3 : Option Addr) (d3 : Nat), (u.a.digits.length ≤ 22 ∧ u.b.digits.length ≤ 22 ∧ u.s.digits.length ≤ 22) ∧ DR b (N + 290) w [.blk g [.int .i64 u.a.base, .slice B1 u.a.digits.length d1, .int .i64 u.b.base, .slice B2 u.b.digits.length d2, .int .i64 u.s.base, .slice B3 u.s.digits.length d3, .int .i64 u.carry] 32, rowI B3 d3 u.s.digits, rowI B2 d2 u.b.digits, rowI B1 d1 u.a.digits, .blk w.heap.size [.int .i64 0, .slice none 0 0, .int .i64 0, .slice none 0 0, .int .i64 0, .slice none 0 0, .int .i64 0] 32] w8 := by
      refine ⟨{ t with b := ⟨t.b.base, t.b.digits.set 0 x⟩ }, A1, c1, some ⟨gB, 0, none⟩, c2, A3, c3, by simp only [List.length_set]; have := HL2.out; omega, ?_⟩
      have h9 := (D8.sel [1, 2, 0, 3, 4] 99 (by decide) (by decide)).mono (M := N + 290) (by omega)
      show DR b _ w [.blk g [_, _, .int .i64 t.b.base, .slice (some ⟨gB, 0, none⟩) (t.b.digits.set 0 x).length c2, _, _, _] _, _, _, _, _] w8
      rw [List.length_set, HL2.out, HBS.out]
      exact h9
    clear D8
    have D4 := D9
    clear D4 HV
    obtain ⟨a1, a2, a3, x1, x2, x3, -⟩ := D9.cells
    go_wp2_with fail
    refine bodyPost.dr ((((((((D9.front 4 rfl).st 0 (.int .i64 u.a.base)).st 1 (.slice B1 u.a.digits.length d1)).st 2 (.int .i64 u.b.base)).st 3 (.slice B2 u.b.digits.length d2)).st 4 (.int .i64 u.s.base)).st 5 (.slice B3 u.s.digits.length d3)).st 6 (.int .i64 u.carry)) ?_; intro w19 D19
    clear a1 a2 a3 x1 x2 x3
    obtain ⟨a1, a2, a3, -⟩ := D19.cells
    refine bodyPost_ret (v := .agg #[.int .i64 u.a.base, .slice B1 u.a.digits.length d1, .int .i64 u.b.base, .slice B2 u.b.digits.length d2, .int .i64 u.s.base, .slice B3 u.s.digits.length d3, .int .i64 u.carry]) (by simp [results, Tryz.results55, go_sem, a1]) rfl ⟨u, B1, d1, B2, d2, B3, d3, rfl, hul, ?_⟩
    exact (D19.sel [2, 3, 4] 99 (by decide) (by decide)).mono (by omega)
  by_cases h4 : y = 4
  · subst h4
    go_wp2_with fail
    refine (digits_dr b _ 2 16 w4 D4.src (by omega) (by omega) (by omega) (by omega)).mono ?_; rintro e w5 ⟨A', c', ds, rfl, hdl, hdd, h5⟩
    have D5 := D4.add h5
    clear h5 hdd
    obtain ⟨a1, a2, a3, x1, x2, x3, -⟩ := (D5.front 1 rfl).cells
    go_upto_region 13 with fail
    refine Code.wp.dr ((D5.front 1 rfl).st 5 (.slice A' 16 c')) ?_; intro w8 D8
    obtain ⟨u, B1, d1, B2, d2, B3, d3, hul, D9⟩ : ∃ (u : Tri) (B1 : Option Addr) (d1 : Nat) (B2 : Option Addr) (d2 : Nat) (B3 : Option Addr) (d3 : Nat), (u.a.digits.length ≤ 22 ∧ u.b.digits.length ≤ 22 ∧ u.s.digits.length ≤ 22) ∧ DR b (N + 290) w [.blk g [.int .i64 u.a.base, .slice B1 u.a.digits.length d1, .int .i64 u.b.base, .slice B2 u.b.digits.length d2, .int .i64 u.s.base, .slice B3 u.s.digits.length d3, .int .i64 u.carry] 32, rowI B3 d3 u.s.digits, rowI B2 d2 u.b.digits, rowI B1 d1 u.a.digits, .blk w.heap.size [.int .i64 0, .slice none 0 0, .int .i64 0, .slice none 0 0, .int .i64 0, .slice none 0 0, .int .i64 0] 32] w8 := by
      refine ⟨{ t with s := ⟨t.s.base, ds⟩ }, A1, c1, A2, c2, A', c', by simp only; omega, ?_⟩
      have h9 := (D8.sel [0, 1, 3, 4, 5] 99 (by decide) (by decide)).mono (M := N + 290) (by omega)
      show DR b _ w [.blk g [_, _, _, _, _, .slice A' ds.length c', _] _, _, _, _, _] w8
      rw [hdl]
      exact h9
    clear D8 D5 a1 a2 a3 x1 x2 x3
    clear D4 HV
    obtain ⟨a1, a2, a3, x1, x2, x3, -⟩ := D9.cells
    go_wp2_with fail
    refine bodyPost.dr ((((((((D9.front 4 rfl).st 0 (.int .i64 u.a.base)).st 1 (.slice B1 u.a.digits.length d1)).st 2 (.int .i64 u.b.base)).st 3 (.slice B2 u.b.digits.length d2)).st 4 (.int .i64 u.s.base)).st 5 (.slice B3 u.s.digits.length d3)).st 6 (.int .i64 u.carry)) ?_; intro w19 D19
    clear a1 a2 a3 x1 x2 x3
    obtain ⟨a1, a2, a3, -⟩ := D19.cells
    refine bodyPost_ret (v := .agg #[.int .i64 u.a.base, .slice B1 u.a.digits.length d1, .int .i64 u.b.base, .slice B2 u.b.digits.length d2, .int .i64 u.s.base, .slice B3 u.s.digits.length d3, .int .i64 u.carry]) (by simp [results, Tryz.results55, go_sem, a1]) rfl ⟨u, B1, d1, B2, d2, B3, d3, rfl, hul, ?_⟩
    exact (D19.sel [2, 3, 4] 99 (by decide) (by decide)).mono (by omega)
  have e0 : (y == 0) = false := by simp [h0]
  have e1 : (y == 1) = false := by simp [h1]
  have e2 : (y == 2) = false := by simp [h2]
  have e3 : (y == 3) = false := by simp [h3]
  have e4 : (y == 4) = false := by simp [h4]
  obtain ⟨w8, hw8⟩ : ∃ w8, w4 = w8 := ⟨_, rfl⟩
  rw [hw8] at D4 ⊢
  clear hw8
  obtain ⟨u, B1, d1, B2, d2, B3, d3, hul, D9⟩ : ∃ (u : Tri) (B1 : Option Addr) (d1 : Nat) (B2 : Option Addr) (d2 : Nat) (B3 : Option Addr) (d3 : Nat), (u.a.digits.length ≤ 22 ∧ u.b.digits.length ≤ 22 ∧ u.s.digits.length ≤ 22) ∧ DR b (N + 290) w [.blk g [.int .i64 u.a.base, .slice B1 u.a.digits.length d1, .int .i64 u.b.base, .slice B2 u.b.digits.length d2, .int .i64 u.s.base, .slice B3 u.s.digits.length d3, .int .i64 u.carry] 32, rowI B3 d3 u.s.digits, rowI B2 d2 u.b.digits, rowI B1 d1 u.a.digits, .blk w.heap.size [.int .i64 0, .slice none 0 0, .int .i64 0, .slice none 0 0, .int .i64 0, .slice none 0 0, .int .i64 0] 32] w8 := ⟨t, A1, c1, A2, c2, A3, c3, by omega, D4.mono (by omega)⟩
  clear D4 HV
  obtain ⟨a1, a2, a3, x1, x2, x3, -⟩ := D9.cells
  go_wp2_with fail
  refine bodyPost.dr ((((((((D9.front 4 rfl).st 0 (.int .i64 u.a.base)).st 1 (.slice B1 u.a.digits.length d1)).st 2 (.int .i64 u.b.base)).st 3 (.slice B2 u.b.digits.length d2)).st 4 (.int .i64 u.s.base)).st 5 (.slice B3 u.s.digits.length d3)).st 6 (.int .i64 u.carry)) ?_; intro w19 D19
  clear a1 a2 a3 x1 x2 x3
  obtain ⟨a1, a2, a3, -⟩ := D19.cells
  refine bodyPost_ret (v := .agg #[.int .i64 u.a.base, .slice B1 u.a.digits.length d1, .int .i64 u.b.base, .slice B2 u.b.digits.length d2, .int .i64 u.s.base, .slice B3 u.s.digits.length d3, .int .i64 u.carry]) (by simp [results, Tryz.results55, go_sem, a1]) rfl ⟨u, B1, d1, B2, d2, B3, d3, rfl, hul, ?_⟩
  exact (D19.sel [2, 3, 4] 99 (by decide) (by decide)).mono (by omega)
end Go.Proofs.YtafnebpbfmbgiaaGreatDoor

namespace Go.Proofs.YtafnebpbfmbgiaaGreatDoor
open Go.RowKit Go.Sort
/-- drawn values -/
def DVals (b M : Nat) (w : World) (e : Ending) (w' : World) : Prop := ∃ (A : Option Addr) (c : Nat) (us : List Int), e = .returned (.slice A us.length c) ∧ us.length ≤ 70 ∧ DR b M w [rowI A c us] w'
end Go.Proofs.YtafnebpbfmbgiaaGreatDoor

namespace Go.Proofs.YtafnebpbfmbgiaaGreatDoor
open Go.RowKit Go.Sort
end Go.Proofs.YtafnebpbfmbgiaaGreatDoor

namespace Go.Proofs.YtafnebpbfmbgiaaGreatDoor
open Go.RowKit Go.Sort
theorem DR.box7at {b N : Nat} {w wi : World} {m : List Ent} {g : Nat} {v0 v1 v2 v3 v4 v5 v6 : Value} {T : TypeId} (h : DR b N w m wi) (i : Nat) (hi : m[i]? = some (.blk g [v0, v1, v2, v3, v4, v5, v6] T)) :
    wi.cell? ⟨g, 0, none⟩ = some v0 ∧ wi.cell? ⟨g, 1, none⟩ = some v1 ∧ wi.cell? ⟨g, 2, none⟩ = some v2 ∧ wi.cell? ⟨g, 3, none⟩ = some v3 ∧ wi.cell? ⟨g, 4, none⟩ = some v4 ∧ wi.cell? ⟨g, 5, none⟩ = some v5 ∧ wi.cell? ⟨g, 6, none⟩ = some v6 := by
  obtain ⟨v, -, -, hK⟩ := h
  exact Go.Proofs.YtafnebpbfmbgiaaGreatDoor.box7at hK i hi
end Go.Proofs.YtafnebpbfmbgiaaGreatDoor

namespace Go.Proofs.YtafnebpbfmbgiaaGreatDoor
open Go.RowKit Go.Sort
/-! draws for runs -/
def DrawsIns (w : World) (e : Ending) (w' : World) : Prop := ∃ (B : Option Addr) (d : Nat) (xs : List Ins), e = .returned (.slice B xs.length d) ∧ xs.length ≤ 200 ∧ Kn w [rowIns (.slice B xs.length d) xs] w'
def DrawsRun (w : World) (e : Ending) (w' : World) : Prop := ∃ (t : Tri) (A1 : Option Addr) (c1 : Nat) (A2 : Option Addr) (c2 : Nat) (A3 : Option Addr) (c3 : Nat) (B : Option Addr) (d : Nat) (xs : List Ins), e = .returned (.tuple #[.agg #[.int .i64 t.a.base, .slice A1 t.a.digits.length c1, .int .i64 t.b.base, .slice A2 t.b.digits.length c2, .int .i64 t.s.base, .slice A3 t.s.digits.length c3, .int .i64 t.carry], .slice B xs.length d]) ∧ ((t.a.digits.length ≤ 22 ∧ t.b.digits.length ≤ 22 ∧ t.s.digits.length ≤ 22) ∧ xs.length ≤ 200) ∧ Kn w [rowI A3 c3 t.s.digits, rowI A2 c2 t.b.digits, rowI A1 c1 t.a.digits, rowIns (.slice B xs.length d) xs] w'
/-! MatchOf and DepthOfProgram -/
def MT (L : List Ins) (x : Int) (v c : Int) : Prop :=
  (vprog L = false ∧ v = 0 ∧ c = 1) ∨ (vprog L = true ∧ betB x 0 ((L.length : Int) - 1) = false ∧ v = 0 ∧ c = 2) ∨
  (∃ (i : Nat) (hi : i < L.length), vprog L = true ∧ x = i ∧ opens L[i].op = false ∧ v = 0 ∧ c = 6) ∨
  (∃ (i e : Nat) (hi : i < L.length), vprog L = true ∧ x = i ∧ opens L[i].op = true ∧ IsMatch L i e ∧ v = e ∧ c = 0)
theorem MT.one {L : List Ins} {x v c v' c' : Int} (h : MT L x v c) (h' : MT L x v' c') : v = v' ∧ c = c' := by
  have hb : ∀ i : Nat, i < L.length → x = i → betB x 0 ((L.length : Int) - 1) = true := fun i hi hx => betB_iff.2 (by omega)
  rcases h with ⟨a, rfl, rfl⟩ | ⟨a, b, rfl, rfl⟩ | ⟨i, hi, a, rfl, b, rfl, rfl⟩ | ⟨i, e, hi, a, rfl, b, hm, rfl, rfl⟩
  · rcases h' with ⟨a', rfl, rfl⟩ | ⟨a', b', rfl, rfl⟩ | ⟨i', hi', a', hx, b', rfl, rfl⟩ | ⟨i', e', hi', a', hx, b', hm', rfl, rfl⟩
    · exact ⟨rfl, rfl⟩
    all_goals (rw [a] at a'; cases a')
  · rcases h' with ⟨a', rfl, rfl⟩ | ⟨a', b', rfl, rfl⟩ | ⟨i', hi', a', hx, b', rfl, rfl⟩ | ⟨i', e', hi', a', hx, b', hm', rfl, rfl⟩
    · rw [a] at a'; cases a'
    · exact ⟨rfl, rfl⟩
    · rw [hb i' hi' hx] at b; cases b
    · rw [hb i' hi' hx] at b; cases b
  · rcases h' with ⟨a', rfl, rfl⟩ | ⟨a', b', rfl, rfl⟩ | ⟨i', hi', a', hx, b', rfl, rfl⟩ | ⟨i', e', hi', a', hx, b', hm', rfl, rfl⟩
    · rw [a] at a'; cases a'
    · rw [hb i hi rfl] at b'; cases b'
    · exact ⟨rfl, rfl⟩
    · obtain rfl : i = i' := by omega
      rw [b] at b'; cases b'
  · rcases h' with ⟨a', rfl, rfl⟩ | ⟨a', b', rfl, rfl⟩ | ⟨i', hi', a', hx, b', rfl, rfl⟩ | ⟨i', e', hi', a', hx, b', hm', rfl, rfl⟩
    · rw [a] at a'; cases a'
    · rw [hb i hi rfl] at b'; cases b'
    · obtain rfl : i = i' := by omega
      rw [b] at b'; cases b'
    · obtain rfl : i = i' := by omega
      rw [hm.one hm']
      exact ⟨rfl, rfl⟩
/-- where a loop ends there is an end -/
theorem match_end {L : List Ins} (hv : vprog L = true) {i e : Nat} (hi : i < L.length) (ho : opens L[i].op = true) (hm : IsMatch L i e) : i < e ∧ ∃ he : e < L.length, L[e].op = 10 := by
  obtain ⟨m1, m2, m3, m4⟩ := hm
  have h1 := dep_open hv hi ho
  have hie : i < e := by
    rcases Nat.lt_or_ge i e with h | h
    · exact h
    · obtain rfl : i = e := by omega
      omega
  refine ⟨hie, m2, ?_⟩
  have h2 := m4 e hie (Nat.le_refl _)
  rcases Decidable.em (L[e].op = 10) with h | h
  · exact h
  · exfalso
    cases hoe : opens L[e].op with
    | true => have := dep_open hv m2 hoe; omega
    | false => have := dep_same hv m2 hoe h; omega
def MTRet (L : List Ins) (x : Int) (w : World) (e : Ending) (w' : World) : Prop := ∃ v c : Int, e = .returned (.tuple #[.int .i64 v, .int .i64 c]) ∧ MT L x v c ∧ Below w.heap.size w w'
end Go.Proofs.YtafnebpbfmbgiaaGreatDoor

namespace Go.Proofs.YtafnebpbfmbgiaaGreatDoor
open Go.RowKit Go.Sort
/-- accumulators: which registers they are, and what they show -/
def aOk (b : Int) (ds : List Int) : Bool := vreg b ds && decide (pw b ds.length ≤ 1000000000001)
def aSize (b : Int) (ds : List Int) : Int := if aOk b ds = true then pw b ds.length else 0
def isNm (n x : Int) : Bool := betB x (-(n.tdiv 2)) (n - 1 - n.tdiv 2)
def aNum (b : Int) (ds : List Int) : Int := if valL b ds ≤ pw b ds.length - 1 - (pw b ds.length).tdiv 2 then valL b ds else valL b ds - pw b ds.length
def aNorm (n x : Int) : Int := (x.tmod n + n).tmod n
def aSet (b : Int) (k : Nat) (x : Int) : List Int := digD b k (aNorm (pw b k) x)
theorem aOk_iff {b : Int} {ds : List Int} : aOk b ds = true ↔ vreg b ds = true ∧ pw b ds.length ≤ 1000000000001 := by
  unfold aOk; rw [Bool.and_eq_true, decide_eq_true_eq]
theorem aNorm_bd {n x : Int} (hn : 1 ≤ n) : 0 ≤ aNorm n x ∧ aNorm n x < n := by
  unfold aNorm
  have h1 : -n < x.tmod n ∧ x.tmod n < n := by
    rcases Int.le_total 0 x with h | h
    · rw [Int.tmod_eq_emod_of_nonneg h]
      have := Int.emod_nonneg x (show n ≠ 0 by omega)
      have := Int.emod_lt_of_pos x (show 0 < n by omega)
      omega
    · have h2 := Int.neg_tmod (-x) n
      rw [Int.neg_neg] at h2
      rw [h2, Int.tmod_eq_emod_of_nonneg (by omega)]
      have := Int.emod_nonneg (-x) (show n ≠ 0 by omega)
      have := Int.emod_lt_of_pos (-x) (show 0 < n by omega)
      omega
  rw [Int.tmod_eq_emod_of_nonneg (by omega)]
  exact ⟨Int.emod_nonneg _ (by omega), Int.emod_lt_of_pos _ (by omega)⟩
theorem half_bd {n : Int} (hn : 0 ≤ n) : 0 ≤ n.tdiv 2 ∧ 2 * n.tdiv 2 ≤ n ∧ n ≤ 2 * n.tdiv 2 + 1 := by
  rw [Int.tdiv_eq_ediv_of_nonneg hn]; omega
theorem valL_in {b : Int} {ds : List Int} (h : aOk b ds = true) : 0 ≤ valL b ds ∧ valL b ds < pw b ds.length ∧ 1 ≤ pw b ds.length ∧ pw b ds.length ≤ 1000000000001 := by
  obtain ⟨h1, h2⟩ := aOk_iff.1 h
  obtain ⟨⟨b1, b2⟩, -, hd, -⟩ := vreg_iff.1 h1
  exact ⟨(valL_bd b b1 ds (fun d hd' => (hd d hd').1)).1, valL_lt b b1 ds hd, pw_pos b b1 _, h2⟩
theorem aNum_bd {b : Int} {ds : List Int} (h : aOk b ds = true) : -1000000000001 ≤ aNum b ds ∧ aNum b ds ≤ 1000000000001 := by
  have := valL_in h
  unfold aNum
  split <;> omega
end Go.Proofs.YtafnebpbfmbgiaaGreatDoor

namespace Go.Proofs.YtafnebpbfmbgiaaGreatDoor
open Go.RowKit Go.Sort
/-- what a function that adds a number returns -/
def anuC (b : Int) (ds : List Int) (x : Int) : Int := if aOk b ds = false then 1 else if betB x (-1000000000000) 1000000000000 = false then 2 else 0
def ANRet (b : Int) (ds : List Int) (x : Int) (w : World) (e : Ending) (w' : World) : Prop :=
  (anuC b ds x ≠ 0 ∧ e = .returned (.tuple #[.agg #[.int .i64 0, .slice none 0 0], .bool false, .int .i64 (anuC b ds x)]) ∧ Below w.heap.size w w') ∨
  (anuC b ds x = 0 ∧ ∃ E g, e = .returned (.tuple #[.agg #[.int .i64 b, .slice E (aSet b ds.length (aNum b ds + x)).length g], .bool (!isNm (pw b ds.length) (aNum b ds + x)), .int .i64 0]) ∧ Kn w [rowI E g (aSet b ds.length (aNum b ds + x))] w')
end Go.Proofs.YtafnebpbfmbgiaaGreatDoor

namespace Go.Proofs.YtafnebpbfmbgiaaGreatDoor
open Go.RowKit Go.Sort
/-- a register in a block -/
def RegB (w : World) (g : Nat) (b : Int) (A : Option Addr) (c : Nat) (ds : List Int) : Prop := (w.cell? ⟨g, 0, none⟩ = some (.int .i64 b) ∧ w.cell? ⟨g, 1, none⟩ = some (.slice A ds.length c)) ∧ RI w A ds.length ds
theorem RegB.below {w w' : World} {g : Nat} {b : Int} {A : Option Addr} {c : Nat} {ds : List Int} (h : RegB w g b A c ds) (hb : Below w.heap.size w w') : RegB w' g b A c ds := by
  have hlt : g < w.heap.size := World.block_lt_of_cell? w _ h.1.1
  exact ⟨⟨(hb.cell (p := ⟨g, 0, none⟩) hlt).trans h.1.1, (hb.cell (p := ⟨g, 1, none⟩) hlt).trans h.1.2⟩, h.2.below hb⟩
theorem tmod_bd {n x : Int} (hn : 1 ≤ n) : -n < x.tmod n ∧ x.tmod n < n := by
  rcases Int.le_total 0 x with h | h
  · rw [Int.tmod_eq_emod_of_nonneg h]
    have := Int.emod_nonneg x (show n ≠ 0 by omega)
    have := Int.emod_lt_of_pos x (show 0 < n by omega)
    omega
  · have h2 := Int.neg_tmod (-x) n
    rw [Int.neg_neg] at h2
    rw [h2, Int.tmod_eq_emod_of_nonneg (by omega)]
    have := Int.emod_nonneg (-x) (show n ≠ 0 by omega)
    have := Int.emod_lt_of_pos (-x) (show 0 < n by omega)
    omega
end Go.Proofs.YtafnebpbfmbgiaaGreatDoor

namespace Go.Proofs.YtafnebpbfmbgiaaGreatDoor
open Go.RowKit Go.Sort
theorem isNm_val {n v : Int} (hn : 1 ≤ n) (h0 : 0 ≤ v) : isNm n v = decide (v ≤ n - 1 - n.tdiv 2) := by
  have hh := half_bd (n := n) (by omega)
  unfold isNm
  rw [Bool.eq_iff_iff, betB_iff, decide_eq_true_eq]
  omega
end Go.Proofs.YtafnebpbfmbgiaaGreatDoor

namespace Go.Proofs.YtafnebpbfmbgiaaGreatDoor
open Go.RowKit Go.Sort
/-- how far each wheel is turned to come to 0 -/
def ctL (b : Int) (ds : List Int) : List Int := ds.map (fun d => (b - d).tmod b)
def ctR (b : Int) (ds : List Int) : List Int := if vreg b ds then ctL b ds else []
def CTRet (b : Int) (ds : List Int) (w : World) (e : Ending) (w' : World) : Prop := ∃ E k, e = .returned (.tuple #[.slice E (ctR b ds).length k, .int .i64 (if vreg b ds then 0 else 1)]) ∧ Kn w [rowI E k (ctR b ds)] w'
theorem ctL_take {b : Int} {ds : List Int} {k : Nat} (h : k < ds.length) : ctL b (ds.take (k + 1)) = ctL b (ds.take k) ++ [(b - ds[k]).tmod b] := by
  unfold ctL; rw [List.take_succ_eq_append_getElem h, List.map_append]; rfl
theorem ctL_len (b : Int) (ds : List Int) : (ctL b ds).length = ds.length := by unfold ctL; rw [List.length_map]
end Go.Proofs.YtafnebpbfmbgiaaGreatDoor

namespace Go.Proofs.YtafnebpbfmbgiaaGreatDoor
open Go.RowKit Go.Sort
def tfC (b : Int) (ds : List Int) (b' : Int) (es : List Int) : Int := if (aOk b ds && aOk b' es) = false then 1 else if b ≠ b' then 6 else 0
/-- what a transfer returns -/
def TFRet (b : Int) (ds : List Int) (b' : Int) (es : List Int) (w : World) (e : Ending) (w' : World) : Prop :=
  (tfC b ds b' es ≠ 0 ∧ e = .returned (.tuple #[.agg #[.int .i64 0, .slice none 0 0], .agg #[.int .i64 0, .slice none 0 0], .bool false, .int .i64 (tfC b ds b' es)]) ∧ Below w.heap.size w w') ∨
  (tfC b ds b' es = 0 ∧ ∃ E1 k1 E2 k2, e = .returned (.tuple #[.agg #[.int .i64 b, .slice E1 (digD b ds.length 0).length k1], .agg #[.int .i64 b', .slice E2 (aSet b' es.length (aNum b' es + aNum b ds)).length k2], .bool (!isNm (pw b' es.length) (aNum b' es + aNum b ds)), .int .i64 0]) ∧
    Kn w [rowI E2 k2 (aSet b' es.length (aNum b' es + aNum b ds)), rowI E1 k1 (digD b ds.length 0)] w')
theorem tfC_bad {b b' : Int} {ds es : List Int} (h : (aOk b ds && aOk b' es) = false) : tfC b ds b' es = 1 := by unfold tfC; rw [if_pos h]
end Go.Proofs.YtafnebpbfmbgiaaGreatDoor

namespace Go.Proofs.YtafnebpbfmbgiaaGreatDoor
open Go.RowKit Go.Sort
def accD (b : Int) (ds xs : List Int) : Nat → List Int
  | 0 => ds
  | k + 1 => aSet b ds.length (aNum b (accD b ds xs k) + xs.getD k 0)
def accB (b : Int) (ds xs : List Int) : Nat → List Int
  | 0 => []
  | k + 1 => if isNm (pw b ds.length) (aNum b (accD b ds xs k) + xs.getD k 0) = true then accB b ds xs k else accB b ds xs k ++ [(k : Int)]
def inA (xs : List Int) : Bool := xs.all (fun x => betB x (-1000000000000) 1000000000000)
def aaC (b : Int) (ds xs : List Int) : Int := if aOk b ds = false then 1 else if inA xs = false then 2 else 0
theorem aSet_len (b : Int) (k : Nat) (x : Int) : (aSet b k x).length = k := digD_len ..
theorem accD_len (b : Int) (ds xs : List Int) (k : Nat) : (accD b ds xs k).length = ds.length := by
  cases k with
  | zero => rfl
  | succ k => exact aSet_len ..
theorem accB_len (b : Int) (ds xs : List Int) (k : Nat) : (accB b ds xs k).length ≤ k := by
  induction k with
  | zero => simp [accB]
  | succ k ih => unfold accB; split; omega; rw [List.length_append]; simp; omega
theorem aSet_ok {b : Int} {ds : List Int} (h : aOk b ds = true) (x : Int) : aOk b (aSet b ds.length x) = true := by
  obtain ⟨h1, h2⟩ := aOk_iff.1 h
  obtain ⟨⟨b1, b2⟩, ⟨n1, n2⟩, -⟩ := vreg_iff.1 h1
  have hp := pw_pos b b1 ds.length
  have hb := aNorm_bd (n := pw b ds.length) (x := x) hp
  refine aOk_iff.2 ⟨?_, by rw [aSet_len]; exact h2⟩
  exact digD_vreg b b1 b2 _ n1 n2 _ hb.1 hb.2 (by omega)
theorem accD_ok {b : Int} {ds : List Int} (h : aOk b ds = true) (xs : List Int) (k : Nat) : aOk b (accD b ds xs k) = true := by
  cases k with
  | zero => exact h
  | succ k => exact aSet_ok h _
theorem inA_take_succ {xs : List Int} {k : Nat} (h : k < xs.length) : inA (xs.take (k + 1)) = (inA (xs.take k) && betB xs[k] (-1000000000000) 1000000000000) := by
  unfold inA; rw [List.take_succ_eq_append_getElem h, List.all_append]; simp only [List.all_cons, List.all_nil, Bool.and_true]
theorem inA_not {xs : List Int} {k : Nat} (h : k < xs.length) (h1 : betB xs[k] (-1000000000000) 1000000000000 = false) : inA xs = false := by
  simp only [inA, List.all_eq_false]; exact ⟨xs[k], List.getElem_mem _, by simp [h1]⟩
/-- what the adding of numbers returns -/
def AARet (b : Int) (ds xs : List Int) (w : World) (e : Ending) (w' : World) : Prop :=
  (aaC b ds xs ≠ 0 ∧ e = .returned (.tuple #[.agg #[.int .i64 0, .slice none 0 0], .slice none 0 0, .int .i64 (aaC b ds xs)]) ∧ Below w.heap.size w w') ∨
  (aaC b ds xs = 0 ∧ ∃ E k B m, e = .returned (.tuple #[.agg #[.int .i64 b, .slice E (accD b ds xs xs.length).length k], .slice B (accB b ds xs xs.length).length m, .int .i64 0]) ∧
    Kn w [rowI B m (accB b ds xs xs.length), rowI E k (accD b ds xs xs.length)] w')
theorem accD_succ (b : Int) (ds : List Int) {xs : List Int} {i : Nat} (h : i < xs.length) : accD b ds xs (i + 1) = aSet b ds.length (aNum b (accD b ds xs i) + xs[i]) := by rw [← getD_of h]; rfl
theorem accB_succ (b : Int) (ds : List Int) {xs : List Int} {i : Nat} (h : i < xs.length) : accB b ds xs (i + 1) = if isNm (pw b ds.length) (aNum b (accD b ds xs i) + xs[i]) = true then accB b ds xs i else accB b ds xs i ++ [(i : Int)] := by rw [← getD_of h]; rfl
theorem inA_get {xs : List Int} (h : inA xs = true) {i : Nat} (hi : i < xs.length) : betB xs[i] (-1000000000000) 1000000000000 = true := by
  unfold inA at h
  exact List.all_eq_true.1 h _ (List.getElem_mem _)
end Go.Proofs.YtafnebpbfmbgiaaGreatDoor

namespace Go.Proofs.YtafnebpbfmbgiaaGreatDoor
open Go.RowKit Go.Sort
end Go.Proofs.YtafnebpbfmbgiaaGreatDoor

namespace Go.Proofs.YtafnebpbfmbgiaaGreatDoor
open Go.RowKit Go.Sort
/-- what the drawing of a good register returns -/
def DReg (b M : Nat) (w : World) (e : Ending) (w' : World) : Prop := ∃ (bs : Int) (A : Option Addr) (c : Nat) (ds : List Int), e = .returned (.agg #[.int .i64 bs, .slice A ds.length c]) ∧ (2 ≤ bs ∧ bs ≤ 12 ∧ 1 ≤ ds.length ∧ ds.length ≤ 6) ∧ DR b M w [rowI A c ds] w'
theorem min6 {q k : Nat} (h : 0 ≤ (q : Int) ∧ ((q : Int) < min 6 (k : Int) ∨ min 6 (k : Int) ≤ 1 ∧ (q : Int) = 0)) : q ≤ 5 := by omega
theorem wrapQ {q : Nat} (h : q ≤ 5) : IntKind.i64.wrap (1 + (q : Int)) = ((q + 1 : Nat) : Int) := by rw [wrapI64 (by omega)]; omega
end Go.Proofs.YtafnebpbfmbgiaaGreatDoor

namespace Go.Proofs.YtafnebpbfmbgiaaGreatDoor
open Go.RowKit Go.Sort
end Go.Proofs.YtafnebpbfmbgiaaGreatDoor

namespace Go.Proofs.YtafnebpbfmbgiaaGreatDoor
open Go.RowKit Go.Sort
theorem DR.ad {b N : Nat} {w wi w' : World} {m m' : List Ent} (h : DR b N w m wi) (h1 : Kn wi m' w') : DR b N w (m' ++ m) w' := h.kn (fun _ hK => hK.join h1)
theorem pw_12 {b : Int} (b1 : 2 ≤ b) (b2 : b ≤ 12) (k : Nat) : pw b k ≤ pw 12 k := by
  induction k with
  | zero => exact Int.le_refl _
  | succ k ih =>
    rw [pw_succ, pw_succ]
    have := pw_pos b b1 k
    exact Int.mul_le_mul ih b2 (by omega) (by have := pw_pos 12 (by omega) k; omega)
theorem pw_small {b : Int} (b1 : 2 ≤ b) (b2 : b ≤ 12) {k : Nat} (hk : k ≤ 6) : pw b k ≤ 2985984 := by
  have h1 := pw_12 b1 b2 k
  have h2 := pw_mono 12 (by omega) k 6 hk
  have h3 : pw 12 6 = 2985984 := by decide
  omega
/-- what the drawing of a register returns -/
def DReg2 (b M : Nat) (w : World) (e : Ending) (w' : World) : Prop := ∃ (bs : Int) (A : Option Addr) (c : Nat) (ds : List Int), e = .returned (.agg #[.int .i64 bs, .slice A ds.length c]) ∧ ds.length ≤ 20 ∧ DR b M w [rowI A c ds] w'
end Go.Proofs.YtafnebpbfmbgiaaGreatDoor

namespace Go.Proofs.YtafnebpbfmbgiaaGreatDoor
open Go.RowKit Go.Sort
theorem DR.setI {b N : Nat} {w wi : World} {m : List Ent} {g c : Nat} {ds : List Int} (h : DR b N w (rowI (some ⟨g, 0, none⟩) c ds :: m) wi) (j : Nat) (v : Int) : DR b N w (rowI (some ⟨g, 0, none⟩) c (ds.set j v) :: m) (wi.setCell ⟨g, j, none⟩ (.int .i64 v)) := h.kn (fun _ hK => hK.setI j v)
theorem DR.rowCell {b N : Nat} {w wi : World} {m : List Ent} {g c : Nat} {ds : List Int} (h : DR b N w (rowI (some ⟨g, 0, none⟩) c ds :: m) wi) {j : Nat} (hj : j < ds.length) : wi.cell? ⟨g, j, none⟩ = some (.int .i64 ds[j]) ∧ wi.frozen? ⟨g, j, none⟩ = false ∧ g < wi.heap.size := by
  obtain ⟨v, -, -, hK⟩ := h
  have h1 := Kn.rowCell hK (j := j) (u := .int .i64 ds[j]) (by simp [hj])
  exact ⟨h1.1, h1.2, World.block_lt_of_cell? wi _ h1.1⟩
theorem DR.rowForm {b N : Nat} {w wi : World} {m : List Ent} {A : Option Addr} {c : Nat} {ds : List Int} (h : DR b N w (rowI A c ds :: m) wi) (hd : 0 < ds.length) : ∃ g, A = some ⟨g, 0, none⟩ := by
  obtain ⟨v, -, -, hK⟩ := h
  obtain ⟨g, c', he⟩ := Kn.rowForm hK hd
  injection he with he
  exact ⟨g, he⟩
theorem idxL {j L : Nat} (h : 0 ≤ (j : Int) ∧ ((j : Int) < (L : Int) ∨ (L : Int) ≤ 1 ∧ (j : Int) = 0)) (h1 : 1 ≤ L) : j < L := by omega
end Go.Proofs.YtafnebpbfmbgiaaGreatDoor

namespace Go.Proofs.YtafnebpbfmbgiaaGreatDoor
open Go.RowKit Go.Sort
end Go.Proofs.YtafnebpbfmbgiaaGreatDoor

namespace Go.Proofs.YtafnebpbfmbgiaaGreatDoor
open Go.RowKit Go.Sort
/-- a register that a law's draw returns -/
def DrawsReg (w : World) (e : Ending) (w' : World) : Prop := ∃ (bs : Int) (A : Option Addr) (c : Nat) (ds : List Int), e = .returned (.agg #[.int .i64 bs, .slice A ds.length c]) ∧ ds.length ≤ 20 ∧ Kn w [rowI A c ds] w'
end Go.Proofs.YtafnebpbfmbgiaaGreatDoor

namespace Go.Proofs.YtafnebpbfmbgiaaGreatDoor
open Go.RowKit Go.Sort
end Go.Proofs.YtafnebpbfmbgiaaGreatDoor

namespace Go.Proofs.YtafnebpbfmbgiaaGreatDoor
open Go.RowKit Go.Sort
/-- what the draw of two registers returns -/
def Draws2 (w : World) (e : Ending) (w' : World) : Prop := ∃ (b : Int) (A : Option Addr) (c : Nat) (ds : List Int) (b2 : Int) (B : Option Addr) (k : Nat) (es : List Int), e = .returned (.tuple #[.agg #[.int .i64 b, .slice A ds.length c], .agg #[.int .i64 b2, .slice B es.length k]]) ∧ (ds.length ≤ 20 ∧ es.length ≤ 20) ∧ Kn w [rowI A c ds, rowI B k es] w'
theorem pick5 {q : Nat} (h : 0 ≤ (q : Int) ∧ ((q : Int) < 5 ∨ (5 : Int) ≤ 1 ∧ (q : Int) = 0)) : q ≤ 5 := by omega
end Go.Proofs.YtafnebpbfmbgiaaGreatDoor

namespace Go.Proofs.YtafnebpbfmbgiaaGreatDoor
open Go.RowKit Go.Sort
theorem f6big_any (A : Option Addr) (n c : Nat) (w : World) : Calls Tryz.prog 5 #[.slice A n c] w fun e w' => e = .returned (.bool (decide ((n : Int) > 4096))) ∧ w' = w := by
  go_enter Tryz.func5, Tryz.ntmps5
  go_wp2
  go_ret
  exact ⟨rfl, rfl⟩
set_option maxHeartbeats 400000 in
theorem f6ints_any (A B : Option Addr) (n c m d : Nat) (ds es : List Int) (w : World) (hr : RI w A n ds) (hs : RI w B m es) (hm : n ≤ 9223372036854775807) (hm2 : m ≤ 9223372036854775807) :
    Calls Tryz.prog 22 #[.slice A n c, .slice B m d] w fun e w' => e = .returned (.bool (decide (ds = es))) ∧ ∃ q, w' = w.drewN q := by
  have HL := Lib.hid hr.1
  have HM := Lib.hid hs.1
  by_cases hnm : n = m
  · subst hnm
    go_enter Tryz.func22, Tryz.ntmps22
    go_wp2
    go_loopw [5] (fun i wr => ∃ k : Nat, k ≤ n ∧ i = .int .i64 k ∧ ds.take k = es.take k ∧ ∃ q, wr = w.drewN q) (fun i _ => n - (intOf i).toNat)
    case atStart => exact ⟨0, Nat.zero_le _, rfl, by simp, 0, rfl⟩
    case round =>
      obtain ⟨k, hk, rfl, hdg, q, rfl⟩ := hrel
      have HD := Lib.hid hdg; clear hdg
      by_cases hkn : k < n
      · obtain ⟨ad, hA, hlt, hkl, hc⟩ := hr.at_ hkn
        obtain ⟨ad2, hB, hlt2, hkl2, hc2⟩ := hs.at_ hkn
        subst hA; subst hB
        have hi0 : (0 : Int) ≤ (k : Int) := by omega
        have hi1 : (k : Int) < (n : Int) := by omega
        rcases hd : (ds[k] != es[k]) with _ | _
        · go_wp2
          go_quiet (fail)
          go_wp2
          have he : ds[k] = es[k] := by simpa using hd
          have HE := Lib.hid he; clear he
          go_roundw
          case rel => exact ⟨k + 1, by omega, by go_num, take_eq_of_succ HD.out hkl hkl2 HE.out, by first | exact ⟨_, rfl⟩ | exact ⟨_, World.drewN_drewN _ _ _⟩⟩
          case measure => simp [intOf]; omega
        · go_wp2
          go_quiet (fail)
          go_wp2
          go_ret
          refine ⟨ret_bool ?_, by first | exact ⟨_, rfl⟩ | exact ⟨_, World.drewN_drewN _ _ _⟩⟩
          have : ds ≠ es := by rintro rfl; simp at hd
          simp [this]
      · have HF : Hid (ds = es) := by
          have := HD.out
          rwa [List.take_of_length_le (by have := HL.out; omega), List.take_of_length_le (by have := HM.out; omega)] at this
        go_wp2
        go_ret
        exact ⟨ret_bool (by simp [HF.out]), q, rfl⟩
  · have HF : Hid (ds ≠ es) := by rintro rfl; exact hnm (hr.1.symm.trans hs.1)
    go_enter Tryz.func22, Tryz.ntmps22
    go_wp2
    go_ret
    exact ⟨ret_bool (by simp [HF.out]), 0, rfl⟩
end Go.Proofs.YtafnebpbfmbgiaaGreatDoor

namespace Go.Proofs.YtafnebpbfmbgiaaGreatDoor
open Go.RowKit Go.Sort
/-- a machine on which only the setting is not 0 -/
def freshT (t : Tri) (v : Int) : Tri := ⟨⟨t.a.base, digD t.a.base t.a.digits.length v⟩, ⟨t.a.base, digD t.a.base t.b.digits.length 0⟩, ⟨t.a.base, digD t.a.base t.s.digits.length 0⟩, 0⟩
end Go.Proofs.YtafnebpbfmbgiaaGreatDoor

namespace Go.Proofs.YtafnebpbfmbgiaaGreatDoor
open Go.RowKit Go.Sort
def dvStart (t : Tri) (x y : Int) : Tri := ⟨⟨t.a.base, digD t.a.base t.a.digits.length y⟩, ⟨t.b.base, digD t.b.base t.b.digits.length x⟩, ⟨t.s.base, digD t.s.base t.s.digits.length 0⟩, 0⟩
def dvC (t : Tri) (x y : Int) : Int :=
  if vmach t = false then 1 else if betB x 0 (pw t.b.base t.b.digits.length - 1) = false then 2 else if betB y 1 (pw t.a.base t.a.digits.length - 1) = false then 2 else if pw t.a.base (vplaces t).toNat ≤ x.tdiv y then 5 else 0
noncomputable def dvEnd (t : Tri) (x y : Int) : RS := endR (divProg (vplaces t).toNat) (dvStart t x y)
noncomputable def dvQ (t : Tri) (x y : Int) : Int := if dvC t x y = 0 then (pw t.s.base t.s.digits.length - valL (dvEnd t x y).m.s.base (dvEnd t x y).m.s.digits).tmod (pw t.s.base t.s.digits.length) else 0
noncomputable def dvR (t : Tri) (x y : Int) : Int := if dvC t x y = 0 then valL (dvEnd t x y).m.b.base (dvEnd t x y).m.b.digits else 0
noncomputable def dvN (t : Tri) (x y : Int) : Int := if dvC t x y = 0 then ((dvEnd t x y).tr.length : Int) else 0
def DVRet (t : Tri) (x y : Int) (w : World) (e : Ending) (w' : World) : Prop := e = .returned (.tuple #[.int .i64 (dvQ t x y), .int .i64 (dvR t x y), .int .i64 (dvN t x y), .int .i64 (dvC t x y)]) ∧ Below w.heap.size w w'
theorem dv_code {t : Tri} {x y c : Int} (h : dvC t x y = c) (hc : ¬ c = 0) : dvQ t x y = 0 ∧ dvR t x y = 0 ∧ dvN t x y = 0 ∧ dvC t x y = c := by
  refine ⟨?_, ?_, ?_, h⟩
  · unfold dvQ; rw [h, if_neg hc]
  · unfold dvR; rw [h, if_neg hc]
  · unfold dvN; rw [h, if_neg hc]
theorem dv_fine {t : Tri} {x y : Int} (h : dvC t x y = 0) {s : RS} {b : Bool} (he : Ev (divProg (vplaces t).toNat) (.run 0 (divProg (vplaces t).toNat).length) (startR (dvStart t x y)) s b) :
    dvQ t x y = (pw t.s.base t.s.digits.length - valL s.m.s.base s.m.s.digits).tmod (pw t.s.base t.s.digits.length) ∧ dvR t x y = valL s.m.b.base s.m.b.digits ∧ dvN t x y = (s.tr.length : Int) ∧ dvC t x y = 0 := by
  have h1 : dvEnd t x y = s := endR_eq he
  refine ⟨?_, ?_, ?_, h⟩
  · unfold dvQ; rw [h, h1, if_pos rfl]
  · unfold dvR; rw [h, h1, if_pos rfl]
  · unfold dvN; rw [h, h1, if_pos rfl]
theorem dvStart_ok {t : Tri} {x y : Int} (hv : vmach t = true) (hx : betB x 0 (pw t.b.base t.b.digits.length - 1) = true) (hy : betB y 1 (pw t.a.base t.a.digits.length - 1) = true) : vmach (dvStart t x y) = true := by
  obtain ⟨k1, k2, k3, e1, e2, f1, f2, l1, p0, p1⟩ := vmach_all hv
  obtain ⟨⟨b1, b2⟩, ⟨n1, n2⟩, -⟩ := vreg_iff.1 k1
  obtain ⟨⟨b3, b4⟩, ⟨n3, n4⟩, -⟩ := vreg_iff.1 k2
  obtain ⟨⟨b5, b6⟩, ⟨n5, n6⟩, -⟩ := vreg_iff.1 k3
  have hx' := betB_iff.1 hx
  have hy' := betB_iff.1 hy
  have hm := pw_mono t.a.base (by omega) _ _ l1
  rw [← e1] at f1
  rw [← e1] at hx'
  refine vmach_mk (t := dvStart t x y) (digD_vreg _ b1 b2 _ (by omega) (by omega) y (by omega) (by omega) (by omega)) (digD_vreg _ b3 b4 _ (by omega) (by omega) x (by omega) (by rw [← e1]; omega) (by omega)) (zero_ok k3) e1 e2 ?_ ?_ ?_ (by simp [dvStart]) ?_
  · simp only [dvStart, digD_len]; rw [← e1]; exact f1
  · simp only [dvStart, digD_len]; exact f2
  · simp only [dvStart, digD_len]; exact l1
  · simp only [dvStart, vplaces, digD_len]; unfold vplaces at p1; omega
theorem vplaces_bd {t : Tri} (hv : vmach t = true) : 1 ≤ (vplaces t).toNat ∧ (vplaces t).toNat ≤ 16 ∧ ((vplaces t).toNat : Int) = vplaces t ∧ pw t.a.base (vplaces t).toNat ≤ 1000000000001 ∧ 1 ≤ pw t.a.base (vplaces t).toNat := by
  obtain ⟨k1, k2, k3, e1, e2, f1, f2, l1, p0, p1⟩ := vmach_all hv
  obtain ⟨⟨b1, b2⟩, ⟨n1, n2⟩, -⟩ := vreg_iff.1 k1
  obtain ⟨-, ⟨n5, n6⟩, -⟩ := vreg_iff.1 k3
  have h1 : vplaces t ≤ t.s.digits.length := by unfold vplaces; omega
  have hm := pw_mono t.a.base b1 (vplaces t).toNat t.s.digits.length (by omega)
  rw [e2] at f2
  rw [← e1] at f2
  exact ⟨by omega, by omega, by omega, by omega, pw_pos _ b1 _⟩
end Go.Proofs.YtafnebpbfmbgiaaGreatDoor
