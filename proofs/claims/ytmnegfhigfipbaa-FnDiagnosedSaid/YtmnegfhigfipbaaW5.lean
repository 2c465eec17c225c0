import Derived.Test.YtmnegfhigfipbaaW4
import Derived.Test.YtmnegfhigfipbaaS3
import Derived.Test.YtmnegfhigfipbaaG10
namespace Go.Proofs.Ytmnegfhigfipbaa
open Go.RowKit Go.Sort
theorem tpT : TP 26 62 (.agg #[.int .i64 0, .slice none 0 0, .int .i64 0, .slice none 0 0, .int .i64 0, .slice none 0 0, .int .i64 0]) 7 104 := ⟨Try.underlying26, by kernel_rfl, rfl, by decide⟩
/-- digits in an own row that is not the row of the trials -/
def OwnD (w : World) (base : Nat) (row : Option Nat) (v : Value) (ds : List Int) : Prop := OwnI w base v ds ∧ ∀ k, v.ownBlock = some k → some k ≠ row ∧ k < w.heap.size
theorem OwnD.kept {w w' : World} {base : Nat} {row row' : Option Nat} {v : Value} {ds : List Int} (h : OwnD w base row v ds) (hs : w.heap.size ≤ w'.heap.size) (hb : ∀ g, base ≤ g → g < w.heap.size → some g ≠ row → w'.heap[g]? = w.heap[g]? ∧ some g ≠ row') : OwnD w' base row' v ds := by
  have hlo := ownI_lo h.1
  refine ⟨row_kept h.1 (fun g hg => ?_), fun k hk => ?_⟩
  · obtain ⟨h1, h2⟩ := h.2 g hg
    exact (hb g (hlo g hg) h2 h1).1
  · obtain ⟨h1, h2⟩ := h.2 k hk
    exact ⟨(hb k (hlo k hk) h2 h1).2, Nat.lt_of_lt_of_le h2 hs⟩
/-- trial i in the cells xs of a row -/
def TriP (w : World) (base : Nat) (row : Option Nat) (xs : List Value) (i : Nat) (t : Tri) : Prop := ∃ X1 x1 X2 x2 X3 x3, (xs[i * 7]? = some (.int .i64 t.a.base) ∧ xs[i * 7 + 1]? = some (.slice X1 t.a.digits.length x1) ∧ xs[i * 7 + 2]? = some (.int .i64 t.b.base) ∧ xs[i * 7 + 3]? = some (.slice X2 t.b.digits.length x2) ∧
    xs[i * 7 + 4]? = some (.int .i64 t.s.base) ∧ xs[i * 7 + 5]? = some (.slice X3 t.s.digits.length x3) ∧ xs[i * 7 + 6]? = some (.int .i64 t.carry)) ∧ OwnD w base row (.slice X1 t.a.digits.length x1) t.a.digits ∧ OwnD w base row (.slice X2 t.b.digits.length x2) t.b.digits ∧ OwnD w base row (.slice X3 t.s.digits.length x3) t.s.digits
theorem TriP.kept {w w' : World} {base : Nat} {row row' : Option Nat} {xs : List Value} {i : Nat} {t : Tri} (h : TriP w base row xs i t) (hs : w.heap.size ≤ w'.heap.size) (hb : ∀ g, base ≤ g → g < w.heap.size → some g ≠ row → w'.heap[g]? = w.heap[g]? ∧ some g ≠ row') : TriP w' base row' xs i t := by
  obtain ⟨X1, x1, X2, x2, X3, x3, h1, h2, h3, h4⟩ := h
  exact ⟨X1, x1, X2, x2, X3, x3, h1, h2.kept hs hb, h3.kept hs hb, h4.kept hs hb⟩
theorem TriP.app {w : World} {base : Nat} {row : Option Nat} {xs : List Value} {i : Nat} {t : Tri} (h : TriP w base row xs i t) (ys : List Value) : TriP w base row (xs ++ ys) i t := by
  obtain ⟨X1, x1, X2, x2, X3, x3, ⟨e0, e1, e2, e3, e4, e5, e6⟩, h2, h3, h4⟩ := h
  have H : ∀ {j : Nat} {u : Value}, xs[j]? = some u → (xs ++ ys)[j]? = some u := fun {j u} hj => by rw [List.getElem?_append_left (List.getElem?_eq_some_iff.1 hj).1]; exact hj
  exact ⟨X1, x1, X2, x2, X3, x3, ⟨H e0, H e1, H e2, H e3, H e4, H e5, H e6⟩, h2, h3, h4⟩
/-- trials in an own row -/
def PL (w : World) (base : Nat) (v : Value) (ts : List Tri) : Prop := ∃ xs, w.ownsRow base 62 7 v ts.length xs ∧ ∀ (i : Nat) (h : i < ts.length), TriP w base v.ownBlock xs i ts[i]
theorem PL.kept {w w' : World} {base : Nat} {v : Value} {ts : List Tri} (h : PL w base v ts) (hs : w.heap.size ≤ w'.heap.size) (hb : ∀ g, base ≤ g → g < w.heap.size → w'.heap[g]? = w.heap[g]?) : PL w' base v ts := by
  obtain ⟨xs, h1, h2⟩ := h
  have hlt := own_lt h1
  exact ⟨xs, row_kept h1 (fun g hg => hb g (hlt g hg).1 (hlt g hg).2), fun i hi => (h2 i hi).kept hs (fun g h3 h4 h5 => ⟨hb g h3 h4, h5⟩)⟩
theorem PL.below {w w' : World} {base : Nat} {v : Value} {ts : List Tri} (h : PL w base v ts) (hb : Below w.heap.size w w') : PL w' base v ts := h.kept hb.size (fun g _ hg => hb.block g hg)
theorem PL.grown {w w' : World} {base b : Nat} {v : Value} {ts : List Tri} (h : PL w base v ts) (hg : w.grownBy w' (some b)) (hb : b < base) : PL w' base v ts := h.kept hg.size (fun g h1 h2 => hg.block g h2 (fun e => by injection e with e; omega))
/-- the cells of a trial -/
def tcells (t : Tri) (X1 : Option Addr) (x1 : Nat) (X2 : Option Addr) (x2 : Nat) (X3 : Option Addr) (x3 : Nat) : List Value := [.int .i64 t.a.base, .slice X1 t.a.digits.length x1, .int .i64 t.b.base, .slice X2 t.b.digits.length x2, .int .i64 t.s.base, .slice X3 t.s.digits.length x3, .int .i64 t.carry]
theorem pl_push {w5 w6 : World} {base : Nat} {v v' : Value} {ts : List Tri} {t : Tri} {xs : List Value} {X1 X2 X3 : Option Addr} {x1 x2 x3 : Nat} (hS : w5.ownsRow base 62 7 v ts.length xs)
    (hI : ∀ (i : Nat) (h : i < ts.length), TriP w5 base v.ownBlock xs i ts[i]) (d1 : OwnD w5 base v.ownBlock (.slice X1 t.a.digits.length x1) t.a.digits) (d2 : OwnD w5 base v.ownBlock (.slice X2 t.b.digits.length x2) t.b.digits) (d3 : OwnD w5 base v.ownBlock (.slice X3 t.s.digits.length x3) t.s.digits)
    (ho : w6.ownsRow base 62 7 v' (ts.length + 1) (xs ++ tcells t X1 x1 X2 x2 X3 x3)) (hg : w5.grownBy w6 v.ownBlock) (hv : v'.ownBlock = v.ownBlock ∨ v'.ownBlock = some w5.heap.size) : PL w6 base v' (ts ++ [t]) := by
  have hk : ∀ g, base ≤ g → g < w5.heap.size → some g ≠ v.ownBlock → w6.heap[g]? = w5.heap[g]? ∧ some g ≠ v'.ownBlock := fun g _ hgl hne => ⟨hg.block g hgl hne, by
    rcases hv with e | e
    · rw [e]; exact hne
    · rw [e]; intro e'; injection e' with e'; omega⟩
  have hxl := hS.1
  refine ⟨_, by rw [List.length_append]; exact ho, fun i hi => ?_⟩
  by_cases hlt : i < ts.length
  · rw [List.getElem_append_left hlt]
    exact ((hI i hlt).kept hg.size hk).app _
  · have he : i = ts.length := by rw [List.length_append, List.length_cons, List.length_nil] at hi; omega
    subst he
    rw [List.getElem_append_right (Nat.le_refl _)]
    simp only [Nat.sub_self, List.getElem_cons_zero]
    have H : ∀ (j : Nat) (u : Value), (tcells t X1 x1 X2 x2 X3 x3)[j]? = some u → (xs ++ tcells t X1 x1 X2 x2 X3 x3)[ts.length * 7 + j]? = some u := fun j u hj => by
      rw [List.getElem?_append_right (by omega), show ts.length * 7 + j - xs.length = j by omega]; exact hj
    exact ⟨X1, x1, X2, x2, X3, x3, ⟨H 0 _ rfl, H 1 _ rfl, H 2 _ rfl, H 3 _ rfl, H 4 _ rfl, H 5 _ rfl, H 6 _ rfl⟩, d1.kept hg.size hk, d2.kept hg.size hk, d3.kept hg.size hk⟩
theorem PL.nil {w : World} {g base : Nat} (hg : w.heap[g]? = some (.cells #[] 62 (0, 0))) (hb : base ≤ g) : PL w base (.slice (some ⟨g, 0, none⟩) 0 0) [] :=
  ⟨[], own_lit hg hb rfl (by decide), fun i h => by simp at h⟩
theorem PL.rl {w : World} {base : Nat} {v : Value} {ts : List Tri} (h : PL w base v ts) : ∃ A c, v = .slice A ts.length c ∧ RL TriM 7 w A ts.length ts := by
  obtain ⟨xs, h1, h2⟩ := h
  rcases h1.2 with ⟨rfl, hn⟩ | ⟨g, cap, cur, rfl, hb, hg, -⟩
  · exact ⟨none, 0, by rw [hn], rfl, fun h => by omega⟩
  · have hc := h1.cells (g := g) rfl
    refine ⟨_, cap, rfl, rfl, fun hn => ⟨_, rfl, (Array.getElem?_eq_some_iff.1 hg).1, fun k hk => ?_⟩⟩
    obtain ⟨X1, x1, X2, x2, X3, x3, ⟨e0, e1, e2, e3, e4, e5, e6⟩, o1, o2, o3⟩ := h2 k hk
    have f0 := hc _ _ e0
    have f1 := hc _ _ e1
    have f2 := hc _ _ e2
    have f3 := hc _ _ e3
    have f4 := hc _ _ e4
    have f5 := hc _ _ e5
    have f6 := hc _ _ e6
    rw [add_zero_block] at f0 f1 f2 f3 f4 f5 f6 ⊢
    exact ⟨⟨X1, x1, ⟨f0, f1⟩, ownI_ri o1.1⟩, ⟨X2, x2, ⟨f2, f3⟩, ownI_ri o2.1⟩, ⟨X3, x3, ⟨f4, f5⟩, ownI_ri o3.1⟩, f6⟩
/-- a pair of registers without a sum -/
def PairOK (base : Int) (width : Nat) (t : Tri) : Prop := t.a.base = base ∧ DigB base width t.a.digits ∧ t.b.base = base ∧ DigB base width t.b.digits ∧ t.s = ⟨0, []⟩ ∧ t.carry = 0
theorem ownD_of {w : World} {base b0 : Nat} {row : Option Nat} {v : Value} {ds : List Int} (h : OwnI w b0 v ds) (hb : base ≤ b0) (hr : ∀ k, row = some k → k < b0) : OwnD w base row v ds :=
  ⟨h.mono hb, fun k hk => ⟨fun e => by have h1 := ownI_lo h k hk; have h2 := hr k e.symm; omega, (own_lt h k hk).2⟩⟩
theorem OwnD.nil (w : World) (base : Nat) (row : Option Nat) : OwnD w base row (.slice none 0 0) [] := ⟨OwnI.nil _ _, fun k hk => by simp [Value.ownBlock] at hk⟩
end Go.Proofs.Ytmnegfhigfipbaa
