import Derived.Test.YtcngeifkddhkmaaDoorR8
import Derived.Deep.RegionLaw
import Derived.Deep.AppendLies
namespace Go.Proofs.YtcngeifkddhkmaaDoor
open Go.RowKit Go.Sort
/-- a register under construction in block G -/
def SumAt (w : World) (G : Nat) (base : Int) (v : Value) (ds : List Int) : Prop := w.heap[G]? = some (.cells #[.int .i64 base, v] 26 (0, 0)) ∧ OwnI w (G + 1) v ds
theorem own_ne {w : World} {G : Nat} {v : Value} {ds : List Int} (h : OwnI w (G + 1) v ds) : ∀ k, v.ownBlock = some k → G + 1 ≤ k := by
  intro k hk
  rcases h.2 with ⟨rfl, _⟩ | ⟨g, cap, cur, rfl, hbg, _⟩
  · simp [Value.ownBlock] at hk
  · have : g = k := by simpa [Value.ownBlock] using hk
    omega
theorem SumAt.lt {w : World} {G : Nat} {base : Int} {v : Value} {ds : List Int} (h : SumAt w G base v ds) : G < w.heap.size := (Array.getElem?_eq_some_iff.1 h.1).1
theorem SumAt.far {w w1 : World} {G : Nat} {base : Int} {v : Value} {ds : List Int} {o : Obj} (h : SumAt w G base v ds) (hg : (w.alloc o).grownBy w1 v.ownBlock) :
    w1.heap[G]? = some (.cells #[.int .i64 base, v] 26 (0, 0)) ∧ w1.cell? ⟨G, 0, none⟩ = some (.int .i64 base) ∧ w1.cell? ⟨G, 1, none⟩ = some v ∧ w1.frozen? ⟨G, 1, none⟩ = false := by
  have h1 : w1.heap[G]? = some (.cells #[.int .i64 base, v] 26 (0, 0)) := by
    rw [hg.block G (by simp; have := h.lt; omega) (fun e => by have := own_ne h.2 G e.symm; omega), heap_alloc_old _ _ h.lt]; exact h.1
  exact ⟨h1, by rw [cell_of_row _ _ _ _ _ _ h1]; rfl, by rw [cell_of_row _ _ _ _ _ _ h1]; rfl, frozen_of_row _ _ _ _ _ h1⟩
theorem SumAt.cells {w : World} {G : Nat} {base : Int} {v : Value} {ds : List Int} (h : SumAt w G base v ds) : w.cell? ⟨G, 0, none⟩ = some (.int .i64 base) ∧ w.cell? ⟨G, 1, none⟩ = some v ∧ w.frozen? ⟨G, 1, none⟩ = false :=
  ⟨by rw [cell_of_row _ _ _ _ _ _ h.1]; rfl, by rw [cell_of_row _ _ _ _ _ _ h.1]; rfl, frozen_of_row _ _ _ _ _ h.1⟩
theorem SumAt.step {w w1 : World} {G : Nat} {base x : Int} {v v' : Value} {ds : List Int} {o : Obj} (h : SumAt w G base v ds) (hg : (w.alloc o).grownBy w1 v.ownBlock)
    (ho : w1.ownsRow (G + 1) 2 1 v' (ds.length + 1) (ds.map (Value.int .i64) ++ [.int .i64 x])) :
    SumAt (w1.setCell ⟨G, 1, none⟩ v') G base v' (ds ++ [x]) ∧ ∀ B, B ≤ G → Below B w (w1.setCell ⟨G, 1, none⟩ v') := by
  have hlt := h.lt
  refine ⟨⟨?_, ?_⟩, fun B hB => ?_⟩
  · rw [heap_setCell_same _ _ _ _ _ _ (h.far hg).1]; rfl
  · refine OwnI.setBelow ?_ (by simp) v'
    unfold OwnI; simpa using ho
  · refine Below.setCell ?_ (by exact hB) _
    exact ((Below.refl _ _).alloc (by omega) _).grown hg (by simp; omega) (fun k hk => by have := own_ne h.2 k hk; omega)
theorem OwnI.ri {w : World} {base n c : Nat} {A : Option Addr} {ds : List Int} (h : OwnI w base (.slice A n c) ds) : RI w A n ds := by
  obtain ⟨A', c', h1, h2, -⟩ := h.reads
  injection h1 with h1 h3 h4
  rw [h1, h3]; exact h2
theorem wrapI64 {n : Int} (h : -9223372036854775808 ≤ n ∧ n ≤ 9223372036854775807) : IntKind.i64.wrap n = n := by
  rw [IntKind.wrap_i64]; omega
theorem getD_of {ds : List Int} {k : Nat} (h : k < ds.length) : ds.getD k 0 = ds[k] := by simp [List.getD, List.getElem?_eq_getElem h]
end Go.Proofs.YtcngeifkddhkmaaDoor
