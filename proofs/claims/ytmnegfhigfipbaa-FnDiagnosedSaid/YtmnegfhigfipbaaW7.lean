import Derived.Test.YtmnegfhigfipbaaW6
import Derived.Test.YtmnegfhigfipbaaG7
namespace Go.Proofs.Ytmnegfhigfipbaa
open Go.RowKit Go.Sort
theorem OwnD.far {W : World} {base g j : Nat} {v : Value} {ds : List Int} (h : OwnD W base (some g) v ds) (u : Value) : OwnD (W.setCell ⟨g, j, none⟩ u) base (some g) v ds := by
  refine ⟨row_kept h.1 (fun k hk => ?_), fun k hk => ⟨(h.2 k hk).1, by have := (h.2 k hk).2; simp [World.setCell]; exact this⟩⟩
  exact heap_setCell_other _ _ _ _ (fun e => (h.2 k hk).1 (by rw [e]))
theorem TriP.far {W : World} {base g j : Nat} {xs : List Value} {i : Nat} {t : Tri} (h : TriP W base (some g) xs i t) (u : Value) : TriP (W.setCell ⟨g, j, none⟩ u) base (some g) xs i t := by
  obtain ⟨X1, x1, X2, x2, X3, x3, h1, h2, h3, h4⟩ := h
  exact ⟨X1, x1, X2, x2, X3, x3, h1, h2.far u, h3.far u, h4.far u⟩
abbrev st3 (W : World) (g o : Nat) (b : Int) (X : Option Addr) (m x : Nat) (cy : Int) : World := ((W.setCell ⟨g, o + 4, none⟩ (.int .i64 b)).setCell ⟨g, o + 5, none⟩ (.slice X m x)).setCell ⟨g, o + 6, none⟩ (.int .i64 cy)
theorem pl_store {W : World} {base g n c k : Nat} {ts : List Tri} (h : PL W base (.slice (some ⟨g, 0, none⟩) n c) ts) (hk : k < ts.length) {b cy : Int} {X : Option Addr} {x : Nat} {sd : List Int} (hd : OwnD W base (some g) (.slice X sd.length x) sd) :
    PL (st3 W g (k * 7) b X sd.length x cy) base (.slice (some ⟨g, 0, none⟩) n c) (ts.set k { ts[k] with s := ⟨b, sd⟩, carry := cy }) := by
  obtain ⟨xs, h1, h2⟩ := h
  have hxl := h1.1
  have hn : ts.length = n := by
    rcases h1.2 with ⟨e, -⟩ | ⟨g', cap, cur, e, -⟩
    · cases e
    · injection e with _ e _; exact e.symm
  have r1 := h1
  rw [hn] at r1
  have r2 := (((r1.stored (k * 7 + 4) (.int .i64 b)).1.stored (k * 7 + 5) (.slice X sd.length x)).1.stored (k * 7 + 6) (.int .i64 cy)).1
  rw [← hn] at r2
  refine ⟨_, by rw [List.length_set]; rw [hn] at r2 ⊢; exact r2, fun i hi => ?_⟩
  have hi' : i < ts.length := by rw [List.length_set] at hi; exact hi
  have hdd := ((hd.far (j := k * 7 + 4) (.int .i64 b)).far (j := k * 7 + 5) (.slice X sd.length x)).far (j := k * 7 + 6) (.int .i64 cy)
  obtain ⟨X1, x1, X2, x2, X3, x3, ⟨e0, e1, e2, e3, e4, e5, e6⟩, o1, o2, o3⟩ := (((h2 i hi').far (j := k * 7 + 4) (.int .i64 b)).far (j := k * 7 + 5) (.slice X sd.length x)).far (j := k * 7 + 6) (.int .i64 cy)
  by_cases hik : i = k
  · subst hik
    have hE : (ts.set i { ts[i] with s := ⟨b, sd⟩, carry := cy })[i] = { ts[i] with s := ⟨b, sd⟩, carry := cy } := by simp
    rw [hE]
    refine ⟨X1, x1, X2, x2, X, x, ⟨?_, ?_, ?_, ?_, ?_, ?_, ?_⟩, o1, o2, hdd⟩
    · rw [List.getElem?_set_ne (by omega), List.getElem?_set_ne (by omega), List.getElem?_set_ne (by omega)]; exact e0
    · rw [List.getElem?_set_ne (by omega), List.getElem?_set_ne (by omega), List.getElem?_set_ne (by omega)]; exact e1
    · rw [List.getElem?_set_ne (by omega), List.getElem?_set_ne (by omega), List.getElem?_set_ne (by omega)]; exact e2
    · rw [List.getElem?_set_ne (by omega), List.getElem?_set_ne (by omega), List.getElem?_set_ne (by omega)]; exact e3
    · rw [List.getElem?_set_ne (by omega), List.getElem?_set_ne (by omega), List.getElem?_set_self (by omega)]
    · rw [List.getElem?_set_ne (by omega), List.getElem?_set_self (by rw [List.length_set]; omega)]
    · rw [List.getElem?_set_self (by rw [List.length_set, List.length_set]; omega)]
  · have hE : (ts.set k { ts[k] with s := ⟨b, sd⟩, carry := cy })[i] = ts[i] := by rw [List.getElem_set_ne (by omega)]
    rw [hE]
    have H : ∀ j, j < 7 → (((xs.set (k * 7 + 4) (.int .i64 b)).set (k * 7 + 5) (.slice X sd.length x)).set (k * 7 + 6) (.int .i64 cy))[i * 7 + j]? = xs[i * 7 + j]? := fun j hj => by
      rw [List.getElem?_set_ne (by omega), List.getElem?_set_ne (by omega), List.getElem?_set_ne (by omega)]
    exact ⟨X1, x1, X2, x2, X3, x3, ⟨(H 0 (by omega)).trans e0, (H 1 (by omega)).trans e1, (H 2 (by omega)).trans e2, (H 3 (by omega)).trans e3, (H 4 (by omega)).trans e4, (H 5 (by omega)).trans e5, (H 6 (by omega)).trans e6⟩, o1, o2, o3⟩
theorem st3_below {W a : World} {B g : Nat} (h : Below B a W) (hg : B ≤ g) (o : Nat) (b : Int) (X : Option Addr) (m x : Nat) (cy : Int) : Below B a (st3 W g o b X m x cy) :=
  ((h.setCell (p := ⟨g, o + 4, none⟩) hg _).setCell (p := ⟨g, o + 5, none⟩) hg _).setCell (p := ⟨g, o + 6, none⟩) hg _
/-- a pair of registers of a base and a width -/
def WeakOK (base : Int) (width : Nat) (t : Tri) : Prop := t.a.base = base ∧ DigB base width t.a.digits ∧ t.b.base = base ∧ DigB base width t.b.digits ∧ t.s.digits.length ≤ 16
end Go.Proofs.Ytmnegfhigfipbaa
