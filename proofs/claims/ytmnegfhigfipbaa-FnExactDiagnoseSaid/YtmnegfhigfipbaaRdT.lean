import Derived.Test.YtmnegfhigfipbaaRd
namespace Go.Proofs.Ytmnegfhigfipbaa
open Go.RowKit Go.ChangeShapes Go.WideShapes Go.ChangeAt
section
variable {H : Type} {enc : TypeId × Value → H} {w : World} {base : Nat} {spare : Nat → Bool} {held : Bool} {fuel : Nat} {cs : List Value} {x : DataW H × List MemPlace}
theorem cellsLT : Try.prog.cellsOf 56 = 7 := by kernel_rfl
set_option maxRecDepth 100000 in
theorem rd_ltrial (h : DataW.trod enc Try.prog w base spare held fuel 56 cs = some x) : ∃ b1 A1 n1 c1 d1 b2 A2 n2 c2 d2 b3 A3 n3 c3 d3 cy, cs = [.int .i64 b1, .slice A1 n1 c1, .int .i64 b2, .slice A2 n2 c2, .int .i64 b3, .slice A3 n3 c3, .int .i64 cy] ∧
    RI w A1 n1 d1 ∧ RI w A2 n2 d2 ∧ RI w A3 n3 d3 ∧ n1 ≤ 9223372036854775807 ∧ n2 ≤ 9223372036854775807 ∧ n3 ≤ 9223372036854775807 := by
  obtain ⟨xs, m, _, _, hl, hxl, hf⟩ := DataW.trod_struct Try.underlying56 h
  rw [cellsLT] at hl
  match cs, hl with
  | [c0, c1, c2, c3, c4, c5, c6], _ =>
    obtain ⟨y0, hy0⟩ : ∃ y, xs[0]? = some y := ⟨_, List.getElem?_eq_getElem (by rw [hxl]; decide)⟩
    obtain ⟨y1, hy1⟩ : ∃ y, xs[1]? = some y := ⟨_, List.getElem?_eq_getElem (by rw [hxl]; decide)⟩
    obtain ⟨y2, hy2⟩ : ∃ y, xs[2]? = some y := ⟨_, List.getElem?_eq_getElem (by rw [hxl]; decide)⟩
    obtain ⟨y3, hy3⟩ : ∃ y, xs[3]? = some y := ⟨_, List.getElem?_eq_getElem (by rw [hxl]; decide)⟩
    have h0 : DataW.trod enc Try.prog w base spare held m 54 (([c0, c1, c2, c3, c4, c5, c6].drop 0).take (Try.prog.cellsOf 54)) = xs[0]? := hf 0 _ rfl
    have h1 : DataW.trod enc Try.prog w base spare held m 54 (([c0, c1, c2, c3, c4, c5, c6].drop 2).take (Try.prog.cellsOf 54)) = xs[1]? := hf 1 _ rfl
    have h2 : DataW.trod enc Try.prog w base spare held m 54 (([c0, c1, c2, c3, c4, c5, c6].drop 4).take (Try.prog.cellsOf 54)) = xs[2]? := hf 2 _ rfl
    have h3 : DataW.trod enc Try.prog w base spare held m 2 (([c0, c1, c2, c3, c4, c5, c6].drop 6).take (Try.prog.cellsOf 2)) = xs[3]? := hf 3 _ rfl
    simp only [cellsI64, cellsLR, List.drop_zero, List.drop_succ_cons, List.take_succ_cons, List.take_zero] at h0 h1 h2 h3
    rw [hy0] at h0
    rw [hy1] at h1
    rw [hy2] at h2
    rw [hy3] at h3
    obtain ⟨b1, A1, n1, k1, d1, e1, r1, m1, -⟩ := rd_lreg h0
    obtain ⟨b2, A2, n2, k2, d2, e2, r2, m2, -⟩ := rd_lreg h1
    obtain ⟨b3, A3, n3, k3, d3, e3, r3, m3, -⟩ := rd_lreg h2
    obtain ⟨cy, e4, -⟩ := rd_i64 h3
    simp only [List.cons.injEq, and_true] at e1 e2 e3 e4
    obtain ⟨rfl, rfl⟩ := e1
    obtain ⟨rfl, rfl⟩ := e2
    obtain ⟨rfl, rfl⟩ := e3
    subst e4
    exact ⟨b1, A1, n1, k1, d1, b2, A2, n2, k2, d2, b3, A3, n3, k3, d3, cy, rfl, r1, r2, r3, m1, m2, m3⟩
end
end Go.Proofs.Ytmnegfhigfipbaa
