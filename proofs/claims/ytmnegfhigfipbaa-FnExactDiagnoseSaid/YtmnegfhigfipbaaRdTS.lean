import Derived.Test.YtmnegfhigfipbaaRdT
import Derived.Test.YtmnegfhigfipbaaR8
import Derived.Deep.Slices
namespace Go.Proofs.Ytmnegfhigfipbaa
open Go.RowKit Go.ChangeShapes Go.WideShapes Go.ChangeAt Go.Deep
section
variable {H : Type} {enc : TypeId × Value → H} {w : World} {base : Nat} {spare : Nat → Bool} {held : Bool} {fuel : Nat} {cs : List Value} {x : DataW H × List MemPlace}
theorem add_pos (p : Addr) (j : Nat) (h : j ≠ 0) : p.add j = ⟨p.block, p.off + j, none⟩ := by unfold Addr.add; rw [if_neg h]
set_option maxRecDepth 100000 in
theorem rd_trials (h : DataW.trod enc Try.prog w base spare held fuel 22 cs = some x) : ∃ A n c ts, cs = [.slice A n c] ∧ RL TriM 7 w A n ts ∧ n ≤ 9223372036854775807 ∧ ∀ t ∈ ts, SmallTri t := by
  rcases open_slice Try.underlying22 h with ⟨rfl, _⟩ | ⟨a, len, cap, m, n, D, Pl, rfl, hb, hl, hm, hmm, rfl, hx⟩
  · exact ⟨none, 0, 0, [], rfl, ⟨rfl, fun h => absurd h (by omega)⟩, by omega, fun t ht => by cases ht⟩
  · have hlm : len ≤ m := by rw [hmm]; split <;> omega
    have key : ∀ i, i < len → ∃ t : Tri, TriM w (a.add (i * 7)) t ∧ SmallTri t := by
      intro i hi
      obtain ⟨cs', h1, h2⟩ := hx i (by omega)
      rw [cellsLT] at h1
      obtain ⟨b1, A1, n1, k1, d1, b2, A2, n2, k2, d2, b3, A3, n3, k3, d3, cy, rfl, r1, r2, r3, m1, m2, m3⟩ := rd_ltrial h2
      obtain ⟨_, _, hc⟩ := World.cells?_some h1
      have q0 := hc 0 (by omega)
      have q1 := hc 1 (by omega)
      have q2 := hc 2 (by omega)
      have q3 := hc 3 (by omega)
      have q4 := hc 4 (by omega)
      have q5 := hc 5 (by omega)
      have q6 := hc 6 (by omega)
      rw [addr_add_zero] at q0
      rw [add_pos _ _ (by decide)] at q1 q2 q3 q4 q5 q6
      obtain rfl : d1.length = n1 := r1.1
      obtain rfl : d2.length = n2 := r2.1
      obtain rfl : d3.length = n3 := r3.1
      exact ⟨⟨⟨b1, d1⟩, ⟨b2, d2⟩, ⟨b3, d3⟩, cy⟩, ⟨⟨A1, k1, ⟨q0, q1⟩, r1⟩, ⟨A2, k2, ⟨q2, q3⟩, r2⟩, ⟨A3, k3, ⟨q4, q5⟩, r3⟩, q6⟩, m1, m2, m3⟩
    obtain ⟨T, hT⟩ := choose_lt key
    refine ⟨some a, len, cap, (List.range len).map T, rfl, ⟨by simp, fun hn => ⟨a, rfl, ?_, fun k hk => ?_⟩⟩, by simp only [maxLen] at hm; omega, fun t ht => ?_⟩
    · obtain ⟨⟨A1, c1, ⟨g, -⟩, -⟩, -⟩ := (hT 0 hn).1
      rw [Nat.zero_mul, addr_add_zero] at g
      exact World.block_lt_of_cell? w _ g
    · have hk' : k < len := by simpa using hk
      simpa using (hT k hk').1
    · obtain ⟨i, hi, rfl⟩ := List.mem_map.1 ht
      exact (hT i (List.mem_range.1 hi)).2
end
end Go.Proofs.Ytmnegfhigfipbaa
