import Derived.Test.YtcngeifkddhkmaaDoorR8
namespace Go.Proofs.YtcngeifkddhkmaaDoor
open Go.RowKit Go.Sort
def lftT (left : Int) (t : Tri) : Int := lft3 left t.a.digits.length t.b.digits.length t.s.digits.length
def lftS : Int → List Tri → Int
  | left, [] => left
  | left, t :: ts => if lftT left t < 0 then -1 else lftS (lftT left t) ts
def szS (left : Int) (ts : List Tri) : Int := if left - ts.length < 0 then -1 else lftS (left - ts.length) ts
theorem lftT_bd (left : Int) (t : Tri) (h : -1 ≤ left) : -1 ≤ lftT left t ∧ lftT left t ≤ left := by
  unfold lftT lft3
  have b1 := lft_bd left t.a.digits.length h (by omega)
  have b2 := lft_bd _ t.b.digits.length b1.1 (by omega)
  have b3 := lft_bd _ t.s.digits.length b2.1 (by omega)
  split
  · omega
  · split <;> omega
theorem lftT_small {left : Int} {t : Tri} (hl : left ≤ 1048576) (h0 : -1 ≤ left) (h : ¬ lftT left t < 0) : t.a.digits.length ≤ 1048576 ∧ t.b.digits.length ≤ 1048576 ∧ t.s.digits.length ≤ 1048576 := by
  unfold lftT lft3 at h
  split at h
  · omega
  · rename_i k1
    split at h
    · omega
    · rename_i k2
      have b1 := lft_bd left t.a.digits.length h0 (by omega)
      have b2 := lft_bd _ t.b.digits.length b1.1 (by omega)
      unfold lft at h k1 k2 b1 b2
      refine ⟨?_, ?_, ?_⟩
      · split at k1 <;> omega
      · split at k2 <;> split at k2 <;> omega
      · split at h <;> split at h <;> split at h <;> omega
theorem lftS_small : ∀ (ts : List Tri) (left : Int), 0 ≤ left → left ≤ 1048576 → ¬ lftS left ts < 0 → ∀ t ∈ ts, t.a.digits.length ≤ 1048576 ∧ t.b.digits.length ≤ 1048576 ∧ t.s.digits.length ≤ 1048576
  | [], _, _, _, _ => fun t h => by cases h
  | t :: ts, left, h0, hl, h => by
    unfold lftS at h
    split at h
    · omega
    · rename_i k1
      have hb := lftT_bd left t (by omega)
      intro u hu
      rcases List.mem_cons.1 hu with rfl | hu
      · exact lftT_small hl (by omega) k1
      · exact lftS_small ts (lftT left t) (by omega) (by omega) h u hu
theorem szS_small {ts : List Tri} (h : ¬ szS 1048576 ts < 0) : ts.length ≤ 1048576 ∧ ∀ t ∈ ts, t.a.digits.length ≤ 1048576 ∧ t.b.digits.length ≤ 1048576 ∧ t.s.digits.length ≤ 1048576 := by
  unfold szS at h
  split at h
  · omega
  · exact ⟨by omega, lftS_small ts _ (by omega) (by omega) h⟩
theorem smallTri_of {t : Tri} (h : t.a.digits.length ≤ 1048576 ∧ t.b.digits.length ≤ 1048576 ∧ t.s.digits.length ≤ 1048576) : SmallTri t := by
  unfold SmallTri SmallReg; omega
end Go.Proofs.YtcngeifkddhkmaaDoor
