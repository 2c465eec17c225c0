import Derived.Test.YtmnegfhigfipbaaG8
import Derived.Test.YtmnegfhigfipbaaB2
namespace Go.Proofs.Ytmnegfhigfipbaa
open Go.RowKit Go.Sort
theorem tpF : TP 33 41 (.agg #[.int .i64 0, .int .i64 0]) 2 16 := ⟨Try.underlying33, by kernel_rfl, rfl, by decide⟩
theorem tpFF : TP 58 33 (.slice none 0 0) 1 24 := ⟨Try.underlying58, by kernel_rfl, rfl, by decide⟩
def fcells (fs : List Flt) : List Value := fs.flatMap (fun f => [Value.int .i64 f.kind, .int .i64 f.lever])
theorem fcells_len (fs : List Flt) : (fcells fs).length = fs.length * 2 := by
  induction fs with
  | nil => rfl
  | cons f fs ih => simp only [fcells, List.flatMap_cons, List.length_append, List.length_cons, List.length_nil] at ih ⊢; omega
theorem fcells_app (fs gs : List Flt) : fcells (fs ++ gs) = fcells fs ++ fcells gs := by simp [fcells]
theorem fcells_one (fs : List Flt) : ∀ u ∈ fcells fs, u.oneCell' = true := by
  intro u hu
  simp only [fcells, List.mem_flatMap, List.mem_cons, List.not_mem_nil, or_false] at hu
  obtain ⟨f, -, rfl | rfl⟩ := hu <;> rfl
theorem fcells_get (fs : List Flt) (k : Nat) (h : k < fs.length) : (fcells fs)[k * 2]? = some (.int .i64 fs[k].kind) ∧ (fcells fs)[k * 2 + 1]? = some (.int .i64 fs[k].lever) := by
  induction fs generalizing k with
  | nil => simp at h
  | cons f fs ih =>
    cases k with
    | zero => exact ⟨rfl, rfl⟩
    | succ k =>
      have h' : k < fs.length := by simpa using h
      obtain ⟨h1, h2⟩ := ih k h'
      refine ⟨?_, ?_⟩
      · rw [show (k + 1) * 2 = k * 2 + 1 + 1 by omega]; exact h1
      · rw [show (k + 1) * 2 + 1 = k * 2 + 1 + 1 + 1 by omega]; exact h2
theorem row_kept {w w' : World} {base : Nat} {e : TypeId} {size : Nat} {v : Value} {n : Nat} {xs : List Value} (h : w.ownsRow base e size v n xs) (hb : ∀ g, v.ownBlock = some g → w'.heap[g]? = w.heap[g]?) : w'.ownsRow base e size v n xs := by
  refine ⟨h.1, ?_⟩
  rcases h.2 with hn | ⟨g, cap, cur, rfl, hbg, hg, rest⟩
  · exact .inl hn
  · exact .inr ⟨g, cap, cur, rfl, hbg, by rw [hb g rfl]; exact hg, rest⟩
theorem row_mono {w : World} {base b' : Nat} {e : TypeId} {size : Nat} {v : Value} {n : Nat} {xs : List Value} (h : w.ownsRow base e size v n xs) (hb : b' ≤ base) : w.ownsRow b' e size v n xs := by
  refine ⟨h.1, ?_⟩
  rcases h.2 with hn | ⟨g, cap, cur, rfl, hbg, hg, rest⟩
  · exact .inl hn
  · exact .inr ⟨g, cap, cur, rfl, by omega, hg, rest⟩
/-- a list of faults in an own row at block g, which is not the row's -/
def Inner (w : World) (base : Nat) (row : Option Nat) (u : Value) (fs : List Flt) : Prop := ∃ g c, u = .slice (some ⟨g, 0, none⟩) fs.length c ∧ base ≤ g ∧ g < w.heap.size ∧ some g ≠ row ∧ w.ownsRow base 41 2 u fs.length (fcells fs)
theorem Inner.rl {w : World} {base : Nat} {row : Option Nat} {u : Value} {fs : List Flt} (h : Inner w base row u fs) : ∃ g c, u = .slice (some ⟨g, 0, none⟩) fs.length c ∧ RL FltM 2 w (some ⟨g, 0, none⟩) fs.length fs := by
  obtain ⟨g, c, rfl, h0, h1, h2, h3⟩ := h
  refine ⟨g, c, rfl, rfl, fun hn => ⟨_, rfl, h1, fun k hk => ?_⟩⟩
  obtain ⟨e1, e2⟩ := fcells_get fs k hk
  have f1 := h3.cells (g := g) rfl _ _ e1
  have f2 := h3.cells (g := g) rfl _ _ e2
  rw [add_zero_block] at f1 f2 ⊢
  exact ⟨f1, f2⟩
theorem Inner.kept {w w' : World} {base : Nat} {row row' : Option Nat} {u : Value} {fs : List Flt} (h : Inner w base row u fs) (hs : w.heap.size ≤ w'.heap.size) (hb : ∀ g, base ≤ g → g < w.heap.size → some g ≠ row → w'.heap[g]? = w.heap[g]? ∧ some g ≠ row') : Inner w' base row' u fs := by
  obtain ⟨g, c, rfl, h0, h1, h2, h3⟩ := h
  obtain ⟨b1, b2⟩ := hb g h0 h1 h2
  exact ⟨g, c, rfl, h0, Nat.lt_of_lt_of_le h1 hs, b2, row_kept h3 (fun k hk => by simp only [Value.ownBlock, Option.some.injEq] at hk; rw [← hk]; exact b1)⟩
/-- lists of faults in an own row of own rows -/
def Sets (w : World) (base : Nat) (v : Value) (L : List (List Flt)) : Prop := ∃ us : List Value, w.ownsRow base 33 1 v L.length us ∧ us.length = L.length ∧ ∀ (i : Nat) (h : i < L.length) (h' : i < us.length), Inner w base v.ownBlock us[i] L[i]
theorem Sets.below {w w' : World} {base : Nat} {v : Value} {L : List (List Flt)} (h : Sets w base v L) (hb : Below w.heap.size w w') : Sets w' base v L := by
  obtain ⟨us, h1, h2, h3⟩ := h
  refine ⟨us, ⟨h1.1, ?_⟩, h2, fun i hi hi' => (h3 i hi hi').kept hb.size (fun g _ hg hne => ⟨hb.block g hg, hne⟩)⟩
  rcases h1.2 with hn | ⟨g, cap, cur, rfl, hbg, hg, rest⟩
  · exact .inl hn
  · exact .inr ⟨g, cap, cur, rfl, hbg, by rw [hb.block g (Array.getElem?_eq_some_iff.1 hg).1]; exact hg, rest⟩
theorem own_lt {w : World} {base : Nat} {e : TypeId} {size : Nat} {v : Value} {n : Nat} {xs : List Value} (h : w.ownsRow base e size v n xs) : ∀ k, v.ownBlock = some k → base ≤ k ∧ k < w.heap.size := by
  intro k hk
  rcases h.2 with ⟨rfl, _⟩ | ⟨g, cap, cur, rfl, hbg, hg, _⟩
  · simp [Value.ownBlock] at hk
  · have : g = k := by simpa [Value.ownBlock] using hk
    subst this
    exact ⟨hbg, (Array.getElem?_eq_some_iff.1 hg).1⟩
theorem Sets.above {w w' : World} {base : Nat} {v : Value} {L : List (List Flt)} (h : Sets w base v L) (hs : w.heap.size ≤ w'.heap.size) (hb : ∀ g, base ≤ g → g < w.heap.size → w'.heap[g]? = w.heap[g]?) : Sets w' base v L := by
  obtain ⟨us, h1, h2, h3⟩ := h
  refine ⟨us, ⟨h1.1, ?_⟩, h2, fun i hi hi' => (h3 i hi hi').kept hs (fun g hb0 hg hne => ⟨hb g hb0 hg, hne⟩)⟩
  rcases h1.2 with hn | ⟨g, cap, cur, rfl, hbg, hg, rest⟩
  · exact .inl hn
  · exact .inr ⟨g, cap, cur, rfl, hbg, by rw [hb g hbg (Array.getElem?_eq_some_iff.1 hg).1]; exact hg, rest⟩
/-- one list more -/
theorem sets_push {wr w5 w6 : World} {B : Nat} {v v' : Value} {L : List (List Flt)} {us : List Value} {fs : List Flt} {g2 c2 : Nat} (hS : wr.ownsRow B 33 1 v L.length us) (hl : us.length = L.length)
    (hI : ∀ (i : Nat) (h : i < L.length) (h' : i < us.length), Inner wr B v.ownBlock us[i] L[i]) (hb : Below wr.heap.size wr w5) (hBz : B ≤ wr.heap.size) (hg1 : wr.heap.size ≤ g2) (hg2 : g2 < w5.heap.size)
    (hc : w5.ownsRow B 41 2 (.slice (some ⟨g2, 0, none⟩) fs.length c2) fs.length (fcells fs)) (ho : w6.ownsRow B 33 1 v' (L.length + 1) (us ++ [.slice (some ⟨g2, 0, none⟩) fs.length c2])) (hg : w5.grownBy w6 v.ownBlock)
    (hv : v'.ownBlock = v.ownBlock ∨ v'.ownBlock = some w5.heap.size) : Sets w6 B v' (L ++ [fs]) := by
  refine ⟨_, by simpa using ho, by simp [hl], fun i h h' => ?_⟩
  have hne2 : some g2 ≠ v.ownBlock := fun e => by have := (own_lt hS g2 e.symm).2; omega
  by_cases hi : i < L.length
  · rw [List.getElem_append_left (by omega), List.getElem_append_left hi]
    refine (hI i hi (by omega)).kept (Nat.le_trans hb.size hg.size) fun g _ hgl hne => ⟨?_, ?_⟩
    · rw [hg.block g (Nat.lt_of_lt_of_le hgl hb.size) hne, hb.block g hgl]
    · rcases hv with e | e
      · rw [e]; exact hne
      · rw [e]; intro e'; injection e' with e'; have := hb.size; omega
  · have : i = L.length := by simp at h; omega
    subst this
    rw [List.getElem_append_right (by omega), List.getElem_append_right (by omega)]
    simp only [hl, Nat.sub_self, List.getElem_cons_zero]
    refine ⟨g2, c2, rfl, by omega, Nat.lt_of_lt_of_le hg2 hg.size, ?_, row_kept hc (fun k hk => ?_)⟩
    · rcases hv with e | e
      · rw [e]; exact hne2
      · rw [e]; intro e'; injection e' with e'; omega
    · simp only [Value.ownBlock, Option.some.injEq] at hk
      rw [← hk]; exact hg.block g2 hg2 hne2
theorem mem_grownL {n : Nat} {l l' : List Flt} (h : l' ∈ grownL n l) : ∃ (q : Int) (k : Nat), l' = l ++ [⟨q, k⟩] ∧ 1 ≤ q ∧ q ≤ 3 ∧ nextL l ≤ k ∧ k < n := by
  simp only [grownL, List.mem_flatMap, List.mem_range'_1, grown3, List.mem_cons, List.not_mem_nil, or_false] at h
  obtain ⟨k, ⟨h1, h2⟩, h3⟩ := h
  rcases h3 with rfl | rfl | rfl
  · exact ⟨1, k, rfl, by omega, by omega, h1, by omega⟩
  · exact ⟨2, k, rfl, by omega, by omega, h1, by omega⟩
  · exact ⟨3, k, rfl, by omega, by omega, h1, by omega⟩
theorem nextL_last {l : List Flt} (h : 0 < l.length) : nextL l = (l[l.length - 1]'(by omega)).lever.toNat + 1 := by
  unfold nextL
  rw [List.getLast?_eq_getElem?, List.getElem?_eq_getElem (by omega)]
theorem fsets_ok (n : Nat) : ∀ (m : Nat) (l : List Flt), l ∈ fsets n m → GoodF n l ∧ Asc l ∧ l.length = m := by
  intro m
  induction m with
  | zero =>
    intro l h
    simp only [fsets, List.mem_cons, List.not_mem_nil, or_false] at h
    subst h
    exact ⟨fun f hf => (by cases hf), fun k hk => (by simp at hk), rfl⟩
  | succ m ih =>
    intro l' h
    simp only [fsets, List.mem_flatMap] at h
    obtain ⟨l, hl, hl'⟩ := h
    obtain ⟨g1, g2, g3⟩ := ih l hl
    obtain ⟨q, k, rfl, q1, q2, q3, q4⟩ := mem_grownL hl'
    refine ⟨fun f hf => ?_, fun i hi => ?_, by simp [g3]⟩
    · rcases List.mem_append.1 hf with h1 | h1
      · exact g1 f h1
      · simp only [List.mem_cons, List.not_mem_nil, or_false] at h1
        subst h1
        exact ⟨q1, q2, by simp, by simp; omega⟩
    · simp only [List.length_append, List.length_cons, List.length_nil] at hi
      by_cases hlast : i + 1 < l.length
      · rw [List.getElem_append_left (by omega), List.getElem_append_left hlast]; exact g2 i hlast
      · have hi' : i = l.length - 1 := by omega
        subst hi'
        have hpos : 0 < l.length := by omega
        rw [List.getElem_append_left (by omega), List.getElem_append_right (by omega)]
        have h0 := (g1 (l[l.length - 1]'(by omega)) (List.getElem_mem _)).2.2.1
        rw [nextL_last hpos] at q3
        simp only [show l.length - 1 + 1 - l.length = 0 by omega, List.getElem_cons_zero]
        omega
theorem grownL_len (n : Nat) (l : List Flt) : (grownL n l).length ≤ 3 * n := by
  unfold grownL
  have : ∀ (ks : List Nat), (ks.flatMap (grown3 l)).length = 3 * ks.length := by
    intro ks
    induction ks with
    | nil => rfl
    | cons k ks ih => simp only [List.flatMap_cons, List.length_append, ih, grown3, List.length_cons, List.length_nil]; omega
  rw [this, List.length_range']; omega
theorem flat_len (n : Nat) (S : List (List Flt)) : (S.flatMap (grownL n)).length ≤ 3 * n * S.length := by
  induction S with
  | nil => simp
  | cons l S ih =>
    have := grownL_len n l
    simp only [List.flatMap_cons, List.length_append, List.length_cons, Nat.mul_succ]; omega
theorem fsets_len (n m : Nat) : (fsets n (m + 1)).length ≤ 3 * n * (fsets n m).length := flat_len n _
end Go.Proofs.Ytmnegfhigfipbaa
