import Derived.Test.YtmnegfhigfipbaaK1
namespace Go.Proofs.Ytmnegfhigfipbaa
open Go.RowKit Go.Sort
theorem rowK {w w' : World} {base : Nat} {e : TypeId} {size : Nat} {v : Value} {n : Nat} {xs : List Value} (h : w.ownsRow base e size v n xs) (hb : ∀ g, v.ownBlock = some g → w'.heap[g]? = w.heap[g]?) : w'.ownsRow base e size v n xs := by
  refine ⟨h.1, ?_⟩
  rcases h.2 with hn | ⟨g, cap, cur, rfl, hbg, hg, rest⟩
  · exact .inl hn
  · exact .inr ⟨g, cap, cur, rfl, hbg, by rw [hb g rfl]; exact hg, rest⟩
/-- the slices of numbers of trial i: own rows in the blocks b .. hi - 1 -/
def Slot (w : World) (b hi : Nat) (xs : List Value) (p : Nat) : Prop := ∃ X n x ds, xs[p]? = some (.slice X n x) ∧ OwnI w b (.slice X n x) ds ∧ ds.length = n ∧ n ≤ 1048576 ∧ ∀ k, (Value.slice X n x).ownBlock = some k → k < hi
structure MS (w : World) (g n hi : Nat) (xs : List Value) : Prop where
  row : w.ownsRow g 62 7 (.slice (some ⟨g, 0, none⟩) n n) n xs
  s1 : ∀ i, i < n → Slot w (g + 1) hi xs (i * 7 + 1)
  s2 : ∀ i, i < n → Slot w (g + 1) hi xs (i * 7 + 3)
  s3 : ∀ i, i < n → Slot w (g + 1) hi xs (i * 7 + 5)
theorem Slot.set {w : World} {b hi : Nat} {xs : List Value} {p : Nat} (h : Slot w b hi xs p) {g j : Nat} (hj : j ≠ p) (hg : g < b) (u : Int) : Slot (w.setCell ⟨g, j, none⟩ (.int .i64 u)) b hi (xs.set j (.int .i64 u)) p := by
  obtain ⟨X, n, x, ds, h1, h2, h3, h4, h5⟩ := h
  exact ⟨X, n, x, ds, by rw [List.getElem?_set_ne hj]; exact h1, h2.setBelow hg _, h3, h4, h5⟩
theorem MS.int {w : World} {g n hi : Nat} {xs : List Value} (h : MS w g n hi xs) (j : Nat) (h1 : ∀ i, j ≠ i * 7 + 1) (h2 : ∀ i, j ≠ i * 7 + 3) (h3 : ∀ i, j ≠ i * 7 + 5) (u : Int) : MS (w.setCell ⟨g, j, none⟩ (.int .i64 u)) g n hi (xs.set j (.int .i64 u)) :=
  ⟨(h.row.stored j _).1, fun i hi => (h.s1 i hi).set (h1 i) (Nat.lt_succ_self _) u, fun i hi => (h.s2 i hi).set (h2 i) (Nat.lt_succ_self _) u, fun i hi => (h.s3 i hi).set (h3 i) (Nat.lt_succ_self _) u⟩
theorem Slot.marks {w w' : World} {b hi : Nat} {xs : List Value} {p : Nat} (h : Slot w b hi xs p) {P : Nat → Prop} (m : Marks P w w') : Slot w' b hi xs p := by
  obtain ⟨X, n, x, ds, h1, h2, h3, h4, h5⟩ := h
  obtain ⟨ds', l', o'⟩ := m.ownI h2
  exact ⟨X, n, x, ds', h1, o', l'.trans h3, h4, h5⟩
theorem MS.marks {w w' : World} {g n hi : Nat} {xs : List Value} (h : MS w g n hi xs) {P : Nat → Prop} (m : Marks P w w') (hP : ∀ k, P k → g < k) : MS w' g n hi xs :=
  ⟨rowK h.row (fun k hk => m.block (fun hp => by simp only [Value.ownBlock, Option.some.injEq] at hk; have := hP _ hp; omega)), fun i hi => (h.s1 i hi).marks m, fun i hi => (h.s2 i hi).marks m, fun i hi => (h.s3 i hi).marks m⟩
theorem OwnI.lt {w : World} {base : Nat} {v : Value} {ds : List Int} (h : OwnI w base v ds) : ∀ k, v.ownBlock = some k → base ≤ k ∧ k < w.heap.size := by
  intro k hk
  rcases h.2 with ⟨rfl, -⟩ | ⟨g, cap, cur, rfl, hb, hg, -⟩
  · simp [Value.ownBlock] at hk
  · simp only [Value.ownBlock, Option.some.injEq] at hk
    subst hk
    exact ⟨hb, (Array.getElem?_eq_some_iff.1 hg).1⟩
theorem OwnTS.ms {w W : World} {g n : Nat} {ts : List Tri} (h : OwnTS w g n ts) (hb : Below w.heap.size w W) (hs : ∀ t ∈ ts, t.a.digits.length ≤ 1048576 ∧ t.b.digits.length ≤ 1048576 ∧ t.s.digits.length ≤ 1048576) : ∃ xs, MS W g n w.heap.size xs := by
  obtain ⟨hl, xs, h1, h2⟩ := h
  refine ⟨xs, row_below h1 hb, fun i hi => ?_, fun i hi => ?_, fun i hi => ?_⟩
  all_goals
    obtain ⟨X1, x1, X2, x2, X3, x3, ⟨e0, e1, e2, e3, e4, e5, e6⟩, o1, o2, o3⟩ := h2 i (by omega)
    obtain ⟨l1, l2, l3⟩ := hs ts[i] (List.getElem_mem _)
  · exact ⟨X1, _, x1, _, e1, o1.below hb, rfl, l1, fun k hk => (o1.lt k hk).2⟩
  · exact ⟨X2, _, x2, _, e3, o2.below hb, rfl, l2, fun k hk => (o2.lt k hk).2⟩
  · exact ⟨X3, _, x3, _, e5, o3.below hb, rfl, l3, fun k hk => (o3.lt k hk).2⟩
theorem MS.stage {w : World} {g n hi : Nat} {xs : List Value} (h : MS w g n hi xs) {j p q : Nat} (hj : j < n) (hp : p = j * 7 ∧ q = j * 7 + 1 ∨ p = j * 7 + 2 ∧ q = j * 7 + 3 ∨ p = j * 7 + 4 ∧ q = j * 7 + 5) (hg : g < hi) (k : Int) :
    (∃ u, w.cell? ⟨g, p, none⟩ = some u) ∧ w.frozen? ⟨g, p, none⟩ = false ∧ ∃ X m x, w.cell? ⟨g, q, none⟩ = some (.slice X m x) ∧ m ≤ 1048576 ∧ ∀ kk : Int, 0 ≤ kk → kk ≤ 2305843009213693952 →
      Calls Try.prog 25 #[.slice X m x, .int .i64 kk] (w.setCell ⟨g, p, none⟩ (.int .i64 k)) fun e w' => e = .returned (.int .i64 (kk + m)) ∧ (∃ ys, MS w' g n hi ys) ∧ Marks (fun b => g ≤ b ∧ b < hi) w w' := by
  have M0 := h.int p (by omega) (by omega) (by omega) k
  have hs : Slot (w.setCell ⟨g, p, none⟩ (.int .i64 k)) (g + 1) hi (xs.set p (.int .i64 k)) q := by
    rcases hp with ⟨-, rfl⟩ | ⟨-, rfl⟩ | ⟨-, rfl⟩
    · exact M0.s1 j hj
    · exact M0.s2 j hj
    · exact M0.s3 j hj
  obtain ⟨X, m, x, ds, e1, o1, l1, b1, lt1⟩ := hs
  have hl := h.row.1
  have ho := o1.lt
  refine ⟨⟨xs[p]'(by omega), (h.row.cellAt p (by omega)).trans (List.getElem?_eq_getElem (by omega))⟩, h.row.frozenAt p, X, m, x, (h.row.cellAt q (by omega)).trans ((List.getElem?_set_ne (show p ≠ q by omega) (l := xs) (a := .int .i64 k)).symm.trans e1), b1, fun kk h0 h1 => ?_⟩
  refine (markInt64S_any (g + 1) X m x ds kk _ o1 l1 h0 (by omega)).mono fun e w' ⟨h2, h3, _⟩ => ?_
  have h4 : Marks (fun b => g + 1 ≤ b ∧ b < hi) (w.setCell ⟨g, p, none⟩ (.int .i64 k)) w' := h3.weaken fun kk hk => ⟨(ho kk hk).1, lt1 kk hk⟩
  exact ⟨h2, ⟨_, M0.marks h4 (fun kk hk => hk.1)⟩, ((Marks.refl w).step (P := fun b => g ≤ b ∧ b < hi) ⟨Nat.le_refl _, hg⟩ p k).trans (h4.weaken fun kk hk => ⟨by omega, hk.2⟩)⟩
set_option maxRecDepth 100000 in
set_option maxHeartbeats 3200000 in
theorem markTrialS_any (g n hi : Nat) (xs : List Value) (w : World) (h : MS w g n hi xs) (hg : g < hi) (hm : n ≤ 1048576) :
    Calls Try.prog 24 #[.slice (some ⟨g, 0, none⟩) n n, .int .i64 1] w fun e w' => ∃ k : Int, e = .returned (.int .i64 k) ∧ 0 ≤ k ∧ Marks (fun b => g ≤ b ∧ b < hi) w w' := by
  have HM := Lib.hid h; clear h
  go_enter Try.func24, Try.ntmps24
  go_wp2
  go_loopw [5, 1] (fun i kk wr => ∃ (j : Nat) (k : Int) (xs : List Value), j ≤ n ∧ i = .int .i64 j ∧ kk = .int .i64 k ∧ 1 ≤ k ∧ k ≤ 1 + j * 3145732 ∧ MS wr g n hi xs ∧ Marks (fun b => g ≤ b ∧ b < hi) w wr) (fun i _ _ => n - (intOf i).toNat)
  case atStart => exact ⟨0, 1, xs, Nat.zero_le _, rfl, rfl, by omega, by omega, HM.out, .refl _⟩
  case round =>
    obtain ⟨j, k, ys, hj, rfl, rfl, hk0, hk1, hms, hmk⟩ := hrel
    have HMK := Lib.hid hmk
    have HMS := Lib.hid hms
    clear hms hmk
    by_cases hjn : j < n
    · have hi0 : (0 : Int) ≤ (j : Int) := by omega
      have hi1 : (j : Int) < (n : Int) := by omega
      obtain ⟨⟨u0, k0⟩, f0, X1, n1, x1, c1, b1, K1⟩ := HMS.out.stage (p := j * 7) (q := j * 7 + 1) hjn (.inl ⟨rfl, rfl⟩) hg k
      have HK := Lib.hid K1; clear K1
      go_wp2_with fail
      refine (HK.out _ (by omega) (by omega)).mono ?_; rintro e w1 ⟨rfl, ⟨y1, m1⟩, mk1⟩
      have HMS1 := Lib.hid m1
      have HMK1 := Lib.hid (HMK.out.trans mk1)
      clear m1 mk1 HK k0 f0 c1
      obtain ⟨⟨u0, k0⟩, f0, X2, n2, x2, c1, b2, K1⟩ := HMS1.out.stage (p := j * 7 + 2) (q := j * 7 + 3) hjn (.inr (.inl ⟨rfl, rfl⟩)) hg (k + 1 + n1)
      have HK := Lib.hid K1; clear K1
      go_wp2_with fail
      refine (HK.out _ (by omega) (by omega)).mono ?_; rintro e w2 ⟨rfl, ⟨y2, m2⟩, mk2⟩
      have HMS2 := Lib.hid m2
      have HMK2 := Lib.hid (HMK1.out.trans mk2)
      clear m2 mk2 HK k0 f0 c1
      obtain ⟨⟨u0, k0⟩, f0, X3, n3, x3, c1, b3, K1⟩ := HMS2.out.stage (p := j * 7 + 4) (q := j * 7 + 5) hjn (.inr (.inr ⟨rfl, rfl⟩)) hg (k + 1 + n1 + 1 + n2)
      have HK := Lib.hid K1; clear K1
      go_wp2_with fail
      refine (HK.out _ (by omega) (by omega)).mono ?_; rintro e w3 ⟨rfl, ⟨y3, m3⟩, mk3⟩
      have HMS3 := Lib.hid m3
      have HMK3 := Lib.hid (HMK2.out.trans mk3)
      clear m3 mk3 HK k0 f0 c1
      obtain ⟨u6, k6⟩ := (row7 HMS3.out.row hjn).2.2.2.2.2.2
      have f6 := HMS3.out.row.frozenAt (j * 7 + 6)
      have HM6 := Lib.hid (HMS3.out.int (j * 7 + 6) (by omega) (by omega) (by omega) (k + 1 + n1 + 1 + n2 + 1 + n3))
      have HK6 := Lib.hid (HMK3.out.step (P := fun b => g ≤ b ∧ b < hi) ⟨Nat.le_refl _, hg⟩ (j * 7 + 6) (k + 1 + n1 + 1 + n2 + 1 + n3))
      go_wp2
      go_roundw
      case rel => exact ⟨j + 1, k + 1 + n1 + 1 + n2 + 1 + n3 + 1, _, by omega, by go_num, rfl, by omega, by omega, HM6.out, HK6.out⟩
      case measure => simp [intOf]; omega
    · go_wp2
      go_ret
      exact ⟨k, rfl, by omega, HMK.out⟩
end Go.Proofs.Ytmnegfhigfipbaa
