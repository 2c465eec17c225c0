import Derived.Test.YtmnegfhigfipbaaS2
namespace Go.Proofs.Ytmnegfhigfipbaa
open Go.RowKit Go.Sort
theorem ownI_ri {w : World} {base n c : Nat} {A : Option Addr} {ds : List Int} (h : OwnI w base (.slice A n c) ds) : RI w A n ds := by
  obtain ⟨A', c', h1, h2, -⟩ := h.reads
  injection h1 with h1 h3 h4
  rw [h1, h3]; exact h2
theorem row_below {w w' : World} {base : Nat} {e : TypeId} {size : Nat} {v : Value} {n : Nat} {xs : List Value} (h : w.ownsRow base e size v n xs) (hb : Below w.heap.size w w') : w'.ownsRow base e size v n xs := by
  refine ⟨h.1, ?_⟩
  rcases h.2 with hn | ⟨g, cap, cur, rfl, hbg, hg, rest⟩
  · exact .inl hn
  · exact .inr ⟨g, cap, cur, rfl, hbg, by rw [hb.block g (Array.getElem?_eq_some_iff.1 hg).1]; exact hg, rest⟩
/-- trial i in the cells xs of an own row, its digits in own rows from block b on -/
def TriX (w : World) (b : Nat) (xs : List Value) (i : Nat) (t : Tri) : Prop := ∃ X1 x1 X2 x2 X3 x3, (xs[i * 7]? = some (.int .i64 t.a.base) ∧ xs[i * 7 + 1]? = some (.slice X1 t.a.digits.length x1) ∧ xs[i * 7 + 2]? = some (.int .i64 t.b.base) ∧ xs[i * 7 + 3]? = some (.slice X2 t.b.digits.length x2) ∧
    xs[i * 7 + 4]? = some (.int .i64 t.s.base) ∧ xs[i * 7 + 5]? = some (.slice X3 t.s.digits.length x3) ∧ xs[i * 7 + 6]? = some (.int .i64 t.carry)) ∧ OwnI w b (.slice X1 t.a.digits.length x1) t.a.digits ∧ OwnI w b (.slice X2 t.b.digits.length x2) t.b.digits ∧ OwnI w b (.slice X3 t.s.digits.length x3) t.s.digits
theorem TriX.below {w w' : World} {b : Nat} {xs : List Value} {i : Nat} {t : Tri} (h : TriX w b xs i t) (hb : Below w.heap.size w w') : TriX w' b xs i t := by
  obtain ⟨X1, x1, X2, x2, X3, x3, h1, h2, h3, h4⟩ := h
  exact ⟨X1, x1, X2, x2, X3, x3, h1, h2.below hb, h3.below hb, h4.below hb⟩
theorem TriX.setBelow {w : World} {b : Nat} {xs : List Value} {i : Nat} {t : Tri} (h : TriX w b xs i t) {a : Addr} (ha : a.block < b) (u : Value) : TriX (w.setCell a u) b xs i t := by
  obtain ⟨X1, x1, X2, x2, X3, x3, h1, h2, h3, h4⟩ := h
  exact ⟨X1, x1, X2, x2, X3, x3, h1, h2.setBelow ha u, h3.setBelow ha u, h4.setBelow ha u⟩
/-- trials in an own row at block g -/
def OwnTS (w : World) (g n : Nat) (ts : List Tri) : Prop := ts.length = n ∧ ∃ xs, w.ownsRow g 62 7 (.slice (some ⟨g, 0, none⟩) n n) n xs ∧ ∀ (i : Nat) (h : i < ts.length), TriX w (g + 1) xs i ts[i]
theorem OwnTS.below {w w' : World} {g n : Nat} {ts : List Tri} (h : OwnTS w g n ts) (hb : Below w.heap.size w w') : OwnTS w' g n ts := by
  obtain ⟨h1, xs, h2, h3⟩ := h
  exact ⟨h1, xs, row_below h2 hb, fun i hi => (h3 i hi).below hb⟩
theorem OwnTS.rl {w : World} {g n : Nat} {ts : List Tri} (h : OwnTS w g n ts) : RL TriM 7 w (some ⟨g, 0, none⟩) n ts := by
  obtain ⟨h1, xs, h2, h3⟩ := h
  have hc := h2.cells (g := g) rfl
  refine ⟨h1, fun hn => ⟨_, rfl, ?_, fun k hk => ?_⟩⟩
  · rcases h2.2 with ⟨h, -⟩ | ⟨g', cap, cur, e, hbg, hg, -⟩
    · cases h
    · injection e with e; injection e with e; injection e with e
      subst e
      exact (Array.getElem?_eq_some_iff.1 hg).1
  · obtain ⟨X1, x1, X2, x2, X3, x3, ⟨e0, e1, e2, e3, e4, e5, e6⟩, o1, o2, o3⟩ := h3 k hk
    have f0 := hc _ _ e0
    have f1 := hc _ _ e1
    have f2 := hc _ _ e2
    have f3 := hc _ _ e3
    have f4 := hc _ _ e4
    have f5 := hc _ _ e5
    have f6 := hc _ _ e6
    rw [add_zero_block] at f0 f1 f2 f3 f4 f5 f6 ⊢
    exact ⟨⟨X1, x1, ⟨f0, f1⟩, ownI_ri o1⟩, ⟨X2, x2, ⟨f2, f3⟩, ownI_ri o2⟩, ⟨X3, x3, ⟨f4, f5⟩, ownI_ri o3⟩, f6⟩
theorem row7 {w : World} {g n k : Nat} {T : TypeId} {xs : List Value} (h : w.ownsRow g T 7 (.slice (some ⟨g, 0, none⟩) n n) n xs) (hk : k < n) :
    (∃ u, w.cell? ⟨g, k * 7, none⟩ = some u) ∧ (∃ u, w.cell? ⟨g, k * 7 + 1, none⟩ = some u) ∧ (∃ u, w.cell? ⟨g, k * 7 + 2, none⟩ = some u) ∧ (∃ u, w.cell? ⟨g, k * 7 + 3, none⟩ = some u) ∧ (∃ u, w.cell? ⟨g, k * 7 + 4, none⟩ = some u) ∧ (∃ u, w.cell? ⟨g, k * 7 + 5, none⟩ = some u) ∧ (∃ u, w.cell? ⟨g, k * 7 + 6, none⟩ = some u) := by
  have hl := h.1
  have H : ∀ j, j < n * 7 → ∃ u, w.cell? ⟨g, j, none⟩ = some u := fun j hj => ⟨xs[j]'(by omega), (h.cellAt j (by omega)).trans (List.getElem?_eq_getElem (by omega))⟩
  exact ⟨H _ (by omega), H _ (by omega), H _ (by omega), H _ (by omega), H _ (by omega), H _ (by omega), H _ (by omega)⟩
def set7 (xs : List Value) (o : Nat) (v0 v1 v2 v3 v4 v5 v6 : Value) : List Value := ((((((xs.set o v0).set (o + 1) v1).set (o + 2) v2).set (o + 3) v3).set (o + 4) v4).set (o + 5) v5).set (o + 6) v6
theorem set7_ne {xs : List Value} {o i : Nat} {v0 v1 v2 v3 v4 v5 v6 : Value} (h : i < o) : (set7 xs o v0 v1 v2 v3 v4 v5 v6)[i]? = xs[i]? := by
  unfold set7
  rw [List.getElem?_set_ne (by omega), List.getElem?_set_ne (by omega), List.getElem?_set_ne (by omega), List.getElem?_set_ne (by omega), List.getElem?_set_ne (by omega), List.getElem?_set_ne (by omega), List.getElem?_set_ne (by omega)]
theorem set7_at {xs : List Value} {o : Nat} {v0 v1 v2 v3 v4 v5 v6 : Value} (h : o + 6 < xs.length) : (set7 xs o v0 v1 v2 v3 v4 v5 v6)[o]? = some v0 ∧ (set7 xs o v0 v1 v2 v3 v4 v5 v6)[o + 1]? = some v1 ∧ (set7 xs o v0 v1 v2 v3 v4 v5 v6)[o + 2]? = some v2 ∧ (set7 xs o v0 v1 v2 v3 v4 v5 v6)[o + 3]? = some v3 ∧
    (set7 xs o v0 v1 v2 v3 v4 v5 v6)[o + 4]? = some v4 ∧ (set7 xs o v0 v1 v2 v3 v4 v5 v6)[o + 5]? = some v5 ∧ (set7 xs o v0 v1 v2 v3 v4 v5 v6)[o + 6]? = some v6 := by
  unfold set7
  refine ⟨?_, ?_, ?_, ?_, ?_, ?_, ?_⟩ <;>
    (repeat rw [List.getElem?_set_ne (by omega)]) <;> rw [List.getElem?_set_self (by first | omega | (simp only [List.length_set]; omega))]
theorem stored7 {w : World} {g n : Nat} {T : TypeId} {xs : List Value} (h : w.ownsRow g T 7 (.slice (some ⟨g, 0, none⟩) n n) n xs) (o : Nat) (v0 v1 v2 v3 v4 v5 v6 : Value) :
    (((((((w.setCell ⟨g, o, none⟩ v0).setCell ⟨g, o + 1, none⟩ v1).setCell ⟨g, o + 2, none⟩ v2).setCell ⟨g, o + 3, none⟩ v3).setCell ⟨g, o + 4, none⟩ v4).setCell ⟨g, o + 5, none⟩ v5).setCell ⟨g, o + 6, none⟩ v6).ownsRow g T 7 (.slice (some ⟨g, 0, none⟩) n n) n (set7 xs o v0 v1 v2 v3 v4 v5 v6) :=
  ((((((((h.stored o v0).1.stored (o + 1) v1).1.stored (o + 2) v2).1.stored (o + 3) v3).1.stored (o + 4) v4).1.stored (o + 5) v5).1.stored (o + 6) v6)).1
theorem info_tri : (Try.prog.info? 62).map (fun i => (i.zero, i.size, i.bytes)) = some (some (.agg #[.int .i64 0, .slice none 0 0, .int .i64 0, .slice none 0 0, .int .i64 0, .slice none 0 0, .int .i64 0]), 7, 104) := by kernel_rfl
set_option maxRecDepth 100000 in
set_option maxHeartbeats 1600000 in
theorem toTrialS_any (A : Option Addr) (n c : Nat) (ts : List Tri) (w : World) (hr : RL TriM 7 w A n ts) (hs : ∀ t ∈ ts, t.a.digits.length ≤ 1048576 ∧ t.b.digits.length ≤ 1048576 ∧ t.s.digits.length ≤ 1048576) (hm : n ≤ 1048576) :
    Calls Try.prog 10 #[.slice A n c] w fun e w' => e = .returned (.slice (some ⟨w.heap.size, 0, none⟩) n n) ∧ OwnTS w' w.heap.size n ts ∧ Below w.heap.size w w' := by
  have HL := Lib.hid hr.1
  have HS := Lib.hid hs; clear hs
  obtain ⟨i0, hi, hz0, hz1, hz2⟩ := info_parts info_tri
  go_enter Try.func10, Try.ntmps10
  go_wp2_with (at_make; refine wpList_make_full _ rfl _ _ 26 rfl w.heap.size 62 i0 _ 7 Try.underlying26 hi hz0 hz1 _ _ _ _ n rfl rfl rfl rfl (by rw [hz2]; omega) (by unfold maxLen; omega) (Nat.le_refl _) ?_; intro w1 hown1 hg1)
  have hb1 : Below w.heap.size w w1 := (Below.refl _ _).grown hg1 (Nat.le_refl _) (by simp)
  clear hg1
  go_loopw [4] (fun i wr => ∃ (k : Nat) (xs : List Value), k ≤ n ∧ i = .int .i64 k ∧ wr.ownsRow w.heap.size 62 7 (.slice (some ⟨w.heap.size, 0, none⟩) n n) n xs ∧ (∀ (i : Nat) (h : i < ts.length), i < k → TriX wr (w.heap.size + 1) xs i ts[i]) ∧ Below w.heap.size w wr) (fun i _ => n - (intOf i).toNat)
  case atStart => exact ⟨0, _, Nat.zero_le _, rfl, hown1, fun i h h' => by omega, hb1⟩
  case round =>
    obtain ⟨k, xs, hk, rfl, hown, hx, hbr⟩ := hrel
    by_cases hkn : k < n
    · obtain ⟨ad, hA, hlt, hkl, htk⟩ := (hr.below steady_TriM hbr).at_ hkn
      obtain ⟨A1, c1, A2, c2, A3, c3, ⟨g1, g2, g3, g4, g5, g6, g7⟩, r1, r2, r3⟩ := htk.cells
      obtain ⟨s1, s2, s3⟩ := HS.out ts[k] (List.getElem_mem _)
      have hi0 : (0 : Int) ≤ (k : Int) := by omega
      have hi1 : (k : Int) < (n : Int) := by omega
      have KT := Lib.hid (toTrial_any ts[k].a.base ts[k].b.base ts[k].s.base ts[k].carry A1 A2 A3 _ _ _ c1 c2 c3 _ _ _ wr r1 r2 r3 s1 s2 s3)
      subst hA
      have HX := Lib.hid hx
      have HO := Lib.hid hown
      clear hx hown htk r1 r2 r3
      go_wp2_with (go_at_call 34; refine KT.out.mono ?_; rintro e w2 ⟨X1, x1, X2, x2, X3, x3, rfl, o1, o2, o3, hw2⟩; have hO2 := Lib.hid (row_below HO.out hw2); obtain ⟨⟨u0, k0⟩, ⟨u1, k1⟩, ⟨u2, k2⟩, ⟨u3, k3⟩, ⟨u4, k4⟩, ⟨u5, k5⟩, ⟨u6, k6⟩⟩ := row7 hO2.out hkn; have f0 := hO2.out.frozenAt (k * 7); have f1 := hO2.out.frozenAt (k * 7 + 1); have f2 := hO2.out.frozenAt (k * 7 + 2); have f3 := hO2.out.frozenAt (k * 7 + 3); have f4 := hO2.out.frozenAt (k * 7 + 4); have f5 := hO2.out.frozenAt (k * 7 + 5); have f6 := hO2.out.frozenAt (k * 7 + 6))
      have h7 := hO2.out.1
      have hst := stored7 hO2.out (k * 7) (.int .i64 ts[k].a.base) (.slice X1 ts[k].a.digits.length x1) (.int .i64 ts[k].b.base) (.slice X2 ts[k].b.digits.length x2) (.int .i64 ts[k].s.base) (.slice X3 ts[k].s.digits.length x3) (.int .i64 ts[k].carry)
      have hat := set7_at (xs := xs) (o := k * 7) (v0 := .int .i64 ts[k].a.base) (v1 := .slice X1 ts[k].a.digits.length x1) (v2 := .int .i64 ts[k].b.base) (v3 := .slice X2 ts[k].b.digits.length x2) (v4 := .int .i64 ts[k].s.base) (v5 := .slice X3 ts[k].s.digits.length x3) (v6 := .int .i64 ts[k].carry) (by omega)
      have hz : w.heap.size + 1 ≤ wr.heap.size := by
        rcases HO.out.2 with ⟨h, -⟩ | ⟨g', cap, cur, e, hbg, hg, -⟩
        · cases h
        · injection e with e; injection e with e; injection e with e
          subst e
          exact (Array.getElem?_eq_some_iff.1 hg).1
      have HNEW : Hid (TriX w2 (w.heap.size + 1) (set7 xs (k * 7) (.int .i64 ts[k].a.base) (.slice X1 ts[k].a.digits.length x1) (.int .i64 ts[k].b.base) (.slice X2 ts[k].b.digits.length x2) (.int .i64 ts[k].s.base) (.slice X3 ts[k].s.digits.length x3) (.int .i64 ts[k].carry)) k ts[k]) :=
        ⟨X1, x1, X2, x2, X3, x3, hat, o1.mono hz, o2.mono hz, o3.mono hz⟩
      have hall : ∀ (i : Nat) (h : i < ts.length), i < k + 1 → TriX w2 (w.heap.size + 1) (set7 xs (k * 7) (.int .i64 ts[k].a.base) (.slice X1 ts[k].a.digits.length x1) (.int .i64 ts[k].b.base) (.slice X2 ts[k].b.digits.length x2) (.int .i64 ts[k].s.base) (.slice X3 ts[k].s.digits.length x3) (.int .i64 ts[k].carry)) i ts[i] := by
        intro i h h'
        rcases Nat.lt_or_ge i k with hik | hik
        · obtain ⟨Y1, y1, Y2, y2, Y3, y3, hh, p1, p2, p3⟩ := (HX.out i h hik).below hw2
          refine ⟨Y1, y1, Y2, y2, Y3, y3, ?_, p1, p2, p3⟩
          rw [set7_ne (by omega), set7_ne (by omega), set7_ne (by omega), set7_ne (by omega), set7_ne (by omega), set7_ne (by omega), set7_ne (by omega)]
          exact hh
        · obtain rfl : i = k := by omega
          exact HNEW.out
      have HALL : Hid (∀ (i : Nat) (h : i < ts.length), i < k + 1 → TriX (((((((w2.setCell ⟨w.heap.size, k * 7, none⟩ (.int .i64 ts[k].a.base)).setCell ⟨w.heap.size, k * 7 + 1, none⟩ (.slice X1 ts[k].a.digits.length x1)).setCell ⟨w.heap.size, k * 7 + 2, none⟩ (.int .i64 ts[k].b.base)).setCell ⟨w.heap.size, k * 7 + 3, none⟩ (.slice X2 ts[k].b.digits.length x2)).setCell ⟨w.heap.size, k * 7 + 4, none⟩ (.int .i64 ts[k].s.base)).setCell ⟨w.heap.size, k * 7 + 5, none⟩ (.slice X3 ts[k].s.digits.length x3)).setCell ⟨w.heap.size, k * 7 + 6, none⟩ (.int .i64 ts[k].carry)) (w.heap.size + 1) (set7 xs (k * 7) (.int .i64 ts[k].a.base) (.slice X1 ts[k].a.digits.length x1) (.int .i64 ts[k].b.base) (.slice X2 ts[k].b.digits.length x2) (.int .i64 ts[k].s.base) (.slice X3 ts[k].s.digits.length x3) (.int .i64 ts[k].carry)) i ts[i]) :=
        fun i h h' => ((((((((hall i h h').setBelow (a := ⟨w.heap.size, k * 7, none⟩) (Nat.lt_succ_self _) _).setBelow (a := ⟨w.heap.size, k * 7 + 1, none⟩) (Nat.lt_succ_self _) _).setBelow (a := ⟨w.heap.size, k * 7 + 2, none⟩) (Nat.lt_succ_self _) _).setBelow (a := ⟨w.heap.size, k * 7 + 3, none⟩) (Nat.lt_succ_self _) _).setBelow (a := ⟨w.heap.size, k * 7 + 4, none⟩) (Nat.lt_succ_self _) _).setBelow (a := ⟨w.heap.size, k * 7 + 5, none⟩) (Nat.lt_succ_self _) _).setBelow (a := ⟨w.heap.size, k * 7 + 6, none⟩) (Nat.lt_succ_self _) _)
      have HBX := Lib.hid ((((((((hbr.trans (hw2.mono hbr.size)).setCell (p := ⟨w.heap.size, k * 7, none⟩) (Nat.le_refl _) (.int .i64 ts[k].a.base)).setCell (p := ⟨w.heap.size, k * 7 + 1, none⟩) (Nat.le_refl _) (.slice X1 ts[k].a.digits.length x1)).setCell (p := ⟨w.heap.size, k * 7 + 2, none⟩) (Nat.le_refl _) (.int .i64 ts[k].b.base)).setCell (p := ⟨w.heap.size, k * 7 + 3, none⟩) (Nat.le_refl _) (.slice X2 ts[k].b.digits.length x2)).setCell (p := ⟨w.heap.size, k * 7 + 4, none⟩) (Nat.le_refl _) (.int .i64 ts[k].s.base)).setCell (p := ⟨w.heap.size, k * 7 + 5, none⟩) (Nat.le_refl _) (.slice X3 ts[k].s.digits.length x3)).setCell (p := ⟨w.heap.size, k * 7 + 6, none⟩) (Nat.le_refl _) (.int .i64 ts[k].carry))
      have HST := Lib.hid hst; clear hst hat hall
      go_roundw
      case rel =>
        refine ⟨k + 1, _, by omega, by go_num, HST.out, HALL.out, HBX.out⟩
      case measure => simp [intOf]; omega
    · have HK : Hid (k = n) := by simp only [Hid]; omega
      have HFIN : Hid (OwnTS wr w.heap.size n ts) := ⟨HL.out, xs, hown, fun i h => hx i h (by have := HL.out; omega)⟩
      go_wp2
      go_ret
      exact ⟨rfl, HFIN.out, hbr⟩
end Go.Proofs.Ytmnegfhigfipbaa
