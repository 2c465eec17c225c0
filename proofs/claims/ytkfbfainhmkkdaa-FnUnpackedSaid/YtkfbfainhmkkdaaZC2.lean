/- Part 2: lemmas and contracts of the claim's functions. -/
import Derived.Test.YtkfbfainhmkkdaaZC1
import Derived.Deep.RegionHeld3
import Derived.Deep.DeepCutAuto
namespace Go.Proofs.Ytkfbfainhmkkdaa
open Go.RowKit Go.Sort
theorem box7 {w0 w : World} {m : List Ent} {g : Nat} {v0 v1 v2 v3 v4 v5 v6 : Value} {T : TypeId} (h : Kn w0 (.blk g [v0, v1, v2, v3, v4, v5, v6] T :: m) w) :
    w.cell? ⟨g, 0, none⟩ = some v0 ∧ w.cell? ⟨g, 1, none⟩ = some v1 ∧ w.cell? ⟨g, 2, none⟩ = some v2 ∧ w.cell? ⟨g, 3, none⟩ = some v3 ∧ w.cell? ⟨g, 4, none⟩ = some v4 ∧ w.cell? ⟨g, 5, none⟩ = some v5 ∧ w.cell? ⟨g, 6, none⟩ = some v6 :=
  ⟨h.blkAt.1 0, h.blkAt.1 1, h.blkAt.1 2, h.blkAt.1 3, h.blkAt.1 4, h.blkAt.1 5, h.blkAt.1 6⟩
/-- the machine's own numbers -/
def MRows (t : Tri) (A1 : Option Addr) (c1 : Nat) (A2 : Option Addr) (c2 : Nat) (A3 : Option Addr) (c3 : Nat) : List Ent := [rowI A3 c3 t.s.digits, rowI A2 c2 t.b.digits, rowI A1 c1 t.a.digits]
structure Sized (t : Tri) : Prop where
  a0 : 0 < t.a.digits.length
  b0 : 0 < t.b.digits.length
  s0 : 0 < t.s.digits.length
  a : t.a.digits.length ≤ 16
  b : t.b.digits.length ≤ 16
  s : t.s.digits.length ≤ 16
set_option maxRecDepth 100000 in
set_option maxHeartbeats 1600000 in
theorem copiedM_any (t : Tri) (A1 A2 A3 : Option Addr) (c1 c2 c3 : Nat) (w : World) (r1 : RI w A1 t.a.digits.length t.a.digits) (r2 : RI w A2 t.b.digits.length t.b.digits) (r3 : RI w A3 t.s.digits.length t.s.digits) (hz : Sized t) :
    Calls Try.prog 131 #[.agg #[.int .i64 t.a.base, .slice A1 t.a.digits.length c1, .int .i64 t.b.base, .slice A2 t.b.digits.length c2, .int .i64 t.s.base, .slice A3 t.s.digits.length c3, .int .i64 t.carry]] w fun e w' => ∃ A1 c1 A2 c2 A3 c3, e = .returned (.agg #[.int .i64 t.a.base, .slice A1 t.a.digits.length c1, .int .i64 t.b.base, .slice A2 t.b.digits.length c2, .int .i64 t.s.base, .slice A3 t.s.digits.length c3, .int .i64 t.carry]) ∧ Kn w [rowI A3 c3 t.s.digits, rowI A2 c2 t.b.digits, rowI A1 c1 t.a.digits] w' := by
  have K1 := Lib.hid (fun W (hW : Below w.heap.size w W) => copiedR_any t.a.base A1 t.a.digits.length c1 t.a.digits W (r1.below hW) hz.a0 (by have := hz.a; omega))
  have K2 := Lib.hid (fun W (hW : Below w.heap.size w W) => copiedR_any t.b.base A2 t.b.digits.length c2 t.b.digits W (r2.below hW) hz.b0 (by have := hz.b; omega))
  have K3 := Lib.hid (fun W (hW : Below w.heap.size w W) => copiedR_any t.s.base A3 t.s.digits.length c3 t.s.digits W (r3.below hW) hz.s0 (by have := hz.s; omega))
  clear r1 r2 r3 hz
  go_enter Try.func131, Try.ntmps131
  go_wp2_with (first | (refine wpList.kn ((Kn.nil w).al [.int .i64 t.a.base, .slice A1 t.a.digits.length c1, .int .i64 t.b.base, .slice A2 t.b.digits.length c2, .int .i64 t.s.base, .slice A3 t.s.digits.length c3, .int .i64 t.carry] 28) ?_; intro w1 hK1))
  have hK2 := hK1.al [.int .i64 0, .slice none 0 0, .int .i64 0, .slice none 0 0, .int .i64 0, .slice none 0 0, .int .i64 0] 28
  generalize w1.alloc (.cells #[.int .i64 0, .slice none 0 0, .int .i64 0, .slice none 0 0, .int .i64 0, .slice none 0 0, .int .i64 0] 28) = w2 at hK2 ⊢
  have HG := Lib.hid (box7 hK2.drew.drop)
  go_region_held3 (fun W => W.cell? ⟨w.heap.size, 0, none⟩ = some (.int .i64 t.a.base) ∧ W.cell? ⟨w.heap.size, 1, none⟩ = some (.slice A1 t.a.digits.length c1) ∧ W.cell? ⟨w.heap.size, 2, none⟩ = some (.int .i64 t.b.base) ∧ W.cell? ⟨w.heap.size, 3, none⟩ = some (.slice A2 t.b.digits.length c2) ∧ W.cell? ⟨w.heap.size, 4, none⟩ = some (.int .i64 t.s.base) ∧ W.cell? ⟨w.heap.size, 5, none⟩ = some (.slice A3 t.s.digits.length c3) ∧ W.cell? ⟨w.heap.size, 6, none⟩ = some (.int .i64 t.carry))
    (first | with_reducible exact HG.out | with_reducible exact HG2.out | exact HG.out) (first
    | (go_at_call 153; with_reducible refine (K1.out _ hK2.drew.below).mono ?_; rintro e w4 ⟨B1, e1, rfl, hK⟩; have hK4 := hK2.drew.join hK; clear HG; have HG := Lib.hid (box7 hK4.drop.drop))
    | (go_at_call 153; with_reducible refine (K2.out _ hK4.below).mono ?_; rintro e w5 ⟨B2, e2, rfl, hK⟩; have hK5 := hK4.join hK; clear HG; have HG := Lib.hid (box7 hK5.drop.drop.drop))
    | (go_at_call 153; with_reducible refine (K3.out _ hK5.below).mono ?_; rintro e w6 ⟨B3, e3, rfl, hK⟩; have hK6 := hK5.join hK; clear HG; have HG := Lib.hid (box7 hK6.drop.drop.drop.drop); have hK7 := ((((((hK6.sw3.st 0 (.int .i64 t.a.base)).st 1 (.slice B1 (t.a.digits).length e1)).st 2 (.int .i64 t.b.base)).st 3 (.slice B2 (t.b.digits).length e2)).st 4 (.int .i64 t.s.base)).st 5 (.slice B3 (t.s.digits).length e3)).st 6 (.int .i64 t.carry); have HG2 := Lib.hid (box7 hK7.drop.drop.drop.drop); obtain ⟨g1, f1, l1⟩ := hK6.drop.drop.drop.blkAt))
  all_goals
    go_wp2_with fail
    refine bodyPost_ret (v := .agg #[.int .i64 t.a.base, .slice B1 (t.a.digits).length e1, .int .i64 t.b.base, .slice B2 (t.b.digits).length e2, .int .i64 t.s.base, .slice B3 (t.s.digits).length e3, .int .i64 t.carry]) (by simp [results, Try.results131, go_sem, g1]) rfl ⟨B1, e1, B2, e2, B3, e3, rfl, ?_⟩
    exact hK7.drop.drop3
/-- a machine on which everything is 0 -/
def clrT (t : Tri) : Tri := ⟨⟨t.a.base, digD t.a.base t.a.digits.length 0⟩, ⟨t.b.base, digD t.b.base t.b.digits.length 0⟩, ⟨t.s.base, digD t.s.base t.s.digits.length 0⟩, 0⟩
end Go.Proofs.Ytkfbfainhmkkdaa

namespace Go.Proofs.Ytkfbfainhmkkdaa
open Go.RowKit
section
variable {w0 w w' : World} {m : List Ent} {e : Ent}
theorem Kn.get (h : Kn w0 m w) (i : Nat) {e : Ent} (hi : m[i]? = some e) : e.holds w := h.ents e (List.mem_of_getElem? hi)
/-- a thing of the list, by its place, comes to the front -/
theorem Kn.front (h : Kn w0 m w) (i : Nat) {e : Ent} (hi : m[i]? = some e) : Kn w0 (e :: m.eraseIdx i) w := by
  refine h.perm ?_
  induction m generalizing i with
  | nil => simp at hi
  | cons a m ih =>
    cases i with
    | zero => simp at hi; subst hi; simp
    | succ i =>
      simp only [List.getElem?_cons_succ] at hi
      simp only [List.eraseIdx_cons_succ]
      have hp : m.Perm (e :: m.eraseIdx i) := by
        clear ih h
        induction m generalizing i with
        | nil => simp at hi
        | cons b m ih =>
          cases i with
          | zero => simp at hi; subst hi; simp
          | succ i =>
            simp only [List.getElem?_cons_succ] at hi
            exact ((ih i hi).cons b).trans (.swap _ _ _)
      exact (hp.cons a).trans (.swap _ _ _)
/-- some things are forgotten -/
theorem Kn.only (h : Kn w0 m w) {m' : List Ent} (hs : m'.Sublist m) : Kn w0 m' w :=
  ⟨h.below, fun x hx => h.ents x (hs.subset hx), fun x hx => h.own x (hs.subset hx), h.apart.sublist hs⟩
/-- blocks of different places are different ones -/
theorem Kn.ne (h : Kn w0 m w) (i j : Nat) {g g' : Nat} {l l' : List Value} {T T' : TypeId} (hi : m[i]? = some (.blk g l T)) (hj : m[j]? = some (.blk g' l' T')) (hne : i ≠ j) : g ≠ g' := by
  rintro rfl
  obtain ⟨hi1, hi2⟩ := List.getElem?_eq_some_iff.1 hi
  obtain ⟨hj1, hj2⟩ := List.getElem?_eq_some_iff.1 hj
  have hp := List.pairwise_iff_getElem.1 h.apart
  rcases Nat.lt_or_gt_of_ne hne with h3 | h3
  · exact hp i j hi1 hj1 h3 g (by rw [hi2]; exact rfl) (by rw [hj2]; exact rfl)
  · exact hp j i hj1 hi1 h3 g (by rw [hj2]; exact rfl) (by rw [hi2]; exact rfl)
/-- some things, by their places and in a new order, and all behind the first n -/
theorem Kn.sel (h : Kn w0 m w) (is : List Nat) (n : Nat) (h1 : is.Nodup) (h2 : ∀ i ∈ is, i < n) : Kn w0 (is.filterMap (fun i => m[i]?) ++ m.drop n) w := by
  have hsub : ∀ x ∈ is.filterMap (fun i => m[i]?) ++ m.drop n, x ∈ m := fun x hx => by
    rcases List.mem_append.1 hx with hx | hx
    · obtain ⟨i, -, hi⟩ := List.mem_filterMap.1 hx
      exact List.mem_of_getElem? hi
    · exact List.mem_of_mem_drop hx
  have hR : ∀ (i j : Nat) (a b : Ent), m[i]? = some a → m[j]? = some b → i ≠ j → ∀ k, a.fp k → ¬ b.fp k := fun i j a b hi hj hne k h1 h2 => by
    obtain ⟨hi1, hi2⟩ := List.getElem?_eq_some_iff.1 hi
    obtain ⟨hj1, hj2⟩ := List.getElem?_eq_some_iff.1 hj
    have hp := List.pairwise_iff_getElem.1 h.apart
    rcases Nat.lt_or_gt_of_ne hne with h3 | h3
    · exact hp i j hi1 hj1 h3 k (by rw [hi2]; exact h1) (by rw [hj2]; exact h2)
    · exact hp j i hj1 hi1 h3 k (by rw [hj2]; exact h2) (by rw [hi2]; exact h1)
  refine ⟨h.below, fun x hx => h.ents x (hsub x hx), fun x hx => h.own x (hsub x hx), List.pairwise_append.2 ⟨?_, h.apart.sublist (List.drop_sublist _ _), fun a ha b hb => ?_⟩⟩
  · refine List.pairwise_filterMap.2 (h1.imp ?_)
    intro i j hne a ha b hb
    exact hR i j a b ha hb hne
  · obtain ⟨i, hi, hia⟩ := List.mem_filterMap.1 ha
    obtain ⟨j, hj⟩ := List.getElem?_of_mem hb
    rw [List.getElem?_drop] at hj
    exact hR i (n + j) a b hia hj (by have := h2 i hi; omega)
/-- a store into a row that is owned -/
theorem Kn.rowSt {g c n size : Nat} {t : TypeId} {xs : List Value} (h : Kn w0 (.row (.slice (some ⟨g, 0, none⟩) n c) t size n xs :: m) w) (j : Nat) (v : Value) :
    Kn w0 (.row (.slice (some ⟨g, 0, none⟩) n c) t size n (xs.set j v) :: m) (w.setCell ⟨g, j, none⟩ v) := by
  refine h.upd ⟨rfl, rfl, rfl, by simp [World.setCell], fun k _ hk => Below.heap_setCell _ _ _ _ (fun e => hk (by subst e; rfl))⟩ ?_ (fun k hk => .inl hk)
  have h0 : w.ownsRow 0 t size (.slice (some ⟨g, 0, none⟩) n c) n xs := h.at0
  rcases h0.2 with ⟨h1, h2⟩ | ⟨g', cap, cur, hv, hb, hg, hn, hc, hs, ht⟩
  · cases h1
  injection hv with hv hv2 hv3
  injection hv with hv
  injection hv with hv hv4
  subst hv; subst hv3
  refine ⟨by rw [List.length_set]; exact h0.1, .inr ⟨g, c, cur.setIfInBounds j v, rfl, hb, ?_, hn, hc, by simpa using hs, ?_⟩⟩
  · show (w.setCell ⟨g, j, none⟩ v).heap[g]? = some (.cells (cur.setIfInBounds j v) t (0, 0))
    simp [World.setCell, Array.getElem?_modify, hg]
  · rw [Array.toList_setIfInBounds, List.take_set, ht]
theorem Kn.rowCell {g c n size : Nat} {t : TypeId} {xs : List Value} (h : Kn w0 (.row (.slice (some ⟨g, 0, none⟩) n c) t size n xs :: m) w) {j : Nat} {u : Value} (hu : xs[j]? = some u) :
    w.cell? ⟨g, j, none⟩ = some u ∧ w.frozen? ⟨g, j, none⟩ = false := by
  have h0 : w.ownsRow 0 t size (.slice (some ⟨g, 0, none⟩) n c) n xs := h.at0
  refine ⟨by have := h0.cells (g := g) rfl j u hu; rwa [add_zero_block] at this, ?_⟩
  rcases h0.2 with ⟨h1, h2⟩ | ⟨g', cap, cur, hv, hb, hg, -⟩
  · cases h1
  injection hv with hv hv2 hv3
  injection hv with hv
  injection hv with hv hv4
  subst hv
  simp [World.frozen?, hg]
theorem Kn.rowForm {v : Value} {n size : Nat} {t : TypeId} {xs : List Value} (h : Kn w0 (.row v t size n xs :: m) w) (hn : 0 < n) : ∃ g c, v = .slice (some ⟨g, 0, none⟩) n c := by
  have h0 : w.ownsRow 0 t size v n xs := h.at0
  rcases h0.2 with ⟨h1, h2⟩ | ⟨g', cap, cur, hv, -⟩
  · omega
  · exact ⟨_, _, hv⟩
end
theorem bodyPost.kn {P : Program} {f : Func} {R : Ending → World → Prop} {x : Exit} {a : Act} {w0 w : World} {m : List Ent} (h : Kn w0 m w) (k : ∀ W, Kn w0 m W → bodyPost P f R x a W) : bodyPost P f R x a w := k w h
theorem Code.wp.kn {P : Program} {c : Code} {Q : Exit → Act → World → Prop} {a : Act} {w0 w : World} {m : List Ent} (h : Kn w0 m w) (k : ∀ W, Kn w0 m W → c.wp P Q a W) : c.wp P Q a w := k w h
/-- a store into numbers that are owned -/
theorem Kn.setI {w0 w : World} {m : List Ent} {g c : Nat} {ds : List Int} (h : Kn w0 (rowI (some ⟨g, 0, none⟩) c ds :: m) w) (j : Nat) (v : Int) :
    Kn w0 (rowI (some ⟨g, 0, none⟩) c (ds.set j v) :: m) (w.setCell ⟨g, j, none⟩ (.int .i64 v)) := by
  have h1 := Kn.rowSt h j (.int .i64 v)
  unfold rowI
  rw [List.length_set, List.map_set]
  exact h1
theorem Kn.cellIs {w0 w : World} {m : List Ent} {g : Nat} {cs : List Value} {T : TypeId} (h : Kn w0 (.blk g cs T :: m) w) (j : Nat) (v : Value) (hj : cs[j]? = some v) : w.cell? ⟨g, j, none⟩ = some v := (h.blkAt.1 j).trans hj
theorem box7' {w0 w : World} {m : List Ent} {g : Nat} {v0 v1 v2 v3 v4 v5 v6 : Value} {l : List Value} {T : TypeId} (h : Kn w0 (.blk g (v0 :: v1 :: v2 :: v3 :: v4 :: v5 :: v6 :: l) T :: m) w) :
    w.cell? ⟨g, 0, none⟩ = some v0 ∧ w.cell? ⟨g, 1, none⟩ = some v1 ∧ w.cell? ⟨g, 2, none⟩ = some v2 ∧ w.cell? ⟨g, 3, none⟩ = some v3 ∧ w.cell? ⟨g, 4, none⟩ = some v4 ∧ w.cell? ⟨g, 5, none⟩ = some v5 ∧ w.cell? ⟨g, 6, none⟩ = some v6 :=
  ⟨h.blkAt.1 0, h.blkAt.1 1, h.blkAt.1 2, h.blkAt.1 3, h.blkAt.1 4, h.blkAt.1 5, h.blkAt.1 6⟩
theorem box7at {w0 w : World} {m : List Ent} {g : Nat} {v0 v1 v2 v3 v4 v5 v6 : Value} {T : TypeId} (h : Kn w0 m w) (i : Nat) (hi : m[i]? = some (.blk g [v0, v1, v2, v3, v4, v5, v6] T)) :
    w.cell? ⟨g, 0, none⟩ = some v0 ∧ w.cell? ⟨g, 1, none⟩ = some v1 ∧ w.cell? ⟨g, 2, none⟩ = some v2 ∧ w.cell? ⟨g, 3, none⟩ = some v3 ∧ w.cell? ⟨g, 4, none⟩ = some v4 ∧ w.cell? ⟨g, 5, none⟩ = some v5 ∧ w.cell? ⟨g, 6, none⟩ = some v6 := box7' (h.front i hi)
end Go.Proofs.Ytkfbfainhmkkdaa

namespace Go.Proofs.Ytkfbfainhmkkdaa
open Go.RowKit Go.Sort
theorem box2 {w0 w : World} {m : List Ent} {g : Nat} {v0 v1 : Value} {l : List Value} {T : TypeId} (h : Kn w0 (.blk g (v0 :: v1 :: l) T :: m) w) : w.cell? ⟨g, 0, none⟩ = some v0 ∧ w.cell? ⟨g, 1, none⟩ = some v1 :=
  ⟨h.blkAt.1 0, h.blkAt.1 1⟩
set_option maxRecDepth 100000 in
set_option maxHeartbeats 1600000 in
theorem withSetting_any (t : Tri) (A1 A2 A3 : Option Addr) (c1 c2 c3 : Nat) (v : Int) (w : World) (r1 : RI w A1 t.a.digits.length t.a.digits) (r2 : RI w A2 t.b.digits.length t.b.digits) (r3 : RI w A3 t.s.digits.length t.s.digits) (hz : Sized t)
    (hb : 2 ≤ t.a.base) (hb2 : t.a.base ≤ 16) (h0 : 0 ≤ v) (h1 : v ≤ 9223372036854775807) :
    Calls Try.prog 155 #[.agg #[.int .i64 t.a.base, .slice A1 t.a.digits.length c1, .int .i64 t.b.base, .slice A2 t.b.digits.length c2, .int .i64 t.s.base, .slice A3 t.s.digits.length c3, .int .i64 t.carry], .int .i64 v] w fun e w' => ∃ A1 c1 A2 c2 A3 c3, e = .returned (.tuple #[.agg #[.int .i64 t.a.base, .slice A1 (digD t.a.base t.a.digits.length v).length c1, .int .i64 t.b.base, .slice A2 t.b.digits.length c2, .int .i64 t.s.base, .slice A3 t.s.digits.length c3, .int .i64 t.carry], .bool (restD t.a.base t.a.digits.length v == 0)]) ∧
      Kn w [rowI A3 c3 t.s.digits, rowI A2 c2 t.b.digits, rowI A1 c1 (digD t.a.base t.a.digits.length v)] w' := by
  have KR := (fun W => registerOf_any t.a.base t.a.digits.length v W hb hb2 (by have := hz.a; omega) h0 h1)
  have KC := Lib.hid (fun W (hW : Below w.heap.size w W) => copiedM_any t A1 A2 A3 c1 c2 c3 W (r1.below hW) (r2.below hW) (r3.below hW) hz)
  have KW := Lib.hid (fun W => width_any t.a.base A1 t.a.digits.length c1 W)
  obtain ⟨ds, hds⟩ : ∃ ds, digD t.a.base t.a.digits.length v = ds := ⟨_, rfl⟩
  obtain ⟨ok, hok⟩ : ∃ ok, (restD t.a.base t.a.digits.length v == 0) = ok := ⟨_, rfl⟩
  rw [hds, hok] at KR
  rw [hds, hok]
  have KR := Lib.hid KR
  clear hds hok r1 r2 r3 hz hb hb2 h0 h1
  go_enter Try.func155, Try.ntmps155
  go_wp2_with (first | (refine wpList.kn ((Kn.nil w).al [.int .i64 t.a.base, .slice A1 t.a.digits.length c1, .int .i64 t.b.base, .slice A2 t.b.digits.length c2, .int .i64 t.s.base, .slice A3 t.s.digits.length c3, .int .i64 t.carry] 28) ?_; intro w1 hK1))
  have hK2 := hK1.al [.int .i64 0, .slice none 0 0, .int .i64 0, .slice none 0 0, .int .i64 0, .slice none 0 0, .int .i64 0] 28
  generalize w1.alloc (.cells #[.int .i64 0, .slice none 0 0, .int .i64 0, .slice none 0 0, .int .i64 0, .slice none 0 0, .int .i64 0] 28) = w2 at hK2 ⊢
  have HG := Lib.hid (box2 hK2.drew.drop)
  have HA := Lib.hid (box2 (hK2.drew.al [.int .i64 0, .slice none 0 0] 26).drop.drop)
  have HS := HG
  go_cut [6, 7] (fun pp oo wx => ∃ (g : Nat) (A' : Option Addr) (c' : Nat), pp = .pointer (some ⟨g, 0, none⟩) ∧ oo = .bool ok ∧ Kn w [.blk g [.int .i64 t.a.base, .slice A' ds.length c'] 26, rowI A' c' ds, .blk w1.heap.size [.int .i64 0, .slice none 0 0, .int .i64 0, .slice none 0 0, .int .i64 0, .slice none 0 0, .int .i64 0] 28, .blk w.heap.size [.int .i64 t.a.base, .slice A1 t.a.digits.length c1, .int .i64 t.b.base, .slice A2 t.b.digits.length c2, .int .i64 t.s.base, .slice A3 t.s.digits.length c3, .int .i64 t.carry] 28] wx)
  case first =>
    go_region_held3 (fun W => W.cell? ⟨w.heap.size, 0, none⟩ = some (.int .i64 t.a.base) ∧ W.cell? ⟨w.heap.size, 1, none⟩ = some (.slice A1 t.a.digits.length c1))
      (first | with_reducible exact HG.out | with_reducible exact HA.out | with_reducible exact HS.out | exact HG.out | exact HA.out | exact HS.out) (first
      | (go_at_call 115; with_reducible refine (KW.out _).mono ?_; rintro e w3 ⟨rfl, hw3⟩; first | (have hK3 := hK2.drew.keep hw3; clear HG HA; have HG := Lib.hid (box2 hK3.drop); have HA := Lib.hid (box2 (hK3.al [.int .i64 0, .slice none 0 0] 26).drop.drop)) | (have hK3 := (hK2.al [.int .i64 0, .slice none 0 0] 26).drew.keep hw3; clear HG; have HG := Lib.hid (box2 hK3.drop.drop)))
      | (go_at_call 168; with_reducible refine (KR.out _).mono ?_; rintro e w4 ⟨A', c', rfl, hK⟩; clear HG HA; first
        | (have hK4 := hK3.join hK; have HG := Lib.hid (box2 (v0 := .int .i64 t.a.base) hK4.drop.drop.drop); obtain ⟨g1, f1, l1⟩ := hK4.drop.blkAt; have hK5 := (hK4.sw1.st 0 (.int .i64 t.a.base)).st 1 (.slice A' ds.length c'); have HS := Lib.hid (box2 hK5.drop.drop.drop); have HA := HG)
        | (have hK4 := (hK3.al [.int .i64 0, .slice none 0 0] 26).join hK; have HG := Lib.hid (box2 (v0 := .int .i64 t.a.base) hK4.drop.drop.drop); obtain ⟨g1, f1, l1⟩ := hK4.drop.blkAt; have hK5 := (hK4.sw1.st 0 (.int .i64 t.a.base)).st 1 (.slice A' ds.length c'); have HS := Lib.hid (box2 hK5.drop.drop.drop); have HA := HG)
        | (have hK4 := hK3.join hK; have HG := Lib.hid (box2 hK4.drop.drop); have HA := Lib.hid (box2 (hK4.al [.int .i64 0, .slice none 0 0] 26).drop.drop.drop); have hK5 := hK4.al [.int .i64 t.a.base, .slice A' ds.length c'] 26; have HS := Lib.hid (box2 hK5.drop.drop.drop))))
    all_goals
      go_wp2_with fail
      go_meet
      exact ⟨_, _, _, rfl, rfl, hK5⟩
  case rest =>
    obtain ⟨g, B1, e1, rfl, rfl, hK⟩ := hcut
    clear HG HA HS hK1 hK2 KR KW
    obtain ⟨a1, a2, a3, d1, d2, d3, g1, f1, l1, -⟩ := hK.cells
    go_wp2_with fail
    with_reducible refine (KC.out _ hK.below).mono ?_; rintro e w5 ⟨A4, e4, A5, e5, A6, e6, rfl, hKC⟩
    have hK5 := hK.join hKC
    clear a1 a2 a3 d1 d2 d3 g1 f1 l1 hK hKC
    obtain ⟨a1, a2, a3, d1, d2, d3, g1, f1, l1, -⟩ := hK5.cells
    go_wp2_with fail
    refine bodyPost.kn (((((((((hK5.sw5.st 0 _).st 1 _).st 2 _).st 3 _).st 4 _).st 5 _).st 6 _).al_ _)) ?_; intro w6 hK6
    clear a1 a2 a3 d1 d2 d3 g1 f1 l1
    obtain ⟨a1, a2, a3, -⟩ := hK6.cells
    refine bodyPost_ret (v := .tuple #[.agg #[.int .i64 t.a.base, .slice B1 ds.length e1, .int .i64 t.b.base, .slice A5 t.b.digits.length e5, .int .i64 t.s.base, .slice A6 t.s.digits.length e6, .int .i64 t.carry], .bool ok]) (by simp [results, Try.results155, go_sem, a1]) rfl ⟨B1, e1, A5, e5, A6, e6, rfl, ?_⟩
    exact hK6.drop.drop2.drop2.drop3
end Go.Proofs.Ytkfbfainhmkkdaa

namespace Go.Proofs.Ytkfbfainhmkkdaa
open Go.RowKit Go.Sort
/-- a register's digits when a number is added, and whether it goes round -/
def shiftD (b : Int) (ds : List Int) (x : Int) : List Int := digD b ds.length (((valL b ds + x).tmod (pw b ds.length) + pw b ds.length).tmod (pw b ds.length))
def shiftB (b : Int) (ds : List Int) (x : Int) : Bool := decide (valL b ds + x < 0) || decide (pw b ds.length ≤ valL b ds + x)
theorem shiftD_len (b : Int) (ds : List Int) (x : Int) : (shiftD b ds x).length = ds.length := digD_len _ _ _
set_option maxRecDepth 100000 in
set_option maxHeartbeats 1600000 in
theorem shifted_any (b : Int) (A : Option Addr) (c : Nat) (ds : List Int) (x : Int) (w : World) (hr : RI w A ds.length ds) (hv : vreg b ds = true) (hp : pw b ds.length ≤ 1000000000001) (hx0 : -1000000000001 ≤ x) (hx1 : x ≤ 1000000000001) :
    Calls Try.prog 177 #[.agg #[.int .i64 b, .slice A ds.length c], .int .i64 x] w fun e w' => ∃ A' c', e = .returned (.tuple #[.agg #[.int .i64 b, .slice A' (shiftD b ds x).length c'], .bool (shiftB b ds x)]) ∧ Kn w [rowI A' c' (shiftD b ds x)] w' := by
  obtain ⟨⟨b1, b2⟩, ⟨n1, n2⟩, hd, hl⟩ := vreg_iff.1 hv
  have hp1 := pw_pos b b1 ds.length
  have hv0 := (valL_bd b b1 ds (fun d h => (hd d h).1)).1
  have KN := (fun W => values_any b A ds.length c W b1 b2 (by omega))
  have hpc : powC b ds.length = pw b ds.length := by unfold powC; rw [if_pos hp]
  rw [hpc] at KN
  have KV := (fun W (hW : Below w.heap.size w W) => value_any b A ds.length c ds W b1 b2 hd (hr.below hW) n2)
  have hsd : shiftD b ds x = digD b ds.length (((valL b ds + x).tmod (pw b ds.length) + pw b ds.length).tmod (pw b ds.length)) := rfl
  have hsb : shiftB b ds x = (decide (valL b ds + x < 0) || decide (pw b ds.length ≤ valL b ds + x)) := rfl
  obtain ⟨N, hN⟩ : ∃ N, pw b ds.length = N := ⟨_, rfl⟩
  obtain ⟨V, hV⟩ : ∃ V, valL b ds = V := ⟨_, rfl⟩
  rw [hN] at KN hsd hsb hp hp1
  rw [hV] at KV hsd hsb hv0 hl
  obtain ⟨S, hS⟩ : ∃ S, V + x = S := ⟨_, rfl⟩
  rw [hS] at hsd hsb
  have hSb : -1000000000001 ≤ S ∧ S ≤ 2000000000001 := by omega
  have hm1 : -N < S.tmod N ∧ S.tmod N < N := by
    have h1 := Int.tmod_lt_of_pos S (show 0 < N by omega)
    have h2 := Int.lt_tmod_of_pos S (show 0 < N by omega)
    omega
  have hm2 : 0 ≤ (S.tmod N + N).tmod N ∧ (S.tmod N + N).tmod N < N := ⟨Int.tmod_nonneg _ (by omega), Int.tmod_lt_of_pos _ (by omega)⟩
  have hwr : IntKind.i64.wrap (S.tmod N + N) = S.tmod N + N := wrapI64 (by omega)
  have nz1 : N ≠ 0 := by omega
  have nz2 : (N == 0) = false := by simp; omega
  have nz3 : ¬ N = 0 := by omega
  have KW := (fun W => withValue_any b A ds.length c ((S.tmod N + N).tmod N) W b1 b2 (by omega) hm2.1 (by omega))
  rw [← hsd] at KW
  obtain ⟨es, hes⟩ : ∃ es, shiftD b ds x = es := ⟨_, rfl⟩
  rw [hes] at KW ⊢
  obtain ⟨bell, hbl⟩ : ∃ e, shiftB b ds x = e := ⟨_, rfl⟩
  have HSB := Lib.hid (hbl.symm.trans hsb)
  rw [hbl]
  have KN := Lib.hid KN
  have KV := Lib.hid KV
  have KW := Lib.hid KW
  have HSS := Lib.hid hS
  have hV2 : -9223372036854775808 ≤ V + x ∧ V + x ≤ 9223372036854775807 := by omega
  clear hsd hsb hes hbl hr hv hd hl hpc hN hV hS
  go_enter Try.func177, Try.ntmps177
  go_wp2_with (first | (refine wpList.kn ((Kn.nil w).al [.int .i64 b, .slice A ds.length c] 26) ?_; intro w1 hK1))
  have hK2 := hK1.al [.int .i64 0, .slice none 0 0] 26
  generalize w1.alloc (.cells #[.int .i64 0, .slice none 0 0] 26) = w2 at hK2 ⊢
  have HG := Lib.hid (box2 hK2.drew.drop)
  go_cut [6, 7] (fun pp oo wx => pp = .int .i64 N ∧ oo = .int .i64 S ∧ Kn w [.blk w1.heap.size [.int .i64 0, .slice none 0 0] 26, .blk w.heap.size [.int .i64 b, .slice A ds.length c] 26] wx)
  case first =>
    go_region_held3 (fun W => W.cell? ⟨w.heap.size, 0, none⟩ = some (.int .i64 b) ∧ W.cell? ⟨w.heap.size, 1, none⟩ = some (.slice A ds.length c))
      (first | with_reducible exact HG.out | exact HG.out) (first
      | (go_at_call 128; with_reducible refine (KN.out _).mono ?_; rintro e w3 ⟨rfl, hw3⟩; have hK3 := hK2.drew.keep hw3; clear HG; have HG := Lib.hid (box2 hK3.drop))
      | (go_at_call 143; with_reducible refine (KV.out _ hK3.below).mono ?_; rintro e w4 ⟨rfl, hw4⟩; have hK4 := hK3.keep hw4; clear HG; have HG := Lib.hid (box2 hK4.drop)))
    all_goals
      go_wp2_with fail
      go_meet
      exact ⟨rfl, by rw [HSS.out, wrapI64 (by omega)], hK4⟩
  case rest =>
    obtain ⟨rfl, rfl, hK⟩ := hcut
    clear HG hK1 hK2
    clear hV2 hv0
    have HG := Lib.hid (box2 hK.drew.drop)
    have HS := HG
    obtain ⟨a1, a2, a3⟩ := hK.blkAt
    rcases hlt : decide (S < 0) with _ | _
    · have hl2 := of_decide_eq_false hlt
      rcases hge : decide (N ≤ S) with _ | _
      · have hg2 := of_decide_eq_false hge
        rw [hlt, hge] at HSB
        go_wp2_with fail
        go_region_held3 (fun W => W.cell? ⟨w.heap.size, 0, none⟩ = some (.int .i64 b) ∧ W.cell? ⟨w.heap.size, 1, none⟩ = some (.slice A ds.length c)) (first | with_reducible exact HG.out | with_reducible exact HS.out | exact HG.out) (first
            | (go_at_call 178; with_reducible refine (KW.out _).mono ?_; rintro e w3 ⟨A', c', rfl, hK'⟩; have hK3 := hK.drew.join hK'; clear HG; have HG := Lib.hid (box2 hK3.drop.drop); have hK4 := (hK3.sw1.st 0 (.int .i64 b)).st 1 (.slice A' es.length c'); have HS := Lib.hid (box2 hK4.drop.drop); clear a1 a2 a3; obtain ⟨a1, a2, a3⟩ := hK3.drop.blkAt)
          )
        all_goals
          go_wp2_with fail
          refine bodyPost.kn hK4 ?_; intro w6 hK6
          clear a1 a2 a3
          obtain ⟨a1, a2, a3, -⟩ := hK6.cells
          refine bodyPost_ret (v := .tuple #[.agg #[.int .i64 b, .slice A' es.length c'], .bool bell]) (by simp [results, Try.results177, go_sem, a1]; rw [HSB.out]; try simp) rfl ⟨A', c', rfl, ?_⟩
          exact hK6.drop.drop1
      · have hg2 := of_decide_eq_true hge
        rw [hlt, hge] at HSB
        go_wp2_with fail
        go_region_held3 (fun W => W.cell? ⟨w.heap.size, 0, none⟩ = some (.int .i64 b) ∧ W.cell? ⟨w.heap.size, 1, none⟩ = some (.slice A ds.length c)) (first | with_reducible exact HG.out | with_reducible exact HS.out | exact HG.out) (first
            | (go_at_call 178; with_reducible refine (KW.out _).mono ?_; rintro e w3 ⟨A', c', rfl, hK'⟩; have hK3 := hK.drew.join hK'; clear HG; have HG := Lib.hid (box2 hK3.drop.drop); have hK4 := (hK3.sw1.st 0 (.int .i64 b)).st 1 (.slice A' es.length c'); have HS := Lib.hid (box2 hK4.drop.drop); clear a1 a2 a3; obtain ⟨a1, a2, a3⟩ := hK3.drop.blkAt)
          )
        all_goals
          go_wp2_with fail
          refine bodyPost.kn hK4 ?_; intro w6 hK6
          clear a1 a2 a3
          obtain ⟨a1, a2, a3, -⟩ := hK6.cells
          refine bodyPost_ret (v := .tuple #[.agg #[.int .i64 b, .slice A' es.length c'], .bool bell]) (by simp [results, Try.results177, go_sem, a1]; rw [HSB.out]; try simp) rfl ⟨A', c', rfl, ?_⟩
          exact hK6.drop.drop1
    · have hl2 := of_decide_eq_true hlt
      have hbe : bell = true := by rw [HSB.out, hlt]; rfl
      have HSB := Lib.hid hbe
      clear hbe
      obtain ⟨x1, x2⟩ := box2 hK.drop
      go_wp2_with fail
      first | (go_region_law (go_simp; go_at_call 178; with_reducible refine (KW.out _).mono ?_; rintro e w3 ⟨A', c', rfl, hK'⟩; have hK3 := hK.drew.join hK'; clear HG; have HG := Lib.hid (box2 hK3.drop.drop); have hK4 := (hK3.sw1.st 0 (.int .i64 b)).st 1 (.slice A' es.length c'); have HS := Lib.hid (box2 hK4.drop.drop); clear a1 a2 a3; obtain ⟨a1, a2, a3⟩ := hK3.drop.blkAt)) | fail "no"
      all_goals
        go_wp2_with fail
        refine bodyPost.kn hK4 ?_; intro w6 hK6
        clear a1 a2 a3
        obtain ⟨a1, a2, a3, -⟩ := hK6.cells
        refine bodyPost_ret (v := .tuple #[.agg #[.int .i64 b, .slice A' es.length c'], .bool bell]) (by simp [results, Try.results177, go_sem, a1]; rw [HSB.out]; try simp) rfl ⟨A', c', rfl, ?_⟩
        exact hK6.drop.drop1
end Go.Proofs.Ytkfbfainhmkkdaa

namespace Go.Proofs.Ytkfbfainhmkkdaa
open Go.RowKit Go.Sort
theorem restD_succ (b : Int) (k : Nat) (v : Int) : restD b (k + 1) v = restD b k (v.tdiv b) := by
  induction k with
  | zero => rfl
  | succ k ih => rw [restD, ih]; rfl
theorem digD_cons (b : Int) (k : Nat) (v : Int) : digD b (k + 1) v = v.tmod b :: digD b k (v.tdiv b) := by
  induction k with
  | zero => rfl
  | succ k ih => rw [digD, ih, restD_succ]; rfl
theorem pw_succ (b : Int) (k : Nat) : pw b (k + 1) = pw b k * b := rfl
theorem valL_lt (b : Int) (hb : 2 ≤ b) (ds : List Int) (hd : ∀ d ∈ ds, 0 ≤ d ∧ d < b) : valL b ds < pw b ds.length := by
  induction ds with
  | nil => simp [valL, pw]
  | cons d ds ih =>
    have h1 := ih (fun x hx => hd x (List.mem_cons_of_mem _ hx))
    have h2 := (hd d (List.mem_cons_self ..)).2
    have h3 : valL b ds * b ≤ (pw b ds.length - 1) * b := Int.mul_le_mul_of_nonneg_right (by omega) (by omega)
    rw [List.length_cons, pw_succ]
    have h4 : (pw b ds.length - 1) * b = pw b ds.length * b - b := by rw [Int.sub_mul]; omega
    simp only [valL]
    omega
theorem valL_digD (b : Int) (hb : 2 ≤ b) : ∀ (k : Nat) (v : Int), 0 ≤ v → v < pw b k → v ≤ 1000000000000 → valL b (digD b k v) = v
  | 0, v, h0, h1, _ => by simp only [pw] at h1; simp [digD, valL]; omega
  | k + 1, v, h0, h1, h2 => by
    rw [digD_cons]
    have e1 : v.tdiv b = v / b := Int.tdiv_eq_ediv_of_nonneg h0
    have e2 : v.tmod b = v % b := Int.tmod_eq_emod_of_nonneg h0
    have h3 : 0 ≤ v / b := Int.ediv_nonneg h0 (by omega)
    have h4 : v / b < pw b k := by rw [pw_succ] at h1; exact Int.ediv_lt_of_lt_mul (by omega) h1
    have h5 : v / b ≤ v := Int.ediv_le_self b h0
    simp only [valL]
    rw [e1, e2, valL_digD b hb k (v / b) h3 h4 (by omega)]
    have h6 := Int.emod_add_mul_ediv v b
    have h7 : v / b * b + v % b = v := by rw [Int.mul_comm]; omega
    rw [h7]; omega
theorem digD_ok (b : Int) (hb : 2 ≤ b) : ∀ (k : Nat) (v : Int), 0 ≤ v → ∀ d ∈ digD b k v, 0 ≤ d ∧ d < b
  | 0, _, _, d, h => by simp [digD] at h
  | k + 1, v, h0, d, h => by
    rw [digD_cons] at h
    have e1 : v.tdiv b = v / b := Int.tdiv_eq_ediv_of_nonneg h0
    have e2 : v.tmod b = v % b := Int.tmod_eq_emod_of_nonneg h0
    rcases List.mem_cons.1 h with rfl | h
    · rw [e2]; exact ⟨Int.emod_nonneg _ (by omega), Int.emod_lt_of_pos _ (by omega)⟩
    · rw [e1] at h; exact digD_ok b hb k _ (Int.ediv_nonneg h0 (by omega)) d h
theorem digD_vreg (b : Int) (hb : 2 ≤ b) (hb2 : b ≤ 16) (k : Nat) (hk : 1 ≤ k) (hk2 : k ≤ 16) (v : Int) (h0 : 0 ≤ v) (h1 : v < pw b k) (h2 : v ≤ 1000000000000) : vreg b (digD b k v) = true := by
  rw [vreg_iff, digD_len, valL_digD b hb k v h0 h1 h2]
  exact ⟨⟨hb, hb2⟩, ⟨by omega, by omega⟩, digD_ok b hb k v h0, h2⟩
theorem digD_zero (b : Int) : ∀ k : Nat, digD b k 0 = List.replicate k 0
  | 0 => rfl
  | k + 1 => by rw [digD_cons, Int.zero_tdiv, Int.zero_tmod, digD_zero b k]; rfl
/-- the shifted digits are valid again -/
theorem shiftD_vreg (b : Int) (ds : List Int) (x : Int) (hv : vreg b ds = true) (hp : pw b ds.length ≤ 1000000000001) : vreg b (shiftD b ds x) = true := by
  obtain ⟨⟨b1, b2⟩, ⟨n1, n2⟩, -, -⟩ := vreg_iff.1 hv
  have hp1 := pw_pos b b1 ds.length
  have h1 := Int.tmod_lt_of_pos ((valL b ds + x).tmod (pw b ds.length) + pw b ds.length) (show 0 < pw b ds.length by omega)
  have h2 := Int.lt_tmod_of_pos (valL b ds + x) (show 0 < pw b ds.length by omega)
  exact digD_vreg b b1 b2 _ (by omega) (by omega) _ (Int.tmod_nonneg _ (by omega)) h1 (by omega)
end Go.Proofs.Ytkfbfainhmkkdaa

namespace Go.Proofs.Ytkfbfainhmkkdaa
open Go.RowKit Go.Sort
/-- a turn: the setting times the unit is added -/
def turnT (t : Tri) (sign : Int) : Tri × Bool :=
  let u := pw t.b.base t.carry.toNat
  (⟨t.a, ⟨t.b.base, shiftD t.b.base t.b.digits (sign * (valL t.a.base t.a.digits * u))⟩, ⟨t.s.base, shiftD t.s.base t.s.digits (sign * u)⟩, t.carry⟩, shiftB t.b.base t.b.digits (sign * (valL t.a.base t.a.digits * u)))
/-- a stroke, and whether the bell rings -/
def strokeT (k : Int) (t : Tri) : Tri × Bool :=
  if k = 1 then turnT t 1
  else if k = 2 then turnT t (-1)
  else if k = 3 then (if t.carry + 1 = vplaces t then (t, true) else ({ t with carry := t.carry + 1 }, false))
  else if k = 4 then (if t.carry = 0 then (t, true) else ({ t with carry := t.carry - 1 }, false))
  else if k = 5 then (⟨t.a, ⟨t.b.base, digD t.b.base t.b.digits.length 0⟩, ⟨t.s.base, digD t.s.base t.s.digits.length 0⟩, t.carry⟩, false)
  else if k = 6 then ({ t with a := ⟨t.a.base, digD t.a.base t.a.digits.length 0⟩ }, false)
  else (t, false)
theorem pw_add (b : Int) (m n : Nat) : pw b (m + n) = pw b m * pw b n := by
  induction n with
  | zero => simp [pw]
  | succ n ih => rw [← Nat.add_assoc, pw_succ, ih, pw_succ, Int.mul_assoc]
theorem vmach_all {t : Tri} (h : vmach t = true) : t.a.ok = true ∧ t.b.ok = true ∧ t.s.ok = true ∧ t.a.base = t.b.base ∧ t.s.base = t.b.base ∧ pw t.b.base t.b.digits.length ≤ 1000000000001 ∧ pw t.s.base t.s.digits.length ≤ 1000000000001 ∧
    t.a.digits.length ≤ t.b.digits.length ∧ 0 ≤ t.carry ∧ t.carry ≤ vplaces t - 1 := by
  simp only [vmach, Bool.and_eq_true, beq_iff_eq, fullB, decide_eq_true_eq] at h
  obtain ⟨⟨⟨⟨h1, h2⟩, h3⟩, ⟨⟨h4, h5⟩, h6⟩, h7⟩, h8, h9⟩ := h
  obtain ⟨p, q⟩ := betB_iff.1 h9
  exact ⟨h1, h2, h3, h4, h5, h6, h7, h8, p, q⟩
theorem vmach_mk {t : Tri} (h1 : t.a.ok = true) (h2 : t.b.ok = true) (h3 : t.s.ok = true) (h4 : t.a.base = t.b.base) (h5 : t.s.base = t.b.base) (h6 : pw t.b.base t.b.digits.length ≤ 1000000000001) (h7 : pw t.s.base t.s.digits.length ≤ 1000000000001)
    (h8 : t.a.digits.length ≤ t.b.digits.length) (h9 : 0 ≤ t.carry) (h10 : t.carry ≤ vplaces t - 1) : vmach t = true := by
  simp only [vmach, Bool.and_eq_true, beq_iff_eq, fullB, decide_eq_true_eq]
  exact ⟨⟨⟨⟨h1, h2⟩, h3⟩, ⟨⟨h4, h5⟩, h6⟩, h7⟩, h8, betB_iff.2 ⟨h9, h10⟩⟩
theorem reg_ok {r : Reg} : r.ok = vreg r.base r.digits := rfl
/-- no sum of a turn runs over -/
theorem turn_bd {t : Tri} (h : vmach t = true) : 1 ≤ pw t.b.base t.carry.toNat ∧ pw t.b.base t.carry.toNat ≤ 1000000000001 ∧ 0 ≤ valL t.a.base t.a.digits * pw t.b.base t.carry.toNat ∧ valL t.a.base t.a.digits * pw t.b.base t.carry.toNat ≤ 1000000000001 := by
  obtain ⟨k1, k2, k3, e1, e2, f1, f2, l1, c0, c1⟩ := vmach_all h
  obtain ⟨⟨b1, b2⟩, ⟨n1, n2⟩, hd, hl⟩ := vreg_iff.1 k1
  have hu := pw_pos t.b.base (by omega) t.carry.toNat
  have hv0 := (valL_bd t.a.base b1 t.a.digits (fun d h => (hd d h).1)).1
  have hv1 := valL_lt t.a.base b1 t.a.digits hd
  have hadd := pw_add t.b.base t.a.digits.length t.carry.toNat
  have hc : t.a.digits.length + t.carry.toNat ≤ t.b.digits.length := by unfold vplaces at c1; omega
  have hm := pw_mono t.b.base (by omega) _ _ hc
  rw [e1] at hv1
  have h3 : valL t.a.base t.a.digits * pw t.b.base t.carry.toNat ≤ pw t.b.base t.a.digits.length * pw t.b.base t.carry.toNat := Int.mul_le_mul_of_nonneg_right (by rw [e1]; omega) (by omega)
  have hm2 := pw_mono t.b.base (by omega) t.carry.toNat t.b.digits.length (by omega)
  exact ⟨hu, by omega, Int.mul_nonneg hv0 (by omega), by omega⟩
theorem turnT_ok {t : Tri} (h : vmach t = true) (sign : Int) : vmach (turnT t sign).1 = true := by
  obtain ⟨k1, k2, k3, e1, e2, f1, f2, l1, c0, c1⟩ := vmach_all h
  refine vmach_mk k1 (shiftD_vreg _ _ _ k2 f1) (shiftD_vreg _ _ _ k3 f2) e1 e2 ?_ ?_ ?_ c0 ?_
  · simp only [turnT, shiftD_len]; exact f1
  · simp only [turnT, shiftD_len]; exact f2
  · simp only [turnT, shiftD_len]; exact l1
  · simp only [turnT, vplaces, shiftD_len]; exact c1
theorem zero_ok {b : Int} {ds : List Int} (h : vreg b ds = true) : vreg b (digD b ds.length 0) = true := by
  obtain ⟨⟨b1, b2⟩, ⟨n1, n2⟩, -, -⟩ := vreg_iff.1 h
  have := pw_pos b b1 ds.length
  exact digD_vreg b b1 b2 _ (by omega) (by omega) 0 (by omega) (by omega) (by omega)
theorem strokeT_ok {t : Tri} (k : Int) (h : vmach t = true) : vmach (strokeT k t).1 = true := by
  obtain ⟨k1, k2, k3, e1, e2, f1, f2, l1, c0, c1⟩ := vmach_all h
  unfold strokeT
  split
  · exact turnT_ok h 1
  split
  · exact turnT_ok h (-1)
  split
  · split
    · exact h
    · rename_i hc
      exact vmach_mk k1 k2 k3 e1 e2 f1 f2 l1 (by simp only []; omega) (by simp only [vplaces] at c1 hc ⊢; omega)
  split
  · split
    · exact h
    · rename_i hc
      exact vmach_mk k1 k2 k3 e1 e2 f1 f2 l1 (by simp only []; omega) (by simp only [vplaces] at c1 hc ⊢; omega)
  split
  · refine vmach_mk k1 (zero_ok k2) (zero_ok k3) e1 e2 (by simp only [digD_len]; exact f1) (by simp only [digD_len]; exact f2) (by simp only [digD_len]; exact l1) c0 (by simp only [vplaces, digD_len]; exact c1)
  split
  · refine vmach_mk (zero_ok k1) k2 k3 e1 e2 f1 f2 (by simp only [digD_len]; exact l1) c0 (by simp only [vplaces, digD_len]; exact c1)
  · exact h
end Go.Proofs.Ytkfbfainhmkkdaa

namespace Go.Proofs.Ytkfbfainhmkkdaa
open Go.RowKit Go.Sort
/-! strokes that lead back, plainly -/
theorem tmod_wrap (a P : Int) (hP : 0 < P) : (a.tmod P + P).tmod P = a % P := by
  have h1 := Int.lt_tmod_of_pos a hP
  rw [Int.tmod_eq_emod_of_nonneg (by omega), Int.add_emod_right, Int.tmod_def, Int.sub_mul_emod_self_left]
theorem digD_valL (b : Int) (hb : 2 ≤ b) : ∀ ds : List Int, (∀ d ∈ ds, 0 ≤ d ∧ d < b) → valL b ds ≤ 1000000000000 → digD b ds.length (valL b ds) = ds
  | [], _, _ => rfl
  | d :: ds, hd, hl => by
    have hd0 := hd d (List.mem_cons_self ..)
    have hv0 := (valL_bd b hb ds (fun x hx => (hd x (List.mem_cons_of_mem _ hx)).1)).1
    have e1 : valL b (d :: ds) = valL b ds * b + d := by simp only [valL] at hl ⊢; omega
    have h2 : valL b ds * 1 ≤ valL b ds * b := Int.mul_le_mul_of_nonneg_left (by omega) hv0
    have ih := digD_valL b hb ds (fun x hx => hd x (List.mem_cons_of_mem _ hx)) (by omega)
    have h3 : 0 ≤ valL b ds * b + d := by omega
    have e2 : (valL b ds * b + d).tmod b = d := by
      rw [Int.tmod_eq_emod_of_nonneg h3, Int.add_comm, Int.add_mul_emod_self_right]
      exact Int.emod_eq_of_lt hd0.1 hd0.2
    have e3 : (valL b ds * b + d).tdiv b = valL b ds := by
      rw [Int.tdiv_eq_ediv_of_nonneg h3, Int.add_comm, Int.add_mul_ediv_right _ _ (by omega), Int.ediv_eq_zero_of_lt hd0.1 hd0.2, Int.zero_add]
    rw [List.length_cons, digD_cons, e1, e2, e3, ih]
theorem vreg_dig {b : Int} {ds : List Int} (hv : vreg b ds = true) : digD b ds.length (valL b ds) = ds := by
  obtain ⟨⟨b1, b2⟩, -, hd, hl⟩ := vreg_iff.1 hv
  exact digD_valL b b1 ds hd hl
theorem valL_shift {b : Int} {ds : List Int} (x : Int) (hv : vreg b ds = true) (hp : pw b ds.length ≤ 1000000000001) : valL b (shiftD b ds x) = (valL b ds + x) % pw b ds.length := by
  obtain ⟨⟨b1, b2⟩, -, hd, hl⟩ := vreg_iff.1 hv
  have hp1 := pw_pos b b1 ds.length
  unfold shiftD
  rw [tmod_wrap _ _ (by omega)]
  have h1 := Int.emod_nonneg (valL b ds + x) (show pw b ds.length ≠ 0 by omega)
  have h2 := Int.emod_lt_of_pos (valL b ds + x) (show 0 < pw b ds.length by omega)
  exact valL_digD b b1 _ _ h1 h2 (by omega)
theorem shiftD_eq (b : Int) (hb : 2 ≤ b) (ds : List Int) (y : Int) : shiftD b ds y = digD b ds.length ((valL b ds + y) % pw b ds.length) := by
  have hp1 := pw_pos b hb ds.length
  unfold shiftD
  rw [tmod_wrap _ _ (by omega)]
theorem shift_back {b : Int} {ds : List Int} (x y : Int) (hxy : x + y = 0) (hv : vreg b ds = true) (hp : pw b ds.length ≤ 1000000000001) : shiftD b (shiftD b ds x) y = ds := by
  obtain ⟨⟨b1, b2⟩, -, hd, hl⟩ := vreg_iff.1 hv
  have hp1 := pw_pos b b1 ds.length
  have hv0 := (valL_bd b b1 ds (fun x hx => (hd x hx).1)).1
  have hv1 := valL_lt b b1 ds hd
  rw [shiftD_eq b b1 (shiftD b ds x) y, valL_shift x hv hp, shiftD_len, Int.emod_add_emod, Int.add_assoc, hxy, Int.add_zero, Int.emod_eq_of_lt hv0 hv1]
  exact vreg_dig hv
/-- the stroke that leads back -/
def backK (k : Int) : Int := if k = 1 then 2 else if k = 2 then 1 else if k = 3 then 4 else 3
theorem turn_back {t : Tri} (h : vmach t = true) (s s' : Int) (hs : s + s' = 0) : (turnT (turnT t s).1 s').1 = t := by
  obtain ⟨k1, k2, k3, e1, e2, f1, f2, l1, c0, c1⟩ := vmach_all h
  have q1 := shift_back (s * (valL t.a.base t.a.digits * pw t.b.base t.carry.toNat)) (s' * (valL t.a.base t.a.digits * pw t.b.base t.carry.toNat)) (by rw [← Int.add_mul, hs, Int.zero_mul]) k2 f1
  have q2 := shift_back (s * pw t.b.base t.carry.toNat) (s' * pw t.b.base t.carry.toNat) (by rw [← Int.add_mul, hs, Int.zero_mul]) k3 f2
  rw [show (turnT (turnT t s).1 s').1 = ⟨t.a, ⟨t.b.base, shiftD t.b.base (shiftD t.b.base t.b.digits (s * (valL t.a.base t.a.digits * pw t.b.base t.carry.toNat))) (s' * (valL t.a.base t.a.digits * pw t.b.base t.carry.toNat))⟩, ⟨t.s.base, shiftD t.s.base (shiftD t.s.base t.s.digits (s * pw t.b.base t.carry.toNat)) (s' * pw t.b.base t.carry.toNat)⟩, t.carry⟩ from rfl, q1, q2]
theorem stroke_back {t : Tri} (h : vmach t = true) {k : Int} (hk : 1 ≤ k ∧ k ≤ 4) : if (strokeT k t).2 = true ∧ 2 < k then (strokeT k t).1 = t else (strokeT (backK k) (strokeT k t).1).1 = t := by
  obtain ⟨k1, k2, k3, e1, e2, f1, f2, l1, c0, c1⟩ := vmach_all h
  have hk' : k = 1 ∨ k = 2 ∨ k = 3 ∨ k = 4 := by omega
  rcases hk' with rfl | rfl | rfl | rfl
  · rw [if_neg (by omega)]
    exact turn_back h 1 (-1) (by decide)
  · rw [if_neg (by omega)]
    exact turn_back h (-1) 1 (by decide)
  · by_cases hc : t.carry + 1 = vplaces t
    · have e : strokeT 3 t = (t, true) := by simp [strokeT, hc]
      rw [e, if_pos ⟨rfl, by decide⟩]
    · have e : strokeT 3 t = ({ t with carry := t.carry + 1 }, false) := by simp [strokeT, hc]
      rw [e, if_neg (by simp)]
      have h4 : ¬ t.carry + 1 = 0 := by omega
      simp [strokeT, backK, h4]
  · by_cases hc : t.carry = 0
    · have e : strokeT 4 t = (t, true) := by simp [strokeT, hc]
      rw [e, if_pos ⟨rfl, by decide⟩]
    · have e : strokeT 4 t = ({ t with carry := t.carry - 1 }, false) := by simp [strokeT, hc]
      rw [e, if_neg (by simp)]
      have h4 : ¬ t.carry = vplaces t := by omega
      simp only [backK, strokeT]
      simp [vplaces] at h4 ⊢
      simp [h4]
end Go.Proofs.Ytkfbfainhmkkdaa

namespace Go.Proofs.Ytkfbfainhmkkdaa
open Go.RowKit Go.Sort
set_option maxRecDepth 100000 in
set_option maxHeartbeats 6400000 in
theorem stroke_any (t : Tri) (A1 A2 A3 : Option Addr) (c1 c2 c3 : Nat) (k : Int) (w : World) (r1 : RI w A1 t.a.digits.length t.a.digits) (r2 : RI w A2 t.b.digits.length t.b.digits) (r3 : RI w A3 t.s.digits.length t.s.digits) (hv : vmach t = true) (hk16 : 1 ≤ k ∧ k ≤ 6) :
    Calls Try.prog 169 #[.agg #[.int .i64 t.a.base, .slice A1 t.a.digits.length c1, .int .i64 t.b.base, .slice A2 t.b.digits.length c2, .int .i64 t.s.base, .slice A3 t.s.digits.length c3, .int .i64 t.carry], .int .i64 k] w fun e w' => ∃ A1 c1 A2 c2 A3 c3, e = .returned (.tuple #[.agg #[.int .i64 (strokeT k t).1.a.base, .slice A1 (strokeT k t).1.a.digits.length c1, .int .i64 (strokeT k t).1.b.base, .slice A2 (strokeT k t).1.b.digits.length c2, .int .i64 (strokeT k t).1.s.base, .slice A3 (strokeT k t).1.s.digits.length c3, .int .i64 (strokeT k t).1.carry], .bool (strokeT k t).2]) ∧
      Kn w [rowI A3 c3 (strokeT k t).1.s.digits, rowI A2 c2 (strokeT k t).1.b.digits, rowI A1 c1 (strokeT k t).1.a.digits] w' := by
  obtain ⟨k1, k2, k3, e1, e2, f1, f2, l1, p0, p1⟩ := vmach_all hv
  obtain ⟨u1, u2, u3, u4⟩ := turn_bd hv
  obtain ⟨⟨b1, b2⟩, ⟨n1, n2⟩, hd1, -⟩ := vreg_iff.1 k1
  obtain ⟨⟨b3, b4⟩, ⟨n3, n4⟩, hd2, -⟩ := vreg_iff.1 k2
  obtain ⟨⟨b5, b6⟩, ⟨n5, n6⟩, hd3, -⟩ := vreg_iff.1 k3
  have hz : Sized t := ⟨n1, n3, n5, n2, n4, n6⟩
  have KC := Lib.hid (fun W (hW : Below w.heap.size w W) => copiedM_any t A1 A2 A3 c1 c2 c3 W (r1.below hW) (r2.below hW) (r3.below hW) hz)
  have KP := (fun W => power_B t.b.base t.carry.toNat W b3 b4 (by unfold vplaces at p1; omega))
  have hpc : powC t.b.base t.carry.toNat = pw t.b.base t.carry.toNat := by unfold powC; rw [if_pos u2]
  rw [hpc, show ((t.carry.toNat : Nat) : Int) = t.carry by omega] at KP
  obtain ⟨U, hU⟩ : ∃ U, pw t.b.base t.carry.toNat = U := ⟨_, rfl⟩
  have HU := Lib.hid hU
  rw [hU] at KP u1 u2 u3 u4
  have KP := Lib.hid KP
  have E1 := Lib.hid e1
  have E2 := Lib.hid e2
  clear hpc hU e1 e2 hz
  go_enter Try.func169, Try.ntmps169
  go_wp2_with fail
  refine Calls.kn (((Kn.nil w).al [.int .i64 t.a.base, .slice A1 t.a.digits.length c1, .int .i64 t.b.base, .slice A2 t.b.digits.length c2, .int .i64 t.s.base, .slice A3 t.s.digits.length c3, .int .i64 t.carry] 28).al [.int .i64 0, .slice none 0 0, .int .i64 0, .slice none 0 0, .int .i64 0, .slice none 0 0, .int .i64 0] 28) ?_; intro w1 hK1
  simp only [World.size_alloc] at hK1
  with_reducible refine (KC.out _ hK1.below).mono ?_; rintro e w2 ⟨B1, h1, B2, h2, B3, h3, rfl, hKC⟩
  have hK2 := hK1.join hKC
  obtain ⟨a1, a2, a3, d1, d2, d3, -⟩ := hK2.cells
  clear hK1 hKC
  go_wp2_with fail
  refine Calls.kn (hK2.al [.int .i64 t.a.base, .slice B1 t.a.digits.length h1, .int .i64 t.b.base, .slice B2 t.b.digits.length h2, .int .i64 t.s.base, .slice B3 t.s.digits.length h3, .int .i64 t.carry] 28) ?_; intro w3 hK3
  with_reducible refine (KP.out _).mono ?_; rintro e w4 ⟨rfl, hw⟩
  have hK4 := hK3.keep hw
  clear a1 a2 a3 d1 d2 d3 hK2 hK3 hw
  obtain ⟨x1, x2, x3, a1, a2, a3, d1, d2, d3, -⟩ := hK4.cells
  have hk' : k = 1 ∨ k = 2 ∨ k = 3 ∨ k = 4 ∨ k = 5 ∨ k = 6 := by omega
  clear hk16
  rcases hk' with hk | hk | hk | hk | hk | hk
  · subst hk
    have hT : strokeT 1 t = turnT t 1 := by unfold strokeT; simp
    have KV := (fun W (hW : Below w.heap.size w W) => value_any t.a.base A1 t.a.digits.length c1 t.a.digits W b1 b2 hd1 (r1.below hW) n2)
    have hTT : turnT t 1 = (⟨t.a, ⟨t.b.base, shiftD t.b.base t.b.digits (1 * (valL t.a.base t.a.digits * pw t.b.base t.carry.toNat))⟩, ⟨t.s.base, shiftD t.s.base t.s.digits (1 * pw t.b.base t.carry.toNat)⟩, t.carry⟩, shiftB t.b.base t.b.digits (1 * (valL t.a.base t.a.digits * pw t.b.base t.carry.toNat))) := rfl
    rw [HU.out] at hTT
    obtain ⟨V, hV⟩ : ∃ V, valL t.a.base t.a.digits = V := ⟨_, rfl⟩
    rw [hV] at KV hTT u3 u4
    obtain ⟨X, hX⟩ : ∃ X, 1 * (V * U) = X := ⟨_, rfl⟩
    obtain ⟨Y, hY⟩ : ∃ Y, 1 * U = Y := ⟨_, rfl⟩
    rw [hX, hY] at hTT
    have hXb : -1000000000001 ≤ X ∧ X ≤ 1000000000001 := by omega
    have hYb : -1000000000001 ≤ Y ∧ Y ≤ 1000000000001 := by omega
    have hV1 : 0 ≤ V := by
      have := (valL_bd t.a.base b1 t.a.digits (fun d h => (hd1 d h).1)).1
      omega
    have hV2 : V ≤ 1000000000001 := by
      have := Int.mul_le_mul_of_nonneg_left (show 1 ≤ U from u1) hV1
      rw [Int.mul_one] at this
      omega
    have KS2 := (fun W (hW : Below w.heap.size w W) => shifted_any t.b.base A2 c2 t.b.digits X W (r2.below hW) k2 f1 hXb.1 hXb.2)
    have KS3 := (fun W (hW : Below w.heap.size w W) => shifted_any t.s.base A3 c3 t.s.digits Y W (r3.below hW) k3 f2 hYb.1 hYb.2)
    obtain ⟨es, hes⟩ : ∃ es, shiftD t.b.base t.b.digits X = es := ⟨_, rfl⟩
    obtain ⟨fs, hfs⟩ : ∃ fs, shiftD t.s.base t.s.digits Y = fs := ⟨_, rfl⟩
    obtain ⟨bell, hbl⟩ : ∃ e, shiftB t.b.base t.b.digits X = e := ⟨_, rfl⟩
    obtain ⟨bell2, hbl2⟩ : ∃ e, shiftB t.s.base t.s.digits Y = e := ⟨_, rfl⟩
    rw [hes, hbl] at KS2
    rw [hfs, hbl2] at KS3
    rw [hes, hfs, hbl] at hTT
    have HS := Lib.hid (hT.trans hTT)
    have KV := Lib.hid KV
    have KS2 := Lib.hid KS2
    have KS3 := Lib.hid KS3
    have HYY := Lib.hid hY
    have HW2 := Lib.hid (show IntKind.i64.wrap (V * U) = X by rw [← hX, Int.one_mul]; exact wrapI64 (by omega))
    have HW1 := HW2
    clear hT hTT hV hX hY hes hfs hbl hbl2 hd1 hd2 hd3 r1 r2 r3 k1 k2 k3 KC KP f1 f2 l1 p0 p1
    go_wp2_with fail
    have HG := Lib.hid (box7 hK4.drew.drop.drop.drop.drop.drop)
    have HT := HG
    go_cut [7] (fun bb wx => bb = .bool bell ∧ ∃ (E2 : Option Addr) (g2 : Nat), Kn w [.blk w2.heap.size [.int .i64 t.a.base, .slice B1 t.a.digits.length h1, .int .i64 t.b.base, .slice E2 es.length g2, .int .i64 t.s.base, .slice B3 t.s.digits.length h3, .int .i64 t.carry] 28, rowI E2 g2 es, rowI B3 h3 t.s.digits, rowI B2 h2 t.b.digits, rowI B1 h1 t.a.digits, .blk (w.heap.size + 1) [.int .i64 0, .slice none 0 0, .int .i64 0, .slice none 0 0, .int .i64 0, .slice none 0 0, .int .i64 0] 28, .blk w.heap.size [.int .i64 t.a.base, .slice A1 t.a.digits.length c1, .int .i64 t.b.base, .slice A2 t.b.digits.length c2, .int .i64 t.s.base, .slice A3 t.s.digits.length c3, .int .i64 t.carry] 28] wx)
    case first =>
      go_region_held3 (fun W => W.cell? ⟨w.heap.size, 0, none⟩ = some (.int .i64 t.a.base) ∧ W.cell? ⟨w.heap.size, 1, none⟩ = some (.slice A1 t.a.digits.length c1) ∧ W.cell? ⟨w.heap.size, 2, none⟩ = some (.int .i64 t.b.base) ∧ W.cell? ⟨w.heap.size, 3, none⟩ = some (.slice A2 t.b.digits.length c2) ∧ W.cell? ⟨w.heap.size, 4, none⟩ = some (.int .i64 t.s.base) ∧ W.cell? ⟨w.heap.size, 5, none⟩ = some (.slice A3 t.s.digits.length c3) ∧ W.cell? ⟨w.heap.size, 6, none⟩ = some (.int .i64 t.carry))
        (first | with_reducible exact HG.out | with_reducible exact HT.out | exact HG.out | exact HT.out) (first
        | (go_at_call 143; (with_reducible refine (KV.out _ hK4.drew.below).mono ?_); rintro e w5 ⟨rfl, hw⟩; have hK5 := hK4.drew.keep hw; clear HG; have HG := Lib.hid (box7 hK5.drop.drop.drop.drop.drop))
        | (go_at_call 177; (first | (rw [HW1.out]; rw [HW2.out]) | rw [HW2.out]); (with_reducible refine (KS2.out _ hK5.below).mono ?_); rintro e w6 ⟨E2, g2, rfl, hK⟩; have hK6 := hK5.join hK; clear HG; have HG := Lib.hid (box7 hK6.drop.drop.drop.drop.drop.drop); have hK7 := (hK6.sw1.st 2 (.int .i64 t.b.base)).st 3 (.slice E2 es.length g2); have HT := Lib.hid (box7 hK7.drop.drop.drop.drop.drop.drop); obtain ⟨q1, q2, q3⟩ := hK6.drop.blkAt))
      all_goals
        go_wp2_with fail
        go_meet
        exact ⟨rfl, _, _, hK7⟩
    case rest =>
      obtain ⟨rfl, E2, g2, hK5⟩ := hcut
      clear HG HT x1 x2 x3 a1 a2 a3 d1 d2 d3 hK4 KV KS2
      obtain ⟨x1, x2, x3, a1, a2, a3, d1, d2, d3, -⟩ := hK5.cells
      go_wp2_with fail
      rw [show U = Y by rw [← HYY.out]; omega]
      refine (KS3.out _ hK5.below).mono ?_; rintro e w6 ⟨E3, g3, rfl, hK⟩
      have hK6 := hK5.join hK
      clear x1 x2 x3 a1 a2 a3 d1 d2 d3 hK5
      obtain ⟨x1, x2, x3, a1, a2, a3, d1, d2, d3, -⟩ := hK6.cells
      go_upto_region 22 with fail
      refine Code.wp.kn ((hK6.sw1.st 4 (.int .i64 t.s.base)).st 5 (.slice E3 fs.length g3)) ?_; intro w5 hK5
      clear x1 x2 x3 a1 a2 a3 d1 d2 d3
      obtain ⟨x1, x2, x3, a1, a2, a3, d1, d2, d3, -⟩ := hK5.cells
      go_wp2_with fail
      refine bodyPost.kn ((((((((hK5.front 6 rfl).st 0 (.int .i64 t.a.base)).st 1 (.slice B1 t.a.digits.length h1)).st 2 (.int .i64 t.b.base)).st 3 (.slice E2 es.length g2)).st 4 (.int .i64 t.s.base)).st 5 (.slice E3 fs.length g3)).st 6 (.int .i64 t.carry)) ?_; intro w6 hK6
      clear x1 x2 x3 a1 a2 a3 d1 d2 d3 hK5
      obtain ⟨a1, a2, a3, -⟩ := hK6.cells
      refine bodyPost_ret (v := .tuple #[.agg #[.int .i64 t.a.base, .slice B1 t.a.digits.length h1, .int .i64 t.b.base, .slice E2 es.length g2, .int .i64 t.s.base, .slice E3 fs.length g3, .int .i64 t.carry], .bool bell]) (by simp [results, Try.results169, go_sem, a1]) rfl ⟨B1, h1, E2, g2, E3, g3, by rw [HS.out], ?_⟩
      rw [HS.out]
      exact hK6.sel [2, 3, 6] 99 (by decide) (by decide)
  · subst hk
    have hT : strokeT 2 t = turnT t (-1) := by unfold strokeT; simp
    have KV := (fun W (hW : Below w.heap.size w W) => value_any t.a.base A1 t.a.digits.length c1 t.a.digits W b1 b2 hd1 (r1.below hW) n2)
    have hTT : turnT t (-1) = (⟨t.a, ⟨t.b.base, shiftD t.b.base t.b.digits ((-1) * (valL t.a.base t.a.digits * pw t.b.base t.carry.toNat))⟩, ⟨t.s.base, shiftD t.s.base t.s.digits ((-1) * pw t.b.base t.carry.toNat)⟩, t.carry⟩, shiftB t.b.base t.b.digits ((-1) * (valL t.a.base t.a.digits * pw t.b.base t.carry.toNat))) := rfl
    rw [HU.out] at hTT
    obtain ⟨V, hV⟩ : ∃ V, valL t.a.base t.a.digits = V := ⟨_, rfl⟩
    rw [hV] at KV hTT u3 u4
    obtain ⟨X, hX⟩ : ∃ X, (-1) * (V * U) = X := ⟨_, rfl⟩
    obtain ⟨Y, hY⟩ : ∃ Y, (-1) * U = Y := ⟨_, rfl⟩
    rw [hX, hY] at hTT
    have hXb : -1000000000001 ≤ X ∧ X ≤ 1000000000001 := by omega
    have hYb : -1000000000001 ≤ Y ∧ Y ≤ 1000000000001 := by omega
    have hV1 : 0 ≤ V := by
      have := (valL_bd t.a.base b1 t.a.digits (fun d h => (hd1 d h).1)).1
      omega
    have hV2 : V ≤ 1000000000001 := by
      have := Int.mul_le_mul_of_nonneg_left (show 1 ≤ U from u1) hV1
      rw [Int.mul_one] at this
      omega
    have KS2 := (fun W (hW : Below w.heap.size w W) => shifted_any t.b.base A2 c2 t.b.digits X W (r2.below hW) k2 f1 hXb.1 hXb.2)
    have KS3 := (fun W (hW : Below w.heap.size w W) => shifted_any t.s.base A3 c3 t.s.digits Y W (r3.below hW) k3 f2 hYb.1 hYb.2)
    obtain ⟨es, hes⟩ : ∃ es, shiftD t.b.base t.b.digits X = es := ⟨_, rfl⟩
    obtain ⟨fs, hfs⟩ : ∃ fs, shiftD t.s.base t.s.digits Y = fs := ⟨_, rfl⟩
    obtain ⟨bell, hbl⟩ : ∃ e, shiftB t.b.base t.b.digits X = e := ⟨_, rfl⟩
    obtain ⟨bell2, hbl2⟩ : ∃ e, shiftB t.s.base t.s.digits Y = e := ⟨_, rfl⟩
    rw [hes, hbl] at KS2
    rw [hfs, hbl2] at KS3
    rw [hes, hfs, hbl] at hTT
    have HS := Lib.hid (hT.trans hTT)
    have KV := Lib.hid KV
    have KS2 := Lib.hid KS2
    have KS3 := Lib.hid KS3
    have HYY := Lib.hid hY
    have HW1 := Lib.hid (show IntKind.i64.wrap (-V) = -V from wrapI64 (by omega))
    have HW2 := Lib.hid (show IntKind.i64.wrap (-V * U) = X by rw [← hX, Int.neg_one_mul, Int.neg_mul]; exact wrapI64 (by omega))
    clear hT hTT hV hX hY hes hfs hbl hbl2 hd1 hd2 hd3 r1 r2 r3 k1 k2 k3 KC KP f1 f2 l1 p0 p1
    go_wp2_with fail
    have HG := Lib.hid (box7 hK4.drew.drop.drop.drop.drop.drop)
    have HT := HG
    go_cut [7] (fun bb wx => bb = .bool bell ∧ ∃ (E2 : Option Addr) (g2 : Nat), Kn w [.blk w2.heap.size [.int .i64 t.a.base, .slice B1 t.a.digits.length h1, .int .i64 t.b.base, .slice E2 es.length g2, .int .i64 t.s.base, .slice B3 t.s.digits.length h3, .int .i64 t.carry] 28, rowI E2 g2 es, rowI B3 h3 t.s.digits, rowI B2 h2 t.b.digits, rowI B1 h1 t.a.digits, .blk (w.heap.size + 1) [.int .i64 0, .slice none 0 0, .int .i64 0, .slice none 0 0, .int .i64 0, .slice none 0 0, .int .i64 0] 28, .blk w.heap.size [.int .i64 t.a.base, .slice A1 t.a.digits.length c1, .int .i64 t.b.base, .slice A2 t.b.digits.length c2, .int .i64 t.s.base, .slice A3 t.s.digits.length c3, .int .i64 t.carry] 28] wx)
    case first =>
      go_region_held3 (fun W => W.cell? ⟨w.heap.size, 0, none⟩ = some (.int .i64 t.a.base) ∧ W.cell? ⟨w.heap.size, 1, none⟩ = some (.slice A1 t.a.digits.length c1) ∧ W.cell? ⟨w.heap.size, 2, none⟩ = some (.int .i64 t.b.base) ∧ W.cell? ⟨w.heap.size, 3, none⟩ = some (.slice A2 t.b.digits.length c2) ∧ W.cell? ⟨w.heap.size, 4, none⟩ = some (.int .i64 t.s.base) ∧ W.cell? ⟨w.heap.size, 5, none⟩ = some (.slice A3 t.s.digits.length c3) ∧ W.cell? ⟨w.heap.size, 6, none⟩ = some (.int .i64 t.carry))
        (first | with_reducible exact HG.out | with_reducible exact HT.out | exact HG.out | exact HT.out) (first
        | (go_at_call 143; (with_reducible refine (KV.out _ hK4.drew.below).mono ?_); rintro e w5 ⟨rfl, hw⟩; have hK5 := hK4.drew.keep hw; clear HG; have HG := Lib.hid (box7 hK5.drop.drop.drop.drop.drop))
        | (go_at_call 177; (first | (rw [HW1.out]; rw [HW2.out]) | rw [HW2.out]); (with_reducible refine (KS2.out _ hK5.below).mono ?_); rintro e w6 ⟨E2, g2, rfl, hK⟩; have hK6 := hK5.join hK; clear HG; have HG := Lib.hid (box7 hK6.drop.drop.drop.drop.drop.drop); have hK7 := (hK6.sw1.st 2 (.int .i64 t.b.base)).st 3 (.slice E2 es.length g2); have HT := Lib.hid (box7 hK7.drop.drop.drop.drop.drop.drop); obtain ⟨q1, q2, q3⟩ := hK6.drop.blkAt))
      all_goals
        go_wp2_with fail
        go_meet
        exact ⟨rfl, _, _, hK7⟩
    case rest =>
      obtain ⟨rfl, E2, g2, hK5⟩ := hcut
      clear HG HT x1 x2 x3 a1 a2 a3 d1 d2 d3 hK4 KV KS2
      obtain ⟨x1, x2, x3, a1, a2, a3, d1, d2, d3, -⟩ := hK5.cells
      go_wp2_with fail
      rw [show -U = Y by rw [← HYY.out]; omega]
      refine (KS3.out _ hK5.below).mono ?_; rintro e w6 ⟨E3, g3, rfl, hK⟩
      have hK6 := hK5.join hK
      clear x1 x2 x3 a1 a2 a3 d1 d2 d3 hK5
      obtain ⟨x1, x2, x3, a1, a2, a3, d1, d2, d3, -⟩ := hK6.cells
      go_upto_region 22 with fail
      refine Code.wp.kn ((hK6.sw1.st 4 (.int .i64 t.s.base)).st 5 (.slice E3 fs.length g3)) ?_; intro w5 hK5
      clear x1 x2 x3 a1 a2 a3 d1 d2 d3
      obtain ⟨x1, x2, x3, a1, a2, a3, d1, d2, d3, -⟩ := hK5.cells
      go_wp2_with fail
      refine bodyPost.kn ((((((((hK5.front 6 rfl).st 0 (.int .i64 t.a.base)).st 1 (.slice B1 t.a.digits.length h1)).st 2 (.int .i64 t.b.base)).st 3 (.slice E2 es.length g2)).st 4 (.int .i64 t.s.base)).st 5 (.slice E3 fs.length g3)).st 6 (.int .i64 t.carry)) ?_; intro w6 hK6
      clear x1 x2 x3 a1 a2 a3 d1 d2 d3 hK5
      obtain ⟨a1, a2, a3, -⟩ := hK6.cells
      refine bodyPost_ret (v := .tuple #[.agg #[.int .i64 t.a.base, .slice B1 t.a.digits.length h1, .int .i64 t.b.base, .slice E2 es.length g2, .int .i64 t.s.base, .slice E3 fs.length g3, .int .i64 t.carry], .bool bell]) (by simp [results, Try.results169, go_sem, a1]) rfl ⟨B1, h1, E2, g2, E3, g3, by rw [HS.out], ?_⟩
      rw [HS.out]
      exact hK6.sel [2, 3, 6] 99 (by decide) (by decide)
  · subst hk
    have KL := Lib.hid (fun W (hW : Below w.heap.size w W) => places_any t A1 A2 A3 c1 c2 c3 W (r1.below hW) (r2.below hW) (r3.below hW) n2 n4 n6)
    have hvp : vplaces t ≤ 16 := by unfold vplaces; omega
    have hwr := wrapI64 (n := t.carry + 1) (by omega)
    have hc4 : -9223372036854775808 ≤ t.carry + 1 ∧ t.carry + 1 ≤ 9223372036854775807 := by omega
    have hS1 : ¬ t.carry + 1 = vplaces t → strokeT 3 t = ({ t with carry := t.carry + 1 }, false) := fun h => by unfold strokeT; simp [h]
    have hS2 : t.carry + 1 = vplaces t → strokeT 3 t = (t, true) := fun h => by unfold strokeT; simp [h]
    obtain ⟨PL, hPL⟩ : ∃ p, vplaces t = p := ⟨_, rfl⟩
    rw [hPL] at KL hS1 hS2
    have HS1 := Lib.hid hS1
    have HS2 := Lib.hid hS2
    clear hS1 hS2 hPL hvp r1 r2 r3 KC KP u1 u2 u3 u4 f1 f2 l1 p0 p1
    go_wp2_with fail
    have HG := Lib.hid (box7 hK4.drew.drop.drop.drop.drop.drop)
    go_cut [7] (fun bb wx => bb = .bool (t.carry + 1 == PL) ∧ Kn w [.blk w2.heap.size [.int .i64 t.a.base, .slice B1 t.a.digits.length h1, .int .i64 t.b.base, .slice B2 t.b.digits.length h2, .int .i64 t.s.base, .slice B3 t.s.digits.length h3, .int .i64 t.carry] 28, rowI B3 h3 t.s.digits, rowI B2 h2 t.b.digits, rowI B1 h1 t.a.digits, .blk (w.heap.size + 1) [.int .i64 0, .slice none 0 0, .int .i64 0, .slice none 0 0, .int .i64 0, .slice none 0 0, .int .i64 0] 28, .blk w.heap.size [.int .i64 t.a.base, .slice A1 t.a.digits.length c1, .int .i64 t.b.base, .slice A2 t.b.digits.length c2, .int .i64 t.s.base, .slice A3 t.s.digits.length c3, .int .i64 t.carry] 28] wx)
    case first =>
      go_region_held3 (fun W => W.cell? ⟨w.heap.size, 0, none⟩ = some (.int .i64 t.a.base) ∧ W.cell? ⟨w.heap.size, 1, none⟩ = some (.slice A1 t.a.digits.length c1) ∧ W.cell? ⟨w.heap.size, 2, none⟩ = some (.int .i64 t.b.base) ∧ W.cell? ⟨w.heap.size, 3, none⟩ = some (.slice A2 t.b.digits.length c2) ∧ W.cell? ⟨w.heap.size, 4, none⟩ = some (.int .i64 t.s.base) ∧ W.cell? ⟨w.heap.size, 5, none⟩ = some (.slice A3 t.s.digits.length c3) ∧ W.cell? ⟨w.heap.size, 6, none⟩ = some (.int .i64 t.carry))
        (first | with_reducible exact HG.out | exact HG.out) (first
        | (go_at_call 129; (with_reducible refine (KL.out _ hK4.drew.below).mono ?_); rintro e w5 ⟨rfl, hw⟩; have hK5 := hK4.drew.keep hw; clear HG; have HG := Lib.hid (box7 hK5.drop.drop.drop.drop.drop)))
      all_goals
        go_wp2_with fail
        go_meet
        exact ⟨by first | rfl | rw [hwr], hK5⟩
    case rest =>
      obtain ⟨rfl, hK7⟩ := hcut
      clear HG x1 x2 x3 a1 a2 a3 d1 d2 d3 hK4 KL
      obtain ⟨x1, x2, x3, a1, a2, a3, d1, d2, d3, -⟩ := hK7.cells
      rcases hc0 : (t.carry + 1 == PL) with _ | _
      · have HS := Lib.hid (HS1.out (by simpa using hc0))
        clear hc0
        go_upto_region 22 with fail
        refine Code.wp.kn (hK7.st 6 (.int .i64 (t.carry + 1))) ?_; intro w5 hK5
        clear hK7
        clear x1 x2 x3 a1 a2 a3 d1 d2 d3
        obtain ⟨x1, x2, x3, a1, a2, a3, d1, d2, d3, -⟩ := hK5.cells
        go_wp2_with fail
        refine bodyPost.kn ((((((((hK5.front 4 rfl).st 0 (.int .i64 t.a.base)).st 1 (.slice B1 t.a.digits.length h1)).st 2 (.int .i64 t.b.base)).st 3 (.slice B2 t.b.digits.length h2)).st 4 (.int .i64 t.s.base)).st 5 (.slice B3 t.s.digits.length h3)).st 6 (.int .i64 (t.carry + 1))) ?_; intro w6 hK6
        clear x1 x2 x3 a1 a2 a3 d1 d2 d3 hK5
        obtain ⟨a1, a2, a3, -⟩ := hK6.cells
        refine bodyPost_ret (v := .tuple #[.agg #[.int .i64 t.a.base, .slice B1 t.a.digits.length h1, .int .i64 t.b.base, .slice B2 t.b.digits.length h2, .int .i64 t.s.base, .slice B3 t.s.digits.length h3, .int .i64 (t.carry + 1)], .bool false]) (by simp [results, Try.results169, go_sem, a1]) rfl ⟨B1, h1, B2, h2, B3, h3, by rw [HS.out], ?_⟩
        rw [HS.out]
        exact hK6.sel [2, 3, 4] 99 (by decide) (by decide)
      · have HS := Lib.hid (HS2.out (by simpa using hc0))
        clear hc0
        go_upto_region 22 with fail
        refine Code.wp.kn hK7 ?_; intro w5 hK5
        clear hK7
        clear x1 x2 x3 a1 a2 a3 d1 d2 d3
        obtain ⟨x1, x2, x3, a1, a2, a3, d1, d2, d3, -⟩ := hK5.cells
        go_wp2_with fail
        refine bodyPost.kn ((((((((hK5.front 4 rfl).st 0 (.int .i64 t.a.base)).st 1 (.slice B1 t.a.digits.length h1)).st 2 (.int .i64 t.b.base)).st 3 (.slice B2 t.b.digits.length h2)).st 4 (.int .i64 t.s.base)).st 5 (.slice B3 t.s.digits.length h3)).st 6 (.int .i64 t.carry)) ?_; intro w6 hK6
        clear x1 x2 x3 a1 a2 a3 d1 d2 d3 hK5
        obtain ⟨a1, a2, a3, -⟩ := hK6.cells
        refine bodyPost_ret (v := .tuple #[.agg #[.int .i64 t.a.base, .slice B1 t.a.digits.length h1, .int .i64 t.b.base, .slice B2 t.b.digits.length h2, .int .i64 t.s.base, .slice B3 t.s.digits.length h3, .int .i64 t.carry], .bool true]) (by simp [results, Try.results169, go_sem, a1]) rfl ⟨B1, h1, B2, h2, B3, h3, by rw [HS.out], ?_⟩
        rw [HS.out]
        exact hK6.sel [2, 3, 4] 99 (by decide) (by decide)
  · subst hk
    rcases hc0 : decide (t.carry = 0) with _ | _
    · have hc1 := of_decide_eq_false hc0
      have hc2 : (t.carry == 0) = false := by simp; exact hc1
      have hc3 : -9223372036854775808 ≤ t.carry - 1 ∧ t.carry - 1 ≤ 9223372036854775807 := by unfold vplaces at p1; omega
      have HC := Lib.hid hc1
      clear hc0 hc1 u1 u2 u3 u4 f1 f2 l1 p0 p1 KC KP
      go_upto_region 22 with fail
      refine Code.wp.kn (hK4.st 6 (.int .i64 (t.carry - 1))) ?_; intro w5 hK5
      have hS : strokeT 4 t = ({ t with carry := t.carry - 1 }, false) := by unfold strokeT; simp [HC.out]
      have HS := Lib.hid hS
      clear hS hK4
      clear x1 x2 x3 a1 a2 a3 d1 d2 d3
      obtain ⟨x1, x2, x3, a1, a2, a3, d1, d2, d3, -⟩ := hK5.cells
      go_wp2_with fail
      refine bodyPost.kn ((((((((hK5.front 4 rfl).st 0 (.int .i64 t.a.base)).st 1 (.slice B1 t.a.digits.length h1)).st 2 (.int .i64 t.b.base)).st 3 (.slice B2 t.b.digits.length h2)).st 4 (.int .i64 t.s.base)).st 5 (.slice B3 t.s.digits.length h3)).st 6 (.int .i64 (t.carry - 1))) ?_; intro w6 hK6
      clear x1 x2 x3 a1 a2 a3 d1 d2 d3 hK5
      obtain ⟨a1, a2, a3, -⟩ := hK6.cells
      refine bodyPost_ret (v := .tuple #[.agg #[.int .i64 t.a.base, .slice B1 t.a.digits.length h1, .int .i64 t.b.base, .slice B2 t.b.digits.length h2, .int .i64 t.s.base, .slice B3 t.s.digits.length h3, .int .i64 (t.carry - 1)], .bool false]) (by simp [results, Try.results169, go_sem, a1]) rfl ⟨B1, h1, B2, h2, B3, h3, by rw [HS.out], ?_⟩
      rw [HS.out]
      exact hK6.sel [2, 3, 4] 99 (by decide) (by decide)
    · have hc1 := of_decide_eq_true hc0
      have HC := Lib.hid hc1
      have hc2 : (t.carry == 0) = true := by simp; exact hc1
      clear hc0 hc1 u1 u2 u3 u4 f1 f2 l1 p0 p1 KC KP
      go_upto_region 22 with fail
      refine Code.wp.kn hK4 ?_; intro w5 hK5
      have hS : strokeT 4 t = (t, true) := by unfold strokeT; simp [HC.out]
      have HS := Lib.hid hS
      clear hS hK4
      clear x1 x2 x3 a1 a2 a3 d1 d2 d3
      obtain ⟨x1, x2, x3, a1, a2, a3, d1, d2, d3, -⟩ := hK5.cells
      go_wp2_with fail
      refine bodyPost.kn ((((((((hK5.front 4 rfl).st 0 (.int .i64 t.a.base)).st 1 (.slice B1 t.a.digits.length h1)).st 2 (.int .i64 t.b.base)).st 3 (.slice B2 t.b.digits.length h2)).st 4 (.int .i64 t.s.base)).st 5 (.slice B3 t.s.digits.length h3)).st 6 (.int .i64 t.carry)) ?_; intro w6 hK6
      clear x1 x2 x3 a1 a2 a3 d1 d2 d3 hK5
      obtain ⟨a1, a2, a3, -⟩ := hK6.cells
      refine bodyPost_ret (v := .tuple #[.agg #[.int .i64 t.a.base, .slice B1 t.a.digits.length h1, .int .i64 t.b.base, .slice B2 t.b.digits.length h2, .int .i64 t.s.base, .slice B3 t.s.digits.length h3, .int .i64 t.carry], .bool true]) (by simp [results, Try.results169, go_sem, a1]) rfl ⟨B1, h1, B2, h2, B3, h3, by rw [HS.out], ?_⟩
      rw [HS.out]
      exact hK6.sel [2, 3, 4] 99 (by decide) (by decide)
  · subst hk
    have KW2 := (fun W => withValue_any t.b.base A2 t.b.digits.length c2 0 W b3 b4 (by omega) (by decide) (by decide))
    have KW3 := (fun W => withValue_any t.s.base A3 t.s.digits.length c3 0 W b5 b6 (by omega) (by decide) (by decide))
    have hS : strokeT 5 t = (⟨t.a, ⟨t.b.base, digD t.b.base t.b.digits.length 0⟩, ⟨t.s.base, digD t.s.base t.s.digits.length 0⟩, t.carry⟩, false) := by unfold strokeT; simp
    obtain ⟨es, hes⟩ : ∃ es, digD t.b.base t.b.digits.length 0 = es := ⟨_, rfl⟩
    obtain ⟨fs, hfs⟩ : ∃ fs, digD t.s.base t.s.digits.length 0 = fs := ⟨_, rfl⟩
    rw [hes] at KW2
    rw [hfs] at KW3
    rw [hes, hfs] at hS
    have KW2 := Lib.hid KW2
    have KW3 := Lib.hid KW3
    have HS := Lib.hid hS
    clear hS hes hfs r1 r2 r3 KC KP u1 u2 u3 u4 f1 f2 l1 p0 p1
    go_wp2_with fail
    have HG := Lib.hid (box7 hK4.drew.drop.drop.drop.drop.drop)
    have HT := HG
    have HT2 := HG
    go_region_held3 (fun W => W.cell? ⟨w.heap.size, 0, none⟩ = some (.int .i64 t.a.base) ∧ W.cell? ⟨w.heap.size, 1, none⟩ = some (.slice A1 t.a.digits.length c1) ∧ W.cell? ⟨w.heap.size, 2, none⟩ = some (.int .i64 t.b.base) ∧ W.cell? ⟨w.heap.size, 3, none⟩ = some (.slice A2 t.b.digits.length c2) ∧ W.cell? ⟨w.heap.size, 4, none⟩ = some (.int .i64 t.s.base) ∧ W.cell? ⟨w.heap.size, 5, none⟩ = some (.slice A3 t.s.digits.length c3) ∧ W.cell? ⟨w.heap.size, 6, none⟩ = some (.int .i64 t.carry))
      (first | with_reducible exact HG.out | with_reducible exact HT.out | with_reducible exact HT2.out | exact HG.out | exact HT.out | exact HT2.out) (first
      | (go_at_call 178; (with_reducible refine (KW2.out _).mono ?_); rintro e w5 ⟨E2, g2, rfl, hK⟩; have hK5 := hK4.drew.join hK; clear HG; have HG := Lib.hid (box7 hK5.drop.drop.drop.drop.drop.drop))
      | (go_at_call 178; (with_reducible refine (KW3.out _).mono ?_); rintro e w6 ⟨E3, g3, rfl, hK⟩; have hK6 := hK5.join hK; clear HG; have HG := Lib.hid (box7 hK6.drop.drop.drop.drop.drop.drop.drop); have hK7 := (hK6.sw2.st 2 (.int .i64 t.b.base)).st 3 (.slice E2 es.length g2); have HT := Lib.hid (box7 hK7.drop.drop.drop.drop.drop.drop.drop); have hK8 := (hK7.st 4 (.int .i64 t.s.base)).st 5 (.slice E3 fs.length g3); have HT2 := Lib.hid (box7 hK8.drop.drop.drop.drop.drop.drop.drop); obtain ⟨q1, q2, q3⟩ := hK6.drop.drop.blkAt))
    all_goals
      clear x1 x2 x3 a1 a2 a3 d1 d2 d3
      go_upto_region 22 with fail
      refine Code.wp.kn hK8 ?_; intro w5 hK5
      clear hK7 hK8 HG HT HT2 hK6 hK4
      obtain ⟨x1, x2, x3, a1, a2, a3, d1, d2, d3, -⟩ := hK5.cells
      clear x1 x2 x3 a1 a2 a3 d1 d2 d3
      obtain ⟨x1, x2, x3, a1, a2, a3, d1, d2, d3, -⟩ := hK5.cells
      go_wp2_with fail
      refine bodyPost.kn ((((((((hK5.front 6 rfl).st 0 (.int .i64 t.a.base)).st 1 (.slice B1 t.a.digits.length h1)).st 2 (.int .i64 t.b.base)).st 3 (.slice E2 es.length g2)).st 4 (.int .i64 t.s.base)).st 5 (.slice E3 fs.length g3)).st 6 (.int .i64 t.carry)) ?_; intro w6 hK6
      clear x1 x2 x3 a1 a2 a3 d1 d2 d3 hK5
      obtain ⟨a1, a2, a3, -⟩ := hK6.cells
      refine bodyPost_ret (v := .tuple #[.agg #[.int .i64 t.a.base, .slice B1 t.a.digits.length h1, .int .i64 t.b.base, .slice E2 es.length g2, .int .i64 t.s.base, .slice E3 fs.length g3, .int .i64 t.carry], .bool false]) (by simp [results, Try.results169, go_sem, a1]) rfl ⟨B1, h1, E2, g2, E3, g3, by rw [HS.out], ?_⟩
      rw [HS.out]
      exact hK6.sel [2, 3, 6] 99 (by decide) (by decide)
  · subst hk
    have KW2 := (fun W => withValue_any t.a.base A1 t.a.digits.length c1 0 W b1 b2 (by omega) (by decide) (by decide))
    have hS : strokeT 6 t = ({ t with a := ⟨t.a.base, digD t.a.base t.a.digits.length 0⟩ }, false) := by unfold strokeT; simp
    obtain ⟨es, hes⟩ : ∃ es, digD t.a.base t.a.digits.length 0 = es := ⟨_, rfl⟩
    rw [hes] at KW2 hS
    have KW2 := Lib.hid KW2
    have HS := Lib.hid hS
    clear hS hes r1 r2 r3 KC KP u1 u2 u3 u4 f1 f2 l1 p0 p1
    go_upto_region 22 with (go_at_call 178; (with_reducible refine (KW2.out _).mono ?_); rintro e w5 ⟨E2, g2, rfl, hK⟩; have hK6 := hK4.join hK; clear x1 x2 x3 a1 a2 a3 d1 d2 d3; obtain ⟨x1, x2, x3, a1, a2, a3, d1, d2, d3, -⟩ := hK6.cells)
    refine Code.wp.kn ((hK6.sw1.st 0 (.int .i64 t.a.base)).st 1 (.slice E2 es.length g2)) ?_; intro w5 hK5
    clear hK6 hK4
    clear x1 x2 x3 a1 a2 a3 d1 d2 d3
    obtain ⟨x1, x2, x3, a1, a2, a3, d1, d2, d3, -⟩ := hK5.cells
    go_wp2_with fail
    refine bodyPost.kn ((((((((hK5.front 5 rfl).st 0 (.int .i64 t.a.base)).st 1 (.slice E2 es.length g2)).st 2 (.int .i64 t.b.base)).st 3 (.slice B2 t.b.digits.length h2)).st 4 (.int .i64 t.s.base)).st 5 (.slice B3 t.s.digits.length h3)).st 6 (.int .i64 t.carry)) ?_; intro w6 hK6
    clear x1 x2 x3 a1 a2 a3 d1 d2 d3 hK5
    obtain ⟨a1, a2, a3, -⟩ := hK6.cells
    refine bodyPost_ret (v := .tuple #[.agg #[.int .i64 t.a.base, .slice E2 es.length g2, .int .i64 t.b.base, .slice B2 t.b.digits.length h2, .int .i64 t.s.base, .slice B3 t.s.digits.length h3, .int .i64 t.carry], .bool false]) (by simp [results, Try.results169, go_sem, a1]) rfl ⟨E2, g2, B2, h2, B3, h3, by rw [HS.out], ?_⟩
    rw [HS.out]
    exact hK6.sel [3, 4, 2] 99 (by decide) (by decide)
end Go.Proofs.Ytkfbfainhmkkdaa

namespace Go.Proofs.Ytkfbfainhmkkdaa
open Go.RowKit Go.Sort
theorem RegAt.below {w w' : World} {p : Addr} {b : Int} {A : Option Addr} {n c : Nat} (h : RegAt w p b A n c) (hb : Below w.heap.size w w') : RegAt w' p b A n c := by
  have hp : p.block < w.heap.size := World.block_lt_of_cell? w p h.1
  exact ⟨by rw [hb.cell hp]; exact h.1, by rw [hb.cell (by exact hp)]; exact h.2⟩
theorem l02Own_any (p : Addr) (b : Int) (A : Option Addr) (n c : Nat) (ds : List Int) (w : World) (hp : RegAt w p b A n c) (hr : RI w A n ds) (h0 : 0 < n) (hm : n ≤ 1000000) :
    Calls Try.prog 159 #[.pointer (some p)] w fun e w' => ∃ A' c', e = .returned (.agg #[.int .i64 b, .slice A' ds.length c']) ∧ Kn w [rowI A' c' ds] w' := by
  have KC := Lib.hid (fun W (hW : Below w.heap.size w W) => l00Own_any A n c ds W (hr.below hW) h0 hm)
  have hl := hr.1
  subst hl
  clear hr
  have HP := Lib.hid (fun W (hW : Below w.heap.size w W) => hp.below hW)
  go_enter Try.func159, Try.ntmps159
  go_wp2_with fail
  have hK2 := (Kn.nil w).al [.int .i64 0, .slice none 0 0] 26
  generalize w.alloc (.cells #[.int .i64 0, .slice none 0 0] 26) = w2 at hK2 ⊢
  have HG := Lib.hid (show _ ∧ _ from HP.out _ hK2.drew.below)
  go_region_held3 (fun W => W.cell? p = some (.int .i64 b) ∧ W.cell? ⟨p.block, p.off + 1, none⟩ = some (.slice A ds.length c))
    (first | with_reducible exact HG.out | with_reducible exact HS.out | exact HG.out) (first
    | (go_at_call 170; refine (KC.out _ hK2.drew.below).mono ?_; rintro e w4 ⟨A', c', rfl, hK⟩; have hK4 := hK2.drew.join hK; clear HG; have hq := HP.out _ hK4.below; have HG := Lib.hid (show _ ∧ _ from hq); obtain ⟨g1, f1, l1⟩ := hK4.drop.blkAt; have hK5 := (hK4.sw1.st 0 (.int .i64 b)).st 1 (.slice A' ds.length c'); have HS := Lib.hid (show _ ∧ _ from HP.out _ hK5.below)))
  all_goals
    go_wp2_with fail
    refine bodyPost_ret (v := .agg #[.int .i64 b, .slice A' ds.length c']) (by simp [results, Try.results159, go_sem, g1]) rfl ⟨A', c', rfl, ?_⟩
    exact hK5.drop
set_option maxRecDepth 100000 in
set_option maxHeartbeats 1600000 in
theorem l10Own_any (g : Nat) (t : Tri) (A1 A2 A3 : Option Addr) (c1 c2 c3 : Nat) (w : World) (hT : TriC w ⟨g, 0, none⟩ t A1 c1 A2 c2 A3 c3) (hz : Sized t) :
    Calls Try.prog 136 #[.pointer (some ⟨g, 0, none⟩)] w fun e w' => ∃ A1 c1 A2 c2 A3 c3, e = .returned (.agg #[.int .i64 t.a.base, .slice A1 t.a.digits.length c1, .int .i64 t.b.base, .slice A2 t.b.digits.length c2, .int .i64 t.s.base, .slice A3 t.s.digits.length c3, .int .i64 t.carry]) ∧ Kn w [rowI A3 c3 t.s.digits, rowI A2 c2 t.b.digits, rowI A1 c1 t.a.digits] w' := by
  obtain ⟨⟨q1, q2, q3, q4, q5, q6, q7⟩, r1, r2, r3⟩ := hT
  simp only [Nat.zero_add] at q1 q2 q3 q4 q5 q6 q7
  have hlt : g < w.heap.size := World.block_lt_of_cell? w _ q1
  have K1 := Lib.hid (fun W (hW : Below w.heap.size w W) => l02Own_any ⟨g, 0, none⟩ t.a.base A1 t.a.digits.length c1 t.a.digits W (RegAt.below ⟨q1, q2⟩ hW) (r1.below hW) hz.a0 (by have := hz.a; omega))
  have K2 := Lib.hid (fun W (hW : Below w.heap.size w W) => l02Own_any ⟨g, 2, none⟩ t.b.base A2 t.b.digits.length c2 t.b.digits W (RegAt.below ⟨q3, q4⟩ hW) (r2.below hW) hz.b0 (by have := hz.b; omega))
  have K3 := Lib.hid (fun W (hW : Below w.heap.size w W) => l02Own_any ⟨g, 4, none⟩ t.s.base A3 t.s.digits.length c3 t.s.digits W (RegAt.below ⟨q5, q6⟩ hW) (r3.below hW) hz.s0 (by have := hz.s; omega))
  have HP := Lib.hid (fun W (hW : Below w.heap.size w W) => (hW.cell (p := ⟨g, 6, none⟩) hlt).trans q7)
  clear q1 q2 q3 q4 q5 q6 q7 r1 r2 r3 hz
  go_enter Try.func136, Try.ntmps136
  go_wp2_with fail
  have hK2 := (Kn.nil w).al [.int .i64 0, .slice none 0 0, .int .i64 0, .slice none 0 0, .int .i64 0, .slice none 0 0, .int .i64 0] 28
  generalize w.alloc (.cells #[.int .i64 0, .slice none 0 0, .int .i64 0, .slice none 0 0, .int .i64 0, .slice none 0 0, .int .i64 0] 28) = w2 at hK2 ⊢
  have HG := Lib.hid (HP.out _ hK2.drew.below)
  go_region_held3 (fun W => W.cell? ⟨g, 6, none⟩ = some (.int .i64 t.carry))
    (first | with_reducible exact HG.out | with_reducible exact HS.out | exact HG.out) (first
    | (go_at_call 159; (with_reducible refine (K1.out _ hK2.drew.below).mono ?_); rintro e w4 ⟨B1, e1, rfl, hK⟩; have hK4 := hK2.drew.join hK; clear HG; have hq := HP.out _ hK4.below; have HG := Lib.hid hq)
    | (go_at_call 159; (with_reducible refine (K2.out _ hK4.below).mono ?_); rintro e w5 ⟨B2, e2, rfl, hK⟩; have hK5 := hK4.join hK; clear HG; have hq := HP.out _ hK5.below; have HG := Lib.hid hq)
    | (go_at_call 159; (with_reducible refine (K3.out _ hK5.below).mono ?_); rintro e w6 ⟨B3, e3, rfl, hK⟩; have hK6 := hK5.join hK; clear HG; have hq := HP.out _ hK6.below; have HG := Lib.hid hq; have hK7 := ((((((hK6.sw3.st 0 (.int .i64 t.a.base)).st 1 (.slice B1 t.a.digits.length e1)).st 2 (.int .i64 t.b.base)).st 3 (.slice B2 t.b.digits.length e2)).st 4 (.int .i64 t.s.base)).st 5 (.slice B3 t.s.digits.length e3)).st 6 (.int .i64 t.carry); have hq2 := HP.out _ hK7.below; have HS := Lib.hid hq2; obtain ⟨g1, f1, l1⟩ := hK6.drop.drop.drop.blkAt))
  all_goals
    go_wp2_with fail
    refine bodyPost_ret (v := .agg #[.int .i64 t.a.base, .slice B1 t.a.digits.length e1, .int .i64 t.b.base, .slice B2 t.b.digits.length e2, .int .i64 t.s.base, .slice B3 t.s.digits.length e3, .int .i64 t.carry]) (by simp [results, Try.results136, go_sem, g1]) rfl ⟨B1, e1, B2, e2, B3, e3, rfl, ?_⟩
    exact hK7.drop
end Go.Proofs.Ytkfbfainhmkkdaa

namespace Go.Proofs.Ytkfbfainhmkkdaa
open Go.RowKit Go.Sort
/-- the first k numbers are 0 -/
def zeroUpto (k : Nat) (ds : List Int) : List Int := List.replicate k 0 ++ ds.drop k
theorem zeroUpto_len {k : Nat} {ds : List Int} (h : k ≤ ds.length) : (zeroUpto k ds).length = ds.length := by simp [zeroUpto]; omega
theorem zeroUpto_step {k : Nat} {ds : List Int} (h : k < ds.length) : (zeroUpto k ds).set k 0 = zeroUpto (k + 1) ds := by
  unfold zeroUpto
  rw [List.set_append_right _ _ (by simp), List.drop_eq_getElem_cons h, List.replicate_succ', List.length_replicate, Nat.sub_self, List.set_cons_zero, List.append_assoc]
  rfl
theorem zeroUpto_all (ds : List Int) : zeroUpto ds.length ds = List.replicate ds.length 0 := by simp [zeroUpto]
set_option maxHeartbeats 800000 in
/-- digits of numbers that are owned are set to 0 -/
theorem l10ZeroK {w0 : World} {m : List Ent} {cs : List Value} {T : TypeId} {g o : Nat} (A : Option Addr) (c : Nat) (ds : List Int) (w : World) (hK : Kn w0 (rowI A c ds :: .blk g cs T :: m) w) (ho : cs[o + 1]? = some (.slice A ds.length c)) (h0 : 0 < ds.length) (hl : ds.length ≤ 1000000) :
    Calls Try.prog 176 #[.pointer (some ⟨g, o, none⟩)] w fun e w' => e = .returned (.tuple #[]) ∧ Kn w0 (rowI A c (List.replicate ds.length 0) :: .blk g cs T :: m) w' := by
  obtain ⟨r, c', hA⟩ := Kn.rowForm hK h0
  injection hA with hA hA2 hA3
  subst hA; subst hA3
  have HO := Lib.hid ho; clear ho
  go_enter Try.func176, Try.ntmps176
  go_wp2_with fail
  go_loopw [2] (fun ii wr => ∃ k : Nat, k ≤ ds.length ∧ ii = .int .i64 k ∧ Kn w0 (rowI (some ⟨r, 0, none⟩) c (zeroUpto k ds) :: .blk g cs T :: m) wr) (fun i _ => ds.length - (intOf i).toNat)
  case atStart => exact ⟨0, Nat.zero_le _, rfl, hK⟩
  case round =>
    clear hK
    obtain ⟨k, hk, rfl, hK⟩ := hrel
    have x1 := (hK.drop.blkAt.1 (o + 1)).trans HO.out
    by_cases hlt : k < ds.length
    · have hz := zeroUpto_step hlt
      have hlen := zeroUpto_len hk
      have hj : ∃ z : Value, ((zeroUpto k ds).map (Value.int .i64))[k]? = some z := ⟨_, by rw [List.getElem?_map, List.getElem?_eq_getElem (show k < (zeroUpto k ds).length by omega)]; rfl⟩
      obtain ⟨z, hj⟩ := hj
      obtain ⟨x2, x3⟩ := Kn.rowCell hK hj
      have HZ := Lib.hid hz
      clear hz hj hlen
      have hi1 : (k : Int) < (ds.length : Int) := by omega
      go_wp2_with fail
      go_roundw
      case rel => exact ⟨k + 1, by omega, by go_num, by rw [← HZ.out]; exact Kn.setI hK k 0⟩
      case measure => simp [intOf]; omega
    · have hi1 : ¬ (k : Int) < (ds.length : Int) := by omega
      obtain rfl : k = ds.length := by omega
      go_wp2_with fail
      go_end0
      exact ⟨rfl, by rw [← zeroUpto_all]; exact hK⟩
end Go.Proofs.Ytkfbfainhmkkdaa

namespace Go.Proofs.Ytkfbfainhmkkdaa
open Go.RowKit Go.Sort
theorem l10Places_any (p : Addr) (t : Tri) (w : World) (hT : TriM w p t) (h1 : t.a.digits.length ≤ 16) (h2 : t.b.digits.length ≤ 16) (_h3 : t.s.digits.length ≤ 16) :
    Calls Try.prog 134 #[.pointer (some p)] w fun e w' => e = .returned (.int .i64 (vplaces t)) ∧ ∃ m, w' = w.drewN m := by
  obtain ⟨A1, c1, A2, c2, A3, c3, ⟨g1, g2, g3, g4, g5, g6, g7⟩, r1, r2, r3⟩ := hT.cells
  go_enter Try.func134, Try.ntmps134
  go_wp2_with fail
  go_quiet ((go_at_call 151; exact quiet_left (l00Min_any _ _ _)))
  go_wp2
  go_ret
  exact ⟨ret_int (by unfold vplaces; omega), _, rfl⟩
set_option maxRecDepth 100000 in
set_option maxHeartbeats 1600000 in
theorem l10Ok_any (p : Addr) (t : Tri) (w : World) (hT : TriM w p t) (hs : SmallTri t) :
    Calls Try.prog 68 #[.pointer (some p)] w fun e w' => e = .returned (.bool (vmach t)) ∧ ∃ m, w' = w.drewN m := by
  have HV := Lib.hid (show vmach t = (((t.a.ok && t.b.ok && t.s.ok) && ((t.a.base == t.b.base) && (t.s.base == t.b.base) && fullB t.b && fullB t.s)) && (decide (t.a.digits.length ≤ t.b.digits.length) && betB t.carry 0 (vplaces t - 1))) from rfl)
  have K1 := Lib.hid (fun (m : Nat) => l02Ok_reg p t.a (w.drewN m) hT.1 hs.1)
  have K2 := Lib.hid (fun (m : Nat) => l02Ok_reg ⟨p.block, p.off + 2, none⟩ t.b (w.drewN m) hT.2.1 hs.2.1)
  have K3 := Lib.hid (fun (m : Nat) => l02Ok_reg ⟨p.block, p.off + 4, none⟩ t.s (w.drewN m) hT.2.2.1 hs.2.2)
  have KP := Lib.hid (fun (m : Nat) => l10Places_any p t (w.drewN m) hT)
  obtain ⟨A1, c1, A2, c2, A3, c3, ⟨g1, g2, g3, g4, g5, g6, g7⟩, r1, r2, r3⟩ := hT.cells
  clear r1 r2 r3 hT
  go_enter Try.func68, Try.ntmps68
  rcases k1 : t.a.ok with _ | _
  · have HF : Hid (vmach t = false) := by simp only [Hid]; rw [HV.out, k1]; rfl
    have H1 := Lib.hid k1; clear k1
    try (have H2 := Lib.hid k2; clear k2)
    try (have H3 := Lib.hid k3; clear k3)
    go_wp2_with fail
    go_quiet ((go_at_call 92; first | (with_reducible exact quiet_of_ex (K1.out _ _ H1.out)) | (with_reducible exact quiet_of_ex (K2.out _ _ H2.out)) | (with_reducible exact quiet_of_ex (K3.out _ _ H3.out)) | (with_reducible exact quiet_add_ex (K1.out _ _ H1.out)) | (with_reducible exact quiet_add_ex (K2.out _ _ H2.out)) | (with_reducible exact quiet_add_ex (K3.out _ _ H3.out))))
    go_wp2
    go_ret
    exact ⟨ret_bool HF.out.symm, by first | exact ⟨_, rfl⟩ | exact ⟨_, World.drewN_drewN _ _ _⟩⟩
  rcases k2 : t.b.ok with _ | _
  · have HF : Hid (vmach t = false) := by simp only [Hid]; rw [HV.out, k1, k2]; rfl
    have H1 := Lib.hid k1; clear k1
    try (have H2 := Lib.hid k2; clear k2)
    try (have H3 := Lib.hid k3; clear k3)
    go_wp2_with fail
    go_quiet ((go_at_call 92; first | (with_reducible exact quiet_of_ex (K1.out _ _ H1.out)) | (with_reducible exact quiet_of_ex (K2.out _ _ H2.out)) | (with_reducible exact quiet_of_ex (K3.out _ _ H3.out)) | (with_reducible exact quiet_add_ex (K1.out _ _ H1.out)) | (with_reducible exact quiet_add_ex (K2.out _ _ H2.out)) | (with_reducible exact quiet_add_ex (K3.out _ _ H3.out))))
    go_wp2
    go_ret
    exact ⟨ret_bool HF.out.symm, by first | exact ⟨_, rfl⟩ | exact ⟨_, World.drewN_drewN _ _ _⟩⟩
  rcases k3 : t.s.ok with _ | _
  · have HF : Hid (vmach t = false) := by simp only [Hid]; rw [HV.out, k1, k2, k3]; rfl
    have H1 := Lib.hid k1; clear k1
    try (have H2 := Lib.hid k2; clear k2)
    try (have H3 := Lib.hid k3; clear k3)
    go_wp2_with fail
    go_quiet ((go_at_call 92; first | (with_reducible exact quiet_of_ex (K1.out _ _ H1.out)) | (with_reducible exact quiet_of_ex (K2.out _ _ H2.out)) | (with_reducible exact quiet_of_ex (K3.out _ _ H3.out)) | (with_reducible exact quiet_add_ex (K1.out _ _ H1.out)) | (with_reducible exact quiet_add_ex (K2.out _ _ H2.out)) | (with_reducible exact quiet_add_ex (K3.out _ _ H3.out))))
    go_wp2
    go_ret
    exact ⟨ret_bool HF.out.symm, by first | exact ⟨_, rfl⟩ | exact ⟨_, World.drewN_drewN _ _ _⟩⟩
  rcases k4 : (t.a.base == t.b.base) with _ | _
  · have HF : Hid (vmach t = false) := by simp only [Hid]; rw [HV.out, k1, k2, k3, k4]; rfl
    have i4 : (t.a.base != t.b.base) = true := by simp [bne, k4]
    clear k4
    have H1 := Lib.hid k1; clear k1
    try (have H2 := Lib.hid k2; clear k2)
    try (have H3 := Lib.hid k3; clear k3)
    go_wp2_with fail
    go_quiet ((go_at_call 92; first | (with_reducible exact quiet_of_ex (K1.out _ _ H1.out)) | (with_reducible exact quiet_of_ex (K2.out _ _ H2.out)) | (with_reducible exact quiet_of_ex (K3.out _ _ H3.out)) | (with_reducible exact quiet_add_ex (K1.out _ _ H1.out)) | (with_reducible exact quiet_add_ex (K2.out _ _ H2.out)) | (with_reducible exact quiet_add_ex (K3.out _ _ H3.out))))
    go_wp2
    go_ret
    exact ⟨ret_bool HF.out.symm, by first | exact ⟨_, rfl⟩ | exact ⟨_, World.drewN_drewN _ _ _⟩⟩
  rcases k5 : (t.s.base == t.b.base) with _ | _
  · have HF : Hid (vmach t = false) := by simp only [Hid]; rw [HV.out, k1, k2, k3, k4, k5]; rfl
    have e4 := eq_of_beq k4
    have i4 : (t.a.base != t.b.base) = false := by simp [bne, k4]
    have i5 : (t.a.base != t.s.base) = true := by
      rw [e4, bne_iff_ne]; intro h; rw [h] at k5; simp at k5
    have i6 : (t.b.base != t.s.base) = true := by rw [← e4]; exact i5
    clear k4 k5 e4
    have H1 := Lib.hid k1; clear k1
    try (have H2 := Lib.hid k2; clear k2)
    try (have H3 := Lib.hid k3; clear k3)
    go_wp2_with fail
    go_quiet ((go_at_call 92; first | (with_reducible exact quiet_of_ex (K1.out _ _ H1.out)) | (with_reducible exact quiet_of_ex (K2.out _ _ H2.out)) | (with_reducible exact quiet_of_ex (K3.out _ _ H3.out)) | (with_reducible exact quiet_add_ex (K1.out _ _ H1.out)) | (with_reducible exact quiet_add_ex (K2.out _ _ H2.out)) | (with_reducible exact quiet_add_ex (K3.out _ _ H3.out))))
    go_wp2
    go_ret
    exact ⟨ret_bool HF.out.symm, by first | exact ⟨_, rfl⟩ | exact ⟨_, World.drewN_drewN _ _ _⟩⟩
  have e4 := eq_of_beq k4
  have e5 := eq_of_beq k5
  have i4 : (t.a.base != t.b.base) = false := by simp [bne, k4]
  have i5 : (t.a.base != t.s.base) = false := by simp [e4, e5]
  obtain ⟨p1, p2, p3⟩ := ok_bd k1
  obtain ⟨p4, p5, p6⟩ := ok_bd k2
  obtain ⟨p7, p8, p9⟩ := ok_bd k3
  have HV := Lib.hid (show vmach t = ((fullB t.b && fullB t.s) && (decide (t.a.digits.length ≤ t.b.digits.length) && betB t.carry 0 (vplaces t - 1))) by rw [HV.out, k1, k2, k3, k4, k5]; simp)
  have H1 := Lib.hid k1; have H2 := Lib.hid k2; have H3 := Lib.hid k3
  have F1 := Lib.hid (fun (v : Bool) (hv : fullB t.b = v) W => calls_val (l10Full_any t.a.base t.b.digits.length W p1 p2 (by omega)) (congrArg Value.bool (show _ = v by rw [← hv]; unfold fullB; rw [e4])))
  have F2 := Lib.hid (fun (v : Bool) (hv : fullB t.s = v) W => calls_val (l10Full_any t.a.base t.s.digits.length W p1 p2 (by omega)) (congrArg Value.bool (show _ = v by rw [← hv]; unfold fullB; rw [e4, ← e5])))
  have hvp : vplaces t ≤ 16 ∧ -16 ≤ vplaces t := by unfold vplaces; omega
  clear k1 k2 k3 k4 k5 e4 e5
  go_wp2_with fail
  go_quiet ((go_at_call 92; first | (with_reducible exact quiet_of_ex (K1.out _ _ H1.out)) | (with_reducible exact quiet_of_ex (K2.out _ _ H2.out)) | (with_reducible exact quiet_of_ex (K3.out _ _ H3.out)) | (with_reducible exact quiet_add_ex (K1.out _ _ H1.out)) | (with_reducible exact quiet_add_ex (K2.out _ _ H2.out)) | (with_reducible exact quiet_add_ex (K3.out _ _ H3.out))))
  rcases f1 : fullB t.b with _ | _
  · have FF1 := Lib.hid f1; clear f1
    go_wp2_with (go_at_call 133; refine (F1.out _ FF1.out _).mono ?_; rintro e w' ⟨rfl, rfl⟩)
    go_ret
    exact ⟨ret_bool (by rw [HV.out, FF1.out]; rfl), _, rfl⟩
  rcases f2 : fullB t.s with _ | _
  · have FF1 := Lib.hid f1; have FF2 := Lib.hid f2; clear f1 f2
    go_wp2_with (go_at_call 133; first | (with_reducible refine (F1.out _ FF1.out _).mono ?_; rintro e w' ⟨rfl, rfl⟩) | (with_reducible refine (F2.out _ FF2.out _).mono ?_; rintro e w' ⟨rfl, rfl⟩))
    go_ret
    exact ⟨ret_bool (by rw [HV.out, FF1.out, FF2.out]; rfl), _, rfl⟩
  have HV := Lib.hid (show vmach t = (decide (t.a.digits.length ≤ t.b.digits.length) && betB t.carry 0 (vplaces t - 1)) by rw [HV.out, f1, f2]; simp)
  have FF1 := Lib.hid f1; have FF2 := Lib.hid f2; clear f1 f2
  by_cases k6 : t.a.digits.length ≤ t.b.digits.length
  · have i6 : (t.a.digits.length : Int) ≤ (t.b.digits.length : Int) := by omega
    have K6 := Lib.hid k6; clear k6
    go_wp2_with (go_at_call 133; first | (with_reducible refine (F1.out _ FF1.out _).mono ?_; rintro e w' ⟨rfl, rfl⟩) | (with_reducible refine (F2.out _ FF2.out _).mono ?_; rintro e w' ⟨rfl, rfl⟩))
    go_quiet ((first | (go_at_call 134; first | (with_reducible exact quiet_of_ex (KP.out _ p3 p6 p9)) | (with_reducible exact quiet_add_ex (KP.out _ p3 p6 p9)) | exact Calls.quiet_of (l10Places_any _ _ _ (by assumption) p3 p6 p9)) | (go_at_call 85; first | exact quiet_left (l00In_any _ _ _ _) | exact quiet_add_left (l00In_any _ _ _ _))))
    go_wp2
    go_ret
    exact ⟨ret_bool (by rw [HV.out, decide_eq_true K6.out]; rfl), by first | exact ⟨_, rfl⟩ | exact ⟨_, World.drewN_drewN _ _ _⟩⟩
  · have i6 : decide ((t.a.digits.length : Int) ≤ (t.b.digits.length : Int)) = false := decide_eq_false (by omega)
    have i7 : decide (t.a.digits.length ≤ t.b.digits.length) = false := decide_eq_false (by omega)
    have K6 := Lib.hid k6; clear k6
    go_wp2_with (go_at_call 133; first | (with_reducible refine (F1.out _ FF1.out _).mono ?_; rintro e w' ⟨rfl, rfl⟩) | (with_reducible refine (F2.out _ FF2.out _).mono ?_; rintro e w' ⟨rfl, rfl⟩))
    go_quiet ((first | (go_at_call 134; first | (with_reducible exact quiet_of_ex (KP.out _ p3 p6 p9)) | (with_reducible exact quiet_add_ex (KP.out _ p3 p6 p9)) | exact Calls.quiet_of (l10Places_any _ _ _ (by assumption) p3 p6 p9)) | (go_at_call 85; first | exact quiet_left (l00In_any _ _ _ _) | exact quiet_add_left (l00In_any _ _ _ _))))
    go_wp2
    go_ret
    exact ⟨ret_bool (by rw [HV.out, decide_eq_false K6.out]; rfl), by first | exact ⟨_, rfl⟩ | exact ⟨_, World.drewN_drewN _ _ _⟩⟩
end Go.Proofs.Ytkfbfainhmkkdaa

namespace Go.Proofs.Ytkfbfainhmkkdaa
open Go.RowKit Go.Sort
theorem l10PlacesK {w0 : World} {m : List Ent} {rest : List Value} {T : TypeId} {g : Nat} (t : Tri) (A1 A2 A3 : Option Addr) (c1 c2 c3 : Nat) (w : World) (hK : Kn w0 (.blk g (.int .i64 t.a.base :: .slice A1 t.a.digits.length c1 :: .int .i64 t.b.base :: .slice A2 t.b.digits.length c2 :: .int .i64 t.s.base :: .slice A3 t.s.digits.length c3 :: .int .i64 t.carry :: rest) T :: m) w) (h1 : t.a.digits.length ≤ 16) (h2 : t.b.digits.length ≤ 16) (_h3 : t.s.digits.length ≤ 16) :
    Calls Try.prog 134 #[.pointer (some ⟨g, 0, none⟩)] w fun e w' => e = .returned (.int .i64 (vplaces t)) ∧ ∃ q, w' = w.drewN q := by
  obtain ⟨a1, a2, a3⟩ := hK.blkAt
  clear hK
  go_enter Try.func134, Try.ntmps134
  go_wp2_with fail
  go_quiet ((go_at_call 151; exact quiet_left (l00Min_any _ _ _)))
  go_wp2
  go_ret
  exact ⟨ret_int (by unfold vplaces; omega), _, rfl⟩
set_option maxHeartbeats 1600000 in
theorem l10ShiftK {w0 : World} {m : List Ent} {rest : List Value} {T : TypeId} {g : Nat} (t : Tri) (A1 A2 A3 : Option Addr) (c1 c2 c3 : Nat) (by_ : Int) (w : World) (hK : Kn w0 (.blk g (.int .i64 t.a.base :: .slice A1 t.a.digits.length c1 :: .int .i64 t.b.base :: .slice A2 t.b.digits.length c2 :: .int .i64 t.s.base :: .slice A3 t.s.digits.length c3 :: .int .i64 t.carry :: rest) T :: m) w) (hv : vmach t = true) (hb : by_ = 1 ∨ by_ = -1) :
    Calls Try.prog 175 #[.pointer (some ⟨g, 0, none⟩), .int .i64 by_] w fun e w' => 
      (betB (t.carry + by_) 0 (vplaces t - 1) = true → e = .returned (.bool false) ∧ Kn w0 (.blk g (.int .i64 t.a.base :: .slice A1 t.a.digits.length c1 :: .int .i64 t.b.base :: .slice A2 t.b.digits.length c2 :: .int .i64 t.s.base :: .slice A3 t.s.digits.length c3 :: .int .i64 (t.carry + by_) :: rest) T :: m) w') ∧ (betB (t.carry + by_) 0 (vplaces t - 1) = false → e = .returned (.bool true) ∧ Kn w0 (.blk g (.int .i64 t.a.base :: .slice A1 t.a.digits.length c1 :: .int .i64 t.b.base :: .slice A2 t.b.digits.length c2 :: .int .i64 t.s.base :: .slice A3 t.s.digits.length c3 :: .int .i64 t.carry :: rest) T :: m) w') := by
  obtain ⟨k1, k2, k3, e1, e2, f1, f2, l1, p0, p1⟩ := vmach_all hv
  obtain ⟨-, ⟨n1, n2⟩, -, -⟩ := vreg_iff.1 k1
  obtain ⟨-, ⟨n3, n4⟩, -, -⟩ := vreg_iff.1 k2
  obtain ⟨-, ⟨n5, n6⟩, -, -⟩ := vreg_iff.1 k3
  have hp1 : -16 ≤ vplaces t ∧ vplaces t ≤ 16 := by unfold vplaces; omega
  have KP := Lib.hid (fun W (h : Kn w0 (.blk g (.int .i64 t.a.base :: .slice A1 t.a.digits.length c1 :: .int .i64 t.b.base :: .slice A2 t.b.digits.length c2 :: .int .i64 t.s.base :: .slice A3 t.s.digits.length c3 :: .int .i64 t.carry :: rest) T :: m) W) => l10PlacesK t A1 A2 A3 c1 c2 c3 W h n2 n4 n6)
  have hw := wrapI64 (n := t.carry + by_) (by omega)
  have hw2 := wrapI64 (n := vplaces t - 1) (by omega)
  obtain ⟨P, hP⟩ : ∃ P, vplaces t = P := ⟨_, rfl⟩
  rw [hP] at KP hw2 hp1 p1 ⊢
  obtain ⟨a1, a2, a3⟩ := hK.blkAt
  clear k1 k2 k3 f1 f2 l1 n1 n2 n3 n4 n5 n6 hP e1 e2 hv
  rcases hbt : betB (t.carry + by_) 0 (P - 1) with _ | _
  · have KI := Lib.hid (fun W => calls_val (l00In_any (t.carry + by_) 0 (P - 1) W) (congrArg Value.bool hbt))
    clear hbt
    go_enter Try.func175, Try.ntmps175
    go_wp2_with fail
    go_quiet ((first | (go_at_call 134; first | exact quiet_of_ex (KP.out _ (hK.drewN _)) | exact quiet_add_ex (KP.out _ (hK.drewN _))) | (go_at_call 85; first | exact quiet_left (KI.out _) | exact quiet_add_left (KI.out _))))
    go_wp2_with fail
    go_ret
    exact ⟨(fun h => by cases h), fun _ => ⟨rfl, hK.drewN _⟩⟩
  · have KI := Lib.hid (fun W => calls_val (l00In_any (t.carry + by_) 0 (P - 1) W) (congrArg Value.bool hbt))
    clear hbt
    go_enter Try.func175, Try.ntmps175
    go_wp2_with fail
    go_quiet ((first | (go_at_call 134; first | exact quiet_of_ex (KP.out _ (hK.drewN _)) | exact quiet_add_ex (KP.out _ (hK.drewN _))) | (go_at_call 85; first | exact quiet_left (KI.out _) | exact quiet_add_left (KI.out _))))
    go_wp2_with fail
    go_ret
    exact ⟨fun _ => ⟨rfl, (hK.drewN _).st 6 _⟩, (fun h => by cases h)⟩
end Go.Proofs.Ytkfbfainhmkkdaa

namespace Go.Proofs.Ytkfbfainhmkkdaa
open Go.RowKit Go.Sort
set_option maxRecDepth 100000 in
set_option maxHeartbeats 1600000 in
theorem l10Move_any (p : Addr) (b : Int) (A : Option Addr) (c : Nat) (ds : List Int) (x : Int) (w : World) (hp : RegAt w p b A ds.length c) (hr : RI w A ds.length ds) (hv : vreg b ds = true) (hpw : pw b ds.length ≤ 1000000000001) (hx0 : -1000000000001 ≤ x) (hx1 : x ≤ 1000000000001) :
    Calls Try.prog 179 #[.pointer (some p), .int .i64 x] w fun e w' => ∃ A' c', e = .returned (.tuple #[.agg #[.int .i64 b, .slice A' (shiftD b ds x).length c'], .bool (shiftB b ds x)]) ∧ Kn w [rowI A' c' (shiftD b ds x)] w' := by
  obtain ⟨⟨b1, b2⟩, ⟨n1, n2⟩, hd, hl⟩ := vreg_iff.1 hv
  have hp1 := pw_pos b b1 ds.length
  have hv0 := (valL_bd b b1 ds (fun d h => (hd d h).1)).1
  have KN := (fun W => l10Power_any b ds.length W b1 b2 (by omega))
  have hpc : powS b ds.length = pw b ds.length := by unfold powS; omega
  rw [hpc] at KN
  have KV := (fun W (hW : Below w.heap.size w W) => l02Value_any b A ds.length c ds W b1 b2 hd (hr.below hW) n2)
  have hsd : shiftD b ds x = digD b ds.length (((valL b ds + x).tmod (pw b ds.length) + pw b ds.length).tmod (pw b ds.length)) := rfl
  have hsb : shiftB b ds x = (decide (valL b ds + x < 0) || decide (pw b ds.length ≤ valL b ds + x)) := rfl
  obtain ⟨N, hN⟩ : ∃ N, pw b ds.length = N := ⟨_, rfl⟩
  obtain ⟨V, hV⟩ : ∃ V, valL b ds = V := ⟨_, rfl⟩
  rw [hN] at KN hsd hsb hpw hp1
  rw [hV] at KV hsd hsb hv0 hl
  obtain ⟨S, hS⟩ : ∃ S, V + x = S := ⟨_, rfl⟩
  rw [hS] at hsd hsb
  have hSb : -1000000000001 ≤ S ∧ S ≤ 2000000000001 := by omega
  have hm1 : -N < S.tmod N ∧ S.tmod N < N := by
    have h1 := Int.tmod_lt_of_pos S (show 0 < N by omega)
    have h2 := Int.lt_tmod_of_pos S (show 0 < N by omega)
    omega
  have hm2 : 0 ≤ (S.tmod N + N).tmod N ∧ (S.tmod N + N).tmod N < N := ⟨Int.tmod_nonneg _ (by omega), Int.tmod_lt_of_pos _ (by omega)⟩
  have hwr : IntKind.i64.wrap (S.tmod N + N) = S.tmod N + N := wrapI64 (by omega)
  have hwn : IntKind.i64.wrap (N - 1) = N - 1 := wrapI64 (by omega)
  have nz1 : N ≠ 0 := by omega
  have nz2 : (N == 0) = false := by simp; omega
  have nz3 : ¬ N = 0 := by omega
  have KW := (fun W => l02NewV_any b ds.length ((S.tmod N + N).tmod N) W b1 b2 (by omega) hm2.1 (by omega))
  rw [← hsd] at KW
  obtain ⟨es, hes⟩ : ∃ es, shiftD b ds x = es := ⟨_, rfl⟩
  rw [hes] at KW ⊢
  obtain ⟨bell, hbl⟩ : ∃ e, shiftB b ds x = e := ⟨_, rfl⟩
  have HSB := Lib.hid (show (!betB S 0 (N - 1)) = bell by
    rw [← hbl, hsb]
    rcases hb : betB S 0 (N - 1) with _ | _
    · have := betB_false.1 hb
      simp; omega
    · have := betB_iff.1 hb
      simp; omega)
  rw [hbl]
  have KI := Lib.hid (fun W => l00In_any S 0 (N - 1) W)
  have KN := Lib.hid KN
  have KV := Lib.hid KV
  have KW := Lib.hid KW
  have hSe : IntKind.i64.wrap (V + x) = S := by rw [hS]; exact wrapI64 (by omega)
  have HSE := Lib.hid hS
  have hV2 : -9223372036854775808 ≤ V + x ∧ V + x ≤ 9223372036854775807 := by omega
  have HP := Lib.hid (fun W (hW : Below w.heap.size w W) => hp.below hW)
  clear hsd hsb hes hbl hr hv hd hl hpc hN hV hS hp hSe
  go_enter Try.func179, Try.ntmps179
  go_wp2_with (first
    | (refine wpList.kn ((Kn.nil w).al [.int .i64 0, .slice none 0 0] 26) ?_; intro w2 hK2; obtain ⟨x1, x2⟩ := HP.out _ hK2.below)
    | (go_at_call 158; refine (KN.out _).mono ?_; rintro e w' ⟨rfl, rfl⟩))
  go_quiet ((go_at_call 146; exact quiet_left (KV.out _ (hK2.drewN _).below)))
  clear x1 x2
  have hK3 := hK2.drewN nq
  generalize w2.drewN nq = w3 at hK3 ⊢
  rw [HSE.out]
  have hq := HP.out _ hK3.drew.below
  have HG := Lib.hid (show _ ∧ _ from hq)
  have hq0 := HP.out _ (hK3.al [.int .i64 0, .slice none 0 0] 26).drew.below
  have HA := Lib.hid (show _ ∧ _ from hq0)
  have HS := HG
  clear hq hq0
  go_wp2_with fail
  go_cut [9] (fun pp wx => ∃ (g : Nat) (A' : Option Addr) (c' : Nat), pp = .pointer (some ⟨g, 0, none⟩) ∧ Kn w [.blk g [.int .i64 b, .slice A' es.length c'] 26, rowI A' c' es, .blk w.heap.size [.int .i64 0, .slice none 0 0] 26] wx)
  case first =>
    go_region_held3 (fun W => W.cell? p = some (.int .i64 b) ∧ W.cell? ⟨p.block, p.off + 1, none⟩ = some (.slice A ds.length c))
      (first | with_reducible exact HG.out | with_reducible exact HA.out | with_reducible exact HS.out | exact HG.out | exact HA.out | exact HS.out) (first
      | (go_at_call 173; (with_reducible refine (KW.out _).mono ?_); rintro e w4 ⟨A', c', rfl, hK⟩; clear HG HA; first
        | (have hK4 := hK3.drew.join hK; have hq := HP.out _ hK4.below; have HG := Lib.hid (show _ ∧ _ from hq); have hq1 := HP.out _ (hK4.al [.int .i64 0, .slice none 0 0] 26).below; have HA := Lib.hid (show _ ∧ _ from hq1); have hK5 := hK4.al [.int .i64 b, .slice A' es.length c'] 26; have hq2 := HP.out _ hK5.below; have HS := Lib.hid (show _ ∧ _ from hq2))
        | (have hK4 := (hK3.al [.int .i64 0, .slice none 0 0] 26).drew.join hK; have hq := HP.out _ hK4.below; have HG := Lib.hid (show _ ∧ _ from hq); obtain ⟨g1, f1, l1⟩ := hK4.drop.blkAt; have HA := HG; have hK5 := (hK4.sw1.st 0 (.int .i64 b)).st 1 (.slice A' es.length c'); have hq2 := HP.out _ hK5.below; have HS := Lib.hid (show _ ∧ _ from hq2))))
    all_goals
      go_wp2_with fail
      go_meet
      exact ⟨_, _, _, rfl, hK5⟩
  case rest =>
    obtain ⟨g, A', c', rfl, hK5⟩ := hcut
    clear HG HA HS KN KV KW hK2 hK3
    obtain ⟨a1, a2, a3, d1, d2, d3, -⟩ := hK5.cells
    go_wp2_with fail
    have HG := Lib.hid (box2 hK5.drew)
    have hK6 := ((hK5.sw2.st 0 (.int .i64 b)).st 1 (.slice A' es.length c')).drew
    have HS := Lib.hid (box2 hK6.drop)
    go_region_held3 (fun W => W.cell? ⟨g, 0, none⟩ = some (.int .i64 b) ∧ W.cell? ⟨g, 1, none⟩ = some (.slice A' es.length c'))
      (first | with_reducible exact HG.out | with_reducible exact HS.out | exact HG.out) (first
      | (go_at_call 85; (with_reducible refine (KI.out _).mono ?_); rintro e w7 ⟨rfl, rfl⟩))
    all_goals
      go_wp2_with fail
      refine bodyPost_ret (v := .tuple #[.agg #[.int .i64 b, .slice A' es.length c'], .bool bell]) (by simp [results, Try.results179, go_sem, d1]; first | exact HSB.out | (have := HSB.out; simp_all)) rfl ⟨A', c', rfl, ?_⟩
      exact hK6.drop.drop
end Go.Proofs.Ytkfbfainhmkkdaa

namespace Go.Proofs.Ytkfbfainhmkkdaa
open Go.RowKit Go.Sort
/-- the machine in block g, and its numbers -/
def MB (w0 : World) (g : Nat) (rest : List Value) (T : TypeId) (k : Tri) (m : List Ent) (w : World) : Prop := ∃ B1 d1 B2 d2 B3 d3, Kn w0 (.blk g (.int .i64 k.a.base :: .slice B1 k.a.digits.length d1 :: .int .i64 k.b.base :: .slice B2 k.b.digits.length d2 :: .int .i64 k.s.base :: .slice B3 k.s.digits.length d3 :: .int .i64 k.carry :: rest) T :: rowI B3 d3 k.s.digits :: rowI B2 d2 k.b.digits :: rowI B1 d1 k.a.digits :: m) w
set_option maxRecDepth 100000 in
set_option maxHeartbeats 1600000 in
theorem l10TurnK {w0 : World} {m : List Ent} {rest : List Value} {T : TypeId} {g : Nat} (t : Tri) (sign : Int) (w : World) (hM : MB w0 g rest T t m w) (hv : vmach t = true) (hs : sign = 1 ∨ sign = -1) :
    Calls Try.prog 174 #[.pointer (some ⟨g, 0, none⟩), .int .i64 sign] w fun e w' => e = .returned (.bool (turnT t sign).2) ∧ MB w0 g rest T (turnT t sign).1 m w' := by
  obtain ⟨A1, c1, A2, c2, A3, c3, hK⟩ := hM
  obtain ⟨k1, k2, k3, e1, e2, f1, f2, l1, p0, p1⟩ := vmach_all hv
  obtain ⟨u1, u2, u3, u4⟩ := turn_bd hv
  obtain ⟨⟨b1, b2⟩, ⟨n1, n2⟩, hd1, -⟩ := vreg_iff.1 k1
  obtain ⟨⟨b3, b4⟩, ⟨n3, n4⟩, hd2, -⟩ := vreg_iff.1 k2
  obtain ⟨⟨b5, b6⟩, ⟨n5, n6⟩, hd3, -⟩ := vreg_iff.1 k3
  have HT := Lib.hid (show turnT t sign = (⟨t.a, ⟨t.b.base, shiftD t.b.base t.b.digits (sign * (valL t.a.base t.a.digits * pw t.b.base t.carry.toNat))⟩, ⟨t.s.base, shiftD t.s.base t.s.digits (sign * pw t.b.base t.carry.toNat)⟩, t.carry⟩, shiftB t.b.base t.b.digits (sign * (valL t.a.base t.a.digits * pw t.b.base t.carry.toNat))) from rfl)
  have KP := (fun W => l10Power_any t.a.base t.carry.toNat W b1 b2 (by unfold vplaces at p1; omega))
  have hpc : powS t.a.base t.carry.toNat = pw t.b.base t.carry.toNat := by rw [e1]; unfold powS; omega
  rw [hpc, show ((t.carry.toNat : Nat) : Int) = t.carry by omega] at KP
  have KV := (fun W (hW : Kn w0 (.blk g (.int .i64 t.a.base :: .slice A1 t.a.digits.length c1 :: .int .i64 t.b.base :: .slice A2 t.b.digits.length c2 :: .int .i64 t.s.base :: .slice A3 t.s.digits.length c3 :: .int .i64 t.carry :: rest) T :: rowI A3 c3 t.s.digits :: rowI A2 c2 t.b.digits :: rowI A1 c1 t.a.digits :: m) W) => l02Value_any t.a.base A1 t.a.digits.length c1 t.a.digits W b1 b2 hd1 hW.drop.drop.drop.riv n2)
  obtain ⟨U, hU⟩ : ∃ U, pw t.b.base t.carry.toNat = U := ⟨_, rfl⟩
  obtain ⟨V, hV⟩ : ∃ V, valL t.a.base t.a.digits = V := ⟨_, rfl⟩
  rw [hU] at KP HT u1 u2 u3 u4
  rw [hV] at KV HT u3 u4
  obtain ⟨X, hX⟩ : ∃ X, sign * (V * U) = X := ⟨_, rfl⟩
  obtain ⟨Y, hY⟩ : ∃ Y, sign * U = Y := ⟨_, rfl⟩
  rw [hX, hY] at HT
  have hXb : -1000000000001 ≤ X ∧ X ≤ 1000000000001 := by rcases hs with rfl | rfl <;> omega
  have hYb : -1000000000001 ≤ Y ∧ Y ≤ 1000000000001 := by rcases hs with rfl | rfl <;> omega
  have hYX : Y * V = X := by rw [← hX, ← hY, Int.mul_assoc, Int.mul_comm U V]
  have w1' : IntKind.i64.wrap (sign * U) = Y := by rw [hY]; exact wrapI64 (by omega)
  have w2' : IntKind.i64.wrap (Y * V) = X := by rw [hYX]; exact wrapI64 (by omega)
  have KM2 := (fun W (hW : Kn w0 (.blk g (.int .i64 t.a.base :: .slice A1 t.a.digits.length c1 :: .int .i64 t.b.base :: .slice A2 t.b.digits.length c2 :: .int .i64 t.s.base :: .slice A3 t.s.digits.length c3 :: .int .i64 t.carry :: rest) T :: rowI A3 c3 t.s.digits :: rowI A2 c2 t.b.digits :: rowI A1 c1 t.a.digits :: m) W) => l10Move_any ⟨g, 2, none⟩ t.b.base A2 c2 t.b.digits X W ⟨hW.blkAt.1 2, hW.blkAt.1 3⟩ hW.drop.drop.riv k2 f1 hXb.1 hXb.2)
  have KM3 := (fun W (hW : Kn w0 (.blk g (.int .i64 t.a.base :: .slice A1 t.a.digits.length c1 :: .int .i64 t.b.base :: .slice A2 t.b.digits.length c2 :: .int .i64 t.s.base :: .slice A3 t.s.digits.length c3 :: .int .i64 t.carry :: rest) T :: rowI A3 c3 t.s.digits :: rowI A2 c2 t.b.digits :: rowI A1 c1 t.a.digits :: m) W) => l10Move_any ⟨g, 4, none⟩ t.s.base A3 c3 t.s.digits Y W ⟨hW.blkAt.1 4, hW.blkAt.1 5⟩ hW.drop.riv k3 f2 hYb.1 hYb.2)
  obtain ⟨es, hes⟩ : ∃ es, shiftD t.b.base t.b.digits X = es := ⟨_, rfl⟩
  obtain ⟨fs, hfs⟩ : ∃ fs, shiftD t.s.base t.s.digits Y = fs := ⟨_, rfl⟩
  obtain ⟨bell, hbl⟩ : ∃ e, shiftB t.b.base t.b.digits X = e := ⟨_, rfl⟩
  obtain ⟨bell2, hbl2⟩ : ∃ e, shiftB t.s.base t.s.digits Y = e := ⟨_, rfl⟩
  rw [hes, hbl] at KM2
  rw [hfs, hbl2] at KM3
  rw [hes, hfs, hbl] at HT
  rw [HT.out]
  have KP := Lib.hid KP
  have KV := Lib.hid KV
  have KM2 := Lib.hid KM2
  have KM3 := Lib.hid KM3
  have HW1 := Lib.hid w1'
  have HW2 := Lib.hid w2'
  have HY := Lib.hid hY
  have hYo : -9223372036854775808 ≤ sign * U ∧ sign * U ≤ 9223372036854775807 := by rw [hY]; omega
  have hXo : -9223372036854775808 ≤ sign * U * V ∧ sign * U * V ≤ 9223372036854775807 := by rw [hY, hYX]; omega
  clear hpc hU hV hX hY hYX w1' w2' hes hfs hbl hbl2 hd1 hd2 hd3 hv k1 k2 k3 e1 e2 hs
  obtain ⟨a1, a2, a3⟩ := hK.blkAt
  go_enter Try.func174, Try.ntmps174
  go_wp2_with fail
  go_quiet ((go_at_call 158; exact quiet_left (KP.out _)))
  have hK1 := hK.drewN nq
  generalize w.drewN nq = w1 at hK1 ⊢
  clear hK a1 a2 a3
  obtain ⟨a1, a2, a3⟩ := hK1.blkAt
  go_wp2_with fail
  have HG := Lib.hid (box2 hK1.drew)
  have HA := Lib.hid (box2 (hK1.al [.int .i64 0, .slice none 0 0] 26).drew.drop)
  have HS := HG
  go_cut [6, 7] (fun pp oo wx => ∃ (g6 : Nat) (A' : Option Addr) (c' : Nat), pp = .pointer (some ⟨g6, 0, none⟩) ∧ oo = .bool bell ∧ Kn w0 (.blk g6 [.int .i64 t.b.base, .slice A' es.length c'] 26 :: rowI A' c' es :: .blk g (.int .i64 t.a.base :: .slice A1 t.a.digits.length c1 :: .int .i64 t.b.base :: .slice A2 t.b.digits.length c2 :: .int .i64 t.s.base :: .slice A3 t.s.digits.length c3 :: .int .i64 t.carry :: rest) T :: rowI A3 c3 t.s.digits :: rowI A2 c2 t.b.digits :: rowI A1 c1 t.a.digits :: m) wx)
  case first =>
    go_region_held3 (fun W => W.cell? ⟨g, 0, none⟩ = some (.int .i64 t.a.base) ∧ W.cell? ⟨g, 1, none⟩ = some (.slice A1 t.a.digits.length c1))
      (first | with_reducible exact HG.out | with_reducible exact HA.out | with_reducible exact HS.out | exact HG.out | exact HA.out | exact HS.out) (first
      | (go_at_call 146; first | ((with_reducible refine (KV.out _ hK1.drew).mono ?_); rintro e w7 ⟨rfl, rfl⟩) | ((with_reducible refine (KV.out _ (hK1.al [.int .i64 0, .slice none 0 0] 26).drew.drop).mono ?_); rintro e w7 ⟨rfl, rfl⟩))
      | (go_at_call 179; rw [HW1.out, HW2.out]; clear HG HA; first
        | ((with_reducible refine (KM2.out _ hK1.drew).mono ?_); rintro e w4 ⟨A', c', rfl, hK⟩; have hK4 := hK1.drew.join hK; have HG := Lib.hid (box2 hK4.drop); have HA := Lib.hid (box2 (hK4.al [.int .i64 0, .slice none 0 0] 26).drop.drop); have hK5 := hK4.al [.int .i64 t.b.base, .slice A' es.length c'] 26; have HS := Lib.hid (box2 hK5.drop.drop))
        | ((refine (KM2.out _ (hK1.al [.int .i64 0, .slice none 0 0] 26).drew.drop).mono ?_); rintro e w4 ⟨A', c', rfl, hK⟩; have hK4 := (hK1.al [.int .i64 0, .slice none 0 0] 26).drew.join hK; have HG := Lib.hid (box2 hK4.drop.drop); obtain ⟨g1, f1, l1⟩ := hK4.drop.blkAt; have HA := HG; have hK5 := (hK4.sw1.st 0 (.int .i64 t.b.base)).st 1 (.slice A' es.length c'); have HS := Lib.hid (box2 hK5.drop.drop))))
    all_goals
      go_wp2_with fail
      go_meet
      exact ⟨_, _, _, rfl, rfl, hK5⟩
  case rest =>
    obtain ⟨g6, A', c', rfl, rfl, hK5⟩ := hcut
    clear HG HA HS KP KV KM2 hK1 a1 a2 a3
    obtain ⟨x1, x2, x3, a1, a2, a3, -⟩ := hK5.cells
    go_wp2_with fail
    rw [HY.out]
    refine (KM3.out _ hK5.drop.drop).mono ?_; rintro e w4 ⟨A2', c2', rfl, hK⟩
    have hK6 := hK5.join hK
    clear x1 x2 x3 a1 a2 a3
    obtain ⟨x1, x2, x3, a1, a2, a3, -⟩ := hK6.cells
    have hK7 := ((((hK6.sw3.st 2 (.int .i64 t.b.base)).st 3 (.slice A' es.length c')).st 4 (.int .i64 t.s.base)).st 5 (.slice A2' fs.length c2')).al [.int .i64 t.s.base, .slice A2' fs.length c2'] 26
    go_wp2_with fail
    go_ret
    refine ⟨rfl, A1, c1, A', c', A2', c2', ?_⟩
    refine Kn.only hK7 (by repeat (first | exact List.Sublist.refl _ | apply List.Sublist.cons_cons | apply List.Sublist.cons))
end Go.Proofs.Ytkfbfainhmkkdaa
