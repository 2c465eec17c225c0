import Derived.Test.YtcngeifkddhkmaaDoorB2
import Derived.Deep.RegionLaw
namespace Go.Proofs.YtcngeifkddhkmaaDoor
open Go.RowKit
/-- a thing that a call owns: a block of cells; a row; or whatever hangs on some blocks alone -/
inductive Ent where
  | blk (g : Nat) (cs : List Value) (T : TypeId)
  | row (v : Value) (e : TypeId) (size n : Nat) (xs : List Value)
  | any (fp : Nat → Prop) (F : World → Prop) (st : ∀ w w' : World, F w → w.heap.size ≤ w'.heap.size → (∀ k, fp k → w'.heap[k]? = w.heap[k]?) → F w')
def Ent.fp : Ent → Nat → Prop
  | .blk g _ _, k => k = g
  | .row v _ _ _ _, k => v.ownBlock = some k
  | .any fp _ _, k => fp k
def Ent.holds : Ent → World → Prop
  | .blk g cs T, w => w.heap[g]? = some (.cells cs.toArray T (0, 0))
  | .row v e size n xs, w => w.ownsRow 0 e size v n xs
  | .any fp F _, w => F w ∧ ∀ k, fp k → k < w.heap.size
theorem Ent.lt {e : Ent} {w : World} (h : e.holds w) {k : Nat} (hk : e.fp k) : k < w.heap.size := by
  cases e with
  | blk g cs T => cases hk; exact (Array.getElem?_eq_some_iff.1 h).1
  | row v e size n xs => exact (World.ownsRow.lt h k hk).2
  | any fp F st => exact h.2 k hk
theorem Ent.stable {e : Ent} {w w' : World} (h : e.holds w) (hs : w.heap.size ≤ w'.heap.size) (hb : ∀ k, e.fp k → w'.heap[k]? = w.heap[k]?) : e.holds w' := by
  cases e with
  | blk g cs T => exact (hb g rfl).trans h
  | row v e size n xs =>
    refine ⟨h.1, ?_⟩
    rcases h.2 with hn | ⟨g, cap, cur, rfl, hbg, hg, rest⟩
    · exact .inl hn
    · exact .inr ⟨g, cap, cur, rfl, hbg, by rw [hb g rfl]; exact hg, rest⟩
  | any fp F st => exact ⟨st w w' h.1 hs hb, fun k hk => Nat.lt_of_lt_of_le (h.2 k hk) hs⟩
/-- what is known of a world w that began as w0: nothing below w0's end has turned, and the call owns the things of m, each its own blocks -/
structure Kn (w0 : World) (m : List Ent) (w : World) : Prop where
  below : Below w0.heap.size w0 w
  ents : ∀ e ∈ m, e.holds w
  own : ∀ e ∈ m, ∀ k, e.fp k → w0.heap.size ≤ k
  apart : m.Pairwise (fun a b => ∀ k, a.fp k → ¬ b.fp k)
/-- nothing but the blocks of fp has turned -/
structure Chg (fp : Nat → Prop) (w w' : World) : Prop where
  os : w'.os = w.os
  tape : w'.tape = w.tape
  output : w'.output = w.output
  size : w.heap.size ≤ w'.heap.size
  block : ∀ k, k < w.heap.size → ¬ fp k → w'.heap[k]? = w.heap[k]?
section
variable {w0 w w' : World} {m : List Ent} {e e' : Ent}
theorem Kn.nil (w : World) : Kn w [] w := ⟨Below.refl _ _, fun _ h => (nomatch h), fun _ h => (nomatch h), .nil⟩
theorem Kn.size (h : Kn w0 m w) : w0.heap.size ≤ w.heap.size := h.below.size
theorem Kn.keep (h : Kn w0 m w) (hb : Below w.heap.size w w') : Kn w0 m w' :=
  ⟨h.below.trans (hb.mono h.size), fun e he => Ent.stable (h.ents e he) hb.size (fun k hk => hb.block k (Ent.lt (h.ents e he) hk)), h.own, h.apart⟩
theorem Kn.add (h : Kn w0 m w) (hb : Below w.heap.size w w') (he : e.holds w') (hf : ∀ k, e.fp k → w.heap.size ≤ k) : Kn w0 (e :: m) w' := by
  have h' := h.keep hb
  refine ⟨h'.below, fun x hx => ?_, fun x hx k hk => ?_, List.pairwise_cons.2 ⟨fun x hx k hk hk2 => ?_, h.apart⟩⟩
  · rcases List.mem_cons.1 hx with rfl | hx
    · exact he
    · exact h'.ents x hx
  · rcases List.mem_cons.1 hx with rfl | hx
    · exact Nat.le_trans h.size (hf k hk)
    · exact h.own x hx k hk
  · have := Ent.lt (h.ents x hx) hk2
    have := hf k hk
    omega
theorem Kn.upd (h : Kn w0 (e :: m) w) (hc : Chg e.fp w w') (he : e'.holds w') (hf : ∀ k, e'.fp k → e.fp k ∨ w.heap.size ≤ k) : Kn w0 (e' :: m) w' := by
  obtain ⟨hp, hpm⟩ := List.pairwise_cons.1 h.apart
  have hsame : ∀ x ∈ m, x.holds w' := fun x hx => Ent.stable (h.ents x (List.mem_cons_of_mem _ hx)) hc.size (fun k hk => hc.block k (Ent.lt (h.ents x (List.mem_cons_of_mem _ hx)) hk) (fun h2 => hp x hx k h2 hk))
  refine ⟨h.below.trans ⟨hc.os, hc.tape, hc.output, hc.size, fun k hk => hc.block k (Nat.lt_of_lt_of_le hk h.size) (fun h2 => by have := h.own e (List.mem_cons_self ..) k h2; omega)⟩, fun x hx => ?_, fun x hx k hk => ?_, List.pairwise_cons.2 ⟨fun x hx k hk hk2 => ?_, hpm⟩⟩
  · rcases List.mem_cons.1 hx with rfl | hx
    · exact he
    · exact hsame x hx
  · rcases List.mem_cons.1 hx with rfl | hx
    · rcases hf k hk with h1 | h1
      · exact h.own e (List.mem_cons_self ..) k h1
      · exact Nat.le_trans h.size h1
    · exact h.own x (List.mem_cons_of_mem _ hx) k hk
  · rcases hf k hk with h1 | h1
    · exact hp x hx k h1 hk2
    · have := Ent.lt (h.ents x (List.mem_cons_of_mem _ hx)) hk2; omega
theorem Kn.perm {m' : List Ent} (h : Kn w0 m w) (hp : m.Perm m') : Kn w0 m' w :=
  ⟨h.below, fun e he => h.ents e (hp.mem_iff.2 he), fun e he => h.own e (hp.mem_iff.2 he), hp.pairwise h.apart (fun hab k h1 h2 => hab k h2 h1)⟩
theorem Kn.sw1 {a b : Ent} (h : Kn w0 (a :: b :: m) w) : Kn w0 (b :: a :: m) w := h.perm (.swap _ _ _)
theorem Kn.sw2 {a b c : Ent} (h : Kn w0 (a :: b :: c :: m) w) : Kn w0 (c :: a :: b :: m) w := h.perm (((List.Perm.swap c b m).cons a).trans (.swap _ _ _))
theorem Kn.sw3 {a b c d : Ent} (h : Kn w0 (a :: b :: c :: d :: m) w) : Kn w0 (d :: a :: b :: c :: m) w := h.perm ((((List.Perm.swap d c m).cons b).cons a).trans (((List.Perm.swap d b _).cons a).trans (.swap _ _ _)))
theorem Kn.bare (h : Kn w0 m w) : Kn w0 [] w := ⟨h.below, fun _ h => (nomatch h), fun _ h => (nomatch h), .nil⟩
theorem Kn.drop (h : Kn w0 (e :: m) w) : Kn w0 m w := ⟨h.below, fun x hx => h.ents x (List.mem_cons_of_mem _ hx), fun x hx => h.own x (List.mem_cons_of_mem _ hx), (List.pairwise_cons.1 h.apart).2⟩
theorem Kn.sw4 {a b c d e : Ent} (h : Kn w0 (a :: b :: c :: d :: e :: m) w) : Kn w0 (e :: a :: b :: c :: d :: m) w := h.perm (by
  have := (List.perm_middle (a := e) (l₁ := [a, b, c, d]) (l₂ := m)); simpa using this)
theorem Kn.sw5 {a b c d e f : Ent} (h : Kn w0 (a :: b :: c :: d :: e :: f :: m) w) : Kn w0 (f :: a :: b :: c :: d :: e :: m) w := h.perm (by
  have := (List.perm_middle (a := f) (l₁ := [a, b, c, d, e]) (l₂ := m)); simpa using this)
theorem Kn.drop1 {a b : Ent} (h : Kn w0 (a :: b :: m) w) : Kn w0 (a :: m) w := h.sw1.drop
theorem Kn.drop2 {a b c : Ent} (h : Kn w0 (a :: b :: c :: m) w) : Kn w0 (a :: b :: m) w := h.sw2.drop
theorem Kn.drop3 {a b c d : Ent} (h : Kn w0 (a :: b :: c :: d :: m) w) : Kn w0 (a :: b :: c :: m) w := h.sw3.drop
theorem Kn.mono {w1 : World} (h : Kn w1 m w) (hb : Below w0.heap.size w0 w1) : Kn w0 m w :=
  ⟨hb.trans (h.below.mono hb.size), h.ents, fun e he k hk => Nat.le_trans hb.size (h.own e he k hk), h.apart⟩
/-- what another call of the same base owns, beside what was owned before it -/
theorem Kn.join {w1 : World} {m' : List Ent} (h : Kn w0 m w) (h1 : Kn w m' w1) : Kn w0 (m' ++ m) w1 := by
  have hk := h.keep h1.below
  refine ⟨hk.below, fun x hx => ?_, fun x hx k hf => ?_, List.pairwise_append.2 ⟨h1.apart, h.apart, fun a ha b hb k h2 h3 => ?_⟩⟩
  · rcases List.mem_append.1 hx with hx | hx
    · exact h1.ents x hx
    · exact hk.ents x hx
  · rcases List.mem_append.1 hx with hx | hx
    · exact Nat.le_trans h.size (h1.own x hx k hf)
    · exact h.own x hx k hf
  · have := h1.own a ha k h2
    have := Ent.lt (h.ents b hb) h3
    omega
theorem Kn.al (h : Kn w0 m w) (l : List Value) (T : TypeId) : Kn w0 (.blk w.heap.size l T :: m) (w.alloc (.cells l.toArray T)) :=
  h.add ((Below.refl _ _).alloc (Nat.le_refl _) _) (heap_alloc_new _ _) (fun k hk => by cases hk; exact Nat.le_refl _)
theorem Kn.al_ (h : Kn w0 m w) (o : Obj) : Kn w0 m (w.alloc o) := h.keep ((Below.refl _ _).alloc (Nat.le_refl _) _)
theorem Kn.st {g : Nat} {l : List Value} {T : TypeId} (h : Kn w0 (.blk g l T :: m) w) (j : Nat) (v : Value) : Kn w0 (.blk g (l.set j v) T :: m) (w.setCell ⟨g, j, none⟩ v) := by
  refine h.upd ⟨rfl, rfl, rfl, by simp [World.setCell], fun k _ hk => Below.heap_setCell _ _ _ _ hk⟩ ?_ (fun k hk => .inl hk)
  have h0 : w.heap[g]? = some (.cells l.toArray T (0, 0)) := h.ents _ (List.mem_cons_self ..)
  have hl := (Array.getElem?_eq_some_iff.1 h0).1
  have h1 := (Array.getElem?_eq_some_iff.1 h0).2
  show (w.setCell ⟨g, j, none⟩ v).heap[g]? = some (.cells (l.set j v).toArray T (0, 0))
  simp only [World.setCell, Array.getElem?_modify, if_pos, h0, Option.map_some]
  simp
theorem Kn.drewN (h : Kn w0 m w) (q : Nat) : Kn w0 m (w.drewN q) := h.keep (drewN_below q)
theorem Kn.drew (h : Kn w0 m w) : Kn w0 m w.drew := h.keep (Below.refl _ _).drew
theorem Kn.at0 (h : Kn w0 (e :: m) w) : e.holds w := h.ents _ (List.mem_cons_self ..)
/-- the cells of the blocks that are known -/
def Cells : List Ent → World → Prop
  | [], _ => True
  | .blk g cs _ :: m, w => (∀ j, w.cell? ⟨g, j, none⟩ = cs[j]?) ∧ (∀ j, w.frozen? ⟨g, j, none⟩ = false) ∧ g < w.heap.size ∧ Cells m w
  | _ :: m, w => Cells m w
theorem Cells.of : ∀ {m : List Ent}, (∀ e ∈ m, e.holds w) → Cells m w
  | [], _ => trivial
  | .blk g cs T :: m, h => by
    have h0 : w.heap[g]? = some (.cells cs.toArray T (0, 0)) := h _ (List.mem_cons_self ..)
    exact ⟨fun j => by rw [cell_of_row w g j _ T (0, 0) h0]; simp, fun j => by simp [World.frozen?, h0], (Array.getElem?_eq_some_iff.1 h0).1, Cells.of (fun e he => h e (List.mem_cons_of_mem _ he))⟩
  | .row .. :: m, h => Cells.of (m := m) (fun e he => h e (List.mem_cons_of_mem _ he))
  | .any .. :: m, h => Cells.of (m := m) (fun e he => h e (List.mem_cons_of_mem _ he))
theorem Kn.cells (h : Kn w0 m w) : Cells m w := Cells.of h.ents
theorem Kn.blkAt {g : Nat} {cs : List Value} {T : TypeId} (h : Kn w0 (.blk g cs T :: m) w) : (∀ j, w.cell? ⟨g, j, none⟩ = cs[j]?) ∧ (∀ j, w.frozen? ⟨g, j, none⟩ = false) ∧ g < w.heap.size := ⟨h.cells.1, h.cells.2.1, h.cells.2.2.1⟩
/-- a row that the callee hands back -/
theorem Kn.addI {v : Value} {ds : List Int} (h : Kn w0 m w) (hb : Below w.heap.size w w') (ho : OwnI w' w.heap.size v ds) : Kn w0 (.row v 2 1 ds.length (ds.map (Value.int .i64)) :: m) w' :=
  h.add (e := .row v 2 1 ds.length (ds.map (Value.int .i64))) hb (OwnI.mono ho (Nat.zero_le _)) (fun k hk => (World.ownsRow.lt ho k hk).1)
theorem Kn.addB {v : Value} {bs : List UInt8} (h : Kn w0 m w) (hb : Below w.heap.size w w') (ho : OwnB w' w.heap.size v bs) : Kn w0 (.row v 5 1 bs.length (bs.map byteV) :: m) w' := by
  refine h.add (e := .row v 5 1 bs.length (bs.map byteV)) hb ?_ (fun k hk => (World.ownsRow.lt ho k hk).1)
  refine ⟨ho.1, ?_⟩
  rcases ho.2 with hn | ⟨g, cap, cur, rfl, hbg, hg, rest⟩
  · exact .inl hn
  · exact .inr ⟨g, cap, cur, rfl, Nat.zero_le _, hg, rest⟩
theorem Kn.ownRow {v : Value} {t : TypeId} {size n : Nat} {xs : List Value} (h : Kn w0 (.row v t size n xs :: m) w) : w.ownsRow w0.heap.size t size v n xs := by
  have h0 : w.ownsRow 0 t size v n xs := h.at0
  refine ⟨h0.1, ?_⟩
  rcases h0.2 with hn | ⟨g, cap, cur, rfl, hbg, hg, rest⟩
  · exact .inl hn
  · exact .inr ⟨g, cap, cur, rfl, h.own _ (List.mem_cons_self ..) g rfl, hg, rest⟩
theorem Kn.ownI {v : Value} {ds : List Int} {n : Nat} (h : Kn w0 (.row v 2 1 n (ds.map (Value.int .i64)) :: m) w) : OwnI w w0.heap.size v ds := by
  have h1 := h.ownRow
  have h2 := h1.1
  rw [List.length_map, Nat.mul_one] at h2
  unfold OwnI
  rw [h2]; exact h1
theorem Kn.ownB {v : Value} {bs : List UInt8} {n : Nat} (h : Kn w0 (.row v 5 1 n (bs.map byteV) :: m) w) : OwnB w w0.heap.size v bs := by
  have h1 := h.ownRow
  have h2 := h1.1
  rw [List.length_map, Nat.mul_one] at h2
  unfold OwnB
  rw [h2]; exact h1
theorem Kn.nilRow (h : Kn w0 m w) (t : TypeId) (size : Nat) : Kn w0 (.row (.slice none 0 0) t size 0 [] :: m) w :=
  h.add (e := .row (.slice none 0 0) t size 0 []) (Below.refl _ _) (World.ownsRow_nil _ _ _ _) (fun k hk => by cases hk)
/-- a row out of a block that a literal has laid -/
theorem Kn.litRow {g n size : Nat} {l : List Value} {T : TypeId} (h : Kn w0 (.blk g l T :: m) w) (hs : l.length = n * size) (hn : n ≤ maxLen) : Kn w0 (.row (.slice (some ⟨g, 0, none⟩) n n) T size n l :: m) w := by
  have h0 : w.heap[g]? = some (.cells l.toArray T (0, 0)) := h.at0
  refine ⟨h.below, fun x hx => ?_, fun x hx k hk => ?_, List.pairwise_cons.2 ⟨fun x hx k hk => ?_, (List.pairwise_cons.1 h.apart).2⟩⟩
  · rcases List.mem_cons.1 hx with rfl | hx
    · exact ⟨hs, .inr ⟨g, n, l.toArray, rfl, Nat.zero_le _, h0, Nat.le_refl _, hn, by simpa using hs, by rw [← hs]; simp⟩⟩
    · exact h.ents x (List.mem_cons_of_mem _ hx)
  · rcases List.mem_cons.1 hx with rfl | hx
    · have hk' : (Value.slice (some ⟨g, 0, none⟩) n n).ownBlock = some k := hk
      simp only [Value.ownBlock, Option.some.injEq] at hk'
      exact h.own _ (List.mem_cons_self ..) k hk'.symm
    · exact h.own x (List.mem_cons_of_mem _ hx) k hk
  · have hk' : (Value.slice (some ⟨g, 0, none⟩) n n).ownBlock = some k := hk
    simp only [Value.ownBlock, Option.some.injEq] at hk'
    exact (List.pairwise_cons.1 h.apart).1 x hx k hk'.symm
/-- a row that append has turned -/
theorem Kn.grow {v v' : Value} {t : TypeId} {size n n' : Nat} {xs xs' : List Value} (h : Kn w0 (.row v t size n xs :: m) w) (hg : w.grownBy w' v.ownBlock) (ho : w'.ownsRow 0 t size v' n' xs') (hv : v'.ownBlock = v.ownBlock ∨ v'.ownBlock = some w.heap.size) : Kn w0 (.row v' t size n' xs' :: m) w' :=
  h.upd (e' := .row v' t size n' xs') ⟨hg.os, hg.tape, hg.output, hg.size, fun k hk hne => hg.block k hk (fun e => hne e.symm)⟩ ho (fun k hk => by
    have hk' : v'.ownBlock = some k := hk
    rcases hv with h1 | h1
    · left; show v.ownBlock = some k; rw [← h1]; exact hk'
    · right; rw [h1] at hk'; injection hk' with hk'; omega)
end
theorem Calls.kn {P : Program} {f : FuncId} {args : Array Value} {R : Ending → World → Prop} {w0 w : World} {m : List Ent} (h : Kn w0 m w) (k : ∀ W, Kn w0 m W → Calls P f args W R) : Calls P f args w R := k w h
section
variable {ops : Array Oper} {rest : List Oper} {o : Oper} {a : Act} {Q : Exit → Act → World → Prop} {w0 w : World} {m : List Ent}
theorem wpList.kn {l : List Oper} (h : Kn w0 m w) (k : ∀ W, Kn w0 m W → wpList Tryd.prog ops Q l a W) : wpList Tryd.prog ops Q l a w := k w h
/-- append(s, x..) onto a row that is owned; the new elements lie in a block that is owned too -/
theorem kn_app {t e : TypeId} {z : Value} {size bytes : Nat} (T : TP t e z size bytes) (hgd : o.guard = none) (s x : Operand) (ho : o.op = .call { callee := .builtin .append, args := #[s, x], argTypes := #[t, t] })
    (v : Value) (n : Nat) (xs : List Value) (hs : a.eval s = v) {g c k : Nat} {T' : TypeId} {l : List Value} (hx : a.eval x = .slice (some ⟨g, 0, none⟩) k c)
    (hK : Kn w0 (.blk g l T' :: .row v e size n xs :: m) w) (hl : l.length = k * size) (h1 : ∀ u ∈ l, u.oneCell' = true)
    (h63 : n + k ≤ 1000000000000000) (hb : (n + k) * bytes ≤ 140737488355328)
    (h : ∀ v' w', Kn w0 (.row v' e size (n + k) (xs ++ l) :: m) w' → wpList Tryd.prog ops Q rest (a.put o.dst v') w') : wpList Tryd.prog ops Q (o :: rest) a w := by
  have hK2 := hK.sw1
  have h0 := hK.blkAt
  refine appG T hgd s x ho 0 v n xs hs hK2.at0 ⟨g, 0, none⟩ k c l hx hl (fun j u hu => ?_) h1 h63 hb (Nat.zero_le _) (fun v' w' ho' hg hv => ?_)
  · rw [add_zero_block]; rw [h0.1 j]; exact hu
  · exact h v' w' (hK2.drop1.grow hg ho' hv)
theorem kn_app_row {t e : TypeId} {z : Value} {size bytes : Nat} (T : TP t e z size bytes) (hgd : o.guard = none) (s x : Operand) (ho : o.op = .call { callee := .builtin .append, args := #[s, x], argTypes := #[t, t] })
    (v : Value) (n : Nat) (xs : List Value) (hs : a.eval s = v) {A : Option Addr} {c k : Nat} {l : List Value} (hx : a.eval x = .slice A k c) (hk0 : 0 < k)
    (hK : Kn w0 (.row (.slice A k c) e size k l :: .row v e size n xs :: m) w) (h1 : ∀ u ∈ l, u.oneCell' = true)
    (h63 : n + k ≤ 1000000000000000) (hb : (n + k) * bytes ≤ 140737488355328)
    (h : ∀ v' w', Kn w0 (.row v' e size (n + k) (xs ++ l) :: .row (.slice A k c) e size k l :: m) w' → wpList Tryd.prog ops Q rest (a.put o.dst v') w') : wpList Tryd.prog ops Q (o :: rest) a w := by
  have hK2 := hK.sw1
  have h0 : w.ownsRow 0 e size (.slice A k c) k l := hK.at0
  rcases h0.2 with ⟨_, h2⟩ | ⟨g, cap, cur, hv, -, hg, -⟩
  · omega
  injection hv with hv _ _
  subst hv
  refine appG T hgd s x ho 0 v n xs hs hK2.at0 ⟨g, 0, none⟩ k c l hx h0.1 (fun j u hu => h0.cells (g := g) rfl j u hu) h1 h63 hb (Nat.zero_le _) (fun v' w' ho' hg hv => ?_)
  exact h v' w' (hK2.grow hg ho' hv)
/-- the same, as a step of a region that draws its order -/
theorem kn_step_app {K : Act → World → Prop} {E : Prop} {t e : TypeId} {z : Value} {size bytes : Nat} (T : TP t e z size bytes) (hgd : o.guard = none) (s x : Operand) (ho : o.op = .call { callee := .builtin .append, args := #[s, x], argTypes := #[t, t] })
    (v : Value) (n : Nat) (xs : List Value) (hs : a.eval s = v) {g c k : Nat} {T' : TypeId} {l : List Value} (hx : a.eval x = .slice (some ⟨g, 0, none⟩) k c)
    (hK : Kn w0 (.blk g l T' :: .row v e size n xs :: m) w) (hl : l.length = k * size) (h1 : ∀ u ∈ l, u.oneCell' = true)
    (h63 : n + k ≤ 1000000000000000) (hb : (n + k) * bytes ≤ 140737488355328)
    (h : ∀ v' w', Kn w0 (.row v' e size (n + k) (xs ++ l) :: m) w' → K (a.put o.dst v') w') : if Region.wanted o (yielded ops a.tmps) = true then Oper.wp Tryd.prog o a w K Q else E := by
  have hw : Region.wanted o (yielded ops a.tmps) = true := by simp [Region.wanted, hgd]
  rw [if_pos hw]
  have hK2 := hK.sw1
  have h0 := hK.blkAt
  obtain ⟨i0, hi, hz0, hz1, hz2⟩ := info_parts T.info
  obtain ⟨v', w', hrun, h2, h3, _, h5⟩ := run_append_own_at (P := Tryd.prog) w 0 t o.type e i0 z size bytes T.under hi hz0 hz1 hz2 T.zc T.pos v n xs hK2.at0 ⟨g, 0, none⟩ k c l hl (fun j u hu => by rw [add_zero_block, h0.1 j]; exact hu) h1 (by simp only [maxLen]; omega) hb (Nat.zero_le _)
  unfold Oper.wp execOp
  simp only [ho, resolve, invoke, builtin, Sem.run_bind, Sem.run_pure, Result.andThen_ok, List.map_toArray, List.map_cons, List.map_nil, hs, hx, hrun]
  exact h v' w' (hK2.drop1.grow h3 h2 h5)
theorem kn_step_row {K : Act → World → Prop} {E : Prop} {t e : TypeId} {z : Value} {size bytes : Nat} (T : TP t e z size bytes) (hgd : o.guard = none) (s x : Operand) (ho : o.op = .call { callee := .builtin .append, args := #[s, x], argTypes := #[t, t] })
    (v : Value) (n : Nat) (xs : List Value) (hs : a.eval s = v) {A : Option Addr} {c k : Nat} {l : List Value} (hx : a.eval x = .slice A k c) (hk0 : 0 < k)
    (hK : Kn w0 (.row (.slice A k c) e size k l :: .row v e size n xs :: m) w) (h1 : ∀ u ∈ l, u.oneCell' = true)
    (h63 : n + k ≤ 1000000000000000) (hb : (n + k) * bytes ≤ 140737488355328)
    (h : ∀ v' w', Kn w0 (.row v' e size (n + k) (xs ++ l) :: .row (.slice A k c) e size k l :: m) w' → K (a.put o.dst v') w') : if Region.wanted o (yielded ops a.tmps) = true then Oper.wp Tryd.prog o a w K Q else E := by
  have hw : Region.wanted o (yielded ops a.tmps) = true := by simp [Region.wanted, hgd]
  rw [if_pos hw]
  have hK2 := hK.sw1
  have h0 : w.ownsRow 0 e size (.slice A k c) k l := hK.at0
  rcases h0.2 with ⟨_, h2⟩ | ⟨g, cap, cur, hv, -, hg, -⟩
  · omega
  injection hv with hv _ _
  subst hv
  obtain ⟨i0, hi, hz0, hz1, hz2⟩ := info_parts T.info
  obtain ⟨v', w', hrun, h2, h3, _, h5⟩ := run_append_own_at (P := Tryd.prog) w 0 t o.type e i0 z size bytes T.under hi hz0 hz1 hz2 T.zc T.pos v n xs hK2.at0 ⟨g, 0, none⟩ k c l h0.1 (fun j u hu => h0.cells (g := g) rfl j u hu) h1 (by simp only [maxLen]; omega) hb (Nat.zero_le _)
  unfold Oper.wp execOp
  simp only [ho, resolve, invoke, builtin, Sem.run_bind, Sem.run_pure, Result.andThen_ok, List.map_toArray, List.map_cons, List.map_nil, hs, hx, hrun]
  exact h v' w' (hK2.grow h3 h2 h5)
end
end Go.Proofs.YtcngeifkddhkmaaDoor
