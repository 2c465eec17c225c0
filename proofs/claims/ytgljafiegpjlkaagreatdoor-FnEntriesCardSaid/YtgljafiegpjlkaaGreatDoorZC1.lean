/- Part 1: lemmas and contracts of the claim's functions. -/
import Derived.Test.YtgljafiegpjlkaaGreatDoorRows
import Derived.WalkKit
import Derived.WalkSpells
import Derived.Deep.QuietTactic
import Derived.BigQuiet
import Derived.Lib.Hide
import Derived.Lib.QuietBelow
import Derived.Deep.AppendLies
import Derived.Deep.RegionHeld3
import Derived.StillTailTactics
import Derived.Laws.BytesString
import Derived.Deep.RegionLaw
namespace Go.Proofs.YtgljafiegpjlkaaGreatDoor
open Go.RowKit
theorem block_of_add (a : Addr) (n : Nat) : (a.add n).block = a.block := by unfold Addr.add; split <;> rfl
/-- a slice value .slice A n c reads as the cells xs, in blocks below B -/
def Reads (w : World) (B size : Nat) (A : Option Addr) (n : Nat) (xs : List Value) : Prop :=
  xs.length = n * size ∧ (0 < n → ∃ ad, A = some ad ∧ ad.block < B ∧ ∀ j u, xs[j]? = some u → w.cell? (ad.add j) = some u)
def betB (n l h : Int) : Bool := decide (l ≤ n ∧ n ≤ h)
/-- []int64 -/
def RI (w : World) (A : Option Addr) (n : Nat) (ds : List Int) : Prop := ds.length = n ∧ (0 < n → ∃ ad, A = some ad ∧ ad.block < w.heap.size ∧ ∀ j u, ds[j]? = some u → w.cell? (ad.add j) = some (.int .i64 u))
theorem RI.below {w w' : World} {A : Option Addr} {n : Nat} {ds : List Int} (h : RI w A n ds) (hb : Below w.heap.size w w') : RI w' A n ds := by
  refine ⟨h.1, fun hn => ?_⟩
  obtain ⟨ad, e, hl, hc⟩ := h.2 hn
  refine ⟨ad, e, Nat.lt_of_lt_of_le hl hb.size, fun j u hu => ?_⟩
  rw [hb.cell (by rw [block_of_add]; exact hl)]; exact hc j u hu
/-- element k, at an address given by name -/
theorem RI.at_ {w : World} {A : Option Addr} {n : Nat} {ds : List Int} (h : RI w A n ds) {k : Nat} (hk : k < n) : ∃ ad, A = some ad ∧ ad.block < w.heap.size ∧ ∃ h : k < ds.length, w.cell? (ad.add k) = some (.int .i64 ds[k]) := by
  obtain ⟨ad, e, hl, hc⟩ := h.2 (by omega)
  have : k < ds.length := by have := h.1; omega
  exact ⟨ad, e, hl, this, hc k _ (by simp [this])⟩
theorem below_drewN {B : Nat} {a w : World} (h : Below B a w) (n : Nat) : Below B a (w.drewN n) := ⟨h.os, h.tape, h.output, h.size, h.block⟩
theorem ret_int {k : IntKind} {a b : Int} (h : a = b) : Ending.returned (.int k a) = .returned (.int k b) := by rw [h]
theorem ret_bool {a b : Bool} (h : a = b) : Ending.returned (.bool a) = .returned (.bool b) := by rw [h]
theorem quiet_left {P : Program} {f : FuncId} {args : Array Value} {w : World} {n : Nat} {v : Value}
    (h : Calls P f args (w.drewN n) fun e w' => e = .returned v ∧ w.drewN n = w') : Calls P f args (w.drewN n) fun e w'' => e = .returned v ∧ ∃ m, w'' = w.drewN m :=
  h.mono fun _ _ ⟨he, hm⟩ => ⟨he, n, hm.symm⟩
theorem quiet_add_left {P : Program} {f : FuncId} {args : Array Value} {w : World} {a n : Nat} {v : Value}
    (h : Calls P f args (w.drewN (a + n)) fun e w' => e = .returned v ∧ w.drewN (a + n) = w') :
    Calls P f args (w.drewN (a + n)) fun e w'' => e = .returned v ∧ ∃ m, w'' = w.drewN (a + m) :=
  h.mono fun _ _ ⟨he, hm⟩ => ⟨he, n, hm.symm⟩
theorem calls_val {P : Program} {f : FuncId} {args : Array Value} {w : World} {u v : Value} {R : World → Prop} (h : Calls P f args w fun e w' => e = .returned u ∧ R w') (e : u = v) : Calls P f args w fun e w' => e = .returned v ∧ R w' := by rw [← e]; exact h
theorem below_drew {B : Nat} {w w' : World} (h : Below B w w') : Below B w w'.drew := h.drew
theorem drewN_below {w : World} (n : Nat) : Below w.heap.size w (w.drewN n) := below_drewN (Below.refl _ _) n
theorem info_i64 : (Tryz.prog.info? 2).map (fun i => (i.zero, i.size, i.bytes)) = some (some (.int .i64 0), 1, 8) := by kernel_rfl
/-- a row of int64 that the call owns -/
def OwnI (w : World) (base : Nat) (v : Value) (ds : List Int) : Prop := w.ownsRow base 2 1 v ds.length (ds.map (Value.int .i64))
theorem OwnI.reads {w : World} {base : Nat} {v : Value} {ds : List Int} (h : OwnI w base v ds) : ∃ A c, v = .slice A ds.length c ∧ RI w A ds.length ds ∧ ∀ ad, A = some ad → base ≤ ad.block := by
  rcases h.2 with ⟨rfl, hn⟩ | ⟨g, cap, cur, rfl, hb, hg, hnc, _, hcs, htake⟩
  · refine ⟨none, 0, by rw [hn], ⟨rfl, fun h0 => ?_⟩, fun ad h0 => by cases h0⟩
    omega
  · refine ⟨_, cap, rfl, ⟨rfl, fun _ => ⟨_, rfl, (Array.getElem?_eq_some_iff.1 hg).1, fun j u hu => ?_⟩⟩, fun ad h0 => by injection h0 with h0; subst h0; exact hb⟩
    have h1 := h.cells (g := g) rfl j (.int .i64 u) (by simp [hu])
    exact h1
theorem OwnI.below {w w' : World} {base : Nat} {v : Value} {ds : List Int} (h : OwnI w base v ds) (hb : Below w.heap.size w w') : OwnI w' base v ds := by
  refine ⟨h.1, ?_⟩
  rcases h.2 with hn | ⟨g, cap, cur, rfl, hbg, hg, rest⟩
  · exact .inl hn
  · exact .inr ⟨g, cap, cur, rfl, hbg, by rw [hb.block g (Array.getElem?_eq_some_iff.1 hg).1]; exact hg, rest⟩
theorem OwnI.nil (w : World) (base : Nat) : OwnI w base (.slice none 0 0) [] := ⟨by simp, .inl ⟨rfl, rfl⟩⟩
theorem OwnI.mono {w : World} {b b' : Nat} {v : Value} {ds : List Int} (h : OwnI w b v ds) (hb : b' ≤ b) : OwnI w b' v ds := by
  refine ⟨h.1, ?_⟩
  rcases h.2 with hn | ⟨g, cap, cur, rfl, hbg, hg, rest⟩
  · exact .inl hn
  · exact .inr ⟨g, cap, cur, rfl, by omega, hg, rest⟩
theorem add_zero_block (g j : Nat) : (⟨g, 0, none⟩ : Addr).add j = ⟨g, j, none⟩ := by unfold Addr.add; split <;> simp_all
section
variable {ops : Array Oper} {rest : List Oper} {o : Oper} {a : Act} {Q : Exit → Act → World → Prop} {w : World}
/-- append(out, y) of one int64 onto a row that the call owns -/
theorem app1I (hgd : o.guard = none) (s x : Operand) (ho : o.op = .call { callee := .builtin .append, args := #[s, x], argTypes := #[47, 47] })
    (base : Nat) (v : Value) (ds : List Int) (hs : a.eval s = v) (hown : OwnI w base v ds) (g : Nat) (y : Int) (hx : a.eval x = .slice (some ⟨g, 0, none⟩) 1 1) (hg : w.heap[g]? = some (.cells #[.int .i64 y] 2 (0, 0)))
    (hn : ds.length ≤ 1000000000000) (hbase : base ≤ w.heap.size)
    (h : ∀ v' w', OwnI w' base v' (ds ++ [y]) → w.grownBy w' v.ownBlock → (v'.ownBlock = v.ownBlock ∨ v'.ownBlock = some w.heap.size) → wpList Tryz.prog ops Q rest (a.put o.dst v') w') : wpList Tryz.prog ops Q (o :: rest) a w := by
  obtain ⟨i0, hi, hz0, hz1, hz2⟩ := info_parts info_i64
  refine wpList_plain hgd fun K hK => ?_
  obtain ⟨v', w', hrun, h2, h3, _, h5⟩ := run_append_own_at (P := Tryz.prog) w base 47 o.type 2 i0 _ 1 8 Tryz.underlying47 hi hz0 hz1 hz2 rfl (by omega) v ds.length _ hown ⟨g, 0, none⟩ 1 1 [.int .i64 y] rfl (World.news_of_block hg) (by simp [Value.oneCell']) (by simp only [maxLen]; omega) (by omega) hbase
  unfold Oper.wp execOp
  simp only [ho, resolve, invoke, builtin, Sem.run_bind, Sem.run_pure, Result.andThen_ok, List.map_toArray, List.map_cons, List.map_nil, hs, hx, hrun]
  exact hK _ _ (h v' w' (by unfold OwnI; simpa using h2) h3 h5)
end
end Go.Proofs.YtgljafiegpjlkaaGreatDoor

namespace Go.Proofs.YtgljafiegpjlkaaGreatDoor
open Go.RowKit
/-- a slice type t over elements e: the zero value, its cells, its bytes -/
structure TP (t e : TypeId) (z : Value) (size bytes : Nat) : Prop where
  under : Tryz.prog.underlying t = some (.slice e)
  info : (Tryz.prog.info? e).map (fun i => (i.zero, i.size, i.bytes)) = some (some z, size, bytes)
  zc : z.cells.size = size
  pos : 0 < size
theorem tpI : TP 47 2 (.int .i64 0) 1 8 := ⟨Tryz.underlying47, by kernel_rfl, rfl, by decide⟩
theorem tpB : TP 22 5 (.int .u8 0) 1 1 := ⟨Tryz.underlying22, by kernel_rfl, rfl, by decide⟩
section
variable {ops : Array Oper} {rest : List Oper} {o : Oper} {a : Act} {Q : Exit → Act → World → Prop} {w : World}
/-- append(s, x...), s a row of the call's own -/
theorem appG {t e : TypeId} {z : Value} {size bytes : Nat} (T : TP t e z size bytes) (hgd : o.guard = none) (s x : Operand) (ho : o.op = .call { callee := .builtin .append, args := #[s, x], argTypes := #[t, t] })
    (base : Nat) (v : Value) (n : Nat) (xs : List Value) (hs : a.eval s = v) (hown : w.ownsRow base e size v n xs) (ad : Addr) (m c : Nat) (news : List Value) (hx : a.eval x = .slice (some ad) m c)
    (hl : news.length = m * size) (hnews : ∀ j u, news[j]? = some u → w.cell? (ad.add j) = some u) (h1 : ∀ u ∈ news, u.oneCell' = true)
    (h63 : n + m ≤ 1000000000000000) (hb : (n + m) * bytes ≤ 140737488355328) (hbase : base ≤ w.heap.size)
    (h : ∀ v' w', w'.ownsRow base e size v' (n + m) (xs ++ news) → w.grownBy w' v.ownBlock → (v'.ownBlock = v.ownBlock ∨ v'.ownBlock = some w.heap.size) → wpList Tryz.prog ops Q rest (a.put o.dst v') w') : wpList Tryz.prog ops Q (o :: rest) a w := by
  obtain ⟨i0, hi, hz0, hz1, hz2⟩ := info_parts T.info
  refine wpList_plain hgd fun K hK => ?_
  obtain ⟨v', w', hrun, h2, h3, _, h5⟩ := run_append_own_at (P := Tryz.prog) w base t o.type e i0 z size bytes T.under hi hz0 hz1 hz2 T.zc T.pos v n xs hown ad m c news hl hnews h1 (by simp only [maxLen]; omega) hb hbase
  unfold Oper.wp execOp
  simp only [ho, resolve, invoke, builtin, Sem.run_bind, Sem.run_pure, Result.andThen_ok, List.map_toArray, List.map_cons, List.map_nil, hs, hx, hrun]
  exact hK _ _ (h v' w' h2 h3 h5)
end
def byteV (b : UInt8) : Value := .int .u8 (b.toNat : Int)
/-- bytes at A -/
def RB (w : World) (A : Option Addr) (n : Nat) (bs : List UInt8) : Prop := bs.length = n ∧ (0 < n → ∃ ad, A = some ad ∧ ad.block < w.heap.size ∧ ∀ j u, bs[j]? = some u → w.cell? (ad.add j) = some (byteV u))
theorem RB.below {w w' : World} {A : Option Addr} {n : Nat} {ds : List UInt8} (h : RB w A n ds) (hb : Below w.heap.size w w') : RB w' A n ds := by
  refine ⟨h.1, fun hn => ?_⟩
  obtain ⟨ad, e, hl, hc⟩ := h.2 hn
  refine ⟨ad, e, Nat.lt_of_lt_of_le hl hb.size, fun j u hu => ?_⟩
  rw [hb.cell (by rw [block_of_add]; exact hl)]; exact hc j u hu
/-- a row of bytes that the call owns -/
def OwnB (w : World) (base : Nat) (v : Value) (bs : List UInt8) : Prop := w.ownsRow base 5 1 v bs.length (bs.map byteV)
theorem OwnB.reads {w : World} {base : Nat} {v : Value} {ds : List UInt8} (h : OwnB w base v ds) : ∃ A c, v = .slice A ds.length c ∧ RB w A ds.length ds ∧ ∀ ad, A = some ad → base ≤ ad.block := by
  rcases h.2 with ⟨rfl, hn⟩ | ⟨g, cap, cur, rfl, hb, hg, hnc, _, hcs, htake⟩
  · refine ⟨none, 0, by rw [hn], ⟨rfl, fun h0 => ?_⟩, fun ad h0 => by cases h0⟩
    omega
  · refine ⟨_, cap, rfl, ⟨rfl, fun _ => ⟨_, rfl, (Array.getElem?_eq_some_iff.1 hg).1, fun j u hu => ?_⟩⟩, fun ad h0 => by injection h0 with h0; subst h0; exact hb⟩
    exact h.cells (g := g) rfl j (byteV u) (by simp [hu])
theorem foldl_push (bs : List UInt8) : ∀ r : ByteArray, (bs.map fun b => (b.toNat : Int)).foldl (fun r n => r.push (UInt8.ofNat n.toNat)) r = ⟨r.data ++ bs.toArray⟩ := by
  induction bs with
  | nil => intro r; simp
  | cons b bs ih =>
    intro r
    simp only [List.map_cons, List.foldl_cons, ih]
    simp [ByteArray.push]
theorem conv_bytes (w : World) (A : Option Addr) (n c : Nat) (bs : List UInt8) (h : RB w A n bs) : (convert 22 9 (.slice A n c)).run Tryz.prog w = .ok (.string ⟨bs.toArray⟩) w := by
  rw [run_convert_bytes_string w _ _ 5 A n c Tryz.underlying22 Tryz.underlying5 Tryz.underlying9]
  rcases Nat.eq_zero_or_pos n with h0 | h0
  · subst h0
    obtain rfl : bs = [] := List.eq_nil_of_length_eq_zero h.1
    cases A with
    | none => simp [Conv.bytesToString, Sem.run_pure]; rfl
    | some ad =>
      have := run_bytesToString (P := Tryz.prog) w ad 0 c [] (by simpa using run_loadCells_list (P := Tryz.prog) (w := w) ad [] (by simp))
      exact this
  · obtain ⟨ad, rfl, hl, hc⟩ := h.2 h0
    have hL := run_loadCells_list (P := Tryz.prog) (w := w) ad (bs.map byteV) (fun j v hv => by
      rw [List.getElem?_map] at hv
      obtain ⟨u, hu, rfl⟩ := Option.map_eq_some_iff.1 hv
      exact hc j u hu)
    rw [List.length_map, h.1] at hL
    have := run_bytesToString (P := Tryz.prog) w ad n c (bs.map fun b => (b.toNat : Int)) (by
      rw [hL, List.map_map]; rfl)
    rw [this, foldl_push]; simp
end Go.Proofs.YtgljafiegpjlkaaGreatDoor

namespace Go.Proofs.YtgljafiegpjlkaaGreatDoor
open Go.RowKit
/-- a thing that a call owns: a block of cells; a row; or whatever hangs on some blocks alone -/
inductive Ent where
  | blk (g : Nat) (cs : List Value) (T : TypeId)
  | row (v : Value) (e : TypeId) (size n : Nat) (xs : List Value)
  | any (fp : Nat → Prop) (F : World → Prop) (st : ∀ w w' : World, F w → w.heap.size ≤ w'.heap.size → (∀ k, fp k → w'.heap[k]? = w.heap[k]?) → F w')
def Ent.fp : Ent → Nat → Prop
  | .blk g _ _, k => k = g
  | .row v _ _ _ _, k => v.ownBlock = some k
  | .any fp _ _, k => fp k
def Ent.holds : Ent → World → Prop
  | .blk g cs T, w => w.heap[g]? = some (.cells cs.toArray T (0, 0))
  | .row v e size n xs, w => w.ownsRow 0 e size v n xs
  | .any fp F _, w => F w ∧ ∀ k, fp k → k < w.heap.size
theorem Ent.lt {e : Ent} {w : World} (h : e.holds w) {k : Nat} (hk : e.fp k) : k < w.heap.size := by
  cases e with
  | blk g cs T => cases hk; exact (Array.getElem?_eq_some_iff.1 h).1
  | row v e size n xs => exact (World.ownsRow.lt h k hk).2
  | any fp F st => exact h.2 k hk
theorem Ent.stable {e : Ent} {w w' : World} (h : e.holds w) (hs : w.heap.size ≤ w'.heap.size) (hb : ∀ k, e.fp k → w'.heap[k]? = w.heap[k]?) : e.holds w' := by
  cases e with
  | blk g cs T => exact (hb g rfl).trans h
  | row v e size n xs =>
    refine ⟨h.1, ?_⟩
    rcases h.2 with hn | ⟨g, cap, cur, rfl, hbg, hg, rest⟩
    · exact .inl hn
    · exact .inr ⟨g, cap, cur, rfl, hbg, by rw [hb g rfl]; exact hg, rest⟩
  | any fp F st => exact ⟨st w w' h.1 hs hb, fun k hk => Nat.lt_of_lt_of_le (h.2 k hk) hs⟩
/-- what is known of a world w that began as w0: nothing below w0's end has turned, and the call owns the things of m, each its own blocks -/
structure Kn (w0 : World) (m : List Ent) (w : World) : Prop where
  below : Below w0.heap.size w0 w
  ents : ∀ e ∈ m, e.holds w
  own : ∀ e ∈ m, ∀ k, e.fp k → w0.heap.size ≤ k
  apart : m.Pairwise (fun a b => ∀ k, a.fp k → ¬ b.fp k)
/-- nothing but the blocks of fp has turned -/
structure Chg (fp : Nat → Prop) (w w' : World) : Prop where
  os : w'.os = w.os
  tape : w'.tape = w.tape
  output : w'.output = w.output
  size : w.heap.size ≤ w'.heap.size
  block : ∀ k, k < w.heap.size → ¬ fp k → w'.heap[k]? = w.heap[k]?
section
variable {w0 w w' : World} {m : List Ent} {e e' : Ent}
theorem Kn.nil (w : World) : Kn w [] w := ⟨Below.refl _ _, fun _ h => (nomatch h), fun _ h => (nomatch h), .nil⟩
theorem Kn.size (h : Kn w0 m w) : w0.heap.size ≤ w.heap.size := h.below.size
theorem Kn.keep (h : Kn w0 m w) (hb : Below w.heap.size w w') : Kn w0 m w' :=
  ⟨h.below.trans (hb.mono h.size), fun e he => Ent.stable (h.ents e he) hb.size (fun k hk => hb.block k (Ent.lt (h.ents e he) hk)), h.own, h.apart⟩
theorem Kn.add (h : Kn w0 m w) (hb : Below w.heap.size w w') (he : e.holds w') (hf : ∀ k, e.fp k → w.heap.size ≤ k) : Kn w0 (e :: m) w' := by
  have h' := h.keep hb
  refine ⟨h'.below, fun x hx => ?_, fun x hx k hk => ?_, List.pairwise_cons.2 ⟨fun x hx k hk hk2 => ?_, h.apart⟩⟩
  · rcases List.mem_cons.1 hx with rfl | hx
    · exact he
    · exact h'.ents x hx
  · rcases List.mem_cons.1 hx with rfl | hx
    · exact Nat.le_trans h.size (hf k hk)
    · exact h.own x hx k hk
  · have := Ent.lt (h.ents x hx) hk2
    have := hf k hk
    omega
theorem Kn.upd (h : Kn w0 (e :: m) w) (hc : Chg e.fp w w') (he : e'.holds w') (hf : ∀ k, e'.fp k → e.fp k ∨ w.heap.size ≤ k) : Kn w0 (e' :: m) w' := by
  obtain ⟨hp, hpm⟩ := List.pairwise_cons.1 h.apart
  have hsame : ∀ x ∈ m, x.holds w' := fun x hx => Ent.stable (h.ents x (List.mem_cons_of_mem _ hx)) hc.size (fun k hk => hc.block k (Ent.lt (h.ents x (List.mem_cons_of_mem _ hx)) hk) (fun h2 => hp x hx k h2 hk))
  refine ⟨h.below.trans ⟨hc.os, hc.tape, hc.output, hc.size, fun k hk => hc.block k (Nat.lt_of_lt_of_le hk h.size) (fun h2 => by have := h.own e (List.mem_cons_self ..) k h2; omega)⟩, fun x hx => ?_, fun x hx k hk => ?_, List.pairwise_cons.2 ⟨fun x hx k hk hk2 => ?_, hpm⟩⟩
  · rcases List.mem_cons.1 hx with rfl | hx
    · exact he
    · exact hsame x hx
  · rcases List.mem_cons.1 hx with rfl | hx
    · rcases hf k hk with h1 | h1
      · exact h.own e (List.mem_cons_self ..) k h1
      · exact Nat.le_trans h.size h1
    · exact h.own x (List.mem_cons_of_mem _ hx) k hk
  · rcases hf k hk with h1 | h1
    · exact hp x hx k h1 hk2
    · have := Ent.lt (h.ents x (List.mem_cons_of_mem _ hx)) hk2; omega
theorem Kn.perm {m' : List Ent} (h : Kn w0 m w) (hp : m.Perm m') : Kn w0 m' w :=
  ⟨h.below, fun e he => h.ents e (hp.mem_iff.2 he), fun e he => h.own e (hp.mem_iff.2 he), hp.pairwise h.apart (fun hab k h1 h2 => hab k h2 h1)⟩
theorem Kn.sw1 {a b : Ent} (h : Kn w0 (a :: b :: m) w) : Kn w0 (b :: a :: m) w := h.perm (.swap _ _ _)
theorem Kn.sw2 {a b c : Ent} (h : Kn w0 (a :: b :: c :: m) w) : Kn w0 (c :: a :: b :: m) w := h.perm (((List.Perm.swap c b m).cons a).trans (.swap _ _ _))
theorem Kn.sw3 {a b c d : Ent} (h : Kn w0 (a :: b :: c :: d :: m) w) : Kn w0 (d :: a :: b :: c :: m) w := h.perm ((((List.Perm.swap d c m).cons b).cons a).trans (((List.Perm.swap d b _).cons a).trans (.swap _ _ _)))
theorem Kn.bare (h : Kn w0 m w) : Kn w0 [] w := ⟨h.below, fun _ h => (nomatch h), fun _ h => (nomatch h), .nil⟩
theorem Kn.drop (h : Kn w0 (e :: m) w) : Kn w0 m w := ⟨h.below, fun x hx => h.ents x (List.mem_cons_of_mem _ hx), fun x hx => h.own x (List.mem_cons_of_mem _ hx), (List.pairwise_cons.1 h.apart).2⟩
theorem Kn.sw4 {a b c d e : Ent} (h : Kn w0 (a :: b :: c :: d :: e :: m) w) : Kn w0 (e :: a :: b :: c :: d :: m) w := h.perm (by
  have := (List.perm_middle (a := e) (l₁ := [a, b, c, d]) (l₂ := m)); simpa using this)
theorem Kn.sw5 {a b c d e f : Ent} (h : Kn w0 (a :: b :: c :: d :: e :: f :: m) w) : Kn w0 (f :: a :: b :: c :: d :: e :: m) w := h.perm (by
  have := (List.perm_middle (a := f) (l₁ := [a, b, c, d, e]) (l₂ := m)); simpa using this)
theorem Kn.drop1 {a b : Ent} (h : Kn w0 (a :: b :: m) w) : Kn w0 (a :: m) w := h.sw1.drop
theorem Kn.drop2 {a b c : Ent} (h : Kn w0 (a :: b :: c :: m) w) : Kn w0 (a :: b :: m) w := h.sw2.drop
theorem Kn.drop3 {a b c d : Ent} (h : Kn w0 (a :: b :: c :: d :: m) w) : Kn w0 (a :: b :: c :: m) w := h.sw3.drop
theorem Kn.mono {w1 : World} (h : Kn w1 m w) (hb : Below w0.heap.size w0 w1) : Kn w0 m w :=
  ⟨hb.trans (h.below.mono hb.size), h.ents, fun e he k hk => Nat.le_trans hb.size (h.own e he k hk), h.apart⟩
/-- what another call of the same base owns, beside what was owned before it -/
theorem Kn.join {w1 : World} {m' : List Ent} (h : Kn w0 m w) (h1 : Kn w m' w1) : Kn w0 (m' ++ m) w1 := by
  have hk := h.keep h1.below
  refine ⟨hk.below, fun x hx => ?_, fun x hx k hf => ?_, List.pairwise_append.2 ⟨h1.apart, h.apart, fun a ha b hb k h2 h3 => ?_⟩⟩
  · rcases List.mem_append.1 hx with hx | hx
    · exact h1.ents x hx
    · exact hk.ents x hx
  · rcases List.mem_append.1 hx with hx | hx
    · exact Nat.le_trans h.size (h1.own x hx k hf)
    · exact h.own x hx k hf
  · have := h1.own a ha k h2
    have := Ent.lt (h.ents b hb) h3
    omega
theorem Kn.al (h : Kn w0 m w) (l : List Value) (T : TypeId) : Kn w0 (.blk w.heap.size l T :: m) (w.alloc (.cells l.toArray T)) :=
  h.add ((Below.refl _ _).alloc (Nat.le_refl _) _) (heap_alloc_new _ _) (fun k hk => by cases hk; exact Nat.le_refl _)
theorem Kn.al_ (h : Kn w0 m w) (o : Obj) : Kn w0 m (w.alloc o) := h.keep ((Below.refl _ _).alloc (Nat.le_refl _) _)
theorem Kn.st {g : Nat} {l : List Value} {T : TypeId} (h : Kn w0 (.blk g l T :: m) w) (j : Nat) (v : Value) : Kn w0 (.blk g (l.set j v) T :: m) (w.setCell ⟨g, j, none⟩ v) := by
  refine h.upd ⟨rfl, rfl, rfl, by simp [World.setCell], fun k _ hk => Below.heap_setCell _ _ _ _ hk⟩ ?_ (fun k hk => .inl hk)
  have h0 : w.heap[g]? = some (.cells l.toArray T (0, 0)) := h.ents _ (List.mem_cons_self ..)
  have hl := (Array.getElem?_eq_some_iff.1 h0).1
  have h1 := (Array.getElem?_eq_some_iff.1 h0).2
  show (w.setCell ⟨g, j, none⟩ v).heap[g]? = some (.cells (l.set j v).toArray T (0, 0))
  simp only [World.setCell, Array.getElem?_modify, if_pos, h0, Option.map_some]
  simp
theorem Kn.drewN (h : Kn w0 m w) (q : Nat) : Kn w0 m (w.drewN q) := h.keep (drewN_below q)
theorem Kn.drew (h : Kn w0 m w) : Kn w0 m w.drew := h.keep (Below.refl _ _).drew
theorem Kn.at0 (h : Kn w0 (e :: m) w) : e.holds w := h.ents _ (List.mem_cons_self ..)
/-- the cells of the blocks that are known -/
def Cells : List Ent → World → Prop
  | [], _ => True
  | .blk g cs _ :: m, w => (∀ j, w.cell? ⟨g, j, none⟩ = cs[j]?) ∧ (∀ j, w.frozen? ⟨g, j, none⟩ = false) ∧ g < w.heap.size ∧ Cells m w
  | _ :: m, w => Cells m w
theorem Cells.of : ∀ {m : List Ent}, (∀ e ∈ m, e.holds w) → Cells m w
  | [], _ => trivial
  | .blk g cs T :: m, h => by
    have h0 : w.heap[g]? = some (.cells cs.toArray T (0, 0)) := h _ (List.mem_cons_self ..)
    exact ⟨fun j => by rw [cell_of_row w g j _ T (0, 0) h0]; simp, fun j => by simp [World.frozen?, h0], (Array.getElem?_eq_some_iff.1 h0).1, Cells.of (fun e he => h e (List.mem_cons_of_mem _ he))⟩
  | .row .. :: m, h => Cells.of (m := m) (fun e he => h e (List.mem_cons_of_mem _ he))
  | .any .. :: m, h => Cells.of (m := m) (fun e he => h e (List.mem_cons_of_mem _ he))
theorem Kn.cells (h : Kn w0 m w) : Cells m w := Cells.of h.ents
theorem Kn.blkAt {g : Nat} {cs : List Value} {T : TypeId} (h : Kn w0 (.blk g cs T :: m) w) : (∀ j, w.cell? ⟨g, j, none⟩ = cs[j]?) ∧ (∀ j, w.frozen? ⟨g, j, none⟩ = false) ∧ g < w.heap.size := ⟨h.cells.1, h.cells.2.1, h.cells.2.2.1⟩
/-- a row that the callee hands back -/
theorem Kn.addI {v : Value} {ds : List Int} (h : Kn w0 m w) (hb : Below w.heap.size w w') (ho : OwnI w' w.heap.size v ds) : Kn w0 (.row v 2 1 ds.length (ds.map (Value.int .i64)) :: m) w' :=
  h.add (e := .row v 2 1 ds.length (ds.map (Value.int .i64))) hb (OwnI.mono ho (Nat.zero_le _)) (fun k hk => (World.ownsRow.lt ho k hk).1)
theorem Kn.addB {v : Value} {bs : List UInt8} (h : Kn w0 m w) (hb : Below w.heap.size w w') (ho : OwnB w' w.heap.size v bs) : Kn w0 (.row v 5 1 bs.length (bs.map byteV) :: m) w' := by
  refine h.add (e := .row v 5 1 bs.length (bs.map byteV)) hb ?_ (fun k hk => (World.ownsRow.lt ho k hk).1)
  refine ⟨ho.1, ?_⟩
  rcases ho.2 with hn | ⟨g, cap, cur, rfl, hbg, hg, rest⟩
  · exact .inl hn
  · exact .inr ⟨g, cap, cur, rfl, Nat.zero_le _, hg, rest⟩
theorem Kn.ownRow {v : Value} {t : TypeId} {size n : Nat} {xs : List Value} (h : Kn w0 (.row v t size n xs :: m) w) : w.ownsRow w0.heap.size t size v n xs := by
  have h0 : w.ownsRow 0 t size v n xs := h.at0
  refine ⟨h0.1, ?_⟩
  rcases h0.2 with hn | ⟨g, cap, cur, rfl, hbg, hg, rest⟩
  · exact .inl hn
  · exact .inr ⟨g, cap, cur, rfl, h.own _ (List.mem_cons_self ..) g rfl, hg, rest⟩
theorem Kn.ownI {v : Value} {ds : List Int} {n : Nat} (h : Kn w0 (.row v 2 1 n (ds.map (Value.int .i64)) :: m) w) : OwnI w w0.heap.size v ds := by
  have h1 := h.ownRow
  have h2 := h1.1
  rw [List.length_map, Nat.mul_one] at h2
  unfold OwnI
  rw [h2]; exact h1
theorem Kn.ownB {v : Value} {bs : List UInt8} {n : Nat} (h : Kn w0 (.row v 5 1 n (bs.map byteV) :: m) w) : OwnB w w0.heap.size v bs := by
  have h1 := h.ownRow
  have h2 := h1.1
  rw [List.length_map, Nat.mul_one] at h2
  unfold OwnB
  rw [h2]; exact h1
theorem Kn.nilRow (h : Kn w0 m w) (t : TypeId) (size : Nat) : Kn w0 (.row (.slice none 0 0) t size 0 [] :: m) w :=
  h.add (e := .row (.slice none 0 0) t size 0 []) (Below.refl _ _) (World.ownsRow_nil _ _ _ _) (fun k hk => by cases hk)
/-- a row out of a block that a literal has laid -/
theorem Kn.litRow {g n size : Nat} {l : List Value} {T : TypeId} (h : Kn w0 (.blk g l T :: m) w) (hs : l.length = n * size) (hn : n ≤ maxLen) : Kn w0 (.row (.slice (some ⟨g, 0, none⟩) n n) T size n l :: m) w := by
  have h0 : w.heap[g]? = some (.cells l.toArray T (0, 0)) := h.at0
  refine ⟨h.below, fun x hx => ?_, fun x hx k hk => ?_, List.pairwise_cons.2 ⟨fun x hx k hk => ?_, (List.pairwise_cons.1 h.apart).2⟩⟩
  · rcases List.mem_cons.1 hx with rfl | hx
    · exact ⟨hs, .inr ⟨g, n, l.toArray, rfl, Nat.zero_le _, h0, Nat.le_refl _, hn, by simpa using hs, by rw [← hs]; simp⟩⟩
    · exact h.ents x (List.mem_cons_of_mem _ hx)
  · rcases List.mem_cons.1 hx with rfl | hx
    · have hk' : (Value.slice (some ⟨g, 0, none⟩) n n).ownBlock = some k := hk
      simp only [Value.ownBlock, Option.some.injEq] at hk'
      exact h.own _ (List.mem_cons_self ..) k hk'.symm
    · exact h.own x (List.mem_cons_of_mem _ hx) k hk
  · have hk' : (Value.slice (some ⟨g, 0, none⟩) n n).ownBlock = some k := hk
    simp only [Value.ownBlock, Option.some.injEq] at hk'
    exact (List.pairwise_cons.1 h.apart).1 x hx k hk'.symm
/-- a row that append has turned -/
theorem Kn.grow {v v' : Value} {t : TypeId} {size n n' : Nat} {xs xs' : List Value} (h : Kn w0 (.row v t size n xs :: m) w) (hg : w.grownBy w' v.ownBlock) (ho : w'.ownsRow 0 t size v' n' xs') (hv : v'.ownBlock = v.ownBlock ∨ v'.ownBlock = some w.heap.size) : Kn w0 (.row v' t size n' xs' :: m) w' :=
  h.upd (e' := .row v' t size n' xs') ⟨hg.os, hg.tape, hg.output, hg.size, fun k hk hne => hg.block k hk (fun e => hne e.symm)⟩ ho (fun k hk => by
    have hk' : v'.ownBlock = some k := hk
    rcases hv with h1 | h1
    · left; show v.ownBlock = some k; rw [← h1]; exact hk'
    · right; rw [h1] at hk'; injection hk' with hk'; omega)
end
theorem Calls.kn {P : Program} {f : FuncId} {args : Array Value} {R : Ending → World → Prop} {w0 w : World} {m : List Ent} (h : Kn w0 m w) (k : ∀ W, Kn w0 m W → Calls P f args W R) : Calls P f args w R := k w h
section
variable {ops : Array Oper} {rest : List Oper} {o : Oper} {a : Act} {Q : Exit → Act → World → Prop} {w0 w : World} {m : List Ent}
theorem wpList.kn {l : List Oper} (h : Kn w0 m w) (k : ∀ W, Kn w0 m W → wpList Tryz.prog ops Q l a W) : wpList Tryz.prog ops Q l a w := k w h
/-- append(s, x..) onto a row that is owned; the new elements lie in a block that is owned too -/
theorem kn_app {t e : TypeId} {z : Value} {size bytes : Nat} (T : TP t e z size bytes) (hgd : o.guard = none) (s x : Operand) (ho : o.op = .call { callee := .builtin .append, args := #[s, x], argTypes := #[t, t] })
    (v : Value) (n : Nat) (xs : List Value) (hs : a.eval s = v) {g c k : Nat} {T' : TypeId} {l : List Value} (hx : a.eval x = .slice (some ⟨g, 0, none⟩) k c)
    (hK : Kn w0 (.blk g l T' :: .row v e size n xs :: m) w) (hl : l.length = k * size) (h1 : ∀ u ∈ l, u.oneCell' = true)
    (h63 : n + k ≤ 1000000000000000) (hb : (n + k) * bytes ≤ 140737488355328)
    (h : ∀ v' w', Kn w0 (.row v' e size (n + k) (xs ++ l) :: m) w' → wpList Tryz.prog ops Q rest (a.put o.dst v') w') : wpList Tryz.prog ops Q (o :: rest) a w := by
  have hK2 := hK.sw1
  have h0 := hK.blkAt
  refine appG T hgd s x ho 0 v n xs hs hK2.at0 ⟨g, 0, none⟩ k c l hx hl (fun j u hu => ?_) h1 h63 hb (Nat.zero_le _) (fun v' w' ho' hg hv => ?_)
  · rw [add_zero_block]; rw [h0.1 j]; exact hu
  · exact h v' w' (hK2.drop1.grow hg ho' hv)
theorem kn_app_row {t e : TypeId} {z : Value} {size bytes : Nat} (T : TP t e z size bytes) (hgd : o.guard = none) (s x : Operand) (ho : o.op = .call { callee := .builtin .append, args := #[s, x], argTypes := #[t, t] })
    (v : Value) (n : Nat) (xs : List Value) (hs : a.eval s = v) {A : Option Addr} {c k : Nat} {l : List Value} (hx : a.eval x = .slice A k c) (hk0 : 0 < k)
    (hK : Kn w0 (.row (.slice A k c) e size k l :: .row v e size n xs :: m) w) (h1 : ∀ u ∈ l, u.oneCell' = true)
    (h63 : n + k ≤ 1000000000000000) (hb : (n + k) * bytes ≤ 140737488355328)
    (h : ∀ v' w', Kn w0 (.row v' e size (n + k) (xs ++ l) :: .row (.slice A k c) e size k l :: m) w' → wpList Tryz.prog ops Q rest (a.put o.dst v') w') : wpList Tryz.prog ops Q (o :: rest) a w := by
  have hK2 := hK.sw1
  have h0 : w.ownsRow 0 e size (.slice A k c) k l := hK.at0
  rcases h0.2 with ⟨_, h2⟩ | ⟨g, cap, cur, hv, -, hg, -⟩
  · omega
  injection hv with hv _ _
  subst hv
  refine appG T hgd s x ho 0 v n xs hs hK2.at0 ⟨g, 0, none⟩ k c l hx h0.1 (fun j u hu => h0.cells (g := g) rfl j u hu) h1 h63 hb (Nat.zero_le _) (fun v' w' ho' hg hv => ?_)
  exact h v' w' (hK2.grow hg ho' hv)
/-- the same, as a step of a region that draws its order -/
theorem kn_step_app {K : Act → World → Prop} {E : Prop} {t e : TypeId} {z : Value} {size bytes : Nat} (T : TP t e z size bytes) (hgd : o.guard = none) (s x : Operand) (ho : o.op = .call { callee := .builtin .append, args := #[s, x], argTypes := #[t, t] })
    (v : Value) (n : Nat) (xs : List Value) (hs : a.eval s = v) {g c k : Nat} {T' : TypeId} {l : List Value} (hx : a.eval x = .slice (some ⟨g, 0, none⟩) k c)
    (hK : Kn w0 (.blk g l T' :: .row v e size n xs :: m) w) (hl : l.length = k * size) (h1 : ∀ u ∈ l, u.oneCell' = true)
    (h63 : n + k ≤ 1000000000000000) (hb : (n + k) * bytes ≤ 140737488355328)
    (h : ∀ v' w', Kn w0 (.row v' e size (n + k) (xs ++ l) :: m) w' → K (a.put o.dst v') w') : if Region.wanted o (yielded ops a.tmps) = true then Oper.wp Tryz.prog o a w K Q else E := by
  have hw : Region.wanted o (yielded ops a.tmps) = true := by simp [Region.wanted, hgd]
  rw [if_pos hw]
  have hK2 := hK.sw1
  have h0 := hK.blkAt
  obtain ⟨i0, hi, hz0, hz1, hz2⟩ := info_parts T.info
  obtain ⟨v', w', hrun, h2, h3, _, h5⟩ := run_append_own_at (P := Tryz.prog) w 0 t o.type e i0 z size bytes T.under hi hz0 hz1 hz2 T.zc T.pos v n xs hK2.at0 ⟨g, 0, none⟩ k c l hl (fun j u hu => by rw [add_zero_block, h0.1 j]; exact hu) h1 (by simp only [maxLen]; omega) hb (Nat.zero_le _)
  unfold Oper.wp execOp
  simp only [ho, resolve, invoke, builtin, Sem.run_bind, Sem.run_pure, Result.andThen_ok, List.map_toArray, List.map_cons, List.map_nil, hs, hx, hrun]
  exact h v' w' (hK2.drop1.grow h3 h2 h5)
theorem kn_step_row {K : Act → World → Prop} {E : Prop} {t e : TypeId} {z : Value} {size bytes : Nat} (T : TP t e z size bytes) (hgd : o.guard = none) (s x : Operand) (ho : o.op = .call { callee := .builtin .append, args := #[s, x], argTypes := #[t, t] })
    (v : Value) (n : Nat) (xs : List Value) (hs : a.eval s = v) {A : Option Addr} {c k : Nat} {l : List Value} (hx : a.eval x = .slice A k c) (hk0 : 0 < k)
    (hK : Kn w0 (.row (.slice A k c) e size k l :: .row v e size n xs :: m) w) (h1 : ∀ u ∈ l, u.oneCell' = true)
    (h63 : n + k ≤ 1000000000000000) (hb : (n + k) * bytes ≤ 140737488355328)
    (h : ∀ v' w', Kn w0 (.row v' e size (n + k) (xs ++ l) :: .row (.slice A k c) e size k l :: m) w' → K (a.put o.dst v') w') : if Region.wanted o (yielded ops a.tmps) = true then Oper.wp Tryz.prog o a w K Q else E := by
  have hw : Region.wanted o (yielded ops a.tmps) = true := by simp [Region.wanted, hgd]
  rw [if_pos hw]
  have hK2 := hK.sw1
  have h0 : w.ownsRow 0 e size (.slice A k c) k l := hK.at0
  rcases h0.2 with ⟨_, h2⟩ | ⟨g, cap, cur, hv, -, hg, -⟩
  · omega
  injection hv with hv _ _
  subst hv
  obtain ⟨i0, hi, hz0, hz1, hz2⟩ := info_parts T.info
  obtain ⟨v', w', hrun, h2, h3, _, h5⟩ := run_append_own_at (P := Tryz.prog) w 0 t o.type e i0 z size bytes T.under hi hz0 hz1 hz2 T.zc T.pos v n xs hK2.at0 ⟨g, 0, none⟩ k c l h0.1 (fun j u hu => h0.cells (g := g) rfl j u hu) h1 (by simp only [maxLen]; omega) hb (Nat.zero_le _)
  unfold Oper.wp execOp
  simp only [ho, resolve, invoke, builtin, Sem.run_bind, Sem.run_pure, Result.andThen_ok, List.map_toArray, List.map_cons, List.map_nil, hs, hx, hrun]
  exact h v' w' (hK2.grow h3 h2 h5)
end
end Go.Proofs.YtgljafiegpjlkaaGreatDoor

namespace Go.Proofs.YtgljafiegpjlkaaGreatDoor
open Go.RowKit
set_option maxHeartbeats 400000 in
theorem between_any (n l h : Int) (w : World) :
    Calls Tryz.prog 130 #[.int .i64 n, .int .i64 l, .int .i64 h] w fun e w' => e = .returned (.bool (betB n l h)) ∧ w = w' := by
  by_cases h1 : l ≤ n
  · by_cases h2 : n ≤ h
    · go_enter Tryz.func130, Tryz.ntmps130
      go_wp2
      go_ret
      simp [betB, h1, h2]
    · go_enter Tryz.func130, Tryz.ntmps130
      go_wp2
      go_ret
      simp [betB, h1, h2]
  · go_enter Tryz.func130, Tryz.ntmps130
    go_wp2
    go_ret
    exact ⟨by simp [betB]; omega, rfl⟩
set_option maxHeartbeats 400000 in
theorem l00In_any (n l h : Int) (w : World) :
    Calls Tryz.prog 137 #[.int .i64 n, .int .i64 l, .int .i64 h] w fun e w' => e = .returned (.bool (betB n l h)) ∧ w = w' := by
  by_cases h1 : l ≤ n
  · by_cases h2 : n ≤ h
    · go_enter Tryz.func137, Tryz.ntmps137
      go_wp2
      go_ret
      simp [betB, h1, h2]
    · go_enter Tryz.func137, Tryz.ntmps137
      go_wp2
      go_ret
      simp [betB, h1, h2]
  · go_enter Tryz.func137, Tryz.ntmps137
    go_wp2
    go_ret
    exact ⟨by simp [betB]; omega, rfl⟩
theorem isBase_any (n : Int) (w : World) :
    Calls Tryz.prog 150 #[.int .i64 n] w fun e w' => e = .returned (.bool (betB n 2 16)) ∧ w = w' := by
  go_enter Tryz.func150, Tryz.ntmps150
  go_wp2_with (go_at_call 130; refine (between_any _ _ _ _).mono ?_; rintro e w' ⟨rfl, rfl⟩)
  go_ret
  exact ⟨rfl, rfl⟩
theorem isRegisterWidth_any (n : Int) (w : World) :
    Calls Tryz.prog 151 #[.int .i64 n] w fun e w' => e = .returned (.bool (betB n 1 16)) ∧ w = w' := by
  go_enter Tryz.func151, Tryz.ntmps151
  go_wp2_with (go_at_call 130; refine (between_any _ _ _ _).mono ?_; rintro e w' ⟨rfl, rfl⟩)
  go_ret
  exact ⟨rfl, rfl⟩
theorem l02Base_any (n : Int) (w : World) :
    Calls Tryz.prog 310 #[.int .i64 n] w fun e w' => e = .returned (.bool (betB n 2 16)) ∧ w = w' := by
  go_enter Tryz.func310, Tryz.ntmps310
  go_wp2_with (go_at_call 137; refine (l00In_any _ _ _ _).mono ?_; rintro e w' ⟨rfl, rfl⟩)
  go_ret
  exact ⟨rfl, rfl⟩
theorem l00Min_any (a b : Int) (w : World) :
    Calls Tryz.prog 314 #[.int .i64 a, .int .i64 b] w fun e w' => e = .returned (.int .i64 (min a b)) ∧ w = w' := by
  by_cases h : a < b
  · go_enter Tryz.func314, Tryz.ntmps314
    go_wp2
    go_ret
    exact ⟨ret_int (Int.min_eq_left (by omega)).symm, rfl⟩
  · go_enter Tryz.func314, Tryz.ntmps314
    go_wp2
    go_ret
    exact ⟨ret_int (Int.min_eq_right (by omega)).symm, rfl⟩
/-- the value of digits, capped -/
def valL (b : Int) : List Int → Int
  | [] => 0
  | d :: ds => min 1000000000001 (valL b ds * b + d)
theorem valL_bd (b : Int) (hb : 2 ≤ b) (ds : List Int) (hd : ∀ d ∈ ds, 0 ≤ d) : 0 ≤ valL b ds ∧ valL b ds ≤ 1000000000001 := by
  induction ds with
  | nil => simp [valL]
  | cons d ds ih =>
    have h1 := ih (fun x hx => hd x (by simp [hx]))
    have h2 := hd d (by simp)
    have h3 : 0 ≤ valL b ds * b := Int.mul_nonneg h1.1 (by omega)
    simp only [valL]; omega
theorem valL_big (b : Int) (hb : 2 ≤ b) (ds : List Int) (hd : ∀ d ∈ ds, 0 ≤ d) : ∀ k, valL b (ds.drop k) = 1000000000001 → valL b ds = 1000000000001 := by
  induction ds with
  | nil => intro k h; simp [valL] at h
  | cons d ds ih =>
    intro k h
    cases k with
    | zero => exact h
    | succ k =>
      have h1 := ih (fun x hx => hd x (by simp [hx])) k (by simpa using h)
      have h2 := hd d (by simp)
      simp only [valL, h1]; omega
theorem valL_drop (b : Int) (ds : List Int) (k : Nat) (h : k < ds.length) : valL b (ds.drop k) = min 1000000000001 (valL b (ds.drop (k + 1)) * b + ds[k]) := by
  rw [List.drop_eq_getElem_cons h]; rfl
set_option maxHeartbeats 400000 in
theorem value_any (b : Int) (A : Option Addr) (n c : Nat) (ds : List Int) (w : World)
   (hb1 : 2 ≤ b) (hb2 : b ≤ 16) (hd : ∀ d ∈ ds, 0 ≤ d ∧ d < b) (hr : RI w A n ds) (hn : n ≤ 16) :
    Calls Tryz.prog 282 #[.agg #[.int .i64 b, .slice A n c]] w fun e w' => e = .returned (.int .i64 (valL b ds)) ∧ Below w.heap.size w w' := by
  have HL := Lib.hid hr.1
  go_enter Tryz.func282, Tryz.ntmps282
  go_wp2
  go_loopw [3, 4] (fun v i wr => ∃ k : Nat, k ≤ n ∧ i = .int .i64 ((k : Int) - 1) ∧ v = .int .i64 (valL b (ds.drop k)) ∧ valL b (ds.drop k) ≤ 1000000000000 ∧ Below (w.heap.size + 1) (w.alloc (.cells #[.int .i64 b, .slice A n c] 59)) wr) (fun _ i _ => (intOf i + 1).toNat)
  case atStart => exact ⟨n, Nat.le_refl _, rfl, by rw [List.drop_of_length_le (by have := HL.out; omega)]; rfl, by rw [List.drop_of_length_le (by have := HL.out; omega)]; simp [valL], Below.refl _ _⟩
  case round =>
    obtain ⟨k, hk, rfl, rfl, hv1, hbl⟩ := hrel
    rcases Nat.eq_zero_or_pos k with hk0 | hk0
    · subst hk0
      go_wp2
      go_ret
      exact ⟨rfl, ((Below.refl _ _).alloc (Nat.le_refl _) _).trans (hbl.mono (by omega))⟩
    · obtain ⟨ad, hA, hlt, hkl, hc⟩ := hr.at_ (show k - 1 < n by omega)
      rw [← World.cell?_alloc_lt w (.cells #[.int .i64 b, .slice A n c] 59) (ad.add (k - 1)) (by rw [block_of_add]; omega), ← hbl.cell (by rw [block_of_add]; omega)] at hc
      have hb0 : wr.cell? ⟨w.heap.size, 0, none⟩ = some (.int .i64 b) := by rw [hbl.cell (by simp)]; go_simp
      have hb1 : wr.cell? ⟨w.heap.size, 1, none⟩ = some (.slice A n c) := by rw [hbl.cell (by simp)]; go_simp
      have hd1 := hd ds[k-1] (List.getElem_mem _)
      have hv0 := (valL_bd b (by omega) (ds.drop k) (fun x hx => (hd x (List.mem_of_mem_drop hx)).1)).1
      have hm0 : 0 ≤ valL b (ds.drop k) * b := Int.mul_nonneg hv0 (by omega)
      have hm1 : valL b (ds.drop k) * b ≤ 16000000000000 := by
        have := Int.mul_le_mul hv1 hb2 (by omega) (by omega); omega
      have HV : Hid (valL b (ds.drop (k - 1)) = min 1000000000001 (valL b (ds.drop k) * b + ds[k-1])) := by
        have := valL_drop b ds (k - 1) hkl; rw [show k - 1 + 1 = k by omega] at this; exact this
      subst hA
      go_wp2
      go_quiet (fail)
      go_wp2
      · go_ret
        refine ⟨?_, ((Below.refl _ _).alloc (Nat.le_refl _) _).trans ((hbl.trans (below_drewN (Below.refl _ _) _)).mono (by omega))⟩
        exact ret_int (valL_big b (by omega) ds (fun x hx => (hd x hx).1) (k - 1) (by rw [HV.out]; omega)).symm
      · go_roundw
        case rel => exact ⟨k - 1, by omega, by congr 1; omega, by rw [HV.out, Int.min_eq_right (by omega)], by rw [HV.out]; omega, hbl.trans (below_drewN (Below.refl _ _) _)⟩
        case measure => simp [intOf]; omega
end Go.Proofs.YtgljafiegpjlkaaGreatDoor

namespace Go.Proofs.YtgljafiegpjlkaaGreatDoor
open Go.RowKit
def digB (b : Int) (ds : List Int) : Bool := ds.all (fun d => betB d 0 (b - 1))
/-- a valid register -/
def vreg (b : Int) (ds : List Int) : Bool := betB b 2 16 && betB ds.length 1 16 && digB b ds && decide (valL b ds ≤ 1000000000000)
theorem betB_iff {n l h : Int} : betB n l h = true ↔ l ≤ n ∧ n ≤ h := by simp [betB]
theorem betB_false {n l h : Int} : betB n l h = false ↔ ¬ (l ≤ n ∧ n ≤ h) := by simp [betB]
theorem digB_take_succ {b : Int} {ds : List Int} {k : Nat} (h : k < ds.length) : digB b (ds.take (k + 1)) = (digB b (ds.take k) && betB ds[k] 0 (b - 1)) := by
  unfold digB; rw [List.take_succ_eq_append_getElem h, List.all_append]; simp only [List.all_cons, List.all_nil, Bool.and_true]
theorem digB_not {b : Int} {ds : List Int} {k : Nat} (h : k < ds.length) (h1 : betB ds[k] 0 (b - 1) = false) : digB b ds = false := by
  simp only [digB, List.all_eq_false]; exact ⟨ds[k], List.getElem_mem _, by simp [h1]⟩
theorem digB_iff {b : Int} {ds : List Int} : digB b ds = true ↔ ∀ d ∈ ds, 0 ≤ d ∧ d < b := by
  simp only [digB, List.all_eq_true, betB_iff]
  exact ⟨fun h d hd => by have := h d hd; omega, fun h d hd => by have := h d hd; omega⟩
theorem vreg_iff {b : Int} {ds : List Int} : vreg b ds = true ↔ (2 ≤ b ∧ b ≤ 16) ∧ (1 ≤ ds.length ∧ ds.length ≤ 16) ∧ (∀ d ∈ ds, 0 ≤ d ∧ d < b) ∧ valL b ds ≤ 1000000000000 := by
  simp only [vreg, Bool.and_eq_true, betB_iff, digB_iff, decide_eq_true_eq]
  constructor
  · rintro ⟨⟨⟨h1, h2⟩, h3⟩, h4⟩; exact ⟨h1, by omega, h3, h4⟩
  · rintro ⟨h1, h2, h3, h4⟩; exact ⟨⟨⟨h1, by omega⟩, h3⟩, h4⟩
set_option maxHeartbeats 400000 in
theorem ValidRegister_any (b : Int) (A : Option Addr) (n c : Nat) (ds : List Int) (w : World) (hr : RI w A n ds) (hm : n ≤ 9223372036854775807) :
    Calls Tryz.prog 207 #[.agg #[.int .i64 b, .slice A n c]] w fun e w' => e = .returned (.bool (vreg b ds)) ∧ Below w.heap.size w w' := by
  have HL := Lib.hid hr.1
  rcases hb : betB b 2 16 with _ | _
  · have HF : Hid (vreg b ds = false) := by simp [Hid, vreg, hb]
    have hb' := Lib.hid hb; clear hb
    go_enter Tryz.func207, Tryz.ntmps207
    go_wp2_with (go_at_call 150; refine (isBase_any _ _).mono ?_; rintro e w' ⟨rfl, rfl⟩; rw [hb'.out])
    go_ret
    exact ⟨ret_bool HF.out.symm, (Below.refl _ _).alloc (Nat.le_refl _) _⟩
  rcases hw : betB (n : Int) 1 16 with _ | _
  · have HF : Hid (vreg b ds = false) := by simp [Hid, vreg, HL.out, hw]
    have hb' := Lib.hid hb; clear hb
    have hw' := Lib.hid hw; clear hw
    go_enter Tryz.func207, Tryz.ntmps207
    go_wp2_with (first
      | (go_at_call 150; refine (isBase_any _ _).mono ?_; rintro e w' ⟨rfl, rfl⟩; rw [hb'.out])
      | (go_at_call 151; refine (isRegisterWidth_any _ _).mono ?_; rintro e w' ⟨rfl, rfl⟩; rw [hw'.out]))
    go_ret
    exact ⟨ret_bool HF.out.symm, (Below.refl _ _).alloc (Nat.le_refl _) _⟩
  have hbb := betB_iff.1 hb
  have hww := betB_iff.1 hw
  have hb' := Lib.hid hb; clear hb
  have hw' := Lib.hid hw; clear hw
  go_enter Tryz.func207, Tryz.ntmps207
  go_wp2_with (first
    | (go_at_call 150; refine (isBase_any _ _).mono ?_; rintro e w' ⟨rfl, rfl⟩; rw [hb'.out])
    | (go_at_call 151; refine (isRegisterWidth_any _ _).mono ?_; rintro e w' ⟨rfl, rfl⟩; rw [hw'.out]))
  go_loop [19] (fun i => ∃ k : Nat, k ≤ n ∧ i = .int .i64 k ∧ digB b (ds.take k) = true) (fun i => n - (intOf i).toNat)
  case atStart => exact ⟨0, Nat.zero_le _, rfl, by simp [digB]⟩
  case round =>
    obtain ⟨k, hk, rfl, hdg⟩ := hrel
    have HD := Lib.hid hdg; clear hdg
    by_cases hkn : k < n
    · obtain ⟨ad, hA, hlt, hkl, hc⟩ := hr.at_ hkn
      rw [← World.cell?_alloc_lt w (.cells #[.int .i64 b, .slice A n c] 59) (ad.add k) (by rw [block_of_add]; omega)] at hc
      subst hA
      rcases hd : betB ds[k] 0 (b - 1) with _ | _
      · have HF : Hid (vreg b ds = false) := by simp [Hid, vreg, digB_not hkl hd]
        have hd' := Lib.hid hd; clear hd
        go_wp2_with (go_at_call 130; refine (between_any _ _ _ _).mono ?_; rintro e w' ⟨rfl, rfl⟩; rw [hd'.out])
        go_ret
        exact ⟨ret_bool HF.out.symm, (Below.refl _ _).alloc (Nat.le_refl _) _⟩
      · have hd' := Lib.hid hd; clear hd
        go_wp2_with (go_at_call 130; refine (between_any _ _ _ _).mono ?_; rintro e w' ⟨rfl, rfl⟩; rw [hd'.out])
        go_round
        case rel => exact ⟨k + 1, by omega, by go_num, by rw [digB_take_succ hkl, HD.out, hd'.out]; rfl⟩
        case measure => simp [intOf]; omega
    · have HK : Hid (digB b ds = true) := by have h1 := HD.out; rwa [List.take_of_length_le (by have := HL.out; omega)] at h1
      have HV : Hid (vreg b ds = decide (valL b ds ≤ 1000000000000)) := by simp [Hid, vreg, hb'.out, HL.out, hw'.out, HK.out]
      go_wp2_with (go_at_call 282; refine (value_any b A n c ds _ (by omega) (by omega) (digB_iff.1 HK.out) (hr.below ((Below.refl _ _).alloc (Nat.le_refl _) _)) (by omega)).mono ?_; rintro e w' ⟨rfl, hbw⟩)
      go_ret
      exact ⟨ret_bool HV.out.symm, ((Below.refl _ _).alloc (Nat.le_refl _) _).trans (hbw.mono (by simp))⟩
set_option maxHeartbeats 400000 in
theorem l02Digits_any (b : Int) (A : Option Addr) (n c : Nat) (ds : List Int) (w : World) (hr : RI w A n ds) (hm : n ≤ 9223372036854775807) (h1 : 2 ≤ b) (h2 : b ≤ 16) :
    Calls Tryz.prog 311 #[.int .i64 b, .slice A n c] w fun e w' => e = .returned (.bool (digB b ds && betB ds.length 1 16)) ∧ w = w' := by
  have HL := Lib.hid hr.1
  go_enter Tryz.func311, Tryz.ntmps311
  go_wp2
  go_loop [5] (fun i => ∃ k : Nat, k ≤ n ∧ i = .int .i64 k ∧ digB b (ds.take k) = true) (fun i => n - (intOf i).toNat)
  case atStart => exact ⟨0, Nat.zero_le _, rfl, by simp [digB]⟩
  case round =>
    obtain ⟨k, hk, rfl, hdg⟩ := hrel
    have HD := Lib.hid hdg; clear hdg
    by_cases hkn : k < n
    · obtain ⟨ad, hA, hlt, hkl, hc⟩ := hr.at_ hkn
      subst hA
      rcases hd : betB ds[k] 0 (b - 1) with _ | _
      · have HF : Hid (digB b ds = false) := digB_not hkl hd
        have hd' := Lib.hid hd; clear hd
        go_wp2_with (go_at_call 137; refine (l00In_any _ _ _ _).mono ?_; rintro e w' ⟨rfl, rfl⟩; rw [hd'.out])
        go_ret
        exact ⟨ret_bool (by rw [HF.out]; rfl), rfl⟩
      · have hd' := Lib.hid hd; clear hd
        go_wp2_with (go_at_call 137; refine (l00In_any _ _ _ _).mono ?_; rintro e w' ⟨rfl, rfl⟩; rw [hd'.out])
        go_round
        case rel => exact ⟨k + 1, by omega, by go_num, by rw [digB_take_succ hkl, HD.out, hd'.out]; rfl⟩
        case measure => simp [intOf]; omega
    · have HK : Hid (digB b ds = true) := by have h1 := HD.out; rwa [List.take_of_length_le (by have := HL.out; omega)] at h1
      go_wp2_with (go_at_call 137; refine (l00In_any _ _ _ _).mono ?_; rintro e w' ⟨rfl, rfl⟩)
      go_ret
      exact ⟨ret_bool (by rw [HK.out, HL.out]; rfl), rfl⟩
set_option maxHeartbeats 400000 in
theorem l02Value_any (b : Int) (A : Option Addr) (n c : Nat) (ds : List Int) (w : World)
   (hb1 : 2 ≤ b) (hb2 : b ≤ 16) (hd : ∀ d ∈ ds, 0 ≤ d ∧ d < b) (hr : RI w A n ds) (hn : n ≤ 16) :
    Calls Tryz.prog 312 #[.int .i64 b, .slice A n c] w fun e w' => e = .returned (.int .i64 (valL b ds)) ∧ w = w' := by
  have HL := Lib.hid hr.1
  go_enter Tryz.func312, Tryz.ntmps312
  go_wp2
  go_loop [5, 6] (fun v i => ∃ k : Nat, k ≤ n ∧ i = .int .i64 ((k : Int) - 1) ∧ v = .int .i64 (valL b (ds.drop k))) (fun _ i => (intOf i + 1).toNat)
  case atStart => exact ⟨n, Nat.le_refl _, rfl, by rw [List.drop_of_length_le (by have := HL.out; omega)]; rfl⟩
  case round =>
    obtain ⟨k, hk, rfl, rfl⟩ := hrel
    rcases Nat.eq_zero_or_pos k with hk0 | hk0
    · subst hk0
      go_wp2
      go_ret
      exact ⟨rfl, rfl⟩
    · obtain ⟨ad, hA, hlt, hkl, hc⟩ := hr.at_ (show k - 1 < n by omega)
      have hd1 := hd ds[k-1] (List.getElem_mem _)
      obtain ⟨hv0, hv1⟩ := valL_bd b (by omega) (ds.drop k) (fun x hx => (hd x (List.mem_of_mem_drop hx)).1)
      have hm0 : 0 ≤ valL b (ds.drop k) * b := Int.mul_nonneg hv0 (by omega)
      have hm1 : valL b (ds.drop k) * b ≤ 16000000000016 := by
        have := Int.mul_le_mul hv1 hb2 (by omega) (by omega); omega
      have HV : Hid (valL b (ds.drop (k - 1)) = min 1000000000001 (valL b (ds.drop k) * b + ds[k-1])) := by
        have := valL_drop b ds (k - 1) hkl; rw [show k - 1 + 1 = k by omega] at this; exact this
      subst hA
      go_wp2_with (go_at_call 314; refine (l00Min_any _ _ _).mono ?_; rintro e w' ⟨rfl, rfl⟩)
      go_round
      case rel => exact ⟨k - 1, by omega, by congr 1; omega, by rw [HV.out]⟩
      case measure => simp [intOf]; omega
end Go.Proofs.YtgljafiegpjlkaaGreatDoor

namespace Go.Proofs.YtgljafiegpjlkaaGreatDoor
open Go.RowKit
/-- a register in memory at address p -/
def RegAt (w : World) (p : Addr) (b : Int) (A : Option Addr) (n c : Nat) : Prop := w.cell? p = some (.int .i64 b) ∧ w.cell? ⟨p.block, p.off + 1, none⟩ = some (.slice A n c)
set_option maxHeartbeats 400000 in
theorem l02Ok_any (p : Addr) (b : Int) (A : Option Addr) (n c : Nat) (ds : List Int) (w : World) (hp : RegAt w p b A n c) (hr : RI w A n ds) (hm : n ≤ 9223372036854775807) :
    Calls Tryz.prog 231 #[.pointer (some p)] w fun e w' => e = .returned (.bool (vreg b ds)) ∧ ∃ m, w' = w.drewN m := by
  obtain ⟨hc0, hc1⟩ := hp
  have HL := Lib.hid hr.1
  rcases hb : betB b 2 16 with _ | _
  · have HF : Hid (vreg b ds = false) := by simp [Hid, vreg, hb]
    have k0 := Lib.hid (fun W => calls_val (l02Base_any b W) (congrArg Value.bool hb)); clear hb
    go_enter Tryz.func231, Tryz.ntmps231
    go_wp2_with fail
    go_quiet ((go_at_call 310; exact quiet_left (k0.out _)))
    go_wp2
    go_ret
    exact ⟨ret_bool HF.out.symm, _, rfl⟩
  have hbb := betB_iff.1 hb
  rcases hd : (digB b ds && betB ds.length 1 16) with _ | _
  · have HF : Hid (vreg b ds = false) := by simp only [Hid, vreg]; rw [Bool.and_assoc (betB b 2 16), Bool.and_comm (betB _ 1 16), hd]; simp
    have k0 := Lib.hid (fun W => calls_val (l02Base_any b W) (congrArg Value.bool hb)); clear hb
    have k1 := Lib.hid (fun m => calls_val (l02Digits_any b A n c ds (w.drewN m) hr hm hbb.1 hbb.2) (congrArg Value.bool hd)); clear hd
    go_enter Tryz.func231, Tryz.ntmps231
    go_wp2_with fail
    go_quiet ((first | (go_at_call 310; exact quiet_left (k0.out _)) | (go_at_call 311; exact quiet_left (k1.out _))))
    go_wp2
    go_ret
    exact ⟨ret_bool HF.out.symm, _, rfl⟩
  · have HF : Hid (vreg b ds = decide (valL b ds ≤ 1000000000000)) := by simp only [Hid, vreg]; rw [Bool.and_assoc (betB b 2 16), Bool.and_comm (betB _ 1 16), hd, hb]; simp
    have k0 := Lib.hid (fun W => calls_val (l02Base_any b W) (congrArg Value.bool hb)); clear hb
    have k1 := Lib.hid (fun m => calls_val (l02Digits_any b A n c ds (w.drewN m) hr hm hbb.1 hbb.2) (congrArg Value.bool hd))
    have hdd := Bool.and_eq_true _ _ ▸ hd
    have hd1 := digB_iff.1 hdd.1
    have hd2 := betB_iff.1 hdd.2
    rw [hr.1] at hd2
    clear hd hdd
    have k2 := Lib.hid (fun m => l02Value_any b A n c ds (w.drewN m) hbb.1 hbb.2 hd1 hr (by omega)); clear hd1
    go_enter Tryz.func231, Tryz.ntmps231
    go_wp2_with fail
    go_quiet ((first | (go_at_call 310; exact quiet_left (k0.out _)) | (go_at_call 311; exact quiet_left (k1.out _)) | (go_at_call 312; exact quiet_left (k2.out _))))
    go_wp2
    go_ret
    exact ⟨ret_bool HF.out.symm, _, rfl⟩
end Go.Proofs.YtgljafiegpjlkaaGreatDoor

namespace Go.Proofs.YtgljafiegpjlkaaGreatDoor
open Go.RowKit
/-- 'left - n', or -1 -/
def lft (left n : Int) : Int := if left - n < 0 then -1 else left - n
set_option maxHeartbeats 400000 in
theorem szInt64S_any (A : Option Addr) (n c : Nat) (left : Int) (w : World) (h1 : -1 ≤ left) (h2 : left ≤ 1048576) (hm : n ≤ 9223372036854775807) :
    Calls Tryz.prog 257 #[.slice A n c, .int .i64 left] w fun e w' => e = .returned (.int .i64 (lft left n)) ∧ w = w' := by
  by_cases h : left - n < 0
  · go_enter Tryz.func257, Tryz.ntmps257
    go_wp2
    go_ret
    exact ⟨ret_int (by unfold lft; rw [if_pos h]), rfl⟩
  · go_enter Tryz.func257, Tryz.ntmps257
    go_wp2
    go_ret
    exact ⟨ret_int (by unfold lft; rw [if_neg (by omega)]), rfl⟩
theorem lft_bd (left n : Int) (h : -1 ≤ left) (hn : 0 ≤ n) : -1 ≤ lft left n ∧ lft left n ≤ left := by unfold lft; split <;> omega
set_option maxHeartbeats 400000 in
theorem szRegister_any (b : Int) (A : Option Addr) (n c : Nat) (left : Int) (w : World) (h1 : -1 ≤ left) (h2 : left ≤ 1048576) (hm : n ≤ 9223372036854775807) :
    Calls Tryz.prog 176 #[.agg #[.int .i64 b, .slice A n c], .int .i64 left] w fun e w' => e = .returned (.int .i64 (lft left n)) ∧ Below w.heap.size w w' := by
  obtain ⟨h3, h4⟩ := lft_bd left n h1 (by omega)
  by_cases h : lft left n < 0
  · have HF : Hid (lft left n = -1) := by simp only [Hid]; omega
    go_enter Tryz.func176, Tryz.ntmps176
    go_wp2_with (go_at_call 257; refine (szInt64S_any _ _ _ _ _ h1 h2 hm).mono ?_; rintro e w' ⟨rfl, rfl⟩)
    go_ret
    exact ⟨ret_int HF.out.symm, (Below.refl _ _).alloc (Nat.le_refl _) _⟩
  · go_enter Tryz.func176, Tryz.ntmps176
    go_wp2_with (go_at_call 257; refine (szInt64S_any _ _ _ _ _ h1 h2 hm).mono ?_; rintro e w' ⟨rfl, rfl⟩)
    go_ret
    exact ⟨rfl, (Below.refl _ _).alloc (Nat.le_refl _) _⟩
theorem take_eq_of_succ {ds es : List Int} {k : Nat} (h : ds.take k = es.take k) (h1 : k < ds.length) (h2 : k < es.length) (h3 : ds[k] = es[k]) : ds.take (k + 1) = es.take (k + 1) := by
  rw [List.take_succ_eq_append_getElem h1, List.take_succ_eq_append_getElem h2, h, h3]
set_option maxHeartbeats 400000 in
theorem eqInt64S_any (A B : Option Addr) (n c m d : Nat) (ds es : List Int) (w : World) (hr : RI w A n ds) (hs : RI w B m es) (hm : n ≤ 9223372036854775807) (hm2 : m ≤ 9223372036854775807) :
    Calls Tryz.prog 260 #[.slice A n c, .slice B m d] w fun e w' => e = .returned (.bool (decide (ds = es))) ∧ ∃ q, w' = w.drewN q := by
  have HL := Lib.hid hr.1
  have HM := Lib.hid hs.1
  by_cases hnm : n = m
  · subst hnm
    go_enter Tryz.func260, Tryz.ntmps260
    go_wp2
    go_loopw [5] (fun i wr => ∃ k : Nat, k ≤ n ∧ i = .int .i64 k ∧ ds.take k = es.take k ∧ ∃ q, wr = w.drewN q) (fun i _ => n - (intOf i).toNat)
    case atStart => exact ⟨0, Nat.zero_le _, rfl, by simp, 0, rfl⟩
    case round =>
      obtain ⟨k, hk, rfl, hdg, q, rfl⟩ := hrel
      have HD := Lib.hid hdg; clear hdg
      by_cases hkn : k < n
      · obtain ⟨ad, hA, hlt, hkl, hc⟩ := hr.at_ hkn
        obtain ⟨ad2, hB, hlt2, hkl2, hc2⟩ := hs.at_ hkn
        subst hA; subst hB
        have hi0 : (0 : Int) ≤ (k : Int) := by omega
        have hi1 : (k : Int) < (n : Int) := by omega
        rcases hd : (ds[k] != es[k]) with _ | _
        · go_wp2
          go_quiet (fail)
          go_wp2
          have he : ds[k] = es[k] := by simpa using hd
          have HE := Lib.hid he; clear he
          go_roundw
          case rel => exact ⟨k + 1, by omega, by go_num, take_eq_of_succ HD.out hkl hkl2 HE.out, by first | exact ⟨_, rfl⟩ | exact ⟨_, World.drewN_drewN _ _ _⟩⟩
          case measure => simp [intOf]; omega
        · go_wp2
          go_quiet (fail)
          go_wp2
          go_ret
          refine ⟨ret_bool ?_, by first | exact ⟨_, rfl⟩ | exact ⟨_, World.drewN_drewN _ _ _⟩⟩
          have : ds ≠ es := by rintro rfl; simp at hd
          simp [this]
      · have HF : Hid (ds = es) := by
          have := HD.out
          rwa [List.take_of_length_le (by have := HL.out; omega), List.take_of_length_le (by have := HM.out; omega)] at this
        go_wp2
        go_ret
        exact ⟨ret_bool (by simp [HF.out]), q, rfl⟩
  · have HF : Hid (ds ≠ es) := by rintro rfl; exact hnm (hr.1.symm.trans hs.1)
    go_enter Tryz.func260, Tryz.ntmps260
    go_wp2
    go_ret
    exact ⟨ret_bool (by simp [HF.out]), 0, rfl⟩
theorem bcellB {B : Nat} {W w1 : World} (hb : Below B W w1) : (∀ b o, b < B → w1.cell? ⟨b, o, none⟩ = W.cell? ⟨b, o, none⟩) ∧ (∀ b o, b < B → w1.frozen? ⟨b, o, none⟩ = W.frozen? ⟨b, o, none⟩) :=
  ⟨fun b o h => hb.cell (p := ⟨b, o, none⟩) h, fun b o h => hb.frozen (p := ⟨b, o, none⟩) h⟩
theorem bcell {W w1 : World} (hb : Below W.heap.size W w1) : (∀ b o, b < W.heap.size → w1.cell? ⟨b, o, none⟩ = W.cell? ⟨b, o, none⟩) ∧ (∀ b o, b < W.heap.size → w1.frozen? ⟨b, o, none⟩ = W.frozen? ⟨b, o, none⟩) :=
  ⟨fun b o h => hb.cell (p := ⟨b, o, none⟩) h, fun b o h => hb.frozen (p := ⟨b, o, none⟩) h⟩
theorem OwnI.setBelow {w : World} {base : Nat} {v : Value} {ds : List Int} (h : OwnI w base v ds) {a : Addr} (ha : a.block < base) (u : Value) : OwnI (w.setCell a u) base v ds := ownsRow_setCell_below h ha u
theorem set_fill (xs : List Value) (n k : Nat) (z u : Value) (h : k < n) (hl : xs.length = k) : (xs ++ List.replicate (n - k) z).set k u = (xs ++ [u]) ++ List.replicate (n - (k + 1)) z := by
  obtain ⟨m, hm⟩ : ∃ m, n - k = m + 1 := ⟨n - k - 1, by omega⟩
  rw [List.set_append_right _ _ (by omega), hm, hl, Nat.sub_self, List.replicate_succ, List.set_cons_zero, show n - (k + 1) = m by omega]; simp
theorem madeI (n : Nat) : (madeCells (Value.int .i64 0).cells (n * 1)).toList = List.replicate n (.int .i64 0) := by
  rw [Nat.mul_one]; exact toList_madeCells_one _ n
set_option maxHeartbeats 400000 in
theorem toInt64S_any (A : Option Addr) (n c : Nat) (ds : List Int) (w : World) (hr : RI w A n ds) (hm : n ≤ 1048576) :
    Calls Tryz.prog 259 #[.slice A n c] w fun e w' => ∃ A' c', e = .returned (.slice A' n c') ∧ OwnI w' w.heap.size (.slice A' n c') ds ∧ Below w.heap.size w w' := by
  have HL := Lib.hid hr.1
  obtain ⟨i0, hi, hz0, hz1, hz2⟩ := info_parts info_i64
  go_enter Tryz.func259, Tryz.ntmps259
  go_wp2_with (at_make; refine wpList_make_full _ rfl _ _ 47 rfl w.heap.size 2 i0 _ 1 Tryz.underlying47 hi hz0 hz1 _ _ _ _ n rfl rfl rfl rfl (by rw [hz2]; omega) (by unfold maxLen; omega) (Nat.le_refl _) ?_; intro w1 hown1 hg1)
  rw [madeI] at hown1
  have hb1 : Below w.heap.size w w1 := (Below.refl _ _).grown hg1 (Nat.le_refl _) (by simp)
  clear hg1
  go_loopw [4] (fun i wr => ∃ k : Nat, k ≤ n ∧ i = .int .i64 k ∧ wr.ownsRow w.heap.size 2 1 (.slice (some ⟨w.heap.size, 0, none⟩) n n) n ((ds.take k).map (Value.int .i64) ++ List.replicate (n - k) (.int .i64 0)) ∧ Below w.heap.size w wr) (fun i _ => n - (intOf i).toNat)
  case atStart => exact ⟨0, Nat.zero_le _, rfl, by simpa using hown1, hb1⟩
  case round =>
    obtain ⟨k, hk, rfl, hown, hbr⟩ := hrel
    by_cases hkn : k < n
    · obtain ⟨ad, hA, hlt, hkl, hc⟩ := hr.at_ hkn
      rw [← hbr.cell (by rw [block_of_add]; exact hlt)] at hc
      subst hA
      obtain ⟨u, hu⟩ : ∃ u, ((ds.take k).map (Value.int .i64) ++ List.replicate (n - k) (.int .i64 0))[k]? = some u := ⟨_, List.getElem?_eq_getElem (by rw [hown.1]; omega)⟩
      have hcell := (hown.cellAt k (by omega)).trans hu
      clear hu
      have hfz := hown.frozenAt k
      have hst := Lib.hid (hown.stored k (.int .i64 ds[k])).1
      have HE : Hid (((ds.take k).map (Value.int .i64) ++ List.replicate (n - k) (Value.int .i64 0)).set k (Value.int .i64 ds[k]) = (ds.take (k + 1)).map (Value.int .i64) ++ List.replicate (n - (k + 1)) (Value.int .i64 0)) := by
        have h1 : ((ds.take k).map (Value.int .i64)).length = k := by rw [List.length_map, List.length_take_of_le (by omega)]
        simp only [Hid]; rw [set_fill _ _ _ _ _ hkn h1, List.take_succ_eq_append_getElem hkl, List.map_append]; rfl
      clear hown
      go_wp2
      go_roundw
      case rel => exact ⟨k + 1, by omega, by go_num, by rw [← HE.out]; exact hst.out, hbr.setCell (Nat.le_refl _) _⟩
      case measure => simp [intOf]; omega
    · have HK : Hid (k = n) := by simp only [Hid]; omega
      go_wp2
      go_ret
      refine ⟨_, _, rfl, ?_, hbr⟩
      rw [HK.out, List.take_of_length_le (by have := HL.out; omega)] at hown
      unfold OwnI
      rw [HL.out]
      simpa using hown
set_option maxHeartbeats 400000 in
theorem toRegister_any (b : Int) (A : Option Addr) (n c : Nat) (ds : List Int) (w : World) (hr : RI w A n ds) (hm : n ≤ 1048576) :
    Calls Tryz.prog 178 #[.agg #[.int .i64 b, .slice A n c]] w fun e w' => ∃ A' c', e = .returned (.agg #[.int .i64 b, .slice A' n c']) ∧ OwnI w' w.heap.size (.slice A' n c') ds ∧ Below w.heap.size w w' := by
  go_enter Tryz.func178, Tryz.ntmps178
  have hb0 : Below w.heap.size w (((w.alloc (.cells #[.int .i64 b, .slice A n c] 72)).alloc (.cells #[.int .i64 0, .slice none 0 0] 59)).alloc (.cells #[.int .i64 b, .slice none 0 0] 59)) := (((Below.refl _ _).alloc (Nat.le_refl _) _).alloc (by simp) _).alloc (by simp <;> omega) _
  have hr' := hr.below hb0
  go_wp2_with (go_at_call 259; refine (toInt64S_any _ _ _ ds _ hr' hm).mono ?_; rintro e w1 ⟨A', c', rfl, hov, hbw⟩; obtain ⟨hcc, hff⟩ := bcell hbw; have hz : w.heap.size + 3 ≤ w1.heap.size := by have := hbw.size; simp at this; omega)
  refine bodyPost_ret (v := .agg #[.int .i64 b, .slice A' n c']) (by simp [results, Tryz.results178, go_sem, hcc]) rfl ⟨_, _, rfl, ?_, ?_⟩
  · exact (((hov.setBelow (by simp <;> omega) _).setBelow (by simp <;> omega) _).setBelow (by simp <;> omega) _).mono (by simp <;> omega)
  · exact (((hb0.trans (hbw.mono (by simp <;> omega))).setCell (by simp <;> omega) _).setCell (by simp) _).setCell (by simp) _
set_option maxHeartbeats 400000 in
theorem eqRegister_any (b b' : Int) (A B : Option Addr) (n c m d : Nat) (ds es : List Int) (w : World) (hr : RI w A n ds) (hs : RI w B m es) (hm : n ≤ 9223372036854775807) (hm2 : m ≤ 9223372036854775807) :
    Calls Tryz.prog 180 #[.agg #[.int .i64 b, .slice A n c], .agg #[.int .i64 b', .slice B m d]] w fun e w' => e = .returned (.bool (decide (b = b' ∧ ds = es))) ∧ Below w.heap.size w w' := by
  have hb0 : Below w.heap.size w ((w.alloc (.cells #[.int .i64 b, .slice A n c] 59)).alloc (.cells #[.int .i64 b', .slice B m d] 59)) := ((Below.refl _ _).alloc (Nat.le_refl _) _).alloc (by simp) _
  have hr' := hr.below hb0
  have hs' := hs.below hb0
  rcases hd : (b != b') with _ | _
  · have HF : Hid (decide (b = b' ∧ ds = es) = decide (ds = es)) := by
      have : b = b' := by simpa using hd
      simp [Hid, this]
    go_enter Tryz.func180, Tryz.ntmps180
    go_wp2_with (go_at_call 260; refine (eqInt64S_any _ _ _ _ _ _ ds es _ hr' hs' hm hm2).mono ?_; rintro e w' ⟨rfl, q, rfl⟩; rcases he : decide (ds = es) with _ | _)
    all_goals
      go_ret
      exact ⟨ret_bool (by rw [HF.out, he]), below_drewN hb0 _⟩
  · have HF : Hid (decide (b = b' ∧ ds = es) = false) := by
      have : b ≠ b' := by simpa using hd
      simp [Hid, this]
    go_enter Tryz.func180, Tryz.ntmps180
    go_wp2
    go_ret
    exact ⟨ret_bool HF.out.symm, hb0⟩
end Go.Proofs.YtgljafiegpjlkaaGreatDoor

namespace Go.Proofs.YtgljafiegpjlkaaGreatDoor
open Go.RowKit
def lft3 (left n1 n2 n3 : Int) : Int := if lft left n1 < 0 then -1 else if lft (lft left n1) n2 < 0 then -1 else lft (lft (lft left n1) n2) n3
end Go.Proofs.YtgljafiegpjlkaaGreatDoor

namespace Go.Proofs.YtgljafiegpjlkaaGreatDoor
open Go.RowKit
structure Reg where
  base : Int
  digits : List Int
structure Tri where
  a : Reg
  b : Reg
  s : Reg
  carry : Int
instance : Inhabited Reg := ⟨⟨0, []⟩⟩
instance : Inhabited Tri := ⟨⟨default, default, default, 0⟩⟩
def Reg.ok (r : Reg) : Bool := vreg r.base r.digits
/-- a register in memory -/
def RegM (w : World) (p : Addr) (r : Reg) : Prop := ∃ A c, RegAt w p r.base A r.digits.length c ∧ RI w A r.digits.length r.digits
def TriM (w : World) (p : Addr) (t : Tri) : Prop := RegM w p t.a ∧ RegM w ⟨p.block, p.off + 2, none⟩ t.b ∧ RegM w ⟨p.block, p.off + 4, none⟩ t.s ∧ w.cell? ⟨p.block, p.off + 6, none⟩ = some (.int .i64 t.carry)
/-- a slice whose elements of sz cells lie as E says -/
def RL {α : Type} (E : World → Addr → α → Prop) (sz : Nat) (w : World) (A : Option Addr) (n : Nat) (xs : List α) : Prop :=
  xs.length = n ∧ (0 < n → ∃ ad, A = some ad ∧ ad.block < w.heap.size ∧ ∀ (k : Nat) (h : k < xs.length), E w (ad.add (k * sz)) xs[k])
def Steady {α : Type} (E : World → Addr → α → Prop) : Prop := ∀ (w w' : World) (p : Addr) (x : α), p.block < w.heap.size → Below w.heap.size w w' → E w p x → E w' p x
theorem RL.below {α : Type} {E : World → Addr → α → Prop} (hE : Steady E) {sz : Nat} {w w' : World} {A : Option Addr} {n : Nat} {xs : List α} (h : RL E sz w A n xs) (hb : Below w.heap.size w w') : RL E sz w' A n xs := by
  refine ⟨h.1, fun hn => ?_⟩
  obtain ⟨ad, e, hl, hc⟩ := h.2 hn
  exact ⟨ad, e, Nat.lt_of_lt_of_le hl hb.size, fun k hk => hE _ _ _ _ (by rw [block_of_add]; exact hl) hb (hc k hk)⟩
theorem RL.at_ {α : Type} {E : World → Addr → α → Prop} {sz : Nat} {w : World} {A : Option Addr} {n : Nat} {xs : List α} (h : RL E sz w A n xs) {k : Nat} (hk : k < n) : ∃ ad, A = some ad ∧ ad.block < w.heap.size ∧ ∃ h : k < xs.length, E w (ad.add (k * sz)) xs[k] := by
  obtain ⟨ad, e, hl, hc⟩ := h.2 (by omega)
  have : k < xs.length := by have := h.1; omega
  exact ⟨ad, e, hl, this, hc k this⟩
theorem steady_RegM : Steady RegM := by
  rintro w w' p r hp hb ⟨A, c, ⟨h1, h2⟩, h3⟩
  exact ⟨A, c, ⟨by rw [hb.cell hp]; exact h1, by rw [hb.cell (by exact hp)]; exact h2⟩, h3.below hb⟩
theorem steady_TriM : Steady TriM := by
  rintro w w' p t hp hb ⟨h1, h2, h3, h4⟩
  exact ⟨steady_RegM _ _ _ _ hp hb h1, steady_RegM _ _ _ _ (by exact hp) hb h2, steady_RegM _ _ _ _ (by exact hp) hb h3, by rw [hb.cell (by exact hp)]; exact h4⟩
def vlike (r r0 : Reg) : Bool := r.ok && r.base == r0.base && decide ((r.digits.length : Int) = r0.digits.length)
theorem chain3 (a b c : Bool) : a = false ∨ (a = true ∧ b = false) ∨ (a = true ∧ b = true ∧ c = false) ∨ (a = true ∧ b = true ∧ c = true) := by cases a <;> cases b <;> cases c <;> simp
theorem chain4 (a b c d : Bool) : a = false ∨ (a = true ∧ b = false) ∨ (a = true ∧ b = true ∧ c = false) ∨ (a = true ∧ b = true ∧ c = true ∧ d = false) ∨ (a = true ∧ b = true ∧ c = true ∧ d = true) := by cases a <;> cases b <;> cases c <;> cases d <;> simp
def SmallReg (r : Reg) : Prop := r.digits.length ≤ 9223372036854775807
theorem l02Ok_reg (p : Addr) (r : Reg) (w : World) (hp : RegM w p r) (hm : SmallReg r) (v : Bool) (hv : r.ok = v) :
    Calls Tryz.prog 231 #[.pointer (some p)] w fun e w' => e = .returned (.bool v) ∧ ∃ m, w' = w.drewN m := by
  obtain ⟨A, c, h1, h2⟩ := hp
  subst hv
  exact l02Ok_any p r.base A r.digits.length c r.digits w h1 h2 (by unfold SmallReg at hm; omega)
theorem quiet_of_ex {P : Program} {f : FuncId} {args : Array Value} {w : World} {n : Nat} {v : Value}
    (h : Calls P f args (w.drewN n) fun e w' => e = .returned v ∧ ∃ m, w' = (w.drewN n).drewN m) : Calls P f args (w.drewN n) fun e w'' => e = .returned v ∧ ∃ m, w'' = w.drewN m := Calls.quiet_of h
set_option maxHeartbeats 800000 in
theorem l20Like_any (p q : Addr) (r r0 : Reg) (w : World) (hp : RegM w p r) (hq : RegM w q r0) (hm : SmallReg r) (hm0 : SmallReg r0) (v : Bool) (hv : vlike r r0 = v) :
    Calls Tryz.prog 402 #[.pointer (some p), .pointer (some q)] w fun e w' => e = .returned (.bool v) ∧ ∃ m, w' = w.drewN m := by
  have K1 := Lib.hid (fun (m : Nat) => l02Ok_reg p r (w.drewN m) hp hm)
  subst hv
  obtain ⟨A, c, ⟨ha, hb⟩, -⟩ := hp
  obtain ⟨A0, c0, ⟨ha0, hb0⟩, -⟩ := hq
  have HV := Lib.hid (show vlike r r0 = (r.ok && r.base == r0.base && decide ((r.digits.length : Int) = r0.digits.length)) from rfl)
  unfold SmallReg at hm hm0
  rcases chain3 r.ok (r.base == r0.base) ((r.digits.length : Int) == r0.digits.length) with k1 | ⟨k1, k2⟩ | ⟨k1, k2, k3⟩ | ⟨k1, k2, k3⟩
  all_goals
    have H1 := Lib.hid k1; clear k1
    go_enter Tryz.func402, Tryz.ntmps402
    go_wp2_with fail
    go_quiet ((go_at_call 231; exact quiet_of_ex (K1.out _ _ H1.out)))
    go_wp2
    go_ret
    exact ⟨ret_bool (by rw [HV.out, H1.out]; simp_all), _, rfl⟩
end Go.Proofs.YtgljafiegpjlkaaGreatDoor

namespace Go.Proofs.YtgljafiegpjlkaaGreatDoor
open Go.RowKit Go.Sort
theorem quietB {P : Program} {f : FuncId} {args : Array Value} {w : World} {d : Nat} {os : Array Obj} {v : Value}
    (h : ∀ W, Below w.heap.size w W → Calls P f args W fun e w' => e = .returned v ∧ Below W.heap.size W w') :
    Calls P f args (grow (redrawn w d) os) fun e w'' => e = .returned v ∧ ∃ p : Regrown, w'' = grow (redrawn w p.d) p.os := Calls.regrown_of (h _ (below_regrown w d os))
theorem quiet_add_ex {P : Program} {f : FuncId} {args : Array Value} {w : World} {a n : Nat} {v : Value}
    (h : Calls P f args (w.drewN (a + n)) fun e w' => e = .returned v ∧ ∃ m, w' = (w.drewN (a + n)).drewN m) :
    Calls P f args (w.drewN (a + n)) fun e w'' => e = .returned v ∧ ∃ m, w'' = w.drewN (a + m) :=
  h.mono fun _ _ ⟨he, m, hm⟩ => ⟨he, n + m, by rw [hm, World.drewN_drewN, Nat.add_assoc]⟩
def SmallTri (t : Tri) : Prop := SmallReg t.a ∧ SmallReg t.b ∧ SmallReg t.s
def triGood (r0 : Reg) (t : Tri) : Bool := vlike t.a r0 && vlike t.b r0 && vlike t.s r0 && betB t.carry 0 1
def vtrials (ts : List Tri) : Bool := ts.all (triGood (ts.headD default).a) && betB ts.length 1 60
theorem all_take_succ {α : Type} {p : α → Bool} {ds : List α} {k : Nat} (h : k < ds.length) : (ds.take (k + 1)).all p = ((ds.take k).all p && p ds[k]) := by
  rw [List.take_succ_eq_append_getElem h, List.all_append]; simp only [List.all_cons, List.all_nil, Bool.and_true]
theorem all_not {α : Type} {p : α → Bool} {ds : List α} {k : Nat} (h : k < ds.length) (h1 : p ds[k] = false) : ds.all p = false := by
  simp only [List.all_eq_false]; exact ⟨ds[k], List.getElem_mem _, by simp [h1]⟩
theorem addr_add_zero (a : Addr) : a.add 0 = a := by simp [Addr.add]
theorem headD_get {ts : List Tri} (h : 0 < ts.length) : ts.headD default = ts[0] := by cases ts with
  | nil => simp at h
  | cons t ts => rfl
set_option maxHeartbeats 1600000 in
theorem l20Ok_any (A : Option Addr) (n c : Nat) (ts : List Tri) (w : World) (hr : RL TriM 7 w A n ts) (hs : ∀ t ∈ ts, SmallTri t) (hm : n ≤ 9223372036854775807) :
    Calls Tryz.prog 381 #[.slice A n c] w fun e w' => e = .returned (.bool (vtrials ts)) ∧ ∃ q, w' = w.drewN q := by
  have HL := Lib.hid hr.1
  go_enter Tryz.func381, Tryz.ntmps381
  go_wp2
  go_loopw [3] (fun i wr => ∃ k : Nat, k ≤ n ∧ i = .int .i64 k ∧ (ts.take k).all (triGood (ts.headD default).a) = true ∧ ∃ q, wr = w.drewN q) (fun i _ => n - (intOf i).toNat)
  case atStart => exact ⟨0, Nat.zero_le _, rfl, by simp, 0, rfl⟩
  case round =>
    obtain ⟨k, hk, rfl, hdg, q, rfl⟩ := hrel
    have HD := Lib.hid hdg; clear hdg
    by_cases hkn : k < n
    · obtain ⟨ad, hA, hlt, hk0, ht0⟩ := hr.at_ (show 0 < n by omega)
      obtain ⟨ad', hA', -, hkl, ht⟩ := hr.at_ hkn
      obtain rfl : ad = ad' := by rw [hA] at hA'; injection hA'
      rw [Nat.zero_mul, addr_add_zero] at ht0
      obtain ⟨ha, hb, hs3, hcy⟩ := ht
      obtain ⟨s1, s2, s3⟩ := hs ts[k] (List.getElem_mem _)
      have s0 := (hs ts[0] (List.getElem_mem _)).1
      have HH := Lib.hid (headD_get (by omega : 0 < ts.length))
      have hi0 : (0 : Int) ≤ (k : Int) := by omega
      have hi1 : (k : Int) < (n : Int) := by omega
      have hi2 : (0 : Int) < (n : Int) := by omega
      have K1 := Lib.hid (fun (m : Nat) => l20Like_any (ad.add (k * 7)) ad ts[k].a ts[0].a (w.drewN m) ha ht0.1 s1 s0)
      have K2 := Lib.hid (fun (m : Nat) => l20Like_any ⟨(ad.add (k * 7)).block, (ad.add (k * 7)).off + 2, none⟩ ad ts[k].b ts[0].a (w.drewN m) hb ht0.1 s2 s0)
      have K3 := Lib.hid (fun (m : Nat) => l20Like_any ⟨(ad.add (k * 7)).block, (ad.add (k * 7)).off + 4, none⟩ ad ts[k].s ts[0].a (w.drewN m) hs3 ht0.1 s3 s0)
      have HT := Lib.hid (show triGood ts[0].a ts[k] = (vlike ts[k].a ts[0].a && vlike ts[k].b ts[0].a && vlike ts[k].s ts[0].a && betB ts[k].carry 0 1) from rfl)
      clear ha hb hs3 ht0 s0 s1 s2 s3
      subst hA
      rcases chain4 (vlike ts[k].a ts[0].a) (vlike ts[k].b ts[0].a) (vlike ts[k].s ts[0].a) (betB ts[k].carry 0 1) with k1 | ⟨k1, k2⟩ | ⟨k1, k2, k3⟩ | ⟨k1, k2, k3, k4⟩ | ⟨k1, k2, k3, k4⟩
      rotate_right 1
      · have H1 := Lib.hid k1; have H2 := Lib.hid k2; have H3 := Lib.hid k3; have H4 := Lib.hid k4
        clear k1 k2 k3 k4
        go_wp2
        go_quiet ((first | (go_at_call 402; first | (with_reducible exact quiet_of_ex (K1.out _ _ H1.out)) | (with_reducible exact quiet_of_ex (K2.out _ _ H2.out)) | (with_reducible exact quiet_of_ex (K3.out _ _ H3.out)) | (with_reducible exact quiet_add_ex (K1.out _ _ H1.out)) | (with_reducible exact quiet_add_ex (K2.out _ _ H2.out)) | (with_reducible exact quiet_add_ex (K3.out _ _ H3.out))) | (go_at_call 137; first | exact quiet_left (calls_val (l00In_any _ _ _ _) (congrArg Value.bool H4.out)) | exact quiet_add_left (calls_val (l00In_any _ _ _ _) (congrArg Value.bool H4.out)))))
        go_wp2
        go_roundw
        case rel => exact ⟨k + 1, by omega, by go_num, by rw [all_take_succ hkl, HD.out, HH.out, HT.out, H1.out, H2.out, H3.out, H4.out]; rfl, by first | exact ⟨_, rfl⟩ | exact ⟨_, World.drewN_drewN _ _ _⟩⟩
        case measure => simp [intOf]; omega
      all_goals
        have HF : Hid (vtrials ts = false) := by
          simp only [Hid, vtrials]; rw [all_not hkl]; rfl
          rw [HH.out, HT.out]; simp_all
        have H1 := Lib.hid k1; clear k1
        try (have H2 := Lib.hid k2; clear k2)
        try (have H3 := Lib.hid k3; clear k3)
        try (have H4 := Lib.hid k4; clear k4)
        go_wp2
        go_quiet ((first | (go_at_call 402; first | (with_reducible exact quiet_of_ex (K1.out _ _ H1.out)) | (with_reducible exact quiet_of_ex (K2.out _ _ H2.out)) | (with_reducible exact quiet_of_ex (K3.out _ _ H3.out)) | (with_reducible exact quiet_add_ex (K1.out _ _ H1.out)) | (with_reducible exact quiet_add_ex (K2.out _ _ H2.out)) | (with_reducible exact quiet_add_ex (K3.out _ _ H3.out))) | (go_at_call 137; first | exact quiet_left (calls_val (l00In_any _ _ _ _) (congrArg Value.bool H4.out)) | exact quiet_add_left (calls_val (l00In_any _ _ _ _) (congrArg Value.bool H4.out)))))
        go_wp2
        go_ret
        exact ⟨ret_bool HF.out.symm, by first | exact ⟨_, rfl⟩ | exact ⟨_, World.drewN_drewN _ _ _⟩⟩
    · have HK : Hid (ts.all (triGood (ts.headD default).a) = true) := by have h1 := HD.out; rwa [List.take_of_length_le (by have := HL.out; omega)] at h1
      go_wp2_with (go_at_call 137; refine (l00In_any _ _ _ _).mono ?_; rintro e w' ⟨rfl, rfl⟩)
      go_ret
      exact ⟨ret_bool (by unfold vtrials; rw [HK.out, HL.out]; rfl), q, rfl⟩
end Go.Proofs.YtgljafiegpjlkaaGreatDoor

namespace Go.Proofs.YtgljafiegpjlkaaGreatDoor
open Go.RowKit Go.Sort
theorem TriM.cells {w : World} {p : Addr} {t : Tri} (h : TriM w p t) : ∃ A1 c1 A2 c2 A3 c3, (w.cell? p = some (.int .i64 t.a.base) ∧ w.cell? ⟨p.block, p.off + 1, none⟩ = some (.slice A1 t.a.digits.length c1) ∧ w.cell? ⟨p.block, p.off + 2, none⟩ = some (.int .i64 t.b.base) ∧ w.cell? ⟨p.block, p.off + 3, none⟩ = some (.slice A2 t.b.digits.length c2) ∧
    w.cell? ⟨p.block, p.off + 4, none⟩ = some (.int .i64 t.s.base) ∧ w.cell? ⟨p.block, p.off + 5, none⟩ = some (.slice A3 t.s.digits.length c3) ∧ w.cell? ⟨p.block, p.off + 6, none⟩ = some (.int .i64 t.carry)) ∧
    RI w A1 t.a.digits.length t.a.digits ∧ RI w A2 t.b.digits.length t.b.digits ∧ RI w A3 t.s.digits.length t.s.digits := by
  obtain ⟨⟨A1, c1, ⟨h1, h2⟩, r1⟩, ⟨A2, c2, ⟨h3, h4⟩, r2⟩, ⟨A3, c3, ⟨h5, h6⟩, r3⟩, h7⟩ := h
  exact ⟨A1, c1, A2, c2, A3, c3, ⟨h1, h2, h3, h4, h5, h6, h7⟩, r1, r2, r3⟩
theorem width_any (b : Int) (A : Option Addr) (n c : Nat) (w : World) :
    Calls Tryz.prog 155 #[.agg #[.int .i64 b, .slice A n c]] w fun e w' => e = .returned (.int .i64 n) ∧ Below w.heap.size w w' := by
  go_enter Tryz.func155, Tryz.ntmps155
  go_wp2
  go_ret
  exact ⟨rfl, (Below.refl _ _).alloc (Nat.le_refl _) _⟩
set_option maxHeartbeats 1600000 in
theorem ValidTrials_any (A : Option Addr) (n c : Nat) (ts : List Tri) (w : World) (hr : RL TriM 7 w A n ts) (hs : ∀ t ∈ ts, SmallTri t) (hm : n ≤ 9223372036854775807) :
    Calls Tryz.prog 352 #[.slice A n c] w fun e w' => e = .returned (.bool (vtrials ts)) ∧ Below w.heap.size w w' := by
  have HL := Lib.hid hr.1
  go_enter Tryz.func352, Tryz.ntmps352
  go_wp2
  go_loopw [9] (fun i wr => ∃ k : Nat, k ≤ n ∧ i = .int .i64 k ∧ (ts.take k).all (triGood (ts.headD default).a) = true ∧ Below w.heap.size w wr) (fun i _ => n - (intOf i).toNat)
  case atStart => exact ⟨0, Nat.zero_le _, rfl, by simp, Below.refl _ _⟩
  case round =>
    obtain ⟨k, hk, rfl, hdg, hbr⟩ := hrel
    have HD := Lib.hid hdg; clear hdg
    by_cases hkn : k < n
    · obtain ⟨ad, hA, hlt, hk0, ht0⟩ := (hr.below steady_TriM hbr).at_ (show 0 < n by omega)
      obtain ⟨ad', hA', -, hkl, ht⟩ := (hr.below steady_TriM hbr).at_ hkn
      obtain rfl : ad = ad' := by rw [hA] at hA'; injection hA'
      rw [Nat.zero_mul, addr_add_zero] at ht0
      obtain ⟨A0, c0, -, -, -, -, ⟨z1, z2, -⟩, -⟩ := ht0.cells
      obtain ⟨A1, c1, A2, c2, A3, c3, ⟨g1, g2, g3, g4, g5, g6, g7⟩, r1, r2, r3⟩ := ht.cells
      obtain ⟨s1, s2, s3⟩ := hs ts[k] (List.getElem_mem _)
      have s0 := (hs ts[0] (List.getElem_mem _)).1
      have HH := Lib.hid (headD_get (by omega : 0 < ts.length))
      have HT := Lib.hid (show triGood ts[0].a ts[k] = (vlike ts[k].a ts[0].a && vlike ts[k].b ts[0].a && vlike ts[k].s ts[0].a && betB ts[k].carry 0 1) from rfl)
      have hi0 : (0 : Int) ≤ (k : Int) := by omega
      have hi1 : (k : Int) < (n : Int) := by omega
      have hi2 : (0 : Int) < (n : Int) := by omega
      clear ht0 ht hA'
      subst hA
      obtain ⟨wo, rfl⟩ : ∃ wo : World, wo = wr := ⟨_, rfl⟩
      have HC1 : Hid True := trivial
      go_wp2
      have hb0 : Below w.heap.size w ((wo.alloc (.cells #[.int .i64 ts[k].a.base, .slice A1 ts[k].a.digits.length c1, .int .i64 ts[k].b.base, .slice A2 ts[k].b.digits.length c2, .int .i64 ts[k].s.base, .slice A3 ts[k].s.digits.length c3, .int .i64 ts[k].carry] 332)).alloc (.cells #[.int .i64 ts[k].a.base, .slice A1 ts[k].a.digits.length c1, .int .i64 ts[k].b.base, .slice A2 ts[k].b.digits.length c2, .int .i64 ts[k].s.base, .slice A3 ts[k].s.digits.length c3] 59)) := (hbr.alloc hbr.size _).alloc (by have := hbr.size; simp; omega) _
      go_loopw [21] (fun j wi => (j = .int .i64 0 ∨ (j = .int .i64 1 ∧ vlike ts[k].a ts[0].a = true) ∨ (j = .int .i64 2 ∧ vlike ts[k].a ts[0].a = true ∧ vlike ts[k].b ts[0].a = true) ∨ (j = .int .i64 3 ∧ vlike ts[k].a ts[0].a = true ∧ vlike ts[k].b ts[0].a = true ∧ vlike ts[k].s ts[0].a = true)) ∧ Below (wo.heap.size + 2) ((wo.alloc (.cells #[.int .i64 ts[k].a.base, .slice A1 ts[k].a.digits.length c1, .int .i64 ts[k].b.base, .slice A2 ts[k].b.digits.length c2, .int .i64 ts[k].s.base, .slice A3 ts[k].s.digits.length c3, .int .i64 ts[k].carry] 332)).alloc (.cells #[.int .i64 ts[k].a.base, .slice A1 ts[k].a.digits.length c1, .int .i64 ts[k].b.base, .slice A2 ts[k].b.digits.length c2, .int .i64 ts[k].s.base, .slice A3 ts[k].s.digits.length c3] 59)) wi) (fun j _ => (3 - intOf j).toNat)
      case atStart => exact ⟨.inl rfl, Below.refl _ _⟩
      case round =>
        obtain ⟨hj, hbi⟩ := hrel
        obtain ⟨hci, hfi⟩ := bcellB hbi
        have hsz : wo.heap.size + 2 ≤ wr.heap.size := by have := hbi.size; simpa using this
        have hbw : Below w.heap.size w wr := hb0.trans (hbi.mono (by have := hbr.size; omega))
        have q1 := r1.below ((((Below.refl _ wo).alloc (Nat.le_refl _) _).alloc (by simp) _).trans (hbi.mono (by omega)))
        have q2 := r2.below ((((Below.refl _ wo).alloc (Nat.le_refl _) _).alloc (by simp) _).trans (hbi.mono (by omega)))
        have q3 := r3.below ((((Below.refl _ wo).alloc (Nat.le_refl _) _).alloc (by simp) _).trans (hbi.mono (by omega)))
        have y1 : wr.cell? ad = some (.int .i64 ts[0].a.base) := by rw [((((Below.refl _ wo).alloc (Nat.le_refl _) _).alloc (by simp) _).trans (hbi.mono (by omega))).cell hlt]; exact z1
        have y2 : wr.cell? ⟨ad.block, ad.off + 1, none⟩ = some (.slice A0 ts[0].a.digits.length c0) := by rw [((((Below.refl _ wo).alloc (Nat.le_refl _) _).alloc (by simp) _).trans (hbi.mono (by omega))).cell (by exact hlt)]; exact z2
        clear r1 r2 r3
        rcases hj with rfl | ⟨rfl, k1⟩ | ⟨rfl, k1, k2⟩ | ⟨rfl, k1, k2, k3⟩
        · have k1 : True := trivial
          have k2 : True := trivial
          have k1 := Lib.hid k1
          have k2 := Lib.hid k2
          have HL0 := Lib.hid (show vlike ts[k].a ts[0].a = (ts[k].a.ok && ts[k].a.base == ts[0].a.base && decide ((ts[k].a.digits.length : Int) = ts[0].a.digits.length)) from rfl)
          go_wp2_with fail
          obtain ⟨WW, hWW⟩ : ∃ W, W = wr.alloc (.cells #[.int .i64 ts[k].a.base, .slice A1 ts[k].a.digits.length c1] 59) := ⟨_, rfl⟩
          rw [← hWW]
          have hWb : Below wr.heap.size wr WW := by rw [hWW]; exact (Below.refl _ _).alloc (Nat.le_refl _) _
          have x1 := cell_regrown (show WW.cell? ⟨wr.heap.size, 0, none⟩ = some (.int .i64 ts[k].a.base) by rw [hWW]; go_simp)
          have x2 := cell_regrown (show WW.cell? ⟨wr.heap.size, 1, none⟩ = some (.slice A1 ts[k].a.digits.length c1) by rw [hWW]; go_simp)
          have x3 := cell_regrown (show WW.cell? ad = some (.int .i64 ts[0].a.base) by rw [hWb.cell (by omega)]; exact y1)
          have x4 := cell_regrown (show WW.cell? ⟨ad.block, ad.off + 1, none⟩ = some (.slice A0 ts[0].a.digits.length c0) by rw [hWb.cell (by exact (by omega : ad.block < wr.heap.size))]; exact y2)
          have KV := Lib.hid (fun (v : Bool) (hv : ts[k].a.ok = v) (W : World) (hW : Below WW.heap.size WW W) => calls_val (ValidRegister_any ts[k].a.base A1 ts[k].a.digits.length c1 ts[k].a.digits W ((q1.below hWb).below hW) (by have := s1; unfold SmallReg at this; omega)) (congrArg Value.bool hv))
          have hnew : Below (wo.heap.size + 2) ((wo.alloc (.cells #[.int .i64 ts[k].a.base, .slice A1 ts[k].a.digits.length c1, .int .i64 ts[k].b.base, .slice A2 ts[k].b.digits.length c2, .int .i64 ts[k].s.base, .slice A3 ts[k].s.digits.length c3, .int .i64 ts[k].carry] 332)).alloc (.cells #[.int .i64 ts[k].a.base, .slice A1 ts[k].a.digits.length c1, .int .i64 ts[k].b.base, .slice A2 ts[k].b.digits.length c2, .int .i64 ts[k].s.base, .slice A3 ts[k].s.digits.length c3] 59)) WW := hbi.trans (hWb.mono hsz)
          have hbw' : Below w.heap.size w WW := hbw.trans (hWb.mono hbw.size)
          clear hWW hbw hci hfi y1 y2
          rcases chain3 ts[k].a.ok (ts[k].a.base == ts[0].a.base) ((ts[k].a.digits.length : Int) == ts[0].a.digits.length) with j1 | ⟨j1, j2⟩ | ⟨j1, j2, j3⟩ | ⟨j1, j2, j3⟩
          rotate_right 1
          · have HV : Hid (vlike ts[k].a ts[0].a = true) := by rw [Hid, HL0.out, j1, j2]; simpa using j3
            have i2 : (ts[k].a.base != ts[0].a.base) = false := by simpa using j2
            have i3 : ((ts[k].a.digits.length : Int) != ts[0].a.digits.length) = false := by simpa using j3
            have J1 := Lib.hid j1
            clear j1 j2 j3
            refine wp_region_quiet_below (by kernel_rfl) (by kernel_rfl) ?_
            repeat (go_big_quiet_step ((first | (go_at_call 207; exact quietB (KV.out _ J1.out)) | (go_at_call 155; exact quietB (fun W _ => width_any _ _ _ _ W)))))
            refine wpQuiet_nil ?_
            intro _ hw'
            obtain ⟨⟨dq, osq⟩, hw''⟩ := hw'
            subst hw''
            have hnew := hnew.trans ((below_regrown WW dq osq).mono (by have := hWb.size; omega))
            go_wp2
            go_roundw
            case rel => exact ⟨.inr (.inl ⟨rfl, HV.out⟩), hnew⟩
            case measure => simp [intOf]
          all_goals
            have HF : Hid (vtrials ts = false) := by
              simp only [Hid, vtrials]; rw [all_not hkl]; rfl
              have HL1 := HL0.out
              simp only [Hid] at *
              rw [HH, HT]; simp_all
            have J1 := Lib.hid j1; clear j1
            try (have i2 : (ts[k].a.base != ts[0].a.base) = !(ts[k].a.base == ts[0].a.base) := rfl)
            try (rw [j2] at i2; simp only [Bool.not_true, Bool.not_false] at i2)
            try clear j2
            try (have i3 : ((ts[k].a.digits.length : Int) != ts[0].a.digits.length) = !((ts[k].a.digits.length : Int) == ts[0].a.digits.length) := rfl)
            try (rw [j3] at i3; simp only [Bool.not_true, Bool.not_false] at i3)
            try clear j3
            refine wp_region_quiet_below (by kernel_rfl) (by kernel_rfl) ?_
            repeat (go_big_quiet_step ((first | (go_at_call 207; exact quietB (KV.out _ J1.out)) | (go_at_call 155; exact quietB (fun W _ => width_any _ _ _ _ W)))))
            refine wpQuiet_nil ?_
            intro _ hw'
            obtain ⟨⟨dq, osq⟩, hw''⟩ := hw'
            subst hw''
            go_wp2
            go_ret
            exact ⟨ret_bool HF.out.symm, hbw'.trans ((below_regrown WW dq osq).mono hbw'.size)⟩
        · have k2 : True := trivial
          have k1 := Lib.hid k1
          have k2 := Lib.hid k2
          have HL0 := Lib.hid (show vlike ts[k].b ts[0].a = (ts[k].b.ok && ts[k].b.base == ts[0].a.base && decide ((ts[k].b.digits.length : Int) = ts[0].a.digits.length)) from rfl)
          go_wp2_with fail
          obtain ⟨WW, hWW⟩ : ∃ W, W = wr.alloc (.cells #[.int .i64 ts[k].b.base, .slice A2 ts[k].b.digits.length c2] 59) := ⟨_, rfl⟩
          rw [← hWW]
          have hWb : Below wr.heap.size wr WW := by rw [hWW]; exact (Below.refl _ _).alloc (Nat.le_refl _) _
          have x1 := cell_regrown (show WW.cell? ⟨wr.heap.size, 0, none⟩ = some (.int .i64 ts[k].b.base) by rw [hWW]; go_simp)
          have x2 := cell_regrown (show WW.cell? ⟨wr.heap.size, 1, none⟩ = some (.slice A2 ts[k].b.digits.length c2) by rw [hWW]; go_simp)
          have x3 := cell_regrown (show WW.cell? ad = some (.int .i64 ts[0].a.base) by rw [hWb.cell (by omega)]; exact y1)
          have x4 := cell_regrown (show WW.cell? ⟨ad.block, ad.off + 1, none⟩ = some (.slice A0 ts[0].a.digits.length c0) by rw [hWb.cell (by exact (by omega : ad.block < wr.heap.size))]; exact y2)
          have KV := Lib.hid (fun (v : Bool) (hv : ts[k].b.ok = v) (W : World) (hW : Below WW.heap.size WW W) => calls_val (ValidRegister_any ts[k].b.base A2 ts[k].b.digits.length c2 ts[k].b.digits W ((q2.below hWb).below hW) (by have := s2; unfold SmallReg at this; omega)) (congrArg Value.bool hv))
          have hnew : Below (wo.heap.size + 2) ((wo.alloc (.cells #[.int .i64 ts[k].a.base, .slice A1 ts[k].a.digits.length c1, .int .i64 ts[k].b.base, .slice A2 ts[k].b.digits.length c2, .int .i64 ts[k].s.base, .slice A3 ts[k].s.digits.length c3, .int .i64 ts[k].carry] 332)).alloc (.cells #[.int .i64 ts[k].a.base, .slice A1 ts[k].a.digits.length c1, .int .i64 ts[k].b.base, .slice A2 ts[k].b.digits.length c2, .int .i64 ts[k].s.base, .slice A3 ts[k].s.digits.length c3] 59)) WW := hbi.trans (hWb.mono hsz)
          have hbw' : Below w.heap.size w WW := hbw.trans (hWb.mono hbw.size)
          clear hWW hbw hci hfi y1 y2
          rcases chain3 ts[k].b.ok (ts[k].b.base == ts[0].a.base) ((ts[k].b.digits.length : Int) == ts[0].a.digits.length) with j1 | ⟨j1, j2⟩ | ⟨j1, j2, j3⟩ | ⟨j1, j2, j3⟩
          rotate_right 1
          · have HV : Hid (vlike ts[k].b ts[0].a = true) := by rw [Hid, HL0.out, j1, j2]; simpa using j3
            have i2 : (ts[k].b.base != ts[0].a.base) = false := by simpa using j2
            have i3 : ((ts[k].b.digits.length : Int) != ts[0].a.digits.length) = false := by simpa using j3
            have J1 := Lib.hid j1
            clear j1 j2 j3
            refine wp_region_quiet_below (by kernel_rfl) (by kernel_rfl) ?_
            repeat (go_big_quiet_step ((first | (go_at_call 207; exact quietB (KV.out _ J1.out)) | (go_at_call 155; exact quietB (fun W _ => width_any _ _ _ _ W)))))
            refine wpQuiet_nil ?_
            intro _ hw'
            obtain ⟨⟨dq, osq⟩, hw''⟩ := hw'
            subst hw''
            have hnew := hnew.trans ((below_regrown WW dq osq).mono (by have := hWb.size; omega))
            go_wp2
            go_roundw
            case rel => exact ⟨.inr (.inr (.inl ⟨rfl, k1.out, HV.out⟩)), hnew⟩
            case measure => simp [intOf]
          all_goals
            have HF : Hid (vtrials ts = false) := by
              simp only [Hid, vtrials]; rw [all_not hkl]; rfl
              have HL1 := HL0.out
              simp only [Hid] at *
              rw [HH, HT]; simp_all
            have J1 := Lib.hid j1; clear j1
            try (have i2 : (ts[k].b.base != ts[0].a.base) = !(ts[k].b.base == ts[0].a.base) := rfl)
            try (rw [j2] at i2; simp only [Bool.not_true, Bool.not_false] at i2)
            try clear j2
            try (have i3 : ((ts[k].b.digits.length : Int) != ts[0].a.digits.length) = !((ts[k].b.digits.length : Int) == ts[0].a.digits.length) := rfl)
            try (rw [j3] at i3; simp only [Bool.not_true, Bool.not_false] at i3)
            try clear j3
            refine wp_region_quiet_below (by kernel_rfl) (by kernel_rfl) ?_
            repeat (go_big_quiet_step ((first | (go_at_call 207; exact quietB (KV.out _ J1.out)) | (go_at_call 155; exact quietB (fun W _ => width_any _ _ _ _ W)))))
            refine wpQuiet_nil ?_
            intro _ hw'
            obtain ⟨⟨dq, osq⟩, hw''⟩ := hw'
            subst hw''
            go_wp2
            go_ret
            exact ⟨ret_bool HF.out.symm, hbw'.trans ((below_regrown WW dq osq).mono hbw'.size)⟩
        · have k1 := Lib.hid k1
          have k2 := Lib.hid k2
          have HL0 := Lib.hid (show vlike ts[k].s ts[0].a = (ts[k].s.ok && ts[k].s.base == ts[0].a.base && decide ((ts[k].s.digits.length : Int) = ts[0].a.digits.length)) from rfl)
          go_wp2_with fail
          obtain ⟨WW, hWW⟩ : ∃ W, W = wr.alloc (.cells #[.int .i64 ts[k].s.base, .slice A3 ts[k].s.digits.length c3] 59) := ⟨_, rfl⟩
          rw [← hWW]
          have hWb : Below wr.heap.size wr WW := by rw [hWW]; exact (Below.refl _ _).alloc (Nat.le_refl _) _
          have x1 := cell_regrown (show WW.cell? ⟨wr.heap.size, 0, none⟩ = some (.int .i64 ts[k].s.base) by rw [hWW]; go_simp)
          have x2 := cell_regrown (show WW.cell? ⟨wr.heap.size, 1, none⟩ = some (.slice A3 ts[k].s.digits.length c3) by rw [hWW]; go_simp)
          have x3 := cell_regrown (show WW.cell? ad = some (.int .i64 ts[0].a.base) by rw [hWb.cell (by omega)]; exact y1)
          have x4 := cell_regrown (show WW.cell? ⟨ad.block, ad.off + 1, none⟩ = some (.slice A0 ts[0].a.digits.length c0) by rw [hWb.cell (by exact (by omega : ad.block < wr.heap.size))]; exact y2)
          have KV := Lib.hid (fun (v : Bool) (hv : ts[k].s.ok = v) (W : World) (hW : Below WW.heap.size WW W) => calls_val (ValidRegister_any ts[k].s.base A3 ts[k].s.digits.length c3 ts[k].s.digits W ((q3.below hWb).below hW) (by have := s3; unfold SmallReg at this; omega)) (congrArg Value.bool hv))
          have hnew : Below (wo.heap.size + 2) ((wo.alloc (.cells #[.int .i64 ts[k].a.base, .slice A1 ts[k].a.digits.length c1, .int .i64 ts[k].b.base, .slice A2 ts[k].b.digits.length c2, .int .i64 ts[k].s.base, .slice A3 ts[k].s.digits.length c3, .int .i64 ts[k].carry] 332)).alloc (.cells #[.int .i64 ts[k].a.base, .slice A1 ts[k].a.digits.length c1, .int .i64 ts[k].b.base, .slice A2 ts[k].b.digits.length c2, .int .i64 ts[k].s.base, .slice A3 ts[k].s.digits.length c3] 59)) WW := hbi.trans (hWb.mono hsz)
          have hbw' : Below w.heap.size w WW := hbw.trans (hWb.mono hbw.size)
          clear hWW hbw hci hfi y1 y2
          rcases chain3 ts[k].s.ok (ts[k].s.base == ts[0].a.base) ((ts[k].s.digits.length : Int) == ts[0].a.digits.length) with j1 | ⟨j1, j2⟩ | ⟨j1, j2, j3⟩ | ⟨j1, j2, j3⟩
          rotate_right 1
          · have HV : Hid (vlike ts[k].s ts[0].a = true) := by rw [Hid, HL0.out, j1, j2]; simpa using j3
            have i2 : (ts[k].s.base != ts[0].a.base) = false := by simpa using j2
            have i3 : ((ts[k].s.digits.length : Int) != ts[0].a.digits.length) = false := by simpa using j3
            have J1 := Lib.hid j1
            clear j1 j2 j3
            refine wp_region_quiet_below (by kernel_rfl) (by kernel_rfl) ?_
            repeat (go_big_quiet_step ((first | (go_at_call 207; exact quietB (KV.out _ J1.out)) | (go_at_call 155; exact quietB (fun W _ => width_any _ _ _ _ W)))))
            refine wpQuiet_nil ?_
            intro _ hw'
            obtain ⟨⟨dq, osq⟩, hw''⟩ := hw'
            subst hw''
            have hnew := hnew.trans ((below_regrown WW dq osq).mono (by have := hWb.size; omega))
            go_wp2
            go_roundw
            case rel => exact ⟨.inr (.inr (.inr ⟨rfl, k1.out, k2.out, HV.out⟩)), hnew⟩
            case measure => simp [intOf]
          all_goals
            have HF : Hid (vtrials ts = false) := by
              simp only [Hid, vtrials]; rw [all_not hkl]; rfl
              have HL1 := HL0.out
              simp only [Hid] at *
              rw [HH, HT]; simp_all
            have J1 := Lib.hid j1; clear j1
            try (have i2 : (ts[k].s.base != ts[0].a.base) = !(ts[k].s.base == ts[0].a.base) := rfl)
            try (rw [j2] at i2; simp only [Bool.not_true, Bool.not_false] at i2)
            try clear j2
            try (have i3 : ((ts[k].s.digits.length : Int) != ts[0].a.digits.length) = !((ts[k].s.digits.length : Int) == ts[0].a.digits.length) := rfl)
            try (rw [j3] at i3; simp only [Bool.not_true, Bool.not_false] at i3)
            try clear j3
            refine wp_region_quiet_below (by kernel_rfl) (by kernel_rfl) ?_
            repeat (go_big_quiet_step ((first | (go_at_call 207; exact quietB (KV.out _ J1.out)) | (go_at_call 155; exact quietB (fun W _ => width_any _ _ _ _ W)))))
            refine wpQuiet_nil ?_
            intro _ hw'
            obtain ⟨⟨dq, osq⟩, hw''⟩ := hw'
            subst hw''
            go_wp2
            go_ret
            exact ⟨ret_bool HF.out.symm, hbw'.trans ((below_regrown WW dq osq).mono hbw'.size)⟩
        · have k1 := Lib.hid k1; have k2 := Lib.hid k2; have k3 := Lib.hid k3
          have hcy := Lib.hid (show ∀ (v : Bool), betB ts[k].carry 0 1 = v → (ts.take (k + 1)).all (triGood (ts.headD default).a) = v from fun v hv => by rw [all_take_succ hkl, HD.out, HH.out, HT.out, k1.out, k2.out, k3.out, hv]; rfl)
          rcases h4 : betB ts[k].carry 0 1 with _ | _
          · have HF : Hid (vtrials ts = false) := by
              simp only [Hid, vtrials]; rw [all_not hkl]; rfl
              rw [HH.out, HT.out, k1.out, k2.out, k3.out, h4]; rfl
            have H4 := Lib.hid h4; clear h4
            go_wp2_with (go_at_call 130; refine (between_any _ _ _ _).mono ?_; rintro e w' ⟨rfl, rfl⟩; rw [H4.out])
            go_ret
            exact ⟨ret_bool HF.out.symm, hbw⟩
          · have H4 := Lib.hid h4; clear h4
            go_wp2_with (go_at_call 130; refine (between_any _ _ _ _).mono ?_; rintro e w' ⟨rfl, rfl⟩; rw [H4.out])
            go_roundw
            case rel => exact ⟨k + 1, by omega, by go_num, hcy.out _ H4.out, hbw⟩
            case measure => simp [intOf]; omega
    · have HK : Hid (ts.all (triGood (ts.headD default).a) = true) := by have h1 := HD.out; rwa [List.take_of_length_le (by have := HL.out; omega)] at h1
      go_wp2_with (go_at_call 130; refine (between_any _ _ _ _).mono ?_; rintro e w' ⟨rfl, rfl⟩)
      go_ret
      exact ⟨ret_bool (by unfold vtrials; rw [HK.out, HL.out]; rfl), hbr⟩
end Go.Proofs.YtgljafiegpjlkaaGreatDoor

namespace Go.Proofs.YtgljafiegpjlkaaGreatDoor
open Go.RowKit Go.Sort
/-- a register under construction in block G -/
def SumAt (w : World) (G : Nat) (base : Int) (v : Value) (ds : List Int) : Prop := w.heap[G]? = some (.cells #[.int .i64 base, v] 59 (0, 0)) ∧ OwnI w (G + 1) v ds
theorem own_ne {w : World} {G : Nat} {v : Value} {ds : List Int} (h : OwnI w (G + 1) v ds) : ∀ k, v.ownBlock = some k → G + 1 ≤ k := by
  intro k hk
  rcases h.2 with ⟨rfl, _⟩ | ⟨g, cap, cur, rfl, hbg, _⟩
  · simp [Value.ownBlock] at hk
  · have : g = k := by simpa [Value.ownBlock] using hk
    omega
theorem SumAt.lt {w : World} {G : Nat} {base : Int} {v : Value} {ds : List Int} (h : SumAt w G base v ds) : G < w.heap.size := (Array.getElem?_eq_some_iff.1 h.1).1
theorem SumAt.far {w w1 : World} {G : Nat} {base : Int} {v : Value} {ds : List Int} {o : Obj} (h : SumAt w G base v ds) (hg : (w.alloc o).grownBy w1 v.ownBlock) :
    w1.heap[G]? = some (.cells #[.int .i64 base, v] 59 (0, 0)) ∧ w1.cell? ⟨G, 0, none⟩ = some (.int .i64 base) ∧ w1.cell? ⟨G, 1, none⟩ = some v ∧ w1.frozen? ⟨G, 1, none⟩ = false := by
  have h1 : w1.heap[G]? = some (.cells #[.int .i64 base, v] 59 (0, 0)) := by
    rw [hg.block G (by simp; have := h.lt; omega) (fun e => by have := own_ne h.2 G e.symm; omega), heap_alloc_old _ _ h.lt]; exact h.1
  exact ⟨h1, by rw [cell_of_row _ _ _ _ _ _ h1]; rfl, by rw [cell_of_row _ _ _ _ _ _ h1]; rfl, frozen_of_row _ _ _ _ _ h1⟩
theorem SumAt.cells {w : World} {G : Nat} {base : Int} {v : Value} {ds : List Int} (h : SumAt w G base v ds) : w.cell? ⟨G, 0, none⟩ = some (.int .i64 base) ∧ w.cell? ⟨G, 1, none⟩ = some v ∧ w.frozen? ⟨G, 1, none⟩ = false :=
  ⟨by rw [cell_of_row _ _ _ _ _ _ h.1]; rfl, by rw [cell_of_row _ _ _ _ _ _ h.1]; rfl, frozen_of_row _ _ _ _ _ h.1⟩
theorem SumAt.step {w w1 : World} {G : Nat} {base x : Int} {v v' : Value} {ds : List Int} {o : Obj} (h : SumAt w G base v ds) (hg : (w.alloc o).grownBy w1 v.ownBlock)
    (ho : w1.ownsRow (G + 1) 2 1 v' (ds.length + 1) (ds.map (Value.int .i64) ++ [.int .i64 x])) :
    SumAt (w1.setCell ⟨G, 1, none⟩ v') G base v' (ds ++ [x]) ∧ ∀ B, B ≤ G → Below B w (w1.setCell ⟨G, 1, none⟩ v') := by
  have hlt := h.lt
  refine ⟨⟨?_, ?_⟩, fun B hB => ?_⟩
  · rw [heap_setCell_same _ _ _ _ _ _ (h.far hg).1]; rfl
  · refine OwnI.setBelow ?_ (by simp) v'
    unfold OwnI; simpa using ho
  · refine Below.setCell ?_ (by exact hB) _
    exact ((Below.refl _ _).alloc (by omega) _).grown hg (by simp; omega) (fun k hk => by have := own_ne h.2 k hk; omega)
theorem OwnI.ri {w : World} {base n c : Nat} {A : Option Addr} {ds : List Int} (h : OwnI w base (.slice A n c) ds) : RI w A n ds := by
  obtain ⟨A', c', h1, h2, -⟩ := h.reads
  injection h1 with h1 h3 h4
  rw [h1, h3]; exact h2
theorem wrapI64 {n : Int} (h : -9223372036854775808 ≤ n ∧ n ≤ 9223372036854775807) : IntKind.i64.wrap n = n := by
  rw [IntKind.wrap_i64]; omega
theorem getD_of {ds : List Int} {k : Nat} (h : k < ds.length) : ds.getD k 0 = ds[k] := by simp [List.getD, List.getElem?_eq_getElem h]
end Go.Proofs.YtgljafiegpjlkaaGreatDoor

namespace Go.Proofs.YtgljafiegpjlkaaGreatDoor
open Go.RowKit Go.Sort
/-- a row of int64 that the call owns -/
def rowI (A : Option Addr) (c : Nat) (ds : List Int) : Ent := .row (.slice A ds.length c) 2 1 ds.length (ds.map (Value.int .i64))
def zTri : Tri := ⟨⟨0, []⟩, ⟨0, []⟩, ⟨0, []⟩, 0⟩
theorem row_form {w : World} {b : Nat} {e : TypeId} {size n : Nat} {v : Value} {xs : List Value} (h : w.ownsRow b e size v n xs) : ∃ A c, v = .slice A n c := by
  rcases h.2 with ⟨rfl, h2⟩ | ⟨g, cap, cur, rfl, -⟩
  · exact ⟨none, 0, by rw [h2]⟩
  · exact ⟨_, _, rfl⟩
theorem Kn.riv {w0 w : World} {m : List Ent} {A : Option Addr} {c : Nat} {ds : List Int} (h : Kn w0 (rowI A c ds :: m) w) : RI w A ds.length ds := (Kn.ownI h).ri
theorem kn_pushI {ops : Array Oper} {rest : List Oper} {o : Oper} {a : Act} {Q : Exit → Act → World → Prop} {w0 w : World} {m : List Ent} (hgd : o.guard = none) (s x : Operand) (ho : o.op = .call { callee := .builtin .append, args := #[s, x], argTypes := #[47, 47] })
    (v : Value) (ds : List Int) (hs : a.eval s = v) {g c : Nat} {T' : TypeId} {z : Int} (hx : a.eval x = .slice (some ⟨g, 0, none⟩) 1 c)
    (hK : Kn w0 (.blk g [.int .i64 z] T' :: .row v 2 1 ds.length (ds.map (Value.int .i64)) :: m) w) (hl : ds.length ≤ 10000000)
    (h : ∀ v' w', Kn w0 (.row v' 2 1 (ds ++ [z]).length ((ds ++ [z]).map (Value.int .i64)) :: m) w' → wpList Tryz.prog ops Q rest (a.put o.dst v') w') : wpList Tryz.prog ops Q (o :: rest) a w := by
  refine kn_app tpI hgd s x ho v ds.length (ds.map (Value.int .i64)) hs hx hK rfl (by simp [Value.oneCell']) (by omega) (by omega) (fun v' w' hK' => h v' w' ?_)
  rw [List.length_append, List.map_append, List.map_cons, List.map_nil]
  exact hK'
theorem kn_stepI {ops : Array Oper} {o : Oper} {a : Act} {Q : Exit → Act → World → Prop} {w0 w : World} {m : List Ent} {K : Act → World → Prop} {E : Prop} (hgd : o.guard = none) (s x : Operand) (ho : o.op = .call { callee := .builtin .append, args := #[s, x], argTypes := #[47, 47] })
    (v : Value) (ds : List Int) (hs : a.eval s = v) {g c : Nat} {T' : TypeId} {z : Int} (hx : a.eval x = .slice (some ⟨g, 0, none⟩) 1 c)
    (hK : Kn w0 (.blk g [.int .i64 z] T' :: .row v 2 1 ds.length (ds.map (Value.int .i64)) :: m) w) (hl : ds.length ≤ 10000000)
    (h : ∀ v' w', Kn w0 (.row v' 2 1 (ds ++ [z]).length ((ds ++ [z]).map (Value.int .i64)) :: m) w' → K (a.put o.dst v') w') : if Region.wanted o (yielded ops a.tmps) = true then Oper.wp Tryz.prog o a w K Q else E := by
  refine kn_step_app tpI hgd s x ho v ds.length (ds.map (Value.int .i64)) hs hx hK rfl (by simp [Value.oneCell']) (by omega) (by omega) (fun v' w' hK' => h v' w' ?_)
  rw [List.length_append, List.map_append, List.map_cons, List.map_nil]
  exact hK'
end Go.Proofs.YtgljafiegpjlkaaGreatDoor

namespace Go.Proofs.YtgljafiegpjlkaaGreatDoor
open Go.RowKit
section
variable {w0 w w' : World} {m : List Ent} {e : Ent}
theorem Kn.get (h : Kn w0 m w) (i : Nat) {e : Ent} (hi : m[i]? = some e) : e.holds w := h.ents e (List.mem_of_getElem? hi)
/-- a thing of the list, by its place, comes to the front -/
theorem Kn.front (h : Kn w0 m w) (i : Nat) {e : Ent} (hi : m[i]? = some e) : Kn w0 (e :: m.eraseIdx i) w := by
  refine h.perm ?_
  induction m generalizing i with
  | nil => simp at hi
  | cons a m ih =>
    cases i with
    | zero => simp at hi; subst hi; simp
    | succ i =>
      simp only [List.getElem?_cons_succ] at hi
      simp only [List.eraseIdx_cons_succ]
      have hp : m.Perm (e :: m.eraseIdx i) := by
        clear ih h
        induction m generalizing i with
        | nil => simp at hi
        | cons b m ih =>
          cases i with
          | zero => simp at hi; subst hi; simp
          | succ i =>
            simp only [List.getElem?_cons_succ] at hi
            exact ((ih i hi).cons b).trans (.swap _ _ _)
      exact (hp.cons a).trans (.swap _ _ _)
/-- some things are forgotten -/
theorem Kn.only (h : Kn w0 m w) {m' : List Ent} (hs : m'.Sublist m) : Kn w0 m' w :=
  ⟨h.below, fun x hx => h.ents x (hs.subset hx), fun x hx => h.own x (hs.subset hx), h.apart.sublist hs⟩
/-- blocks of different places are different ones -/
theorem Kn.ne (h : Kn w0 m w) (i j : Nat) {g g' : Nat} {l l' : List Value} {T T' : TypeId} (hi : m[i]? = some (.blk g l T)) (hj : m[j]? = some (.blk g' l' T')) (hne : i ≠ j) : g ≠ g' := by
  rintro rfl
  obtain ⟨hi1, hi2⟩ := List.getElem?_eq_some_iff.1 hi
  obtain ⟨hj1, hj2⟩ := List.getElem?_eq_some_iff.1 hj
  have hp := List.pairwise_iff_getElem.1 h.apart
  rcases Nat.lt_or_gt_of_ne hne with h3 | h3
  · exact hp i j hi1 hj1 h3 g (by rw [hi2]; exact rfl) (by rw [hj2]; exact rfl)
  · exact hp j i hj1 hi1 h3 g (by rw [hj2]; exact rfl) (by rw [hi2]; exact rfl)
/-- some things, by their places and in a new order, and all behind the first n -/
theorem Kn.sel (h : Kn w0 m w) (is : List Nat) (n : Nat) (h1 : is.Nodup) (h2 : ∀ i ∈ is, i < n) : Kn w0 (is.filterMap (fun i => m[i]?) ++ m.drop n) w := by
  have hsub : ∀ x ∈ is.filterMap (fun i => m[i]?) ++ m.drop n, x ∈ m := fun x hx => by
    rcases List.mem_append.1 hx with hx | hx
    · obtain ⟨i, -, hi⟩ := List.mem_filterMap.1 hx
      exact List.mem_of_getElem? hi
    · exact List.mem_of_mem_drop hx
  have hR : ∀ (i j : Nat) (a b : Ent), m[i]? = some a → m[j]? = some b → i ≠ j → ∀ k, a.fp k → ¬ b.fp k := fun i j a b hi hj hne k h1 h2 => by
    obtain ⟨hi1, hi2⟩ := List.getElem?_eq_some_iff.1 hi
    obtain ⟨hj1, hj2⟩ := List.getElem?_eq_some_iff.1 hj
    have hp := List.pairwise_iff_getElem.1 h.apart
    rcases Nat.lt_or_gt_of_ne hne with h3 | h3
    · exact hp i j hi1 hj1 h3 k (by rw [hi2]; exact h1) (by rw [hj2]; exact h2)
    · exact hp j i hj1 hi1 h3 k (by rw [hj2]; exact h2) (by rw [hi2]; exact h1)
  refine ⟨h.below, fun x hx => h.ents x (hsub x hx), fun x hx => h.own x (hsub x hx), List.pairwise_append.2 ⟨?_, h.apart.sublist (List.drop_sublist _ _), fun a ha b hb => ?_⟩⟩
  · refine List.pairwise_filterMap.2 (h1.imp ?_)
    intro i j hne a ha b hb
    exact hR i j a b ha hb hne
  · obtain ⟨i, hi, hia⟩ := List.mem_filterMap.1 ha
    obtain ⟨j, hj⟩ := List.getElem?_of_mem hb
    rw [List.getElem?_drop] at hj
    exact hR i (n + j) a b hia hj (by have := h2 i hi; omega)
/-- a store into a row that is owned -/
theorem Kn.rowSt {g c n size : Nat} {t : TypeId} {xs : List Value} (h : Kn w0 (.row (.slice (some ⟨g, 0, none⟩) n c) t size n xs :: m) w) (j : Nat) (v : Value) :
    Kn w0 (.row (.slice (some ⟨g, 0, none⟩) n c) t size n (xs.set j v) :: m) (w.setCell ⟨g, j, none⟩ v) := by
  refine h.upd ⟨rfl, rfl, rfl, by simp [World.setCell], fun k _ hk => Below.heap_setCell _ _ _ _ (fun e => hk (by subst e; rfl))⟩ ?_ (fun k hk => .inl hk)
  have h0 : w.ownsRow 0 t size (.slice (some ⟨g, 0, none⟩) n c) n xs := h.at0
  rcases h0.2 with ⟨h1, h2⟩ | ⟨g', cap, cur, hv, hb, hg, hn, hc, hs, ht⟩
  · cases h1
  injection hv with hv hv2 hv3
  injection hv with hv
  injection hv with hv hv4
  subst hv; subst hv3
  refine ⟨by rw [List.length_set]; exact h0.1, .inr ⟨g, c, cur.setIfInBounds j v, rfl, hb, ?_, hn, hc, by simpa using hs, ?_⟩⟩
  · show (w.setCell ⟨g, j, none⟩ v).heap[g]? = some (.cells (cur.setIfInBounds j v) t (0, 0))
    simp [World.setCell, Array.getElem?_modify, hg]
  · rw [Array.toList_setIfInBounds, List.take_set, ht]
theorem Kn.rowCell {g c n size : Nat} {t : TypeId} {xs : List Value} (h : Kn w0 (.row (.slice (some ⟨g, 0, none⟩) n c) t size n xs :: m) w) {j : Nat} {u : Value} (hu : xs[j]? = some u) :
    w.cell? ⟨g, j, none⟩ = some u ∧ w.frozen? ⟨g, j, none⟩ = false := by
  have h0 : w.ownsRow 0 t size (.slice (some ⟨g, 0, none⟩) n c) n xs := h.at0
  refine ⟨by have := h0.cells (g := g) rfl j u hu; rwa [add_zero_block] at this, ?_⟩
  rcases h0.2 with ⟨h1, h2⟩ | ⟨g', cap, cur, hv, hb, hg, -⟩
  · cases h1
  injection hv with hv hv2 hv3
  injection hv with hv
  injection hv with hv hv4
  subst hv
  simp [World.frozen?, hg]
theorem Kn.rowForm {v : Value} {n size : Nat} {t : TypeId} {xs : List Value} (h : Kn w0 (.row v t size n xs :: m) w) (hn : 0 < n) : ∃ g c, v = .slice (some ⟨g, 0, none⟩) n c := by
  have h0 : w.ownsRow 0 t size v n xs := h.at0
  rcases h0.2 with ⟨h1, h2⟩ | ⟨g', cap, cur, hv, -⟩
  · omega
  · exact ⟨_, _, hv⟩
end
theorem bodyPost.kn {P : Program} {f : Func} {R : Ending → World → Prop} {x : Exit} {a : Act} {w0 w : World} {m : List Ent} (h : Kn w0 m w) (k : ∀ W, Kn w0 m W → bodyPost P f R x a W) : bodyPost P f R x a w := k w h
theorem Code.wp.kn {P : Program} {c : Code} {Q : Exit → Act → World → Prop} {a : Act} {w0 w : World} {m : List Ent} (h : Kn w0 m w) (k : ∀ W, Kn w0 m W → c.wp P Q a W) : c.wp P Q a w := k w h
/-- a store into numbers that are owned -/
theorem Kn.setI {w0 w : World} {m : List Ent} {g c : Nat} {ds : List Int} (h : Kn w0 (rowI (some ⟨g, 0, none⟩) c ds :: m) w) (j : Nat) (v : Int) :
    Kn w0 (rowI (some ⟨g, 0, none⟩) c (ds.set j v) :: m) (w.setCell ⟨g, j, none⟩ (.int .i64 v)) := by
  have h1 := Kn.rowSt h j (.int .i64 v)
  unfold rowI
  rw [List.length_set, List.map_set]
  exact h1
theorem Kn.cellIs {w0 w : World} {m : List Ent} {g : Nat} {cs : List Value} {T : TypeId} (h : Kn w0 (.blk g cs T :: m) w) (j : Nat) (v : Value) (hj : cs[j]? = some v) : w.cell? ⟨g, j, none⟩ = some v := (h.blkAt.1 j).trans hj
theorem box7' {w0 w : World} {m : List Ent} {g : Nat} {v0 v1 v2 v3 v4 v5 v6 : Value} {l : List Value} {T : TypeId} (h : Kn w0 (.blk g (v0 :: v1 :: v2 :: v3 :: v4 :: v5 :: v6 :: l) T :: m) w) :
    w.cell? ⟨g, 0, none⟩ = some v0 ∧ w.cell? ⟨g, 1, none⟩ = some v1 ∧ w.cell? ⟨g, 2, none⟩ = some v2 ∧ w.cell? ⟨g, 3, none⟩ = some v3 ∧ w.cell? ⟨g, 4, none⟩ = some v4 ∧ w.cell? ⟨g, 5, none⟩ = some v5 ∧ w.cell? ⟨g, 6, none⟩ = some v6 :=
  ⟨h.blkAt.1 0, h.blkAt.1 1, h.blkAt.1 2, h.blkAt.1 3, h.blkAt.1 4, h.blkAt.1 5, h.blkAt.1 6⟩
theorem box7at {w0 w : World} {m : List Ent} {g : Nat} {v0 v1 v2 v3 v4 v5 v6 : Value} {T : TypeId} (h : Kn w0 m w) (i : Nat) (hi : m[i]? = some (.blk g [v0, v1, v2, v3, v4, v5, v6] T)) :
    w.cell? ⟨g, 0, none⟩ = some v0 ∧ w.cell? ⟨g, 1, none⟩ = some v1 ∧ w.cell? ⟨g, 2, none⟩ = some v2 ∧ w.cell? ⟨g, 3, none⟩ = some v3 ∧ w.cell? ⟨g, 4, none⟩ = some v4 ∧ w.cell? ⟨g, 5, none⟩ = some v5 ∧ w.cell? ⟨g, 6, none⟩ = some v6 := box7' (h.front i hi)
end Go.Proofs.YtgljafiegpjlkaaGreatDoor
