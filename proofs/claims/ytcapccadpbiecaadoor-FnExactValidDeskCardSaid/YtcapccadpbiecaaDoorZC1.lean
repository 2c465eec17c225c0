/- Part 1: lemmas and contracts of the claim's functions. -/
import Derived.Test.YtcapccadpbiecaaDoorRows
import Derived.WalkKit
import Derived.WalkSpells
import Derived.Deep.QuietTactic
import Derived.BigQuiet
import Derived.Lib.Hide
import Derived.Lib.QuietBelow
import Derived.Deep.AppendLies
import Derived.Deep.RegionHeld3
import Derived.StillTailTactics
import Derived.Laws.BytesString
import Derived.Deep.RegionLaw
namespace Go.Proofs.YtcapccadpbiecaaDoor
open Go.RowKit
theorem block_of_add (a : Addr) (n : Nat) : (a.add n).block = a.block := by unfold Addr.add; split <;> rfl
/-- a slice value .slice A n c reads as the cells xs, in blocks below B -/
def Reads (w : World) (B size : Nat) (A : Option Addr) (n : Nat) (xs : List Value) : Prop :=
  xs.length = n * size ∧ (0 < n → ∃ ad, A = some ad ∧ ad.block < B ∧ ∀ j u, xs[j]? = some u → w.cell? (ad.add j) = some u)
def betB (n l h : Int) : Bool := decide (l ≤ n ∧ n ≤ h)
/-- []int64 -/
def RI (w : World) (A : Option Addr) (n : Nat) (ds : List Int) : Prop := ds.length = n ∧ (0 < n → ∃ ad, A = some ad ∧ ad.block < w.heap.size ∧ ∀ j u, ds[j]? = some u → w.cell? (ad.add j) = some (.int .i64 u))
theorem RI.below {w w' : World} {A : Option Addr} {n : Nat} {ds : List Int} (h : RI w A n ds) (hb : Below w.heap.size w w') : RI w' A n ds := by
  refine ⟨h.1, fun hn => ?_⟩
  obtain ⟨ad, e, hl, hc⟩ := h.2 hn
  refine ⟨ad, e, Nat.lt_of_lt_of_le hl hb.size, fun j u hu => ?_⟩
  rw [hb.cell (by rw [block_of_add]; exact hl)]; exact hc j u hu
/-- element k, at an address given by name -/
theorem RI.at_ {w : World} {A : Option Addr} {n : Nat} {ds : List Int} (h : RI w A n ds) {k : Nat} (hk : k < n) : ∃ ad, A = some ad ∧ ad.block < w.heap.size ∧ ∃ h : k < ds.length, w.cell? (ad.add k) = some (.int .i64 ds[k]) := by
  obtain ⟨ad, e, hl, hc⟩ := h.2 (by omega)
  have : k < ds.length := by have := h.1; omega
  exact ⟨ad, e, hl, this, hc k _ (by simp [this])⟩
theorem below_drewN {B : Nat} {a w : World} (h : Below B a w) (n : Nat) : Below B a (w.drewN n) := ⟨h.os, h.tape, h.output, h.size, h.block⟩
theorem ret_int {k : IntKind} {a b : Int} (h : a = b) : Ending.returned (.int k a) = .returned (.int k b) := by rw [h]
theorem ret_bool {a b : Bool} (h : a = b) : Ending.returned (.bool a) = .returned (.bool b) := by rw [h]
theorem quiet_left {P : Program} {f : FuncId} {args : Array Value} {w : World} {n : Nat} {v : Value}
    (h : Calls P f args (w.drewN n) fun e w' => e = .returned v ∧ w.drewN n = w') : Calls P f args (w.drewN n) fun e w'' => e = .returned v ∧ ∃ m, w'' = w.drewN m :=
  h.mono fun _ _ ⟨he, hm⟩ => ⟨he, n, hm.symm⟩
theorem quiet_add_left {P : Program} {f : FuncId} {args : Array Value} {w : World} {a n : Nat} {v : Value}
    (h : Calls P f args (w.drewN (a + n)) fun e w' => e = .returned v ∧ w.drewN (a + n) = w') :
    Calls P f args (w.drewN (a + n)) fun e w'' => e = .returned v ∧ ∃ m, w'' = w.drewN (a + m) :=
  h.mono fun _ _ ⟨he, hm⟩ => ⟨he, n, hm.symm⟩
theorem calls_val {P : Program} {f : FuncId} {args : Array Value} {w : World} {u v : Value} {R : World → Prop} (h : Calls P f args w fun e w' => e = .returned u ∧ R w') (e : u = v) : Calls P f args w fun e w' => e = .returned v ∧ R w' := by rw [← e]; exact h
theorem below_drew {B : Nat} {w w' : World} (h : Below B w w') : Below B w w'.drew := h.drew
theorem drewN_below {w : World} (n : Nat) : Below w.heap.size w (w.drewN n) := below_drewN (Below.refl _ _) n
theorem info_i64 : (Tryd.prog.info? 2).map (fun i => (i.zero, i.size, i.bytes)) = some (some (.int .i64 0), 1, 8) := by kernel_rfl
/-- a row of int64 that the call owns -/
def OwnI (w : World) (base : Nat) (v : Value) (ds : List Int) : Prop := w.ownsRow base 2 1 v ds.length (ds.map (Value.int .i64))
theorem OwnI.reads {w : World} {base : Nat} {v : Value} {ds : List Int} (h : OwnI w base v ds) : ∃ A c, v = .slice A ds.length c ∧ RI w A ds.length ds ∧ ∀ ad, A = some ad → base ≤ ad.block := by
  rcases h.2 with ⟨rfl, hn⟩ | ⟨g, cap, cur, rfl, hb, hg, hnc, _, hcs, htake⟩
  · refine ⟨none, 0, by rw [hn], ⟨rfl, fun h0 => ?_⟩, fun ad h0 => by cases h0⟩
    omega
  · refine ⟨_, cap, rfl, ⟨rfl, fun _ => ⟨_, rfl, (Array.getElem?_eq_some_iff.1 hg).1, fun j u hu => ?_⟩⟩, fun ad h0 => by injection h0 with h0; subst h0; exact hb⟩
    have h1 := h.cells (g := g) rfl j (.int .i64 u) (by simp [hu])
    exact h1
theorem OwnI.below {w w' : World} {base : Nat} {v : Value} {ds : List Int} (h : OwnI w base v ds) (hb : Below w.heap.size w w') : OwnI w' base v ds := by
  refine ⟨h.1, ?_⟩
  rcases h.2 with hn | ⟨g, cap, cur, rfl, hbg, hg, rest⟩
  · exact .inl hn
  · exact .inr ⟨g, cap, cur, rfl, hbg, by rw [hb.block g (Array.getElem?_eq_some_iff.1 hg).1]; exact hg, rest⟩
theorem OwnI.nil (w : World) (base : Nat) : OwnI w base (.slice none 0 0) [] := ⟨by simp, .inl ⟨rfl, rfl⟩⟩
theorem OwnI.mono {w : World} {b b' : Nat} {v : Value} {ds : List Int} (h : OwnI w b v ds) (hb : b' ≤ b) : OwnI w b' v ds := by
  refine ⟨h.1, ?_⟩
  rcases h.2 with hn | ⟨g, cap, cur, rfl, hbg, hg, rest⟩
  · exact .inl hn
  · exact .inr ⟨g, cap, cur, rfl, by omega, hg, rest⟩
theorem add_zero_block (g j : Nat) : (⟨g, 0, none⟩ : Addr).add j = ⟨g, j, none⟩ := by unfold Addr.add; split <;> simp_all
section
variable {ops : Array Oper} {rest : List Oper} {o : Oper} {a : Act} {Q : Exit → Act → World → Prop} {w : World}
/-- append(out, y) of one int64 onto a row that the call owns -/
theorem app1I (hgd : o.guard = none) (s x : Operand) (ho : o.op = .call { callee := .builtin .append, args := #[s, x], argTypes := #[29, 29] })
    (base : Nat) (v : Value) (ds : List Int) (hs : a.eval s = v) (hown : OwnI w base v ds) (g : Nat) (y : Int) (hx : a.eval x = .slice (some ⟨g, 0, none⟩) 1 1) (hg : w.heap[g]? = some (.cells #[.int .i64 y] 2 (0, 0)))
    (hn : ds.length ≤ 1000000000000) (hbase : base ≤ w.heap.size)
    (h : ∀ v' w', OwnI w' base v' (ds ++ [y]) → w.grownBy w' v.ownBlock → (v'.ownBlock = v.ownBlock ∨ v'.ownBlock = some w.heap.size) → wpList Tryd.prog ops Q rest (a.put o.dst v') w') : wpList Tryd.prog ops Q (o :: rest) a w := by
  obtain ⟨i0, hi, hz0, hz1, hz2⟩ := info_parts info_i64
  refine wpList_plain hgd fun K hK => ?_
  obtain ⟨v', w', hrun, h2, h3, _, h5⟩ := run_append_own_at (P := Tryd.prog) w base 29 o.type 2 i0 _ 1 8 Tryd.underlying29 hi hz0 hz1 hz2 rfl (by omega) v ds.length _ hown ⟨g, 0, none⟩ 1 1 [.int .i64 y] rfl (World.news_of_block hg) (by simp [Value.oneCell']) (by simp only [maxLen]; omega) (by omega) hbase
  unfold Oper.wp execOp
  simp only [ho, resolve, invoke, builtin, Sem.run_bind, Sem.run_pure, Result.andThen_ok, List.map_toArray, List.map_cons, List.map_nil, hs, hx, hrun]
  exact hK _ _ (h v' w' (by unfold OwnI; simpa using h2) h3 h5)
end
end Go.Proofs.YtcapccadpbiecaaDoor

namespace Go.Proofs.YtcapccadpbiecaaDoor
open Go.RowKit
/-- a slice type t over elements e: the zero value, its cells, its bytes -/
structure TP (t e : TypeId) (z : Value) (size bytes : Nat) : Prop where
  under : Tryd.prog.underlying t = some (.slice e)
  info : (Tryd.prog.info? e).map (fun i => (i.zero, i.size, i.bytes)) = some (some z, size, bytes)
  zc : z.cells.size = size
  pos : 0 < size
theorem tpI : TP 29 2 (.int .i64 0) 1 8 := ⟨Tryd.underlying29, by kernel_rfl, rfl, by decide⟩
theorem tpB : TP 47 5 (.int .u8 0) 1 1 := ⟨Tryd.underlying47, by kernel_rfl, rfl, by decide⟩
section
variable {ops : Array Oper} {rest : List Oper} {o : Oper} {a : Act} {Q : Exit → Act → World → Prop} {w : World}
/-- append(s, x...), s a row of the call's own -/
theorem appG {t e : TypeId} {z : Value} {size bytes : Nat} (T : TP t e z size bytes) (hgd : o.guard = none) (s x : Operand) (ho : o.op = .call { callee := .builtin .append, args := #[s, x], argTypes := #[t, t] })
    (base : Nat) (v : Value) (n : Nat) (xs : List Value) (hs : a.eval s = v) (hown : w.ownsRow base e size v n xs) (ad : Addr) (m c : Nat) (news : List Value) (hx : a.eval x = .slice (some ad) m c)
    (hl : news.length = m * size) (hnews : ∀ j u, news[j]? = some u → w.cell? (ad.add j) = some u) (h1 : ∀ u ∈ news, u.oneCell' = true)
    (h63 : n + m ≤ 1000000000000000) (hb : (n + m) * bytes ≤ 140737488355328) (hbase : base ≤ w.heap.size)
    (h : ∀ v' w', w'.ownsRow base e size v' (n + m) (xs ++ news) → w.grownBy w' v.ownBlock → (v'.ownBlock = v.ownBlock ∨ v'.ownBlock = some w.heap.size) → wpList Tryd.prog ops Q rest (a.put o.dst v') w') : wpList Tryd.prog ops Q (o :: rest) a w := by
  obtain ⟨i0, hi, hz0, hz1, hz2⟩ := info_parts T.info
  refine wpList_plain hgd fun K hK => ?_
  obtain ⟨v', w', hrun, h2, h3, _, h5⟩ := run_append_own_at (P := Tryd.prog) w base t o.type e i0 z size bytes T.under hi hz0 hz1 hz2 T.zc T.pos v n xs hown ad m c news hl hnews h1 (by simp only [maxLen]; omega) hb hbase
  unfold Oper.wp execOp
  simp only [ho, resolve, invoke, builtin, Sem.run_bind, Sem.run_pure, Result.andThen_ok, List.map_toArray, List.map_cons, List.map_nil, hs, hx, hrun]
  exact hK _ _ (h v' w' h2 h3 h5)
end
def byteV (b : UInt8) : Value := .int .u8 (b.toNat : Int)
/-- bytes at A -/
def RB (w : World) (A : Option Addr) (n : Nat) (bs : List UInt8) : Prop := bs.length = n ∧ (0 < n → ∃ ad, A = some ad ∧ ad.block < w.heap.size ∧ ∀ j u, bs[j]? = some u → w.cell? (ad.add j) = some (byteV u))
theorem RB.below {w w' : World} {A : Option Addr} {n : Nat} {ds : List UInt8} (h : RB w A n ds) (hb : Below w.heap.size w w') : RB w' A n ds := by
  refine ⟨h.1, fun hn => ?_⟩
  obtain ⟨ad, e, hl, hc⟩ := h.2 hn
  refine ⟨ad, e, Nat.lt_of_lt_of_le hl hb.size, fun j u hu => ?_⟩
  rw [hb.cell (by rw [block_of_add]; exact hl)]; exact hc j u hu
/-- a row of bytes that the call owns -/
def OwnB (w : World) (base : Nat) (v : Value) (bs : List UInt8) : Prop := w.ownsRow base 5 1 v bs.length (bs.map byteV)
theorem OwnB.reads {w : World} {base : Nat} {v : Value} {ds : List UInt8} (h : OwnB w base v ds) : ∃ A c, v = .slice A ds.length c ∧ RB w A ds.length ds ∧ ∀ ad, A = some ad → base ≤ ad.block := by
  rcases h.2 with ⟨rfl, hn⟩ | ⟨g, cap, cur, rfl, hb, hg, hnc, _, hcs, htake⟩
  · refine ⟨none, 0, by rw [hn], ⟨rfl, fun h0 => ?_⟩, fun ad h0 => by cases h0⟩
    omega
  · refine ⟨_, cap, rfl, ⟨rfl, fun _ => ⟨_, rfl, (Array.getElem?_eq_some_iff.1 hg).1, fun j u hu => ?_⟩⟩, fun ad h0 => by injection h0 with h0; subst h0; exact hb⟩
    exact h.cells (g := g) rfl j (byteV u) (by simp [hu])
theorem foldl_push (bs : List UInt8) : ∀ r : ByteArray, (bs.map fun b => (b.toNat : Int)).foldl (fun r n => r.push (UInt8.ofNat n.toNat)) r = ⟨r.data ++ bs.toArray⟩ := by
  induction bs with
  | nil => intro r; simp
  | cons b bs ih =>
    intro r
    simp only [List.map_cons, List.foldl_cons, ih]
    simp [ByteArray.push]
theorem conv_bytes (w : World) (A : Option Addr) (n c : Nat) (bs : List UInt8) (h : RB w A n bs) : (convert 47 9 (.slice A n c)).run Tryd.prog w = .ok (.string ⟨bs.toArray⟩) w := by
  rw [run_convert_bytes_string w _ _ 5 A n c Tryd.underlying47 Tryd.underlying5 Tryd.underlying9]
  rcases Nat.eq_zero_or_pos n with h0 | h0
  · subst h0
    obtain rfl : bs = [] := List.eq_nil_of_length_eq_zero h.1
    cases A with
    | none => simp [Conv.bytesToString, Sem.run_pure]; rfl
    | some ad =>
      have := run_bytesToString (P := Tryd.prog) w ad 0 c [] (by simpa using run_loadCells_list (P := Tryd.prog) (w := w) ad [] (by simp))
      exact this
  · obtain ⟨ad, rfl, hl, hc⟩ := h.2 h0
    have hL := run_loadCells_list (P := Tryd.prog) (w := w) ad (bs.map byteV) (fun j v hv => by
      rw [List.getElem?_map] at hv
      obtain ⟨u, hu, rfl⟩ := Option.map_eq_some_iff.1 hv
      exact hc j u hu)
    rw [List.length_map, h.1] at hL
    have := run_bytesToString (P := Tryd.prog) w ad n c (bs.map fun b => (b.toNat : Int)) (by
      rw [hL, List.map_map]; rfl)
    rw [this, foldl_push]; simp
end Go.Proofs.YtcapccadpbiecaaDoor

namespace Go.Proofs.YtcapccadpbiecaaDoor
open Go.RowKit
/-- a thing that a call owns: a block of cells; a row; or whatever hangs on some blocks alone -/
inductive Ent where
  | blk (g : Nat) (cs : List Value) (T : TypeId)
  | row (v : Value) (e : TypeId) (size n : Nat) (xs : List Value)
  | any (fp : Nat → Prop) (F : World → Prop) (st : ∀ w w' : World, F w → w.heap.size ≤ w'.heap.size → (∀ k, fp k → w'.heap[k]? = w.heap[k]?) → F w')
def Ent.fp : Ent → Nat → Prop
  | .blk g _ _, k => k = g
  | .row v _ _ _ _, k => v.ownBlock = some k
  | .any fp _ _, k => fp k
def Ent.holds : Ent → World → Prop
  | .blk g cs T, w => w.heap[g]? = some (.cells cs.toArray T (0, 0))
  | .row v e size n xs, w => w.ownsRow 0 e size v n xs
  | .any fp F _, w => F w ∧ ∀ k, fp k → k < w.heap.size
theorem Ent.lt {e : Ent} {w : World} (h : e.holds w) {k : Nat} (hk : e.fp k) : k < w.heap.size := by
  cases e with
  | blk g cs T => cases hk; exact (Array.getElem?_eq_some_iff.1 h).1
  | row v e size n xs => exact (World.ownsRow.lt h k hk).2
  | any fp F st => exact h.2 k hk
theorem Ent.stable {e : Ent} {w w' : World} (h : e.holds w) (hs : w.heap.size ≤ w'.heap.size) (hb : ∀ k, e.fp k → w'.heap[k]? = w.heap[k]?) : e.holds w' := by
  cases e with
  | blk g cs T => exact (hb g rfl).trans h
  | row v e size n xs =>
    refine ⟨h.1, ?_⟩
    rcases h.2 with hn | ⟨g, cap, cur, rfl, hbg, hg, rest⟩
    · exact .inl hn
    · exact .inr ⟨g, cap, cur, rfl, hbg, by rw [hb g rfl]; exact hg, rest⟩
  | any fp F st => exact ⟨st w w' h.1 hs hb, fun k hk => Nat.lt_of_lt_of_le (h.2 k hk) hs⟩
/-- what is known of a world w that began as w0: nothing below w0's end has turned, and the call owns the things of m, each its own blocks -/
structure Kn (w0 : World) (m : List Ent) (w : World) : Prop where
  below : Below w0.heap.size w0 w
  ents : ∀ e ∈ m, e.holds w
  own : ∀ e ∈ m, ∀ k, e.fp k → w0.heap.size ≤ k
  apart : m.Pairwise (fun a b => ∀ k, a.fp k → ¬ b.fp k)
/-- nothing but the blocks of fp has turned -/
structure Chg (fp : Nat → Prop) (w w' : World) : Prop where
  os : w'.os = w.os
  tape : w'.tape = w.tape
  output : w'.output = w.output
  size : w.heap.size ≤ w'.heap.size
  block : ∀ k, k < w.heap.size → ¬ fp k → w'.heap[k]? = w.heap[k]?
section
variable {w0 w w' : World} {m : List Ent} {e e' : Ent}
theorem Kn.nil (w : World) : Kn w [] w := ⟨Below.refl _ _, fun _ h => (nomatch h), fun _ h => (nomatch h), .nil⟩
theorem Kn.size (h : Kn w0 m w) : w0.heap.size ≤ w.heap.size := h.below.size
theorem Kn.keep (h : Kn w0 m w) (hb : Below w.heap.size w w') : Kn w0 m w' :=
  ⟨h.below.trans (hb.mono h.size), fun e he => Ent.stable (h.ents e he) hb.size (fun k hk => hb.block k (Ent.lt (h.ents e he) hk)), h.own, h.apart⟩
theorem Kn.add (h : Kn w0 m w) (hb : Below w.heap.size w w') (he : e.holds w') (hf : ∀ k, e.fp k → w.heap.size ≤ k) : Kn w0 (e :: m) w' := by
  have h' := h.keep hb
  refine ⟨h'.below, fun x hx => ?_, fun x hx k hk => ?_, List.pairwise_cons.2 ⟨fun x hx k hk hk2 => ?_, h.apart⟩⟩
  · rcases List.mem_cons.1 hx with rfl | hx
    · exact he
    · exact h'.ents x hx
  · rcases List.mem_cons.1 hx with rfl | hx
    · exact Nat.le_trans h.size (hf k hk)
    · exact h.own x hx k hk
  · have := Ent.lt (h.ents x hx) hk2
    have := hf k hk
    omega
theorem Kn.upd (h : Kn w0 (e :: m) w) (hc : Chg e.fp w w') (he : e'.holds w') (hf : ∀ k, e'.fp k → e.fp k ∨ w.heap.size ≤ k) : Kn w0 (e' :: m) w' := by
  obtain ⟨hp, hpm⟩ := List.pairwise_cons.1 h.apart
  have hsame : ∀ x ∈ m, x.holds w' := fun x hx => Ent.stable (h.ents x (List.mem_cons_of_mem _ hx)) hc.size (fun k hk => hc.block k (Ent.lt (h.ents x (List.mem_cons_of_mem _ hx)) hk) (fun h2 => hp x hx k h2 hk))
  refine ⟨h.below.trans ⟨hc.os, hc.tape, hc.output, hc.size, fun k hk => hc.block k (Nat.lt_of_lt_of_le hk h.size) (fun h2 => by have := h.own e (List.mem_cons_self ..) k h2; omega)⟩, fun x hx => ?_, fun x hx k hk => ?_, List.pairwise_cons.2 ⟨fun x hx k hk hk2 => ?_, hpm⟩⟩
  · rcases List.mem_cons.1 hx with rfl | hx
    · exact he
    · exact hsame x hx
  · rcases List.mem_cons.1 hx with rfl | hx
    · rcases hf k hk with h1 | h1
      · exact h.own e (List.mem_cons_self ..) k h1
      · exact Nat.le_trans h.size h1
    · exact h.own x (List.mem_cons_of_mem _ hx) k hk
  · rcases hf k hk with h1 | h1
    · exact hp x hx k h1 hk2
    · have := Ent.lt (h.ents x (List.mem_cons_of_mem _ hx)) hk2; omega
theorem Kn.perm {m' : List Ent} (h : Kn w0 m w) (hp : m.Perm m') : Kn w0 m' w :=
  ⟨h.below, fun e he => h.ents e (hp.mem_iff.2 he), fun e he => h.own e (hp.mem_iff.2 he), hp.pairwise h.apart (fun hab k h1 h2 => hab k h2 h1)⟩
theorem Kn.sw1 {a b : Ent} (h : Kn w0 (a :: b :: m) w) : Kn w0 (b :: a :: m) w := h.perm (.swap _ _ _)
theorem Kn.sw2 {a b c : Ent} (h : Kn w0 (a :: b :: c :: m) w) : Kn w0 (c :: a :: b :: m) w := h.perm (((List.Perm.swap c b m).cons a).trans (.swap _ _ _))
theorem Kn.sw3 {a b c d : Ent} (h : Kn w0 (a :: b :: c :: d :: m) w) : Kn w0 (d :: a :: b :: c :: m) w := h.perm ((((List.Perm.swap d c m).cons b).cons a).trans (((List.Perm.swap d b _).cons a).trans (.swap _ _ _)))
theorem Kn.bare (h : Kn w0 m w) : Kn w0 [] w := ⟨h.below, fun _ h => (nomatch h), fun _ h => (nomatch h), .nil⟩
theorem Kn.drop (h : Kn w0 (e :: m) w) : Kn w0 m w := ⟨h.below, fun x hx => h.ents x (List.mem_cons_of_mem _ hx), fun x hx => h.own x (List.mem_cons_of_mem _ hx), (List.pairwise_cons.1 h.apart).2⟩
theorem Kn.sw4 {a b c d e : Ent} (h : Kn w0 (a :: b :: c :: d :: e :: m) w) : Kn w0 (e :: a :: b :: c :: d :: m) w := h.perm (by
  have := (List.perm_middle (a := e) (l₁ := [a, b, c, d]) (l₂ := m)); simpa using this)
theorem Kn.sw5 {a b c d e f : Ent} (h : Kn w0 (a :: b :: c :: d :: e :: f :: m) w) : Kn w0 (f :: a :: b :: c :: d :: e :: m) w := h.perm (by
  have := (List.perm_middle (a := f) (l₁ := [a, b, c, d, e]) (l₂ := m)); simpa using this)
theorem Kn.drop1 {a b : Ent} (h : Kn w0 (a :: b :: m) w) : Kn w0 (a :: m) w := h.sw1.drop
theorem Kn.drop2 {a b c : Ent} (h : Kn w0 (a :: b :: c :: m) w) : Kn w0 (a :: b :: m) w := h.sw2.drop
theorem Kn.drop3 {a b c d : Ent} (h : Kn w0 (a :: b :: c :: d :: m) w) : Kn w0 (a :: b :: c :: m) w := h.sw3.drop
theorem Kn.mono {w1 : World} (h : Kn w1 m w) (hb : Below w0.heap.size w0 w1) : Kn w0 m w :=
  ⟨hb.trans (h.below.mono hb.size), h.ents, fun e he k hk => Nat.le_trans hb.size (h.own e he k hk), h.apart⟩
/-- what another call of the same base owns, beside what was owned before it -/
theorem Kn.join {w1 : World} {m' : List Ent} (h : Kn w0 m w) (h1 : Kn w m' w1) : Kn w0 (m' ++ m) w1 := by
  have hk := h.keep h1.below
  refine ⟨hk.below, fun x hx => ?_, fun x hx k hf => ?_, List.pairwise_append.2 ⟨h1.apart, h.apart, fun a ha b hb k h2 h3 => ?_⟩⟩
  · rcases List.mem_append.1 hx with hx | hx
    · exact h1.ents x hx
    · exact hk.ents x hx
  · rcases List.mem_append.1 hx with hx | hx
    · exact Nat.le_trans h.size (h1.own x hx k hf)
    · exact h.own x hx k hf
  · have := h1.own a ha k h2
    have := Ent.lt (h.ents b hb) h3
    omega
theorem Kn.al (h : Kn w0 m w) (l : List Value) (T : TypeId) : Kn w0 (.blk w.heap.size l T :: m) (w.alloc (.cells l.toArray T)) :=
  h.add ((Below.refl _ _).alloc (Nat.le_refl _) _) (heap_alloc_new _ _) (fun k hk => by cases hk; exact Nat.le_refl _)
theorem Kn.al_ (h : Kn w0 m w) (o : Obj) : Kn w0 m (w.alloc o) := h.keep ((Below.refl _ _).alloc (Nat.le_refl _) _)
theorem Kn.st {g : Nat} {l : List Value} {T : TypeId} (h : Kn w0 (.blk g l T :: m) w) (j : Nat) (v : Value) : Kn w0 (.blk g (l.set j v) T :: m) (w.setCell ⟨g, j, none⟩ v) := by
  refine h.upd ⟨rfl, rfl, rfl, by simp [World.setCell], fun k _ hk => Below.heap_setCell _ _ _ _ hk⟩ ?_ (fun k hk => .inl hk)
  have h0 : w.heap[g]? = some (.cells l.toArray T (0, 0)) := h.ents _ (List.mem_cons_self ..)
  have hl := (Array.getElem?_eq_some_iff.1 h0).1
  have h1 := (Array.getElem?_eq_some_iff.1 h0).2
  show (w.setCell ⟨g, j, none⟩ v).heap[g]? = some (.cells (l.set j v).toArray T (0, 0))
  simp only [World.setCell, Array.getElem?_modify, if_pos, h0, Option.map_some]
  simp
theorem Kn.drewN (h : Kn w0 m w) (q : Nat) : Kn w0 m (w.drewN q) := h.keep (drewN_below q)
theorem Kn.drew (h : Kn w0 m w) : Kn w0 m w.drew := h.keep (Below.refl _ _).drew
theorem Kn.at0 (h : Kn w0 (e :: m) w) : e.holds w := h.ents _ (List.mem_cons_self ..)
/-- the cells of the blocks that are known -/
def Cells : List Ent → World → Prop
  | [], _ => True
  | .blk g cs _ :: m, w => (∀ j, w.cell? ⟨g, j, none⟩ = cs[j]?) ∧ (∀ j, w.frozen? ⟨g, j, none⟩ = false) ∧ g < w.heap.size ∧ Cells m w
  | _ :: m, w => Cells m w
theorem Cells.of : ∀ {m : List Ent}, (∀ e ∈ m, e.holds w) → Cells m w
  | [], _ => trivial
  | .blk g cs T :: m, h => by
    have h0 : w.heap[g]? = some (.cells cs.toArray T (0, 0)) := h _ (List.mem_cons_self ..)
    exact ⟨fun j => by rw [cell_of_row w g j _ T (0, 0) h0]; simp, fun j => by simp [World.frozen?, h0], (Array.getElem?_eq_some_iff.1 h0).1, Cells.of (fun e he => h e (List.mem_cons_of_mem _ he))⟩
  | .row .. :: m, h => Cells.of (m := m) (fun e he => h e (List.mem_cons_of_mem _ he))
  | .any .. :: m, h => Cells.of (m := m) (fun e he => h e (List.mem_cons_of_mem _ he))
theorem Kn.cells (h : Kn w0 m w) : Cells m w := Cells.of h.ents
theorem Kn.blkAt {g : Nat} {cs : List Value} {T : TypeId} (h : Kn w0 (.blk g cs T :: m) w) : (∀ j, w.cell? ⟨g, j, none⟩ = cs[j]?) ∧ (∀ j, w.frozen? ⟨g, j, none⟩ = false) ∧ g < w.heap.size := ⟨h.cells.1, h.cells.2.1, h.cells.2.2.1⟩
/-- a row that the callee hands back -/
theorem Kn.addI {v : Value} {ds : List Int} (h : Kn w0 m w) (hb : Below w.heap.size w w') (ho : OwnI w' w.heap.size v ds) : Kn w0 (.row v 2 1 ds.length (ds.map (Value.int .i64)) :: m) w' :=
  h.add (e := .row v 2 1 ds.length (ds.map (Value.int .i64))) hb (OwnI.mono ho (Nat.zero_le _)) (fun k hk => (World.ownsRow.lt ho k hk).1)
theorem Kn.addB {v : Value} {bs : List UInt8} (h : Kn w0 m w) (hb : Below w.heap.size w w') (ho : OwnB w' w.heap.size v bs) : Kn w0 (.row v 5 1 bs.length (bs.map byteV) :: m) w' := by
  refine h.add (e := .row v 5 1 bs.length (bs.map byteV)) hb ?_ (fun k hk => (World.ownsRow.lt ho k hk).1)
  refine ⟨ho.1, ?_⟩
  rcases ho.2 with hn | ⟨g, cap, cur, rfl, hbg, hg, rest⟩
  · exact .inl hn
  · exact .inr ⟨g, cap, cur, rfl, Nat.zero_le _, hg, rest⟩
theorem Kn.ownRow {v : Value} {t : TypeId} {size n : Nat} {xs : List Value} (h : Kn w0 (.row v t size n xs :: m) w) : w.ownsRow w0.heap.size t size v n xs := by
  have h0 : w.ownsRow 0 t size v n xs := h.at0
  refine ⟨h0.1, ?_⟩
  rcases h0.2 with hn | ⟨g, cap, cur, rfl, hbg, hg, rest⟩
  · exact .inl hn
  · exact .inr ⟨g, cap, cur, rfl, h.own _ (List.mem_cons_self ..) g rfl, hg, rest⟩
theorem Kn.ownI {v : Value} {ds : List Int} {n : Nat} (h : Kn w0 (.row v 2 1 n (ds.map (Value.int .i64)) :: m) w) : OwnI w w0.heap.size v ds := by
  have h1 := h.ownRow
  have h2 := h1.1
  rw [List.length_map, Nat.mul_one] at h2
  unfold OwnI
  rw [h2]; exact h1
theorem Kn.ownB {v : Value} {bs : List UInt8} {n : Nat} (h : Kn w0 (.row v 5 1 n (bs.map byteV) :: m) w) : OwnB w w0.heap.size v bs := by
  have h1 := h.ownRow
  have h2 := h1.1
  rw [List.length_map, Nat.mul_one] at h2
  unfold OwnB
  rw [h2]; exact h1
theorem Kn.nilRow (h : Kn w0 m w) (t : TypeId) (size : Nat) : Kn w0 (.row (.slice none 0 0) t size 0 [] :: m) w :=
  h.add (e := .row (.slice none 0 0) t size 0 []) (Below.refl _ _) (World.ownsRow_nil _ _ _ _) (fun k hk => by cases hk)
/-- a row out of a block that a literal has laid -/
theorem Kn.litRow {g n size : Nat} {l : List Value} {T : TypeId} (h : Kn w0 (.blk g l T :: m) w) (hs : l.length = n * size) (hn : n ≤ maxLen) : Kn w0 (.row (.slice (some ⟨g, 0, none⟩) n n) T size n l :: m) w := by
  have h0 : w.heap[g]? = some (.cells l.toArray T (0, 0)) := h.at0
  refine ⟨h.below, fun x hx => ?_, fun x hx k hk => ?_, List.pairwise_cons.2 ⟨fun x hx k hk => ?_, (List.pairwise_cons.1 h.apart).2⟩⟩
  · rcases List.mem_cons.1 hx with rfl | hx
    · exact ⟨hs, .inr ⟨g, n, l.toArray, rfl, Nat.zero_le _, h0, Nat.le_refl _, hn, by simpa using hs, by rw [← hs]; simp⟩⟩
    · exact h.ents x (List.mem_cons_of_mem _ hx)
  · rcases List.mem_cons.1 hx with rfl | hx
    · have hk' : (Value.slice (some ⟨g, 0, none⟩) n n).ownBlock = some k := hk
      simp only [Value.ownBlock, Option.some.injEq] at hk'
      exact h.own _ (List.mem_cons_self ..) k hk'.symm
    · exact h.own x (List.mem_cons_of_mem _ hx) k hk
  · have hk' : (Value.slice (some ⟨g, 0, none⟩) n n).ownBlock = some k := hk
    simp only [Value.ownBlock, Option.some.injEq] at hk'
    exact (List.pairwise_cons.1 h.apart).1 x hx k hk'.symm
/-- a row that append has turned -/
theorem Kn.grow {v v' : Value} {t : TypeId} {size n n' : Nat} {xs xs' : List Value} (h : Kn w0 (.row v t size n xs :: m) w) (hg : w.grownBy w' v.ownBlock) (ho : w'.ownsRow 0 t size v' n' xs') (hv : v'.ownBlock = v.ownBlock ∨ v'.ownBlock = some w.heap.size) : Kn w0 (.row v' t size n' xs' :: m) w' :=
  h.upd (e' := .row v' t size n' xs') ⟨hg.os, hg.tape, hg.output, hg.size, fun k hk hne => hg.block k hk (fun e => hne e.symm)⟩ ho (fun k hk => by
    have hk' : v'.ownBlock = some k := hk
    rcases hv with h1 | h1
    · left; show v.ownBlock = some k; rw [← h1]; exact hk'
    · right; rw [h1] at hk'; injection hk' with hk'; omega)
end
theorem Calls.kn {P : Program} {f : FuncId} {args : Array Value} {R : Ending → World → Prop} {w0 w : World} {m : List Ent} (h : Kn w0 m w) (k : ∀ W, Kn w0 m W → Calls P f args W R) : Calls P f args w R := k w h
section
variable {ops : Array Oper} {rest : List Oper} {o : Oper} {a : Act} {Q : Exit → Act → World → Prop} {w0 w : World} {m : List Ent}
theorem wpList.kn {l : List Oper} (h : Kn w0 m w) (k : ∀ W, Kn w0 m W → wpList Tryd.prog ops Q l a W) : wpList Tryd.prog ops Q l a w := k w h
/-- append(s, x..) onto a row that is owned; the new elements lie in a block that is owned too -/
theorem kn_app {t e : TypeId} {z : Value} {size bytes : Nat} (T : TP t e z size bytes) (hgd : o.guard = none) (s x : Operand) (ho : o.op = .call { callee := .builtin .append, args := #[s, x], argTypes := #[t, t] })
    (v : Value) (n : Nat) (xs : List Value) (hs : a.eval s = v) {g c k : Nat} {T' : TypeId} {l : List Value} (hx : a.eval x = .slice (some ⟨g, 0, none⟩) k c)
    (hK : Kn w0 (.blk g l T' :: .row v e size n xs :: m) w) (hl : l.length = k * size) (h1 : ∀ u ∈ l, u.oneCell' = true)
    (h63 : n + k ≤ 1000000000000000) (hb : (n + k) * bytes ≤ 140737488355328)
    (h : ∀ v' w', Kn w0 (.row v' e size (n + k) (xs ++ l) :: m) w' → wpList Tryd.prog ops Q rest (a.put o.dst v') w') : wpList Tryd.prog ops Q (o :: rest) a w := by
  have hK2 := hK.sw1
  have h0 := hK.blkAt
  refine appG T hgd s x ho 0 v n xs hs hK2.at0 ⟨g, 0, none⟩ k c l hx hl (fun j u hu => ?_) h1 h63 hb (Nat.zero_le _) (fun v' w' ho' hg hv => ?_)
  · rw [add_zero_block]; rw [h0.1 j]; exact hu
  · exact h v' w' (hK2.drop1.grow hg ho' hv)
theorem kn_app_row {t e : TypeId} {z : Value} {size bytes : Nat} (T : TP t e z size bytes) (hgd : o.guard = none) (s x : Operand) (ho : o.op = .call { callee := .builtin .append, args := #[s, x], argTypes := #[t, t] })
    (v : Value) (n : Nat) (xs : List Value) (hs : a.eval s = v) {A : Option Addr} {c k : Nat} {l : List Value} (hx : a.eval x = .slice A k c) (hk0 : 0 < k)
    (hK : Kn w0 (.row (.slice A k c) e size k l :: .row v e size n xs :: m) w) (h1 : ∀ u ∈ l, u.oneCell' = true)
    (h63 : n + k ≤ 1000000000000000) (hb : (n + k) * bytes ≤ 140737488355328)
    (h : ∀ v' w', Kn w0 (.row v' e size (n + k) (xs ++ l) :: .row (.slice A k c) e size k l :: m) w' → wpList Tryd.prog ops Q rest (a.put o.dst v') w') : wpList Tryd.prog ops Q (o :: rest) a w := by
  have hK2 := hK.sw1
  have h0 : w.ownsRow 0 e size (.slice A k c) k l := hK.at0
  rcases h0.2 with ⟨_, h2⟩ | ⟨g, cap, cur, hv, -, hg, -⟩
  · omega
  injection hv with hv _ _
  subst hv
  refine appG T hgd s x ho 0 v n xs hs hK2.at0 ⟨g, 0, none⟩ k c l hx h0.1 (fun j u hu => h0.cells (g := g) rfl j u hu) h1 h63 hb (Nat.zero_le _) (fun v' w' ho' hg hv => ?_)
  exact h v' w' (hK2.grow hg ho' hv)
/-- the same, as a step of a region that draws its order -/
theorem kn_step_app {K : Act → World → Prop} {E : Prop} {t e : TypeId} {z : Value} {size bytes : Nat} (T : TP t e z size bytes) (hgd : o.guard = none) (s x : Operand) (ho : o.op = .call { callee := .builtin .append, args := #[s, x], argTypes := #[t, t] })
    (v : Value) (n : Nat) (xs : List Value) (hs : a.eval s = v) {g c k : Nat} {T' : TypeId} {l : List Value} (hx : a.eval x = .slice (some ⟨g, 0, none⟩) k c)
    (hK : Kn w0 (.blk g l T' :: .row v e size n xs :: m) w) (hl : l.length = k * size) (h1 : ∀ u ∈ l, u.oneCell' = true)
    (h63 : n + k ≤ 1000000000000000) (hb : (n + k) * bytes ≤ 140737488355328)
    (h : ∀ v' w', Kn w0 (.row v' e size (n + k) (xs ++ l) :: m) w' → K (a.put o.dst v') w') : if Region.wanted o (yielded ops a.tmps) = true then Oper.wp Tryd.prog o a w K Q else E := by
  have hw : Region.wanted o (yielded ops a.tmps) = true := by simp [Region.wanted, hgd]
  rw [if_pos hw]
  have hK2 := hK.sw1
  have h0 := hK.blkAt
  obtain ⟨i0, hi, hz0, hz1, hz2⟩ := info_parts T.info
  obtain ⟨v', w', hrun, h2, h3, _, h5⟩ := run_append_own_at (P := Tryd.prog) w 0 t o.type e i0 z size bytes T.under hi hz0 hz1 hz2 T.zc T.pos v n xs hK2.at0 ⟨g, 0, none⟩ k c l hl (fun j u hu => by rw [add_zero_block, h0.1 j]; exact hu) h1 (by simp only [maxLen]; omega) hb (Nat.zero_le _)
  unfold Oper.wp execOp
  simp only [ho, resolve, invoke, builtin, Sem.run_bind, Sem.run_pure, Result.andThen_ok, List.map_toArray, List.map_cons, List.map_nil, hs, hx, hrun]
  exact h v' w' (hK2.drop1.grow h3 h2 h5)
theorem kn_step_row {K : Act → World → Prop} {E : Prop} {t e : TypeId} {z : Value} {size bytes : Nat} (T : TP t e z size bytes) (hgd : o.guard = none) (s x : Operand) (ho : o.op = .call { callee := .builtin .append, args := #[s, x], argTypes := #[t, t] })
    (v : Value) (n : Nat) (xs : List Value) (hs : a.eval s = v) {A : Option Addr} {c k : Nat} {l : List Value} (hx : a.eval x = .slice A k c) (hk0 : 0 < k)
    (hK : Kn w0 (.row (.slice A k c) e size k l :: .row v e size n xs :: m) w) (h1 : ∀ u ∈ l, u.oneCell' = true)
    (h63 : n + k ≤ 1000000000000000) (hb : (n + k) * bytes ≤ 140737488355328)
    (h : ∀ v' w', Kn w0 (.row v' e size (n + k) (xs ++ l) :: .row (.slice A k c) e size k l :: m) w' → K (a.put o.dst v') w') : if Region.wanted o (yielded ops a.tmps) = true then Oper.wp Tryd.prog o a w K Q else E := by
  have hw : Region.wanted o (yielded ops a.tmps) = true := by simp [Region.wanted, hgd]
  rw [if_pos hw]
  have hK2 := hK.sw1
  have h0 : w.ownsRow 0 e size (.slice A k c) k l := hK.at0
  rcases h0.2 with ⟨_, h2⟩ | ⟨g, cap, cur, hv, -, hg, -⟩
  · omega
  injection hv with hv _ _
  subst hv
  obtain ⟨i0, hi, hz0, hz1, hz2⟩ := info_parts T.info
  obtain ⟨v', w', hrun, h2, h3, _, h5⟩ := run_append_own_at (P := Tryd.prog) w 0 t o.type e i0 z size bytes T.under hi hz0 hz1 hz2 T.zc T.pos v n xs hK2.at0 ⟨g, 0, none⟩ k c l h0.1 (fun j u hu => h0.cells (g := g) rfl j u hu) h1 (by simp only [maxLen]; omega) hb (Nat.zero_le _)
  unfold Oper.wp execOp
  simp only [ho, resolve, invoke, builtin, Sem.run_bind, Sem.run_pure, Result.andThen_ok, List.map_toArray, List.map_cons, List.map_nil, hs, hx, hrun]
  exact h v' w' (hK2.grow h3 h2 h5)
end
end Go.Proofs.YtcapccadpbiecaaDoor

namespace Go.Proofs.YtcapccadpbiecaaDoor
open Go.RowKit
set_option maxHeartbeats 400000 in
theorem between_any (n l h : Int) (w : World) :
    Calls Tryd.prog 127 #[.int .i64 n, .int .i64 l, .int .i64 h] w fun e w' => e = .returned (.bool (betB n l h)) ∧ w = w' := by
  by_cases h1 : l ≤ n
  · by_cases h2 : n ≤ h
    · go_enter Tryd.func127, Tryd.ntmps127
      go_wp2
      go_ret
      simp [betB, h1, h2]
    · go_enter Tryd.func127, Tryd.ntmps127
      go_wp2
      go_ret
      simp [betB, h1, h2]
  · go_enter Tryd.func127, Tryd.ntmps127
    go_wp2
    go_ret
    exact ⟨by simp [betB]; omega, rfl⟩
set_option maxHeartbeats 400000 in
theorem l00In_any (n l h : Int) (w : World) :
    Calls Tryd.prog 128 #[.int .i64 n, .int .i64 l, .int .i64 h] w fun e w' => e = .returned (.bool (betB n l h)) ∧ w = w' := by
  by_cases h1 : l ≤ n
  · by_cases h2 : n ≤ h
    · go_enter Tryd.func128, Tryd.ntmps128
      go_wp2
      go_ret
      simp [betB, h1, h2]
    · go_enter Tryd.func128, Tryd.ntmps128
      go_wp2
      go_ret
      simp [betB, h1, h2]
  · go_enter Tryd.func128, Tryd.ntmps128
    go_wp2
    go_ret
    exact ⟨by simp [betB]; omega, rfl⟩
theorem isBase_any (n : Int) (w : World) :
    Calls Tryd.prog 180 #[.int .i64 n] w fun e w' => e = .returned (.bool (betB n 2 16)) ∧ w = w' := by
  go_enter Tryd.func180, Tryd.ntmps180
  go_wp2_with (go_at_call 127; refine (between_any _ _ _ _).mono ?_; rintro e w' ⟨rfl, rfl⟩)
  go_ret
  exact ⟨rfl, rfl⟩
theorem isRegisterWidth_any (n : Int) (w : World) :
    Calls Tryd.prog 181 #[.int .i64 n] w fun e w' => e = .returned (.bool (betB n 1 16)) ∧ w = w' := by
  go_enter Tryd.func181, Tryd.ntmps181
  go_wp2_with (go_at_call 127; refine (between_any _ _ _ _).mono ?_; rintro e w' ⟨rfl, rfl⟩)
  go_ret
  exact ⟨rfl, rfl⟩
theorem l02Base_any (n : Int) (w : World) :
    Calls Tryd.prog 177 #[.int .i64 n] w fun e w' => e = .returned (.bool (betB n 2 16)) ∧ w = w' := by
  go_enter Tryd.func177, Tryd.ntmps177
  go_wp2_with (go_at_call 128; refine (l00In_any _ _ _ _).mono ?_; rintro e w' ⟨rfl, rfl⟩)
  go_ret
  exact ⟨rfl, rfl⟩
theorem l00Min_any (a b : Int) (w : World) :
    Calls Tryd.prog 179 #[.int .i64 a, .int .i64 b] w fun e w' => e = .returned (.int .i64 (min a b)) ∧ w = w' := by
  by_cases h : a < b
  · go_enter Tryd.func179, Tryd.ntmps179
    go_wp2
    go_ret
    exact ⟨ret_int (Int.min_eq_left (by omega)).symm, rfl⟩
  · go_enter Tryd.func179, Tryd.ntmps179
    go_wp2
    go_ret
    exact ⟨ret_int (Int.min_eq_right (by omega)).symm, rfl⟩
/-- the value of digits, capped -/
def valL (b : Int) : List Int → Int
  | [] => 0
  | d :: ds => min 1000000000001 (valL b ds * b + d)
theorem valL_bd (b : Int) (hb : 2 ≤ b) (ds : List Int) (hd : ∀ d ∈ ds, 0 ≤ d) : 0 ≤ valL b ds ∧ valL b ds ≤ 1000000000001 := by
  induction ds with
  | nil => simp [valL]
  | cons d ds ih =>
    have h1 := ih (fun x hx => hd x (by simp [hx]))
    have h2 := hd d (by simp)
    have h3 : 0 ≤ valL b ds * b := Int.mul_nonneg h1.1 (by omega)
    simp only [valL]; omega
theorem valL_big (b : Int) (hb : 2 ≤ b) (ds : List Int) (hd : ∀ d ∈ ds, 0 ≤ d) : ∀ k, valL b (ds.drop k) = 1000000000001 → valL b ds = 1000000000001 := by
  induction ds with
  | nil => intro k h; simp [valL] at h
  | cons d ds ih =>
    intro k h
    cases k with
    | zero => exact h
    | succ k =>
      have h1 := ih (fun x hx => hd x (by simp [hx])) k (by simpa using h)
      have h2 := hd d (by simp)
      simp only [valL, h1]; omega
theorem valL_drop (b : Int) (ds : List Int) (k : Nat) (h : k < ds.length) : valL b (ds.drop k) = min 1000000000001 (valL b (ds.drop (k + 1)) * b + ds[k]) := by
  rw [List.drop_eq_getElem_cons h]; rfl
set_option maxHeartbeats 400000 in
theorem value_any (b : Int) (A : Option Addr) (n c : Nat) (ds : List Int) (w : World)
   (hb1 : 2 ≤ b) (hb2 : b ≤ 16) (hd : ∀ d ∈ ds, 0 ≤ d ∧ d < b) (hr : RI w A n ds) (hn : n ≤ 16) :
    Calls Tryd.prog 164 #[.agg #[.int .i64 b, .slice A n c]] w fun e w' => e = .returned (.int .i64 (valL b ds)) ∧ Below w.heap.size w w' := by
  have HL := Lib.hid hr.1
  go_enter Tryd.func164, Tryd.ntmps164
  go_wp2
  go_loopw [3, 4] (fun v i wr => ∃ k : Nat, k ≤ n ∧ i = .int .i64 ((k : Int) - 1) ∧ v = .int .i64 (valL b (ds.drop k)) ∧ valL b (ds.drop k) ≤ 1000000000000 ∧ Below (w.heap.size + 1) (w.alloc (.cells #[.int .i64 b, .slice A n c] 35)) wr) (fun _ i _ => (intOf i + 1).toNat)
  case atStart => exact ⟨n, Nat.le_refl _, rfl, by rw [List.drop_of_length_le (by have := HL.out; omega)]; rfl, by rw [List.drop_of_length_le (by have := HL.out; omega)]; simp [valL], Below.refl _ _⟩
  case round =>
    obtain ⟨k, hk, rfl, rfl, hv1, hbl⟩ := hrel
    rcases Nat.eq_zero_or_pos k with hk0 | hk0
    · subst hk0
      go_wp2
      go_ret
      exact ⟨rfl, ((Below.refl _ _).alloc (Nat.le_refl _) _).trans (hbl.mono (by omega))⟩
    · obtain ⟨ad, hA, hlt, hkl, hc⟩ := hr.at_ (show k - 1 < n by omega)
      rw [← World.cell?_alloc_lt w (.cells #[.int .i64 b, .slice A n c] 35) (ad.add (k - 1)) (by rw [block_of_add]; omega), ← hbl.cell (by rw [block_of_add]; omega)] at hc
      have hb0 : wr.cell? ⟨w.heap.size, 0, none⟩ = some (.int .i64 b) := by rw [hbl.cell (by simp)]; go_simp
      have hb1 : wr.cell? ⟨w.heap.size, 1, none⟩ = some (.slice A n c) := by rw [hbl.cell (by simp)]; go_simp
      have hd1 := hd ds[k-1] (List.getElem_mem _)
      have hv0 := (valL_bd b (by omega) (ds.drop k) (fun x hx => (hd x (List.mem_of_mem_drop hx)).1)).1
      have hm0 : 0 ≤ valL b (ds.drop k) * b := Int.mul_nonneg hv0 (by omega)
      have hm1 : valL b (ds.drop k) * b ≤ 16000000000000 := by
        have := Int.mul_le_mul hv1 hb2 (by omega) (by omega); omega
      have HV : Hid (valL b (ds.drop (k - 1)) = min 1000000000001 (valL b (ds.drop k) * b + ds[k-1])) := by
        have := valL_drop b ds (k - 1) hkl; rw [show k - 1 + 1 = k by omega] at this; exact this
      subst hA
      go_wp2
      go_quiet (fail)
      go_wp2
      · go_ret
        refine ⟨?_, ((Below.refl _ _).alloc (Nat.le_refl _) _).trans ((hbl.trans (below_drewN (Below.refl _ _) _)).mono (by omega))⟩
        exact ret_int (valL_big b (by omega) ds (fun x hx => (hd x hx).1) (k - 1) (by rw [HV.out]; omega)).symm
      · go_roundw
        case rel => exact ⟨k - 1, by omega, by congr 1; omega, by rw [HV.out, Int.min_eq_right (by omega)], by rw [HV.out]; omega, hbl.trans (below_drewN (Below.refl _ _) _)⟩
        case measure => simp [intOf]; omega
end Go.Proofs.YtcapccadpbiecaaDoor

namespace Go.Proofs.YtcapccadpbiecaaDoor
open Go.RowKit
def digB (b : Int) (ds : List Int) : Bool := ds.all (fun d => betB d 0 (b - 1))
/-- a valid register -/
def vreg (b : Int) (ds : List Int) : Bool := betB b 2 16 && betB ds.length 1 16 && digB b ds && decide (valL b ds ≤ 1000000000000)
theorem betB_iff {n l h : Int} : betB n l h = true ↔ l ≤ n ∧ n ≤ h := by simp [betB]
theorem betB_false {n l h : Int} : betB n l h = false ↔ ¬ (l ≤ n ∧ n ≤ h) := by simp [betB]
theorem digB_take_succ {b : Int} {ds : List Int} {k : Nat} (h : k < ds.length) : digB b (ds.take (k + 1)) = (digB b (ds.take k) && betB ds[k] 0 (b - 1)) := by
  unfold digB; rw [List.take_succ_eq_append_getElem h, List.all_append]; simp only [List.all_cons, List.all_nil, Bool.and_true]
theorem digB_not {b : Int} {ds : List Int} {k : Nat} (h : k < ds.length) (h1 : betB ds[k] 0 (b - 1) = false) : digB b ds = false := by
  simp only [digB, List.all_eq_false]; exact ⟨ds[k], List.getElem_mem _, by simp [h1]⟩
theorem digB_iff {b : Int} {ds : List Int} : digB b ds = true ↔ ∀ d ∈ ds, 0 ≤ d ∧ d < b := by
  simp only [digB, List.all_eq_true, betB_iff]
  exact ⟨fun h d hd => by have := h d hd; omega, fun h d hd => by have := h d hd; omega⟩
theorem vreg_iff {b : Int} {ds : List Int} : vreg b ds = true ↔ (2 ≤ b ∧ b ≤ 16) ∧ (1 ≤ ds.length ∧ ds.length ≤ 16) ∧ (∀ d ∈ ds, 0 ≤ d ∧ d < b) ∧ valL b ds ≤ 1000000000000 := by
  simp only [vreg, Bool.and_eq_true, betB_iff, digB_iff, decide_eq_true_eq]
  constructor
  · rintro ⟨⟨⟨h1, h2⟩, h3⟩, h4⟩; exact ⟨h1, by omega, h3, h4⟩
  · rintro ⟨h1, h2, h3, h4⟩; exact ⟨⟨⟨h1, by omega⟩, h3⟩, h4⟩
set_option maxHeartbeats 400000 in
theorem ValidRegister_any (b : Int) (A : Option Addr) (n c : Nat) (ds : List Int) (w : World) (hr : RI w A n ds) (hm : n ≤ 9223372036854775807) :
    Calls Tryd.prog 158 #[.agg #[.int .i64 b, .slice A n c]] w fun e w' => e = .returned (.bool (vreg b ds)) ∧ Below w.heap.size w w' := by
  have HL := Lib.hid hr.1
  rcases hb : betB b 2 16 with _ | _
  · have HF : Hid (vreg b ds = false) := by simp [Hid, vreg, hb]
    have hb' := Lib.hid hb; clear hb
    go_enter Tryd.func158, Tryd.ntmps158
    go_wp2_with (go_at_call 180; refine (isBase_any _ _).mono ?_; rintro e w' ⟨rfl, rfl⟩; rw [hb'.out])
    go_ret
    exact ⟨ret_bool HF.out.symm, (Below.refl _ _).alloc (Nat.le_refl _) _⟩
  rcases hw : betB (n : Int) 1 16 with _ | _
  · have HF : Hid (vreg b ds = false) := by simp [Hid, vreg, HL.out, hw]
    have hb' := Lib.hid hb; clear hb
    have hw' := Lib.hid hw; clear hw
    go_enter Tryd.func158, Tryd.ntmps158
    go_wp2_with (first
      | (go_at_call 180; refine (isBase_any _ _).mono ?_; rintro e w' ⟨rfl, rfl⟩; rw [hb'.out])
      | (go_at_call 181; refine (isRegisterWidth_any _ _).mono ?_; rintro e w' ⟨rfl, rfl⟩; rw [hw'.out]))
    go_ret
    exact ⟨ret_bool HF.out.symm, (Below.refl _ _).alloc (Nat.le_refl _) _⟩
  have hbb := betB_iff.1 hb
  have hww := betB_iff.1 hw
  have hb' := Lib.hid hb; clear hb
  have hw' := Lib.hid hw; clear hw
  go_enter Tryd.func158, Tryd.ntmps158
  go_wp2_with (first
    | (go_at_call 180; refine (isBase_any _ _).mono ?_; rintro e w' ⟨rfl, rfl⟩; rw [hb'.out])
    | (go_at_call 181; refine (isRegisterWidth_any _ _).mono ?_; rintro e w' ⟨rfl, rfl⟩; rw [hw'.out]))
  go_loop [19] (fun i => ∃ k : Nat, k ≤ n ∧ i = .int .i64 k ∧ digB b (ds.take k) = true) (fun i => n - (intOf i).toNat)
  case atStart => exact ⟨0, Nat.zero_le _, rfl, by simp [digB]⟩
  case round =>
    obtain ⟨k, hk, rfl, hdg⟩ := hrel
    have HD := Lib.hid hdg; clear hdg
    by_cases hkn : k < n
    · obtain ⟨ad, hA, hlt, hkl, hc⟩ := hr.at_ hkn
      rw [← World.cell?_alloc_lt w (.cells #[.int .i64 b, .slice A n c] 35) (ad.add k) (by rw [block_of_add]; omega)] at hc
      subst hA
      rcases hd : betB ds[k] 0 (b - 1) with _ | _
      · have HF : Hid (vreg b ds = false) := by simp [Hid, vreg, digB_not hkl hd]
        have hd' := Lib.hid hd; clear hd
        go_wp2_with (go_at_call 127; refine (between_any _ _ _ _).mono ?_; rintro e w' ⟨rfl, rfl⟩; rw [hd'.out])
        go_ret
        exact ⟨ret_bool HF.out.symm, (Below.refl _ _).alloc (Nat.le_refl _) _⟩
      · have hd' := Lib.hid hd; clear hd
        go_wp2_with (go_at_call 127; refine (between_any _ _ _ _).mono ?_; rintro e w' ⟨rfl, rfl⟩; rw [hd'.out])
        go_round
        case rel => exact ⟨k + 1, by omega, by go_num, by rw [digB_take_succ hkl, HD.out, hd'.out]; rfl⟩
        case measure => simp [intOf]; omega
    · have HK : Hid (digB b ds = true) := by have h1 := HD.out; rwa [List.take_of_length_le (by have := HL.out; omega)] at h1
      have HV : Hid (vreg b ds = decide (valL b ds ≤ 1000000000000)) := by simp [Hid, vreg, hb'.out, HL.out, hw'.out, HK.out]
      go_wp2_with (go_at_call 164; refine (value_any b A n c ds _ (by omega) (by omega) (digB_iff.1 HK.out) (hr.below ((Below.refl _ _).alloc (Nat.le_refl _) _)) (by omega)).mono ?_; rintro e w' ⟨rfl, hbw⟩)
      go_ret
      exact ⟨ret_bool HV.out.symm, ((Below.refl _ _).alloc (Nat.le_refl _) _).trans (hbw.mono (by simp))⟩
set_option maxHeartbeats 400000 in
theorem l02Digits_any (b : Int) (A : Option Addr) (n c : Nat) (ds : List Int) (w : World) (hr : RI w A n ds) (hm : n ≤ 9223372036854775807) (h1 : 2 ≤ b) (h2 : b ≤ 16) :
    Calls Tryd.prog 200 #[.int .i64 b, .slice A n c] w fun e w' => e = .returned (.bool (digB b ds && betB ds.length 1 16)) ∧ w = w' := by
  have HL := Lib.hid hr.1
  go_enter Tryd.func200, Tryd.ntmps200
  go_wp2
  go_loop [5] (fun i => ∃ k : Nat, k ≤ n ∧ i = .int .i64 k ∧ digB b (ds.take k) = true) (fun i => n - (intOf i).toNat)
  case atStart => exact ⟨0, Nat.zero_le _, rfl, by simp [digB]⟩
  case round =>
    obtain ⟨k, hk, rfl, hdg⟩ := hrel
    have HD := Lib.hid hdg; clear hdg
    by_cases hkn : k < n
    · obtain ⟨ad, hA, hlt, hkl, hc⟩ := hr.at_ hkn
      subst hA
      rcases hd : betB ds[k] 0 (b - 1) with _ | _
      · have HF : Hid (digB b ds = false) := digB_not hkl hd
        have hd' := Lib.hid hd; clear hd
        go_wp2_with (go_at_call 128; refine (l00In_any _ _ _ _).mono ?_; rintro e w' ⟨rfl, rfl⟩; rw [hd'.out])
        go_ret
        exact ⟨ret_bool (by rw [HF.out]; rfl), rfl⟩
      · have hd' := Lib.hid hd; clear hd
        go_wp2_with (go_at_call 128; refine (l00In_any _ _ _ _).mono ?_; rintro e w' ⟨rfl, rfl⟩; rw [hd'.out])
        go_round
        case rel => exact ⟨k + 1, by omega, by go_num, by rw [digB_take_succ hkl, HD.out, hd'.out]; rfl⟩
        case measure => simp [intOf]; omega
    · have HK : Hid (digB b ds = true) := by have h1 := HD.out; rwa [List.take_of_length_le (by have := HL.out; omega)] at h1
      go_wp2_with (go_at_call 128; refine (l00In_any _ _ _ _).mono ?_; rintro e w' ⟨rfl, rfl⟩)
      go_ret
      exact ⟨ret_bool (by rw [HK.out, HL.out]; rfl), rfl⟩
set_option maxHeartbeats 400000 in
theorem l02Value_any (b : Int) (A : Option Addr) (n c : Nat) (ds : List Int) (w : World)
   (hb1 : 2 ≤ b) (hb2 : b ≤ 16) (hd : ∀ d ∈ ds, 0 ≤ d ∧ d < b) (hr : RI w A n ds) (hn : n ≤ 16) :
    Calls Tryd.prog 186 #[.int .i64 b, .slice A n c] w fun e w' => e = .returned (.int .i64 (valL b ds)) ∧ w = w' := by
  have HL := Lib.hid hr.1
  go_enter Tryd.func186, Tryd.ntmps186
  go_wp2
  go_loop [5, 6] (fun v i => ∃ k : Nat, k ≤ n ∧ i = .int .i64 ((k : Int) - 1) ∧ v = .int .i64 (valL b (ds.drop k))) (fun _ i => (intOf i + 1).toNat)
  case atStart => exact ⟨n, Nat.le_refl _, rfl, by rw [List.drop_of_length_le (by have := HL.out; omega)]; rfl⟩
  case round =>
    obtain ⟨k, hk, rfl, rfl⟩ := hrel
    rcases Nat.eq_zero_or_pos k with hk0 | hk0
    · subst hk0
      go_wp2
      go_ret
      exact ⟨rfl, rfl⟩
    · obtain ⟨ad, hA, hlt, hkl, hc⟩ := hr.at_ (show k - 1 < n by omega)
      have hd1 := hd ds[k-1] (List.getElem_mem _)
      obtain ⟨hv0, hv1⟩ := valL_bd b (by omega) (ds.drop k) (fun x hx => (hd x (List.mem_of_mem_drop hx)).1)
      have hm0 : 0 ≤ valL b (ds.drop k) * b := Int.mul_nonneg hv0 (by omega)
      have hm1 : valL b (ds.drop k) * b ≤ 16000000000016 := by
        have := Int.mul_le_mul hv1 hb2 (by omega) (by omega); omega
      have HV : Hid (valL b (ds.drop (k - 1)) = min 1000000000001 (valL b (ds.drop k) * b + ds[k-1])) := by
        have := valL_drop b ds (k - 1) hkl; rw [show k - 1 + 1 = k by omega] at this; exact this
      subst hA
      go_wp2_with (go_at_call 179; refine (l00Min_any _ _ _).mono ?_; rintro e w' ⟨rfl, rfl⟩)
      go_round
      case rel => exact ⟨k - 1, by omega, by congr 1; omega, by rw [HV.out]⟩
      case measure => simp [intOf]; omega
end Go.Proofs.YtcapccadpbiecaaDoor

namespace Go.Proofs.YtcapccadpbiecaaDoor
open Go.RowKit
/-- a register in memory at address p -/
def RegAt (w : World) (p : Addr) (b : Int) (A : Option Addr) (n c : Nat) : Prop := w.cell? p = some (.int .i64 b) ∧ w.cell? ⟨p.block, p.off + 1, none⟩ = some (.slice A n c)
set_option maxHeartbeats 400000 in
theorem l02Ok_any (p : Addr) (b : Int) (A : Option Addr) (n c : Nat) (ds : List Int) (w : World) (hp : RegAt w p b A n c) (hr : RI w A n ds) (hm : n ≤ 9223372036854775807) :
    Calls Tryd.prog 150 #[.pointer (some p)] w fun e w' => e = .returned (.bool (vreg b ds)) ∧ ∃ m, w' = w.drewN m := by
  obtain ⟨hc0, hc1⟩ := hp
  have HL := Lib.hid hr.1
  rcases hb : betB b 2 16 with _ | _
  · have HF : Hid (vreg b ds = false) := by simp [Hid, vreg, hb]
    have k0 := Lib.hid (fun W => calls_val (l02Base_any b W) (congrArg Value.bool hb)); clear hb
    go_enter Tryd.func150, Tryd.ntmps150
    go_wp2_with fail
    go_quiet ((go_at_call 177; exact quiet_left (k0.out _)))
    go_wp2
    go_ret
    exact ⟨ret_bool HF.out.symm, _, rfl⟩
  have hbb := betB_iff.1 hb
  rcases hd : (digB b ds && betB ds.length 1 16) with _ | _
  · have HF : Hid (vreg b ds = false) := by simp only [Hid, vreg]; rw [Bool.and_assoc (betB b 2 16), Bool.and_comm (betB _ 1 16), hd]; simp
    have k0 := Lib.hid (fun W => calls_val (l02Base_any b W) (congrArg Value.bool hb)); clear hb
    have k1 := Lib.hid (fun m => calls_val (l02Digits_any b A n c ds (w.drewN m) hr hm hbb.1 hbb.2) (congrArg Value.bool hd)); clear hd
    go_enter Tryd.func150, Tryd.ntmps150
    go_wp2_with fail
    go_quiet ((first | (go_at_call 177; exact quiet_left (k0.out _)) | (go_at_call 200; exact quiet_left (k1.out _))))
    go_wp2
    go_ret
    exact ⟨ret_bool HF.out.symm, _, rfl⟩
  · have HF : Hid (vreg b ds = decide (valL b ds ≤ 1000000000000)) := by simp only [Hid, vreg]; rw [Bool.and_assoc (betB b 2 16), Bool.and_comm (betB _ 1 16), hd, hb]; simp
    have k0 := Lib.hid (fun W => calls_val (l02Base_any b W) (congrArg Value.bool hb)); clear hb
    have k1 := Lib.hid (fun m => calls_val (l02Digits_any b A n c ds (w.drewN m) hr hm hbb.1 hbb.2) (congrArg Value.bool hd))
    have hdd := Bool.and_eq_true _ _ ▸ hd
    have hd1 := digB_iff.1 hdd.1
    have hd2 := betB_iff.1 hdd.2
    rw [hr.1] at hd2
    clear hd hdd
    have k2 := Lib.hid (fun m => l02Value_any b A n c ds (w.drewN m) hbb.1 hbb.2 hd1 hr (by omega)); clear hd1
    go_enter Tryd.func150, Tryd.ntmps150
    go_wp2_with fail
    go_quiet ((first | (go_at_call 177; exact quiet_left (k0.out _)) | (go_at_call 200; exact quiet_left (k1.out _)) | (go_at_call 186; exact quiet_left (k2.out _))))
    go_wp2
    go_ret
    exact ⟨ret_bool HF.out.symm, _, rfl⟩
end Go.Proofs.YtcapccadpbiecaaDoor

namespace Go.Proofs.YtcapccadpbiecaaDoor
open Go.RowKit
/-- 'left - n', or -1 -/
def lft (left n : Int) : Int := if left - n < 0 then -1 else left - n
set_option maxHeartbeats 400000 in
theorem szInt64S_any (A : Option Addr) (n c : Nat) (left : Int) (w : World) (h1 : -1 ≤ left) (h2 : left ≤ 1048576) (hm : n ≤ 9223372036854775807) :
    Calls Tryd.prog 149 #[.slice A n c, .int .i64 left] w fun e w' => e = .returned (.int .i64 (lft left n)) ∧ w = w' := by
  by_cases h : left - n < 0
  · go_enter Tryd.func149, Tryd.ntmps149
    go_wp2
    go_ret
    exact ⟨ret_int (by unfold lft; rw [if_pos h]), rfl⟩
  · go_enter Tryd.func149, Tryd.ntmps149
    go_wp2
    go_ret
    exact ⟨ret_int (by unfold lft; rw [if_neg (by omega)]), rfl⟩
theorem lft_bd (left n : Int) (h : -1 ≤ left) (hn : 0 ≤ n) : -1 ≤ lft left n ∧ lft left n ≤ left := by unfold lft; split <;> omega
set_option maxHeartbeats 400000 in
theorem szRegister_any (b : Int) (A : Option Addr) (n c : Nat) (left : Int) (w : World) (h1 : -1 ≤ left) (h2 : left ≤ 1048576) (hm : n ≤ 9223372036854775807) :
    Calls Tryd.prog 78 #[.agg #[.int .i64 b, .slice A n c], .int .i64 left] w fun e w' => e = .returned (.int .i64 (lft left n)) ∧ Below w.heap.size w w' := by
  obtain ⟨h3, h4⟩ := lft_bd left n h1 (by omega)
  by_cases h : lft left n < 0
  · have HF : Hid (lft left n = -1) := by simp only [Hid]; omega
    go_enter Tryd.func78, Tryd.ntmps78
    go_wp2_with (go_at_call 149; refine (szInt64S_any _ _ _ _ _ h1 h2 hm).mono ?_; rintro e w' ⟨rfl, rfl⟩)
    go_ret
    exact ⟨ret_int HF.out.symm, (Below.refl _ _).alloc (Nat.le_refl _) _⟩
  · go_enter Tryd.func78, Tryd.ntmps78
    go_wp2_with (go_at_call 149; refine (szInt64S_any _ _ _ _ _ h1 h2 hm).mono ?_; rintro e w' ⟨rfl, rfl⟩)
    go_ret
    exact ⟨rfl, (Below.refl _ _).alloc (Nat.le_refl _) _⟩
theorem take_eq_of_succ {ds es : List Int} {k : Nat} (h : ds.take k = es.take k) (h1 : k < ds.length) (h2 : k < es.length) (h3 : ds[k] = es[k]) : ds.take (k + 1) = es.take (k + 1) := by
  rw [List.take_succ_eq_append_getElem h1, List.take_succ_eq_append_getElem h2, h, h3]
set_option maxHeartbeats 400000 in
theorem eqInt64S_any (A B : Option Addr) (n c m d : Nat) (ds es : List Int) (w : World) (hr : RI w A n ds) (hs : RI w B m es) (hm : n ≤ 9223372036854775807) (hm2 : m ≤ 9223372036854775807) :
    Calls Tryd.prog 166 #[.slice A n c, .slice B m d] w fun e w' => e = .returned (.bool (decide (ds = es))) ∧ ∃ q, w' = w.drewN q := by
  have HL := Lib.hid hr.1
  have HM := Lib.hid hs.1
  by_cases hnm : n = m
  · subst hnm
    go_enter Tryd.func166, Tryd.ntmps166
    go_wp2
    go_loopw [5] (fun i wr => ∃ k : Nat, k ≤ n ∧ i = .int .i64 k ∧ ds.take k = es.take k ∧ ∃ q, wr = w.drewN q) (fun i _ => n - (intOf i).toNat)
    case atStart => exact ⟨0, Nat.zero_le _, rfl, by simp, 0, rfl⟩
    case round =>
      obtain ⟨k, hk, rfl, hdg, q, rfl⟩ := hrel
      have HD := Lib.hid hdg; clear hdg
      by_cases hkn : k < n
      · obtain ⟨ad, hA, hlt, hkl, hc⟩ := hr.at_ hkn
        obtain ⟨ad2, hB, hlt2, hkl2, hc2⟩ := hs.at_ hkn
        subst hA; subst hB
        have hi0 : (0 : Int) ≤ (k : Int) := by omega
        have hi1 : (k : Int) < (n : Int) := by omega
        rcases hd : (ds[k] != es[k]) with _ | _
        · go_wp2
          go_quiet (fail)
          go_wp2
          have he : ds[k] = es[k] := by simpa using hd
          have HE := Lib.hid he; clear he
          go_roundw
          case rel => exact ⟨k + 1, by omega, by go_num, take_eq_of_succ HD.out hkl hkl2 HE.out, by first | exact ⟨_, rfl⟩ | exact ⟨_, World.drewN_drewN _ _ _⟩⟩
          case measure => simp [intOf]; omega
        · go_wp2
          go_quiet (fail)
          go_wp2
          go_ret
          refine ⟨ret_bool ?_, by first | exact ⟨_, rfl⟩ | exact ⟨_, World.drewN_drewN _ _ _⟩⟩
          have : ds ≠ es := by rintro rfl; simp at hd
          simp [this]
      · have HF : Hid (ds = es) := by
          have := HD.out
          rwa [List.take_of_length_le (by have := HL.out; omega), List.take_of_length_le (by have := HM.out; omega)] at this
        go_wp2
        go_ret
        exact ⟨ret_bool (by simp [HF.out]), q, rfl⟩
  · have HF : Hid (ds ≠ es) := by rintro rfl; exact hnm (hr.1.symm.trans hs.1)
    go_enter Tryd.func166, Tryd.ntmps166
    go_wp2
    go_ret
    exact ⟨ret_bool (by simp [HF.out]), 0, rfl⟩
theorem bcellB {B : Nat} {W w1 : World} (hb : Below B W w1) : (∀ b o, b < B → w1.cell? ⟨b, o, none⟩ = W.cell? ⟨b, o, none⟩) ∧ (∀ b o, b < B → w1.frozen? ⟨b, o, none⟩ = W.frozen? ⟨b, o, none⟩) :=
  ⟨fun b o h => hb.cell (p := ⟨b, o, none⟩) h, fun b o h => hb.frozen (p := ⟨b, o, none⟩) h⟩
theorem bcell {W w1 : World} (hb : Below W.heap.size W w1) : (∀ b o, b < W.heap.size → w1.cell? ⟨b, o, none⟩ = W.cell? ⟨b, o, none⟩) ∧ (∀ b o, b < W.heap.size → w1.frozen? ⟨b, o, none⟩ = W.frozen? ⟨b, o, none⟩) :=
  ⟨fun b o h => hb.cell (p := ⟨b, o, none⟩) h, fun b o h => hb.frozen (p := ⟨b, o, none⟩) h⟩
theorem OwnI.setBelow {w : World} {base : Nat} {v : Value} {ds : List Int} (h : OwnI w base v ds) {a : Addr} (ha : a.block < base) (u : Value) : OwnI (w.setCell a u) base v ds := ownsRow_setCell_below h ha u
theorem set_fill (xs : List Value) (n k : Nat) (z u : Value) (h : k < n) (hl : xs.length = k) : (xs ++ List.replicate (n - k) z).set k u = (xs ++ [u]) ++ List.replicate (n - (k + 1)) z := by
  obtain ⟨m, hm⟩ : ∃ m, n - k = m + 1 := ⟨n - k - 1, by omega⟩
  rw [List.set_append_right _ _ (by omega), hm, hl, Nat.sub_self, List.replicate_succ, List.set_cons_zero, show n - (k + 1) = m by omega]; simp
theorem madeI (n : Nat) : (madeCells (Value.int .i64 0).cells (n * 1)).toList = List.replicate n (.int .i64 0) := by
  rw [Nat.mul_one]; exact toList_madeCells_one _ n
set_option maxHeartbeats 400000 in
theorem toInt64S_any (A : Option Addr) (n c : Nat) (ds : List Int) (w : World) (hr : RI w A n ds) (hm : n ≤ 1048576) :
    Calls Tryd.prog 157 #[.slice A n c] w fun e w' => ∃ A' c', e = .returned (.slice A' n c') ∧ OwnI w' w.heap.size (.slice A' n c') ds ∧ Below w.heap.size w w' := by
  have HL := Lib.hid hr.1
  obtain ⟨i0, hi, hz0, hz1, hz2⟩ := info_parts info_i64
  go_enter Tryd.func157, Tryd.ntmps157
  go_wp2_with (at_make; refine wpList_make_full _ rfl _ _ 29 rfl w.heap.size 2 i0 _ 1 Tryd.underlying29 hi hz0 hz1 _ _ _ _ n rfl rfl rfl rfl (by rw [hz2]; omega) (by unfold maxLen; omega) (Nat.le_refl _) ?_; intro w1 hown1 hg1)
  rw [madeI] at hown1
  have hb1 : Below w.heap.size w w1 := (Below.refl _ _).grown hg1 (Nat.le_refl _) (by simp)
  clear hg1
  go_loopw [4] (fun i wr => ∃ k : Nat, k ≤ n ∧ i = .int .i64 k ∧ wr.ownsRow w.heap.size 2 1 (.slice (some ⟨w.heap.size, 0, none⟩) n n) n ((ds.take k).map (Value.int .i64) ++ List.replicate (n - k) (.int .i64 0)) ∧ Below w.heap.size w wr) (fun i _ => n - (intOf i).toNat)
  case atStart => exact ⟨0, Nat.zero_le _, rfl, by simpa using hown1, hb1⟩
  case round =>
    obtain ⟨k, hk, rfl, hown, hbr⟩ := hrel
    by_cases hkn : k < n
    · obtain ⟨ad, hA, hlt, hkl, hc⟩ := hr.at_ hkn
      rw [← hbr.cell (by rw [block_of_add]; exact hlt)] at hc
      subst hA
      obtain ⟨u, hu⟩ : ∃ u, ((ds.take k).map (Value.int .i64) ++ List.replicate (n - k) (.int .i64 0))[k]? = some u := ⟨_, List.getElem?_eq_getElem (by rw [hown.1]; omega)⟩
      have hcell := (hown.cellAt k (by omega)).trans hu
      clear hu
      have hfz := hown.frozenAt k
      have hst := Lib.hid (hown.stored k (.int .i64 ds[k])).1
      have HE : Hid (((ds.take k).map (Value.int .i64) ++ List.replicate (n - k) (Value.int .i64 0)).set k (Value.int .i64 ds[k]) = (ds.take (k + 1)).map (Value.int .i64) ++ List.replicate (n - (k + 1)) (Value.int .i64 0)) := by
        have h1 : ((ds.take k).map (Value.int .i64)).length = k := by rw [List.length_map, List.length_take_of_le (by omega)]
        simp only [Hid]; rw [set_fill _ _ _ _ _ hkn h1, List.take_succ_eq_append_getElem hkl, List.map_append]; rfl
      clear hown
      go_wp2
      go_roundw
      case rel => exact ⟨k + 1, by omega, by go_num, by rw [← HE.out]; exact hst.out, hbr.setCell (Nat.le_refl _) _⟩
      case measure => simp [intOf]; omega
    · have HK : Hid (k = n) := by simp only [Hid]; omega
      go_wp2
      go_ret
      refine ⟨_, _, rfl, ?_, hbr⟩
      rw [HK.out, List.take_of_length_le (by have := HL.out; omega)] at hown
      unfold OwnI
      rw [HL.out]
      simpa using hown
set_option maxHeartbeats 400000 in
theorem toRegister_any (b : Int) (A : Option Addr) (n c : Nat) (ds : List Int) (w : World) (hr : RI w A n ds) (hm : n ≤ 1048576) :
    Calls Tryd.prog 84 #[.agg #[.int .i64 b, .slice A n c]] w fun e w' => ∃ A' c', e = .returned (.agg #[.int .i64 b, .slice A' n c']) ∧ OwnI w' w.heap.size (.slice A' n c') ds ∧ Below w.heap.size w w' := by
  go_enter Tryd.func84, Tryd.ntmps84
  have hb0 : Below w.heap.size w (((w.alloc (.cells #[.int .i64 b, .slice A n c] 31)).alloc (.cells #[.int .i64 0, .slice none 0 0] 35)).alloc (.cells #[.int .i64 b, .slice none 0 0] 35)) := (((Below.refl _ _).alloc (Nat.le_refl _) _).alloc (by simp) _).alloc (by simp <;> omega) _
  have hr' := hr.below hb0
  go_wp2_with (go_at_call 157; refine (toInt64S_any _ _ _ ds _ hr' hm).mono ?_; rintro e w1 ⟨A', c', rfl, hov, hbw⟩; obtain ⟨hcc, hff⟩ := bcell hbw; have hz : w.heap.size + 3 ≤ w1.heap.size := by have := hbw.size; simp at this; omega)
  refine bodyPost_ret (v := .agg #[.int .i64 b, .slice A' n c']) (by simp [results, Tryd.results84, go_sem, hcc]) rfl ⟨_, _, rfl, ?_, ?_⟩
  · exact (((hov.setBelow (by simp <;> omega) _).setBelow (by simp <;> omega) _).setBelow (by simp <;> omega) _).mono (by simp <;> omega)
  · exact (((hb0.trans (hbw.mono (by simp <;> omega))).setCell (by simp <;> omega) _).setCell (by simp) _).setCell (by simp) _
set_option maxHeartbeats 400000 in
theorem eqRegister_any (b b' : Int) (A B : Option Addr) (n c m d : Nat) (ds es : List Int) (w : World) (hr : RI w A n ds) (hs : RI w B m es) (hm : n ≤ 9223372036854775807) (hm2 : m ≤ 9223372036854775807) :
    Calls Tryd.prog 90 #[.agg #[.int .i64 b, .slice A n c], .agg #[.int .i64 b', .slice B m d]] w fun e w' => e = .returned (.bool (decide (b = b' ∧ ds = es))) ∧ Below w.heap.size w w' := by
  have hb0 : Below w.heap.size w ((w.alloc (.cells #[.int .i64 b, .slice A n c] 35)).alloc (.cells #[.int .i64 b', .slice B m d] 35)) := ((Below.refl _ _).alloc (Nat.le_refl _) _).alloc (by simp) _
  have hr' := hr.below hb0
  have hs' := hs.below hb0
  rcases hd : (b != b') with _ | _
  · have HF : Hid (decide (b = b' ∧ ds = es) = decide (ds = es)) := by
      have : b = b' := by simpa using hd
      simp [Hid, this]
    go_enter Tryd.func90, Tryd.ntmps90
    go_wp2_with (go_at_call 166; refine (eqInt64S_any _ _ _ _ _ _ ds es _ hr' hs' hm hm2).mono ?_; rintro e w' ⟨rfl, q, rfl⟩; rcases he : decide (ds = es) with _ | _)
    all_goals
      go_ret
      exact ⟨ret_bool (by rw [HF.out, he]), below_drewN hb0 _⟩
  · have HF : Hid (decide (b = b' ∧ ds = es) = false) := by
      have : b ≠ b' := by simpa using hd
      simp [Hid, this]
    go_enter Tryd.func90, Tryd.ntmps90
    go_wp2
    go_ret
    exact ⟨ret_bool HF.out.symm, hb0⟩
end Go.Proofs.YtcapccadpbiecaaDoor

namespace Go.Proofs.YtcapccadpbiecaaDoor
open Go.RowKit
def lft3 (left n1 n2 n3 : Int) : Int := if lft left n1 < 0 then -1 else if lft (lft left n1) n2 < 0 then -1 else lft (lft (lft left n1) n2) n3
end Go.Proofs.YtcapccadpbiecaaDoor

namespace Go.Proofs.YtcapccadpbiecaaDoor
open Go.RowKit
structure Reg where
  base : Int
  digits : List Int
structure Tri where
  a : Reg
  b : Reg
  s : Reg
  carry : Int
instance : Inhabited Reg := ⟨⟨0, []⟩⟩
instance : Inhabited Tri := ⟨⟨default, default, default, 0⟩⟩
def Reg.ok (r : Reg) : Bool := vreg r.base r.digits
/-- a register in memory -/
def RegM (w : World) (p : Addr) (r : Reg) : Prop := ∃ A c, RegAt w p r.base A r.digits.length c ∧ RI w A r.digits.length r.digits
def TriM (w : World) (p : Addr) (t : Tri) : Prop := RegM w p t.a ∧ RegM w ⟨p.block, p.off + 2, none⟩ t.b ∧ RegM w ⟨p.block, p.off + 4, none⟩ t.s ∧ w.cell? ⟨p.block, p.off + 6, none⟩ = some (.int .i64 t.carry)
/-- a slice whose elements of sz cells lie as E says -/
def RL {α : Type} (E : World → Addr → α → Prop) (sz : Nat) (w : World) (A : Option Addr) (n : Nat) (xs : List α) : Prop :=
  xs.length = n ∧ (0 < n → ∃ ad, A = some ad ∧ ad.block < w.heap.size ∧ ∀ (k : Nat) (h : k < xs.length), E w (ad.add (k * sz)) xs[k])
def Steady {α : Type} (E : World → Addr → α → Prop) : Prop := ∀ (w w' : World) (p : Addr) (x : α), p.block < w.heap.size → Below w.heap.size w w' → E w p x → E w' p x
theorem RL.below {α : Type} {E : World → Addr → α → Prop} (hE : Steady E) {sz : Nat} {w w' : World} {A : Option Addr} {n : Nat} {xs : List α} (h : RL E sz w A n xs) (hb : Below w.heap.size w w') : RL E sz w' A n xs := by
  refine ⟨h.1, fun hn => ?_⟩
  obtain ⟨ad, e, hl, hc⟩ := h.2 hn
  exact ⟨ad, e, Nat.lt_of_lt_of_le hl hb.size, fun k hk => hE _ _ _ _ (by rw [block_of_add]; exact hl) hb (hc k hk)⟩
theorem RL.at_ {α : Type} {E : World → Addr → α → Prop} {sz : Nat} {w : World} {A : Option Addr} {n : Nat} {xs : List α} (h : RL E sz w A n xs) {k : Nat} (hk : k < n) : ∃ ad, A = some ad ∧ ad.block < w.heap.size ∧ ∃ h : k < xs.length, E w (ad.add (k * sz)) xs[k] := by
  obtain ⟨ad, e, hl, hc⟩ := h.2 (by omega)
  have : k < xs.length := by have := h.1; omega
  exact ⟨ad, e, hl, this, hc k this⟩
theorem steady_RegM : Steady RegM := by
  rintro w w' p r hp hb ⟨A, c, ⟨h1, h2⟩, h3⟩
  exact ⟨A, c, ⟨by rw [hb.cell hp]; exact h1, by rw [hb.cell (by exact hp)]; exact h2⟩, h3.below hb⟩
theorem steady_TriM : Steady TriM := by
  rintro w w' p t hp hb ⟨h1, h2, h3, h4⟩
  exact ⟨steady_RegM _ _ _ _ hp hb h1, steady_RegM _ _ _ _ (by exact hp) hb h2, steady_RegM _ _ _ _ (by exact hp) hb h3, by rw [hb.cell (by exact hp)]; exact h4⟩
def vlike (r r0 : Reg) : Bool := r.ok && r.base == r0.base && decide ((r.digits.length : Int) = r0.digits.length)
theorem chain3 (a b c : Bool) : a = false ∨ (a = true ∧ b = false) ∨ (a = true ∧ b = true ∧ c = false) ∨ (a = true ∧ b = true ∧ c = true) := by cases a <;> cases b <;> cases c <;> simp
theorem chain4 (a b c d : Bool) : a = false ∨ (a = true ∧ b = false) ∨ (a = true ∧ b = true ∧ c = false) ∨ (a = true ∧ b = true ∧ c = true ∧ d = false) ∨ (a = true ∧ b = true ∧ c = true ∧ d = true) := by cases a <;> cases b <;> cases c <;> cases d <;> simp
def SmallReg (r : Reg) : Prop := r.digits.length ≤ 9223372036854775807
theorem l02Ok_reg (p : Addr) (r : Reg) (w : World) (hp : RegM w p r) (hm : SmallReg r) (v : Bool) (hv : r.ok = v) :
    Calls Tryd.prog 150 #[.pointer (some p)] w fun e w' => e = .returned (.bool v) ∧ ∃ m, w' = w.drewN m := by
  obtain ⟨A, c, h1, h2⟩ := hp
  subst hv
  exact l02Ok_any p r.base A r.digits.length c r.digits w h1 h2 (by unfold SmallReg at hm; omega)
theorem quiet_of_ex {P : Program} {f : FuncId} {args : Array Value} {w : World} {n : Nat} {v : Value}
    (h : Calls P f args (w.drewN n) fun e w' => e = .returned v ∧ ∃ m, w' = (w.drewN n).drewN m) : Calls P f args (w.drewN n) fun e w'' => e = .returned v ∧ ∃ m, w'' = w.drewN m := Calls.quiet_of h
end Go.Proofs.YtcapccadpbiecaaDoor

namespace Go.Proofs.YtcapccadpbiecaaDoor
open Go.RowKit Go.Sort
theorem quietB {P : Program} {f : FuncId} {args : Array Value} {w : World} {d : Nat} {os : Array Obj} {v : Value}
    (h : ∀ W, Below w.heap.size w W → Calls P f args W fun e w' => e = .returned v ∧ Below W.heap.size W w') :
    Calls P f args (grow (redrawn w d) os) fun e w'' => e = .returned v ∧ ∃ p : Regrown, w'' = grow (redrawn w p.d) p.os := Calls.regrown_of (h _ (below_regrown w d os))
theorem quiet_add_ex {P : Program} {f : FuncId} {args : Array Value} {w : World} {a n : Nat} {v : Value}
    (h : Calls P f args (w.drewN (a + n)) fun e w' => e = .returned v ∧ ∃ m, w' = (w.drewN (a + n)).drewN m) :
    Calls P f args (w.drewN (a + n)) fun e w'' => e = .returned v ∧ ∃ m, w'' = w.drewN (a + m) :=
  h.mono fun _ _ ⟨he, m, hm⟩ => ⟨he, n + m, by rw [hm, World.drewN_drewN, Nat.add_assoc]⟩
def SmallTri (t : Tri) : Prop := SmallReg t.a ∧ SmallReg t.b ∧ SmallReg t.s
def triGood (r0 : Reg) (t : Tri) : Bool := vlike t.a r0 && vlike t.b r0 && vlike t.s r0 && betB t.carry 0 1
def vtrials (ts : List Tri) : Bool := ts.all (triGood (ts.headD default).a) && betB ts.length 1 60
theorem all_take_succ {α : Type} {p : α → Bool} {ds : List α} {k : Nat} (h : k < ds.length) : (ds.take (k + 1)).all p = ((ds.take k).all p && p ds[k]) := by
  rw [List.take_succ_eq_append_getElem h, List.all_append]; simp only [List.all_cons, List.all_nil, Bool.and_true]
theorem all_not {α : Type} {p : α → Bool} {ds : List α} {k : Nat} (h : k < ds.length) (h1 : p ds[k] = false) : ds.all p = false := by
  simp only [List.all_eq_false]; exact ⟨ds[k], List.getElem_mem _, by simp [h1]⟩
theorem addr_add_zero (a : Addr) : a.add 0 = a := by simp [Addr.add]
theorem headD_get {ts : List Tri} (h : 0 < ts.length) : ts.headD default = ts[0] := by cases ts with
  | nil => simp at h
  | cons t ts => rfl
end Go.Proofs.YtcapccadpbiecaaDoor

namespace Go.Proofs.YtcapccadpbiecaaDoor
open Go.RowKit Go.Sort
theorem TriM.cells {w : World} {p : Addr} {t : Tri} (h : TriM w p t) : ∃ A1 c1 A2 c2 A3 c3, (w.cell? p = some (.int .i64 t.a.base) ∧ w.cell? ⟨p.block, p.off + 1, none⟩ = some (.slice A1 t.a.digits.length c1) ∧ w.cell? ⟨p.block, p.off + 2, none⟩ = some (.int .i64 t.b.base) ∧ w.cell? ⟨p.block, p.off + 3, none⟩ = some (.slice A2 t.b.digits.length c2) ∧
    w.cell? ⟨p.block, p.off + 4, none⟩ = some (.int .i64 t.s.base) ∧ w.cell? ⟨p.block, p.off + 5, none⟩ = some (.slice A3 t.s.digits.length c3) ∧ w.cell? ⟨p.block, p.off + 6, none⟩ = some (.int .i64 t.carry)) ∧
    RI w A1 t.a.digits.length t.a.digits ∧ RI w A2 t.b.digits.length t.b.digits ∧ RI w A3 t.s.digits.length t.s.digits := by
  obtain ⟨⟨A1, c1, ⟨h1, h2⟩, r1⟩, ⟨A2, c2, ⟨h3, h4⟩, r2⟩, ⟨A3, c3, ⟨h5, h6⟩, r3⟩, h7⟩ := h
  exact ⟨A1, c1, A2, c2, A3, c3, ⟨h1, h2, h3, h4, h5, h6, h7⟩, r1, r2, r3⟩
theorem width_any (b : Int) (A : Option Addr) (n c : Nat) (w : World) :
    Calls Tryd.prog 123 #[.agg #[.int .i64 b, .slice A n c]] w fun e w' => e = .returned (.int .i64 n) ∧ Below w.heap.size w w' := by
  go_enter Tryd.func123, Tryd.ntmps123
  go_wp2
  go_ret
  exact ⟨rfl, (Below.refl _ _).alloc (Nat.le_refl _) _⟩
end Go.Proofs.YtcapccadpbiecaaDoor

namespace Go.Proofs.YtcapccadpbiecaaDoor
open Go.RowKit Go.Sort
/-- a register under construction in block G -/
def SumAt (w : World) (G : Nat) (base : Int) (v : Value) (ds : List Int) : Prop := w.heap[G]? = some (.cells #[.int .i64 base, v] 35 (0, 0)) ∧ OwnI w (G + 1) v ds
theorem own_ne {w : World} {G : Nat} {v : Value} {ds : List Int} (h : OwnI w (G + 1) v ds) : ∀ k, v.ownBlock = some k → G + 1 ≤ k := by
  intro k hk
  rcases h.2 with ⟨rfl, _⟩ | ⟨g, cap, cur, rfl, hbg, _⟩
  · simp [Value.ownBlock] at hk
  · have : g = k := by simpa [Value.ownBlock] using hk
    omega
theorem SumAt.lt {w : World} {G : Nat} {base : Int} {v : Value} {ds : List Int} (h : SumAt w G base v ds) : G < w.heap.size := (Array.getElem?_eq_some_iff.1 h.1).1
theorem SumAt.far {w w1 : World} {G : Nat} {base : Int} {v : Value} {ds : List Int} {o : Obj} (h : SumAt w G base v ds) (hg : (w.alloc o).grownBy w1 v.ownBlock) :
    w1.heap[G]? = some (.cells #[.int .i64 base, v] 35 (0, 0)) ∧ w1.cell? ⟨G, 0, none⟩ = some (.int .i64 base) ∧ w1.cell? ⟨G, 1, none⟩ = some v ∧ w1.frozen? ⟨G, 1, none⟩ = false := by
  have h1 : w1.heap[G]? = some (.cells #[.int .i64 base, v] 35 (0, 0)) := by
    rw [hg.block G (by simp; have := h.lt; omega) (fun e => by have := own_ne h.2 G e.symm; omega), heap_alloc_old _ _ h.lt]; exact h.1
  exact ⟨h1, by rw [cell_of_row _ _ _ _ _ _ h1]; rfl, by rw [cell_of_row _ _ _ _ _ _ h1]; rfl, frozen_of_row _ _ _ _ _ h1⟩
theorem SumAt.cells {w : World} {G : Nat} {base : Int} {v : Value} {ds : List Int} (h : SumAt w G base v ds) : w.cell? ⟨G, 0, none⟩ = some (.int .i64 base) ∧ w.cell? ⟨G, 1, none⟩ = some v ∧ w.frozen? ⟨G, 1, none⟩ = false :=
  ⟨by rw [cell_of_row _ _ _ _ _ _ h.1]; rfl, by rw [cell_of_row _ _ _ _ _ _ h.1]; rfl, frozen_of_row _ _ _ _ _ h.1⟩
theorem SumAt.step {w w1 : World} {G : Nat} {base x : Int} {v v' : Value} {ds : List Int} {o : Obj} (h : SumAt w G base v ds) (hg : (w.alloc o).grownBy w1 v.ownBlock)
    (ho : w1.ownsRow (G + 1) 2 1 v' (ds.length + 1) (ds.map (Value.int .i64) ++ [.int .i64 x])) :
    SumAt (w1.setCell ⟨G, 1, none⟩ v') G base v' (ds ++ [x]) ∧ ∀ B, B ≤ G → Below B w (w1.setCell ⟨G, 1, none⟩ v') := by
  have hlt := h.lt
  refine ⟨⟨?_, ?_⟩, fun B hB => ?_⟩
  · rw [heap_setCell_same _ _ _ _ _ _ (h.far hg).1]; rfl
  · refine OwnI.setBelow ?_ (by simp) v'
    unfold OwnI; simpa using ho
  · refine Below.setCell ?_ (by exact hB) _
    exact ((Below.refl _ _).alloc (by omega) _).grown hg (by simp; omega) (fun k hk => by have := own_ne h.2 k hk; omega)
theorem OwnI.ri {w : World} {base n c : Nat} {A : Option Addr} {ds : List Int} (h : OwnI w base (.slice A n c) ds) : RI w A n ds := by
  obtain ⟨A', c', h1, h2, -⟩ := h.reads
  injection h1 with h1 h3 h4
  rw [h1, h3]; exact h2
theorem wrapI64 {n : Int} (h : -9223372036854775808 ≤ n ∧ n ≤ 9223372036854775807) : IntKind.i64.wrap n = n := by
  rw [IntKind.wrap_i64]; omega
theorem getD_of {ds : List Int} {k : Nat} (h : k < ds.length) : ds.getD k 0 = ds[k] := by simp [List.getD, List.getElem?_eq_getElem h]
end Go.Proofs.YtcapccadpbiecaaDoor

namespace Go.Proofs.YtcapccadpbiecaaDoor
open Go.RowKit Go.Sort
/-- a row of int64 that the call owns -/
def rowI (A : Option Addr) (c : Nat) (ds : List Int) : Ent := .row (.slice A ds.length c) 2 1 ds.length (ds.map (Value.int .i64))
def zTri : Tri := ⟨⟨0, []⟩, ⟨0, []⟩, ⟨0, []⟩, 0⟩
theorem row_form {w : World} {b : Nat} {e : TypeId} {size n : Nat} {v : Value} {xs : List Value} (h : w.ownsRow b e size v n xs) : ∃ A c, v = .slice A n c := by
  rcases h.2 with ⟨rfl, h2⟩ | ⟨g, cap, cur, rfl, -⟩
  · exact ⟨none, 0, by rw [h2]⟩
  · exact ⟨_, _, rfl⟩
theorem Kn.riv {w0 w : World} {m : List Ent} {A : Option Addr} {c : Nat} {ds : List Int} (h : Kn w0 (rowI A c ds :: m) w) : RI w A ds.length ds := (Kn.ownI h).ri
theorem kn_pushI {ops : Array Oper} {rest : List Oper} {o : Oper} {a : Act} {Q : Exit → Act → World → Prop} {w0 w : World} {m : List Ent} (hgd : o.guard = none) (s x : Operand) (ho : o.op = .call { callee := .builtin .append, args := #[s, x], argTypes := #[29, 29] })
    (v : Value) (ds : List Int) (hs : a.eval s = v) {g c : Nat} {T' : TypeId} {z : Int} (hx : a.eval x = .slice (some ⟨g, 0, none⟩) 1 c)
    (hK : Kn w0 (.blk g [.int .i64 z] T' :: .row v 2 1 ds.length (ds.map (Value.int .i64)) :: m) w) (hl : ds.length ≤ 10000000)
    (h : ∀ v' w', Kn w0 (.row v' 2 1 (ds ++ [z]).length ((ds ++ [z]).map (Value.int .i64)) :: m) w' → wpList Tryd.prog ops Q rest (a.put o.dst v') w') : wpList Tryd.prog ops Q (o :: rest) a w := by
  refine kn_app tpI hgd s x ho v ds.length (ds.map (Value.int .i64)) hs hx hK rfl (by simp [Value.oneCell']) (by omega) (by omega) (fun v' w' hK' => h v' w' ?_)
  rw [List.length_append, List.map_append, List.map_cons, List.map_nil]
  exact hK'
theorem kn_stepI {ops : Array Oper} {o : Oper} {a : Act} {Q : Exit → Act → World → Prop} {w0 w : World} {m : List Ent} {K : Act → World → Prop} {E : Prop} (hgd : o.guard = none) (s x : Operand) (ho : o.op = .call { callee := .builtin .append, args := #[s, x], argTypes := #[29, 29] })
    (v : Value) (ds : List Int) (hs : a.eval s = v) {g c : Nat} {T' : TypeId} {z : Int} (hx : a.eval x = .slice (some ⟨g, 0, none⟩) 1 c)
    (hK : Kn w0 (.blk g [.int .i64 z] T' :: .row v 2 1 ds.length (ds.map (Value.int .i64)) :: m) w) (hl : ds.length ≤ 10000000)
    (h : ∀ v' w', Kn w0 (.row v' 2 1 (ds ++ [z]).length ((ds ++ [z]).map (Value.int .i64)) :: m) w' → K (a.put o.dst v') w') : if Region.wanted o (yielded ops a.tmps) = true then Oper.wp Tryd.prog o a w K Q else E := by
  refine kn_step_app tpI hgd s x ho v ds.length (ds.map (Value.int .i64)) hs hx hK rfl (by simp [Value.oneCell']) (by omega) (by omega) (fun v' w' hK' => h v' w' ?_)
  rw [List.length_append, List.map_append, List.map_cons, List.map_nil]
  exact hK'
end Go.Proofs.YtcapccadpbiecaaDoor

namespace Go.Proofs.YtcapccadpbiecaaDoor
open Go.RowKit Go.Sort
/-- the bytes of a string -/
def strB (s : ByteArray) : List UInt8 := s.data.toList
theorem strB_len (s : ByteArray) : (strB s).length = s.size := by simp [strB]
theorem strB_get (s : ByteArray) {k : Nat} (h : k < s.size) : s[k] = (strB s)[k]'(by rw [strB_len]; exact h) := by
  simp [strB]
  rfl
theorem strB_mk (bs : List UInt8) : strB ⟨bs.toArray⟩ = bs := by simp [strB]
theorem size_mk (bs : List UInt8) : (⟨bs.toArray⟩ : ByteArray).size = bs.length := by simp [ByteArray.size]
theorem strB_drop (s : ByteArray) (k : Nat) : strB (s.extract k s.size) = (strB s).drop k := by
  have h : (s.extract k s.size).data = s.data.extract k s.size := by simp
  unfold strB
  rw [h, Array.toList_extract, List.extract_eq_take_drop]
  rw [List.take_of_length_le]
  rw [List.length_drop, Array.length_toList]
  exact Nat.le_refl _
theorem size_zero {s : ByteArray} (h : s.size = 0) : s = ⟨#[]⟩ := by
  cases s with
  | mk a =>
    congr 1
    exact Array.eq_empty_of_size_eq_zero h
theorem str_nonempty {s : ByteArray} (h : 0 < s.size) : s.toList.isEmpty = false := by
  rw [ByteArray.toList_eq]
  cases he : s.data.toList with
  | nil =>
    have : s.data.toList.length = 0 := by rw [he]; rfl
    have h2 : s.data.toList.length = s.size := by rw [Array.length_toList]; rfl
    omega
  | cons a l => rfl
theorem strB_cons {s : ByteArray} (h : 0 < s.size) : strB s = s[0] :: (strB s).drop 1 := by
  have h1 : 0 < (strB s).length := by rw [strB_len]; exact h
  have h2 := strB_get s h
  rw [h2]
  have h3 := List.drop_eq_getElem_cons (l := strB s) (i := 0) h1
  simpa using h3
theorem strB_nil {s : ByteArray} (h : s.size = 0) : strB s = [] := by
  apply List.eq_nil_of_length_eq_zero; rw [strB_len]; exact h
theorem str_eq {s : ByteArray} {bs : List UInt8} : (⟨bs.toArray⟩ : ByteArray) = s ↔ bs = strB s := by
  constructor
  · intro h; rw [← h]; simp [strB]
  · intro h; rw [h]; cases s; simp [strB]
theorem strB_toList (s : ByteArray) : s.toList = strB s := by rw [ByteArray.toList_eq]; rfl
theorem strB_tail {s : ByteArray} : strB (s.extract 1 s.size) = (strB s).drop 1 := strB_drop s 1
theorem extract_size (s : ByteArray) (k : Nat) : (s.extract k s.size).size = s.size - k := by simp [ByteArray.size_extract]
theorem strB_extract (s : ByteArray) (i j : Nat) : strB (s.extract i j) = ((strB s).drop i).take (j - i) := by
  have h : (s.extract i j).data = s.data.extract i j := by simp
  unfold strB
  rw [h, Array.toList_extract, List.extract_eq_take_drop]
theorem strB_getD (s : ByteArray) {k : Nat} (h : k < s.size) : (strB s).getD k 0 = s[k] := by
  rw [strB_get s h]; simp [List.getD, List.getElem?_eq_getElem (show k < (strB s).length by rw [strB_len]; exact h)]
theorem wrapI {n : Int} (h : -9223372036854775808 ≤ n ∧ n ≤ 9223372036854775807) : IntKind.i64.wrap n = n := by
  rw [IntKind.wrap_i64]; omega
theorem wrapB {n : Int} (h : 0 ≤ n ∧ n < 256) : IntKind.u8.wrap n = n := by
  simp [IntKind.wrap, IntKind.bits, IntKind.signed]; omega
theorem wrap64_of {n : Int} (h : -9223372036854775808 ≤ n ∧ n ≤ 9223372036854775807) : wrap64 n = n := by unfold wrap64; omega
end Go.Proofs.YtcapccadpbiecaaDoor

namespace Go.Proofs.YtcapccadpbiecaaDoor
open Go.RowKit Go.Sort
theorem tpS : TP 22 9 (.string ⟨#[]⟩) 1 16 := ⟨Tryd.underlying22, by kernel_rfl, rfl, by decide⟩
/-- a row of strings that is owned -/
def rowS (v : Value) (ss : List ByteArray) : Ent := .row v 9 1 ss.length (ss.map Value.string)
theorem Kn.rowS_at {w0 w : World} {m : List Ent} {A : Option Addr} {n c : Nat} {ss : List ByteArray} (h : Kn w0 (rowS (.slice A n c) ss :: m) w) {k : Nat} (hk : k < ss.length) :
    n = ss.length ∧ ∃ g, A = some ⟨g, 0, none⟩ ∧ w.cell? ⟨g, k, none⟩ = some (.string ss[k]) ∧ w0.heap.size ≤ g ∧ g < w.heap.size := by
  have h0 : w.ownsRow 0 9 1 (.slice A n c) ss.length (ss.map Value.string) := h.at0
  rcases h0.2 with ⟨hv, hn⟩ | ⟨g, cap, cur, hv, -, hg, -⟩
  · omega
  · injection hv with h1 h2 h3
    rw [h1] at h0
    have d1 := h0.cells (g := g) rfl k (.string ss[k]) (by simp [hk])
    rw [add_zero_block] at d1
    exact ⟨h2, g, h1, d1, h.own _ (List.mem_cons_self ..) g (by rw [h1]; rfl), (Array.getElem?_eq_some_iff.1 hg).1⟩
theorem kn_pushS {ops : Array Oper} {rest : List Oper} {o : Oper} {a : Act} {Q : Exit → Act → World → Prop} {w0 w : World} {m : List Ent} (hgd : o.guard = none) (s x : Operand) (ho : o.op = .call { callee := .builtin .append, args := #[s, x], argTypes := #[22, 22] })
    (v : Value) (ss : List ByteArray) (hs : a.eval s = v) {g c : Nat} {T' : TypeId} {z : ByteArray} (hx : a.eval x = .slice (some ⟨g, 0, none⟩) 1 c)
    (hK : Kn w0 (.blk g [.string z] T' :: rowS v ss :: m) w) (hl : ss.length ≤ 10000000)
    (h : ∀ v' w', Kn w0 (rowS v' (ss ++ [z]) :: m) w' → wpList Tryd.prog ops Q rest (a.put o.dst v') w') : wpList Tryd.prog ops Q (o :: rest) a w := by
  refine kn_app tpS hgd s x ho v ss.length (ss.map Value.string) hs hx hK rfl (by simp [Value.oneCell']) (by omega) (by omega) (fun v' w' hK' => h v' w' ?_)
  unfold rowS
  rw [List.length_append, List.map_append, List.map_cons, List.map_nil]
  exact hK'
/-- the parts of bytes between bytes -/
def splitB (k : Nat) : List UInt8 → List (List UInt8)
  | [] => [[]]
  | b :: tl => if b.toNat = k then [] :: splitB k tl else match splitB k tl with
    | [] => [[b]]
    | h :: t => (b :: h) :: t
def glue (p : List UInt8) : List (List UInt8) → List (List UInt8)
  | [] => [p]
  | h :: t => (p ++ h) :: t
theorem splitB_ne (k : Nat) (bs : List UInt8) : splitB k bs ≠ [] := by
  cases bs with
  | nil => simp [splitB]
  | cons b tl =>
    simp only [splitB]
    split
    · simp
    · split <;> simp
theorem glue_nil (l : List (List UInt8)) (h : l ≠ []) : glue [] l = l := by
  cases l with
  | nil => exact absurd rfl h
  | cons a t => rfl
theorem splitB_cons (k : Nat) (b : UInt8) (tl : List UInt8) : splitB k (b :: tl) = if b.toNat = k then [] :: splitB k tl else glue [b] (splitB k tl) := by
  simp only [splitB]
  split
  · rfl
  · cases splitB k tl <;> rfl
theorem glue_glue (p : List UInt8) (b : UInt8) (l : List (List UInt8)) : glue p (glue [b] l) = glue (p ++ [b]) l := by cases l <;> simp [glue]
theorem splitB_len (k : Nat) (bs : List UInt8) : (splitB k bs).length ≤ bs.length + 1 := by
  induction bs with
  | nil => simp [splitB]
  | cons b tl ih =>
    rw [splitB_cons]
    split
    · simp; omega
    · cases h : splitB k tl with
      | nil => simp [glue]
      | cons a t => rw [h] at ih; simp [glue] at ih ⊢; omega
theorem take_piece {bs : List UInt8} {f i : Nat} (h : i < bs.length) (hf : f ≤ i) : (bs.drop f).take (i + 1 - f) = (bs.drop f).take (i - f) ++ [bs[i]] := by
  rw [show i + 1 - f = (i - f) + 1 by omega, List.take_succ_eq_append_getElem (by rw [List.length_drop]; omega)]
  congr 2
  rw [List.getElem_drop]
  congr 1; omega
set_option maxRecDepth 100000 in
set_option maxHeartbeats 1600000 in
theorem l01Split_any (s : ByteArray) (kd : UInt8) (w : World) (hs : s.size ≤ 1048576) :
    Calls Tryd.prog 195 #[.string s, .int .u8 (kd.toNat : Int)] w fun e w' => ∃ A c ss, e = .returned (.slice A ss.length c) ∧ ss.map strB = splitB kd.toNat (strB s) ∧ Kn w [rowS (.slice A ss.length c) ss] w' := by
  have HSL := Lib.hid (strB_len s)
  obtain ⟨kn, hkn⟩ : ∃ k : Nat, kd.toNat = k := ⟨_, rfl⟩
  rw [hkn]
  clear hkn
  go_enter Tryd.func195, Tryd.ntmps195
  have hK0 := ((Kn.nil w).al [] 9).litRow (n := 0) (size := 1) rfl (by decide)
  go_wp2_with fail
  go_loopw [5, 6, 7] (fun vv ff ii wr => ∃ (f i : Nat) (ss : List ByteArray), f ≤ i ∧ i ≤ s.size ∧ ff = .int .i64 f ∧ ii = .int .i64 i ∧ ss.length ≤ i ∧
    splitB kn (strB s) = ss.map strB ++ glue (((strB s).drop f).take (i - f)) (splitB kn ((strB s).drop i)) ∧ Kn w [rowS vv ss] wr) (fun _ _ i _ => s.size - (intOf i).toNat)
  case atStart => exact ⟨0, 0, [], by omega, by omega, rfl, rfl, by simp, by simp [glue_nil _ (splitB_ne _ _)], hK0⟩
  case round =>
    rename_i vv _ _
    obtain ⟨f, i, ss, hf, hi, rfl, rfl, hsl, hsp, hK⟩ := hrel
    have HSP := Lib.hid hsp
    clear hsp hK0
    have i0 : (0 : Int) ≤ (i : Int) := by omega
    have f0 : (0 : Int) ≤ (f : Int) := by omega
    have f1 : (f : Int) ≤ (i : Int) := by omega
    have f2 : (f : Int) ≤ (s.size : Int) := by omega
    have i2 : (i : Int) ≤ (s.size : Int) := by omega
    by_cases hlt : i < s.size
    · obtain ⟨q, hq⟩ : ∃ q : UInt8, s[i] = q := ⟨_, rfl⟩
      obtain ⟨z, hz⟩ : ∃ z : Nat, q.toNat = z := ⟨_, rfl⟩
      have hil : i < (strB s).length := by rw [HSL.out]; exact hlt
      have hg : (strB s)[i] = q := by rw [← hq, strB_get s hlt]
      have hdr : (strB s).drop i = q :: (strB s).drop (i + 1) := by rw [List.drop_eq_getElem_cons hil, hg]
      have i1 : (i : Int) < (s.size : Int) := by omega
      have HS2 := Lib.hid (show splitB kn ((strB s).drop i) = if z = kn then [] :: splitB kn ((strB s).drop (i + 1)) else glue [q] (splitB kn ((strB s).drop (i + 1))) by rw [hdr, splitB_cons, hz])
      have HP := Lib.hid (take_piece (f := f) hil hf)
      rw [hg] at HP
      clear hdr hg
      by_cases hzk : z = kn
      · have k1 : ((z : Int) == (kn : Int)) = true := by rw [beq_iff_eq]; omega
        have k2 : (z : Int) = (kn : Int) := by omega
        have HS3 : Hid (splitB kn (strB s) = (ss ++ [s.extract f i]).map strB ++ glue [] (splitB kn ((strB s).drop (i + 1)))) := by
          simp only [Hid]
          rw [HSP.out, HS2.out, if_pos hzk, glue_nil _ (splitB_ne _ _), List.map_append, List.map_cons, List.map_nil, strB_extract]
          simp [glue]
        clear hzk k2
        go_wp2_with (at_builtin; refine kn_pushS rfl _ _ rfl _ ss rfl rfl (hK.al [.string (s.extract f i)] 9) (by omega) ?_; intro v5 w6 hK4)
        go_roundw
        case rel => exact ⟨i + 1, i + 1, ss ++ [s.extract f i], by omega, by omega, by go_num, by go_num, by rw [List.length_append]; simp; omega, by rw [Nat.sub_self, List.take_zero]; exact HS3.out, hK4⟩
        case measure => simp [intOf]; omega
      · have k1 : ((z : Int) == (kn : Int)) = false := by rw [beq_eq_false_iff_ne]; omega
        have HS3 : Hid (splitB kn (strB s) = ss.map strB ++ glue (((strB s).drop f).take (i + 1 - f)) (splitB kn ((strB s).drop (i + 1)))) := by
          simp only [Hid]
          rw [HSP.out, HS2.out, if_neg hzk, glue_glue, HP.out]
        clear hzk
        go_wp2_with fail
        go_roundw
        case rel => exact ⟨f, i + 1, ss, by omega, by omega, rfl, by go_num, by omega, HS3.out, hK⟩
        case measure => simp [intOf]; omega
    · have i1 : ¬ (i : Int) < (s.size : Int) := by omega
      have HS3 : Hid ((ss ++ [s.extract f s.size]).map strB = splitB kn (strB s)) := by
        simp only [Hid]
        rw [HSP.out, List.drop_of_length_le (show (strB s).length ≤ i by rw [HSL.out]; omega), List.map_append, List.map_cons, List.map_nil, strB_drop]
        simp only [splitB, glue, List.append_nil]
        rw [List.take_of_length_le (by rw [List.length_drop, HSL.out]; omega)]
      go_wp2_with (at_builtin; refine kn_pushS rfl _ _ rfl _ ss rfl rfl (hK.al [.string (s.extract f s.size)] 9) (by omega) ?_; intro v5 w6 hK4)
      obtain ⟨A, c, rfl⟩ := row_form hK4.at0
      go_ret
      exact ⟨A, c, _, rfl, HS3.out, hK4⟩
/-- the parts of bytes without blanks -/
def wordsB (bs : List UInt8) : List (List UInt8) := (splitB 32 bs).filter (fun l => !l.isEmpty)
def wordsG (p : List UInt8) (bs : List UInt8) : List (List UInt8) := (glue p (splitB 32 bs)).filter (fun l => !l.isEmpty)
set_option maxRecDepth 100000 in
set_option maxHeartbeats 1600000 in
theorem SplitWords_any (s : ByteArray) (w : World) (hs : s.size ≤ 1048576) :
    Calls Tryd.prog 133 #[.string s] w fun e w' => ∃ A c ss, e = .returned (.slice A ss.length c) ∧ ss.map strB = wordsB (strB s) ∧ Kn w [rowS (.slice A ss.length c) ss] w' := by
  have HSL := Lib.hid (strB_len s)
  go_enter Tryd.func133, Tryd.ntmps133
  have hK0 := ((Kn.nil w).al [] 9).litRow (n := 0) (size := 1) rfl (by decide)
  go_wp2_with fail
  go_loopw [3, 4, 9] (fun vv ff ii wr => ∃ (i : Nat) (ss : List ByteArray), i ≤ s.size ∧ ii = .int .i64 i ∧ ss.length ≤ i ∧
    ((ff = .int .i64 (-1) ∧ wordsB (strB s) = ss.map strB ++ wordsG [] ((strB s).drop i)) ∨
      ∃ f : Nat, f < i ∧ ff = .int .i64 f ∧ wordsB (strB s) = ss.map strB ++ wordsG (((strB s).drop f).take (i - f)) ((strB s).drop i)) ∧ Kn w [rowS vv ss] wr) (fun _ _ i _ => s.size - (intOf i).toNat)
  case atStart => exact ⟨0, [], by omega, rfl, by simp, .inl ⟨rfl, by simp [wordsB, wordsG, glue_nil _ (splitB_ne _ _)]⟩, hK0⟩
  case round =>
    rename_i vv ff _
    obtain ⟨i, ss, hi, rfl, hsl, hor, hK⟩ := hrel
    clear hK0
    have i0 : (0 : Int) ≤ (i : Int) := by omega
    have i2 : (i : Int) ≤ (s.size : Int) := by omega
    by_cases hlt : i < s.size
    · obtain ⟨q, hq⟩ : ∃ q : UInt8, s[i] = q := ⟨_, rfl⟩
      obtain ⟨z, hz⟩ : ∃ z : Nat, q.toNat = z := ⟨_, rfl⟩
      have hil : i < (strB s).length := by rw [HSL.out]; exact hlt
      have hg : (strB s)[i] = q := by rw [← hq, strB_get s hlt]
      have hdr : (strB s).drop i = q :: (strB s).drop (i + 1) := by rw [List.drop_eq_getElem_cons hil, hg]
      have i1 : (i : Int) < (s.size : Int) := by omega
      have HS2 := Lib.hid (show splitB 32 ((strB s).drop i) = if z = 32 then [] :: splitB 32 ((strB s).drop (i + 1)) else glue [q] (splitB 32 ((strB s).drop (i + 1))) by rw [hdr, splitB_cons, hz])
      have HPP := Lib.hid (fun f hf => take_piece (f := f) hil hf)
      rw [hg] at HPP
      clear hdr hg
      by_cases hzk : z = 32
      · have k1 : ((z : Int) == 32) = true := by rw [beq_iff_eq]; omega
        have k3 : ((z : Int) != 32) = false := by simp [bne, k1]
        have HZK := Lib.hid hzk
        clear hzk
        rcases hor with ⟨rfl, hsp⟩ | ⟨f, hf, rfl, hsp⟩
        · have HS3 : Hid (wordsB (strB s) = ss.map strB ++ wordsG [] ((strB s).drop (i + 1))) := by
            simp only [Hid]
            rw [hsp]; unfold wordsG
            rw [HS2.out, if_pos HZK.out, glue_nil (splitB 32 ((strB s).drop (i + 1))) (splitB_ne _ _)]
            simp [glue]
          clear hsp
          go_wp2_with fail
          go_roundw
          case rel => exact ⟨i + 1, ss, by omega, by go_num, by omega, .inl ⟨rfl, HS3.out⟩, hK⟩
          case measure => simp [intOf]; omega
        · have hne : (((strB s).drop f).take (i - f)).isEmpty = false := by
            cases h : ((strB s).drop f).take (i - f) with
            | nil =>
              have := congrArg List.length h
              rw [List.length_take, List.length_drop, HSL.out] at this
              simp at this; omega
            | cons a l => rfl
          have HS3 : Hid (wordsB (strB s) = (ss ++ [s.extract f i]).map strB ++ wordsG [] ((strB s).drop (i + 1))) := by
            simp only [Hid]
            rw [hsp]; unfold wordsG
            rw [HS2.out, if_pos HZK.out, List.map_append, List.map_cons, List.map_nil, strB_extract, glue_nil _ (splitB_ne _ _)]
            simp only [glue, List.append_nil]
            rw [List.filter_cons, hne]; simp
          have f0 : (0 : Int) ≤ (f : Int) := by omega
          have f1 : (f : Int) ≤ (i : Int) := by omega
          have f2 : ¬ (f : Int) < 0 := by omega
          clear hsp hne
          go_wp2_with (at_builtin; refine kn_pushS rfl _ _ rfl _ ss rfl rfl (hK.al [.string (s.extract f i)] 9) (by omega) ?_; intro v5 w6 hK4)
          go_roundw
          case rel => exact ⟨i + 1, ss ++ [s.extract f i], by omega, by go_num, by rw [List.length_append]; simp; omega, .inl ⟨rfl, HS3.out⟩, hK4⟩
          case measure => simp [intOf]; omega
      · have k1 : ((z : Int) == 32) = false := by rw [beq_eq_false_iff_ne]; omega
        have k3 : ((z : Int) != 32) = true := by simp [bne, k1]
        have HZK := Lib.hid hzk
        clear hzk
        rcases hor with ⟨rfl, hsp⟩ | ⟨f, hf, rfl, hsp⟩
        · have HS3 : Hid (wordsB (strB s) = ss.map strB ++ wordsG (((strB s).drop i).take (i + 1 - i)) ((strB s).drop (i + 1))) := by
            simp only [Hid]
            rw [hsp]; unfold wordsG
            rw [HS2.out, if_neg HZK.out, HPP.out i (Nat.le_refl _), glue_glue]; simp
          clear hsp
          go_wp2_with fail
          go_roundw
          case rel => exact ⟨i + 1, ss, by omega, by go_num, by omega, .inr ⟨i, by omega, rfl, HS3.out⟩, hK⟩
          case measure => simp [intOf]; omega
        · have HS3 : Hid (wordsB (strB s) = ss.map strB ++ wordsG (((strB s).drop f).take (i + 1 - f)) ((strB s).drop (i + 1))) := by
            simp only [Hid]
            rw [hsp]; unfold wordsG
            rw [HS2.out, if_neg HZK.out, HPP.out f (by omega), glue_glue]
          have f2 : ¬ (f : Int) < 0 := by omega
          have f0 : (0 : Int) ≤ (f : Int) := by omega
          clear hsp
          go_wp2_with fail
          go_roundw
          case rel => exact ⟨i + 1, ss, by omega, by go_num, by omega, .inr ⟨f, by omega, rfl, HS3.out⟩, hK⟩
          case measure => simp [intOf]; omega
    · have i1 : ¬ (i : Int) < (s.size : Int) := by omega
      have hdn : (strB s).drop i = [] := List.drop_of_length_le (show (strB s).length ≤ i by rw [HSL.out]; omega)
      rcases hor with ⟨rfl, hsp⟩ | ⟨f, hf, rfl, hsp⟩
      · have HS3 : Hid (ss.map strB = wordsB (strB s)) := by
          simp only [Hid]; rw [hsp, hdn]; simp [wordsG, splitB, glue]
        clear hsp hdn
        obtain ⟨A, c, rfl⟩ := row_form hK.at0
        go_wp2_with fail
        go_ret
        exact ⟨A, c, ss, rfl, HS3.out, hK⟩
      · have hne : (((strB s).drop f).take (i - f)).isEmpty = false := by
          cases h : ((strB s).drop f).take (i - f) with
          | nil =>
            have := congrArg List.length h
            rw [List.length_take, List.length_drop, HSL.out] at this
            simp at this; omega
          | cons a l => rfl
        have HS3 : Hid ((ss ++ [s.extract f s.size]).map strB = wordsB (strB s)) := by
          simp only [Hid]
          rw [hsp, hdn, List.map_append, List.map_cons, List.map_nil, strB_drop]; unfold wordsG
          simp only [splitB, glue, List.append_nil]
          rw [List.filter_cons, hne, List.take_of_length_le (by rw [List.length_drop, HSL.out]; omega)]; simp
        have f0 : (0 : Int) ≤ (f : Int) := by omega
        have f1 : (f : Int) ≤ (s.size : Int) := by omega
        clear hsp hdn hne
        go_wp2_with (at_builtin; refine kn_pushS rfl _ _ rfl _ ss rfl rfl (hK.al [.string (s.extract f s.size)] 9) (by omega) ?_; intro v5 w6 hK4)
        obtain ⟨A, c, rfl⟩ := row_form hK4.at0
        go_ret
        exact ⟨A, c, _, rfl, HS3.out, hK4⟩
/-- what stands in front of the first place of a text, and behind it -/
def cutB (p : List UInt8) : List UInt8 → Option (List UInt8 × List UInt8)
  | [] => none
  | b :: tl => if p.isPrefixOf (b :: tl) then some ([], (b :: tl).drop p.length) else (cutB p tl).map fun q => (b :: q.1, q.2)
theorem prefix_iff (p l : List UInt8) : p.isPrefixOf l = decide (l.take p.length = p) := by
  rw [Bool.eq_iff_iff, List.isPrefixOf_iff_prefix, List.prefix_iff_eq_take, decide_eq_true_eq]
  exact ⟨fun h => h.symm, fun h => h.symm⟩
theorem cutB_short (p : List UInt8) : ∀ l : List UInt8, l.length < p.length → cutB p l = none
  | [], _ => rfl
  | b :: tl, h => by
    simp only [cutB]
    have h1 : p.isPrefixOf (b :: tl) = false := by
      rw [prefix_iff]; refine decide_eq_false fun h2 => ?_
      have := congrArg List.length h2
      rw [List.length_take] at this; omega
    rw [h1, cutB_short p tl (by simp at h; omega)]; rfl
def cutX (p bs : List UInt8) : List UInt8 := ((cutB p bs).map (·.1)).getD bs
def cutY (p bs : List UInt8) : List UInt8 := ((cutB p bs).map (·.2)).getD []
set_option maxRecDepth 100000 in
set_option maxHeartbeats 1600000 in
theorem cut_any (s p : ByteArray) (w : World) (hs : s.size ≤ 1048576) (hp0 : 0 < p.size) (hp : p.size ≤ 1048576) :
    Calls Tryd.prog 189 #[.string s, .string p] w fun e w' => ∃ x y, e = .returned (.tuple #[.string x, .string y, .bool (cutB (strB p) (strB s)).isSome]) ∧ strB x = cutX (strB p) (strB s) ∧ strB y = cutY (strB p) (strB s) ∧ Below w.heap.size w w' := by
  have HSL := Lib.hid (strB_len s)
  have HPL := Lib.hid (strB_len p)
  obtain ⟨m, hm⟩ : ∃ m, p.size = m := ⟨_, rfl⟩
  rw [hm] at hp0 hp
  go_enter Tryd.func189, Tryd.ntmps189
  go_wp2_with fail
  go_loopw [7] (fun ii wr => ∃ i : Nat, i ≤ s.size + 1 ∧ ii = .int .i64 i ∧ cutB (strB p) (strB s) = (cutB (strB p) ((strB s).drop i)).map (fun q => ((strB s).take i ++ q.1, q.2)) ∧ w = wr) (fun i _ => s.size + 1 - (intOf i).toNat)
  case atStart => exact ⟨0, by omega, rfl, by simp, rfl⟩
  case round =>
    obtain ⟨i, hi, rfl, hcb, rfl⟩ := hrel
    have HCB := Lib.hid hcb
    clear hcb
    have i0 : (0 : Int) ≤ (i : Int) := by omega
    by_cases hle : i + m ≤ s.size
    · have i1 : (i : Int) + (m : Int) ≤ (s.size : Int) := by omega
      have i2 : (i : Int) ≤ (i : Int) + (m : Int) := by omega
      have hil : i < (strB s).length := by rw [HSL.out]; omega
      obtain ⟨q, hq⟩ : ∃ q : UInt8, (strB s)[i] = q := ⟨_, rfl⟩
      have hdr : (strB s).drop i = q :: (strB s).drop (i + 1) := by rw [List.drop_eq_getElem_cons hil, hq]
      have hT : (strB s).take (i + 1) = (strB s).take i ++ [q] := by rw [List.take_succ_eq_append_getElem hil, hq]
      have hpre : (strB p).isPrefixOf ((strB s).drop i) = ((s.extract i (i + m)).toList == p.toList) := by
        rw [prefix_iff, strB_toList, strB_toList, strB_extract, HPL.out, hm, show i + m - i = m by omega, Bool.eq_iff_iff, decide_eq_true_eq, beq_iff_eq]
      rcases hq2 : ((s.extract i (i + m)).toList == p.toList) with _ | _
      · have HC2 : Hid (cutB (strB p) (strB s) = (cutB (strB p) ((strB s).drop (i + 1))).map (fun q => ((strB s).take (i + 1) ++ q.1, q.2))) := by
          simp only [Hid]
          rw [HCB.out]
          rw [hq2, hdr] at hpre
          rw [hdr, cutB, hpre, hT]
          simp [Option.map_map, Function.comp_def]
        clear hdr hT hpre
        go_wp2_with fail
        go_roundw
        case rel => exact ⟨i + 1, by omega, by go_num, HC2.out, by first | rfl | trivial⟩
        case measure => simp [intOf]; omega
      · have HC2 : Hid (cutB (strB p) (strB s) = some ((strB s).take i, (strB s).drop (i + m))) := by
          simp only [Hid]
          rw [HCB.out]
          rw [hq2, hdr] at hpre
          rw [hdr, cutB, hpre, ← hdr]
          simp [HPL.out, hm, List.drop_drop]
        clear hdr hT hpre
        go_wp2_with fail
        go_region
        all_goals
          go_wp2_with fail
          refine bodyPost_ret (v := .tuple #[.string (s.extract 0 i), .string (s.extract (i + m) s.size), .bool true]) (by simp [results, Tryd.results189, go_sem]) rfl ⟨_, _, by rw [HC2.out]; rfl, ?_, ?_, ?_⟩
          · rw [strB_extract, cutX, HC2.out]; simp
          · rw [strB_drop, cutY, HC2.out]; rfl
          · first | exact Below.refl _ _ | exact (Below.refl _ _).drew
    · have i1 : ¬ (i : Int) + (m : Int) ≤ (s.size : Int) := by omega
      have HC2 : Hid (cutB (strB p) (strB s) = none) := by
        simp only [Hid]; rw [HCB.out, cutB_short _ _ (by rw [List.length_drop, HSL.out, HPL.out, hm]; omega)]; rfl
      go_wp2_with fail
      refine bodyPost_ret (v := .tuple #[.string s, .string ⟨#[]⟩, .bool false]) (by simp [results, Tryd.results189, go_sem]) rfl ⟨s, ⟨#[]⟩, by rw [HC2.out]; rfl, ?_, ?_, Below.refl _ _⟩
      · rw [cutX, HC2.out]; rfl
      · rw [cutY, HC2.out]; rfl
end Go.Proofs.YtcapccadpbiecaaDoor
