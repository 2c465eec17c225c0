/- Part 1: lemmas and contracts of the claim's functions. -/
import Derived.Test.YtmmiahgmdllgdaaRows
import Derived.WalkKit
import Derived.WalkSpells
import Derived.Deep.QuietTactic
import Derived.BigQuiet
import Derived.Lib.Hide
import Derived.Lib.QuietBelow
import Derived.Deep.AppendLies
import Derived.Deep.RegionHeld3
import Derived.StillTailTactics
import Derived.Laws.BytesString
import Derived.Deep.RegionLaw
import Derived.Lib.ItoaLen
import Derived.Test.YtmmiahgmdllgdaaShelf
import Derived.Deep.DeepCutAuto
namespace Go.Proofs.Ytmmiahgmdllgdaa
open Go.RowKit
theorem block_of_add (a : Addr) (n : Nat) : (a.add n).block = a.block := by unfold Addr.add; split <;> rfl
/-- a slice value .slice A n c reads as the cells xs, in blocks below B -/
def Reads (w : World) (B size : Nat) (A : Option Addr) (n : Nat) (xs : List Value) : Prop :=
  xs.length = n * size ∧ (0 < n → ∃ ad, A = some ad ∧ ad.block < B ∧ ∀ j u, xs[j]? = some u → w.cell? (ad.add j) = some u)
def betB (n l h : Int) : Bool := decide (l ≤ n ∧ n ≤ h)
/-- []int64 -/
def RI (w : World) (A : Option Addr) (n : Nat) (ds : List Int) : Prop := ds.length = n ∧ (0 < n → ∃ ad, A = some ad ∧ ad.block < w.heap.size ∧ ∀ j u, ds[j]? = some u → w.cell? (ad.add j) = some (.int .i64 u))
theorem RI.below {w w' : World} {A : Option Addr} {n : Nat} {ds : List Int} (h : RI w A n ds) (hb : Below w.heap.size w w') : RI w' A n ds := by
  refine ⟨h.1, fun hn => ?_⟩
  obtain ⟨ad, e, hl, hc⟩ := h.2 hn
  refine ⟨ad, e, Nat.lt_of_lt_of_le hl hb.size, fun j u hu => ?_⟩
  rw [hb.cell (by rw [block_of_add]; exact hl)]; exact hc j u hu
/-- element k, at an address given by name -/
theorem RI.at_ {w : World} {A : Option Addr} {n : Nat} {ds : List Int} (h : RI w A n ds) {k : Nat} (hk : k < n) : ∃ ad, A = some ad ∧ ad.block < w.heap.size ∧ ∃ h : k < ds.length, w.cell? (ad.add k) = some (.int .i64 ds[k]) := by
  obtain ⟨ad, e, hl, hc⟩ := h.2 (by omega)
  have : k < ds.length := by have := h.1; omega
  exact ⟨ad, e, hl, this, hc k _ (by simp [this])⟩
theorem below_drewN {B : Nat} {a w : World} (h : Below B a w) (n : Nat) : Below B a (w.drewN n) := ⟨h.os, h.tape, h.output, h.size, h.block⟩
theorem ret_int {k : IntKind} {a b : Int} (h : a = b) : Ending.returned (.int k a) = .returned (.int k b) := by rw [h]
theorem ret_bool {a b : Bool} (h : a = b) : Ending.returned (.bool a) = .returned (.bool b) := by rw [h]
theorem quiet_left {P : Program} {f : FuncId} {args : Array Value} {w : World} {n : Nat} {v : Value}
    (h : Calls P f args (w.drewN n) fun e w' => e = .returned v ∧ w.drewN n = w') : Calls P f args (w.drewN n) fun e w'' => e = .returned v ∧ ∃ m, w'' = w.drewN m :=
  h.mono fun _ _ ⟨he, hm⟩ => ⟨he, n, hm.symm⟩
theorem quiet_add_left {P : Program} {f : FuncId} {args : Array Value} {w : World} {a n : Nat} {v : Value}
    (h : Calls P f args (w.drewN (a + n)) fun e w' => e = .returned v ∧ w.drewN (a + n) = w') :
    Calls P f args (w.drewN (a + n)) fun e w'' => e = .returned v ∧ ∃ m, w'' = w.drewN (a + m) :=
  h.mono fun _ _ ⟨he, hm⟩ => ⟨he, n, hm.symm⟩
theorem calls_val {P : Program} {f : FuncId} {args : Array Value} {w : World} {u v : Value} {R : World → Prop} (h : Calls P f args w fun e w' => e = .returned u ∧ R w') (e : u = v) : Calls P f args w fun e w' => e = .returned v ∧ R w' := by rw [← e]; exact h
theorem below_drew {B : Nat} {w w' : World} (h : Below B w w') : Below B w w'.drew := h.drew
theorem drewN_below {w : World} (n : Nat) : Below w.heap.size w (w.drewN n) := below_drewN (Below.refl _ _) n
theorem info_i64 : (Try.prog.info? 2).map (fun i => (i.zero, i.size, i.bytes)) = some (some (.int .i64 0), 1, 8) := by kernel_rfl
/-- a row of int64 that the call owns -/
def OwnI (w : World) (base : Nat) (v : Value) (ds : List Int) : Prop := w.ownsRow base 2 1 v ds.length (ds.map (Value.int .i64))
theorem OwnI.reads {w : World} {base : Nat} {v : Value} {ds : List Int} (h : OwnI w base v ds) : ∃ A c, v = .slice A ds.length c ∧ RI w A ds.length ds ∧ ∀ ad, A = some ad → base ≤ ad.block := by
  rcases h.2 with ⟨rfl, hn⟩ | ⟨g, cap, cur, rfl, hb, hg, hnc, _, hcs, htake⟩
  · refine ⟨none, 0, by rw [hn], ⟨rfl, fun h0 => ?_⟩, fun ad h0 => by cases h0⟩
    omega
  · refine ⟨_, cap, rfl, ⟨rfl, fun _ => ⟨_, rfl, (Array.getElem?_eq_some_iff.1 hg).1, fun j u hu => ?_⟩⟩, fun ad h0 => by injection h0 with h0; subst h0; exact hb⟩
    have h1 := h.cells (g := g) rfl j (.int .i64 u) (by simp [hu])
    exact h1
theorem OwnI.below {w w' : World} {base : Nat} {v : Value} {ds : List Int} (h : OwnI w base v ds) (hb : Below w.heap.size w w') : OwnI w' base v ds := by
  refine ⟨h.1, ?_⟩
  rcases h.2 with hn | ⟨g, cap, cur, rfl, hbg, hg, rest⟩
  · exact .inl hn
  · exact .inr ⟨g, cap, cur, rfl, hbg, by rw [hb.block g (Array.getElem?_eq_some_iff.1 hg).1]; exact hg, rest⟩
theorem OwnI.nil (w : World) (base : Nat) : OwnI w base (.slice none 0 0) [] := ⟨by simp, .inl ⟨rfl, rfl⟩⟩
theorem OwnI.mono {w : World} {b b' : Nat} {v : Value} {ds : List Int} (h : OwnI w b v ds) (hb : b' ≤ b) : OwnI w b' v ds := by
  refine ⟨h.1, ?_⟩
  rcases h.2 with hn | ⟨g, cap, cur, rfl, hbg, hg, rest⟩
  · exact .inl hn
  · exact .inr ⟨g, cap, cur, rfl, by omega, hg, rest⟩
theorem add_zero_block (g j : Nat) : (⟨g, 0, none⟩ : Addr).add j = ⟨g, j, none⟩ := by unfold Addr.add; split <;> simp_all
section
variable {ops : Array Oper} {rest : List Oper} {o : Oper} {a : Act} {Q : Exit → Act → World → Prop} {w : World}
/-- append(out, y) of one int64 onto a row that the call owns -/
theorem app1I (hgd : o.guard = none) (s x : Operand) (ho : o.op = .call { callee := .builtin .append, args := #[s, x], argTypes := #[24, 24] })
    (base : Nat) (v : Value) (ds : List Int) (hs : a.eval s = v) (hown : OwnI w base v ds) (g : Nat) (y : Int) (hx : a.eval x = .slice (some ⟨g, 0, none⟩) 1 1) (hg : w.heap[g]? = some (.cells #[.int .i64 y] 2 (0, 0)))
    (hn : ds.length ≤ 1000000000000) (hbase : base ≤ w.heap.size)
    (h : ∀ v' w', OwnI w' base v' (ds ++ [y]) → w.grownBy w' v.ownBlock → (v'.ownBlock = v.ownBlock ∨ v'.ownBlock = some w.heap.size) → wpList Try.prog ops Q rest (a.put o.dst v') w') : wpList Try.prog ops Q (o :: rest) a w := by
  obtain ⟨i0, hi, hz0, hz1, hz2⟩ := info_parts info_i64
  refine wpList_plain hgd fun K hK => ?_
  obtain ⟨v', w', hrun, h2, h3, _, h5⟩ := run_append_own_at (P := Try.prog) w base 24 o.type 2 i0 _ 1 8 Try.underlying24 hi hz0 hz1 hz2 rfl (by omega) v ds.length _ hown ⟨g, 0, none⟩ 1 1 [.int .i64 y] rfl (World.news_of_block hg) (by simp [Value.oneCell']) (by simp only [maxLen]; omega) (by omega) hbase
  unfold Oper.wp execOp
  simp only [ho, resolve, invoke, builtin, Sem.run_bind, Sem.run_pure, Result.andThen_ok, List.map_toArray, List.map_cons, List.map_nil, hs, hx, hrun]
  exact hK _ _ (h v' w' (by unfold OwnI; simpa using h2) h3 h5)
end
end Go.Proofs.Ytmmiahgmdllgdaa

namespace Go.Proofs.Ytmmiahgmdllgdaa
open Go.RowKit
/-- a slice type t over elements e: the zero value, its cells, its bytes -/
structure TP (t e : TypeId) (z : Value) (size bytes : Nat) : Prop where
  under : Try.prog.underlying t = some (.slice e)
  info : (Try.prog.info? e).map (fun i => (i.zero, i.size, i.bytes)) = some (some z, size, bytes)
  zc : z.cells.size = size
  pos : 0 < size
theorem tpI : TP 24 2 (.int .i64 0) 1 8 := ⟨Try.underlying24, by kernel_rfl, rfl, by decide⟩
theorem tpB : TP 22 5 (.int .u8 0) 1 1 := ⟨Try.underlying22, by kernel_rfl, rfl, by decide⟩
section
variable {ops : Array Oper} {rest : List Oper} {o : Oper} {a : Act} {Q : Exit → Act → World → Prop} {w : World}
/-- append(s, x...), s a row of the call's own -/
theorem appG {t e : TypeId} {z : Value} {size bytes : Nat} (T : TP t e z size bytes) (hgd : o.guard = none) (s x : Operand) (ho : o.op = .call { callee := .builtin .append, args := #[s, x], argTypes := #[t, t] })
    (base : Nat) (v : Value) (n : Nat) (xs : List Value) (hs : a.eval s = v) (hown : w.ownsRow base e size v n xs) (ad : Addr) (m c : Nat) (news : List Value) (hx : a.eval x = .slice (some ad) m c)
    (hl : news.length = m * size) (hnews : ∀ j u, news[j]? = some u → w.cell? (ad.add j) = some u) (h1 : ∀ u ∈ news, u.oneCell' = true)
    (h63 : n + m ≤ 1000000000000000) (hb : (n + m) * bytes ≤ 140737488355328) (hbase : base ≤ w.heap.size)
    (h : ∀ v' w', w'.ownsRow base e size v' (n + m) (xs ++ news) → w.grownBy w' v.ownBlock → (v'.ownBlock = v.ownBlock ∨ v'.ownBlock = some w.heap.size) → wpList Try.prog ops Q rest (a.put o.dst v') w') : wpList Try.prog ops Q (o :: rest) a w := by
  obtain ⟨i0, hi, hz0, hz1, hz2⟩ := info_parts T.info
  refine wpList_plain hgd fun K hK => ?_
  obtain ⟨v', w', hrun, h2, h3, _, h5⟩ := run_append_own_at (P := Try.prog) w base t o.type e i0 z size bytes T.under hi hz0 hz1 hz2 T.zc T.pos v n xs hown ad m c news hl hnews h1 (by simp only [maxLen]; omega) hb hbase
  unfold Oper.wp execOp
  simp only [ho, resolve, invoke, builtin, Sem.run_bind, Sem.run_pure, Result.andThen_ok, List.map_toArray, List.map_cons, List.map_nil, hs, hx, hrun]
  exact hK _ _ (h v' w' h2 h3 h5)
end
def byteV (b : UInt8) : Value := .int .u8 (b.toNat : Int)
/-- bytes at A -/
def RB (w : World) (A : Option Addr) (n : Nat) (bs : List UInt8) : Prop := bs.length = n ∧ (0 < n → ∃ ad, A = some ad ∧ ad.block < w.heap.size ∧ ∀ j u, bs[j]? = some u → w.cell? (ad.add j) = some (byteV u))
theorem RB.below {w w' : World} {A : Option Addr} {n : Nat} {ds : List UInt8} (h : RB w A n ds) (hb : Below w.heap.size w w') : RB w' A n ds := by
  refine ⟨h.1, fun hn => ?_⟩
  obtain ⟨ad, e, hl, hc⟩ := h.2 hn
  refine ⟨ad, e, Nat.lt_of_lt_of_le hl hb.size, fun j u hu => ?_⟩
  rw [hb.cell (by rw [block_of_add]; exact hl)]; exact hc j u hu
/-- a row of bytes that the call owns -/
def OwnB (w : World) (base : Nat) (v : Value) (bs : List UInt8) : Prop := w.ownsRow base 5 1 v bs.length (bs.map byteV)
theorem OwnB.reads {w : World} {base : Nat} {v : Value} {ds : List UInt8} (h : OwnB w base v ds) : ∃ A c, v = .slice A ds.length c ∧ RB w A ds.length ds ∧ ∀ ad, A = some ad → base ≤ ad.block := by
  rcases h.2 with ⟨rfl, hn⟩ | ⟨g, cap, cur, rfl, hb, hg, hnc, _, hcs, htake⟩
  · refine ⟨none, 0, by rw [hn], ⟨rfl, fun h0 => ?_⟩, fun ad h0 => by cases h0⟩
    omega
  · refine ⟨_, cap, rfl, ⟨rfl, fun _ => ⟨_, rfl, (Array.getElem?_eq_some_iff.1 hg).1, fun j u hu => ?_⟩⟩, fun ad h0 => by injection h0 with h0; subst h0; exact hb⟩
    exact h.cells (g := g) rfl j (byteV u) (by simp [hu])
theorem foldl_push (bs : List UInt8) : ∀ r : ByteArray, (bs.map fun b => (b.toNat : Int)).foldl (fun r n => r.push (UInt8.ofNat n.toNat)) r = ⟨r.data ++ bs.toArray⟩ := by
  induction bs with
  | nil => intro r; simp
  | cons b bs ih =>
    intro r
    simp only [List.map_cons, List.foldl_cons, ih]
    simp [ByteArray.push]
theorem conv_bytes (w : World) (A : Option Addr) (n c : Nat) (bs : List UInt8) (h : RB w A n bs) : (convert 22 9 (.slice A n c)).run Try.prog w = .ok (.string ⟨bs.toArray⟩) w := by
  rw [run_convert_bytes_string w _ _ 5 A n c Try.underlying22 Try.underlying5 Try.underlying9]
  rcases Nat.eq_zero_or_pos n with h0 | h0
  · subst h0
    obtain rfl : bs = [] := List.eq_nil_of_length_eq_zero h.1
    cases A with
    | none => simp [Conv.bytesToString, Sem.run_pure]; rfl
    | some ad =>
      have := run_bytesToString (P := Try.prog) w ad 0 c [] (by simpa using run_loadCells_list (P := Try.prog) (w := w) ad [] (by simp))
      exact this
  · obtain ⟨ad, rfl, hl, hc⟩ := h.2 h0
    have hL := run_loadCells_list (P := Try.prog) (w := w) ad (bs.map byteV) (fun j v hv => by
      rw [List.getElem?_map] at hv
      obtain ⟨u, hu, rfl⟩ := Option.map_eq_some_iff.1 hv
      exact hc j u hu)
    rw [List.length_map, h.1] at hL
    have := run_bytesToString (P := Try.prog) w ad n c (bs.map fun b => (b.toNat : Int)) (by
      rw [hL, List.map_map]; rfl)
    rw [this, foldl_push]; simp
end Go.Proofs.Ytmmiahgmdllgdaa

namespace Go.Proofs.Ytmmiahgmdllgdaa
open Go.RowKit
/-- a thing that a call owns: a block of cells; a row; or whatever hangs on some blocks alone -/
inductive Ent where
  | blk (g : Nat) (cs : List Value) (T : TypeId)
  | row (v : Value) (e : TypeId) (size n : Nat) (xs : List Value)
  | any (fp : Nat → Prop) (F : World → Prop) (st : ∀ w w' : World, F w → w.heap.size ≤ w'.heap.size → (∀ k, fp k → w'.heap[k]? = w.heap[k]?) → F w')
def Ent.fp : Ent → Nat → Prop
  | .blk g _ _, k => k = g
  | .row v _ _ _ _, k => v.ownBlock = some k
  | .any fp _ _, k => fp k
def Ent.holds : Ent → World → Prop
  | .blk g cs T, w => w.heap[g]? = some (.cells cs.toArray T (0, 0))
  | .row v e size n xs, w => w.ownsRow 0 e size v n xs
  | .any fp F _, w => F w ∧ ∀ k, fp k → k < w.heap.size
theorem Ent.lt {e : Ent} {w : World} (h : e.holds w) {k : Nat} (hk : e.fp k) : k < w.heap.size := by
  cases e with
  | blk g cs T => cases hk; exact (Array.getElem?_eq_some_iff.1 h).1
  | row v e size n xs => exact (World.ownsRow.lt h k hk).2
  | any fp F st => exact h.2 k hk
theorem Ent.stable {e : Ent} {w w' : World} (h : e.holds w) (hs : w.heap.size ≤ w'.heap.size) (hb : ∀ k, e.fp k → w'.heap[k]? = w.heap[k]?) : e.holds w' := by
  cases e with
  | blk g cs T => exact (hb g rfl).trans h
  | row v e size n xs =>
    refine ⟨h.1, ?_⟩
    rcases h.2 with hn | ⟨g, cap, cur, rfl, hbg, hg, rest⟩
    · exact .inl hn
    · exact .inr ⟨g, cap, cur, rfl, hbg, by rw [hb g rfl]; exact hg, rest⟩
  | any fp F st => exact ⟨st w w' h.1 hs hb, fun k hk => Nat.lt_of_lt_of_le (h.2 k hk) hs⟩
/-- what is known of a world w that began as w0: nothing below w0's end has turned, and the call owns the things of m, each its own blocks -/
structure Kn (w0 : World) (m : List Ent) (w : World) : Prop where
  below : Below w0.heap.size w0 w
  ents : ∀ e ∈ m, e.holds w
  own : ∀ e ∈ m, ∀ k, e.fp k → w0.heap.size ≤ k
  apart : m.Pairwise (fun a b => ∀ k, a.fp k → ¬ b.fp k)
/-- nothing but the blocks of fp has turned -/
structure Chg (fp : Nat → Prop) (w w' : World) : Prop where
  os : w'.os = w.os
  tape : w'.tape = w.tape
  output : w'.output = w.output
  size : w.heap.size ≤ w'.heap.size
  block : ∀ k, k < w.heap.size → ¬ fp k → w'.heap[k]? = w.heap[k]?
section
variable {w0 w w' : World} {m : List Ent} {e e' : Ent}
theorem Kn.nil (w : World) : Kn w [] w := ⟨Below.refl _ _, fun _ h => (nomatch h), fun _ h => (nomatch h), .nil⟩
theorem Kn.size (h : Kn w0 m w) : w0.heap.size ≤ w.heap.size := h.below.size
theorem Kn.keep (h : Kn w0 m w) (hb : Below w.heap.size w w') : Kn w0 m w' :=
  ⟨h.below.trans (hb.mono h.size), fun e he => Ent.stable (h.ents e he) hb.size (fun k hk => hb.block k (Ent.lt (h.ents e he) hk)), h.own, h.apart⟩
theorem Kn.add (h : Kn w0 m w) (hb : Below w.heap.size w w') (he : e.holds w') (hf : ∀ k, e.fp k → w.heap.size ≤ k) : Kn w0 (e :: m) w' := by
  have h' := h.keep hb
  refine ⟨h'.below, fun x hx => ?_, fun x hx k hk => ?_, List.pairwise_cons.2 ⟨fun x hx k hk hk2 => ?_, h.apart⟩⟩
  · rcases List.mem_cons.1 hx with rfl | hx
    · exact he
    · exact h'.ents x hx
  · rcases List.mem_cons.1 hx with rfl | hx
    · exact Nat.le_trans h.size (hf k hk)
    · exact h.own x hx k hk
  · have := Ent.lt (h.ents x hx) hk2
    have := hf k hk
    omega
theorem Kn.upd (h : Kn w0 (e :: m) w) (hc : Chg e.fp w w') (he : e'.holds w') (hf : ∀ k, e'.fp k → e.fp k ∨ w.heap.size ≤ k) : Kn w0 (e' :: m) w' := by
  obtain ⟨hp, hpm⟩ := List.pairwise_cons.1 h.apart
  have hsame : ∀ x ∈ m, x.holds w' := fun x hx => Ent.stable (h.ents x (List.mem_cons_of_mem _ hx)) hc.size (fun k hk => hc.block k (Ent.lt (h.ents x (List.mem_cons_of_mem _ hx)) hk) (fun h2 => hp x hx k h2 hk))
  refine ⟨h.below.trans ⟨hc.os, hc.tape, hc.output, hc.size, fun k hk => hc.block k (Nat.lt_of_lt_of_le hk h.size) (fun h2 => by have := h.own e (List.mem_cons_self ..) k h2; omega)⟩, fun x hx => ?_, fun x hx k hk => ?_, List.pairwise_cons.2 ⟨fun x hx k hk hk2 => ?_, hpm⟩⟩
  · rcases List.mem_cons.1 hx with rfl | hx
    · exact he
    · exact hsame x hx
  · rcases List.mem_cons.1 hx with rfl | hx
    · rcases hf k hk with h1 | h1
      · exact h.own e (List.mem_cons_self ..) k h1
      · exact Nat.le_trans h.size h1
    · exact h.own x (List.mem_cons_of_mem _ hx) k hk
  · rcases hf k hk with h1 | h1
    · exact hp x hx k h1 hk2
    · have := Ent.lt (h.ents x (List.mem_cons_of_mem _ hx)) hk2; omega
theorem Kn.perm {m' : List Ent} (h : Kn w0 m w) (hp : m.Perm m') : Kn w0 m' w :=
  ⟨h.below, fun e he => h.ents e (hp.mem_iff.2 he), fun e he => h.own e (hp.mem_iff.2 he), hp.pairwise h.apart (fun hab k h1 h2 => hab k h2 h1)⟩
theorem Kn.sw1 {a b : Ent} (h : Kn w0 (a :: b :: m) w) : Kn w0 (b :: a :: m) w := h.perm (.swap _ _ _)
theorem Kn.sw2 {a b c : Ent} (h : Kn w0 (a :: b :: c :: m) w) : Kn w0 (c :: a :: b :: m) w := h.perm (((List.Perm.swap c b m).cons a).trans (.swap _ _ _))
theorem Kn.sw3 {a b c d : Ent} (h : Kn w0 (a :: b :: c :: d :: m) w) : Kn w0 (d :: a :: b :: c :: m) w := h.perm ((((List.Perm.swap d c m).cons b).cons a).trans (((List.Perm.swap d b _).cons a).trans (.swap _ _ _)))
theorem Kn.bare (h : Kn w0 m w) : Kn w0 [] w := ⟨h.below, fun _ h => (nomatch h), fun _ h => (nomatch h), .nil⟩
theorem Kn.drop (h : Kn w0 (e :: m) w) : Kn w0 m w := ⟨h.below, fun x hx => h.ents x (List.mem_cons_of_mem _ hx), fun x hx => h.own x (List.mem_cons_of_mem _ hx), (List.pairwise_cons.1 h.apart).2⟩
theorem Kn.sw4 {a b c d e : Ent} (h : Kn w0 (a :: b :: c :: d :: e :: m) w) : Kn w0 (e :: a :: b :: c :: d :: m) w := h.perm (by
  have := (List.perm_middle (a := e) (l₁ := [a, b, c, d]) (l₂ := m)); simpa using this)
theorem Kn.sw5 {a b c d e f : Ent} (h : Kn w0 (a :: b :: c :: d :: e :: f :: m) w) : Kn w0 (f :: a :: b :: c :: d :: e :: m) w := h.perm (by
  have := (List.perm_middle (a := f) (l₁ := [a, b, c, d, e]) (l₂ := m)); simpa using this)
theorem Kn.drop1 {a b : Ent} (h : Kn w0 (a :: b :: m) w) : Kn w0 (a :: m) w := h.sw1.drop
theorem Kn.drop2 {a b c : Ent} (h : Kn w0 (a :: b :: c :: m) w) : Kn w0 (a :: b :: m) w := h.sw2.drop
theorem Kn.drop3 {a b c d : Ent} (h : Kn w0 (a :: b :: c :: d :: m) w) : Kn w0 (a :: b :: c :: m) w := h.sw3.drop
theorem Kn.mono {w1 : World} (h : Kn w1 m w) (hb : Below w0.heap.size w0 w1) : Kn w0 m w :=
  ⟨hb.trans (h.below.mono hb.size), h.ents, fun e he k hk => Nat.le_trans hb.size (h.own e he k hk), h.apart⟩
/-- what another call of the same base owns, beside what was owned before it -/
theorem Kn.join {w1 : World} {m' : List Ent} (h : Kn w0 m w) (h1 : Kn w m' w1) : Kn w0 (m' ++ m) w1 := by
  have hk := h.keep h1.below
  refine ⟨hk.below, fun x hx => ?_, fun x hx k hf => ?_, List.pairwise_append.2 ⟨h1.apart, h.apart, fun a ha b hb k h2 h3 => ?_⟩⟩
  · rcases List.mem_append.1 hx with hx | hx
    · exact h1.ents x hx
    · exact hk.ents x hx
  · rcases List.mem_append.1 hx with hx | hx
    · exact Nat.le_trans h.size (h1.own x hx k hf)
    · exact h.own x hx k hf
  · have := h1.own a ha k h2
    have := Ent.lt (h.ents b hb) h3
    omega
theorem Kn.al (h : Kn w0 m w) (l : List Value) (T : TypeId) : Kn w0 (.blk w.heap.size l T :: m) (w.alloc (.cells l.toArray T)) :=
  h.add ((Below.refl _ _).alloc (Nat.le_refl _) _) (heap_alloc_new _ _) (fun k hk => by cases hk; exact Nat.le_refl _)
theorem Kn.al_ (h : Kn w0 m w) (o : Obj) : Kn w0 m (w.alloc o) := h.keep ((Below.refl _ _).alloc (Nat.le_refl _) _)
theorem Kn.st {g : Nat} {l : List Value} {T : TypeId} (h : Kn w0 (.blk g l T :: m) w) (j : Nat) (v : Value) : Kn w0 (.blk g (l.set j v) T :: m) (w.setCell ⟨g, j, none⟩ v) := by
  refine h.upd ⟨rfl, rfl, rfl, by simp [World.setCell], fun k _ hk => Below.heap_setCell _ _ _ _ hk⟩ ?_ (fun k hk => .inl hk)
  have h0 : w.heap[g]? = some (.cells l.toArray T (0, 0)) := h.ents _ (List.mem_cons_self ..)
  have hl := (Array.getElem?_eq_some_iff.1 h0).1
  have h1 := (Array.getElem?_eq_some_iff.1 h0).2
  show (w.setCell ⟨g, j, none⟩ v).heap[g]? = some (.cells (l.set j v).toArray T (0, 0))
  simp only [World.setCell, Array.getElem?_modify, if_pos, h0, Option.map_some]
  simp
theorem Kn.drewN (h : Kn w0 m w) (q : Nat) : Kn w0 m (w.drewN q) := h.keep (drewN_below q)
theorem Kn.drew (h : Kn w0 m w) : Kn w0 m w.drew := h.keep (Below.refl _ _).drew
theorem Kn.at0 (h : Kn w0 (e :: m) w) : e.holds w := h.ents _ (List.mem_cons_self ..)
/-- the cells of the blocks that are known -/
def Cells : List Ent → World → Prop
  | [], _ => True
  | .blk g cs _ :: m, w => (∀ j, w.cell? ⟨g, j, none⟩ = cs[j]?) ∧ (∀ j, w.frozen? ⟨g, j, none⟩ = false) ∧ g < w.heap.size ∧ Cells m w
  | _ :: m, w => Cells m w
theorem Cells.of : ∀ {m : List Ent}, (∀ e ∈ m, e.holds w) → Cells m w
  | [], _ => trivial
  | .blk g cs T :: m, h => by
    have h0 : w.heap[g]? = some (.cells cs.toArray T (0, 0)) := h _ (List.mem_cons_self ..)
    exact ⟨fun j => by rw [cell_of_row w g j _ T (0, 0) h0]; simp, fun j => by simp [World.frozen?, h0], (Array.getElem?_eq_some_iff.1 h0).1, Cells.of (fun e he => h e (List.mem_cons_of_mem _ he))⟩
  | .row .. :: m, h => Cells.of (m := m) (fun e he => h e (List.mem_cons_of_mem _ he))
  | .any .. :: m, h => Cells.of (m := m) (fun e he => h e (List.mem_cons_of_mem _ he))
theorem Kn.cells (h : Kn w0 m w) : Cells m w := Cells.of h.ents
theorem Kn.blkAt {g : Nat} {cs : List Value} {T : TypeId} (h : Kn w0 (.blk g cs T :: m) w) : (∀ j, w.cell? ⟨g, j, none⟩ = cs[j]?) ∧ (∀ j, w.frozen? ⟨g, j, none⟩ = false) ∧ g < w.heap.size := ⟨h.cells.1, h.cells.2.1, h.cells.2.2.1⟩
/-- a row that the callee hands back -/
theorem Kn.addI {v : Value} {ds : List Int} (h : Kn w0 m w) (hb : Below w.heap.size w w') (ho : OwnI w' w.heap.size v ds) : Kn w0 (.row v 2 1 ds.length (ds.map (Value.int .i64)) :: m) w' :=
  h.add (e := .row v 2 1 ds.length (ds.map (Value.int .i64))) hb (OwnI.mono ho (Nat.zero_le _)) (fun k hk => (World.ownsRow.lt ho k hk).1)
theorem Kn.addB {v : Value} {bs : List UInt8} (h : Kn w0 m w) (hb : Below w.heap.size w w') (ho : OwnB w' w.heap.size v bs) : Kn w0 (.row v 5 1 bs.length (bs.map byteV) :: m) w' := by
  refine h.add (e := .row v 5 1 bs.length (bs.map byteV)) hb ?_ (fun k hk => (World.ownsRow.lt ho k hk).1)
  refine ⟨ho.1, ?_⟩
  rcases ho.2 with hn | ⟨g, cap, cur, rfl, hbg, hg, rest⟩
  · exact .inl hn
  · exact .inr ⟨g, cap, cur, rfl, Nat.zero_le _, hg, rest⟩
theorem Kn.ownRow {v : Value} {t : TypeId} {size n : Nat} {xs : List Value} (h : Kn w0 (.row v t size n xs :: m) w) : w.ownsRow w0.heap.size t size v n xs := by
  have h0 : w.ownsRow 0 t size v n xs := h.at0
  refine ⟨h0.1, ?_⟩
  rcases h0.2 with hn | ⟨g, cap, cur, rfl, hbg, hg, rest⟩
  · exact .inl hn
  · exact .inr ⟨g, cap, cur, rfl, h.own _ (List.mem_cons_self ..) g rfl, hg, rest⟩
theorem Kn.ownI {v : Value} {ds : List Int} {n : Nat} (h : Kn w0 (.row v 2 1 n (ds.map (Value.int .i64)) :: m) w) : OwnI w w0.heap.size v ds := by
  have h1 := h.ownRow
  have h2 := h1.1
  rw [List.length_map, Nat.mul_one] at h2
  unfold OwnI
  rw [h2]; exact h1
theorem Kn.ownB {v : Value} {bs : List UInt8} {n : Nat} (h : Kn w0 (.row v 5 1 n (bs.map byteV) :: m) w) : OwnB w w0.heap.size v bs := by
  have h1 := h.ownRow
  have h2 := h1.1
  rw [List.length_map, Nat.mul_one] at h2
  unfold OwnB
  rw [h2]; exact h1
theorem Kn.nilRow (h : Kn w0 m w) (t : TypeId) (size : Nat) : Kn w0 (.row (.slice none 0 0) t size 0 [] :: m) w :=
  h.add (e := .row (.slice none 0 0) t size 0 []) (Below.refl _ _) (World.ownsRow_nil _ _ _ _) (fun k hk => by cases hk)
/-- a row out of a block that a literal has laid -/
theorem Kn.litRow {g n size : Nat} {l : List Value} {T : TypeId} (h : Kn w0 (.blk g l T :: m) w) (hs : l.length = n * size) (hn : n ≤ maxLen) : Kn w0 (.row (.slice (some ⟨g, 0, none⟩) n n) T size n l :: m) w := by
  have h0 : w.heap[g]? = some (.cells l.toArray T (0, 0)) := h.at0
  refine ⟨h.below, fun x hx => ?_, fun x hx k hk => ?_, List.pairwise_cons.2 ⟨fun x hx k hk => ?_, (List.pairwise_cons.1 h.apart).2⟩⟩
  · rcases List.mem_cons.1 hx with rfl | hx
    · exact ⟨hs, .inr ⟨g, n, l.toArray, rfl, Nat.zero_le _, h0, Nat.le_refl _, hn, by simpa using hs, by rw [← hs]; simp⟩⟩
    · exact h.ents x (List.mem_cons_of_mem _ hx)
  · rcases List.mem_cons.1 hx with rfl | hx
    · have hk' : (Value.slice (some ⟨g, 0, none⟩) n n).ownBlock = some k := hk
      simp only [Value.ownBlock, Option.some.injEq] at hk'
      exact h.own _ (List.mem_cons_self ..) k hk'.symm
    · exact h.own x (List.mem_cons_of_mem _ hx) k hk
  · have hk' : (Value.slice (some ⟨g, 0, none⟩) n n).ownBlock = some k := hk
    simp only [Value.ownBlock, Option.some.injEq] at hk'
    exact (List.pairwise_cons.1 h.apart).1 x hx k hk'.symm
/-- a row that append has turned -/
theorem Kn.grow {v v' : Value} {t : TypeId} {size n n' : Nat} {xs xs' : List Value} (h : Kn w0 (.row v t size n xs :: m) w) (hg : w.grownBy w' v.ownBlock) (ho : w'.ownsRow 0 t size v' n' xs') (hv : v'.ownBlock = v.ownBlock ∨ v'.ownBlock = some w.heap.size) : Kn w0 (.row v' t size n' xs' :: m) w' :=
  h.upd (e' := .row v' t size n' xs') ⟨hg.os, hg.tape, hg.output, hg.size, fun k hk hne => hg.block k hk (fun e => hne e.symm)⟩ ho (fun k hk => by
    have hk' : v'.ownBlock = some k := hk
    rcases hv with h1 | h1
    · left; show v.ownBlock = some k; rw [← h1]; exact hk'
    · right; rw [h1] at hk'; injection hk' with hk'; omega)
end
theorem Calls.kn {P : Program} {f : FuncId} {args : Array Value} {R : Ending → World → Prop} {w0 w : World} {m : List Ent} (h : Kn w0 m w) (k : ∀ W, Kn w0 m W → Calls P f args W R) : Calls P f args w R := k w h
section
variable {ops : Array Oper} {rest : List Oper} {o : Oper} {a : Act} {Q : Exit → Act → World → Prop} {w0 w : World} {m : List Ent}
theorem wpList.kn {l : List Oper} (h : Kn w0 m w) (k : ∀ W, Kn w0 m W → wpList Try.prog ops Q l a W) : wpList Try.prog ops Q l a w := k w h
/-- append(s, x..) onto a row that is owned; the new elements lie in a block that is owned too -/
theorem kn_app {t e : TypeId} {z : Value} {size bytes : Nat} (T : TP t e z size bytes) (hgd : o.guard = none) (s x : Operand) (ho : o.op = .call { callee := .builtin .append, args := #[s, x], argTypes := #[t, t] })
    (v : Value) (n : Nat) (xs : List Value) (hs : a.eval s = v) {g c k : Nat} {T' : TypeId} {l : List Value} (hx : a.eval x = .slice (some ⟨g, 0, none⟩) k c)
    (hK : Kn w0 (.blk g l T' :: .row v e size n xs :: m) w) (hl : l.length = k * size) (h1 : ∀ u ∈ l, u.oneCell' = true)
    (h63 : n + k ≤ 1000000000000000) (hb : (n + k) * bytes ≤ 140737488355328)
    (h : ∀ v' w', Kn w0 (.row v' e size (n + k) (xs ++ l) :: m) w' → wpList Try.prog ops Q rest (a.put o.dst v') w') : wpList Try.prog ops Q (o :: rest) a w := by
  have hK2 := hK.sw1
  have h0 := hK.blkAt
  refine appG T hgd s x ho 0 v n xs hs hK2.at0 ⟨g, 0, none⟩ k c l hx hl (fun j u hu => ?_) h1 h63 hb (Nat.zero_le _) (fun v' w' ho' hg hv => ?_)
  · rw [add_zero_block]; rw [h0.1 j]; exact hu
  · exact h v' w' (hK2.drop1.grow hg ho' hv)
theorem kn_app_row {t e : TypeId} {z : Value} {size bytes : Nat} (T : TP t e z size bytes) (hgd : o.guard = none) (s x : Operand) (ho : o.op = .call { callee := .builtin .append, args := #[s, x], argTypes := #[t, t] })
    (v : Value) (n : Nat) (xs : List Value) (hs : a.eval s = v) {A : Option Addr} {c k : Nat} {l : List Value} (hx : a.eval x = .slice A k c) (hk0 : 0 < k)
    (hK : Kn w0 (.row (.slice A k c) e size k l :: .row v e size n xs :: m) w) (h1 : ∀ u ∈ l, u.oneCell' = true)
    (h63 : n + k ≤ 1000000000000000) (hb : (n + k) * bytes ≤ 140737488355328)
    (h : ∀ v' w', Kn w0 (.row v' e size (n + k) (xs ++ l) :: .row (.slice A k c) e size k l :: m) w' → wpList Try.prog ops Q rest (a.put o.dst v') w') : wpList Try.prog ops Q (o :: rest) a w := by
  have hK2 := hK.sw1
  have h0 : w.ownsRow 0 e size (.slice A k c) k l := hK.at0
  rcases h0.2 with ⟨_, h2⟩ | ⟨g, cap, cur, hv, -, hg, -⟩
  · omega
  injection hv with hv _ _
  subst hv
  refine appG T hgd s x ho 0 v n xs hs hK2.at0 ⟨g, 0, none⟩ k c l hx h0.1 (fun j u hu => h0.cells (g := g) rfl j u hu) h1 h63 hb (Nat.zero_le _) (fun v' w' ho' hg hv => ?_)
  exact h v' w' (hK2.grow hg ho' hv)
/-- the same, as a step of a region that draws its order -/
theorem kn_step_app {K : Act → World → Prop} {E : Prop} {t e : TypeId} {z : Value} {size bytes : Nat} (T : TP t e z size bytes) (hgd : o.guard = none) (s x : Operand) (ho : o.op = .call { callee := .builtin .append, args := #[s, x], argTypes := #[t, t] })
    (v : Value) (n : Nat) (xs : List Value) (hs : a.eval s = v) {g c k : Nat} {T' : TypeId} {l : List Value} (hx : a.eval x = .slice (some ⟨g, 0, none⟩) k c)
    (hK : Kn w0 (.blk g l T' :: .row v e size n xs :: m) w) (hl : l.length = k * size) (h1 : ∀ u ∈ l, u.oneCell' = true)
    (h63 : n + k ≤ 1000000000000000) (hb : (n + k) * bytes ≤ 140737488355328)
    (h : ∀ v' w', Kn w0 (.row v' e size (n + k) (xs ++ l) :: m) w' → K (a.put o.dst v') w') : if Region.wanted o (yielded ops a.tmps) = true then Oper.wp Try.prog o a w K Q else E := by
  have hw : Region.wanted o (yielded ops a.tmps) = true := by simp [Region.wanted, hgd]
  rw [if_pos hw]
  have hK2 := hK.sw1
  have h0 := hK.blkAt
  obtain ⟨i0, hi, hz0, hz1, hz2⟩ := info_parts T.info
  obtain ⟨v', w', hrun, h2, h3, _, h5⟩ := run_append_own_at (P := Try.prog) w 0 t o.type e i0 z size bytes T.under hi hz0 hz1 hz2 T.zc T.pos v n xs hK2.at0 ⟨g, 0, none⟩ k c l hl (fun j u hu => by rw [add_zero_block, h0.1 j]; exact hu) h1 (by simp only [maxLen]; omega) hb (Nat.zero_le _)
  unfold Oper.wp execOp
  simp only [ho, resolve, invoke, builtin, Sem.run_bind, Sem.run_pure, Result.andThen_ok, List.map_toArray, List.map_cons, List.map_nil, hs, hx, hrun]
  exact h v' w' (hK2.drop1.grow h3 h2 h5)
theorem kn_step_row {K : Act → World → Prop} {E : Prop} {t e : TypeId} {z : Value} {size bytes : Nat} (T : TP t e z size bytes) (hgd : o.guard = none) (s x : Operand) (ho : o.op = .call { callee := .builtin .append, args := #[s, x], argTypes := #[t, t] })
    (v : Value) (n : Nat) (xs : List Value) (hs : a.eval s = v) {A : Option Addr} {c k : Nat} {l : List Value} (hx : a.eval x = .slice A k c) (hk0 : 0 < k)
    (hK : Kn w0 (.row (.slice A k c) e size k l :: .row v e size n xs :: m) w) (h1 : ∀ u ∈ l, u.oneCell' = true)
    (h63 : n + k ≤ 1000000000000000) (hb : (n + k) * bytes ≤ 140737488355328)
    (h : ∀ v' w', Kn w0 (.row v' e size (n + k) (xs ++ l) :: .row (.slice A k c) e size k l :: m) w' → K (a.put o.dst v') w') : if Region.wanted o (yielded ops a.tmps) = true then Oper.wp Try.prog o a w K Q else E := by
  have hw : Region.wanted o (yielded ops a.tmps) = true := by simp [Region.wanted, hgd]
  rw [if_pos hw]
  have hK2 := hK.sw1
  have h0 : w.ownsRow 0 e size (.slice A k c) k l := hK.at0
  rcases h0.2 with ⟨_, h2⟩ | ⟨g, cap, cur, hv, -, hg, -⟩
  · omega
  injection hv with hv _ _
  subst hv
  obtain ⟨i0, hi, hz0, hz1, hz2⟩ := info_parts T.info
  obtain ⟨v', w', hrun, h2, h3, _, h5⟩ := run_append_own_at (P := Try.prog) w 0 t o.type e i0 z size bytes T.under hi hz0 hz1 hz2 T.zc T.pos v n xs hK2.at0 ⟨g, 0, none⟩ k c l h0.1 (fun j u hu => h0.cells (g := g) rfl j u hu) h1 (by simp only [maxLen]; omega) hb (Nat.zero_le _)
  unfold Oper.wp execOp
  simp only [ho, resolve, invoke, builtin, Sem.run_bind, Sem.run_pure, Result.andThen_ok, List.map_toArray, List.map_cons, List.map_nil, hs, hx, hrun]
  exact h v' w' (hK2.grow h3 h2 h5)
end
end Go.Proofs.Ytmmiahgmdllgdaa

namespace Go.Proofs.Ytmmiahgmdllgdaa
open Go.RowKit
set_option maxHeartbeats 400000 in
theorem between_any (n l h : Int) (w : World) :
    Calls Try.prog 74 #[.int .i64 n, .int .i64 l, .int .i64 h] w fun e w' => e = .returned (.bool (betB n l h)) ∧ w = w' := by
  by_cases h1 : l ≤ n
  · by_cases h2 : n ≤ h
    · go_enter Try.func74, Try.ntmps74
      go_wp2
      go_ret
      simp [betB, h1, h2]
    · go_enter Try.func74, Try.ntmps74
      go_wp2
      go_ret
      simp [betB, h1, h2]
  · go_enter Try.func74, Try.ntmps74
    go_wp2
    go_ret
    exact ⟨by simp [betB]; omega, rfl⟩
set_option maxHeartbeats 400000 in
theorem l00In_any (n l h : Int) (w : World) :
    Calls Try.prog 72 #[.int .i64 n, .int .i64 l, .int .i64 h] w fun e w' => e = .returned (.bool (betB n l h)) ∧ w = w' := by
  by_cases h1 : l ≤ n
  · by_cases h2 : n ≤ h
    · go_enter Try.func72, Try.ntmps72
      go_wp2
      go_ret
      simp [betB, h1, h2]
    · go_enter Try.func72, Try.ntmps72
      go_wp2
      go_ret
      simp [betB, h1, h2]
  · go_enter Try.func72, Try.ntmps72
    go_wp2
    go_ret
    exact ⟨by simp [betB]; omega, rfl⟩
theorem isBase_any (n : Int) (w : World) :
    Calls Try.prog 50 #[.int .i64 n] w fun e w' => e = .returned (.bool (betB n 2 16)) ∧ w = w' := by
  go_enter Try.func50, Try.ntmps50
  go_wp2_with (go_at_call 74; refine (between_any _ _ _ _).mono ?_; rintro e w' ⟨rfl, rfl⟩)
  go_ret
  exact ⟨rfl, rfl⟩
theorem isRegisterWidth_any (n : Int) (w : World) :
    Calls Try.prog 55 #[.int .i64 n] w fun e w' => e = .returned (.bool (betB n 1 16)) ∧ w = w' := by
  go_enter Try.func55, Try.ntmps55
  go_wp2_with (go_at_call 74; refine (between_any _ _ _ _).mono ?_; rintro e w' ⟨rfl, rfl⟩)
  go_ret
  exact ⟨rfl, rfl⟩
theorem l02Base_any (n : Int) (w : World) :
    Calls Try.prog 97 #[.int .i64 n] w fun e w' => e = .returned (.bool (betB n 2 16)) ∧ w = w' := by
  go_enter Try.func97, Try.ntmps97
  go_wp2_with (go_at_call 72; refine (l00In_any _ _ _ _).mono ?_; rintro e w' ⟨rfl, rfl⟩)
  go_ret
  exact ⟨rfl, rfl⟩
theorem l00Min_any (a b : Int) (w : World) :
    Calls Try.prog 94 #[.int .i64 a, .int .i64 b] w fun e w' => e = .returned (.int .i64 (min a b)) ∧ w = w' := by
  by_cases h : a < b
  · go_enter Try.func94, Try.ntmps94
    go_wp2
    go_ret
    exact ⟨ret_int (Int.min_eq_left (by omega)).symm, rfl⟩
  · go_enter Try.func94, Try.ntmps94
    go_wp2
    go_ret
    exact ⟨ret_int (Int.min_eq_right (by omega)).symm, rfl⟩
/-- the value of digits, capped -/
def valL (b : Int) : List Int → Int
  | [] => 0
  | d :: ds => min 1000000000001 (valL b ds * b + d)
theorem valL_bd (b : Int) (hb : 2 ≤ b) (ds : List Int) (hd : ∀ d ∈ ds, 0 ≤ d) : 0 ≤ valL b ds ∧ valL b ds ≤ 1000000000001 := by
  induction ds with
  | nil => simp [valL]
  | cons d ds ih =>
    have h1 := ih (fun x hx => hd x (by simp [hx]))
    have h2 := hd d (by simp)
    have h3 : 0 ≤ valL b ds * b := Int.mul_nonneg h1.1 (by omega)
    simp only [valL]; omega
theorem valL_big (b : Int) (hb : 2 ≤ b) (ds : List Int) (hd : ∀ d ∈ ds, 0 ≤ d) : ∀ k, valL b (ds.drop k) = 1000000000001 → valL b ds = 1000000000001 := by
  induction ds with
  | nil => intro k h; simp [valL] at h
  | cons d ds ih =>
    intro k h
    cases k with
    | zero => exact h
    | succ k =>
      have h1 := ih (fun x hx => hd x (by simp [hx])) k (by simpa using h)
      have h2 := hd d (by simp)
      simp only [valL, h1]; omega
theorem valL_drop (b : Int) (ds : List Int) (k : Nat) (h : k < ds.length) : valL b (ds.drop k) = min 1000000000001 (valL b (ds.drop (k + 1)) * b + ds[k]) := by
  rw [List.drop_eq_getElem_cons h]; rfl
set_option maxHeartbeats 400000 in
theorem value_any (b : Int) (A : Option Addr) (n c : Nat) (ds : List Int) (w : World)
   (hb1 : 2 ≤ b) (hb2 : b ≤ 16) (hd : ∀ d ∈ ds, 0 ≤ d ∧ d < b) (hr : RI w A n ds) (hn : n ≤ 16) :
    Calls Try.prog 104 #[.agg #[.int .i64 b, .slice A n c]] w fun e w' => e = .returned (.int .i64 (valL b ds)) ∧ Below w.heap.size w w' := by
  have HL := Lib.hid hr.1
  go_enter Try.func104, Try.ntmps104
  go_wp2
  go_loopw [3, 4] (fun v i wr => ∃ k : Nat, k ≤ n ∧ i = .int .i64 ((k : Int) - 1) ∧ v = .int .i64 (valL b (ds.drop k)) ∧ valL b (ds.drop k) ≤ 1000000000000 ∧ Below (w.heap.size + 1) (w.alloc (.cells #[.int .i64 b, .slice A n c] 26)) wr) (fun _ i _ => (intOf i + 1).toNat)
  case atStart => exact ⟨n, Nat.le_refl _, rfl, by rw [List.drop_of_length_le (by have := HL.out; omega)]; rfl, by rw [List.drop_of_length_le (by have := HL.out; omega)]; simp [valL], Below.refl _ _⟩
  case round =>
    obtain ⟨k, hk, rfl, rfl, hv1, hbl⟩ := hrel
    rcases Nat.eq_zero_or_pos k with hk0 | hk0
    · subst hk0
      go_wp2
      go_ret
      exact ⟨rfl, ((Below.refl _ _).alloc (Nat.le_refl _) _).trans (hbl.mono (by omega))⟩
    · obtain ⟨ad, hA, hlt, hkl, hc⟩ := hr.at_ (show k - 1 < n by omega)
      rw [← World.cell?_alloc_lt w (.cells #[.int .i64 b, .slice A n c] 26) (ad.add (k - 1)) (by rw [block_of_add]; omega), ← hbl.cell (by rw [block_of_add]; omega)] at hc
      have hb0 : wr.cell? ⟨w.heap.size, 0, none⟩ = some (.int .i64 b) := by rw [hbl.cell (by simp)]; go_simp
      have hb1 : wr.cell? ⟨w.heap.size, 1, none⟩ = some (.slice A n c) := by rw [hbl.cell (by simp)]; go_simp
      have hd1 := hd ds[k-1] (List.getElem_mem _)
      have hv0 := (valL_bd b (by omega) (ds.drop k) (fun x hx => (hd x (List.mem_of_mem_drop hx)).1)).1
      have hm0 : 0 ≤ valL b (ds.drop k) * b := Int.mul_nonneg hv0 (by omega)
      have hm1 : valL b (ds.drop k) * b ≤ 16000000000000 := by
        have := Int.mul_le_mul hv1 hb2 (by omega) (by omega); omega
      have HV : Hid (valL b (ds.drop (k - 1)) = min 1000000000001 (valL b (ds.drop k) * b + ds[k-1])) := by
        have := valL_drop b ds (k - 1) hkl; rw [show k - 1 + 1 = k by omega] at this; exact this
      subst hA
      go_wp2
      go_quiet (fail)
      go_wp2
      · go_ret
        refine ⟨?_, ((Below.refl _ _).alloc (Nat.le_refl _) _).trans ((hbl.trans (below_drewN (Below.refl _ _) _)).mono (by omega))⟩
        exact ret_int (valL_big b (by omega) ds (fun x hx => (hd x hx).1) (k - 1) (by rw [HV.out]; omega)).symm
      · go_roundw
        case rel => exact ⟨k - 1, by omega, by congr 1; omega, by rw [HV.out, Int.min_eq_right (by omega)], by rw [HV.out]; omega, hbl.trans (below_drewN (Below.refl _ _) _)⟩
        case measure => simp [intOf]; omega
end Go.Proofs.Ytmmiahgmdllgdaa

namespace Go.Proofs.Ytmmiahgmdllgdaa
open Go.RowKit
def digB (b : Int) (ds : List Int) : Bool := ds.all (fun d => betB d 0 (b - 1))
/-- a valid register -/
def vreg (b : Int) (ds : List Int) : Bool := betB b 2 16 && betB ds.length 1 16 && digB b ds && decide (valL b ds ≤ 1000000000000)
theorem betB_iff {n l h : Int} : betB n l h = true ↔ l ≤ n ∧ n ≤ h := by simp [betB]
theorem betB_false {n l h : Int} : betB n l h = false ↔ ¬ (l ≤ n ∧ n ≤ h) := by simp [betB]
theorem digB_take_succ {b : Int} {ds : List Int} {k : Nat} (h : k < ds.length) : digB b (ds.take (k + 1)) = (digB b (ds.take k) && betB ds[k] 0 (b - 1)) := by
  unfold digB; rw [List.take_succ_eq_append_getElem h, List.all_append]; simp only [List.all_cons, List.all_nil, Bool.and_true]
theorem digB_not {b : Int} {ds : List Int} {k : Nat} (h : k < ds.length) (h1 : betB ds[k] 0 (b - 1) = false) : digB b ds = false := by
  simp only [digB, List.all_eq_false]; exact ⟨ds[k], List.getElem_mem _, by simp [h1]⟩
theorem digB_iff {b : Int} {ds : List Int} : digB b ds = true ↔ ∀ d ∈ ds, 0 ≤ d ∧ d < b := by
  simp only [digB, List.all_eq_true, betB_iff]
  exact ⟨fun h d hd => by have := h d hd; omega, fun h d hd => by have := h d hd; omega⟩
theorem vreg_iff {b : Int} {ds : List Int} : vreg b ds = true ↔ (2 ≤ b ∧ b ≤ 16) ∧ (1 ≤ ds.length ∧ ds.length ≤ 16) ∧ (∀ d ∈ ds, 0 ≤ d ∧ d < b) ∧ valL b ds ≤ 1000000000000 := by
  simp only [vreg, Bool.and_eq_true, betB_iff, digB_iff, decide_eq_true_eq]
  constructor
  · rintro ⟨⟨⟨h1, h2⟩, h3⟩, h4⟩; exact ⟨h1, by omega, h3, h4⟩
  · rintro ⟨h1, h2, h3, h4⟩; exact ⟨⟨⟨h1, by omega⟩, h3⟩, h4⟩
set_option maxHeartbeats 400000 in
theorem ValidRegister_any (b : Int) (A : Option Addr) (n c : Nat) (ds : List Int) (w : World) (hr : RI w A n ds) (hm : n ≤ 9223372036854775807) :
    Calls Try.prog 60 #[.agg #[.int .i64 b, .slice A n c]] w fun e w' => e = .returned (.bool (vreg b ds)) ∧ Below w.heap.size w w' := by
  have HL := Lib.hid hr.1
  rcases hb : betB b 2 16 with _ | _
  · have HF : Hid (vreg b ds = false) := by simp [Hid, vreg, hb]
    have hb' := Lib.hid hb; clear hb
    go_enter Try.func60, Try.ntmps60
    go_wp2_with (go_at_call 50; refine (isBase_any _ _).mono ?_; rintro e w' ⟨rfl, rfl⟩; rw [hb'.out])
    go_ret
    exact ⟨ret_bool HF.out.symm, (Below.refl _ _).alloc (Nat.le_refl _) _⟩
  rcases hw : betB (n : Int) 1 16 with _ | _
  · have HF : Hid (vreg b ds = false) := by simp [Hid, vreg, HL.out, hw]
    have hb' := Lib.hid hb; clear hb
    have hw' := Lib.hid hw; clear hw
    go_enter Try.func60, Try.ntmps60
    go_wp2_with (first
      | (go_at_call 50; refine (isBase_any _ _).mono ?_; rintro e w' ⟨rfl, rfl⟩; rw [hb'.out])
      | (go_at_call 55; refine (isRegisterWidth_any _ _).mono ?_; rintro e w' ⟨rfl, rfl⟩; rw [hw'.out]))
    go_ret
    exact ⟨ret_bool HF.out.symm, (Below.refl _ _).alloc (Nat.le_refl _) _⟩
  have hbb := betB_iff.1 hb
  have hww := betB_iff.1 hw
  have hb' := Lib.hid hb; clear hb
  have hw' := Lib.hid hw; clear hw
  go_enter Try.func60, Try.ntmps60
  go_wp2_with (first
    | (go_at_call 50; refine (isBase_any _ _).mono ?_; rintro e w' ⟨rfl, rfl⟩; rw [hb'.out])
    | (go_at_call 55; refine (isRegisterWidth_any _ _).mono ?_; rintro e w' ⟨rfl, rfl⟩; rw [hw'.out]))
  go_loop [19] (fun i => ∃ k : Nat, k ≤ n ∧ i = .int .i64 k ∧ digB b (ds.take k) = true) (fun i => n - (intOf i).toNat)
  case atStart => exact ⟨0, Nat.zero_le _, rfl, by simp [digB]⟩
  case round =>
    obtain ⟨k, hk, rfl, hdg⟩ := hrel
    have HD := Lib.hid hdg; clear hdg
    by_cases hkn : k < n
    · obtain ⟨ad, hA, hlt, hkl, hc⟩ := hr.at_ hkn
      rw [← World.cell?_alloc_lt w (.cells #[.int .i64 b, .slice A n c] 26) (ad.add k) (by rw [block_of_add]; omega)] at hc
      subst hA
      rcases hd : betB ds[k] 0 (b - 1) with _ | _
      · have HF : Hid (vreg b ds = false) := by simp [Hid, vreg, digB_not hkl hd]
        have hd' := Lib.hid hd; clear hd
        go_wp2_with (go_at_call 74; refine (between_any _ _ _ _).mono ?_; rintro e w' ⟨rfl, rfl⟩; rw [hd'.out])
        go_ret
        exact ⟨ret_bool HF.out.symm, (Below.refl _ _).alloc (Nat.le_refl _) _⟩
      · have hd' := Lib.hid hd; clear hd
        go_wp2_with (go_at_call 74; refine (between_any _ _ _ _).mono ?_; rintro e w' ⟨rfl, rfl⟩; rw [hd'.out])
        go_round
        case rel => exact ⟨k + 1, by omega, by go_num, by rw [digB_take_succ hkl, HD.out, hd'.out]; rfl⟩
        case measure => simp [intOf]; omega
    · have HK : Hid (digB b ds = true) := by have h1 := HD.out; rwa [List.take_of_length_le (by have := HL.out; omega)] at h1
      have HV : Hid (vreg b ds = decide (valL b ds ≤ 1000000000000)) := by simp [Hid, vreg, hb'.out, HL.out, hw'.out, HK.out]
      go_wp2_with (go_at_call 104; refine (value_any b A n c ds _ (by omega) (by omega) (digB_iff.1 HK.out) (hr.below ((Below.refl _ _).alloc (Nat.le_refl _) _)) (by omega)).mono ?_; rintro e w' ⟨rfl, hbw⟩)
      go_ret
      exact ⟨ret_bool HV.out.symm, ((Below.refl _ _).alloc (Nat.le_refl _) _).trans (hbw.mono (by simp))⟩
set_option maxHeartbeats 400000 in
theorem l02Digits_any (b : Int) (A : Option Addr) (n c : Nat) (ds : List Int) (w : World) (hr : RI w A n ds) (hm : n ≤ 9223372036854775807) (h1 : 2 ≤ b) (h2 : b ≤ 16) :
    Calls Try.prog 98 #[.int .i64 b, .slice A n c] w fun e w' => e = .returned (.bool (digB b ds && betB ds.length 1 16)) ∧ w = w' := by
  have HL := Lib.hid hr.1
  go_enter Try.func98, Try.ntmps98
  go_wp2
  go_loop [5] (fun i => ∃ k : Nat, k ≤ n ∧ i = .int .i64 k ∧ digB b (ds.take k) = true) (fun i => n - (intOf i).toNat)
  case atStart => exact ⟨0, Nat.zero_le _, rfl, by simp [digB]⟩
  case round =>
    obtain ⟨k, hk, rfl, hdg⟩ := hrel
    have HD := Lib.hid hdg; clear hdg
    by_cases hkn : k < n
    · obtain ⟨ad, hA, hlt, hkl, hc⟩ := hr.at_ hkn
      subst hA
      rcases hd : betB ds[k] 0 (b - 1) with _ | _
      · have HF : Hid (digB b ds = false) := digB_not hkl hd
        have hd' := Lib.hid hd; clear hd
        go_wp2_with (go_at_call 72; refine (l00In_any _ _ _ _).mono ?_; rintro e w' ⟨rfl, rfl⟩; rw [hd'.out])
        go_ret
        exact ⟨ret_bool (by rw [HF.out]; rfl), rfl⟩
      · have hd' := Lib.hid hd; clear hd
        go_wp2_with (go_at_call 72; refine (l00In_any _ _ _ _).mono ?_; rintro e w' ⟨rfl, rfl⟩; rw [hd'.out])
        go_round
        case rel => exact ⟨k + 1, by omega, by go_num, by rw [digB_take_succ hkl, HD.out, hd'.out]; rfl⟩
        case measure => simp [intOf]; omega
    · have HK : Hid (digB b ds = true) := by have h1 := HD.out; rwa [List.take_of_length_le (by have := HL.out; omega)] at h1
      go_wp2_with (go_at_call 72; refine (l00In_any _ _ _ _).mono ?_; rintro e w' ⟨rfl, rfl⟩)
      go_ret
      exact ⟨ret_bool (by rw [HK.out, HL.out]; rfl), rfl⟩
set_option maxHeartbeats 400000 in
theorem l02Value_any (b : Int) (A : Option Addr) (n c : Nat) (ds : List Int) (w : World)
   (hb1 : 2 ≤ b) (hb2 : b ≤ 16) (hd : ∀ d ∈ ds, 0 ≤ d ∧ d < b) (hr : RI w A n ds) (hn : n ≤ 16) :
    Calls Try.prog 99 #[.int .i64 b, .slice A n c] w fun e w' => e = .returned (.int .i64 (valL b ds)) ∧ w = w' := by
  have HL := Lib.hid hr.1
  go_enter Try.func99, Try.ntmps99
  go_wp2
  go_loop [5, 6] (fun v i => ∃ k : Nat, k ≤ n ∧ i = .int .i64 ((k : Int) - 1) ∧ v = .int .i64 (valL b (ds.drop k))) (fun _ i => (intOf i + 1).toNat)
  case atStart => exact ⟨n, Nat.le_refl _, rfl, by rw [List.drop_of_length_le (by have := HL.out; omega)]; rfl⟩
  case round =>
    obtain ⟨k, hk, rfl, rfl⟩ := hrel
    rcases Nat.eq_zero_or_pos k with hk0 | hk0
    · subst hk0
      go_wp2
      go_ret
      exact ⟨rfl, rfl⟩
    · obtain ⟨ad, hA, hlt, hkl, hc⟩ := hr.at_ (show k - 1 < n by omega)
      have hd1 := hd ds[k-1] (List.getElem_mem _)
      obtain ⟨hv0, hv1⟩ := valL_bd b (by omega) (ds.drop k) (fun x hx => (hd x (List.mem_of_mem_drop hx)).1)
      have hm0 : 0 ≤ valL b (ds.drop k) * b := Int.mul_nonneg hv0 (by omega)
      have hm1 : valL b (ds.drop k) * b ≤ 16000000000016 := by
        have := Int.mul_le_mul hv1 hb2 (by omega) (by omega); omega
      have HV : Hid (valL b (ds.drop (k - 1)) = min 1000000000001 (valL b (ds.drop k) * b + ds[k-1])) := by
        have := valL_drop b ds (k - 1) hkl; rw [show k - 1 + 1 = k by omega] at this; exact this
      subst hA
      go_wp2_with (go_at_call 94; refine (l00Min_any _ _ _).mono ?_; rintro e w' ⟨rfl, rfl⟩)
      go_round
      case rel => exact ⟨k - 1, by omega, by congr 1; omega, by rw [HV.out]⟩
      case measure => simp [intOf]; omega
end Go.Proofs.Ytmmiahgmdllgdaa

namespace Go.Proofs.Ytmmiahgmdllgdaa
open Go.RowKit
/-- a register in memory at address p -/
def RegAt (w : World) (p : Addr) (b : Int) (A : Option Addr) (n c : Nat) : Prop := w.cell? p = some (.int .i64 b) ∧ w.cell? ⟨p.block, p.off + 1, none⟩ = some (.slice A n c)
set_option maxHeartbeats 400000 in
theorem l02Ok_any (p : Addr) (b : Int) (A : Option Addr) (n c : Nat) (ds : List Int) (w : World) (hp : RegAt w p b A n c) (hr : RI w A n ds) (hm : n ≤ 9223372036854775807) :
    Calls Try.prog 39 #[.pointer (some p)] w fun e w' => e = .returned (.bool (vreg b ds)) ∧ ∃ m, w' = w.drewN m := by
  obtain ⟨hc0, hc1⟩ := hp
  have HL := Lib.hid hr.1
  rcases hb : betB b 2 16 with _ | _
  · have HF : Hid (vreg b ds = false) := by simp [Hid, vreg, hb]
    have k0 := Lib.hid (fun W => calls_val (l02Base_any b W) (congrArg Value.bool hb)); clear hb
    go_enter Try.func39, Try.ntmps39
    go_wp2_with fail
    go_quiet ((go_at_call 97; exact quiet_left (k0.out _)))
    go_wp2
    go_ret
    exact ⟨ret_bool HF.out.symm, _, rfl⟩
  have hbb := betB_iff.1 hb
  rcases hd : (digB b ds && betB ds.length 1 16) with _ | _
  · have HF : Hid (vreg b ds = false) := by simp only [Hid, vreg]; rw [Bool.and_assoc (betB b 2 16), Bool.and_comm (betB _ 1 16), hd]; simp
    have k0 := Lib.hid (fun W => calls_val (l02Base_any b W) (congrArg Value.bool hb)); clear hb
    have k1 := Lib.hid (fun m => calls_val (l02Digits_any b A n c ds (w.drewN m) hr hm hbb.1 hbb.2) (congrArg Value.bool hd)); clear hd
    go_enter Try.func39, Try.ntmps39
    go_wp2_with fail
    go_quiet ((first | (go_at_call 97; exact quiet_left (k0.out _)) | (go_at_call 98; exact quiet_left (k1.out _))))
    go_wp2
    go_ret
    exact ⟨ret_bool HF.out.symm, _, rfl⟩
  · have HF : Hid (vreg b ds = decide (valL b ds ≤ 1000000000000)) := by simp only [Hid, vreg]; rw [Bool.and_assoc (betB b 2 16), Bool.and_comm (betB _ 1 16), hd, hb]; simp
    have k0 := Lib.hid (fun W => calls_val (l02Base_any b W) (congrArg Value.bool hb)); clear hb
    have k1 := Lib.hid (fun m => calls_val (l02Digits_any b A n c ds (w.drewN m) hr hm hbb.1 hbb.2) (congrArg Value.bool hd))
    have hdd := Bool.and_eq_true _ _ ▸ hd
    have hd1 := digB_iff.1 hdd.1
    have hd2 := betB_iff.1 hdd.2
    rw [hr.1] at hd2
    clear hd hdd
    have k2 := Lib.hid (fun m => l02Value_any b A n c ds (w.drewN m) hbb.1 hbb.2 hd1 hr (by omega)); clear hd1
    go_enter Try.func39, Try.ntmps39
    go_wp2_with fail
    go_quiet ((first | (go_at_call 97; exact quiet_left (k0.out _)) | (go_at_call 98; exact quiet_left (k1.out _)) | (go_at_call 99; exact quiet_left (k2.out _))))
    go_wp2
    go_ret
    exact ⟨ret_bool HF.out.symm, _, rfl⟩
end Go.Proofs.Ytmmiahgmdllgdaa

namespace Go.Proofs.Ytmmiahgmdllgdaa
open Go.RowKit
/-- 'left - n', or -1 -/
def lft (left n : Int) : Int := if left - n < 0 then -1 else left - n
theorem lft_bd (left n : Int) (h : -1 ≤ left) (hn : 0 ≤ n) : -1 ≤ lft left n ∧ lft left n ≤ left := by unfold lft; split <;> omega
theorem take_eq_of_succ {ds es : List Int} {k : Nat} (h : ds.take k = es.take k) (h1 : k < ds.length) (h2 : k < es.length) (h3 : ds[k] = es[k]) : ds.take (k + 1) = es.take (k + 1) := by
  rw [List.take_succ_eq_append_getElem h1, List.take_succ_eq_append_getElem h2, h, h3]
theorem bcellB {B : Nat} {W w1 : World} (hb : Below B W w1) : (∀ b o, b < B → w1.cell? ⟨b, o, none⟩ = W.cell? ⟨b, o, none⟩) ∧ (∀ b o, b < B → w1.frozen? ⟨b, o, none⟩ = W.frozen? ⟨b, o, none⟩) :=
  ⟨fun b o h => hb.cell (p := ⟨b, o, none⟩) h, fun b o h => hb.frozen (p := ⟨b, o, none⟩) h⟩
theorem bcell {W w1 : World} (hb : Below W.heap.size W w1) : (∀ b o, b < W.heap.size → w1.cell? ⟨b, o, none⟩ = W.cell? ⟨b, o, none⟩) ∧ (∀ b o, b < W.heap.size → w1.frozen? ⟨b, o, none⟩ = W.frozen? ⟨b, o, none⟩) :=
  ⟨fun b o h => hb.cell (p := ⟨b, o, none⟩) h, fun b o h => hb.frozen (p := ⟨b, o, none⟩) h⟩
theorem OwnI.setBelow {w : World} {base : Nat} {v : Value} {ds : List Int} (h : OwnI w base v ds) {a : Addr} (ha : a.block < base) (u : Value) : OwnI (w.setCell a u) base v ds := ownsRow_setCell_below h ha u
theorem set_fill (xs : List Value) (n k : Nat) (z u : Value) (h : k < n) (hl : xs.length = k) : (xs ++ List.replicate (n - k) z).set k u = (xs ++ [u]) ++ List.replicate (n - (k + 1)) z := by
  obtain ⟨m, hm⟩ : ∃ m, n - k = m + 1 := ⟨n - k - 1, by omega⟩
  rw [List.set_append_right _ _ (by omega), hm, hl, Nat.sub_self, List.replicate_succ, List.set_cons_zero, show n - (k + 1) = m by omega]; simp
theorem madeI (n : Nat) : (madeCells (Value.int .i64 0).cells (n * 1)).toList = List.replicate n (.int .i64 0) := by
  rw [Nat.mul_one]; exact toList_madeCells_one _ n
end Go.Proofs.Ytmmiahgmdllgdaa

namespace Go.Proofs.Ytmmiahgmdllgdaa
open Go.RowKit
def lft3 (left n1 n2 n3 : Int) : Int := if lft left n1 < 0 then -1 else if lft (lft left n1) n2 < 0 then -1 else lft (lft (lft left n1) n2) n3
end Go.Proofs.Ytmmiahgmdllgdaa

namespace Go.Proofs.Ytmmiahgmdllgdaa
open Go.RowKit
structure Reg where
  base : Int
  digits : List Int
structure Tri where
  a : Reg
  b : Reg
  s : Reg
  carry : Int
instance : Inhabited Reg := ⟨⟨0, []⟩⟩
instance : Inhabited Tri := ⟨⟨default, default, default, 0⟩⟩
def Reg.ok (r : Reg) : Bool := vreg r.base r.digits
/-- a register in memory -/
def RegM (w : World) (p : Addr) (r : Reg) : Prop := ∃ A c, RegAt w p r.base A r.digits.length c ∧ RI w A r.digits.length r.digits
def TriM (w : World) (p : Addr) (t : Tri) : Prop := RegM w p t.a ∧ RegM w ⟨p.block, p.off + 2, none⟩ t.b ∧ RegM w ⟨p.block, p.off + 4, none⟩ t.s ∧ w.cell? ⟨p.block, p.off + 6, none⟩ = some (.int .i64 t.carry)
/-- a slice whose elements of sz cells lie as E says -/
def RL {α : Type} (E : World → Addr → α → Prop) (sz : Nat) (w : World) (A : Option Addr) (n : Nat) (xs : List α) : Prop :=
  xs.length = n ∧ (0 < n → ∃ ad, A = some ad ∧ ad.block < w.heap.size ∧ ∀ (k : Nat) (h : k < xs.length), E w (ad.add (k * sz)) xs[k])
def Steady {α : Type} (E : World → Addr → α → Prop) : Prop := ∀ (w w' : World) (p : Addr) (x : α), p.block < w.heap.size → Below w.heap.size w w' → E w p x → E w' p x
theorem RL.below {α : Type} {E : World → Addr → α → Prop} (hE : Steady E) {sz : Nat} {w w' : World} {A : Option Addr} {n : Nat} {xs : List α} (h : RL E sz w A n xs) (hb : Below w.heap.size w w') : RL E sz w' A n xs := by
  refine ⟨h.1, fun hn => ?_⟩
  obtain ⟨ad, e, hl, hc⟩ := h.2 hn
  exact ⟨ad, e, Nat.lt_of_lt_of_le hl hb.size, fun k hk => hE _ _ _ _ (by rw [block_of_add]; exact hl) hb (hc k hk)⟩
theorem RL.at_ {α : Type} {E : World → Addr → α → Prop} {sz : Nat} {w : World} {A : Option Addr} {n : Nat} {xs : List α} (h : RL E sz w A n xs) {k : Nat} (hk : k < n) : ∃ ad, A = some ad ∧ ad.block < w.heap.size ∧ ∃ h : k < xs.length, E w (ad.add (k * sz)) xs[k] := by
  obtain ⟨ad, e, hl, hc⟩ := h.2 (by omega)
  have : k < xs.length := by have := h.1; omega
  exact ⟨ad, e, hl, this, hc k this⟩
theorem steady_RegM : Steady RegM := by
  rintro w w' p r hp hb ⟨A, c, ⟨h1, h2⟩, h3⟩
  exact ⟨A, c, ⟨by rw [hb.cell hp]; exact h1, by rw [hb.cell (by exact hp)]; exact h2⟩, h3.below hb⟩
theorem steady_TriM : Steady TriM := by
  rintro w w' p t hp hb ⟨h1, h2, h3, h4⟩
  exact ⟨steady_RegM _ _ _ _ hp hb h1, steady_RegM _ _ _ _ (by exact hp) hb h2, steady_RegM _ _ _ _ (by exact hp) hb h3, by rw [hb.cell (by exact hp)]; exact h4⟩
def vlike (r r0 : Reg) : Bool := r.ok && r.base == r0.base && decide ((r.digits.length : Int) = r0.digits.length)
theorem chain3 (a b c : Bool) : a = false ∨ (a = true ∧ b = false) ∨ (a = true ∧ b = true ∧ c = false) ∨ (a = true ∧ b = true ∧ c = true) := by cases a <;> cases b <;> cases c <;> simp
theorem chain4 (a b c d : Bool) : a = false ∨ (a = true ∧ b = false) ∨ (a = true ∧ b = true ∧ c = false) ∨ (a = true ∧ b = true ∧ c = true ∧ d = false) ∨ (a = true ∧ b = true ∧ c = true ∧ d = true) := by cases a <;> cases b <;> cases c <;> cases d <;> simp
def SmallReg (r : Reg) : Prop := r.digits.length ≤ 9223372036854775807
theorem l02Ok_reg (p : Addr) (r : Reg) (w : World) (hp : RegM w p r) (hm : SmallReg r) (v : Bool) (hv : r.ok = v) :
    Calls Try.prog 39 #[.pointer (some p)] w fun e w' => e = .returned (.bool v) ∧ ∃ m, w' = w.drewN m := by
  obtain ⟨A, c, h1, h2⟩ := hp
  subst hv
  exact l02Ok_any p r.base A r.digits.length c r.digits w h1 h2 (by unfold SmallReg at hm; omega)
theorem quiet_of_ex {P : Program} {f : FuncId} {args : Array Value} {w : World} {n : Nat} {v : Value}
    (h : Calls P f args (w.drewN n) fun e w' => e = .returned v ∧ ∃ m, w' = (w.drewN n).drewN m) : Calls P f args (w.drewN n) fun e w'' => e = .returned v ∧ ∃ m, w'' = w.drewN m := Calls.quiet_of h
end Go.Proofs.Ytmmiahgmdllgdaa

namespace Go.Proofs.Ytmmiahgmdllgdaa
open Go.RowKit Go.Sort
theorem quietB {P : Program} {f : FuncId} {args : Array Value} {w : World} {d : Nat} {os : Array Obj} {v : Value}
    (h : ∀ W, Below w.heap.size w W → Calls P f args W fun e w' => e = .returned v ∧ Below W.heap.size W w') :
    Calls P f args (grow (redrawn w d) os) fun e w'' => e = .returned v ∧ ∃ p : Regrown, w'' = grow (redrawn w p.d) p.os := Calls.regrown_of (h _ (below_regrown w d os))
theorem quiet_add_ex {P : Program} {f : FuncId} {args : Array Value} {w : World} {a n : Nat} {v : Value}
    (h : Calls P f args (w.drewN (a + n)) fun e w' => e = .returned v ∧ ∃ m, w' = (w.drewN (a + n)).drewN m) :
    Calls P f args (w.drewN (a + n)) fun e w'' => e = .returned v ∧ ∃ m, w'' = w.drewN (a + m) :=
  h.mono fun _ _ ⟨he, m, hm⟩ => ⟨he, n + m, by rw [hm, World.drewN_drewN, Nat.add_assoc]⟩
def SmallTri (t : Tri) : Prop := SmallReg t.a ∧ SmallReg t.b ∧ SmallReg t.s
def triGood (r0 : Reg) (t : Tri) : Bool := vlike t.a r0 && vlike t.b r0 && vlike t.s r0 && betB t.carry 0 1
def vtrials (ts : List Tri) : Bool := ts.all (triGood (ts.headD default).a) && betB ts.length 1 60
theorem all_take_succ {α : Type} {p : α → Bool} {ds : List α} {k : Nat} (h : k < ds.length) : (ds.take (k + 1)).all p = ((ds.take k).all p && p ds[k]) := by
  rw [List.take_succ_eq_append_getElem h, List.all_append]; simp only [List.all_cons, List.all_nil, Bool.and_true]
theorem all_not {α : Type} {p : α → Bool} {ds : List α} {k : Nat} (h : k < ds.length) (h1 : p ds[k] = false) : ds.all p = false := by
  simp only [List.all_eq_false]; exact ⟨ds[k], List.getElem_mem _, by simp [h1]⟩
theorem addr_add_zero (a : Addr) : a.add 0 = a := by simp [Addr.add]
theorem headD_get {ts : List Tri} (h : 0 < ts.length) : ts.headD default = ts[0] := by cases ts with
  | nil => simp at h
  | cons t ts => rfl
end Go.Proofs.Ytmmiahgmdllgdaa

namespace Go.Proofs.Ytmmiahgmdllgdaa
open Go.RowKit Go.Sort
theorem TriM.cells {w : World} {p : Addr} {t : Tri} (h : TriM w p t) : ∃ A1 c1 A2 c2 A3 c3, (w.cell? p = some (.int .i64 t.a.base) ∧ w.cell? ⟨p.block, p.off + 1, none⟩ = some (.slice A1 t.a.digits.length c1) ∧ w.cell? ⟨p.block, p.off + 2, none⟩ = some (.int .i64 t.b.base) ∧ w.cell? ⟨p.block, p.off + 3, none⟩ = some (.slice A2 t.b.digits.length c2) ∧
    w.cell? ⟨p.block, p.off + 4, none⟩ = some (.int .i64 t.s.base) ∧ w.cell? ⟨p.block, p.off + 5, none⟩ = some (.slice A3 t.s.digits.length c3) ∧ w.cell? ⟨p.block, p.off + 6, none⟩ = some (.int .i64 t.carry)) ∧
    RI w A1 t.a.digits.length t.a.digits ∧ RI w A2 t.b.digits.length t.b.digits ∧ RI w A3 t.s.digits.length t.s.digits := by
  obtain ⟨⟨A1, c1, ⟨h1, h2⟩, r1⟩, ⟨A2, c2, ⟨h3, h4⟩, r2⟩, ⟨A3, c3, ⟨h5, h6⟩, r3⟩, h7⟩ := h
  exact ⟨A1, c1, A2, c2, A3, c3, ⟨h1, h2, h3, h4, h5, h6, h7⟩, r1, r2, r3⟩
theorem width_any (b : Int) (A : Option Addr) (n c : Nat) (w : World) :
    Calls Try.prog 49 #[.agg #[.int .i64 b, .slice A n c]] w fun e w' => e = .returned (.int .i64 n) ∧ Below w.heap.size w w' := by
  go_enter Try.func49, Try.ntmps49
  go_wp2
  go_ret
  exact ⟨rfl, (Below.refl _ _).alloc (Nat.le_refl _) _⟩
end Go.Proofs.Ytmmiahgmdllgdaa

namespace Go.Proofs.Ytmmiahgmdllgdaa
open Go.RowKit Go.Sort
/-- a register under construction in block G -/
def SumAt (w : World) (G : Nat) (base : Int) (v : Value) (ds : List Int) : Prop := w.heap[G]? = some (.cells #[.int .i64 base, v] 26 (0, 0)) ∧ OwnI w (G + 1) v ds
theorem own_ne {w : World} {G : Nat} {v : Value} {ds : List Int} (h : OwnI w (G + 1) v ds) : ∀ k, v.ownBlock = some k → G + 1 ≤ k := by
  intro k hk
  rcases h.2 with ⟨rfl, _⟩ | ⟨g, cap, cur, rfl, hbg, _⟩
  · simp [Value.ownBlock] at hk
  · have : g = k := by simpa [Value.ownBlock] using hk
    omega
theorem SumAt.lt {w : World} {G : Nat} {base : Int} {v : Value} {ds : List Int} (h : SumAt w G base v ds) : G < w.heap.size := (Array.getElem?_eq_some_iff.1 h.1).1
theorem SumAt.far {w w1 : World} {G : Nat} {base : Int} {v : Value} {ds : List Int} {o : Obj} (h : SumAt w G base v ds) (hg : (w.alloc o).grownBy w1 v.ownBlock) :
    w1.heap[G]? = some (.cells #[.int .i64 base, v] 26 (0, 0)) ∧ w1.cell? ⟨G, 0, none⟩ = some (.int .i64 base) ∧ w1.cell? ⟨G, 1, none⟩ = some v ∧ w1.frozen? ⟨G, 1, none⟩ = false := by
  have h1 : w1.heap[G]? = some (.cells #[.int .i64 base, v] 26 (0, 0)) := by
    rw [hg.block G (by simp; have := h.lt; omega) (fun e => by have := own_ne h.2 G e.symm; omega), heap_alloc_old _ _ h.lt]; exact h.1
  exact ⟨h1, by rw [cell_of_row _ _ _ _ _ _ h1]; rfl, by rw [cell_of_row _ _ _ _ _ _ h1]; rfl, frozen_of_row _ _ _ _ _ h1⟩
theorem SumAt.cells {w : World} {G : Nat} {base : Int} {v : Value} {ds : List Int} (h : SumAt w G base v ds) : w.cell? ⟨G, 0, none⟩ = some (.int .i64 base) ∧ w.cell? ⟨G, 1, none⟩ = some v ∧ w.frozen? ⟨G, 1, none⟩ = false :=
  ⟨by rw [cell_of_row _ _ _ _ _ _ h.1]; rfl, by rw [cell_of_row _ _ _ _ _ _ h.1]; rfl, frozen_of_row _ _ _ _ _ h.1⟩
theorem SumAt.step {w w1 : World} {G : Nat} {base x : Int} {v v' : Value} {ds : List Int} {o : Obj} (h : SumAt w G base v ds) (hg : (w.alloc o).grownBy w1 v.ownBlock)
    (ho : w1.ownsRow (G + 1) 2 1 v' (ds.length + 1) (ds.map (Value.int .i64) ++ [.int .i64 x])) :
    SumAt (w1.setCell ⟨G, 1, none⟩ v') G base v' (ds ++ [x]) ∧ ∀ B, B ≤ G → Below B w (w1.setCell ⟨G, 1, none⟩ v') := by
  have hlt := h.lt
  refine ⟨⟨?_, ?_⟩, fun B hB => ?_⟩
  · rw [heap_setCell_same _ _ _ _ _ _ (h.far hg).1]; rfl
  · refine OwnI.setBelow ?_ (by simp) v'
    unfold OwnI; simpa using ho
  · refine Below.setCell ?_ (by exact hB) _
    exact ((Below.refl _ _).alloc (by omega) _).grown hg (by simp; omega) (fun k hk => by have := own_ne h.2 k hk; omega)
theorem OwnI.ri {w : World} {base n c : Nat} {A : Option Addr} {ds : List Int} (h : OwnI w base (.slice A n c) ds) : RI w A n ds := by
  obtain ⟨A', c', h1, h2, -⟩ := h.reads
  injection h1 with h1 h3 h4
  rw [h1, h3]; exact h2
theorem wrapI64 {n : Int} (h : -9223372036854775808 ≤ n ∧ n ≤ 9223372036854775807) : IntKind.i64.wrap n = n := by
  rw [IntKind.wrap_i64]; omega
theorem getD_of {ds : List Int} {k : Nat} (h : k < ds.length) : ds.getD k 0 = ds[k] := by simp [List.getD, List.getElem?_eq_getElem h]
end Go.Proofs.Ytmmiahgmdllgdaa

namespace Go.Proofs.Ytmmiahgmdllgdaa
open Go.RowKit Go.Sort
/-- a row of int64 that the call owns -/
def rowI (A : Option Addr) (c : Nat) (ds : List Int) : Ent := .row (.slice A ds.length c) 2 1 ds.length (ds.map (Value.int .i64))
def zTri : Tri := ⟨⟨0, []⟩, ⟨0, []⟩, ⟨0, []⟩, 0⟩
theorem row_form {w : World} {b : Nat} {e : TypeId} {size n : Nat} {v : Value} {xs : List Value} (h : w.ownsRow b e size v n xs) : ∃ A c, v = .slice A n c := by
  rcases h.2 with ⟨rfl, h2⟩ | ⟨g, cap, cur, rfl, -⟩
  · exact ⟨none, 0, by rw [h2]⟩
  · exact ⟨_, _, rfl⟩
theorem Kn.riv {w0 w : World} {m : List Ent} {A : Option Addr} {c : Nat} {ds : List Int} (h : Kn w0 (rowI A c ds :: m) w) : RI w A ds.length ds := (Kn.ownI h).ri
theorem kn_pushI {ops : Array Oper} {rest : List Oper} {o : Oper} {a : Act} {Q : Exit → Act → World → Prop} {w0 w : World} {m : List Ent} (hgd : o.guard = none) (s x : Operand) (ho : o.op = .call { callee := .builtin .append, args := #[s, x], argTypes := #[24, 24] })
    (v : Value) (ds : List Int) (hs : a.eval s = v) {g c : Nat} {T' : TypeId} {z : Int} (hx : a.eval x = .slice (some ⟨g, 0, none⟩) 1 c)
    (hK : Kn w0 (.blk g [.int .i64 z] T' :: .row v 2 1 ds.length (ds.map (Value.int .i64)) :: m) w) (hl : ds.length ≤ 10000000)
    (h : ∀ v' w', Kn w0 (.row v' 2 1 (ds ++ [z]).length ((ds ++ [z]).map (Value.int .i64)) :: m) w' → wpList Try.prog ops Q rest (a.put o.dst v') w') : wpList Try.prog ops Q (o :: rest) a w := by
  refine kn_app tpI hgd s x ho v ds.length (ds.map (Value.int .i64)) hs hx hK rfl (by simp [Value.oneCell']) (by omega) (by omega) (fun v' w' hK' => h v' w' ?_)
  rw [List.length_append, List.map_append, List.map_cons, List.map_nil]
  exact hK'
theorem kn_stepI {ops : Array Oper} {o : Oper} {a : Act} {Q : Exit → Act → World → Prop} {w0 w : World} {m : List Ent} {K : Act → World → Prop} {E : Prop} (hgd : o.guard = none) (s x : Operand) (ho : o.op = .call { callee := .builtin .append, args := #[s, x], argTypes := #[24, 24] })
    (v : Value) (ds : List Int) (hs : a.eval s = v) {g c : Nat} {T' : TypeId} {z : Int} (hx : a.eval x = .slice (some ⟨g, 0, none⟩) 1 c)
    (hK : Kn w0 (.blk g [.int .i64 z] T' :: .row v 2 1 ds.length (ds.map (Value.int .i64)) :: m) w) (hl : ds.length ≤ 10000000)
    (h : ∀ v' w', Kn w0 (.row v' 2 1 (ds ++ [z]).length ((ds ++ [z]).map (Value.int .i64)) :: m) w' → K (a.put o.dst v') w') : if Region.wanted o (yielded ops a.tmps) = true then Oper.wp Try.prog o a w K Q else E := by
  refine kn_step_app tpI hgd s x ho v ds.length (ds.map (Value.int .i64)) hs hx hK rfl (by simp [Value.oneCell']) (by omega) (by omega) (fun v' w' hK' => h v' w' ?_)
  rw [List.length_append, List.map_append, List.map_cons, List.map_nil]
  exact hK'
end Go.Proofs.Ytmmiahgmdllgdaa

namespace Go.Proofs.Ytmmiahgmdllgdaa
open Go.RowKit
section
variable {w0 w w' : World} {m : List Ent} {e : Ent}
theorem Kn.get (h : Kn w0 m w) (i : Nat) {e : Ent} (hi : m[i]? = some e) : e.holds w := h.ents e (List.mem_of_getElem? hi)
/-- a thing of the list, by its place, comes to the front -/
theorem Kn.front (h : Kn w0 m w) (i : Nat) {e : Ent} (hi : m[i]? = some e) : Kn w0 (e :: m.eraseIdx i) w := by
  refine h.perm ?_
  induction m generalizing i with
  | nil => simp at hi
  | cons a m ih =>
    cases i with
    | zero => simp at hi; subst hi; simp
    | succ i =>
      simp only [List.getElem?_cons_succ] at hi
      simp only [List.eraseIdx_cons_succ]
      have hp : m.Perm (e :: m.eraseIdx i) := by
        clear ih h
        induction m generalizing i with
        | nil => simp at hi
        | cons b m ih =>
          cases i with
          | zero => simp at hi; subst hi; simp
          | succ i =>
            simp only [List.getElem?_cons_succ] at hi
            exact ((ih i hi).cons b).trans (.swap _ _ _)
      exact (hp.cons a).trans (.swap _ _ _)
/-- some things are forgotten -/
theorem Kn.only (h : Kn w0 m w) {m' : List Ent} (hs : m'.Sublist m) : Kn w0 m' w :=
  ⟨h.below, fun x hx => h.ents x (hs.subset hx), fun x hx => h.own x (hs.subset hx), h.apart.sublist hs⟩
/-- blocks of different places are different ones -/
theorem Kn.ne (h : Kn w0 m w) (i j : Nat) {g g' : Nat} {l l' : List Value} {T T' : TypeId} (hi : m[i]? = some (.blk g l T)) (hj : m[j]? = some (.blk g' l' T')) (hne : i ≠ j) : g ≠ g' := by
  rintro rfl
  obtain ⟨hi1, hi2⟩ := List.getElem?_eq_some_iff.1 hi
  obtain ⟨hj1, hj2⟩ := List.getElem?_eq_some_iff.1 hj
  have hp := List.pairwise_iff_getElem.1 h.apart
  rcases Nat.lt_or_gt_of_ne hne with h3 | h3
  · exact hp i j hi1 hj1 h3 g (by rw [hi2]; exact rfl) (by rw [hj2]; exact rfl)
  · exact hp j i hj1 hi1 h3 g (by rw [hj2]; exact rfl) (by rw [hi2]; exact rfl)
/-- some things, by their places and in a new order, and all behind the first n -/
theorem Kn.sel (h : Kn w0 m w) (is : List Nat) (n : Nat) (h1 : is.Nodup) (h2 : ∀ i ∈ is, i < n) : Kn w0 (is.filterMap (fun i => m[i]?) ++ m.drop n) w := by
  have hsub : ∀ x ∈ is.filterMap (fun i => m[i]?) ++ m.drop n, x ∈ m := fun x hx => by
    rcases List.mem_append.1 hx with hx | hx
    · obtain ⟨i, -, hi⟩ := List.mem_filterMap.1 hx
      exact List.mem_of_getElem? hi
    · exact List.mem_of_mem_drop hx
  have hR : ∀ (i j : Nat) (a b : Ent), m[i]? = some a → m[j]? = some b → i ≠ j → ∀ k, a.fp k → ¬ b.fp k := fun i j a b hi hj hne k h1 h2 => by
    obtain ⟨hi1, hi2⟩ := List.getElem?_eq_some_iff.1 hi
    obtain ⟨hj1, hj2⟩ := List.getElem?_eq_some_iff.1 hj
    have hp := List.pairwise_iff_getElem.1 h.apart
    rcases Nat.lt_or_gt_of_ne hne with h3 | h3
    · exact hp i j hi1 hj1 h3 k (by rw [hi2]; exact h1) (by rw [hj2]; exact h2)
    · exact hp j i hj1 hi1 h3 k (by rw [hj2]; exact h2) (by rw [hi2]; exact h1)
  refine ⟨h.below, fun x hx => h.ents x (hsub x hx), fun x hx => h.own x (hsub x hx), List.pairwise_append.2 ⟨?_, h.apart.sublist (List.drop_sublist _ _), fun a ha b hb => ?_⟩⟩
  · refine List.pairwise_filterMap.2 (h1.imp ?_)
    intro i j hne a ha b hb
    exact hR i j a b ha hb hne
  · obtain ⟨i, hi, hia⟩ := List.mem_filterMap.1 ha
    obtain ⟨j, hj⟩ := List.getElem?_of_mem hb
    rw [List.getElem?_drop] at hj
    exact hR i (n + j) a b hia hj (by have := h2 i hi; omega)
/-- a store into a row that is owned -/
theorem Kn.rowSt {g c n size : Nat} {t : TypeId} {xs : List Value} (h : Kn w0 (.row (.slice (some ⟨g, 0, none⟩) n c) t size n xs :: m) w) (j : Nat) (v : Value) :
    Kn w0 (.row (.slice (some ⟨g, 0, none⟩) n c) t size n (xs.set j v) :: m) (w.setCell ⟨g, j, none⟩ v) := by
  refine h.upd ⟨rfl, rfl, rfl, by simp [World.setCell], fun k _ hk => Below.heap_setCell _ _ _ _ (fun e => hk (by subst e; rfl))⟩ ?_ (fun k hk => .inl hk)
  have h0 : w.ownsRow 0 t size (.slice (some ⟨g, 0, none⟩) n c) n xs := h.at0
  rcases h0.2 with ⟨h1, h2⟩ | ⟨g', cap, cur, hv, hb, hg, hn, hc, hs, ht⟩
  · cases h1
  injection hv with hv hv2 hv3
  injection hv with hv
  injection hv with hv hv4
  subst hv; subst hv3
  refine ⟨by rw [List.length_set]; exact h0.1, .inr ⟨g, c, cur.setIfInBounds j v, rfl, hb, ?_, hn, hc, by simpa using hs, ?_⟩⟩
  · show (w.setCell ⟨g, j, none⟩ v).heap[g]? = some (.cells (cur.setIfInBounds j v) t (0, 0))
    simp [World.setCell, Array.getElem?_modify, hg]
  · rw [Array.toList_setIfInBounds, List.take_set, ht]
theorem Kn.rowCell {g c n size : Nat} {t : TypeId} {xs : List Value} (h : Kn w0 (.row (.slice (some ⟨g, 0, none⟩) n c) t size n xs :: m) w) {j : Nat} {u : Value} (hu : xs[j]? = some u) :
    w.cell? ⟨g, j, none⟩ = some u ∧ w.frozen? ⟨g, j, none⟩ = false := by
  have h0 : w.ownsRow 0 t size (.slice (some ⟨g, 0, none⟩) n c) n xs := h.at0
  refine ⟨by have := h0.cells (g := g) rfl j u hu; rwa [add_zero_block] at this, ?_⟩
  rcases h0.2 with ⟨h1, h2⟩ | ⟨g', cap, cur, hv, hb, hg, -⟩
  · cases h1
  injection hv with hv hv2 hv3
  injection hv with hv
  injection hv with hv hv4
  subst hv
  simp [World.frozen?, hg]
theorem Kn.rowForm {v : Value} {n size : Nat} {t : TypeId} {xs : List Value} (h : Kn w0 (.row v t size n xs :: m) w) (hn : 0 < n) : ∃ g c, v = .slice (some ⟨g, 0, none⟩) n c := by
  have h0 : w.ownsRow 0 t size v n xs := h.at0
  rcases h0.2 with ⟨h1, h2⟩ | ⟨g', cap, cur, hv, -⟩
  · omega
  · exact ⟨_, _, hv⟩
end
theorem bodyPost.kn {P : Program} {f : Func} {R : Ending → World → Prop} {x : Exit} {a : Act} {w0 w : World} {m : List Ent} (h : Kn w0 m w) (k : ∀ W, Kn w0 m W → bodyPost P f R x a W) : bodyPost P f R x a w := k w h
theorem Code.wp.kn {P : Program} {c : Code} {Q : Exit → Act → World → Prop} {a : Act} {w0 w : World} {m : List Ent} (h : Kn w0 m w) (k : ∀ W, Kn w0 m W → c.wp P Q a W) : c.wp P Q a w := k w h
/-- a store into numbers that are owned -/
theorem Kn.setI {w0 w : World} {m : List Ent} {g c : Nat} {ds : List Int} (h : Kn w0 (rowI (some ⟨g, 0, none⟩) c ds :: m) w) (j : Nat) (v : Int) :
    Kn w0 (rowI (some ⟨g, 0, none⟩) c (ds.set j v) :: m) (w.setCell ⟨g, j, none⟩ (.int .i64 v)) := by
  have h1 := Kn.rowSt h j (.int .i64 v)
  unfold rowI
  rw [List.length_set, List.map_set]
  exact h1
theorem Kn.cellIs {w0 w : World} {m : List Ent} {g : Nat} {cs : List Value} {T : TypeId} (h : Kn w0 (.blk g cs T :: m) w) (j : Nat) (v : Value) (hj : cs[j]? = some v) : w.cell? ⟨g, j, none⟩ = some v := (h.blkAt.1 j).trans hj
theorem box7' {w0 w : World} {m : List Ent} {g : Nat} {v0 v1 v2 v3 v4 v5 v6 : Value} {l : List Value} {T : TypeId} (h : Kn w0 (.blk g (v0 :: v1 :: v2 :: v3 :: v4 :: v5 :: v6 :: l) T :: m) w) :
    w.cell? ⟨g, 0, none⟩ = some v0 ∧ w.cell? ⟨g, 1, none⟩ = some v1 ∧ w.cell? ⟨g, 2, none⟩ = some v2 ∧ w.cell? ⟨g, 3, none⟩ = some v3 ∧ w.cell? ⟨g, 4, none⟩ = some v4 ∧ w.cell? ⟨g, 5, none⟩ = some v5 ∧ w.cell? ⟨g, 6, none⟩ = some v6 :=
  ⟨h.blkAt.1 0, h.blkAt.1 1, h.blkAt.1 2, h.blkAt.1 3, h.blkAt.1 4, h.blkAt.1 5, h.blkAt.1 6⟩
theorem box7at {w0 w : World} {m : List Ent} {g : Nat} {v0 v1 v2 v3 v4 v5 v6 : Value} {T : TypeId} (h : Kn w0 m w) (i : Nat) (hi : m[i]? = some (.blk g [v0, v1, v2, v3, v4, v5, v6] T)) :
    w.cell? ⟨g, 0, none⟩ = some v0 ∧ w.cell? ⟨g, 1, none⟩ = some v1 ∧ w.cell? ⟨g, 2, none⟩ = some v2 ∧ w.cell? ⟨g, 3, none⟩ = some v3 ∧ w.cell? ⟨g, 4, none⟩ = some v4 ∧ w.cell? ⟨g, 5, none⟩ = some v5 ∧ w.cell? ⟨g, 6, none⟩ = some v6 := box7' (h.front i hi)
end Go.Proofs.Ytmmiahgmdllgdaa

namespace Go.Proofs.Ytmmiahgmdllgdaa
open Go.RowKit Go.Sort
/-! things that are owned together, each apart from the others -/
def Apart (es : List Ent) : Prop := es.Pairwise (fun a b => ∀ k, a.fp k → ¬ b.fp k)
theorem bunAStable (es : List Ent) : ∀ w w' : World, ((∀ e ∈ es, e.holds w) ∧ Apart es) → w.heap.size ≤ w'.heap.size → (∀ k, (∃ e ∈ es, e.fp k) → w'.heap[k]? = w.heap[k]?) → ((∀ e ∈ es, e.holds w') ∧ Apart es) :=
  fun _ _ h hs hb => ⟨fun e he => Ent.stable (h.1 e he) hs (fun k hk => hb k ⟨e, he, hk⟩), h.2⟩
def bunA (es : List Ent) : Ent := .any (fun k => ∃ e ∈ es, e.fp k) (fun w => (∀ e ∈ es, e.holds w) ∧ Apart es) (bunAStable es)
section
variable {w0 w : World} {m es es' : List Ent} {e : Ent}
theorem Kn.bunAFlat (h : Kn w0 (bunA es :: m) w) : Kn w0 (es ++ m) w := by
  obtain ⟨ha, hb⟩ := List.pairwise_cons.1 h.apart
  obtain ⟨⟨h1, h2⟩, -⟩ := h.ents (bunA es) (List.mem_cons_self ..)
  refine ⟨h.below, fun x hx => ?_, fun x hx k hk => ?_, List.pairwise_append.2 ⟨h2, hb, fun a haa b hbb k hk => ha b hbb k ⟨a, haa, hk⟩⟩⟩
  · rcases List.mem_append.1 hx with hx | hx
    · exact h1 x hx
    · exact h.ents x (List.mem_cons_of_mem _ hx)
  · rcases List.mem_append.1 hx with hx | hx
    · exact h.own (bunA es) (List.mem_cons_self ..) k ⟨x, hx, hk⟩
    · exact h.own x (List.mem_cons_of_mem _ hx) k hk
theorem Kn.bunAOf (h : Kn w0 (es ++ m) w) : Kn w0 (bunA es :: m) w := by
  obtain ⟨ha, hb, hc⟩ := List.pairwise_append.1 h.apart
  refine ⟨h.below, fun x hx => ?_, fun x hx k hk => ?_, List.pairwise_cons.2 ⟨fun x hx k hk => ?_, hb⟩⟩
  · rcases List.mem_cons.1 hx with rfl | hx
    · exact ⟨⟨fun e he => h.ents e (List.mem_append_left _ he), ha⟩, fun k hk => by
        obtain ⟨e, he, hk⟩ := hk
        exact Ent.lt (h.ents e (List.mem_append_left _ he)) hk⟩
    · exact h.ents x (List.mem_append_right _ hx)
  · rcases List.mem_cons.1 hx with rfl | hx
    · obtain ⟨e, he, hk⟩ := hk
      exact h.own e (List.mem_append_left _ he) k hk
    · exact h.own x (List.mem_append_right _ hx) k hk
  · obtain ⟨e, he, hk⟩ := hk
    exact hc e he x hx k hk
theorem Kn.bunAPick (h : Kn w0 (bunA es :: m) w) (he : e ∈ es) : Kn w0 (e :: m) w := by
  obtain ⟨ha, hb⟩ := List.pairwise_cons.1 h.apart
  refine ⟨h.below, fun x hx => ?_, fun x hx k hk => ?_, List.pairwise_cons.2 ⟨fun x hx k hk => ?_, hb⟩⟩
  · rcases List.mem_cons.1 hx with rfl | hx
    · exact (h.ents (bunA es) (List.mem_cons_self ..)).1.1 _ he
    · exact h.ents x (List.mem_cons_of_mem _ hx)
  · rcases List.mem_cons.1 hx with rfl | hx
    · exact h.own (bunA es) (List.mem_cons_self ..) k ⟨_, he, hk⟩
    · exact h.own x (List.mem_cons_of_mem _ hx) k hk
  · exact ha x hx k ⟨_, he, hk⟩
theorem Kn.bunANil (h : Kn w0 m w) : Kn w0 (bunA [] :: m) w := Kn.bunAOf (es := []) h
theorem Kn.bunAPerm (h : Kn w0 (bunA es :: m) w) (hp : es.Perm es') : Kn w0 (bunA es' :: m) w := Kn.bunAOf (h.bunAFlat.perm (hp.append_right m))
theorem Kn.bunAAdd (h : Kn w0 (e :: bunA es :: m) w) : Kn w0 (bunA (es ++ [e]) :: m) w := by
  have h1 : Kn w0 (es ++ (e :: m)) w := Kn.bunAFlat h.sw1
  refine Kn.bunAOf ?_
  rw [List.append_assoc]
  exact h1
theorem Kn.bunAOut (h : Kn w0 (bunA (e :: es) :: m) w) : Kn w0 (e :: bunA es :: m) w := by
  have h1 : Kn w0 (e :: (es ++ m)) w := h.bunAFlat
  have h2 : Kn w0 (es ++ (e :: m)) w := h1.perm List.perm_middle.symm
  exact (Kn.bunAOf h2).sw1
end
end Go.Proofs.Ytmmiahgmdllgdaa

namespace Go.Proofs.Ytmmiahgmdllgdaa
open Go.RowKit
/-- the decimal form -/
def dec (n : Int) : List UInt8 := Lib.itoa n
def digs (u : Nat) : List UInt8 := if u = 0 then [] else Lib.decDigits u
theorem digs_step (u : Nat) (h : u ≠ 0) : digs u = digs (u / 10) ++ [UInt8.ofNat (48 + u % 10)] := by
  unfold digs
  rw [if_neg h]
  by_cases h1 : u < 10
  · rw [if_pos (by omega), Lib.decDigits_one h1, Nat.mod_eq_of_lt h1]; rfl
  · rw [if_neg (by omega)]
    conv => lhs; rw [Lib.decDigits, dif_neg h1]
theorem digs_len (n : Int) (h0 : -9223372036854775808 ≤ n) (h1 : n ≤ 9223372036854775807) : (digs n.natAbs).length ≤ 21 := by
  have h := Lib.itoa_length_le n h0 h1
  unfold digs
  split
  · simp
  · by_cases hn : n < 0
    · unfold Lib.itoa at h; rw [if_pos hn] at h; simp at h; omega
    · unfold Lib.itoa at h; rw [if_neg hn] at h
      have : n.natAbs = n.toNat := by omega
      rw [this]; omega
theorem dec_of (n : Int) : dec n = if n = 0 then [48] else if n < 0 then 45 :: digs n.natAbs else digs n.natAbs := by
  unfold dec Lib.itoa digs
  by_cases h0 : n = 0
  · subst h0; rw [if_pos rfl]; simp [Lib.decDigits_one]
  · rw [if_neg h0, if_neg (by omega : ¬ n.natAbs = 0)]
    by_cases hn : n < 0
    · rw [if_pos hn, if_pos hn]
    · rw [if_neg hn, if_neg hn, show n.natAbs = n.toNat by omega]
theorem ofNat_toNat48 (d : Nat) (h : d < 10) : ((UInt8.ofNat (48 + d)).toNat : Int) = 48 + (d : Int) := by
  simp [UInt8.toNat_ofNat]; omega
theorem tmod_neg10 (u : Nat) : (-(u : Int)).tmod 10 = -((u % 10 : Nat) : Int) := by
  rw [Int.neg_tmod]; rfl
theorem tdiv_neg10 (u : Nat) : (-(u : Int)).tdiv 10 = -((u / 10 : Nat) : Int) := by
  rw [Int.neg_tdiv]; rfl
theorem OwnB.lit1 (w : World) (b : UInt8) (base : Nat) (hb : base ≤ w.heap.size) : OwnB (w.alloc (.cells #[byteV b] 5)) base (.slice (some ⟨w.heap.size, 0, none⟩) 1 1) [b] := World.ownsRow_lit w #[byteV b] 1 hb (by decide) rfl
theorem OwnB.cells_at {w : World} {base g c n : Nat} {ds : List UInt8} (h : OwnB w base (.slice (some ⟨g, 0, none⟩) n c) ds) : RB w (some ⟨g, 0, none⟩) ds.length ds ∧ g < w.heap.size := by
  rcases h.2 with ⟨h1, _⟩ | ⟨g', cap, cur, h1, hb, hg, hnc, _, hcs, htake⟩
  · cases h1
  · injection h1 with h1 h2 h3; injection h1 with h1; injection h1 with h1; subst h1
    exact ⟨⟨rfl, fun _ => ⟨_, rfl, (Array.getElem?_eq_some_iff.1 hg).1, fun j u hu => h.cells (g := g) rfl j (byteV u) (by simp [hu])⟩⟩, (Array.getElem?_eq_some_iff.1 hg).1⟩
theorem byteV_one (bs : List UInt8) : ∀ u ∈ bs.map byteV, u.oneCell' = true := by
  intro u hu; obtain ⟨b, -, rfl⟩ := List.mem_map.1 hu; rfl
theorem byte48 (u : Nat) : byteV (UInt8.ofNat (48 + u % 10)) = .int .u8 (48 + (u : Int) % 10) := by
  unfold byteV; rw [ofNat_toNat48 (u % 10) (by omega)]; rfl
theorem ret_str {a b : ByteArray} (h : a = b) : Ending.returned (.string a) = .returned (.string b) := by rw [h]
end Go.Proofs.Ytmmiahgmdllgdaa

namespace Go.Proofs.Ytmmiahgmdllgdaa
open Go.RowKit Go.Sort
/-- strconv's table stands in memory -/
def TB (w : World) : Prop := Lib.TabIs Try.prog w "internal/strconv.uint64pow10" .u64 Lib.pow10Tab
theorem TB.below {w w' : World} (h : TB w) (hb : Below w.heap.size w w') : TB w' := by
  unfold TB Lib.TabIs World.var? at *
  cases hg : Try.prog.globalNamed "internal/strconv.uint64pow10" with
  | none => rw [hg] at h; cases h
  | some g =>
    rw [hg] at h
    simp only [Option.bind_some] at h ⊢
    have hl : g < w.heap.size := by
      rcases Nat.lt_or_ge g w.heap.size with h1 | h1
      · exact h1
      · rw [Array.getElem?_eq_none h1] at h; cases h
    rw [hb.block g hl]; exact h
theorem cat_bytes (a b : List UInt8) : (⟨a.toArray⟩ : ByteArray) ++ (⟨b.toArray⟩ : ByteArray) = ⟨(a ++ b).toArray⟩ := by
  apply ByteArray.ext; simp
theorem dec_len (n : Int) (h0 : -9223372036854775808 ≤ n) (h1 : n ≤ 9223372036854775807) : (dec n).length ≤ 21 := Lib.itoa_length_le n h0 h1
/-- the character of a digit -/
def dch (d : Int) : UInt8 := if d < 10 then UInt8.ofNat (48 + d.toNat) else UInt8.ofNat (87 + d.toNat)
def rtextL (b : Int) (ds : List Int) : List UInt8 := dec b ++ [58] ++ (ds.reverse.map dch)
def rtS (b : Int) (ds : List Int) : ByteArray := ⟨(rtextL b ds).toArray⟩
theorem rtS_nil (b : Int) : rtS b [] = (⟨(dec b).toArray⟩ : ByteArray) ++ (⟨#[58]⟩ : ByteArray) := by
  rw [show (#[58] : Array UInt8) = [58].toArray from rfl, cat_bytes]; simp [rtS, rtextL]
theorem rtS_step (b : Int) (ds : List Int) (k : Nat) (h : k < ds.length) : rtS b (ds.drop k) = rtS b (ds.drop (k + 1)) ++ (⟨[dch ds[k]].toArray⟩ : ByteArray) := by
  unfold rtS; rw [cat_bytes, List.drop_eq_getElem_cons h]; unfold rtextL; rw [List.reverse_cons, List.map_append, List.append_assoc (dec b ++ [58])]; rfl
theorem rtS_len (b : Int) (ds : List Int) : (rtS b ds).size = (dec b).length + 1 + ds.length := by
  unfold rtS rtextL; simp [ByteArray.size]; omega
theorem piece (d : Int) (h0 : 0 ≤ d) (h1 : d < 16) : (⟨#[48, 49, 50, 51, 52, 53, 54, 55, 56, 57, 97, 98, 99, 100, 101, 102]⟩ : ByteArray).extract d.toNat (d + 1).toNat = ⟨[dch d].toArray⟩ := by
  obtain ⟨m, rfl⟩ : ∃ m : Nat, d = (m : Int) := ⟨d.toNat, by omega⟩
  have hm : m < 16 := by omega
  have : ∀ m : Fin 16, (⟨#[48, 49, 50, 51, 52, 53, 54, 55, 56, 57, 97, 98, 99, 100, 101, 102]⟩ : ByteArray).extract ((m.val : Int)).toNat ((m.val : Int) + 1).toNat = ⟨[dch m.val].toArray⟩ := by decide
  exact this ⟨m, hm⟩
def rtext (r : Reg) : List UInt8 := if r.ok then rtextL r.base r.digits else []
end Go.Proofs.Ytmmiahgmdllgdaa

namespace Go.Proofs.Ytmmiahgmdllgdaa
open Go.RowKit Go.Sort
/-- the bytes of a string -/
def strB (s : ByteArray) : List UInt8 := s.data.toList
theorem strB_len (s : ByteArray) : (strB s).length = s.size := by simp [strB]
theorem strB_get (s : ByteArray) {k : Nat} (h : k < s.size) : s[k] = (strB s)[k]'(by rw [strB_len]; exact h) := by
  simp [strB]
  rfl
theorem strB_mk (bs : List UInt8) : strB ⟨bs.toArray⟩ = bs := by simp [strB]
theorem size_mk (bs : List UInt8) : (⟨bs.toArray⟩ : ByteArray).size = bs.length := by simp [ByteArray.size]
theorem strB_drop (s : ByteArray) (k : Nat) : strB (s.extract k s.size) = (strB s).drop k := by
  have h : (s.extract k s.size).data = s.data.extract k s.size := by simp
  unfold strB
  rw [h, Array.toList_extract, List.extract_eq_take_drop]
  rw [List.take_of_length_le]
  rw [List.length_drop, Array.length_toList]
  exact Nat.le_refl _
theorem size_zero {s : ByteArray} (h : s.size = 0) : s = ⟨#[]⟩ := by
  cases s with
  | mk a =>
    congr 1
    exact Array.eq_empty_of_size_eq_zero h
theorem str_nonempty {s : ByteArray} (h : 0 < s.size) : s.toList.isEmpty = false := by
  rw [ByteArray.toList_eq]
  cases he : s.data.toList with
  | nil =>
    have : s.data.toList.length = 0 := by rw [he]; rfl
    have h2 : s.data.toList.length = s.size := by rw [Array.length_toList]; rfl
    omega
  | cons a l => rfl
theorem strB_cons {s : ByteArray} (h : 0 < s.size) : strB s = s[0] :: (strB s).drop 1 := by
  have h1 : 0 < (strB s).length := by rw [strB_len]; exact h
  have h2 := strB_get s h
  rw [h2]
  have h3 := List.drop_eq_getElem_cons (l := strB s) (i := 0) h1
  simpa using h3
theorem strB_nil {s : ByteArray} (h : s.size = 0) : strB s = [] := by
  apply List.eq_nil_of_length_eq_zero; rw [strB_len]; exact h
theorem str_eq {s : ByteArray} {bs : List UInt8} : (⟨bs.toArray⟩ : ByteArray) = s ↔ bs = strB s := by
  constructor
  · intro h; rw [← h]; simp [strB]
  · intro h; rw [h]; cases s; simp [strB]
theorem strB_toList (s : ByteArray) : s.toList = strB s := by rw [ByteArray.toList_eq]; rfl
theorem strB_tail {s : ByteArray} : strB (s.extract 1 s.size) = (strB s).drop 1 := strB_drop s 1
theorem extract_size (s : ByteArray) (k : Nat) : (s.extract k s.size).size = s.size - k := by simp [ByteArray.size_extract]
theorem strB_extract (s : ByteArray) (i j : Nat) : strB (s.extract i j) = ((strB s).drop i).take (j - i) := by
  have h : (s.extract i j).data = s.data.extract i j := by simp
  unfold strB
  rw [h, Array.toList_extract, List.extract_eq_take_drop]
theorem strB_getD (s : ByteArray) {k : Nat} (h : k < s.size) : (strB s).getD k 0 = s[k] := by
  rw [strB_get s h]; simp [List.getD, List.getElem?_eq_getElem (show k < (strB s).length by rw [strB_len]; exact h)]
theorem wrapI {n : Int} (h : -9223372036854775808 ≤ n ∧ n ≤ 9223372036854775807) : IntKind.i64.wrap n = n := by
  rw [IntKind.wrap_i64]; omega
theorem wrapB {n : Int} (h : 0 ≤ n ∧ n < 256) : IntKind.u8.wrap n = n := by
  simp [IntKind.wrap, IntKind.bits, IntKind.signed]; omega
theorem wrap64_of {n : Int} (h : -9223372036854775808 ≤ n ∧ n ≤ 9223372036854775807) : wrap64 n = n := by unfold wrap64; omega
end Go.Proofs.Ytmmiahgmdllgdaa

namespace Go.Proofs.Ytmmiahgmdllgdaa
open Go.RowKit Go.Sort
def isD (b : UInt8) : Bool := decide (48 ≤ b.toNat ∧ b.toNat ≤ 57)
def foldD (l : List UInt8) : Nat := l.foldl (fun a b => 10 * a + (b.toNat - 48)) 0
def signOff : List UInt8 → List UInt8
  | [] => []
  | b :: tl => if b.toNat = 45 then tl else b :: tl
/-- the number that decimal digits say -/
def numOf (bs : List UInt8) : Int := if (signOff bs).length < bs.length then -(foldD (signOff bs) : Int) else (foldD (signOff bs) : Int)
def rdDec (bs : List UInt8) : Option Int := if decide (1 ≤ (signOff bs).length ∧ (signOff bs).length ≤ 18) && (signOff bs).all isD && decide (dec (numOf bs) = bs) then some (numOf bs) else none
theorem foldD_snoc (l : List UInt8) (b : UInt8) : foldD (l ++ [b]) = 10 * foldD l + (b.toNat - 48) := by simp [foldD]
theorem foldD_acc (l : List UInt8) (h : l.all isD = true) : ∀ acc : Nat, l.foldl (fun a b => 10 * a + (b.toNat - 48)) acc < (acc + 1) * 10 ^ l.length := by
  induction l with
  | nil => intro acc; simp
  | cons b l ih =>
    intro acc
    rw [List.all_cons, Bool.and_eq_true] at h
    have h3 := of_decide_eq_true (show decide (48 ≤ b.toNat ∧ b.toNat ≤ 57) = true from h.1)
    have h1 := ih h.2 (10 * acc + (b.toNat - 48))
    rw [List.foldl_cons, List.length_cons, Nat.pow_succ]
    have h4 : (10 * acc + (b.toNat - 48) + 1) * 10 ^ l.length ≤ (10 * (acc + 1)) * 10 ^ l.length := Nat.mul_le_mul_right _ (by omega)
    have h5 : 10 * (acc + 1) * 10 ^ l.length = (acc + 1) * (10 ^ l.length * 10) := by rw [Nat.mul_comm 10 (acc + 1), Nat.mul_assoc, Nat.mul_comm 10]
    omega
theorem foldD_bd (l : List UInt8) (h : l.all isD = true) : foldD l < 10 ^ l.length := by
  have := foldD_acc l h 0
  simpa [foldD] using this
theorem all_take {l : List UInt8} {k : Nat} (h : k < l.length) : (l.take (k + 1)).all isD = ((l.take k).all isD && isD l[k]) := by
  rw [List.take_succ_eq_append_getElem h, List.all_append]; simp
theorem isDigit_any (z : Nat) (b : UInt8) (hb : b.toNat = z) (w : World) : Calls Try.prog 130 #[.int .u8 (z : Int)] w fun e w' => e = .returned (.bool (isD b)) ∧ w = w' := by
  by_cases h1 : 48 ≤ z
  · by_cases h2 : z ≤ 57
    · have i1 : (48 : Int) ≤ (z : Int) := by omega
      have i2 : (z : Int) ≤ 57 := by omega
      have HD : Hid (isD b = true) := by simp only [Hid, isD, hb]; exact decide_eq_true ⟨h1, h2⟩
      go_enter Try.func130, Try.ntmps130
      go_wp2_with fail
      go_ret
      exact ⟨ret_bool HD.out.symm, rfl⟩
    · have i1 : (48 : Int) ≤ (z : Int) := by omega
      have i2 : ¬ (z : Int) ≤ 57 := by omega
      have HD : Hid (isD b = false) := by simp only [Hid, isD, hb]; exact decide_eq_false (by omega)
      go_enter Try.func130, Try.ntmps130
      go_wp2_with fail
      go_ret
      exact ⟨ret_bool HD.out.symm, rfl⟩
  · have i1 : ¬ (48 : Int) ≤ (z : Int) := by omega
    have HD : Hid (isD b = false) := by simp only [Hid, isD, hb]; exact decide_eq_false (by omega)
    go_enter Try.func130, Try.ntmps130
    go_wp2_with fail
    go_ret
    exact ⟨ret_bool HD.out.symm, rfl⟩
theorem l01Digit_any (z : Nat) (b : UInt8) (hb : b.toNat = z) (w : World) : Calls Try.prog 129 #[.int .u8 (z : Int)] w fun e w' => e = .returned (.bool (isD b)) ∧ w = w' := by
  by_cases h1 : 48 ≤ z
  · by_cases h2 : z ≤ 57
    · have i1 : (48 : Int) ≤ (z : Int) := by omega
      have i2 : (z : Int) ≤ 57 := by omega
      have HD : Hid (isD b = true) := by simp only [Hid, isD, hb]; exact decide_eq_true ⟨h1, h2⟩
      go_enter Try.func129, Try.ntmps129
      go_wp2_with fail
      go_ret
      exact ⟨ret_bool HD.out.symm, rfl⟩
    · have i1 : (48 : Int) ≤ (z : Int) := by omega
      have i2 : ¬ (z : Int) ≤ 57 := by omega
      have HD : Hid (isD b = false) := by simp only [Hid, isD, hb]; exact decide_eq_false (by omega)
      go_enter Try.func129, Try.ntmps129
      go_wp2_with fail
      go_ret
      exact ⟨ret_bool HD.out.symm, rfl⟩
  · have i1 : ¬ (48 : Int) ≤ (z : Int) := by omega
    have HD : Hid (isD b = false) := by simp only [Hid, isD, hb]; exact decide_eq_false (by omega)
    go_enter Try.func129, Try.ntmps129
    go_wp2_with fail
    go_ret
    exact ⟨ret_bool HD.out.symm, rfl⟩
theorem rdDec_len {bs : List UInt8} (h : ¬ (1 ≤ (signOff bs).length ∧ (signOff bs).length ≤ 18)) : rdDec bs = none := by
  unfold rdDec; rw [decide_eq_false h]; rfl
theorem rdDec_all {bs : List UInt8} (h : (signOff bs).all isD = false) : rdDec bs = none := by
  unfold rdDec; rw [h]; simp
def rdN (bs : List UInt8) : Int := (rdDec bs).getD 0
theorem rd_none {bs : List UInt8} (h : rdDec bs = none) : rdN bs = 0 ∧ (rdDec bs).isSome = false := by simp [rdN, h]
theorem rd_some {bs : List UInt8} {n : Int} (h : rdDec bs = some n) : rdN bs = n ∧ (rdDec bs).isSome = true := by simp [rdN, h]
end Go.Proofs.Ytmmiahgmdllgdaa

namespace Go.Proofs.Ytmmiahgmdllgdaa
open Go.RowKit Go.Sort
theorem tpS : TP 57 9 (.string ⟨#[]⟩) 1 16 := ⟨Try.underlying57, by kernel_rfl, rfl, by decide⟩
/-- a row of strings that is owned -/
def rowS (v : Value) (ss : List ByteArray) : Ent := .row v 9 1 ss.length (ss.map Value.string)
theorem Kn.rowS_at {w0 w : World} {m : List Ent} {A : Option Addr} {n c : Nat} {ss : List ByteArray} (h : Kn w0 (rowS (.slice A n c) ss :: m) w) {k : Nat} (hk : k < ss.length) :
    n = ss.length ∧ ∃ g, A = some ⟨g, 0, none⟩ ∧ w.cell? ⟨g, k, none⟩ = some (.string ss[k]) ∧ w0.heap.size ≤ g ∧ g < w.heap.size := by
  have h0 : w.ownsRow 0 9 1 (.slice A n c) ss.length (ss.map Value.string) := h.at0
  rcases h0.2 with ⟨hv, hn⟩ | ⟨g, cap, cur, hv, -, hg, -⟩
  · omega
  · injection hv with h1 h2 h3
    rw [h1] at h0
    have d1 := h0.cells (g := g) rfl k (.string ss[k]) (by simp [hk])
    rw [add_zero_block] at d1
    exact ⟨h2, g, h1, d1, h.own _ (List.mem_cons_self ..) g (by rw [h1]; rfl), (Array.getElem?_eq_some_iff.1 hg).1⟩
theorem kn_pushS {ops : Array Oper} {rest : List Oper} {o : Oper} {a : Act} {Q : Exit → Act → World → Prop} {w0 w : World} {m : List Ent} (hgd : o.guard = none) (s x : Operand) (ho : o.op = .call { callee := .builtin .append, args := #[s, x], argTypes := #[57, 57] })
    (v : Value) (ss : List ByteArray) (hs : a.eval s = v) {g c : Nat} {T' : TypeId} {z : ByteArray} (hx : a.eval x = .slice (some ⟨g, 0, none⟩) 1 c)
    (hK : Kn w0 (.blk g [.string z] T' :: rowS v ss :: m) w) (hl : ss.length ≤ 10000000)
    (h : ∀ v' w', Kn w0 (rowS v' (ss ++ [z]) :: m) w' → wpList Try.prog ops Q rest (a.put o.dst v') w') : wpList Try.prog ops Q (o :: rest) a w := by
  refine kn_app tpS hgd s x ho v ss.length (ss.map Value.string) hs hx hK rfl (by simp [Value.oneCell']) (by omega) (by omega) (fun v' w' hK' => h v' w' ?_)
  unfold rowS
  rw [List.length_append, List.map_append, List.map_cons, List.map_nil]
  exact hK'
/-- the parts of bytes between bytes -/
def splitB (k : Nat) : List UInt8 → List (List UInt8)
  | [] => [[]]
  | b :: tl => if b.toNat = k then [] :: splitB k tl else match splitB k tl with
    | [] => [[b]]
    | h :: t => (b :: h) :: t
def glue (p : List UInt8) : List (List UInt8) → List (List UInt8)
  | [] => [p]
  | h :: t => (p ++ h) :: t
theorem splitB_ne (k : Nat) (bs : List UInt8) : splitB k bs ≠ [] := by
  cases bs with
  | nil => simp [splitB]
  | cons b tl =>
    simp only [splitB]
    split
    · simp
    · split <;> simp
theorem glue_nil (l : List (List UInt8)) (h : l ≠ []) : glue [] l = l := by
  cases l with
  | nil => exact absurd rfl h
  | cons a t => rfl
theorem splitB_cons (k : Nat) (b : UInt8) (tl : List UInt8) : splitB k (b :: tl) = if b.toNat = k then [] :: splitB k tl else glue [b] (splitB k tl) := by
  simp only [splitB]
  split
  · rfl
  · cases splitB k tl <;> rfl
theorem glue_glue (p : List UInt8) (b : UInt8) (l : List (List UInt8)) : glue p (glue [b] l) = glue (p ++ [b]) l := by cases l <;> simp [glue]
theorem splitB_len (k : Nat) (bs : List UInt8) : (splitB k bs).length ≤ bs.length + 1 := by
  induction bs with
  | nil => simp [splitB]
  | cons b tl ih =>
    rw [splitB_cons]
    split
    · simp; omega
    · cases h : splitB k tl with
      | nil => simp [glue]
      | cons a t => rw [h] at ih; simp [glue] at ih ⊢; omega
theorem take_piece {bs : List UInt8} {f i : Nat} (h : i < bs.length) (hf : f ≤ i) : (bs.drop f).take (i + 1 - f) = (bs.drop f).take (i - f) ++ [bs[i]] := by
  rw [show i + 1 - f = (i - f) + 1 by omega, List.take_succ_eq_append_getElem (by rw [List.length_drop]; omega)]
  congr 2
  rw [List.getElem_drop]
  congr 1; omega
/-- the parts of bytes without blanks -/
def wordsB (bs : List UInt8) : List (List UInt8) := (splitB 32 bs).filter (fun l => !l.isEmpty)
def wordsG (p : List UInt8) (bs : List UInt8) : List (List UInt8) := (glue p (splitB 32 bs)).filter (fun l => !l.isEmpty)
/-- what stands in front of the first place of a text, and behind it -/
def cutB (p : List UInt8) : List UInt8 → Option (List UInt8 × List UInt8)
  | [] => none
  | b :: tl => if p.isPrefixOf (b :: tl) then some ([], (b :: tl).drop p.length) else (cutB p tl).map fun q => (b :: q.1, q.2)
theorem prefix_iff (p l : List UInt8) : p.isPrefixOf l = decide (l.take p.length = p) := by
  rw [Bool.eq_iff_iff, List.isPrefixOf_iff_prefix, List.prefix_iff_eq_take, decide_eq_true_eq]
  exact ⟨fun h => h.symm, fun h => h.symm⟩
theorem cutB_short (p : List UInt8) : ∀ l : List UInt8, l.length < p.length → cutB p l = none
  | [], _ => rfl
  | b :: tl, h => by
    simp only [cutB]
    have h1 : p.isPrefixOf (b :: tl) = false := by
      rw [prefix_iff]; refine decide_eq_false fun h2 => ?_
      have := congrArg List.length h2
      rw [List.length_take] at this; omega
    rw [h1, cutB_short p tl (by simp at h; omega)]; rfl
def cutX (p bs : List UInt8) : List UInt8 := ((cutB p bs).map (·.1)).getD bs
def cutY (p bs : List UInt8) : List UInt8 := ((cutB p bs).map (·.2)).getD []
end Go.Proofs.Ytmmiahgmdllgdaa

namespace Go.Proofs.Ytmmiahgmdllgdaa
open Go.RowKit Go.Sort
def digV (c : UInt8) : Int := if 48 ≤ c.toNat ∧ c.toNat ≤ 57 then (c.toNat : Int) - 48 else if 97 ≤ c.toNat ∧ c.toNat ≤ 102 then (c.toNat : Int) - 87 else -1
def rdR (bs : List UInt8) : Option Reg := (cutB [58] bs).bind fun q => (rdDec q.1).bind fun n => if vreg n (q.2.reverse.map digV) then some ⟨n, q.2.reverse.map digV⟩ else none
theorem cutB_mem (k : UInt8) : ∀ (bs x y : List UInt8), cutB [k] bs = some (x, y) → bs = x ++ k :: y ∧ k ∉ x
  | [], _, _, h => by cases h
  | b :: tl, x, y, h => by
    simp only [cutB] at h
    split at h
    · rename_i h1
      injection h with h
      injection h with h2 h3
      rw [prefix_iff] at h1
      have h4 := of_decide_eq_true h1
      have : b = k := by simpa using h4
      subst this
      rw [← h2, ← h3]; simp
    · rename_i h1
      obtain ⟨q, hq, h2⟩ := Option.map_eq_some_iff.1 h
      injection h2 with h3 h4
      obtain ⟨h5, h6⟩ := cutB_mem k tl q.1 q.2 hq
      rw [← h3, ← h4]
      refine ⟨by rw [List.cons_append, ← h5], ?_⟩
      intro hm
      rcases List.mem_cons.1 hm with h7 | h7
      · apply h1; subst h7; rw [prefix_iff]; simp
      · exact h6 h7
theorem cutB_of (k : UInt8) (y : List UInt8) : ∀ x : List UInt8, k ∉ x → cutB [k] (x ++ k :: y) = some (x, y)
  | [], _ => by
    rw [List.nil_append]; simp only [cutB]
    rw [prefix_iff]; simp
  | b :: x, h => by
    rw [List.cons_append]; simp only [cutB]
    have h1 : ¬ (([k] : List UInt8).isPrefixOf (b :: (x ++ k :: y)) = true) := by
      rw [prefix_iff]; simp
      intro h2; exact h (by rw [h2]; simp)
    rw [if_neg h1, cutB_of k y x (fun h2 => h (List.mem_cons_of_mem _ h2))]; rfl
theorem cutB_none (k : UInt8) : ∀ bs : List UInt8, cutB [k] bs = none → k ∉ bs
  | [], _ => by simp
  | b :: tl, h => by
    simp only [cutB] at h
    split at h
    · cases h
    · rename_i h1
      have h2 := cutB_none k tl (by simpa using h)
      intro h3
      rcases List.mem_cons.1 h3 with h4 | h4
      · apply h1; subst h4; rw [prefix_iff]; simp
      · exact h2 h4
theorem splitB_none (k : UInt8) : ∀ bs : List UInt8, k ∉ bs → splitB k.toNat bs = [bs]
  | [], _ => rfl
  | b :: tl, h => by
    rw [splitB_cons, if_neg (fun h1 => h (by rw [← UInt8.toNat_inj.1 h1]; simp)), splitB_none k tl (fun h1 => h (List.mem_cons_of_mem _ h1))]; rfl
theorem splitB_at (k : UInt8) (y : List UInt8) : ∀ x : List UInt8, k ∉ x → splitB k.toNat (x ++ k :: y) = x :: splitB k.toNat y
  | [], _ => by rw [List.nil_append, splitB_cons, if_pos rfl]
  | b :: x, h => by
    rw [List.cons_append, splitB_cons, if_neg (fun h1 => h (by rw [← UInt8.toNat_inj.1 h1]; simp)), splitB_at k y x (fun h1 => h (List.mem_cons_of_mem _ h1))]; rfl
theorem digV_bad : digV 58 = -1 := by decide
theorem vreg_mem {b : Int} {ds : List Int} {d : Int} (h : d ∈ ds) (hd : d < 0) : vreg b ds = false := by
  rcases hv : vreg b ds with _ | _
  · rfl
  · have := (vreg_iff.1 hv).2.2.1 d h; omega
/-- the parts that the reference reads: two, the second one short -/
theorem rdR_spec (bs : List UInt8) : rdR bs = match splitB 58 bs with
    | [x, y] => if y.length ≤ 16 then (rdDec x).bind fun n => if vreg n (y.reverse.map digV) then some ⟨n, y.reverse.map digV⟩ else none else none
    | _ => none := by
  unfold rdR
  have e58 : (58 : UInt8).toNat = 58 := rfl
  cases h : cutB [58] bs with
  | none =>
    have h2 := splitB_none 58 bs (cutB_none 58 bs h)
    rw [e58] at h2
    rw [h2]; rfl
  | some q =>
    obtain ⟨x, y⟩ := q
    obtain ⟨h1, h2⟩ := cutB_mem 58 bs x y h
    have h3 := splitB_at 58 y x h2
    rw [← h1, e58] at h3
    rw [h3]
    simp only [Option.bind_some]
    by_cases hy : (58 : UInt8) ∈ y
    · have hv : ∀ n, vreg n (y.reverse.map digV) = false := fun n => vreg_mem (d := -1) (List.mem_map.2 ⟨58, by simpa using hy, digV_bad⟩) (by omega)
      have hl : ∀ z, splitB 58 y ≠ [z] := by
        intro z hz
        cases h4 : cutB [58] y with
        | none => exact cutB_none 58 y h4 hy
        | some q =>
          obtain ⟨a, b⟩ := q
          obtain ⟨h5, h6⟩ := cutB_mem 58 y a b h4
          have h7 := splitB_at 58 b a h6
          rw [← h5, e58, hz] at h7
          injection h7 with _ h7
          exact splitB_ne 58 b h7.symm
      have e1 : ((rdDec x).bind fun n => if vreg n (y.reverse.map digV) then some (⟨n, y.reverse.map digV⟩ : Reg) else none) = none := by
        cases rdDec x with
        | none => rfl
        | some n => simp only [Option.bind_some]; rw [hv n]; rfl
      rw [e1]
      cases hs : splitB 58 y with
      | nil => rfl
      | cons a t =>
        cases t with
        | nil => exact absurd hs (hl a)
        | cons b t => rfl
    · have h4 := splitB_none 58 y hy
      rw [e58] at h4
      rw [h4]
      simp only []
      by_cases h16 : y.length ≤ 16
      · rw [if_pos h16]
      · rw [if_neg h16]
        cases rdDec x with
        | none => rfl
        | some n =>
          simp only [Option.bind_some]
          have : vreg n (y.reverse.map digV) = false := by
            rcases hv : vreg n (y.reverse.map digV) with _ | _
            · rfl
            · have := (vreg_iff.1 hv).2.1; simp at this; omega
          rw [this]; rfl
def rdReg (bs : List UInt8) : Reg := (rdR bs).getD ⟨0, []⟩
theorem rdr_none {bs : List UInt8} (h : rdR bs = none) : rdReg bs = ⟨0, []⟩ ∧ (rdR bs).isSome = false := by simp [rdReg, h]
theorem rdr_some {bs : List UInt8} {r : Reg} (h : rdR bs = some r) : rdReg bs = r ∧ (rdR bs).isSome = true := by simp [rdReg, h]
end Go.Proofs.Ytmmiahgmdllgdaa

namespace Go.Proofs.Ytmmiahgmdllgdaa
open Go.RowKit Go.Sort
theorem Kn.rowS_get {w0 w : World} {m : List Ent} {g n c : Nat} {ss : List ByteArray} (h : Kn w0 (rowS (.slice (some ⟨g, 0, none⟩) n c) ss :: m) w) {k : Nat} (hk : k < ss.length) : w.cell? ⟨g, k, none⟩ = some (.string ss[k]) := by
  obtain ⟨-, g', e, hc, -⟩ := h.rowS_at hk
  injection e with e
  injection e with e
  subst e; exact hc
def dtx : ByteArray := ⟨#[48, 49, 50, 51, 52, 53, 54, 55, 56, 57, 97, 98, 99, 100, 101, 102]⟩
/-- the last place among the first d characters of digits that a byte has -/
def lastAt (c : Nat) (d : Nat) : Int := (List.range d).foldl (fun a j => if (dtx.data.getD j 0).toNat = c then (j : Int) else a) (-1)
theorem lastAt_succ (c d : Nat) : lastAt c (d + 1) = if (dtx.data.getD d 0).toNat = c then (d : Int) else lastAt c d := by
  unfold lastAt; rw [List.range_succ, List.foldl_append]; rfl
theorem lastAt_all : ∀ c, c < 256 → lastAt c 16 = digV (UInt8.ofNat c) := by decide +kernel
theorem dtx_get (d : Nat) (h : d < 16) : dtx[d]? = some (dtx.data.getD d 0) := by
  have : ∀ d, d < 16 → dtx[d]? = some (dtx.data.getD d 0) := by decide
  exact this d h
theorem splitB_each (k : Nat) : ∀ (bs : List UInt8), ∀ x ∈ splitB k bs, x.length ≤ bs.length
  | [], x, h => by simp [splitB] at h; subst h; simp
  | b :: tl, x, h => by
    rw [splitB_cons] at h
    split at h
    · rcases List.mem_cons.1 h with rfl | h
      · simp
      · have := splitB_each k tl x h; rw [List.length_cons]; omega
    · cases h2 : splitB k tl with
      | nil => exact absurd h2 (splitB_ne k tl)
      | cons a t =>
        have h3 := fun y hy => splitB_each k tl y (by rw [h2]; exact hy)
        rw [h2] at h
        simp only [glue] at h
        rcases List.mem_cons.1 h with rfl | h
        · have := h3 a (List.mem_cons_self ..); simp; omega
        · have := h3 x (List.mem_cons_of_mem _ h); rw [List.length_cons]; omega
end Go.Proofs.Ytmmiahgmdllgdaa

namespace Go.Proofs.Ytmmiahgmdllgdaa
open Go.RowKit Go.Sort
theorem TriM.of_block {w : World} {g : Nat} {T : TypeId} {t : Tri} {A1 A2 A3 : Option Addr} {c1 c2 c3 : Nat}
    (hg : w.heap[g]? = some (.cells #[.int .i64 t.a.base, .slice A1 t.a.digits.length c1, .int .i64 t.b.base, .slice A2 t.b.digits.length c2, .int .i64 t.s.base, .slice A3 t.s.digits.length c3, .int .i64 t.carry] T (0, 0)))
    (r1 : RI w A1 t.a.digits.length t.a.digits) (r2 : RI w A2 t.b.digits.length t.b.digits) (r3 : RI w A3 t.s.digits.length t.s.digits) : TriM w ⟨g, 0, none⟩ t := by
  have hc : ∀ i v, #[Value.int .i64 t.a.base, .slice A1 t.a.digits.length c1, .int .i64 t.b.base, .slice A2 t.b.digits.length c2, .int .i64 t.s.base, .slice A3 t.s.digits.length c3, .int .i64 t.carry][i]? = some v → w.cell? ⟨g, i, none⟩ = some v := fun i v hv => by rw [cell_of_row w g i _ T (0, 0) hg]; exact hv
  exact ⟨⟨A1, c1, ⟨hc 0 _ rfl, hc 1 _ rfl⟩, r1⟩, ⟨A2, c2, ⟨hc 2 _ rfl, hc 3 _ rfl⟩, r2⟩, ⟨A3, c3, ⟨hc 4 _ rfl, hc 5 _ rfl⟩, r3⟩, hc 6 _ rfl⟩
theorem RL.one {w : World} {g : Nat} {t : Tri} (h : TriM w ⟨g, 0, none⟩ t) (hl : g < w.heap.size) : RL TriM 7 w (some ⟨g, 0, none⟩) 1 [t] :=
  ⟨rfl, fun _ => ⟨_, rfl, hl, fun k hk => by
    have : k = 0 := by simp at hk; omega
    subst this
    rw [Nat.zero_mul, addr_add_zero]; exact h⟩⟩
def ttextL (t : Tri) : ByteArray := ((((((⟨(rtext t.a).toArray⟩ : ByteArray) ++ (⟨#[32, 43, 32]⟩ : ByteArray)) ++ (⟨(rtext t.b).toArray⟩ : ByteArray)) ++ (⟨#[32, 61, 32]⟩ : ByteArray)) ++ (⟨(rtext t.s).toArray⟩ : ByteArray)) ++ (⟨#[32]⟩ : ByteArray)) ++ (⟨(dec t.carry).toArray⟩ : ByteArray)
def ttext (t : Tri) : ByteArray := if vtrials [t] then ttextL t else ⟨#[]⟩
theorem rtext_len (r : Reg) : (rtext r).length ≤ 60 := by
  unfold rtext
  split
  · rename_i h
    obtain ⟨⟨hb1, hb2⟩, ⟨hl1, hl2⟩, -, -⟩ := vreg_iff.1 h
    have := dec_len r.base (by omega) (by omega)
    simp only [rtextL, List.length_append, List.length_map, List.length_reverse, List.length_cons, List.length_nil]; omega
  · simp
theorem vtrials_one {t : Tri} (h : vtrials [t] = true) : t.a.ok = true ∧ t.b.ok = true ∧ t.s.ok = true ∧ 0 ≤ t.carry ∧ t.carry ≤ 1 := by
  simp only [vtrials, List.all_cons, List.all_nil, Bool.and_true, Bool.and_eq_true, List.headD_cons, triGood, vlike] at h
  obtain ⟨⟨⟨⟨h1, h2⟩, h3⟩, h4⟩, -⟩ := h
  obtain ⟨h5, h6⟩ := betB_iff.1 h4
  exact ⟨h1.1.1, h2.1.1, h3.1.1, h5, h6⟩
end Go.Proofs.Ytmmiahgmdllgdaa

namespace Go.Proofs.Ytmmiahgmdllgdaa
open Go.RowKit Go.Sort
/-- powers -/
def pw (b : Int) : Nat → Int
  | 0 => 1
  | n + 1 => pw b n * b
theorem pw_pos (b : Int) (hb : 2 ≤ b) (n : Nat) : 1 ≤ pw b n := by
  induction n with
  | zero => simp [pw]
  | succ n ih => have := Int.mul_le_mul ih hb (by omega) (by omega); simp only [pw]; omega
theorem pw_step (b : Int) (hb : 2 ≤ b) (n : Nat) : 2 * pw b n ≤ pw b (n + 1) := by
  have := Int.mul_le_mul_of_nonneg_left hb (show 0 ≤ pw b n by have := pw_pos b hb n; omega)
  simp only [pw]; omega
theorem pw_mono (b : Int) (hb : 2 ≤ b) (n k : Nat) (h : n ≤ k) : pw b n ≤ pw b k := by
  induction h with
  | refl => omega
  | @step m _ ih => have h1 := pw_step b hb m; have h2 := pw_pos b hb m; exact Int.le_trans ih (by show pw b m ≤ pw b (m + 1); omega)
def powC (b : Int) (n : Nat) : Int := if pw b n ≤ 1000000000001 then pw b n else 0
def powS (b : Int) (n : Nat) : Int := min 1000000000002 (pw b n)
theorem powS_succ (b : Int) (hb : 2 ≤ b) (n : Nat) : powS b (n + 1) = min 1000000000002 (powS b n * b) := by
  unfold powS
  have h1 := pw_pos b hb n
  rcases Int.le_total (pw b n) 1000000000002 with h | h
  · rw [Int.min_eq_right h]; rfl
  · have h2 := pw_step b hb n
    rw [Int.min_eq_left h, Int.min_eq_left (by omega), Int.min_eq_left (by omega)]
theorem powS_bd (b : Int) (hb : 2 ≤ b) (n : Nat) : 1 ≤ powS b n ∧ powS b n ≤ 1000000000002 := by
  have := pw_pos b hb n; unfold powS; omega
theorem l10Power_any (b : Int) (n : Nat) (w : World) (hb1 : 2 ≤ b) (hb2 : b ≤ 16) (hn : n ≤ 9223372036854775807) :
    Calls Try.prog 109 #[.int .i64 b, .int .i64 n] w fun e w' => e = .returned (.int .i64 (powS b n)) ∧ w = w' := by
  go_enter Try.func109, Try.ntmps109
  go_wp2
  go_loop [5, 1] (fun v i => ∃ k j : Nat, k + j = n ∧ i = .int .i64 j ∧ v = .int .i64 (powS b k)) (fun _ i => (intOf i).toNat)
  case atStart => exact ⟨0, n, by omega, rfl, rfl⟩
  case round =>
    obtain ⟨k, j, hk, rfl, rfl⟩ := hrel
    obtain ⟨h1, hv⟩ := powS_bd b hb1 k
    have hm0 : 0 ≤ powS b k * b := Int.mul_nonneg (by omega) (by omega)
    have hm1 : powS b k * b ≤ 16000000000032 := by
      have := Int.mul_le_mul hv hb2 (by omega) (by omega); omega
    have HP := Lib.hid (powS_succ b hb1 k)
    by_cases hj : 0 < j
    · have hi1 : (0 : Int) < (j : Int) := by omega
      go_wp2_with (go_at_call 94; refine (l00Min_any _ _ _).mono ?_; rintro e w' ⟨rfl, rfl⟩)
      go_round
      case rel => exact ⟨k + 1, j - 1, by omega, by congr 1; omega, by rw [HP.out]⟩
      case measure => simp [intOf]; omega
    · obtain rfl : j = 0 := by omega
      go_wp2_with (go_at_call 94; refine (l00Min_any _ _ _).mono ?_; rintro e w' ⟨rfl, rfl⟩)
      go_ret
      exact ⟨ret_int (by congr 1), rfl⟩
theorem powC_zero (b : Int) (hb : 2 ≤ b) (n : Nat) : (powC b n == 0) = !decide (pw b n ≤ 1000000000001) := by
  have := pw_pos b hb n
  unfold powC
  split
  · rename_i h; rw [decide_eq_true h]; simp; omega
  · rename_i h; rw [decide_eq_false h]; rfl
end Go.Proofs.Ytmmiahgmdllgdaa
