import Derived.Test.YtcngeifkddhkmaaDoorRows
import Derived.WalkKit
import Derived.WalkSpells
import Derived.Deep.QuietTactic
import Derived.BigQuiet
import Derived.Lib.Hide
import Derived.Lib.QuietBelow
import Derived.Deep.AppendLies
import Derived.Deep.RegionHeld3
import Derived.StillTailTactics
namespace Go.Proofs.YtcngeifkddhkmaaDoor
open Go.RowKit
theorem block_of_add (a : Addr) (n : Nat) : (a.add n).block = a.block := by unfold Addr.add; split <;> rfl
/-- a slice value .slice A n c reads as the cells xs, in blocks below B -/
def Reads (w : World) (B size : Nat) (A : Option Addr) (n : Nat) (xs : List Value) : Prop :=
  xs.length = n * size ∧ (0 < n → ∃ ad, A = some ad ∧ ad.block < B ∧ ∀ j u, xs[j]? = some u → w.cell? (ad.add j) = some u)
def betB (n l h : Int) : Bool := decide (l ≤ n ∧ n ≤ h)
/-- []int64 -/
def RI (w : World) (A : Option Addr) (n : Nat) (ds : List Int) : Prop := ds.length = n ∧ (0 < n → ∃ ad, A = some ad ∧ ad.block < w.heap.size ∧ ∀ j u, ds[j]? = some u → w.cell? (ad.add j) = some (.int .i64 u))
theorem RI.below {w w' : World} {A : Option Addr} {n : Nat} {ds : List Int} (h : RI w A n ds) (hb : Below w.heap.size w w') : RI w' A n ds := by
  refine ⟨h.1, fun hn => ?_⟩
  obtain ⟨ad, e, hl, hc⟩ := h.2 hn
  refine ⟨ad, e, Nat.lt_of_lt_of_le hl hb.size, fun j u hu => ?_⟩
  rw [hb.cell (by rw [block_of_add]; exact hl)]; exact hc j u hu
/-- element k, at an address given by name -/
theorem RI.at_ {w : World} {A : Option Addr} {n : Nat} {ds : List Int} (h : RI w A n ds) {k : Nat} (hk : k < n) : ∃ ad, A = some ad ∧ ad.block < w.heap.size ∧ ∃ h : k < ds.length, w.cell? (ad.add k) = some (.int .i64 ds[k]) := by
  obtain ⟨ad, e, hl, hc⟩ := h.2 (by omega)
  have : k < ds.length := by have := h.1; omega
  exact ⟨ad, e, hl, this, hc k _ (by simp [this])⟩
theorem below_drewN {B : Nat} {a w : World} (h : Below B a w) (n : Nat) : Below B a (w.drewN n) := ⟨h.os, h.tape, h.output, h.size, h.block⟩
theorem ret_int {k : IntKind} {a b : Int} (h : a = b) : Ending.returned (.int k a) = .returned (.int k b) := by rw [h]
theorem ret_bool {a b : Bool} (h : a = b) : Ending.returned (.bool a) = .returned (.bool b) := by rw [h]
theorem quiet_left {P : Program} {f : FuncId} {args : Array Value} {w : World} {n : Nat} {v : Value}
    (h : Calls P f args (w.drewN n) fun e w' => e = .returned v ∧ w.drewN n = w') : Calls P f args (w.drewN n) fun e w'' => e = .returned v ∧ ∃ m, w'' = w.drewN m :=
  h.mono fun _ _ ⟨he, hm⟩ => ⟨he, n, hm.symm⟩
theorem quiet_add_left {P : Program} {f : FuncId} {args : Array Value} {w : World} {a n : Nat} {v : Value}
    (h : Calls P f args (w.drewN (a + n)) fun e w' => e = .returned v ∧ w.drewN (a + n) = w') :
    Calls P f args (w.drewN (a + n)) fun e w'' => e = .returned v ∧ ∃ m, w'' = w.drewN (a + m) :=
  h.mono fun _ _ ⟨he, hm⟩ => ⟨he, n, hm.symm⟩
theorem calls_val {P : Program} {f : FuncId} {args : Array Value} {w : World} {u v : Value} {R : World → Prop} (h : Calls P f args w fun e w' => e = .returned u ∧ R w') (e : u = v) : Calls P f args w fun e w' => e = .returned v ∧ R w' := by rw [← e]; exact h
theorem below_drew {B : Nat} {w w' : World} (h : Below B w w') : Below B w w'.drew := h.drew
theorem drewN_below {w : World} (n : Nat) : Below w.heap.size w (w.drewN n) := below_drewN (Below.refl _ _) n
theorem info_i64 : (Tryd.prog.info? 2).map (fun i => (i.zero, i.size, i.bytes)) = some (some (.int .i64 0), 1, 8) := by kernel_rfl
/-- a row of int64 that the call owns -/
def OwnI (w : World) (base : Nat) (v : Value) (ds : List Int) : Prop := w.ownsRow base 2 1 v ds.length (ds.map (Value.int .i64))
theorem OwnI.reads {w : World} {base : Nat} {v : Value} {ds : List Int} (h : OwnI w base v ds) : ∃ A c, v = .slice A ds.length c ∧ RI w A ds.length ds ∧ ∀ ad, A = some ad → base ≤ ad.block := by
  rcases h.2 with ⟨rfl, hn⟩ | ⟨g, cap, cur, rfl, hb, hg, hnc, _, hcs, htake⟩
  · refine ⟨none, 0, by rw [hn], ⟨rfl, fun h0 => ?_⟩, fun ad h0 => by cases h0⟩
    omega
  · refine ⟨_, cap, rfl, ⟨rfl, fun _ => ⟨_, rfl, (Array.getElem?_eq_some_iff.1 hg).1, fun j u hu => ?_⟩⟩, fun ad h0 => by injection h0 with h0; subst h0; exact hb⟩
    have h1 := h.cells (g := g) rfl j (.int .i64 u) (by simp [hu])
    exact h1
theorem OwnI.below {w w' : World} {base : Nat} {v : Value} {ds : List Int} (h : OwnI w base v ds) (hb : Below w.heap.size w w') : OwnI w' base v ds := by
  refine ⟨h.1, ?_⟩
  rcases h.2 with hn | ⟨g, cap, cur, rfl, hbg, hg, rest⟩
  · exact .inl hn
  · exact .inr ⟨g, cap, cur, rfl, hbg, by rw [hb.block g (Array.getElem?_eq_some_iff.1 hg).1]; exact hg, rest⟩
theorem OwnI.nil (w : World) (base : Nat) : OwnI w base (.slice none 0 0) [] := ⟨by simp, .inl ⟨rfl, rfl⟩⟩
theorem OwnI.mono {w : World} {b b' : Nat} {v : Value} {ds : List Int} (h : OwnI w b v ds) (hb : b' ≤ b) : OwnI w b' v ds := by
  refine ⟨h.1, ?_⟩
  rcases h.2 with hn | ⟨g, cap, cur, rfl, hbg, hg, rest⟩
  · exact .inl hn
  · exact .inr ⟨g, cap, cur, rfl, by omega, hg, rest⟩
theorem add_zero_block (g j : Nat) : (⟨g, 0, none⟩ : Addr).add j = ⟨g, j, none⟩ := by unfold Addr.add; split <;> simp_all
section
variable {ops : Array Oper} {rest : List Oper} {o : Oper} {a : Act} {Q : Exit → Act → World → Prop} {w : World}
/-- append(out, y) of one int64 onto a row that the call owns -/
theorem app1I (hgd : o.guard = none) (s x : Operand) (ho : o.op = .call { callee := .builtin .append, args := #[s, x], argTypes := #[24, 24] })
    (base : Nat) (v : Value) (ds : List Int) (hs : a.eval s = v) (hown : OwnI w base v ds) (g : Nat) (y : Int) (hx : a.eval x = .slice (some ⟨g, 0, none⟩) 1 1) (hg : w.heap[g]? = some (.cells #[.int .i64 y] 2 (0, 0)))
    (hn : ds.length ≤ 1000000000000) (hbase : base ≤ w.heap.size)
    (h : ∀ v' w', OwnI w' base v' (ds ++ [y]) → w.grownBy w' v.ownBlock → (v'.ownBlock = v.ownBlock ∨ v'.ownBlock = some w.heap.size) → wpList Tryd.prog ops Q rest (a.put o.dst v') w') : wpList Tryd.prog ops Q (o :: rest) a w := by
  obtain ⟨i0, hi, hz0, hz1, hz2⟩ := info_parts info_i64
  refine wpList_plain hgd fun K hK => ?_
  obtain ⟨v', w', hrun, h2, h3, _, h5⟩ := run_append_own_at (P := Tryd.prog) w base 24 o.type 2 i0 _ 1 8 Tryd.underlying24 hi hz0 hz1 hz2 rfl (by omega) v ds.length _ hown ⟨g, 0, none⟩ 1 1 [.int .i64 y] rfl (World.news_of_block hg) (by simp [Value.oneCell']) (by simp only [maxLen]; omega) (by omega) hbase
  unfold Oper.wp execOp
  simp only [ho, resolve, invoke, builtin, Sem.run_bind, Sem.run_pure, Result.andThen_ok, List.map_toArray, List.map_cons, List.map_nil, hs, hx, hrun]
  exact hK _ _ (h v' w' (by unfold OwnI; simpa using h2) h3 h5)
end
end Go.Proofs.YtcngeifkddhkmaaDoor
