import Derived.Test.YtcngeifkddhkmaaDoorBase
import Derived.Laws.BytesString
namespace Go.Proofs.YtcngeifkddhkmaaDoor
open Go.RowKit
/-- a slice type t over elements e: the zero value, its cells, its bytes -/
structure TP (t e : TypeId) (z : Value) (size bytes : Nat) : Prop where
  under : Tryd.prog.underlying t = some (.slice e)
  info : (Tryd.prog.info? e).map (fun i => (i.zero, i.size, i.bytes)) = some (some z, size, bytes)
  zc : z.cells.size = size
  pos : 0 < size
theorem tpI : TP 24 2 (.int .i64 0) 1 8 := ⟨Tryd.underlying24, by kernel_rfl, rfl, by decide⟩
theorem tpB : TP 22 5 (.int .u8 0) 1 1 := ⟨Tryd.underlying22, by kernel_rfl, rfl, by decide⟩
section
variable {ops : Array Oper} {rest : List Oper} {o : Oper} {a : Act} {Q : Exit → Act → World → Prop} {w : World}
/-- append(s, x...), s a row of the call's own -/
theorem appG {t e : TypeId} {z : Value} {size bytes : Nat} (T : TP t e z size bytes) (hgd : o.guard = none) (s x : Operand) (ho : o.op = .call { callee := .builtin .append, args := #[s, x], argTypes := #[t, t] })
    (base : Nat) (v : Value) (n : Nat) (xs : List Value) (hs : a.eval s = v) (hown : w.ownsRow base e size v n xs) (ad : Addr) (m c : Nat) (news : List Value) (hx : a.eval x = .slice (some ad) m c)
    (hl : news.length = m * size) (hnews : ∀ j u, news[j]? = some u → w.cell? (ad.add j) = some u) (h1 : ∀ u ∈ news, u.oneCell' = true)
    (h63 : n + m ≤ 1000000000000000) (hb : (n + m) * bytes ≤ 140737488355328) (hbase : base ≤ w.heap.size)
    (h : ∀ v' w', w'.ownsRow base e size v' (n + m) (xs ++ news) → w.grownBy w' v.ownBlock → (v'.ownBlock = v.ownBlock ∨ v'.ownBlock = some w.heap.size) → wpList Tryd.prog ops Q rest (a.put o.dst v') w') : wpList Tryd.prog ops Q (o :: rest) a w := by
  obtain ⟨i0, hi, hz0, hz1, hz2⟩ := info_parts T.info
  refine wpList_plain hgd fun K hK => ?_
  obtain ⟨v', w', hrun, h2, h3, _, h5⟩ := run_append_own_at (P := Tryd.prog) w base t o.type e i0 z size bytes T.under hi hz0 hz1 hz2 T.zc T.pos v n xs hown ad m c news hl hnews h1 (by simp only [maxLen]; omega) hb hbase
  unfold Oper.wp execOp
  simp only [ho, resolve, invoke, builtin, Sem.run_bind, Sem.run_pure, Result.andThen_ok, List.map_toArray, List.map_cons, List.map_nil, hs, hx, hrun]
  exact hK _ _ (h v' w' h2 h3 h5)
end
def byteV (b : UInt8) : Value := .int .u8 (b.toNat : Int)
/-- bytes at A -/
def RB (w : World) (A : Option Addr) (n : Nat) (bs : List UInt8) : Prop := bs.length = n ∧ (0 < n → ∃ ad, A = some ad ∧ ad.block < w.heap.size ∧ ∀ j u, bs[j]? = some u → w.cell? (ad.add j) = some (byteV u))
theorem RB.below {w w' : World} {A : Option Addr} {n : Nat} {ds : List UInt8} (h : RB w A n ds) (hb : Below w.heap.size w w') : RB w' A n ds := by
  refine ⟨h.1, fun hn => ?_⟩
  obtain ⟨ad, e, hl, hc⟩ := h.2 hn
  refine ⟨ad, e, Nat.lt_of_lt_of_le hl hb.size, fun j u hu => ?_⟩
  rw [hb.cell (by rw [block_of_add]; exact hl)]; exact hc j u hu
/-- a row of bytes that the call owns -/
def OwnB (w : World) (base : Nat) (v : Value) (bs : List UInt8) : Prop := w.ownsRow base 5 1 v bs.length (bs.map byteV)
theorem OwnB.reads {w : World} {base : Nat} {v : Value} {ds : List UInt8} (h : OwnB w base v ds) : ∃ A c, v = .slice A ds.length c ∧ RB w A ds.length ds ∧ ∀ ad, A = some ad → base ≤ ad.block := by
  rcases h.2 with ⟨rfl, hn⟩ | ⟨g, cap, cur, rfl, hb, hg, hnc, _, hcs, htake⟩
  · refine ⟨none, 0, by rw [hn], ⟨rfl, fun h0 => ?_⟩, fun ad h0 => by cases h0⟩
    omega
  · refine ⟨_, cap, rfl, ⟨rfl, fun _ => ⟨_, rfl, (Array.getElem?_eq_some_iff.1 hg).1, fun j u hu => ?_⟩⟩, fun ad h0 => by injection h0 with h0; subst h0; exact hb⟩
    exact h.cells (g := g) rfl j (byteV u) (by simp [hu])
theorem foldl_push (bs : List UInt8) : ∀ r : ByteArray, (bs.map fun b => (b.toNat : Int)).foldl (fun r n => r.push (UInt8.ofNat n.toNat)) r = ⟨r.data ++ bs.toArray⟩ := by
  induction bs with
  | nil => intro r; simp
  | cons b bs ih =>
    intro r
    simp only [List.map_cons, List.foldl_cons, ih]
    simp [ByteArray.push]
theorem conv_bytes (w : World) (A : Option Addr) (n c : Nat) (bs : List UInt8) (h : RB w A n bs) : (convert 22 9 (.slice A n c)).run Tryd.prog w = .ok (.string ⟨bs.toArray⟩) w := by
  rw [run_convert_bytes_string w _ _ 5 A n c Tryd.underlying22 Tryd.underlying5 Tryd.underlying9]
  rcases Nat.eq_zero_or_pos n with h0 | h0
  · subst h0
    obtain rfl : bs = [] := List.eq_nil_of_length_eq_zero h.1
    cases A with
    | none => simp [Conv.bytesToString, Sem.run_pure]; rfl
    | some ad =>
      have := run_bytesToString (P := Tryd.prog) w ad 0 c [] (by simpa using run_loadCells_list (P := Tryd.prog) (w := w) ad [] (by simp))
      exact this
  · obtain ⟨ad, rfl, hl, hc⟩ := h.2 h0
    have hL := run_loadCells_list (P := Tryd.prog) (w := w) ad (bs.map byteV) (fun j v hv => by
      rw [List.getElem?_map] at hv
      obtain ⟨u, hu, rfl⟩ := Option.map_eq_some_iff.1 hv
      exact hc j u hu)
    rw [List.length_map, h.1] at hL
    have := run_bytesToString (P := Tryd.prog) w ad n c (bs.map fun b => (b.toNat : Int)) (by
      rw [hL, List.map_map]; rfl)
    rw [this, foldl_push]; simp
end Go.Proofs.YtcngeifkddhkmaaDoor
