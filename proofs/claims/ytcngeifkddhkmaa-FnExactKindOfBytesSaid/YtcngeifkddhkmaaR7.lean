import Derived.Test.YtcngeifkddhkmaaR6
namespace Go.Proofs.Ytcngeifkddhkmaa
open Go.RowKit Go.Sort
theorem quietB {P : Program} {f : FuncId} {args : Array Value} {w : World} {d : Nat} {os : Array Obj} {v : Value}
    (h : ∀ W, Below w.heap.size w W → Calls P f args W fun e w' => e = .returned v ∧ Below W.heap.size W w') :
    Calls P f args (grow (redrawn w d) os) fun e w'' => e = .returned v ∧ ∃ p : Regrown, w'' = grow (redrawn w p.d) p.os := Calls.regrown_of (h _ (below_regrown w d os))
theorem quiet_add_ex {P : Program} {f : FuncId} {args : Array Value} {w : World} {a n : Nat} {v : Value}
    (h : Calls P f args (w.drewN (a + n)) fun e w' => e = .returned v ∧ ∃ m, w' = (w.drewN (a + n)).drewN m) :
    Calls P f args (w.drewN (a + n)) fun e w'' => e = .returned v ∧ ∃ m, w'' = w.drewN (a + m) :=
  h.mono fun _ _ ⟨he, m, hm⟩ => ⟨he, n + m, by rw [hm, World.drewN_drewN, Nat.add_assoc]⟩
def SmallTri (t : Tri) : Prop := SmallReg t.a ∧ SmallReg t.b ∧ SmallReg t.s
def triGood (r0 : Reg) (t : Tri) : Bool := vlike t.a r0 && vlike t.b r0 && vlike t.s r0 && betB t.carry 0 1
def vtrials (ts : List Tri) : Bool := ts.all (triGood (ts.headD default).a) && betB ts.length 1 60
theorem all_take_succ {α : Type} {p : α → Bool} {ds : List α} {k : Nat} (h : k < ds.length) : (ds.take (k + 1)).all p = ((ds.take k).all p && p ds[k]) := by
  rw [List.take_succ_eq_append_getElem h, List.all_append]; simp only [List.all_cons, List.all_nil, Bool.and_true]
theorem all_not {α : Type} {p : α → Bool} {ds : List α} {k : Nat} (h : k < ds.length) (h1 : p ds[k] = false) : ds.all p = false := by
  simp only [List.all_eq_false]; exact ⟨ds[k], List.getElem_mem _, by simp [h1]⟩
theorem addr_add_zero (a : Addr) : a.add 0 = a := by simp [Addr.add]
theorem headD_get {ts : List Tri} (h : 0 < ts.length) : ts.headD default = ts[0] := by cases ts with
  | nil => simp at h
  | cons t ts => rfl
end Go.Proofs.Ytcngeifkddhkmaa
