import Derived.Test.YtcngeifkddhkmaaDoorR5
namespace Go.Proofs.YtcngeifkddhkmaaDoor
open Go.RowKit
structure Reg where
  base : Int
  digits : List Int
structure Tri where
  a : Reg
  b : Reg
  s : Reg
  carry : Int
instance : Inhabited Reg := ⟨⟨0, []⟩⟩
instance : Inhabited Tri := ⟨⟨default, default, default, 0⟩⟩
def Reg.ok (r : Reg) : Bool := vreg r.base r.digits
/-- a register in memory -/
def RegM (w : World) (p : Addr) (r : Reg) : Prop := ∃ A c, RegAt w p r.base A r.digits.length c ∧ RI w A r.digits.length r.digits
def TriM (w : World) (p : Addr) (t : Tri) : Prop := RegM w p t.a ∧ RegM w ⟨p.block, p.off + 2, none⟩ t.b ∧ RegM w ⟨p.block, p.off + 4, none⟩ t.s ∧ w.cell? ⟨p.block, p.off + 6, none⟩ = some (.int .i64 t.carry)
/-- a slice whose elements of sz cells lie as E says -/
def RL {α : Type} (E : World → Addr → α → Prop) (sz : Nat) (w : World) (A : Option Addr) (n : Nat) (xs : List α) : Prop :=
  xs.length = n ∧ (0 < n → ∃ ad, A = some ad ∧ ad.block < w.heap.size ∧ ∀ (k : Nat) (h : k < xs.length), E w (ad.add (k * sz)) xs[k])
def Steady {α : Type} (E : World → Addr → α → Prop) : Prop := ∀ (w w' : World) (p : Addr) (x : α), p.block < w.heap.size → Below w.heap.size w w' → E w p x → E w' p x
theorem RL.below {α : Type} {E : World → Addr → α → Prop} (hE : Steady E) {sz : Nat} {w w' : World} {A : Option Addr} {n : Nat} {xs : List α} (h : RL E sz w A n xs) (hb : Below w.heap.size w w') : RL E sz w' A n xs := by
  refine ⟨h.1, fun hn => ?_⟩
  obtain ⟨ad, e, hl, hc⟩ := h.2 hn
  exact ⟨ad, e, Nat.lt_of_lt_of_le hl hb.size, fun k hk => hE _ _ _ _ (by rw [block_of_add]; exact hl) hb (hc k hk)⟩
theorem RL.at_ {α : Type} {E : World → Addr → α → Prop} {sz : Nat} {w : World} {A : Option Addr} {n : Nat} {xs : List α} (h : RL E sz w A n xs) {k : Nat} (hk : k < n) : ∃ ad, A = some ad ∧ ad.block < w.heap.size ∧ ∃ h : k < xs.length, E w (ad.add (k * sz)) xs[k] := by
  obtain ⟨ad, e, hl, hc⟩ := h.2 (by omega)
  have : k < xs.length := by have := h.1; omega
  exact ⟨ad, e, hl, this, hc k this⟩
theorem steady_RegM : Steady RegM := by
  rintro w w' p r hp hb ⟨A, c, ⟨h1, h2⟩, h3⟩
  exact ⟨A, c, ⟨by rw [hb.cell hp]; exact h1, by rw [hb.cell (by exact hp)]; exact h2⟩, h3.below hb⟩
theorem steady_TriM : Steady TriM := by
  rintro w w' p t hp hb ⟨h1, h2, h3, h4⟩
  exact ⟨steady_RegM _ _ _ _ hp hb h1, steady_RegM _ _ _ _ (by exact hp) hb h2, steady_RegM _ _ _ _ (by exact hp) hb h3, by rw [hb.cell (by exact hp)]; exact h4⟩
def vlike (r r0 : Reg) : Bool := r.ok && r.base == r0.base && decide ((r.digits.length : Int) = r0.digits.length)
theorem chain3 (a b c : Bool) : a = false ∨ (a = true ∧ b = false) ∨ (a = true ∧ b = true ∧ c = false) ∨ (a = true ∧ b = true ∧ c = true) := by cases a <;> cases b <;> cases c <;> simp
theorem chain4 (a b c d : Bool) : a = false ∨ (a = true ∧ b = false) ∨ (a = true ∧ b = true ∧ c = false) ∨ (a = true ∧ b = true ∧ c = true ∧ d = false) ∨ (a = true ∧ b = true ∧ c = true ∧ d = true) := by cases a <;> cases b <;> cases c <;> cases d <;> simp
def SmallReg (r : Reg) : Prop := r.digits.length ≤ 9223372036854775807
theorem l02Ok_reg (p : Addr) (r : Reg) (w : World) (hp : RegM w p r) (hm : SmallReg r) (v : Bool) (hv : r.ok = v) :
    Calls Tryd.prog 107 #[.pointer (some p)] w fun e w' => e = .returned (.bool v) ∧ ∃ m, w' = w.drewN m := by
  obtain ⟨A, c, h1, h2⟩ := hp
  subst hv
  exact l02Ok_any p r.base A r.digits.length c r.digits w h1 h2 (by unfold SmallReg at hm; omega)
theorem quiet_of_ex {P : Program} {f : FuncId} {args : Array Value} {w : World} {n : Nat} {v : Value}
    (h : Calls P f args (w.drewN n) fun e w' => e = .returned v ∧ ∃ m, w' = (w.drewN n).drewN m) : Calls P f args (w.drewN n) fun e w'' => e = .returned v ∧ ∃ m, w'' = w.drewN m := Calls.quiet_of h
set_option maxHeartbeats 800000 in
theorem l20Like_any (p q : Addr) (r r0 : Reg) (w : World) (hp : RegM w p r) (hq : RegM w q r0) (hm : SmallReg r) (hm0 : SmallReg r0) (v : Bool) (hv : vlike r r0 = v) :
    Calls Tryd.prog 185 #[.pointer (some p), .pointer (some q)] w fun e w' => e = .returned (.bool v) ∧ ∃ m, w' = w.drewN m := by
  have K1 := Lib.hid (fun (m : Nat) => l02Ok_reg p r (w.drewN m) hp hm)
  subst hv
  obtain ⟨A, c, ⟨ha, hb⟩, -⟩ := hp
  obtain ⟨A0, c0, ⟨ha0, hb0⟩, -⟩ := hq
  have HV := Lib.hid (show vlike r r0 = (r.ok && r.base == r0.base && decide ((r.digits.length : Int) = r0.digits.length)) from rfl)
  unfold SmallReg at hm hm0
  rcases chain3 r.ok (r.base == r0.base) ((r.digits.length : Int) == r0.digits.length) with k1 | ⟨k1, k2⟩ | ⟨k1, k2, k3⟩ | ⟨k1, k2, k3⟩
  all_goals
    have H1 := Lib.hid k1; clear k1
    go_enter Tryd.func185, Tryd.ntmps185
    go_wp2_with fail
    go_quiet ((go_at_call 107; exact quiet_of_ex (K1.out _ _ H1.out)))
    go_wp2
    go_ret
    exact ⟨ret_bool (by rw [HV.out, H1.out]; simp_all), _, rfl⟩
end Go.Proofs.YtcngeifkddhkmaaDoor
