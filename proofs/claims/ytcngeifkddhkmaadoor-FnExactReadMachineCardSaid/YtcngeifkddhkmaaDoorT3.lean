import Derived.Test.YtcngeifkddhkmaaDoorT1
import Derived.Test.YtcngeifkddhkmaaDoorT2
namespace Go.Proofs.YtcngeifkddhkmaaDoor
open Go.RowKit Go.Sort
def digV (c : UInt8) : Int := if 48 ≤ c.toNat ∧ c.toNat ≤ 57 then (c.toNat : Int) - 48 else if 97 ≤ c.toNat ∧ c.toNat ≤ 102 then (c.toNat : Int) - 87 else -1
def rdR (bs : List UInt8) : Option Reg := (cutB [58] bs).bind fun q => (rdDec q.1).bind fun n => if vreg n (q.2.reverse.map digV) then some ⟨n, q.2.reverse.map digV⟩ else none
theorem cutB_mem (k : UInt8) : ∀ (bs x y : List UInt8), cutB [k] bs = some (x, y) → bs = x ++ k :: y ∧ k ∉ x
  | [], _, _, h => by cases h
  | b :: tl, x, y, h => by
    simp only [cutB] at h
    split at h
    · rename_i h1
      injection h with h
      injection h with h2 h3
      rw [prefix_iff] at h1
      have h4 := of_decide_eq_true h1
      have : b = k := by simpa using h4
      subst this
      rw [← h2, ← h3]; simp
    · rename_i h1
      obtain ⟨q, hq, h2⟩ := Option.map_eq_some_iff.1 h
      injection h2 with h3 h4
      obtain ⟨h5, h6⟩ := cutB_mem k tl q.1 q.2 hq
      rw [← h3, ← h4]
      refine ⟨by rw [List.cons_append, ← h5], ?_⟩
      intro hm
      rcases List.mem_cons.1 hm with h7 | h7
      · apply h1; subst h7; rw [prefix_iff]; simp
      · exact h6 h7
theorem cutB_of (k : UInt8) (y : List UInt8) : ∀ x : List UInt8, k ∉ x → cutB [k] (x ++ k :: y) = some (x, y)
  | [], _ => by
    rw [List.nil_append]; simp only [cutB]
    rw [prefix_iff]; simp
  | b :: x, h => by
    rw [List.cons_append]; simp only [cutB]
    have h1 : ¬ (([k] : List UInt8).isPrefixOf (b :: (x ++ k :: y)) = true) := by
      rw [prefix_iff]; simp
      intro h2; exact h (by rw [h2]; simp)
    rw [if_neg h1, cutB_of k y x (fun h2 => h (List.mem_cons_of_mem _ h2))]; rfl
theorem cutB_none (k : UInt8) : ∀ bs : List UInt8, cutB [k] bs = none → k ∉ bs
  | [], _ => by simp
  | b :: tl, h => by
    simp only [cutB] at h
    split at h
    · cases h
    · rename_i h1
      have h2 := cutB_none k tl (by simpa using h)
      intro h3
      rcases List.mem_cons.1 h3 with h4 | h4
      · apply h1; subst h4; rw [prefix_iff]; simp
      · exact h2 h4
theorem splitB_none (k : UInt8) : ∀ bs : List UInt8, k ∉ bs → splitB k.toNat bs = [bs]
  | [], _ => rfl
  | b :: tl, h => by
    rw [splitB_cons, if_neg (fun h1 => h (by rw [← UInt8.toNat_inj.1 h1]; simp)), splitB_none k tl (fun h1 => h (List.mem_cons_of_mem _ h1))]; rfl
theorem splitB_at (k : UInt8) (y : List UInt8) : ∀ x : List UInt8, k ∉ x → splitB k.toNat (x ++ k :: y) = x :: splitB k.toNat y
  | [], _ => by rw [List.nil_append, splitB_cons, if_pos rfl]
  | b :: x, h => by
    rw [List.cons_append, splitB_cons, if_neg (fun h1 => h (by rw [← UInt8.toNat_inj.1 h1]; simp)), splitB_at k y x (fun h1 => h (List.mem_cons_of_mem _ h1))]; rfl
theorem digV_bad : digV 58 = -1 := by decide
theorem vreg_mem {b : Int} {ds : List Int} {d : Int} (h : d ∈ ds) (hd : d < 0) : vreg b ds = false := by
  rcases hv : vreg b ds with _ | _
  · rfl
  · have := (vreg_iff.1 hv).2.2.1 d h; omega
/-- the parts that the reference reads: two, the second one short -/
theorem rdR_spec (bs : List UInt8) : rdR bs = match splitB 58 bs with
    | [x, y] => if y.length ≤ 16 then (rdDec x).bind fun n => if vreg n (y.reverse.map digV) then some ⟨n, y.reverse.map digV⟩ else none else none
    | _ => none := by
  unfold rdR
  have e58 : (58 : UInt8).toNat = 58 := rfl
  cases h : cutB [58] bs with
  | none =>
    have h2 := splitB_none 58 bs (cutB_none 58 bs h)
    rw [e58] at h2
    rw [h2]; rfl
  | some q =>
    obtain ⟨x, y⟩ := q
    obtain ⟨h1, h2⟩ := cutB_mem 58 bs x y h
    have h3 := splitB_at 58 y x h2
    rw [← h1, e58] at h3
    rw [h3]
    simp only [Option.bind_some]
    by_cases hy : (58 : UInt8) ∈ y
    · have hv : ∀ n, vreg n (y.reverse.map digV) = false := fun n => vreg_mem (d := -1) (List.mem_map.2 ⟨58, by simpa using hy, digV_bad⟩) (by omega)
      have hl : ∀ z, splitB 58 y ≠ [z] := by
        intro z hz
        cases h4 : cutB [58] y with
        | none => exact cutB_none 58 y h4 hy
        | some q =>
          obtain ⟨a, b⟩ := q
          obtain ⟨h5, h6⟩ := cutB_mem 58 y a b h4
          have h7 := splitB_at 58 b a h6
          rw [← h5, e58, hz] at h7
          injection h7 with _ h7
          exact splitB_ne 58 b h7.symm
      have e1 : ((rdDec x).bind fun n => if vreg n (y.reverse.map digV) then some (⟨n, y.reverse.map digV⟩ : Reg) else none) = none := by
        cases rdDec x with
        | none => rfl
        | some n => simp only [Option.bind_some]; rw [hv n]; rfl
      rw [e1]
      cases hs : splitB 58 y with
      | nil => rfl
      | cons a t =>
        cases t with
        | nil => exact absurd hs (hl a)
        | cons b t => rfl
    · have h4 := splitB_none 58 y hy
      rw [e58] at h4
      rw [h4]
      simp only []
      by_cases h16 : y.length ≤ 16
      · rw [if_pos h16]
      · rw [if_neg h16]
        cases rdDec x with
        | none => rfl
        | some n =>
          simp only [Option.bind_some]
          have : vreg n (y.reverse.map digV) = false := by
            rcases hv : vreg n (y.reverse.map digV) with _ | _
            · rfl
            · have := (vreg_iff.1 hv).2.1; simp at this; omega
          rw [this]; rfl
def rdReg (bs : List UInt8) : Reg := (rdR bs).getD ⟨0, []⟩
theorem rdr_none {bs : List UInt8} (h : rdR bs = none) : rdReg bs = ⟨0, []⟩ ∧ (rdR bs).isSome = false := by simp [rdReg, h]
theorem rdr_some {bs : List UInt8} {r : Reg} (h : rdR bs = some r) : rdReg bs = r ∧ (rdR bs).isSome = true := by simp [rdReg, h]
theorem l02Digit_any (z : Nat) (c : UInt8) (hc : c.toNat = z) (w : World) : Calls Tryd.prog 200 #[.int .u8 (z : Int)] w fun e w' => e = .returned (.int .i64 (digV c)) ∧ w = w' := by
  have hz : z < 256 := by rw [← hc]; exact c.toNat_lt
  have HV := Lib.hid (show digV c = if 48 ≤ z ∧ z ≤ 57 then (z : Int) - 48 else if 97 ≤ z ∧ z ≤ 102 then (z : Int) - 87 else -1 by unfold digV; rw [hc])
  by_cases h1 : 48 ≤ z ∧ z ≤ 57
  · have HV2 := Lib.hid (show digV c = (z : Int) - 48 by rw [HV.out, if_pos h1])
    have i1 : (48 : Int) ≤ (z : Int) := by omega
    have i2 : (z : Int) ≤ 57 := by omega
    have y1 : IntKind.u8.wrap ((z : Int) - 48) = (z : Int) - 48 := wrapB (by omega)
    clear h1
    go_enter Tryd.func200, Tryd.ntmps200
    go_wp2_with fail
    go_ret
    exact ⟨ret_int HV2.out.symm, rfl⟩
  · by_cases h2 : 97 ≤ z ∧ z ≤ 102
    · have HV2 := Lib.hid (show digV c = (z : Int) - 97 + 10 by rw [HV.out, if_neg h1, if_pos h2]; omega)
      have i1 : (48 : Int) ≤ (z : Int) := by omega
      have i2 : ¬ (z : Int) ≤ 57 := by omega
      have i3 : (97 : Int) ≤ (z : Int) := by omega
      have i4 : (z : Int) ≤ 102 := by omega
      have y1 : IntKind.u8.wrap ((z : Int) - 97) = (z : Int) - 97 := wrapB (by omega)
      clear h1 h2
      go_enter Tryd.func200, Tryd.ntmps200
      go_wp2_with fail
      go_ret
      exact ⟨ret_int HV2.out.symm, rfl⟩
    · have HV2 := Lib.hid (show digV c = -1 by rw [HV.out, if_neg h1, if_neg h2])
      by_cases g1 : 48 ≤ z
      · have i1 : (48 : Int) ≤ (z : Int) := by omega
        have i2 : ¬ (z : Int) ≤ 57 := by omega
        by_cases g2 : 97 ≤ z
        · have i3 : (97 : Int) ≤ (z : Int) := by omega
          have i4 : ¬ (z : Int) ≤ 102 := by omega
          clear h1 h2
          go_enter Tryd.func200, Tryd.ntmps200
          go_wp2_with fail
          go_ret
          exact ⟨ret_int HV2.out.symm, rfl⟩
        · have i3 : ¬ (97 : Int) ≤ (z : Int) := by omega
          clear h1 h2
          go_enter Tryd.func200, Tryd.ntmps200
          go_wp2_with fail
          go_ret
          exact ⟨ret_int HV2.out.symm, rfl⟩
      · have i1 : ¬ (48 : Int) ≤ (z : Int) := by omega
        have i3 : ¬ (97 : Int) ≤ (z : Int) := by omega
        clear h1 h2
        go_enter Tryd.func200, Tryd.ntmps200
        go_wp2_with fail
        go_ret
        exact ⟨ret_int HV2.out.symm, rfl⟩
theorem kn_pushI {ops : Array Oper} {rest : List Oper} {o : Oper} {a : Act} {Q : Exit → Act → World → Prop} {w0 w : World} {m : List Ent} (hgd : o.guard = none) (s x : Operand) (ho : o.op = .call { callee := .builtin .append, args := #[s, x], argTypes := #[24, 24] })
    (v : Value) (ds : List Int) (hs : a.eval s = v) {g c : Nat} {T' : TypeId} {z : Int} (hx : a.eval x = .slice (some ⟨g, 0, none⟩) 1 c)
    (hK : Kn w0 (.blk g [.int .i64 z] T' :: .row v 2 1 ds.length (ds.map (Value.int .i64)) :: m) w) (hl : ds.length ≤ 10000000)
    (h : ∀ v' w', Kn w0 (.row v' 2 1 (ds ++ [z]).length ((ds ++ [z]).map (Value.int .i64)) :: m) w' → wpList Tryd.prog ops Q rest (a.put o.dst v') w') : wpList Tryd.prog ops Q (o :: rest) a w := by
  refine kn_app tpI hgd s x ho v ds.length (ds.map (Value.int .i64)) hs hx hK rfl (by simp [Value.oneCell']) (by omega) (by omega) (fun v' w' hK' => h v' w' ?_)
  rw [List.length_append, List.map_append, List.map_cons, List.map_nil]
  exact hK'
theorem kn_stepI {ops : Array Oper} {o : Oper} {a : Act} {Q : Exit → Act → World → Prop} {w0 w : World} {m : List Ent} {K : Act → World → Prop} {E : Prop} (hgd : o.guard = none) (s x : Operand) (ho : o.op = .call { callee := .builtin .append, args := #[s, x], argTypes := #[24, 24] })
    (v : Value) (ds : List Int) (hs : a.eval s = v) {g c : Nat} {T' : TypeId} {z : Int} (hx : a.eval x = .slice (some ⟨g, 0, none⟩) 1 c)
    (hK : Kn w0 (.blk g [.int .i64 z] T' :: .row v 2 1 ds.length (ds.map (Value.int .i64)) :: m) w) (hl : ds.length ≤ 10000000)
    (h : ∀ v' w', Kn w0 (.row v' 2 1 (ds ++ [z]).length ((ds ++ [z]).map (Value.int .i64)) :: m) w' → K (a.put o.dst v') w') : if Region.wanted o (yielded ops a.tmps) = true then Oper.wp Tryd.prog o a w K Q else E := by
  refine kn_step_app tpI hgd s x ho v ds.length (ds.map (Value.int .i64)) hs hx hK rfl (by simp [Value.oneCell']) (by omega) (by omega) (fun v' w' hK' => h v' w' ?_)
  rw [List.length_append, List.map_append, List.map_cons, List.map_nil]
  exact hK'
end Go.Proofs.YtcngeifkddhkmaaDoor
