/- For every input the law FnExactRunProgram returns true and leaves its arguments as they were: the program's RunProgram gives the reference's machine, number of strokes and code, and shares no memory. No condition. -/
import Derived.Test.YtkaaiocbiknipaaZRunP1
import Derived.Test.YtkaaiocbiknipaaZRunP2
import Derived.Test.YtkaaiocbiknipaaZRunP3
import Derived.Test.YtkaaiocbiknipaaZRunP4
import Derived.Test.YtkaaiocbiknipaaZRunP5
import Derived.OpenShut
import Derived.Deep.DeepHandedRow
import Derived.Lib.LaidTab
namespace Go.Proofs.Ytkaaiocbiknipaa.fnExactRunProgram
open Go.ChangeShapes Go.WideShapes Go.ChangeAt Go.RowKit
theorem own : ownKnob Try.prog.godebug = none := by kernel_rfl
theorem laidOut : laidOutB Try.prog = true := by kernel_rfl
set_option maxRecDepth 100000 in
theorem contract (H : Type) (enc : TypeId × Value → H) (W : World) (base : Nat) (args : Array Value) (ds gs : List (DataW H)) (before : List MemPlace)
    (hval : ∀ (j : Nat) t v, Try.f7.params[j]? = some t → args[j]? = some v → Value.okWide Try.prog W .any base t v)
    (hW : DataW.Whole enc Try.prog Try.f7.params.toList Rows.fnExactRunProgramSpec.vars false W args.toList ds gs before) :
    Calls Try.prog 7 args W fun e W' => ∃ v, e = .returned v ∧ Rows.fnExactRunProgramSpec.post enc Try.prog Try.f7 false true false false W args v W' := by
  have hW' := hW
  obtain ⟨p, q, hA0, hV, rfl, hfz, hnd⟩ := hW
  have hA : DataW.TrodAll enc Try.prog W 0 (fun _ => true) true Try.f7.params.toList args.toList ds p := hA0
  rw [Try.params7] at hA hval
  obtain ⟨v0, vs0, d0, ds0, p0, q0, hargs, rfl, rfl, h0, r0⟩ := trodAll_cons hA
  obtain ⟨v1, vs1, d1, ds1, p1, q1, rfl, rfl, rfl, h1, r1⟩ := trodAll_cons r0
  obtain ⟨rfl, rfl, rfl⟩ := trodAll_nil r1
  obtain rfl : args = #[v0, v1] := by cases args; simp_all
  obtain ⟨rfl, rfl⟩ := trodVars_none hV
  clear hA0
  simp only [List.append_nil] at hW'
  have hlt : ∀ x ∈ p0 ++ (p1), x.block < W.heap.size := fun x hx => by
    have := hW'.lt x (by simpa using hx)
    simpa using this
  obtain ⟨cs, rfl, hsz⟩ := okWide_struct Try.underlying60 (hval 0 _ _ rfl rfl)
  have t0 := h0
  obtain ⟨fuel0, hf0⟩ := h0
  obtain ⟨b1, A1, n1, c1, e1, b2, A2, n2, c2, e2, b3, A3, n3, c3, e3, cy, hcs, z1, z2, z3, m1, m2, m3⟩ := rd_lmachine hf0
  obtain rfl : cs = #[.int .i64 b1, .slice A1 n1 c1, .int .i64 b2, .slice A2 n2 c2, .int .i64 b3, .slice A3 n3 c3, .int .i64 cy] := by
    have : cs.toList = [.int .i64 b1, .slice A1 n1 c1, .int .i64 b2, .slice A2 n2 c2, .int .i64 b3, .slice A3 n3 c3, .int .i64 cy] := hcs
    rw [← Array.toArray_toList (xs := cs), this]
  obtain ⟨LA, Ln, Lc, rfl⟩ := okWide_slice Try.underlying69 (hval 1 _ _ rfl rfl)
  have t1 := h1
  obtain ⟨fuel1, hf1⟩ := h1
  obtain ⟨A', n', c', Lxs, hcs1, hr1, hn1⟩ := rd_instrs hf1
  obtain ⟨rfl, rfl, rfl⟩ : A' = LA ∧ n' = Ln ∧ c' = Lc := by
    have : [Value.slice LA Ln Lc] = [.slice A' n' c'] := hcs1
    injection this with this
    injection this with e1 e2 e3
    exact ⟨e1.symm, e2.symm, e3.symm⟩
  have walk : Calls Try.prog 7 #[.agg #[.int .i64 b1, .slice A1 n1 c1, .int .i64 b2, .slice A2 n2 c2, .int .i64 b3, .slice A3 n3 c3, .int .i64 cy], .slice A' n' c'] W fun e w' => e = .returned (.bool true) ∧ Below W.heap.size W w' :=
    law_RunProgram b1 b2 b3 cy A1 A2 A3 n1 n2 n3 c1 c2 c3 e1 e2 e3 A' n' c' Lxs W z1 z2 z3 m1 m2 m3 hr1 hn1
  refine walk.mono fun e W' ⟨he, hb⟩ => ?_
  subst he
  have u0 := Below.trod laidOut (by kernel_rfl) (of_decide_eq_true (by kernel_rfl)) t0 hb (fun x hx => hlt x (by simp only [List.mem_append]; simp [hx]))
  have u1 := Below.trod laidOut (by kernel_rfl) (of_decide_eq_true (by kernel_rfl)) t1 hb (fun x hx => hlt x (by simp only [List.mem_append]; simp [hx]))
  exact ⟨_, rfl, [d0, d1], [], p0 ++ (p1 ++ []), [], p0 ++ (p1 ++ []), [], by simpa using hW', trodAll_cons_mk (shut_bool Try.underlying4 _) trodAll_mk0, (trodAll_cons_mk u0 (trodAll_cons_mk u1 trodAll_mk0)), rfl, hb.frame _, fun h => by cases h⟩
theorem reads (os : Os) {H : Type} (enc : TypeId × Value → H) : ∃ places, DataW.whole enc Try.prog ((World.holding Try.prog os ⟨#[], #[], []⟩).forCall (fun _ _ => 0) ⟨#[], #[.agg #[.int .i64 0, .slice none 0 0, .int .i64 0, .slice none 0 0, .int .i64 0, .slice none 0 0, .int .i64 0], .slice none 0 0], []⟩).memory Try.f7.params.toList Rows.fnExactRunProgramSpec.vars false (#[.agg #[.int .i64 0, .slice none 0 0, .int .i64 0, .slice none 0 0, .int .i64 0, .slice none 0 0, .int .i64 0], .slice none 0 0] : Array Value).toList 8 = some ([.agg [.agg [.lit (.int .i64 0), .nil], .agg [.lit (.int .i64 0), .nil], .agg [.lit (.int .i64 0), .nil], .lit (.int .i64 0)], .nil], [], places) :=
  ⟨[], by kernel_rfl⟩
set_option maxRecDepth 100000 in
theorem lifted (os : Os) (started : os.Started) (H : Type) (enc : TypeId × Value → H) (F : Stop.Interp) :
    ReturnsInHanded {} Try.checked os 7 .any ((OpenSpec.ofChange Rows.fnExactRunProgramSpec).preRow enc Try.prog Try.f7 Rows.fnExactRunProgramRow.domain false Rows.fnExactRunProgramRow.laid) (((OpenSpec.ofChange Rows.fnExactRunProgramSpec).at F).post enc Try.prog Try.f7 false true false false) := by
  obtain ⟨places, hx⟩ := reads os enc
  refine returnsInHanded_of_row (C := Try.checked) (s := OpenSpec.ofChange Rows.fnExactRunProgramSpec) own started (by kernel_rfl) Try.func7
    (witness_row_at (enc := enc) (C := Try.checked) false (World.holding Try.prog os ⟨#[], #[], []⟩) #[.agg #[.int .i64 0, .slice none 0 0, .int .i64 0, .slice none 0 0, .int .i64 0, .slice none 0 0, .int .i64 0], .slice none 0 0] rfl (by kernel_rfl) (by kernel_rfl) (by kernel_rfl)
      (OpenSpec.preRow_of_cond 8 hx (by kernel_rfl) (fun k hk => by cases hk) (by kernel_rfl) (laidMet_of_run' 8 (by kernel_rfl) (by kernel_rfl)))) ?_
  intro W base args ds gs before hval hW _ _ _ _ _ _
  exact contract H enc W base args ds gs before hval hW
set_option maxRecDepth 100000 in
set_option maxHeartbeats 20000000 in
theorem closed : joinedFacts Try.pinned.checked.prog 7 Try.f7 (OpenSpec.ofChange Rows.fnExactRunProgramSpec).bare Rows.fnExactRunProgramRow = true := by
  unfold joinedFacts
  simp only [Bool.and_eq_true]
  repeat' apply And.intro
  all_goals (as_aux_lemma => kernel_rfl)
theorem named : Try.pinned.checked.prog.funcNamed Rows.fnExactRunProgramRow.func = some 7 := by kernel_rfl
theorem said : Rows.FnExactRunProgramSaid :=
  OpenClaim.holds_of_cond 7 Try.f7 rfl rfl rfl rfl rfl rfl rfl ⟨rfl, rfl, rfl, rfl, rfl⟩ rfl rfl rfl rfl rfl named Try.func7 closed
    (of_decide_eq_true (by kernel_rfl)) (by unfold Func.isWrapper; first | (rw [if_pos (by decide +kernel)]; kernel_rfl) | (rw [if_neg (by decide +kernel)]; exact ⟨rfl, rfl⟩))
    (fun os started H enc _ F => by rw [OpenClaim.pre_eq_preRow]; exact lifted os started H enc F)
end Go.Proofs.Ytkaaiocbiknipaa.fnExactRunProgram
