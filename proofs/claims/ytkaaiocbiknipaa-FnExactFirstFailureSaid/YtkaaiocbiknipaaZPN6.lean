/- For every input the law FnExactFirstFailure returns true and leaves its arguments as they were: the program's FirstFailure gives the reference's number and code. No condition. -/
import Derived.Test.YtkaaiocbiknipaaZC1
import Derived.Test.YtkaaiocbiknipaaZC2
import Derived.Test.YtkaaiocbiknipaaZC3
import Derived.Test.YtkaaiocbiknipaaZC4
import Derived.Test.YtkaaiocbiknipaaZC5
import Derived.Test.YtkaaiocbiknipaaZC6
import Derived.Test.YtkaaiocbiknipaaZC7
import Derived.OpenShut
import Derived.Deep.DeepHandedRow
import Derived.Lib.LaidTab
namespace Go.Proofs.Ytkaaiocbiknipaa
open Go.RowKit Go.Sort
set_option maxRecDepth 100000 in
set_option maxHeartbeats 6400000 in
theorem law_FirstFailure (aBase : Int) (aSetting : Int) (aResult : Int) (aCount : Int) (LA : Option Addr) (ln lc : Nat) (L : List Ins) (aKind : Int) (aArg : Int) (w : World) (hr : RL InsM 2 w LA ln L) (hln : ln ≤ 9223372036854775807) :
    Calls Try.prog 12 #[.int .i64 aBase, .int .i64 aSetting, .int .i64 aResult, .int .i64 aCount, .slice LA ln lc, .int .i64 aKind, .int .i64 aArg] w fun e w' => e = .returned (.bool true) ∧ Below w.heap.size w w' := by
  have HID0 := True.intro
  by_cases hpl : (ln : Int) ≤ 1048576
  rotate_left
  · have hpn := hpl
    go_enter Try.func12, Try.ntmps12
    go_wp2_with fail
    refine (szInstrS_any LA ln lc _ _ (by first | exact hl0 | omega) (by first | exact hl1 | omega) hln).mono ?_; rintro e w3 ⟨rfl, hww⟩
    subst hww
    rw [if_neg (by omega)]
    go_wp2_with fail
    go_ret
    exact ⟨rfl, Below.refl _ _⟩
  have hlb : ln ≤ 1048576 := by omega
  have hpm : ¬ (1048576 - (ln : Int) < 0) := by omega
  have TP := Lib.hid (fun W (hW : Below w.heap.size w W) => toInstrS_kn LA ln lc L W (hr.below steady_InsM hW) hlb)
  have HLL := Lib.hid hr.1
  have KS := (fun (PA : Option Addr) (pa : Nat) W hp => specFirstFailure_any (lc := pa) aBase aSetting aResult aCount aKind aArg W (LA := PA) (n := ln) (L := L) hp (by omega))
  have KI := (fun (PA : Option Addr) (pa : Nat) W hp => FirstFailure_any (lc := pa) aBase aSetting aResult aCount aKind aArg W (LA := PA) (n := ln) (L := L) hp (by omega))
  unfold FFRet at KS KI
  obtain ⟨RI0, hRI0⟩ : ∃ x, ffV aBase aSetting aResult aCount L aKind aArg = x := ⟨_, rfl⟩
  rw [hRI0] at KS KI
  clear hRI0
  obtain ⟨RI1, hRI1⟩ : ∃ x, ffC aBase aSetting aResult aCount L aKind aArg = x := ⟨_, rfl⟩
  rw [hRI1] at KS KI
  clear hRI1
  have KS := Lib.hid KS
  have KI := Lib.hid KI
  clear hr
  go_enter Try.func12, Try.ntmps12
  go_wp2_with fail
  refine (szInstrS_any LA ln lc _ _ (by first | exact hl0 | omega) (by first | exact hl1 | omega) hln).mono ?_; rintro e w3 ⟨rfl, hww⟩
  subst hww
  rw [if_pos (by omega)]
  have hK := Kn.nil w
  go_wp2_with fail
  refine (TP.out _ hK.below).mono ?_; rintro e w4 ⟨X1, x1, rfl, hKn⟩
  have hK : Kn w [rowInsN X1 ln x1 L] w4 := hK.join hKn
  clear hKn
  go_wp2_with fail
  refine (KS.out X1 x1 _ ((hK.sel [0] 99 (by decide) (by decide)).rlInsN HLL.out)).mono ?_; rintro e w5 ⟨rfl, hw⟩
  have hK : Kn w [rowInsN X1 ln x1 L] w5 := hK.keep hw
  clear hw
  go_wp2_with fail
  refine (TP.out _ hK.below).mono ?_; rintro e w6 ⟨X2, x2, rfl, hKn⟩
  have hK : Kn w [rowInsN X2 ln x2 L, rowInsN X1 ln x1 L] w6 := hK.join hKn
  clear hKn
  go_wp2_with fail
  refine (KI.out X2 x2 _ ((hK.sel [0] 99 (by decide) (by decide)).rlInsN HLL.out)).mono ?_; rintro e w7 ⟨rfl, hw⟩
  have hK : Kn w [rowInsN X2 ln x2 L, rowInsN X1 ln x1 L] w7 := hK.keep hw
  clear hw
  go_wp2_with fail
  refine (TP.out _ hK.below).mono ?_; rintro e w8 ⟨X3, x3, rfl, hKn⟩
  have hK : Kn w [rowInsN X3 ln x3 L, rowInsN X2 ln x2 L, rowInsN X1 ln x1 L] w8 := hK.join hKn
  clear hKn
  go_wp2_with fail
  refine (eqInstrS_same _ _ _ _ _ _ _ ((hK.sel [1] 99 (by decide) (by decide)).rlInsN HLL.out) ((hK.sel [0] 99 (by decide) (by decide)).rlInsN HLL.out) (by omega)).mono ?_; rintro e w9 ⟨rfl, hw⟩
  have hK : Kn w [rowInsN X3 ln x3 L, rowInsN X2 ln x2 L, rowInsN X1 ln x1 L] w9 := hK.keep hw
  clear hw
  go_wp2_with fail
  go_ret
  exact ⟨rfl, hK.below⟩
end Go.Proofs.Ytkaaiocbiknipaa

namespace Go.Proofs.Ytkaaiocbiknipaa.fnExactFirstFailure
open Go.ChangeShapes Go.WideShapes Go.ChangeAt Go.RowKit
theorem own : ownKnob Try.prog.godebug = none := by kernel_rfl
theorem laidOut : laidOutB Try.prog = true := by kernel_rfl
set_option maxRecDepth 100000 in
theorem contract (H : Type) (enc : TypeId × Value → H) (W : World) (base : Nat) (args : Array Value) (ds gs : List (DataW H)) (before : List MemPlace)
    (hval : ∀ (j : Nat) t v, Try.f12.params[j]? = some t → args[j]? = some v → Value.okWide Try.prog W .any base t v)
    (hW : DataW.Whole enc Try.prog Try.f12.params.toList Rows.fnExactFirstFailureSpec.vars false W args.toList ds gs before) :
    Calls Try.prog 12 args W fun e W' => ∃ v, e = .returned v ∧ Rows.fnExactFirstFailureSpec.post enc Try.prog Try.f12 false true false false W args v W' := by
  have hW' := hW
  obtain ⟨p, q, hA0, hV, rfl, hfz, hnd⟩ := hW
  have hA : DataW.TrodAll enc Try.prog W 0 (fun _ => true) true Try.f12.params.toList args.toList ds p := hA0
  rw [Try.params12] at hA hval
  obtain ⟨v0, vs0, d0, ds0, p0, q0, hargs, rfl, rfl, h0, r0⟩ := trodAll_cons hA
  obtain ⟨v1, vs1, d1, ds1, p1, q1, rfl, rfl, rfl, h1, r1⟩ := trodAll_cons r0
  obtain ⟨v2, vs2, d2, ds2, p2, q2, rfl, rfl, rfl, h2, r2⟩ := trodAll_cons r1
  obtain ⟨v3, vs3, d3, ds3, p3, q3, rfl, rfl, rfl, h3, r3⟩ := trodAll_cons r2
  obtain ⟨v4, vs4, d4, ds4, p4, q4, rfl, rfl, rfl, h4, r4⟩ := trodAll_cons r3
  obtain ⟨v5, vs5, d5, ds5, p5, q5, rfl, rfl, rfl, h5, r5⟩ := trodAll_cons r4
  obtain ⟨v6, vs6, d6, ds6, p6, q6, rfl, rfl, rfl, h6, r6⟩ := trodAll_cons r5
  obtain ⟨rfl, rfl, rfl⟩ := trodAll_nil r6
  obtain rfl : args = #[v0, v1, v2, v3, v4, v5, v6] := by cases args; simp_all
  obtain ⟨rfl, rfl⟩ := trodVars_none hV
  clear hA0
  simp only [List.append_nil] at hW'
  have hlt : ∀ x ∈ p0 ++ (p1 ++ (p2 ++ (p3 ++ (p4 ++ (p5 ++ (p6)))))), x.block < W.heap.size := fun x hx => by
    have := hW'.lt x (by simpa using hx)
    simpa using this
  obtain ⟨i0, rfl⟩ := okWide_int Try.underlying2 (hval 0 _ _ rfl rfl)
  have t0 := h0
  have ib0 : -9223372036854775808 ≤ i0 ∧ i0 ≤ 9223372036854775807 := by
    obtain ⟨fuel0, hf0⟩ := h0
    obtain ⟨z, e, hz⟩ := rd_i64 hf0
    have e' : [Value.int .i64 i0] = [.int .i64 z] := e
    injection e' with e'
    injection e' with _ e'
    omega
  obtain ⟨i1, rfl⟩ := okWide_int Try.underlying2 (hval 1 _ _ rfl rfl)
  have t1 := h1
  have ib1 : -9223372036854775808 ≤ i1 ∧ i1 ≤ 9223372036854775807 := by
    obtain ⟨fuel1, hf1⟩ := h1
    obtain ⟨z, e, hz⟩ := rd_i64 hf1
    have e' : [Value.int .i64 i1] = [.int .i64 z] := e
    injection e' with e'
    injection e' with _ e'
    omega
  obtain ⟨i2, rfl⟩ := okWide_int Try.underlying2 (hval 2 _ _ rfl rfl)
  have t2 := h2
  have ib2 : -9223372036854775808 ≤ i2 ∧ i2 ≤ 9223372036854775807 := by
    obtain ⟨fuel2, hf2⟩ := h2
    obtain ⟨z, e, hz⟩ := rd_i64 hf2
    have e' : [Value.int .i64 i2] = [.int .i64 z] := e
    injection e' with e'
    injection e' with _ e'
    omega
  obtain ⟨i3, rfl⟩ := okWide_int Try.underlying2 (hval 3 _ _ rfl rfl)
  have t3 := h3
  have ib3 : -9223372036854775808 ≤ i3 ∧ i3 ≤ 9223372036854775807 := by
    obtain ⟨fuel3, hf3⟩ := h3
    obtain ⟨z, e, hz⟩ := rd_i64 hf3
    have e' : [Value.int .i64 i3] = [.int .i64 z] := e
    injection e' with e'
    injection e' with _ e'
    omega
  obtain ⟨LA, Ln, Lc, rfl⟩ := okWide_slice Try.underlying69 (hval 4 _ _ rfl rfl)
  have t4 := h4
  obtain ⟨fuel4, hf4⟩ := h4
  obtain ⟨A', n', c', Lxs, hcs4, hr4, hn4⟩ := rd_instrs hf4
  obtain ⟨rfl, rfl, rfl⟩ : A' = LA ∧ n' = Ln ∧ c' = Lc := by
    have : [Value.slice LA Ln Lc] = [.slice A' n' c'] := hcs4
    injection this with this
    injection this with e1 e2 e3
    exact ⟨e1.symm, e2.symm, e3.symm⟩
  obtain ⟨i5, rfl⟩ := okWide_int Try.underlying2 (hval 5 _ _ rfl rfl)
  have t5 := h5
  have ib5 : -9223372036854775808 ≤ i5 ∧ i5 ≤ 9223372036854775807 := by
    obtain ⟨fuel5, hf5⟩ := h5
    obtain ⟨z, e, hz⟩ := rd_i64 hf5
    have e' : [Value.int .i64 i5] = [.int .i64 z] := e
    injection e' with e'
    injection e' with _ e'
    omega
  obtain ⟨i6, rfl⟩ := okWide_int Try.underlying2 (hval 6 _ _ rfl rfl)
  have t6 := h6
  have ib6 : -9223372036854775808 ≤ i6 ∧ i6 ≤ 9223372036854775807 := by
    obtain ⟨fuel6, hf6⟩ := h6
    obtain ⟨z, e, hz⟩ := rd_i64 hf6
    have e' : [Value.int .i64 i6] = [.int .i64 z] := e
    injection e' with e'
    injection e' with _ e'
    omega
  have walk : Calls Try.prog 12 #[.int .i64 i0, .int .i64 i1, .int .i64 i2, .int .i64 i3, .slice A' n' c', .int .i64 i5, .int .i64 i6] W fun e w' => e = .returned (.bool true) ∧ Below W.heap.size W w' :=
    law_FirstFailure i0 i1 i2 i3 A' n' c' Lxs i5 i6 W hr4 hn4
  refine walk.mono fun e W' ⟨he, hb⟩ => ?_
  subst he
  have u0 := Below.trod laidOut (by kernel_rfl) (of_decide_eq_true (by kernel_rfl)) t0 hb (fun x hx => hlt x (by simp only [List.mem_append]; simp [hx]))
  have u1 := Below.trod laidOut (by kernel_rfl) (of_decide_eq_true (by kernel_rfl)) t1 hb (fun x hx => hlt x (by simp only [List.mem_append]; simp [hx]))
  have u2 := Below.trod laidOut (by kernel_rfl) (of_decide_eq_true (by kernel_rfl)) t2 hb (fun x hx => hlt x (by simp only [List.mem_append]; simp [hx]))
  have u3 := Below.trod laidOut (by kernel_rfl) (of_decide_eq_true (by kernel_rfl)) t3 hb (fun x hx => hlt x (by simp only [List.mem_append]; simp [hx]))
  have u4 := Below.trod laidOut (by kernel_rfl) (of_decide_eq_true (by kernel_rfl)) t4 hb (fun x hx => hlt x (by simp only [List.mem_append]; simp [hx]))
  have u5 := Below.trod laidOut (by kernel_rfl) (of_decide_eq_true (by kernel_rfl)) t5 hb (fun x hx => hlt x (by simp only [List.mem_append]; simp [hx]))
  have u6 := Below.trod laidOut (by kernel_rfl) (of_decide_eq_true (by kernel_rfl)) t6 hb (fun x hx => hlt x (by simp only [List.mem_append]; simp [hx]))
  exact ⟨_, rfl, [d0, d1, d2, d3, d4, d5, d6], [], p0 ++ (p1 ++ (p2 ++ (p3 ++ (p4 ++ (p5 ++ (p6 ++ [])))))), [], p0 ++ (p1 ++ (p2 ++ (p3 ++ (p4 ++ (p5 ++ (p6 ++ [])))))), [], by simpa using hW', trodAll_cons_mk (shut_bool Try.underlying4 _) trodAll_mk0, (trodAll_cons_mk u0 (trodAll_cons_mk u1 (trodAll_cons_mk u2 (trodAll_cons_mk u3 (trodAll_cons_mk u4 (trodAll_cons_mk u5 (trodAll_cons_mk u6 trodAll_mk0))))))), rfl, hb.frame _, fun h => by cases h⟩
theorem reads (os : Os) {H : Type} (enc : TypeId × Value → H) : ∃ places, DataW.whole enc Try.prog ((World.holding Try.prog os ⟨#[], #[], []⟩).forCall (fun _ _ => 0) ⟨#[], #[.int .i64 0, .int .i64 0, .int .i64 0, .int .i64 0, .slice none 0 0, .int .i64 0, .int .i64 0], []⟩).memory Try.f12.params.toList Rows.fnExactFirstFailureSpec.vars false (#[.int .i64 0, .int .i64 0, .int .i64 0, .int .i64 0, .slice none 0 0, .int .i64 0, .int .i64 0] : Array Value).toList 8 = some ([.lit (.int .i64 0), .lit (.int .i64 0), .lit (.int .i64 0), .lit (.int .i64 0), .nil, .lit (.int .i64 0), .lit (.int .i64 0)], [], places) :=
  ⟨[], by kernel_rfl⟩
set_option maxRecDepth 100000 in
theorem lifted (os : Os) (started : os.Started) (H : Type) (enc : TypeId × Value → H) (F : Stop.Interp) :
    ReturnsInHanded {} Try.checked os 12 .any ((OpenSpec.ofChange Rows.fnExactFirstFailureSpec).preRow enc Try.prog Try.f12 Rows.fnExactFirstFailureRow.domain false Rows.fnExactFirstFailureRow.laid) (((OpenSpec.ofChange Rows.fnExactFirstFailureSpec).at F).post enc Try.prog Try.f12 false true false false) := by
  obtain ⟨places, hx⟩ := reads os enc
  refine returnsInHanded_of_row (C := Try.checked) (s := OpenSpec.ofChange Rows.fnExactFirstFailureSpec) own started (by kernel_rfl) Try.func12
    (witness_row_at (enc := enc) (C := Try.checked) false (World.holding Try.prog os ⟨#[], #[], []⟩) #[.int .i64 0, .int .i64 0, .int .i64 0, .int .i64 0, .slice none 0 0, .int .i64 0, .int .i64 0] rfl (by kernel_rfl) (by kernel_rfl) (by kernel_rfl)
      (OpenSpec.preRow_of_cond 8 hx (by kernel_rfl) (fun k hk => by cases hk) (by kernel_rfl) (laidMet_of_run' 8 (by kernel_rfl) (by kernel_rfl)))) ?_
  intro W base args ds gs before hval hW _ _ _ _ _ _
  exact contract H enc W base args ds gs before hval hW
set_option maxRecDepth 100000 in
set_option maxHeartbeats 20000000 in
theorem closed : joinedFacts Try.pinned.checked.prog 12 Try.f12 (OpenSpec.ofChange Rows.fnExactFirstFailureSpec).bare Rows.fnExactFirstFailureRow = true := by
  unfold joinedFacts
  simp only [Bool.and_eq_true]
  repeat' apply And.intro
  all_goals (as_aux_lemma => kernel_rfl)
theorem named : Try.pinned.checked.prog.funcNamed Rows.fnExactFirstFailureRow.func = some 12 := by kernel_rfl
theorem said : Rows.FnExactFirstFailureSaid :=
  OpenClaim.holds_of_cond 12 Try.f12 rfl rfl rfl rfl rfl rfl rfl ⟨rfl, rfl, rfl, rfl, rfl⟩ rfl rfl rfl rfl rfl named Try.func12 closed
    (of_decide_eq_true (by kernel_rfl)) (by unfold Func.isWrapper; first | (rw [if_pos (by decide +kernel)]; kernel_rfl) | (rw [if_neg (by decide +kernel)]; exact ⟨rfl, rfl⟩))
    (fun os started H enc _ F => by rw [OpenClaim.pre_eq_preRow]; exact lifted os started H enc F)
end Go.Proofs.Ytkaaiocbiknipaa.fnExactFirstFailure
