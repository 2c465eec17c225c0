/- For every input the law FnExactFactorProofs returns true and leaves its arguments as they were: the program's FactorProofs gives the reference's factors and code. No condition. -/
import Derived.Test.YtkaaiocbiknipaaZC1
import Derived.Test.YtkaaiocbiknipaaZC2
import Derived.Test.YtkaaiocbiknipaaZC3
import Derived.Test.YtkaaiocbiknipaaZC4
import Derived.Test.YtkaaiocbiknipaaZC5
import Derived.Test.YtkaaiocbiknipaaZC6
import Derived.Test.YtkaaiocbiknipaaZC7
import Derived.Test.YtkaaiocbiknipaaZC8
import Derived.Test.YtkaaiocbiknipaaZC9
import Derived.Test.YtkaaiocbiknipaaZC10
import Derived.OpenShut
import Derived.Deep.DeepHandedRow
import Derived.Lib.LaidTab
namespace Go.Proofs.Ytkaaiocbiknipaa
open Go.RowKit Go.Sort
set_option maxRecDepth 100000 in
set_option maxHeartbeats 6400000 in
theorem law_FactorProofs (aBase : Int) (aSetting : Int) (aResult : Int) (aCount : Int) (aMost : Int) (aShort : Bool) (w : World)  :
    Calls Try.prog 14 #[.int .i64 aBase, .int .i64 aSetting, .int .i64 aResult, .int .i64 aCount, .int .i64 aMost, .bool aShort] w fun e w' => e = .returned (.bool true) ∧ Below w.heap.size w w' := by
  have HID0 := True.intro
  have KS := (fun  W  => specFactorProofs_any aBase aSetting aResult aCount aMost aShort W)
  have KI := (fun  W  => FactorProofs_any aBase aSetting aResult aCount aMost aShort W)
  unfold FPRet at KS KI
  have lv := fpL_len aBase aSetting aResult aCount aMost aShort
  obtain ⟨RV, hRV⟩ : ∃ x : List Int, fpL aBase aSetting aResult aCount aMost aShort = x := ⟨_, rfl⟩
  rw [hRV] at KS KI lv
  clear hRV
  obtain ⟨kv, hkv⟩ : ∃ n, RV.length = n := ⟨_, rfl⟩
  unfold rowI at KI KS
  rw [hkv] at KS KI lv
  clear hkv
  obtain ⟨RI1, hRI1⟩ : ∃ x, fpC aBase aSetting aResult aCount aMost = x := ⟨_, rfl⟩
  rw [hRI1] at KS KI
  clear hRI1
  have KS := Lib.hid KS
  have KI := Lib.hid KI
  go_enter Try.func14, Try.ntmps14
  have hK := Kn.nil w
  go_wp2_with fail
  refine (KS.out  _ ).mono ?_; rintro e w4 ⟨SV, sv, rfl, hKn⟩
  have hK : Kn w [rowN SV kv sv RV] w4 := hK.join hKn
  clear hKn
  go_wp2_with fail
  refine (KI.out  _ ).mono ?_; rintro e w5 ⟨GV, gv, rfl, hKn⟩
  have hK : Kn w [rowN GV kv gv RV, rowN SV kv sv RV] w5 := hK.join hKn
  clear hKn
  go_wp2_with fail
  refine (eqI_same _ _ _ _ _ _ _ (Kn.riN (hK.sel [0] 99 (by decide) (by decide))) (Kn.riN (hK.sel [1] 99 (by decide) (by decide))) (by omega)).mono ?_; rintro e w6 ⟨rfl, hw⟩
  have hK : Kn w [rowN GV kv gv RV, rowN SV kv sv RV] w6 := hK.keep hw
  clear hw
  go_wp2_with fail
  refine (markI_kn w _ GV kv gv RV 1 _ hK (by omega) (by omega)).mono ?_; rintro e w7 ⟨rfl, hKn⟩
  have hK : Kn w [rowN GV kv gv (upto 1 kv), rowN SV kv sv RV] w7 := hKn
  clear hKn
  obtain ⟨pk1, hpk1⟩ : ∃ x : Int, 1 + (kv : Int) = x := ⟨_, rfl⟩
  have hpk1n : ¬ pk1 < 0 := by omega
  have hpk1b : 0 ≤ pk1 ∧ pk1 ≤ 40000000 := by omega
  rw [hpk1]
  have Hpk1 := Lib.hid hpk1
  clear hpk1
  go_wp2_with fail
  refine (heldInt64S_any GV kv gv 1 _ (Kn.riN (hK.sel [0] 99 (by decide) (by decide))) (by omega) (by omega)).mono ?_; rintro e w8 ⟨rfl, hww⟩; subst hww
  rw [Hpk1.out]
  go_wp2_with fail
  refine (KI.out  _ ).mono ?_; rintro e w9 ⟨HV, hv, rfl, hKn⟩
  have hK : Kn w [rowN HV kv hv RV, rowN GV kv gv (upto 1 kv), rowN SV kv sv RV] w9 := hK.join hKn
  clear hKn
  go_wp2_with fail
  refine (eqI_same _ _ _ _ _ _ _ (Kn.riN (hK.sel [0] 99 (by decide) (by decide))) (Kn.riN (hK.sel [2] 99 (by decide) (by decide))) (by omega)).mono ?_; rintro e w10 ⟨rfl, hw⟩
  have hK : Kn w [rowN HV kv hv RV, rowN GV kv gv (upto 1 kv), rowN SV kv sv RV] w10 := hK.keep hw
  clear hw
  go_wp2_with fail
  refine (heldInt64S_any GV kv gv 1 _ (Kn.riN (hK.sel [1] 99 (by decide) (by decide))) (by omega) (by omega)).mono ?_; rintro e w11 ⟨rfl, hww⟩; subst hww
  rw [Hpk1.out]
  go_wp2_with fail
  go_ret
  exact ⟨rfl, hK.below⟩
end Go.Proofs.Ytkaaiocbiknipaa

namespace Go.Proofs.Ytkaaiocbiknipaa.fnExactFactorProofs
open Go.ChangeShapes Go.WideShapes Go.ChangeAt Go.RowKit
theorem own : ownKnob Try.prog.godebug = none := by kernel_rfl
theorem laidOut : laidOutB Try.prog = true := by kernel_rfl
set_option maxRecDepth 100000 in
theorem contract (H : Type) (enc : TypeId × Value → H) (W : World) (base : Nat) (args : Array Value) (ds gs : List (DataW H)) (before : List MemPlace)
    (hval : ∀ (j : Nat) t v, Try.f14.params[j]? = some t → args[j]? = some v → Value.okWide Try.prog W .any base t v)
    (hW : DataW.Whole enc Try.prog Try.f14.params.toList Rows.fnExactFactorProofsSpec.vars false W args.toList ds gs before) :
    Calls Try.prog 14 args W fun e W' => ∃ v, e = .returned v ∧ Rows.fnExactFactorProofsSpec.post enc Try.prog Try.f14 false true false false W args v W' := by
  have hW' := hW
  obtain ⟨p, q, hA0, hV, rfl, hfz, hnd⟩ := hW
  have hA : DataW.TrodAll enc Try.prog W 0 (fun _ => true) true Try.f14.params.toList args.toList ds p := hA0
  rw [Try.params14] at hA hval
  obtain ⟨v0, vs0, d0, ds0, p0, q0, hargs, rfl, rfl, h0, r0⟩ := trodAll_cons hA
  obtain ⟨v1, vs1, d1, ds1, p1, q1, rfl, rfl, rfl, h1, r1⟩ := trodAll_cons r0
  obtain ⟨v2, vs2, d2, ds2, p2, q2, rfl, rfl, rfl, h2, r2⟩ := trodAll_cons r1
  obtain ⟨v3, vs3, d3, ds3, p3, q3, rfl, rfl, rfl, h3, r3⟩ := trodAll_cons r2
  obtain ⟨v4, vs4, d4, ds4, p4, q4, rfl, rfl, rfl, h4, r4⟩ := trodAll_cons r3
  obtain ⟨v5, vs5, d5, ds5, p5, q5, rfl, rfl, rfl, h5, r5⟩ := trodAll_cons r4
  obtain ⟨rfl, rfl, rfl⟩ := trodAll_nil r5
  obtain rfl : args = #[v0, v1, v2, v3, v4, v5] := by cases args; simp_all
  obtain ⟨rfl, rfl⟩ := trodVars_none hV
  clear hA0
  simp only [List.append_nil] at hW'
  have hlt : ∀ x ∈ p0 ++ (p1 ++ (p2 ++ (p3 ++ (p4 ++ (p5))))), x.block < W.heap.size := fun x hx => by
    have := hW'.lt x (by simpa using hx)
    simpa using this
  obtain ⟨i0, rfl⟩ := okWide_int Try.underlying2 (hval 0 _ _ rfl rfl)
  have t0 := h0
  have ib0 : -9223372036854775808 ≤ i0 ∧ i0 ≤ 9223372036854775807 := by
    obtain ⟨fuel0, hf0⟩ := h0
    obtain ⟨z, e, hz⟩ := rd_i64 hf0
    have e' : [Value.int .i64 i0] = [.int .i64 z] := e
    injection e' with e'
    injection e' with _ e'
    omega
  obtain ⟨i1, rfl⟩ := okWide_int Try.underlying2 (hval 1 _ _ rfl rfl)
  have t1 := h1
  have ib1 : -9223372036854775808 ≤ i1 ∧ i1 ≤ 9223372036854775807 := by
    obtain ⟨fuel1, hf1⟩ := h1
    obtain ⟨z, e, hz⟩ := rd_i64 hf1
    have e' : [Value.int .i64 i1] = [.int .i64 z] := e
    injection e' with e'
    injection e' with _ e'
    omega
  obtain ⟨i2, rfl⟩ := okWide_int Try.underlying2 (hval 2 _ _ rfl rfl)
  have t2 := h2
  have ib2 : -9223372036854775808 ≤ i2 ∧ i2 ≤ 9223372036854775807 := by
    obtain ⟨fuel2, hf2⟩ := h2
    obtain ⟨z, e, hz⟩ := rd_i64 hf2
    have e' : [Value.int .i64 i2] = [.int .i64 z] := e
    injection e' with e'
    injection e' with _ e'
    omega
  obtain ⟨i3, rfl⟩ := okWide_int Try.underlying2 (hval 3 _ _ rfl rfl)
  have t3 := h3
  have ib3 : -9223372036854775808 ≤ i3 ∧ i3 ≤ 9223372036854775807 := by
    obtain ⟨fuel3, hf3⟩ := h3
    obtain ⟨z, e, hz⟩ := rd_i64 hf3
    have e' : [Value.int .i64 i3] = [.int .i64 z] := e
    injection e' with e'
    injection e' with _ e'
    omega
  obtain ⟨i4, rfl⟩ := okWide_int Try.underlying2 (hval 4 _ _ rfl rfl)
  have t4 := h4
  have ib4 : -9223372036854775808 ≤ i4 ∧ i4 ≤ 9223372036854775807 := by
    obtain ⟨fuel4, hf4⟩ := h4
    obtain ⟨z, e, hz⟩ := rd_i64 hf4
    have e' : [Value.int .i64 i4] = [.int .i64 z] := e
    injection e' with e'
    injection e' with _ e'
    omega
  obtain ⟨i5, rfl⟩ := okWide_bool Try.underlying4 (hval 5 _ _ rfl rfl)
  have t5 := h5
  have walk : Calls Try.prog 14 #[.int .i64 i0, .int .i64 i1, .int .i64 i2, .int .i64 i3, .int .i64 i4, .bool i5] W fun e w' => e = .returned (.bool true) ∧ Below W.heap.size W w' :=
    law_FactorProofs i0 i1 i2 i3 i4 i5 W 
  refine walk.mono fun e W' ⟨he, hb⟩ => ?_
  subst he
  have u0 := Below.trod laidOut (by kernel_rfl) (of_decide_eq_true (by kernel_rfl)) t0 hb (fun x hx => hlt x (by simp only [List.mem_append]; simp [hx]))
  have u1 := Below.trod laidOut (by kernel_rfl) (of_decide_eq_true (by kernel_rfl)) t1 hb (fun x hx => hlt x (by simp only [List.mem_append]; simp [hx]))
  have u2 := Below.trod laidOut (by kernel_rfl) (of_decide_eq_true (by kernel_rfl)) t2 hb (fun x hx => hlt x (by simp only [List.mem_append]; simp [hx]))
  have u3 := Below.trod laidOut (by kernel_rfl) (of_decide_eq_true (by kernel_rfl)) t3 hb (fun x hx => hlt x (by simp only [List.mem_append]; simp [hx]))
  have u4 := Below.trod laidOut (by kernel_rfl) (of_decide_eq_true (by kernel_rfl)) t4 hb (fun x hx => hlt x (by simp only [List.mem_append]; simp [hx]))
  have u5 := Below.trod laidOut (by kernel_rfl) (of_decide_eq_true (by kernel_rfl)) t5 hb (fun x hx => hlt x (by simp only [List.mem_append]; simp [hx]))
  exact ⟨_, rfl, [d0, d1, d2, d3, d4, d5], [], p0 ++ (p1 ++ (p2 ++ (p3 ++ (p4 ++ (p5 ++ []))))), [], p0 ++ (p1 ++ (p2 ++ (p3 ++ (p4 ++ (p5 ++ []))))), [], by simpa using hW', trodAll_cons_mk (shut_bool Try.underlying4 _) trodAll_mk0, (trodAll_cons_mk u0 (trodAll_cons_mk u1 (trodAll_cons_mk u2 (trodAll_cons_mk u3 (trodAll_cons_mk u4 (trodAll_cons_mk u5 trodAll_mk0)))))), rfl, hb.frame _, fun h => by cases h⟩
theorem reads (os : Os) {H : Type} (enc : TypeId × Value → H) : ∃ places, DataW.whole enc Try.prog ((World.holding Try.prog os ⟨#[], #[], []⟩).forCall (fun _ _ => 0) ⟨#[], #[.int .i64 0, .int .i64 0, .int .i64 0, .int .i64 0, .int .i64 0, .bool false], []⟩).memory Try.f14.params.toList Rows.fnExactFactorProofsSpec.vars false (#[.int .i64 0, .int .i64 0, .int .i64 0, .int .i64 0, .int .i64 0, .bool false] : Array Value).toList 8 = some ([.lit (.int .i64 0), .lit (.int .i64 0), .lit (.int .i64 0), .lit (.int .i64 0), .lit (.int .i64 0), .lit (.bool false)], [], places) :=
  ⟨[], by kernel_rfl⟩
set_option maxRecDepth 100000 in
theorem lifted (os : Os) (started : os.Started) (H : Type) (enc : TypeId × Value → H) (F : Stop.Interp) :
    ReturnsInHanded {} Try.checked os 14 .any ((OpenSpec.ofChange Rows.fnExactFactorProofsSpec).preRow enc Try.prog Try.f14 Rows.fnExactFactorProofsRow.domain false Rows.fnExactFactorProofsRow.laid) (((OpenSpec.ofChange Rows.fnExactFactorProofsSpec).at F).post enc Try.prog Try.f14 false true false false) := by
  obtain ⟨places, hx⟩ := reads os enc
  refine returnsInHanded_of_row (C := Try.checked) (s := OpenSpec.ofChange Rows.fnExactFactorProofsSpec) own started (by kernel_rfl) Try.func14
    (witness_row_at (enc := enc) (C := Try.checked) false (World.holding Try.prog os ⟨#[], #[], []⟩) #[.int .i64 0, .int .i64 0, .int .i64 0, .int .i64 0, .int .i64 0, .bool false] rfl (by kernel_rfl) (by kernel_rfl) (by kernel_rfl)
      (OpenSpec.preRow_of_cond 8 hx (by kernel_rfl) (fun k hk => by cases hk) (by kernel_rfl) (laidMet_of_run' 8 (by kernel_rfl) (by kernel_rfl)))) ?_
  intro W base args ds gs before hval hW _ _ _ _ _ _
  exact contract H enc W base args ds gs before hval hW
set_option maxRecDepth 100000 in
set_option maxHeartbeats 20000000 in
theorem closed : joinedFacts Try.pinned.checked.prog 14 Try.f14 (OpenSpec.ofChange Rows.fnExactFactorProofsSpec).bare Rows.fnExactFactorProofsRow = true := by
  unfold joinedFacts
  simp only [Bool.and_eq_true]
  repeat' apply And.intro
  all_goals (as_aux_lemma => kernel_rfl)
theorem named : Try.pinned.checked.prog.funcNamed Rows.fnExactFactorProofsRow.func = some 14 := by kernel_rfl
theorem said : Rows.FnExactFactorProofsSaid :=
  OpenClaim.holds_of_cond 14 Try.f14 rfl rfl rfl rfl rfl rfl rfl ⟨rfl, rfl, rfl, rfl, rfl⟩ rfl rfl rfl rfl rfl named Try.func14 closed
    (of_decide_eq_true (by kernel_rfl)) (by unfold Func.isWrapper; first | (rw [if_pos (by decide +kernel)]; kernel_rfl) | (rw [if_neg (by decide +kernel)]; exact ⟨rfl, rfl⟩))
    (fun os started H enc _ F => by rw [OpenClaim.pre_eq_preRow]; exact lifted os started H enc F)
end Go.Proofs.Ytkaaiocbiknipaa.fnExactFactorProofs
