/- For every input the law FnReplayed returns true and leaves its arguments as they were: a journal without turns that undo each other leads to the same machine and is no longer, and recorded strokes are made. Condition: the tables of strconv hold what the program's text lays (tied by the card). -/
import Derived.Test.YtmmiahgmdllgdaaDoorZC1
import Derived.Test.YtmmiahgmdllgdaaDoorZC2
import Derived.Test.YtmmiahgmdllgdaaDoorZC3
import Derived.Test.YtmmiahgmdllgdaaDoorZC4
import Derived.Test.YtmmiahgmdllgdaaDoorZC5
import Derived.Test.YtmmiahgmdllgdaaDoorZC6
import Derived.Test.YtmmiahgmdllgdaaDoorZC7
import Derived.OpenShut
import Derived.ProofKit
import Derived.Carry
import Derived.ChangeMaps5
namespace Go.Proofs.YtmmiahgmdllgdaaDoor.fnReplayed
open Go.ChangeShapes Go.WideShapes Go.ChangeAt Go.RowKit
set_option maxRecDepth 100000 in
theorem contract (H : Type) (enc : TypeId × Value → H) (W : World) (base : Nat) (args : Array Value) (ds gs : List (DataW H)) (before : List MemPlace)
    (hval : ∀ (j : Nat) t v, Tryd.f3.params[j]? = some t → args[j]? = some v → Value.okWide Tryd.prog W .any base t v)
    (hW : DataW.Whole enc Tryd.prog Tryd.f3.params.toList Rows.fnReplayedSpec.vars false W args.toList ds gs before) (hL : laidMetH Tryd.prog Rows.fnReplayedRow.laid W) :
    Calls Tryd.prog 3 args W fun e W' => ∃ v, e = .returned v ∧ Rows.fnReplayedSpec.post enc Tryd.prog Tryd.f3 false true false false W args v W' := by
  have hW' := hW
  obtain ⟨p, q, hA0, hV, rfl, hfz, hnd⟩ := hW
  have hA : DataW.TrodAll enc Tryd.prog W 0 (fun _ => true) true Tryd.f3.params.toList args.toList ds p := hA0
  rw [Tryd.params3] at hA hval
  obtain ⟨v0, vs0, d0, ds0, p0, q0, hargs, rfl, rfl, h0, r0⟩ := trodAll_cons hA
  obtain ⟨v1, vs1, d1, ds1, p1, q1, rfl, rfl, rfl, h1, r1⟩ := trodAll_cons r0
  obtain ⟨rfl, rfl, rfl⟩ := trodAll_nil r1
  obtain rfl : args = #[v0, v1] := by cases args; simp_all
  obtain ⟨rfl, rfl⟩ := trodVars_none hV
  clear hA0
  simp only [List.append_nil] at hW'
  have hlt : ∀ x ∈ p0 ++ (p1), x.block < W.heap.size := fun x hx => by
    have := hW'.lt x (by simpa using hx)
    simpa using this
  obtain ⟨Y0A, Y0n, Y0c, rfl⟩ := okWide_slice Tryd.underlying22 (hval 0 _ _ rfl rfl)
  have t0 := h0
  obtain ⟨fuel0, hf0⟩ := h0
  obtain ⟨QA0, Qn0, Qc0, Y0xs, hcs0, hr0, hn0⟩ := rd_bytes hf0
  obtain ⟨rfl, rfl, rfl⟩ : QA0 = Y0A ∧ Qn0 = Y0n ∧ Qc0 = Y0c := by
    have : [Value.slice Y0A Y0n Y0c] = [.slice QA0 Qn0 Qc0] := hcs0
    injection this with this
    injection this with e1 e2 e3
    exact ⟨e1.symm, e2.symm, e3.symm⟩
  obtain ⟨Y1A, Y1n, Y1c, rfl⟩ := okWide_slice Tryd.underlying22 (hval 1 _ _ rfl rfl)
  have t1 := h1
  obtain ⟨fuel1, hf1⟩ := h1
  obtain ⟨QA1, Qn1, Qc1, Y1xs, hcs1, hr1, hn1⟩ := rd_bytes hf1
  obtain ⟨rfl, rfl, rfl⟩ : QA1 = Y1A ∧ Qn1 = Y1n ∧ Qc1 = Y1c := by
    have : [Value.slice Y1A Y1n Y1c] = [.slice QA1 Qn1 Qc1] := hcs1
    injection this with this
    injection this with e1 e2 e3
    exact ⟨e1.symm, e2.symm, e3.symm⟩
  have walk : Calls Tryd.prog 3 #[.slice QA0 Qn0 Qc0, .slice QA1 Qn1 Qc1] W fun e w' => e = .returned (.bool true) ∧ Below W.heap.size W w' :=
    law_Replayed QA0 Qn0 Qc0 Y0xs QA1 Qn1 Qc1 Y1xs W hr0 hn0 hr1 hn1 (tb_of_laid hL)
  refine walk.mono fun e W' ⟨he, hb⟩ => ?_
  subst he
  have u0 := Below.trod laidOut (by kernel_rfl) (of_decide_eq_true (by kernel_rfl)) t0 hb (fun x hx => hlt x (by simp only [List.mem_append]; simp [hx]))
  have u1 := Below.trod laidOut (by kernel_rfl) (of_decide_eq_true (by kernel_rfl)) t1 hb (fun x hx => hlt x (by simp only [List.mem_append]; simp [hx]))
  exact ⟨_, rfl, [d0, d1], [], p0 ++ (p1 ++ []), [], p0 ++ (p1 ++ []), [], by simpa using hW', trodAll_cons_mk (shut_bool Tryd.underlying4 _) trodAll_mk0, (trodAll_cons_mk u0 (trodAll_cons_mk u1 trodAll_mk0)), rfl, hb.frame _, fun h => by cases h⟩
theorem reads (os : Os) {H : Type} (enc : TypeId × Value → H) : ∃ places, DataW.whole enc Tryd.prog ((laidWorld os).forCall (fun _ _ => 0) ⟨#[], #[.slice none 0 0, .slice none 0 0], []⟩).memory Tryd.f3.params.toList Rows.fnReplayedSpec.vars false (#[.slice none 0 0, .slice none 0 0] : Array Value).toList 8 = some ([.nil, .nil], [], places) :=
  ⟨[], by kernel_rfl⟩
set_option maxRecDepth 100000 in
theorem lifted (os : Os) (started : os.Started) (H : Type) (enc : TypeId × Value → H) (F : Stop.Interp) :
    ReturnsInHanded {} Tryd.checked os 3 .any ((OpenSpec.ofChange Rows.fnReplayedSpec).preRow enc Tryd.prog Tryd.f3 Rows.fnReplayedRow.domain false Rows.fnReplayedRow.laid) (((OpenSpec.ofChange Rows.fnReplayedSpec).at F).post enc Tryd.prog Tryd.f3 false true false false) := by
  obtain ⟨places, hx⟩ := reads os enc
  refine returnsInHanded_of_row (C := Tryd.checked) (s := OpenSpec.ofChange Rows.fnReplayedSpec) own started (by kernel_rfl) Tryd.func3
    (witness_row_at (enc := enc) (C := Tryd.checked) false (laidWorld os) #[.slice none 0 0, .slice none 0 0] rfl (by kernel_rfl) (by kernel_rfl) (by kernel_rfl)
      (OpenSpec.preRow_of_cond 8 hx (by kernel_rfl) (fun k hk => by cases hk) (by kernel_rfl) (laid_met os _))) ?_
  intro W base args ds gs before hval hW _ _ _ hL _ _
  exact contract H enc W base args ds gs before hval hW hL
set_option maxRecDepth 100000 in
set_option maxHeartbeats 20000000 in
theorem closed : joinedFacts Tryd.pinned.checked.prog 3 Tryd.f3 (OpenSpec.ofChange Rows.fnReplayedSpec).bare Rows.fnReplayedRow = true := by
  unfold joinedFacts
  simp only [Bool.and_eq_true]
  repeat' apply And.intro
  all_goals (as_aux_lemma => kernel_rfl)
theorem said : Rows.FnReplayedSaid :=
  OpenClaim.holds_of_cond 3 Tryd.f3 rfl rfl rfl rfl rfl rfl rfl ⟨rfl, rfl, rfl, rfl, rfl⟩ rfl rfl rfl rfl rfl (by kernel_rfl) Tryd.func3 closed
    (of_decide_eq_true (by kernel_rfl)) (by unfold Func.isWrapper; first | (rw [if_pos (by decide +kernel)]; kernel_rfl) | (rw [if_neg (by decide +kernel)]; exact ⟨rfl, rfl⟩))
    (fun os started H enc _ F => by rw [OpenClaim.pre_eq_preRow]; exact lifted os started H enc F)
theorem plain (f : FuncId) (fn : Func) (hf : Tryd.pinned.checked.prog.funcNamed "loop.example/g00930/laws.FnReplayed" = some f) (hfn : Tryd.pinned.checked.prog.funcs[f]? = some fn) :
    false = Tryd.pinned.checked.prog.looks [] ∧ ∀ (j : Nat) t, fn.params[j]? = some t → Tryd.pinned.checked.prog.wantsStandIn t = false := by
  obtain rfl : f = 3 := Option.some.inj ((show Tryd.prog.funcNamed "loop.example/g00930/laws.FnReplayed" = some 3 by kernel_rfl).symm.trans hf) |>.symm
  obtain rfl : fn = Tryd.f3 := (Option.some.inj (Tryd.func3.symm.trans hfn)).symm
  refine ⟨by kernel_rfl, fun j t ht => ?_⟩
  rw [Tryd.params3] at ht
  have s0 : Tryd.prog.wantsStandIn 22 = false := by kernel_rfl
  have hm := Array.mem_of_getElem? ht
  have hm' : t = 22 := by simp at hm; exact hm
  subst hm'
  exact s0
/-- THE CARD. -/
theorem card : Rows.FnReplayedCardSaid :=
  Claim7.holds_tied_plain_at .later [] _ _ _ _ said (fun _ h => by cases h) (by kernel_rfl) (fun _ h => by cases h) fnReplayed_row_tie rfl ⟨rfl, rfl⟩ (by kernel_rfl) rfl plain (by kernel_rfl)
end Go.Proofs.YtmmiahgmdllgdaaDoor.fnReplayed
