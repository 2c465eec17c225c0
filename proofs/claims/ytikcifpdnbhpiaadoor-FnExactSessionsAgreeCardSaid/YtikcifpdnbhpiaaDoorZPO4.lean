/- For every input the law FnExactSessionsAgree returns true and leaves its arguments as they were: the program and the reference agree on whether two sessions agree. Condition: the tables of strconv hold what the program's text lays (tied by the card). -/
import Derived.Test.YtikcifpdnbhpiaaDoorZC1
import Derived.Test.YtikcifpdnbhpiaaDoorZC2
import Derived.Test.YtikcifpdnbhpiaaDoorZC3
import Derived.Test.YtikcifpdnbhpiaaDoorZC4
import Derived.Test.YtikcifpdnbhpiaaDoorZC5
import Derived.Test.YtikcifpdnbhpiaaDoorZC6
import Derived.Test.YtikcifpdnbhpiaaDoorZC7
import Derived.OpenShut
import Derived.ProofKit
import Derived.Carry
import Derived.ChangeMaps5
namespace Go.Proofs.YtikcifpdnbhpiaaDoor
open Go.RowKit Go.Sort
set_option maxRecDepth 100000 in
set_option maxHeartbeats 6400000 in
theorem law_SessionsAgree (SA0 : Option Addr) (sn0 sc0 : Nat) (SL0 : List ByteArray) (SA1 : Option Addr) (sn1 sc1 : Nat) (SL1 : List ByteArray) (w : World) (hs0 : RL StrM 1 w SA0 sn0 SL0) (hsn0 : sn0 ≤ 9223372036854775807) (hsz0 : ∀ s ∈ SL0, s.size ≤ 9223372036854775807) (hs1 : RL StrM 1 w SA1 sn1 SL1) (hsn1 : sn1 ≤ 9223372036854775807) (hsz1 : ∀ s ∈ SL1, s.size ≤ 9223372036854775807) (ht : TB w) :
    Calls Tryd.prog 7 #[.slice SA0 sn0 sc0, .slice SA1 sn1 sc1] w fun e w' => e = .returned (.bool true) ∧ Below w.heap.size w w' := by
  have HID0 := True.intro
  by_cases hsl0 : (sn0 : Int) + totS SL0 ≤ (1048576 : Int)
  rotate_left
  · have hsm0 : (-1 : Int) < 0 := by omega
    go_enter Tryd.func7, Tryd.ntmps7
    go_wp2_with fail
    refine (szStringS_any SA0 sn0 sc0 SL0 _ _ hs0 hsz0 (by first | exact hl0 | omega) (by first | exact hl1 | omega) hsn0).mono ?_; rintro e w3 ⟨rfl, hww⟩
    subst hww
    rw [if_neg (by omega)]
    go_wp2_with fail
    go_ret
    exact ⟨rfl, Below.refl _ _⟩
  have hsb0 : sn0 ≤ 1048576 := by omega
  have hsp0 : ¬ ((1048576 : Int) - (sn0 : Int) - totS SL0 < 0) := by omega
  have hst0 : ∀ s ∈ SL0, s.size ≤ 1048576 := fun s hs => by have := totS_mem hs; omega
  by_cases hsl1 : (sn1 : Int) + totS SL1 ≤ ((1048576 : Int) - sn0 - totS SL0)
  rotate_left
  · have hsm1 : (-1 : Int) < 0 := by omega
    go_enter Tryd.func7, Tryd.ntmps7
    go_wp2_with fail
    refine (szStringS_any SA0 sn0 sc0 SL0 _ _ hs0 hsz0 (by first | exact hl0 | omega) (by first | exact hl1 | omega) hsn0).mono ?_; rintro e w3 ⟨rfl, hww⟩
    subst hww
    rw [if_pos (by omega)]
    go_wp2_with fail
    refine (szStringS_any SA1 sn1 sc1 SL1 _ _ hs1 hsz1 (by first | exact hl0 | omega) (by first | exact hl1 | omega) hsn1).mono ?_; rintro e w3 ⟨rfl, hww⟩
    subst hww
    rw [if_neg (by omega)]
    go_wp2_with fail
    go_ret
    exact ⟨rfl, Below.refl _ _⟩
  have hsb1 : sn1 ≤ 1048576 := by omega
  have hsp1 : ¬ (((1048576 : Int) - sn0 - totS SL0) - (sn1 : Int) - totS SL1 < 0) := by omega
  have hst1 : ∀ s ∈ SL1, s.size ≤ 1048576 := fun s hs => by have := totS_mem hs; omega
  have TS0 := Lib.hid (fun W (hW : Below w.heap.size w W) => toStringS_kn SA0 sn0 sc0 SL0 W (hs0.below steady_StrM hW) hsb0)
  have HST0 := Lib.hid hst0
  have HSZ0 := Lib.hid hsz0
  have TS1 := Lib.hid (fun W (hW : Below w.heap.size w W) => toStringS_kn SA1 sn1 sc1 SL1 W (hs1.below steady_StrM hW) hsb1)
  have HST1 := Lib.hid hst1
  have HSZ1 := Lib.hid hsz1
  have HTB := Lib.hid (fun W (hW : Below w.heap.size w W) => TB.below ht hW)
  have KS := (fun (SX0 : Option Addr) (sx0 : Nat) (SX1 : Option Addr) (sx1 : Nat) W ht0 ht1 (hW : Below w.heap.size w W) => specSessionsAgree_any SX0 sn0 sx0 SL0 SX1 sn1 sx1 SL1 W ht0 HST0.out ht1 HST1.out)
  have KI := (fun (SX0 : Option Addr) (sx0 : Nat) (SX1 : Option Addr) (sx1 : Nat) W ht0 ht1 (hW : Below w.heap.size w W) => SessionsAgree_any SX0 sn0 sx0 SL0 SX1 sn1 sx1 SL1 W ht0 HST0.out ht1 HST1.out (HTB.out W hW))
  obtain ⟨RI0, hRI0⟩ : ∃ x, saB (SL0.map strB) (SL1.map strB) = x := ⟨_, rfl⟩
  rw [hRI0] at KS KI
  clear hRI0
  have KS := Lib.hid KS
  have KI := Lib.hid KI
  clear hst0 hst1
  go_enter Tryd.func7, Tryd.ntmps7
  go_wp2_with fail
  refine (szStringS_any SA0 sn0 sc0 SL0 _ _ hs0 hsz0 (by first | exact hl0 | omega) (by first | exact hl1 | omega) hsn0).mono ?_; rintro e w3 ⟨rfl, hww⟩
  subst hww
  rw [if_pos (by omega)]
  go_wp2_with fail
  refine (szStringS_any SA1 sn1 sc1 SL1 _ _ hs1 hsz1 (by first | exact hl0 | omega) (by first | exact hl1 | omega) hsn1).mono ?_; rintro e w3 ⟨rfl, hww⟩
  subst hww
  rw [if_pos (by omega)]
  have hK := Kn.nil w
  go_wp2_with fail
  refine (TS0.out _ hK.below).mono ?_; rintro e w4 ⟨X1, x1, rfl, hKn⟩
  have hK : Kn w [rowSN X1 sn0 x1 SL0] w4 := hK.join hKn
  clear hKn
  go_wp2_with fail
  refine (TS1.out _ hK.below).mono ?_; rintro e w5 ⟨X2, x2, rfl, hKn⟩
  have hK : Kn w [rowSN X2 sn1 x2 SL1, rowSN X1 sn0 x1 SL0] w5 := hK.join hKn
  clear hKn
  go_wp2_with fail
  refine (KS.out X1 x1 X2 x2 _ (Kn.rlSN (hK.sel [1] 99 (by decide) (by decide))).2 (Kn.rlSN (hK.sel [0] 99 (by decide) (by decide))).2 hK.below).mono ?_; rintro e w6 ⟨rfl, hw⟩
  have hK : Kn w [rowSN X2 sn1 x2 SL1, rowSN X1 sn0 x1 SL0] w6 := hK.keep hw
  clear hw
  go_wp2_with fail
  refine (TS0.out _ hK.below).mono ?_; rintro e w7 ⟨X3, x3, rfl, hKn⟩
  have hK : Kn w [rowSN X3 sn0 x3 SL0, rowSN X2 sn1 x2 SL1, rowSN X1 sn0 x1 SL0] w7 := hK.join hKn
  clear hKn
  go_wp2_with fail
  refine (TS1.out _ hK.below).mono ?_; rintro e w8 ⟨X4, x4, rfl, hKn⟩
  have hK : Kn w [rowSN X4 sn1 x4 SL1, rowSN X3 sn0 x3 SL0, rowSN X2 sn1 x2 SL1, rowSN X1 sn0 x1 SL0] w8 := hK.join hKn
  clear hKn
  go_wp2_with fail
  refine (KI.out X3 x3 X4 x4 _ (Kn.rlSN (hK.sel [1] 99 (by decide) (by decide))).2 (Kn.rlSN (hK.sel [0] 99 (by decide) (by decide))).2 hK.below).mono ?_; rintro e w9 ⟨rfl, hw⟩
  have hK : Kn w [rowSN X4 sn1 x4 SL1, rowSN X3 sn0 x3 SL0, rowSN X2 sn1 x2 SL1, rowSN X1 sn0 x1 SL0] w9 := hK.keep hw
  clear hw
  go_wp2_with fail
  refine (TS0.out _ hK.below).mono ?_; rintro e w10 ⟨X5, x5, rfl, hKn⟩
  have hK : Kn w [rowSN X5 sn0 x5 SL0, rowSN X4 sn1 x4 SL1, rowSN X3 sn0 x3 SL0, rowSN X2 sn1 x2 SL1, rowSN X1 sn0 x1 SL0] w10 := hK.join hKn
  clear hKn
  go_wp2_with fail
  refine (eqS_same _ _ _ _ _ _ _ ((Kn.rlSN (hK.sel [2] 99 (by decide) (by decide))).2) ((Kn.rlSN (hK.sel [0] 99 (by decide) (by decide))).2) (by omega)).mono ?_; rintro e w11 ⟨rfl, hw⟩
  have hK : Kn w [rowSN X5 sn0 x5 SL0, rowSN X4 sn1 x4 SL1, rowSN X3 sn0 x3 SL0, rowSN X2 sn1 x2 SL1, rowSN X1 sn0 x1 SL0] w11 := hK.keep hw
  clear hw
  go_wp2_with fail
  refine (TS1.out _ hK.below).mono ?_; rintro e w12 ⟨X6, x6, rfl, hKn⟩
  have hK : Kn w [rowSN X6 sn1 x6 SL1, rowSN X5 sn0 x5 SL0, rowSN X4 sn1 x4 SL1, rowSN X3 sn0 x3 SL0, rowSN X2 sn1 x2 SL1, rowSN X1 sn0 x1 SL0] w12 := hK.join hKn
  clear hKn
  go_wp2_with fail
  refine (eqS_same _ _ _ _ _ _ _ ((Kn.rlSN (hK.sel [2] 99 (by decide) (by decide))).2) ((Kn.rlSN (hK.sel [0] 99 (by decide) (by decide))).2) (by omega)).mono ?_; rintro e w13 ⟨rfl, hw⟩
  have hK : Kn w [rowSN X6 sn1 x6 SL1, rowSN X5 sn0 x5 SL0, rowSN X4 sn1 x4 SL1, rowSN X3 sn0 x3 SL0, rowSN X2 sn1 x2 SL1, rowSN X1 sn0 x1 SL0] w13 := hK.keep hw
  clear hw
  go_wp2_with fail
  go_ret
  exact ⟨rfl, hK.below⟩
end Go.Proofs.YtikcifpdnbhpiaaDoor

namespace Go.Proofs.YtikcifpdnbhpiaaDoor.fnExactSessionsAgree
open Go.ChangeShapes Go.WideShapes Go.ChangeAt Go.RowKit
set_option maxRecDepth 100000 in
theorem contract (H : Type) (enc : TypeId × Value → H) (W : World) (base : Nat) (args : Array Value) (ds gs : List (DataW H)) (before : List MemPlace)
    (hval : ∀ (j : Nat) t v, Tryd.f7.params[j]? = some t → args[j]? = some v → Value.okWide Tryd.prog W .any base t v)
    (hW : DataW.Whole enc Tryd.prog Tryd.f7.params.toList Rows.fnExactSessionsAgreeSpec.vars false W args.toList ds gs before) (hL : laidMetH Tryd.prog Rows.fnExactSessionsAgreeRow.laid W) :
    Calls Tryd.prog 7 args W fun e W' => ∃ v, e = .returned v ∧ Rows.fnExactSessionsAgreeSpec.post enc Tryd.prog Tryd.f7 false true false false W args v W' := by
  have hW' := hW
  obtain ⟨p, q, hA0, hV, rfl, hfz, hnd⟩ := hW
  have hA : DataW.TrodAll enc Tryd.prog W 0 (fun _ => true) true Tryd.f7.params.toList args.toList ds p := hA0
  rw [Tryd.params7] at hA hval
  obtain ⟨v0, vs0, d0, ds0, p0, q0, hargs, rfl, rfl, h0, r0⟩ := trodAll_cons hA
  obtain ⟨v1, vs1, d1, ds1, p1, q1, rfl, rfl, rfl, h1, r1⟩ := trodAll_cons r0
  obtain ⟨rfl, rfl, rfl⟩ := trodAll_nil r1
  obtain rfl : args = #[v0, v1] := by cases args; simp_all
  obtain ⟨rfl, rfl⟩ := trodVars_none hV
  clear hA0
  simp only [List.append_nil] at hW'
  have hlt : ∀ x ∈ p0 ++ (p1), x.block < W.heap.size := fun x hx => by
    have := hW'.lt x (by simpa using hx)
    simpa using this
  obtain ⟨S0A, S0n, S0c, rfl⟩ := okWide_slice Tryd.underlying41 (hval 0 _ _ rfl rfl)
  have t0 := h0
  obtain ⟨fuel0, hf0⟩ := h0
  obtain ⟨A0, n0, c0, S0xs, hcs0, hr0, hn0, hs0⟩ := rd_strings hf0
  obtain ⟨rfl, rfl, rfl⟩ : A0 = S0A ∧ n0 = S0n ∧ c0 = S0c := by
    have : [Value.slice S0A S0n S0c] = [.slice A0 n0 c0] := hcs0
    injection this with this
    injection this with e1 e2 e3
    exact ⟨e1.symm, e2.symm, e3.symm⟩
  obtain ⟨S1A, S1n, S1c, rfl⟩ := okWide_slice Tryd.underlying41 (hval 1 _ _ rfl rfl)
  have t1 := h1
  obtain ⟨fuel1, hf1⟩ := h1
  obtain ⟨A1, n1, c1, S1xs, hcs1, hr1, hn1, hs1⟩ := rd_strings hf1
  obtain ⟨rfl, rfl, rfl⟩ : A1 = S1A ∧ n1 = S1n ∧ c1 = S1c := by
    have : [Value.slice S1A S1n S1c] = [.slice A1 n1 c1] := hcs1
    injection this with this
    injection this with e1 e2 e3
    exact ⟨e1.symm, e2.symm, e3.symm⟩
  have walk : Calls Tryd.prog 7 #[.slice A0 n0 c0, .slice A1 n1 c1] W fun e w' => e = .returned (.bool true) ∧ Below W.heap.size W w' :=
    law_SessionsAgree A0 n0 c0 S0xs A1 n1 c1 S1xs W hr0 hn0 hs0 hr1 hn1 hs1 (tb_of_laid hL)
  refine walk.mono fun e W' ⟨he, hb⟩ => ?_
  subst he
  have u0 := Below.trod laidOut (by kernel_rfl) (of_decide_eq_true (by kernel_rfl)) t0 hb (fun x hx => hlt x (by simp only [List.mem_append]; simp [hx]))
  have u1 := Below.trod laidOut (by kernel_rfl) (of_decide_eq_true (by kernel_rfl)) t1 hb (fun x hx => hlt x (by simp only [List.mem_append]; simp [hx]))
  exact ⟨_, rfl, [d0, d1], [], p0 ++ (p1 ++ []), [], p0 ++ (p1 ++ []), [], by simpa using hW', trodAll_cons_mk (shut_bool Tryd.underlying4 _) trodAll_mk0, (trodAll_cons_mk u0 (trodAll_cons_mk u1 trodAll_mk0)), rfl, hb.frame _, fun h => by cases h⟩
theorem reads (os : Os) {H : Type} (enc : TypeId × Value → H) : ∃ places, DataW.whole enc Tryd.prog ((laidWorld os).forCall (fun _ _ => 0) ⟨#[], #[.slice none 0 0, .slice none 0 0], []⟩).memory Tryd.f7.params.toList Rows.fnExactSessionsAgreeSpec.vars false (#[.slice none 0 0, .slice none 0 0] : Array Value).toList 8 = some ([.nil, .nil], [], places) :=
  ⟨[], by kernel_rfl⟩
set_option maxRecDepth 100000 in
theorem lifted (os : Os) (started : os.Started) (H : Type) (enc : TypeId × Value → H) (F : Stop.Interp) :
    ReturnsInHanded {} Tryd.checked os 7 .any ((OpenSpec.ofChange Rows.fnExactSessionsAgreeSpec).preRow enc Tryd.prog Tryd.f7 Rows.fnExactSessionsAgreeRow.domain false Rows.fnExactSessionsAgreeRow.laid) (((OpenSpec.ofChange Rows.fnExactSessionsAgreeSpec).at F).post enc Tryd.prog Tryd.f7 false true false false) := by
  obtain ⟨places, hx⟩ := reads os enc
  refine returnsInHanded_of_row (C := Tryd.checked) (s := OpenSpec.ofChange Rows.fnExactSessionsAgreeSpec) own started (by kernel_rfl) Tryd.func7
    (witness_row_at (enc := enc) (C := Tryd.checked) false (laidWorld os) #[.slice none 0 0, .slice none 0 0] rfl (by kernel_rfl) (by kernel_rfl) (by kernel_rfl)
      (OpenSpec.preRow_of_cond 8 hx (by kernel_rfl) (fun k hk => by cases hk) (by kernel_rfl) (laid_met os _))) ?_
  intro W base args ds gs before hval hW _ _ _ hL _ _
  exact contract H enc W base args ds gs before hval hW hL
theorem said : Rows.FnExactSessionsAgreeSaid :=
  OpenClaim.holds_of_cond 7 Tryd.f7 rfl rfl rfl rfl rfl rfl rfl ⟨rfl, rfl, rfl, rfl, rfl⟩ rfl rfl rfl rfl rfl (by kernel_rfl) Tryd.func7 (by kernel_rfl)
    (of_decide_eq_true (by kernel_rfl)) (by unfold Func.isWrapper; first | (rw [if_pos (by decide +kernel)]; kernel_rfl) | (rw [if_neg (by decide +kernel)]; exact ⟨rfl, rfl⟩))
    (fun os started H enc _ F => by rw [OpenClaim.pre_eq_preRow]; exact lifted os started H enc F)
theorem plain (f : FuncId) (fn : Func) (hf : Tryd.pinned.checked.prog.funcNamed "loop.example/g00930/laws.FnExactSessionsAgree" = some f) (hfn : Tryd.pinned.checked.prog.funcs[f]? = some fn) :
    false = Tryd.pinned.checked.prog.looks [] ∧ ∀ (j : Nat) t, fn.params[j]? = some t → Tryd.pinned.checked.prog.wantsStandIn t = false := by
  obtain rfl : f = 7 := Option.some.inj ((show Tryd.prog.funcNamed "loop.example/g00930/laws.FnExactSessionsAgree" = some 7 by kernel_rfl).symm.trans hf) |>.symm
  obtain rfl : fn = Tryd.f7 := (Option.some.inj (Tryd.func7.symm.trans hfn)).symm
  refine ⟨by kernel_rfl, fun j t ht => ?_⟩
  rw [Tryd.params7] at ht
  have s0 : Tryd.prog.wantsStandIn 41 = false := by kernel_rfl
  have hm := Array.mem_of_getElem? ht
  have hm' : t = 41 := by simp at hm; exact hm
  subst hm'
  exact s0
/-- THE CARD. -/
theorem card : Rows.FnExactSessionsAgreeCardSaid :=
  Claim7.holds_tied_plain_at .later [] _ _ _ _ said (fun _ h => by cases h) (by kernel_rfl) (fun _ h => by cases h) fnExactSessionsAgree_row_tie rfl ⟨rfl, rfl⟩ (by kernel_rfl) rfl plain (by kernel_rfl)
end Go.Proofs.YtikcifpdnbhpiaaDoor.fnExactSessionsAgree
