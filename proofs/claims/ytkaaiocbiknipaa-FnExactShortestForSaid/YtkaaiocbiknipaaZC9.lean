/- Part 9: lemmas and contracts of the claim's functions. -/
import Derived.Test.YtkaaiocbiknipaaZC1
import Derived.Test.YtkaaiocbiknipaaZC2
import Derived.Test.YtkaaiocbiknipaaZC3
import Derived.Test.YtkaaiocbiknipaaZC4
import Derived.Test.YtkaaiocbiknipaaZC5
import Derived.Test.YtkaaiocbiknipaaZC6
import Derived.Test.YtkaaiocbiknipaaZC7
import Derived.Test.YtkaaiocbiknipaaZC8
namespace Go.Proofs.Ytkaaiocbiknipaa
open Go.RowKit Go.Sort
/-- the program that adds values -/
def inV (vs : List Int) : Bool := vs.all (fun v => betB v 0 1000000000000)
theorem inV_take_succ {vs : List Int} {k : Nat} (h : k < vs.length) : inV (vs.take (k + 1)) = (inV (vs.take k) && betB vs[k] 0 1000000000000) := by
  unfold inV; rw [List.take_succ_eq_append_getElem h, List.all_append]; simp only [List.all_cons, List.all_nil, Bool.and_true]
theorem inV_not {vs : List Int} {k : Nat} (h : k < vs.length) (h1 : betB vs[k] 0 1000000000000 = false) : inV vs = false := by
  simp only [inV, List.all_eq_false]; exact ⟨vs[k], List.getElem_mem _, by simp [h1]⟩
def sumL (vs : List Int) : List Ins := ⟨6, 0⟩ :: vs.flatMap (fun v => [⟨1, v⟩, ⟨2, 1⟩])
theorem sumL_step {vs : List Int} {k : Nat} (h : k < vs.length) : sumL (vs.take (k + 1)) = sumL (vs.take k) ++ [⟨1, vs[k]⟩, ⟨2, 1⟩] := by
  unfold sumL; rw [List.take_succ_eq_append_getElem h, List.flatMap_append]; rfl
theorem sumL_len (vs : List Int) : (sumL vs).length = 1 + 2 * vs.length := by
  unfold sumL
  induction vs with
  | nil => rfl
  | cons v vs ih => simp only [List.flatMap_cons, List.length_cons, List.length_append, List.length_nil] at ih ⊢; omega
def spC (vs : List Int) : Int := if inV vs = false then 2 else if 120 < 2 * (vs.length : Int) + 1 then 5 else 0
def spL (vs : List Int) : List Ins := if spC vs = 0 then sumL vs else []
theorem sp_bad {vs : List Int} {c : Int} (h : spC vs = c) (hc : ¬ c = 0) : spC vs = c ∧ spL vs = [] := ⟨h, by unfold spL; rw [h, if_neg hc]⟩
theorem sp_fine {vs : List Int} (h : spC vs = 0) : spC vs = 0 ∧ spL vs = sumL vs := ⟨h, by unfold spL; rw [h, if_pos rfl]⟩
def SPRet (vs : List Int) (w : World) (e : Ending) (w' : World) : Prop := ∃ LA lc, e = .returned (.tuple #[.slice LA (spL vs).length lc, .int .i64 (spC vs)]) ∧ Kn w [rowIns (.slice LA (spL vs).length lc) (spL vs)] w'
theorem SPRet.bad {vs : List Int} {c : Int} {w w' : World} (h : spC vs = c ∧ spL vs = []) (hk : Kn w [] w') : SPRet vs w (.returned (.tuple #[.slice none 0 0, .int .i64 c])) w' := by
  unfold SPRet
  rw [h.1, h.2]
  exact ⟨none, 0, rfl, hk.nilRow _ _⟩
theorem SPRet.fine {vs : List Int} {w w' : World} {A : Option Addr} {c : Nat} (h : spC vs = 0 ∧ spL vs = sumL vs) (hk : Kn w [rowIns (.slice A (sumL vs).length c) (sumL vs)] w') : SPRet vs w (.returned (.tuple #[.slice A (sumL vs).length c, .int .i64 0])) w' := by
  unfold SPRet
  rw [h.1, h.2]
  exact ⟨A, c, rfl, hk⟩
set_option maxRecDepth 100000 in
set_option maxHeartbeats 1600000 in
theorem l12Sum_any (A : Option Addr) (n c : Nat) (vs : List Int) (w : World) (hr : RI w A n vs) (hm : n ≤ 1048576) :
    Calls Try.prog 190 #[.slice A n c] w fun e w' => ∃ LA lc, e = .returned (.slice LA (sumL vs).length lc) ∧ Kn w [rowIns (.slice LA (sumL vs).length lc) (sumL vs)] w' := by
  have HL := Lib.hid hr.1
  have HLN := Lib.hid (fun (k : Nat) (h : k ≤ n) => show (sumL (vs.take k)).length ≤ 1 + 2 * n by rw [sumL_len, List.length_take]; omega)
  have HFN := Lib.hid (show sumL (vs.take n) = sumL vs by rw [List.take_of_length_le (by have := hr.1; omega)])
  have hK2 : Kn w [rowIns (.slice (some ⟨w.heap.size, 0, none⟩) 1 1) (sumL (vs.take 0))] _ := ((Kn.nil w).al [.int .i64 6, .int .i64 0] 156).litRow (size := 2) (n := 1) rfl (by decide)
  go_enter Try.func190, Try.ntmps190
  go_wp2_with fail
  go_loopw [3, 4] (fun vv kk wr => ∃ (k : Nat), k ≤ n ∧ kk = .int .i64 k ∧ Kn w [rowIns vv (sumL (vs.take k))] wr) (fun _ kk _ => n - (intOf kk).toNat)
  case atStart => exact ⟨0, Nat.zero_le _, rfl, hK2⟩
  case round =>
    clear hK2
    obtain ⟨k, hk, rfl, hK⟩ := hrel
    have hln := HLN.out k hk
    obtain ⟨ds, hds⟩ : ∃ ds, sumL (vs.take k) = ds := ⟨_, rfl⟩
    have HDJ := Lib.hid hds
    rw [hds] at hK hln
    obtain ⟨A0, c0, rfl⟩ := row_form hK.at0
    by_cases hkn : k < n
    · obtain ⟨ad, hA, hlt, hkl, hc⟩ := (hr.below hK.below).at_ hkn
      subst hA
      have HNX := Lib.hid (sumL_step hkl)
      obtain ⟨v, hv⟩ : ∃ v, vs[k] = v := ⟨_, rfl⟩
      have HNX := HNX.out
      rw [hv, hds] at HNX
      rw [hv] at hc
      have HNX := Lib.hid HNX
      clear hds hv
      go_wp2_with (at_builtin; refine kn_pushIns (m := []) (ys := [⟨1, v⟩, ⟨2, 1⟩]) rfl _ _ rfl _ ds rfl rfl (hK.al [.int .i64 1, .int .i64 v, .int .i64 2, .int .i64 1] 156) (by simp; omega) ?_; intro v3 w3 hK3)
      go_roundw
      case rel => exact ⟨k + 1, by omega, by go_num, by rw [HNX.out]; exact hK3⟩
      case measure => simp [intOf]; omega
    · obtain rfl : k = n := by omega
      have hfin := HFN.out
      rw [hds] at hfin
      subst hfin
      clear hds
      go_wp2_with fail
      (go_ret; exact ⟨_, _, rfl, hK⟩)
set_option maxRecDepth 100000 in
set_option maxHeartbeats 1600000 in
theorem SumProgram_any (A : Option Addr) (n c : Nat) (vs : List Int) (w : World) (hr : RI w A n vs) (hm : n ≤ 1048576) :
    Calls Try.prog 144 #[.slice A n c] w (SPRet vs w) := by
  have HL := Lib.hid hr.1
  go_enter Try.func144, Try.ntmps144
  go_wp2_with fail
  go_loop [11] (fun i => ∃ k : Nat, k ≤ n ∧ i = .int .i64 k ∧ inV (vs.take k) = true) (fun i => n - (intOf i).toNat)
  case atStart => exact ⟨0, Nat.zero_le _, rfl, by simp [inV]⟩
  case round =>
    obtain ⟨k, hk, rfl, hdg⟩ := hrel
    have HD := Lib.hid hdg; clear hdg
    by_cases hkn : k < n
    · obtain ⟨ad, hA, hlt, hkl, hc⟩ := hr.at_ hkn
      subst hA
      rcases hd : betB vs[k] 0 1000000000000 with _ | _
      · have HF := Lib.hid (sp_bad (vs := vs) (c := 2) (by unfold spC; rw [if_pos (inV_not hkl hd)]) (by decide))
        have hd' := Lib.hid hd; clear hd
        go_wp2_with (go_at_call 81; refine (between_any _ _ _ _).mono ?_; rintro e w' ⟨rfl, rfl⟩; rw [hd'.out])
        go_ret2
        exact SPRet.bad HF.out (Kn.nil w)
      · have hd' := Lib.hid hd; clear hd
        go_wp2_with (go_at_call 81; refine (between_any _ _ _ _).mono ?_; rintro e w' ⟨rfl, rfl⟩; rw [hd'.out])
        go_round
        case rel => exact ⟨k + 1, by omega, by go_num, by rw [inV_take_succ hkl, HD.out, hd'.out]; rfl⟩
        case measure => simp [intOf]; omega
    · have HK : Hid (inV vs = true) := by have h1 := HD.out; rwa [List.take_of_length_le (by have := HL.out; omega)] at h1
      have hs0 : spC vs = if 120 < 2 * (n : Int) + 1 then 5 else 0 := by unfold spC; rw [HK.out, if_neg (by decide), HL.out]
      clear HD hk
      by_cases hn : 120 < 2 * (n : Int) + 1
      · have HF := Lib.hid (sp_bad (vs := vs) (c := 5) (by rw [hs0, if_pos hn]) (by decide))
        clear hs0
        go_wp2_with fail
        go_ret2
        exact SPRet.bad HF.out (Kn.nil w)
      · have HF := Lib.hid (sp_fine (vs := vs) (by rw [hs0, if_neg hn]))
        clear hs0
        have HLN := Lib.hid (fun (k : Nat) (h : k ≤ n) => show (sumL (vs.take k)).length ≤ 1 + 2 * n by rw [sumL_len, List.length_take]; omega)
        have HFN := Lib.hid (show sumL (vs.take n) = sumL vs by rw [List.take_of_length_le (by have := hr.1; omega)])
        have hK2 : Kn w [rowIns (.slice (some ⟨w.heap.size, 0, none⟩) 1 1) (sumL (vs.take 0))] _ := ((Kn.nil w).al [.int .i64 6, .int .i64 0] 156).litRow (size := 2) (n := 1) rfl (by decide)
        go_wp2_with fail
        go_loopw [6, 28] (fun vv kk wr => ∃ (k : Nat), k ≤ n ∧ kk = .int .i64 k ∧ Kn w [rowIns vv (sumL (vs.take k))] wr) (fun _ kk _ => n - (intOf kk).toNat)
        case atStart => exact ⟨0, Nat.zero_le _, rfl, hK2⟩
        case round =>
          clear hK2
          obtain ⟨k, hk, rfl, hK⟩ := hrel
          have hln := HLN.out k hk
          obtain ⟨ds, hds⟩ : ∃ ds, sumL (vs.take k) = ds := ⟨_, rfl⟩
          have HDJ := Lib.hid hds
          rw [hds] at hK hln
          obtain ⟨A0, c0, rfl⟩ := row_form hK.at0
          by_cases hkn : k < n
          · obtain ⟨ad, hA, hlt, hkl, hc⟩ := (hr.below hK.below).at_ hkn
            subst hA
            have HNX := Lib.hid (sumL_step hkl)
            obtain ⟨v, hv⟩ : ∃ v, vs[k] = v := ⟨_, rfl⟩
            have HNX := HNX.out
            rw [hv, hds] at HNX
            rw [hv] at hc
            have HNX := Lib.hid HNX
            clear hds hv
            go_wp2_with (at_builtin; refine kn_pushIns (m := []) (ys := [⟨1, v⟩, ⟨2, 1⟩]) rfl _ _ rfl _ ds rfl rfl (hK.al [.int .i64 1, .int .i64 v, .int .i64 2, .int .i64 1] 156) (by simp; omega) ?_; intro v3 w3 hK3)
            go_roundw
            case rel => exact ⟨k + 1, by omega, by go_num, by rw [HNX.out]; exact hK3⟩
            case measure => simp [intOf]; omega
          · obtain rfl : k = n := by omega
            have hfin := HFN.out
            rw [hds] at hfin
            subst hfin
            clear hds
            go_wp2_with fail
            (go_ret2; exact SPRet.fine HF.out hK)
set_option maxRecDepth 100000 in
set_option maxHeartbeats 1600000 in
theorem specSumProgram_any (A : Option Addr) (n c : Nat) (vs : List Int) (w : World) (hr : RI w A n vs) (hm : n ≤ 1048576) :
    Calls Try.prog 143 #[.slice A n c] w (SPRet vs w) := by
  have HL := Lib.hid hr.1
  go_enter Try.func143, Try.ntmps143
  go_wp2_with fail
  go_loop [4] (fun i => ∃ k : Nat, k ≤ n ∧ i = .int .i64 k ∧ inV (vs.take k) = true) (fun i => n - (intOf i).toNat)
  case atStart => exact ⟨0, Nat.zero_le _, rfl, by simp [inV]⟩
  case round =>
    obtain ⟨k, hk, rfl, hdg⟩ := hrel
    have HD := Lib.hid hdg; clear hdg
    by_cases hkn : k < n
    · obtain ⟨ad, hA, hlt, hkl, hc⟩ := hr.at_ hkn
      subst hA
      rcases hd : betB vs[k] 0 1000000000000 with _ | _
      · have HF := Lib.hid (sp_bad (vs := vs) (c := 2) (by unfold spC; rw [if_pos (inV_not hkl hd)]) (by decide))
        have hd' := Lib.hid hd; clear hd
        go_wp2_with (go_at_call 107; refine (l00In_any _ _ _ _).mono ?_; rintro e w' ⟨rfl, rfl⟩; rw [hd'.out])
        go_ret2
        exact SPRet.bad HF.out (Kn.nil w)
      · have hd' := Lib.hid hd; clear hd
        go_wp2_with (go_at_call 107; refine (l00In_any _ _ _ _).mono ?_; rintro e w' ⟨rfl, rfl⟩; rw [hd'.out])
        go_round
        case rel => exact ⟨k + 1, by omega, by go_num, by rw [inV_take_succ hkl, HD.out, hd'.out]; rfl⟩
        case measure => simp [intOf]; omega
    · have HK : Hid (inV vs = true) := by have h1 := HD.out; rwa [List.take_of_length_le (by have := HL.out; omega)] at h1
      have hs0 : spC vs = if 120 < 2 * (n : Int) + 1 then 5 else 0 := by unfold spC; rw [HK.out, if_neg (by decide), HL.out]
      clear HD hk
      by_cases hn : 120 < 2 * (n : Int) + 1
      · have HF := Lib.hid (sp_bad (vs := vs) (c := 5) (by rw [hs0, if_pos hn]) (by decide))
        clear hs0
        go_wp2_with fail
        go_ret2
        exact SPRet.bad HF.out (Kn.nil w)
      · have HF := Lib.hid (sp_fine (vs := vs) (by rw [hs0, if_neg hn]))
        clear hs0
        (go_wp2_with fail; refine (l12Sum_any A n c vs w hr hm).mono ?_; rintro e w2 ⟨LA, lc, rfl, hK⟩; go_wp2_with fail; go_ret2; exact SPRet.fine HF.out hK)
end Go.Proofs.Ytkaaiocbiknipaa

namespace Go.Proofs.Ytkaaiocbiknipaa
open Go.RowKit Go.Sort
/-- a machine, a number, a code -/
def MSRet (M : Tri) (n c : Int) (w : World) (e : Ending) (w' : World) : Prop := ∃ A1 c1 A2 c2 A3 c3, e = .returned (.tuple #[.agg #[.int .i64 M.a.base, .slice A1 M.a.digits.length c1, .int .i64 M.b.base, .slice A2 M.b.digits.length c2, .int .i64 M.s.base, .slice A3 M.s.digits.length c3, .int .i64 M.carry], .int .i64 n, .int .i64 c]) ∧
  Kn w [rowI A3 c3 M.s.digits, rowI A2 c2 M.b.digits, rowI A1 c1 M.a.digits] w'
theorem MSRet.bad {w w' : World} {c : Int} (h : Kn w [] w') : MSRet zTri 0 c w (.returned (.tuple #[.agg #[.int .i64 0, .slice none 0 0, .int .i64 0, .slice none 0 0, .int .i64 0, .slice none 0 0, .int .i64 0], .int .i64 0, .int .i64 c])) w' :=
  ⟨none, 0, none, 0, none, 0, rfl, ((h.nilRow _ _).nilRow _ _).nilRow _ _⟩
noncomputable def soC (t : Tri) (vs : List Int) : Int := if vmach t = false then 1 else if spC vs = 0 then rpC (sumL vs) (clrT t) else spC vs
noncomputable def soM (t : Tri) (vs : List Int) : Tri := if vmach t = true ∧ spC vs = 0 then rpM (sumL vs) (clrT t) else zTri
noncomputable def soN (t : Tri) (vs : List Int) : Int := if vmach t = true ∧ spC vs = 0 then ((rpT (sumL vs) (clrT t)).length : Int) else 0
def SORet (t : Tri) (vs : List Int) (w : World) (e : Ending) (w' : World) : Prop := MSRet (soM t vs) (soN t vs) (soC t vs) w e w'
theorem so_bad {t : Tri} {vs : List Int} (h : vmach t = false) : soM t vs = zTri ∧ soN t vs = 0 ∧ soC t vs = 1 := by
  refine ⟨?_, ?_, ?_⟩
  · unfold soM; rw [if_neg (fun hh => by rw [h] at hh; exact absurd hh.1 (by decide))]
  · unfold soN; rw [if_neg (fun hh => by rw [h] at hh; exact absurd hh.1 (by decide))]
  · unfold soC; rw [if_pos h]
theorem so_bad2 {t : Tri} {vs : List Int} (h : vmach t = true) (h2 : ¬ spC vs = 0) : soM t vs = zTri ∧ soN t vs = 0 ∧ soC t vs = spC vs := by
  refine ⟨?_, ?_, ?_⟩
  · unfold soM; rw [if_neg (fun hh => h2 hh.2)]
  · unfold soN; rw [if_neg (fun hh => h2 hh.2)]
  · unfold soC; rw [if_neg (by rw [h]; decide), if_neg h2]
theorem so_fine {t : Tri} {vs : List Int} (h : vmach t = true) (h2 : spC vs = 0) : soM t vs = rpM (sumL vs) (clrT t) ∧ soN t vs = ((rpT (sumL vs) (clrT t)).length : Int) ∧ soC t vs = rpC (sumL vs) (clrT t) := by
  refine ⟨?_, ?_, ?_⟩
  · unfold soM; rw [if_pos ⟨h, h2⟩]
  · unfold soN; rw [if_pos ⟨h, h2⟩]
  · unfold soC; rw [if_neg (by rw [h]; decide), if_pos h2]
theorem soM_len (t : Tri) (vs : List Int) : (soM t vs).a.digits.length ≤ 16 ∧ (soM t vs).b.digits.length ≤ 16 ∧ (soM t vs).s.digits.length ≤ 16 := by
  unfold soM
  split
  · exact rpM_len _ _
  · exact ⟨by decide, by decide, by decide⟩
set_option maxRecDepth 100000 in
set_option maxHeartbeats 3200000 in
theorem SumOn_any (t : Tri) (A1 A2 A3 VA : Option Addr) (c1 c2 c3 n vc : Nat) (vs : List Int) (w : World) (r1 : RI w A1 t.a.digits.length t.a.digits) (r2 : RI w A2 t.b.digits.length t.b.digits) (r3 : RI w A3 t.s.digits.length t.s.digits) (hs : SmallTri t) (rv : RI w VA n vs) (hn : n ≤ 1048576) :
    Calls Try.prog 62 #[.agg #[.int .i64 t.a.base, .slice A1 t.a.digits.length c1, .int .i64 t.b.base, .slice A2 t.b.digits.length c2, .int .i64 t.s.base, .slice A3 t.s.digits.length c3, .int .i64 t.carry], .slice VA n vc] w (SORet t vs w) := by
  have KV := (fun W (hW : Below w.heap.size w W) => ValidMachine_any t A1 A2 A3 c1 c2 c3 W (r1.below hW) (r2.below hW) (r3.below hW) hs)
  rcases hv : vmach t with _ | _
  · rw [hv] at KV
    have HB := Lib.hid (so_bad (vs := vs) hv)
    have KV := Lib.hid KV
    clear hv r1 r2 r3 hs rv
    go_enter Try.func62, Try.ntmps62
    go_wp2_with fail
    refine Calls.kn (((Kn.nil w).al [.int .i64 t.a.base, .slice A1 t.a.digits.length c1, .int .i64 t.b.base, .slice A2 t.b.digits.length c2, .int .i64 t.s.base, .slice A3 t.s.digits.length c3, .int .i64 t.carry] 65).al [.int .i64 0, .slice none 0 0, .int .i64 0, .slice none 0 0, .int .i64 0, .slice none 0 0, .int .i64 0] 65) ?_; intro w1 hK0
    simp only [World.size_alloc] at hK0
    refine (KV.out _ hK0.below).mono ?_; rintro e w2 ⟨rfl, hw⟩
    have hK1 := hK0.keep hw
    obtain ⟨x1, x2, x3, -⟩ := hK1.cells
    go_wp2_with fail
    refine bodyPost.kn (((((((hK1.st 0 (.int .i64 0)).st 1 (.slice none 0 0)).st 2 (.int .i64 0)).st 3 (.slice none 0 0)).st 4 (.int .i64 0)).st 5 (.slice none 0 0)).st 6 (.int .i64 0)) ?_; intro w6 hK6
    clear x1 x2 x3
    obtain ⟨a1, a2, a3, -⟩ := hK6.cells
    refine bodyPost_ret (v := .tuple #[.agg #[.int .i64 0, .slice none 0 0, .int .i64 0, .slice none 0 0, .int .i64 0, .slice none 0 0, .int .i64 0], .int .i64 0, .int .i64 1]) (by simp [results, Try.results62, go_sem, a1]) rfl ?_
    unfold SORet
    rw [HB.out.1, HB.out.2.1, HB.out.2.2]
    exact MSRet.bad hK6.bare
  have KSP := (fun W (hW : Below w.heap.size w W) => SumProgram_any VA n vc vs W (rv.below hW) hn)
  rw [hv] at KV
  by_cases hc : spC vs = 0
  rotate_left
  · have hcb : (spC vs != 0) = true := by simpa using hc
    have HB := Lib.hid (so_bad2 hv hc)
    have KV := Lib.hid KV
    have KSP := Lib.hid KSP
    clear hv r1 r2 r3 hs rv hc
    go_enter Try.func62, Try.ntmps62
    go_wp2_with fail
    refine Calls.kn (((Kn.nil w).al [.int .i64 t.a.base, .slice A1 t.a.digits.length c1, .int .i64 t.b.base, .slice A2 t.b.digits.length c2, .int .i64 t.s.base, .slice A3 t.s.digits.length c3, .int .i64 t.carry] 65).al [.int .i64 0, .slice none 0 0, .int .i64 0, .slice none 0 0, .int .i64 0, .slice none 0 0, .int .i64 0] 65) ?_; intro w1 hK0
    simp only [World.size_alloc] at hK0
    refine (KV.out _ hK0.below).mono ?_; rintro e w2 ⟨rfl, hw⟩
    have hK1 := hK0.keep hw
    clear hK0 hw
    obtain ⟨a1, a2, a3, -⟩ := hK1.cells
    go_wp2_with fail
    refine (KSP.out _ hK1.below).mono ?_; rintro e w3 ⟨LA, lc, rfl, hKs⟩
    have hK1 := (hK1.join hKs).drop
    clear hKs a1 a2 a3
    obtain ⟨x1, x2, x3, -⟩ := hK1.cells
    go_wp2_with fail
    refine bodyPost.kn (((((((hK1.st 0 (.int .i64 0)).st 1 (.slice none 0 0)).st 2 (.int .i64 0)).st 3 (.slice none 0 0)).st 4 (.int .i64 0)).st 5 (.slice none 0 0)).st 6 (.int .i64 0)) ?_; intro w6 hK6
    clear x1 x2 x3
    obtain ⟨a1, a2, a3, -⟩ := hK6.cells
    refine bodyPost_ret (v := .tuple #[.agg #[.int .i64 0, .slice none 0 0, .int .i64 0, .slice none 0 0, .int .i64 0, .slice none 0 0, .int .i64 0], .int .i64 0, .int .i64 (spC vs)]) (by simp [results, Try.results62, go_sem, a1]) rfl ?_
    unfold SORet
    rw [HB.out.1, HB.out.2.1, HB.out.2.2]
    exact MSRet.bad hK6.bare
  obtain ⟨k1, k2, k3, e1, e2, f1, f2, l1, p0, p1⟩ := vmach_all hv
  obtain ⟨⟨b1, b2⟩, ⟨n1, n2⟩, -⟩ := vreg_iff.1 k1
  obtain ⟨⟨b3, b4⟩, ⟨n3, n4⟩, -⟩ := vreg_iff.1 k2
  obtain ⟨⟨b5, b6⟩, ⟨n5, n6⟩, -⟩ := vreg_iff.1 k3
  have hlen : (sumL vs).length ≤ 9223372036854775807 := by rw [sumL_len]; have := rv.1; omega
  have KC := (fun W => clearedM_any t A1 A2 A3 c1 c2 c3 W ⟨b1, b2⟩ ⟨b3, b4⟩ ⟨b5, b6⟩ (sized_of hv))
  simp only [digD_len, rowI] at KC
  have KRP := (fun (LA : Option Addr) (lc : Nat) (E1 E2 E3 : Option Addr) (g1 g2 g3 : Nat) W q1 q2 q3 hq => RunProgram_any (lc := lc) (LA := LA) (n := (sumL vs).length) (L := sumL vs) (clrT t) E1 E2 E3 g1 g2 g3 W q1 q2 q3 (by simp only [SmallTri, SmallReg, clrT, digD_len]; exact hs) hq hlen)
  unfold RPRet at KRP
  have HB := so_fine hv hc
  obtain ⟨RM, hRM⟩ : ∃ m, rpM (sumL vs) (clrT t) = m := ⟨_, rfl⟩
  obtain ⟨RN, hRN⟩ : ∃ m, ((rpT (sumL vs) (clrT t)).length : Int) = m := ⟨_, rfl⟩
  obtain ⟨RC, hRC⟩ : ∃ m, rpC (sumL vs) (clrT t) = m := ⟨_, rfl⟩
  rw [hRM, hRN, hRC] at HB
  simp only [hRM, hRN, hRC] at KRP
  clear hRM hRN hRC
  simp only [clrT, digD_len] at KRP
  obtain ⟨xs, hxs⟩ : ∃ l, digD t.a.base t.a.digits.length 0 = l := ⟨_, rfl⟩
  obtain ⟨ys, hys⟩ : ∃ l, digD t.b.base t.b.digits.length 0 = l := ⟨_, rfl⟩
  obtain ⟨zs, hzs⟩ : ∃ l, digD t.s.base t.s.digits.length 0 = l := ⟨_, rfl⟩
  obtain ⟨LL, hLL⟩ : ∃ l, sumL vs = l := ⟨_, rfl⟩
  rw [hxs, hys, hzs, hLL] at KRP
  rw [hxs, hys, hzs] at KC
  unfold SPRet at KSP
  rw [hc, (sp_fine hc).2, hLL] at KSP
  have HB := Lib.hid HB
  have KRP := Lib.hid KRP
  have KC := Lib.hid KC
  have KSP := Lib.hid KSP
  have KV := Lib.hid KV
  clear hv r1 r2 r3 hs rv hc k1 k2 k3 e1 e2 f1 f2 l1 p0 p1 hxs hys hzs hLL hlen
  go_enter Try.func62, Try.ntmps62
  go_wp2_with fail
  refine Calls.kn (((Kn.nil w).al [.int .i64 t.a.base, .slice A1 t.a.digits.length c1, .int .i64 t.b.base, .slice A2 t.b.digits.length c2, .int .i64 t.s.base, .slice A3 t.s.digits.length c3, .int .i64 t.carry] 65).al [.int .i64 0, .slice none 0 0, .int .i64 0, .slice none 0 0, .int .i64 0, .slice none 0 0, .int .i64 0] 65) ?_; intro w1 hK0
  simp only [World.size_alloc] at hK0
  refine (KV.out _ hK0.below).mono ?_; rintro e w2 ⟨rfl, hw⟩
  have hK1 := hK0.keep hw
  clear hK0 hw
  obtain ⟨a1, a2, a3, a4, a5, a6, -⟩ := hK1.cells
  go_wp2_with fail
  refine (KSP.out _ hK1.below).mono ?_; rintro e w3 ⟨LA, lc, rfl, hKs⟩
  have hK2 : Kn w [rowIns (.slice LA LL.length lc) LL, .blk (w.heap.size + 1) [.int .i64 0, .slice none 0 0, .int .i64 0, .slice none 0 0, .int .i64 0, .slice none 0 0, .int .i64 0] 65, .blk w.heap.size [.int .i64 t.a.base, .slice A1 t.a.digits.length c1, .int .i64 t.b.base, .slice A2 t.b.digits.length c2, .int .i64 t.s.base, .slice A3 t.s.digits.length c3, .int .i64 t.carry] 65] w3 := hK1.join hKs
  clear hK1 hKs a1 a2 a3 a4 a5 a6
  obtain ⟨a1, a2, a3, a4, a5, a6, -⟩ := hK2.cells
  go_wp2_with fail
  refine (KC.out _).mono ?_; rintro e w4 ⟨E1, g1, E2, g2, E3, g3, rfl, hKc⟩
  have hK3 : Kn w [rowN E3 t.s.digits.length g3 zs, rowN E2 t.b.digits.length g2 ys, rowN E1 t.a.digits.length g1 xs, rowIns (.slice LA LL.length lc) LL, .blk (w.heap.size + 1) [.int .i64 0, .slice none 0 0, .int .i64 0, .slice none 0 0, .int .i64 0, .slice none 0 0, .int .i64 0] 65, .blk w.heap.size [.int .i64 t.a.base, .slice A1 t.a.digits.length c1, .int .i64 t.b.base, .slice A2 t.b.digits.length c2, .int .i64 t.s.base, .slice A3 t.s.digits.length c3, .int .i64 t.carry] 65] w4 := hK2.join hKc
  clear hK2 hKc a1 a2 a3 a4 a5 a6
  go_wp2_with fail
  refine (KRP.out _ _ _ _ _ _ _ _ _ (Kn.riN (hK3.sel [2] 99 (by decide) (by decide))) (Kn.riN (hK3.sel [1] 99 (by decide) (by decide))) (Kn.riN hK3) (Kn.rlIns (hK3.sel [3] 99 (by decide) (by decide))).2).mono ?_; rintro e w9 ⟨B1, d1, B2, d2, B3, d3, rfl, hKr⟩
  have hK10 : Kn w [.blk (w.heap.size + 1) [.int .i64 0, .slice none 0 0, .int .i64 0, .slice none 0 0, .int .i64 0, .slice none 0 0, .int .i64 0] 65, rowI B3 d3 RM.s.digits, rowI B2 d2 RM.b.digits, rowI B1 d1 RM.a.digits] w9 := (hK3.join hKr).sel [7, 0, 1, 2] 99 (by decide) (by decide)
  clear hK3 hKr
  obtain ⟨a1, a2, a3, -⟩ := hK10.cells
  go_wp2_with fail
  refine bodyPost.kn (((((((hK10.st 0 (.int .i64 RM.a.base)).st 1 (.slice B1 RM.a.digits.length d1)).st 2 (.int .i64 RM.b.base)).st 3 (.slice B2 RM.b.digits.length d2)).st 4 (.int .i64 RM.s.base)).st 5 (.slice B3 RM.s.digits.length d3)).st 6 (.int .i64 RM.carry)) ?_; intro w11 hK11
  clear a1 a2 a3
  obtain ⟨a1, a2, a3, -⟩ := hK11.cells
  refine bodyPost_ret (v := .tuple #[.agg #[.int .i64 RM.a.base, .slice B1 RM.a.digits.length d1, .int .i64 RM.b.base, .slice B2 RM.b.digits.length d2, .int .i64 RM.s.base, .slice B3 RM.s.digits.length d3, .int .i64 RM.carry], .int .i64 RN, .int .i64 RC]) (by simp [results, Try.results62, go_sem, a1]) rfl ?_
  unfold SORet
  rw [HB.out.1, HB.out.2.1, HB.out.2.2]
  exact ⟨B1, d1, B2, d2, B3, d3, rfl, hK11.drop⟩
set_option maxRecDepth 100000 in
set_option maxHeartbeats 3200000 in
theorem specSumOn_any (t : Tri) (A1 A2 A3 VA : Option Addr) (c1 c2 c3 n vc : Nat) (vs : List Int) (w : World) (r1 : RI w A1 t.a.digits.length t.a.digits) (r2 : RI w A2 t.b.digits.length t.b.digits) (r3 : RI w A3 t.s.digits.length t.s.digits) (hs : SmallTri t) (rv : RI w VA n vs) (hn : n ≤ 1048576) :
    Calls Try.prog 60 #[.agg #[.int .i64 t.a.base, .slice A1 t.a.digits.length c1, .int .i64 t.b.base, .slice A2 t.b.digits.length c2, .int .i64 t.s.base, .slice A3 t.s.digits.length c3, .int .i64 t.carry], .slice VA n vc] w (SORet t vs w) := by
  have hTC : ∀ W, Kn w [.blk (w.heap.size + 1) [.int .i64 0, .slice none 0 0, .int .i64 0, .slice none 0 0, .int .i64 0, .slice none 0 0, .int .i64 0] 65, .blk w.heap.size [.int .i64 t.a.base, .slice A1 t.a.digits.length c1, .int .i64 t.b.base, .slice A2 t.b.digits.length c2, .int .i64 t.s.base, .slice A3 t.s.digits.length c3, .int .i64 t.carry] 65] W → TriC W ⟨w.heap.size, 0, none⟩ t A1 c1 A2 c2 A3 c3 := fun W h => ⟨⟨h.drop.blkAt.1 0, h.drop.blkAt.1 1, h.drop.blkAt.1 2, h.drop.blkAt.1 3, h.drop.blkAt.1 4, h.drop.blkAt.1 5, h.drop.blkAt.1 6⟩, r1.below h.below, r2.below h.below, r3.below h.below⟩
  have KV := (fun W (hW : Kn w [.blk (w.heap.size + 1) [.int .i64 0, .slice none 0 0, .int .i64 0, .slice none 0 0, .int .i64 0, .slice none 0 0, .int .i64 0] 65, .blk w.heap.size [.int .i64 t.a.base, .slice A1 t.a.digits.length c1, .int .i64 t.b.base, .slice A2 t.b.digits.length c2, .int .i64 t.s.base, .slice A3 t.s.digits.length c3, .int .i64 t.carry] 65] W) => l10Ok_any ⟨w.heap.size, 0, none⟩ t W (hTC W hW).tri hs)
  rcases hv : vmach t with _ | _
  · rw [hv] at KV
    have HB := Lib.hid (so_bad (vs := vs) hv)
    have KV := Lib.hid KV
    clear hv r1 r2 r3 hs rv hTC
    go_enter Try.func60, Try.ntmps60
    go_wp2_with fail
    refine Calls.kn (((Kn.nil w).al [.int .i64 t.a.base, .slice A1 t.a.digits.length c1, .int .i64 t.b.base, .slice A2 t.b.digits.length c2, .int .i64 t.s.base, .slice A3 t.s.digits.length c3, .int .i64 t.carry] 65).al [.int .i64 0, .slice none 0 0, .int .i64 0, .slice none 0 0, .int .i64 0, .slice none 0 0, .int .i64 0] 65) ?_; intro w1 hK0
    simp only [World.size_alloc] at hK0
    refine (KV.out _ hK0).mono ?_; rintro e w2 ⟨rfl, q, rfl⟩
    have hK1 := hK0.drewN q
    generalize w1.drewN q = w3 at hK1 ⊢
    obtain ⟨x1, x2, x3, -⟩ := hK1.cells
    go_wp2_with fail
    refine bodyPost.kn (((((((hK1.st 0 (.int .i64 0)).st 1 (.slice none 0 0)).st 2 (.int .i64 0)).st 3 (.slice none 0 0)).st 4 (.int .i64 0)).st 5 (.slice none 0 0)).st 6 (.int .i64 0)) ?_; intro w6 hK6
    clear x1 x2 x3
    obtain ⟨a1, a2, a3, -⟩ := hK6.cells
    refine bodyPost_ret (v := .tuple #[.agg #[.int .i64 0, .slice none 0 0, .int .i64 0, .slice none 0 0, .int .i64 0, .slice none 0 0, .int .i64 0], .int .i64 0, .int .i64 1]) (by simp [results, Try.results60, go_sem, a1]) rfl ?_
    unfold SORet
    rw [HB.out.1, HB.out.2.1, HB.out.2.2]
    exact MSRet.bad hK6.bare
  have KSP := (fun W (hW : Below w.heap.size w W) => specSumProgram_any VA n vc vs W (rv.below hW) hn)
  rw [hv] at KV
  by_cases hc : spC vs = 0
  rotate_left
  · have hcb : (spC vs != 0) = true := by simpa using hc
    have HB := Lib.hid (so_bad2 hv hc)
    have KV := Lib.hid KV
    have KSP := Lib.hid KSP
    clear hv r1 r2 r3 hs rv hc hTC
    go_enter Try.func60, Try.ntmps60
    go_wp2_with fail
    refine Calls.kn (((Kn.nil w).al [.int .i64 t.a.base, .slice A1 t.a.digits.length c1, .int .i64 t.b.base, .slice A2 t.b.digits.length c2, .int .i64 t.s.base, .slice A3 t.s.digits.length c3, .int .i64 t.carry] 65).al [.int .i64 0, .slice none 0 0, .int .i64 0, .slice none 0 0, .int .i64 0, .slice none 0 0, .int .i64 0] 65) ?_; intro w1 hK0
    simp only [World.size_alloc] at hK0
    refine (KV.out _ hK0).mono ?_; rintro e w2 ⟨rfl, q, rfl⟩
    have hK1 := hK0.drewN q
    generalize w1.drewN q = w3 at hK1 ⊢
    clear hK0
    go_wp2_with fail
    refine (KSP.out _ hK1.below).mono ?_; rintro e w4 ⟨LA, lc, rfl, hKs⟩
    have hK1 := (hK1.join hKs).drop
    clear hKs
    obtain ⟨x1, x2, x3, -⟩ := hK1.cells
    go_wp2_with fail
    refine bodyPost.kn (((((((hK1.st 0 (.int .i64 0)).st 1 (.slice none 0 0)).st 2 (.int .i64 0)).st 3 (.slice none 0 0)).st 4 (.int .i64 0)).st 5 (.slice none 0 0)).st 6 (.int .i64 0)) ?_; intro w6 hK6
    clear x1 x2 x3
    obtain ⟨a1, a2, a3, -⟩ := hK6.cells
    refine bodyPost_ret (v := .tuple #[.agg #[.int .i64 0, .slice none 0 0, .int .i64 0, .slice none 0 0, .int .i64 0, .slice none 0 0, .int .i64 0], .int .i64 0, .int .i64 (spC vs)]) (by simp [results, Try.results60, go_sem, a1]) rfl ?_
    unfold SORet
    rw [HB.out.1, HB.out.2.1, HB.out.2.2]
    exact MSRet.bad hK6.bare
  obtain ⟨k1, k2, k3, e1, e2, f1, f2, l1, p0, p1⟩ := vmach_all hv
  obtain ⟨⟨b1, b2⟩, ⟨n1, n2⟩, -⟩ := vreg_iff.1 k1
  obtain ⟨⟨b3, b4⟩, ⟨n3, n4⟩, -⟩ := vreg_iff.1 k2
  obtain ⟨⟨b5, b6⟩, ⟨n5, n6⟩, -⟩ := vreg_iff.1 k3
  have hlen : (sumL vs).length ≤ 9223372036854775807 := by rw [sumL_len]; have := rv.1; omega
  have KC : ∀ W, W.cell? ⟨w.heap.size, 0, none⟩ = some (.int .i64 t.a.base) → W.cell? ⟨w.heap.size, 1, none⟩ = some (.slice A1 t.a.digits.length c1) → W.cell? ⟨w.heap.size, 3, none⟩ = some (.slice A2 t.b.digits.length c2) → W.cell? ⟨w.heap.size, 5, none⟩ = some (.slice A3 t.s.digits.length c3) → Calls Try.prog 121 #[.pointer (some ⟨w.heap.size, 0, none⟩), .int .i64 0] W fun e w' => ∃ E1 g1 E2 g2 E3 g3, e = .returned (.agg #[.int .i64 t.a.base, .slice E1 (digD t.a.base t.a.digits.length 0).length g1, .int .i64 t.b.base, .slice E2 (digD t.b.base t.b.digits.length 0).length g2, .int .i64 t.s.base, .slice E3 (digD t.s.base t.s.digits.length 0).length g3, .int .i64 0]) ∧
      Kn W [rowI E3 g3 (digD t.s.base t.s.digits.length 0), rowI E2 g2 (digD t.b.base t.b.digits.length 0), rowI E1 g1 (digD t.a.base t.a.digits.length 0)] w' := by
    intro W q1 q2 q3 q4
    have := l12Fresh_any w.heap.size t.a.base A1 A2 A3 t.a.digits.length t.b.digits.length t.s.digits.length c1 c2 c3 0 W q1 q2 q3 q4 b1 b2 (by omega) (by omega) (by omega) (by decide) (by decide)
    rw [e2, ← e1]
    exact this
  simp only [digD_len, rowI] at KC
  have KRP := (fun (LA : Option Addr) (lc : Nat) (E1 E2 E3 : Option Addr) (g1 g2 g3 : Nat) W q1 q2 q3 hq => specRunProgram_any (lc := lc) (LA := LA) (n := (sumL vs).length) (L := sumL vs) (clrT t) E1 E2 E3 g1 g2 g3 W q1 q2 q3 (by simp only [SmallTri, SmallReg, clrT, digD_len]; exact hs) hq hlen)
  unfold RPRet at KRP
  have HB := so_fine hv hc
  obtain ⟨RM, hRM⟩ : ∃ m, rpM (sumL vs) (clrT t) = m := ⟨_, rfl⟩
  obtain ⟨RN, hRN⟩ : ∃ m, ((rpT (sumL vs) (clrT t)).length : Int) = m := ⟨_, rfl⟩
  obtain ⟨RC, hRC⟩ : ∃ m, rpC (sumL vs) (clrT t) = m := ⟨_, rfl⟩
  rw [hRM, hRN, hRC] at HB
  simp only [hRM, hRN, hRC] at KRP
  clear hRM hRN hRC
  simp only [clrT, digD_len] at KRP
  obtain ⟨xs, hxs⟩ : ∃ l, digD t.a.base t.a.digits.length 0 = l := ⟨_, rfl⟩
  obtain ⟨ys, hys⟩ : ∃ l, digD t.b.base t.b.digits.length 0 = l := ⟨_, rfl⟩
  obtain ⟨zs, hzs⟩ : ∃ l, digD t.s.base t.s.digits.length 0 = l := ⟨_, rfl⟩
  obtain ⟨LL, hLL⟩ : ∃ l, sumL vs = l := ⟨_, rfl⟩
  rw [hxs, hys, hzs, hLL] at KRP
  rw [hxs, hys, hzs] at KC
  unfold SPRet at KSP
  rw [hc, (sp_fine hc).2, hLL] at KSP
  have HB := Lib.hid HB
  have KRP := Lib.hid KRP
  have KC := Lib.hid KC
  have KSP := Lib.hid KSP
  have KV := Lib.hid KV
  clear hv r1 r2 r3 hs rv hc k1 k2 k3 e1 e2 f1 f2 l1 p0 p1 hxs hys hzs hLL hlen hTC
  go_enter Try.func60, Try.ntmps60
  go_wp2_with fail
  refine Calls.kn (((Kn.nil w).al [.int .i64 t.a.base, .slice A1 t.a.digits.length c1, .int .i64 t.b.base, .slice A2 t.b.digits.length c2, .int .i64 t.s.base, .slice A3 t.s.digits.length c3, .int .i64 t.carry] 65).al [.int .i64 0, .slice none 0 0, .int .i64 0, .slice none 0 0, .int .i64 0, .slice none 0 0, .int .i64 0] 65) ?_; intro w1 hK0
  simp only [World.size_alloc] at hK0
  refine (KV.out _ hK0).mono ?_; rintro e w2 ⟨rfl, q, rfl⟩
  have hK1 := hK0.drewN q
  generalize w1.drewN q = w2 at hK1 ⊢
  clear hK0
  go_wp2_with fail
  refine (KSP.out _ hK1.below).mono ?_; rintro e w3 ⟨LA, lc, rfl, hKs⟩
  have hK2 : Kn w [rowIns (.slice LA LL.length lc) LL, .blk (w.heap.size + 1) [.int .i64 0, .slice none 0 0, .int .i64 0, .slice none 0 0, .int .i64 0, .slice none 0 0, .int .i64 0] 65, .blk w.heap.size [.int .i64 t.a.base, .slice A1 t.a.digits.length c1, .int .i64 t.b.base, .slice A2 t.b.digits.length c2, .int .i64 t.s.base, .slice A3 t.s.digits.length c3, .int .i64 t.carry] 65] w3 := hK1.join hKs
  clear hK1 hKs
  go_wp2_with fail
  have hKb := hK2.drop.drop.blkAt.1
  refine (KC.out _ (hKb 0) (hKb 1) (hKb 3) (hKb 5)).mono ?_; rintro e w4 ⟨E1, g1, E2, g2, E3, g3, rfl, hKc⟩
  have hK3 : Kn w [rowN E3 t.s.digits.length g3 zs, rowN E2 t.b.digits.length g2 ys, rowN E1 t.a.digits.length g1 xs, rowIns (.slice LA LL.length lc) LL, .blk (w.heap.size + 1) [.int .i64 0, .slice none 0 0, .int .i64 0, .slice none 0 0, .int .i64 0, .slice none 0 0, .int .i64 0] 65, .blk w.heap.size [.int .i64 t.a.base, .slice A1 t.a.digits.length c1, .int .i64 t.b.base, .slice A2 t.b.digits.length c2, .int .i64 t.s.base, .slice A3 t.s.digits.length c3, .int .i64 t.carry] 65] w4 := hK2.join hKc
  clear hK2 hKc hKb
  go_wp2_with fail
  refine Calls.kn (hK3.al [.int .i64 t.a.base, .slice E1 t.a.digits.length g1, .int .i64 t.b.base, .slice E2 t.b.digits.length g2, .int .i64 t.s.base, .slice E3 t.s.digits.length g3, .int .i64 0] 65) ?_; intro w5 hK5
  refine (KRP.out _ _ _ _ _ _ _ _ _ (Kn.riN (hK5.sel [3] 99 (by decide) (by decide))) (Kn.riN (hK5.sel [2] 99 (by decide) (by decide))) (Kn.riN (hK5.sel [1] 99 (by decide) (by decide))) (Kn.rlIns (hK5.sel [4] 99 (by decide) (by decide))).2).mono ?_; rintro e w9 ⟨B1, d1, B2, d2, B3, d3, rfl, hKr⟩
  have hK10 : Kn w [.blk (w.heap.size + 1) [.int .i64 0, .slice none 0 0, .int .i64 0, .slice none 0 0, .int .i64 0, .slice none 0 0, .int .i64 0] 65, rowI B3 d3 RM.s.digits, rowI B2 d2 RM.b.digits, rowI B1 d1 RM.a.digits] w9 := (hK5.join hKr).sel [8, 0, 1, 2] 99 (by decide) (by decide)
  clear hK3 hK5 hKr
  obtain ⟨a1, a2, a3, -⟩ := hK10.cells
  go_wp2_with fail
  refine bodyPost.kn (((((((hK10.st 0 (.int .i64 RM.a.base)).st 1 (.slice B1 RM.a.digits.length d1)).st 2 (.int .i64 RM.b.base)).st 3 (.slice B2 RM.b.digits.length d2)).st 4 (.int .i64 RM.s.base)).st 5 (.slice B3 RM.s.digits.length d3)).st 6 (.int .i64 RM.carry)) ?_; intro w11 hK11
  clear a1 a2 a3
  obtain ⟨a1, a2, a3, -⟩ := hK11.cells
  refine bodyPost_ret (v := .tuple #[.agg #[.int .i64 RM.a.base, .slice B1 RM.a.digits.length d1, .int .i64 RM.b.base, .slice B2 RM.b.digits.length d2, .int .i64 RM.s.base, .slice B3 RM.s.digits.length d3, .int .i64 RM.carry], .int .i64 RN, .int .i64 RC]) (by simp [results, Try.results60, go_sem, a1]) rfl ?_
  unfold SORet
  rw [HB.out.1, HB.out.2.1, HB.out.2.2]
  exact ⟨B1, d1, B2, d2, B3, d3, rfl, hK11.drop⟩
end Go.Proofs.Ytkaaiocbiknipaa

namespace Go.Proofs.Ytkaaiocbiknipaa
open Go.RowKit Go.Sort
noncomputable def moE (t : Tri) (x f : Int) (sh : Bool) : RS := endR (mulP (turnL sh t.a.base f)) (dvStart t 0 x)
def moC (t : Tri) (x f : Int) (sh : Bool) : Int :=
  if vmach t = false then 1 else if trnC t.a.base f = 2 then 2 else if betB x 0 (pw t.a.base t.a.digits.length - 1) = false then 2 else if vplaces t < ((turnL sh t.a.base f).length : Int) ∨ pw t.b.base t.b.digits.length - 1 < x * f then 5 else 0
noncomputable def moM (t : Tri) (x f : Int) (sh : Bool) : Tri := if moC t x f sh = 0 ∧ vmach (moE t x f sh).m = true then (moE t x f sh).m else zTri
noncomputable def moN (t : Tri) (x f : Int) (sh : Bool) : Int := if moC t x f sh = 0 then ((moE t x f sh).tr.length : Int) else 0
def MORet (t : Tri) (x f : Int) (sh : Bool) (w : World) (e : Ending) (w' : World) : Prop := MSRet (moM t x f sh) (moN t x f sh) (moC t x f sh) w e w'
theorem mo_code {t : Tri} {x f c : Int} {sh : Bool} (h : moC t x f sh = c) (hc : ¬ c = 0) : moM t x f sh = zTri ∧ moN t x f sh = 0 ∧ moC t x f sh = c := by
  refine ⟨?_, ?_, h⟩
  · unfold moM; rw [h, if_neg (fun h => hc h.1)]
  · unfold moN; rw [h, if_neg hc]
theorem mo_fine {t : Tri} {x f : Int} {sh : Bool} (h : moC t x f sh = 0) {s : RS} {b : Bool} (he : Ev (mulP (turnL sh t.a.base f)) (.run 0 (mulP (turnL sh t.a.base f)).length) (startR (dvStart t 0 x)) s b) (hg : s.Good) :
    moM t x f sh = s.m ∧ moN t x f sh = (s.tr.length : Int) ∧ moC t x f sh = 0 := by
  have h1 : moE t x f sh = s := endR_eq he
  refine ⟨?_, ?_, h⟩
  · unfold moM; rw [h, h1, if_pos ⟨rfl, hg.m⟩]
  · unfold moN; rw [h, h1, if_pos rfl]
theorem moM_len (t : Tri) (x f : Int) (sh : Bool) : (moM t x f sh).a.digits.length ≤ 16 ∧ (moM t x f sh).b.digits.length ≤ 16 ∧ (moM t x f sh).s.digits.length ≤ 16 := by
  unfold moM
  split
  · rename_i h
    have := sized_of h.2
    exact ⟨this.a, this.b, this.s⟩
  · exact ⟨by decide, by decide, by decide⟩
theorem moStart_ok {t : Tri} {x : Int} (hv : vmach t = true) (hx : betB x 0 (pw t.a.base t.a.digits.length - 1) = true) : vmach (dvStart t 0 x) = true := by
  obtain ⟨k1, k2, k3, e1, e2, f1, f2, l1, p0, p1⟩ := vmach_all hv
  obtain ⟨⟨b1, b2⟩, ⟨n1, n2⟩, -⟩ := vreg_iff.1 k1
  obtain ⟨⟨b3, b4⟩, ⟨n3, n4⟩, -⟩ := vreg_iff.1 k2
  have hx' := betB_iff.1 hx
  have hm := pw_mono t.a.base (by omega) _ _ l1
  have hp := pw_pos t.b.base b3 t.b.digits.length
  have f1' := f1
  rw [← e1] at f1
  refine vmach_mk (t := dvStart t 0 x) (digD_vreg _ b1 b2 _ (by omega) (by omega) x (by omega) (by omega) (by omega)) (digD_vreg _ b3 b4 _ (by omega) (by omega) 0 (by omega) (by omega) (by omega)) (zero_ok k3) e1 e2 ?_ ?_ ?_ (by simp [dvStart]) ?_
  · simp only [dvStart, digD_len]; exact f1'
  · simp only [dvStart, digD_len]; exact f2
  · simp only [dvStart, digD_len]; exact l1
  · simp only [dvStart, vplaces, digD_len]; unfold vplaces at p1; omega
/-- how many instructions shift to the right -/
def cntR : List Ins → Nat
  | [] => 0
  | x :: xs => (if x.op = 4 then 1 else 0) + cntR xs
theorem cntR_app (xs ys : List Ins) : cntR (xs ++ ys) = cntR xs + cntR ys := by
  induction xs with
  | nil => simp [cntR]
  | cons x xs ih => simp only [List.cons_append, cntR, ih]; omega
theorem cntR_take {xs : List Ins} {k : Nat} (h : k < xs.length) : cntR (xs.take (k + 1)) = cntR (xs.take k) + (if xs[k].op = 4 then 1 else 0) := by
  rw [List.take_succ_eq_append_getElem h, cntR_app]; rfl
theorem cntR_le (xs : List Ins) : cntR xs ≤ xs.length := by
  induction xs with
  | nil => simp [cntR]
  | cons x xs ih => simp only [cntR, List.length_cons]; split <;> omega
theorem cntR_ins (k : Nat) (n : Int) : cntR (mulIns k n) = if 0 < k then 1 else 0 := by
  unfold mulIns
  rw [cntR_app]
  have h2 : cntR (if 0 < n then [⟨2, n⟩] else if n < 0 then [⟨3, -n⟩] else []) = 0 := by
    split
    · rfl
    · split <;> rfl
  rw [h2]
  split <;> rfl
theorem cntR_upto (ts : List Int) (k : Nat) : cntR (mulUpto ts k) = k - 1 := by
  induction k with
  | zero => rfl
  | succ k ih =>
    unfold mulUpto
    rw [cntR_app, ih, cntR_ins]
    split <;> omega
theorem cntR_mul (sh : Bool) (b f : Int) (_h0 : 0 ≤ f) : (if 0 < f then 1 else 0) + cntR (mulP (turnL sh b f)) = (turnL sh b f).length := by
  unfold mulP
  rw [cntR_upto]
  by_cases h : 0 < f
  · have : turnL sh b f = turnD sh b f :: turnF sh b 29 (turnN sh b f) := turnF_succ h
    rw [if_pos h, this, List.length_cons]
    omega
  · have : turnL sh b f = [] := turnF_zero h
    rw [if_neg h, this]
    rfl
theorem div_less {X x y : Int} (hX : 0 ≤ X) (hy : 0 < y) : X.tdiv y < x ↔ X < x * y := by
  rw [Int.tdiv_eq_ediv_of_nonneg hX]
  exact Int.ediv_lt_iff_lt_mul hy
set_option maxRecDepth 100000 in
set_option maxHeartbeats 6400000 in
theorem MultiplyOn_any (t : Tri) (A1 A2 A3 : Option Addr) (c1 c2 c3 : Nat) (x f : Int) (sh : Bool) (w : World) (r1 : RI w A1 t.a.digits.length t.a.digits) (r2 : RI w A2 t.b.digits.length t.b.digits) (r3 : RI w A3 t.s.digits.length t.s.digits) (hs : SmallTri t) :
    Calls Try.prog 64 #[.agg #[.int .i64 t.a.base, .slice A1 t.a.digits.length c1, .int .i64 t.b.base, .slice A2 t.b.digits.length c2, .int .i64 t.s.base, .slice A3 t.s.digits.length c3, .int .i64 t.carry], .int .i64 x, .int .i64 f, .bool sh] w (MORet t x f sh w) := by
  have KV := (fun W (hW : Below w.heap.size w W) => ValidMachine_any t A1 A2 A3 c1 c2 c3 W (r1.below hW) (r2.below hW) (r3.below hW) hs)
  rcases hv : vmach t with _ | _
  · rw [hv] at KV
    have HB := Lib.hid (mo_code (t := t) (x := x) (f := f) (sh := sh) (c := 1) (by unfold moC; rw [if_pos hv]) (by decide))
    have KV := Lib.hid KV
    clear hv r1 r2 r3 hs
    go_enter Try.func64, Try.ntmps64
    go_wp2_with fail
    refine Calls.kn (((Kn.nil w).al [.int .i64 t.a.base, .slice A1 t.a.digits.length c1, .int .i64 t.b.base, .slice A2 t.b.digits.length c2, .int .i64 t.s.base, .slice A3 t.s.digits.length c3, .int .i64 t.carry] 65).al [.int .i64 0, .slice none 0 0, .int .i64 0, .slice none 0 0, .int .i64 0, .slice none 0 0, .int .i64 0] 65) ?_; intro w1 hK0
    simp only [World.size_alloc] at hK0
    refine (KV.out _ hK0.below).mono ?_; rintro e w2 ⟨rfl, hw⟩
    have hK1 := hK0.keep hw
    obtain ⟨x1, x2, x3, -⟩ := hK1.cells
    go_wp2_with fail
    refine bodyPost.kn (((((((hK1.st 0 (.int .i64 0)).st 1 (.slice none 0 0)).st 2 (.int .i64 0)).st 3 (.slice none 0 0)).st 4 (.int .i64 0)).st 5 (.slice none 0 0)).st 6 (.int .i64 0)) ?_; intro w6 hK6
    clear x1 x2 x3
    obtain ⟨a1, a2, a3, -⟩ := hK6.cells
    refine bodyPost_ret (v := .tuple #[.agg #[.int .i64 0, .slice none 0 0, .int .i64 0, .slice none 0 0, .int .i64 0, .slice none 0 0, .int .i64 0], .int .i64 0, .int .i64 1]) (by simp [results, Try.results64, go_sem, a1]) rfl ?_
    unfold MORet
    rw [HB.out.1, HB.out.2.1, HB.out.2.2]
    exact MSRet.bad hK6.bare
  rw [hv] at KV
  obtain ⟨k1, k2, k3, e1, e2, f1, f2, l1, p0, p1⟩ := vmach_all hv
  obtain ⟨⟨b1, b2⟩, ⟨n1, n2⟩, -⟩ := vreg_iff.1 k1
  obtain ⟨⟨b3, b4⟩, ⟨n3, n4⟩, -⟩ := vreg_iff.1 k2
  obtain ⟨⟨b5, b6⟩, ⟨n5, n6⟩, -⟩ := vreg_iff.1 k3
  have hC0 : moC t x f sh = if trnC t.a.base f = 2 then 2 else if betB x 0 (pw t.a.base t.a.digits.length - 1) = false then 2 else if vplaces t < ((turnL sh t.a.base f).length : Int) ∨ pw t.b.base t.b.digits.length - 1 < x * f then 5 else 0 := by unfold moC; rw [if_neg (by rw [hv]; decide)]
  have KM := (fun W => MultiplyProgram_any t.a.base f sh W)
  unfold MPRet at KM
  rcases trnC_cases t.a.base f with hc | ⟨hc, -, -, h0, h1⟩
  · have HB := Lib.hid (mo_code (t := t) (x := x) (f := f) (sh := sh) (c := 2) (by rw [hC0, if_pos hc]) (by decide))
    have HC := Lib.hid hc
    have KM := Lib.hid KM
    have KV := Lib.hid KV
    clear hv r1 r2 r3 hs k1 k2 k3 hc hC0 e1 e2 f1 f2 l1 p0 p1
    go_enter Try.func64, Try.ntmps64
    go_wp2_with fail
    refine Calls.kn (((Kn.nil w).al [.int .i64 t.a.base, .slice A1 t.a.digits.length c1, .int .i64 t.b.base, .slice A2 t.b.digits.length c2, .int .i64 t.s.base, .slice A3 t.s.digits.length c3, .int .i64 t.carry] 65).al [.int .i64 0, .slice none 0 0, .int .i64 0, .slice none 0 0, .int .i64 0, .slice none 0 0, .int .i64 0] 65) ?_; intro w1 hK0
    simp only [World.size_alloc] at hK0
    refine (KV.out _ hK0.below).mono ?_; rintro e w2 ⟨rfl, hw⟩
    have hK1 := hK0.keep hw
    clear hK0 hw
    obtain ⟨a1, a2, a3, d1, d2, d3, -⟩ := hK1.cells
    go_wp2_with fail
    refine (KM.out _).mono ?_; rintro e w3 (⟨-, rfl, hw⟩ | ⟨hc, -⟩)
    rotate_left
    · rw [HC.out] at hc; cases hc
    have hK1 := hK1.keep hw
    clear hw a1 a2 a3 d1 d2 d3
    obtain ⟨x1, x2, x3, -⟩ := hK1.cells
    go_wp2_with fail
    refine bodyPost.kn (((((((hK1.st 0 (.int .i64 0)).st 1 (.slice none 0 0)).st 2 (.int .i64 0)).st 3 (.slice none 0 0)).st 4 (.int .i64 0)).st 5 (.slice none 0 0)).st 6 (.int .i64 0)) ?_; intro w6 hK6
    clear x1 x2 x3
    obtain ⟨a1, a2, a3, -⟩ := hK6.cells
    refine bodyPost_ret (v := .tuple #[.agg #[.int .i64 0, .slice none 0 0, .int .i64 0, .slice none 0 0, .int .i64 0, .slice none 0 0, .int .i64 0], .int .i64 0, .int .i64 2]) (by simp [results, Try.results64, go_sem, a1]) rfl ?_
    unfold MORet
    rw [HB.out.1, HB.out.2.1, HB.out.2.2]
    exact MSRet.bad hK6.bare
  have hvp := vplaces_bd hv
  have hmo := pw_mono t.a.base b1 _ _ l1
  have pb := pw_pos t.b.base b3 t.b.digits.length
  have pa := pw_pos t.a.base b1 t.a.digits.length
  have pa2 : pw t.a.base t.a.digits.length ≤ 1000000000001 := by rw [e1] at hmo ⊢; omega
  have KN1 := (fun W => values_any t.a.base A1 t.a.digits.length c1 W b1 b2 (by omega))
  have hp1 : powC t.a.base t.a.digits.length = pw t.a.base t.a.digits.length := by unfold powC; rw [if_pos pa2]
  rw [hp1] at KN1
  have KN2 := (fun W => values_any t.b.base A2 t.b.digits.length c2 W b3 b4 (by omega))
  have hp2 : powC t.b.base t.b.digits.length = pw t.b.base t.b.digits.length := by unfold powC; rw [if_pos f1]
  rw [hp2] at KN2
  have hC1 : moC t x f sh = if betB x 0 (pw t.a.base t.a.digits.length - 1) = false then 2 else if vplaces t < ((turnL sh t.a.base f).length : Int) ∨ pw t.b.base t.b.digits.length - 1 < x * f then 5 else 0 := by rw [hC0, if_neg (by rw [hc]; decide)]
  have KM := (fun W => (KM W).mono (R' := fun e w' => ∃ A c, e = .returned (.tuple #[.slice A (mulP (turnL sh t.a.base f)).length c, .int .i64 0]) ∧ Kn W [rowIns (.slice A (mulP (turnL sh t.a.base f)).length c) (mulP (turnL sh t.a.base f))] w') (fun e w' h => h.elim (fun h => absurd (hc.symm.trans h.1) (by decide)) (fun h => h.2)))
  have hcm := cntR_mul sh t.a.base f h0
  have hlp := mulP_ok (sh := sh) b1 b2 h0 h1
  have hln : (mulP (turnL sh t.a.base f)).length ≤ 120 := by
    have h := hlp
    unfold vprog at h
    simp only [Bool.and_eq_true, decide_eq_true_eq] at h
    exact h.2
  obtain ⟨LL, hLL⟩ : ∃ l, mulP (turnL sh t.a.base f) = l := ⟨_, rfl⟩
  obtain ⟨TN, hTN⟩ : ∃ l, (turnL sh t.a.base f).length = l := ⟨_, rfl⟩
  rcases hx : betB x 0 (pw t.a.base t.a.digits.length - 1) with _ | _
  · have KB := (fun W => calls_val (between_B x 0 (pw t.a.base t.a.digits.length - 1) W) (congrArg Value.bool hx))
    have HB := Lib.hid (mo_code (t := t) (x := x) (f := f) (sh := sh) (c := 2) (by rw [hC1, if_pos hx]) (by decide))
    obtain ⟨N1, hN1⟩ : ∃ N, pw t.a.base t.a.digits.length = N := ⟨_, rfl⟩
    rw [hN1] at KN1 KB pa pa2
    rw [hLL] at KM
    have KB := Lib.hid KB
    have KN1 := Lib.hid KN1
    have KM := Lib.hid KM
    have KV := Lib.hid KV
    clear hv r1 r2 r3 hs k1 k2 k3 hc hC0 e1 e2 f1 f2 l1 p0 p1 hC1 KN2 hcm hlp hln hLL hTN hx hmo hp1 hp2 hvp hN1
    go_enter Try.func64, Try.ntmps64
    go_wp2_with fail
    refine Calls.kn (((Kn.nil w).al [.int .i64 t.a.base, .slice A1 t.a.digits.length c1, .int .i64 t.b.base, .slice A2 t.b.digits.length c2, .int .i64 t.s.base, .slice A3 t.s.digits.length c3, .int .i64 t.carry] 65).al [.int .i64 0, .slice none 0 0, .int .i64 0, .slice none 0 0, .int .i64 0, .slice none 0 0, .int .i64 0] 65) ?_; intro w1 hK0
    simp only [World.size_alloc] at hK0
    refine (KV.out _ hK0.below).mono ?_; rintro e w2 ⟨rfl, hw⟩
    have hK1 := hK0.keep hw
    clear hK0 hw
    obtain ⟨a1, a2, a3, d1, d2, d3, -⟩ := hK1.cells
    go_wp2_with fail
    refine (KM.out _).mono ?_; rintro e w3 ⟨LA, lc, rfl, hKm⟩
    have hK1 := hK1.keep hKm.below
    clear hKm a1 a2 a3 d1 d2 d3
    obtain ⟨a1, a2, a3, d1, d2, d3, -⟩ := hK1.cells
    go_wp2_with fail
    refine (KN1.out _).mono ?_; rintro e w4 ⟨rfl, hw⟩
    have hK1 := hK1.keep hw
    clear hw a1 a2 a3 d1 d2 d3
    go_wp2_with fail
    refine (KB.out _).mono ?_; rintro e w5 ⟨rfl, hw⟩
    have hK1 := hK1.keep hw
    clear hw
    obtain ⟨x1, x2, x3, -⟩ := hK1.cells
    go_wp2_with fail
    refine bodyPost.kn (((((((hK1.st 0 (.int .i64 0)).st 1 (.slice none 0 0)).st 2 (.int .i64 0)).st 3 (.slice none 0 0)).st 4 (.int .i64 0)).st 5 (.slice none 0 0)).st 6 (.int .i64 0)) ?_; intro w6 hK6
    clear x1 x2 x3
    obtain ⟨a1, a2, a3, -⟩ := hK6.cells
    refine bodyPost_ret (v := .tuple #[.agg #[.int .i64 0, .slice none 0 0, .int .i64 0, .slice none 0 0, .int .i64 0, .slice none 0 0, .int .i64 0], .int .i64 0, .int .i64 2]) (by simp [results, Try.results64, go_sem, a1]) rfl ?_
    unfold MORet
    rw [HB.out.1, HB.out.2.1, HB.out.2.2]
    exact MSRet.bad hK6.bare
  have hx' := betB_iff.1 hx
  have hst := moStart_ok hv hx
  have KB := (fun W => calls_val (between_B x 0 (pw t.a.base t.a.digits.length - 1) W) (congrArg Value.bool hx))
  have hC2 : moC t x f sh = if vplaces t < ((turnL sh t.a.base f).length : Int) ∨ pw t.b.base t.b.digits.length - 1 < x * f then 5 else 0 := by rw [hC1, if_neg (by rw [hx]; decide)]
  have KP := (fun W (hW : Below w.heap.size w W) => places_any t A1 A2 A3 c1 c2 c3 W (r1.below hW) (r2.below hW) (r3.below hW) n2 n4 n6)
  have KC := (fun W => clearedM_any t A1 A2 A3 c1 c2 c3 W ⟨b1, b2⟩ ⟨b3, b4⟩ ⟨b5, b6⟩ (sized_of hv))
  have hszc : Sized (clrT t) := by have := sized_of hv; exact ⟨by simp only [clrT, digD_len]; exact this.a0, by simp only [clrT, digD_len]; exact this.b0, by simp only [clrT, digD_len]; exact this.s0, by simp only [clrT, digD_len]; exact this.a, by simp only [clrT, digD_len]; exact this.b, by simp only [clrT, digD_len]; exact this.s⟩
  have KS := (fun (B1 B2 B3 : Option Addr) (h1 h2 h3 : Nat) W q1 q2 q3 => withSetting_any (clrT t) B1 B2 B3 h1 h2 h3 x W q1 q2 q3 hszc b1 b2 (by omega) (by omega))
  simp only [clrT, digD_len, rowI] at KS KC
  have KRP := (fun (LA : Option Addr) (lc : Nat) (E1 : Option Addr) (g1 : Nat) (E2 : Option Addr) (g2 : Nat) (E3 : Option Addr) (g3 : Nat) W q1 q2 q3 hq => runProgram_any (lc := lc) (LA := LA) (L := mulP (turnL sh t.a.base f)) (n := (mulP (turnL sh t.a.base f)).length) (dvStart t 0 x) E1 E2 E3 g1 g2 g3 W q1 q2 q3 hst hlp hq)
  unfold RunPI at KRP
  simp only [dvStart, digD_len] at KRP
  have hdl := div_less (X := pw t.b.base t.b.digits.length - 1) (x := x) (y := f) (by omega)
  have hmf := (fun (s : RS) (b : Bool) h he hg => mo_fine (t := t) (x := x) (f := f) (sh := sh) (s := s) (b := b) h he hg)
  unfold dvStart at hmf
  obtain ⟨N1, hN1⟩ : ∃ N, pw t.a.base t.a.digits.length = N := ⟨_, rfl⟩
  obtain ⟨N2, hN2⟩ : ∃ N, pw t.b.base t.b.digits.length = N := ⟨_, rfl⟩
  obtain ⟨PL, hPL⟩ : ∃ N, (vplaces t) = N := ⟨_, rfl⟩
  rw [hN1] at KN1 KB pa pa2 hx'
  rw [hN2] at KN2 pb f1 hdl hC2
  rw [hLL] at KM KRP hcm hln hmf
  rw [hTN] at hcm hC2
  rw [hPL] at KP hvp hC2
  obtain ⟨ds, hds⟩ : ∃ l, digD t.a.base t.a.digits.length x = l := ⟨_, rfl⟩
  obtain ⟨fs, hfs⟩ : ∃ l, digD t.s.base t.s.digits.length 0 = l := ⟨_, rfl⟩
  obtain ⟨zs, hzs⟩ : ∃ l, digD t.b.base t.b.digits.length 0 = l := ⟨_, rfl⟩
  obtain ⟨ys, hys⟩ : ∃ l, digD t.a.base t.a.digits.length 0 = l := ⟨_, rfl⟩
  obtain ⟨ok, hok⟩ : ∃ l, (restD t.a.base t.a.digits.length x == 0) = l := ⟨_, rfl⟩
  rw [hds, hzs, hfs] at KRP hmf
  rw [hfs, hzs, hds, hys, hok] at KS
  rw [hfs, hzs, hys] at KC
  have hplb : 1 ≤ PL ∧ PL ≤ 16 := by omega
  have hdq : 0 < f → 0 ≤ (N2 - 1).tdiv f ∧ (N2 - 1).tdiv f ≤ N2 - 1 := fun h => by
    rw [Int.tdiv_eq_ediv_of_nonneg (by omega)]
    exact ⟨Int.ediv_nonneg (by omega) (by omega), Int.ediv_le_self _ (by omega)⟩
  obtain ⟨Q, hQ⟩ : ∃ q, (N2 - 1).tdiv f = q := ⟨_, rfl⟩
  rw [hQ] at hdq hdl
  have HX5 := Lib.hid (fun (h : PL < (TN : Int) ∨ N2 - 1 < x * f) => mo_code (t := t) (x := x) (f := f) (sh := sh) (c := 5) (by rw [hC2, if_pos h]) (by decide))
  have HX0 := Lib.hid (fun (h : ¬ (PL < (TN : Int) ∨ N2 - 1 < x * f)) => show moC t x f sh = 0 by rw [hC2, if_neg h])
  have HDL := Lib.hid hdl
  have HMF := Lib.hid hmf
  have HCM := Lib.hid hcm
  have HCT := Lib.hid (fun k (h : k < LL.length) => cntR_take h)
  have HCL := Lib.hid (fun k => Nat.le_trans (cntR_le (LL.take k)) (by rw [List.length_take]; exact Nat.min_le_right _ _))
  have HTK := Lib.hid (show LL.take LL.length = LL from List.take_length)
  have KB := Lib.hid KB
  have KN1 := Lib.hid KN1
  have KN2 := Lib.hid KN2
  have KM := Lib.hid KM
  have KV := Lib.hid KV
  have KP := Lib.hid KP
  have KC := Lib.hid KC
  have KS := Lib.hid KS
  have KRP := Lib.hid KRP
  clear hv r1 r2 r3 hs k1 k2 k3 hc hC0 e1 e2 f2 l1 p0 p1 hC1 hC2 hcm hlp hLL hTN hx hmo hp1 hp2 hvp hN1 hN2 hPL hst hszc hds hfs hzs hys hok hdl hmf
  go_enter Try.func64, Try.ntmps64
  go_wp2_with fail
  refine Calls.kn (((Kn.nil w).al [.int .i64 t.a.base, .slice A1 t.a.digits.length c1, .int .i64 t.b.base, .slice A2 t.b.digits.length c2, .int .i64 t.s.base, .slice A3 t.s.digits.length c3, .int .i64 t.carry] 65).al [.int .i64 0, .slice none 0 0, .int .i64 0, .slice none 0 0, .int .i64 0, .slice none 0 0, .int .i64 0] 65) ?_; intro w1 hK0
  simp only [World.size_alloc] at hK0
  refine (KV.out _ hK0.below).mono ?_; rintro e w2 ⟨rfl, hw⟩
  have hK1 := hK0.keep hw
  clear hK0 hw
  obtain ⟨a1, a2, a3, d1, d2, d3, -⟩ := hK1.cells
  go_wp2_with fail
  refine (KM.out _).mono ?_; rintro e w3 ⟨LA, lc, rfl, hKm⟩
  have hK2 : Kn w [rowIns (.slice LA LL.length lc) LL, .blk (w.heap.size + 1) [.int .i64 0, .slice none 0 0, .int .i64 0, .slice none 0 0, .int .i64 0, .slice none 0 0, .int .i64 0] 65, .blk w.heap.size [.int .i64 t.a.base, .slice A1 t.a.digits.length c1, .int .i64 t.b.base, .slice A2 t.b.digits.length c2, .int .i64 t.s.base, .slice A3 t.s.digits.length c3, .int .i64 t.carry] 65] w3 := hK1.join hKm
  clear hK1 hKm a1 a2 a3 d1 d2 d3
  obtain ⟨a1, a2, a3, d1, d2, d3, -⟩ := hK2.cells
  go_wp2_with fail
  refine (KN1.out _).mono ?_; rintro e w4 ⟨rfl, hw⟩
  have hK2 := hK2.keep hw
  clear hw a1 a2 a3 d1 d2 d3
  go_wp2_with fail
  refine (KB.out _).mono ?_; rintro e w5 ⟨rfl, hw⟩
  have hK2 := hK2.keep hw
  clear hw
  obtain ⟨P0, hP0⟩ : ∃ p : Nat, (if 0 < f then 1 else 0) = p := ⟨_, rfl⟩
  have hP0b : P0 ≤ 1 := by rw [← hP0]; split <;> omega
  have hcases : (0 < f ∧ P0 = 1) ∨ (¬ 0 < f ∧ P0 = 0) := by
    rw [← hP0]
    by_cases h : 0 < f
    · exact .inl ⟨h, if_pos h⟩
    · exact .inr ⟨h, if_neg h⟩
  have HCM := HCM.out
  rw [hP0] at HCM
  have HCM := Lib.hid HCM
  clear hP0
  rcases hcases with ⟨hf0, rfl⟩ | ⟨hf0, rfl⟩
  all_goals
    go_wp2_with fail
  · go_loopw [13, 48] (fun pp kk wr => ∃ (k : Nat), k ≤ LL.length ∧ pp = .int .i64 ((1 + cntR (LL.take k) : Nat) : Int) ∧ kk = .int .i64 k ∧ Kn w [rowIns (.slice LA LL.length lc) LL, .blk (w.heap.size + 1) [.int .i64 0, .slice none 0 0, .int .i64 0, .slice none 0 0, .int .i64 0, .slice none 0 0, .int .i64 0] 65, .blk w.heap.size [.int .i64 t.a.base, .slice A1 t.a.digits.length c1, .int .i64 t.b.base, .slice A2 t.b.digits.length c2, .int .i64 t.s.base, .slice A3 t.s.digits.length c3, .int .i64 t.carry] 65] wr) (fun _ kk _ => LL.length - (intOf kk).toNat)
    case atStart => exact ⟨0, Nat.zero_le _, by simp [cntR], rfl, hK2⟩
    case round =>
      obtain ⟨k, hk, rfl, rfl, hK⟩ := hrel
      clear hK2
      have hcl := HCL.out k
      by_cases hkn : k < LL.length
      · have hk1 : (k : Int) < (LL.length : Int) := by omega
        obtain ⟨ad, hA, hlt, hkl, hc1, hc2⟩ := ((hK.rlIns).2).at_ hkn
        subst hA
        have hct := HCT.out k hkl
        obtain ⟨y, hy⟩ : ∃ y, LL[k] = y := ⟨_, rfl⟩
        rw [hy] at hct hc1 hc2
        have HCK := Lib.hid hct
        obtain ⟨C, hC⟩ : ∃ C, cntR (LL.take k) = C := ⟨_, rfl⟩
        have HCC := Lib.hid hC
        rw [hC] at hcl ⊢
        clear hy hct hC
        rcases h4 : (y.op == 4) with _ | _
        · have HN4 := Lib.hid (show ¬ y.op = 4 by simpa using h4)
          go_wp2_with fail
          go_roundw
          case rel => exact ⟨k + 1, by omega, by rw [HCK.out, if_neg HN4.out, HCC.out]; go_num, by go_num, hK.al_ _⟩
          case measure => simp [intOf]; omega
        · have HN4 := Lib.hid (show y.op = 4 by simpa using h4)
          go_wp2_with fail
          go_roundw
          case rel => exact ⟨k + 1, by omega, by rw [HCK.out, if_pos HN4.out, HCC.out]; go_num, by go_num, hK.al_ _⟩
          case measure => simp [intOf]; omega
      · have hk1 : ¬ (k : Int) < (LL.length : Int) := by omega
        have hkk : k = LL.length := by omega
        have HE : Hid (1 + cntR (LL.take k) = TN) := by rw [Hid, hkk, HTK.out]; exact HCM.out
        rw [HE.out]
        clear hkk hcl
        have hK2 := hK
        clear hK
        obtain ⟨x1, x2, x3, y1, y2, y3, -⟩ := hK2.cells
        have hPLc : PL < (TN : Int) ∨ (¬ PL < (TN : Int) ∧ Q < x) ∨ (¬ PL < (TN : Int) ∧ ¬ Q < x) := by omega
        have hdq0 := hdq hf0
        have wq : IntKind.i64.wrap Q = Q := wrapI64 (by omega)
        have wq2 : IntKind.i64.wrap ((N2 - 1).tdiv f) = Q := by rw [hQ]; exact wq
        have nf1 : f ≠ 0 := by omega
        have nf2 : (f == 0) = false := by simp; omega
        clear hdq
        rcases hPLc with hA | ⟨hA, hA2⟩ | ⟨hA, hA2⟩
        · have HB := Lib.hid (HX5.out (.inl hA))
          go_wp2_with fail
          refine (KP.out _ hK2.below).mono ?_; rintro e w7 ⟨rfl, hw⟩
          have hK1 := (hK2.keep hw).drop
          clear hw hK2 x1 x2 x3 y1 y2 y3
          obtain ⟨x1, x2, x3, -⟩ := hK1.cells
          go_wp2_with fail
          refine bodyPost.kn (((((((hK1.st 0 (.int .i64 0)).st 1 (.slice none 0 0)).st 2 (.int .i64 0)).st 3 (.slice none 0 0)).st 4 (.int .i64 0)).st 5 (.slice none 0 0)).st 6 (.int .i64 0)) ?_; intro w6 hK6
          clear x1 x2 x3
          obtain ⟨a1, a2, a3, -⟩ := hK6.cells
          refine bodyPost_ret (v := .tuple #[.agg #[.int .i64 0, .slice none 0 0, .int .i64 0, .slice none 0 0, .int .i64 0, .slice none 0 0, .int .i64 0], .int .i64 0, .int .i64 5]) (by simp [results, Try.results64, go_sem, a1]) rfl ?_
          unfold MORet
          rw [HB.out.1, HB.out.2.1, HB.out.2.2]
          exact MSRet.bad hK6.bare
        · have HB := Lib.hid (HX5.out (.inr ((HDL.out hf0).1 hA2)))
          go_wp2_with fail
          refine (KP.out _ hK2.below).mono ?_; rintro e w7 ⟨rfl, hw⟩
          have hK2 := hK2.keep hw
          clear hw x1 x2 x3 y1 y2 y3
          obtain ⟨x1, x2, x3, y1, y2, y3, -⟩ := hK2.cells
          go_wp2_with fail
          refine (KN2.out _).mono ?_; rintro e w8 ⟨rfl, hw⟩
          have hK1 := (hK2.keep hw).drop
          clear hw hK2 x1 x2 x3 y1 y2 y3
          obtain ⟨x1, x2, x3, -⟩ := hK1.cells
          go_wp2_with fail
          refine bodyPost.kn (((((((hK1.st 0 (.int .i64 0)).st 1 (.slice none 0 0)).st 2 (.int .i64 0)).st 3 (.slice none 0 0)).st 4 (.int .i64 0)).st 5 (.slice none 0 0)).st 6 (.int .i64 0)) ?_; intro w6 hK6
          clear x1 x2 x3
          obtain ⟨a1, a2, a3, -⟩ := hK6.cells
          refine bodyPost_ret (v := .tuple #[.agg #[.int .i64 0, .slice none 0 0, .int .i64 0, .slice none 0 0, .int .i64 0, .slice none 0 0, .int .i64 0], .int .i64 0, .int .i64 5]) (by simp [results, Try.results64, go_sem, a1]) rfl ?_
          unfold MORet
          rw [HB.out.1, HB.out.2.1, HB.out.2.2]
          exact MSRet.bad hK6.bare
        · have HZ := Lib.hid (HX0.out (fun h => h.elim hA (fun h => hA2 ((HDL.out hf0).2 h))))
          go_wp2_with fail
          refine (KP.out _ hK2.below).mono ?_; rintro e w7 ⟨rfl, hw⟩
          have hK2 := hK2.keep hw
          clear hw x1 x2 x3 y1 y2 y3
          obtain ⟨x1, x2, x3, y1, y2, y3, -⟩ := hK2.cells
          go_wp2_with fail
          refine (KN2.out _).mono ?_; rintro e w8 ⟨rfl, hw⟩
          have hK2 := hK2.keep hw
          clear hw x1 x2 x3 y1 y2 y3
          obtain ⟨x1, x2, x3, y1, y2, y3, -⟩ := hK2.cells
          go_wp2_with fail
          refine (KC.out _).mono ?_; rintro e w9 ⟨G1, h1, G2, h2, G3, h3, rfl, hKc⟩
          have hK9 : Kn w [rowN G3 t.s.digits.length h3 fs, rowN G2 t.b.digits.length h2 zs, rowN G1 t.a.digits.length h1 ys, rowIns (.slice LA LL.length lc) LL, .blk (w.heap.size + 1) [.int .i64 0, .slice none 0 0, .int .i64 0, .slice none 0 0, .int .i64 0, .slice none 0 0, .int .i64 0] 65, .blk w.heap.size [.int .i64 t.a.base, .slice A1 t.a.digits.length c1, .int .i64 t.b.base, .slice A2 t.b.digits.length c2, .int .i64 t.s.base, .slice A3 t.s.digits.length c3, .int .i64 t.carry] 65] w9 := hK2.join hKc
          clear hK2 hKc x1 x2 x3 y1 y2 y3
          go_wp2_with fail
          refine (KS.out _ _ _ _ _ _ _ (Kn.riN (hK9.sel [2] 99 (by decide) (by decide))) (Kn.riN (hK9.sel [1] 99 (by decide) (by decide))) (Kn.riN hK9)).mono ?_; rintro e w10 ⟨E1, g1, E2, g2, E3, g3, rfl, hKs⟩
          have hK10 : Kn w [rowN E3 t.s.digits.length g3 fs, rowN E2 t.b.digits.length g2 zs, rowN E1 t.a.digits.length g1 ds, rowIns (.slice LA LL.length lc) LL, .blk (w.heap.size + 1) [.int .i64 0, .slice none 0 0, .int .i64 0, .slice none 0 0, .int .i64 0, .slice none 0 0, .int .i64 0] 65] w10 := (hK9.join hKs).sel [0, 1, 2, 6, 7] 99 (by decide) (by decide)
          clear hK9 hKs
          go_wp2_with fail
          refine Calls.kn (hK10.al [.int .i64 t.a.base, .slice E1 t.a.digits.length g1, .int .i64 t.b.base, .slice E2 t.b.digits.length g2, .int .i64 t.s.base, .slice E3 t.s.digits.length g3, .int .i64 0] 65) ?_; intro w11 hK11
          refine (KRP.out _ _ _ _ _ _ _ _ _ (Kn.riN (hK11.sel [3] 99 (by decide) (by decide))) (Kn.riN (hK11.sel [2] 99 (by decide) (by decide))) (Kn.riN (hK11.sel [1] 99 (by decide) (by decide))) (Kn.rlIns (hK11.sel [4] 99 (by decide) (by decide))).2).mono ?_; rintro e w12 ⟨g, s, b', rfl, he, ⟨SA, sc, B1, d1, B2, d2, B3, d3, hKr⟩, hg⟩
          have HB := Lib.hid (HMF.out s b' HZ.out he hg)
          have hK3 := (hK11.join hKr).sel [0, 1, 2, 3, 4, 10] 99 (by decide) (by decide)
          clear hK10 hK11 hKr he hg
          obtain ⟨a1, a2, a3, q1, q2, q3, -⟩ := hK3.cells
          go_wp2_with fail
          have HG := Lib.hid (And.intro (hK3.drew.cellIs 9 (.slice SA s.tr.length sc) rfl) (box7' hK3.drew))
          have hK4 := (((((((hK3.front 5 rfl).st 0 (.int .i64 s.m.a.base)).st 1 (.slice B1 s.m.a.digits.length d1)).st 2 (.int .i64 s.m.b.base)).st 3 (.slice B2 s.m.b.digits.length d2)).st 4 (.int .i64 s.m.s.base)).st 5 (.slice B3 s.m.s.digits.length d3)).st 6 (.int .i64 s.m.carry)
          have HS := Lib.hid (And.intro (hK4.drew.drop.cellIs 9 (.slice SA s.tr.length sc) rfl) (box7' hK4.drew.drop))
          go_region_held3 (fun W => W.cell? ⟨g, 9, none⟩ = some (.slice SA s.tr.length sc) ∧ W.cell? ⟨g, 0, none⟩ = some (.int .i64 s.m.a.base) ∧ W.cell? ⟨g, 1, none⟩ = some (.slice B1 s.m.a.digits.length d1) ∧ W.cell? ⟨g, 2, none⟩ = some (.int .i64 s.m.b.base) ∧ W.cell? ⟨g, 3, none⟩ = some (.slice B2 s.m.b.digits.length d2) ∧ W.cell? ⟨g, 4, none⟩ = some (.int .i64 s.m.s.base) ∧ W.cell? ⟨g, 5, none⟩ = some (.slice B3 s.m.s.digits.length d3) ∧ W.cell? ⟨g, 6, none⟩ = some (.int .i64 s.m.carry)) (first | with_reducible exact HG.out | with_reducible exact HS.out) (fail)
          all_goals
            go_wp2_with fail
            refine bodyPost.kn hK4.drew ?_; intro w6 hK6
            clear a1 a2 a3 q1 q2 q3
            obtain ⟨a1, a2, a3, -⟩ := hK6.cells
            refine bodyPost_ret (v := .tuple #[.agg #[.int .i64 s.m.a.base, .slice B1 s.m.a.digits.length d1, .int .i64 s.m.b.base, .slice B2 s.m.b.digits.length d2, .int .i64 s.m.s.base, .slice B3 s.m.s.digits.length d3, .int .i64 s.m.carry], .int .i64 s.tr.length, .int .i64 0]) (by simp [results, Try.results64, go_sem, a1]) rfl ?_
            unfold MORet
            rw [HB.out.1, HB.out.2.1, HB.out.2.2]
            exact ⟨B1, d1, B2, d2, B3, d3, rfl, hK6.sel [2, 3, 4] 99 (by decide) (by decide)⟩
  · go_loopw [13, 48] (fun pp kk wr => ∃ (k : Nat), k ≤ LL.length ∧ pp = .int .i64 ((0 + cntR (LL.take k) : Nat) : Int) ∧ kk = .int .i64 k ∧ Kn w [rowIns (.slice LA LL.length lc) LL, .blk (w.heap.size + 1) [.int .i64 0, .slice none 0 0, .int .i64 0, .slice none 0 0, .int .i64 0, .slice none 0 0, .int .i64 0] 65, .blk w.heap.size [.int .i64 t.a.base, .slice A1 t.a.digits.length c1, .int .i64 t.b.base, .slice A2 t.b.digits.length c2, .int .i64 t.s.base, .slice A3 t.s.digits.length c3, .int .i64 t.carry] 65] wr) (fun _ kk _ => LL.length - (intOf kk).toNat)
    case atStart => exact ⟨0, Nat.zero_le _, by simp [cntR], rfl, hK2⟩
    case round =>
      obtain ⟨k, hk, rfl, rfl, hK⟩ := hrel
      clear hK2
      have hcl := HCL.out k
      by_cases hkn : k < LL.length
      · have hk1 : (k : Int) < (LL.length : Int) := by omega
        obtain ⟨ad, hA, hlt, hkl, hc1, hc2⟩ := ((hK.rlIns).2).at_ hkn
        subst hA
        have hct := HCT.out k hkl
        obtain ⟨y, hy⟩ : ∃ y, LL[k] = y := ⟨_, rfl⟩
        rw [hy] at hct hc1 hc2
        have HCK := Lib.hid hct
        obtain ⟨C, hC⟩ : ∃ C, cntR (LL.take k) = C := ⟨_, rfl⟩
        have HCC := Lib.hid hC
        rw [hC] at hcl ⊢
        clear hy hct hC
        rcases h4 : (y.op == 4) with _ | _
        · have HN4 := Lib.hid (show ¬ y.op = 4 by simpa using h4)
          go_wp2_with fail
          go_roundw
          case rel => exact ⟨k + 1, by omega, by rw [HCK.out, if_neg HN4.out, HCC.out]; go_num, by go_num, hK.al_ _⟩
          case measure => simp [intOf]; omega
        · have HN4 := Lib.hid (show y.op = 4 by simpa using h4)
          go_wp2_with fail
          go_roundw
          case rel => exact ⟨k + 1, by omega, by rw [HCK.out, if_pos HN4.out, HCC.out]; go_num, by go_num, hK.al_ _⟩
          case measure => simp [intOf]; omega
      · have hk1 : ¬ (k : Int) < (LL.length : Int) := by omega
        have hkk : k = LL.length := by omega
        have HE : Hid (0 + cntR (LL.take k) = TN) := by rw [Hid, hkk, HTK.out]; exact HCM.out
        rw [HE.out]
        clear hkk hcl
        have hK2 := hK
        clear hK
        obtain ⟨x1, x2, x3, y1, y2, y3, -⟩ := hK2.cells
        have hPLc : PL < (TN : Int) ∨ ¬ PL < (TN : Int) := by omega
        have hz : ¬ N2 - 1 < x * f := by
          obtain rfl : f = 0 := by omega
          rw [Int.mul_zero]
          omega
        rcases hPLc with hA | hA
        · have HB := Lib.hid (HX5.out (.inl hA))
          clear hz
          go_wp2_with fail
          refine (KP.out _ hK2.below).mono ?_; rintro e w7 ⟨rfl, hw⟩
          have hK1 := (hK2.keep hw).drop
          clear hw hK2 x1 x2 x3 y1 y2 y3
          obtain ⟨x1, x2, x3, -⟩ := hK1.cells
          go_wp2_with fail
          refine bodyPost.kn (((((((hK1.st 0 (.int .i64 0)).st 1 (.slice none 0 0)).st 2 (.int .i64 0)).st 3 (.slice none 0 0)).st 4 (.int .i64 0)).st 5 (.slice none 0 0)).st 6 (.int .i64 0)) ?_; intro w6 hK6
          clear x1 x2 x3
          obtain ⟨a1, a2, a3, -⟩ := hK6.cells
          refine bodyPost_ret (v := .tuple #[.agg #[.int .i64 0, .slice none 0 0, .int .i64 0, .slice none 0 0, .int .i64 0, .slice none 0 0, .int .i64 0], .int .i64 0, .int .i64 5]) (by simp [results, Try.results64, go_sem, a1]) rfl ?_
          unfold MORet
          rw [HB.out.1, HB.out.2.1, HB.out.2.2]
          exact MSRet.bad hK6.bare
        · have HZ := Lib.hid (HX0.out (fun h => h.elim hA hz))
          clear hz
          go_wp2_with fail
          refine (KP.out _ hK2.below).mono ?_; rintro e w7 ⟨rfl, hw⟩
          have hK2 := hK2.keep hw
          clear hw x1 x2 x3 y1 y2 y3
          obtain ⟨x1, x2, x3, y1, y2, y3, -⟩ := hK2.cells
          go_wp2_with fail
          refine (KC.out _).mono ?_; rintro e w9 ⟨G1, h1, G2, h2, G3, h3, rfl, hKc⟩
          have hK9 : Kn w [rowN G3 t.s.digits.length h3 fs, rowN G2 t.b.digits.length h2 zs, rowN G1 t.a.digits.length h1 ys, rowIns (.slice LA LL.length lc) LL, .blk (w.heap.size + 1) [.int .i64 0, .slice none 0 0, .int .i64 0, .slice none 0 0, .int .i64 0, .slice none 0 0, .int .i64 0] 65, .blk w.heap.size [.int .i64 t.a.base, .slice A1 t.a.digits.length c1, .int .i64 t.b.base, .slice A2 t.b.digits.length c2, .int .i64 t.s.base, .slice A3 t.s.digits.length c3, .int .i64 t.carry] 65] w9 := hK2.join hKc
          clear hK2 hKc x1 x2 x3 y1 y2 y3
          go_wp2_with fail
          refine (KS.out _ _ _ _ _ _ _ (Kn.riN (hK9.sel [2] 99 (by decide) (by decide))) (Kn.riN (hK9.sel [1] 99 (by decide) (by decide))) (Kn.riN hK9)).mono ?_; rintro e w10 ⟨E1, g1, E2, g2, E3, g3, rfl, hKs⟩
          have hK10 : Kn w [rowN E3 t.s.digits.length g3 fs, rowN E2 t.b.digits.length g2 zs, rowN E1 t.a.digits.length g1 ds, rowIns (.slice LA LL.length lc) LL, .blk (w.heap.size + 1) [.int .i64 0, .slice none 0 0, .int .i64 0, .slice none 0 0, .int .i64 0, .slice none 0 0, .int .i64 0] 65] w10 := (hK9.join hKs).sel [0, 1, 2, 6, 7] 99 (by decide) (by decide)
          clear hK9 hKs
          go_wp2_with fail
          refine Calls.kn (hK10.al [.int .i64 t.a.base, .slice E1 t.a.digits.length g1, .int .i64 t.b.base, .slice E2 t.b.digits.length g2, .int .i64 t.s.base, .slice E3 t.s.digits.length g3, .int .i64 0] 65) ?_; intro w11 hK11
          refine (KRP.out _ _ _ _ _ _ _ _ _ (Kn.riN (hK11.sel [3] 99 (by decide) (by decide))) (Kn.riN (hK11.sel [2] 99 (by decide) (by decide))) (Kn.riN (hK11.sel [1] 99 (by decide) (by decide))) (Kn.rlIns (hK11.sel [4] 99 (by decide) (by decide))).2).mono ?_; rintro e w12 ⟨g, s, b', rfl, he, ⟨SA, sc, B1, d1, B2, d2, B3, d3, hKr⟩, hg⟩
          have HB := Lib.hid (HMF.out s b' HZ.out he hg)
          have hK3 := (hK11.join hKr).sel [0, 1, 2, 3, 4, 10] 99 (by decide) (by decide)
          clear hK10 hK11 hKr he hg
          obtain ⟨a1, a2, a3, q1, q2, q3, -⟩ := hK3.cells
          go_wp2_with fail
          have HG := Lib.hid (And.intro (hK3.drew.cellIs 9 (.slice SA s.tr.length sc) rfl) (box7' hK3.drew))
          have hK4 := (((((((hK3.front 5 rfl).st 0 (.int .i64 s.m.a.base)).st 1 (.slice B1 s.m.a.digits.length d1)).st 2 (.int .i64 s.m.b.base)).st 3 (.slice B2 s.m.b.digits.length d2)).st 4 (.int .i64 s.m.s.base)).st 5 (.slice B3 s.m.s.digits.length d3)).st 6 (.int .i64 s.m.carry)
          have HS := Lib.hid (And.intro (hK4.drew.drop.cellIs 9 (.slice SA s.tr.length sc) rfl) (box7' hK4.drew.drop))
          go_region_held3 (fun W => W.cell? ⟨g, 9, none⟩ = some (.slice SA s.tr.length sc) ∧ W.cell? ⟨g, 0, none⟩ = some (.int .i64 s.m.a.base) ∧ W.cell? ⟨g, 1, none⟩ = some (.slice B1 s.m.a.digits.length d1) ∧ W.cell? ⟨g, 2, none⟩ = some (.int .i64 s.m.b.base) ∧ W.cell? ⟨g, 3, none⟩ = some (.slice B2 s.m.b.digits.length d2) ∧ W.cell? ⟨g, 4, none⟩ = some (.int .i64 s.m.s.base) ∧ W.cell? ⟨g, 5, none⟩ = some (.slice B3 s.m.s.digits.length d3) ∧ W.cell? ⟨g, 6, none⟩ = some (.int .i64 s.m.carry)) (first | with_reducible exact HG.out | with_reducible exact HS.out) (fail)
          all_goals
            go_wp2_with fail
            refine bodyPost.kn hK4.drew ?_; intro w6 hK6
            clear a1 a2 a3 q1 q2 q3
            obtain ⟨a1, a2, a3, -⟩ := hK6.cells
            refine bodyPost_ret (v := .tuple #[.agg #[.int .i64 s.m.a.base, .slice B1 s.m.a.digits.length d1, .int .i64 s.m.b.base, .slice B2 s.m.b.digits.length d2, .int .i64 s.m.s.base, .slice B3 s.m.s.digits.length d3, .int .i64 s.m.carry], .int .i64 s.tr.length, .int .i64 0]) (by simp [results, Try.results64, go_sem, a1]) rfl ?_
            unfold MORet
            rw [HB.out.1, HB.out.2.1, HB.out.2.2]
            exact ⟨B1, d1, B2, d2, B3, d3, rfl, hK6.sel [2, 3, 4] 99 (by decide) (by decide)⟩
end Go.Proofs.Ytkaaiocbiknipaa
