/- Part 9: lemmas and contracts of the claim's functions. -/
import Derived.Test.YtgpmngcemnnpmaaDoorZC1
import Derived.Test.YtgpmngcemnnpmaaDoorZC2
import Derived.Test.YtgpmngcemnnpmaaDoorZC3
import Derived.Test.YtgpmngcemnnpmaaDoorZC4
import Derived.Test.YtgpmngcemnnpmaaDoorZC5
import Derived.Test.YtgpmngcemnnpmaaDoorZC6
import Derived.Test.YtgpmngcemnnpmaaDoorZC7
import Derived.Test.YtgpmngcemnnpmaaDoorZC8
import Derived.Test.YtgpmngcemnnpmaaDoorTie
import Derived.Test.YtgpmngcemnnpmaaDoorCards
import Derived.Deep.DeepHandedRow
import Derived.Lib.LaidTab
import Derived.ProofKit
import Derived.Carry
import Derived.SliceStrings
namespace Go.Proofs.YtgpmngcemnnpmaaDoor
open Go.RowKit Go.Sort
theorem shoL_len (ss : List ByteArray) : (shoL ss).length ≤ 100 := by
  unfold shoL
  split
  · rename_i h
    have h1 := (wholeC_ok h).1
    rw [List.length_map] at h1 ⊢
    exact Nat.le_trans (keptU_len _ _ _) h1
  · simp
def cellsK (K : List Kept) : List Value := K.flatMap fun x => [.int .i64 (x.at_ : Int), .string x.text]
theorem cellsK_len (K : List Kept) : (cellsK K).length = K.length * 2 := by
  induction K with
  | nil => rfl
  | cons x K ih => unfold cellsK at *; rw [List.flatMap_cons, List.length_append, ih]; simp; omega
theorem cellsK_app (K L : List Kept) : cellsK (K ++ L) = cellsK K ++ cellsK L := by unfold cellsK; rw [List.flatMap_append]
theorem cellsK_get : ∀ (K : List Kept) (k : Nat) (x : Kept), K[k]? = some x → (cellsK K)[k * 2]? = some (.int .i64 (x.at_ : Int)) ∧ (cellsK K)[k * 2 + 1]? = some (.string x.text)
  | [], k, x, h => by simp at h
  | y :: K, 0, x, h => by
    have h : y = x := by simpa using h
    subst h
    simp [cellsK]
  | y :: K, k + 1, x, h => by
    have h1 := cellsK_get K k x (by simpa using h)
    have h2 : cellsK (y :: K) = .int .i64 (y.at_ : Int) :: .string y.text :: cellsK K := by simp [cellsK]
    rw [h2, show (k + 1) * 2 = k * 2 + 1 + 1 by omega]
    simp only [List.getElem?_cons_succ]
    exact h1
theorem mem_take_succ {bel : List Int} {k : Nat} (h : k < bel.length) (j : Int) : (j ∈ bel.take (k + 1)) ↔ (j ∈ bel.take k ∨ j = bel[k]) := by
  rw [List.take_succ_eq_append_getElem h, List.mem_append, List.mem_singleton]
theorem tpK : TP 105 107 (.agg #[.int .i64 0, .string ⟨#[]⟩]) 2 24 := ⟨Tryd.underlying105, by kernel_rfl, rfl, by decide⟩
set_option maxRecDepth 100000 in
set_option maxHeartbeats 6400000 in
theorem ShortSession_any (A : Option Addr) (n c : Nat) (ss : List ByteArray) (w : World) (hr : RL StrM 1 w A n ss) (hsz : ∀ s ∈ ss, s.size ≤ 1048576) (ht : TB w) :
    Calls Tryd.prog 31 #[.slice A n c] w (SCRet (shoL ss) (wholeC (ss.map strB)) w) := by
  have KW := (wholeSession_any A n c ss w hr hsz ht)
  have hl := hr.1
  have HR := Lib.hid (fun W (hW : Below w.heap.size w W) => hr.below steady_StrM hW)
  unfold WholeI at KW
  clear hr hsz ht
  by_cases hC : wholeC (ss.map strB) = 0
  rotate_left
  · have e2 : shoL ss = [] := by unfold shoL; rw [if_neg hC]
    rw [e2]
    obtain ⟨C, hCC⟩ : ∃ C, wholeC (ss.map strB) = C := ⟨_, rfl⟩
    rw [hCC] at KW hC ⊢
    replace KW := Lib.hid KW
    have HC := Lib.hid hC
    clear e2 hCC
    have hcb : (C == 0) = false := by simpa using hC
    have hcb2 : (C != 0) = true := by simpa using hC
    clear hC
    go_enter Tryd.func31, Tryd.ntmps31
    go_wp2_with fail
    refine KW.out.mono ?_; rintro e w1 (⟨h0, -⟩ | ⟨-, rfl, hw⟩)
    · exact absurd h0 HC.out
    go_wp2_with fail
    go_ret2
    exact SCRet.none hw
  · have h100 := (wholeC_ok hC).1
    rw [List.length_map] at h100
    have e2 : shoL ss = (keptU (runS (ss.map strB)).1.bel ss n).map Kept.text := by unfold shoL; rw [if_pos hC, hl]
    rw [e2]
    have hrb := runS_bel (ss.map strB)
    rw [hC] at KW ⊢
    have hn : n ≤ 100 := by omega
    obtain ⟨s, hs⟩ : ∃ s, (runS (ss.map strB)).1 = s := ⟨_, rfl⟩
    rw [hs] at KW hrb ⊢
    have hgood := (runS_good (wholeC_ok hC).2).bel
    rw [hs, List.length_map] at hgood
    rw [List.length_map] at hrb
    obtain ⟨bel, hbel⟩ : ∃ b, s.bel = b := ⟨_, rfl⟩
    rw [hbel] at hgood hrb ⊢
    have hbl : bel.length ≤ 100 := by omega
    have HRB := Lib.hid (fun j (h : j ∈ bel) => (show -9223372036854775808 ≤ j ∧ j ≤ 9223372036854775807 by have := hrb j h; omega))
    replace KW := Lib.hid KW
    have HL := Lib.hid hl
    have HKU := Lib.hid (fun k => (show keptU bel ss (k + 1) = stepKp bel (keptU bel ss k) k (ss.getD k ByteArray.empty) from rfl))
    have HKN := Lib.hid (fun k => keptU_len bel ss k)
    have HKA := Lib.hid (fun k => keptU_at bel ss k)
    obtain ⟨F, hF⟩ : ∃ F, keptU bel ss n = F := ⟨_, rfl⟩
    rw [hF]
    have HF := Lib.hid hF
    clear hs hC hl e2 h100 hgood hF hrb
    have hmm := @run_makeMap Tryd.prog
    go_enter Tryd.func31, Tryd.ntmps31
    go_wp2_with fail
    refine KW.out.mono ?_; rintro e w1 (⟨-, g, rfl, hS⟩ | ⟨h0, -⟩)
    rotate_left
    · exact absurd rfl h0
    obtain ⟨U1, u1, U2, u2, U3, u3, A1, c1, A2, c2, A3, c3, SA, sc, BA, bc, m, hK, -, -⟩ := hS
    have K1 : Kn w [.blk g [.int .i64 s.start.a.base, .slice U1 s.start.a.digits.length u1, .int .i64 s.start.b.base, .slice U2 s.start.b.digits.length u2, .int .i64 s.start.s.base, .slice U3 s.start.s.digits.length u3, .int .i64 s.start.carry, .int .i64 s.m.a.base, .slice A1 s.m.a.digits.length c1, .int .i64 s.m.b.base, .slice A2 s.m.b.digits.length c2, .int .i64 s.m.s.base, .slice A3 s.m.s.digits.length c3, .int .i64 s.m.carry, .slice SA s.str.length sc, .slice BA s.bel.length bc, .bool s.ended] 104, rowI BA bc s.bel] w1 := hK.only (List.Sublist.cons_cons _ (List.Sublist.cons _ (List.Sublist.cons_cons _ (List.nil_sublist _))))
    rw [hbel] at K1
    obtain ⟨CS, hCS⟩ : ∃ CS, ([.int .i64 s.start.a.base, .slice U1 s.start.a.digits.length u1, .int .i64 s.start.b.base, .slice U2 s.start.b.digits.length u2, .int .i64 s.start.s.base, .slice U3 s.start.s.digits.length u3, .int .i64 s.start.carry, .int .i64 s.m.a.base, .slice A1 s.m.a.digits.length c1, .int .i64 s.m.b.base, .slice A2 s.m.b.digits.length c2, .int .i64 s.m.s.base, .slice A3 s.m.s.digits.length c3, .int .i64 s.m.carry, .slice SA s.str.length sc, .slice BA s.bel.length bc, .bool s.ended] : List Value) = CS := ⟨_, rfl⟩
    have hb15 : CS[15]? = some (.slice BA bel.length bc) := by rw [← hCS, ← hbel]; rfl
    rw [hbel] at hCS
    rw [hCS] at K1
    have HB15 := Lib.hid hb15
    clear hK hCS hbel hb15 KW
    go_upto_region 5 with fail
    obtain ⟨gm, hgm⟩ : ∃ g, w1.heap.size = g := ⟨_, rfl⟩
    have K2 := K1.mkB
    rw [hgm] at K2
    try rw [hgm]
    refine Code.wp.kn K2 ?_; clear K1 K2 hmm hgm; intro w2 K2
    have c15 := ((K2.front 1 rfl).blkAt.1 15).trans HB15.out
    have g15 := (K2.front 1 rfl).blkAt.2.2
    go_wp2_with fail
    clear c15 g15
    go_loopw [31] (fun ii wr => ∃ (k : Nat) (f : Int → Bool), k ≤ bel.length ∧ ii = .int .i64 (k : Int) ∧ Hid (∀ j, f j = decide (j ∈ bel.take k)) ∧ Kn w [entMB gm k f, .blk g CS 104, rowI BA bc bel] wr) (fun ii _ => bel.length - (intOf ii).toNat)
    case atStart => exact ⟨0, _, Nat.zero_le _, rfl, Lib.hid (fun j => by simp), K2⟩
    case round =>
      clear K2
      obtain ⟨k, f, hk, rfl, HFE, KR⟩ := hrel
      by_cases hkb : k < bel.length
      · have i1 : (k : Int) < (bel.length : Int) := by omega
        have i0 : (0 : Int) ≤ (k : Int) := by omega
        obtain ⟨ad, hA, hlt, hkx, hcx⟩ := (KR.front 2 rfl).riv.at_ hkb
        have hwf := WalkArith.wf_i64 (HRB.out bel[k] (List.getElem_mem hkx))
        have hfe := (fun j => show (if j = bel[k] then true else f j) = decide (j ∈ bel.take (k + 1)) by
          rw [HFE.out j]
          by_cases e : j = bel[k]
          · rw [if_pos e, decide_eq_true ((mem_take_succ hkx j).2 (.inr e))]
          · rw [if_neg e]
            exact decide_eq_decide.2 ⟨fun h => (mem_take_succ hkx j).2 (.inl h), fun h => ((mem_take_succ hkx j).1 h).resolve_right e⟩)
        obtain ⟨x, hx⟩ : ∃ x, bel[k] = x := ⟨_, rfl⟩
        rw [hx] at hcx hwf
        simp only [hx] at hfe
        have HWF := Lib.hid hwf
        have HFE2 := Lib.hid hfe
        subst hA
        clear hx hkx hwf hfe
        go_wp2_with (at_mapUpdate; refine kn_putB rfl _ _ _ rfl rfl KR (by omega) rfl HWF.out rfl ?_; intro w5 K5)
        go_roundw
        case rel => exact ⟨k + 1, _, by omega, by go_num, HFE2, K5⟩
        case measure => simp [intOf] <;> omega
      · have i1 : ¬ (k : Int) < (bel.length : Int) := by omega
        obtain rfl : k = bel.length := by omega
        have HFB := Lib.hid (fun j => (show f j = decide (j ∈ bel) by have h := HFE.out j; rw [List.take_length] at h; exact h))
        have HLOOK := Lib.hid (fun W (j : Nat) (hj : j ≤ 1000) (v : Bool) (hv : decide ((j : Int) ∈ bel) = v) {m : List Ent} (h : Kn w (entMB gm bel.length f :: m) W) => (show (Instr.lookup 102 (.map (some gm)) (.int .i64 (j : Int)) false).run Tryd.prog W = .ok (.bool v) W by
          rw [h.lookB (WalkArith.wf_i64 (by omega)), HFB.out, hv]))
        obtain ⟨wo, hwo⟩ : ∃ wo : World, wo = wr := ⟨_, rfl⟩
        subst hwo
        go_upto_region 11 with fail
        have K3 : Kn w [.row (.slice (some ⟨wo.heap.size, 0, none⟩) 0 0) 107 2 0 (cellsK []), entMB gm bel.length f] _ := (((KR.al [] 107).litRow (size := 2) (n := 0) rfl (by decide))).sel [0, 1] 99 (by decide) (by decide)
        refine Code.wp.kn K3 ?_; clear KR K3 HFE; intro w3 K3
        go_wp2_with fail
        go_loopw [9, 41] (fun oo ii wr => ∃ (k p : Nat) (K : List Kept) (vo : Value), k ≤ n ∧ ii = .int .i64 (k : Int) ∧ oo = vo ∧ Hid (K.length = p) ∧ Hid (K = keptU bel ss k) ∧ Kn w [.row vo 107 2 p (cellsK K), entMB gm bel.length f] wr) (fun _ ii _ => n - (intOf ii).toNat)
        case atStart => exact ⟨0, 0, [], _, Nat.zero_le _, rfl, rfl, Lib.hid rfl, Lib.hid rfl, K3⟩
        case round =>
          clear K3 i1 hk hkb
          obtain ⟨k, p, K, vo, hk, rfl, rfl, HKL, HK, KR⟩ := hrel
          have HP := Lib.hid (show p ≤ 100 by have h := HKN.out k; rw [← HK.out, HKL.out] at h; omega)
          obtain ⟨Ao, ao, rfl⟩ := row_form KR.at0
          by_cases hkn : k < n
          · have i1 : (k : Int) < (n : Int) := by omega
            have i0 : (0 : Int) ≤ (k : Int) := by omega
            obtain ⟨adL, hAL, hltL, hkx, hcL⟩ := (HR.out _ KR.below).at_ hkn
            have hku := HKU.out k
            rw [← HK.out, List.getD_eq_getElem?_getD, List.getElem?_eq_getElem hkx, Option.getD_some] at hku
            obtain ⟨L, hLL⟩ : ∃ L, ss[k] = L := ⟨_, rfl⟩
            rw [hLL] at hcL hku
            unfold StrM at hcL
            rw [Nat.mul_one] at hcL
            obtain ⟨be, hbe⟩ : ∃ b, decide ((k : Int) ∈ bel) = b := ⟨_, rfl⟩
            have HBE := Lib.hid hbe
            have HST0 := Lib.hid hku
            subst hAL
            clear hLL hku hkx hbe
            obtain ⟨g12, hg⟩ : ∃ g, wr.heap.size = g := ⟨_, rfl⟩
            go_upto_region 15 with fail
            refine Code.wp.kn (KR.al [.int .i64 (k : Int), .string L] 107) ?_; clear KR hcL; intro w4 K4
            rw [hg] at K4
            try rw [hg]
            clear hg
            obtain ⟨a1, a2, a3, -⟩ := K4.cells
            rcases Nat.eq_zero_or_pos p with hp0 | hp0
            · have hK0 : K = [] := List.length_eq_zero_iff.1 (by rw [HKL.out]; exact hp0)
              have HST := Lib.hid (show keptU bel ss (k + 1) = K ++ [⟨k, L⟩] by rw [HST0.out, stepKp_push (by rw [hK0]; exact lastUndo_nil _ _ _)])
              have p2 : IntKind.i64.wrap ((p : Int) - 1) = -1 := by rw [wrapI64 (by omega)]; omega
              clear hK0 hp0
              go_wp2_with (at_builtin; refine kn_app tpK rfl _ _ rfl _ p (cellsK K) rfl rfl (((K4).front 1 rfl).al [.int .i64 (k : Int), .string L] 107) rfl (by simp [Value.oneCell']) (by have := HP.out; omega) (by have := HP.out; omega) ?_; intro v6 w6 K6)
              go_roundw
              case rel => exact ⟨k + 1, p + 1, _, _, by omega, by go_num, rfl, Lib.hid (by rw [HST.out, List.length_append, HKL.out]; rfl), Lib.hid rfl, by rw [HST.out, cellsK_app]; exact K6.sel [0, 2] 99 (by decide) (by decide)⟩
              case measure => simp [intOf] <;> omega
            · obtain ⟨q, hq⟩ : ∃ q, p = q + 1 := ⟨p - 1, by omega⟩
              obtain ⟨Ks, kk, hKs⟩ : ∃ Ks kk, K = Ks ++ [kk] := ⟨K.dropLast, K.getLast (by intro h; have := HKL.out; rw [h] at this; simp at this; omega), (List.dropLast_concat_getLast _).symm⟩
              have hql : Ks.length = q := by have h := HKL.out; rw [hKs, List.length_append, List.length_singleton] at h; omega
              have hat := HKA.out k kk (by rw [← HK.out, hKs]; simp)
              obtain ⟨go, o1, hE⟩ := Kn.rowForm (K4.front 1 rfl) hp0
              injection hE with hE hE2 hE3
              subst hE hE3
              have p2 : IntKind.i64.wrap ((p : Int) - 1) = (q : Int) := by have := HP.out; rw [wrapI64 (by omega)]; omega
              have p3 : (0 : Int) ≤ (q : Int) := by omega
              have p4 : (q : Int) < (p : Int) := by omega
              have hlu := lastUndo_snoc bel Ks kk k L
              rw [← hKs] at hlu
              have hgk := cellsK_get K q kk (by rw [hKs, ← hql]; simp)
              obtain ⟨T, hT⟩ : ∃ T, kk.text = T := ⟨_, rfl⟩
              obtain ⟨rg, hrg⟩ : ∃ r, decide ((kk.at_ : Int) ∈ bel) = r := ⟨_, rfl⟩
              have KU := (fun W => undoes_any T L W)
              obtain ⟨u, hu⟩ : ∃ u, undoB (strB T) (strB L) = u := ⟨_, rfl⟩
              rw [hu] at KU
              rw [hT, hrg, HBE.out, hu] at hlu
              rw [hT] at hgk
              obtain ⟨x0, -⟩ := Kn.rowCell (K4.front 1 rfl) (j := q * 2 + 1) (u := .string T) hgk.2
              obtain ⟨x1, -⟩ := Kn.rowCell (K4.front 1 rfl) (j := q * 2) (u := .int .i64 (kk.at_ : Int)) hgk.1
              have HCA := Lib.hid hgk.1
              have HRG := Lib.hid hrg
              have HAT := Lib.hid (show kk.at_ ≤ 1000 by omega)
              replace KU := Lib.hid KU
              have HLU := Lib.hid hlu
              have HKs := Lib.hid hKs
              have HQL := Lib.hid hql
              have HQ := Lib.hid hq
              clear hT hrg hu hlu hKs hql hq hp0 hgk hat
              cases u with
              | false =>
                have HST := Lib.hid (show keptU bel ss (k + 1) = K ++ [⟨k, L⟩] by rw [HST0.out, stepKp_push (by rw [HLU.out]; simp)])
                go_upto_region 18 with (go_at_call 67; (refine (KU.out _).mono ?_); rintro e w5 ⟨rfl, hw⟩; have K5 := K4.keep hw; clear hw x0 x1; obtain ⟨a1, a2, a3, -⟩ := K5.cells; obtain ⟨y1, -⟩ := Kn.rowCell (K5.front 1 rfl) (j := q * 2) (u := .int .i64 (kk.at_ : Int)) HCA.out; have l1 := HLOOK.out _ kk.at_ HAT.out rg HRG.out (K5.front 2 rfl); have l2 := HLOOK.out _ k (by omega) be HBE.out (K5.front 2 rfl))
                go_wp2_with (at_builtin; refine kn_app tpK rfl _ _ rfl _ p (cellsK K) rfl rfl (((K5).front 1 rfl).al [.int .i64 (k : Int), .string L] 107) rfl (by simp [Value.oneCell']) (by have := HP.out; omega) (by have := HP.out; omega) ?_; intro v6 w6 K6)
                go_roundw
                case rel => exact ⟨k + 1, p + 1, _, _, by omega, by go_num, rfl, Lib.hid (by rw [HST.out, List.length_append, HKL.out]; rfl), Lib.hid rfl, by rw [HST.out, cellsK_app]; exact K6.sel [0, 2] 99 (by decide) (by decide)⟩
                case measure => simp [intOf] <;> omega
              | true =>
                cases rg with
                | true =>
                  have HST := Lib.hid (show keptU bel ss (k + 1) = K ++ [⟨k, L⟩] by rw [HST0.out, stepKp_push (by rw [HLU.out]; simp)])
                  go_upto_region 18 with (go_at_call 67; (refine (KU.out _).mono ?_); rintro e w5 ⟨rfl, hw⟩; have K5 := K4.keep hw; clear hw x0 x1; obtain ⟨a1, a2, a3, -⟩ := K5.cells; obtain ⟨y1, -⟩ := Kn.rowCell (K5.front 1 rfl) (j := q * 2) (u := .int .i64 (kk.at_ : Int)) HCA.out; have l1 := HLOOK.out _ kk.at_ HAT.out true HRG.out (K5.front 2 rfl); have l2 := HLOOK.out _ k (by omega) be HBE.out (K5.front 2 rfl))
                  go_wp2_with (at_builtin; refine kn_app tpK rfl _ _ rfl _ p (cellsK K) rfl rfl (((K5).front 1 rfl).al [.int .i64 (k : Int), .string L] 107) rfl (by simp [Value.oneCell']) (by have := HP.out; omega) (by have := HP.out; omega) ?_; intro v6 w6 K6)
                  go_roundw
                  case rel => exact ⟨k + 1, p + 1, _, _, by omega, by go_num, rfl, Lib.hid (by rw [HST.out, List.length_append, HKL.out]; rfl), Lib.hid rfl, by rw [HST.out, cellsK_app]; exact K6.sel [0, 2] 99 (by decide) (by decide)⟩
                  case measure => simp [intOf] <;> omega
                | false =>
                  cases be with
                  | true =>
                    have HST := Lib.hid (show keptU bel ss (k + 1) = K ++ [⟨k, L⟩] by rw [HST0.out, stepKp_push (by rw [HLU.out]; simp)])
                    go_upto_region 18 with (go_at_call 67; (refine (KU.out _).mono ?_); rintro e w5 ⟨rfl, hw⟩; have K5 := K4.keep hw; clear hw x0 x1; obtain ⟨a1, a2, a3, -⟩ := K5.cells; obtain ⟨y1, -⟩ := Kn.rowCell (K5.front 1 rfl) (j := q * 2) (u := .int .i64 (kk.at_ : Int)) HCA.out; have l1 := HLOOK.out _ kk.at_ HAT.out false HRG.out (K5.front 2 rfl); have l2 := HLOOK.out _ k (by omega) true HBE.out (K5.front 2 rfl))
                    go_wp2_with (at_builtin; refine kn_app tpK rfl _ _ rfl _ p (cellsK K) rfl rfl (((K5).front 1 rfl).al [.int .i64 (k : Int), .string L] 107) rfl (by simp [Value.oneCell']) (by have := HP.out; omega) (by have := HP.out; omega) ?_; intro v6 w6 K6)
                    go_roundw
                    case rel => exact ⟨k + 1, p + 1, _, _, by omega, by go_num, rfl, Lib.hid (by rw [HST.out, List.length_append, HKL.out]; rfl), Lib.hid rfl, by rw [HST.out, cellsK_app]; exact K6.sel [0, 2] 99 (by decide) (by decide)⟩
                    case measure => simp [intOf] <;> omega
                  | false =>
                    have HST := Lib.hid (show keptU bel ss (k + 1) = Ks by rw [HST0.out, HKs.out, stepKp_pop (by rw [← HKs.out, HLU.out]; rfl)])
                    go_upto_region 17 with (go_at_call 67; (refine (KU.out _).mono ?_); rintro e w5 ⟨rfl, hw⟩; have K5 := K4.keep hw; clear hw x0 x1; obtain ⟨a1, a2, a3, -⟩ := K5.cells; obtain ⟨y1, -⟩ := Kn.rowCell (K5.front 1 rfl) (j := q * 2) (u := .int .i64 (kk.at_ : Int)) HCA.out; have l1 := HLOOK.out _ kk.at_ HAT.out false HRG.out (K5.front 2 rfl); have l2 := HLOOK.out _ k (by omega) false HBE.out (K5.front 2 rfl))
                    have hc1 := Kn.capG (K5.front 1 rfl)
                    have s1 : (q : Int) ≤ (ao : Int) := by omega
                    have K6 := (Kn.prefixG (K5.front 1 rfl) (j := q) (by have := HQ.out; omega)).sel [0, 2] 99 (by decide) (by decide)
                    have HT1 := Lib.hid (show (cellsK K).take (q * 2) = cellsK Ks by rw [HKs.out, cellsK_app, List.take_append_of_le_length (by rw [cellsK_len, HQL.out]; exact Nat.le_refl _), List.take_of_length_le (by rw [cellsK_len, HQL.out]; exact Nat.le_refl _)])
                    rw [HT1.out] at K6
                    clear hc1
                    go_wp2_with fail
                    go_roundw
                    case rel => exact ⟨k + 1, q, Ks, _, by omega, by go_num, rfl, HQL, Lib.hid HST.out.symm, K6⟩
                    case measure => simp [intOf] <;> omega
          · have i1 : ¬ (k : Int) < (n : Int) := by omega
            obtain rfl : k = n := by omega
            have hKF : K = F := HK.out.trans HF.out
            subst hKF
            clear HLOOK HK HF HR HKU HKN HKA
            obtain ⟨wo, hwo⟩ : ∃ wo : World, wo = wr := ⟨_, rfl⟩
            subst hwo
            go_upto_region 21 with fail
            have K3 : Kn w [.row (.slice (some ⟨wo.heap.size, 0, none⟩) 0 0) 9 1 0 (((K.take 0).map Kept.text).map Value.string), .row (.slice Ao p ao) 107 2 p (cellsK K)] _ := (((KR.al [] 9).litRow (size := 1) (n := 0) rfl (by decide))).sel [0, 1] 99 (by decide) (by decide)
            refine Code.wp.kn K3 ?_; clear KR K3; intro w3 K3
            go_wp2_with fail
            go_loopw [14, 91] (fun oo ii wr => ∃ (j : Nat) (vo : Value), j ≤ p ∧ ii = .int .i64 (j : Int) ∧ oo = vo ∧ Kn w [.row vo 9 1 j (((K.take j).map Kept.text).map Value.string), .row (.slice Ao p ao) 107 2 p (cellsK K)] wr) (fun _ ii _ => p - (intOf ii).toNat)
            case atStart => exact ⟨0, _, Nat.zero_le _, rfl, rfl, K3⟩
            case round =>
              clear K3
              obtain ⟨j, vo, hj, rfl, rfl, KR⟩ := hrel
              obtain ⟨Bo, bo, rfl⟩ := row_form KR.at0
              have hp100 := HP.out
              by_cases hjp : j < p
              · have i1 : (j : Int) < (p : Int) := by omega
                have i0 : (0 : Int) ≤ (j : Int) := by omega
                have hjK : j < K.length := by rw [HKL.out]; exact hjp
                have hgk := cellsK_get K j K[j] (List.getElem?_eq_getElem hjK)
                have htk : ((K.take (j + 1)).map Kept.text).map Value.string = ((K.take j).map Kept.text).map Value.string ++ [Value.string K[j].text] := by rw [List.take_succ_eq_append_getElem hjK, List.map_append, List.map_append]; rfl
                obtain ⟨⟨z, T⟩, hx⟩ : ∃ x, K[j] = x := ⟨_, rfl⟩
                rw [hx] at hgk htk
                dsimp only at hgk htk
                obtain ⟨go, o1, hE⟩ := Kn.rowForm (KR.front 1 rfl) (by omega)
                injection hE with hE hE2 hE3
                subst hE hE3
                obtain ⟨x0, -⟩ := Kn.rowCell (KR.front 1 rfl) (j := j * 2) (u := .int .i64 (z : Int)) hgk.1
                obtain ⟨x1, -⟩ := Kn.rowCell (KR.front 1 rfl) (j := j * 2 + 1) (u := .string T) hgk.2
                have HTK := Lib.hid htk
                clear hx htk hgk hjK
                obtain ⟨g16, hg⟩ : ∃ g, wr.heap.size = g := ⟨_, rfl⟩
                go_upto_region 24 with fail
                refine Code.wp.kn (KR.al [.int .i64 (z : Int), .string T] 107) ?_; clear KR x0 x1; intro w4 K4
                rw [hg] at K4
                try rw [hg]
                clear hg
                obtain ⟨a1, a2, a3, -⟩ := K4.cells
                go_wp2_with (at_builtin; refine kn_app tpS rfl _ _ rfl _ j _ rfl rfl ((K4.front 1 rfl).al [.string T] 9) rfl (by simp [Value.oneCell']) (by have := HP.out; omega) (by have := HP.out; omega) ?_; intro v6 w6 K6)
                go_roundw
                case rel => exact ⟨j + 1, _, by omega, by go_num, rfl, by rw [HTK.out]; exact K6.sel [0, 2] 99 (by decide) (by decide)⟩
                case measure => simp [intOf] <;> omega
              · have i1 : ¬ (j : Int) < (p : Int) := by omega
                obtain rfl : j = p := by omega
                rw [List.take_of_length_le (by rw [HKL.out]; exact Nat.le_refl _)] at KR
                go_wp2_with fail
                go_ret2
                refine ⟨Bo, bo, ?_, ?_⟩
                · rw [List.length_map, HKL.out]; rfl
                · unfold rowT rowSN
                  rw [List.length_map, HKL.out]
                  exact KR.sel [0] 99 (by decide) (by decide)
end Go.Proofs.YtgpmngcemnnpmaaDoor

namespace Go.Proofs.YtgpmngcemnnpmaaDoor
open Go.RowKit Go.Sort
def lftT (left : Int) (t : Tri) : Int := lft3 left t.a.digits.length t.b.digits.length t.s.digits.length
def lftS : Int → List Tri → Int
  | left, [] => left
  | left, t :: ts => if lftT left t < 0 then -1 else lftS (lftT left t) ts
def szS (left : Int) (ts : List Tri) : Int := if left - ts.length < 0 then -1 else lftS (left - ts.length) ts
theorem lftT_bd (left : Int) (t : Tri) (h : -1 ≤ left) : -1 ≤ lftT left t ∧ lftT left t ≤ left := by
  unfold lftT lft3
  have b1 := lft_bd left t.a.digits.length h (by omega)
  have b2 := lft_bd _ t.b.digits.length b1.1 (by omega)
  have b3 := lft_bd _ t.s.digits.length b2.1 (by omega)
  split
  · omega
  · split <;> omega
theorem lftT_small {left : Int} {t : Tri} (hl : left ≤ 1048576) (h0 : -1 ≤ left) (h : ¬ lftT left t < 0) : t.a.digits.length ≤ 1048576 ∧ t.b.digits.length ≤ 1048576 ∧ t.s.digits.length ≤ 1048576 := by
  unfold lftT lft3 at h
  split at h
  · omega
  · rename_i k1
    split at h
    · omega
    · rename_i k2
      have b1 := lft_bd left t.a.digits.length h0 (by omega)
      have b2 := lft_bd _ t.b.digits.length b1.1 (by omega)
      unfold lft at h k1 k2 b1 b2
      refine ⟨?_, ?_, ?_⟩
      · split at k1 <;> omega
      · split at k2 <;> split at k2 <;> omega
      · split at h <;> split at h <;> split at h <;> omega
theorem lftS_small : ∀ (ts : List Tri) (left : Int), 0 ≤ left → left ≤ 1048576 → ¬ lftS left ts < 0 → ∀ t ∈ ts, t.a.digits.length ≤ 1048576 ∧ t.b.digits.length ≤ 1048576 ∧ t.s.digits.length ≤ 1048576
  | [], _, _, _, _ => fun t h => by cases h
  | t :: ts, left, h0, hl, h => by
    unfold lftS at h
    split at h
    · omega
    · rename_i k1
      have hb := lftT_bd left t (by omega)
      intro u hu
      rcases List.mem_cons.1 hu with rfl | hu
      · exact lftT_small hl (by omega) k1
      · exact lftS_small ts (lftT left t) (by omega) (by omega) h u hu
theorem szS_small {ts : List Tri} (h : ¬ szS 1048576 ts < 0) : ts.length ≤ 1048576 ∧ ∀ t ∈ ts, t.a.digits.length ≤ 1048576 ∧ t.b.digits.length ≤ 1048576 ∧ t.s.digits.length ≤ 1048576 := by
  unfold szS at h
  split at h
  · omega
  · exact ⟨by omega, lftS_small ts _ (by omega) (by omega) h⟩
theorem smallTri_of {t : Tri} (h : t.a.digits.length ≤ 1048576 ∧ t.b.digits.length ≤ 1048576 ∧ t.s.digits.length ≤ 1048576) : SmallTri t := by
  unfold SmallTri SmallReg; omega
end Go.Proofs.YtgpmngcemnnpmaaDoor

namespace Go.Proofs.YtgpmngcemnnpmaaDoor
open Go.RowKit Go.Sort
theorem ownI_ri {w : World} {base n c : Nat} {A : Option Addr} {ds : List Int} (h : OwnI w base (.slice A n c) ds) : RI w A n ds := by
  obtain ⟨A', c', h1, h2, -⟩ := h.reads
  injection h1 with h1 h3 h4
  rw [h1, h3]; exact h2
theorem row_below {w w' : World} {base : Nat} {e : TypeId} {size : Nat} {v : Value} {n : Nat} {xs : List Value} (h : w.ownsRow base e size v n xs) (hb : Below w.heap.size w w') : w'.ownsRow base e size v n xs := by
  refine ⟨h.1, ?_⟩
  rcases h.2 with hn | ⟨g, cap, cur, rfl, hbg, hg, rest⟩
  · exact .inl hn
  · exact .inr ⟨g, cap, cur, rfl, hbg, by rw [hb.block g (Array.getElem?_eq_some_iff.1 hg).1]; exact hg, rest⟩
/-- trial i in the cells xs of an own row, its digits in own rows from block b on -/
def TriX (w : World) (b : Nat) (xs : List Value) (i : Nat) (t : Tri) : Prop := ∃ X1 x1 X2 x2 X3 x3, (xs[i * 7]? = some (.int .i64 t.a.base) ∧ xs[i * 7 + 1]? = some (.slice X1 t.a.digits.length x1) ∧ xs[i * 7 + 2]? = some (.int .i64 t.b.base) ∧ xs[i * 7 + 3]? = some (.slice X2 t.b.digits.length x2) ∧
    xs[i * 7 + 4]? = some (.int .i64 t.s.base) ∧ xs[i * 7 + 5]? = some (.slice X3 t.s.digits.length x3) ∧ xs[i * 7 + 6]? = some (.int .i64 t.carry)) ∧ OwnI w b (.slice X1 t.a.digits.length x1) t.a.digits ∧ OwnI w b (.slice X2 t.b.digits.length x2) t.b.digits ∧ OwnI w b (.slice X3 t.s.digits.length x3) t.s.digits
theorem TriX.below {w w' : World} {b : Nat} {xs : List Value} {i : Nat} {t : Tri} (h : TriX w b xs i t) (hb : Below w.heap.size w w') : TriX w' b xs i t := by
  obtain ⟨X1, x1, X2, x2, X3, x3, h1, h2, h3, h4⟩ := h
  exact ⟨X1, x1, X2, x2, X3, x3, h1, h2.below hb, h3.below hb, h4.below hb⟩
theorem TriX.setBelow {w : World} {b : Nat} {xs : List Value} {i : Nat} {t : Tri} (h : TriX w b xs i t) {a : Addr} (ha : a.block < b) (u : Value) : TriX (w.setCell a u) b xs i t := by
  obtain ⟨X1, x1, X2, x2, X3, x3, h1, h2, h3, h4⟩ := h
  exact ⟨X1, x1, X2, x2, X3, x3, h1, h2.setBelow ha u, h3.setBelow ha u, h4.setBelow ha u⟩
/-- trials in an own row at block g -/
def OwnTS (w : World) (g n : Nat) (ts : List Tri) : Prop := ts.length = n ∧ ∃ xs, w.ownsRow g 43 7 (.slice (some ⟨g, 0, none⟩) n n) n xs ∧ ∀ (i : Nat) (h : i < ts.length), TriX w (g + 1) xs i ts[i]
theorem OwnTS.below {w w' : World} {g n : Nat} {ts : List Tri} (h : OwnTS w g n ts) (hb : Below w.heap.size w w') : OwnTS w' g n ts := by
  obtain ⟨h1, xs, h2, h3⟩ := h
  exact ⟨h1, xs, row_below h2 hb, fun i hi => (h3 i hi).below hb⟩
theorem OwnTS.rl {w : World} {g n : Nat} {ts : List Tri} (h : OwnTS w g n ts) : RL TriM 7 w (some ⟨g, 0, none⟩) n ts := by
  obtain ⟨h1, xs, h2, h3⟩ := h
  have hc := h2.cells (g := g) rfl
  refine ⟨h1, fun hn => ⟨_, rfl, ?_, fun k hk => ?_⟩⟩
  · rcases h2.2 with ⟨h, -⟩ | ⟨g', cap, cur, e, hbg, hg, -⟩
    · cases h
    · injection e with e; injection e with e; injection e with e
      subst e
      exact (Array.getElem?_eq_some_iff.1 hg).1
  · obtain ⟨X1, x1, X2, x2, X3, x3, ⟨e0, e1, e2, e3, e4, e5, e6⟩, o1, o2, o3⟩ := h3 k hk
    have f0 := hc _ _ e0
    have f1 := hc _ _ e1
    have f2 := hc _ _ e2
    have f3 := hc _ _ e3
    have f4 := hc _ _ e4
    have f5 := hc _ _ e5
    have f6 := hc _ _ e6
    rw [add_zero_block] at f0 f1 f2 f3 f4 f5 f6 ⊢
    exact ⟨⟨X1, x1, ⟨f0, f1⟩, ownI_ri o1⟩, ⟨X2, x2, ⟨f2, f3⟩, ownI_ri o2⟩, ⟨X3, x3, ⟨f4, f5⟩, ownI_ri o3⟩, f6⟩
theorem row7 {w : World} {g n k : Nat} {T : TypeId} {xs : List Value} (h : w.ownsRow g T 7 (.slice (some ⟨g, 0, none⟩) n n) n xs) (hk : k < n) :
    (∃ u, w.cell? ⟨g, k * 7, none⟩ = some u) ∧ (∃ u, w.cell? ⟨g, k * 7 + 1, none⟩ = some u) ∧ (∃ u, w.cell? ⟨g, k * 7 + 2, none⟩ = some u) ∧ (∃ u, w.cell? ⟨g, k * 7 + 3, none⟩ = some u) ∧ (∃ u, w.cell? ⟨g, k * 7 + 4, none⟩ = some u) ∧ (∃ u, w.cell? ⟨g, k * 7 + 5, none⟩ = some u) ∧ (∃ u, w.cell? ⟨g, k * 7 + 6, none⟩ = some u) := by
  have hl := h.1
  have H : ∀ j, j < n * 7 → ∃ u, w.cell? ⟨g, j, none⟩ = some u := fun j hj => ⟨xs[j]'(by omega), (h.cellAt j (by omega)).trans (List.getElem?_eq_getElem (by omega))⟩
  exact ⟨H _ (by omega), H _ (by omega), H _ (by omega), H _ (by omega), H _ (by omega), H _ (by omega), H _ (by omega)⟩
def set7 (xs : List Value) (o : Nat) (v0 v1 v2 v3 v4 v5 v6 : Value) : List Value := ((((((xs.set o v0).set (o + 1) v1).set (o + 2) v2).set (o + 3) v3).set (o + 4) v4).set (o + 5) v5).set (o + 6) v6
theorem set7_ne {xs : List Value} {o i : Nat} {v0 v1 v2 v3 v4 v5 v6 : Value} (h : i < o) : (set7 xs o v0 v1 v2 v3 v4 v5 v6)[i]? = xs[i]? := by
  unfold set7
  rw [List.getElem?_set_ne (by omega), List.getElem?_set_ne (by omega), List.getElem?_set_ne (by omega), List.getElem?_set_ne (by omega), List.getElem?_set_ne (by omega), List.getElem?_set_ne (by omega), List.getElem?_set_ne (by omega)]
theorem set7_at {xs : List Value} {o : Nat} {v0 v1 v2 v3 v4 v5 v6 : Value} (h : o + 6 < xs.length) : (set7 xs o v0 v1 v2 v3 v4 v5 v6)[o]? = some v0 ∧ (set7 xs o v0 v1 v2 v3 v4 v5 v6)[o + 1]? = some v1 ∧ (set7 xs o v0 v1 v2 v3 v4 v5 v6)[o + 2]? = some v2 ∧ (set7 xs o v0 v1 v2 v3 v4 v5 v6)[o + 3]? = some v3 ∧
    (set7 xs o v0 v1 v2 v3 v4 v5 v6)[o + 4]? = some v4 ∧ (set7 xs o v0 v1 v2 v3 v4 v5 v6)[o + 5]? = some v5 ∧ (set7 xs o v0 v1 v2 v3 v4 v5 v6)[o + 6]? = some v6 := by
  unfold set7
  refine ⟨?_, ?_, ?_, ?_, ?_, ?_, ?_⟩ <;>
    (repeat rw [List.getElem?_set_ne (by omega)]) <;> rw [List.getElem?_set_self (by first | omega | (simp only [List.length_set]; omega))]
theorem stored7 {w : World} {g n : Nat} {T : TypeId} {xs : List Value} (h : w.ownsRow g T 7 (.slice (some ⟨g, 0, none⟩) n n) n xs) (o : Nat) (v0 v1 v2 v3 v4 v5 v6 : Value) :
    (((((((w.setCell ⟨g, o, none⟩ v0).setCell ⟨g, o + 1, none⟩ v1).setCell ⟨g, o + 2, none⟩ v2).setCell ⟨g, o + 3, none⟩ v3).setCell ⟨g, o + 4, none⟩ v4).setCell ⟨g, o + 5, none⟩ v5).setCell ⟨g, o + 6, none⟩ v6).ownsRow g T 7 (.slice (some ⟨g, 0, none⟩) n n) n (set7 xs o v0 v1 v2 v3 v4 v5 v6) :=
  ((((((((h.stored o v0).1.stored (o + 1) v1).1.stored (o + 2) v2).1.stored (o + 3) v3).1.stored (o + 4) v4).1.stored (o + 5) v5).1.stored (o + 6) v6)).1
theorem info_tri : (Tryd.prog.info? 43).map (fun i => (i.zero, i.size, i.bytes)) = some (some (.agg #[.int .i64 0, .slice none 0 0, .int .i64 0, .slice none 0 0, .int .i64 0, .slice none 0 0, .int .i64 0]), 7, 104) := by kernel_rfl
end Go.Proofs.YtgpmngcemnnpmaaDoor

namespace Go.Proofs.YtgpmngcemnnpmaaDoor
open Go.RowKit Go.Sort
/-- numbers were stored into blocks of P -/
inductive Marks (P : Nat → Prop) : World → World → Prop
  | refl (w : World) : Marks P w w
  | step {w w' : World} {b : Nat} (h : Marks P w w') (hb : P b) (j : Nat) (u : Int) : Marks P w (w'.setCell ⟨b, j, none⟩ (.int .i64 u))
theorem Marks.trans {P : Nat → Prop} {a b c : World} (h1 : Marks P a b) (h2 : Marks P b c) : Marks P a c := by
  induction h2 with
  | refl => exact h1
  | step _ hb j u ih => exact ih.step hb j u
theorem Marks.weaken {P Q : Nat → Prop} {a b : World} (h : Marks P a b) (hq : ∀ k, P k → Q k) : Marks Q a b := by
  induction h with
  | refl => exact .refl _
  | step _ hb j u ih => exact ih.step (hq _ hb) j u
theorem Marks.under {P : Nat → Prop} {B : Nat} {a w w' : World} (h : Marks P w w') (hb : Below B a w) (hP : ∀ k, P k → B ≤ k) : Below B a w' := by
  induction h with
  | refl => exact hb
  | step _ hk j u ih => exact ih.setCell (hP _ hk) _
theorem Marks.size {P : Nat → Prop} {w w' : World} (h : Marks P w w') : w'.heap.size = w.heap.size := by
  induction h with
  | refl => rfl
  | step _ hk j u ih => rw [← ih]; simp [World.setCell]
theorem Marks.block {P : Nat → Prop} {w w' : World} (h : Marks P w w') {k : Nat} (hk : ¬ P k) : w'.heap[k]? = w.heap[k]? := by
  induction h with
  | refl => rfl
  | step _ hb j u ih => rw [← ih]; exact heap_setCell_other _ _ k _ (fun e => hk (by rw [e]; exact hb))
theorem map_set_int (ds : List Int) (j : Nat) (u : Int) : (ds.map (Value.int .i64)).set j (.int .i64 u) = (ds.set j u).map (Value.int .i64) := by
  rw [List.map_set]
theorem OwnI.setAny {w : World} {base : Nat} {v : Value} {ds : List Int} (h : OwnI w base v ds) (b j : Nat) (u : Int) : ∃ ds', ds'.length = ds.length ∧ OwnI (w.setCell ⟨b, j, none⟩ (.int .i64 u)) base v ds' := by
  have h' := h
  rcases h.2 with ⟨rfl, hn⟩ | ⟨g, cap, cur, rfl, hb, hg, rest⟩
  · exact ⟨ds, rfl, by simp [hn], .inl ⟨rfl, hn⟩⟩
  · by_cases hgb : g = b
    · subst hgb
      refine ⟨ds.set j u, by simp, ?_⟩
      have hs := (World.ownsRow.stored h j (.int .i64 u)).1
      rw [map_set_int] at hs
      unfold OwnI
      rw [List.length_set]
      exact hs
    · refine ⟨ds, rfl, h.1, .inr ⟨g, cap, cur, rfl, hb, ?_, rest⟩⟩
      rw [heap_setCell_other _ _ _ _ (by simpa using hgb)]
      exact hg
theorem Marks.ownI {P : Nat → Prop} {w w' : World} (h : Marks P w w') {base : Nat} {v : Value} {ds : List Int} (ho : OwnI w base v ds) : ∃ ds', ds'.length = ds.length ∧ OwnI w' base v ds' := by
  induction h with
  | refl => exact ⟨ds, rfl, ho⟩
  | step _ hb j u ih =>
    obtain ⟨d1, l1, o1⟩ := ih
    obtain ⟨d2, l2, o2⟩ := o1.setAny _ j u
    exact ⟨d2, l2.trans l1, o2⟩
/-- k, k + 1, .. -/
def upto (k : Int) (n : Nat) : List Int := (List.range n).map (fun (i : Nat) => k + (i : Int))
theorem upto_len (k : Int) (n : Nat) : (upto k n).length = n := by simp [upto]
theorem upto_get (k : Int) {n i : Nat} (h : i < n) : (upto k n)[i]? = some (k + i) := by simp [upto, h]
/-- the first j are marked -/
def marked (k : Int) (ds : List Int) (j : Nat) : List Int := upto k j ++ ds.drop j
theorem marked_len (k : Int) (ds : List Int) {j : Nat} (h : j ≤ ds.length) : (marked k ds j).length = ds.length := by simp [marked, upto_len]; omega
theorem marked_set (k : Int) (ds : List Int) {j : Nat} (h : j < ds.length) : (marked k ds j).set j (k + j) = marked k ds (j + 1) := by
  unfold marked
  rw [List.set_append_right _ _ (by rw [upto_len]; exact Nat.le_refl _), upto_len, Nat.sub_self, List.drop_eq_getElem_cons h, List.set_cons_zero]
  simp [upto, List.range_succ]
end Go.Proofs.YtgpmngcemnnpmaaDoor

namespace Go.Proofs.YtgpmngcemnnpmaaDoor
open Go.RowKit Go.Sort
theorem Marks.chg {P : Nat → Prop} {w w' : World} (h : Marks P w w') : Chg P w w' := by
  induction h with
  | refl => exact ⟨rfl, rfl, rfl, Nat.le_refl _, fun _ _ _ => rfl⟩
  | step h hb j u ih =>
    refine ⟨ih.os, ih.tape, ih.output, Nat.le_trans ih.size (by simp [World.setCell]), fun k hk hn => ?_⟩
    rw [Below.heap_setCell _ _ _ _ (fun e => hn (by rw [e]; exact hb))]
    exact ih.block k hk hn
def rowN (A : Option Addr) (n c : Nat) (ds : List Int) : Ent := .row (.slice A n c) 2 1 n (ds.map (Value.int .i64))
theorem Kn.marks {w0 w w' : World} {m : List Ent} {A : Option Addr} {n c : Nat} {ds ds' : List Int} (h : Kn w0 (rowN A n c ds :: m) w) (hm : Marks (fun b => (Value.slice A n c).ownBlock = some b) w w') (ho : OwnI w' 0 (.slice A n c) ds') (hl : ds'.length = n) : Kn w0 (rowN A n c ds' :: m) w' := by
  subst hl
  exact h.upd (e' := rowN A ds'.length c ds') hm.chg ho (fun k hk => .inl hk)
theorem Kn.ownN {w0 w : World} {m : List Ent} {A : Option Addr} {n c : Nat} {ds : List Int} (h : Kn w0 (rowN A n c ds :: m) w) : OwnI w 0 (.slice A n c) ds ∧ ds.length = n := by
  have h1 : w.ownsRow 0 2 1 (.slice A n c) n (ds.map (Value.int .i64)) := h.at0
  have h2 := h1.1
  rw [List.length_map, Nat.mul_one] at h2
  subst h2
  exact ⟨h1, rfl⟩
theorem Kn.riN {w0 w : World} {m : List Ent} {A : Option Addr} {n c : Nat} {ds : List Int} (h : Kn w0 (rowN A n c ds :: m) w) : RI w A n ds := h.ownN.1.ri
theorem Kn.tail3 {w0 w : World} {m : List Ent} {a b c d : Ent} (h : Kn w0 (a :: b :: c :: d :: m) w) : Kn w0 (b :: c :: d :: a :: m) w := h.perm (List.perm_middle (a := a) (l₁ := [b, c, d]) (l₂ := m)).symm
theorem Kn.rot3 {w0 w : World} {m : List Ent} {b c d : Ent} (h : Kn w0 (b :: c :: d :: m) w) : Kn w0 (c :: d :: b :: m) w := h.perm (List.perm_middle (a := b) (l₁ := [c, d]) (l₂ := m)).symm
theorem Kn.addN {w0 w w' : World} {m : List Ent} {A : Option Addr} {n c : Nat} {ds : List Int} (h : Kn w0 m w) (hb : Below w.heap.size w w') (ho : OwnI w' w.heap.size (.slice A n c) ds) (hl : ds.length = n) : Kn w0 (rowN A n c ds :: m) w' := by
  subst hl
  exact h.addI hb ho
theorem lf_small {left n : Int} (h : ¬ lft left n < 0) (hl : left ≤ 1048576) : n ≤ 1048576 := by unfold lft at h; split at h <;> omega
theorem lf3_small {n1 n2 n3 : Int} (p1 : 0 ≤ n1) (p2 : 0 ≤ n2) (_p3 : 0 ≤ n3) (h : ¬ lft3 1048576 n1 n2 n3 < 0) : n1 ≤ 1048576 ∧ n2 ≤ 1048576 ∧ n3 ≤ 1048576 := by
  unfold lft3 at h
  split at h
  · omega
  · rename_i k1
    split at h
    · omega
    · rename_i k2
      have h1 := lf_small k1 (Int.le_refl _)
      have b1 := lft_bd 1048576 n1 (by omega) p1
      have h2 := lf_small k2 b1.2
      have b2 := lft_bd _ n2 b1.1 p2
      have h3 := lf_small h (by omega)
      exact ⟨h1, h2, h3⟩
theorem lf3_lo (n1 n2 n3 : Int) (p1 : 0 ≤ n1) (p2 : 0 ≤ n2) (p3 : 0 ≤ n3) : lft3 1048576 n1 n2 n3 ≤ 1048576 ∧ -1 ≤ lft3 1048576 n1 n2 n3 := by
  unfold lft3
  have b1 := lft_bd 1048576 n1 (by omega) p1
  have b2 := lft_bd _ n2 b1.1 p2
  have b3 := lft_bd _ n3 b2.1 p3
  split
  · omega
  · split <;> omega
end Go.Proofs.YtgpmngcemnnpmaaDoor

namespace Go.Proofs.YtgpmngcemnnpmaaDoor
open Go.RowKit Go.Sort
theorem cellsIns_ext {xs : List Ins} {cs : List Value} (hl : cs.length = xs.length * 2) (h : ∀ (i : Nat) (h : i < xs.length), cs[i * 2]? = some (.int .i64 xs[i].op) ∧ cs[i * 2 + 1]? = some (.int .i64 xs[i].arg)) : cs = cellsIns xs := by
  apply List.ext_getElem?
  intro j
  by_cases hj : j < xs.length * 2
  · obtain ⟨h1, h2⟩ := h (j / 2) (by omega)
    obtain ⟨h3, h4⟩ := cellsIns_get xs (j / 2) (by omega)
    rcases Nat.mod_two_eq_zero_or_one j with he | he
    · have e : j / 2 * 2 = j := by omega
      rw [e] at h1 h3; rw [h1, h3]
    · have e : j / 2 * 2 + 1 = j := by omega
      rw [e] at h2 h4; rw [h2, h4]
  · rw [List.getElem?_eq_none (by omega), List.getElem?_eq_none (by rw [cellsIns_len]; omega)]
/-- the first j cells are marked -/
def markedV (k : Int) (cs : List Value) (j : Nat) : List Value := (upto k j).map (Value.int .i64) ++ cs.drop j
theorem markedV_set (k : Int) (cs : List Value) {j : Nat} (h : j < cs.length) : (markedV k cs j).set j (.int .i64 (k + j)) = markedV k cs (j + 1) := by
  unfold markedV
  rw [List.set_append_right _ _ (by rw [List.length_map, upto_len]; exact Nat.le_refl _), List.length_map, upto_len, Nat.sub_self, List.drop_eq_getElem_cons h, List.set_cons_zero]
  simp [upto, List.range_succ]
theorem markedV_len (k : Int) (cs : List Value) {j : Nat} (h : j ≤ cs.length) : (markedV k cs j).length = cs.length := by simp [markedV, upto_len]; omega
end Go.Proofs.YtgpmngcemnnpmaaDoor

namespace Go.Proofs.YtgpmngcemnnpmaaDoor
open Go.RowKit Go.Sort
set_option maxRecDepth 100000 in
set_option maxHeartbeats 6400000 in
theorem law_ShortSession (SA0 : Option Addr) (sn0 sc0 : Nat) (SL0 : List ByteArray) (w : World) (hs0 : RL StrM 1 w SA0 sn0 SL0) (hsn0 : sn0 ≤ 9223372036854775807) (hsz0 : ∀ s ∈ SL0, s.size ≤ 9223372036854775807) (ht : TB w) :
    Calls Tryd.prog 5 #[.slice SA0 sn0 sc0] w fun e w' => e = .returned (.bool true) ∧ Below w.heap.size w w' := by
  have HID0 := True.intro
  by_cases hsl0 : (sn0 : Int) + totS SL0 ≤ (1048576 : Int)
  rotate_left
  · have hsm0 : (-1 : Int) < 0 := by omega
    go_enter Tryd.func5, Tryd.ntmps5
    go_wp2_with fail
    refine (szStringS_any SA0 sn0 sc0 SL0 _ _ hs0 hsz0 (by first | exact hl0 | omega) (by first | exact hl1 | omega) hsn0).mono ?_; rintro e w3 ⟨rfl, hww⟩
    subst hww
    rw [if_neg (by omega)]
    go_wp2_with fail
    go_ret
    exact ⟨rfl, Below.refl _ _⟩
  have hsb0 : sn0 ≤ 1048576 := by omega
  have hsp0 : ¬ ((1048576 : Int) - (sn0 : Int) - totS SL0 < 0) := by omega
  have hst0 : ∀ s ∈ SL0, s.size ≤ 1048576 := fun s hs => by have := totS_mem hs; omega
  have TS0 := Lib.hid (fun W (hW : Below w.heap.size w W) => toStringS_kn SA0 sn0 sc0 SL0 W (hs0.below steady_StrM hW) hsb0)
  have HST0 := Lib.hid hst0
  have HSZ0 := Lib.hid hsz0
  have HTB := Lib.hid (fun W (hW : Below w.heap.size w W) => TB.below ht hW)
  have KS := (fun (SX0 : Option Addr) (sx0 : Nat) W ht0 (hW : Below w.heap.size w W) => specShortSession_any SX0 sn0 sx0 SL0 W ht0 HST0.out)
  have KI := (fun (SX0 : Option Addr) (sx0 : Nat) W ht0 (hW : Below w.heap.size w W) => ShortSession_any SX0 sn0 sx0 SL0 W ht0 HST0.out (HTB.out W hW))
  unfold SCRet at KS KI
  have ls := shoL_len SL0
  obtain ⟨RS_, hRS⟩ : ∃ x : List ByteArray, shoL SL0 = x := ⟨_, rfl⟩
  rw [hRS] at KS KI ls
  clear hRS
  obtain ⟨ks, hks⟩ : ∃ n, RS_.length = n := ⟨_, rfl⟩
  unfold rowT at KI KS
  rw [hks] at KS KI ls
  clear hks
  obtain ⟨RI1, hRI1⟩ : ∃ x, wholeC (SL0.map strB) = x := ⟨_, rfl⟩
  rw [hRI1] at KS KI
  clear hRI1
  have KS := Lib.hid KS
  have KI := Lib.hid KI
  clear hst0
  go_enter Tryd.func5, Tryd.ntmps5
  go_wp2_with fail
  refine (szStringS_any SA0 sn0 sc0 SL0 _ _ hs0 hsz0 (by first | exact hl0 | omega) (by first | exact hl1 | omega) hsn0).mono ?_; rintro e w3 ⟨rfl, hww⟩
  subst hww
  rw [if_pos (by omega)]
  have hK := Kn.nil w
  go_wp2_with fail
  refine (TS0.out _ hK.below).mono ?_; rintro e w4 ⟨X1, x1, rfl, hKn⟩
  have hK : Kn w [rowSN X1 sn0 x1 SL0] w4 := hK.join hKn
  clear hKn
  go_wp2_with fail
  refine (KS.out X1 x1 _ (Kn.rlSN (hK.sel [0] 99 (by decide) (by decide))).2 hK.below).mono ?_; rintro e w5 ⟨SS, ss, rfl, hKn⟩
  have hK : Kn w [rowSN SS ks ss RS_, rowSN X1 sn0 x1 SL0] w5 := hK.join hKn
  clear hKn
  go_wp2_with fail
  refine (TS0.out _ hK.below).mono ?_; rintro e w6 ⟨X2, x2, rfl, hKn⟩
  have hK : Kn w [rowSN X2 sn0 x2 SL0, rowSN SS ks ss RS_, rowSN X1 sn0 x1 SL0] w6 := hK.join hKn
  clear hKn
  go_wp2_with fail
  refine (KI.out X2 x2 _ (Kn.rlSN (hK.sel [0] 99 (by decide) (by decide))).2 hK.below).mono ?_; rintro e w7 ⟨GS, gs, rfl, hKn⟩
  have hK : Kn w [rowSN GS ks gs RS_, rowSN X2 sn0 x2 SL0, rowSN SS ks ss RS_, rowSN X1 sn0 x1 SL0] w7 := hK.join hKn
  clear hKn
  go_wp2_with fail
  refine (eqS_same _ _ _ _ _ _ _ ((Kn.rlSN (hK.sel [0] 99 (by decide) (by decide))).2) ((Kn.rlSN (hK.sel [2] 99 (by decide) (by decide))).2) (by omega)).mono ?_; rintro e w8 ⟨rfl, hw⟩
  have hK : Kn w [rowSN GS ks gs RS_, rowSN X2 sn0 x2 SL0, rowSN SS ks ss RS_, rowSN X1 sn0 x1 SL0] w8 := hK.keep hw
  clear hw
  go_wp2_with fail
  refine (TS0.out _ hK.below).mono ?_; rintro e w9 ⟨X3, x3, rfl, hKn⟩
  have hK : Kn w [rowSN X3 sn0 x3 SL0, rowSN GS ks gs RS_, rowSN X2 sn0 x2 SL0, rowSN SS ks ss RS_, rowSN X1 sn0 x1 SL0] w9 := hK.join hKn
  clear hKn
  go_wp2_with fail
  refine (eqS_same _ _ _ _ _ _ _ ((Kn.rlSN (hK.sel [2] 99 (by decide) (by decide))).2) ((Kn.rlSN (hK.sel [0] 99 (by decide) (by decide))).2) (by omega)).mono ?_; rintro e w10 ⟨rfl, hw⟩
  have hK : Kn w [rowSN X3 sn0 x3 SL0, rowSN GS ks gs RS_, rowSN X2 sn0 x2 SL0, rowSN SS ks ss RS_, rowSN X1 sn0 x1 SL0] w10 := hK.keep hw
  clear hw
  go_wp2_with fail
  have hK : Kn w [rowSN X2 sn0 x2 SL0, rowSN X3 sn0 x3 SL0, rowSN GS ks gs RS_, rowSN SS ks ss RS_, rowSN X1 sn0 x1 SL0] w10 := hK.sel [2, 0, 1, 3, 4] 5 (by decide) (by decide)
  refine (markS_kn w _ X2 sn0 x2 SL0 1 _ hK (by omega) (by omega)).mono ?_; rintro e w11 ⟨rfl, hKn⟩
  have hK : Kn w [rowSN X2 sn0 x2 (marksS 1 sn0), rowSN X3 sn0 x3 SL0, rowSN GS ks gs RS_, rowSN SS ks ss RS_, rowSN X1 sn0 x1 SL0] w11 := hKn
  clear hKn
  obtain ⟨pk1, hpk1⟩ : ∃ x : Int, 1 + (sn0 : Int) = x := ⟨_, rfl⟩
  have hpk1n : ¬ pk1 < 0 := by omega
  have hpk1b : 0 ≤ pk1 ∧ pk1 ≤ 40000000 := by omega
  rw [hpk1]
  have Hpk1 := Lib.hid hpk1
  clear hpk1
  go_wp2_with fail
  refine (eqS_same _ _ _ _ _ _ _ ((Kn.rlSN (hK.sel [2] 99 (by decide) (by decide))).2) ((Kn.rlSN (hK.sel [3] 99 (by decide) (by decide))).2) (by omega)).mono ?_; rintro e w12 ⟨rfl, hw⟩
  have hK : Kn w [rowSN X2 sn0 x2 (marksS 1 sn0), rowSN X3 sn0 x3 SL0, rowSN GS ks gs RS_, rowSN SS ks ss RS_, rowSN X1 sn0 x1 SL0] w12 := hK.keep hw
  clear hw
  go_wp2_with fail
  have hK : Kn w [rowSN GS ks gs RS_, rowSN X2 sn0 x2 (marksS 1 sn0), rowSN X3 sn0 x3 SL0, rowSN SS ks ss RS_, rowSN X1 sn0 x1 SL0] w12 := hK.sel [2, 0, 1, 3, 4] 5 (by decide) (by decide)
  refine (markS_kn w _ GS ks gs RS_ 1 _ hK (by omega) (by omega)).mono ?_; rintro e w13 ⟨rfl, hKn⟩
  have hK : Kn w [rowSN GS ks gs (marksS 1 ks), rowSN X2 sn0 x2 (marksS 1 sn0), rowSN X3 sn0 x3 SL0, rowSN SS ks ss RS_, rowSN X1 sn0 x1 SL0] w13 := hKn
  clear hKn
  obtain ⟨pk2, hpk2⟩ : ∃ x : Int, 1 + (ks : Int) = x := ⟨_, rfl⟩
  have hpk2n : ¬ pk2 < 0 := by omega
  have hpk2b : 0 ≤ pk2 ∧ pk2 ≤ 40000000 := by omega
  rw [hpk2]
  have Hpk2 := Lib.hid hpk2
  clear hpk2
  go_wp2_with fail
  refine (heldS_any GS ks gs 1 _ ((Kn.rlSN (hK.sel [0] 99 (by decide) (by decide))).2) (by omega) (by omega)).mono ?_; rintro e w14 ⟨rfl, hw⟩
  have hK : Kn w [rowSN GS ks gs (marksS 1 ks), rowSN X2 sn0 x2 (marksS 1 sn0), rowSN X3 sn0 x3 SL0, rowSN SS ks ss RS_, rowSN X1 sn0 x1 SL0] w14 := hK.keep hw
  clear hw
  rw [Hpk2.out]
  go_wp2_with fail
  refine (TS0.out _ hK.below).mono ?_; rintro e w15 ⟨X4, x4, rfl, hKn⟩
  have hK : Kn w [rowSN X4 sn0 x4 SL0, rowSN GS ks gs (marksS 1 ks), rowSN X2 sn0 x2 (marksS 1 sn0), rowSN X3 sn0 x3 SL0, rowSN SS ks ss RS_, rowSN X1 sn0 x1 SL0] w15 := hK.join hKn
  clear hKn
  go_wp2_with fail
  refine (KI.out X4 x4 _ (Kn.rlSN (hK.sel [0] 99 (by decide) (by decide))).2 hK.below).mono ?_; rintro e w16 ⟨HS, hs, rfl, hKn⟩
  have hK : Kn w [rowSN HS ks hs RS_, rowSN X4 sn0 x4 SL0, rowSN GS ks gs (marksS 1 ks), rowSN X2 sn0 x2 (marksS 1 sn0), rowSN X3 sn0 x3 SL0, rowSN SS ks ss RS_, rowSN X1 sn0 x1 SL0] w16 := hK.join hKn
  clear hKn
  go_wp2_with fail
  refine (eqS_same _ _ _ _ _ _ _ ((Kn.rlSN (hK.sel [0] 99 (by decide) (by decide))).2) ((Kn.rlSN (hK.sel [5] 99 (by decide) (by decide))).2) (by omega)).mono ?_; rintro e w17 ⟨rfl, hw⟩
  have hK : Kn w [rowSN HS ks hs RS_, rowSN X4 sn0 x4 SL0, rowSN GS ks gs (marksS 1 ks), rowSN X2 sn0 x2 (marksS 1 sn0), rowSN X3 sn0 x3 SL0, rowSN SS ks ss RS_, rowSN X1 sn0 x1 SL0] w17 := hK.keep hw
  clear hw
  go_wp2_with fail
  refine (heldS_any GS ks gs 1 _ ((Kn.rlSN (hK.sel [2] 99 (by decide) (by decide))).2) (by omega) (by omega)).mono ?_; rintro e w18 ⟨rfl, hw⟩
  have hK : Kn w [rowSN HS ks hs RS_, rowSN X4 sn0 x4 SL0, rowSN GS ks gs (marksS 1 ks), rowSN X2 sn0 x2 (marksS 1 sn0), rowSN X3 sn0 x3 SL0, rowSN SS ks ss RS_, rowSN X1 sn0 x1 SL0] w18 := hK.keep hw
  clear hw
  rw [Hpk2.out]
  go_wp2_with fail
  go_ret
  exact ⟨rfl, hK.below⟩
end Go.Proofs.YtgpmngcemnnpmaaDoor

namespace Go.Proofs.YtgpmngcemnnpmaaDoor
open Go.RowKit Go.ChangeShapes Go.WideShapes Go.ChangeAt
theorem laid_tail {P : Program} {W : World} {x : String × DataW Unit} {rest : List (String × DataW Unit)} (h : laidMet P (x :: rest) W) : laidMet P rest W := by
  obtain ⟨ps, ⟨g, t, cs, fuel, p, q, h1, h2, h3, h4, h5, rfl⟩, hn, hr⟩ := h
  exact ⟨q, h5, (List.nodup_append.1 hn).2.1, fun b off hb => hr b off (List.mem_append_right _ hb)⟩
theorem cellsU64 : Tryd.prog.cellsOf 110 = 1 := by kernel_rfl
theorem cellsTab : Tryd.prog.cellsOf 186 = 20 := by kernel_rfl
theorem gTab : Tryd.prog.globalNamed "internal/strconv.uint64pow10" = some 0 := by kernel_rfl
theorem gTabType : (Tryd.prog.globals[0]?).map (·.type) = some 186 := by kernel_rfl
theorem tb_of_laid {W : World} (h : laidMetH Tryd.prog [("math/bits.deBruijn32tab", Rows.laid_math_bits_deBruijn32tab), ("math/bits.deBruijn64tab", Rows.laid_math_bits_deBruijn64tab), ("internal/strconv.uint64pow10", Rows.laid_internal_strconv_uint64pow10)] W) : TB W := by
  have h1 : laidMet Tryd.prog [("math/bits.deBruijn32tab", Rows.laid_math_bits_deBruijn32tab), ("math/bits.deBruijn64tab", Rows.laid_math_bits_deBruijn64tab), ("internal/strconv.uint64pow10", Rows.laid_internal_strconv_uint64pow10)] W := h
  exact Lib.tabIs_of_head (rest := []) gTab gTabType Tryd.underlying186 Tryd.underlying110 cellsU64 cellsTab (laid_tail (laid_tail h1))
def tabCells (l : DataW Unit) (k : IntKind) : Array Value := match l with
  | .agg ds => (ds.map fun d => match d with | .lit (.int _ n) => Value.int k n | _ => .int k 0).toArray
  | _ => #[]
def setTab (cs : Array Value) (o : Obj) : Obj := match o with
  | .cells _ t frozen => .cells cs t frozen
  | o => o
noncomputable def laidWorld (os : Os) : World :=
  { World.holding Tryd.prog os ⟨#[], #[], []⟩ with heap := (((World.holding Tryd.prog os ⟨#[], #[], []⟩).heap.modify 0 (setTab (tabCells Rows.laid_internal_strconv_uint64pow10 .u64))).modify 2 (setTab (tabCells Rows.laid_math_bits_deBruijn32tab .u8))).modify 3 (setTab (tabCells Rows.laid_math_bits_deBruijn64tab .u8)) }
theorem laid_met (os : Os) (args : Array Value) : laidMet Tryd.prog [("math/bits.deBruijn32tab", Rows.laid_math_bits_deBruijn32tab), ("math/bits.deBruijn64tab", Rows.laid_math_bits_deBruijn64tab), ("internal/strconv.uint64pow10", Rows.laid_internal_strconv_uint64pow10)] ((laidWorld os).forCall (fun _ _ => 0) ⟨#[], args, []⟩).memory :=
  laidMet_of_run' 8 (by kernel_rfl) (by kernel_rfl)
theorem own : ownKnob Tryd.prog.godebug = none := by kernel_rfl
theorem laidOut : laidOutB Tryd.prog = true := by kernel_rfl
end Go.Proofs.YtgpmngcemnnpmaaDoor

namespace Go.Proofs.YtgpmngcemnnpmaaDoor
open Go.RowKit Go.ChangeShapes Go.WideShapes Go.ChangeAt
section
variable {H : Type} {enc : TypeId × Value → H} {w : World} {base : Nat} {spare : Nat → Bool} {held : Bool} {fuel : Nat} {cs : List Value} {x : DataW H × List MemPlace}
theorem cellsI64 : Tryd.prog.cellsOf 2 = 1 := by kernel_rfl
theorem cellsInts : Tryd.prog.cellsOf 34 = 1 := by kernel_rfl
theorem rd_i64 (h : DataW.trod enc Tryd.prog w base spare held fuel 2 cs = some x) : ∃ n, cs = [.int .i64 n] ∧ -9223372036854775808 ≤ n ∧ n ≤ 9223372036854775807 := by
  obtain ⟨n, rfl, _, hw⟩ := DataW.trod_int Tryd.underlying2 h
  refine ⟨n, rfl, ?_⟩
  have h1 : IntKind.i64.min = -9223372036854775808 := by decide
  have h2 : IntKind.i64.max = 9223372036854775807 := by decide
  simp [Lit.wf] at hw
  omega
theorem rd_ints (h : DataW.trod enc Tryd.prog w base spare held fuel 34 cs = some x) : ∃ A n c ds, cs = [.slice A n c] ∧ RI w A n ds ∧ n ≤ 9223372036854775807 := by
  rcases open_ints Tryd.underlying34 Tryd.underlying2 cellsI64 h with ⟨rfl, _⟩ | ⟨a, len, cap, zs, rfl, _, hl, hm, hz, _, hcell, _⟩
  · exact ⟨none, 0, 0, [], rfl, ⟨rfl, fun h => absurd h (by omega)⟩, by omega⟩
  · have hlen : len ≤ zs.length := by rw [hz]; split <;> omega
    refine ⟨some a, len, cap, zs.take len, rfl, ⟨by simp; omega, fun h0 => ⟨a, rfl, ?_, fun j u hu => ?_⟩⟩, by simp only [maxLen] at hm; omega⟩
    · have := World.block_lt_of_cell? w _ (hcell 0 (by omega)); rwa [block_of_add] at this
    · rw [List.getElem?_take] at hu
      split at hu
      · rw [hcell j (by omega)]; simp [List.getD, hu]
      · cases hu
end
end Go.Proofs.YtgpmngcemnnpmaaDoor

namespace Go.Proofs.YtgpmngcemnnpmaaDoor
open Go.RowKit Go.ChangeShapes Go.WideShapes Go.ChangeAt
section
variable {H : Type} {enc : TypeId × Value → H} {w : World} {base : Nat} {spare : Nat → Bool} {held : Bool} {fuel : Nat} {cs : List Value} {x : DataW H × List MemPlace}
theorem cellsStr : Tryd.prog.cellsOf 9 = 1 := by kernel_rfl
theorem rd_strings (h : DataW.trod enc Tryd.prog w base spare held fuel 57 cs = some x) : ∃ A n c ss, cs = [.slice A n c] ∧ RL StrM 1 w A n ss ∧ n ≤ 9223372036854775807 ∧ ∀ s ∈ ss, s.size ≤ 9223372036854775807 := by
  rcases open_strings Tryd.underlying57 Tryd.underlying9 cellsStr h with ⟨rfl, _⟩ | ⟨a, len, cap, ss, rfl, _, hl, hm, hz, _, hcell, hsz⟩
  · exact ⟨none, 0, 0, [], rfl, ⟨rfl, fun h => absurd h (by omega)⟩, by omega, fun s hs => by cases hs⟩
  · have hlen : len ≤ ss.length := by rw [hz]; split <;> omega
    refine ⟨some a, len, cap, ss.take len, rfl, ⟨by simp; omega, fun h0 => ⟨a, rfl, ?_, fun k hk => ?_⟩⟩, by simp only [maxLen] at hm; omega, fun s hs => ?_⟩
    · have := World.block_lt_of_cell? w _ (hcell 0 (by omega)); rwa [block_of_add] at this
    · have hk' : k < len := by simp at hk; omega
      have h1 := hcell k (by omega)
      unfold StrM
      rw [Nat.mul_one, h1, List.getD_eq_getElem?_getD, List.getElem?_eq_getElem (by omega), List.getElem_take]; rfl
    · have := hsz s (List.mem_of_mem_take hs)
      simp only [maxLen] at this; omega
end
end Go.Proofs.YtgpmngcemnnpmaaDoor
