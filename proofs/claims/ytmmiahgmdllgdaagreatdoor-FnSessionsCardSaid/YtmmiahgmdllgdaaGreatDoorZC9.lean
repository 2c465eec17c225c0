/- Part 9: lemmas and contracts of the claim's functions. -/
import Derived.Test.YtmmiahgmdllgdaaGreatDoorZC1
import Derived.Test.YtmmiahgmdllgdaaGreatDoorZC2
import Derived.Test.YtmmiahgmdllgdaaGreatDoorZC3
import Derived.Test.YtmmiahgmdllgdaaGreatDoorZC4
import Derived.Test.YtmmiahgmdllgdaaGreatDoorZC5
import Derived.Test.YtmmiahgmdllgdaaGreatDoorZC6
import Derived.Test.YtmmiahgmdllgdaaGreatDoorZC7
import Derived.Test.YtmmiahgmdllgdaaGreatDoorZC8
namespace Go.Proofs.YtmmiahgmdllgdaaGreatDoor
open Go.RowKit Go.Sort
theorem shoL_len (ss : List ByteArray) : (shoL ss).length ≤ 100 := by
  unfold shoL
  split
  · rename_i h
    have h1 := (wholeC_ok h).1
    rw [List.length_map] at h1 ⊢
    exact Nat.le_trans (keptU_len _ _ _) h1
  · simp
def cellsK (K : List Kept) : List Value := K.flatMap fun x => [.int .i64 (x.at_ : Int), .string x.text]
theorem cellsK_len (K : List Kept) : (cellsK K).length = K.length * 2 := by
  induction K with
  | nil => rfl
  | cons x K ih => unfold cellsK at *; rw [List.flatMap_cons, List.length_append, ih]; simp; omega
theorem cellsK_app (K L : List Kept) : cellsK (K ++ L) = cellsK K ++ cellsK L := by unfold cellsK; rw [List.flatMap_append]
theorem cellsK_get : ∀ (K : List Kept) (k : Nat) (x : Kept), K[k]? = some x → (cellsK K)[k * 2]? = some (.int .i64 (x.at_ : Int)) ∧ (cellsK K)[k * 2 + 1]? = some (.string x.text)
  | [], k, x, h => by simp at h
  | y :: K, 0, x, h => by
    have h : y = x := by simpa using h
    subst h
    simp [cellsK]
  | y :: K, k + 1, x, h => by
    have h1 := cellsK_get K k x (by simpa using h)
    have h2 : cellsK (y :: K) = .int .i64 (y.at_ : Int) :: .string y.text :: cellsK K := by simp [cellsK]
    rw [h2, show (k + 1) * 2 = k * 2 + 1 + 1 by omega]
    simp only [List.getElem?_cons_succ]
    exact h1
theorem mem_take_succ {bel : List Int} {k : Nat} (h : k < bel.length) (j : Int) : (j ∈ bel.take (k + 1)) ↔ (j ∈ bel.take k ∨ j = bel[k]) := by
  rw [List.take_succ_eq_append_getElem h, List.mem_append, List.mem_singleton]
theorem tpK : TP 100 102 (.agg #[.int .i64 0, .string ⟨#[]⟩]) 2 24 := ⟨Tryz.underlying100, by kernel_rfl, rfl, by decide⟩
set_option maxRecDepth 100000 in
set_option maxHeartbeats 6400000 in
theorem ShortSession_any (A : Option Addr) (n c : Nat) (ss : List ByteArray) (w : World) (hr : RL StrM 1 w A n ss) (hsz : ∀ s ∈ ss, s.size ≤ 1048576) (ht : TB w) :
    Calls Tryz.prog 18 #[.slice A n c] w (SCRet (shoL ss) (wholeC (ss.map strB)) w) := by
  have KW := (wholeSession_any A n c ss w hr hsz ht)
  have hl := hr.1
  have HR := Lib.hid (fun W (hW : Below w.heap.size w W) => hr.below steady_StrM hW)
  unfold WholeI at KW
  clear hr hsz ht
  by_cases hC : wholeC (ss.map strB) = 0
  rotate_left
  · have e2 : shoL ss = [] := by unfold shoL; rw [if_neg hC]
    rw [e2]
    obtain ⟨C, hCC⟩ : ∃ C, wholeC (ss.map strB) = C := ⟨_, rfl⟩
    rw [hCC] at KW hC ⊢
    replace KW := Lib.hid KW
    have HC := Lib.hid hC
    clear e2 hCC
    have hcb : (C == 0) = false := by simpa using hC
    have hcb2 : (C != 0) = true := by simpa using hC
    clear hC
    go_enter Tryz.func18, Tryz.ntmps18
    go_wp2_with fail
    refine KW.out.mono ?_; rintro e w1 (⟨h0, -⟩ | ⟨-, rfl, hw⟩)
    · exact absurd h0 HC.out
    go_wp2_with fail
    go_ret2
    exact SCRet.none hw
  · have h100 := (wholeC_ok hC).1
    rw [List.length_map] at h100
    have e2 : shoL ss = (keptU (runS (ss.map strB)).1.bel ss n).map Kept.text := by unfold shoL; rw [if_pos hC, hl]
    rw [e2]
    have hrb := runS_bel (ss.map strB)
    rw [hC] at KW ⊢
    have hn : n ≤ 100 := by omega
    obtain ⟨s, hs⟩ : ∃ s, (runS (ss.map strB)).1 = s := ⟨_, rfl⟩
    rw [hs] at KW hrb ⊢
    have hgood := (runS_good (wholeC_ok hC).2).bel
    rw [hs, List.length_map] at hgood
    rw [List.length_map] at hrb
    obtain ⟨bel, hbel⟩ : ∃ b, s.bel = b := ⟨_, rfl⟩
    rw [hbel] at hgood hrb ⊢
    have hbl : bel.length ≤ 100 := by omega
    have HRB := Lib.hid (fun j (h : j ∈ bel) => (show -9223372036854775808 ≤ j ∧ j ≤ 9223372036854775807 by have := hrb j h; omega))
    replace KW := Lib.hid KW
    have HL := Lib.hid hl
    have HKU := Lib.hid (fun k => (show keptU bel ss (k + 1) = stepKp bel (keptU bel ss k) k (ss.getD k ByteArray.empty) from rfl))
    have HKN := Lib.hid (fun k => keptU_len bel ss k)
    have HKA := Lib.hid (fun k => keptU_at bel ss k)
    obtain ⟨F, hF⟩ : ∃ F, keptU bel ss n = F := ⟨_, rfl⟩
    rw [hF]
    have HF := Lib.hid hF
    clear hs hC hl e2 h100 hgood hF hrb
    have hmm := @run_makeMap Tryz.prog
    go_enter Tryz.func18, Tryz.ntmps18
    go_wp2_with fail
    refine KW.out.mono ?_; rintro e w1 (⟨-, g, rfl, hS⟩ | ⟨h0, -⟩)
    rotate_left
    · exact absurd rfl h0
    obtain ⟨U1, u1, U2, u2, U3, u3, A1, c1, A2, c2, A3, c3, SA, sc, BA, bc, m, hK, -, -⟩ := hS
    have K1 : Kn w [.blk g [.int .i64 s.start.a.base, .slice U1 s.start.a.digits.length u1, .int .i64 s.start.b.base, .slice U2 s.start.b.digits.length u2, .int .i64 s.start.s.base, .slice U3 s.start.s.digits.length u3, .int .i64 s.start.carry, .int .i64 s.m.a.base, .slice A1 s.m.a.digits.length c1, .int .i64 s.m.b.base, .slice A2 s.m.b.digits.length c2, .int .i64 s.m.s.base, .slice A3 s.m.s.digits.length c3, .int .i64 s.m.carry, .slice SA s.str.length sc, .slice BA s.bel.length bc, .bool s.ended] 86, rowI BA bc s.bel] w1 := hK.only (List.Sublist.cons_cons _ (List.Sublist.cons _ (List.Sublist.cons_cons _ (List.nil_sublist _))))
    rw [hbel] at K1
    obtain ⟨CS, hCS⟩ : ∃ CS, ([.int .i64 s.start.a.base, .slice U1 s.start.a.digits.length u1, .int .i64 s.start.b.base, .slice U2 s.start.b.digits.length u2, .int .i64 s.start.s.base, .slice U3 s.start.s.digits.length u3, .int .i64 s.start.carry, .int .i64 s.m.a.base, .slice A1 s.m.a.digits.length c1, .int .i64 s.m.b.base, .slice A2 s.m.b.digits.length c2, .int .i64 s.m.s.base, .slice A3 s.m.s.digits.length c3, .int .i64 s.m.carry, .slice SA s.str.length sc, .slice BA s.bel.length bc, .bool s.ended] : List Value) = CS := ⟨_, rfl⟩
    have hb15 : CS[15]? = some (.slice BA bel.length bc) := by rw [← hCS, ← hbel]; rfl
    rw [hbel] at hCS
    rw [hCS] at K1
    have HB15 := Lib.hid hb15
    clear hK hCS hbel hb15 KW
    go_upto_region 5 with fail
    obtain ⟨gm, hgm⟩ : ∃ g, w1.heap.size = g := ⟨_, rfl⟩
    have K2 := K1.mkB
    rw [hgm] at K2
    try rw [hgm]
    refine Code.wp.kn K2 ?_; clear K1 K2 hmm hgm; intro w2 K2
    have c15 := ((K2.front 1 rfl).blkAt.1 15).trans HB15.out
    have g15 := (K2.front 1 rfl).blkAt.2.2
    go_wp2_with fail
    clear c15 g15
    go_loopw [31] (fun ii wr => ∃ (k : Nat) (f : Int → Bool), k ≤ bel.length ∧ ii = .int .i64 (k : Int) ∧ Hid (∀ j, f j = decide (j ∈ bel.take k)) ∧ Kn w [entMB gm k f, .blk g CS 86, rowI BA bc bel] wr) (fun ii _ => bel.length - (intOf ii).toNat)
    case atStart => exact ⟨0, _, Nat.zero_le _, rfl, Lib.hid (fun j => by simp), K2⟩
    case round =>
      clear K2
      obtain ⟨k, f, hk, rfl, HFE, KR⟩ := hrel
      by_cases hkb : k < bel.length
      · have i1 : (k : Int) < (bel.length : Int) := by omega
        have i0 : (0 : Int) ≤ (k : Int) := by omega
        obtain ⟨ad, hA, hlt, hkx, hcx⟩ := (KR.front 2 rfl).riv.at_ hkb
        have hwf := WalkArith.wf_i64 (HRB.out bel[k] (List.getElem_mem hkx))
        have hfe := (fun j => show (if j = bel[k] then true else f j) = decide (j ∈ bel.take (k + 1)) by
          rw [HFE.out j]
          by_cases e : j = bel[k]
          · rw [if_pos e, decide_eq_true ((mem_take_succ hkx j).2 (.inr e))]
          · rw [if_neg e]
            exact decide_eq_decide.2 ⟨fun h => (mem_take_succ hkx j).2 (.inl h), fun h => ((mem_take_succ hkx j).1 h).resolve_right e⟩)
        obtain ⟨x, hx⟩ : ∃ x, bel[k] = x := ⟨_, rfl⟩
        rw [hx] at hcx hwf
        simp only [hx] at hfe
        have HWF := Lib.hid hwf
        have HFE2 := Lib.hid hfe
        subst hA
        clear hx hkx hwf hfe
        go_wp2_with (at_mapUpdate; refine kn_putB rfl _ _ _ rfl rfl KR (by omega) rfl HWF.out rfl ?_; intro w5 K5)
        go_roundw
        case rel => exact ⟨k + 1, _, by omega, by go_num, HFE2, K5⟩
        case measure => simp [intOf] <;> omega
      · have i1 : ¬ (k : Int) < (bel.length : Int) := by omega
        obtain rfl : k = bel.length := by omega
        have HFB := Lib.hid (fun j => (show f j = decide (j ∈ bel) by have h := HFE.out j; rw [List.take_length] at h; exact h))
        have HLOOK := Lib.hid (fun W (j : Nat) (hj : j ≤ 1000) (v : Bool) (hv : decide ((j : Int) ∈ bel) = v) {m : List Ent} (h : Kn w (entMB gm bel.length f :: m) W) => (show (Instr.lookup 99 (.map (some gm)) (.int .i64 (j : Int)) false).run Tryz.prog W = .ok (.bool v) W by
          rw [h.lookB (WalkArith.wf_i64 (by omega)), HFB.out, hv]))
        obtain ⟨wo, hwo⟩ : ∃ wo : World, wo = wr := ⟨_, rfl⟩
        subst hwo
        go_upto_region 11 with fail
        have K3 : Kn w [.row (.slice (some ⟨wo.heap.size, 0, none⟩) 0 0) 102 2 0 (cellsK []), entMB gm bel.length f] _ := (((KR.al [] 102).litRow (size := 2) (n := 0) rfl (by decide))).sel [0, 1] 99 (by decide) (by decide)
        refine Code.wp.kn K3 ?_; clear KR K3 HFE; intro w3 K3
        go_wp2_with fail
        go_loopw [9, 41] (fun oo ii wr => ∃ (k p : Nat) (K : List Kept) (vo : Value), k ≤ n ∧ ii = .int .i64 (k : Int) ∧ oo = vo ∧ Hid (K.length = p) ∧ Hid (K = keptU bel ss k) ∧ Kn w [.row vo 102 2 p (cellsK K), entMB gm bel.length f] wr) (fun _ ii _ => n - (intOf ii).toNat)
        case atStart => exact ⟨0, 0, [], _, Nat.zero_le _, rfl, rfl, Lib.hid rfl, Lib.hid rfl, K3⟩
        case round =>
          clear K3 i1 hk hkb
          obtain ⟨k, p, K, vo, hk, rfl, rfl, HKL, HK, KR⟩ := hrel
          have HP := Lib.hid (show p ≤ 100 by have h := HKN.out k; rw [← HK.out, HKL.out] at h; omega)
          obtain ⟨Ao, ao, rfl⟩ := row_form KR.at0
          by_cases hkn : k < n
          · have i1 : (k : Int) < (n : Int) := by omega
            have i0 : (0 : Int) ≤ (k : Int) := by omega
            obtain ⟨adL, hAL, hltL, hkx, hcL⟩ := (HR.out _ KR.below).at_ hkn
            have hku := HKU.out k
            rw [← HK.out, List.getD_eq_getElem?_getD, List.getElem?_eq_getElem hkx, Option.getD_some] at hku
            obtain ⟨L, hLL⟩ : ∃ L, ss[k] = L := ⟨_, rfl⟩
            rw [hLL] at hcL hku
            unfold StrM at hcL
            rw [Nat.mul_one] at hcL
            obtain ⟨be, hbe⟩ : ∃ b, decide ((k : Int) ∈ bel) = b := ⟨_, rfl⟩
            have HBE := Lib.hid hbe
            have HST0 := Lib.hid hku
            subst hAL
            clear hLL hku hkx hbe
            obtain ⟨g12, hg⟩ : ∃ g, wr.heap.size = g := ⟨_, rfl⟩
            go_upto_region 15 with fail
            refine Code.wp.kn (KR.al [.int .i64 (k : Int), .string L] 102) ?_; clear KR hcL; intro w4 K4
            rw [hg] at K4
            try rw [hg]
            clear hg
            obtain ⟨a1, a2, a3, -⟩ := K4.cells
            rcases Nat.eq_zero_or_pos p with hp0 | hp0
            · have hK0 : K = [] := List.length_eq_zero_iff.1 (by rw [HKL.out]; exact hp0)
              have HST := Lib.hid (show keptU bel ss (k + 1) = K ++ [⟨k, L⟩] by rw [HST0.out, stepKp_push (by rw [hK0]; exact lastUndo_nil _ _ _)])
              have p2 : IntKind.i64.wrap ((p : Int) - 1) = -1 := by rw [wrapI64 (by omega)]; omega
              clear hK0 hp0
              go_wp2_with (at_builtin; refine kn_app tpK rfl _ _ rfl _ p (cellsK K) rfl rfl (((K4).front 1 rfl).al [.int .i64 (k : Int), .string L] 102) rfl (by simp [Value.oneCell']) (by have := HP.out; omega) (by have := HP.out; omega) ?_; intro v6 w6 K6)
              go_roundw
              case rel => exact ⟨k + 1, p + 1, _, _, by omega, by go_num, rfl, Lib.hid (by rw [HST.out, List.length_append, HKL.out]; rfl), Lib.hid rfl, by rw [HST.out, cellsK_app]; exact K6.sel [0, 2] 99 (by decide) (by decide)⟩
              case measure => simp [intOf] <;> omega
            · obtain ⟨q, hq⟩ : ∃ q, p = q + 1 := ⟨p - 1, by omega⟩
              obtain ⟨Ks, kk, hKs⟩ : ∃ Ks kk, K = Ks ++ [kk] := ⟨K.dropLast, K.getLast (by intro h; have := HKL.out; rw [h] at this; simp at this; omega), (List.dropLast_concat_getLast _).symm⟩
              have hql : Ks.length = q := by have h := HKL.out; rw [hKs, List.length_append, List.length_singleton] at h; omega
              have hat := HKA.out k kk (by rw [← HK.out, hKs]; simp)
              obtain ⟨go, o1, hE⟩ := Kn.rowForm (K4.front 1 rfl) hp0
              injection hE with hE hE2 hE3
              subst hE hE3
              have p2 : IntKind.i64.wrap ((p : Int) - 1) = (q : Int) := by have := HP.out; rw [wrapI64 (by omega)]; omega
              have p3 : (0 : Int) ≤ (q : Int) := by omega
              have p4 : (q : Int) < (p : Int) := by omega
              have hlu := lastUndo_snoc bel Ks kk k L
              rw [← hKs] at hlu
              have hgk := cellsK_get K q kk (by rw [hKs, ← hql]; simp)
              obtain ⟨T, hT⟩ : ∃ T, kk.text = T := ⟨_, rfl⟩
              obtain ⟨rg, hrg⟩ : ∃ r, decide ((kk.at_ : Int) ∈ bel) = r := ⟨_, rfl⟩
              have KU := (fun W => undoes_any T L W)
              obtain ⟨u, hu⟩ : ∃ u, undoB (strB T) (strB L) = u := ⟨_, rfl⟩
              rw [hu] at KU
              rw [hT, hrg, HBE.out, hu] at hlu
              rw [hT] at hgk
              obtain ⟨x0, -⟩ := Kn.rowCell (K4.front 1 rfl) (j := q * 2 + 1) (u := .string T) hgk.2
              obtain ⟨x1, -⟩ := Kn.rowCell (K4.front 1 rfl) (j := q * 2) (u := .int .i64 (kk.at_ : Int)) hgk.1
              have HCA := Lib.hid hgk.1
              have HRG := Lib.hid hrg
              have HAT := Lib.hid (show kk.at_ ≤ 1000 by omega)
              replace KU := Lib.hid KU
              have HLU := Lib.hid hlu
              have HKs := Lib.hid hKs
              have HQL := Lib.hid hql
              have HQ := Lib.hid hq
              clear hT hrg hu hlu hKs hql hq hp0 hgk hat
              cases u with
              | false =>
                have HST := Lib.hid (show keptU bel ss (k + 1) = K ++ [⟨k, L⟩] by rw [HST0.out, stepKp_push (by rw [HLU.out]; simp)])
                go_upto_region 18 with (go_at_call 74; (refine (KU.out _).mono ?_); rintro e w5 ⟨rfl, hw⟩; have K5 := K4.keep hw; clear hw x0 x1; obtain ⟨a1, a2, a3, -⟩ := K5.cells; obtain ⟨y1, -⟩ := Kn.rowCell (K5.front 1 rfl) (j := q * 2) (u := .int .i64 (kk.at_ : Int)) HCA.out; have l1 := HLOOK.out _ kk.at_ HAT.out rg HRG.out (K5.front 2 rfl); have l2 := HLOOK.out _ k (by omega) be HBE.out (K5.front 2 rfl))
                go_wp2_with (at_builtin; refine kn_app tpK rfl _ _ rfl _ p (cellsK K) rfl rfl (((K5).front 1 rfl).al [.int .i64 (k : Int), .string L] 102) rfl (by simp [Value.oneCell']) (by have := HP.out; omega) (by have := HP.out; omega) ?_; intro v6 w6 K6)
                go_roundw
                case rel => exact ⟨k + 1, p + 1, _, _, by omega, by go_num, rfl, Lib.hid (by rw [HST.out, List.length_append, HKL.out]; rfl), Lib.hid rfl, by rw [HST.out, cellsK_app]; exact K6.sel [0, 2] 99 (by decide) (by decide)⟩
                case measure => simp [intOf] <;> omega
              | true =>
                cases rg with
                | true =>
                  have HST := Lib.hid (show keptU bel ss (k + 1) = K ++ [⟨k, L⟩] by rw [HST0.out, stepKp_push (by rw [HLU.out]; simp)])
                  go_upto_region 18 with (go_at_call 74; (refine (KU.out _).mono ?_); rintro e w5 ⟨rfl, hw⟩; have K5 := K4.keep hw; clear hw x0 x1; obtain ⟨a1, a2, a3, -⟩ := K5.cells; obtain ⟨y1, -⟩ := Kn.rowCell (K5.front 1 rfl) (j := q * 2) (u := .int .i64 (kk.at_ : Int)) HCA.out; have l1 := HLOOK.out _ kk.at_ HAT.out true HRG.out (K5.front 2 rfl); have l2 := HLOOK.out _ k (by omega) be HBE.out (K5.front 2 rfl))
                  go_wp2_with (at_builtin; refine kn_app tpK rfl _ _ rfl _ p (cellsK K) rfl rfl (((K5).front 1 rfl).al [.int .i64 (k : Int), .string L] 102) rfl (by simp [Value.oneCell']) (by have := HP.out; omega) (by have := HP.out; omega) ?_; intro v6 w6 K6)
                  go_roundw
                  case rel => exact ⟨k + 1, p + 1, _, _, by omega, by go_num, rfl, Lib.hid (by rw [HST.out, List.length_append, HKL.out]; rfl), Lib.hid rfl, by rw [HST.out, cellsK_app]; exact K6.sel [0, 2] 99 (by decide) (by decide)⟩
                  case measure => simp [intOf] <;> omega
                | false =>
                  cases be with
                  | true =>
                    have HST := Lib.hid (show keptU bel ss (k + 1) = K ++ [⟨k, L⟩] by rw [HST0.out, stepKp_push (by rw [HLU.out]; simp)])
                    go_upto_region 18 with (go_at_call 74; (refine (KU.out _).mono ?_); rintro e w5 ⟨rfl, hw⟩; have K5 := K4.keep hw; clear hw x0 x1; obtain ⟨a1, a2, a3, -⟩ := K5.cells; obtain ⟨y1, -⟩ := Kn.rowCell (K5.front 1 rfl) (j := q * 2) (u := .int .i64 (kk.at_ : Int)) HCA.out; have l1 := HLOOK.out _ kk.at_ HAT.out false HRG.out (K5.front 2 rfl); have l2 := HLOOK.out _ k (by omega) true HBE.out (K5.front 2 rfl))
                    go_wp2_with (at_builtin; refine kn_app tpK rfl _ _ rfl _ p (cellsK K) rfl rfl (((K5).front 1 rfl).al [.int .i64 (k : Int), .string L] 102) rfl (by simp [Value.oneCell']) (by have := HP.out; omega) (by have := HP.out; omega) ?_; intro v6 w6 K6)
                    go_roundw
                    case rel => exact ⟨k + 1, p + 1, _, _, by omega, by go_num, rfl, Lib.hid (by rw [HST.out, List.length_append, HKL.out]; rfl), Lib.hid rfl, by rw [HST.out, cellsK_app]; exact K6.sel [0, 2] 99 (by decide) (by decide)⟩
                    case measure => simp [intOf] <;> omega
                  | false =>
                    have HST := Lib.hid (show keptU bel ss (k + 1) = Ks by rw [HST0.out, HKs.out, stepKp_pop (by rw [← HKs.out, HLU.out]; rfl)])
                    go_upto_region 17 with (go_at_call 74; (refine (KU.out _).mono ?_); rintro e w5 ⟨rfl, hw⟩; have K5 := K4.keep hw; clear hw x0 x1; obtain ⟨a1, a2, a3, -⟩ := K5.cells; obtain ⟨y1, -⟩ := Kn.rowCell (K5.front 1 rfl) (j := q * 2) (u := .int .i64 (kk.at_ : Int)) HCA.out; have l1 := HLOOK.out _ kk.at_ HAT.out false HRG.out (K5.front 2 rfl); have l2 := HLOOK.out _ k (by omega) false HBE.out (K5.front 2 rfl))
                    have hc1 := Kn.capG (K5.front 1 rfl)
                    have s1 : (q : Int) ≤ (ao : Int) := by omega
                    have K6 := (Kn.prefixG (K5.front 1 rfl) (j := q) (by have := HQ.out; omega)).sel [0, 2] 99 (by decide) (by decide)
                    have HT1 := Lib.hid (show (cellsK K).take (q * 2) = cellsK Ks by rw [HKs.out, cellsK_app, List.take_append_of_le_length (by rw [cellsK_len, HQL.out]; exact Nat.le_refl _), List.take_of_length_le (by rw [cellsK_len, HQL.out]; exact Nat.le_refl _)])
                    rw [HT1.out] at K6
                    clear hc1
                    go_wp2_with fail
                    go_roundw
                    case rel => exact ⟨k + 1, q, Ks, _, by omega, by go_num, rfl, HQL, Lib.hid HST.out.symm, K6⟩
                    case measure => simp [intOf] <;> omega
          · have i1 : ¬ (k : Int) < (n : Int) := by omega
            obtain rfl : k = n := by omega
            have hKF : K = F := HK.out.trans HF.out
            subst hKF
            clear HLOOK HK HF HR HKU HKN HKA
            obtain ⟨wo, hwo⟩ : ∃ wo : World, wo = wr := ⟨_, rfl⟩
            subst hwo
            go_upto_region 21 with fail
            have K3 : Kn w [.row (.slice (some ⟨wo.heap.size, 0, none⟩) 0 0) 9 1 0 (((K.take 0).map Kept.text).map Value.string), .row (.slice Ao p ao) 102 2 p (cellsK K)] _ := (((KR.al [] 9).litRow (size := 1) (n := 0) rfl (by decide))).sel [0, 1] 99 (by decide) (by decide)
            refine Code.wp.kn K3 ?_; clear KR K3; intro w3 K3
            go_wp2_with fail
            go_loopw [14, 91] (fun oo ii wr => ∃ (j : Nat) (vo : Value), j ≤ p ∧ ii = .int .i64 (j : Int) ∧ oo = vo ∧ Kn w [.row vo 9 1 j (((K.take j).map Kept.text).map Value.string), .row (.slice Ao p ao) 102 2 p (cellsK K)] wr) (fun _ ii _ => p - (intOf ii).toNat)
            case atStart => exact ⟨0, _, Nat.zero_le _, rfl, rfl, K3⟩
            case round =>
              clear K3
              obtain ⟨j, vo, hj, rfl, rfl, KR⟩ := hrel
              obtain ⟨Bo, bo, rfl⟩ := row_form KR.at0
              have hp100 := HP.out
              by_cases hjp : j < p
              · have i1 : (j : Int) < (p : Int) := by omega
                have i0 : (0 : Int) ≤ (j : Int) := by omega
                have hjK : j < K.length := by rw [HKL.out]; exact hjp
                have hgk := cellsK_get K j K[j] (List.getElem?_eq_getElem hjK)
                have htk : ((K.take (j + 1)).map Kept.text).map Value.string = ((K.take j).map Kept.text).map Value.string ++ [Value.string K[j].text] := by rw [List.take_succ_eq_append_getElem hjK, List.map_append, List.map_append]; rfl
                obtain ⟨⟨z, T⟩, hx⟩ : ∃ x, K[j] = x := ⟨_, rfl⟩
                rw [hx] at hgk htk
                dsimp only at hgk htk
                obtain ⟨go, o1, hE⟩ := Kn.rowForm (KR.front 1 rfl) (by omega)
                injection hE with hE hE2 hE3
                subst hE hE3
                obtain ⟨x0, -⟩ := Kn.rowCell (KR.front 1 rfl) (j := j * 2) (u := .int .i64 (z : Int)) hgk.1
                obtain ⟨x1, -⟩ := Kn.rowCell (KR.front 1 rfl) (j := j * 2 + 1) (u := .string T) hgk.2
                have HTK := Lib.hid htk
                clear hx htk hgk hjK
                obtain ⟨g16, hg⟩ : ∃ g, wr.heap.size = g := ⟨_, rfl⟩
                go_upto_region 24 with fail
                refine Code.wp.kn (KR.al [.int .i64 (z : Int), .string T] 102) ?_; clear KR x0 x1; intro w4 K4
                rw [hg] at K4
                try rw [hg]
                clear hg
                obtain ⟨a1, a2, a3, -⟩ := K4.cells
                go_wp2_with (at_builtin; refine kn_app tpS rfl _ _ rfl _ j _ rfl rfl ((K4.front 1 rfl).al [.string T] 9) rfl (by simp [Value.oneCell']) (by have := HP.out; omega) (by have := HP.out; omega) ?_; intro v6 w6 K6)
                go_roundw
                case rel => exact ⟨j + 1, _, by omega, by go_num, rfl, by rw [HTK.out]; exact K6.sel [0, 2] 99 (by decide) (by decide)⟩
                case measure => simp [intOf] <;> omega
              · have i1 : ¬ (j : Int) < (p : Int) := by omega
                obtain rfl : j = p := by omega
                rw [List.take_of_length_le (by rw [HKL.out]; exact Nat.le_refl _)] at KR
                go_wp2_with fail
                go_ret2
                refine ⟨Bo, bo, ?_, ?_⟩
                · rw [List.length_map, HKL.out]; rfl
                · unfold rowT rowSN
                  rw [List.length_map, HKL.out]
                  exact KR.sel [0] 99 (by decide) (by decide)
end Go.Proofs.YtmmiahgmdllgdaaGreatDoor

namespace Go.Proofs.YtmmiahgmdllgdaaGreatDoor
open Go.RowKit Go.Sort
def lftT (left : Int) (t : Tri) : Int := lft3 left t.a.digits.length t.b.digits.length t.s.digits.length
def lftS : Int → List Tri → Int
  | left, [] => left
  | left, t :: ts => if lftT left t < 0 then -1 else lftS (lftT left t) ts
def szS (left : Int) (ts : List Tri) : Int := if left - ts.length < 0 then -1 else lftS (left - ts.length) ts
theorem lftT_bd (left : Int) (t : Tri) (h : -1 ≤ left) : -1 ≤ lftT left t ∧ lftT left t ≤ left := by
  unfold lftT lft3
  have b1 := lft_bd left t.a.digits.length h (by omega)
  have b2 := lft_bd _ t.b.digits.length b1.1 (by omega)
  have b3 := lft_bd _ t.s.digits.length b2.1 (by omega)
  split
  · omega
  · split <;> omega
theorem lftT_small {left : Int} {t : Tri} (hl : left ≤ 1048576) (h0 : -1 ≤ left) (h : ¬ lftT left t < 0) : t.a.digits.length ≤ 1048576 ∧ t.b.digits.length ≤ 1048576 ∧ t.s.digits.length ≤ 1048576 := by
  unfold lftT lft3 at h
  split at h
  · omega
  · rename_i k1
    split at h
    · omega
    · rename_i k2
      have b1 := lft_bd left t.a.digits.length h0 (by omega)
      have b2 := lft_bd _ t.b.digits.length b1.1 (by omega)
      unfold lft at h k1 k2 b1 b2
      refine ⟨?_, ?_, ?_⟩
      · split at k1 <;> omega
      · split at k2 <;> split at k2 <;> omega
      · split at h <;> split at h <;> split at h <;> omega
theorem lftS_small : ∀ (ts : List Tri) (left : Int), 0 ≤ left → left ≤ 1048576 → ¬ lftS left ts < 0 → ∀ t ∈ ts, t.a.digits.length ≤ 1048576 ∧ t.b.digits.length ≤ 1048576 ∧ t.s.digits.length ≤ 1048576
  | [], _, _, _, _ => fun t h => by cases h
  | t :: ts, left, h0, hl, h => by
    unfold lftS at h
    split at h
    · omega
    · rename_i k1
      have hb := lftT_bd left t (by omega)
      intro u hu
      rcases List.mem_cons.1 hu with rfl | hu
      · exact lftT_small hl (by omega) k1
      · exact lftS_small ts (lftT left t) (by omega) (by omega) h u hu
theorem szS_small {ts : List Tri} (h : ¬ szS 1048576 ts < 0) : ts.length ≤ 1048576 ∧ ∀ t ∈ ts, t.a.digits.length ≤ 1048576 ∧ t.b.digits.length ≤ 1048576 ∧ t.s.digits.length ≤ 1048576 := by
  unfold szS at h
  split at h
  · omega
  · exact ⟨by omega, lftS_small ts _ (by omega) (by omega) h⟩
theorem smallTri_of {t : Tri} (h : t.a.digits.length ≤ 1048576 ∧ t.b.digits.length ≤ 1048576 ∧ t.s.digits.length ≤ 1048576) : SmallTri t := by
  unfold SmallTri SmallReg; omega
end Go.Proofs.YtmmiahgmdllgdaaGreatDoor

namespace Go.Proofs.YtmmiahgmdllgdaaGreatDoor
open Go.RowKit Go.Sort
theorem ownI_ri {w : World} {base n c : Nat} {A : Option Addr} {ds : List Int} (h : OwnI w base (.slice A n c) ds) : RI w A n ds := by
  obtain ⟨A', c', h1, h2, -⟩ := h.reads
  injection h1 with h1 h3 h4
  rw [h1, h3]; exact h2
theorem row_below {w w' : World} {base : Nat} {e : TypeId} {size : Nat} {v : Value} {n : Nat} {xs : List Value} (h : w.ownsRow base e size v n xs) (hb : Below w.heap.size w w') : w'.ownsRow base e size v n xs := by
  refine ⟨h.1, ?_⟩
  rcases h.2 with hn | ⟨g, cap, cur, rfl, hbg, hg, rest⟩
  · exact .inl hn
  · exact .inr ⟨g, cap, cur, rfl, hbg, by rw [hb.block g (Array.getElem?_eq_some_iff.1 hg).1]; exact hg, rest⟩
/-- trial i in the cells xs of an own row, its digits in own rows from block b on -/
def TriX (w : World) (b : Nat) (xs : List Value) (i : Nat) (t : Tri) : Prop := ∃ X1 x1 X2 x2 X3 x3, (xs[i * 7]? = some (.int .i64 t.a.base) ∧ xs[i * 7 + 1]? = some (.slice X1 t.a.digits.length x1) ∧ xs[i * 7 + 2]? = some (.int .i64 t.b.base) ∧ xs[i * 7 + 3]? = some (.slice X2 t.b.digits.length x2) ∧
    xs[i * 7 + 4]? = some (.int .i64 t.s.base) ∧ xs[i * 7 + 5]? = some (.slice X3 t.s.digits.length x3) ∧ xs[i * 7 + 6]? = some (.int .i64 t.carry)) ∧ OwnI w b (.slice X1 t.a.digits.length x1) t.a.digits ∧ OwnI w b (.slice X2 t.b.digits.length x2) t.b.digits ∧ OwnI w b (.slice X3 t.s.digits.length x3) t.s.digits
theorem TriX.below {w w' : World} {b : Nat} {xs : List Value} {i : Nat} {t : Tri} (h : TriX w b xs i t) (hb : Below w.heap.size w w') : TriX w' b xs i t := by
  obtain ⟨X1, x1, X2, x2, X3, x3, h1, h2, h3, h4⟩ := h
  exact ⟨X1, x1, X2, x2, X3, x3, h1, h2.below hb, h3.below hb, h4.below hb⟩
theorem TriX.setBelow {w : World} {b : Nat} {xs : List Value} {i : Nat} {t : Tri} (h : TriX w b xs i t) {a : Addr} (ha : a.block < b) (u : Value) : TriX (w.setCell a u) b xs i t := by
  obtain ⟨X1, x1, X2, x2, X3, x3, h1, h2, h3, h4⟩ := h
  exact ⟨X1, x1, X2, x2, X3, x3, h1, h2.setBelow ha u, h3.setBelow ha u, h4.setBelow ha u⟩
theorem row7 {w : World} {g n k : Nat} {T : TypeId} {xs : List Value} (h : w.ownsRow g T 7 (.slice (some ⟨g, 0, none⟩) n n) n xs) (hk : k < n) :
    (∃ u, w.cell? ⟨g, k * 7, none⟩ = some u) ∧ (∃ u, w.cell? ⟨g, k * 7 + 1, none⟩ = some u) ∧ (∃ u, w.cell? ⟨g, k * 7 + 2, none⟩ = some u) ∧ (∃ u, w.cell? ⟨g, k * 7 + 3, none⟩ = some u) ∧ (∃ u, w.cell? ⟨g, k * 7 + 4, none⟩ = some u) ∧ (∃ u, w.cell? ⟨g, k * 7 + 5, none⟩ = some u) ∧ (∃ u, w.cell? ⟨g, k * 7 + 6, none⟩ = some u) := by
  have hl := h.1
  have H : ∀ j, j < n * 7 → ∃ u, w.cell? ⟨g, j, none⟩ = some u := fun j hj => ⟨xs[j]'(by omega), (h.cellAt j (by omega)).trans (List.getElem?_eq_getElem (by omega))⟩
  exact ⟨H _ (by omega), H _ (by omega), H _ (by omega), H _ (by omega), H _ (by omega), H _ (by omega), H _ (by omega)⟩
def set7 (xs : List Value) (o : Nat) (v0 v1 v2 v3 v4 v5 v6 : Value) : List Value := ((((((xs.set o v0).set (o + 1) v1).set (o + 2) v2).set (o + 3) v3).set (o + 4) v4).set (o + 5) v5).set (o + 6) v6
theorem set7_ne {xs : List Value} {o i : Nat} {v0 v1 v2 v3 v4 v5 v6 : Value} (h : i < o) : (set7 xs o v0 v1 v2 v3 v4 v5 v6)[i]? = xs[i]? := by
  unfold set7
  rw [List.getElem?_set_ne (by omega), List.getElem?_set_ne (by omega), List.getElem?_set_ne (by omega), List.getElem?_set_ne (by omega), List.getElem?_set_ne (by omega), List.getElem?_set_ne (by omega), List.getElem?_set_ne (by omega)]
theorem set7_at {xs : List Value} {o : Nat} {v0 v1 v2 v3 v4 v5 v6 : Value} (h : o + 6 < xs.length) : (set7 xs o v0 v1 v2 v3 v4 v5 v6)[o]? = some v0 ∧ (set7 xs o v0 v1 v2 v3 v4 v5 v6)[o + 1]? = some v1 ∧ (set7 xs o v0 v1 v2 v3 v4 v5 v6)[o + 2]? = some v2 ∧ (set7 xs o v0 v1 v2 v3 v4 v5 v6)[o + 3]? = some v3 ∧
    (set7 xs o v0 v1 v2 v3 v4 v5 v6)[o + 4]? = some v4 ∧ (set7 xs o v0 v1 v2 v3 v4 v5 v6)[o + 5]? = some v5 ∧ (set7 xs o v0 v1 v2 v3 v4 v5 v6)[o + 6]? = some v6 := by
  unfold set7
  refine ⟨?_, ?_, ?_, ?_, ?_, ?_, ?_⟩ <;>
    (repeat rw [List.getElem?_set_ne (by omega)]) <;> rw [List.getElem?_set_self (by first | omega | (simp only [List.length_set]; omega))]
theorem stored7 {w : World} {g n : Nat} {T : TypeId} {xs : List Value} (h : w.ownsRow g T 7 (.slice (some ⟨g, 0, none⟩) n n) n xs) (o : Nat) (v0 v1 v2 v3 v4 v5 v6 : Value) :
    (((((((w.setCell ⟨g, o, none⟩ v0).setCell ⟨g, o + 1, none⟩ v1).setCell ⟨g, o + 2, none⟩ v2).setCell ⟨g, o + 3, none⟩ v3).setCell ⟨g, o + 4, none⟩ v4).setCell ⟨g, o + 5, none⟩ v5).setCell ⟨g, o + 6, none⟩ v6).ownsRow g T 7 (.slice (some ⟨g, 0, none⟩) n n) n (set7 xs o v0 v1 v2 v3 v4 v5 v6) :=
  ((((((((h.stored o v0).1.stored (o + 1) v1).1.stored (o + 2) v2).1.stored (o + 3) v3).1.stored (o + 4) v4).1.stored (o + 5) v5).1.stored (o + 6) v6)).1
end Go.Proofs.YtmmiahgmdllgdaaGreatDoor

namespace Go.Proofs.YtmmiahgmdllgdaaGreatDoor
open Go.RowKit Go.Sort
/-- numbers were stored into blocks of P -/
inductive Marks (P : Nat → Prop) : World → World → Prop
  | refl (w : World) : Marks P w w
  | step {w w' : World} {b : Nat} (h : Marks P w w') (hb : P b) (j : Nat) (u : Int) : Marks P w (w'.setCell ⟨b, j, none⟩ (.int .i64 u))
theorem Marks.trans {P : Nat → Prop} {a b c : World} (h1 : Marks P a b) (h2 : Marks P b c) : Marks P a c := by
  induction h2 with
  | refl => exact h1
  | step _ hb j u ih => exact ih.step hb j u
theorem Marks.weaken {P Q : Nat → Prop} {a b : World} (h : Marks P a b) (hq : ∀ k, P k → Q k) : Marks Q a b := by
  induction h with
  | refl => exact .refl _
  | step _ hb j u ih => exact ih.step (hq _ hb) j u
theorem Marks.under {P : Nat → Prop} {B : Nat} {a w w' : World} (h : Marks P w w') (hb : Below B a w) (hP : ∀ k, P k → B ≤ k) : Below B a w' := by
  induction h with
  | refl => exact hb
  | step _ hk j u ih => exact ih.setCell (hP _ hk) _
theorem Marks.size {P : Nat → Prop} {w w' : World} (h : Marks P w w') : w'.heap.size = w.heap.size := by
  induction h with
  | refl => rfl
  | step _ hk j u ih => rw [← ih]; simp [World.setCell]
theorem Marks.block {P : Nat → Prop} {w w' : World} (h : Marks P w w') {k : Nat} (hk : ¬ P k) : w'.heap[k]? = w.heap[k]? := by
  induction h with
  | refl => rfl
  | step _ hb j u ih => rw [← ih]; exact heap_setCell_other _ _ k _ (fun e => hk (by rw [e]; exact hb))
theorem map_set_int (ds : List Int) (j : Nat) (u : Int) : (ds.map (Value.int .i64)).set j (.int .i64 u) = (ds.set j u).map (Value.int .i64) := by
  rw [List.map_set]
theorem OwnI.setAny {w : World} {base : Nat} {v : Value} {ds : List Int} (h : OwnI w base v ds) (b j : Nat) (u : Int) : ∃ ds', ds'.length = ds.length ∧ OwnI (w.setCell ⟨b, j, none⟩ (.int .i64 u)) base v ds' := by
  have h' := h
  rcases h.2 with ⟨rfl, hn⟩ | ⟨g, cap, cur, rfl, hb, hg, rest⟩
  · exact ⟨ds, rfl, by simp [hn], .inl ⟨rfl, hn⟩⟩
  · by_cases hgb : g = b
    · subst hgb
      refine ⟨ds.set j u, by simp, ?_⟩
      have hs := (World.ownsRow.stored h j (.int .i64 u)).1
      rw [map_set_int] at hs
      unfold OwnI
      rw [List.length_set]
      exact hs
    · refine ⟨ds, rfl, h.1, .inr ⟨g, cap, cur, rfl, hb, ?_, rest⟩⟩
      rw [heap_setCell_other _ _ _ _ (by simpa using hgb)]
      exact hg
theorem Marks.ownI {P : Nat → Prop} {w w' : World} (h : Marks P w w') {base : Nat} {v : Value} {ds : List Int} (ho : OwnI w base v ds) : ∃ ds', ds'.length = ds.length ∧ OwnI w' base v ds' := by
  induction h with
  | refl => exact ⟨ds, rfl, ho⟩
  | step _ hb j u ih =>
    obtain ⟨d1, l1, o1⟩ := ih
    obtain ⟨d2, l2, o2⟩ := o1.setAny _ j u
    exact ⟨d2, l2.trans l1, o2⟩
/-- k, k + 1, .. -/
def upto (k : Int) (n : Nat) : List Int := (List.range n).map (fun (i : Nat) => k + (i : Int))
theorem upto_len (k : Int) (n : Nat) : (upto k n).length = n := by simp [upto]
theorem upto_get (k : Int) {n i : Nat} (h : i < n) : (upto k n)[i]? = some (k + i) := by simp [upto, h]
/-- the first j are marked -/
def marked (k : Int) (ds : List Int) (j : Nat) : List Int := upto k j ++ ds.drop j
theorem marked_len (k : Int) (ds : List Int) {j : Nat} (h : j ≤ ds.length) : (marked k ds j).length = ds.length := by simp [marked, upto_len]; omega
theorem marked_set (k : Int) (ds : List Int) {j : Nat} (h : j < ds.length) : (marked k ds j).set j (k + j) = marked k ds (j + 1) := by
  unfold marked
  rw [List.set_append_right _ _ (by rw [upto_len]; exact Nat.le_refl _), upto_len, Nat.sub_self, List.drop_eq_getElem_cons h, List.set_cons_zero]
  simp [upto, List.range_succ]
end Go.Proofs.YtmmiahgmdllgdaaGreatDoor

namespace Go.Proofs.YtmmiahgmdllgdaaGreatDoor
open Go.RowKit Go.Sort
theorem Marks.chg {P : Nat → Prop} {w w' : World} (h : Marks P w w') : Chg P w w' := by
  induction h with
  | refl => exact ⟨rfl, rfl, rfl, Nat.le_refl _, fun _ _ _ => rfl⟩
  | step h hb j u ih =>
    refine ⟨ih.os, ih.tape, ih.output, Nat.le_trans ih.size (by simp [World.setCell]), fun k hk hn => ?_⟩
    rw [Below.heap_setCell _ _ _ _ (fun e => hn (by rw [e]; exact hb))]
    exact ih.block k hk hn
def rowN (A : Option Addr) (n c : Nat) (ds : List Int) : Ent := .row (.slice A n c) 2 1 n (ds.map (Value.int .i64))
theorem Kn.marks {w0 w w' : World} {m : List Ent} {A : Option Addr} {n c : Nat} {ds ds' : List Int} (h : Kn w0 (rowN A n c ds :: m) w) (hm : Marks (fun b => (Value.slice A n c).ownBlock = some b) w w') (ho : OwnI w' 0 (.slice A n c) ds') (hl : ds'.length = n) : Kn w0 (rowN A n c ds' :: m) w' := by
  subst hl
  exact h.upd (e' := rowN A ds'.length c ds') hm.chg ho (fun k hk => .inl hk)
theorem Kn.ownN {w0 w : World} {m : List Ent} {A : Option Addr} {n c : Nat} {ds : List Int} (h : Kn w0 (rowN A n c ds :: m) w) : OwnI w 0 (.slice A n c) ds ∧ ds.length = n := by
  have h1 : w.ownsRow 0 2 1 (.slice A n c) n (ds.map (Value.int .i64)) := h.at0
  have h2 := h1.1
  rw [List.length_map, Nat.mul_one] at h2
  subst h2
  exact ⟨h1, rfl⟩
theorem Kn.riN {w0 w : World} {m : List Ent} {A : Option Addr} {n c : Nat} {ds : List Int} (h : Kn w0 (rowN A n c ds :: m) w) : RI w A n ds := h.ownN.1.ri
theorem Kn.tail3 {w0 w : World} {m : List Ent} {a b c d : Ent} (h : Kn w0 (a :: b :: c :: d :: m) w) : Kn w0 (b :: c :: d :: a :: m) w := h.perm (List.perm_middle (a := a) (l₁ := [b, c, d]) (l₂ := m)).symm
theorem Kn.rot3 {w0 w : World} {m : List Ent} {b c d : Ent} (h : Kn w0 (b :: c :: d :: m) w) : Kn w0 (c :: d :: b :: m) w := h.perm (List.perm_middle (a := b) (l₁ := [c, d]) (l₂ := m)).symm
theorem Kn.addN {w0 w w' : World} {m : List Ent} {A : Option Addr} {n c : Nat} {ds : List Int} (h : Kn w0 m w) (hb : Below w.heap.size w w') (ho : OwnI w' w.heap.size (.slice A n c) ds) (hl : ds.length = n) : Kn w0 (rowN A n c ds :: m) w' := by
  subst hl
  exact h.addI hb ho
theorem lf_small {left n : Int} (h : ¬ lft left n < 0) (hl : left ≤ 1048576) : n ≤ 1048576 := by unfold lft at h; split at h <;> omega
theorem lf3_small {n1 n2 n3 : Int} (p1 : 0 ≤ n1) (p2 : 0 ≤ n2) (_p3 : 0 ≤ n3) (h : ¬ lft3 1048576 n1 n2 n3 < 0) : n1 ≤ 1048576 ∧ n2 ≤ 1048576 ∧ n3 ≤ 1048576 := by
  unfold lft3 at h
  split at h
  · omega
  · rename_i k1
    split at h
    · omega
    · rename_i k2
      have h1 := lf_small k1 (Int.le_refl _)
      have b1 := lft_bd 1048576 n1 (by omega) p1
      have h2 := lf_small k2 b1.2
      have b2 := lft_bd _ n2 b1.1 p2
      have h3 := lf_small h (by omega)
      exact ⟨h1, h2, h3⟩
theorem lf3_lo (n1 n2 n3 : Int) (p1 : 0 ≤ n1) (p2 : 0 ≤ n2) (p3 : 0 ≤ n3) : lft3 1048576 n1 n2 n3 ≤ 1048576 ∧ -1 ≤ lft3 1048576 n1 n2 n3 := by
  unfold lft3
  have b1 := lft_bd 1048576 n1 (by omega) p1
  have b2 := lft_bd _ n2 b1.1 p2
  have b3 := lft_bd _ n3 b2.1 p3
  split
  · omega
  · split <;> omega
end Go.Proofs.YtmmiahgmdllgdaaGreatDoor

namespace Go.Proofs.YtmmiahgmdllgdaaGreatDoor
open Go.RowKit Go.Sort
theorem cellsIns_ext {xs : List Ins} {cs : List Value} (hl : cs.length = xs.length * 2) (h : ∀ (i : Nat) (h : i < xs.length), cs[i * 2]? = some (.int .i64 xs[i].op) ∧ cs[i * 2 + 1]? = some (.int .i64 xs[i].arg)) : cs = cellsIns xs := by
  apply List.ext_getElem?
  intro j
  by_cases hj : j < xs.length * 2
  · obtain ⟨h1, h2⟩ := h (j / 2) (by omega)
    obtain ⟨h3, h4⟩ := cellsIns_get xs (j / 2) (by omega)
    rcases Nat.mod_two_eq_zero_or_one j with he | he
    · have e : j / 2 * 2 = j := by omega
      rw [e] at h1 h3; rw [h1, h3]
    · have e : j / 2 * 2 + 1 = j := by omega
      rw [e] at h2 h4; rw [h2, h4]
  · rw [List.getElem?_eq_none (by omega), List.getElem?_eq_none (by rw [cellsIns_len]; omega)]
/-- the first j cells are marked -/
def markedV (k : Int) (cs : List Value) (j : Nat) : List Value := (upto k j).map (Value.int .i64) ++ cs.drop j
theorem markedV_set (k : Int) (cs : List Value) {j : Nat} (h : j < cs.length) : (markedV k cs j).set j (.int .i64 (k + j)) = markedV k cs (j + 1) := by
  unfold markedV
  rw [List.set_append_right _ _ (by rw [List.length_map, upto_len]; exact Nat.le_refl _), List.length_map, upto_len, Nat.sub_self, List.drop_eq_getElem_cons h, List.set_cons_zero]
  simp [upto, List.range_succ]
theorem markedV_len (k : Int) (cs : List Value) {j : Nat} (h : j ≤ cs.length) : (markedV k cs j).length = cs.length := by simp [markedV, upto_len]; omega
end Go.Proofs.YtmmiahgmdllgdaaGreatDoor

namespace Go.Proofs.YtmmiahgmdllgdaaGreatDoor
open Go.RowKit Go.Sort
end Go.Proofs.YtmmiahgmdllgdaaGreatDoor

namespace Go.Proofs.YtmmiahgmdllgdaaGreatDoor
open Go.RowKit Go.Sort
theorem DR.bare {b N : Nat} {w wi : World} {m : List Ent} (h : DR b N w m wi) : DR b N w [] wi := h.kn (fun _ hK => hK.bare)
end Go.Proofs.YtmmiahgmdllgdaaGreatDoor

namespace Go.Proofs.YtmmiahgmdllgdaaGreatDoor
open Go.RowKit Go.Sort
/-- what the drawing of a string returns -/
def DStr (b M L : Nat) (w : World) (e : Ending) (w' : World) : Prop := ∃ s : ByteArray, e = .returned (.string s) ∧ s.size ≤ L ∧ DR b M w [] w'
set_option maxRecDepth 100000 in
set_option maxHeartbeats 800000 in
theorem text_dr {b N : Nat} {w0 w : World} {m : List Ent} {g : Nat} {T : TypeId} (ss : List ByteArray) (n : Nat) (hl : ss.length = n) (h : DR b N w0 (.blk g (ss.map Value.string) T :: m) w) (hN : N ≤ 900000) (h0 : 0 < n) :
    Calls Tryz.prog 109 #[.pointer (some ⟨b, 0, none⟩), .slice (some ⟨g, 0, none⟩) n n] w fun e w' => ∃ s : ByteArray, e = .returned (.string s) ∧ s ∈ ss ∧ DR b (N + 2) w0 (.blk g (ss.map Value.string) T :: m) w' := by
  have HL := Lib.hid hl
  clear hl
  go_enter Tryz.func109, Tryz.ntmps109
  go_wp2_with (go_at_call 62; refine (pick_dr b _ _ _ h.src (by omega)).mono ?_; rintro e w3 ⟨y, rfl, hy, hD⟩; have D3 : DR b _ w0 (.blk g (ss.map Value.string) T :: m) w3 := h.add hD; clear hD; obtain ⟨j, rfl⟩ : ∃ q : Nat, y = q := ⟨y.toNat, by omega⟩; have hj : j < n := (by omega); have hi0 : (0 : Int) ≤ (j : Int) := (by omega); have hi1 : (j : Int) < (n : Int) := (by omega); have hjl : j < ss.length := (by rw [HL.out]; exact hj); have hc : w3.cell? ⟨g, j, none⟩ = some (.string ss[j]) := (by obtain ⟨u, -, -, hK⟩ := D3; rw [hK.blkAt.1 j, List.getElem?_map, List.getElem?_eq_getElem hjl]; rfl))
  go_ret
  exact ⟨_, rfl, List.getElem_mem hjl, D3⟩
theorem ext_le (s : ByteArray) (i j : Nat) : (s.extract i j).size ≤ s.size := by rw [ByteArray.size_extract]; omega
set_option maxRecDepth 100000 in
set_option maxHeartbeats 1600000 in
theorem l01Spoil_dr (b N : Nat) (s : ByteArray) (w : World) (h : Src w b N) (hN : N ≤ 800000) (hs : s.size ≤ 20000) : Calls Tryz.prog 103 #[.pointer (some ⟨b, 0, none⟩), .string s] w (DStr b (N + 10) 20001 w) := by
  unfold DStr
  have D0 := DR.nil h
  clear h
  go_enter Tryz.func103, Tryz.ntmps103
  go_upto_region 2 with (go_at_call 62; refine (pick_dr b _ _ _ D0.src (by omega)).mono ?_; rintro e w1 ⟨x, rfl, hx, hD⟩; have D1 := D0.add hD; clear hD)
  by_cases x0 : x = 0
  · subst x0
    clear hx
    have w1' : IntKind.i64.wrap ((s.size : Int) + 1) = (s.size : Int) + 1 := wrapI (by omega)
    go_wp2_with (go_at_call 62; refine (pick_dr b _ _ _ D1.src (by omega)).mono ?_; rintro e w2 ⟨y, rfl, hy, hD⟩; have D2 := D1.add hD; clear hD; obtain ⟨j, rfl⟩ : ∃ q : Nat, y = q := ⟨y.toNat, by omega⟩; have hj : j ≤ s.size := (by omega); have hi0 : (0 : Int) ≤ (j : Int) := (by omega); have hi1 : (j : Int) ≤ (s.size : Int) := (by omega))
    have D3 := (D2.al [.string ⟨#[32]⟩, .string ⟨#[48]⟩, .string ⟨#[45]⟩, .string ⟨#[120]⟩, .string ⟨#[49]⟩, .string ⟨#[57]⟩, .string ⟨#[46]⟩] 9).drew
    go_region_held3 (fun _ => True) (first | trivial) (first
      | (go_at_call 109; go_loud (refine (text_dr [⟨#[32]⟩, ⟨#[48]⟩, ⟨#[45]⟩, ⟨#[120]⟩, ⟨#[49]⟩, ⟨#[57]⟩, ⟨#[46]⟩] 7 rfl D3 (by omega) (by omega)).mono ?_; rintro e w4 ⟨q, rfl, hq, D4⟩; have hqs : q.size = 1 := (by simp at hq; rcases hq with rfl | rfl | rfl | rfl | rfl | rfl | rfl <;> rfl); clear hq; have hc1 : ¬ 9223372036854775807 < min j s.size + 1 := (by omega); have hc2 : ¬ 9223372036854775807 < min j s.size + 1 + (s.size - j) := (by omega); have hc3 : ¬ 9223372036854775807 < j + 1 := (by omega); have hc4 : ¬ 9223372036854775807 < j + 1 + (s.size - j) := (by omega))))
    all_goals
      go_wp2_with fail
      go_ret
      exact ⟨_, rfl, by simp [ByteArray.size_append]; omega, D4.bare.mono (by omega)⟩
  by_cases x1 : x = 1
  · subst x1
    clear hx
    rcases he : s.toList.isEmpty with _ | _
    · have hpos : 0 < s.size := by
        rw [strB_toList] at he
        rw [← strB_len]
        rcases hl : strB s with _ | ⟨q, r⟩
        · rw [hl] at he; cases he
        · simp
      go_wp2_with (go_at_call 62; refine (pick_dr b _ _ _ D1.src (by omega)).mono ?_; rintro e w2 ⟨y, rfl, hy, hD⟩; have D2 := D1.add hD; clear hD; obtain ⟨j, rfl⟩ : ∃ q : Nat, y = q := ⟨y.toNat, by omega⟩; have hj : j < s.size := (by omega); have hi0 : (0 : Int) ≤ (j : Int) := (by omega); have hi1 : (j : Int) ≤ (s.size : Int) := (by omega); have hi2 : (j : Int) + 1 ≤ (s.size : Int) := (by omega); have hw : IntKind.i64.wrap ((j : Int) + 1) = (j : Int) + 1 := wrapI (by omega); have hi3 : (0 : Int) ≤ (j : Int) + 1 := (by omega); have hi4 : j + 1 ≤ s.size := (by omega); have hc1 : ¬ 9223372036854775807 < min j s.size + (s.size - (j + 1)) := (by omega); have hc2 : ¬ 9223372036854775807 < j + (s.size - (j + 1)) := (by omega))
      go_region_held3 (fun _ => True) (first | trivial) (first | fail)
      all_goals
        go_wp2_with fail
        go_ret
        exact ⟨_, rfl, by simp [ByteArray.size_append]; omega, D2.bare.drew.mono (by omega)⟩
    · go_wp2_with fail
      go_ret
      exact ⟨_, rfl, by omega, D1.bare.mono (by omega)⟩
  have z0 : (x == 0) = false := beq_eq_false_iff_ne.2 x0
  have z1 : (x == 1) = false := beq_eq_false_iff_ne.2 x1
  go_wp2_with fail
  go_ret
  exact ⟨_, rfl, by omega, D1.bare.mono (by omega)⟩
end Go.Proofs.YtmmiahgmdllgdaaGreatDoor

namespace Go.Proofs.YtmmiahgmdllgdaaGreatDoor
open Go.RowKit Go.Sort
set_option maxHeartbeats 1600000 in
theorem f6texts_same (A B : Option Addr) (n c d : Nat) (xs : List ByteArray) (w : World) (hr : RL StrM 1 w A n xs) (hs : RL StrM 1 w B n xs) (hm : n ≤ 1048576) :
    Calls Tryz.prog 24 #[.slice A n c, .slice B n d] w fun e w' => e = .returned (.bool true) ∧ ∃ q, w' = w.drewN q := by
  have HR := Lib.hid hr
  have HS := Lib.hid hs
  clear hr hs
  go_enter Tryz.func24, Tryz.ntmps24
  go_wp2_with fail
  go_loopw [5] (fun i wr => ∃ (k : Nat), k ≤ n ∧ i = .int .i64 k ∧ ∃ q, wr = w.drewN q) (fun i _ => n - (intOf i).toNat)
  case atStart => exact ⟨0, Nat.zero_le _, rfl, 0, rfl⟩
  case round =>
    obtain ⟨k, hk, rfl, q, rfl⟩ := hrel
    by_cases hkn : k < n
    · obtain ⟨ad, hA, hlt, hkl, hx⟩ := HR.out.at_ hkn
      obtain ⟨bd, hB, hlt2, hkl2, hy⟩ := HS.out.at_ hkn
      unfold StrM at hx hy
      rw [Nat.mul_one] at hx hy
      obtain ⟨x, hxe⟩ : ∃ x, xs[k] = x := ⟨_, rfl⟩
      rw [hxe] at hx hy
      have hi0 : (0 : Int) ≤ (k : Int) := by omega
      have hi1 : (k : Int) < (n : Int) := by omega
      have hxx : (x.toList == x.toList) = true := by simp
      subst hA
      subst hB
      clear hxe hlt hlt2
      go_wp2_with fail
      go_quiet (fail)
      go_wp2_with fail
      go_roundw
      case rel => exact ⟨k + 1, by omega, by go_num, by first | exact ⟨_, rfl⟩ | exact ⟨_, World.drewN_drewN _ _ _⟩⟩
      case measure => simp [intOf]; omega
    · have hi1 : ¬ (k : Int) < (n : Int) := by omega
      go_wp2_with fail
      go_ret
      exact ⟨rfl, q, rfl⟩
end Go.Proofs.YtmmiahgmdllgdaaGreatDoor

namespace Go.Proofs.YtmmiahgmdllgdaaGreatDoor
open Go.RowKit Go.Sort
theorem draw_vreg {b : Int} {ds : List Int} (h1 : 2 ≤ b) (h2 : b ≤ 16) (h3 : 1 ≤ ds.length) (h4 : ds.length ≤ 16) (hd : ∀ d ∈ ds, 0 ≤ d ∧ d < b) (hp : pw b ds.length ≤ 1000000000001) : vreg b ds = true := by
  have h5 := valL_lt b h1 ds hd
  exact vreg_iff.2 ⟨⟨h1, h2⟩, ⟨by omega, by omega⟩, hd, by omega⟩
theorem base_mem {b : Int} (h : b ∈ [(10 : Int), 10, 10, 2, 3, 8, 12]) : 2 ≤ b ∧ b ≤ 12 ∧ pw b 8 ≤ 1000000000001 := by
  have H : ∀ b ∈ [(10 : Int), 10, 10, 2, 3, 8, 12], 2 ≤ b ∧ b ≤ 12 ∧ pw b 8 ≤ 1000000000001 := by decide
  exact H b h
theorem pickN {x n : Int} (hn : 1 ≤ n) (h : 0 ≤ x ∧ (x < n ∨ (n ≤ 1 ∧ x = 0))) : ∃ q : Nat, x = q ∧ (q : Int) ≤ n - 1 := ⟨x.toNat, by omega, by omega⟩
/-- what the drawing of a machine returns -/
def DMach (b M : Nat) (w : World) (e : Ending) (w' : World) : Prop := ∃ (t : Tri) (A1 : Option Addr) (c1 : Nat) (A2 : Option Addr) (c2 : Nat) (A3 : Option Addr) (c3 : Nat), e = .returned (.agg #[.int .i64 t.a.base, .slice A1 t.a.digits.length c1, .int .i64 t.b.base, .slice A2 t.b.digits.length c2, .int .i64 t.s.base, .slice A3 t.s.digits.length c3, .int .i64 t.carry]) ∧ vmach t = true ∧ DR b M w [rowI A3 c3 t.s.digits, rowI A2 c2 t.b.digits, rowI A1 c1 t.a.digits] w'
theorem DR.triC {b N : Nat} {w wi : World} {m : List Ent} {g : Nat} {t : Tri} {A1 A2 A3 : Option Addr} {c1 c2 c3 : Nat} (h : DR b N w ([.blk g [.int .i64 t.a.base, .slice A1 t.a.digits.length c1, .int .i64 t.b.base, .slice A2 t.b.digits.length c2, .int .i64 t.s.base, .slice A3 t.s.digits.length c3, .int .i64 t.carry] 32, rowI A3 c3 t.s.digits, rowI A2 c2 t.b.digits, rowI A1 c1 t.a.digits] ++ m) wi) : TriC wi ⟨g, 0, none⟩ t A1 c1 A2 c2 A3 c3 := by
  obtain ⟨v, -, -, hK⟩ := h
  exact ⟨⟨hK.blkAt.1 0, hK.blkAt.1 1, hK.blkAt.1 2, hK.blkAt.1 3, hK.blkAt.1 4, hK.blkAt.1 5, hK.blkAt.1 6⟩, hK.drop.drop.drop.riv, hK.drop.drop.riv, hK.drop.riv⟩
set_option maxRecDepth 100000 in
set_option maxHeartbeats 3200000 in
theorem l10Draw_dr (b N : Nat) (w : World) (h : Src w b N) (hN : N ≤ 700000) :
    Calls Tryz.prog 140 #[.pointer (some ⟨b, 0, none⟩)] w (DMach b (N + 200) w) := by
  unfold DMach
  have D0 := DR.nil h
  clear h
  go_enter Tryz.func140, Tryz.ntmps140
  go_wp2_with fail
  refine Calls.dr ((D0.al [.int .i64 0, .slice none 0 0, .int .i64 0, .slice none 0 0, .int .i64 0, .slice none 0 0, .int .i64 0] 32).al [.int .i64 10, .int .i64 10, .int .i64 10, .int .i64 2, .int .i64 3, .int .i64 8, .int .i64 12] 2) ?_; intro w1 D1
  simp only [World.size_alloc] at D1
  obtain ⟨hr, hA⟩ := DR.lit (ds := [10, 10, 10, 2, 3, 8, 12]) D1 (by decide)
  refine (among_dr b _ _ 7 7 _ w1 D1.src (by omega) hr hA (by omega) (by omega)).mono ?_; rintro e w2 ⟨bs, rfl, hx, h2⟩
  obtain ⟨b1, b2, b3⟩ := base_mem hx
  have D2 := (D1.add h2).sel [1] 99 (by decide) (by decide)
  clear D0 D1 h2 hr hA hx
  go_wp2_with fail
  refine (pick_dr b _ 4 w2 D2.src (by omega)).mono ?_; rintro e w3 ⟨y, rfl, hy, h3⟩
  have D3 := D2.add h3
  obtain ⟨q1, rfl, hq1⟩ := pickN (by omega) hy
  have hw1 : IntKind.i64.wrap (1 + (q1 : Int)) = ((q1 + 1 : Nat) : Int) := by rw [wrapI64 (by omega)]; omega
  obtain ⟨n1, hn1⟩ : ∃ n, q1 + 1 = n := ⟨_, rfl⟩
  rw [hn1] at hw1
  clear D2 h3 hy
  go_wp2_with fail
  refine (pick_dr b _ 5 w3 D3.src (by omega)).mono ?_; rintro e w4 ⟨y, rfl, hy, h4⟩
  have D4 := D3.add h4
  obtain ⟨q2, rfl, hq2'⟩ := pickN (by omega) hy
  have hw2 : IntKind.i64.wrap ((n1 : Int) + (q2 : Int)) = ((n1 + q2 : Nat) : Int) := by rw [wrapI64 (by omega)]; omega
  obtain ⟨n2, hn2⟩ : ∃ n, n1 + q2 = n := ⟨_, rfl⟩
  rw [hn2] at hw2
  clear D3 h4 hy
  go_wp2_with fail
  refine (pick_dr b _ 5 w4 D4.src (by omega)).mono ?_; rintro e w5 ⟨y, rfl, hy, h5⟩
  have D5 := D4.add h5
  obtain ⟨q3, rfl, hq3'⟩ := pickN (by omega) hy
  have hw3 : IntKind.i64.wrap (1 + (q3 : Int)) = ((q3 + 1 : Nat) : Int) := by rw [wrapI64 (by omega)]; omega
  obtain ⟨n3, hn3⟩ : ∃ n, q3 + 1 = n := ⟨_, rfl⟩
  rw [hn3] at hw3
  clear D4 h5 hy
  have hl1 : 1 ≤ n1 ∧ n1 ≤ n2 ∧ n2 ≤ 8 ∧ 1 ≤ n3 ∧ n3 ≤ 5 := by omega
  clear hn1 hn2 hn3 hq1 hq2' hq3'
  have KN := l10New_any bs n1 n2 n3 w5 (by omega) (by omega) (by omega) (by omega) (by omega)
  have hz3 := digD_vreg bs (by omega) (by omega) n3 (by omega) (by omega) 0 (by omega) (by have := pw_pos bs (by omega) n3; omega) (by omega)
  have hz2 := digD_vreg bs (by omega) (by omega) n2 (by omega) (by omega) 0 (by omega) (by have := pw_pos bs (by omega) n2; omega) (by omega)
  obtain ⟨x1, hx1⟩ : ∃ x, digD bs n1 0 = x := ⟨_, rfl⟩
  obtain ⟨ds2, hx2⟩ : ∃ x, digD bs n2 0 = x := ⟨_, rfl⟩
  obtain ⟨x3, hx3⟩ : ∃ x, digD bs n3 0 = x := ⟨_, rfl⟩
  have hm1 : x1.length = n1 := by rw [← hx1, digD_len]
  have hm2 : ds2.length = n2 := by rw [← hx2, digD_len]
  have hm3 : x3.length = n3 := by rw [← hx3, digD_len]
  rw [hx1, hx2, hx3, hm1, hm2, hm3] at KN
  rw [hx3] at hz3
  rw [hx2] at hz2
  have HM2 := Lib.hid hm2
  have HM3 := Lib.hid hm3
  have hpw : ∀ n : Nat, n ≤ 8 → pw bs n ≤ 1000000000001 := fun n hn => Int.le_trans (pw_mono bs (by omega) n 8 hn) b3
  have HPW := Lib.hid hpw
  have HZ3 := Lib.hid hz3
  have HZ2 := Lib.hid hz2
  replace KN := Lib.hid KN
  clear hx1 hx2 hx3 hm1 hm2 hm3 b3 hpw hz3 hz2
  go_wp2_with fail
  refine KN.out.mono ?_; rintro e w6 ⟨E1, g1, A2, c2, A3, c3, rfl, hKn⟩
  have D6 := D5.kn (fun v hK => hK.join hKn)
  clear D5 hKn
  go_wp2_with fail
  refine Calls.dr (D6.al [.int .i64 bs, .slice E1 n1 g1, .int .i64 bs, .slice A2 n2 c2, .int .i64 bs, .slice A3 n3 c3, .int .i64 0] 32) ?_; intro w7 D7
  obtain ⟨g, hg⟩ : ∃ g, w6.heap.size = g := ⟨_, rfl⟩
  rw [hg] at D7 ⊢
  clear D6 hg
  refine (digits_dr b _ bs n1 w7 D7.src (by omega) (by omega) (by omega) (by omega)).mono ?_; rintro e w8 ⟨A1, c1, ds1, rfl, hd1, hdd1, h8⟩
  have D8 := D7.add h8
  have HV1 := Lib.hid (draw_vreg (b := bs) (ds := ds1) (by omega) (by omega) (by omega) (by omega) hdd1 (HPW.out _ (by omega)))
  clear D7 h8 hdd1
  obtain ⟨a1, a2, a3, -⟩ := (D8.front 1 rfl).cells
  go_upto_region 6 with fail
  refine Code.wp.dr ((D8.front 1 rfl).st 1 (.slice A1 n1 c1)) ?_; intro w9 D9
  clear a1 a2 a3 D8
  go_wp2_with fail
  refine (one_dr b _ 2 w9 D9.src (by omega)).mono ?_; rintro e w10 ⟨yes, rfl, h10⟩
  have D10 := D9.add h10
  clear D9 h10
  obtain ⟨a1, a2, a3, -⟩ := D10.cells
  rcases yes with _ | _
  · have D9 := (D10.sel [0, 2, 3, 1, 5] 99 (by decide) (by decide)).mono (M := N + 120) (by omega)
    have hv1 := HV1.out
    have hv2 := HZ2.out
    have hv3 := HZ3.out
    have hx2l := HM2.out
    have hx3l := HM3.out
    have hq2 := HPW.out n2 (by omega)
    have hq3 := HPW.out n3 (by omega)
    have hl12 := hl1.2.1
    clear HV1 HZ2 HZ3 HM2 HM3 HPW KN
    subst hd1
    subst hx2l
    subst hx3l
    obtain ⟨t, ht⟩ : ∃ t : Tri, t = ⟨⟨bs, ds1⟩, ⟨bs, ds2⟩, ⟨bs, x3⟩, 0⟩ := ⟨_, rfl⟩
    have ha : t.a.digits = ds1 ∧ t.a.base = bs ∧ t.b.digits = ds2 ∧ t.b.base = bs ∧ t.s.digits = x3 ∧ t.s.base = bs ∧ t.carry = 0 := by rw [ht]; exact ⟨rfl, rfl, rfl, rfl, rfl, rfl, rfl⟩
    have D9 : DR b (N + 120) w [.blk g [.int .i64 t.a.base, .slice A1 t.a.digits.length c1, .int .i64 t.b.base, .slice A2 t.b.digits.length c2, .int .i64 t.s.base, .slice A3 t.s.digits.length c3, .int .i64 t.carry] 32, rowI A3 c3 t.s.digits, rowI A2 c2 t.b.digits, rowI A1 c1 t.a.digits, .blk w.heap.size [.int .i64 0, .slice none 0 0, .int .i64 0, .slice none 0 0, .int .i64 0, .slice none 0 0, .int .i64 0] 32] w10 := by rw [ha.1, ha.2.1, ha.2.2.1, ha.2.2.2.1, ha.2.2.2.2.1, ha.2.2.2.2.2.1, ha.2.2.2.2.2.2]; exact D9
    obtain ⟨vp1, vp2⟩ : 1 ≤ vplaces t ∧ vplaces t ≤ 16 := by unfold vplaces; rw [ha.1, ha.2.2.1, ha.2.2.2.2.1]; omega
    have hok : ∀ p : Int, 0 ≤ p → p ≤ vplaces t - 1 → vmach { t with carry := p } = true := fun p p0 p1 => by
      subst ht
      exact vmach_mk (t := ⟨⟨bs, ds1⟩, ⟨bs, ds2⟩, ⟨bs, x3⟩, p⟩) hv1 hv2 hv3 rfl rfl hq2 hq3 hl12 p0 p1
    have HOK := Lib.hid hok
    have HLT := Lib.hid (show t.a.digits.length ≤ 16 ∧ t.b.digits.length ≤ 16 ∧ t.s.digits.length ≤ 16 by rw [ha.1, ha.2.2.1, ha.2.2.2.2.1]; omega)
    clear hok ht ha hv1 hv2 hv3 hq2 hq3
    have KP := Lib.hid (l10Places_any ⟨g, 0, none⟩ t w10 (DR.triC (m := [.blk w.heap.size [.int .i64 0, .slice none 0 0, .int .i64 0, .slice none 0 0, .int .i64 0, .slice none 0 0, .int .i64 0] 32]) D9).tri HLT.out.1 HLT.out.2.1 HLT.out.2.2)
    obtain ⟨a1, a2, a3, -⟩ := D9.cells
    go_wp2_with fail
    refine KP.out.mono ?_; rintro e w10 ⟨rfl, mq, rfl⟩
    have D10 := D9.kn (fun v hK => hK.drewN mq)
    clear a1 a2 a3
    go_wp2_with fail
    refine (pick_dr b (N + 120) (vplaces t) _ D10.src (by omega)).mono ?_; rintro e w11 ⟨y, rfl, hy, h11⟩
    have D11 := D10.add h11
    obtain ⟨p, rfl, hp⟩ := pickN vp1 hy
    clear D9 D10 h11 hy KP
    obtain ⟨a1, a2, a3, -⟩ := D11.cells
    go_upto_region 9 with fail
    refine Code.wp.dr (D11.st 6 (.int .i64 (p : Int))) ?_; intro w12 D12
    clear a1 a2 a3 D11
    go_wp2_with fail
    refine (pick_dr b _ 5 w12 D12.src (by omega)).mono ?_; rintro e w13 ⟨y, rfl, hy, h13⟩
    have D13 := D12.add h13
    obtain ⟨k0, rfl, hk0⟩ := pickN (by omega) hy
    have hV0 := Lib.hid (HOK.out (p : Int) (by omega) (by omega))
    clear D12 h13 hy HLT
    obtain ⟨a1, a2, a3, -⟩ := D13.cells
    go_wp2_with fail
    clear a1 a2 a3
    go_loopw [7] (fun kk wr => ∃ (k : Nat) (t : Tri) (A1 : Option Addr) (c1 : Nat) (A2 : Option Addr) (c2 : Nat) (A3 : Option Addr) (c3 : Nat), k ≤ 4 ∧ kk = .int .i64 (k : Int) ∧ Hid (vmach t = true) ∧ DR b (N + 140 - 2 * k) w [.blk g [.int .i64 t.a.base, .slice A1 t.a.digits.length c1, .int .i64 t.b.base, .slice A2 t.b.digits.length c2, .int .i64 t.s.base, .slice A3 t.s.digits.length c3, .int .i64 t.carry] 32, rowI A3 c3 t.s.digits, rowI A2 c2 t.b.digits, rowI A1 c1 t.a.digits, .blk w.heap.size [.int .i64 0, .slice none 0 0, .int .i64 0, .slice none 0 0, .int .i64 0, .slice none 0 0, .int .i64 0] 32] wr) (fun kk _ => (intOf kk).toNat)
    case atStart => exact ⟨k0, { t with carry := p }, A1, c1, A2, c2, A3, c3, by omega, rfl, hV0, D13.mono (by omega)⟩
    case round =>
      clear D13 hV0 HOK vp1 vp2
      obtain ⟨k, t, A1, c1, A2, c2, A3, c3, hk4, rfl, HV, D⟩ := hrel
      obtain ⟨a1, a2, a3, a4, a5, a6, -⟩ := D.cells
      by_cases hk0 : 0 < k
      · have i1 : (0 : Int) < (k : Int) := by omega
        clear a1 a2 a3 a4 a5 a6
        go_wp2_with fail
        refine (pick_dr b _ 4 wr D.src (by omega)).mono ?_; rintro e w14 ⟨y, rfl, hy, h14⟩
        have D14 := D.add h14
        obtain ⟨q, rfl, hq⟩ := pickN (by omega) hy
        obtain ⟨v, hT, hS, hK⟩ := D14
        have hqw : IntKind.i64.wrap (1 + (q : Int)) = 1 + (q : Int) := wrapI64 (by omega)
        have KD := Lib.hid (l10DoK (m := [.blk w.heap.size [.int .i64 0, .slice none 0 0, .int .i64 0, .slice none 0 0, .int .i64 0, .slice none 0 0, .int .i64 0] 32]) (rest := []) t (1 + (q : Int)) w14 ⟨A1, c1, A2, c2, A3, c3, hK⟩ HV.out (by omega))
        obtain ⟨r, hr⟩ : ∃ r, strokeT (1 + (q : Int)) t = r := ⟨_, rfl⟩
        have HVR := Lib.hid (show vmach r.1 = true by rw [← hr]; exact strokeT_ok _ HV.out)
        rw [hr] at KD
        have HT := Lib.hid hT
        have HS := Lib.hid hS
        clear h14 hy hr hT hS hK D
        go_wp2_with fail
        refine KD.out.mono ?_; rintro e w15 ⟨rfl, E1, f1, E2, f2, E3, f3, hM⟩
        go_wp2_with fail
        go_roundw
        case rel => exact ⟨k - 1, r.1, E1, f1, E2, f2, E3, f3, by omega, by go_num, HVR, DR.mono (N := N + 140 - 2 * k + 2) ⟨v, HT.out, HS.out, hM⟩ (by omega)⟩
        case measure => simp [intOf]; omega
      · have i1 : ¬ (0 : Int) < (k : Int) := by omega
        go_wp2_with fail
        refine bodyPost.dr ((((((((D.front 4 rfl).st 0 (.int .i64 t.a.base)).st 1 (.slice A1 t.a.digits.length c1)).st 2 (.int .i64 t.b.base)).st 3 (.slice A2 t.b.digits.length c2)).st 4 (.int .i64 t.s.base)).st 5 (.slice A3 t.s.digits.length c3)).st 6 (.int .i64 t.carry)) ?_; intro w16 D16
        clear a1 a2 a3 a4 a5 a6
        obtain ⟨a1, a2, a3, -⟩ := D16.cells
        refine bodyPost_ret (v := .agg #[.int .i64 t.a.base, .slice A1 t.a.digits.length c1, .int .i64 t.b.base, .slice A2 t.b.digits.length c2, .int .i64 t.s.base, .slice A3 t.s.digits.length c3, .int .i64 t.carry]) (by simp [results, Tryz.results140, go_sem, a1]) rfl ⟨t, A1, c1, A2, c2, A3, c3, rfl, HV.out, ?_⟩
        exact (D16.sel [2, 3, 4] 99 (by decide) (by decide)).mono (by omega)
  · clear HZ2 HM2
    go_wp2_with fail
    refine (digits_dr b _ bs n2 w10 D10.src (by omega) (by omega) (by omega) (by omega)).mono ?_; rintro e w11 ⟨A2, c2, ds2, rfl, hd2, hdd2, h11⟩
    have D11 := D10.add h11
    have HZ2 := Lib.hid (draw_vreg (b := bs) (ds := ds2) (by omega) (by omega) (by omega) (by omega) hdd2 (HPW.out _ (by omega)))
    have HM2 := Lib.hid hd2
    clear a1 a2 a3 h11 hdd2 hd2 D10
    obtain ⟨a1, a2, a3, -⟩ := (D11.front 1 rfl).cells
    go_upto_region 8 with fail
    refine Code.wp.dr ((D11.front 1 rfl).st 3 (.slice A2 n2 c2)) ?_; intro w12 D12
    have D9 := (D12.sel [0, 3, 1, 2, 6] 99 (by decide) (by decide)).mono (M := N + 120) (by omega)
    clear a1 a2 a3 D11 D12
    have hv1 := HV1.out
    have hv2 := HZ2.out
    have hv3 := HZ3.out
    have hx2l := HM2.out
    have hx3l := HM3.out
    have hq2 := HPW.out n2 (by omega)
    have hq3 := HPW.out n3 (by omega)
    have hl12 := hl1.2.1
    clear HV1 HZ2 HZ3 HM2 HM3 HPW KN
    subst hd1
    subst hx2l
    subst hx3l
    obtain ⟨t, ht⟩ : ∃ t : Tri, t = ⟨⟨bs, ds1⟩, ⟨bs, ds2⟩, ⟨bs, x3⟩, 0⟩ := ⟨_, rfl⟩
    have ha : t.a.digits = ds1 ∧ t.a.base = bs ∧ t.b.digits = ds2 ∧ t.b.base = bs ∧ t.s.digits = x3 ∧ t.s.base = bs ∧ t.carry = 0 := by rw [ht]; exact ⟨rfl, rfl, rfl, rfl, rfl, rfl, rfl⟩
    have D9 : DR b (N + 120) w [.blk g [.int .i64 t.a.base, .slice A1 t.a.digits.length c1, .int .i64 t.b.base, .slice A2 t.b.digits.length c2, .int .i64 t.s.base, .slice A3 t.s.digits.length c3, .int .i64 t.carry] 32, rowI A3 c3 t.s.digits, rowI A2 c2 t.b.digits, rowI A1 c1 t.a.digits, .blk w.heap.size [.int .i64 0, .slice none 0 0, .int .i64 0, .slice none 0 0, .int .i64 0, .slice none 0 0, .int .i64 0] 32] w12 := by rw [ha.1, ha.2.1, ha.2.2.1, ha.2.2.2.1, ha.2.2.2.2.1, ha.2.2.2.2.2.1, ha.2.2.2.2.2.2]; exact D9
    obtain ⟨vp1, vp2⟩ : 1 ≤ vplaces t ∧ vplaces t ≤ 16 := by unfold vplaces; rw [ha.1, ha.2.2.1, ha.2.2.2.2.1]; omega
    have hok : ∀ p : Int, 0 ≤ p → p ≤ vplaces t - 1 → vmach { t with carry := p } = true := fun p p0 p1 => by
      subst ht
      exact vmach_mk (t := ⟨⟨bs, ds1⟩, ⟨bs, ds2⟩, ⟨bs, x3⟩, p⟩) hv1 hv2 hv3 rfl rfl hq2 hq3 hl12 p0 p1
    have HOK := Lib.hid hok
    have HLT := Lib.hid (show t.a.digits.length ≤ 16 ∧ t.b.digits.length ≤ 16 ∧ t.s.digits.length ≤ 16 by rw [ha.1, ha.2.2.1, ha.2.2.2.2.1]; omega)
    clear hok ht ha hv1 hv2 hv3 hq2 hq3
    have KP := Lib.hid (l10Places_any ⟨g, 0, none⟩ t w12 (DR.triC (m := [.blk w.heap.size [.int .i64 0, .slice none 0 0, .int .i64 0, .slice none 0 0, .int .i64 0, .slice none 0 0, .int .i64 0] 32]) D9).tri HLT.out.1 HLT.out.2.1 HLT.out.2.2)
    obtain ⟨a1, a2, a3, -⟩ := D9.cells
    go_wp2_with fail
    refine KP.out.mono ?_; rintro e w10 ⟨rfl, mq, rfl⟩
    have D10 := D9.kn (fun v hK => hK.drewN mq)
    clear a1 a2 a3
    go_wp2_with fail
    refine (pick_dr b (N + 120) (vplaces t) _ D10.src (by omega)).mono ?_; rintro e w11 ⟨y, rfl, hy, h11⟩
    have D11 := D10.add h11
    obtain ⟨p, rfl, hp⟩ := pickN vp1 hy
    clear D9 D10 h11 hy KP
    obtain ⟨a1, a2, a3, -⟩ := D11.cells
    go_upto_region 9 with fail
    refine Code.wp.dr (D11.st 6 (.int .i64 (p : Int))) ?_; intro w12 D12
    clear a1 a2 a3 D11
    go_wp2_with fail
    refine (pick_dr b _ 5 w12 D12.src (by omega)).mono ?_; rintro e w13 ⟨y, rfl, hy, h13⟩
    have D13 := D12.add h13
    obtain ⟨k0, rfl, hk0⟩ := pickN (by omega) hy
    have hV0 := Lib.hid (HOK.out (p : Int) (by omega) (by omega))
    clear D12 h13 hy HLT
    obtain ⟨a1, a2, a3, -⟩ := D13.cells
    go_wp2_with fail
    clear a1 a2 a3
    go_loopw [7] (fun kk wr => ∃ (k : Nat) (t : Tri) (A1 : Option Addr) (c1 : Nat) (A2 : Option Addr) (c2 : Nat) (A3 : Option Addr) (c3 : Nat), k ≤ 4 ∧ kk = .int .i64 (k : Int) ∧ Hid (vmach t = true) ∧ DR b (N + 140 - 2 * k) w [.blk g [.int .i64 t.a.base, .slice A1 t.a.digits.length c1, .int .i64 t.b.base, .slice A2 t.b.digits.length c2, .int .i64 t.s.base, .slice A3 t.s.digits.length c3, .int .i64 t.carry] 32, rowI A3 c3 t.s.digits, rowI A2 c2 t.b.digits, rowI A1 c1 t.a.digits, .blk w.heap.size [.int .i64 0, .slice none 0 0, .int .i64 0, .slice none 0 0, .int .i64 0, .slice none 0 0, .int .i64 0] 32] wr) (fun kk _ => (intOf kk).toNat)
    case atStart => exact ⟨k0, { t with carry := p }, A1, c1, A2, c2, A3, c3, by omega, rfl, hV0, D13.mono (by omega)⟩
    case round =>
      clear D13 hV0 HOK vp1 vp2
      obtain ⟨k, t, A1, c1, A2, c2, A3, c3, hk4, rfl, HV, D⟩ := hrel
      obtain ⟨a1, a2, a3, a4, a5, a6, -⟩ := D.cells
      by_cases hk0 : 0 < k
      · have i1 : (0 : Int) < (k : Int) := by omega
        clear a1 a2 a3 a4 a5 a6
        go_wp2_with fail
        refine (pick_dr b _ 4 wr D.src (by omega)).mono ?_; rintro e w14 ⟨y, rfl, hy, h14⟩
        have D14 := D.add h14
        obtain ⟨q, rfl, hq⟩ := pickN (by omega) hy
        obtain ⟨v, hT, hS, hK⟩ := D14
        have hqw : IntKind.i64.wrap (1 + (q : Int)) = 1 + (q : Int) := wrapI64 (by omega)
        have KD := Lib.hid (l10DoK (m := [.blk w.heap.size [.int .i64 0, .slice none 0 0, .int .i64 0, .slice none 0 0, .int .i64 0, .slice none 0 0, .int .i64 0] 32]) (rest := []) t (1 + (q : Int)) w14 ⟨A1, c1, A2, c2, A3, c3, hK⟩ HV.out (by omega))
        obtain ⟨r, hr⟩ : ∃ r, strokeT (1 + (q : Int)) t = r := ⟨_, rfl⟩
        have HVR := Lib.hid (show vmach r.1 = true by rw [← hr]; exact strokeT_ok _ HV.out)
        rw [hr] at KD
        have HT := Lib.hid hT
        have HS := Lib.hid hS
        clear h14 hy hr hT hS hK D
        go_wp2_with fail
        refine KD.out.mono ?_; rintro e w15 ⟨rfl, E1, f1, E2, f2, E3, f3, hM⟩
        go_wp2_with fail
        go_roundw
        case rel => exact ⟨k - 1, r.1, E1, f1, E2, f2, E3, f3, by omega, by go_num, HVR, DR.mono (N := N + 140 - 2 * k + 2) ⟨v, HT.out, HS.out, hM⟩ (by omega)⟩
        case measure => simp [intOf]; omega
      · have i1 : ¬ (0 : Int) < (k : Int) := by omega
        go_wp2_with fail
        refine bodyPost.dr ((((((((D.front 4 rfl).st 0 (.int .i64 t.a.base)).st 1 (.slice A1 t.a.digits.length c1)).st 2 (.int .i64 t.b.base)).st 3 (.slice A2 t.b.digits.length c2)).st 4 (.int .i64 t.s.base)).st 5 (.slice A3 t.s.digits.length c3)).st 6 (.int .i64 t.carry)) ?_; intro w16 D16
        clear a1 a2 a3 a4 a5 a6
        obtain ⟨a1, a2, a3, -⟩ := D16.cells
        refine bodyPost_ret (v := .agg #[.int .i64 t.a.base, .slice A1 t.a.digits.length c1, .int .i64 t.b.base, .slice A2 t.b.digits.length c2, .int .i64 t.s.base, .slice A3 t.s.digits.length c3, .int .i64 t.carry]) (by simp [results, Tryz.results140, go_sem, a1]) rfl ⟨t, A1, c1, A2, c2, A3, c3, rfl, HV.out, ?_⟩
        exact (D16.sel [2, 3, 4] 99 (by decide) (by decide)).mono (by omega)
end Go.Proofs.YtmmiahgmdllgdaaGreatDoor

namespace Go.Proofs.YtmmiahgmdllgdaaGreatDoor
open Go.RowKit Go.Sort
theorem specStrokeBack_any (k : Int) (w : World) (hk : 0 ≤ k ∧ k ≤ 6) :
    Calls Tryz.prog 139 #[.int .i64 k] w fun e w' => (∃ x c : Int, e = .returned (.tuple #[.int .i64 x, .int .i64 c]) ∧ (c = 0 → 1 ≤ x ∧ x ≤ 4)) ∧ w = w' := by
  have hk' : k = 0 ∨ k = 1 ∨ k = 2 ∨ k = 3 ∨ k = 4 ∨ k = 5 ∨ k = 6 := by omega
  clear hk
  rcases hk' with rfl | rfl | rfl | rfl | rfl | rfl | rfl <;>
  · go_enter Tryz.func139, Tryz.ntmps139
    go_wp2_with fail
    go_ret2
    exact ⟨⟨_, _, rfl, by decide⟩, rfl⟩
theorem kindL_mem {x : Int} (h : x ∈ [(1 : Int), 1, 2, 3, 4, 3, 5, 6]) : 1 ≤ x ∧ x ≤ 6 := by
  have H : ∀ b ∈ [(1 : Int), 1, 2, 3, 4, 3, 5, 6], 1 ≤ b ∧ b ≤ 6 := by decide
  exact H x h
theorem powS_le (b : Int) (n : Nat) : powS b n ≤ pw b n := by unfold powS; omega
/-- what the drawing of a session returns -/
def DSes (b M : Nat) (w : World) (e : Ending) (w' : World) : Prop := ∃ X x, ∃ ss : List ByteArray, e = .returned (.slice X ss.length x) ∧ (1 ≤ ss.length ∧ ss.length ≤ 200) ∧ (∀ s ∈ ss, s.size ≤ 6000) ∧ DR b M w [rowS (.slice X ss.length x) ss] w'
theorem size_snoc {ss : List ByteArray} {s : ByteArray} {B : Nat} (h : ∀ s ∈ ss, s.size ≤ B) (hs : s.size ≤ B) : ∀ x ∈ ss ++ [s], x.size ≤ B := fun x hx => by
  rcases List.mem_append.1 hx with hx | hx
  · exact h x hx
  · rw [List.mem_singleton.1 hx]; exact hs
set_option maxRecDepth 100000 in
set_option maxHeartbeats 6400000 in
theorem l24Draw_dr (b N : Nat) (w : World) (h : Src w b N) (hN : N ≤ 600000) :
    Calls Tryz.prog 77 #[.pointer (some ⟨b, 0, none⟩)] w (DSes b (N + 400) w) := by
  unfold DSes
  have D0 := DR.nil h
  have KM := Lib.hid (l10Draw_dr b N w h (by omega))
  unfold DMach at KM
  clear h
  go_enter Tryz.func77, Tryz.ntmps77
  go_wp2_with fail
  refine KM.out.mono ?_; rintro e w1 ⟨t, A1, c1, A2, c2, A3, c3, rfl, hv, h1⟩
  have D1 := D0.add h1
  clear D0 h1 KM
  go_wp2_with fail
  have D2 := D1.al [.int .i64 t.a.base, .slice A1 t.a.digits.length c1, .int .i64 t.b.base, .slice A2 t.b.digits.length c2, .int .i64 t.s.base, .slice A3 t.s.digits.length c3, .int .i64 t.carry] 32
  obtain ⟨g0, hg0⟩ : ∃ g, w1.heap.size = g := ⟨_, rfl⟩
  rw [hg0] at D2
  try rw [hg0]
  refine Calls.dr D2 ?_; clear D1 D2 hg0; intro w2 D2
  have HV := Lib.hid hv
  have hsz := mtext_size hv
  have hmt : mtext t = mtextL t := by unfold mtext; rw [if_pos hv]
  rw [hmt] at hsz
  have KT := Lib.hid (l10Text_any ⟨g0, 0, none⟩ t w2 (DR.triC (m := []) D2).tri D2.cells.2.2.1 hv)
  obtain ⟨ST, hST⟩ : ∃ s, mtextL t = s := ⟨_, rfl⟩
  rw [hST] at KT hsz
  clear hST hmt
  refine KT.out.mono ?_; rintro e w3 ⟨rfl, hw3⟩
  have D3 := D2.keep hw3
  clear D2 hw3 KT
  have hc1 : ¬ 9223372036854775807 < 6 + ST.size := by omega
  go_wp2_with fail
  obtain ⟨ZT, hZT⟩ : ∃ z : ByteArray, (⟨#[115, 116, 97, 114, 116, 32]⟩ : ByteArray) ++ ST = z := ⟨_, rfl⟩
  have hzz : ZT.size ≤ 6000 := by rw [← hZT, ByteArray.size_append, show (⟨#[115, 116, 97, 114, 116, 32]⟩ : ByteArray).size = 6 from rfl]; omega
  rw [hZT]
  clear hZT hsz hc1
  obtain ⟨gs, hgs⟩ : ∃ g, w3.heap.size = g := ⟨_, rfl⟩
  have D4 := D3.al [.string ZT] 9
  rw [hgs] at D4
  try rw [hgs]
  refine Calls.dr D4 ?_; clear D3 D4 hgs; intro w4 D4
  refine (l10Own_any g0 t A1 A2 A3 c1 c2 c3 w4 (DR.triC (m := []) (D4.sel [1, 2, 3, 4] 99 (by decide) (by decide))) (sized_of HV.out)).mono ?_; rintro e w5 ⟨E1, f1, E2, f2, E3, f3, rfl, hK⟩
  have D5 := D4.kn (fun v h => h.join hK)
  clear D4 hK
  go_wp2_with fail
  obtain ⟨g, hg⟩ : ∃ g, w5.heap.size = g := ⟨_, rfl⟩
  have D6 := (D5.al [.int .i64 t.a.base, .slice E1 t.a.digits.length f1, .int .i64 t.b.base, .slice E2 t.b.digits.length f2, .int .i64 t.s.base, .slice E3 t.s.digits.length f3, .int .i64 t.carry] 32).sel [0, 1, 2, 3, 4] 99 (by decide) (by decide)
  rw [hg] at D6
  try rw [hg]
  refine Calls.dr D6 ?_; clear D5 D6 hg; intro w6 D6
  refine (pick_dr b _ 14 w6 D6.src (by omega)).mono ?_; rintro e w7 ⟨y, rfl, hy, h7⟩
  have D7' := D6.add h7
  obtain ⟨k0, rfl, hk0⟩ := pickN (by omega) hy
  have D7 : DR b (N + 202) w [.blk g [.int .i64 t.a.base, .slice E1 t.a.digits.length f1, .int .i64 t.b.base, .slice E2 t.b.digits.length f2, .int .i64 t.s.base, .slice E3 t.s.digits.length f3, .int .i64 t.carry] 32, rowI E3 f3 t.s.digits, rowI E2 f2 t.b.digits, rowI E1 f1 t.a.digits, rowS (.slice (some ⟨gs, 0, none⟩) 1 1) [ZT]] w7 := ((D7'.kn (fun v h => (h.front 4 rfl).litRow (size := 1) (n := 1) rfl (by decide))).sel [1, 2, 3, 4, 0] 99 (by decide) (by decide)).mono (by omega)
  clear D6 D7' h7 hy
  go_wp2_with fail
  go_loopw [6, 4] (fun kk oo wr => ∃ (k : Nat) (t : Tri) (A1 : Option Addr) (c1 : Nat) (A2 : Option Addr) (c2 : Nat) (A3 : Option Addr) (c3 : Nat) (ss : List ByteArray), k ≤ 13 ∧ kk = .int .i64 (k : Int) ∧ Hid (ss.length + k ≤ 14 ∧ 1 ≤ ss.length) ∧ Hid (∀ s ∈ ss, s.size ≤ 6000) ∧ Hid (vmach t = true) ∧ DR b (N + 360 - 12 * k) w [.blk g [.int .i64 t.a.base, .slice A1 t.a.digits.length c1, .int .i64 t.b.base, .slice A2 t.b.digits.length c2, .int .i64 t.s.base, .slice A3 t.s.digits.length c3, .int .i64 t.carry] 32, rowI A3 c3 t.s.digits, rowI A2 c2 t.b.digits, rowI A1 c1 t.a.digits, rowS oo ss] wr) (fun kk _ _ => (intOf kk).toNat)
  case atStart => exact ⟨k0, t, E1, f1, E2, f2, E3, f3, [ZT], by omega, rfl, Lib.hid (by simp; omega), Lib.hid (fun s h => by rw [List.mem_singleton.1 h]; exact hzz), HV, D7.mono (by omega)⟩
  case round =>
    clear D7 HV hzz
    obtain ⟨k, t, A1, c1, A2, c2, A3, c3, ss, hk, rfl, HLN, HSZ, HV, D⟩ := hrel
    obtain ⟨X, x, rfl⟩ : ∃ X x, u4 = .slice X ss.length x := by
      obtain ⟨u, -, -, hK⟩ := D
      exact row_form (hK.front 4 rfl).at0
    obtain ⟨a1, a2, a3, -⟩ := D.cells
    by_cases hk0 : 0 < k
    · have i1 : (0 : Int) < (k : Int) := by omega
      clear a1 a2 a3
      have D8 := D.al [.int .i64 1, .int .i64 1, .int .i64 2, .int .i64 3, .int .i64 4, .int .i64 3, .int .i64 5, .int .i64 6] 2
      obtain ⟨gi, hgi⟩ : ∃ g, wr.heap.size = g := ⟨_, rfl⟩
      rw [hgi] at D8
      go_wp2_with fail
      try rw [hgi]
      refine Calls.dr D8 ?_; clear D8 D hgi; intro w8 D8
      obtain ⟨hr, hA⟩ := DR.lit (ds := [1, 1, 2, 3, 4, 3, 5, 6]) D8 (by decide)
      refine (among_dr b _ _ 8 8 _ w8 D8.src (by omega) hr hA (by omega) (by omega)).mono ?_; rintro e w9 ⟨kd, rfl, hx, h9⟩
      have hkd := kindL_mem hx
      have D9 : DR b (N + 360 - 12 * k + 2) w [.blk g [.int .i64 t.a.base, .slice A1 t.a.digits.length c1, .int .i64 t.b.base, .slice A2 t.b.digits.length c2, .int .i64 t.s.base, .slice A3 t.s.digits.length c3, .int .i64 t.carry] 32, rowI A3 c3 t.s.digits, rowI A2 c2 t.b.digits, rowI A1 c1 t.a.digits, rowS (.slice X ss.length x) ss] w9 := (D8.add h9).sel [1, 2, 3, 4, 5] 99 (by decide) (by decide)
      clear D8 h9 hr hA hx
      obtain ⟨a1, a2, a3, -⟩ := D9.cells
      go_upto_region 8 with fail
      go_cut [34] (fun bb wx => ∃ yes : Bool, bb = .bool yes ∧ (yes = true → 1 < ss.length) ∧ DR b (N + 360 - 12 * k + 4) w [.blk g [.int .i64 t.a.base, .slice A1 t.a.digits.length c1, .int .i64 t.b.base, .slice A2 t.b.digits.length c2, .int .i64 t.s.base, .slice A3 t.s.digits.length c3, .int .i64 t.carry] 32, rowI A3 c3 t.s.digits, rowI A2 c2 t.b.digits, rowI A1 c1 t.a.digits, rowS (.slice X ss.length x) ss] wx)
      case first =>
        by_cases hn : 1 < ss.length
        rotate_left
        · have n1 : ¬ (1 : Int) < (ss.length : Int) := by omega
          go_wp2_with fail
          go_meet
          exact ⟨false, rfl, fun h => (by cases h), D9.mono (by omega)⟩
        · have n1 : (1 : Int) < (ss.length : Int) := by omega
          go_wp2_with fail
          clear a1 a2 a3
          refine (one_dr b _ 4 w9 D9.src (by omega)).mono ?_; rintro e w10 ⟨yes, rfl, h10⟩
          have D10 := D9.add h10
          clear D9 h10
          go_wp2_with fail
          go_meet
          exact ⟨yes, rfl, fun _ => hn, D10⟩
      case rest =>
        obtain ⟨yes, rfl, hyes, D10⟩ := hcut
        rename_i hkk
        refine hkk _ _ ?_
        clear a1 a2 a3 D9 hkk
        obtain ⟨w10, rfl⟩ : ∃ W, W = wc := ⟨_, rfl⟩
        obtain ⟨a1, a2, a3, -⟩ := D10.cells
        go_cut [7] (fun kk wx => ∃ kx : Int, kk = .int .i64 kx ∧ (1 ≤ kx ∧ kx ≤ 6) ∧ DR b (N + 360 - 12 * k + 4) w [.blk g [.int .i64 t.a.base, .slice A1 t.a.digits.length c1, .int .i64 t.b.base, .slice A2 t.b.digits.length c2, .int .i64 t.s.base, .slice A3 t.s.digits.length c3, .int .i64 t.carry] 32, rowI A3 c3 t.s.digits, rowI A2 c2 t.b.digits, rowI A1 c1 t.a.digits, rowS (.slice X ss.length x) ss] wx)
        case first =>
          rcases yes with _ | _
          · go_wp2_with fail
            go_meet
            exact ⟨kd, rfl, hkd, D10⟩
          · have hn := hyes rfl
            have hln := HLN.out
            obtain ⟨j, hj⟩ : ∃ j, ss.length - 1 = j := ⟨_, rfl⟩
            obtain ⟨gx, rfl, hcx, hltx⟩ : ∃ gx, X = some ⟨gx, 0, none⟩ ∧ w10.cell? ⟨gx, j, none⟩ = some (.string (ss.getD j ⟨#[]⟩)) ∧ gx < w10.heap.size := by
              obtain ⟨u, -, -, hK⟩ := D10
              obtain ⟨-, g', e1, e2, -, e3⟩ := (hK.front 4 rfl).rowS_at (k := j) (by omega)
              refine ⟨g', e1, ?_, e3⟩
              rw [List.getD_eq_getElem?_getD, List.getElem?_eq_getElem (by omega)]
              exact e2
            obtain ⟨L, hL⟩ : ∃ L, ss.getD j ⟨#[]⟩ = L := ⟨_, rfl⟩
            rw [hL] at hcx
            clear hL
            have hw1 : IntKind.i64.wrap ((ss.length : Int) - 1) = (j : Int) := by rw [wrapI64 (by omega)]; omega
            have hj0 : (0 : Int) ≤ (j : Int) := by omega
            have hj1 : (j : Int) < (ss.length : Int) := by omega
            have hj2 : j < ss.length := by omega
            have KK := Lib.hid (fun W => l24Kind_any L W)
            have KB := Lib.hid (fun W => specStrokeBack_any (kindOf (strB L)) W (kindOf_bd _))
            obtain ⟨kl, hkl⟩ : ∃ x, kindOf (strB L) = x := ⟨_, rfl⟩
            rw [hkl] at KB
            simp only [hkl] at KK
            clear hkl hj hln hyes hn
            go_wp2_with fail
            refine (KK.out _).mono ?_; rintro e w11 ⟨rfl, hw⟩
            have D11 := D10.keep hw
            clear D10 hw hcx
            go_wp2_with fail
            refine (KB.out _).mono ?_; rintro e w12 ⟨⟨kx, kc, rfl, hkx⟩, hww⟩
            obtain rfl := hww.symm
            by_cases hc : kc = 0
            · subst hc
              have hkx := hkx rfl
              go_wp2_with fail
              go_meet
              exact ⟨kx, rfl, by omega, D11⟩
            · have hcb : (kc == 0) = false := by simpa using hc
              clear hkx
              go_wp2_with fail
              go_meet
              exact ⟨kd, rfl, hkd, D11⟩
        case rest =>
          obtain ⟨kx, rfl, hkx, D11⟩ := hcut
          clear a1 a2 a3 D10 hkd
          obtain ⟨a1, a2, a3, -⟩ := D11.cells
          have hln : ss.length ≤ 10000000 := by have := HLN.out; omega
          obtain ⟨k1, k2, k3, e1, e2, m1, m2, l1, p0, p1⟩ := vmach_all HV.out
          obtain ⟨⟨b1, b2⟩, ⟨n1, n2⟩, -⟩ := vreg_iff.1 k1
          go_wp2_with fail
          refine (one_dr b _ 8 _ D11.src (by omega)).mono ?_; rintro e w12 ⟨z, rfl, h12⟩
          have D12 := D11.add h12
          clear a1 a2 a3 D11 h12
          obtain ⟨a1, a2, a3, -⟩ := D12.cells
          rcases z with _ | _
          · go_wp2_with fail
            refine (one_dr b _ 8 _ D12.src (by omega)).mono ?_; rintro e w13 ⟨z, rfl, h13⟩
            have D13 := D12.add h13
            clear a1 a2 a3 D12 h13
            obtain ⟨a1, a2, a3, -⟩ := D13.cells
            rcases z with _ | _
            · obtain ⟨u, tw, hs, hK⟩ := D13
              have KD := Lib.hid (l10DoK (m := [rowS (.slice X ss.length x) ss]) (rest := []) t kx w13 ⟨A1, c1, A2, c2, A3, c3, hK⟩ HV.out hkx)
              have KS := Lib.hid (fun W => specStrokeName_any kx W hkx)
              obtain ⟨r, hr⟩ : ∃ r, strokeT kx t = r := ⟨_, rfl⟩
              have HVN := Lib.hid (show vmach r.1 = true by rw [← hr]; exact strokeT_ok _ HV.out)
              rw [hr] at KD
              have hss := sname_len kx
              obtain ⟨SN, hSN⟩ : ∃ s, sname kx = s := ⟨_, rfl⟩
              simp only [hSN] at KS
              rw [hSN] at hss
              clear hr hSN hK a1 a2 a3 k1 k2 k3 e1 e2 m1 m2
              go_wp2_with fail
              refine KD.out.mono ?_; rintro e w14 ⟨rfl, E1, f1, E2, f2, E3, f3, hM⟩
              go_wp2_with fail
              refine (KS.out _).mono ?_; rintro e w15 ⟨rfl, hw⟩
              have K8 := (hM.keep hw).front 4 rfl
              clear hM hw KD KS
              go_wp2_with (at_builtin; refine kn_pushS rfl _ _ rfl _ ss rfl rfl (K8.al [.string SN] 9) hln ?_; intro v9 w9 K9)
              go_roundw
              case rel => exact ⟨k - 1, r.1, _, _, _, _, _, _, ss ++ [SN], by omega, by go_num, Lib.hid (by have := HLN.out; simp; omega), Lib.hid (size_snoc HSZ.out (by omega)), HVN, DR.mono (N := N + 360 - 12 * k + 10) ⟨u, tw, hs.mono (by omega), K9.sel [1, 2, 3, 4, 0] 99 (by decide) (by decide)⟩ (by omega)⟩
              case measure => simp [intOf]; omega
            · have KT := Lib.hid (l10Text_any ⟨g, 0, none⟩ t w13 (DR.triC (m := [rowS (.slice X ss.length x) ss]) D13).tri D13.cells.2.2.1 HV.out)
              have hsz := mtext_size HV.out
              have hmt : mtext t = mtextL t := by unfold mtext; rw [if_pos HV.out]
              rw [hmt] at hsz
              have HVN := HV
              obtain ⟨u, tw, hs, hK⟩ := D13
              obtain ⟨ST, hST⟩ : ∃ s, mtextL t = s := ⟨_, rfl⟩
              rw [hST] at KT hsz
              clear hST hmt a1 a2 a3 k1 k2 k3 e1 e2 m1 m2
              have hc1 : ¬ 9223372036854775807 < 5 + ST.size := by omega
              go_wp2_with fail
              refine KT.out.mono ?_; rintro e w15 ⟨rfl, hw⟩
              have K8 := (hK.keep hw).front 4 rfl
              clear hw KT hK
              go_wp2_with (at_builtin; refine kn_pushS rfl _ _ rfl _ ss rfl rfl (K8.al [.string _] 9) hln ?_; intro v9 w9 K9)
              go_roundw
              case rel => exact ⟨k - 1, t, _, _, _, _, _, _, ss ++ [_], by omega, by go_num, Lib.hid (by have := HLN.out; simp; omega), Lib.hid (size_snoc HSZ.out (by rw [ByteArray.size_append, show (⟨#[115, 104, 111, 119, 32]⟩ : ByteArray).size = 5 from rfl]; omega)), HVN, DR.mono (N := N + 360 - 12 * k + 10) ⟨u, tw, hs.mono (by omega), K9.sel [1, 2, 3, 4, 0] 99 (by decide) (by decide)⟩ (by omega)⟩
              case measure => simp [intOf]; omega
          · have KR := Lib.hid (l12Room_any ⟨g, 0, none⟩ t.a.base A1 t.a.digits.length c1 w12 ⟨a1 0, a1 1⟩ b1 b2 (by omega))
            have hple := powS_le t.a.base t.a.digits.length
            have hpos := pw_pos t.a.base b1 t.a.digits.length
            have hmo := pw_mono t.a.base (by omega) _ _ l1
            rw [← e1] at m1
            have hmx : pw t.a.base t.a.digits.length ≤ 1000000000001 := by omega
            obtain ⟨PS, hPS⟩ : ∃ x, powS t.a.base t.a.digits.length = x := ⟨_, rfl⟩
            rw [hPS] at KR hple
            clear hPS
            go_wp2_with fail
            refine KR.out.mono ?_; rintro e w13 ⟨rfl, q, rfl⟩
            have D13 := D12.kn (fun v h => h.drewN q)
            generalize w12.drewN q = w13 at D13 ⊢
            clear a1 a2 a3 D12 KR
            go_wp2_with fail
            refine (pick_dr b _ PS w13 D13.src (by omega)).mono ?_; rintro e w14 ⟨y, rfl, hy, h14⟩
            have D14 := D13.add h14
            have hy2 : 0 ≤ y ∧ y < pw t.a.base t.a.digits.length := by omega
            clear D13 h14 hy
            have hft : fits t y = true := decide_eq_true hy2
            have HVN := Lib.hid (setT_ok y HV.out hy2.1 hy2.2)
            obtain ⟨u, tw, hs, hK⟩ := D14
            have KV := specSetValueG t A1 A2 A3 c1 c2 c3 y w14 (hK.front 3 rfl).riv (hK.front 2 rfl).riv (hK.front 1 rfl).riv HV.out
            unfold SetG at KV
            obtain ⟨xs, hxs⟩ : ∃ x, (setT t y).a.digits = x := ⟨_, rfl⟩
            rw [hxs, hft] at KV
            have HST := Lib.hid (show setT t y = ⟨⟨t.a.base, xs⟩, t.b, t.s, t.carry⟩ by rw [← hxs]; rfl)
            rw [HST.out] at HVN
            replace KV := Lib.hid KV
            have KL := Lib.hid (fun W => l01Dec_any y W (by omega) (by omega))
            have hdl := dec_len y (by omega) (by omega)
            obtain ⟨DY, hDY⟩ : ∃ s : ByteArray, (⟨(dec y).toArray⟩ : ByteArray) = s := ⟨_, rfl⟩
            have hds : DY.size ≤ 21 := by rw [← hDY, ← strB_len]; simpa [strB] using hdl
            simp only [hDY] at KL
            clear hxs hft hDY hdl k1 k2 k3 e1 e2 m1 m2
            obtain ⟨a1, a2, a3, -⟩ := hK.cells
            go_wp2_with fail
            refine KV.out.mono ?_; rintro e w15 (⟨-, E1, f1, E2, f2, E3, f3, rfl, hK1⟩ | ⟨hbad, -⟩)
            rotate_left
            · cases hbad
            have K15 := hK.join hK1
            clear hK hK1 KV a1 a2 a3
            obtain ⟨g1, hg1⟩ : ∃ g, w15.heap.size = g := ⟨_, rfl⟩
            have K16 := K15.al [.int .i64 t.a.base, .slice E1 xs.length f1, .int .i64 t.b.base, .slice E2 t.b.digits.length f2, .int .i64 t.s.base, .slice E3 t.s.digits.length f3, .int .i64 t.carry] 32
            rw [hg1] at K16
            have hc1 : ¬ 9223372036854775807 < 4 + DY.size := by omega
            go_upto_region 17 with fail
            try rw [hg1]
            refine Code.wp.kn K16 ?_; clear K15 K16 hg1; intro w16 K16
            obtain ⟨a1, a2, a3, d1, d2, d3, -⟩ := K16.cells
            have KS := (((((((K16.front 4 rfl).st 0 (.int .i64 t.a.base)).st 1 (.slice E1 xs.length f1)).st 2 (.int .i64 t.b.base)).st 3 (.slice E2 t.b.digits.length f2)).st 4 (.int .i64 t.s.base)).st 5 (.slice E3 t.s.digits.length f3)).st 6 (.int .i64 t.carry)
            go_upto_region 18 with fail
            refine Code.wp.kn (KS.sel [0, 2, 3, 4, 8] 99 (by decide) (by decide)) ?_; clear KS K16 a1 a2 a3 d1 d2 d3; intro w17 K17
            go_wp2_with fail
            refine (KL.out _).mono ?_; rintro e w18 ⟨rfl, hw⟩
            have K8 := (K17.keep hw).front 4 rfl
            clear K17 hw
            go_wp2_with (at_builtin; refine kn_pushS rfl _ _ rfl _ ss rfl rfl (K8.al [.string _] 9) hln ?_; intro v9 w9 K9)
            go_roundw
            case rel => exact ⟨k - 1, ⟨⟨t.a.base, xs⟩, t.b, t.s, t.carry⟩, _, _, _, _, _, _, ss ++ [_], by omega, by go_num, Lib.hid (by have := HLN.out; simp; omega), Lib.hid (size_snoc HSZ.out (by rw [ByteArray.size_append, show (⟨#[115, 101, 116, 32]⟩ : ByteArray).size = 4 from rfl]; omega)), HVN, DR.mono (N := N + 360 - 12 * k + 10) ⟨u, tw, hs.mono (by omega), K9.sel [1, 2, 3, 4, 0] 99 (by decide) (by decide)⟩ (by omega)⟩
            case measure => simp [intOf]; omega
    · have i1 : ¬ (0 : Int) < (k : Int) := by omega
      obtain ⟨u, tw, hs, hK⟩ := D
      have KA := (hK.front 4 rfl).al [.string ⟨#[101, 110, 100]⟩] 9
      clear a1 a2 a3
      go_wp2_with (at_builtin; refine kn_pushS rfl _ _ rfl _ ss rfl rfl KA (by have := HLN.out; omega) ?_; intro v9 w9 K9)
      obtain ⟨Y, y, rfl⟩ := row_form K9.at0
      go_ret
      exact ⟨Y, y, ss ++ [⟨#[101, 110, 100]⟩], rfl, by have := HLN.out; simp; omega, size_snoc HSZ.out (by decide), DR.mono (N := N + 360 - 12 * k) ⟨u, tw, hs, K9.sel [0] 99 (by decide) (by decide)⟩ (by omega)⟩
end Go.Proofs.YtmmiahgmdllgdaaGreatDoor
