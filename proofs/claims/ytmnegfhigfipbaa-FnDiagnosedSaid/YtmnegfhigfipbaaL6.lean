import Derived.Test.YtmnegfhigfipbaaW11
import Derived.Test.YtmnegfhigfipbaaG17
namespace Go.Proofs.Ytmnegfhigfipbaa
open Go.RowKit Go.Sort
theorem dpick_cases (ts : List Tri) (n0 : Nat) : ∀ (j k : Nat), k + j = 3 → ((dpick ts n0 k j = ([], 3)) ∧ ∀ i, k ≤ i → i < 3 → found ts n0 i = []) ∨ (∃ i, k ≤ i ∧ i ≤ 2 ∧ (dpick ts n0 k j).2 = 0 ∧ (dpick ts n0 k j).1 ∈ found ts n0 i ∧ ∀ i', k ≤ i' → i' < i → found ts n0 i' = [])
  | 0, k, h => .inl ⟨rfl, fun i h1 h2 => by omega⟩
  | j + 1, k, h => by
    by_cases he : found ts n0 k = []
    · have hd : dpick ts n0 k (j + 1) = dpick ts n0 (k + 1) j := by rw [dpick, dif_pos he]
      rw [hd]
      rcases dpick_cases ts n0 j (k + 1) (by omega) with ⟨h1, h2⟩ | ⟨i, h1, h2, h3, h4, h5⟩
      · refine .inl ⟨h1, fun i hi hi3 => ?_⟩
        rcases Nat.eq_or_lt_of_le hi with e | e
        · rw [← e]; exact he
        · exact h2 i e hi3
      · refine .inr ⟨i, by omega, h2, h3, h4, fun i' hi' hlt => ?_⟩
        rcases Nat.eq_or_lt_of_le hi' with e | e
        · rw [← e]; exact he
        · exact h5 i' e hlt
    · have hd : dpick ts n0 k (j + 1) = ((found ts n0 k).head he, 0) := by rw [dpick, dif_neg he]
      rw [hd]
      exact .inr ⟨k, Nat.le_refl _, by omega, rfl, List.head_mem he, fun i' h1 h2 => by omega⟩
theorem found_len {ts : List Tri} {n0 k : Nat} {l : List Flt} (h : l ∈ found ts n0 k) : l.length = k := (fsets_ok n0 k l (List.mem_filter.1 h).1).2.2
theorem found_zero {ts : List Tri} {n0 : Nat} : found ts n0 0 = [] ↔ vexpl ts [] = false := by
  unfold found fsets
  rcases h : vexpl ts [] with _ | _ <;> simp [h]
set_option maxRecDepth 100000 in
set_option maxHeartbeats 6400000 in
theorem law_Diagnosed (A : Option Addr) (n c : Nat) (bs : List UInt8) (w : World) (hb : RB w A n bs) (hn : n ≤ 9223372036854775807) :
    Calls Try.prog 4 #[.slice A n c] w fun e w' => e = .returned (.bool true) ∧ Below w.heap.size w w' := by
  have HB := Lib.hid hb; clear hb
  by_cases h3 : 3000 < n
  · have HD : Hid (decide (3000 < n) = true) := by simp [Hid, h3]
    clear h3
    go_enter Try.func4, Try.ntmps4
    go_wp2_with (go_at_call 13; refine (a2Long_any A n c _ hn).mono ?_; rintro e w' ⟨rfl, rfl⟩; rw [HD.out])
    go_ret
    exact ⟨rfl, Below.refl _ _⟩
  · have HD : Hid (decide (3000 < n) = false) := by simp [Hid, h3]
    clear h3
    go_enter Try.func4, Try.ntmps4
    go_wp2_with (go_at_call 13; refine (a2Long_any A n c _ hn).mono ?_; rintro e w' ⟨rfl, rfl⟩; rw [HD.out])
    refine (A2Trials_any A n c bs w HB.out hn).mono ?_; rintro e w1 ⟨v, ts, rfl, hd, hw1⟩
    have hbc := fun (f : Int) (h0 : 0 ≤ f) (h2 : f ≤ 2) => drawn_bcode hd h0 h2
    obtain ⟨hpl, hvt, hsm, -⟩ := hd
    obtain ⟨hT, q1, q6, -, -, n1, n2⟩ := bcode_zero (hbc 0 (by omega) (by omega)) hsm
    obtain ⟨AL, cL, rfl, hrl⟩ := hpl.rl
    have KR := Lib.hid (fun W (hW : Below w1.heap.size w1 W) => hrl.below steady_TriM hW)
    have KC := Lib.hid (fun (f : Int) W (hW : Below w1.heap.size w1 W) => impl_CountExplanations AL ts.length cL ts f W (hrl.below steady_TriM hW) hsm (by omega))
    have KD := Lib.hid (impl_Diagnose AL ts.length cL ts w1 hrl hsm (by omega))
    have HBC := Lib.hid hbc
    have HVT := Lib.hid hvt
    have HSM := Lib.hid hsm
    have HT := Lib.hid hT
    have B1 := Lib.hid hw1
    have hz1 := hw1.size
    have HDP := Lib.hid (show dres ts = dpick ts (wid ts) 0 3 by unfold dres; rw [if_pos (hbc 0 (by omega) (by omega))])
    have HCC := Lib.hid (fun (k : Nat) (hk : k ≤ 2) => (show ccount ts k = ((found ts (wid ts) k).length : Int) by unfold ccount; rw [if_pos (hbc k (by omega) (by omega))]; rfl))
    clear hpl hvt hsm hT hbc hrl hw1
    go_wp2_with fail
    refine KD.out.mono ?_; rintro e w2 ⟨vf, rfl, hof, hw2⟩
    have HOF := Lib.hid hof
    have B2 := Lib.hid hw2
    have hz2 := hw2.size
    obtain ⟨AF, cF, rfl, hrf⟩ := hof.reads
    clear hof hw2 hrf KD
    rcases dpick_cases ts (wid ts) 3 0 rfl with ⟨e1, e2⟩ | ⟨j, -, hj2, e1, e2, e3⟩
    · have HE : Hid ((dres ts).2 = 3) := by simp only [Hid]; rw [HDP.out, e1]
      have HNF := Lib.hid e2
      clear e1 e2
      rw [HE.out]
      go_wp2_with fail
      go_loopw [6] (fun kk wr => ∃ k : Nat, k ≤ 3 ∧ kk = .int .i64 k ∧ Below w1.heap.size w1 wr) (fun kk _ => 3 - (intOf kk).toNat)
      case atStart => exact ⟨0, by omega, rfl, B2.out⟩
      case round =>
        obtain ⟨k, hk, rfl, hbr⟩ := hrel
        have HBR := Lib.hid hbr; clear hbr
        by_cases hk3 : k < 3
        · have hi2 : (k : Int) ≤ 2 := by omega
          have HC0 : Hid (ccount ts k = 0) := by simp only [Hid]; rw [HCC.out k (by omega), HNF.out k (by omega) hk3]; rfl
          have HB0 : Hid (bcode ts k = 0) := HBC.out k (by omega) (by omega)
          go_wp2_with (go_at_call 11; refine (KC.out _ _ HBR.out).mono ?_; rintro e w3 ⟨rfl, hw3⟩; rw [HC0.out, HB0.out])
          go_roundw
          case rel => exact ⟨k + 1, by omega, by go_num, HBR.out.trans (hw3.mono HBR.out.size)⟩
          case measure => simp [intOf]; omega
        · have hi2 : ¬ (k : Int) ≤ 2 := by omega
          go_wp2
          go_ret
          exact ⟨rfl, B1.out.trans (HBR.out.mono hz1)⟩
    · have HE : Hid ((dres ts).2 = 0) := by simp only [Hid]; rw [HDP.out]; exact e1
      have hmem : (dres ts).1 ∈ found ts (wid ts) j := by rw [HDP.out]; exact e2
      have hfl : (dres ts).1.length = j := found_len hmem
      obtain ⟨hgf, hasc, -⟩ := found_ok hmem hj2
      have hvx : vexpl ts (dres ts).1 = true := (List.mem_filter.1 hmem).2
      have HNF := Lib.hid e3
      have hne : found ts (wid ts) j ≠ [] := List.ne_nil_of_mem hmem
      have hlen1 : 1 ≤ (found ts (wid ts) j).length := List.length_pos_iff.2 hne
      have hlen2 : (found ts (wid ts) j).length ≤ 1000 := by have h := found_length (vexpl ts) (k := (fsets (wid ts) j).length) q6 hj2; rw [List.take_length] at h; exact h
      rw [HE.out]
      obtain ⟨fl, hfle⟩ : ∃ fl, fl = (dres ts).1 := ⟨_, rfl⟩
      rw [← hfle] at HOF hmem hfl hgf hasc hvx ⊢
      have HMEM := Lib.hid hmem
      have HFL := Lib.hid hfl
      have HVX := Lib.hid hvx
      have KRF := Lib.hid (fun W (hW : Below w2.heap.size w2 W) => (ownF_rl HOF.out).below steady_FltM hW)
      have KE1 := Lib.hid (fun W (hW : Below w2.heap.size w2 W) => specExplains_true AL ts.length cL ts AF fl.length cF fl W (KR.out W (B2.out.trans (hW.mono hz2))) HSM.out HVT.out HT.out q1 q6 (KRF.out W hW) hgf hasc hvx n1 (by omega) (by omega))
      have KE2 := Lib.hid (fun W (hW : Below w2.heap.size w2 W) => implExplains_true AL ts.length cL ts AF fl.length cF fl W (KR.out W (B2.out.trans (hW.mono hz2))) HSM.out HVT.out HT.out q1 (KRF.out W hW) hgf hasc hvx n1 (by omega) (by omega))
      have KSL := Lib.hid (fun W (hW : Below w1.heap.size w1 W) => impl_SuspectLevers AL ts.length cL ts (j : Int) W (KR.out W hW) HSM.out (by omega))
      have KW := Lib.hid (fun W (hW : Below w1.heap.size w1 W) => WrongTrials_any AL ts.length cL ts W (KR.out W hW) HSM.out HVT.out (fun t ht => (HT.out t ht).1) (by omega))
      have hflj : (fl.length : Int) = (j : Int) := by omega
      have HSC : Hid (scode ts (j : Int) = 0) := by
        simp only [Hid]; unfold scode; rw [if_pos (HBC.out j (by omega) (by omega)), if_neg (by simpa using hne)]
      have HSLI : Hid (slist ts (j : Int) = sus (found ts (wid ts) j) (wid ts)) := by
        simp only [Hid]; unfold slist; rw [if_pos (HBC.out j (by omega) (by omega)), if_neg (by simpa using hne)]; rfl
      have HWR : Hid (vexpl ts [] = true ↔ j = 0) := by
        simp only [Hid]
        constructor
        · intro h
          rcases Nat.eq_zero_or_pos j with h0 | h0
          · exact h0
          · have := found_zero.1 (HNF.out 0 (Nat.le_refl _) h0)
            rw [h] at this; cases this
        · intro h
          have h0 : fl = [] := List.eq_nil_of_length_eq_zero (by omega)
          rw [← h0]; exact hvx
      have hfl2 : fl.length ≤ 2 := by omega
      have hgt : ¬ (2 : Int) < (fl.length : Int) := by omega
      have hgtd : decide ((2 : Int) < (fl.length : Int)) = false := decide_eq_false hgt
      have hgtd2 : decide (2 < fl.length) = false := decide_eq_false (by omega)
      clear e1 e2 e3 hmem hfl hgf hasc hvx hne hfle
      go_wp2_with (first
        | (go_at_call 16; refine (KE1.out _ (Below.refl _ _)).mono ?_; rintro e w3 ⟨rfl, hw3⟩)
        | (go_at_call 17; refine (KE2.out _ hw3).mono ?_; rintro e w4 ⟨rfl, hw4⟩))
      have B4 := Lib.hid (hw3.trans (hw4.mono hw3.size))
      clear hw3 hw4
      go_loopw [9] (fun kk wr => ∃ k : Nat, k ≤ j ∧ kk = .int .i64 k ∧ Below w2.heap.size w2 wr) (fun kk _ => j - (intOf kk).toNat)
      case atStart => exact ⟨0, by omega, rfl, B4.out⟩
      case round =>
        obtain ⟨k, hk, rfl, hbr⟩ := hrel
        have HB2R := Lib.hid hbr
        have HBR := Lib.hid (B2.out.trans (hbr.mono hz2)); clear hbr
        by_cases hkj : k < j
        · have hi2 : (k : Int) < (fl.length : Int) := by omega
          have HC0 : Hid (ccount ts k = 0) := by simp only [Hid]; rw [HCC.out k (by omega), HNF.out k (by omega) hkj]; rfl
          have HB0 : Hid (bcode ts k = 0) := HBC.out k (by omega) (by omega)
          go_wp2_with (go_at_call 11; refine (KC.out _ _ HBR.out).mono ?_; rintro e w5 ⟨rfl, hw5⟩; rw [HC0.out, HB0.out])
          go_roundw
          case rel => exact ⟨k + 1, by omega, by go_num, HB2R.out.trans (hw5.mono HB2R.out.size)⟩
          case measure => simp [intOf]; omega
        · have hi2 : ¬ (k : Int) < (fl.length : Int) := by omega
          have HC0 : Hid (ccount ts (j : Int) = ((found ts (wid ts) j).length : Int)) := HCC.out j hj2
          have HB0 : Hid (bcode ts (j : Int) = 0) := HBC.out j (by omega) (by omega)
          obtain ⟨cnt, hcnt⟩ : ∃ cnt : Nat, cnt = (found ts (wid ts) j).length := ⟨_, rfl⟩
          rw [← hcnt] at HC0 hlen1 hlen2
          clear hcnt
          have hcl : ¬ (cnt : Int) < 1 := by omega
          have hcld : decide ((cnt : Int) < 1) = false := decide_eq_false hcl
          have hcz : (cnt == 0) = false := by rw [beq_eq_false_iff_ne]; omega
          have hcnz : ¬ cnt = 0 := by omega
          go_wp2_with fail
          refine (KC.out _ _ HBR.out).mono ?_; rintro e w5 ⟨rfl, hw5⟩; rw [HC0.out, HB0.out]
          have B5 := Lib.hid (HBR.out.trans (hw5.mono HBR.out.size))
          have C5 := Lib.hid (HB2R.out.trans (hw5.mono HB2R.out.size))
          clear hw5
          go_wp2_with fail
          refine (KSL.out _ B5.out).mono ?_; rintro e w6 ⟨v6, rfl, hs6, hw6⟩; rw [HSC.out]
          have hslb : (slist ts (j : Int)).length ≤ 6 := by rw [HSLI.out]; exact Nat.le_trans (sus_len _ _) q6
          have hmemb : ∀ x ∈ slist ts (j : Int), fl.any (fun f => f.lever == x) = true := by
            intro x hx
            rw [HSLI.out] at hx
            unfold sus at hx
            obtain ⟨l, hl, rfl⟩ := List.mem_map.1 hx
            have h2 := (List.mem_filter.1 hl).2
            rw [List.all_eq_true] at h2
            exact h2 fl HMEM.out
          obtain ⟨A6, c6, rfl, hri6⟩ := hs6.reads
          obtain ⟨hri6, -⟩ := hri6
          have B6 := Lib.hid (B5.out.trans (hw6.mono B5.out.size))
          obtain ⟨sl, hsl⟩ : ∃ sl, sl = slist ts (j : Int) := ⟨_, rfl⟩
          rw [← hsl] at hslb hmemb hri6 ⊢
          have HMB := Lib.hid hmemb
          have HRI6 := Lib.hid hri6
          have HF6 := Lib.hid (KRF.out w6 (C5.out.trans (hw6.mono C5.out.size)))
          clear hsl hmemb hri6 hs6 hw6
          go_wp2_with fail
          go_loopw [16] (fun ii W => ∃ i : Nat, i ≤ sl.length ∧ ii = .int .i64 i ∧ ∃ q, W = w6.drewN q) (fun ii _ => sl.length - (intOf ii).toNat)
          case atStart => exact ⟨0, Nat.zero_le _, rfl, 0, rfl⟩
          case round =>
            obtain ⟨i, hi, rfl, q, rfl⟩ := hrel
            by_cases hin : i < sl.length
            · have hi1 : (i : Int) < (sl.length : Int) := by omega
              have hi0 : (0 : Int) ≤ (i : Int) := by omega
              obtain ⟨ad6, hA6, hl6, hil, hc6⟩ := HRI6.out.at_ hin
              have HANY := Lib.hid (HMB.out _ (List.getElem_mem hil))
              obtain ⟨x, hx⟩ : ∃ x, x = sl[i] := ⟨_, rfl⟩
              rw [← hx] at hc6 HANY
              clear hx
              subst hA6
              go_wp2_with fail
              go_loopw [18, 17] (fun jj sm W => ∃ p : Nat, p ≤ fl.length ∧ jj = .int .i64 p ∧ sm = .bool ((fl.take p).any (fun f => f.lever == x)) ∧ ∃ q, W = w6.drewN q) (fun jj _ _ => fl.length - (intOf jj).toNat)
              case atStart => exact ⟨0, Nat.zero_le _, rfl, rfl, q, rfl⟩
              case round =>
                obtain ⟨p, hp, rfl, rfl, q', rfl⟩ := hrel
                by_cases hpn : p < fl.length
                · have hp1 : (p : Int) < (fl.length : Int) := by omega
                  have hp0 : (0 : Int) ≤ (p : Int) := by omega
                  obtain ⟨adf, hAf, hlf, hpl, k1, k2⟩ := HF6.out.at_ hpn
                  have HAN := Lib.hid (any_take_succ hpl (fun f => f.lever == x))
                  subst hAf
                  rcases hsm : (fl.take p).any (fun f => f.lever == x) with _ | _
                  · rcases hlv : (fl[p].lever == x) with _ | _
                    all_goals
                      have H1 := Lib.hid hsm
                      have H2 := Lib.hid hlv
                      clear hsm
                      go_wp2
                      go_quiet (fail)
                      go_wp2
                      go_roundw
                      case rel => exact ⟨p + 1, by omega, by go_num, by rw [HAN.out, H1.out, H2.out]; rfl, by first | exact ⟨_, rfl⟩ | exact ⟨_, World.drewN_drewN _ _ _⟩⟩
                      case measure => simp [intOf]; omega
                  · have H1 := Lib.hid hsm
                    clear hsm
                    go_wp2
                    go_quiet (fail)
                    go_wp2
                    go_roundw
                    case rel => exact ⟨p + 1, by omega, by go_num, by rw [HAN.out, H1.out]; rfl, by first | exact ⟨_, rfl⟩ | exact ⟨_, World.drewN_drewN _ _ _⟩⟩
                    case measure => simp [intOf]; omega
                · have hpe : (fl.take p).any (fun f => f.lever == x) = true := by rw [List.take_of_length_le (by omega)]; exact HANY.out
                  rw [hpe]
                  clear hpe
                  go_wp2
                  go_roundw
                  case rel => exact ⟨i + 1, by omega, by go_num, q', rfl⟩
                  case measure => simp [intOf]; omega
            · go_wp2_with fail
              refine (KW.out _ (below_drewN B6.out _)).mono ?_; rintro e w7 ⟨A7, c7, ds7, rfl, -, hiff, hw7⟩
              have HIF := Lib.hid (hiff.trans HWR.out)
              have B7 := Lib.hid ((below_drewN B6.out q).trans (hw7.mono B6.out.size))
              clear hiff hw7
              have hfin : ((ds7.length : Int) == 0) = ((fl.length : Int) == 0) := by
                have h := HIF.out
                rcases Nat.eq_zero_or_pos j with h0 | h0
                · have h1 := h.2 h0
                  have h2 : fl.length = 0 := by omega
                  rw [h1, h2]
                · have h1 : ds7.length ≠ 0 := fun e => by have := h.1 e; omega
                  rw [beq_eq_false_iff_ne.2 (by omega), beq_eq_false_iff_ne.2 (by omega)]
              rcases Nat.eq_zero_or_pos j with h0 | h0
              · have z1 : ds7.length = 0 := HIF.out.2 h0
                have z2 : fl.length = 0 := by omega
                have z3 : ((ds7.length : Int) == 0) = true := by rw [z1]; rfl
                have z4 : ((fl.length : Int) == 0) = true := by rw [z2]; rfl
                clear hfin
                go_wp2_with fail
                go_ret
                exact ⟨rfl, B1.out.trans (B7.out.mono hz1)⟩
              · have z1 : ds7.length ≠ 0 := fun e => by have := HIF.out.1 e; omega
                have z3 : ((ds7.length : Int) == 0) = false := beq_eq_false_iff_ne.2 (by omega)
                have z4 : ((fl.length : Int) == 0) = false := beq_eq_false_iff_ne.2 (by omega)
                have z5 : ((j : Int) == 0) = false := beq_eq_false_iff_ne.2 (by omega)
                clear hfin
                go_wp2_with fail
                go_ret
                exact ⟨by first | rfl | exact ret_bool (by rw [z5]; rfl), B1.out.trans (B7.out.mono hz1)⟩
end Go.Proofs.Ytmnegfhigfipbaa
