/- For every input the law FnAccumulated returns true and leaves its argument as it was: where no bell rings the number is the sum, transfers keep the sum of both, and clearing turns lead to 0. No condition. -/
import Derived.Test.YtikcifpdnbhpiaaZC1
import Derived.Test.YtikcifpdnbhpiaaZC2
import Derived.Test.YtikcifpdnbhpiaaZC3
import Derived.Test.YtikcifpdnbhpiaaZC4
import Derived.OpenShut
import Derived.Deep.DeepHandedRow
import Derived.Lib.LaidTab
namespace Go.Proofs.Ytikcifpdnbhpiaa
open Go.RowKit Go.Sort
theorem rowLen {w0 w : World} {m : List Ent} {A : Option Addr} {c : Nat} {ds : List Int} (h : Kn w0 (rowI A c ds :: m) w) : ds.length ≤ 9223372036854775807 := by
  have h0 : w.ownsRow 0 2 1 (.slice A ds.length c) ds.length (ds.map (Value.int .i64)) := h.at0
  rcases h0.2 with ⟨h1, h2⟩ | ⟨g', cap, cur, hv, hb, hg, hn, hc, -⟩
  · omega
  · unfold maxLen at hc; omega
set_option maxRecDepth 100000 in
set_option maxHeartbeats 40000000 in
theorem law_Accumulated (A : Option Addr) (n c : Nat) (bs : List UInt8) (w : World) (hb : RB w A n bs) (hn : n ≤ 9223372036854775807) :
    Calls Try.prog 3 #[.slice A n c] w fun e w' => e = .returned (.bool true) ∧ Below w.heap.size w w' := by
  have HB := Lib.hid (fun W (hW : Below w.heap.size w W) => hb.below hW)
  clear hb
  rcases hbig : decide ((n : Int) > 4096) with _ | _
  · go_enter Try.func3, Try.ntmps3
    go_wp2_with (go_at_call 4; refine (f6big_any A n c w).mono ?_; rw [hbig]; rintro e w' ⟨rfl, rfl⟩)
    refine (DrawAccumulateAll_any A n c bs _ (HB.out _ (Below.refl _ _)) hn).mono ?_; rintro e w1 ⟨b1, A1, c1, ds1, X1, m1, xs1, rfl, ⟨l1, l2⟩, K1⟩
    have KA := (fun W (hr : RI W A1 ds1.length ds1) (hx : RI W X1 xs1.length xs1) => (AccumulateAll_any b1 A1 c1 ds1 X1 m1 xs1 W hr (by omega) hx (by omega)).mono (fun e w' h => h.v))
    have KB := (fun W (hr : RI W A1 ds1.length ds1) (hx : RI W X1 xs1.length xs1) => (specAccumulateAll_any b1 A1 c1 ds1 X1 m1 xs1 W hr (by omega) hx (by omega)).mono (fun e w' h => h.v))
    obtain ⟨⟨p1, us1, ys1⟩, hV1⟩ : ∃ v, aaV b1 ds1 xs1 = v := ⟨_, rfl⟩
    obtain ⟨q1, hq1⟩ : ∃ v, aaC b1 ds1 xs1 = v := ⟨_, rfl⟩
    rw [hV1, hq1] at KA KB
    replace KA := Lib.hid KA
    replace KB := Lib.hid KB
    have HV1 := Lib.hid hV1
    have HQ1 := Lib.hid hq1
    clear hV1 hq1
    go_wp2_with fail
    refine Calls.kn (K1.al [.int .i64 b1, .slice A1 ds1.length c1] 26) ?_; intro w2 K2
    obtain ⟨g1, hg1⟩ : ∃ g, w1.heap.size = g := ⟨_, rfl⟩
    rw [hg1] at K2 ⊢
    clear hg1 K1
    refine (KA.out _ (Kn.riv (K2.front 1 rfl)) (Kn.riv (K2.front 2 rfl))).mono ?_; rintro e w3 ⟨E1, k1, B1, n1, rfl, hJ⟩
    have K3 := K2.join hJ
    clear K2 hJ
    obtain ⟨a1, a2, a3, -⟩ := K3.cells
    go_wp2_with fail
    refine Calls.kn (K3.al [.int .i64 p1, .slice E1 us1.length k1] 26) ?_; intro w4 K4
    obtain ⟨g2, hg2⟩ : ∃ g, w3.heap.size = g := ⟨_, rfl⟩
    rw [hg2] at K4 ⊢
    clear hg2 K3 a1 a2 a3
    refine (KB.out _ (Kn.riv (K4.front 4 rfl)) (Kn.riv (K4.front 5 rfl))).mono ?_; rintro e w5 ⟨E2, k2, B2, n2, rfl, hJ⟩
    have K5 := K4.join hJ
    clear K4 hJ
    go_wp2_with fail
    refine Calls.kn ((K5.al [.int .i64 p1, .slice E2 us1.length k2] 26).sel [0, 3, 8, 6, 7, 5, 1, 4, 2] 99 (by decide) (by decide)) ?_; intro w6 K6
    clear K5
    refine (DrawAccumulateNumber_any A n c bs _ (HB.out _ K6.below) hn).mono ?_; rintro e w7 ⟨b2, A2, c2, ds2, x2, rfl, l3, hJ⟩
    have K7 := K6.join hJ
    clear K6 hJ
    have KA := (fun W (hr : RI W A2 ds2.length ds2) => (AccumulateNumber_any b2 A2 c2 ds2 x2 W hr (by omega)).mono (fun e w' h => h.v))
    have KB := (fun W (hr : RI W A2 ds2.length ds2) => (specAccumulateNumber_any b2 A2 c2 ds2 x2 W hr (by omega)).mono (fun e w' h => h.v))
    obtain ⟨⟨p2, us2, r2⟩, hV2⟩ : ∃ v, anV b2 ds2 x2 = v := ⟨_, rfl⟩
    obtain ⟨q2, hq2⟩ : ∃ v, anC b2 ds2 x2 = v := ⟨_, rfl⟩
    rw [hV2, hq2] at KA KB
    replace KA := Lib.hid KA
    replace KB := Lib.hid KB
    clear hV2 hq2
    go_wp2_with fail
    refine Calls.kn (K7.al [.int .i64 b2, .slice A2 ds2.length c2] 26) ?_; intro w8 K8
    obtain ⟨g4, hg4⟩ : ∃ g, w7.heap.size = g := ⟨_, rfl⟩
    rw [hg4] at K8 ⊢
    clear hg4 K7
    refine (KA.out _ (Kn.riv (K8.front 1 rfl))).mono ?_; rintro e w9 ⟨E3, k3, rfl, hJ⟩
    have K9 := K8.join hJ
    clear K8 hJ
    obtain ⟨a1, a2, a3, -⟩ := K9.cells
    go_wp2_with fail
    refine Calls.kn (K9.al [.int .i64 p2, .slice E3 us2.length k3] 26) ?_; intro w10 K10
    clear K9 a1 a2 a3
    refine (KB.out _ (Kn.riv (K10.front 3 rfl))).mono ?_; rintro e w11 ⟨E4, k4, rfl, hJ⟩
    have K11 := K10.join hJ
    clear K10 hJ
    go_wp2_with fail
    refine Calls.kn (K11.al [.int .i64 p2, .slice E4 us2.length k4] 26) ?_; intro w12 K12
    clear K11
    refine (DrawTransferTo_any A n c bs _ (HB.out _ K12.below) hn).mono ?_; rintro e w13 ⟨b3, A3, c3, ds3, b4, A4, c4, ds4, rfl, ⟨l4, l5⟩, hJ⟩
    have K13 := K12.join hJ
    clear K12 hJ
    have KA := (fun W (hr : RI W A3 ds3.length ds3) (hr2 : RI W A4 ds4.length ds4) => (TransferTo_any b3 A3 c3 ds3 b4 A4 c4 ds4 W hr (by omega) hr2 (by omega)).mono (fun e w' h => h.v))
    have KB := (fun W (hr : RI W A3 ds3.length ds3) (hr2 : RI W A4 ds4.length ds4) => (specTransferTo_any b3 A3 c3 ds3 b4 A4 c4 ds4 W hr (by omega) hr2 (by omega)).mono (fun e w' h => h.v))
    obtain ⟨⟨⟨p3, us3⟩, ⟨p4, us4⟩, r3⟩, hV3⟩ : ∃ v, tfV b3 ds3 b4 ds4 = v := ⟨_, rfl⟩
    obtain ⟨q3, hq3⟩ : ∃ v, tfC b3 ds3 b4 ds4 = v := ⟨_, rfl⟩
    rw [hV3, hq3] at KA KB
    replace KA := Lib.hid KA
    replace KB := Lib.hid KB
    have HV3 := Lib.hid hV3
    have HQ3 := Lib.hid hq3
    clear hV3 hq3
    go_wp2_with fail
    refine Calls.kn ((K13.al [.int .i64 b3, .slice A3 ds3.length c3] 26).al [.int .i64 b4, .slice A4 ds4.length c4] 26) ?_; intro w14 K14
    simp only [World.size_alloc] at K14
    obtain ⟨g5, hg5⟩ : ∃ g, w13.heap.size = g := ⟨_, rfl⟩
    rw [hg5] at K14 ⊢
    clear hg5 K13
    refine (KA.out _ (Kn.riv (K14.front 2 rfl)) (Kn.riv (K14.front 3 rfl))).mono ?_; rintro e w15 ⟨E5, k5, E6, k6, rfl, hJ⟩
    have K15 := K14.join hJ
    clear K14 hJ
    obtain ⟨a1, a2, a3, d1, d2, d3, -⟩ := K15.cells
    go_wp2_with fail
    refine Calls.kn ((K15.al [.int .i64 p3, .slice E5 us3.length k5] 26).al [.int .i64 p4, .slice E6 us4.length k6] 26) ?_; intro w16 K16
    simp only [World.size_alloc] at K16
    clear K15 a1 a2 a3 d1 d2 d3
    refine (KB.out _ (Kn.riv (K16.front 6 rfl)) (Kn.riv (K16.front 7 rfl))).mono ?_; rintro e w17 ⟨E7, k7, E8, k8, rfl, hJ⟩
    have K17 := K16.join hJ
    clear K16 hJ
    go_wp2_with fail
    refine Calls.kn ((K17.al [.int .i64 p3, .slice E7 us3.length k7] 26).al [.int .i64 p4, .slice E8 us4.length k8] 26) ?_; intro w18 K18
    simp only [World.size_alloc] at K18
    clear K17
    refine (DrawClearTurns_any A n c bs _ (HB.out _ K18.below) hn).mono ?_; rintro e w19 ⟨b5, A5, c5, ds5, rfl, l6, hJ⟩
    have K19 := K18.join hJ
    clear K18 hJ
    have KA := (fun W (hr : RI W A5 ds5.length ds5) => ClearTurns_any b5 A5 c5 ds5 W hr (by omega))
    have KB := (fun W (hr : RI W A5 ds5.length ds5) => specClearTurns_any b5 A5 c5 ds5 W hr (by omega))
    unfold CTRet at KA KB
    obtain ⟨ts, hts⟩ : ∃ v, ctR b5 ds5 = v := ⟨_, rfl⟩
    obtain ⟨q5, hq5⟩ : ∃ v : Int, (if vreg b5 ds5 then 0 else 1) = v := ⟨_, rfl⟩
    rw [hts, hq5] at KA KB
    replace KA := Lib.hid KA
    replace KB := Lib.hid KB
    have HTS := Lib.hid hts
    have HQ5 := Lib.hid hq5
    clear hts hq5
    go_wp2_with fail
    refine Calls.kn (K19.al [.int .i64 b5, .slice A5 ds5.length c5] 26) ?_; intro w20 K20
    clear K19
    obtain ⟨g7, hg7⟩ : ∃ g, w19.heap.size = g := ⟨_, rfl⟩
    rw [hg7] at K20 ⊢
    clear hg7
    refine (KA.out _ (Kn.riv (K20.front 1 rfl))).mono ?_; rintro e w21 ⟨E9, k9, rfl, hJ⟩
    have K21 := K20.join hJ
    clear K20 hJ
    obtain ⟨a1, a2, a3, -⟩ := K21.cells
    go_wp2_with fail
    refine Calls.kn K21 ?_; intro w22 K22
    clear K21 a1 a2 a3
    refine (KB.out _ (Kn.riv (K22.front 2 rfl))).mono ?_; rintro e w23 ⟨E10, k10, rfl, hJ⟩
    have K23 := K22.join hJ
    clear K22 hJ
    go_wp2_with fail
    refine (DrawNumberOf_any A n c bs _ (HB.out _ K23.below) hn).mono ?_; rintro e w24 ⟨b6, A6, c6, ds6, rfl, l7, hJ⟩
    have K24 := K23.join hJ
    clear K23 hJ
    have KA := (fun W (hr : RI W A6 ds6.length ds6) => NumberOf_any b6 A6 c6 ds6 W hr (by omega))
    have KB := (fun W (hr : RI W A6 ds6.length ds6) => specNumberOf_any b6 A6 c6 ds6 W hr (by omega))
    obtain ⟨v6, hv6⟩ : ∃ v, (if aOk b6 ds6 then aNum b6 ds6 else 0) = v := ⟨_, rfl⟩
    obtain ⟨q6, hq6⟩ : ∃ v : Int, (if aOk b6 ds6 then 0 else 1) = v := ⟨_, rfl⟩
    rw [hv6, hq6] at KA KB
    replace KA := Lib.hid KA
    replace KB := Lib.hid KB
    clear hv6 hq6
    go_wp2_with fail
    refine Calls.kn (K24.al [.int .i64 b6, .slice A6 ds6.length c6] 26) ?_; intro w25 K25
    clear K24
    obtain ⟨g8, hg8⟩ : ∃ g, w24.heap.size = g := ⟨_, rfl⟩
    rw [hg8] at K25 ⊢
    clear hg8
    refine (KA.out _ (Kn.riv (K25.front 1 rfl))).mono ?_; rintro e w26 ⟨rfl, hw⟩
    have K26 := K25.keep hw
    clear K25 hw
    obtain ⟨a1, a2, a3, -⟩ := K26.cells
    go_wp2_with fail
    refine (KB.out _ (Kn.riv (K26.front 1 rfl))).mono ?_; rintro e w27 ⟨rfl, hw⟩
    have K27 := K26.keep hw
    clear K26 hw a1 a2 a3
    obtain ⟨a1, a2, a3, -⟩ := (K27.front 25 rfl).cells
    obtain ⟨d1, d2, d3, -⟩ := (K27.front 24 rfl).cells
    go_wp2_with fail
    refine (specSameRegister_same _ _ _ _ _ _ _ (Kn.riv (K27.front 29 rfl)) (Kn.riv (K27.front 32 rfl)) (rowLen (K27.front 29 rfl))).mono ?_; rintro e w28 ⟨rfl, hw⟩
    have K28 := K27.keep hw
    clear K27 hw a1 a2 a3 d1 d2 d3
    go_wp2_with fail
    refine (f6ints_any _ _ _ _ _ _ _ _ _ (Kn.riv (K28.front 31 rfl)) (Kn.riv (K28.front 30 rfl)) (rowLen (K28.front 31 rfl)) (rowLen (K28.front 30 rfl))).mono ?_; rintro e w29 ⟨rfl, q, rfl⟩
    have K29 := K28.drewN q
    clear K28
    obtain ⟨a1, a2, a3, -⟩ := (K29.front 20 rfl).cells
    obtain ⟨d1, d2, d3, -⟩ := (K29.front 18 rfl).cells
    go_wp2_with fail
    refine (specSameRegister_same _ _ _ _ _ _ _ (Kn.riv (K29.front 21 rfl)) (Kn.riv (K29.front 19 rfl)) (rowLen (K29.front 21 rfl))).mono ?_; rintro e w30 ⟨rfl, hw⟩
    have K30 := K29.keep hw
    clear K29 hw a1 a2 a3 d1 d2 d3
    obtain ⟨a1, a2, a3, -⟩ := (K30.front 11 rfl).cells
    obtain ⟨d1, d2, d3, -⟩ := (K30.front 7 rfl).cells
    go_wp2_with fail
    refine (specSameRegister_same _ _ _ _ _ _ _ (Kn.riv (K30.front 13 rfl)) (Kn.riv (K30.front 9 rfl)) (rowLen (K30.front 13 rfl))).mono ?_; rintro e w31 ⟨rfl, hw⟩
    have K31 := K30.keep hw
    clear K30 hw a1 a2 a3 d1 d2 d3
    obtain ⟨a1, a2, a3, -⟩ := (K31.front 10 rfl).cells
    obtain ⟨d1, d2, d3, -⟩ := (K31.front 6 rfl).cells
    go_wp2_with fail
    refine (specSameRegister_same _ _ _ _ _ _ _ (Kn.riv (K31.front 12 rfl)) (Kn.riv (K31.front 8 rfl)) (rowLen (K31.front 12 rfl))).mono ?_; rintro e w32 ⟨rfl, hw⟩
    have K32 := K31.keep hw
    clear K31 hw a1 a2 a3 d1 d2 d3
    go_wp2_with fail
    refine (f6ints_any _ _ _ _ _ _ _ _ _ (Kn.riv (K32.front 3 rfl)) (Kn.riv (K32.front 2 rfl)) (rowLen (K32.front 3 rfl)) (rowLen (K32.front 2 rfl))).mono ?_; rintro e w33 ⟨rfl, q, rfl⟩
    have K33 := K32.drewN q
    clear K32
    go_upto_region 20 with fail
    refine Code.wp.kn (K33.sel [4, 3, 5, 10, 14, 15, 16, 17, 25, 26, 27, 28, 29, 12] 99 (by decide) (by decide)) ?_; intro w34 K34
    clear K33
    obtain ⟨f1, f2, f3, -⟩ := K34.cells
    rcases hv5 : vreg b5 ds5 with _ | _
    · have hq5 := HQ5.out
      rw [hv5] at hq5
      simp only [Bool.false_eq_true, if_false] at hq5
      subst hq5
      clear hv5 f1 f2 f3
      go_upto_region 26 with fail
      rcases hq3 : decide (q3 = 0) with _ | _
      · have hq3n : ¬ q3 = 0 := by simpa using hq3
        have HC3 := Lib.hid hq3n
        clear hq3
        go_upto_region 32 with fail
        rcases hq1 : decide (q1 = 0) with _ | _
        · have hq1n : ¬ q1 = 0 := by simpa using hq1
          clear hq1
          go_wp2_with fail
          go_ret
          exact ⟨rfl, (K34).below⟩
        · have hq1n : q1 = 0 := by simpa using hq1
          have H0 := HQ1.out
          rw [hq1n] at H0
          have HV := HV1.out
          clear hq1
          subst hq1n
          rcases ys1 with _ | ⟨yh, yt⟩
          · have hok : aOk b1 ds1 = true ∧ inA xs1 = true := by
              unfold aaC at H0
              split at H0
              · cases H0
              · split at H0
                · cases H0
                · rename_i h h'
                  exact ⟨by simpa using h, by simpa using h'⟩
            unfold aaV at HV
            rw [if_pos H0] at HV
            injection HV with e1 e2
            injection e2 with e2 e3
            subst e1
            have hbd := fun k => aNum_bd (accD_ok hok.1 xs1 k)
            have hsum : ∀ k, k ≤ xs1.length → aNum b1 (accD b1 ds1 xs1 k) = aNum b1 ds1 + sumL (xs1.take k) := fun k hk => acc_sum hok.1 k hk (accB_nil_le k (xs1.length - k) (by rw [show k + (xs1.length - k) = xs1.length by omega]; exact e3))
            have hin : ∀ (k : Nat) (h : k < xs1.length), -1000000000000 ≤ xs1[k] ∧ xs1[k] ≤ 1000000000000 := fun k h => betB_iff.1 (inA_get hok.2 h)
            have hok1 : aOk b1 us1 = true := by rw [← e2]; exact accD_ok hok.1 _ _
            have hfin : aNum b1 us1 = aNum b1 ds1 + sumL xs1 := by
              have := hsum xs1.length (Nat.le_refl _)
              rw [List.take_length] at this
              rw [← e2]; exact this
            have KN1 := (fun W (hr : RI W A1 ds1.length ds1) => NumberOf_any b1 A1 c1 ds1 W hr (by omega))
            have KN2 := (fun W (hr : RI W E1 us1.length us1) (hm : us1.length ≤ 9223372036854775807) => NumberOf_any b1 E1 k1 us1 W hr hm)
            rw [if_pos hok.1, if_pos hok.1] at KN1
            rw [if_pos hok1, if_pos hok1, hfin] at KN2
            obtain ⟨S, hS⟩ : ∃ S : Nat → Int, (fun k => aNum b1 ds1 + sumL (xs1.take k)) = S := ⟨_, rfl⟩
            have hS0 : S 0 = aNum b1 ds1 := by rw [← hS]; simp [sumL]
            have hSn : S xs1.length = aNum b1 ds1 + sumL xs1 := by rw [← hS]; simp
            have hSb : ∀ k, k ≤ xs1.length → -1000000000001 ≤ S k ∧ S k ≤ 1000000000001 := fun k hk => by
              have := hbd k
              rw [hsum k hk] at this
              rw [← hS]; exact this
            have hSs : ∀ (k : Nat) (h : k < xs1.length), S (k + 1) = S k + xs1[k] := fun k h => by
              rw [← hS]; simp only [List.take_succ_eq_append_getElem h, sumL_snoc]; omega
            rw [← hS0] at KN1
            rw [← hSn] at KN2
            replace KN1 := Lib.hid KN1
            replace KN2 := Lib.hid KN2
            have HSB := Lib.hid hSb
            have HSS := Lib.hid hSs
            have HIN := Lib.hid hin
            clear hSb hSs hin hS hS0 hSn hfin hok1 hsum hbd hok e2 e3 H0
            have KS := (K34).sel [8, 9, 10, 11, 12] 99 (by decide) (by decide)
            obtain ⟨a1, a2, a3, d1, d2, d3, -⟩ := KS.cells
            go_wp2_with fail
            refine (KN1.out _ (Kn.riv (KS.front 3 rfl))).mono ?_; rintro e w51 ⟨rfl, hw⟩
            have K51 := KS.keep hw
            clear hw KS a1 a2 a3 d1 d2 d3
            go_wp2_with fail
            go_loopw [46, 48] (fun ss ii wr => ∃ k : Nat, k ≤ xs1.length ∧ ii = .int .i64 k ∧ ss = .int .i64 (S k) ∧ Below w51.heap.size w51 wr) (fun _ ii _ => xs1.length - (intOf ii).toNat)
            case atStart => exact ⟨0, Nat.zero_le _, rfl, rfl, Below.refl _ _⟩
            case round =>
              obtain ⟨k, hk, rfl, rfl, hbl⟩ := hrel
              have K52 := K51.keep hbl
              have HBL := Lib.hid hbl
              clear hbl
              by_cases hkn : k < xs1.length
              · obtain ⟨ad, hA, hlt, hkl, hc⟩ := (Kn.riv (K52.front 1 rfl)).at_ hkn
                obtain ⟨x, hx⟩ : ∃ x, xs1[k] = x := ⟨_, rfl⟩
                rw [hx] at hc
                have hb1 := HSB.out k (by omega)
                have hb2 := HIN.out k hkn
                rw [hx] at hb2
                have hss := HSS.out k hkn
                rw [hx] at hss
                obtain ⟨s0, hs0⟩ : ∃ z, S k = z := ⟨_, rfl⟩
                rw [hs0] at hb1 hss ⊢
                have HS1 := Lib.hid hss
                have hwr : IntKind.i64.wrap (s0 + x) = s0 + x := wrapI64 (by omega)
                have hwb : -9223372036854775808 ≤ s0 + x ∧ s0 + x ≤ 9223372036854775807 := by omega
                have hi0 : (0 : Int) ≤ (k : Int) := by omega
                have hi1 : (k : Int) < (xs1.length : Int) := by omega
                subst hA
                clear hx hss hs0
                go_wp2_with fail
                go_roundw
                case rel => exact ⟨k + 1, by omega, by go_num, by rw [HS1.out], HBL.out⟩
                case measure => simp [intOf]; omega
              · obtain rfl : k = xs1.length := by omega
                have hi1 : ¬ (xs1.length : Int) < (xs1.length : Int) := by omega
                obtain ⟨a1, a2, a3, d1, d2, d3, -⟩ := K52.cells
                go_wp2_with fail
                refine (KN2.out _ (Kn.riv (K52.front 4 rfl)) (rowLen (K52.front 4 rfl))).mono ?_; rintro e w53 ⟨rfl, hw⟩
                have K53 := K52.keep hw
                clear hw a1 a2 a3 d1 d2 d3
                go_wp2_with fail
                go_ret
                exact ⟨rfl, K53.below⟩
          · have hyl : ((yh :: yt).length : Int) > 0 := by simp only [List.length_cons]; omega
            obtain ⟨L, hL⟩ : ∃ L, (yh :: yt).length = L := ⟨_, rfl⟩
            have hyl2 : (0 : Int) < (L : Int) := by omega
            have hyl3 : 0 < L := by omega
            go_wp2_with fail
            go_ret
            exact ⟨rfl, (K34).below⟩
      · have hq3n : q3 = 0 := by simpa using hq3
        have H0 := HQ3.out
        rw [hq3n] at H0
        have HV := HV3.out
        clear hq3
        subst hq3n
        rcases r3 with _ | _
        · have hok : aOk b3 ds3 = true ∧ aOk b4 ds4 = true := by
            unfold tfC at H0
            split at H0
            · cases H0
            · rename_i h; revert h; rcases aOk b3 ds3 with _ | _ <;> rcases aOk b4 ds4 with _ | _ <;> simp
          have hsum := tf_sum H0 (by rw [HV]) hok.2 (fun y hy => aNum_aSet_ok hok.2 hy)
          have hok4 : aOk p4 us4 = true := by
            have hv : (tfV b3 ds3 b4 ds4).2.1 = (p4, us4) := by rw [HV]
            unfold tfV at hv
            rw [if_pos H0] at hv
            injection hv with h1 h2
            rw [← h1, ← h2]
            exact aSet_ok hok.2 _
          rw [HV] at hsum
          have bd3 := aNum_bd hok.1
          have bd4 := aNum_bd hok.2
          have KN1 := (fun W (hr : RI W A3 ds3.length ds3) => NumberOf_any b3 A3 c3 ds3 W hr (by omega))
          have KN2 := (fun W (hr : RI W A4 ds4.length ds4) => NumberOf_any b4 A4 c4 ds4 W hr (by omega))
          have KN3 := (fun W (hr : RI W E6 us4.length us4) (hm : us4.length ≤ 9223372036854775807) => NumberOf_any p4 E6 k6 us4 W hr hm)
          rw [if_pos hok.1, if_pos hok.1] at KN1
          rw [if_pos hok.2, if_pos hok.2] at KN2
          rw [if_pos hok4, if_pos hok4, hsum] at KN3
          obtain ⟨x3, hx3⟩ : ∃ v, aNum b3 ds3 = v := ⟨_, rfl⟩
          obtain ⟨x4, hx4⟩ : ∃ v, aNum b4 ds4 = v := ⟨_, rfl⟩
          rw [hx3] at KN1 KN3 bd3
          rw [hx4] at KN2 KN3 bd4
          have hwr : IntKind.i64.wrap (x3 + x4) = x3 + x4 := wrapI64 (by omega)
          have hwr2 : -9223372036854775808 ≤ x3 + x4 ∧ x3 + x4 ≤ 9223372036854775807 := by omega
          have hcm : x4 + x3 = x3 + x4 := Int.add_comm _ _
          rw [hcm] at KN3
          replace KN1 := Lib.hid KN1
          replace KN2 := Lib.hid KN2
          replace KN3 := Lib.hid KN3
          clear hsum HV H0 hok hok4 hx3 hx4 hcm
          have KS34 := K34.sel [0, 1, 2, 3, 4, 5, 6, 7, 8, 9, 10, 11, 12, 13] 99 (by decide) (by decide)
          obtain ⟨f1, f2, f3, a1, a2, a3, d1, d2, d3, e1, e2, e3, -⟩ := KS34.cells
          go_wp2_with fail
          refine (KN1.out _ (Kn.riv (KS34.front 6 rfl))).mono ?_; rintro e w41 ⟨rfl, hw⟩
          have K41 := KS34.keep hw
          clear hw KS34 f1 f2 f3 a1 a2 a3 d1 d2 d3 e1 e2 e3
          obtain ⟨f1, f2, f3, a1, a2, a3, d1, d2, d3, e1, e2, e3, -⟩ := K41.cells
          go_wp2_with fail
          refine (KN2.out _ (Kn.riv (K41.front 7 rfl))).mono ?_; rintro e w42 ⟨rfl, hw⟩
          have K42 := K41.keep hw
          clear hw K41 f1 f2 f3 a1 a2 a3 d1 d2 d3 e1 e2 e3
          obtain ⟨f1, f2, f3, a1, a2, a3, d1, d2, d3, e1, e2, e3, -⟩ := K42.cells
          go_wp2_with fail
          refine (KN3.out _ (Kn.riv (K42.front 13 rfl)) (rowLen (K42.front 13 rfl))).mono ?_; rintro e w43 ⟨rfl, hw⟩
          have K43 := K42.keep hw
          clear hw K42 f1 f2 f3 a1 a2 a3 d1 d2 d3 e1 e2 e3
          go_upto_region 32 with fail
          rcases hq1 : decide (q1 = 0) with _ | _
          · have hq1n : ¬ q1 = 0 := by simpa using hq1
            clear hq1
            go_wp2_with fail
            go_ret
            exact ⟨rfl, (K43).below⟩
          · have hq1n : q1 = 0 := by simpa using hq1
            have H0 := HQ1.out
            rw [hq1n] at H0
            have HV := HV1.out
            clear hq1
            subst hq1n
            rcases ys1 with _ | ⟨yh, yt⟩
            · have hok : aOk b1 ds1 = true ∧ inA xs1 = true := by
                unfold aaC at H0
                split at H0
                · cases H0
                · split at H0
                  · cases H0
                  · rename_i h h'
                    exact ⟨by simpa using h, by simpa using h'⟩
              unfold aaV at HV
              rw [if_pos H0] at HV
              injection HV with e1 e2
              injection e2 with e2 e3
              subst e1
              have hbd := fun k => aNum_bd (accD_ok hok.1 xs1 k)
              have hsum : ∀ k, k ≤ xs1.length → aNum b1 (accD b1 ds1 xs1 k) = aNum b1 ds1 + sumL (xs1.take k) := fun k hk => acc_sum hok.1 k hk (accB_nil_le k (xs1.length - k) (by rw [show k + (xs1.length - k) = xs1.length by omega]; exact e3))
              have hin : ∀ (k : Nat) (h : k < xs1.length), -1000000000000 ≤ xs1[k] ∧ xs1[k] ≤ 1000000000000 := fun k h => betB_iff.1 (inA_get hok.2 h)
              have hok1 : aOk b1 us1 = true := by rw [← e2]; exact accD_ok hok.1 _ _
              have hfin : aNum b1 us1 = aNum b1 ds1 + sumL xs1 := by
                have := hsum xs1.length (Nat.le_refl _)
                rw [List.take_length] at this
                rw [← e2]; exact this
              have KN1 := (fun W (hr : RI W A1 ds1.length ds1) => NumberOf_any b1 A1 c1 ds1 W hr (by omega))
              have KN2 := (fun W (hr : RI W E1 us1.length us1) (hm : us1.length ≤ 9223372036854775807) => NumberOf_any b1 E1 k1 us1 W hr hm)
              rw [if_pos hok.1, if_pos hok.1] at KN1
              rw [if_pos hok1, if_pos hok1, hfin] at KN2
              obtain ⟨S, hS⟩ : ∃ S : Nat → Int, (fun k => aNum b1 ds1 + sumL (xs1.take k)) = S := ⟨_, rfl⟩
              have hS0 : S 0 = aNum b1 ds1 := by rw [← hS]; simp [sumL]
              have hSn : S xs1.length = aNum b1 ds1 + sumL xs1 := by rw [← hS]; simp
              have hSb : ∀ k, k ≤ xs1.length → -1000000000001 ≤ S k ∧ S k ≤ 1000000000001 := fun k hk => by
                have := hbd k
                rw [hsum k hk] at this
                rw [← hS]; exact this
              have hSs : ∀ (k : Nat) (h : k < xs1.length), S (k + 1) = S k + xs1[k] := fun k h => by
                rw [← hS]; simp only [List.take_succ_eq_append_getElem h, sumL_snoc]; omega
              rw [← hS0] at KN1
              rw [← hSn] at KN2
              replace KN1 := Lib.hid KN1
              replace KN2 := Lib.hid KN2
              have HSB := Lib.hid hSb
              have HSS := Lib.hid hSs
              have HIN := Lib.hid hin
              clear hSb hSs hin hS hS0 hSn hfin hok1 hsum hbd hok e2 e3 H0
              have KS := (K43).sel [8, 9, 10, 11, 12] 99 (by decide) (by decide)
              obtain ⟨a1, a2, a3, d1, d2, d3, -⟩ := KS.cells
              go_wp2_with fail
              refine (KN1.out _ (Kn.riv (KS.front 3 rfl))).mono ?_; rintro e w51 ⟨rfl, hw⟩
              have K51 := KS.keep hw
              clear hw KS a1 a2 a3 d1 d2 d3
              go_wp2_with fail
              go_loopw [46, 48] (fun ss ii wr => ∃ k : Nat, k ≤ xs1.length ∧ ii = .int .i64 k ∧ ss = .int .i64 (S k) ∧ Below w51.heap.size w51 wr) (fun _ ii _ => xs1.length - (intOf ii).toNat)
              case atStart => exact ⟨0, Nat.zero_le _, rfl, rfl, Below.refl _ _⟩
              case round =>
                obtain ⟨k, hk, rfl, rfl, hbl⟩ := hrel
                have K52 := K51.keep hbl
                have HBL := Lib.hid hbl
                clear hbl
                by_cases hkn : k < xs1.length
                · obtain ⟨ad, hA, hlt, hkl, hc⟩ := (Kn.riv (K52.front 1 rfl)).at_ hkn
                  obtain ⟨x, hx⟩ : ∃ x, xs1[k] = x := ⟨_, rfl⟩
                  rw [hx] at hc
                  have hb1 := HSB.out k (by omega)
                  have hb2 := HIN.out k hkn
                  rw [hx] at hb2
                  have hss := HSS.out k hkn
                  rw [hx] at hss
                  obtain ⟨s0, hs0⟩ : ∃ z, S k = z := ⟨_, rfl⟩
                  rw [hs0] at hb1 hss ⊢
                  have HS1 := Lib.hid hss
                  have hwr : IntKind.i64.wrap (s0 + x) = s0 + x := wrapI64 (by omega)
                  have hwb : -9223372036854775808 ≤ s0 + x ∧ s0 + x ≤ 9223372036854775807 := by omega
                  have hi0 : (0 : Int) ≤ (k : Int) := by omega
                  have hi1 : (k : Int) < (xs1.length : Int) := by omega
                  subst hA
                  clear hx hss hs0
                  go_wp2_with fail
                  go_roundw
                  case rel => exact ⟨k + 1, by omega, by go_num, by rw [HS1.out], HBL.out⟩
                  case measure => simp [intOf]; omega
                · obtain rfl : k = xs1.length := by omega
                  have hi1 : ¬ (xs1.length : Int) < (xs1.length : Int) := by omega
                  obtain ⟨a1, a2, a3, d1, d2, d3, -⟩ := K52.cells
                  go_wp2_with fail
                  refine (KN2.out _ (Kn.riv (K52.front 4 rfl)) (rowLen (K52.front 4 rfl))).mono ?_; rintro e w53 ⟨rfl, hw⟩
                  have K53 := K52.keep hw
                  clear hw a1 a2 a3 d1 d2 d3
                  go_wp2_with fail
                  go_ret
                  exact ⟨rfl, K53.below⟩
            · have hyl : ((yh :: yt).length : Int) > 0 := by simp only [List.length_cons]; omega
              obtain ⟨L, hL⟩ : ∃ L, (yh :: yt).length = L := ⟨_, rfl⟩
              have hyl2 : (0 : Int) < (L : Int) := by omega
              have hyl3 : 0 < L := by omega
              go_wp2_with fail
              go_ret
              exact ⟨rfl, (K43).below⟩
        · go_upto_region 32 with fail
          rcases hq1 : decide (q1 = 0) with _ | _
          · have hq1n : ¬ q1 = 0 := by simpa using hq1
            clear hq1
            go_wp2_with fail
            go_ret
            exact ⟨rfl, (K34).below⟩
          · have hq1n : q1 = 0 := by simpa using hq1
            have H0 := HQ1.out
            rw [hq1n] at H0
            have HV := HV1.out
            clear hq1
            subst hq1n
            rcases ys1 with _ | ⟨yh, yt⟩
            · have hok : aOk b1 ds1 = true ∧ inA xs1 = true := by
                unfold aaC at H0
                split at H0
                · cases H0
                · split at H0
                  · cases H0
                  · rename_i h h'
                    exact ⟨by simpa using h, by simpa using h'⟩
              unfold aaV at HV
              rw [if_pos H0] at HV
              injection HV with e1 e2
              injection e2 with e2 e3
              subst e1
              have hbd := fun k => aNum_bd (accD_ok hok.1 xs1 k)
              have hsum : ∀ k, k ≤ xs1.length → aNum b1 (accD b1 ds1 xs1 k) = aNum b1 ds1 + sumL (xs1.take k) := fun k hk => acc_sum hok.1 k hk (accB_nil_le k (xs1.length - k) (by rw [show k + (xs1.length - k) = xs1.length by omega]; exact e3))
              have hin : ∀ (k : Nat) (h : k < xs1.length), -1000000000000 ≤ xs1[k] ∧ xs1[k] ≤ 1000000000000 := fun k h => betB_iff.1 (inA_get hok.2 h)
              have hok1 : aOk b1 us1 = true := by rw [← e2]; exact accD_ok hok.1 _ _
              have hfin : aNum b1 us1 = aNum b1 ds1 + sumL xs1 := by
                have := hsum xs1.length (Nat.le_refl _)
                rw [List.take_length] at this
                rw [← e2]; exact this
              have KN1 := (fun W (hr : RI W A1 ds1.length ds1) => NumberOf_any b1 A1 c1 ds1 W hr (by omega))
              have KN2 := (fun W (hr : RI W E1 us1.length us1) (hm : us1.length ≤ 9223372036854775807) => NumberOf_any b1 E1 k1 us1 W hr hm)
              rw [if_pos hok.1, if_pos hok.1] at KN1
              rw [if_pos hok1, if_pos hok1, hfin] at KN2
              obtain ⟨S, hS⟩ : ∃ S : Nat → Int, (fun k => aNum b1 ds1 + sumL (xs1.take k)) = S := ⟨_, rfl⟩
              have hS0 : S 0 = aNum b1 ds1 := by rw [← hS]; simp [sumL]
              have hSn : S xs1.length = aNum b1 ds1 + sumL xs1 := by rw [← hS]; simp
              have hSb : ∀ k, k ≤ xs1.length → -1000000000001 ≤ S k ∧ S k ≤ 1000000000001 := fun k hk => by
                have := hbd k
                rw [hsum k hk] at this
                rw [← hS]; exact this
              have hSs : ∀ (k : Nat) (h : k < xs1.length), S (k + 1) = S k + xs1[k] := fun k h => by
                rw [← hS]; simp only [List.take_succ_eq_append_getElem h, sumL_snoc]; omega
              rw [← hS0] at KN1
              rw [← hSn] at KN2
              replace KN1 := Lib.hid KN1
              replace KN2 := Lib.hid KN2
              have HSB := Lib.hid hSb
              have HSS := Lib.hid hSs
              have HIN := Lib.hid hin
              clear hSb hSs hin hS hS0 hSn hfin hok1 hsum hbd hok e2 e3 H0
              have KS := (K34).sel [8, 9, 10, 11, 12] 99 (by decide) (by decide)
              obtain ⟨a1, a2, a3, d1, d2, d3, -⟩ := KS.cells
              go_wp2_with fail
              refine (KN1.out _ (Kn.riv (KS.front 3 rfl))).mono ?_; rintro e w51 ⟨rfl, hw⟩
              have K51 := KS.keep hw
              clear hw KS a1 a2 a3 d1 d2 d3
              go_wp2_with fail
              go_loopw [46, 48] (fun ss ii wr => ∃ k : Nat, k ≤ xs1.length ∧ ii = .int .i64 k ∧ ss = .int .i64 (S k) ∧ Below w51.heap.size w51 wr) (fun _ ii _ => xs1.length - (intOf ii).toNat)
              case atStart => exact ⟨0, Nat.zero_le _, rfl, rfl, Below.refl _ _⟩
              case round =>
                obtain ⟨k, hk, rfl, rfl, hbl⟩ := hrel
                have K52 := K51.keep hbl
                have HBL := Lib.hid hbl
                clear hbl
                by_cases hkn : k < xs1.length
                · obtain ⟨ad, hA, hlt, hkl, hc⟩ := (Kn.riv (K52.front 1 rfl)).at_ hkn
                  obtain ⟨x, hx⟩ : ∃ x, xs1[k] = x := ⟨_, rfl⟩
                  rw [hx] at hc
                  have hb1 := HSB.out k (by omega)
                  have hb2 := HIN.out k hkn
                  rw [hx] at hb2
                  have hss := HSS.out k hkn
                  rw [hx] at hss
                  obtain ⟨s0, hs0⟩ : ∃ z, S k = z := ⟨_, rfl⟩
                  rw [hs0] at hb1 hss ⊢
                  have HS1 := Lib.hid hss
                  have hwr : IntKind.i64.wrap (s0 + x) = s0 + x := wrapI64 (by omega)
                  have hwb : -9223372036854775808 ≤ s0 + x ∧ s0 + x ≤ 9223372036854775807 := by omega
                  have hi0 : (0 : Int) ≤ (k : Int) := by omega
                  have hi1 : (k : Int) < (xs1.length : Int) := by omega
                  subst hA
                  clear hx hss hs0
                  go_wp2_with fail
                  go_roundw
                  case rel => exact ⟨k + 1, by omega, by go_num, by rw [HS1.out], HBL.out⟩
                  case measure => simp [intOf]; omega
                · obtain rfl : k = xs1.length := by omega
                  have hi1 : ¬ (xs1.length : Int) < (xs1.length : Int) := by omega
                  obtain ⟨a1, a2, a3, d1, d2, d3, -⟩ := K52.cells
                  go_wp2_with fail
                  refine (KN2.out _ (Kn.riv (K52.front 4 rfl)) (rowLen (K52.front 4 rfl))).mono ?_; rintro e w53 ⟨rfl, hw⟩
                  have K53 := K52.keep hw
                  clear hw a1 a2 a3 d1 d2 d3
                  go_wp2_with fail
                  go_ret
                  exact ⟨rfl, K53.below⟩
            · have hyl : ((yh :: yt).length : Int) > 0 := by simp only [List.length_cons]; omega
              obtain ⟨L, hL⟩ : ∃ L, (yh :: yt).length = L := ⟨_, rfl⟩
              have hyl2 : (0 : Int) < (L : Int) := by omega
              have hyl3 : 0 < L := by omega
              go_wp2_with fail
              go_ret
              exact ⟨rfl, (K34).below⟩
    · have hq5 := HQ5.out
      rw [hv5] at hq5
      simp only [if_true] at hq5
      subst hq5
      obtain ⟨⟨b1', b2'⟩, -, hd5, -⟩ := vreg_iff.1 hv5
      have hts : ts = ctL b5 ds5 := by rw [← HTS.out]; unfold ctR; rw [if_pos hv5]
      have hl5 : ts.length = ds5.length := by rw [hts, ctL_len]
      have HD5 := Lib.hid hd5
      have HT5 := Lib.hid hts
      have HL5 := Lib.hid hl5
      clear hv5 hd5 hts hl5 f1 f2 f3
      go_wp2_with fail
      go_loopw [39] (fun kk wr => ∃ k : Nat, k ≤ ts.length ∧ kk = .int .i64 k ∧ Below w34.heap.size w34 wr) (fun kk _ => ts.length - (intOf kk).toNat)
      case atStart => exact ⟨0, Nat.zero_le _, rfl, Below.refl _ _⟩
      case round =>
        obtain ⟨k, hk, rfl, hbl⟩ := hrel
        have K35 := K34.keep hbl
        have HBL := Lib.hid hbl
        clear hbl
        by_cases hkn : k < ts.length
        · have hkd : k < ds5.length := by have := HL5.out; omega
          obtain ⟨ad, hA, hlt, hkl, hc⟩ := (Kn.riv (K35.front 2 rfl)).at_ hkd
          obtain ⟨bd, hB, hlt2, hkl2, hc2⟩ := (Kn.riv (K35.front 1 rfl)).at_ hkn
          have hu : ts[k] = (b5 - ds5[k]).tmod b5 := by
            have h1 := HT5.out
            simp only [h1, ctL, List.getElem_map]
          obtain ⟨d0, d1⟩ := HD5.out _ (List.getElem_mem hkl)
          rw [hu] at hc2
          obtain ⟨d, hd⟩ : ∃ d, ds5[k] = d := ⟨_, rfl⟩
          rw [hd] at hc hc2 d0 d1
          have hz := clear_zero (b := b5) (d := d) (by omega) d0 d1
          have hu1 : 0 ≤ (b5 - d).tmod b5 ∧ (b5 - d).tmod b5 < b5 := ⟨Int.tmod_nonneg _ (by omega), Int.tmod_lt_of_pos _ (by omega)⟩
          obtain ⟨u, hu2⟩ : ∃ u, (b5 - d).tmod b5 = u := ⟨_, rfl⟩
          rw [hu2] at hc2 hz hu1
          have nz1 : b5 ≠ 0 := by omega
          have nz2 : (b5 == 0) = false := by simp; omega
          have w1' : IntKind.i64.wrap (d + u) = d + u := wrapI64 (by omega)
          have w2' : IntKind.i64.wrap ((d + u).tmod b5) = 0 := by rw [hz]; rfl
          have w3' : -9223372036854775808 ≤ d + u ∧ d + u ≤ 9223372036854775807 := by omega
          have hi0 : (0 : Int) ≤ (k : Int) := by omega
          have hi1 : (k : Int) < (ts.length : Int) := by omega
          have hi2 : (k : Int) < (ds5.length : Int) := by omega
          obtain ⟨f1, f2, f3, -⟩ := K35.cells
          subst hA
          subst hB
          clear hu hd hu2
          go_wp2_with fail
          go_quiet (fail)
          go_wp2_with fail
          go_roundw
          case rel => exact ⟨k + 1, by omega, by go_num, below_drewN HBL.out _⟩
          case measure => simp [intOf]; omega
        · have hi1 : ¬ (k : Int) < (ts.length : Int) := by omega
          go_upto_region 26 with fail
          rcases hq3 : decide (q3 = 0) with _ | _
          · have hq3n : ¬ q3 = 0 := by simpa using hq3
            have HC3 := Lib.hid hq3n
            clear hq3
            go_upto_region 32 with fail
            rcases hq1 : decide (q1 = 0) with _ | _
            · have hq1n : ¬ q1 = 0 := by simpa using hq1
              clear hq1
              go_wp2_with fail
              go_ret
              exact ⟨rfl, (K35).below⟩
            · have hq1n : q1 = 0 := by simpa using hq1
              have H0 := HQ1.out
              rw [hq1n] at H0
              have HV := HV1.out
              clear hq1
              subst hq1n
              rcases ys1 with _ | ⟨yh, yt⟩
              · have hok : aOk b1 ds1 = true ∧ inA xs1 = true := by
                  unfold aaC at H0
                  split at H0
                  · cases H0
                  · split at H0
                    · cases H0
                    · rename_i h h'
                      exact ⟨by simpa using h, by simpa using h'⟩
                unfold aaV at HV
                rw [if_pos H0] at HV
                injection HV with e1 e2
                injection e2 with e2 e3
                subst e1
                have hbd := fun k => aNum_bd (accD_ok hok.1 xs1 k)
                have hsum : ∀ k, k ≤ xs1.length → aNum b1 (accD b1 ds1 xs1 k) = aNum b1 ds1 + sumL (xs1.take k) := fun k hk => acc_sum hok.1 k hk (accB_nil_le k (xs1.length - k) (by rw [show k + (xs1.length - k) = xs1.length by omega]; exact e3))
                have hin : ∀ (k : Nat) (h : k < xs1.length), -1000000000000 ≤ xs1[k] ∧ xs1[k] ≤ 1000000000000 := fun k h => betB_iff.1 (inA_get hok.2 h)
                have hok1 : aOk b1 us1 = true := by rw [← e2]; exact accD_ok hok.1 _ _
                have hfin : aNum b1 us1 = aNum b1 ds1 + sumL xs1 := by
                  have := hsum xs1.length (Nat.le_refl _)
                  rw [List.take_length] at this
                  rw [← e2]; exact this
                have KN1 := (fun W (hr : RI W A1 ds1.length ds1) => NumberOf_any b1 A1 c1 ds1 W hr (by omega))
                have KN2 := (fun W (hr : RI W E1 us1.length us1) (hm : us1.length ≤ 9223372036854775807) => NumberOf_any b1 E1 k1 us1 W hr hm)
                rw [if_pos hok.1, if_pos hok.1] at KN1
                rw [if_pos hok1, if_pos hok1, hfin] at KN2
                obtain ⟨S, hS⟩ : ∃ S : Nat → Int, (fun k => aNum b1 ds1 + sumL (xs1.take k)) = S := ⟨_, rfl⟩
                have hS0 : S 0 = aNum b1 ds1 := by rw [← hS]; simp [sumL]
                have hSn : S xs1.length = aNum b1 ds1 + sumL xs1 := by rw [← hS]; simp
                have hSb : ∀ k, k ≤ xs1.length → -1000000000001 ≤ S k ∧ S k ≤ 1000000000001 := fun k hk => by
                  have := hbd k
                  rw [hsum k hk] at this
                  rw [← hS]; exact this
                have hSs : ∀ (k : Nat) (h : k < xs1.length), S (k + 1) = S k + xs1[k] := fun k h => by
                  rw [← hS]; simp only [List.take_succ_eq_append_getElem h, sumL_snoc]; omega
                rw [← hS0] at KN1
                rw [← hSn] at KN2
                replace KN1 := Lib.hid KN1
                replace KN2 := Lib.hid KN2
                have HSB := Lib.hid hSb
                have HSS := Lib.hid hSs
                have HIN := Lib.hid hin
                clear hSb hSs hin hS hS0 hSn hfin hok1 hsum hbd hok e2 e3 H0
                have KS := (K35).sel [8, 9, 10, 11, 12] 99 (by decide) (by decide)
                obtain ⟨a1, a2, a3, d1, d2, d3, -⟩ := KS.cells
                go_wp2_with fail
                refine (KN1.out _ (Kn.riv (KS.front 3 rfl))).mono ?_; rintro e w51 ⟨rfl, hw⟩
                have K51 := KS.keep hw
                clear hw KS a1 a2 a3 d1 d2 d3
                go_wp2_with fail
                go_loopw [46, 48] (fun ss ii wr => ∃ k : Nat, k ≤ xs1.length ∧ ii = .int .i64 k ∧ ss = .int .i64 (S k) ∧ Below w51.heap.size w51 wr) (fun _ ii _ => xs1.length - (intOf ii).toNat)
                case atStart => exact ⟨0, Nat.zero_le _, rfl, rfl, Below.refl _ _⟩
                case round =>
                  obtain ⟨k, hk, rfl, rfl, hbl⟩ := hrel
                  have K52 := K51.keep hbl
                  have HBL := Lib.hid hbl
                  clear hbl
                  by_cases hkn : k < xs1.length
                  · obtain ⟨ad, hA, hlt, hkl, hc⟩ := (Kn.riv (K52.front 1 rfl)).at_ hkn
                    obtain ⟨x, hx⟩ : ∃ x, xs1[k] = x := ⟨_, rfl⟩
                    rw [hx] at hc
                    have hb1 := HSB.out k (by omega)
                    have hb2 := HIN.out k hkn
                    rw [hx] at hb2
                    have hss := HSS.out k hkn
                    rw [hx] at hss
                    obtain ⟨s0, hs0⟩ : ∃ z, S k = z := ⟨_, rfl⟩
                    rw [hs0] at hb1 hss ⊢
                    have HS1 := Lib.hid hss
                    have hwr : IntKind.i64.wrap (s0 + x) = s0 + x := wrapI64 (by omega)
                    have hwb : -9223372036854775808 ≤ s0 + x ∧ s0 + x ≤ 9223372036854775807 := by omega
                    have hi0 : (0 : Int) ≤ (k : Int) := by omega
                    have hi1 : (k : Int) < (xs1.length : Int) := by omega
                    subst hA
                    clear hx hss hs0
                    go_wp2_with fail
                    go_roundw
                    case rel => exact ⟨k + 1, by omega, by go_num, by rw [HS1.out], HBL.out⟩
                    case measure => simp [intOf]; omega
                  · obtain rfl : k = xs1.length := by omega
                    have hi1 : ¬ (xs1.length : Int) < (xs1.length : Int) := by omega
                    obtain ⟨a1, a2, a3, d1, d2, d3, -⟩ := K52.cells
                    go_wp2_with fail
                    refine (KN2.out _ (Kn.riv (K52.front 4 rfl)) (rowLen (K52.front 4 rfl))).mono ?_; rintro e w53 ⟨rfl, hw⟩
                    have K53 := K52.keep hw
                    clear hw a1 a2 a3 d1 d2 d3
                    go_wp2_with fail
                    go_ret
                    exact ⟨rfl, K53.below⟩
              · have hyl : ((yh :: yt).length : Int) > 0 := by simp only [List.length_cons]; omega
                obtain ⟨L, hL⟩ : ∃ L, (yh :: yt).length = L := ⟨_, rfl⟩
                have hyl2 : (0 : Int) < (L : Int) := by omega
                have hyl3 : 0 < L := by omega
                go_wp2_with fail
                go_ret
                exact ⟨rfl, (K35).below⟩
          · have hq3n : q3 = 0 := by simpa using hq3
            have H0 := HQ3.out
            rw [hq3n] at H0
            have HV := HV3.out
            clear hq3
            subst hq3n
            rcases r3 with _ | _
            · have hok : aOk b3 ds3 = true ∧ aOk b4 ds4 = true := by
                unfold tfC at H0
                split at H0
                · cases H0
                · rename_i h; revert h; rcases aOk b3 ds3 with _ | _ <;> rcases aOk b4 ds4 with _ | _ <;> simp
              have hsum := tf_sum H0 (by rw [HV]) hok.2 (fun y hy => aNum_aSet_ok hok.2 hy)
              have hok4 : aOk p4 us4 = true := by
                have hv : (tfV b3 ds3 b4 ds4).2.1 = (p4, us4) := by rw [HV]
                unfold tfV at hv
                rw [if_pos H0] at hv
                injection hv with h1 h2
                rw [← h1, ← h2]
                exact aSet_ok hok.2 _
              rw [HV] at hsum
              have bd3 := aNum_bd hok.1
              have bd4 := aNum_bd hok.2
              have KN1 := (fun W (hr : RI W A3 ds3.length ds3) => NumberOf_any b3 A3 c3 ds3 W hr (by omega))
              have KN2 := (fun W (hr : RI W A4 ds4.length ds4) => NumberOf_any b4 A4 c4 ds4 W hr (by omega))
              have KN3 := (fun W (hr : RI W E6 us4.length us4) (hm : us4.length ≤ 9223372036854775807) => NumberOf_any p4 E6 k6 us4 W hr hm)
              rw [if_pos hok.1, if_pos hok.1] at KN1
              rw [if_pos hok.2, if_pos hok.2] at KN2
              rw [if_pos hok4, if_pos hok4, hsum] at KN3
              obtain ⟨x3, hx3⟩ : ∃ v, aNum b3 ds3 = v := ⟨_, rfl⟩
              obtain ⟨x4, hx4⟩ : ∃ v, aNum b4 ds4 = v := ⟨_, rfl⟩
              rw [hx3] at KN1 KN3 bd3
              rw [hx4] at KN2 KN3 bd4
              have hwr : IntKind.i64.wrap (x3 + x4) = x3 + x4 := wrapI64 (by omega)
              have hwr2 : -9223372036854775808 ≤ x3 + x4 ∧ x3 + x4 ≤ 9223372036854775807 := by omega
              have hcm : x4 + x3 = x3 + x4 := Int.add_comm _ _
              rw [hcm] at KN3
              replace KN1 := Lib.hid KN1
              replace KN2 := Lib.hid KN2
              replace KN3 := Lib.hid KN3
              clear hsum HV H0 hok hok4 hx3 hx4 hcm
              have KS34 := K35.sel [0, 1, 2, 3, 4, 5, 6, 7, 8, 9, 10, 11, 12, 13] 99 (by decide) (by decide)
              obtain ⟨f1, f2, f3, a1, a2, a3, d1, d2, d3, e1, e2, e3, -⟩ := KS34.cells
              go_wp2_with fail
              refine (KN1.out _ (Kn.riv (KS34.front 6 rfl))).mono ?_; rintro e w41 ⟨rfl, hw⟩
              have K41 := KS34.keep hw
              clear hw KS34 f1 f2 f3 a1 a2 a3 d1 d2 d3 e1 e2 e3
              obtain ⟨f1, f2, f3, a1, a2, a3, d1, d2, d3, e1, e2, e3, -⟩ := K41.cells
              go_wp2_with fail
              refine (KN2.out _ (Kn.riv (K41.front 7 rfl))).mono ?_; rintro e w42 ⟨rfl, hw⟩
              have K42 := K41.keep hw
              clear hw K41 f1 f2 f3 a1 a2 a3 d1 d2 d3 e1 e2 e3
              obtain ⟨f1, f2, f3, a1, a2, a3, d1, d2, d3, e1, e2, e3, -⟩ := K42.cells
              go_wp2_with fail
              refine (KN3.out _ (Kn.riv (K42.front 13 rfl)) (rowLen (K42.front 13 rfl))).mono ?_; rintro e w43 ⟨rfl, hw⟩
              have K43 := K42.keep hw
              clear hw K42 f1 f2 f3 a1 a2 a3 d1 d2 d3 e1 e2 e3
              go_upto_region 32 with fail
              rcases hq1 : decide (q1 = 0) with _ | _
              · have hq1n : ¬ q1 = 0 := by simpa using hq1
                clear hq1
                go_wp2_with fail
                go_ret
                exact ⟨rfl, (K43).below⟩
              · have hq1n : q1 = 0 := by simpa using hq1
                have H0 := HQ1.out
                rw [hq1n] at H0
                have HV := HV1.out
                clear hq1
                subst hq1n
                rcases ys1 with _ | ⟨yh, yt⟩
                · have hok : aOk b1 ds1 = true ∧ inA xs1 = true := by
                    unfold aaC at H0
                    split at H0
                    · cases H0
                    · split at H0
                      · cases H0
                      · rename_i h h'
                        exact ⟨by simpa using h, by simpa using h'⟩
                  unfold aaV at HV
                  rw [if_pos H0] at HV
                  injection HV with e1 e2
                  injection e2 with e2 e3
                  subst e1
                  have hbd := fun k => aNum_bd (accD_ok hok.1 xs1 k)
                  have hsum : ∀ k, k ≤ xs1.length → aNum b1 (accD b1 ds1 xs1 k) = aNum b1 ds1 + sumL (xs1.take k) := fun k hk => acc_sum hok.1 k hk (accB_nil_le k (xs1.length - k) (by rw [show k + (xs1.length - k) = xs1.length by omega]; exact e3))
                  have hin : ∀ (k : Nat) (h : k < xs1.length), -1000000000000 ≤ xs1[k] ∧ xs1[k] ≤ 1000000000000 := fun k h => betB_iff.1 (inA_get hok.2 h)
                  have hok1 : aOk b1 us1 = true := by rw [← e2]; exact accD_ok hok.1 _ _
                  have hfin : aNum b1 us1 = aNum b1 ds1 + sumL xs1 := by
                    have := hsum xs1.length (Nat.le_refl _)
                    rw [List.take_length] at this
                    rw [← e2]; exact this
                  have KN1 := (fun W (hr : RI W A1 ds1.length ds1) => NumberOf_any b1 A1 c1 ds1 W hr (by omega))
                  have KN2 := (fun W (hr : RI W E1 us1.length us1) (hm : us1.length ≤ 9223372036854775807) => NumberOf_any b1 E1 k1 us1 W hr hm)
                  rw [if_pos hok.1, if_pos hok.1] at KN1
                  rw [if_pos hok1, if_pos hok1, hfin] at KN2
                  obtain ⟨S, hS⟩ : ∃ S : Nat → Int, (fun k => aNum b1 ds1 + sumL (xs1.take k)) = S := ⟨_, rfl⟩
                  have hS0 : S 0 = aNum b1 ds1 := by rw [← hS]; simp [sumL]
                  have hSn : S xs1.length = aNum b1 ds1 + sumL xs1 := by rw [← hS]; simp
                  have hSb : ∀ k, k ≤ xs1.length → -1000000000001 ≤ S k ∧ S k ≤ 1000000000001 := fun k hk => by
                    have := hbd k
                    rw [hsum k hk] at this
                    rw [← hS]; exact this
                  have hSs : ∀ (k : Nat) (h : k < xs1.length), S (k + 1) = S k + xs1[k] := fun k h => by
                    rw [← hS]; simp only [List.take_succ_eq_append_getElem h, sumL_snoc]; omega
                  rw [← hS0] at KN1
                  rw [← hSn] at KN2
                  replace KN1 := Lib.hid KN1
                  replace KN2 := Lib.hid KN2
                  have HSB := Lib.hid hSb
                  have HSS := Lib.hid hSs
                  have HIN := Lib.hid hin
                  clear hSb hSs hin hS hS0 hSn hfin hok1 hsum hbd hok e2 e3 H0
                  have KS := (K43).sel [8, 9, 10, 11, 12] 99 (by decide) (by decide)
                  obtain ⟨a1, a2, a3, d1, d2, d3, -⟩ := KS.cells
                  go_wp2_with fail
                  refine (KN1.out _ (Kn.riv (KS.front 3 rfl))).mono ?_; rintro e w51 ⟨rfl, hw⟩
                  have K51 := KS.keep hw
                  clear hw KS a1 a2 a3 d1 d2 d3
                  go_wp2_with fail
                  go_loopw [46, 48] (fun ss ii wr => ∃ k : Nat, k ≤ xs1.length ∧ ii = .int .i64 k ∧ ss = .int .i64 (S k) ∧ Below w51.heap.size w51 wr) (fun _ ii _ => xs1.length - (intOf ii).toNat)
                  case atStart => exact ⟨0, Nat.zero_le _, rfl, rfl, Below.refl _ _⟩
                  case round =>
                    obtain ⟨k, hk, rfl, rfl, hbl⟩ := hrel
                    have K52 := K51.keep hbl
                    have HBL := Lib.hid hbl
                    clear hbl
                    by_cases hkn : k < xs1.length
                    · obtain ⟨ad, hA, hlt, hkl, hc⟩ := (Kn.riv (K52.front 1 rfl)).at_ hkn
                      obtain ⟨x, hx⟩ : ∃ x, xs1[k] = x := ⟨_, rfl⟩
                      rw [hx] at hc
                      have hb1 := HSB.out k (by omega)
                      have hb2 := HIN.out k hkn
                      rw [hx] at hb2
                      have hss := HSS.out k hkn
                      rw [hx] at hss
                      obtain ⟨s0, hs0⟩ : ∃ z, S k = z := ⟨_, rfl⟩
                      rw [hs0] at hb1 hss ⊢
                      have HS1 := Lib.hid hss
                      have hwr : IntKind.i64.wrap (s0 + x) = s0 + x := wrapI64 (by omega)
                      have hwb : -9223372036854775808 ≤ s0 + x ∧ s0 + x ≤ 9223372036854775807 := by omega
                      have hi0 : (0 : Int) ≤ (k : Int) := by omega
                      have hi1 : (k : Int) < (xs1.length : Int) := by omega
                      subst hA
                      clear hx hss hs0
                      go_wp2_with fail
                      go_roundw
                      case rel => exact ⟨k + 1, by omega, by go_num, by rw [HS1.out], HBL.out⟩
                      case measure => simp [intOf]; omega
                    · obtain rfl : k = xs1.length := by omega
                      have hi1 : ¬ (xs1.length : Int) < (xs1.length : Int) := by omega
                      obtain ⟨a1, a2, a3, d1, d2, d3, -⟩ := K52.cells
                      go_wp2_with fail
                      refine (KN2.out _ (Kn.riv (K52.front 4 rfl)) (rowLen (K52.front 4 rfl))).mono ?_; rintro e w53 ⟨rfl, hw⟩
                      have K53 := K52.keep hw
                      clear hw a1 a2 a3 d1 d2 d3
                      go_wp2_with fail
                      go_ret
                      exact ⟨rfl, K53.below⟩
                · have hyl : ((yh :: yt).length : Int) > 0 := by simp only [List.length_cons]; omega
                  obtain ⟨L, hL⟩ : ∃ L, (yh :: yt).length = L := ⟨_, rfl⟩
                  have hyl2 : (0 : Int) < (L : Int) := by omega
                  have hyl3 : 0 < L := by omega
                  go_wp2_with fail
                  go_ret
                  exact ⟨rfl, (K43).below⟩
            · go_upto_region 32 with fail
              rcases hq1 : decide (q1 = 0) with _ | _
              · have hq1n : ¬ q1 = 0 := by simpa using hq1
                clear hq1
                go_wp2_with fail
                go_ret
                exact ⟨rfl, (K35).below⟩
              · have hq1n : q1 = 0 := by simpa using hq1
                have H0 := HQ1.out
                rw [hq1n] at H0
                have HV := HV1.out
                clear hq1
                subst hq1n
                rcases ys1 with _ | ⟨yh, yt⟩
                · have hok : aOk b1 ds1 = true ∧ inA xs1 = true := by
                    unfold aaC at H0
                    split at H0
                    · cases H0
                    · split at H0
                      · cases H0
                      · rename_i h h'
                        exact ⟨by simpa using h, by simpa using h'⟩
                  unfold aaV at HV
                  rw [if_pos H0] at HV
                  injection HV with e1 e2
                  injection e2 with e2 e3
                  subst e1
                  have hbd := fun k => aNum_bd (accD_ok hok.1 xs1 k)
                  have hsum : ∀ k, k ≤ xs1.length → aNum b1 (accD b1 ds1 xs1 k) = aNum b1 ds1 + sumL (xs1.take k) := fun k hk => acc_sum hok.1 k hk (accB_nil_le k (xs1.length - k) (by rw [show k + (xs1.length - k) = xs1.length by omega]; exact e3))
                  have hin : ∀ (k : Nat) (h : k < xs1.length), -1000000000000 ≤ xs1[k] ∧ xs1[k] ≤ 1000000000000 := fun k h => betB_iff.1 (inA_get hok.2 h)
                  have hok1 : aOk b1 us1 = true := by rw [← e2]; exact accD_ok hok.1 _ _
                  have hfin : aNum b1 us1 = aNum b1 ds1 + sumL xs1 := by
                    have := hsum xs1.length (Nat.le_refl _)
                    rw [List.take_length] at this
                    rw [← e2]; exact this
                  have KN1 := (fun W (hr : RI W A1 ds1.length ds1) => NumberOf_any b1 A1 c1 ds1 W hr (by omega))
                  have KN2 := (fun W (hr : RI W E1 us1.length us1) (hm : us1.length ≤ 9223372036854775807) => NumberOf_any b1 E1 k1 us1 W hr hm)
                  rw [if_pos hok.1, if_pos hok.1] at KN1
                  rw [if_pos hok1, if_pos hok1, hfin] at KN2
                  obtain ⟨S, hS⟩ : ∃ S : Nat → Int, (fun k => aNum b1 ds1 + sumL (xs1.take k)) = S := ⟨_, rfl⟩
                  have hS0 : S 0 = aNum b1 ds1 := by rw [← hS]; simp [sumL]
                  have hSn : S xs1.length = aNum b1 ds1 + sumL xs1 := by rw [← hS]; simp
                  have hSb : ∀ k, k ≤ xs1.length → -1000000000001 ≤ S k ∧ S k ≤ 1000000000001 := fun k hk => by
                    have := hbd k
                    rw [hsum k hk] at this
                    rw [← hS]; exact this
                  have hSs : ∀ (k : Nat) (h : k < xs1.length), S (k + 1) = S k + xs1[k] := fun k h => by
                    rw [← hS]; simp only [List.take_succ_eq_append_getElem h, sumL_snoc]; omega
                  rw [← hS0] at KN1
                  rw [← hSn] at KN2
                  replace KN1 := Lib.hid KN1
                  replace KN2 := Lib.hid KN2
                  have HSB := Lib.hid hSb
                  have HSS := Lib.hid hSs
                  have HIN := Lib.hid hin
                  clear hSb hSs hin hS hS0 hSn hfin hok1 hsum hbd hok e2 e3 H0
                  have KS := (K35).sel [8, 9, 10, 11, 12] 99 (by decide) (by decide)
                  obtain ⟨a1, a2, a3, d1, d2, d3, -⟩ := KS.cells
                  go_wp2_with fail
                  refine (KN1.out _ (Kn.riv (KS.front 3 rfl))).mono ?_; rintro e w51 ⟨rfl, hw⟩
                  have K51 := KS.keep hw
                  clear hw KS a1 a2 a3 d1 d2 d3
                  go_wp2_with fail
                  go_loopw [46, 48] (fun ss ii wr => ∃ k : Nat, k ≤ xs1.length ∧ ii = .int .i64 k ∧ ss = .int .i64 (S k) ∧ Below w51.heap.size w51 wr) (fun _ ii _ => xs1.length - (intOf ii).toNat)
                  case atStart => exact ⟨0, Nat.zero_le _, rfl, rfl, Below.refl _ _⟩
                  case round =>
                    obtain ⟨k, hk, rfl, rfl, hbl⟩ := hrel
                    have K52 := K51.keep hbl
                    have HBL := Lib.hid hbl
                    clear hbl
                    by_cases hkn : k < xs1.length
                    · obtain ⟨ad, hA, hlt, hkl, hc⟩ := (Kn.riv (K52.front 1 rfl)).at_ hkn
                      obtain ⟨x, hx⟩ : ∃ x, xs1[k] = x := ⟨_, rfl⟩
                      rw [hx] at hc
                      have hb1 := HSB.out k (by omega)
                      have hb2 := HIN.out k hkn
                      rw [hx] at hb2
                      have hss := HSS.out k hkn
                      rw [hx] at hss
                      obtain ⟨s0, hs0⟩ : ∃ z, S k = z := ⟨_, rfl⟩
                      rw [hs0] at hb1 hss ⊢
                      have HS1 := Lib.hid hss
                      have hwr : IntKind.i64.wrap (s0 + x) = s0 + x := wrapI64 (by omega)
                      have hwb : -9223372036854775808 ≤ s0 + x ∧ s0 + x ≤ 9223372036854775807 := by omega
                      have hi0 : (0 : Int) ≤ (k : Int) := by omega
                      have hi1 : (k : Int) < (xs1.length : Int) := by omega
                      subst hA
                      clear hx hss hs0
                      go_wp2_with fail
                      go_roundw
                      case rel => exact ⟨k + 1, by omega, by go_num, by rw [HS1.out], HBL.out⟩
                      case measure => simp [intOf]; omega
                    · obtain rfl : k = xs1.length := by omega
                      have hi1 : ¬ (xs1.length : Int) < (xs1.length : Int) := by omega
                      obtain ⟨a1, a2, a3, d1, d2, d3, -⟩ := K52.cells
                      go_wp2_with fail
                      refine (KN2.out _ (Kn.riv (K52.front 4 rfl)) (rowLen (K52.front 4 rfl))).mono ?_; rintro e w53 ⟨rfl, hw⟩
                      have K53 := K52.keep hw
                      clear hw a1 a2 a3 d1 d2 d3
                      go_wp2_with fail
                      go_ret
                      exact ⟨rfl, K53.below⟩
                · have hyl : ((yh :: yt).length : Int) > 0 := by simp only [List.length_cons]; omega
                  obtain ⟨L, hL⟩ : ∃ L, (yh :: yt).length = L := ⟨_, rfl⟩
                  have hyl2 : (0 : Int) < (L : Int) := by omega
                  have hyl3 : 0 < L := by omega
                  go_wp2_with fail
                  go_ret
                  exact ⟨rfl, (K35).below⟩
  · go_enter Try.func3, Try.ntmps3
    go_wp2_with (go_at_call 4; refine (f6big_any A n c w).mono ?_; rw [hbig]; rintro e w' ⟨rfl, rfl⟩)
    go_ret
    exact ⟨rfl, Below.refl _ _⟩
end Go.Proofs.Ytikcifpdnbhpiaa

namespace Go.Proofs.Ytikcifpdnbhpiaa.fnAccumulated
open Go.ChangeShapes Go.WideShapes Go.ChangeAt Go.RowKit
theorem own : ownKnob Try.prog.godebug = none := by kernel_rfl
theorem laidOut : laidOutB Try.prog = true := by kernel_rfl
set_option maxRecDepth 100000 in
theorem contract (H : Type) (enc : TypeId × Value → H) (W : World) (base : Nat) (args : Array Value) (ds gs : List (DataW H)) (before : List MemPlace)
    (hval : ∀ (j : Nat) t v, Try.f3.params[j]? = some t → args[j]? = some v → Value.okWide Try.prog W .any base t v)
    (hW : DataW.Whole enc Try.prog Try.f3.params.toList Rows.fnAccumulatedSpec.vars false W args.toList ds gs before) :
    Calls Try.prog 3 args W fun e W' => ∃ v, e = .returned v ∧ Rows.fnAccumulatedSpec.post enc Try.prog Try.f3 false true false false W args v W' := by
  have hW' := hW
  obtain ⟨p, q, hA0, hV, rfl, hfz, hnd⟩ := hW
  have hA : DataW.TrodAll enc Try.prog W 0 (fun _ => true) true Try.f3.params.toList args.toList ds p := hA0
  rw [Try.params3] at hA hval
  obtain ⟨v0, vs0, d0, ds0, p0, q0, hargs, rfl, rfl, h0, r0⟩ := trodAll_cons hA
  obtain ⟨rfl, rfl, rfl⟩ := trodAll_nil r0
  obtain rfl : args = #[v0] := by cases args; simp_all
  obtain ⟨rfl, rfl⟩ := trodVars_none hV
  clear hA0
  simp only [List.append_nil] at hW'
  have hlt : ∀ x ∈ p0, x.block < W.heap.size := fun x hx => by
    have := hW'.lt x (by simpa using hx)
    simpa using this
  obtain ⟨A, n, c, rfl⟩ := okWide_slice Try.underlying22 (hval 0 _ _ rfl rfl)
  obtain ⟨fuel, hf⟩ := h0
  obtain ⟨A', n', c', bs, hcs, hr, hn⟩ := rd_bytes hf
  have hcs' : A' = A ∧ n' = n ∧ c' = c := by
    have : [Value.slice A n c] = [.slice A' n' c'] := hcs
    injection this with this
    injection this with e1 e2 e3
    exact ⟨e1.symm, e2.symm, e3.symm⟩
  obtain ⟨rfl, rfl, rfl⟩ := hcs'
  have h0 : DataW.Trod enc Try.prog W 0 (fun _ => true) true 22 (.slice A' n' c') d0 p0 := ⟨fuel, hf⟩
  have walk : Calls Try.prog 3 #[.slice A' n' c'] W fun e w' => e = .returned (.bool true) ∧ Below W.heap.size W w' :=
    law_Accumulated A' n' c' bs W hr hn
  refine walk.mono fun e W' ⟨he, hb⟩ => ?_
  subst he
  have hb0 := Below.trod laidOut (by kernel_rfl) (of_decide_eq_true (by kernel_rfl)) h0 hb hlt
  exact ⟨_, rfl, [d0], [], p0 ++ [], [], p0 ++ [], [], by simpa using hW', trodAll_cons_mk (shut_bool Try.underlying4 _) trodAll_mk0, trodAll_cons_mk hb0 trodAll_mk0, rfl, hb.frame _, fun h => by cases h⟩
theorem reads (os : Os) {H : Type} (enc : TypeId × Value → H) : ∃ places, DataW.whole enc Try.prog ((World.holding Try.prog os ⟨#[], #[], []⟩).forCall (fun _ _ => 0) ⟨#[], #[.slice none 0 0], []⟩).memory Try.f3.params.toList Rows.fnAccumulatedSpec.vars false (#[.slice none 0 0] : Array Value).toList 8 = some ([.nil], [], places) :=
  ⟨[], by kernel_rfl⟩
set_option maxRecDepth 100000 in
theorem lifted (os : Os) (started : os.Started) (H : Type) (enc : TypeId × Value → H) (F : Stop.Interp) :
    ReturnsInHanded {} Try.checked os 3 .any ((OpenSpec.ofChange Rows.fnAccumulatedSpec).preRow enc Try.prog Try.f3 Rows.fnAccumulatedRow.domain false Rows.fnAccumulatedRow.laid) (((OpenSpec.ofChange Rows.fnAccumulatedSpec).at F).post enc Try.prog Try.f3 false true false false) := by
  obtain ⟨places, hx⟩ := reads os enc
  refine returnsInHanded_of_row (C := Try.checked) (s := OpenSpec.ofChange Rows.fnAccumulatedSpec) own started (by kernel_rfl) Try.func3
    (witness_row_at (enc := enc) (C := Try.checked) false (World.holding Try.prog os ⟨#[], #[], []⟩) #[.slice none 0 0] rfl (by kernel_rfl) (by kernel_rfl) (by kernel_rfl)
      (OpenSpec.preRow_of_cond 8 hx (by kernel_rfl) (fun k hk => by cases hk) (by kernel_rfl) (laidMet_of_run' 8 (by kernel_rfl) (by kernel_rfl)))) ?_
  intro W base args ds gs before hval hW _ _ _ _ _ _
  exact contract H enc W base args ds gs before hval hW
theorem said : Rows.FnAccumulatedSaid :=
  OpenClaim.holds_of_cond 3 Try.f3 rfl rfl rfl rfl rfl rfl rfl ⟨rfl, rfl, rfl, rfl, rfl⟩ rfl rfl rfl rfl rfl (by kernel_rfl) Try.func3 (by kernel_rfl)
    (of_decide_eq_true (by kernel_rfl)) (by unfold Func.isWrapper; first | (rw [if_pos (by decide +kernel)]; kernel_rfl) | (rw [if_neg (by decide +kernel)]; exact ⟨rfl, rfl⟩))
    (fun os started H enc _ F => by rw [OpenClaim.pre_eq_preRow]; exact lifted os started H enc F)
end Go.Proofs.Ytikcifpdnbhpiaa.fnAccumulated
