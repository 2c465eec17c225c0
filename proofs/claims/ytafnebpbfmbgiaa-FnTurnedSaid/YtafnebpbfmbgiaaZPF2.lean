/- For every input the law FnTurned returns true and leaves its arguments as they were: after a whole turn each wheel has been turned by its digit, and broken teeth make steps missing only. No condition. -/
import Derived.Test.YtafnebpbfmbgiaaZC1
import Derived.Test.YtafnebpbfmbgiaaZC2
import Derived.Test.YtafnebpbfmbgiaaZC3
import Derived.Test.YtafnebpbfmbgiaaZC4
import Derived.Test.YtafnebpbfmbgiaaZC5
import Derived.ProofKit
import Derived.Carry
import Derived.OpenShut
import Derived.ChangeMaps5
import Derived.Deep.DeepHandedRow
import Derived.Lib.LaidTab
namespace Go.Proofs.Ytafnebpbfmbgiaa
open Go.RowKit Go.Sort
/-! the law FnTurned -/
theorem dCnt_zero {d : Dr} (hd : drOk d = true) {n : Nat} (hn : (n : Int) < d.b) : ∀ j, j ≤ n → dCnt d n 0 j = 0
  | 0, _ => rfl
  | j + 1, hj => by
    have h := dTime_bd hd (g := n) (j := j) (by omega) hn
    rw [dCnt_succ, dCnt_zero hd hn j (by omega), if_neg (by omega)]
theorem dBy_turn {d : Dr} (hd : drOk d = true) {n : Nat} (hn : (n : Int) < d.b) : dBy d n d.t = n := by
  obtain ⟨-, hb, ht, -⟩ := drOk_iff.1 hd
  unfold dBy
  rw [Int.emod_self, dCnt_zero hd hn n (Nat.le_refl _), Int.ediv_self (by omega)]
  omega
theorem td_zero {d : Dr} {a : Int} {xs : List Int} {b : Int} {ys : List Int} {tm : Int} (h : tdC d a xs b ys tm = 0) : (drOk d && (vreg a xs && vreg b ys)) = true ∧ (a == d.b && (b == d.b && decide (xs.length = ys.length))) = true := by
  rcases h1 : (drOk d && (vreg a xs && vreg b ys)) with _ | _
  · rw [(td_bad h1).1] at h; cases h
  rcases h2 : (a == d.b && (b == d.b && decide (xs.length = ys.length))) with _ | _
  · rw [(td_state h1 h2).1] at h; cases h
  exact ⟨rfl, rfl⟩
/-- after a whole turn each wheel has been turned by its digit -/
theorem whole_law {d : Dr} {a : Int} {xs : List Int} {b : Int} {ys : List Int} {tm : Int} (h : tdC d a xs b ys tm = 0) :
    tdC d a xs b ys d.t = 5 ∨ (tdC d a xs b ys d.t = 0 ∧ (tdD d a xs b ys d.t).length = xs.length ∧ xs.length = ys.length ∧ (2 ≤ d.b ∧ d.b ≤ 16) ∧ (∀ x ∈ xs, 0 ≤ x ∧ x < d.b) ∧ (∀ y ∈ ys, 0 ≤ y ∧ y < d.b) ∧ ∀ k, k < xs.length → (tdD d a xs b ys d.t).getD k 0 = (xs.getD k 0 + ys.getD k 0) % d.b) := by
  obtain ⟨h1, h2⟩ := td_zero h
  have h1' := h1
  have h2' := h2
  rw [Bool.and_eq_true, Bool.and_eq_true] at h1'
  rw [Bool.and_eq_true, Bool.and_eq_true, beq_iff_eq, beq_iff_eq, decide_eq_true_eq] at h2'
  obtain ⟨hd, hx, hy⟩ := h1'
  obtain ⟨ha, hb, hl⟩ := h2'
  obtain ⟨-, hdb, hdt, -⟩ := drOk_iff.1 hd
  have hdx := (vreg_iff.1 hx).2.2.1
  have hdy := (vreg_iff.1 hy).2.2.1
  rw [ha] at hdx
  rw [hb] at hdy
  have h3 : betB d.t 0 100000 = true := betB_iff.2 (by omega)
  rcases h4 : vreg d.b (outD d xs ys d.t) with _ | _
  · exact .inl (td_full h1 h2 h3 h4).1
  · obtain ⟨q1, -, q3⟩ := td_fine h1 h2 h3 h4
    refine .inr ⟨q1, by rw [q3]; simp [outD], hl, hdb, hdx, hdy, fun k hk => ?_⟩
    have hky : k < ys.length := by omega
    have hyk := hdy (ys.getD k 0) (by rw [getD_of hky]; exact List.getElem_mem hky)
    obtain ⟨n, hn⟩ : ∃ n : Nat, ys.getD k 0 = n := ⟨(ys.getD k 0).toNat, by omega⟩
    rw [q3, getD_of (by simp [outD]; exact hk)]
    simp only [outD, List.getElem_map, List.getElem_range, outT]
    rw [hn] at hyk ⊢
    rw [Int.toNat_natCast, dBy_turn hd (by omega)]
theorem bs_law {d : Dr} {g br : Int} (h : bsC d g br = 0) : 0 ≤ bsN d g br ∧ bsN d g br ≤ g := by
  have hc : drCode d g = 0 := by
    unfold bsC at h
    split at h
    · rename_i h1; exact absurd h h1
    · omega
  obtain ⟨hd, g0, g1⟩ := drCode_ok hc
  have := bsCnt_le d g.toNat br g.toNat
  unfold bsN
  rw [if_pos h]
  omega
set_option maxRecDepth 100000 in
set_option maxHeartbeats 12800000 in
theorem law_Turned (A : Option Addr) (n c : Nat) (bs : List UInt8) (w : World) (hb : RB w A n bs) (hn : n ≤ 9223372036854775807) :
    Calls Try.prog 3 #[.slice A n c] w fun e w' => e = .returned (.bool true) ∧ Below w.heap.size w w' := by
  have KD := Lib.hid (DrawTurnDrums_any A n c bs w hb hn)
  have KE := Lib.hid (fun W (hW : Below w.heap.size w W) => DrawBrokenSteps_any A n c bs W (hb.below hW) hn)
  have KF := Lib.hid (fun W (hW : Below w.heap.size w W) => DrawBusiestTime_any A n c bs W (hb.below hW) hn)
  unfold DTurn at KD
  clear hb
  have KG := (fun W => f6big_any A n c W)
  obtain ⟨bg, hbg⟩ : ∃ b, decide ((n : Int) > 4096) = b := ⟨_, rfl⟩
  rw [hbg] at KG
  replace KG := Lib.hid KG
  clear hbg
  rcases bg with _ | _
  rotate_left
  · go_enter Try.func3, Try.ntmps3
    go_wp2_with (go_at_call 5; refine (KG.out _).mono ?_; rintro e w' ⟨rfl, hww⟩; obtain rfl := hww.symm)
    go_ret
    exact ⟨rfl, Below.refl _ _⟩
  go_enter Try.func3, Try.ntmps3
  go_wp2_with (go_at_call 5; refine (KG.out _).mono ?_; rintro e w' ⟨rfl, hww⟩; obtain rfl := hww.symm)
  refine KD.out.mono ?_; rintro e w1 ⟨d, a, XA, xc, xs, b, YA, yc, ys, tm, rfl, ⟨hl1, hl2⟩, K1⟩
  clear KD
  have KT := (fun W hx hy tm => TurnDrums_any d a XA xc xs b YA yc ys tm W hx hy (by omega) (by omega))
  have KS := (fun W hx hy => specTurnDrums_any d a XA xc xs b YA yc ys tm W hx hy (by omega) (by omega))
  unfold TDRet RgRet at KT KS
  have HW := (fun h => whole_law (d := d) (a := a) (xs := xs) (b := b) (ys := ys) (tm := tm) h)
  have KT1 := (fun W hx hy => KT W hx hy tm)
  have KT2 := (fun W hx hy => KT W hx hy d.t)
  clear KT
  have hdl1 : (tdD d a xs b ys tm).length ≤ 20 := by
    unfold tdD
    split
    · simp [outD]; omega
    · simp
  obtain ⟨V, hV⟩ : ∃ v, tdV d a xs b ys tm = v := ⟨_, rfl⟩
  obtain ⟨DD, hDD⟩ : ∃ v, tdD d a xs b ys tm = v := ⟨_, rfl⟩
  obtain ⟨C, hC⟩ : ∃ v, tdC d a xs b ys tm = v := ⟨_, rfl⟩
  obtain ⟨V2, hV2⟩ : ∃ v, tdV d a xs b ys d.t = v := ⟨_, rfl⟩
  obtain ⟨D2, hD2⟩ : ∃ v, tdD d a xs b ys d.t = v := ⟨_, rfl⟩
  obtain ⟨C2, hC2⟩ : ∃ v, tdC d a xs b ys d.t = v := ⟨_, rfl⟩
  simp only [hV, hDD, hC] at KT1 KS
  rw [hDD] at hdl1
  simp only [hV2, hD2, hC2] at KT2
  rw [hC, hC2, hD2] at HW
  have KT1 := Lib.hid KT1
  have KT2 := Lib.hid KT2
  have KS := Lib.hid KS
  have HW := Lib.hid HW
  clear hV hDD hC hV2 hD2 hC2
  obtain ⟨g, hg⟩ : ∃ g, w1.heap.size = g := ⟨_, rfl⟩
  go_wp2_with fail
  have K2 := ((K1.al [.int .i64 d.k, .int .i64 d.b, .int .i64 d.t, .int .i64 d.f] 25).al [.int .i64 a, .slice XA xs.length xc] 28).al [.int .i64 b, .slice YA ys.length yc] 28
  simp only [World.size_alloc, hg] at K2
  refine Calls.kn K2 ?_; clear K2; intro w2 K2
  try rw [hg]
  clear K1 hg
  refine (KT1.out _ (K2.front 3 rfl).riv (K2.front 4 rfl).riv).mono ?_; rintro e w3 ⟨E, ec, rfl, hK⟩
  have K3 := K2.join hK
  clear KT1 hK K2
  obtain ⟨g7, hg7⟩ : ∃ g, w3.heap.size = g := ⟨_, rfl⟩
  go_upto_region 5 with fail
  refine Code.wp.kn (K3.al [.int .i64 V, .slice E DD.length ec] 28) ?_; intro w4 K4
  rw [hg7] at K4
  try rw [hg7]
  clear K3 hg7
  obtain ⟨a1, a2, a3, -⟩ := (K4.front 4 rfl).cells
  obtain ⟨b1, b2, b3, -⟩ := (K4.front 3 rfl).cells
  obtain ⟨c1, c2, c3, -⟩ := (K4.front 2 rfl).cells
  go_wp2_with fail
  refine (KS.out _ (K4.front 5 rfl).riv (K4.front 6 rfl).riv).mono ?_; rintro e w5 ⟨F, fc, rfl, hK⟩
  have K5 := K4.join hK
  clear KS hK K4 a1 a2 a3 b1 b2 b3 c1 c2 c3
  obtain ⟨g9, hg9⟩ : ∃ g, w5.heap.size = g := ⟨_, rfl⟩
  go_upto_region 6 with fail
  refine Code.wp.kn (K5.al [.int .i64 V, .slice F DD.length fc] 28) ?_; intro w6 K6
  rw [hg9] at K6
  try rw [hg9]
  clear K5 hg9
  go_wp2_with fail
  refine (KE.out _ K6.below).mono ?_; rintro e w7 ⟨e1, dg, br, rfl, hw⟩
  have K7 := K6.keep hw
  clear KE K6 hw
  have KA := (fun W => BrokenSteps_any e1 dg br W)
  have KB := (fun W => specBrokenSteps_any e1 dg br W)
  have HBS := (fun h => bs_law (d := e1) (g := dg) (br := br) h)
  obtain ⟨NN, hNN⟩ : ∃ v, bsN e1 dg br = v := ⟨_, rfl⟩
  obtain ⟨CC, hCC⟩ : ∃ v, bsC e1 dg br = v := ⟨_, rfl⟩
  simp only [hNN, hCC] at KA KB HBS
  have KA := Lib.hid KA
  have KB := Lib.hid KB
  have HBS := Lib.hid HBS
  clear hNN hCC
  obtain ⟨g11, hg11⟩ : ∃ g, w7.heap.size = g := ⟨_, rfl⟩
  go_upto_region 7 with fail
  refine Code.wp.kn (K7.al [.int .i64 e1.k, .int .i64 e1.b, .int .i64 e1.t, .int .i64 e1.f] 25) ?_; intro w8 K8
  rw [hg11] at K8
  try rw [hg11]
  clear K7 hg11
  obtain ⟨a1, a2, a3, -⟩ := K8.cells
  go_wp2_with fail
  refine (KA.out _).mono ?_; rintro e w9 ⟨rfl, hw⟩
  have K9 := K8.keep hw
  clear KA hw K8 a1 a2 a3
  obtain ⟨a1, a2, a3, -⟩ := K9.cells
  go_wp2_with fail
  refine (KB.out _).mono ?_; rintro e w10 ⟨rfl, hw⟩
  have K10 := K9.keep hw
  clear KB hw K9 a1 a2 a3
  go_wp2_with fail
  refine (KF.out _ K10.below).mono ?_; rintro e w11 ⟨f1, h, HA, hc, hs, rfl, hhl, hK⟩
  have K11 := K10.join hK
  clear KF hK K10
  have KA := (fun W hx => BusiestTime_any f1 h HA hc hs W hx (by omega))
  have KB := (fun W hx => specBusiestTime_any f1 h HA hc hs W hx (by omega))
  unfold BTRet at KA KB
  have HBT := (fun hh => btM_le (d := f1) (a := h) (xs := hs) hh)
  obtain ⟨BA, hBA⟩ : ∃ v, btA f1 h hs = v := ⟨_, rfl⟩
  obtain ⟨BM, hBM⟩ : ∃ v, btM f1 h hs = v := ⟨_, rfl⟩
  obtain ⟨BC, hBC⟩ : ∃ v, btC f1 h hs = v := ⟨_, rfl⟩
  simp only [hBA, hBM, hBC] at KA KB HBT
  have KA := Lib.hid KA
  have KB := Lib.hid KB
  have HBT := Lib.hid HBT
  clear hBA hBM hBC
  obtain ⟨g18, hg18⟩ : ∃ g, w11.heap.size = g := ⟨_, rfl⟩
  have K12 := (K11.al [.int .i64 f1.k, .int .i64 f1.b, .int .i64 f1.t, .int .i64 f1.f] 25).al [.int .i64 h, .slice HA hs.length hc] 28
  simp only [World.size_alloc, hg18] at K12
  go_upto_region 10 with fail
  refine Code.wp.kn K12 ?_; clear K12; intro w12 K12
  try rw [hg18]
  clear K11 hg18
  obtain ⟨a1, a2, a3, b1, b2, b3, -⟩ := K12.cells
  go_wp2_with fail
  refine (KA.out _ (K12.front 2 rfl).riv).mono ?_; rintro e w13 ⟨rfl, hw⟩
  have K13 := K12.keep hw
  clear KA hw K12 a1 a2 a3 b1 b2 b3
  obtain ⟨a1, a2, a3, b1, b2, b3, -⟩ := K13.cells
  go_wp2_with fail
  refine (KB.out _ (K13.front 2 rfl).riv).mono ?_; rintro e w14 ⟨rfl, hw⟩
  have K14 := K13.keep hw
  clear KB hw K13 a1 a2 a3 b1 b2 b3
  obtain ⟨a1, a2, a3, -⟩ := (K14.front 6 rfl).cells
  obtain ⟨b1, b2, b3, -⟩ := (K14.front 4 rfl).cells
  go_wp2_with fail
  refine (specSameRegister_same V E F ec fc DD w14 (K14.front 7 rfl).riv (K14.front 5 rfl).riv (by omega)).mono ?_; rintro e w15 ⟨rfl, hw⟩
  have K15 := K14.keep hw
  clear hw K14 a1 a2 a3 b1 b2 b3
  obtain ⟨a1, a2, a3, -⟩ := K15.cells
  by_cases hcc : CC = 0
  · have hbs := HBS.out hcc
    subst hcc
    have n1 : ¬ dg < NN := by omega
    have n2 : ¬ NN < 0 := by omega
    have n3 : NN ≤ dg := hbs.2
    have n4 : 0 ≤ NN := hbs.1
    clear HBS hbs
    go_upto_region 16 with fail
    clear n1 n2 n3 n4
    by_cases hbc : BC = 0
    · have hbt := HBT.out hbc
      subst hbc
      have n1 : ¬ (hs.length : Int) < BM := by omega
      have n3 : BM ≤ (hs.length : Int) := hbt
      clear HBT hbt
      go_upto_region 18 with fail
      clear n1 n3
      by_cases hC0 : C = 0
      rotate_left
      · have m1 : (C == 0) = false := by simpa using hC0
        have m2 : (C != 0) = true := by simpa using hC0
        go_wp2_with fail
        go_ret
        exact ⟨rfl, K15.below⟩
      · have hw := HW.out hC0
        subst hC0
        clear HW
        clear a1 a2 a3
        obtain ⟨a1, a2, a3, -⟩ := (K15.front 10 rfl).cells
        obtain ⟨b1, b2, b3, -⟩ := (K15.front 9 rfl).cells
        obtain ⟨c1, c2, c3, -⟩ := (K15.front 8 rfl).cells
        go_wp2_with fail
        refine (KT2.out _ (K15.front 11 rfl).riv (K15.front 12 rfl).riv).mono ?_; rintro e w16 ⟨W, wc, rfl, hK⟩
        have K16 := K15.join hK
        clear KT2 hK K15 a1 a2 a3 b1 b2 b3 c1 c2 c3
        obtain ⟨g26, hg26⟩ : ∃ g, w16.heap.size = g := ⟨_, rfl⟩
        go_upto_region 21 with fail
        refine Code.wp.kn (K16.al [.int .i64 V2, .slice W D2.length wc] 28) ?_; intro w17 K17
        rw [hg26] at K17
        try rw [hg26]
        clear K16 hg26
        rcases hw with rfl | ⟨rfl, hdl, hxy, hdb, hdx, hdy, hel⟩
        · go_wp2_with fail
          go_ret
          exact ⟨rfl, K17.below⟩
        · have m1 : ((D2.length : Int) != (xs.length : Int)) = false := by rw [hdl]; exact bne_self_eq_false _
          have m2 : ((D2.length : Int) == (xs.length : Int)) = true := by rw [hdl]; exact beq_self_eq_true _
          have HDL := Lib.hid hdl
          have HXY := Lib.hid hxy
          have HDX := Lib.hid hdx
          have HDY := Lib.hid hdy
          have HEL := Lib.hid hel
          clear hdl hxy hdx hdy hel
          obtain ⟨a1, a2, a3, -⟩ := K17.cells
          obtain ⟨b1, b2, b3, -⟩ := (K17.front 11 rfl).cells
          go_wp2_with fail
          clear a1 a2 a3 b1 b2 b3 m1 m2
          go_loopw [28] (fun ii wr => ∃ (k : Nat), k ≤ xs.length ∧ ii = .int .i64 (k : Int) ∧ Kn w [.blk g26 [.int .i64 V2, .slice W D2.length wc] 28, rowI W wc D2, .blk (g + 1 + 1) [.int .i64 b, .slice YA ys.length yc] 28, .blk (g + 1) [.int .i64 a, .slice XA xs.length xc] 28, .blk g [.int .i64 d.k, .int .i64 d.b, .int .i64 d.t, .int .i64 d.f] 25, rowI XA xc xs, rowI YA yc ys] wr) (fun ii _ => xs.length - (intOf ii).toNat)
          case atStart => exact ⟨0, Nat.zero_le _, rfl, K17.sel [0, 1, 10, 11, 12, 13, 14] 99 (by decide) (by decide)⟩
          case round =>
            clear K17
            obtain ⟨k, hk, rfl, K17⟩ := hrel
            obtain ⟨a1, a2, a3, c1, c2, c3, b1, b2, b3, d1, d2, d3, -⟩ := K17.cells
            by_cases hkn : k < xs.length
            · have i1 : (k : Int) < (xs.length : Int) := by omega
              have i0 : (0 : Int) ≤ (k : Int) := by omega
              have hky : k < ys.length := by have := HXY.out; omega
              have hkd : k < D2.length := by have := HDL.out; omega
              have i2 : (k : Int) < (ys.length : Int) := by omega
              have i3 : (k : Int) < (D2.length : Int) := by omega
              obtain ⟨adx, hA, hltx, hkx', hcx⟩ := (K17.front 5 rfl).riv.at_ hkn
              obtain ⟨ady, hB, hlty, hky', hcy⟩ := (K17.front 6 rfl).riv.at_ hky
              obtain ⟨adw, hW, hltw, hkw', hcw⟩ := (K17.front 1 rfl).riv.at_ hkd
              have hel := HEL.out k hkn
              rw [getD_of hkd, getD_of hkn, getD_of hky] at hel
              obtain ⟨x, hxx⟩ : ∃ x, xs[k] = x := ⟨_, rfl⟩
              obtain ⟨y, hyy⟩ : ∃ y, ys[k] = y := ⟨_, rfl⟩
              obtain ⟨z, hzz⟩ : ∃ z, D2[k] = z := ⟨_, rfl⟩
              have bx := HDX.out x (by rw [← hxx]; exact List.getElem_mem hkn)
              have bY := HDY.out y (by rw [← hyy]; exact List.getElem_mem hky)
              rw [hxx] at hcx hel
              rw [hyy] at hcy hel
              rw [hzz] at hcw hel
              have q1 : IntKind.i64.wrap (x + y) = x + y := wrapI (by omega)
              have q2 : Int.tmod (x + y) d.b = z := by rw [Int.tmod_eq_emod_of_nonneg (by omega)]; exact hel.symm
              have q0 : ¬ d.b = 0 := by omega
              have q3 : (z != z) = false := bne_self_eq_false _
              subst hA
              subst hB
              subst hW
              clear hel hxx hyy hzz
              go_wp2_with fail
              go_quiet (fail)
              go_wp2_with fail
              go_roundw
              case rel => exact ⟨k + 1, by omega, by go_num, by first | exact K17 | exact K17.drewN _⟩
              case measure => simp [intOf]; omega
            · have i1 : ¬ (k : Int) < (xs.length : Int) := by omega
              go_wp2_with fail
              go_ret
              exact ⟨rfl, K17.below⟩
    · have n1 : (BC == 0) = false := by simpa using hbc
      clear HBT hbc
      go_upto_region 18 with fail
      clear n1
      by_cases hC0 : C = 0
      rotate_left
      · have m1 : (C == 0) = false := by simpa using hC0
        have m2 : (C != 0) = true := by simpa using hC0
        go_wp2_with fail
        go_ret
        exact ⟨rfl, K15.below⟩
      · have hw := HW.out hC0
        subst hC0
        clear HW
        clear a1 a2 a3
        obtain ⟨a1, a2, a3, -⟩ := (K15.front 10 rfl).cells
        obtain ⟨b1, b2, b3, -⟩ := (K15.front 9 rfl).cells
        obtain ⟨c1, c2, c3, -⟩ := (K15.front 8 rfl).cells
        go_wp2_with fail
        refine (KT2.out _ (K15.front 11 rfl).riv (K15.front 12 rfl).riv).mono ?_; rintro e w16 ⟨W, wc, rfl, hK⟩
        have K16 := K15.join hK
        clear KT2 hK K15 a1 a2 a3 b1 b2 b3 c1 c2 c3
        obtain ⟨g26, hg26⟩ : ∃ g, w16.heap.size = g := ⟨_, rfl⟩
        go_upto_region 21 with fail
        refine Code.wp.kn (K16.al [.int .i64 V2, .slice W D2.length wc] 28) ?_; intro w17 K17
        rw [hg26] at K17
        try rw [hg26]
        clear K16 hg26
        rcases hw with rfl | ⟨rfl, hdl, hxy, hdb, hdx, hdy, hel⟩
        · go_wp2_with fail
          go_ret
          exact ⟨rfl, K17.below⟩
        · have m1 : ((D2.length : Int) != (xs.length : Int)) = false := by rw [hdl]; exact bne_self_eq_false _
          have m2 : ((D2.length : Int) == (xs.length : Int)) = true := by rw [hdl]; exact beq_self_eq_true _
          have HDL := Lib.hid hdl
          have HXY := Lib.hid hxy
          have HDX := Lib.hid hdx
          have HDY := Lib.hid hdy
          have HEL := Lib.hid hel
          clear hdl hxy hdx hdy hel
          obtain ⟨a1, a2, a3, -⟩ := K17.cells
          obtain ⟨b1, b2, b3, -⟩ := (K17.front 11 rfl).cells
          go_wp2_with fail
          clear a1 a2 a3 b1 b2 b3 m1 m2
          go_loopw [28] (fun ii wr => ∃ (k : Nat), k ≤ xs.length ∧ ii = .int .i64 (k : Int) ∧ Kn w [.blk g26 [.int .i64 V2, .slice W D2.length wc] 28, rowI W wc D2, .blk (g + 1 + 1) [.int .i64 b, .slice YA ys.length yc] 28, .blk (g + 1) [.int .i64 a, .slice XA xs.length xc] 28, .blk g [.int .i64 d.k, .int .i64 d.b, .int .i64 d.t, .int .i64 d.f] 25, rowI XA xc xs, rowI YA yc ys] wr) (fun ii _ => xs.length - (intOf ii).toNat)
          case atStart => exact ⟨0, Nat.zero_le _, rfl, K17.sel [0, 1, 10, 11, 12, 13, 14] 99 (by decide) (by decide)⟩
          case round =>
            clear K17
            obtain ⟨k, hk, rfl, K17⟩ := hrel
            obtain ⟨a1, a2, a3, c1, c2, c3, b1, b2, b3, d1, d2, d3, -⟩ := K17.cells
            by_cases hkn : k < xs.length
            · have i1 : (k : Int) < (xs.length : Int) := by omega
              have i0 : (0 : Int) ≤ (k : Int) := by omega
              have hky : k < ys.length := by have := HXY.out; omega
              have hkd : k < D2.length := by have := HDL.out; omega
              have i2 : (k : Int) < (ys.length : Int) := by omega
              have i3 : (k : Int) < (D2.length : Int) := by omega
              obtain ⟨adx, hA, hltx, hkx', hcx⟩ := (K17.front 5 rfl).riv.at_ hkn
              obtain ⟨ady, hB, hlty, hky', hcy⟩ := (K17.front 6 rfl).riv.at_ hky
              obtain ⟨adw, hW, hltw, hkw', hcw⟩ := (K17.front 1 rfl).riv.at_ hkd
              have hel := HEL.out k hkn
              rw [getD_of hkd, getD_of hkn, getD_of hky] at hel
              obtain ⟨x, hxx⟩ : ∃ x, xs[k] = x := ⟨_, rfl⟩
              obtain ⟨y, hyy⟩ : ∃ y, ys[k] = y := ⟨_, rfl⟩
              obtain ⟨z, hzz⟩ : ∃ z, D2[k] = z := ⟨_, rfl⟩
              have bx := HDX.out x (by rw [← hxx]; exact List.getElem_mem hkn)
              have bY := HDY.out y (by rw [← hyy]; exact List.getElem_mem hky)
              rw [hxx] at hcx hel
              rw [hyy] at hcy hel
              rw [hzz] at hcw hel
              have q1 : IntKind.i64.wrap (x + y) = x + y := wrapI (by omega)
              have q2 : Int.tmod (x + y) d.b = z := by rw [Int.tmod_eq_emod_of_nonneg (by omega)]; exact hel.symm
              have q0 : ¬ d.b = 0 := by omega
              have q3 : (z != z) = false := bne_self_eq_false _
              subst hA
              subst hB
              subst hW
              clear hel hxx hyy hzz
              go_wp2_with fail
              go_quiet (fail)
              go_wp2_with fail
              go_roundw
              case rel => exact ⟨k + 1, by omega, by go_num, by first | exact K17 | exact K17.drewN _⟩
              case measure => simp [intOf]; omega
            · have i1 : ¬ (k : Int) < (xs.length : Int) := by omega
              go_wp2_with fail
              go_ret
              exact ⟨rfl, K17.below⟩
  · have n1 : (CC == 0) = false := by simpa using hcc
    clear HBS hcc
    go_upto_region 16 with fail
    clear n1
    by_cases hbc : BC = 0
    · have hbt := HBT.out hbc
      subst hbc
      have n1 : ¬ (hs.length : Int) < BM := by omega
      have n3 : BM ≤ (hs.length : Int) := hbt
      clear HBT hbt
      go_upto_region 18 with fail
      clear n1 n3
      by_cases hC0 : C = 0
      rotate_left
      · have m1 : (C == 0) = false := by simpa using hC0
        have m2 : (C != 0) = true := by simpa using hC0
        go_wp2_with fail
        go_ret
        exact ⟨rfl, K15.below⟩
      · have hw := HW.out hC0
        subst hC0
        clear HW
        clear a1 a2 a3
        obtain ⟨a1, a2, a3, -⟩ := (K15.front 10 rfl).cells
        obtain ⟨b1, b2, b3, -⟩ := (K15.front 9 rfl).cells
        obtain ⟨c1, c2, c3, -⟩ := (K15.front 8 rfl).cells
        go_wp2_with fail
        refine (KT2.out _ (K15.front 11 rfl).riv (K15.front 12 rfl).riv).mono ?_; rintro e w16 ⟨W, wc, rfl, hK⟩
        have K16 := K15.join hK
        clear KT2 hK K15 a1 a2 a3 b1 b2 b3 c1 c2 c3
        obtain ⟨g26, hg26⟩ : ∃ g, w16.heap.size = g := ⟨_, rfl⟩
        go_upto_region 21 with fail
        refine Code.wp.kn (K16.al [.int .i64 V2, .slice W D2.length wc] 28) ?_; intro w17 K17
        rw [hg26] at K17
        try rw [hg26]
        clear K16 hg26
        rcases hw with rfl | ⟨rfl, hdl, hxy, hdb, hdx, hdy, hel⟩
        · go_wp2_with fail
          go_ret
          exact ⟨rfl, K17.below⟩
        · have m1 : ((D2.length : Int) != (xs.length : Int)) = false := by rw [hdl]; exact bne_self_eq_false _
          have m2 : ((D2.length : Int) == (xs.length : Int)) = true := by rw [hdl]; exact beq_self_eq_true _
          have HDL := Lib.hid hdl
          have HXY := Lib.hid hxy
          have HDX := Lib.hid hdx
          have HDY := Lib.hid hdy
          have HEL := Lib.hid hel
          clear hdl hxy hdx hdy hel
          obtain ⟨a1, a2, a3, -⟩ := K17.cells
          obtain ⟨b1, b2, b3, -⟩ := (K17.front 11 rfl).cells
          go_wp2_with fail
          clear a1 a2 a3 b1 b2 b3 m1 m2
          go_loopw [28] (fun ii wr => ∃ (k : Nat), k ≤ xs.length ∧ ii = .int .i64 (k : Int) ∧ Kn w [.blk g26 [.int .i64 V2, .slice W D2.length wc] 28, rowI W wc D2, .blk (g + 1 + 1) [.int .i64 b, .slice YA ys.length yc] 28, .blk (g + 1) [.int .i64 a, .slice XA xs.length xc] 28, .blk g [.int .i64 d.k, .int .i64 d.b, .int .i64 d.t, .int .i64 d.f] 25, rowI XA xc xs, rowI YA yc ys] wr) (fun ii _ => xs.length - (intOf ii).toNat)
          case atStart => exact ⟨0, Nat.zero_le _, rfl, K17.sel [0, 1, 10, 11, 12, 13, 14] 99 (by decide) (by decide)⟩
          case round =>
            clear K17
            obtain ⟨k, hk, rfl, K17⟩ := hrel
            obtain ⟨a1, a2, a3, c1, c2, c3, b1, b2, b3, d1, d2, d3, -⟩ := K17.cells
            by_cases hkn : k < xs.length
            · have i1 : (k : Int) < (xs.length : Int) := by omega
              have i0 : (0 : Int) ≤ (k : Int) := by omega
              have hky : k < ys.length := by have := HXY.out; omega
              have hkd : k < D2.length := by have := HDL.out; omega
              have i2 : (k : Int) < (ys.length : Int) := by omega
              have i3 : (k : Int) < (D2.length : Int) := by omega
              obtain ⟨adx, hA, hltx, hkx', hcx⟩ := (K17.front 5 rfl).riv.at_ hkn
              obtain ⟨ady, hB, hlty, hky', hcy⟩ := (K17.front 6 rfl).riv.at_ hky
              obtain ⟨adw, hW, hltw, hkw', hcw⟩ := (K17.front 1 rfl).riv.at_ hkd
              have hel := HEL.out k hkn
              rw [getD_of hkd, getD_of hkn, getD_of hky] at hel
              obtain ⟨x, hxx⟩ : ∃ x, xs[k] = x := ⟨_, rfl⟩
              obtain ⟨y, hyy⟩ : ∃ y, ys[k] = y := ⟨_, rfl⟩
              obtain ⟨z, hzz⟩ : ∃ z, D2[k] = z := ⟨_, rfl⟩
              have bx := HDX.out x (by rw [← hxx]; exact List.getElem_mem hkn)
              have bY := HDY.out y (by rw [← hyy]; exact List.getElem_mem hky)
              rw [hxx] at hcx hel
              rw [hyy] at hcy hel
              rw [hzz] at hcw hel
              have q1 : IntKind.i64.wrap (x + y) = x + y := wrapI (by omega)
              have q2 : Int.tmod (x + y) d.b = z := by rw [Int.tmod_eq_emod_of_nonneg (by omega)]; exact hel.symm
              have q0 : ¬ d.b = 0 := by omega
              have q3 : (z != z) = false := bne_self_eq_false _
              subst hA
              subst hB
              subst hW
              clear hel hxx hyy hzz
              go_wp2_with fail
              go_quiet (fail)
              go_wp2_with fail
              go_roundw
              case rel => exact ⟨k + 1, by omega, by go_num, by first | exact K17 | exact K17.drewN _⟩
              case measure => simp [intOf]; omega
            · have i1 : ¬ (k : Int) < (xs.length : Int) := by omega
              go_wp2_with fail
              go_ret
              exact ⟨rfl, K17.below⟩
    · have n1 : (BC == 0) = false := by simpa using hbc
      clear HBT hbc
      go_upto_region 18 with fail
      clear n1
      by_cases hC0 : C = 0
      rotate_left
      · have m1 : (C == 0) = false := by simpa using hC0
        have m2 : (C != 0) = true := by simpa using hC0
        go_wp2_with fail
        go_ret
        exact ⟨rfl, K15.below⟩
      · have hw := HW.out hC0
        subst hC0
        clear HW
        clear a1 a2 a3
        obtain ⟨a1, a2, a3, -⟩ := (K15.front 10 rfl).cells
        obtain ⟨b1, b2, b3, -⟩ := (K15.front 9 rfl).cells
        obtain ⟨c1, c2, c3, -⟩ := (K15.front 8 rfl).cells
        go_wp2_with fail
        refine (KT2.out _ (K15.front 11 rfl).riv (K15.front 12 rfl).riv).mono ?_; rintro e w16 ⟨W, wc, rfl, hK⟩
        have K16 := K15.join hK
        clear KT2 hK K15 a1 a2 a3 b1 b2 b3 c1 c2 c3
        obtain ⟨g26, hg26⟩ : ∃ g, w16.heap.size = g := ⟨_, rfl⟩
        go_upto_region 21 with fail
        refine Code.wp.kn (K16.al [.int .i64 V2, .slice W D2.length wc] 28) ?_; intro w17 K17
        rw [hg26] at K17
        try rw [hg26]
        clear K16 hg26
        rcases hw with rfl | ⟨rfl, hdl, hxy, hdb, hdx, hdy, hel⟩
        · go_wp2_with fail
          go_ret
          exact ⟨rfl, K17.below⟩
        · have m1 : ((D2.length : Int) != (xs.length : Int)) = false := by rw [hdl]; exact bne_self_eq_false _
          have m2 : ((D2.length : Int) == (xs.length : Int)) = true := by rw [hdl]; exact beq_self_eq_true _
          have HDL := Lib.hid hdl
          have HXY := Lib.hid hxy
          have HDX := Lib.hid hdx
          have HDY := Lib.hid hdy
          have HEL := Lib.hid hel
          clear hdl hxy hdx hdy hel
          obtain ⟨a1, a2, a3, -⟩ := K17.cells
          obtain ⟨b1, b2, b3, -⟩ := (K17.front 11 rfl).cells
          go_wp2_with fail
          clear a1 a2 a3 b1 b2 b3 m1 m2
          go_loopw [28] (fun ii wr => ∃ (k : Nat), k ≤ xs.length ∧ ii = .int .i64 (k : Int) ∧ Kn w [.blk g26 [.int .i64 V2, .slice W D2.length wc] 28, rowI W wc D2, .blk (g + 1 + 1) [.int .i64 b, .slice YA ys.length yc] 28, .blk (g + 1) [.int .i64 a, .slice XA xs.length xc] 28, .blk g [.int .i64 d.k, .int .i64 d.b, .int .i64 d.t, .int .i64 d.f] 25, rowI XA xc xs, rowI YA yc ys] wr) (fun ii _ => xs.length - (intOf ii).toNat)
          case atStart => exact ⟨0, Nat.zero_le _, rfl, K17.sel [0, 1, 10, 11, 12, 13, 14] 99 (by decide) (by decide)⟩
          case round =>
            clear K17
            obtain ⟨k, hk, rfl, K17⟩ := hrel
            obtain ⟨a1, a2, a3, c1, c2, c3, b1, b2, b3, d1, d2, d3, -⟩ := K17.cells
            by_cases hkn : k < xs.length
            · have i1 : (k : Int) < (xs.length : Int) := by omega
              have i0 : (0 : Int) ≤ (k : Int) := by omega
              have hky : k < ys.length := by have := HXY.out; omega
              have hkd : k < D2.length := by have := HDL.out; omega
              have i2 : (k : Int) < (ys.length : Int) := by omega
              have i3 : (k : Int) < (D2.length : Int) := by omega
              obtain ⟨adx, hA, hltx, hkx', hcx⟩ := (K17.front 5 rfl).riv.at_ hkn
              obtain ⟨ady, hB, hlty, hky', hcy⟩ := (K17.front 6 rfl).riv.at_ hky
              obtain ⟨adw, hW, hltw, hkw', hcw⟩ := (K17.front 1 rfl).riv.at_ hkd
              have hel := HEL.out k hkn
              rw [getD_of hkd, getD_of hkn, getD_of hky] at hel
              obtain ⟨x, hxx⟩ : ∃ x, xs[k] = x := ⟨_, rfl⟩
              obtain ⟨y, hyy⟩ : ∃ y, ys[k] = y := ⟨_, rfl⟩
              obtain ⟨z, hzz⟩ : ∃ z, D2[k] = z := ⟨_, rfl⟩
              have bx := HDX.out x (by rw [← hxx]; exact List.getElem_mem hkn)
              have bY := HDY.out y (by rw [← hyy]; exact List.getElem_mem hky)
              rw [hxx] at hcx hel
              rw [hyy] at hcy hel
              rw [hzz] at hcw hel
              have q1 : IntKind.i64.wrap (x + y) = x + y := wrapI (by omega)
              have q2 : Int.tmod (x + y) d.b = z := by rw [Int.tmod_eq_emod_of_nonneg (by omega)]; exact hel.symm
              have q0 : ¬ d.b = 0 := by omega
              have q3 : (z != z) = false := bne_self_eq_false _
              subst hA
              subst hB
              subst hW
              clear hel hxx hyy hzz
              go_wp2_with fail
              go_quiet (fail)
              go_wp2_with fail
              go_roundw
              case rel => exact ⟨k + 1, by omega, by go_num, by first | exact K17 | exact K17.drewN _⟩
              case measure => simp [intOf]; omega
            · have i1 : ¬ (k : Int) < (xs.length : Int) := by omega
              go_wp2_with fail
              go_ret
              exact ⟨rfl, K17.below⟩
end Go.Proofs.Ytafnebpbfmbgiaa

namespace Go.Proofs.Ytafnebpbfmbgiaa
open Go.RowKit Go.ChangeShapes Go.WideShapes Go.ChangeAt
section
variable {H : Type} {enc : TypeId × Value → H} {w : World} {base : Nat} {spare : Nat → Bool} {held : Bool} {fuel : Nat} {cs : List Value} {x : DataW H × List MemPlace}
theorem cellsU8 : Try.prog.cellsOf 5 = 1 := by kernel_rfl
theorem byteV_of (z : Int) (h0 : 0 ≤ z) (h1 : z ≤ 255) : Value.int .u8 z = byteV (UInt8.ofNat z.toNat) := by
  unfold byteV
  congr 1
  rw [UInt8.toNat_ofNat']
  omega
theorem rd_bytes (h : DataW.trod enc Try.prog w base spare held fuel 22 cs = some x) : ∃ A n c bs, cs = [.slice A n c] ∧ RB w A n bs ∧ n ≤ 9223372036854775807 := by
  rcases open_ints Try.underlying22 Try.underlying5 cellsU8 h with ⟨rfl, _⟩ | ⟨a, len, cap, zs, rfl, _, hl, hm, hz, _, hcell, hwf⟩
  · exact ⟨none, 0, 0, [], rfl, ⟨rfl, fun h => absurd h (by omega)⟩, by omega⟩
  · have hlen : len ≤ zs.length := by rw [hz]; split <;> omega
    have hw : ∀ z ∈ zs, 0 ≤ z ∧ z ≤ 255 := fun z hz => by
      have h := hwf z hz
      have h1 : IntKind.u8.min = 0 := by decide
      have h2 : IntKind.u8.max = 255 := by decide
      simp [Lit.wf] at h
      omega
    refine ⟨some a, len, cap, (zs.take len).map (fun z => UInt8.ofNat z.toNat), rfl, ⟨by simp; omega, fun h0 => ⟨a, rfl, ?_, fun j u hu => ?_⟩⟩, by simp only [maxLen] at hm; omega⟩
    · have := World.block_lt_of_cell? w _ (hcell 0 (by omega)); rwa [block_of_add] at this
    · rw [List.getElem?_map, List.getElem?_take] at hu
      split at hu
      · have hj : j < zs.length := by omega
        rw [List.getElem?_eq_getElem hj] at hu
        have hu' : UInt8.ofNat zs[j].toNat = u := by simpa using hu
        obtain ⟨z0, z1⟩ := hw zs[j] (List.getElem_mem _)
        rw [hcell j hj, ← hu', ← byteV_of _ z0 z1]
        simp [List.getD, List.getElem?_eq_getElem hj]
      · simp at hu
end
end Go.Proofs.Ytafnebpbfmbgiaa

namespace Go.Proofs.Ytafnebpbfmbgiaa.fnTurned
open Go.ChangeShapes Go.WideShapes Go.ChangeAt Go.RowKit
theorem own : ownKnob Try.prog.godebug = none := by kernel_rfl
theorem laidOut : laidOutB Try.prog = true := by kernel_rfl
set_option maxRecDepth 100000 in
theorem contract (H : Type) (enc : TypeId × Value → H) (W : World) (base : Nat) (args : Array Value) (ds gs : List (DataW H)) (before : List MemPlace)
    (hval : ∀ (j : Nat) t v, Try.f3.params[j]? = some t → args[j]? = some v → Value.okWide Try.prog W .any base t v)
    (hW : DataW.Whole enc Try.prog Try.f3.params.toList Rows.fnTurnedSpec.vars false W args.toList ds gs before) :
    Calls Try.prog 3 args W fun e W' => ∃ v, e = .returned v ∧ Rows.fnTurnedSpec.post enc Try.prog Try.f3 false true false false W args v W' := by
  have hW' := hW
  obtain ⟨p, q, hA0, hV, rfl, hfz, hnd⟩ := hW
  have hA : DataW.TrodAll enc Try.prog W 0 (fun _ => true) true Try.f3.params.toList args.toList ds p := hA0
  rw [Try.params3] at hA hval
  obtain ⟨v0, vs0, d0, ds0, p0, q0, hargs, rfl, rfl, h0, r0⟩ := trodAll_cons hA
  obtain ⟨rfl, rfl, rfl⟩ := trodAll_nil r0
  obtain rfl : args = #[v0] := by cases args; simp_all
  obtain ⟨rfl, rfl⟩ := trodVars_none hV
  clear hA0
  simp only [List.append_nil] at hW'
  have hlt : ∀ x ∈ p0, x.block < W.heap.size := fun x hx => by
    have := hW'.lt x (by simpa using hx)
    simpa using this
  obtain ⟨Y0A, Y0n, Y0c, rfl⟩ := okWide_slice Try.underlying22 (hval 0 _ _ rfl rfl)
  have t0 := h0
  obtain ⟨fuel0, hf0⟩ := h0
  obtain ⟨QA0, Qn0, Qc0, Y0xs, hcs0, hr0, hn0⟩ := rd_bytes hf0
  obtain ⟨rfl, rfl, rfl⟩ : QA0 = Y0A ∧ Qn0 = Y0n ∧ Qc0 = Y0c := by
    have : [Value.slice Y0A Y0n Y0c] = [.slice QA0 Qn0 Qc0] := hcs0
    injection this with this
    injection this with e1 e2 e3
    exact ⟨e1.symm, e2.symm, e3.symm⟩
  have walk : Calls Try.prog 3 #[.slice QA0 Qn0 Qc0] W fun e w' => e = .returned (.bool true) ∧ Below W.heap.size W w' :=
    law_Turned QA0 Qn0 Qc0 Y0xs W hr0 hn0 
  refine walk.mono fun e W' ⟨he, hb⟩ => ?_
  subst he
  have u0 := Below.trod laidOut (by kernel_rfl) (of_decide_eq_true (by kernel_rfl)) t0 hb hlt
  exact ⟨_, rfl, [d0], [], p0 ++ [], [], p0 ++ [], [], by simpa using hW', trodAll_cons_mk (shut_bool Try.underlying4 _) trodAll_mk0, (trodAll_cons_mk u0 trodAll_mk0), rfl, hb.frame _, fun h => by cases h⟩
theorem reads (os : Os) {H : Type} (enc : TypeId × Value → H) : ∃ places, DataW.whole enc Try.prog ((World.holding Try.prog os ⟨#[], #[], []⟩).forCall (fun _ _ => 0) ⟨#[], #[.slice none 0 0], []⟩).memory Try.f3.params.toList Rows.fnTurnedSpec.vars false (#[.slice none 0 0] : Array Value).toList 8 = some ([.nil], [], places) :=
  ⟨[], by kernel_rfl⟩
set_option maxRecDepth 100000 in
theorem lifted (os : Os) (started : os.Started) (H : Type) (enc : TypeId × Value → H) (F : Stop.Interp) :
    ReturnsInHanded {} Try.checked os 3 .any ((OpenSpec.ofChange Rows.fnTurnedSpec).preRow enc Try.prog Try.f3 Rows.fnTurnedRow.domain false Rows.fnTurnedRow.laid) (((OpenSpec.ofChange Rows.fnTurnedSpec).at F).post enc Try.prog Try.f3 false true false false) := by
  obtain ⟨places, hx⟩ := reads os enc
  refine returnsInHanded_of_row (C := Try.checked) (s := OpenSpec.ofChange Rows.fnTurnedSpec) own started (by kernel_rfl) Try.func3
    (witness_row_at (enc := enc) (C := Try.checked) false (World.holding Try.prog os ⟨#[], #[], []⟩) #[.slice none 0 0] rfl (by kernel_rfl) (by kernel_rfl) (by kernel_rfl)
      (OpenSpec.preRow_of_cond 8 hx (by kernel_rfl) (fun k hk => by cases hk) (by kernel_rfl) (laidMet_of_run' 8 (by kernel_rfl) (by kernel_rfl)))) ?_
  intro W base args ds gs before hval hW _ _ _ _ _ _
  exact contract H enc W base args ds gs before hval hW
theorem said : Rows.FnTurnedSaid :=
  OpenClaim.holds_of_cond 3 Try.f3 rfl rfl rfl rfl rfl rfl rfl ⟨rfl, rfl, rfl, rfl, rfl⟩ rfl rfl rfl rfl rfl (by kernel_rfl) Try.func3 (by kernel_rfl)
    (of_decide_eq_true (by kernel_rfl)) (by unfold Func.isWrapper; first | (rw [if_pos (by decide +kernel)]; kernel_rfl) | (rw [if_neg (by decide +kernel)]; exact ⟨rfl, rfl⟩))
    (fun os started H enc _ F => by rw [OpenClaim.pre_eq_preRow]; exact lifted os started H enc F)
end Go.Proofs.Ytafnebpbfmbgiaa.fnTurned
