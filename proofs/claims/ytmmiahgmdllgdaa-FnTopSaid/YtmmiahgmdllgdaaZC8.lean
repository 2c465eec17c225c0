/- Part 8: lemmas and contracts of the claim's functions. -/
import Derived.Test.YtmmiahgmdllgdaaZC1
import Derived.Test.YtmmiahgmdllgdaaZC2
import Derived.Test.YtmmiahgmdllgdaaZC3
import Derived.Test.YtmmiahgmdllgdaaZC4
import Derived.Test.YtmmiahgmdllgdaaZC5
import Derived.Test.YtmmiahgmdllgdaaZC6
import Derived.Test.YtmmiahgmdllgdaaZC7
import Derived.ProofKit
import Derived.Carry
namespace Go.Proofs.Ytmmiahgmdllgdaa
open Go.RowKit Go.Sort
set_option maxHeartbeats 800000 in
theorem a2Long2_any (A B : Option Addr) (n c m d : Nat) (w : World) (hn : n ≤ 9223372036854775807) (hm : m ≤ 9223372036854775807) :
    Calls Try.prog 5 #[.slice A n c, .slice B m d] w fun e w' => e = .returned (.bool (decide (3000 < n) || decide (3000 < m))) ∧ w = w' := by
  by_cases h : 3000 < n
  · have h1 : (3000 : Int) < (n : Int) := by omega
    have HF : Hid ((decide (3000 < n) || decide (3000 < m)) = true) := by simp [Hid, h]
    obtain ⟨R, hR⟩ : ∃ R, (decide (3000 < n) || decide (3000 < m)) = R := ⟨_, rfl⟩
    rw [hR] at HF ⊢
    clear hR
    go_enter Try.func5, Try.ntmps5
    go_wp2
    go_ret
    exact ⟨by first | exact ret_bool HF.out.symm | rfl, rfl⟩
  · by_cases h2 : 3000 < m
    · have h1 : ¬ (3000 : Int) < (n : Int) := by omega
      have h3 : (3000 : Int) < (m : Int) := by omega
      have HF : Hid ((decide (3000 < n) || decide (3000 < m)) = true) := by simp [Hid, h2]
      obtain ⟨R, hR⟩ : ∃ R, (decide (3000 < n) || decide (3000 < m)) = R := ⟨_, rfl⟩
      rw [hR] at HF ⊢
      clear hR
      have hd : decide ((3000 : Int) < (n : Int)) = false := decide_eq_false h1
      go_enter Try.func5, Try.ntmps5
      go_wp2
      go_ret
      exact ⟨by first | exact ret_bool HF.out.symm | rfl, rfl⟩
    · have h1 : ¬ (3000 : Int) < (n : Int) := by omega
      have h3 : ¬ (3000 : Int) < (m : Int) := by omega
      have HF : Hid ((decide (3000 < n) || decide (3000 < m)) = false) := by simp [Hid, h, h2]
      obtain ⟨R, hR⟩ : ∃ R, (decide (3000 < n) || decide (3000 < m)) = R := ⟨_, rfl⟩
      rw [hR] at HF ⊢
      clear hR
      have hd : decide ((3000 : Int) < (n : Int)) = false := decide_eq_false h1
      have hd2 : decide ((3000 : Int) < (m : Int)) = false := decide_eq_false h3
      go_enter Try.func5, Try.ntmps5
      go_wp2
      go_ret
      exact ⟨by first | exact ret_bool HF.out.symm | rfl, rfl⟩
set_option maxHeartbeats 800000 in
theorem a2AtI_any (A : Option Addr) (n c : Nat) (bs : List UInt8) (i : Nat) (q : Int) (w : World) (hb : RB w A n bs) (hn : n ≤ 9223372036854775807) (hi : i ≤ 1000) (hq : 1 ≤ q ∧ q ≤ 1000) :
    Calls Try.prog 14 #[.slice A n c, .int .i64 (i : Int), .int .i64 q] w fun e w' => (∃ x : Int, e = .returned (.int .i64 x) ∧ 0 ≤ x ∧ x < q) ∧ w = w' := by
  rcases Nat.lt_or_ge i n with h0 | h0
  · obtain ⟨ad, rfl, hl, hc⟩ := hb.2 (by omega)
    have hl0 : i < bs.length := by rw [hb.1]; exact h0
    obtain ⟨z, hz⟩ : ∃ z : Nat, bs[i].toNat = z := ⟨_, rfl⟩
    have hc0 := hc i bs[i] (by simp [hl0])
    have hz2 : z < 256 := by rw [← hz]; exact bs[i].toNat_lt
    unfold byteV at hc0
    rw [hz] at hc0
    have i1 : ¬ (n : Int) ≤ (i : Int) := by omega
    have i2 : (i : Int) < (n : Int) := by omega
    have i6 : (0 : Int) ≤ (i : Int) := by omega
    have i3 : ¬ q < 1 := by omega
    have i4 : ¬ q = 0 := by omega
    have i5 : q ≠ 0 := by omega
    have hm0 := Int.emod_nonneg (z : Int) i5
    have hm1 := Int.emod_lt_of_pos (z : Int) (show 0 < q by omega)
    have hw1 : IntKind.i64.wrap (z : Int) = z := wrapI64 (by omega)
    have hw2 : IntKind.i64.wrap ((z : Int) % q) = (z : Int) % q := wrapI64 (by omega)
    have hw3 : IntKind.i64.wrap ((z : Int).tmod q) = (z : Int) % q := by rw [Int.tmod_eq_emod_of_nonneg (by omega)]; exact hw2
    clear hc hb hz hl
    go_enter Try.func14, Try.ntmps14
    go_wp2_with fail
    go_ret
    exact ⟨⟨(z : Int) % q, rfl, hm0, hm1⟩, rfl⟩
  · have i1 : (n : Int) ≤ (i : Int) := by omega
    clear hb
    go_enter Try.func14, Try.ntmps14
    go_wp2_with fail
    go_ret
    exact ⟨⟨0, rfl, by omega, by omega⟩, rfl⟩
theorem pw_seven2 {b : Int} (b1 : 2 ≤ b) (b2 : b ≤ 12) {k : Nat} (hk : k ≤ 7) : pw b k ≤ 35831808 := by
  have h1 := pw_12 b1 b2 k
  have h2 := pw_mono 12 (by omega) k 7 hk
  have h3 : pw 12 7 = 35831808 := by decide
  omega
theorem Kn.rlA_N {w0 w : World} {m : List Ent} {A : Option Addr} {n c : Nat} {xs : List Arw} (h : Kn w0 (.row (.slice A n c) 100 5 n (cellsA xs) :: m) w) (hl : xs.length = n) : RL ArM 5 w A n xs := by
  subst hl
  exact (Kn.rlA (m := m) h).2
theorem good_one {n l : Nat} {kd : Int} (h1 : 1 ≤ kd) (h3 : kd ≤ 3) (hl : l < n) : GoodF n [⟨kd, (l : Int)⟩] := fun f hf => by
  rw [List.mem_singleton.1 hf]; exact ⟨h1, h3, (by show (0 : Int) ≤ (l : Int); omega), (by show (l : Int) < (n : Int); omega)⟩
theorem asc_one (f : Flt) : Asc [f] := fun k hk => by simp at hk
theorem fnL_modL (M : Int) (m : Nat) (cs : List Int) (i : Nat) : fnL (modL M cs) i = fnL cs i % M := by
  unfold fnL modL
  rw [List.getD_eq_getElem?_getD, List.getD_eq_getElem?_getD, List.getElem?_map]
  cases cs[i]? with
  | none => show (0 : Int) = 0 % M; rw [Int.zero_emod]
  | some x => rfl
theorem modL_InM (m : Nat) (cs : List Int) : InM 1000000000 m (fnL (modL 1000000000 cs)) := fun i _ => by
  rw [fnL_modL 1000000000 m]
  exact ⟨Int.emod_nonneg _ (by decide), Int.emod_lt_of_pos _ (by decide)⟩
theorem newt_at (m : Nat) (cs : List Int) (hl : cs.length = m) (m1 : 1 ≤ m) (m5 : m ≤ 5) (hb : ∀ d ∈ cs, -20 ≤ d ∧ d ≤ 20) : ∀ k, k < 12 → ∃ r v : Int,
    ((resL (cyF 1000000000 m) (fnL (modL 1000000000 cs)) 12).map (Value.int .i64))[k]? = some (.int .i64 r) ∧ ((nvL cs m 12).map (Value.int .i64))[k]? = some (.int .i64 v) ∧ 0 ≤ r ∧ r < 1000000000 ∧ sgn9 r = v := fun k hk => by
  have hr := res_newton (M := 1000000000) (n := m) (f := fnL (modL 1000000000 cs)) (c := fnL cs) (by omega) (fun i _ => fnL_modL 1000000000 m cs i) (fun i hi => by
    unfold fnL
    rw [List.getD_eq_getElem?_getD, List.getElem?_eq_none (by omega)]; rfl) k
  obtain ⟨s1, s2⟩ := nvF_bd (c := fnL cs) hk m (by omega) (fun i hi => by
    have h : i < cs.length := by omega
    unfold fnL
    rw [getD_of h]
    exact hb _ (List.getElem_mem _))
  refine ⟨itF (cyF 1000000000 m) k (fnL (modL 1000000000 cs)) 0, nvF (fnL cs) k m, by simp [resL, hk], by simp [nvL, hk], ?_⟩
  rw [hr]
  exact ⟨Int.emod_nonneg _ (by decide), Int.emod_lt_of_pos _ (by decide), sgn9_mod (by omega) (by omega)⟩
set_option maxRecDepth 100000 in
set_option maxHeartbeats 12800000 in
theorem law_Top (A0 : Option Addr) (n0 c0 : Nat) (bs : List UInt8) (A2 : Option Addr) (n2 c2 : Nat) (bs2 : List UInt8) (w : World) (hb : RB w A0 n0 bs) (hn : n0 ≤ 9223372036854775807) (hb2 : RB w A2 n2 bs2) (hn2 : n2 ≤ 9223372036854775807) :
    Calls Try.prog 3 #[.slice A0 n0 c0, .slice A2 n2 c2] w fun e w' => e = .returned (.bool true) ∧ Below w.heap.size w w' := by
  have KRG := Lib.hid (A2Registers_any A0 n0 c0 bs w hb hn)
  have KC := Lib.hid (fun W (hW : Below w.heap.size w W) => A2Coefs_any A2 n2 c2 bs2 W (hb2.below hW) hn2)
  have KAT := Lib.hid (fun W (hW : Below w.heap.size w W) q (hq : 1 ≤ q ∧ q ≤ 1000) => a2AtI_any A2 n2 c2 bs2 0 q W (hb2.below hW) hn2 (by omega) hq)
  unfold A2R at KRG
  clear hb hb2
  have KLG := (fun W => a2Long2_any A0 A2 n0 c0 n2 c2 W hn hn2)
  obtain ⟨bg, hbg⟩ : ∃ b, (decide (3000 < n0) || decide (3000 < n2)) = b := ⟨_, rfl⟩
  rw [hbg] at KLG
  replace KLG := Lib.hid KLG
  clear hbg
  rcases bg with _ | _
  rotate_left
  · go_enter Try.func3, Try.ntmps3
    go_wp2_with (go_at_call 5; refine (KLG.out _).mono ?_; rintro e w' ⟨rfl, rfl⟩)
    go_ret
    exact ⟨rfl, Below.refl _ _⟩
  go_enter Try.func3, Try.ntmps3
  go_wp2_with (go_at_call 5; refine (KLG.out _).mono ?_; rintro e w' ⟨rfl, rfl⟩)
  refine KRG.out.mono ?_; rintro e w1 ⟨b, A, c, ds, B, k, es, rfl, ⟨⟨b1, b2⟩, ⟨n1, n3⟩, hl, hda, hde⟩, K1⟩
  clear KRG
  obtain ⟨bb, rfl⟩ : ∃ bb : Nat, b = (bb : Int) := ⟨b.toNat, by omega⟩
  have hp7 := pw_seven2 b1 b2 n3
  have hp : pw (bb : Int) ds.length ≤ 1000000000001 := by omega
  have hv1 : vreg (bb : Int) ds = true := vreg_short b1 (by omega) hda n1 (by omega) hp
  have hv2 : vreg (bb : Int) es = true := vreg_short b1 (by omega) hde (by omega) (by omega) (by rw [hl]; exact hp)
  have hva := add_vreg b1 (by omega) es n1 (by omega) hp
  have KSP := (fun W r1 r2 => specAddRegisters_ok (bb : Int) A c ds B k es W r1 r2 hv1 hv2 hl.symm hp)
  unfold R3Ret at KSP
  obtain ⟨n, hnl⟩ : ∃ n, ds.length = n := ⟨_, rfl⟩
  rw [hnl] at hl hp hva n1 n3
  simp only [hnl, hl] at KSP
  have KSL := (fun W r1 r2 => AddSlowly_ok (bb : Int) n A c ds B k es W r1 r2 hv1 hv2 hva)
  have KAH := (fun size W r1 r2 h1 h2 => AddAhead_ok (bb : Int) n size A c ds B k es W r1 r2 hv1 hv2 hva h1 h2)
  obtain ⟨N, hN⟩ : ∃ N, 2 * bb * bb = N := ⟨_, rfl⟩
  have KRT := (fun W => RightTable_ok bb N W (by omega) (by omega) hN)
  have KTF := (fun T tc W hr => TableFault_ok bb N T tc W (by omega) (by omega) hN hr)
  have KTB := (fun T tc W hr r1 r2 => AddByTable_ok bb N n T tc A c ds B k es W hN hr r1 r2 hv1 hv2 hva)
  have htl : (tabN bb N).length = N := by simp [tabN]
  obtain ⟨TB, hTB⟩ : ∃ T, tabN bb N = T := ⟨_, rfl⟩
  have hsl := addD_len (bb : Int) ds es n
  have KWI := (fun (l : Nat) (kd : Int) W hl h1 h3 => WitnessOf_ok (bb : Int) n l kd W b1 (by omega) n1 (by omega) hp hl h1 h3)
  have KSF := (fun (X : Option Addr) xc xs (Y : Option Addr) yc ys (F : Option Addr) m fc fs W hx hy hr hv1 hv2 hg ha hm => specShowsFaults_ok (bb : Int) n X xc xs Y yc ys F m fc fs W hx hy hr hv1 hv2 hp hg ha hm)
  have HVW := Lib.hid (fun (l : Nat) (kd : Int) => (show vreg (bb : Int) (wA (bb : Int) n l kd) = true ∧ vreg (bb : Int) (wB n l kd) = true from ⟨vreg_short b1 (by omega) (wA_digs b1 n l kd) (by rw [wA_len]; omega) (by rw [wA_len]; omega) (by rw [wA_len]; exact hp), vreg_short b1 (by omega) (wB_digs b1 n l kd) (by rw [wB_len]; omega) (by rw [wB_len]; omega) (by rw [wB_len]; exact hp)⟩))
  unfold SumR at KSL KAH KTB
  obtain ⟨ss, hss⟩ : ∃ s, addD (bb : Int) ds es n = s := ⟨_, rfl⟩
  obtain ⟨cr, hcr⟩ : ∃ s, carK (bb : Int) ds es n = s := ⟨_, rfl⟩
  rw [hss] at hsl
  rw [hTB] at htl
  simp only [hss, hcr] at KSP KSL KAH KTB
  simp only [hTB] at KRT KTF KTB
  have KSA := (fun (E F : Option Addr) ec fc W (r1 : RI W E n ss) (r2 : RI W F n ss) => by
    have h := specSameRegister_any ⟨(bb : Int), ss⟩ ⟨(bb : Int), ss⟩ E F ec fc W (by dsimp only; rw [hsl]; exact r1) (by dsimp only; rw [hsl]; exact r2) (by unfold SmallReg; dsimp only; omega) (by unfold SmallReg; dsimp only; omega)
    rw [show sameR ⟨(bb : Int), ss⟩ ⟨(bb : Int), ss⟩ = true by simp [sameR]] at h
    dsimp only at h
    rw [hsl] at h
    exact h)
  have HRA := Lib.hid (fun W m (h : Kn w (rowI A c ds :: m) W) => (show RI W A n ds by have h2 := h.riv; rw [hnl] at h2; exact h2))
  have HRB := Lib.hid (fun W m (h : Kn w (rowI B k es :: m) W) => (show RI W B n es by have h2 := h.riv; rw [hl] at h2; exact h2))
  have HRS := Lib.hid hsl
  simp only [hsl] at KSP
  have KSP2 := Lib.hid (fun W (r1 : RI W A n ds) (r2 : RI W B n es) => (show Calls Try.prog 7 #[.agg [.int .i64 (bb : Int), .slice A n c].toArray, .agg [.int .i64 (bb : Int), .slice B n k].toArray] W (fun e w' => ∃ E ec, e = .returned (.tuple #[.agg #[.int .i64 (bb : Int), .slice E n ec], .int .i64 cr, .int .i64 0]) ∧ Kn W [.row (.slice E n ec) 2 1 n (ss.map (Value.int .i64))] w') from (KSP W r1 r2).mono (by
    rintro e w' ⟨E, ec, rfl, hK⟩
    unfold rowI at hK
    rw [hsl] at hK
    exact ⟨E, ec, rfl, hK⟩)))
  replace KSL := Lib.hid KSL
  replace KAH := Lib.hid KAH
  replace KRT := Lib.hid KRT
  replace KTF := Lib.hid KTF
  replace KTB := Lib.hid KTB
  replace KSA := Lib.hid KSA
  replace KWI := Lib.hid KWI
  replace KSF := Lib.hid KSF
  have HTL := Lib.hid htl
  simp only [hnl, hl]
  have HB1 := Lib.hid b1
  clear KSP hss hcr hTB hsl htl hN hnl hl hv1 hv2 hva hp hp7 hda hde
  obtain ⟨g, hg⟩ : ∃ g, w1.heap.size = g := ⟨_, rfl⟩
  have K2 := (K1.al [.int .i64 (bb : Int), .slice A n c] 26).al [.int .i64 (bb : Int), .slice B n k] 26
  simp only [World.size_alloc, hg] at K2
  go_upto_region 4 with fail
  try rw [hg]
  refine Code.wp.kn K2 ?_; clear K1 K2 hg; intro w2 K2
  obtain ⟨a1, a2, a3, d1, d2, d3, -⟩ := K2.cells
  go_upto_region 6 with (go_at_call 7; refine (KSP2.out _ (HRA.out _ _ (K2.front 2 rfl)) (HRB.out _ _ (K2.front 3 rfl))).mono ?_; rintro e w3 ⟨E, ec, rfl, hK⟩; have K3 := (K2.join hK).al [.int .i64 (bb : Int), .slice E n ec] 26; clear hK K2 KSP2 a1 a2 a3 d1 d2 d3)
  obtain ⟨g8, hg⟩ : ∃ g, w3.heap.size = g := ⟨_, rfl⟩
  rw [hg] at K3
  try rw [hg]
  have K4 : Kn w [.blk g8 [.int .i64 (bb : Int), .slice E n ec] 26, .row (.slice E n ec) 2 1 n (ss.map (Value.int .i64)), .blk (g + 1) [.int .i64 (bb : Int), .slice B n k] 26, .blk g [.int .i64 (bb : Int), .slice A n c] 26, rowI A c ds, rowI B k es] _ := K3
  refine Code.wp.kn K4 ?_; clear K3 K4 hg; intro w4 K4
  obtain ⟨-, -, -, a1, a2, a3, d1, d2, d3, -⟩ := K4.cells
  go_upto_region 7 with (go_at_call 8; refine (KSL.out _ (HRA.out _ _ (K4.front 4 rfl)) (HRB.out _ _ (K4.front 5 rfl))).mono ?_; rintro e w5 ⟨F, fc, rfl, hK⟩; have K5 := (K4.join hK).al [.int .i64 (bb : Int), .slice F n fc] 26; clear hK K4 KSL a1 a2 a3 d1 d2 d3)
  obtain ⟨g11, hg⟩ : ∃ g, w5.heap.size = g := ⟨_, rfl⟩
  rw [hg] at K5
  try rw [hg]
  refine Code.wp.kn K5 ?_; clear K5 hg; intro w6 K6
  obtain ⟨a1, a2, a3, d1, d2, d3, -⟩ := K6.cells
  go_upto_region 9 with (go_at_call 9; refine (KSA.out F E fc ec _ (K6.front 1 rfl).ownI.ri (K6.front 3 rfl).ownI.ri).mono ?_; rintro e w7 ⟨rfl, hw⟩; have K7 := K6.keep hw; clear hw K6 a1 a2 a3 d1 d2 d3)
  have K8 : Kn w [.blk g8 [.int .i64 (bb : Int), .slice E n ec] 26, .row (.slice E n ec) 2 1 n (ss.map (Value.int .i64)), .blk (g + 1) [.int .i64 (bb : Int), .slice B n k] 26, .blk g [.int .i64 (bb : Int), .slice A n c] 26, rowI A c ds, rowI B k es] _ := K7.sel [2, 3, 4, 5, 6, 7] 99 (by decide) (by decide)
  clear K7
  go_wp2_with fail
  go_loopw [14] (fun kk wr => ∃ s : Nat, 1 ≤ s ∧ s ≤ n + 1 ∧ kk = .int .i64 (s : Int) ∧ Kn w [.blk g8 [.int .i64 (bb : Int), .slice E n ec] 26, .row (.slice E n ec) 2 1 n (ss.map (Value.int .i64)), .blk (g + 1) [.int .i64 (bb : Int), .slice B n k] 26, .blk g [.int .i64 (bb : Int), .slice A n c] 26, rowI A c ds, rowI B k es] wr) (fun kk _ => n + 1 - (intOf kk).toNat)
  case atStart => exact ⟨1, by omega, by omega, rfl, K8⟩
  case round =>
    clear K8
    obtain ⟨s, s1, s2, rfl, KR⟩ := hrel
    by_cases hs : s ≤ n
    · have i1 : (s : Int) ≤ (n : Int) := by omega
      have f1 : IntKind.i64.wrap ((s : Int) + 1) = (s : Int) + 1 := wrapI64 (by omega)
      obtain ⟨-, -, -, a1, a2, a3, d1, d2, d3, -⟩ := KR.cells
      go_upto_region 13 with (go_at_call 10; refine (KAH.out s _ (HRA.out _ _ (KR.front 4 rfl)) (HRB.out _ _ (KR.front 5 rfl)) s1 (by omega)).mono ?_; rintro e w5 ⟨F, fc, rfl, hK⟩; have K5 := (KR.join hK).al [.int .i64 (bb : Int), .slice F n fc] 26; clear hK KR a1 a2 a3 d1 d2 d3)
      obtain ⟨g11, hg⟩ : ∃ g, w5.heap.size = g := ⟨_, rfl⟩
      rw [hg] at K5
      try rw [hg]
      refine Code.wp.kn K5 ?_; clear K5 hg; intro w6 K6
      obtain ⟨a1, a2, a3, d1, d2, d3, -⟩ := K6.cells
      go_wp2_with (go_at_call 9; refine (KSA.out F E fc ec _ (K6.front 1 rfl).ownI.ri (K6.front 3 rfl).ownI.ri).mono ?_; rintro e w7 ⟨rfl, hw⟩; have K7 := K6.keep hw; clear hw K6 a1 a2 a3 d1 d2 d3)
      go_roundw
      case rel => exact ⟨s + 1, by omega, by omega, by go_num, K7.sel [2, 3, 4, 5, 6, 7] 99 (by decide) (by decide)⟩
      case measure => simp [intOf] <;> omega
    · have i1 : ¬ (s : Int) ≤ (n : Int) := by omega
      go_upto_region 15 with fail
      clear KAH
      obtain ⟨-, -, -, a1, a2, a3, d1, d2, d3, -⟩ := KR.cells
      go_upto_region 16 with (go_at_call 11; refine (KRT.out _).mono ?_; rintro e w5 ⟨T, tc, rfl, hK⟩; have K5 := KR.join hK; clear hK KR a1 a2 a3 d1 d2 d3)
      obtain ⟨-, -, -, a1, a2, a3, d1, d2, d3, -⟩ := K5.cells
      go_upto_region 17 with (go_at_call 12; refine (KTF.out T tc _ (Kn.rlA_N K5 HTL.out)).mono ?_; rintro e w6 ⟨rfl, hw⟩; have K6 := K5.keep hw; clear hw K5 a1 a2 a3 d1 d2 d3)
      obtain ⟨-, -, -, a1, a2, a3, d1, d2, d3, -⟩ := K6.cells
      go_upto_region 18 with (go_at_call 13; refine (KTB.out T tc _ (Kn.rlA_N K6 HTL.out) (HRA.out _ _ (K6.front 5 rfl)) (HRB.out _ _ (K6.front 6 rfl))).mono ?_; rintro e w7 ⟨F, fc, rfl, hK⟩; have K7 := (K6.join hK).al [.int .i64 (bb : Int), .slice F n fc] 26; clear hK K6 a1 a2 a3 d1 d2 d3)
      obtain ⟨g22, hg⟩ : ∃ g, w7.heap.size = g := ⟨_, rfl⟩
      rw [hg] at K7
      try rw [hg]
      refine Code.wp.kn K7 ?_; clear K7 hg; intro w8 K8
      obtain ⟨a1, a2, a3, d1, d2, d3, -⟩ := K8.cells
      go_upto_region 20 with (go_at_call 9; refine (KSA.out F E fc ec _ (K8.front 1 rfl).ownI.ri (K8.front 4 rfl).ownI.ri).mono ?_; rintro e w9 ⟨rfl, hw⟩; have K9 := K8.keep hw; clear hw K8 a1 a2 a3 d1 d2 d3)
      have K10 : Kn w [.blk g [.int .i64 (bb : Int), .slice A n c] 26] _ := K9.sel [6] 99 (by decide) (by decide)
      clear K9 KRT KTF KTB KSA HTL
      go_wp2_with fail
      go_loopw [25] (fun kk wr => ∃ s : Nat, 1 ≤ s ∧ s ≤ 4 ∧ kk = .int .i64 (s : Int) ∧ Kn w [.blk g [.int .i64 (bb : Int), .slice A n c] 26] wr) (fun kk _ => 4 - (intOf kk).toNat)
      case atStart => exact ⟨1, by omega, by omega, rfl, K10⟩
      case round =>
        clear K10
        obtain ⟨s, s1, s2, rfl, KR⟩ := hrel
        by_cases hs3 : s ≤ 3
        · have i1 : (s : Int) ≤ 3 := by omega
          have f1 : IntKind.i64.wrap ((s : Int) + 1) = (s : Int) + 1 := wrapI64 (by omega)
          go_upto_region 24 with (go_at_call 14; refine (KAT.out _ KR.below (n : Int) (by omega)).mono ?_; rintro e w5 ⟨⟨x, rfl, x1, x2⟩, rfl⟩)
          obtain ⟨l, rfl⟩ : ∃ l : Nat, x = (l : Int) := ⟨x.toNat, by omega⟩
          have hln : l < n := by omega
          obtain ⟨g26, hg⟩ : ∃ g, wr.heap.size = g := ⟨_, rfl⟩
          have K5 := KR.al [.int .i64 (s : Int), .int .i64 (l : Int)] 41
          rw [hg] at K5
          try rw [hg]
          refine Code.wp.kn K5 ?_; clear KR K5 hg; intro w6 K6
          obtain ⟨f1', f2, f3, a1, a2, a3, -⟩ := K6.cells
          have KW := KWI.out l (s : Int) w6 hln (by omega) (by omega)
          unfold WitR at KW
          by_cases he : (s : Int) = 3 ∧ l = 0
          · obtain ⟨hs0, rfl⟩ := he
            obtain rfl : s = 3 := by omega
            simp only [if_pos (show ((3 : Nat) : Int) = 3 ∧ 0 = 0 from ⟨rfl, rfl⟩)] at KW
            replace KW := Lib.hid KW
            clear hs0
            go_upto_region 25 with (go_at_call 15; refine KW.out.mono ?_; rintro e w7 ⟨rfl, hw⟩; have K7 := ((K6.keep hw).al [.int .i64 0, .slice none 0 0] 26).al [.int .i64 0, .slice none 0 0] 26; clear hw K6 f1' f2 f3 a1 a2 a3)
            obtain ⟨g27, hg⟩ : ∃ g, w7.heap.size = g := ⟨_, rfl⟩
            simp only [World.size_alloc, hg] at K7
            try simp only [World.size_alloc, hg]
            refine Code.wp.kn K7 ?_; clear K7 hg; intro w8 K8
            obtain ⟨-, -, -, -, -, -, f1', f2, f3, -⟩ := K8.cells
            go_wp2_with fail
            go_roundw
            case rel => exact ⟨4, by omega, by omega, by go_num, K8.sel [3] 99 (by decide) (by decide)⟩
            case measure => simp [intOf] <;> omega
          · simp only [if_neg he] at KW
            have hsh := wit_shows (bb : Int) n l (s : Int) HB1.out hln (by omega) (by omega) (by omega)
            have hgo := good_one (n := n) (kd := (s : Int)) (by omega) (by omega) hln
            obtain ⟨v1, v2⟩ := HVW.out l (s : Int)
            have hlx := wA_len (bb : Int) n l (s : Int)
            have hly := wB_len n l (s : Int)
            have KSF2 := (fun (X : Option Addr) xc (Y : Option Addr) yc (F : Option Addr) fc W hx hy hr => KSF.out X xc (wA (bb : Int) n l (s : Int)) Y yc (wB n l (s : Int)) F 1 fc [⟨(s : Int), (l : Int)⟩] W hx hy hr v1 v2 hgo (asc_one _) (by omega))
            rw [hsh] at KSF2
            obtain ⟨xs, hxs⟩ : ∃ z, wA (bb : Int) n l (s : Int) = z := ⟨_, rfl⟩
            obtain ⟨ys, hys⟩ : ∃ z, wB n l (s : Int) = z := ⟨_, rfl⟩
            rw [hxs] at hlx
            rw [hys] at hly
            simp only [hxs, hys] at KW KSF2
            replace KW := Lib.hid KW
            replace KSF2 := Lib.hid KSF2
            have HLX := Lib.hid hlx
            have HLY := Lib.hid hly
            clear hxs hys hlx hly hsh hgo v1 v2 he
            go_upto_region 25 with (go_at_call 15; refine KW.out.mono ?_; rintro e w7 ⟨X, xc, Y, yc, rfl, hK⟩; have K7 := ((K6.join hK).al [.int .i64 (bb : Int), .slice X n xc] 26).al [.int .i64 (bb : Int), .slice Y n yc] 26; clear hK K6 f1' f2 f3 a1 a2 a3)
            obtain ⟨g27, hg⟩ : ∃ g, w7.heap.size = g := ⟨_, rfl⟩
            simp only [World.size_alloc, hg] at K7
            try simp only [World.size_alloc, hg]
            refine Code.wp.kn K7 ?_; clear K7 hg; intro w8 K8
            obtain ⟨o1, o2, o3, p1, p2, p3, f1', f2, f3, -⟩ := K8.cells
            have K9 := (K8.al [.int .i64 (s : Int), .int .i64 (l : Int)] 41).litRow (size := 2) (n := 1) rfl (by decide)
            obtain ⟨g9, hg⟩ : ∃ g, w8.heap.size = g := ⟨_, rfl⟩
            rw [hg] at K9
            go_wp2_with (go_at_call 16; refine Calls.kn K9 ?_; clear K9 K8 o1 o2 o3 p1 p2 p3 f1' f2 f3 hg; intro w9 K9; refine (KSF2.out X xc Y yc (some ⟨g9, 0, none⟩) 1 w9 (by have h := (K9.front 3 rfl).riv; rw [HLX.out] at h; exact h) (by have h := (K9.front 4 rfl).riv; rw [HLY.out] at h; exact h) (Kn.rlOne K9)).mono ?_; rintro e w10 ⟨rfl, hw⟩; have K10 := K9.keep hw; clear hw K9)
            go_roundw
            case rel => exact ⟨s + 1, by omega, by omega, by go_num, K10.sel [6] 99 (by decide) (by decide)⟩
            case measure => simp [intOf] <;> omega
        · have i1 : ¬ (s : Int) ≤ 3 := by omega
          clear KWI KSF HVW KAT
          go_upto_region 31 with (go_at_call 17; refine (KC.out _ KR.below).mono ?_; rintro e w5 ⟨X, m, xc, cs, rfl, hm, HML, hcb, hK⟩; have K5 := KR.join hK; clear hK KR KC)
          obtain ⟨m1, m5⟩ := hm
          have HNT := Lib.hid (newt_at m cs HML.out m1 m5 hcb)
          have KNE := Lib.hid (fun W hr => (show Calls Try.prog 18 #[.int .i64 9, .slice X m xc] W (fun e w' => ∃ E ec, e = .returned (.tuple #[.agg #[.int .i64 9, .slice E m ec], .int .i64 0]) ∧ Kn W [rowNN E m ec (modL 1000000000 cs)] w') from NewEngine_ok 9 m X xc cs W (by decide) (by decide) m1 (by omega) hr (fun d hd => by have := hcb d hd; omega)))
          have hIM := modL_InM m cs
          have KVE := Lib.hid (fun (Y : Option Addr) yc W hr => (show Calls Try.prog 19 #[.agg #[.int .i64 9, .slice Y m yc]] W (fun e w' => e = .returned (.bool true) ∧ Below W.heap.size W w') from specValidEngine_true 9 m Y yc (modL 1000000000 cs) W (by decide) (by decide) m1 (by omega) hr hIM))
          have KRE := Lib.hid (fun (Y : Option Addr) yc W hr => (show Calls Try.prog 20 #[.agg #[.int .i64 9, .slice Y m yc], .int .i64 12] W (RunR 12 (resL (cyF 1000000000 m) (fnL (modL 1000000000 cs)) 12) W) from RunEngine_ok 9 m 12 Y yc (modL 1000000000 cs) W (by decide) (by decide) m1 (by omega) (by omega) hr hIM))
          have KTN := Lib.hid (fun W hr => TabulateNewton_ok m X xc cs W m1 (by omega) hr hcb)
          unfold RunR at KRE KTN
          have hrl : (resL (cyF 1000000000 m) (fnL (modL 1000000000 cs)) 12).length = 12 := by simp [resL]
          have hvl := nvL_len cs m 12
          have hml : (modL 1000000000 cs).length = m := by unfold modL; rw [List.length_map]; exact HML.out
          obtain ⟨es2, hes⟩ : ∃ z, modL 1000000000 cs = z := ⟨_, rfl⟩
          obtain ⟨RS, hRS⟩ : ∃ z, resL (cyF 1000000000 m) (fnL (modL 1000000000 cs)) 12 = z := ⟨_, rfl⟩
          obtain ⟨VS, hVS⟩ : ∃ z, nvL cs m 12 = z := ⟨_, rfl⟩
          rw [hRS, hVS] at HNT
          rw [hRS] at KRE hrl
          rw [hVS] at KTN hvl
          rw [hes] at KNE KVE KRE hml
          have HEL := Lib.hid hml
          have HRL := Lib.hid hrl
          have HVL := Lib.hid hvl
          clear hIM hes hRS hVS hml hrl hvl hcb
          go_upto_region 32 with (go_at_call 18; refine (KNE.out _ (Kn.rivNN (K5.front 0 rfl) HML.out)).mono ?_; rintro e w6 ⟨Y, yc, rfl, hK⟩; have K6 := (K5.join hK).al [.int .i64 9, .slice Y m yc] 48; clear hK K5)
          obtain ⟨g31, hg⟩ : ∃ g, w6.heap.size = g := ⟨_, rfl⟩
          rw [hg] at K6
          try rw [hg]
          refine Code.wp.kn K6 ?_; clear K6 hg; intro w7 K7
          obtain ⟨a1, a2, a3, -⟩ := (K7.front 0 rfl).cells
          go_upto_region 34 with (go_at_call 19; refine (KVE.out Y yc _ (Kn.rivNN (K7.front 1 rfl) HEL.out)).mono ?_; rintro e w8 ⟨rfl, hw⟩; have K8 := K7.keep hw; clear hw K7 a1 a2 a3)
          obtain ⟨a1, a2, a3, -⟩ := (K8.front 0 rfl).cells
          go_upto_region 35 with (go_at_call 20; refine (KRE.out Y yc _ (Kn.rivNN (K8.front 1 rfl) HEL.out)).mono ?_; rintro e w9 ⟨R, rc, rfl, hK⟩; have K9 := K8.join hK; clear hK K8 a1 a2 a3)
          go_upto_region 36 with (go_at_call 21; refine (KTN.out _ (Kn.rivNN (K9.front 3 rfl) HML.out)).mono ?_; rintro e w10 ⟨V, vc, rfl, hK⟩; have K10 := K9.join hK; clear hK K9)
          have K11 : Kn w [.row (.slice V 12 vc) 2 1 12 (VS.map (Value.int .i64)), .row (.slice R 12 rc) 2 1 12 (RS.map (Value.int .i64))] w10 := K10.sel [0, 1] 99 (by decide) (by decide)
          clear K10
          obtain ⟨gv, vc', hv⟩ := K11.rowForm (by decide)
          injection hv with hv _ hvc
          subst hv hvc
          obtain ⟨gr, rc', hv⟩ := (K11.front 1 rfl).rowForm (by decide)
          injection hv with hv _ hvc
          subst hv hvc
          go_wp2_with fail
          go_loopw [37] (fun kk wr => ∃ i : Nat, i ≤ 12 ∧ kk = .int .i64 (i : Int) ∧ Kn w [.row (.slice (some ⟨gv, 0, none⟩) 12 vc) 2 1 12 (VS.map (Value.int .i64)), .row (.slice (some ⟨gr, 0, none⟩) 12 rc) 2 1 12 (RS.map (Value.int .i64))] wr) (fun kk _ => 12 - (intOf kk).toNat)
          case atStart => exact ⟨0, by omega, rfl, K11⟩
          case round =>
            clear K11
            obtain ⟨i, hi, rfl, KR⟩ := hrel
            by_cases hi1 : i < 12
            · have j1 : (i : Int) < 12 := by omega
              have j0 : (0 : Int) ≤ (i : Int) := by omega
              obtain ⟨r, v, c1, c2, r0, r1, hsg⟩ := HNT.out i hi1
              have d1 := (Kn.rowCell (KR.front 1 rfl) c1).1
              have d2 := (Kn.rowCell KR c2).1
              have KS := (fun W => SignedResult_ok r W r0 r1)
              rw [hsg] at KS
              replace KS := Lib.hid KS
              clear c1 c2 hsg
              go_wp2_with (go_at_call 22; refine (KS.out _).mono ?_; rintro e w' ⟨rfl, rfl⟩)
              go_roundw
              case rel => exact ⟨i + 1, by omega, by go_num, KR⟩
              case measure => simp [intOf] <;> omega
            · have j1 : ¬ (i : Int) < 12 := by omega
              go_wp2_with fail
              go_ret
              exact ⟨rfl, KR.below⟩
end Go.Proofs.Ytmmiahgmdllgdaa

namespace Go.Proofs.Ytmmiahgmdllgdaa
open Go.RowKit Go.ChangeShapes Go.WideShapes Go.ChangeAt
section
variable {H : Type} {enc : TypeId × Value → H} {w : World} {base : Nat} {spare : Nat → Bool} {held : Bool} {fuel : Nat} {cs : List Value} {x : DataW H × List MemPlace}
theorem cellsU8 : Try.prog.cellsOf 5 = 1 := by kernel_rfl
theorem byteV_of (z : Int) (h0 : 0 ≤ z) (h1 : z ≤ 255) : Value.int .u8 z = byteV (UInt8.ofNat z.toNat) := by
  unfold byteV
  congr 1
  rw [UInt8.toNat_ofNat']
  omega
theorem rd_bytes (h : DataW.trod enc Try.prog w base spare held fuel 22 cs = some x) : ∃ A n c bs, cs = [.slice A n c] ∧ RB w A n bs ∧ n ≤ 9223372036854775807 := by
  rcases open_ints Try.underlying22 Try.underlying5 cellsU8 h with ⟨rfl, _⟩ | ⟨a, len, cap, zs, rfl, _, hl, hm, hz, _, hcell, hwf⟩
  · exact ⟨none, 0, 0, [], rfl, ⟨rfl, fun h => absurd h (by omega)⟩, by omega⟩
  · have hlen : len ≤ zs.length := by rw [hz]; split <;> omega
    have hw : ∀ z ∈ zs, 0 ≤ z ∧ z ≤ 255 := fun z hz => by
      have h := hwf z hz
      have h1 : IntKind.u8.min = 0 := by decide
      have h2 : IntKind.u8.max = 255 := by decide
      simp [Lit.wf] at h
      omega
    refine ⟨some a, len, cap, (zs.take len).map (fun z => UInt8.ofNat z.toNat), rfl, ⟨by simp; omega, fun h0 => ⟨a, rfl, ?_, fun j u hu => ?_⟩⟩, by simp only [maxLen] at hm; omega⟩
    · have := World.block_lt_of_cell? w _ (hcell 0 (by omega)); rwa [block_of_add] at this
    · rw [List.getElem?_map, List.getElem?_take] at hu
      split at hu
      · have hj : j < zs.length := by omega
        rw [List.getElem?_eq_getElem hj] at hu
        have hu' : UInt8.ofNat zs[j].toNat = u := by simpa using hu
        obtain ⟨z0, z1⟩ := hw zs[j] (List.getElem_mem _)
        rw [hcell j hj, ← hu', ← byteV_of _ z0 z1]
        simp [List.getD, List.getElem?_eq_getElem hj]
      · simp at hu
end
end Go.Proofs.Ytmmiahgmdllgdaa
