/- For every input the law FnRegisters returns true and leaves its arguments as they were: registers are restored from their values and texts, and sums and differences are those of the values. Condition: the tables of strconv hold what the program's text lays (tied by the card). -/
import Derived.Test.YtafnebpbfmbgiaaDoorZC1
import Derived.Test.YtafnebpbfmbgiaaDoorZC2
import Derived.Test.YtafnebpbfmbgiaaDoorZC3
import Derived.Test.YtafnebpbfmbgiaaDoorZC4
import Derived.Test.YtafnebpbfmbgiaaDoorZC5
import Derived.Test.YtafnebpbfmbgiaaDoorZC6
import Derived.Test.YtafnebpbfmbgiaaDoorZC7
import Derived.Test.YtafnebpbfmbgiaaDoorZC8
import Derived.Test.YtafnebpbfmbgiaaDoorZC9
import Derived.OpenShut
import Derived.ProofKit
import Derived.Carry
import Derived.ChangeMaps5
namespace Go.Proofs.YtafnebpbfmbgiaaDoor
open Go.RowKit Go.Sort
theorem pw_seven {b : Int} (b1 : 2 ≤ b) (b2 : b ≤ 12) {k : Nat} (hk : k ≤ 7) : pw b k ≤ 35831808 := by
  have h1 := pw_12 b1 b2 k
  have h2 := pw_mono 12 (by omega) k 7 hk
  have h3 : pw 12 7 = 35831808 := by decide
  omega
set_option maxRecDepth 100000 in
set_option maxHeartbeats 12800000 in
theorem law_Registers (A : Option Addr) (n c : Nat) (bs : List UInt8) (w : World) (hb : RB w A n bs) (hn : n ≤ 9223372036854775807) (ht : TB w) :
    Calls Tryd.prog 4 #[.slice A n c] w fun e w' => e = .returned (.bool true) ∧ Below w.heap.size w w' := by
  have KD := Lib.hid (A2Registers_any A n c bs w hb hn)
  have HTB := Lib.hid (fun W (hW : Below w.heap.size w W) => TB.below ht hW)
  unfold A2R at KD
  clear hb ht
  have KG := (fun W => a2Long2_any A none n c 0 0 W hn (by omega))
  obtain ⟨bg, hbg⟩ : ∃ b, (decide (3000 < n) || decide (3000 < 0)) = b := ⟨_, rfl⟩
  rw [hbg] at KG
  replace KG := Lib.hid KG
  clear hbg
  rcases bg with _ | _
  rotate_left
  · go_enter Tryd.func4, Tryd.ntmps4
    go_wp2_with (go_at_call 11; refine (KG.out _).mono ?_; rintro e w' ⟨rfl, rfl⟩)
    go_ret
    exact ⟨rfl, Below.refl _ _⟩
  go_enter Tryd.func4, Tryd.ntmps4
  go_wp2_with (go_at_call 11; refine (KG.out _).mono ?_; rintro e w' ⟨rfl, rfl⟩)
  refine KD.out.mono ?_; rintro e w1 ⟨b, A, c, ds, B, k, es, rfl, ⟨⟨b1, b2⟩, ⟨n1, n2⟩, hl, hda, hde⟩, K1⟩
  clear KD
  have hp7 := pw_seven b1 b2 n2
  have hpp := pw_pos b b1 ds.length
  have hp : pw b ds.length ≤ 1000000000001 := by omega
  have hv1 : vreg b ds = true := vreg_short b1 (by omega) hda n1 (by omega) hp
  have hv2 : vreg b es = true := vreg_short b1 (by omega) hde (by omega) (by omega) (by rw [hl]; exact hp)
  have hsd : subD b (addD b ds es ds.length) es (addD b ds es ds.length).length = ds := by rw [addD_len]; exact sub_addD b1 hda hde
  have hsb : borK (addD b ds es ds.length) es (addD b ds es ds.length).length = carK b ds es ds.length := by rw [addD_len]; exact sub_add b1 hda hde _ _ (Nat.le_refl _)
  have hcb := carK_bd b1 hda hde ds.length
  have hsv := add_vreg b1 (show b ≤ 16 by omega) es n1 (by omega) hp
  have hsl := addD_len b ds es ds.length
  have hval := add_val (b := b) (xs := ds) (ys := es) ds.length (Nat.le_refl _) (by omega)
  rw [List.take_length, show es.take ds.length = es by rw [← hl, List.take_length], ← vx_valL b1 hda hp, ← vx_valL b1 hde (by rw [hl]; exact hp), ← vx_valL b1 (addD_digs b1 ds es ds.length) (by rw [addD_len]; exact hp)] at hval
  have hcd := comp_digs hda
  have hcl := compD_len b ds
  have hcv : vreg b (compD b ds) = true := vreg_short b1 (by omega) hcd (by omega) (by omega) (by rw [hcl]; exact hp)
  have hcval := comp_val b ds
  rw [← vx_valL b1 hda hp, ← vx_valL b1 hcd (by rw [hcl]; exact hp)] at hcval
  have hpa := (valL_bd b b1 ds (fun d h => (hda d h).1)).1
  have hpb := (valL_bd b b1 es (fun d h => (hde d h).1)).1
  have hps := (valL_bd b b1 (addD b ds es ds.length) (fun d h => (addD_digs b1 ds es ds.length d h).1)).1
  have hla := valL_lt b b1 ds hda
  have hlb := valL_lt b b1 es hde
  have hls := valL_lt b b1 _ (addD_digs b1 ds es ds.length)
  rw [hl] at hlb
  rw [addD_len] at hls
  have K2a := (fun W (r : RI W A ds.length ds) => ValueOf_okR b A c ds W r hv1)
  have K2b := (fun W (r : RI W B es.length es) => ValueOf_okR b B k es W r hv2)
  have K3a := (fun W => NewRegister_ok b ds W hv1)
  have K4a := (fun W (r : RI W A ds.length ds) (hW : Below w.heap.size w W) => RegisterText_any b A ds.length c ds W r (by omega) (HTB.out W hW))
  have hrt : rtext ⟨b, ds⟩ = rtextL b ds := by unfold rtext; rw [if_pos (show (Reg.mk b ds).ok = true from hv1)]
  have hrl := rtext_len ⟨b, ds⟩
  rw [hrt] at K4a hrl
  have hrd := rdr_some (rdR_text hv1)
  have K5a := (fun W (hW : Below w.heap.size w W) => ReadRegister_any ⟨(rtextL b ds).toArray⟩ W (by rw [size_mk]; omega) (HTB.out W hW))
  simp only [strB_mk, hrd.1, hrd.2] at K5a
  have K6a := (fun W r1 r2 => AddRegisters_ok b A c ds B k es W r1 r2 hv1 hv2 hl.symm hp)
  have K7a := (fun E ec W r1 r2 => SubRegisters_ok b E ec (addD b ds es ds.length) B k es W r1 r2 hsv hv2 (by rw [addD_len]; exact hl.symm) (by rw [addD_len]; exact hp))
  rw [hsd, hsb] at K7a
  have K8a := (fun W r1 r2 => CompareRegisters_ok b A c ds B k es W r1 r2 hv1 hv2 hl.symm)
  have K9a := (fun E ec W r => specValidRegister_okR b E ec (addD b ds es ds.length) W r hsv)
  have K10a := (fun E ec W r => specValueOf_okR b E ec (addD b ds es ds.length) W r hsv)
  have K11a := (fun W r => ComplementOf_ok b A c ds W r hv1 hp)
  have K12a := (fun E ec W r => specValueOf_okR b E ec (compD b ds) W r hcv)
  have K13a := (fun W r => calls_val (ValidRegister_any b A ds.length c ds W r (by omega)) (congrArg Value.bool hv1))
  have K14a := (fun W => a2Power_any b ds.length W b1 hp (by omega))
  unfold R3Ret at K6a K7a
  obtain ⟨SS, hSS⟩ : ∃ s, addD b ds es ds.length = s := ⟨_, rfl⟩
  obtain ⟨CM, hCM⟩ : ∃ s, compD b ds = s := ⟨_, rfl⟩
  obtain ⟨cr, hcr⟩ : ∃ s, carK b ds es ds.length = s := ⟨_, rfl⟩
  obtain ⟨p, hpv⟩ : ∃ s, valL b ds = s := ⟨_, rfl⟩
  obtain ⟨q, hqv⟩ : ∃ s, valL b es = s := ⟨_, rfl⟩
  obtain ⟨P, hPv⟩ : ∃ s, pw b ds.length = s := ⟨_, rfl⟩
  obtain ⟨T, hTv⟩ : ∃ s : ByteArray, (⟨(rtextL b ds).toArray⟩ : ByteArray) = s := ⟨_, rfl⟩
  simp only [hSS, hCM, hcr, hpv, hqv, hPv, hTv, hl] at K2a K2b K3a K4a K5a K6a K7a K8a K9a K10a K11a K12a K13a K14a
  rw [hSS] at hval hps hls hsl
  rw [hcr] at hval hcb
  rw [hpv] at hval hpa hla hcval
  rw [hqv] at hval hpb hlb
  rw [hPv] at hval hcval hla hlb hls hp7 hpp
  rw [hCM] at hcval hcl
  obtain ⟨s, hsv2⟩ : ∃ s, valL b SS = s := ⟨_, rfl⟩
  obtain ⟨z, hzv⟩ : ∃ s, valL b CM = s := ⟨_, rfl⟩
  rw [hsv2] at hval hps hls
  rw [hzv] at hcval
  simp only [hsv2] at K10a
  simp only [hzv] at K12a
  have K2a := Lib.hid K2a
  have K2b := Lib.hid K2b
  have K3a := Lib.hid K3a
  have K4a := Lib.hid K4a
  have K5a := Lib.hid K5a
  have K6a := Lib.hid K6a
  have K7a := Lib.hid K7a
  have K8a := Lib.hid K8a
  have K9a := Lib.hid K9a
  have K10a := Lib.hid K10a
  have K11a := Lib.hid K11a
  have K12a := Lib.hid K12a
  have K13a := Lib.hid K13a
  have K14a := Lib.hid K14a
  have HVAL := Lib.hid hval
  have HSL := Lib.hid hsl
  have HCL := Lib.hid hcl
  have HRB := Lib.hid (fun W m (h : Kn w (rowI B k es :: m) W) => (show RI W B ds.length es by have h2 := h.riv; rw [hl] at h2; exact h2))
  have HCV := Lib.hid hcval
  clear hsd hsb hrt hrl hrd hSS hCM hcr hpv hqv hPv hTv hsv2 hzv hval hsl hcl hl hcval hv1 hv2 hp hsv hcd hcv hda hde
  obtain ⟨g, hg⟩ : ∃ g, w1.heap.size = g := ⟨_, rfl⟩
  have K2 := (K1.al [.int .i64 b, .slice A ds.length c] 26).al [.int .i64 b, .slice B ds.length k] 26
  simp only [World.size_alloc, hg] at K2
  go_upto_region 4 with fail
  refine Code.wp.kn K2 ?_; clear K1 K2; intro w2 K2
  try rw [hg]
  clear hg
  obtain ⟨a1, a2, a3, c1, c2, c3, -⟩ := K2.cells
  go_wp2_with (go_at_call 22; refine (K14a.out _).mono ?_; rintro e w3 ⟨rfl, rfl⟩)
  refine (K2a.out _ (K2.front 2 rfl).riv).mono ?_; rintro e w3 ⟨rfl, hw⟩
  have K3 := K2.keep hw
  clear K2 hw a1 a2 a3 c1 c2 c3 K2a K14a
  obtain ⟨a1, a2, a3, c1, c2, c3, -⟩ := K3.cells
  go_wp2_with fail
  refine (K2b.out _ (HRB.out _ _ (K3.front 3 rfl))).mono ?_; rintro e w4 ⟨rfl, hw⟩
  have K4 := K3.keep hw
  clear K3 hw a1 a2 a3 c1 c2 c3 K2b
  obtain ⟨a1, a2, a3, c1, c2, c3, -⟩ := K4.cells
  go_wp2_with fail
  refine (K3a.out _).mono ?_; rintro e w5 ⟨E, ec, rfl, hK⟩
  have K5 := K4.join hK
  clear K4 hK a1 a2 a3 c1 c2 c3 K3a
  obtain ⟨g11, hg⟩ : ∃ g, w5.heap.size = g := ⟨_, rfl⟩
  go_upto_region 9 with fail
  refine Code.wp.kn (K5.al [.int .i64 b, .slice E ds.length ec] 26) ?_; clear K5; intro w6 K6
  rw [hg] at K6
  try rw [hg]
  clear hg
  obtain ⟨a1, a2, a3, -⟩ := (K6.front 3 rfl).cells
  go_wp2_with fail
  refine (K4a.out _ (K6.front 4 rfl).riv K6.below).mono ?_; rintro e w7 ⟨rfl, hw⟩
  have K7 := K6.keep hw
  clear K6 hw a1 a2 a3 K4a
  go_wp2_with fail
  refine (K5a.out _ K7.below).mono ?_; rintro e w8 ⟨F, fc, rfl, hK⟩
  have K8 := K7.join hK
  clear K7 hK K5a
  obtain ⟨g13, hg⟩ : ∃ g, w8.heap.size = g := ⟨_, rfl⟩
  go_upto_region 10 with fail
  refine Code.wp.kn (K8.al [.int .i64 b, .slice F ds.length fc] 26) ?_; clear K8; intro w9 K9
  rw [hg] at K9
  try rw [hg]
  clear hg
  obtain ⟨a1, a2, a3, -⟩ := K9.cells
  obtain ⟨c1, c2, c3, -⟩ := (K9.front 2 rfl).cells
  obtain ⟨d1, d2, d3, -⟩ := (K9.front 5 rfl).cells
  go_wp2_with fail
  refine (specSameRegister_same b E A ec c ds w9 (K9.front 3 rfl).riv (K9.front 6 rfl).riv (by omega)).mono ?_; rintro e w10 ⟨rfl, hw⟩
  have K10 := K9.keep hw
  clear K9 hw a1 a2 a3 c1 c2 c3 d1 d2 d3
  obtain ⟨a1, a2, a3, -⟩ := K10.cells
  obtain ⟨d1, d2, d3, -⟩ := (K10.front 5 rfl).cells
  go_wp2_with fail
  refine (specSameRegister_same b F A fc c ds w10 (K10.front 1 rfl).riv (K10.front 6 rfl).riv (by omega)).mono ?_; rintro e w11 ⟨rfl, hw⟩
  have K11 := K10.keep hw
  clear K10 hw a1 a2 a3 d1 d2 d3
  obtain ⟨d1, d2, d3, -⟩ := (K11.front 5 rfl).cells
  go_wp2_with fail
  refine (K13a.out _ (K11.front 6 rfl).riv).mono ?_; rintro e w12 ⟨rfl, hw⟩
  have K12 := K11.keep hw
  clear K11 hw d1 d2 d3 K13a
  obtain ⟨d1, d2, d3, -⟩ := (K12.front 5 rfl).cells
  obtain ⟨c1, c2, c3, -⟩ := (K12.front 4 rfl).cells
  go_wp2_with fail
  refine (K6a.out _ (K12.front 6 rfl).riv (HRB.out _ _ (K12.front 7 rfl))).mono ?_; rintro e w13 ⟨S, sc, rfl, hK⟩
  have K13 := K12.join hK
  clear K12 hK c1 c2 c3 d1 d2 d3 K6a
  obtain ⟨g15, hg⟩ : ∃ g, w13.heap.size = g := ⟨_, rfl⟩
  go_upto_region 13 with fail
  refine Code.wp.kn (K13.al [.int .i64 b, .slice S SS.length sc] 26) ?_; clear K13; intro w14 K14
  rw [hg] at K14
  try rw [hg]
  clear hg
  obtain ⟨d1, d2, d3, -⟩ := (K14.front 0 rfl).cells
  obtain ⟨c1, c2, c3, -⟩ := (K14.front 6 rfl).cells
  go_wp2_with fail
  refine (K7a.out S sc _ (K14.front 1 rfl).riv (HRB.out _ _ (K14.front 9 rfl))).mono ?_; rintro e w15 ⟨R, rc, rfl, hK⟩
  have K15 := K14.join hK
  clear K14 hK c1 c2 c3 d1 d2 d3 K7a
  obtain ⟨g18, hg⟩ : ∃ g, w15.heap.size = g := ⟨_, rfl⟩
  go_upto_region 14 with fail
  refine Code.wp.kn (K15.al [.int .i64 b, .slice R ds.length rc] 26) ?_; clear K15; intro w16 K16
  rw [hg] at K16
  try rw [hg]
  clear hg
  obtain ⟨d1, d2, d3, -⟩ := (K16.front 9 rfl).cells
  obtain ⟨c1, c2, c3, -⟩ := (K16.front 8 rfl).cells
  go_wp2_with fail
  refine (K8a.out _ (K16.front 10 rfl).riv (HRB.out _ _ (K16.front 11 rfl))).mono ?_; rintro e w17 ⟨⟨cm, rfl, hc1, hc2, hc3, hc4⟩, hw⟩
  have K17 := K16.keep hw
  clear K16 hw c1 c2 c3 d1 d2 d3 K8a
  have HC1 := Lib.hid hc1
  have HC2 := Lib.hid hc2
  clear hc1 hc2
  have z1 : (cr != cr) = false := bne_self_eq_false _
  obtain ⟨d1, d2, d3, -⟩ := (K17.front 2 rfl).cells
  go_wp2_with fail
  refine (K9a.out S sc _ (K17.front 3 rfl).riv).mono ?_; rintro e w18 ⟨rfl, hw⟩
  have K18 := K17.keep hw
  clear K17 hw d1 d2 d3 K9a
  obtain ⟨d1, d2, d3, -⟩ := (K18.front 0 rfl).cells
  obtain ⟨c1, c2, c3, -⟩ := (K18.front 9 rfl).cells
  go_wp2_with fail
  refine (specSameRegister_same b R A rc c ds w18 (K18.front 1 rfl).riv (K18.front 10 rfl).riv (by omega)).mono ?_; rintro e w19 ⟨rfl, hw⟩
  have K19 := K18.keep hw
  clear K18 hw d1 d2 d3 c1 c2 c3
  obtain ⟨d1, d2, d3, -⟩ := (K19.front 2 rfl).cells
  go_wp2_with fail
  refine (K10a.out S sc _ (K19.front 3 rfl).riv).mono ?_; rintro e w20 ⟨rfl, hw⟩
  have K20 := K19.keep hw
  clear K19 hw d1 d2 d3 K10a z1
  obtain ⟨d1, d2, d3, -⟩ := (K20.front 9 rfl).cells
  go_wp2_with fail
  refine (K11a.out _ (K20.front 10 rfl).riv).mono ?_; rintro e w21 ⟨M, mc, rfl, hK⟩
  have K21 := K20.join hK
  clear K20 hK d1 d2 d3 K11a
  obtain ⟨g25, hg⟩ : ∃ g, w21.heap.size = g := ⟨_, rfl⟩
  go_upto_region 19 with fail
  refine Code.wp.kn (K21.al [.int .i64 b, .slice M CM.length mc] 26) ?_; clear K21; intro w22 K22
  rw [hg] at K22
  try rw [hg]
  clear hg
  obtain ⟨d1, d2, d3, -⟩ := (K22.front 0 rfl).cells
  go_wp2_with fail
  refine (K12a.out M mc _ (K22.front 1 rfl).riv).mono ?_; rintro e w23 ⟨rfl, hw⟩
  have K23 := K22.keep hw
  clear K22 hw d1 d2 d3 K12a
  have hval := HVAL.out
  have hcv := HCV.out
  have hz : IntKind.i64.wrap (P - 1) = P - 1 := wrapI (by omega)
  have hz2 : IntKind.i64.wrap (P - 1 - p) = z := by rw [hcv]; exact wrapI (by omega)
  have hz3 : IntKind.i64.wrap (p + q) = p + q := wrapI (by omega)
  have hcr2 : cr = 0 ∨ cr = 1 := by omega
  clear HVAL HCV
  rcases hcr2 with rfl | rfl
  · obtain rfl : s = p + q := by omega
    clear hval hcv
    by_cases h1 : p < q
    · have n1 := HC1.out.2 h1
      have n2 : ¬ q < p := by omega
      have n3 : ¬ 0 < cm := fun h => n2 (HC2.out.1 h)
      go_wp2_with fail
      go_ret
      exact ⟨by first | rfl | (simp; done) | (simp; omega), K23.below⟩
    · have n1 : ¬ cm < 0 := fun h => h1 (HC1.out.1 h)
      by_cases h2 : q < p
      · have n3 := HC2.out.2 h2
        go_wp2_with fail
        go_ret
        exact ⟨by first | rfl | (simp; done) | (simp; omega), K23.below⟩
      · have n3 : ¬ 0 < cm := fun h => h2 (HC2.out.1 h)
        go_wp2_with fail
        go_ret
        exact ⟨by first | rfl | (simp; done) | (simp; omega), K23.below⟩
  · have hx1 : IntKind.i64.wrap (s + P) = p + q := by rw [wrapI (by omega)]; omega
    clear hval hcv
    by_cases h1 : p < q
    · have n1 := HC1.out.2 h1
      have n2 : ¬ q < p := by omega
      have n3 : ¬ 0 < cm := fun h => n2 (HC2.out.1 h)
      go_wp2_with fail
      go_ret
      exact ⟨by first | rfl | (simp; done) | (simp; omega), K23.below⟩
    · have n1 : ¬ cm < 0 := fun h => h1 (HC1.out.1 h)
      by_cases h2 : q < p
      · have n3 := HC2.out.2 h2
        go_wp2_with fail
        go_ret
        exact ⟨by first | rfl | (simp; done) | (simp; omega), K23.below⟩
      · have n3 : ¬ 0 < cm := fun h => h2 (HC2.out.1 h)
        go_wp2_with fail
        go_ret
        exact ⟨by first | rfl | (simp; done) | (simp; omega), K23.below⟩
end Go.Proofs.YtafnebpbfmbgiaaDoor

namespace Go.Proofs.YtafnebpbfmbgiaaDoor.fnRegisters
open Go.ChangeShapes Go.WideShapes Go.ChangeAt Go.RowKit
set_option maxRecDepth 100000 in
theorem contract (H : Type) (enc : TypeId × Value → H) (W : World) (base : Nat) (args : Array Value) (ds gs : List (DataW H)) (before : List MemPlace)
    (hval : ∀ (j : Nat) t v, Tryd.f4.params[j]? = some t → args[j]? = some v → Value.okWide Tryd.prog W .any base t v)
    (hW : DataW.Whole enc Tryd.prog Tryd.f4.params.toList Rows.fnRegistersSpec.vars false W args.toList ds gs before) (hL : laidMetH Tryd.prog Rows.fnRegistersRow.laid W) :
    Calls Tryd.prog 4 args W fun e W' => ∃ v, e = .returned v ∧ Rows.fnRegistersSpec.post enc Tryd.prog Tryd.f4 false true false false W args v W' := by
  have hW' := hW
  obtain ⟨p, q, hA0, hV, rfl, hfz, hnd⟩ := hW
  have hA : DataW.TrodAll enc Tryd.prog W 0 (fun _ => true) true Tryd.f4.params.toList args.toList ds p := hA0
  rw [Tryd.params4] at hA hval
  obtain ⟨v0, vs0, d0, ds0, p0, q0, hargs, rfl, rfl, h0, r0⟩ := trodAll_cons hA
  obtain ⟨rfl, rfl, rfl⟩ := trodAll_nil r0
  obtain rfl : args = #[v0] := by cases args; simp_all
  obtain ⟨rfl, rfl⟩ := trodVars_none hV
  clear hA0
  simp only [List.append_nil] at hW'
  have hlt : ∀ x ∈ p0, x.block < W.heap.size := fun x hx => by
    have := hW'.lt x (by simpa using hx)
    simpa using this
  obtain ⟨Y0A, Y0n, Y0c, rfl⟩ := okWide_slice Tryd.underlying22 (hval 0 _ _ rfl rfl)
  have t0 := h0
  obtain ⟨fuel0, hf0⟩ := h0
  obtain ⟨QA0, Qn0, Qc0, Y0xs, hcs0, hr0, hn0⟩ := rd_bytes hf0
  obtain ⟨rfl, rfl, rfl⟩ : QA0 = Y0A ∧ Qn0 = Y0n ∧ Qc0 = Y0c := by
    have : [Value.slice Y0A Y0n Y0c] = [.slice QA0 Qn0 Qc0] := hcs0
    injection this with this
    injection this with e1 e2 e3
    exact ⟨e1.symm, e2.symm, e3.symm⟩
  have walk : Calls Tryd.prog 4 #[.slice QA0 Qn0 Qc0] W fun e w' => e = .returned (.bool true) ∧ Below W.heap.size W w' :=
    law_Registers QA0 Qn0 Qc0 Y0xs W hr0 hn0 (tb_of_laid hL)
  refine walk.mono fun e W' ⟨he, hb⟩ => ?_
  subst he
  have u0 := Below.trod laidOut (by kernel_rfl) (of_decide_eq_true (by kernel_rfl)) t0 hb hlt
  exact ⟨_, rfl, [d0], [], p0 ++ [], [], p0 ++ [], [], by simpa using hW', trodAll_cons_mk (shut_bool Tryd.underlying4 _) trodAll_mk0, (trodAll_cons_mk u0 trodAll_mk0), rfl, hb.frame _, fun h => by cases h⟩
theorem reads (os : Os) {H : Type} (enc : TypeId × Value → H) : ∃ places, DataW.whole enc Tryd.prog ((laidWorld os).forCall (fun _ _ => 0) ⟨#[], #[.slice none 0 0], []⟩).memory Tryd.f4.params.toList Rows.fnRegistersSpec.vars false (#[.slice none 0 0] : Array Value).toList 8 = some ([.nil], [], places) :=
  ⟨[], by kernel_rfl⟩
set_option maxRecDepth 100000 in
theorem lifted (os : Os) (started : os.Started) (H : Type) (enc : TypeId × Value → H) (F : Stop.Interp) :
    ReturnsInHanded {} Tryd.checked os 4 .any ((OpenSpec.ofChange Rows.fnRegistersSpec).preRow enc Tryd.prog Tryd.f4 Rows.fnRegistersRow.domain false Rows.fnRegistersRow.laid) (((OpenSpec.ofChange Rows.fnRegistersSpec).at F).post enc Tryd.prog Tryd.f4 false true false false) := by
  obtain ⟨places, hx⟩ := reads os enc
  refine returnsInHanded_of_row (C := Tryd.checked) (s := OpenSpec.ofChange Rows.fnRegistersSpec) own started (by kernel_rfl) Tryd.func4
    (witness_row_at (enc := enc) (C := Tryd.checked) false (laidWorld os) #[.slice none 0 0] rfl (by kernel_rfl) (by kernel_rfl) (by kernel_rfl)
      (OpenSpec.preRow_of_cond 8 hx (by kernel_rfl) (fun k hk => by cases hk) (by kernel_rfl) (laid_met os _))) ?_
  intro W base args ds gs before hval hW _ _ _ hL _ _
  exact contract H enc W base args ds gs before hval hW hL
theorem said : Rows.FnRegistersSaid :=
  OpenClaim.holds_of_cond 4 Tryd.f4 rfl rfl rfl rfl rfl rfl rfl ⟨rfl, rfl, rfl, rfl, rfl⟩ rfl rfl rfl rfl rfl (by kernel_rfl) Tryd.func4 (by kernel_rfl)
    (of_decide_eq_true (by kernel_rfl)) (by unfold Func.isWrapper; first | (rw [if_pos (by decide +kernel)]; kernel_rfl) | (rw [if_neg (by decide +kernel)]; exact ⟨rfl, rfl⟩))
    (fun os started H enc _ F => by rw [OpenClaim.pre_eq_preRow]; exact lifted os started H enc F)
theorem plain (f : FuncId) (fn : Func) (hf : Tryd.pinned.checked.prog.funcNamed "loop.example/g00930/laws.FnRegisters" = some f) (hfn : Tryd.pinned.checked.prog.funcs[f]? = some fn) :
    false = Tryd.pinned.checked.prog.looks [] ∧ ∀ (j : Nat) t, fn.params[j]? = some t → Tryd.pinned.checked.prog.wantsStandIn t = false := by
  obtain rfl : f = 4 := Option.some.inj ((show Tryd.prog.funcNamed "loop.example/g00930/laws.FnRegisters" = some 4 by kernel_rfl).symm.trans hf) |>.symm
  obtain rfl : fn = Tryd.f4 := (Option.some.inj (Tryd.func4.symm.trans hfn)).symm
  refine ⟨by kernel_rfl, fun j t ht => ?_⟩
  rw [Tryd.params4] at ht
  have s0 : Tryd.prog.wantsStandIn 22 = false := by kernel_rfl
  have hm := Array.mem_of_getElem? ht
  obtain rfl : t = 22 := by simpa using hm
  exact s0
/-- THE CARD. -/
theorem card : Rows.FnRegistersCardSaid :=
  Claim7.holds_tied_plain_at .later [] _ _ _ _ said (fun _ h => by cases h) (by kernel_rfl) (fun _ h => by cases h) fnRegisters_row_tie rfl ⟨rfl, rfl⟩ (by kernel_rfl) rfl plain (by kernel_rfl)
end Go.Proofs.YtafnebpbfmbgiaaDoor.fnRegisters
