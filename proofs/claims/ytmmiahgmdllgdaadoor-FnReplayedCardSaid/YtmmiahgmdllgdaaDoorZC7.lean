/- Part 7: lemmas and contracts of the claim's functions. -/
import Derived.Test.YtmmiahgmdllgdaaDoorZC1
import Derived.Test.YtmmiahgmdllgdaaDoorZC2
import Derived.Test.YtmmiahgmdllgdaaDoorZC3
import Derived.Test.YtmmiahgmdllgdaaDoorZC4
import Derived.Test.YtmmiahgmdllgdaaDoorZC5
import Derived.Test.YtmmiahgmdllgdaaDoorZC6
import Derived.Test.YtmmiahgmdllgdaaDoorTie
import Derived.Test.YtmmiahgmdllgdaaDoorCards
import Derived.Deep.DeepHandedRow
import Derived.Lib.LaidTab
import Derived.ProofKit
import Derived.Carry
namespace Go.Proofs.YtmmiahgmdllgdaaDoor
open Go.RowKit Go.Sort
set_option maxRecDepth 100000 in
set_option maxHeartbeats 12800000 in
theorem law_Replayed (A : Option Addr) (n c : Nat) (bs : List UInt8) (B : Option Addr) (m d : Nat) (cs : List UInt8) (w : World) (hb : RB w A n bs) (hn : n ≤ 9223372036854775807) (hb2 : RB w B m cs) (hm : m ≤ 9223372036854775807) (ht : TB w) :
    Calls Tryd.prog 3 #[.slice A n c, .slice B m d] w fun e w' => e = .returned (.bool true) ∧ Below w.heap.size w w' := by
  have KM := Lib.hid (fun W (hW : Below w.heap.size w W) => A2Machine_any B m d cs W (hb2.below hW) hm)
  have KT := Lib.hid (fun W (hW : Below w.heap.size w W) => A2Notes_any A n c bs W (hb.below hW) hn)
  have KA := Lib.hid (fun W (hW : Below w.heap.size w W) => a2At0_any B m d cs 6 W (hb2.below hW) hm (by decide))
  have HTB := Lib.hid (fun W (hW : Below w.heap.size w W) => TB.below ht hW)
  have KL := a2Long2_any A B n c m d w hn hm
  obtain ⟨bg, hbg⟩ : ∃ b, (decide (3000 < n) || decide (3000 < m)) = b := ⟨_, rfl⟩
  rw [hbg] at KL
  replace KL := Lib.hid KL
  clear hb hb2 ht hbg
  rcases bg with _ | _
  rotate_left
  · go_enter Tryd.func3, Tryd.ntmps3
    go_wp2_with (go_at_call 4; refine KL.out.mono ?_; rintro e w' ⟨rfl, hww⟩; obtain rfl := hww)
    go_ret
    exact ⟨rfl, Below.refl _ _⟩
  go_enter Tryd.func3, Tryd.ntmps3
  go_wp2_with (go_at_call 4; refine KL.out.mono ?_; rintro e w' ⟨rfl, hww⟩; obtain rfl := hww)
  refine (KM.out _ (Below.refl _ _)).mono ?_; rintro e w1 ⟨t, A1, a1, A2, a2, A3, a3, rfl, hv, K1⟩
  clear KM KL
  obtain ⟨g1, hg1⟩ : ∃ g, w1.heap.size = g := ⟨_, rfl⟩
  have K2 := K1.al [.int .i64 t.a.base, .slice A1 t.a.digits.length a1, .int .i64 t.b.base, .slice A2 t.b.digits.length a2, .int .i64 t.s.base, .slice A3 t.s.digits.length a3, .int .i64 t.carry] 28
  rw [hg1] at K2
  go_wp2_with fail
  try rw [hg1]
  refine Calls.kn K2 ?_; clear K1 K2 hg1; intro w2 K2
  refine (KT.out _ K2.below).mono ?_; rintro e w3 ⟨X, x, ns, rfl, hl, hmem, hK⟩
  have K3 := K2.join hK
  clear K2 hK KT
  have hz : ∀ s ∈ ns, (strB s).length ≤ 9 := fun s hs => (noteL_ok _ (hmem s hs)).2
  have hok : ∀ s ∈ ns, noteOk (strB s) = true := fun s hs => (noteL_ok _ (hmem s hs)).1
  have KJ := Lib.hid (JournalOf_any X ns.length x ns w3 K3.rlS.2 (by omega) hz hok)
  go_wp2_with fail
  refine KJ.out.mono ?_; rintro e w4 ⟨⟨T, rfl, hT⟩, hw⟩
  have K4 := (K3.keep hw).sel [1, 2, 3, 4] 99 (by decide) (by decide)
  clear K3 hw KJ hok hz
  obtain ⟨N, hN⟩ : ∃ l, ns.map strB = l := ⟨_, rfl⟩
  have hml : ∀ x ∈ N, x ∈ noteL := fun x hx => by
    rw [← hN] at hx
    obtain ⟨s, hs, rfl⟩ := List.mem_map.1 hx
    exact hmem s hs
  have hNl : N.length ≤ 9 := by rw [← hN, List.length_map]; exact hl
  rw [hN] at hT
  clear hN hmem hl
  have hst := small_of' hv
  obtain ⟨j1, j2, j3, j4, j5, hvM⟩ := rep_all hv hml (by omega) hT
  obtain ⟨k1, k2, k3, ⟨p, k4⟩, k5⟩ := rep_comp hv hml hNl
  have h9 : ∀ x ∈ N, x.length ≤ 9 := fun x hx => (noteL_ok x (hml x hx)).2
  have hTs : T.size ≤ 486 := by rw [← strB_len, hT]; have := jof_small (by omega : N.length ≤ 20) h9; omega
  have hcn : rjCount N ≤ 9 := by have := rjCount_le N N.length; rw [List.take_length] at this; omega
  have KR := (fun W (hW : Below w.heap.size w W) r1 r2 r3 => ReplayJournal_any t A1 A2 A3 a1 a2 a3 T W r1 r2 r3 hst (by omega) (HTB.out W hW))
  unfold RJRet M2Ret at KR
  simp only [j3, j4, j5] at KR
  have KC := (fun W (hW : Below w.heap.size w W) => CompactJournal_any T W (by omega) (HTB.out W hW) j1 (by rw [j2]; omega) (by rw [j2]; exact h9))
  rw [j2] at KC
  have KU := (fun (U : ByteArray) (hU : strB U = jof (comp N)) W (hW : Below w.heap.size w W) (r1 : RI W A1 t.a.digits.length t.a.digits) (r2 : RI W A2 t.b.digits.length t.b.digits) (r3 : RI W A3 t.s.digits.length t.s.digits) => show U.size ≤ T.size ∧ Calls Tryd.prog 8 _ W _ from by
    have hus : U.size ≤ T.size := by rw [← strB_len, ← strB_len, hU, hT]; exact k5
    obtain ⟨-, -, q3, q4, q5, -⟩ := rep_all hv k1 (by omega) hU
    have h := ReplayJournal_any t A1 A2 A3 a1 a2 a3 U W r1 r2 r3 hst (by omega) (HTB.out W hW)
    unfold RJRet M2Ret at h
    rw [q3, q4, q5, k3] at h
    exact ⟨hus, h⟩)
  have KV := (fun (k : Int) (hk : 1 ≤ k ∧ k ≤ 6) (V : ByteArray) (hV : strB V = jof (N ++ [strB (sname k)])) W (hW : Below w.heap.size w W) (r1 : RI W A1 t.a.digits.length t.a.digits) (r2 : RI W A2 t.b.digits.length t.b.digits) (r3 : RI W A3 t.s.digits.length t.s.digits) => show Calls Tryd.prog 8 _ W _ from by
    have h10 : (N ++ [strB (sname k)]).length ≤ 20 := by simp; omega
    have hm10 : ∀ x ∈ N ++ [strB (sname k)], x ∈ noteL := fun x hx => by
      rcases List.mem_append.1 hx with hx | hx
      · exact hml x hx
      · rw [List.mem_singleton.1 hx]; exact kind_note k hk
    have hvs : V.size ≤ 2000 := by
      rw [← strB_len, hV]
      have := jof_small h10 (fun x hx => (noteL_ok x (hm10 x hx)).2)
      omega
    obtain ⟨-, -, q3, q4, q5, -⟩ := rep_all hv hm10 h10 hV
    obtain ⟨r1', r2'⟩ := rep_one (t := t) (N := N) hk
    have h := ReplayJournal_any t A1 A2 A3 a1 a2 a3 V W r1 r2 r3 hst (by omega) (HTB.out W hW)
    unfold RJRet M2Ret at h
    rw [q3, q4, q5, r1', r2'] at h
    exact h)
  have hk := (fun (k : Int) (hk : 1 ≤ k ∧ k ≤ 6) => rep_rec (t := t) hvM hml hNl hT hk)
  obtain ⟨M, hM⟩ : ∃ l, rjFold t N = l := ⟨_, rfl⟩
  simp only [hM] at KR KU KV hk hvM
  obtain ⟨n1, hn1⟩ : ∃ l, rjCount N = l := ⟨_, rfl⟩
  obtain ⟨n2, hn2⟩ : ∃ l, rjCount (comp N) = l := ⟨_, rfl⟩
  simp only [hn1, hn2] at KR KU KV k4 hcn
  have HHK := Lib.hid hk
  have HK4 := Lib.hid k4
  clear k4
  have HVM := Lib.hid hvM
  replace KR := Lib.hid KR
  replace KC := Lib.hid KC
  replace KU := Lib.hid KU
  replace KV := Lib.hid KV
  clear hn1 hn2 hM hk hvM h9 hT j1 j2 j3 j4 j5 k1 k2 k3 k5 hml hNl hst hv
  obtain ⟨x1, x2, x3, -⟩ := K4.cells
  go_wp2_with fail
  refine (KR.out _ K4.below (K4.front 3 rfl).riv (K4.front 2 rfl).riv (K4.front 1 rfl).riv).mono ?_; rintro e w5 ⟨B1, b1, B2, b2, B3, b3, rfl, hK⟩
  have K5 := K4.join hK
  clear K4 hK KR x1 x2 x3
  obtain ⟨g2, hg2⟩ : ∃ g, w5.heap.size = g := ⟨_, rfl⟩
  have K6 := K5.al [.int .i64 M.a.base, .slice B1 M.a.digits.length b1, .int .i64 M.b.base, .slice B2 M.b.digits.length b2, .int .i64 M.s.base, .slice B3 M.s.digits.length b3, .int .i64 M.carry] 28
  rw [hg2] at K6
  go_wp2_with fail
  try rw [hg2]
  refine Calls.kn K6 ?_; clear K5 K6 hg2; intro w6 K6
  refine (KC.out _ K6.below).mono ?_; rintro e w7 ⟨⟨U, rfl, hU⟩, hw⟩
  have K7 := K6.keep hw
  clear K6 hw KC
  have KU := (fun W hW r1 r2 r3 => KU.out U hU W hW r1 r2 r3)
  have hus := (KU w7 K7.below (K7.front 7 rfl).riv (K7.front 6 rfl).riv (K7.front 5 rfl).riv).1
  replace KU := Lib.hid (fun W hW r1 r2 r3 => (KU W hW r1 r2 r3).2)
  have hus2 : ¬ (T.size : Int) < (U.size : Int) := by omega
  obtain ⟨x1, x2, x3, -⟩ := (K7.front 4 rfl).cells
  go_wp2_with fail
  refine (KU.out _ K7.below (K7.front 7 rfl).riv (K7.front 6 rfl).riv (K7.front 5 rfl).riv).mono ?_; rintro e w8 ⟨C1, c1, C2, c2, C3, c3, rfl, hK⟩
  have K8 := K7.join hK
  clear K7 hK KU x1 x2 x3
  obtain ⟨g3, hg3⟩ : ∃ g, w8.heap.size = g := ⟨_, rfl⟩
  have K9 := K8.al [.int .i64 M.a.base, .slice C1 M.a.digits.length c1, .int .i64 M.b.base, .slice C2 M.b.digits.length c2, .int .i64 M.s.base, .slice C3 M.s.digits.length c3, .int .i64 M.carry] 28
  rw [hg3] at K9
  go_upto_region 10 with fail
  try rw [hg3]
  refine Code.wp.kn K9 ?_; clear K8 K9 hg3; intro w9 K9
  obtain ⟨x1, x2, x3, -⟩ := (K9.front 4 rfl).cells
  obtain ⟨y1, y2, y3, -⟩ := (K9.front 0 rfl).cells
  have hsm := small_of' HVM.out
  have hsame := specSameMachine_any M M B1 B2 B3 C1 C2 C3 b1 b2 b3 c1 c2 c3 w9 (K9.front 7 rfl).riv (K9.front 6 rfl).riv (K9.front 5 rfl).riv (K9.front 3 rfl).riv (K9.front 2 rfl).riv (K9.front 1 rfl).riv hsm hsm
  rw [sameM_refl] at hsame
  have hkn : ¬ (n1 : Int) < (n2 : Int) := by have := HK4.out; omega
  have hwp : IntKind.i64.wrap ((n1 : Int) - (n2 : Int)) = ((2 * p : Nat) : Int) := by have := HK4.out; rw [wrapI64 (by omega)]; omega
  obtain ⟨pp, hpp⟩ : ∃ q : Int, ((2 * p : Nat) : Int) = q := ⟨_, rfl⟩
  have hrem : pp.tmod 2 = 0 := by rw [← hpp, Int.tmod_eq_emod_of_nonneg (by omega)]; omega
  rw [hpp] at hwp
  clear hpp
  go_wp2_with fail
  refine hsame.mono ?_; rintro e w10 ⟨rfl, hw⟩
  have K10 := (K9.keep hw).sel [4, 5, 6, 7, 8, 9, 10, 11] 99 (by decide) (by decide)
  clear K9 hw hsame x1 x2 x3 y1 y2 y3
  go_wp2_with fail
  refine (KA.out _ K10.below).mono ?_; rintro e w11 ⟨⟨x, rfl, hx0, hx6⟩, hww⟩
  obtain rfl := hww
  obtain ⟨k, hk⟩ : ∃ k, 1 + x = k := ⟨_, rfl⟩
  have hkb : 1 ≤ k ∧ k ≤ 6 := by omega
  have hwk : IntKind.i64.wrap (1 + x) = k := by rw [wrapI64 (by omega)]; exact hk
  obtain ⟨r1', r2', r3'⟩ := HHK.out k hkb
  have KS := (fun W (hW : Below w.heap.size w W) r1 r2 r3 => RecordStroke_any M B1 B2 B3 b1 b2 b3 T k W r1 r2 r3 hsm (by omega) (HTB.out W hW))
  unfold RKRet M2Ret at KS
  simp only [r1', r2'] at KS
  have KD := (fun W r1 r2 r3 => specDoStrokeV M B1 B2 B3 b1 b2 b3 k W r1 r2 r3 HVM.out hkb)
  unfold DSRet at KD
  have KV := KV.out k hkb _ r3'
  obtain ⟨V, hV⟩ : ∃ v, rkT M T k = v := ⟨_, rfl⟩
  have hvY := strokeT_ok k HVM.out
  obtain ⟨r, hr⟩ : ∃ r, strokeT k M = r := ⟨_, rfl⟩
  simp only [hV, hr] at KS KD KV hvY
  obtain ⟨Y, bl⟩ := r
  dsimp only at KS KD KV hvY
  replace KS := Lib.hid KS
  replace KD := Lib.hid KD
  replace KV := Lib.hid KV
  have hsy := small_of' hvY
  clear hr hV r1' r2' r3' hk hx0 hx6 HHK KA hvY
  obtain ⟨x1, x2, x3, -⟩ := (K10.front 0 rfl).cells
  go_wp2_with fail
  refine (KS.out _ K10.below (K10.front 3 rfl).riv (K10.front 2 rfl).riv (K10.front 1 rfl).riv).mono ?_; rintro e w11 ⟨D1, d1, D2, d2, D3, d3, rfl, hK⟩
  have K11 := K10.join hK
  clear K10 hK KS x1 x2 x3
  obtain ⟨g4, hg4⟩ : ∃ g, w11.heap.size = g := ⟨_, rfl⟩
  have K12 := K11.al [.int .i64 Y.a.base, .slice D1 Y.a.digits.length d1, .int .i64 Y.b.base, .slice D2 Y.b.digits.length d2, .int .i64 Y.s.base, .slice D3 Y.s.digits.length d3, .int .i64 Y.carry] 28
  rw [hg4] at K12
  go_upto_region 14 with fail
  try rw [hg4]
  refine Code.wp.kn K12 ?_; clear K11 K12 hg4; intro w12 K12
  obtain ⟨x1, x2, x3, -⟩ := (K12.front 4 rfl).cells
  go_wp2_with fail
  refine (KD.out _ (K12.front 7 rfl).riv (K12.front 6 rfl).riv (K12.front 5 rfl).riv).mono ?_; rintro e w13 ⟨E1, e1, E2, e2, E3, e3, rfl, hK⟩
  have K13 := K12.join hK
  clear K12 hK KD x1 x2 x3
  obtain ⟨g5, hg5⟩ : ∃ g, w13.heap.size = g := ⟨_, rfl⟩
  have K14 := K13.al [.int .i64 Y.a.base, .slice E1 Y.a.digits.length e1, .int .i64 Y.b.base, .slice E2 Y.b.digits.length e2, .int .i64 Y.s.base, .slice E3 Y.s.digits.length e3, .int .i64 Y.carry] 28
  rw [hg5] at K14
  go_upto_region 15 with fail
  try rw [hg5]
  refine Code.wp.kn K14 ?_; clear K13 K14 hg5; intro w14 K14
  obtain ⟨x1, x2, x3, -⟩ := (K14.front 4 rfl).cells
  obtain ⟨y1, y2, y3, -⟩ := (K14.front 0 rfl).cells
  have hsame := specSameMachine_any Y Y D1 D2 D3 E1 E2 E3 d1 d2 d3 e1 e2 e3 w14 (K14.front 7 rfl).riv (K14.front 6 rfl).riv (K14.front 5 rfl).riv (K14.front 3 rfl).riv (K14.front 2 rfl).riv (K14.front 1 rfl).riv hsy hsy
  rw [sameM_refl] at hsame
  go_wp2_with fail
  refine hsame.mono ?_; rintro e w15 ⟨rfl, hw⟩
  have K15 := (K14.keep hw).sel [4, 5, 6, 7, 12, 13, 14, 15] 99 (by decide) (by decide)
  clear K14 hw hsame x1 x2 x3 y1 y2 y3
  obtain ⟨x1, x2, x3, -⟩ := (K15.front 4 rfl).cells
  go_wp2_with fail
  refine (KV.out _ K15.below (K15.front 7 rfl).riv (K15.front 6 rfl).riv (K15.front 5 rfl).riv).mono ?_; rintro e w16 ⟨F1, f1, F2, f2, F3, f3, rfl, hK⟩
  have K16 := K15.join hK
  clear K15 hK KV x1 x2 x3
  obtain ⟨g6, hg6⟩ : ∃ g, w16.heap.size = g := ⟨_, rfl⟩
  have K17 := K16.al [.int .i64 Y.a.base, .slice F1 Y.a.digits.length f1, .int .i64 Y.b.base, .slice F2 Y.b.digits.length f2, .int .i64 Y.s.base, .slice F3 Y.s.digits.length f3, .int .i64 Y.carry] 28
  rw [hg6] at K17
  go_upto_region 18 with fail
  try rw [hg6]
  refine Code.wp.kn K17 ?_; clear K16 K17 hg6; intro w17 K17
  obtain ⟨x1, x2, x3, -⟩ := (K17.front 4 rfl).cells
  obtain ⟨y1, y2, y3, -⟩ := (K17.front 0 rfl).cells
  have hsame := specSameMachine_any Y Y F1 F2 F3 D1 D2 D3 f1 f2 f3 d1 d2 d3 w17 (K17.front 3 rfl).riv (K17.front 2 rfl).riv (K17.front 1 rfl).riv (K17.front 7 rfl).riv (K17.front 6 rfl).riv (K17.front 5 rfl).riv hsy hsy
  rw [sameM_refl] at hsame
  have hwn : IntKind.i64.wrap ((n1 : Int) + 1) = (n1 : Int) + 1 := wrapI64 (by omega)
  go_wp2_with fail
  refine hsame.mono ?_; rintro e w18 ⟨rfl, hw⟩
  have K18 := K17.keep hw
  clear K17 hw hsame x1 x2 x3 y1 y2 y3
  go_wp2_with fail
  go_ret
  exact ⟨by simp, K18.below⟩
end Go.Proofs.YtmmiahgmdllgdaaDoor

namespace Go.Proofs.YtmmiahgmdllgdaaDoor
open Go.RowKit Go.ChangeShapes Go.WideShapes Go.ChangeAt
theorem laid_tail {P : Program} {W : World} {x : String × DataW Unit} {rest : List (String × DataW Unit)} (h : laidMet P (x :: rest) W) : laidMet P rest W := by
  obtain ⟨ps, ⟨g, t, cs, fuel, p, q, h1, h2, h3, h4, h5, rfl⟩, hn, hr⟩ := h
  exact ⟨q, h5, (List.nodup_append.1 hn).2.1, fun b off hb => hr b off (List.mem_append_right _ hb)⟩
theorem cellsU64 : Tryd.prog.cellsOf 74 = 1 := by kernel_rfl
theorem cellsTab : Tryd.prog.cellsOf 119 = 20 := by kernel_rfl
theorem gTab : Tryd.prog.globalNamed "internal/strconv.uint64pow10" = some 0 := by kernel_rfl
theorem gTabType : (Tryd.prog.globals[0]?).map (·.type) = some 119 := by kernel_rfl
theorem tb_of_laid {W : World} (h : laidMetH Tryd.prog [("math/bits.deBruijn32tab", Rows.laid_math_bits_deBruijn32tab), ("math/bits.deBruijn64tab", Rows.laid_math_bits_deBruijn64tab), ("internal/strconv.uint64pow10", Rows.laid_internal_strconv_uint64pow10)] W) : TB W := by
  have h1 : laidMet Tryd.prog [("math/bits.deBruijn32tab", Rows.laid_math_bits_deBruijn32tab), ("math/bits.deBruijn64tab", Rows.laid_math_bits_deBruijn64tab), ("internal/strconv.uint64pow10", Rows.laid_internal_strconv_uint64pow10)] W := h
  exact Lib.tabIs_of_head (rest := []) gTab gTabType Tryd.underlying119 Tryd.underlying74 cellsU64 cellsTab (laid_tail (laid_tail h1))
def tabCells (l : DataW Unit) (k : IntKind) : Array Value := match l with
  | .agg ds => (ds.map fun d => match d with | .lit (.int _ n) => Value.int k n | _ => .int k 0).toArray
  | _ => #[]
def setTab (cs : Array Value) (o : Obj) : Obj := match o with
  | .cells _ t frozen => .cells cs t frozen
  | o => o
noncomputable def laidWorld (os : Os) : World :=
  { World.holding Tryd.prog os ⟨#[], #[], []⟩ with heap := (((World.holding Tryd.prog os ⟨#[], #[], []⟩).heap.modify 0 (setTab (tabCells Rows.laid_internal_strconv_uint64pow10 .u64))).modify 1 (setTab (tabCells Rows.laid_math_bits_deBruijn32tab .u8))).modify 2 (setTab (tabCells Rows.laid_math_bits_deBruijn64tab .u8)) }
theorem laid_met (os : Os) (args : Array Value) : laidMet Tryd.prog [("math/bits.deBruijn32tab", Rows.laid_math_bits_deBruijn32tab), ("math/bits.deBruijn64tab", Rows.laid_math_bits_deBruijn64tab), ("internal/strconv.uint64pow10", Rows.laid_internal_strconv_uint64pow10)] ((laidWorld os).forCall (fun _ _ => 0) ⟨#[], args, []⟩).memory :=
  laidMet_of_run' 8 (by kernel_rfl) (by kernel_rfl)
theorem own : ownKnob Tryd.prog.godebug = none := by kernel_rfl
theorem laidOut : laidOutB Tryd.prog = true := by kernel_rfl
end Go.Proofs.YtmmiahgmdllgdaaDoor

namespace Go.Proofs.YtmmiahgmdllgdaaDoor
open Go.RowKit Go.ChangeShapes Go.WideShapes Go.ChangeAt
section
variable {H : Type} {enc : TypeId × Value → H} {w : World} {base : Nat} {spare : Nat → Bool} {held : Bool} {fuel : Nat} {cs : List Value} {x : DataW H × List MemPlace}
theorem cellsU8 : Tryd.prog.cellsOf 5 = 1 := by kernel_rfl
theorem byteV_of (z : Int) (h0 : 0 ≤ z) (h1 : z ≤ 255) : Value.int .u8 z = byteV (UInt8.ofNat z.toNat) := by
  unfold byteV
  congr 1
  rw [UInt8.toNat_ofNat']
  omega
theorem rd_bytes (h : DataW.trod enc Tryd.prog w base spare held fuel 22 cs = some x) : ∃ A n c bs, cs = [.slice A n c] ∧ RB w A n bs ∧ n ≤ 9223372036854775807 := by
  rcases open_ints Tryd.underlying22 Tryd.underlying5 cellsU8 h with ⟨rfl, _⟩ | ⟨a, len, cap, zs, rfl, _, hl, hm, hz, _, hcell, hwf⟩
  · exact ⟨none, 0, 0, [], rfl, ⟨rfl, fun h => absurd h (by omega)⟩, by omega⟩
  · have hlen : len ≤ zs.length := by rw [hz]; split <;> omega
    have hw : ∀ z ∈ zs, 0 ≤ z ∧ z ≤ 255 := fun z hz => by
      have h := hwf z hz
      have h1 : IntKind.u8.min = 0 := by decide
      have h2 : IntKind.u8.max = 255 := by decide
      simp [Lit.wf] at h
      omega
    refine ⟨some a, len, cap, (zs.take len).map (fun z => UInt8.ofNat z.toNat), rfl, ⟨by simp; omega, fun h0 => ⟨a, rfl, ?_, fun j u hu => ?_⟩⟩, by simp only [maxLen] at hm; omega⟩
    · have := World.block_lt_of_cell? w _ (hcell 0 (by omega)); rwa [block_of_add] at this
    · rw [List.getElem?_map, List.getElem?_take] at hu
      split at hu
      · have hj : j < zs.length := by omega
        rw [List.getElem?_eq_getElem hj] at hu
        have hu' : UInt8.ofNat zs[j].toNat = u := by simpa using hu
        obtain ⟨z0, z1⟩ := hw zs[j] (List.getElem_mem _)
        rw [hcell j hj, ← hu', ← byteV_of _ z0 z1]
        simp [List.getD, List.getElem?_eq_getElem hj]
      · simp at hu
end
end Go.Proofs.YtmmiahgmdllgdaaDoor
