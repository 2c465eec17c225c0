/- Part 11: lemmas and contracts of the claim's functions. -/
import Derived.Test.YtkfbfainhmkkdaaGreatZC1
import Derived.Test.YtkfbfainhmkkdaaGreatZC2
import Derived.Test.YtkfbfainhmkkdaaGreatZC3
import Derived.Test.YtkfbfainhmkkdaaGreatZC4
import Derived.Test.YtkfbfainhmkkdaaGreatZC5
import Derived.Test.YtkfbfainhmkkdaaGreatZC6
import Derived.Test.YtkfbfainhmkkdaaGreatZC7
import Derived.Test.YtkfbfainhmkkdaaGreatZC8
import Derived.Test.YtkfbfainhmkkdaaGreatZC9
import Derived.Test.YtkfbfainhmkkdaaGreatZC10
namespace Go.Proofs.YtkfbfainhmkkdaaGreat
open Go.RowKit Go.Sort
/-- how many inputs there are -/
def ioV (b z1 z2 : Int) : Int := if inC b z1 z2 1 ≠ 0 then 0 else pw b z1.toNat * pw b z2.toNat
theorem io_bad {b z1 z2 : Int} (h : inC b z1 z2 1 ≠ 0) : ioV b z1 z2 = 0 := by unfold ioV; rw [if_pos h]
theorem io_fine {b : Int} {n1 n2 : Nat} (h : inC b n1 n2 1 = 0) : ioV b n1 n2 = pw b n1 * pw b n2 := by
  unfold ioV; rw [if_neg (fun h2 => h2 h)]; rfl
set_option maxRecDepth 100000 in
set_option maxHeartbeats 1600000 in
theorem InputsOf_any (b z1 z2 : Int) (w : World) : Calls Tryz.prog 32 #[.int .i64 b, .int .i64 z1, .int .i64 z2] w fun e w' => e = .returned (.tuple #[.int .i64 (ioV b z1 z2), .int .i64 (inC b z1 z2 1)]) ∧ Below w.heap.size w w' := by
  rcases inC_cases b z1 z2 1 with h | ⟨h, n1, n2, n3, rfl, rfl, e3, hB, hbig⟩
  · have KI := (fun W => inputsOf_bad b z1 z2 1 W h)
    rw [io_bad h]
    obtain ⟨c, hc⟩ : ∃ c, inC b z1 z2 1 = c := ⟨_, rfl⟩
    rw [hc] at KI h
    rw [hc]
    have KI := Lib.hid KI
    have hcb : (c != 0) = true := by simpa using h
    clear hc
    go_enter Tryz.func32, Tryz.ntmps32
    go_wp2_with (go_at_call 92; refine (KI.out _).mono ?_; rintro e w'' ⟨rfl, hw2⟩; have hK2 := (Kn.nil w).keep hw2)
    go_ret2
    exact ⟨rfl, (hK2.al_ _).below⟩
  · have KI := (fun W => inputsOf_fine W hB hbig)
    rw [← e3] at KI
    rw [io_fine h, h]
    obtain ⟨N, hN⟩ : ∃ N, pw b n1 * pw b n2 = N := ⟨_, rfl⟩
    obtain ⟨x1, hx1⟩ : ∃ x, digD b n1 0 = x := ⟨_, rfl⟩
    obtain ⟨x2, hx2⟩ : ∃ x, digD b n2 0 = x := ⟨_, rfl⟩
    obtain ⟨x3, hx3⟩ : ∃ x, digD b n3 0 = x := ⟨_, rfl⟩
    rw [hN, hx1, hx2, hx3] at KI
    rw [hN]
    have KI := Lib.hid KI
    clear hN hx1 hx2 hx3 hbig h e3 hB
    go_enter Tryz.func32, Tryz.ntmps32
    go_wp2_with fail
    (with_reducible refine (KI.out _).mono ?_); rintro e w2 ⟨E1, g1, E2, g2, E3, g3, rfl, hKn⟩
    have hK2 := (Kn.nil w).join hKn
    go_upto_region 4 with fail
    refine Code.wp.kn (hK2.al [.int .i64 b, .slice E1 x1.length g1, .int .i64 b, .slice E2 x2.length g2, .int .i64 b, .slice E3 x3.length g3, .int .i64 0, .int .i64 N] 115) ?_; intro w3 hK3
    clear hKn hK2
    obtain ⟨a1, a2, a3, -⟩ := hK3.cells
    go_wp2_with fail
    go_ret2
    exact ⟨rfl, hK3.below⟩
set_option maxRecDepth 100000 in
set_option maxHeartbeats 1600000 in
theorem specInputsOf_any (b z1 z2 : Int) (w : World) : Calls Tryz.prog 43 #[.int .i64 b, .int .i64 z1, .int .i64 z2] w fun e w' => e = .returned (.tuple #[.int .i64 (ioV b z1 z2), .int .i64 (inC b z1 z2 1)]) ∧ Below w.heap.size w w' := by
  have KI := (fun W => l14Size_any b z1 z2 1 W)
  rcases inC_cases b z1 z2 1 with h | ⟨h, n1, n2, n3, rfl, rfl, e3, hB, hbig⟩
  · rw [io_bad h]
    obtain ⟨c, hc⟩ : ∃ c, inC b z1 z2 1 = c := ⟨_, rfl⟩
    rw [hc] at KI h
    rw [hc]
    have KI := Lib.hid KI
    have hcb : (c != 0) = true := by simpa using h
    clear hc
    go_enter Tryz.func43, Tryz.ntmps43
    go_wp2_with (go_at_call 93; refine (KI.out _).mono ?_; rintro e w'' ⟨rfl, hw2⟩)
    go_ret2
    exact ⟨rfl, hw2⟩
  · rw [h] at KI
    have KI := Lib.hid KI
    rw [io_fine h, h]
    obtain ⟨b1, b2, h1, h1', h2, h2', h3, h3', hv, p1, p2, q1, q2⟩ := hB
    have V1 := (fun W => l10Power_any b n1 W b1 b2 (by omega))
    have V2 := (fun W => l10Power_any b n2 W b1 b2 (by omega))
    have hp1 : powS b n1 = pw b n1 := by unfold powS; omega
    have hp2 : powS b n2 = pw b n2 := by unfold powS; omega
    have hm0 : 0 ≤ pw b n1 * pw b n2 := Int.mul_nonneg (by omega) (by omega)
    rw [hp1] at V1
    rw [hp2] at V2
    obtain ⟨P1, hP1⟩ : ∃ x, pw b n1 = x := ⟨_, rfl⟩
    obtain ⟨P2, hP2⟩ : ∃ x, pw b n2 = x := ⟨_, rfl⟩
    rw [hP1] at V1 hbig hm0
    rw [hP2] at V2 hbig hm0
    rw [hP1, hP2]
    have hwm : IntKind.i64.wrap (P1 * P2) = P1 * P2 := wrapI64 (by omega)
    have V1 := Lib.hid V1
    have V2 := Lib.hid V2
    clear hP1 hP2 hp1 hp2 h hv h1 h1' h2 h2' h3 h3' b1 b2 p1 p2 q1 q2 e3 hbig hm0
    go_enter Tryz.func43, Tryz.ntmps43
    go_wp2_with (first | (go_at_call 93; refine (KI.out _).mono ?_; rintro e w'' ⟨rfl, hw2⟩) | (go_at_call 83; first | (with_reducible refine (V1.out _).mono ?_; rintro e w' ⟨rfl, rfl⟩) | (with_reducible refine (V2.out _).mono ?_; rintro e w' ⟨rfl, rfl⟩)))
    go_ret2
    exact ⟨rfl, hw2⟩
/-- a machine and a code -/
def MCRet (M : Tri) (c : Int) (w : World) (e : Ending) (w' : World) : Prop := ∃ A1 c1 A2 c2 A3 c3, e = .returned (.tuple #[.agg #[.int .i64 M.a.base, .slice A1 M.a.digits.length c1, .int .i64 M.b.base, .slice A2 M.b.digits.length c2, .int .i64 M.s.base, .slice A3 M.s.digits.length c3, .int .i64 M.carry], .int .i64 c]) ∧
  Kn w [rowI A3 c3 M.s.digits, rowI A2 c2 M.b.digits, rowI A1 c1 M.a.digits] w'
theorem MCRet.bad {w w' : World} {c : Int} (h : Kn w [] w') : MCRet zTri c w (.returned (.tuple #[.agg #[.int .i64 0, .slice none 0 0, .int .i64 0, .slice none 0 0, .int .i64 0, .slice none 0 0, .int .i64 0], .int .i64 c])) w' :=
  ⟨none, 0, none, 0, none, 0, rfl, ((h.nilRow _ _).nilRow _ _).nilRow _ _⟩
def iaC (b z1 z2 z3 k : Int) : Int := if inC b z1 z2 z3 ≠ 0 then inC b z1 z2 z3 else if betB k 0 (pw b z1.toNat * pw b z2.toNat - 1) = false then 3 else 0
def iaM (b z1 z2 z3 k : Int) : Tri := if iaC b z1 z2 z3 k = 0 then atT b z1.toNat z2.toNat z3.toNat k else zTri
def IARet (b z1 z2 z3 k : Int) (w : World) (e : Ending) (w' : World) : Prop := MCRet (iaM b z1 z2 z3 k) (iaC b z1 z2 z3 k) w e w'
theorem ia_bad {b z1 z2 z3 k : Int} (h : inC b z1 z2 z3 ≠ 0) : iaM b z1 z2 z3 k = zTri ∧ iaC b z1 z2 z3 k = inC b z1 z2 z3 := by
  have h2 : iaC b z1 z2 z3 k = inC b z1 z2 z3 := by unfold iaC; rw [if_pos h]
  exact ⟨by unfold iaM; rw [h2, if_neg h], h2⟩
theorem ia_out {b : Int} {n1 n2 n3 : Nat} {k : Int} (h : inC b n1 n2 n3 = 0) (hk : betB k 0 (pw b n1 * pw b n2 - 1) = false) : iaM b n1 n2 n3 k = zTri ∧ iaC b n1 n2 n3 k = 3 := by
  have h2 : iaC b n1 n2 n3 k = 3 := by unfold iaC; rw [if_neg (fun h2 => h2 h)]; exact if_pos hk
  exact ⟨by unfold iaM; rw [h2, if_neg (by decide)], h2⟩
theorem ia_fine {b : Int} {n1 n2 n3 : Nat} {k : Int} (h : inC b n1 n2 n3 = 0) (hk : betB k 0 (pw b n1 * pw b n2 - 1) = true) : iaM b n1 n2 n3 k = atT b n1 n2 n3 k ∧ iaC b n1 n2 n3 k = 0 := by
  have h2 : iaC b n1 n2 n3 k = 0 := by unfold iaC; rw [if_neg (fun h2 => h2 h)]; exact if_neg (by rw [show ((n1 : Int)).toNat = n1 from rfl, show ((n2 : Int)).toNat = n2 from rfl, hk]; decide)
  exact ⟨by unfold iaM; rw [h2, if_pos rfl]; rfl, h2⟩
set_option maxRecDepth 100000 in
set_option maxHeartbeats 3200000 in
theorem InputAt_any (b z1 z2 z3 k : Int) (w : World) : Calls Tryz.prog 41 #[.int .i64 b, .int .i64 z1, .int .i64 z2, .int .i64 z3, .int .i64 k] w (IARet b z1 z2 z3 k w) := by
  rcases inC_cases b z1 z2 z3 with h | ⟨h, n1, n2, n3, rfl, rfl, rfl, hB, hbig⟩
  · have HB := ia_bad (k := k) h
    have KI := (fun W => inputsOf_bad b z1 z2 z3 W h)
    obtain ⟨c, hc⟩ : ∃ c, inC b z1 z2 z3 = c := ⟨_, rfl⟩
    rw [hc] at KI h HB
    have HB := Lib.hid HB
    have KI := Lib.hid KI
    have hcb : (c != 0) = true := by simpa using h
    clear hc
    go_enter Tryz.func41, Tryz.ntmps41
    go_wp2_with fail
    refine Calls.kn ((Kn.nil w).al [.int .i64 0, .slice none 0 0, .int .i64 0, .slice none 0 0, .int .i64 0, .slice none 0 0, .int .i64 0] 28) ?_; intro w1 hK1
    (with_reducible refine (KI.out _).mono ?_); rintro e w2 ⟨rfl, hw⟩
    have hK2 := (hK1.keep hw).al [.int .i64 0, .slice none 0 0, .int .i64 0, .slice none 0 0, .int .i64 0, .slice none 0 0, .int .i64 0, .int .i64 0] 115
    go_upto_region 2 with fail
    refine Code.wp.kn hK2 ?_; intro w3 hK3
    clear hK1 hK2 hw
    obtain ⟨a1, a2, a3, -⟩ := (hK3.front 1 rfl).cells
    go_wp2_with fail
    refine bodyPost.kn ((((((((hK3.front 1 rfl).st 0 (.int .i64 0)).st 1 (.slice none 0 0)).st 2 (.int .i64 0)).st 3 (.slice none 0 0)).st 4 (.int .i64 0)).st 5 (.slice none 0 0)).st 6 (.int .i64 0)) ?_; intro w6 hK6
    clear a1 a2 a3
    obtain ⟨a1, a2, a3, -⟩ := hK6.cells
    refine bodyPost_ret (v := .tuple #[.agg #[.int .i64 0, .slice none 0 0, .int .i64 0, .slice none 0 0, .int .i64 0, .slice none 0 0, .int .i64 0], .int .i64 c]) (by simp [results, Tryz.results41, go_sem, a1]) rfl ?_
    unfold IARet
    rw [HB.out.1, HB.out.2]
    exact MCRet.bad hK6.bare
  · have KI := (fun W => inputsOf_fine W hB hbig)
    have hm0 : 0 ≤ pw b n1 * pw b n2 := Int.mul_nonneg (by have := hB.q1; omega) (by have := hB.q2; omega)
    have KA := (fun (E1 E2 E3 : Option Addr) (g1 g2 g3 : Nat) (W : World) q1 q2 q3 (hk : 0 ≤ k ∧ k ≤ 1000000) => at_any (b := b) (n1 := n1) (n2 := n2) (n3 := n3) E1 E2 E3 g1 g2 g3 (pw b n1 * pw b n2) k W hB q1 q2 q3 hk.1 hk.2)
    have KB := (fun W => between_B k 0 (pw b n1 * pw b n2 - 1) W)
    obtain ⟨x1, hx1⟩ : ∃ x, digD b n1 0 = x := ⟨_, rfl⟩
    obtain ⟨x2, hx2⟩ : ∃ x, digD b n2 0 = x := ⟨_, rfl⟩
    obtain ⟨x3, hx3⟩ : ∃ x, digD b n3 0 = x := ⟨_, rfl⟩
    rw [hx1, hx2, hx3] at KI KA
    rcases hk : betB k 0 (pw b n1 * pw b n2 - 1) with _ | _
    · have HB := Lib.hid (ia_out h hk)
      rw [hk] at KB
      obtain ⟨N, hN⟩ : ∃ N, pw b n1 * pw b n2 = N := ⟨_, rfl⟩
      rw [hN] at KI KB hbig hm0
      have hw1 : IntKind.i64.wrap (N - 1) = N - 1 := wrapI64 (by omega)
      have KI := Lib.hid KI
      have KB := Lib.hid KB
      clear hN hx1 hx2 hx3 hbig h hB KA hk hm0
      go_enter Tryz.func41, Tryz.ntmps41
      go_wp2_with fail
      refine Calls.kn ((Kn.nil w).al [.int .i64 0, .slice none 0 0, .int .i64 0, .slice none 0 0, .int .i64 0, .slice none 0 0, .int .i64 0] 28) ?_; intro w1 hK1
      (with_reducible refine (KI.out _).mono ?_); rintro e w2 ⟨E1, g1, E2, g2, E3, g3, rfl, hKn⟩
      have hK2 := (hK1.join hKn).al [.int .i64 b, .slice E1 x1.length g1, .int .i64 b, .slice E2 x2.length g2, .int .i64 b, .slice E3 x3.length g3, .int .i64 0, .int .i64 N] 115
      go_upto_region 4 with fail
      refine Code.wp.kn hK2 ?_; intro w3 hK3
      clear hKn hK2 hK1
      obtain ⟨a1, a2, a3, -⟩ := hK3.cells
      go_wp2_with fail
      refine (KB.out _).mono ?_; rintro e w4 ⟨rfl, hw⟩
      have hK4 := hK3.keep hw
      clear a1 a2 a3 hK3 hw
      obtain ⟨a1, a2, a3, -⟩ := (hK4.front 4 rfl).cells
      go_wp2_with fail
      refine bodyPost.kn ((((((((hK4.front 4 rfl).st 0 (.int .i64 0)).st 1 (.slice none 0 0)).st 2 (.int .i64 0)).st 3 (.slice none 0 0)).st 4 (.int .i64 0)).st 5 (.slice none 0 0)).st 6 (.int .i64 0)) ?_; intro w6 hK6
      clear a1 a2 a3
      obtain ⟨a1, a2, a3, -⟩ := hK6.cells
      refine bodyPost_ret (v := .tuple #[.agg #[.int .i64 0, .slice none 0 0, .int .i64 0, .slice none 0 0, .int .i64 0, .slice none 0 0, .int .i64 0], .int .i64 3]) (by simp [results, Tryz.results41, go_sem, a1]) rfl ?_
      unfold IARet
      rw [HB.out.1, HB.out.2]
      exact MCRet.bad hK6.bare
    · have HB := Lib.hid (ia_fine h hk)
      have hk2 := betB_iff.1 hk
      rw [hk] at KB
      have hkk : 0 ≤ k ∧ k ≤ 1000000 := by omega
      obtain ⟨N, hN⟩ : ∃ N, pw b n1 * pw b n2 = N := ⟨_, rfl⟩
      rw [hN] at KI KB KA hbig hm0
      obtain ⟨q, hq⟩ : ∃ q, k.tdiv (pw b n2) = q := ⟨_, rfl⟩
      obtain ⟨r, hr⟩ : ∃ q, k.tmod (pw b n2) = q := ⟨_, rfl⟩
      have HT := Lib.hid (show atT b n1 n2 n3 k = ⟨⟨b, digD b n1 q⟩, ⟨b, digD b n2 r⟩, ⟨b, x3⟩, 0⟩ by unfold atT; rw [hq, hr, hx3])
      rw [hq, hr] at KA
      obtain ⟨y1, hy1⟩ : ∃ x, digD b n1 q = x := ⟨_, rfl⟩
      obtain ⟨y2, hy2⟩ : ∃ x, digD b n2 r = x := ⟨_, rfl⟩
      rw [hy1, hy2] at KA HT
      have hw1 : IntKind.i64.wrap (N - 1) = N - 1 := wrapI64 (by omega)
      have KI := Lib.hid KI
      have KB := Lib.hid KB
      have KA := Lib.hid (fun E1 E2 E3 g1 g2 g3 W q1 q2 q3 => KA E1 E2 E3 g1 g2 g3 W q1 q2 q3 hkk)
      clear hN hx1 hx2 hx3 hbig h hB hk hm0 hq hr hy1 hy2 hk2
      go_enter Tryz.func41, Tryz.ntmps41
      go_wp2_with fail
      refine Calls.kn ((Kn.nil w).al [.int .i64 0, .slice none 0 0, .int .i64 0, .slice none 0 0, .int .i64 0, .slice none 0 0, .int .i64 0] 28) ?_; intro w1 hK1
      (with_reducible refine (KI.out _).mono ?_); rintro e w2 ⟨E1, g1, E2, g2, E3, g3, rfl, hKn⟩
      have hK2 := (hK1.join hKn).al [.int .i64 b, .slice E1 x1.length g1, .int .i64 b, .slice E2 x2.length g2, .int .i64 b, .slice E3 x3.length g3, .int .i64 0, .int .i64 N] 115
      go_upto_region 4 with fail
      refine Code.wp.kn hK2 ?_; intro w3 hK3
      clear hKn hK2 hK1
      obtain ⟨a1, a2, a3, -⟩ := hK3.cells
      go_wp2_with fail
      refine (KB.out _).mono ?_; rintro e w4 ⟨rfl, hw⟩
      have hK4 := hK3.keep hw
      clear a1 a2 a3 hK3 hw
      obtain ⟨a1, a2, a3, -⟩ := hK4.cells
      go_wp2_with fail
      (with_reducible refine (KA.out _ _ _ _ _ _ _ (hK4.front 3 rfl).riv (hK4.front 2 rfl).riv (hK4.front 1 rfl).riv).mono ?_); rintro e w5 ⟨F1, f1, F2, f2, F3, f3, rfl, hKn⟩
      have hK5 := hK4.join hKn
      clear a1 a2 a3 hK4 hKn
      obtain ⟨a1, a2, a3, -⟩ := (hK5.front 7 rfl).cells
      go_wp2_with fail
      refine bodyPost.kn ((((((((hK5.front 7 rfl).st 0 (.int .i64 b)).st 1 (.slice F1 y1.length f1)).st 2 (.int .i64 b)).st 3 (.slice F2 y2.length f2)).st 4 (.int .i64 b)).st 5 (.slice F3 x3.length f3)).st 6 (.int .i64 0)) ?_; intro w6 hK6
      clear a1 a2 a3
      obtain ⟨a1, a2, a3, -⟩ := hK6.cells
      refine bodyPost_ret (v := .tuple #[.agg #[.int .i64 b, .slice F1 y1.length f1, .int .i64 b, .slice F2 y2.length f2, .int .i64 b, .slice F3 x3.length f3, .int .i64 0], .int .i64 0]) (by simp [results, Tryz.results41, go_sem, a1]) rfl ?_
      unfold IARet MCRet
      rw [HB.out.1, HB.out.2, HT.out]
      exact ⟨F1, f1, F2, f2, F3, f3, rfl, hK6.sel [1, 2, 3] 99 (by decide) (by decide)⟩
set_option maxRecDepth 100000 in
set_option maxHeartbeats 3200000 in
theorem specInputAt_any (b z1 z2 z3 k : Int) (w : World) : Calls Tryz.prog 33 #[.int .i64 b, .int .i64 z1, .int .i64 z2, .int .i64 z3, .int .i64 k] w (IARet b z1 z2 z3 k w) := by
  have KI := (fun W => l14Size_any b z1 z2 z3 W)
  rcases inC_cases b z1 z2 z3 with h | ⟨h, n1, n2, n3, rfl, rfl, rfl, hB, hbig⟩
  · have HB := ia_bad (k := k) h
    obtain ⟨c, hc⟩ : ∃ c, inC b z1 z2 z3 = c := ⟨_, rfl⟩
    rw [hc] at KI h HB
    have HB := Lib.hid HB
    have KI := Lib.hid KI
    have hcb : (c != 0) = true := by simpa using h
    clear hc
    go_enter Tryz.func33, Tryz.ntmps33
    go_wp2_with fail
    refine Calls.kn ((Kn.nil w).al [.int .i64 0, .slice none 0 0, .int .i64 0, .slice none 0 0, .int .i64 0, .slice none 0 0, .int .i64 0] 28) ?_; intro w1 hK1
    (with_reducible refine (KI.out _).mono ?_); rintro e w2 ⟨rfl, hw⟩
    have hK3 := hK1.keep hw
    clear hK1 hw
    obtain ⟨a1, a2, a3, -⟩ := hK3.cells
    go_wp2_with fail
    refine bodyPost.kn (((((((hK3.st 0 (.int .i64 0)).st 1 (.slice none 0 0)).st 2 (.int .i64 0)).st 3 (.slice none 0 0)).st 4 (.int .i64 0)).st 5 (.slice none 0 0)).st 6 (.int .i64 0)) ?_; intro w6 hK6
    clear a1 a2 a3
    obtain ⟨a1, a2, a3, -⟩ := hK6.cells
    refine bodyPost_ret (v := .tuple #[.agg #[.int .i64 0, .slice none 0 0, .int .i64 0, .slice none 0 0, .int .i64 0, .slice none 0 0, .int .i64 0], .int .i64 c]) (by simp [results, Tryz.results33, go_sem, a1]) rfl ?_
    unfold IARet
    rw [HB.out.1, HB.out.2]
    exact MCRet.bad hK6.bare
  · rw [h] at KI
    have KI := Lib.hid KI
    have hm0 : 0 ≤ pw b n1 * pw b n2 := Int.mul_nonneg (by have := hB.q1; omega) (by have := hB.q2; omega)
    have KA := (fun W (hk : 0 ≤ k ∧ k ≤ 1000000) => l14At_any (b := b) (n1 := n1) (n2 := n2) (n3 := n3) k W hB hk.1 hk.2)
    have KB := (fun W => l00In_any k 0 (pw b n1 * pw b n2 - 1) W)
    have hHB1 := ia_out (k := k) h
    have hHB2 := ia_fine (k := k) h
    obtain ⟨b1, b2, h1, h1', h2, h2', h3, h3', hv, p1, p2, q1, q2⟩ := hB
    have V1 := (fun W => l10Power_any b n1 W b1 b2 (by omega))
    have V2 := (fun W => l10Power_any b n2 W b1 b2 (by omega))
    have hp1 : powS b n1 = pw b n1 := by unfold powS; omega
    have hp2 : powS b n2 = pw b n2 := by unfold powS; omega
    rw [hp1] at V1
    rw [hp2] at V2
    have hwm : IntKind.i64.wrap (pw b n1 * pw b n2) = pw b n1 * pw b n2 := wrapI64 (by omega)
    have hw1 : IntKind.i64.wrap (pw b n1 * pw b n2 - 1) = pw b n1 * pw b n2 - 1 := wrapI64 (by omega)
    rcases hk : betB k 0 (pw b n1 * pw b n2 - 1) with _ | _
    · have HB := Lib.hid (hHB1 hk)
      rw [hk] at KB
      obtain ⟨P1, hP1⟩ : ∃ x, pw b n1 = x := ⟨_, rfl⟩
      obtain ⟨P2, hP2⟩ : ∃ x, pw b n2 = x := ⟨_, rfl⟩
      rw [hP1] at V1 KB hwm hw1
      rw [hP2] at V2 KB hwm hw1
      have V1 := Lib.hid V1
      have V2 := Lib.hid V2
      have KB := Lib.hid KB
      clear hP1 hP2 hp1 hp2 h hv h1 h1' h2 h2' h3 h3' b1 b2 p1 p2 q1 q2 hbig hm0 KA hHB1 hHB2 hk
      go_enter Tryz.func33, Tryz.ntmps33
      go_wp2_with fail
      refine Calls.kn ((Kn.nil w).al [.int .i64 0, .slice none 0 0, .int .i64 0, .slice none 0 0, .int .i64 0, .slice none 0 0, .int .i64 0] 28) ?_; intro w1 hK1
      (with_reducible refine (KI.out _).mono ?_); rintro e w2 ⟨rfl, hw⟩
      have hK3 := hK1.keep hw
      clear hK1 hw
      obtain ⟨a1, a2, a3, -⟩ := hK3.cells
      go_wp2_with (first | (go_at_call 83; first | (with_reducible refine (V1.out _).mono ?_; rintro e w' ⟨rfl, rfl⟩) | (with_reducible refine (V2.out _).mono ?_; rintro e w' ⟨rfl, rfl⟩)) | (go_at_call 59; refine (KB.out _).mono ?_; rintro e w' ⟨rfl, rfl⟩))
      refine bodyPost.kn (((((((hK3.st 0 (.int .i64 0)).st 1 (.slice none 0 0)).st 2 (.int .i64 0)).st 3 (.slice none 0 0)).st 4 (.int .i64 0)).st 5 (.slice none 0 0)).st 6 (.int .i64 0)) ?_; intro w6 hK6
      clear a1 a2 a3
      obtain ⟨a1, a2, a3, -⟩ := hK6.cells
      refine bodyPost_ret (v := .tuple #[.agg #[.int .i64 0, .slice none 0 0, .int .i64 0, .slice none 0 0, .int .i64 0, .slice none 0 0, .int .i64 0], .int .i64 3]) (by simp [results, Tryz.results33, go_sem, a1]) rfl ?_
      unfold IARet
      rw [HB.out.1, HB.out.2]
      exact MCRet.bad hK6.bare
    · have HB := Lib.hid (hHB2 hk)
      have hk2 := betB_iff.1 hk
      rw [hk] at KB
      have hkk : 0 ≤ k ∧ k ≤ 1000000 := by omega
      obtain ⟨q, hq⟩ : ∃ q, k.tdiv (pw b n2) = q := ⟨_, rfl⟩
      obtain ⟨r, hr⟩ : ∃ q, k.tmod (pw b n2) = q := ⟨_, rfl⟩
      obtain ⟨x3, hx3⟩ : ∃ x, digD b n3 0 = x := ⟨_, rfl⟩
      have HT := Lib.hid (show atT b n1 n2 n3 k = ⟨⟨b, digD b n1 q⟩, ⟨b, digD b n2 r⟩, ⟨b, x3⟩, 0⟩ by unfold atT; rw [hq, hr, hx3])
      rw [hq, hr, hx3] at KA
      obtain ⟨y1, hy1⟩ : ∃ x, digD b n1 q = x := ⟨_, rfl⟩
      obtain ⟨y2, hy2⟩ : ∃ x, digD b n2 r = x := ⟨_, rfl⟩
      rw [hy1, hy2] at KA HT
      obtain ⟨P1, hP1⟩ : ∃ x, pw b n1 = x := ⟨_, rfl⟩
      obtain ⟨P2, hP2⟩ : ∃ x, pw b n2 = x := ⟨_, rfl⟩
      rw [hP1] at V1 KB hwm hw1
      rw [hP2] at V2 KB hwm hw1
      have V1 := Lib.hid V1
      have V2 := Lib.hid V2
      have KB := Lib.hid KB
      have KA := Lib.hid (fun W => KA W hkk)
      clear hP1 hP2 hp1 hp2 h hv h1 h1' h2 h2' h3 h3' b1 b2 p1 p2 q1 q2 hbig hm0 hHB1 hHB2 hk hk2 hq hr hy1 hy2 hx3
      go_enter Tryz.func33, Tryz.ntmps33
      go_wp2_with fail
      refine Calls.kn ((Kn.nil w).al [.int .i64 0, .slice none 0 0, .int .i64 0, .slice none 0 0, .int .i64 0, .slice none 0 0, .int .i64 0] 28) ?_; intro w1 hK1
      (with_reducible refine (KI.out _).mono ?_); rintro e w2 ⟨rfl, hw⟩
      have hK3 := hK1.keep hw
      clear hK1 hw
      go_wp2_with (first | (go_at_call 83; first | (with_reducible refine (V1.out _).mono ?_; rintro e w' ⟨rfl, rfl⟩) | (with_reducible refine (V2.out _).mono ?_; rintro e w' ⟨rfl, rfl⟩)) | (go_at_call 59; refine (KB.out _).mono ?_; rintro e w' ⟨rfl, rfl⟩))
      (with_reducible refine (KA.out _).mono ?_); rintro e w5 ⟨F1, f1, F2, f2, F3, f3, rfl, hKn⟩
      have hK5 := hK3.join hKn
      clear hK3 hKn
      obtain ⟨a1, a2, a3, -⟩ := (hK5.front 3 rfl).cells
      go_wp2_with fail
      refine bodyPost.kn ((((((((hK5.front 3 rfl).st 0 (.int .i64 b)).st 1 (.slice F1 y1.length f1)).st 2 (.int .i64 b)).st 3 (.slice F2 y2.length f2)).st 4 (.int .i64 b)).st 5 (.slice F3 x3.length f3)).st 6 (.int .i64 0)) ?_; intro w6 hK6
      clear a1 a2 a3
      obtain ⟨a1, a2, a3, -⟩ := hK6.cells
      refine bodyPost_ret (v := .tuple #[.agg #[.int .i64 b, .slice F1 y1.length f1, .int .i64 b, .slice F2 y2.length f2, .int .i64 b, .slice F3 x3.length f3, .int .i64 0], .int .i64 0]) (by simp [results, Tryz.results33, go_sem, a1]) rfl ?_
      unfold IARet MCRet
      rw [HB.out.1, HB.out.2, HT.out]
      exact ⟨F1, f1, F2, f2, F3, f3, rfl, hK6.sel [1, 2, 3] 99 (by decide) (by decide)⟩
end Go.Proofs.YtkfbfainhmkkdaaGreat

/-! the draws of programs: l11Nest, l11Some, l11Draw (for FnRuns, FnPacked and others) -/
namespace Go.Proofs.YtkfbfainhmkkdaaGreat
open Go.RowKit Go.Sort
section
variable {ops : Array Oper} {rest : List Oper} {o : Oper} {a : Act} {Q : Exit → Act → World → Prop} {w0 w : World} {m : List Ent}
/-- append(s, x..), x an own row that is not nil but may be empty -/
theorem kn_appZ {t e : TypeId} {z : Value} {size bytes : Nat} (T : TP t e z size bytes) (hgd : o.guard = none) (s x : Operand) (ho : o.op = .call { callee := .builtin .append, args := #[s, x], argTypes := #[t, t] })
    (v : Value) (n : Nat) (xs : List Value) (hs : a.eval s = v) (hb0 : v.ownBlock ≠ none) {ad : Addr} {c k : Nat} {l : List Value} (hx : a.eval x = .slice (some ad) k c)
    (hK : Kn w0 (.row (.slice (some ad) k c) e size k l :: .row v e size n xs :: m) w) (h1 : ∀ u ∈ l, u.oneCell' = true)
    (h63 : n + k ≤ 1000000000000000) (hb : (n + k) * bytes ≤ 140737488355328)
    (h : ∀ v' w', v'.ownBlock ≠ none → Kn w0 (.row v' e size (n + k) (xs ++ l) :: .row (.slice (some ad) k c) e size k l :: m) w' → wpList Tryz.prog ops Q rest (a.put o.dst v') w') : wpList Tryz.prog ops Q (o :: rest) a w := by
  have hK2 := hK.sw1
  have h0 : w.ownsRow 0 e size (.slice (some ad) k c) k l := hK.at0
  rcases h0.2 with ⟨hv, _⟩ | ⟨g, cap, cur, hv, -, hg, -⟩
  · cases hv
  injection hv with hv _ _
  injection hv with hv
  subst hv
  refine appG T hgd s x ho 0 v n xs hs hK2.at0 ⟨g, 0, none⟩ k c l hx h0.1 (fun j u hu => h0.cells (g := g) rfl j u hu) h1 h63 hb (Nat.zero_le _) (fun v' w' ho' hg hv => ?_)
  refine h v' w' ?_ (hK2.grow hg ho' hv)
  rcases hv with hv | hv <;> rw [hv]
  · exact hb0
  · simp
end
theorem row_some {w : World} {b : Nat} {e : TypeId} {size n : Nat} {v : Value} {xs : List Value} (h : w.ownsRow b e size v n xs) (hv : v.ownBlock ≠ none) : ∃ g c, v = .slice (some ⟨g, 0, none⟩) n c := by
  rcases h.2 with ⟨rfl, h2⟩ | ⟨g, cap, cur, rfl, -⟩
  · exact absurd rfl hv
  · exact ⟨_, _, rfl⟩
theorem row_pos {w : World} {b : Nat} {e : TypeId} {size n : Nat} {v : Value} {xs : List Value} (h : w.ownsRow b e size v n xs) (hn : 0 < n) : ∃ g c, v = .slice (some ⟨g, 0, none⟩) n c := by
  rcases h.2 with ⟨rfl, h2⟩ | ⟨g, cap, cur, rfl, -⟩
  · omega
  · exact ⟨_, _, rfl⟩
/-- instructions that are not nil -/
def InsRet (L : Nat) (w : World) (e : Ending) (w' : World) : Prop := ∃ (g c : Nat) (xs : List Ins), e = .returned (.slice (some ⟨g, 0, none⟩) xs.length c) ∧ xs.length ≤ L ∧ Kn w [rowIns (.slice (some ⟨g, 0, none⟩) xs.length c) xs] w'
set_option maxRecDepth 100000 in
set_option maxHeartbeats 1600000 in
theorem l11Nest_any (d : Nat) (t : Int) (w : World) (hd : d ≤ 5) : Calls Tryz.prog 149 #[.int .i64 d, .int .i64 t] w (InsRet 11 w) := by
  unfold InsRet
  go_enter Tryz.func149, Tryz.ntmps149
  go_wp2_with fail
  have hK1 : Kn w [rowIns (.slice (some ⟨w.heap.size, 0, none⟩) 0 0) []] (w.alloc (.cells #[] 80)) := ((Kn.nil w).al [] 80).litRow (size := 2) (n := 0) rfl (by decide)
  go_loopw [5, 6] (fun vv kk wr => ∃ (j : Nat) (g c : Nat) (xs : List Ins), kk = .int .i64 (j : Int) ∧ xs.length + j ≤ d ∧ vv = .slice (some ⟨g, 0, none⟩) xs.length c ∧ Kn w [rowIns (.slice (some ⟨g, 0, none⟩) xs.length c) xs] wr) (fun _ kk _ => (intOf kk).toNat)
  case atStart => exact ⟨d, _, 0, [], rfl, by simp, rfl, hK1⟩
  case round =>
    clear hK1
    obtain ⟨j, g, c, xs, rfl, hj, rfl, hK⟩ := hrel
    by_cases h0 : 0 < j
    · have i1 : (0 : Int) < (j : Int) := by omega
      have i2 : (j : Int) > 0 := i1
      go_wp2_with (at_builtin; refine kn_pushIns (m := []) (ys := [⟨8, t⟩]) rfl _ _ rfl _ xs rfl rfl (hK.al [.int .i64 8, .int .i64 t] 80) (by simp; omega) ?_; intro v2 w2 hK2; obtain ⟨g5, c5, rfl⟩ := row_pos hK2.at0 (by simp))
      go_roundw
      case rel => exact ⟨j - 1, g5, c5, xs ++ [⟨8, t⟩], by go_num, by simp; omega, by simp, hK2⟩
      case measure => simp [intOf]; omega
    · have i1 : ¬ (j : Int) > 0 := by omega
      go_wp2_with (at_builtin; refine kn_pushIns (m := []) (ys := [⟨2, 1⟩]) rfl _ _ rfl _ xs rfl rfl (hK.al [.int .i64 2, .int .i64 1] 80) (by simp; omega) ?_; intro v2 w2 hK2; obtain ⟨g5, c5, rfl⟩ := row_pos hK2.at0 (by simp))
      obtain ⟨ys, hys⟩ : ∃ ys, xs ++ [(⟨2, 1⟩ : Ins)] = ys := ⟨_, rfl⟩
      have hyn : ys.length = xs.length + 1 := by rw [← hys]; simp
      rw [hys] at hK2
      rw [← hyn]
      have hyl : ys.length ≤ d + 1 := by omega
      clear hys hyn hK
      go_loopw [5, 7] (fun vv kk wr => ∃ (j : Nat) (g c : Nat) (zs : List Ins), kk = .int .i64 (j : Int) ∧ zs.length + j ≤ 2 * d + 1 ∧ vv = .slice (some ⟨g, 0, none⟩) zs.length c ∧ Kn w [rowIns (.slice (some ⟨g, 0, none⟩) zs.length c) zs] wr) (fun _ kk _ => (intOf kk).toNat)
      case atStart => exact ⟨d, g5, c5, ys, rfl, by omega, rfl, hK2⟩
      case round =>
        clear hK2
        obtain ⟨i, g, c, zs, rfl, hi, rfl, hK⟩ := hrel
        by_cases h0 : 0 < i
        · have i1 : (0 : Int) < (i : Int) := by omega
          have i2 : (i : Int) > 0 := i1
          go_wp2_with (at_builtin; refine kn_pushIns (m := []) (ys := [⟨10, 0⟩]) rfl _ _ rfl _ zs rfl rfl (hK.al [.int .i64 10, .int .i64 0] 80) (by simp; omega) ?_; intro v2 w2 hK2; obtain ⟨g5, c5, rfl⟩ := row_pos hK2.at0 (by simp))
          go_roundw
          case rel => exact ⟨i - 1, g5, c5, zs ++ [⟨10, 0⟩], by go_num, by simp; omega, by simp, hK2⟩
          case measure => simp [intOf]; omega
        · have i1 : ¬ (i : Int) > 0 := by omega
          go_wp2_with fail
          go_ret
          exact ⟨g, c, zs, rfl, by omega, hK⟩
end Go.Proofs.YtkfbfainhmkkdaaGreat

namespace Go.Proofs.YtkfbfainhmkkdaaGreat
open Go.RowKit Go.Sort
/-- drawn instructions -/
def DIns (b M L : Nat) (w : World) (e : Ending) (w' : World) : Prop := ∃ (g c : Nat) (xs : List Ins), e = .returned (.slice (some ⟨g, 0, none⟩) xs.length c) ∧ xs.length ≤ L ∧ DR b M w [rowIns (.slice (some ⟨g, 0, none⟩) xs.length c) xs] w'
set_option maxRecDepth 100000 in
set_option maxHeartbeats 3200000 in
theorem l11Some0_dr (b N : Nat) (w : World) (h : Src w b N) (hN : N ≤ 700000) : Calls Tryz.prog 121 #[.pointer (some ⟨b, 0, none⟩), .int .i64 0] w (DIns b (N + (4 + 4 * (8 + 0))) (4 * (2 + 0)) w) := by
  unfold DIns
  have D0 := DR.nil h
  clear h
  go_enter Tryz.func121, Tryz.ntmps121
  go_wp2_with fail
  refine Calls.dr (D0.al [] 80) ?_; intro w1 D1
  obtain ⟨g, hg⟩ : ∃ g, w.heap.size = g := ⟨_, rfl⟩
  rw [hg] at D1 ⊢
  have D2 : DR b _ w [rowIns (.slice (some ⟨g, 0, none⟩) 0 0) []] w1 := D1.kn (fun v hK => hK.litRow (size := 2) (n := 0) rfl (by decide))
  clear D0 D1 hg
  refine (pick_dr b _ 4 w1 D2.src (by omega)).mono ?_; rintro e w5 ⟨x, rfl, hx, h5⟩
  have D6 : DR b _ w [rowIns (.slice (some ⟨g, 0, none⟩) 0 0) []] w5 := D2.add h5
  clear D2 h5
  obtain ⟨q, rfl⟩ : ∃ q : Nat, x = q := ⟨x.toNat, by omega⟩
  have hq : q ≤ 3 := by rcases hx.2 with h | h <;> omega
  have hw1 : IntKind.i64.wrap (1 + (q : Int)) = ((q + 1 : Nat) : Int) := by rw [wrapI64 (by omega)]; omega
  clear hx
  go_wp2_with fail
  go_loopw [5, 6] (fun vv kk wr => ∃ (k : Nat) (g c : Nat) (xs : List Ins), kk = .int .i64 (k : Int) ∧ k ≤ 4 ∧ xs.length ≤ (4 - k) * (2 + 0) ∧ vv = .slice (some ⟨g, 0, none⟩) xs.length c ∧ DR b (N + 2 + (4 - k) * (8 + 0)) w [rowIns (.slice (some ⟨g, 0, none⟩) xs.length c) xs] wr) (fun _ kk _ => (intOf kk).toNat)
  case atStart => exact ⟨q + 1, g, 0, [], by go_num, by omega, by simp, rfl, D6.mono (by omega)⟩
  case round =>
    clear D6 hw1 hq
    obtain ⟨k, g, c, xs, rfl, hk4, hxl, rfl, D⟩ := hrel
    by_cases hk : 0 < k
    · have i1 : (0 : Int) < (k : Int) := by omega
      have i2 : (k : Int) > 0 := i1
      go_wp2_with fail
      refine Calls.dr (D.al [.int .i64 2, .int .i64 2, .int .i64 3, .int .i64 4, .int .i64 5, .int .i64 1, .int .i64 8, .int .i64 9, .int .i64 6, .int .i64 7] 2) ?_; intro w6 D6
      obtain ⟨hr, hA⟩ := DR.lit (ds := [2, 2, 3, 4, 5, 1, 8, 9, 6, 7]) D6 (by decide)
      refine (among_dr b _ _ 10 10 _ w6 D6.src (by omega) hr hA (by omega) (by omega)).mono ?_; rintro e w7 ⟨x, rfl, hx, h7⟩
      have D7 : DR b _ w [rowIns (.slice (some ⟨g, 0, none⟩) xs.length c) xs] w7 := (D6.add h7).sel [1] 99 (by decide) (by decide)
      clear hr hA D D6 h7
      have hx2 : x = 8 ∨ x = 9 ∨ x = 1 ∨ (2 ≤ x ∧ x ≤ 5) ∨ x = 6 ∨ x = 7 := by simp at hx; omega
      clear hx
      rcases hx2 with rfl | rfl | rfl | hx2 | hx2
      · have ho : opens 8 = true := rfl
        rcases Nat.eq_zero_or_pos 0 with hz | hz
        · first
            | (exact absurd hz (by decide))
            | (go_wp2_with (go_at_call 129; refine (l11Opens_any _ _).mono ?_; rintro e w' ⟨rfl, rfl⟩; rw [ho])
               go_roundw
               case rel => exact ⟨k - 1, g, c, xs, by go_num, by omega, by omega, rfl, D7.mono (by omega)⟩
               case measure => simp [intOf]; omega)
        · first
            | (exact absurd hz (by decide))
            | (go_wp2_with (go_at_call 129; refine (l11Opens_any _ _).mono ?_; rintro e w' ⟨rfl, rfl⟩; rw [ho])
               refine Calls.dr (D7.al [.int .i64 8, .int .i64 0] 80) ?_; intro w8 D8
               obtain ⟨gx, hgx⟩ : ∃ g, w7.heap.size = g := ⟨_, rfl⟩
               rw [hgx] at D8 ⊢
               clear hgx D7
               refine (pick_dr b _ 4 w8 D8.src (by omega)).mono ?_; rintro e w9 ⟨y, rfl, hy, h9⟩
               have D9 : DR b _ w [.blk gx [.int .i64 8, .int .i64 0] 80, rowIns (.slice (some ⟨g, 0, none⟩) xs.length c) xs] w9 := D8.add h9
               clear D8 h9
               obtain ⟨r, hr⟩ : ∃ r, 1 + y = r := ⟨_, rfl⟩
               have hw1 : IntKind.i64.wrap (1 + y) = r := by rw [wrapI64 (by omega)]; exact hr
               clear hy hr
               obtain ⟨a1, a2, a3, -⟩ := D9.cells
               go_upto_region 13 with fail
               refine Code.wp.dr (D9.st 1 (.int .i64 r)) ?_; intro w10 D10
               clear a1 a2 a3 D9
               obtain ⟨a1, a2, a3, -⟩ := D10.cells
               obtain ⟨v, hT, hS, hK⟩ := D10.front 1 rfl
               go_wp2_with (at_builtin; refine kn_pushIns (ys := [⟨8, r⟩]) rfl _ _ rfl _ xs rfl rfl (hK.al [.int .i64 8, .int .i64 r] 80) (by simp; omega) ?_; intro v9 w11 hK9; obtain ⟨g5, c5, rfl⟩ := row_pos hK9.at0 (by simp))
               clear a1 a2 a3 D10
               have D11 : DR b _ w [rowIns (.slice (some ⟨g5, 0, none⟩) (xs ++ [(⟨8, r⟩ : Ins)]).length c5) (xs ++ [(⟨8, r⟩ : Ins)])] w11 := DR.sel ⟨v, hT, hS, hK9⟩ [0] 99 (by decide) (by decide)
               clear hT hS hK9 hK
               obtain ⟨ys, hys⟩ : ∃ ys, xs ++ [(⟨8, r⟩ : Ins)] = ys := ⟨_, rfl⟩
               have hyn : ys.length = xs.length + 1 := by rw [← hys]; simp
               rw [hys] at D11
               try rw [← hyn]
               have hyl : ys.length ≤ (4 - k) * (2 + 0) + 1 := by omega
               clear hys hyn
               have KR := Lib.hid (l11Some0_dr b _ w11 D11.src (by omega))
               unfold DIns at KR
               refine KR.out.mono ?_; rintro e w12 ⟨g6, c6, zs, rfl, hzl, h12⟩
               obtain ⟨v, hT, hS, hK⟩ : DR b _ w [rowIns (.slice (some ⟨g6, 0, none⟩) zs.length c6) zs, rowIns (.slice (some ⟨g5, 0, none⟩) ys.length c5) ys] w12 := D11.add h12
               clear h12 KR D11
               go_wp2_with (first
                 | (at_builtin; refine kn_appZ tpIns rfl _ _ rfl (.slice (some ⟨g5, 0, none⟩) ys.length c5) ys.length (cellsIns ys) rfl (by simp [Value.ownBlock]) rfl hK (cellsIns_one zs) (by omega) (by omega) ?_; intro v13 w13 hb13 hK13; have hK14 : Kn v (rowIns v13 (ys ++ zs) :: _) w13 := (by unfold rowIns; rw [List.length_append, cellsIns_app]; exact hK13); obtain ⟨g7, c7, rfl⟩ := row_some hK14.at0 hb13)
                 | (at_builtin; refine kn_pushIns (ys := [⟨10, 0⟩]) rfl _ _ rfl _ (ys ++ zs) (by rw [List.length_append]; rfl) rfl (hK14.al [.int .i64 10, .int .i64 0] 80) (by simp; omega) ?_; intro v15 w15 hK15; obtain ⟨g8, c8, rfl⟩ := row_pos hK15.at0 (by simp; omega)))
               go_roundw
               case rel => exact ⟨k - 1, g8, c8, ys ++ zs ++ [⟨10, 0⟩], by go_num, by omega, (by rw [List.length_append, List.length_append, List.length_singleton]; omega), by simp, (DR.sel (show DR b _ w _ _ from ⟨v, hT, hS, hK15⟩) [0] 99 (by decide) (by decide)).mono (by omega)⟩
               case measure => simp [intOf]; omega)
      · have ho : opens 9 = true := rfl
        rcases Nat.eq_zero_or_pos 0 with hz | hz
        · first
            | (exact absurd hz (by decide))
            | (go_wp2_with (go_at_call 129; refine (l11Opens_any _ _).mono ?_; rintro e w' ⟨rfl, rfl⟩; rw [ho])
               go_roundw
               case rel => exact ⟨k - 1, g, c, xs, by go_num, by omega, by omega, rfl, D7.mono (by omega)⟩
               case measure => simp [intOf]; omega)
        · first
            | (exact absurd hz (by decide))
            | (go_upto_region 13 with (go_at_call 129; refine (l11Opens_any _ _).mono ?_; rintro e w' ⟨rfl, rfl⟩; rw [ho])
               refine Code.wp.dr (D7.al [.int .i64 9, .int .i64 0] 80) ?_; intro w10 D10
               obtain ⟨gx, hgx⟩ : ∃ g, w7.heap.size = g := ⟨_, rfl⟩
               rw [hgx] at D10 ⊢
               clear hgx D7
               obtain ⟨a1, a2, a3, -⟩ := D10.cells
               obtain ⟨v, hT, hS, hK⟩ := D10.front 1 rfl
               go_wp2_with (at_builtin; refine kn_pushIns (ys := [⟨9, 0⟩]) rfl _ _ rfl _ xs rfl rfl (hK.al [.int .i64 9, .int .i64 0] 80) (by simp; omega) ?_; intro v9 w11 hK9; obtain ⟨g5, c5, rfl⟩ := row_pos hK9.at0 (by simp))
               clear a1 a2 a3 D10
               have D11 : DR b _ w [rowIns (.slice (some ⟨g5, 0, none⟩) (xs ++ [(⟨9, 0⟩ : Ins)]).length c5) (xs ++ [(⟨9, 0⟩ : Ins)])] w11 := DR.sel ⟨v, hT, hS, hK9⟩ [0] 99 (by decide) (by decide)
               clear hT hS hK9 hK
               obtain ⟨ys, hys⟩ : ∃ ys, xs ++ [(⟨9, 0⟩ : Ins)] = ys := ⟨_, rfl⟩
               have hyn : ys.length = xs.length + 1 := by rw [← hys]; simp
               rw [hys] at D11
               try rw [← hyn]
               have hyl : ys.length ≤ (4 - k) * (2 + 0) + 1 := by omega
               clear hys hyn
               have KR := Lib.hid (l11Some0_dr b _ w11 D11.src (by omega))
               unfold DIns at KR
               refine KR.out.mono ?_; rintro e w12 ⟨g6, c6, zs, rfl, hzl, h12⟩
               obtain ⟨v, hT, hS, hK⟩ : DR b _ w [rowIns (.slice (some ⟨g6, 0, none⟩) zs.length c6) zs, rowIns (.slice (some ⟨g5, 0, none⟩) ys.length c5) ys] w12 := D11.add h12
               clear h12 KR D11
               go_wp2_with (first
                 | (at_builtin; refine kn_appZ tpIns rfl _ _ rfl (.slice (some ⟨g5, 0, none⟩) ys.length c5) ys.length (cellsIns ys) rfl (by simp [Value.ownBlock]) rfl hK (cellsIns_one zs) (by omega) (by omega) ?_; intro v13 w13 hb13 hK13; have hK14 : Kn v (rowIns v13 (ys ++ zs) :: _) w13 := (by unfold rowIns; rw [List.length_append, cellsIns_app]; exact hK13); obtain ⟨g7, c7, rfl⟩ := row_some hK14.at0 hb13)
                 | (at_builtin; refine kn_pushIns (ys := [⟨10, 0⟩]) rfl _ _ rfl _ (ys ++ zs) (by rw [List.length_append]; rfl) rfl (hK14.al [.int .i64 10, .int .i64 0] 80) (by simp; omega) ?_; intro v15 w15 hK15; obtain ⟨g8, c8, rfl⟩ := row_pos hK15.at0 (by simp; omega)))
               go_roundw
               case rel => exact ⟨k - 1, g8, c8, ys ++ zs ++ [⟨10, 0⟩], by go_num, by omega, (by rw [List.length_append, List.length_append, List.length_singleton]; omega), by simp, (DR.sel (show DR b _ w _ _ from ⟨v, hT, hS, hK15⟩) [0] 99 (by decide) (by decide)).mono (by omega)⟩
               case measure => simp [intOf]; omega)
      · have ho : opens 1 = false := rfl
        go_wp2_with (go_at_call 129; refine (l11Opens_any _ _).mono ?_; rintro e w' ⟨rfl, rfl⟩; rw [ho])
        refine (pick_dr b _ 30 w7 D7.src (by omega)).mono ?_; rintro e w8 ⟨y, rfl, hy, h8⟩
        obtain ⟨v, hT, hS, hK⟩ : DR b _ w [rowIns (.slice (some ⟨g, 0, none⟩) xs.length c) xs] w8 := D7.add h8
        clear h8 D7 hy
        go_wp2_with (at_builtin; refine kn_pushIns (ys := [⟨1, y⟩]) rfl _ _ rfl _ xs rfl rfl (hK.al [.int .i64 (1), .int .i64 (y)] 80) (by simp; omega) ?_; intro v9 w9 hK9; obtain ⟨g5, c5, rfl⟩ := row_pos hK9.at0 (by simp))
        go_roundw
        case rel => exact ⟨k - 1, g5, c5, xs ++ [⟨1, y⟩], by go_num, by omega, by simp; omega, by simp, (show DR b _ w _ _ from ⟨v, hT, hS, hK9⟩).mono (by omega)⟩
        case measure => simp [intOf]; omega
      · have ho : opens x = false := by unfold opens; simp; omega
        have e1 : (x == 1) = false := by simp; omega
        have e2 : x < 6 := by omega
        go_wp2_with (go_at_call 129; refine (l11Opens_any _ _).mono ?_; rintro e w' ⟨rfl, rfl⟩; rw [ho])
        refine (pick_dr b _ 4 w7 D7.src (by omega)).mono ?_; rintro e w8 ⟨y, rfl, hy, h8⟩
        have D8 : DR b _ w [rowIns (.slice (some ⟨g, 0, none⟩) xs.length c) xs] w8 := D7.add h8
        clear h8 D7
        go_wp2_with fail
        refine (pick_dr b _ 2 w8 D8.src (by omega)).mono ?_; rintro e w9 ⟨z, rfl, hz, h9⟩
        obtain ⟨v, hT, hS, hK⟩ : DR b _ w [rowIns (.slice (some ⟨g, 0, none⟩) xs.length c) xs] w9 := D8.add h9
        clear h9 D8
        obtain ⟨r, hr⟩ : ∃ r, 1 + y * z = r := ⟨_, rfl⟩
        have hz2 : z = 0 ∨ z = 1 := by omega
        have hyz : 0 ≤ y * z ∧ y * z ≤ 3 := by rcases hz2 with rfl | rfl <;> omega
        have hw1 : IntKind.i64.wrap (y * z) = y * z := wrapI64 (by omega)
        have hw2 : IntKind.i64.wrap (1 + y * z) = r := by rw [wrapI64 (by omega)]; exact hr
        clear hz2 hyz hr hy hz
        go_wp2_with (at_builtin; refine kn_pushIns (ys := [⟨x, r⟩]) rfl _ _ rfl _ xs rfl rfl (hK.al [.int .i64 (x), .int .i64 (r)] 80) (by simp; omega) ?_; intro v9 w9 hK9; obtain ⟨g5, c5, rfl⟩ := row_pos hK9.at0 (by simp))
        go_roundw
        case rel => exact ⟨k - 1, g5, c5, xs ++ [⟨x, r⟩], by go_num, by omega, by simp; omega, by simp, (show DR b _ w _ _ from ⟨v, hT, hS, hK9⟩).mono (by omega)⟩
        case measure => simp [intOf]; omega
      · have ho : opens x = false := by rcases hx2 with rfl | rfl <;> rfl
        have e1 : (x == 1) = false := by simp; omega
        have e2 : ¬ x < 6 := by omega
        go_wp2_with (go_at_call 129; refine (l11Opens_any _ _).mono ?_; rintro e w' ⟨rfl, rfl⟩; rw [ho])
        refine (one_dr b _ 3 w7 D7.src (by omega)).mono ?_; rintro e w8 ⟨y, rfl, h8⟩
        have D8 : DR b _ w [rowIns (.slice (some ⟨g, 0, none⟩) xs.length c) xs] w8 := D7.add h8
        clear h8 D7
        rcases y with _ | _
        · go_wp2_with fail
          go_roundw
          case rel => exact ⟨k - 1, g, c, xs, by go_num, by omega, by omega, rfl, D8.mono (by omega)⟩
          case measure => simp [intOf]; omega
        · obtain ⟨v, hT, hS, hK⟩ := D8
          go_wp2_with (at_builtin; refine kn_pushIns (ys := [⟨x, 0⟩]) rfl _ _ rfl _ xs rfl rfl (hK.al [.int .i64 (x), .int .i64 (0)] 80) (by simp; omega) ?_; intro v9 w9 hK9; obtain ⟨g5, c5, rfl⟩ := row_pos hK9.at0 (by simp))
          go_roundw
          case rel => exact ⟨k - 1, g5, c5, xs ++ [⟨x, 0⟩], by go_num, by omega, by simp; omega, by simp, (show DR b _ w _ _ from ⟨v, hT, hS, hK9⟩).mono (by omega)⟩
          case measure => simp [intOf]; omega
    · have i1 : ¬ (k : Int) > 0 := by omega
      go_wp2_with fail
      go_ret
      exact ⟨g, c, xs, rfl, by omega, D.mono (by omega)⟩
set_option maxRecDepth 100000 in
set_option maxHeartbeats 3200000 in
theorem l11Some1_dr (b N : Nat) (w : World) (h : Src w b N) (hN : N ≤ 650000) : Calls Tryz.prog 121 #[.pointer (some ⟨b, 0, none⟩), .int .i64 1] w (DIns b (N + (4 + 4 * (8 + 36))) (4 * (2 + 8)) w) := by
  unfold DIns
  have D0 := DR.nil h
  clear h
  go_enter Tryz.func121, Tryz.ntmps121
  go_wp2_with fail
  refine Calls.dr (D0.al [] 80) ?_; intro w1 D1
  obtain ⟨g, hg⟩ : ∃ g, w.heap.size = g := ⟨_, rfl⟩
  rw [hg] at D1 ⊢
  have D2 : DR b _ w [rowIns (.slice (some ⟨g, 0, none⟩) 0 0) []] w1 := D1.kn (fun v hK => hK.litRow (size := 2) (n := 0) rfl (by decide))
  clear D0 D1 hg
  refine (pick_dr b _ 4 w1 D2.src (by omega)).mono ?_; rintro e w5 ⟨x, rfl, hx, h5⟩
  have D6 : DR b _ w [rowIns (.slice (some ⟨g, 0, none⟩) 0 0) []] w5 := D2.add h5
  clear D2 h5
  obtain ⟨q, rfl⟩ : ∃ q : Nat, x = q := ⟨x.toNat, by omega⟩
  have hq : q ≤ 3 := by rcases hx.2 with h | h <;> omega
  have hw1 : IntKind.i64.wrap (1 + (q : Int)) = ((q + 1 : Nat) : Int) := by rw [wrapI64 (by omega)]; omega
  clear hx
  go_wp2_with fail
  go_loopw [5, 6] (fun vv kk wr => ∃ (k : Nat) (g c : Nat) (xs : List Ins), kk = .int .i64 (k : Int) ∧ k ≤ 4 ∧ xs.length ≤ (4 - k) * (2 + 8) ∧ vv = .slice (some ⟨g, 0, none⟩) xs.length c ∧ DR b (N + 2 + (4 - k) * (8 + 36)) w [rowIns (.slice (some ⟨g, 0, none⟩) xs.length c) xs] wr) (fun _ kk _ => (intOf kk).toNat)
  case atStart => exact ⟨q + 1, g, 0, [], by go_num, by omega, by simp, rfl, D6.mono (by omega)⟩
  case round =>
    clear D6 hw1 hq
    obtain ⟨k, g, c, xs, rfl, hk4, hxl, rfl, D⟩ := hrel
    by_cases hk : 0 < k
    · have i1 : (0 : Int) < (k : Int) := by omega
      have i2 : (k : Int) > 0 := i1
      go_wp2_with fail
      refine Calls.dr (D.al [.int .i64 2, .int .i64 2, .int .i64 3, .int .i64 4, .int .i64 5, .int .i64 1, .int .i64 8, .int .i64 9, .int .i64 6, .int .i64 7] 2) ?_; intro w6 D6
      obtain ⟨hr, hA⟩ := DR.lit (ds := [2, 2, 3, 4, 5, 1, 8, 9, 6, 7]) D6 (by decide)
      refine (among_dr b _ _ 10 10 _ w6 D6.src (by omega) hr hA (by omega) (by omega)).mono ?_; rintro e w7 ⟨x, rfl, hx, h7⟩
      have D7 : DR b _ w [rowIns (.slice (some ⟨g, 0, none⟩) xs.length c) xs] w7 := (D6.add h7).sel [1] 99 (by decide) (by decide)
      clear hr hA D D6 h7
      have hx2 : x = 8 ∨ x = 9 ∨ x = 1 ∨ (2 ≤ x ∧ x ≤ 5) ∨ x = 6 ∨ x = 7 := by simp at hx; omega
      clear hx
      rcases hx2 with rfl | rfl | rfl | hx2 | hx2
      · have ho : opens 8 = true := rfl
        rcases Nat.eq_zero_or_pos 1 with hz | hz
        · first
            | (exact absurd hz (by decide))
            | (go_wp2_with (go_at_call 129; refine (l11Opens_any _ _).mono ?_; rintro e w' ⟨rfl, rfl⟩; rw [ho])
               go_roundw
               case rel => exact ⟨k - 1, g, c, xs, by go_num, by omega, by omega, rfl, D7.mono (by omega)⟩
               case measure => simp [intOf]; omega)
        · first
            | (exact absurd hz (by decide))
            | (go_wp2_with (go_at_call 129; refine (l11Opens_any _ _).mono ?_; rintro e w' ⟨rfl, rfl⟩; rw [ho])
               refine Calls.dr (D7.al [.int .i64 8, .int .i64 0] 80) ?_; intro w8 D8
               obtain ⟨gx, hgx⟩ : ∃ g, w7.heap.size = g := ⟨_, rfl⟩
               rw [hgx] at D8 ⊢
               clear hgx D7
               refine (pick_dr b _ 4 w8 D8.src (by omega)).mono ?_; rintro e w9 ⟨y, rfl, hy, h9⟩
               have D9 : DR b _ w [.blk gx [.int .i64 8, .int .i64 0] 80, rowIns (.slice (some ⟨g, 0, none⟩) xs.length c) xs] w9 := D8.add h9
               clear D8 h9
               obtain ⟨r, hr⟩ : ∃ r, 1 + y = r := ⟨_, rfl⟩
               have hw1 : IntKind.i64.wrap (1 + y) = r := by rw [wrapI64 (by omega)]; exact hr
               clear hy hr
               obtain ⟨a1, a2, a3, -⟩ := D9.cells
               go_upto_region 13 with fail
               refine Code.wp.dr (D9.st 1 (.int .i64 r)) ?_; intro w10 D10
               clear a1 a2 a3 D9
               obtain ⟨a1, a2, a3, -⟩ := D10.cells
               obtain ⟨v, hT, hS, hK⟩ := D10.front 1 rfl
               go_wp2_with (at_builtin; refine kn_pushIns (ys := [⟨8, r⟩]) rfl _ _ rfl _ xs rfl rfl (hK.al [.int .i64 8, .int .i64 r] 80) (by simp; omega) ?_; intro v9 w11 hK9; obtain ⟨g5, c5, rfl⟩ := row_pos hK9.at0 (by simp))
               clear a1 a2 a3 D10
               have D11 : DR b _ w [rowIns (.slice (some ⟨g5, 0, none⟩) (xs ++ [(⟨8, r⟩ : Ins)]).length c5) (xs ++ [(⟨8, r⟩ : Ins)])] w11 := DR.sel ⟨v, hT, hS, hK9⟩ [0] 99 (by decide) (by decide)
               clear hT hS hK9 hK
               obtain ⟨ys, hys⟩ : ∃ ys, xs ++ [(⟨8, r⟩ : Ins)] = ys := ⟨_, rfl⟩
               have hyn : ys.length = xs.length + 1 := by rw [← hys]; simp
               rw [hys] at D11
               try rw [← hyn]
               have hyl : ys.length ≤ (4 - k) * (2 + 8) + 1 := by omega
               clear hys hyn
               have KR := Lib.hid (l11Some0_dr b _ w11 D11.src (by omega))
               unfold DIns at KR
               refine KR.out.mono ?_; rintro e w12 ⟨g6, c6, zs, rfl, hzl, h12⟩
               obtain ⟨v, hT, hS, hK⟩ : DR b _ w [rowIns (.slice (some ⟨g6, 0, none⟩) zs.length c6) zs, rowIns (.slice (some ⟨g5, 0, none⟩) ys.length c5) ys] w12 := D11.add h12
               clear h12 KR D11
               go_wp2_with (first
                 | (at_builtin; refine kn_appZ tpIns rfl _ _ rfl (.slice (some ⟨g5, 0, none⟩) ys.length c5) ys.length (cellsIns ys) rfl (by simp [Value.ownBlock]) rfl hK (cellsIns_one zs) (by omega) (by omega) ?_; intro v13 w13 hb13 hK13; have hK14 : Kn v (rowIns v13 (ys ++ zs) :: _) w13 := (by unfold rowIns; rw [List.length_append, cellsIns_app]; exact hK13); obtain ⟨g7, c7, rfl⟩ := row_some hK14.at0 hb13)
                 | (at_builtin; refine kn_pushIns (ys := [⟨10, 0⟩]) rfl _ _ rfl _ (ys ++ zs) (by rw [List.length_append]; rfl) rfl (hK14.al [.int .i64 10, .int .i64 0] 80) (by simp; omega) ?_; intro v15 w15 hK15; obtain ⟨g8, c8, rfl⟩ := row_pos hK15.at0 (by simp; omega)))
               go_roundw
               case rel => exact ⟨k - 1, g8, c8, ys ++ zs ++ [⟨10, 0⟩], by go_num, by omega, (by rw [List.length_append, List.length_append, List.length_singleton]; omega), by simp, (DR.sel (show DR b _ w _ _ from ⟨v, hT, hS, hK15⟩) [0] 99 (by decide) (by decide)).mono (by omega)⟩
               case measure => simp [intOf]; omega)
      · have ho : opens 9 = true := rfl
        rcases Nat.eq_zero_or_pos 1 with hz | hz
        · first
            | (exact absurd hz (by decide))
            | (go_wp2_with (go_at_call 129; refine (l11Opens_any _ _).mono ?_; rintro e w' ⟨rfl, rfl⟩; rw [ho])
               go_roundw
               case rel => exact ⟨k - 1, g, c, xs, by go_num, by omega, by omega, rfl, D7.mono (by omega)⟩
               case measure => simp [intOf]; omega)
        · first
            | (exact absurd hz (by decide))
            | (go_upto_region 13 with (go_at_call 129; refine (l11Opens_any _ _).mono ?_; rintro e w' ⟨rfl, rfl⟩; rw [ho])
               refine Code.wp.dr (D7.al [.int .i64 9, .int .i64 0] 80) ?_; intro w10 D10
               obtain ⟨gx, hgx⟩ : ∃ g, w7.heap.size = g := ⟨_, rfl⟩
               rw [hgx] at D10 ⊢
               clear hgx D7
               obtain ⟨a1, a2, a3, -⟩ := D10.cells
               obtain ⟨v, hT, hS, hK⟩ := D10.front 1 rfl
               go_wp2_with (at_builtin; refine kn_pushIns (ys := [⟨9, 0⟩]) rfl _ _ rfl _ xs rfl rfl (hK.al [.int .i64 9, .int .i64 0] 80) (by simp; omega) ?_; intro v9 w11 hK9; obtain ⟨g5, c5, rfl⟩ := row_pos hK9.at0 (by simp))
               clear a1 a2 a3 D10
               have D11 : DR b _ w [rowIns (.slice (some ⟨g5, 0, none⟩) (xs ++ [(⟨9, 0⟩ : Ins)]).length c5) (xs ++ [(⟨9, 0⟩ : Ins)])] w11 := DR.sel ⟨v, hT, hS, hK9⟩ [0] 99 (by decide) (by decide)
               clear hT hS hK9 hK
               obtain ⟨ys, hys⟩ : ∃ ys, xs ++ [(⟨9, 0⟩ : Ins)] = ys := ⟨_, rfl⟩
               have hyn : ys.length = xs.length + 1 := by rw [← hys]; simp
               rw [hys] at D11
               try rw [← hyn]
               have hyl : ys.length ≤ (4 - k) * (2 + 8) + 1 := by omega
               clear hys hyn
               have KR := Lib.hid (l11Some0_dr b _ w11 D11.src (by omega))
               unfold DIns at KR
               refine KR.out.mono ?_; rintro e w12 ⟨g6, c6, zs, rfl, hzl, h12⟩
               obtain ⟨v, hT, hS, hK⟩ : DR b _ w [rowIns (.slice (some ⟨g6, 0, none⟩) zs.length c6) zs, rowIns (.slice (some ⟨g5, 0, none⟩) ys.length c5) ys] w12 := D11.add h12
               clear h12 KR D11
               go_wp2_with (first
                 | (at_builtin; refine kn_appZ tpIns rfl _ _ rfl (.slice (some ⟨g5, 0, none⟩) ys.length c5) ys.length (cellsIns ys) rfl (by simp [Value.ownBlock]) rfl hK (cellsIns_one zs) (by omega) (by omega) ?_; intro v13 w13 hb13 hK13; have hK14 : Kn v (rowIns v13 (ys ++ zs) :: _) w13 := (by unfold rowIns; rw [List.length_append, cellsIns_app]; exact hK13); obtain ⟨g7, c7, rfl⟩ := row_some hK14.at0 hb13)
                 | (at_builtin; refine kn_pushIns (ys := [⟨10, 0⟩]) rfl _ _ rfl _ (ys ++ zs) (by rw [List.length_append]; rfl) rfl (hK14.al [.int .i64 10, .int .i64 0] 80) (by simp; omega) ?_; intro v15 w15 hK15; obtain ⟨g8, c8, rfl⟩ := row_pos hK15.at0 (by simp; omega)))
               go_roundw
               case rel => exact ⟨k - 1, g8, c8, ys ++ zs ++ [⟨10, 0⟩], by go_num, by omega, (by rw [List.length_append, List.length_append, List.length_singleton]; omega), by simp, (DR.sel (show DR b _ w _ _ from ⟨v, hT, hS, hK15⟩) [0] 99 (by decide) (by decide)).mono (by omega)⟩
               case measure => simp [intOf]; omega)
      · have ho : opens 1 = false := rfl
        go_wp2_with (go_at_call 129; refine (l11Opens_any _ _).mono ?_; rintro e w' ⟨rfl, rfl⟩; rw [ho])
        refine (pick_dr b _ 30 w7 D7.src (by omega)).mono ?_; rintro e w8 ⟨y, rfl, hy, h8⟩
        obtain ⟨v, hT, hS, hK⟩ : DR b _ w [rowIns (.slice (some ⟨g, 0, none⟩) xs.length c) xs] w8 := D7.add h8
        clear h8 D7 hy
        go_wp2_with (at_builtin; refine kn_pushIns (ys := [⟨1, y⟩]) rfl _ _ rfl _ xs rfl rfl (hK.al [.int .i64 (1), .int .i64 (y)] 80) (by simp; omega) ?_; intro v9 w9 hK9; obtain ⟨g5, c5, rfl⟩ := row_pos hK9.at0 (by simp))
        go_roundw
        case rel => exact ⟨k - 1, g5, c5, xs ++ [⟨1, y⟩], by go_num, by omega, by simp; omega, by simp, (show DR b _ w _ _ from ⟨v, hT, hS, hK9⟩).mono (by omega)⟩
        case measure => simp [intOf]; omega
      · have ho : opens x = false := by unfold opens; simp; omega
        have e1 : (x == 1) = false := by simp; omega
        have e2 : x < 6 := by omega
        go_wp2_with (go_at_call 129; refine (l11Opens_any _ _).mono ?_; rintro e w' ⟨rfl, rfl⟩; rw [ho])
        refine (pick_dr b _ 4 w7 D7.src (by omega)).mono ?_; rintro e w8 ⟨y, rfl, hy, h8⟩
        have D8 : DR b _ w [rowIns (.slice (some ⟨g, 0, none⟩) xs.length c) xs] w8 := D7.add h8
        clear h8 D7
        go_wp2_with fail
        refine (pick_dr b _ 2 w8 D8.src (by omega)).mono ?_; rintro e w9 ⟨z, rfl, hz, h9⟩
        obtain ⟨v, hT, hS, hK⟩ : DR b _ w [rowIns (.slice (some ⟨g, 0, none⟩) xs.length c) xs] w9 := D8.add h9
        clear h9 D8
        obtain ⟨r, hr⟩ : ∃ r, 1 + y * z = r := ⟨_, rfl⟩
        have hz2 : z = 0 ∨ z = 1 := by omega
        have hyz : 0 ≤ y * z ∧ y * z ≤ 3 := by rcases hz2 with rfl | rfl <;> omega
        have hw1 : IntKind.i64.wrap (y * z) = y * z := wrapI64 (by omega)
        have hw2 : IntKind.i64.wrap (1 + y * z) = r := by rw [wrapI64 (by omega)]; exact hr
        clear hz2 hyz hr hy hz
        go_wp2_with (at_builtin; refine kn_pushIns (ys := [⟨x, r⟩]) rfl _ _ rfl _ xs rfl rfl (hK.al [.int .i64 (x), .int .i64 (r)] 80) (by simp; omega) ?_; intro v9 w9 hK9; obtain ⟨g5, c5, rfl⟩ := row_pos hK9.at0 (by simp))
        go_roundw
        case rel => exact ⟨k - 1, g5, c5, xs ++ [⟨x, r⟩], by go_num, by omega, by simp; omega, by simp, (show DR b _ w _ _ from ⟨v, hT, hS, hK9⟩).mono (by omega)⟩
        case measure => simp [intOf]; omega
      · have ho : opens x = false := by rcases hx2 with rfl | rfl <;> rfl
        have e1 : (x == 1) = false := by simp; omega
        have e2 : ¬ x < 6 := by omega
        go_wp2_with (go_at_call 129; refine (l11Opens_any _ _).mono ?_; rintro e w' ⟨rfl, rfl⟩; rw [ho])
        refine (one_dr b _ 3 w7 D7.src (by omega)).mono ?_; rintro e w8 ⟨y, rfl, h8⟩
        have D8 : DR b _ w [rowIns (.slice (some ⟨g, 0, none⟩) xs.length c) xs] w8 := D7.add h8
        clear h8 D7
        rcases y with _ | _
        · go_wp2_with fail
          go_roundw
          case rel => exact ⟨k - 1, g, c, xs, by go_num, by omega, by omega, rfl, D8.mono (by omega)⟩
          case measure => simp [intOf]; omega
        · obtain ⟨v, hT, hS, hK⟩ := D8
          go_wp2_with (at_builtin; refine kn_pushIns (ys := [⟨x, 0⟩]) rfl _ _ rfl _ xs rfl rfl (hK.al [.int .i64 (x), .int .i64 (0)] 80) (by simp; omega) ?_; intro v9 w9 hK9; obtain ⟨g5, c5, rfl⟩ := row_pos hK9.at0 (by simp))
          go_roundw
          case rel => exact ⟨k - 1, g5, c5, xs ++ [⟨x, 0⟩], by go_num, by omega, by simp; omega, by simp, (show DR b _ w _ _ from ⟨v, hT, hS, hK9⟩).mono (by omega)⟩
          case measure => simp [intOf]; omega
    · have i1 : ¬ (k : Int) > 0 := by omega
      go_wp2_with fail
      go_ret
      exact ⟨g, c, xs, rfl, by omega, D.mono (by omega)⟩
set_option maxRecDepth 100000 in
set_option maxHeartbeats 3200000 in
theorem l11Some2_dr (b N : Nat) (w : World) (h : Src w b N) (hN : N ≤ 600000) : Calls Tryz.prog 121 #[.pointer (some ⟨b, 0, none⟩), .int .i64 2] w (DIns b (N + (4 + 4 * (8 + 180))) (4 * (2 + 40)) w) := by
  unfold DIns
  have D0 := DR.nil h
  clear h
  go_enter Tryz.func121, Tryz.ntmps121
  go_wp2_with fail
  refine Calls.dr (D0.al [] 80) ?_; intro w1 D1
  obtain ⟨g, hg⟩ : ∃ g, w.heap.size = g := ⟨_, rfl⟩
  rw [hg] at D1 ⊢
  have D2 : DR b _ w [rowIns (.slice (some ⟨g, 0, none⟩) 0 0) []] w1 := D1.kn (fun v hK => hK.litRow (size := 2) (n := 0) rfl (by decide))
  clear D0 D1 hg
  refine (pick_dr b _ 4 w1 D2.src (by omega)).mono ?_; rintro e w5 ⟨x, rfl, hx, h5⟩
  have D6 : DR b _ w [rowIns (.slice (some ⟨g, 0, none⟩) 0 0) []] w5 := D2.add h5
  clear D2 h5
  obtain ⟨q, rfl⟩ : ∃ q : Nat, x = q := ⟨x.toNat, by omega⟩
  have hq : q ≤ 3 := by rcases hx.2 with h | h <;> omega
  have hw1 : IntKind.i64.wrap (1 + (q : Int)) = ((q + 1 : Nat) : Int) := by rw [wrapI64 (by omega)]; omega
  clear hx
  go_wp2_with fail
  go_loopw [5, 6] (fun vv kk wr => ∃ (k : Nat) (g c : Nat) (xs : List Ins), kk = .int .i64 (k : Int) ∧ k ≤ 4 ∧ xs.length ≤ (4 - k) * (2 + 40) ∧ vv = .slice (some ⟨g, 0, none⟩) xs.length c ∧ DR b (N + 2 + (4 - k) * (8 + 180)) w [rowIns (.slice (some ⟨g, 0, none⟩) xs.length c) xs] wr) (fun _ kk _ => (intOf kk).toNat)
  case atStart => exact ⟨q + 1, g, 0, [], by go_num, by omega, by simp, rfl, D6.mono (by omega)⟩
  case round =>
    clear D6 hw1 hq
    obtain ⟨k, g, c, xs, rfl, hk4, hxl, rfl, D⟩ := hrel
    by_cases hk : 0 < k
    · have i1 : (0 : Int) < (k : Int) := by omega
      have i2 : (k : Int) > 0 := i1
      go_wp2_with fail
      refine Calls.dr (D.al [.int .i64 2, .int .i64 2, .int .i64 3, .int .i64 4, .int .i64 5, .int .i64 1, .int .i64 8, .int .i64 9, .int .i64 6, .int .i64 7] 2) ?_; intro w6 D6
      obtain ⟨hr, hA⟩ := DR.lit (ds := [2, 2, 3, 4, 5, 1, 8, 9, 6, 7]) D6 (by decide)
      refine (among_dr b _ _ 10 10 _ w6 D6.src (by omega) hr hA (by omega) (by omega)).mono ?_; rintro e w7 ⟨x, rfl, hx, h7⟩
      have D7 : DR b _ w [rowIns (.slice (some ⟨g, 0, none⟩) xs.length c) xs] w7 := (D6.add h7).sel [1] 99 (by decide) (by decide)
      clear hr hA D D6 h7
      have hx2 : x = 8 ∨ x = 9 ∨ x = 1 ∨ (2 ≤ x ∧ x ≤ 5) ∨ x = 6 ∨ x = 7 := by simp at hx; omega
      clear hx
      rcases hx2 with rfl | rfl | rfl | hx2 | hx2
      · have ho : opens 8 = true := rfl
        rcases Nat.eq_zero_or_pos 2 with hz | hz
        · first
            | (exact absurd hz (by decide))
            | (go_wp2_with (go_at_call 129; refine (l11Opens_any _ _).mono ?_; rintro e w' ⟨rfl, rfl⟩; rw [ho])
               go_roundw
               case rel => exact ⟨k - 1, g, c, xs, by go_num, by omega, by omega, rfl, D7.mono (by omega)⟩
               case measure => simp [intOf]; omega)
        · first
            | (exact absurd hz (by decide))
            | (go_wp2_with (go_at_call 129; refine (l11Opens_any _ _).mono ?_; rintro e w' ⟨rfl, rfl⟩; rw [ho])
               refine Calls.dr (D7.al [.int .i64 8, .int .i64 0] 80) ?_; intro w8 D8
               obtain ⟨gx, hgx⟩ : ∃ g, w7.heap.size = g := ⟨_, rfl⟩
               rw [hgx] at D8 ⊢
               clear hgx D7
               refine (pick_dr b _ 4 w8 D8.src (by omega)).mono ?_; rintro e w9 ⟨y, rfl, hy, h9⟩
               have D9 : DR b _ w [.blk gx [.int .i64 8, .int .i64 0] 80, rowIns (.slice (some ⟨g, 0, none⟩) xs.length c) xs] w9 := D8.add h9
               clear D8 h9
               obtain ⟨r, hr⟩ : ∃ r, 1 + y = r := ⟨_, rfl⟩
               have hw1 : IntKind.i64.wrap (1 + y) = r := by rw [wrapI64 (by omega)]; exact hr
               clear hy hr
               obtain ⟨a1, a2, a3, -⟩ := D9.cells
               go_upto_region 13 with fail
               refine Code.wp.dr (D9.st 1 (.int .i64 r)) ?_; intro w10 D10
               clear a1 a2 a3 D9
               obtain ⟨a1, a2, a3, -⟩ := D10.cells
               obtain ⟨v, hT, hS, hK⟩ := D10.front 1 rfl
               go_wp2_with (at_builtin; refine kn_pushIns (ys := [⟨8, r⟩]) rfl _ _ rfl _ xs rfl rfl (hK.al [.int .i64 8, .int .i64 r] 80) (by simp; omega) ?_; intro v9 w11 hK9; obtain ⟨g5, c5, rfl⟩ := row_pos hK9.at0 (by simp))
               clear a1 a2 a3 D10
               have D11 : DR b _ w [rowIns (.slice (some ⟨g5, 0, none⟩) (xs ++ [(⟨8, r⟩ : Ins)]).length c5) (xs ++ [(⟨8, r⟩ : Ins)])] w11 := DR.sel ⟨v, hT, hS, hK9⟩ [0] 99 (by decide) (by decide)
               clear hT hS hK9 hK
               obtain ⟨ys, hys⟩ : ∃ ys, xs ++ [(⟨8, r⟩ : Ins)] = ys := ⟨_, rfl⟩
               have hyn : ys.length = xs.length + 1 := by rw [← hys]; simp
               rw [hys] at D11
               try rw [← hyn]
               have hyl : ys.length ≤ (4 - k) * (2 + 40) + 1 := by omega
               clear hys hyn
               have KR := Lib.hid (l11Some1_dr b _ w11 D11.src (by omega))
               unfold DIns at KR
               refine KR.out.mono ?_; rintro e w12 ⟨g6, c6, zs, rfl, hzl, h12⟩
               obtain ⟨v, hT, hS, hK⟩ : DR b _ w [rowIns (.slice (some ⟨g6, 0, none⟩) zs.length c6) zs, rowIns (.slice (some ⟨g5, 0, none⟩) ys.length c5) ys] w12 := D11.add h12
               clear h12 KR D11
               go_wp2_with (first
                 | (at_builtin; refine kn_appZ tpIns rfl _ _ rfl (.slice (some ⟨g5, 0, none⟩) ys.length c5) ys.length (cellsIns ys) rfl (by simp [Value.ownBlock]) rfl hK (cellsIns_one zs) (by omega) (by omega) ?_; intro v13 w13 hb13 hK13; have hK14 : Kn v (rowIns v13 (ys ++ zs) :: _) w13 := (by unfold rowIns; rw [List.length_append, cellsIns_app]; exact hK13); obtain ⟨g7, c7, rfl⟩ := row_some hK14.at0 hb13)
                 | (at_builtin; refine kn_pushIns (ys := [⟨10, 0⟩]) rfl _ _ rfl _ (ys ++ zs) (by rw [List.length_append]; rfl) rfl (hK14.al [.int .i64 10, .int .i64 0] 80) (by simp; omega) ?_; intro v15 w15 hK15; obtain ⟨g8, c8, rfl⟩ := row_pos hK15.at0 (by simp; omega)))
               go_roundw
               case rel => exact ⟨k - 1, g8, c8, ys ++ zs ++ [⟨10, 0⟩], by go_num, by omega, (by rw [List.length_append, List.length_append, List.length_singleton]; omega), by simp, (DR.sel (show DR b _ w _ _ from ⟨v, hT, hS, hK15⟩) [0] 99 (by decide) (by decide)).mono (by omega)⟩
               case measure => simp [intOf]; omega)
      · have ho : opens 9 = true := rfl
        rcases Nat.eq_zero_or_pos 2 with hz | hz
        · first
            | (exact absurd hz (by decide))
            | (go_wp2_with (go_at_call 129; refine (l11Opens_any _ _).mono ?_; rintro e w' ⟨rfl, rfl⟩; rw [ho])
               go_roundw
               case rel => exact ⟨k - 1, g, c, xs, by go_num, by omega, by omega, rfl, D7.mono (by omega)⟩
               case measure => simp [intOf]; omega)
        · first
            | (exact absurd hz (by decide))
            | (go_upto_region 13 with (go_at_call 129; refine (l11Opens_any _ _).mono ?_; rintro e w' ⟨rfl, rfl⟩; rw [ho])
               refine Code.wp.dr (D7.al [.int .i64 9, .int .i64 0] 80) ?_; intro w10 D10
               obtain ⟨gx, hgx⟩ : ∃ g, w7.heap.size = g := ⟨_, rfl⟩
               rw [hgx] at D10 ⊢
               clear hgx D7
               obtain ⟨a1, a2, a3, -⟩ := D10.cells
               obtain ⟨v, hT, hS, hK⟩ := D10.front 1 rfl
               go_wp2_with (at_builtin; refine kn_pushIns (ys := [⟨9, 0⟩]) rfl _ _ rfl _ xs rfl rfl (hK.al [.int .i64 9, .int .i64 0] 80) (by simp; omega) ?_; intro v9 w11 hK9; obtain ⟨g5, c5, rfl⟩ := row_pos hK9.at0 (by simp))
               clear a1 a2 a3 D10
               have D11 : DR b _ w [rowIns (.slice (some ⟨g5, 0, none⟩) (xs ++ [(⟨9, 0⟩ : Ins)]).length c5) (xs ++ [(⟨9, 0⟩ : Ins)])] w11 := DR.sel ⟨v, hT, hS, hK9⟩ [0] 99 (by decide) (by decide)
               clear hT hS hK9 hK
               obtain ⟨ys, hys⟩ : ∃ ys, xs ++ [(⟨9, 0⟩ : Ins)] = ys := ⟨_, rfl⟩
               have hyn : ys.length = xs.length + 1 := by rw [← hys]; simp
               rw [hys] at D11
               try rw [← hyn]
               have hyl : ys.length ≤ (4 - k) * (2 + 40) + 1 := by omega
               clear hys hyn
               have KR := Lib.hid (l11Some1_dr b _ w11 D11.src (by omega))
               unfold DIns at KR
               refine KR.out.mono ?_; rintro e w12 ⟨g6, c6, zs, rfl, hzl, h12⟩
               obtain ⟨v, hT, hS, hK⟩ : DR b _ w [rowIns (.slice (some ⟨g6, 0, none⟩) zs.length c6) zs, rowIns (.slice (some ⟨g5, 0, none⟩) ys.length c5) ys] w12 := D11.add h12
               clear h12 KR D11
               go_wp2_with (first
                 | (at_builtin; refine kn_appZ tpIns rfl _ _ rfl (.slice (some ⟨g5, 0, none⟩) ys.length c5) ys.length (cellsIns ys) rfl (by simp [Value.ownBlock]) rfl hK (cellsIns_one zs) (by omega) (by omega) ?_; intro v13 w13 hb13 hK13; have hK14 : Kn v (rowIns v13 (ys ++ zs) :: _) w13 := (by unfold rowIns; rw [List.length_append, cellsIns_app]; exact hK13); obtain ⟨g7, c7, rfl⟩ := row_some hK14.at0 hb13)
                 | (at_builtin; refine kn_pushIns (ys := [⟨10, 0⟩]) rfl _ _ rfl _ (ys ++ zs) (by rw [List.length_append]; rfl) rfl (hK14.al [.int .i64 10, .int .i64 0] 80) (by simp; omega) ?_; intro v15 w15 hK15; obtain ⟨g8, c8, rfl⟩ := row_pos hK15.at0 (by simp; omega)))
               go_roundw
               case rel => exact ⟨k - 1, g8, c8, ys ++ zs ++ [⟨10, 0⟩], by go_num, by omega, (by rw [List.length_append, List.length_append, List.length_singleton]; omega), by simp, (DR.sel (show DR b _ w _ _ from ⟨v, hT, hS, hK15⟩) [0] 99 (by decide) (by decide)).mono (by omega)⟩
               case measure => simp [intOf]; omega)
      · have ho : opens 1 = false := rfl
        go_wp2_with (go_at_call 129; refine (l11Opens_any _ _).mono ?_; rintro e w' ⟨rfl, rfl⟩; rw [ho])
        refine (pick_dr b _ 30 w7 D7.src (by omega)).mono ?_; rintro e w8 ⟨y, rfl, hy, h8⟩
        obtain ⟨v, hT, hS, hK⟩ : DR b _ w [rowIns (.slice (some ⟨g, 0, none⟩) xs.length c) xs] w8 := D7.add h8
        clear h8 D7 hy
        go_wp2_with (at_builtin; refine kn_pushIns (ys := [⟨1, y⟩]) rfl _ _ rfl _ xs rfl rfl (hK.al [.int .i64 (1), .int .i64 (y)] 80) (by simp; omega) ?_; intro v9 w9 hK9; obtain ⟨g5, c5, rfl⟩ := row_pos hK9.at0 (by simp))
        go_roundw
        case rel => exact ⟨k - 1, g5, c5, xs ++ [⟨1, y⟩], by go_num, by omega, by simp; omega, by simp, (show DR b _ w _ _ from ⟨v, hT, hS, hK9⟩).mono (by omega)⟩
        case measure => simp [intOf]; omega
      · have ho : opens x = false := by unfold opens; simp; omega
        have e1 : (x == 1) = false := by simp; omega
        have e2 : x < 6 := by omega
        go_wp2_with (go_at_call 129; refine (l11Opens_any _ _).mono ?_; rintro e w' ⟨rfl, rfl⟩; rw [ho])
        refine (pick_dr b _ 4 w7 D7.src (by omega)).mono ?_; rintro e w8 ⟨y, rfl, hy, h8⟩
        have D8 : DR b _ w [rowIns (.slice (some ⟨g, 0, none⟩) xs.length c) xs] w8 := D7.add h8
        clear h8 D7
        go_wp2_with fail
        refine (pick_dr b _ 2 w8 D8.src (by omega)).mono ?_; rintro e w9 ⟨z, rfl, hz, h9⟩
        obtain ⟨v, hT, hS, hK⟩ : DR b _ w [rowIns (.slice (some ⟨g, 0, none⟩) xs.length c) xs] w9 := D8.add h9
        clear h9 D8
        obtain ⟨r, hr⟩ : ∃ r, 1 + y * z = r := ⟨_, rfl⟩
        have hz2 : z = 0 ∨ z = 1 := by omega
        have hyz : 0 ≤ y * z ∧ y * z ≤ 3 := by rcases hz2 with rfl | rfl <;> omega
        have hw1 : IntKind.i64.wrap (y * z) = y * z := wrapI64 (by omega)
        have hw2 : IntKind.i64.wrap (1 + y * z) = r := by rw [wrapI64 (by omega)]; exact hr
        clear hz2 hyz hr hy hz
        go_wp2_with (at_builtin; refine kn_pushIns (ys := [⟨x, r⟩]) rfl _ _ rfl _ xs rfl rfl (hK.al [.int .i64 (x), .int .i64 (r)] 80) (by simp; omega) ?_; intro v9 w9 hK9; obtain ⟨g5, c5, rfl⟩ := row_pos hK9.at0 (by simp))
        go_roundw
        case rel => exact ⟨k - 1, g5, c5, xs ++ [⟨x, r⟩], by go_num, by omega, by simp; omega, by simp, (show DR b _ w _ _ from ⟨v, hT, hS, hK9⟩).mono (by omega)⟩
        case measure => simp [intOf]; omega
      · have ho : opens x = false := by rcases hx2 with rfl | rfl <;> rfl
        have e1 : (x == 1) = false := by simp; omega
        have e2 : ¬ x < 6 := by omega
        go_wp2_with (go_at_call 129; refine (l11Opens_any _ _).mono ?_; rintro e w' ⟨rfl, rfl⟩; rw [ho])
        refine (one_dr b _ 3 w7 D7.src (by omega)).mono ?_; rintro e w8 ⟨y, rfl, h8⟩
        have D8 : DR b _ w [rowIns (.slice (some ⟨g, 0, none⟩) xs.length c) xs] w8 := D7.add h8
        clear h8 D7
        rcases y with _ | _
        · go_wp2_with fail
          go_roundw
          case rel => exact ⟨k - 1, g, c, xs, by go_num, by omega, by omega, rfl, D8.mono (by omega)⟩
          case measure => simp [intOf]; omega
        · obtain ⟨v, hT, hS, hK⟩ := D8
          go_wp2_with (at_builtin; refine kn_pushIns (ys := [⟨x, 0⟩]) rfl _ _ rfl _ xs rfl rfl (hK.al [.int .i64 (x), .int .i64 (0)] 80) (by simp; omega) ?_; intro v9 w9 hK9; obtain ⟨g5, c5, rfl⟩ := row_pos hK9.at0 (by simp))
          go_roundw
          case rel => exact ⟨k - 1, g5, c5, xs ++ [⟨x, 0⟩], by go_num, by omega, by simp; omega, by simp, (show DR b _ w _ _ from ⟨v, hT, hS, hK9⟩).mono (by omega)⟩
          case measure => simp [intOf]; omega
    · have i1 : ¬ (k : Int) > 0 := by omega
      go_wp2_with fail
      go_ret
      exact ⟨g, c, xs, rfl, by omega, D.mono (by omega)⟩
end Go.Proofs.YtkfbfainhmkkdaaGreat

namespace Go.Proofs.YtkfbfainhmkkdaaGreat
open Go.RowKit Go.Sort
theorem set_same {α : Type} {l : List α} {i : Nat} {v : α} (h : l[i]? = some v) : l.set i v = l := by
  apply List.ext_getElem?
  intro k
  rw [List.getElem?_set]
  split
  · rename_i hk
    subst hk
    split
    · exact h.symm
    · rename_i hl
      rw [List.getElem?_eq_none (by omega)] at h
      cases h
  · rfl
theorem cellsIns_op (xs : List Ins) (j : Nat) (x : Int) (h : j < xs.length) : (cellsIns xs).set (j * 2) (.int .i64 x) = cellsIns (xs.set j ⟨x, xs[j].arg⟩) := by
  have h1 := cellsIns_set xs j ⟨x, xs[j].arg⟩ h
  rw [← h1]
  refine (set_same ?_).symm
  rw [List.getElem?_set_ne (by omega)]
  exact (cellsIns_get xs j h).2
theorem cellsIns_arg (xs : List Ins) (j : Nat) (x : Int) (h : j < xs.length) : (cellsIns xs).set (j * 2 + 1) (.int .i64 x) = cellsIns (xs.set j ⟨xs[j].op, x⟩) := by
  have h1 := cellsIns_set xs j ⟨xs[j].op, x⟩ h
  rw [← h1]
  congr 1
  exact (set_same (cellsIns_get xs j h).1).symm
theorem cellsIns_take (xs : List Ins) : ∀ j : Nat, (cellsIns xs).take (j * 2) = cellsIns (xs.take j) := by
  induction xs with
  | nil => intro j; simp [cellsIns]
  | cons x xs ih =>
    intro j
    cases j with
    | zero => simp [cellsIns]
    | succ j =>
      have h2 := ih j
      show List.take ((j + 1) * 2) (Value.int .i64 x.op :: Value.int .i64 x.arg :: cellsIns xs) = Value.int .i64 x.op :: Value.int .i64 x.arg :: cellsIns (xs.take j)
      rw [← h2, show (j + 1) * 2 = j * 2 + 1 + 1 by omega]
      rfl
theorem Kn.prefixRow {w0 w : World} {m : List Ent} {g c n j size : Nat} {e : TypeId} {xs : List Value} (h : Kn w0 (.row (.slice (some ⟨g, 0, none⟩) n c) e size n xs :: m) w) (hj : j ≤ n) : Kn w0 (.row (.slice (some ⟨g, 0, none⟩) j c) e size j (xs.take (j * size)) :: m) w := by
  have h0 : w.ownsRow 0 e size (.slice (some ⟨g, 0, none⟩) n c) n xs := h.at0
  have hm : j * size ≤ n * size := Nat.mul_le_mul_right _ hj
  refine ⟨h.below, fun x hx => ?_, fun x hx k hk => ?_, List.pairwise_cons.2 ⟨fun x hx k hk => ?_, (List.pairwise_cons.1 h.apart).2⟩⟩
  · rcases List.mem_cons.1 hx with rfl | hx
    · rcases h0.2 with ⟨hv, _⟩ | ⟨g', cap, cur, hv, hb, hg, h1, h2, h3, h4⟩
      · cases hv
      · injection hv with hv1 hv2 hv3
        injection hv1 with hv1
        injection hv1 with hv1
        subst hv1
        subst hv3
        refine ⟨by rw [List.length_take, h0.1]; omega, .inr ⟨g, c, cur, rfl, hb, hg, by omega, h2, h3, ?_⟩⟩
        rw [← h4, List.take_take, Nat.min_eq_left hm]
    · exact h.ents x (List.mem_cons_of_mem _ hx)
  · rcases List.mem_cons.1 hx with rfl | hx
    · exact h.own _ (List.mem_cons_self ..) k hk
    · exact h.own x (List.mem_cons_of_mem _ hx) k hk
  · exact (List.pairwise_cons.1 h.apart).1 x hx k hk
theorem Kn.prefixIns {w0 w : World} {m : List Ent} {g c j : Nat} {xs : List Ins} (h : Kn w0 (rowIns (.slice (some ⟨g, 0, none⟩) xs.length c) xs :: m) w) (hj : j ≤ xs.length) : Kn w0 (rowIns (.slice (some ⟨g, 0, none⟩) (xs.take j).length c) (xs.take j) :: m) w := by
  have h1 := Kn.prefixRow h hj
  unfold rowIns
  rw [cellsIns_take] at h1
  rw [show (xs.take j).length = j by rw [List.length_take]; omega]
  exact h1
theorem Kn.setOp {w0 w : World} {m : List Ent} {g n c : Nat} {xs : List Ins} (h : Kn w0 (rowInsN (some ⟨g, 0, none⟩) n c xs :: m) w) (j : Nat) (x : Int) (hj : j < xs.length) :
    Kn w0 (rowInsN (some ⟨g, 0, none⟩) n c (xs.set j ⟨x, xs[j].arg⟩) :: m) (w.setCell ⟨g, j * 2, none⟩ (.int .i64 x)) := by
  unfold rowInsN at *
  have h1 := h.rowSt (j * 2) (.int .i64 x)
  rw [cellsIns_op xs j x hj] at h1
  exact h1
theorem Kn.setArg {w0 w : World} {m : List Ent} {g n c : Nat} {xs : List Ins} (h : Kn w0 (rowInsN (some ⟨g, 0, none⟩) n c xs :: m) w) (j : Nat) (x : Int) (hj : j < xs.length) :
    Kn w0 (rowInsN (some ⟨g, 0, none⟩) n c (xs.set j ⟨xs[j].op, x⟩) :: m) (w.setCell ⟨g, j * 2 + 1, none⟩ (.int .i64 x)) := by
  unfold rowInsN at *
  have h1 := h.rowSt (j * 2 + 1) (.int .i64 x)
  rw [cellsIns_arg xs j x hj] at h1
  exact h1
set_option maxRecDepth 100000 in
set_option maxHeartbeats 1600000 in
theorem l11Draw_dr (b N : Nat) (w : World) (h : Src w b N) (hN : N ≤ 500000) : Calls Tryz.prog 148 #[.pointer (some ⟨b, 0, none⟩)] w (DIns b (N + 1000) 168 w) := by
  unfold DIns
  have D0 := DR.nil h
  clear h
  go_enter Tryz.func148, Tryz.ntmps148
  go_wp2_with fail
  refine (one_dr b _ 20 w D0.src (by omega)).mono ?_; rintro e w1 ⟨x, rfl, h1⟩
  have D1 := D0.add h1
  clear D0 h1
  rcases x with _ | _
  · have KR := Lib.hid (l11Some2_dr b _ w1 D1.src (by omega))
    unfold DIns at KR
    go_wp2_with fail
    refine KR.out.mono ?_; rintro e w2 ⟨g, c, xs, rfl, hl, h2⟩
    have D2 := D1.add h2
    clear D1 h2 KR
    go_wp2_with fail
    go_ret
    exact ⟨g, c, xs, rfl, by omega, D2.mono (by omega)⟩
  · go_wp2_with fail
    refine (pick_dr b _ 9 w1 D1.src (by omega)).mono ?_; rintro e w2 ⟨p, rfl, hp, h2⟩
    have D2 := D1.add h2
    clear D1 h2
    have KR := Lib.hid (fun t W => l11Nest_any 4 t W (by decide))
    unfold InsRet at KR
    go_wp2_with fail
    refine (KR.out _ _).mono ?_; rintro e w3 ⟨g, c, xs, rfl, hl, h3⟩
    have D3 : DR b _ w [rowIns (.slice (some ⟨g, 0, none⟩) xs.length c) xs] w3 := D2.kn (fun v hK => hK.join h3)
    clear D2 h3 KR
    go_wp2_with fail
    go_ret
    exact ⟨g, c, xs, rfl, by omega, D3.mono (by omega)⟩
end Go.Proofs.YtkfbfainhmkkdaaGreat

namespace Go.Proofs.YtkfbfainhmkkdaaGreat
open Go.RowKit Go.Sort
theorem DR.capIns {b N : Nat} {w wi : World} {m : List Ent} {g c : Nat} {xs : List Ins} (h : DR b N w (rowIns (.slice (some ⟨g, 0, none⟩) xs.length c) xs :: m) wi) : xs.length ≤ c ∧ c ≤ 9223372036854775807 := by
  obtain ⟨v, -, -, hK⟩ := h
  have h0 : wi.ownsRow 0 80 2 (.slice (some ⟨g, 0, none⟩) xs.length c) xs.length (cellsIns xs) := hK.at0
  rcases h0.2 with ⟨hv, _⟩ | ⟨g', cap, cur, hv, -, -, h1, h2, -⟩
  · cases hv
  · injection hv with _ _ hv
    subst hv
    unfold maxLen at h2
    omega
set_option maxRecDepth 100000 in
set_option maxHeartbeats 3200000 in
theorem l11Bent_dr (b N : Nat) (w : World) (h : Src w b N) (hN : N ≤ 400000) : Calls Tryz.prog 122 #[.pointer (some ⟨b, 0, none⟩)] w (DIns b (N + 1010) 168 w) := by
  unfold DIns
  have D0 := DR.nil h
  have KR := Lib.hid (l11Draw_dr b _ w h (by omega))
  unfold DIns at KR
  clear h
  go_enter Tryz.func122, Tryz.ntmps122
  go_wp2_with fail
  refine KR.out.mono ?_; rintro e w1 ⟨g, c, xs, rfl, hl, h1⟩
  have D1 : DR b _ w [rowIns (.slice (some ⟨g, 0, none⟩) xs.length c) xs] w1 := D0.add h1
  clear D0 h1 KR
  rcases Nat.eq_zero_or_pos xs.length with h0 | h0
  · have hz : ((xs.length : Int) == 0) = true := by simp [h0]
    go_wp2_with fail
    go_ret
    exact ⟨g, c, xs, (by rw [h0]; rfl), hl, D1.mono (by omega)⟩
  have hz : ((xs.length : Int) == 0) = false := beq_eq_false_iff_ne.2 (by omega)
  go_wp2_with fail
  refine (pick_dr b _ xs.length w1 D1.src (by omega)).mono ?_; rintro e w2 ⟨x, rfl, hx, h2⟩
  have D2 : DR b _ w [rowIns (.slice (some ⟨g, 0, none⟩) xs.length c) xs] w2 := D1.add h2
  clear D1 h2
  obtain ⟨j, rfl⟩ : ∃ q : Nat, x = q := ⟨x.toNat, by omega⟩
  have hj : j < xs.length := by rcases hx.2 with h | h <;> omega
  clear hx
  go_wp2_with fail
  refine (pick_dr b _ 24 w2 D2.src (by omega)).mono ?_; rintro e w3 ⟨z, rfl, hz2, h3⟩
  have D3 : DR b _ w [rowIns (.slice (some ⟨g, 0, none⟩) xs.length c) xs] w3 := D2.add h3
  clear D2 h3
  have hi0 : (0 : Int) ≤ (j : Int) := by omega
  have hi1 : (j : Int) < (xs.length : Int) := by omega
  by_cases z0 : z = 0
  · subst z0
    go_wp2_with fail
    refine Calls.dr (D3.al [.int .i64 0, .int .i64 1, .int .i64 9, .int .i64 10, .int .i64 11, .int .i64 (-9223372036854775808)] 2) ?_; intro w90 D90
    obtain ⟨hr, hA⟩ := DR.lit (ds := [0, 1, 9, 10, 11, -9223372036854775808]) D90 (by decide)
    refine (among_dr _ _ _ 6 6 _ w90 D90.src (by omega) hr hA (by omega) (by omega)).mono ?_; rintro e w91 ⟨x, rfl, hx, h10⟩
    have D9 := ((D90.add h10).sel [1] 99 (by decide) (by decide))
    clear hr hA D3 D90 h10 hx
    obtain ⟨v, hT, hS, hK⟩ := D9
    have cg := cellsIns_get xs j hj
    have hgr : g < w91.heap.size := Ent.lt hK.at0 rfl
    have hKN : Kn v (rowInsN (some ⟨g, 0, none⟩) xs.length c xs :: _) w91 := hK
    obtain ⟨y1, y2⟩ := Kn.rowCell (show Kn v (.row (.slice (some ⟨g, 0, none⟩) xs.length c) 80 2 xs.length (cellsIns xs) :: _) w91 from hK) cg.1
    obtain ⟨y3, y4⟩ := Kn.rowCell (show Kn v (.row (.slice (some ⟨g, 0, none⟩) xs.length c) 80 2 xs.length (cellsIns xs) :: _) w91 from hK) cg.2
    have z1 : w91.cell? ⟨g, j * 2, none⟩ = some (.int .i64 xs[j].op) := y1
    have z3 : w91.cell? ⟨g, j * 2 + 1, none⟩ = some (.int .i64 xs[j].arg) := y3
    clear y1 y3 cg
    have hK9 := Kn.setOp hKN j x hj
    clear hK hKN
    go_wp2_with fail
    go_ret
    exact ⟨g, c, xs.set j ⟨x, xs[j].arg⟩, by simp, by simp; omega, (show DR b _ w _ _ from ⟨v, hT, hS, (by rw [show (xs.set j ⟨x, xs[j].arg⟩).length = xs.length by simp]; unfold rowIns; rw [show (xs.set j ⟨x, xs[j].arg⟩).length = xs.length by simp]; exact hK9)⟩).mono (by omega)⟩
  by_cases z1 : z = 1
  · subst z1
    go_wp2_with fail
    refine Calls.dr (D3.al [.int .i64 (-1), .int .i64 0, .int .i64 1, .int .i64 100, .int .i64 101, .int .i64 1000000000000, .int .i64 1000000000001] 2) ?_; intro w90 D90
    obtain ⟨hr, hA⟩ := DR.lit (ds := [-1, 0, 1, 100, 101, 1000000000000, 1000000000001]) D90 (by decide)
    refine (among_dr _ _ _ 7 7 _ w90 D90.src (by omega) hr hA (by omega) (by omega)).mono ?_; rintro e w91 ⟨x, rfl, hx, h10⟩
    have D9 := ((D90.add h10).sel [1] 99 (by decide) (by decide))
    clear hr hA D3 D90 h10 hx
    obtain ⟨v, hT, hS, hK⟩ := D9
    have cg := cellsIns_get xs j hj
    have hgr : g < w91.heap.size := Ent.lt hK.at0 rfl
    have hKN : Kn v (rowInsN (some ⟨g, 0, none⟩) xs.length c xs :: _) w91 := hK
    obtain ⟨y1, y2⟩ := Kn.rowCell (show Kn v (.row (.slice (some ⟨g, 0, none⟩) xs.length c) 80 2 xs.length (cellsIns xs) :: _) w91 from hK) cg.1
    obtain ⟨y3, y4⟩ := Kn.rowCell (show Kn v (.row (.slice (some ⟨g, 0, none⟩) xs.length c) 80 2 xs.length (cellsIns xs) :: _) w91 from hK) cg.2
    have z1 : w91.cell? ⟨g, j * 2, none⟩ = some (.int .i64 xs[j].op) := y1
    have z3 : w91.cell? ⟨g, j * 2 + 1, none⟩ = some (.int .i64 xs[j].arg) := y3
    clear y1 y3 cg
    have hK9 := Kn.setArg hKN j x hj
    clear hK hKN
    go_wp2_with fail
    go_ret
    exact ⟨g, c, xs.set j ⟨xs[j].op, x⟩, by simp, by simp; omega, (show DR b _ w _ _ from ⟨v, hT, hS, (by rw [show (xs.set j ⟨xs[j].op, x⟩).length = xs.length by simp]; unfold rowIns; rw [show (xs.set j ⟨xs[j].op, x⟩).length = xs.length by simp]; exact hK9)⟩).mono (by omega)⟩
  by_cases z2 : z = 2
  · subst z2
    obtain ⟨hc1, hc2⟩ := D3.capIns
    have hi2 : (j : Int) ≤ (c : Int) := by omega
    have D4 := D3.kn (fun v hK => Kn.prefixIns (j := j) hK (by omega))
    have hjl : (xs.take j).length = j := by rw [List.length_take]; omega
    go_wp2_with fail
    go_ret
    exact ⟨g, c, xs.take j, by rw [hjl]; first | rfl | (go_num), by rw [hjl]; omega, D4.mono (by omega)⟩
  by_cases z3 : z = 3
  · subst z3
    have KR := Lib.hid (fun W => l11Nest_any 5 2 W (by decide))
    unfold InsRet at KR
    go_wp2_with fail
    refine (KR.out _).mono ?_; rintro e w4 ⟨g5, c5, ys, rfl, hyl, h3⟩
    have D4 : DR b _ w [rowIns (.slice (some ⟨g5, 0, none⟩) ys.length c5) ys] w4 := DR.sel (D3.kn (fun v hK => hK.join h3)) [0] 99 (by decide) (by decide)
    clear D3 h3 KR
    go_wp2_with fail
    go_ret
    exact ⟨g5, c5, ys, rfl, by omega, D4.mono (by omega)⟩
  have e0 : (z == 0) = false := by simp [z0]
  have e1 : (z == 1) = false := by simp [z1]
  have e2 : (z == 2) = false := by simp [z2]
  have e3 : (z == 3) = false := by simp [z3]
  by_cases z4 : z = 4
  · subst z4
    go_wp2_with fail
    refine Calls.dr (D3.al [] 80) ?_; intro w4 D4
    obtain ⟨g5, hg⟩ : ∃ g, w3.heap.size = g := ⟨_, rfl⟩
    rw [hg] at D4 ⊢
    have D5 : DR b _ w [rowIns (.slice (some ⟨g5, 0, none⟩) 0 0) []] w4 := DR.sel (D4.kn (fun v hK => hK.litRow (size := 2) (n := 0) rfl (by decide))) [0] 99 (by decide) (by decide)
    clear D4 D3 hg
    refine (pick_dr b _ 2 w4 D5.src (by omega)).mono ?_; rintro e w5 ⟨x, rfl, hx, h5⟩
    have D6 : DR b _ w [rowIns (.slice (some ⟨g5, 0, none⟩) 0 0) []] w5 := D5.add h5
    clear D5 h5
    obtain ⟨q, rfl⟩ : ∃ q : Nat, x = q := ⟨x.toNat, by omega⟩
    have hq : q ≤ 1 := by rcases hx.2 with h | h <;> omega
    have hw1 : IntKind.i64.wrap (120 + (q : Int)) = ((q + 120 : Nat) : Int) := by rw [wrapI64 (by omega)]; omega
    clear hx
    go_wp2_with fail
    go_loopw [3, 5] (fun vv kk wr => ∃ (k : Nat) (g c : Nat) (zs : List Ins), kk = .int .i64 (k : Int) ∧ zs.length + k ≤ 121 ∧ vv = .slice (some ⟨g, 0, none⟩) zs.length c ∧ DR b (N + 1010) w [rowIns (.slice (some ⟨g, 0, none⟩) zs.length c) zs] wr) (fun _ kk _ => (intOf kk).toNat)
    case atStart => exact ⟨q + 120, g5, 0, [], by go_num, by simp; omega, rfl, D6.mono (by omega)⟩
    case round =>
      clear D6 hw1
      obtain ⟨k, g6, c6, zs, rfl, hzl, rfl, D⟩ := hrel
      by_cases hk : 0 < k
      · have i1 : (0 : Int) < (k : Int) := by omega
        have i2 : (k : Int) > 0 := i1
        obtain ⟨v, hT, hS, hK⟩ := D
        go_wp2_with (at_builtin; refine kn_pushIns (ys := [⟨6, 0⟩]) rfl _ _ rfl _ zs rfl rfl (hK.al [.int .i64 6, .int .i64 0] 80) (by simp; omega) ?_; intro v9 w9 hK9; obtain ⟨g7, c7, rfl⟩ := row_pos hK9.at0 (by simp))
        go_roundw
        case rel => exact ⟨k - 1, g7, c7, zs ++ [⟨6, 0⟩], by go_num, by simp; omega, by simp, ⟨v, hT, hS, hK9⟩⟩
        case measure => simp [intOf]; omega
      · have i1 : ¬ (k : Int) > 0 := by omega
        go_wp2_with fail
        go_ret
        exact ⟨g6, c6, zs, rfl, by omega, D⟩
  have e4 : (z == 4) = false := by simp [z4]
  go_wp2_with fail
  go_ret
  exact ⟨g, c, xs, rfl, hl, D3.mono (by omega)⟩
end Go.Proofs.YtkfbfainhmkkdaaGreat

namespace Go.Proofs.YtkfbfainhmkkdaaGreat
open Go.RowKit Go.Sort
set_option maxRecDepth 100000 in
set_option maxHeartbeats 1600000 in
theorem l12Factor_dr (b N : Nat) (w : World) (h : Src w b N) (hN : N ≤ 900000) :
    Calls Tryz.prog 50 #[.pointer (some ⟨b, 0, none⟩)] w fun e w' => ∃ x1 x2 : Int, e = .returned (.tuple #[.int .i64 x1, .int .i64 x2]) ∧ DR b (N + 12) w [] w' := by
  have D0 := DR.nil h
  clear h
  go_enter Tryz.func50, Tryz.ntmps50
  go_wp2_with fail
  refine (one_dr _ _ 10 w D0.src (by omega)).mono ?_; rintro e w1 ⟨z, rfl, h3⟩
  have D1 := D0.add h3
  clear D0 h3
  rcases z with _ | _
  · go_wp2_with fail
    refine Calls.dr (D1.al [.int .i64 10, .int .i64 10, .int .i64 2, .int .i64 3, .int .i64 8, .int .i64 12] 2) ?_; intro w90 D90
    obtain ⟨hr, hA⟩ := DR.lit (ds := [10, 10, 2, 3, 8, 12]) D90 (by decide)
    refine (among_dr _ _ _ 6 6 _ w90 D90.src (by omega) hr hA (by omega) (by omega)).mono ?_; rintro e w91 ⟨x, rfl, hx, h10⟩
    have D2 := ((D90.add h10).bare)
    clear hr hA D1 D90 h10 hx
    go_wp2_with fail
    refine (pick_dr _ _ 100 _ D2.src (by omega)).mono ?_; rintro e w3 ⟨p, rfl, hp, h99⟩
    have D3 := D2.add h99
    clear D2 h99
    go_wp2_with fail
    refine (pick_dr _ _ 20 _ D3.src (by omega)).mono ?_; rintro e w4 ⟨q, rfl, hq, h99⟩
    have D4 := D3.add h99
    clear D3 h99
    go_wp2_with fail
    go_ret2
    exact ⟨_, _, rfl, D4.mono (by omega)⟩
  · go_wp2_with fail
    refine Calls.dr (D1.al [.int .i64 1, .int .i64 2, .int .i64 10, .int .i64 16, .int .i64 17] 2) ?_; intro w90 D90
    obtain ⟨hr, hA⟩ := DR.lit (ds := [1, 2, 10, 16, 17]) D90 (by decide)
    refine (among_dr _ _ _ 5 5 _ w90 D90.src (by omega) hr hA (by omega) (by omega)).mono ?_; rintro e w91 ⟨x, rfl, hx, h10⟩
    have D2 := ((D90.add h10).bare)
    clear hr hA D1 D90 h10 hx
    go_wp2_with fail
    refine Calls.dr (D2.al [.int .i64 (-1), .int .i64 0, .int .i64 62500000, .int .i64 62500001, .int .i64 (-9223372036854775808)] 2) ?_; intro w90 D90
    obtain ⟨hr, hA⟩ := DR.lit (ds := [-1, 0, 62500000, 62500001, -9223372036854775808]) D90 (by decide)
    refine (among_dr _ _ _ 5 5 _ w90 D90.src (by omega) hr hA (by omega) (by omega)).mono ?_; rintro e w91 ⟨y, rfl, hx, h10⟩
    have D3 := ((D90.add h10).bare)
    clear hr hA D2 D90 h10 hx
    go_wp2_with fail
    go_ret2
    exact ⟨_, _, rfl, D3.mono (by omega)⟩
set_option maxRecDepth 100000 in
set_option maxHeartbeats 1600000 in
theorem DrawCompareMethods_any (A : Option Addr) (n c : Nat) (bs : List UInt8) (w : World) (hb : RB w A n bs) (hn : n ≤ 9223372036854775807) :
    Calls Tryz.prog 13 #[.slice A n c] w fun e w' => ∃ x1 x2 : Int, e = .returned (.tuple #[.int .i64 x1, .int .i64 x2]) ∧ Below w.heap.size w w' := by
  have HB := Lib.hid hb
  clear hb
  go_enter Tryz.func13, Tryz.ntmps13
  go_wp2_with fail
  refine (l00From_any A n c bs w HB.out hn).mono ?_; rintro e w0 ⟨rfl, hs, hb2⟩
  have D0 := DR.nil hs
  clear HB hs
  go_wp2_with fail
  refine (l12Factor_dr _ _ w0 D0.src (by omega)).mono ?_; rintro e w1 ⟨x1, x2, rfl, h1⟩
  have K := ((Kn.nil w).join (Kn.ofDR hb2 (Nat.le_refl _) (D0.add h1))).below
  clear D0 h1 hb2
  go_wp2_with fail
  go_ret2
  exact ⟨x1, x2, rfl, K⟩
set_option maxRecDepth 100000 in
set_option maxHeartbeats 1600000 in
theorem DrawMultiplyProgram_any (A : Option Addr) (n c : Nat) (bs : List UInt8) (w : World) (hb : RB w A n bs) (hn : n ≤ 9223372036854775807) :
    Calls Tryz.prog 10 #[.slice A n c] w fun e w' => ∃ (x1 x2 : Int) (s : Bool), e = .returned (.tuple #[.int .i64 x1, .int .i64 x2, .bool s]) ∧ Below w.heap.size w w' := by
  have HB := Lib.hid hb
  clear hb
  go_enter Tryz.func10, Tryz.ntmps10
  go_wp2_with fail
  refine (l00From_any A n c bs w HB.out hn).mono ?_; rintro e w0 ⟨rfl, hs, hb2⟩
  have D0 := DR.nil hs
  clear HB hs
  go_wp2_with fail
  refine (l12Factor_dr _ _ w0 D0.src (by omega)).mono ?_; rintro e w1 ⟨x1, x2, rfl, h1⟩
  have D1 := D0.add h1
  clear D0 h1
  go_wp2_with fail
  refine (one_dr _ _ 2 w1 D1.src (by omega)).mono ?_; rintro e w4 ⟨s, rfl, h3⟩
  have K := ((Kn.nil w).join (Kn.ofDR hb2 (Nat.le_refl _) (D1.add h3))).below
  clear D1 hb2 h3
  go_wp2_with fail
  go_ret3
  exact ⟨x1, x2, s, rfl, K⟩
set_option maxRecDepth 100000 in
set_option maxHeartbeats 6400000 in
theorem DrawMultiplyOn_any (A : Option Addr) (n c : Nat) (bs : List UInt8) (w : World) (hb : RB w A n bs) (hn : n ≤ 9223372036854775807) :
    Calls Tryz.prog 7 #[.slice A n c] w fun e w' => ∃ (t : Tri) (A1 : Option Addr) (c1 : Nat) (A2 : Option Addr) (c2 : Nat) (A3 : Option Addr) (c3 : Nat) (x y : Int) (sh : Bool), e = .returned (.tuple #[.agg #[.int .i64 t.a.base, .slice A1 t.a.digits.length c1, .int .i64 t.b.base, .slice A2 t.b.digits.length c2, .int .i64 t.s.base, .slice A3 t.s.digits.length c3, .int .i64 t.carry], .int .i64 x, .int .i64 y, .bool sh]) ∧ (t.a.digits.length ≤ 22 ∧ t.b.digits.length ≤ 22 ∧ t.s.digits.length ≤ 22) ∧ Kn w [rowI A3 c3 t.s.digits, rowI A2 c2 t.b.digits, rowI A1 c1 t.a.digits] w' := by
  have HB := Lib.hid hb
  clear hb
  go_enter Tryz.func7, Tryz.ntmps7
  go_wp2_with fail
  refine Calls.kn ((Kn.nil w).al [.int .i64 0, .slice none 0 0, .int .i64 0, .slice none 0 0, .int .i64 0, .slice none 0 0, .int .i64 0] 28) ?_; intro w1 K1
  refine (l00From_any A n c bs w1 (HB.out.below K1.below) hn).mono ?_; rintro e w2 ⟨rfl, hs, hb2⟩
  have D2 := DR.nil hs
  clear HB hs
  go_wp2_with fail
  have KD := Lib.hid (l10Bent_dr _ _ w2 D2.src (by omega))
  unfold DBent at KD
  refine KD.out.mono ?_; rintro e w3 ⟨t, A1, c1, A2, c2, A3, c3, rfl, hl, h3⟩
  have D3 := D2.add h3
  clear D2 h3 KD
  go_wp2_with fail
  refine Calls.dr (D3.al [.int .i64 t.a.base, .slice A1 t.a.digits.length c1, .int .i64 t.b.base, .slice A2 t.b.digits.length c2, .int .i64 t.s.base, .slice A3 t.s.digits.length c3, .int .i64 t.carry] 28) ?_; intro w4 D4
  obtain ⟨g, hg⟩ : ∃ g, w3.heap.size = g := ⟨_, rfl⟩
  rw [hg] at D4 ⊢
  clear D3 hg
  refine (pick_dr _ _ 30 w4 D4.src (by omega)).mono ?_; rintro e w5 ⟨p, rfl, hp, h5⟩
  have D5 : DR _ _ w2 [.blk g [.int .i64 t.a.base, .slice A1 t.a.digits.length c1, .int .i64 t.b.base, .slice A2 t.b.digits.length c2, .int .i64 t.s.base, .slice A3 t.s.digits.length c3, .int .i64 t.carry] 28, rowI A3 c3 t.s.digits, rowI A2 c2 t.b.digits, rowI A1 c1 t.a.digits] w5 := D4.add h5
  clear D4 h5
  go_wp2_with fail
  refine (one_dr _ _ 10 w5 D5.src (by omega)).mono ?_; rintro e w3 ⟨z, rfl, h3⟩
  have D3 : DR _ _ w2 [.blk g [.int .i64 t.a.base, .slice A1 t.a.digits.length c1, .int .i64 t.b.base, .slice A2 t.b.digits.length c2, .int .i64 t.s.base, .slice A3 t.s.digits.length c3, .int .i64 t.carry] 28, rowI A3 c3 t.s.digits, rowI A2 c2 t.b.digits, rowI A1 c1 t.a.digits] w3 := D5.add h3
  clear D5 h3
  rcases z with _ | _
  · go_wp2_with fail
    refine (pick_dr _ _ 40 w3 D3.src (by omega)).mono ?_; rintro e w6 ⟨q, rfl, hq, h6⟩
    have D6 := D3.add h6
    clear D3 h6
    go_wp2_with fail
    refine (one_dr _ _ 6 w6 D6.src (by omega)).mono ?_; rintro e w7 ⟨z, rfl, h7⟩
    have D7 := D6.add h7
    clear D6 h7
    rcases z with _ | _
    · go_upto_region 9 with fail
      have D99 : DR _ _ w2 [.blk g [.int .i64 t.a.base, .slice A1 t.a.digits.length c1, .int .i64 t.b.base, .slice A2 t.b.digits.length c2, .int .i64 t.s.base, .slice A3 t.s.digits.length c3, .int .i64 t.carry] 28, rowI A3 c3 t.s.digits, rowI A2 c2 t.b.digits, rowI A1 c1 t.a.digits] (w7).drew := (D7).drew
      have HG := Lib.hid (D99.box7at 0 rfl)
      have HT := HG
      have HV := Lib.hid (one_dr _ _ 2 _ D99.src (by omega))
      go_region_held3 (fun W => W.cell? ⟨g, 0, none⟩ = some (.int .i64 t.a.base) ∧ W.cell? ⟨g, 1, none⟩ = some (.slice A1 t.a.digits.length c1) ∧ W.cell? ⟨g, 2, none⟩ = some (.int .i64 t.b.base) ∧ W.cell? ⟨g, 3, none⟩ = some (.slice A2 t.b.digits.length c2) ∧ W.cell? ⟨g, 4, none⟩ = some (.int .i64 t.s.base) ∧ W.cell? ⟨g, 5, none⟩ = some (.slice A3 t.s.digits.length c3) ∧ W.cell? ⟨g, 6, none⟩ = some (.int .i64 t.carry)) (first | with_reducible exact HG.out | with_reducible exact HT.out | exact HG.out | exact HT.out) (first
        | (go_at_call 48; (refine HV.out.mono ?_); rintro e w5 ⟨sh, rfl, h5⟩; have D5 := D99.add h5; clear HG; have HG := Lib.hid (D5.box7at 0 rfl); have K5 : Kn w [.blk g [.int .i64 t.a.base, .slice A1 t.a.digits.length c1, .int .i64 t.b.base, .slice A2 t.b.digits.length c2, .int .i64 t.s.base, .slice A3 t.s.digits.length c3, .int .i64 t.carry] 28, rowI A3 c3 t.s.digits, rowI A2 c2 t.b.digits, rowI A1 c1 t.a.digits, .blk w.heap.size [.int .i64 0, .slice none 0 0, .int .i64 0, .slice none 0 0, .int .i64 0, .slice none 0 0, .int .i64 0] 28] w5 := K1.join (Kn.ofDR hb2 (Nat.le_refl _) D5); obtain ⟨x1, x2, x3, -⟩ := (K5.front 4 rfl).cells; have K8 := ((((((((K5.front 4 rfl).st 0 (.int .i64 t.a.base)).st 1 (.slice A1 t.a.digits.length c1)).st 2 (.int .i64 t.b.base)).st 3 (.slice A2 t.b.digits.length c2)).st 4 (.int .i64 t.s.base)).st 5 (.slice A3 t.s.digits.length c3)).st 6 (.int .i64 t.carry)); clear HT; have HT := Lib.hid (Go.Proofs.YtkfbfainhmkkdaaGreat.box7at K8 1 rfl)))
      all_goals
        go_wp2_with fail
        refine bodyPost.kn K8 ?_; intro w9 K9
        clear x1 x2 x3
        obtain ⟨a1, a2, a3, -⟩ := K9.cells
        exact bodyPost_ret (v := .tuple #[.agg #[.int .i64 t.a.base, .slice A1 t.a.digits.length c1, .int .i64 t.b.base, .slice A2 t.b.digits.length c2, .int .i64 t.s.base, .slice A3 t.s.digits.length c3, .int .i64 t.carry], .int .i64 (p), .int .i64 (q), .bool sh]) (by simp [results, Tryz.results7, go_sem, a1]) rfl ⟨t, A1, c1, A2, c2, A3, c3, p, q, sh, rfl, hl, K9.sel [2, 3, 4] 99 (by decide) (by decide)⟩
    · go_wp2_with fail
      refine (l12Factor_dr _ _ w7 D7.src (by omega)).mono ?_; rintro e w8 ⟨u1, u2, rfl, h8⟩
      have D8 := D7.add h8
      clear D7 h8
      go_upto_region 9 with fail
      have D99 : DR _ _ w2 [.blk g [.int .i64 t.a.base, .slice A1 t.a.digits.length c1, .int .i64 t.b.base, .slice A2 t.b.digits.length c2, .int .i64 t.s.base, .slice A3 t.s.digits.length c3, .int .i64 t.carry] 28, rowI A3 c3 t.s.digits, rowI A2 c2 t.b.digits, rowI A1 c1 t.a.digits] (w8).drew := (D8).drew
      have HG := Lib.hid (D99.box7at 0 rfl)
      have HT := HG
      have HV := Lib.hid (one_dr _ _ 2 _ D99.src (by omega))
      go_region_held3 (fun W => W.cell? ⟨g, 0, none⟩ = some (.int .i64 t.a.base) ∧ W.cell? ⟨g, 1, none⟩ = some (.slice A1 t.a.digits.length c1) ∧ W.cell? ⟨g, 2, none⟩ = some (.int .i64 t.b.base) ∧ W.cell? ⟨g, 3, none⟩ = some (.slice A2 t.b.digits.length c2) ∧ W.cell? ⟨g, 4, none⟩ = some (.int .i64 t.s.base) ∧ W.cell? ⟨g, 5, none⟩ = some (.slice A3 t.s.digits.length c3) ∧ W.cell? ⟨g, 6, none⟩ = some (.int .i64 t.carry)) (first | with_reducible exact HG.out | with_reducible exact HT.out | exact HG.out | exact HT.out) (first
        | (go_at_call 48; (refine HV.out.mono ?_); rintro e w5 ⟨sh, rfl, h5⟩; have D5 := D99.add h5; clear HG; have HG := Lib.hid (D5.box7at 0 rfl); have K5 : Kn w [.blk g [.int .i64 t.a.base, .slice A1 t.a.digits.length c1, .int .i64 t.b.base, .slice A2 t.b.digits.length c2, .int .i64 t.s.base, .slice A3 t.s.digits.length c3, .int .i64 t.carry] 28, rowI A3 c3 t.s.digits, rowI A2 c2 t.b.digits, rowI A1 c1 t.a.digits, .blk w.heap.size [.int .i64 0, .slice none 0 0, .int .i64 0, .slice none 0 0, .int .i64 0, .slice none 0 0, .int .i64 0] 28] w5 := K1.join (Kn.ofDR hb2 (Nat.le_refl _) D5); obtain ⟨x1, x2, x3, -⟩ := (K5.front 4 rfl).cells; have K8 := ((((((((K5.front 4 rfl).st 0 (.int .i64 t.a.base)).st 1 (.slice A1 t.a.digits.length c1)).st 2 (.int .i64 t.b.base)).st 3 (.slice A2 t.b.digits.length c2)).st 4 (.int .i64 t.s.base)).st 5 (.slice A3 t.s.digits.length c3)).st 6 (.int .i64 t.carry)); clear HT; have HT := Lib.hid (Go.Proofs.YtkfbfainhmkkdaaGreat.box7at K8 1 rfl)))
      all_goals
        go_wp2_with fail
        refine bodyPost.kn K8 ?_; intro w9 K9
        clear x1 x2 x3
        obtain ⟨a1, a2, a3, -⟩ := K9.cells
        exact bodyPost_ret (v := .tuple #[.agg #[.int .i64 t.a.base, .slice A1 t.a.digits.length c1, .int .i64 t.b.base, .slice A2 t.b.digits.length c2, .int .i64 t.s.base, .slice A3 t.s.digits.length c3, .int .i64 t.carry], .int .i64 (p), .int .i64 (u2), .bool sh]) (by simp [results, Tryz.results7, go_sem, a1]) rfl ⟨t, A1, c1, A2, c2, A3, c3, p, u2, sh, rfl, hl, K9.sel [2, 3, 4] 99 (by decide) (by decide)⟩
  · go_wp2_with fail
    refine Calls.dr (D3.al [.int .i64 (-1), .int .i64 0, .int .i64 9999, .int .i64 10000, .int .i64 9223372036854775807] 2) ?_; intro w90 D90
    obtain ⟨hr, hA⟩ := DR.lit (ds := [-1, 0, 9999, 10000, 9223372036854775807]) D90 (by decide)
    refine (among_dr _ _ _ 5 5 _ w90 D90.src (by omega) hr hA (by omega) (by omega)).mono ?_; rintro e w91 ⟨x, rfl, hx, h10⟩
    have D9 := ((D90.add h10).sel [1, 2, 3, 4] 99 (by decide) (by decide))
    clear hr hA D3 D90 h10 hx
    go_wp2_with fail
    refine (pick_dr _ _ 40 w91 D9.src (by omega)).mono ?_; rintro e w6 ⟨q, rfl, hq, h6⟩
    have D6 := D9.add h6
    clear D9 h6
    go_wp2_with fail
    refine (one_dr _ _ 6 w6 D6.src (by omega)).mono ?_; rintro e w7 ⟨z, rfl, h7⟩
    have D7 := D6.add h7
    clear D6 h7
    rcases z with _ | _
    · go_upto_region 9 with fail
      have D99 : DR _ _ w2 [.blk g [.int .i64 t.a.base, .slice A1 t.a.digits.length c1, .int .i64 t.b.base, .slice A2 t.b.digits.length c2, .int .i64 t.s.base, .slice A3 t.s.digits.length c3, .int .i64 t.carry] 28, rowI A3 c3 t.s.digits, rowI A2 c2 t.b.digits, rowI A1 c1 t.a.digits] (w7).drew := (D7).drew
      have HG := Lib.hid (D99.box7at 0 rfl)
      have HT := HG
      have HV := Lib.hid (one_dr _ _ 2 _ D99.src (by omega))
      go_region_held3 (fun W => W.cell? ⟨g, 0, none⟩ = some (.int .i64 t.a.base) ∧ W.cell? ⟨g, 1, none⟩ = some (.slice A1 t.a.digits.length c1) ∧ W.cell? ⟨g, 2, none⟩ = some (.int .i64 t.b.base) ∧ W.cell? ⟨g, 3, none⟩ = some (.slice A2 t.b.digits.length c2) ∧ W.cell? ⟨g, 4, none⟩ = some (.int .i64 t.s.base) ∧ W.cell? ⟨g, 5, none⟩ = some (.slice A3 t.s.digits.length c3) ∧ W.cell? ⟨g, 6, none⟩ = some (.int .i64 t.carry)) (first | with_reducible exact HG.out | with_reducible exact HT.out | exact HG.out | exact HT.out) (first
        | (go_at_call 48; (refine HV.out.mono ?_); rintro e w5 ⟨sh, rfl, h5⟩; have D5 := D99.add h5; clear HG; have HG := Lib.hid (D5.box7at 0 rfl); have K5 : Kn w [.blk g [.int .i64 t.a.base, .slice A1 t.a.digits.length c1, .int .i64 t.b.base, .slice A2 t.b.digits.length c2, .int .i64 t.s.base, .slice A3 t.s.digits.length c3, .int .i64 t.carry] 28, rowI A3 c3 t.s.digits, rowI A2 c2 t.b.digits, rowI A1 c1 t.a.digits, .blk w.heap.size [.int .i64 0, .slice none 0 0, .int .i64 0, .slice none 0 0, .int .i64 0, .slice none 0 0, .int .i64 0] 28] w5 := K1.join (Kn.ofDR hb2 (Nat.le_refl _) D5); obtain ⟨x1, x2, x3, -⟩ := (K5.front 4 rfl).cells; have K8 := ((((((((K5.front 4 rfl).st 0 (.int .i64 t.a.base)).st 1 (.slice A1 t.a.digits.length c1)).st 2 (.int .i64 t.b.base)).st 3 (.slice A2 t.b.digits.length c2)).st 4 (.int .i64 t.s.base)).st 5 (.slice A3 t.s.digits.length c3)).st 6 (.int .i64 t.carry)); clear HT; have HT := Lib.hid (Go.Proofs.YtkfbfainhmkkdaaGreat.box7at K8 1 rfl)))
      all_goals
        go_wp2_with fail
        refine bodyPost.kn K8 ?_; intro w9 K9
        clear x1 x2 x3
        obtain ⟨a1, a2, a3, -⟩ := K9.cells
        exact bodyPost_ret (v := .tuple #[.agg #[.int .i64 t.a.base, .slice A1 t.a.digits.length c1, .int .i64 t.b.base, .slice A2 t.b.digits.length c2, .int .i64 t.s.base, .slice A3 t.s.digits.length c3, .int .i64 t.carry], .int .i64 (x), .int .i64 (q), .bool sh]) (by simp [results, Tryz.results7, go_sem, a1]) rfl ⟨t, A1, c1, A2, c2, A3, c3, x, q, sh, rfl, hl, K9.sel [2, 3, 4] 99 (by decide) (by decide)⟩
    · go_wp2_with fail
      refine (l12Factor_dr _ _ w7 D7.src (by omega)).mono ?_; rintro e w8 ⟨u1, u2, rfl, h8⟩
      have D8 := D7.add h8
      clear D7 h8
      go_upto_region 9 with fail
      have D99 : DR _ _ w2 [.blk g [.int .i64 t.a.base, .slice A1 t.a.digits.length c1, .int .i64 t.b.base, .slice A2 t.b.digits.length c2, .int .i64 t.s.base, .slice A3 t.s.digits.length c3, .int .i64 t.carry] 28, rowI A3 c3 t.s.digits, rowI A2 c2 t.b.digits, rowI A1 c1 t.a.digits] (w8).drew := (D8).drew
      have HG := Lib.hid (D99.box7at 0 rfl)
      have HT := HG
      have HV := Lib.hid (one_dr _ _ 2 _ D99.src (by omega))
      go_region_held3 (fun W => W.cell? ⟨g, 0, none⟩ = some (.int .i64 t.a.base) ∧ W.cell? ⟨g, 1, none⟩ = some (.slice A1 t.a.digits.length c1) ∧ W.cell? ⟨g, 2, none⟩ = some (.int .i64 t.b.base) ∧ W.cell? ⟨g, 3, none⟩ = some (.slice A2 t.b.digits.length c2) ∧ W.cell? ⟨g, 4, none⟩ = some (.int .i64 t.s.base) ∧ W.cell? ⟨g, 5, none⟩ = some (.slice A3 t.s.digits.length c3) ∧ W.cell? ⟨g, 6, none⟩ = some (.int .i64 t.carry)) (first | with_reducible exact HG.out | with_reducible exact HT.out | exact HG.out | exact HT.out) (first
        | (go_at_call 48; (refine HV.out.mono ?_); rintro e w5 ⟨sh, rfl, h5⟩; have D5 := D99.add h5; clear HG; have HG := Lib.hid (D5.box7at 0 rfl); have K5 : Kn w [.blk g [.int .i64 t.a.base, .slice A1 t.a.digits.length c1, .int .i64 t.b.base, .slice A2 t.b.digits.length c2, .int .i64 t.s.base, .slice A3 t.s.digits.length c3, .int .i64 t.carry] 28, rowI A3 c3 t.s.digits, rowI A2 c2 t.b.digits, rowI A1 c1 t.a.digits, .blk w.heap.size [.int .i64 0, .slice none 0 0, .int .i64 0, .slice none 0 0, .int .i64 0, .slice none 0 0, .int .i64 0] 28] w5 := K1.join (Kn.ofDR hb2 (Nat.le_refl _) D5); obtain ⟨x1, x2, x3, -⟩ := (K5.front 4 rfl).cells; have K8 := ((((((((K5.front 4 rfl).st 0 (.int .i64 t.a.base)).st 1 (.slice A1 t.a.digits.length c1)).st 2 (.int .i64 t.b.base)).st 3 (.slice A2 t.b.digits.length c2)).st 4 (.int .i64 t.s.base)).st 5 (.slice A3 t.s.digits.length c3)).st 6 (.int .i64 t.carry)); clear HT; have HT := Lib.hid (Go.Proofs.YtkfbfainhmkkdaaGreat.box7at K8 1 rfl)))
      all_goals
        go_wp2_with fail
        refine bodyPost.kn K8 ?_; intro w9 K9
        clear x1 x2 x3
        obtain ⟨a1, a2, a3, -⟩ := K9.cells
        exact bodyPost_ret (v := .tuple #[.agg #[.int .i64 t.a.base, .slice A1 t.a.digits.length c1, .int .i64 t.b.base, .slice A2 t.b.digits.length c2, .int .i64 t.s.base, .slice A3 t.s.digits.length c3, .int .i64 t.carry], .int .i64 (x), .int .i64 (u2), .bool sh]) (by simp [results, Tryz.results7, go_sem, a1]) rfl ⟨t, A1, c1, A2, c2, A3, c3, x, u2, sh, rfl, hl, K9.sel [2, 3, 4] 99 (by decide) (by decide)⟩
end Go.Proofs.YtkfbfainhmkkdaaGreat
