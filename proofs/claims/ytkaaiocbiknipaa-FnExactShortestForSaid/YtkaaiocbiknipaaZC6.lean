/- Part 6: lemmas and contracts of the claim's functions. -/
import Derived.Test.YtkaaiocbiknipaaZC1
import Derived.Test.YtkaaiocbiknipaaZC2
import Derived.Test.YtkaaiocbiknipaaZC3
import Derived.Test.YtkaaiocbiknipaaZC4
import Derived.Test.YtkaaiocbiknipaaZC5
import Derived.Deep.RegionHeld3
namespace Go.Proofs.Ytkaaiocbiknipaa
open Go.RowKit Go.Sort
/-- the machine with the input k -/
def atT (b : Int) (n1 n2 n3 : Nat) (k : Int) : Tri := ⟨⟨b, digD b n1 (k.tdiv (pw b n2))⟩, ⟨b, digD b n2 (k.tmod (pw b n2))⟩, ⟨b, digD b n3 0⟩, 0⟩
theorem at_bd {x y k : Int} (hy : 1 ≤ y) (h0 : 0 ≤ k) (h1 : k < x * y) : 0 ≤ k.tdiv y ∧ k.tdiv y < x ∧ 0 ≤ k.tmod y ∧ k.tmod y < y := by
  rw [Int.tdiv_eq_ediv_of_nonneg h0, Int.tmod_eq_emod_of_nonneg h0]
  exact ⟨Int.ediv_nonneg h0 (by omega), Int.ediv_lt_of_lt_mul (by omega) h1, Int.emod_nonneg _ (by omega), Int.emod_lt_of_pos _ (by omega)⟩
theorem atT_ok {b : Int} {n1 n2 n3 : Nat} (hB : NmB b n1 n2 n3) {k : Int} (h0 : 0 ≤ k) (h1 : k < pw b n1 * pw b n2) : vmach (atT b n1 n2 n3 k) = true := by
  obtain ⟨q1, q2, q3, q4⟩ := at_bd hB.q2 h0 h1
  have hv := hB.hv
  have p1 := hB.p1
  have p2 := hB.p2
  obtain ⟨k1, k2, k3, e1, e2, f1, f2, l1, c0, c1⟩ := vmach_all hv
  simp only [newT, vplaces, digD_len] at f1 f2 l1 c0 c1
  refine vmach_mk (t := atT b n1 n2 n3 k) (digD_vreg _ hB.b1 hB.b2 _ hB.h1 hB.h1' _ q1 q2 (by omega)) (digD_vreg _ hB.b1 hB.b2 _ hB.h2 hB.h2' _ q3 q4 (by omega)) k3 rfl rfl ?_ ?_ ?_ (Int.le_refl _) ?_
  · simp only [atT, digD_len]; exact f1
  · simp only [atT, digD_len]; exact f2
  · simp only [atT, digD_len]; exact l1
  · simp only [atT, vplaces, digD_len]; exact c1
set_option maxRecDepth 100000 in
set_option maxHeartbeats 3200000 in
theorem at_any {b : Int} {n1 n2 n3 : Nat} (E1 E2 E3 : Option Addr) (g1 g2 g3 : Nat) (cn k : Int) (w : World) (hB : NmB b n1 n2 n3) (r1 : RI w E1 (digD b n1 0).length (digD b n1 0)) (r2 : RI w E2 (digD b n2 0).length (digD b n2 0)) (r3 : RI w E3 (digD b n3 0).length (digD b n3 0)) (hk0 : 0 ≤ k) (hk1 : k ≤ 1000000) :
    Calls Try.prog 201 #[.agg #[.int .i64 b, .slice E1 (digD b n1 0).length g1, .int .i64 b, .slice E2 (digD b n2 0).length g2, .int .i64 b, .slice E3 (digD b n3 0).length g3, .int .i64 0, .int .i64 cn], .int .i64 k] w fun e w' => ∃ F1 f1 F2 f2 F3 f3,
      e = .returned (.agg #[.int .i64 b, .slice F1 (digD b n1 (k.tdiv (pw b n2))).length f1, .int .i64 b, .slice F2 (digD b n2 (k.tmod (pw b n2))).length f2, .int .i64 b, .slice F3 (digD b n3 0).length f3, .int .i64 0]) ∧
      Kn w [rowI F3 f3 (digD b n3 0), rowI F2 f2 (digD b n2 (k.tmod (pw b n2))), rowI F1 f1 (digD b n1 (k.tdiv (pw b n2)))] w' := by
  obtain ⟨b1, b2, h1, h1', h2, h2', h3, h3', hv, p1, p2, q1, q2⟩ := hB
  have hqb : 0 ≤ k.tdiv (pw b n2) ∧ k.tdiv (pw b n2) ≤ k ∧ 0 ≤ k.tmod (pw b n2) ∧ k.tmod (pw b n2) < pw b n2 := by
    rw [Int.tdiv_eq_ediv_of_nonneg hk0, Int.tmod_eq_emod_of_nonneg hk0]
    exact ⟨Int.ediv_nonneg hk0 (by omega), Int.ediv_le_self _ hk0, Int.emod_nonneg _ (by omega), Int.emod_lt_of_pos _ (by omega)⟩
  have V2 := (fun A c W => values_any b A n2 c W b1 b2 (by omega))
  have hp2 : powC b n2 = pw b n2 := by unfold powC; rw [if_pos p2]
  rw [hp2] at V2
  obtain ⟨P2, hP2⟩ : ∃ x, pw b n2 = x := ⟨_, rfl⟩
  rw [hP2] at V2 hqb p2 q2
  rw [hP2]
  obtain ⟨q, hq⟩ : ∃ x, k.tdiv P2 = x := ⟨_, rfl⟩
  obtain ⟨r, hr⟩ : ∃ x, k.tmod P2 = x := ⟨_, rfl⟩
  rw [hq, hr] at hqb
  rw [hq, hr]
  have W1 := (fun A c W => withValue_any b A n1 c q W b1 b2 (by omega) hqb.1 (by omega))
  have W2 := (fun A c W => withValue_any b A n2 c r W b1 b2 (by omega) hqb.2.2.1 (by omega))
  have hq0 : (P2 == 0) = false := by simp; omega
  have hP0 : P2 ≠ 0 := by omega
  have hwq2 : IntKind.i64.wrap (k.tdiv P2) = q := by rw [hq]; exact wrapI64 (by omega)
  have hwr2 : IntKind.i64.wrap (k.tmod P2) = r := by rw [hr]; exact wrapI64 (by omega)
  have hwq : IntKind.i64.wrap q = q := wrapI64 (by omega)
  have hwr : IntKind.i64.wrap r = r := wrapI64 (by omega)
  obtain ⟨x1, hx1⟩ : ∃ x, digD b n1 0 = x := ⟨_, rfl⟩
  obtain ⟨x2, hx2⟩ : ∃ x, digD b n2 0 = x := ⟨_, rfl⟩
  obtain ⟨x3, hx3⟩ : ∃ x, digD b n3 0 = x := ⟨_, rfl⟩
  obtain ⟨y1, hy1⟩ : ∃ x, digD b n1 q = x := ⟨_, rfl⟩
  obtain ⟨y2, hy2⟩ : ∃ x, digD b n2 r = x := ⟨_, rfl⟩
  have l1 : x1.length = n1 := by rw [← hx1]; exact digD_len ..
  have l2 : x2.length = n2 := by rw [← hx2]; exact digD_len ..
  have l3 : x3.length = n3 := by rw [← hx3]; exact digD_len ..
  rw [hx1] at r1
  rw [hx2] at r2
  rw [hx3] at r3
  rw [hy1] at W1
  rw [hy2] at W2
  rw [hx1, hx2, hx3, hy1, hy2]
  rw [← l1] at W1
  rw [← l2] at W2 V2
  have KC := Lib.hid (fun W (hW : Below w.heap.size w W) => copiedM_any ⟨⟨b, x1⟩, ⟨b, x2⟩, ⟨b, x3⟩, 0⟩ E1 E2 E3 g1 g2 g3 W (r1.below hW) (r2.below hW) (r3.below hW) ⟨by simp only []; omega, by simp only []; omega, by simp only []; omega, by simp only []; omega, by simp only []; omega, by simp only []; omega⟩)
  have W1 := Lib.hid W1
  have W2 := Lib.hid W2
  have V2 := Lib.hid V2
  clear hP2 hx1 hx2 hx3 hy1 hy2 l1 l2 l3 r1 r2 r3 hv h1 h1' h2 h2' h3 h3' b1 b2 hp2 hqb
  go_enter Try.func201, Try.ntmps201
  go_wp2_with fail
  refine Calls.kn (((Kn.nil w).al [.int .i64 b, .slice E1 x1.length g1, .int .i64 b, .slice E2 x2.length g2, .int .i64 b, .slice E3 x3.length g3, .int .i64 0, .int .i64 cn] 175).al [.int .i64 0, .slice none 0 0, .int .i64 0, .slice none 0 0, .int .i64 0, .slice none 0 0, .int .i64 0] 65) ?_; intro w1 hK1
  simp only [World.size_alloc] at hK1
  (with_reducible refine (V2.out _ _ _).mono ?_); rintro e w2 ⟨rfl, hw⟩
  have hK2 := hK1.keep hw
  clear hK1 hw
  obtain ⟨a1, a2, a3, d1, d2, d3, -⟩ := hK2.cells
  go_wp2_with fail
  refine (KC.out _ hK2.below).mono ?_; rintro e w3 ⟨F1, f1, F2, f2, F3, f3, rfl, hKn⟩
  have hK3 := hK2.join hKn
  clear hK2 hKn a1 a2 a3 d1 d2 d3
  obtain ⟨a1, a2, a3, d1, d2, d3, -⟩ := hK3.cells
  go_wp2_with fail
  have hK4 := hK3.al [.int .i64 b, .slice F1 x1.length f1, .int .i64 b, .slice F2 x2.length f2, .int .i64 b, .slice F3 x3.length f3, .int .i64 0] 65
  generalize w3.alloc (.cells #[.int .i64 b, .slice F1 x1.length f1, .int .i64 b, .slice F2 x2.length f2, .int .i64 b, .slice F3 x3.length f3, .int .i64 0] 65) = w4 at hK4 ⊢
  have hK4 := hK4.sel [0, 1, 2, 3, 4, 5] 6 (by decide) (by decide)
  have HG := Lib.hid (box7 hK4.drew)
  have HT := HG
  go_cut [6] (fun pp wx => pp = .pointer (some ⟨w3.heap.size, 0, none⟩) ∧ ∃ (G1 : Option Addr) (h1 : Nat), Kn w [.blk w3.heap.size [.int .i64 b, .slice G1 y1.length h1, .int .i64 b, .slice F2 x2.length f2, .int .i64 b, .slice F3 x3.length f3, .int .i64 0] 65, rowI G1 h1 y1, rowI F3 f3 x3, rowI F2 f2 x2, .blk (w.heap.size + 1) [.int .i64 0, .slice none 0 0, .int .i64 0, .slice none 0 0, .int .i64 0, .slice none 0 0, .int .i64 0] 65] wx)
  case first =>
    clear HG HT a1 a2 a3 d1 d2 d3
    obtain ⟨a1, a2, a3⟩ := hK4.blkAt
    first | (go_region_law (go_simp; go_at_call 132; (with_reducible refine (W1.out _ _ _).mono ?_); rintro e w5 ⟨G1, h1, rfl, hKn⟩; have hK5 := hK4.drew.join hKn; have hK6 := ((hK5.front 1 rfl).st 0 (.int .i64 b)).st 1 (.slice G1 y1.length h1); clear a1 a2 a3; obtain ⟨a1, a2, a3⟩ := (hK5.front 1 rfl).blkAt)) | fail "no"
    all_goals
      go_wp2_with fail
      go_meet
      exact ⟨rfl, _, _, hK6.sel [0, 1, 2, 3, 5] 99 (by decide) (by decide)⟩
  case rest =>
    obtain ⟨rfl, G1, h1, hK6⟩ := hcut
    clear HG HT hK4 hK3 a1 a2 a3 d1 d2 d3 W1 KC V2
    have HG := Lib.hid (box7 hK6.drew)
    have HT := HG
    go_wp2_with fail
    go_cut [6] (fun pp wx => pp = .pointer (some ⟨w3.heap.size, 0, none⟩) ∧ ∃ (G2 : Option Addr) (h2 : Nat), Kn w [.blk w3.heap.size [.int .i64 b, .slice G1 y1.length h1, .int .i64 b, .slice G2 y2.length h2, .int .i64 b, .slice F3 x3.length f3, .int .i64 0] 65, rowI F3 f3 x3, rowI G2 h2 y2, rowI G1 h1 y1, .blk (w.heap.size + 1) [.int .i64 0, .slice none 0 0, .int .i64 0, .slice none 0 0, .int .i64 0, .slice none 0 0, .int .i64 0] 65] wx)
    case first =>
      clear HG HT
      obtain ⟨a1, a2, a3⟩ := hK6.blkAt
      first | (go_region_law (go_simp; go_at_call 132; (with_reducible refine (W2.out _ _ _).mono ?_); rintro e w5 ⟨G2, h2, rfl, hKn⟩; have hK7 := hK6.drew.join hKn; have hK8 := ((hK7.front 1 rfl).st 2 (.int .i64 b)).st 3 (.slice G2 y2.length h2); clear a1 a2 a3; obtain ⟨a1, a2, a3⟩ := (hK7.front 1 rfl).blkAt)) | fail "no"
      all_goals
        go_wp2_with fail
        go_meet
        exact ⟨rfl, _, _, hK8.sel [0, 3, 1, 2, 5] 99 (by decide) (by decide)⟩
    case rest =>
      obtain ⟨rfl, G2, h2, hK8⟩ := hcut
      clear HG HT hK6 W2
      obtain ⟨a1, a2, a3, d1, d2, d3, -⟩ := hK8.cells
      go_wp2_with fail
      refine bodyPost.kn ((((((((hK8.front 4 rfl).st 0 (.int .i64 b)).st 1 (.slice G1 y1.length h1)).st 2 (.int .i64 b)).st 3 (.slice G2 y2.length h2)).st 4 (.int .i64 b)).st 5 (.slice F3 x3.length f3)).st 6 (.int .i64 0)) ?_; intro w9 hK9
      clear a1 a2 a3 d1 d2 d3
      obtain ⟨a1, a2, a3, -⟩ := hK9.cells
      exact bodyPost_ret (v := .agg [.int .i64 b, .slice G1 y1.length h1, .int .i64 b, .slice G2 y2.length h2, .int .i64 b, .slice F3 x3.length f3, .int .i64 0].toArray) (by simp [results, Try.results201, go_sem, a1]) rfl ⟨G1, h1, G2, h2, F3, f3, rfl, hK9.sel [2, 3, 4] 99 (by decide) (by decide)⟩
set_option maxRecDepth 100000 in
set_option maxHeartbeats 3200000 in
theorem l14At_any {b : Int} {n1 n2 n3 : Nat} (k : Int) (w : World) (hB : NmB b n1 n2 n3) (hk0 : 0 ≤ k) (hk1 : k ≤ 1000000) :
    Calls Try.prog 153 #[.int .i64 b, .int .i64 n1, .int .i64 n2, .int .i64 n3, .int .i64 k] w fun e w' => ∃ F1 f1 F2 f2 F3 f3,
      e = .returned (.agg #[.int .i64 b, .slice F1 (digD b n1 (k.tdiv (pw b n2))).length f1, .int .i64 b, .slice F2 (digD b n2 (k.tmod (pw b n2))).length f2, .int .i64 b, .slice F3 (digD b n3 0).length f3, .int .i64 0]) ∧
      Kn w [rowI F3 f3 (digD b n3 0), rowI F2 f2 (digD b n2 (k.tmod (pw b n2))), rowI F1 f1 (digD b n1 (k.tdiv (pw b n2)))] w' := by
  obtain ⟨b1, b2, h1, h1', h2, h2', h3, h3', hv, p1, p2, q1, q2⟩ := hB
  have hqb : 0 ≤ k.tdiv (pw b n2) ∧ k.tdiv (pw b n2) ≤ k ∧ 0 ≤ k.tmod (pw b n2) ∧ k.tmod (pw b n2) < pw b n2 := by
    rw [Int.tdiv_eq_ediv_of_nonneg hk0, Int.tmod_eq_emod_of_nonneg hk0]
    exact ⟨Int.ediv_nonneg hk0 (by omega), Int.ediv_le_self _ hk0, Int.emod_nonneg _ (by omega), Int.emod_lt_of_pos _ (by omega)⟩
  have V2 := (fun W => l10Power_any b n2 W b1 b2 (by omega))
  have hp2 : powS b n2 = pw b n2 := by unfold powS; omega
  rw [hp2] at V2
  have KN := (fun W => l10New_any b n1 n2 n3 W b1 b2 (by omega) (by omega) (by omega))
  obtain ⟨P2, hP2⟩ : ∃ x, pw b n2 = x := ⟨_, rfl⟩
  rw [hP2] at V2 hqb p2 q2
  rw [hP2]
  obtain ⟨q, hq⟩ : ∃ x, k.tdiv P2 = x := ⟨_, rfl⟩
  obtain ⟨r, hr⟩ : ∃ x, k.tmod P2 = x := ⟨_, rfl⟩
  rw [hq, hr] at hqb
  rw [hq, hr]
  have W1 := (fun W => l02NewV_any b n1 q W b1 b2 (by omega) hqb.1 (by omega))
  have W2 := (fun W => l02NewV_any b n2 r W b1 b2 (by omega) hqb.2.2.1 (by omega))
  have hq0 : (P2 == 0) = false := by simp; omega
  have hP0 : P2 ≠ 0 := by omega
  have hwq2 : IntKind.i64.wrap (k.tdiv P2) = q := by rw [hq]; exact wrapI64 (by omega)
  have hwr2 : IntKind.i64.wrap (k.tmod P2) = r := by rw [hr]; exact wrapI64 (by omega)
  have hwq : IntKind.i64.wrap q = q := wrapI64 (by omega)
  have hwr : IntKind.i64.wrap r = r := wrapI64 (by omega)
  obtain ⟨x1, hx1⟩ : ∃ x, digD b n1 0 = x := ⟨_, rfl⟩
  obtain ⟨x2, hx2⟩ : ∃ x, digD b n2 0 = x := ⟨_, rfl⟩
  obtain ⟨x3, hx3⟩ : ∃ x, digD b n3 0 = x := ⟨_, rfl⟩
  obtain ⟨y1, hy1⟩ : ∃ x, digD b n1 q = x := ⟨_, rfl⟩
  obtain ⟨y2, hy2⟩ : ∃ x, digD b n2 r = x := ⟨_, rfl⟩
  obtain ⟨u1, hu1⟩ : ∃ x, restD b n1 q = x := ⟨_, rfl⟩
  obtain ⟨u2, hu2⟩ : ∃ x, restD b n2 r = x := ⟨_, rfl⟩
  rw [hx1, hx2, hx3] at KN
  rw [hy1, hu1] at W1
  rw [hy2, hu2] at W2
  rw [hx3, hy1, hy2]
  have W1 := Lib.hid W1
  have W2 := Lib.hid W2
  have V2 := Lib.hid V2
  have KN := Lib.hid KN
  clear hP2 hx1 hx2 hx3 hy1 hy2 hu1 hu2 hv h1 h1' h2 h2' h3 h3' b1 b2 hp2 hqb
  go_enter Try.func153, Try.ntmps153
  go_wp2_with fail
  refine Calls.kn ((Kn.nil w).al [.int .i64 0, .slice none 0 0, .int .i64 0, .slice none 0 0, .int .i64 0, .slice none 0 0, .int .i64 0] 65) ?_; intro w1 hK1
  (with_reducible refine (KN.out _).mono ?_); rintro e w2 ⟨F1, f1, F2, f2, F3, f3, rfl, hKn⟩
  have hK2 := hK1.join hKn
  clear hK1 hKn
  go_wp2_with (go_at_call 120; (with_reducible refine (V2.out _).mono ?_); rintro e w' ⟨rfl, rfl⟩)
  refine Calls.kn (hK2.al [.int .i64 b, .slice F1 x1.length f1, .int .i64 b, .slice F2 x2.length f2, .int .i64 b, .slice F3 x3.length f3, .int .i64 0] 65) ?_; intro w3 hK3
  (with_reducible refine (W1.out _).mono ?_); rintro e w4 ⟨G1, h1, rfl, hKn⟩
  have hK4 := hK3.join hKn
  clear hK2 hK3 hKn
  go_wp2_with (go_at_call 120; (with_reducible refine (V2.out _).mono ?_); rintro e w' ⟨rfl, rfl⟩)
  refine Calls.kn (hK4.al [.int .i64 b, .slice G1 y1.length h1] 26) ?_; intro w5 hK5
  (with_reducible refine (W2.out _).mono ?_); rintro e w6 ⟨G2, h2, rfl, hKn⟩
  have hK6 := hK5.join hKn
  clear hK4 hK5 hKn
  go_upto_region 4 with fail
  refine Code.wp.kn (hK6.al [.int .i64 b, .slice G2 y2.length h2] 26) ?_; intro w7 hK7
  clear hK6
  obtain ⟨a1, a2, a3, d1, d2, d3, e1, e2, e3, -⟩ := hK7.cells
  have ne1 := hK7.ne 0 4 rfl rfl (by decide)
  have ne2 := hK7.ne 2 4 rfl rfl (by decide)
  go_upto_region 6 with fail
  refine Code.wp.kn (((((hK7.front 4 rfl).st 0 (.int .i64 b)).st 1 (.slice G1 y1.length h1)).st 2 (.int .i64 b)).st 3 (.slice G2 y2.length h2)) ?_; intro w8 hK8
  clear hK7 a1 a2 a3 d1 d2 d3 e1 e2 e3 ne1 ne2
  have hK8 := hK8.sel [0, 8, 5, 2, 4] 99 (by decide) (by decide)
  obtain ⟨a1, a2, a3, d1, d2, d3, -⟩ := hK8.cells
  go_wp2_with fail
  refine bodyPost.kn (((((((hK8.front 1 rfl).st 0 (.int .i64 b)).st 1 (.slice G1 y1.length h1)).st 2 (.int .i64 b)).st 3 (.slice G2 y2.length h2)).st 4 (.int .i64 b)).st 5 (.slice F3 x3.length f3) |>.st 6 (.int .i64 0)) ?_; intro w9 hK9
  clear a1 a2 a3
  obtain ⟨a1, a2, a3, -⟩ := hK9.cells
  exact bodyPost_ret (v := .agg [.int .i64 b, .slice G1 y1.length h1, .int .i64 b, .slice G2 y2.length h2, .int .i64 b, .slice F3 x3.length f3, .int .i64 0].toArray) (by simp [results, Try.results153, go_sem, a1]) rfl ⟨G1, h1, G2, h2, F3, f3, rfl, hK9.sel [2, 3, 4] 99 (by decide) (by decide)⟩
end Go.Proofs.Ytkaaiocbiknipaa

namespace Go.Proofs.Ytkaaiocbiknipaa
open Go.RowKit Go.Sort
set_option maxHeartbeats 400000 in
theorem sameNumbers_any (A B : Option Addr) (n c m d : Nat) (ds es : List Int) (w : World) (hr : RI w A n ds) (hs : RI w B m es) (hm : n ≤ 9223372036854775807) (hm2 : m ≤ 9223372036854775807) :
    Calls Try.prog 219 #[.slice A n c, .slice B m d] w fun e w' => e = .returned (.bool (decide (ds = es))) ∧ ∃ q, w' = w.drewN q := by
  have HL := Lib.hid hr.1
  have HM := Lib.hid hs.1
  by_cases hnm : n = m
  · subst hnm
    go_enter Try.func219, Try.ntmps219
    go_wp2
    go_loopw [13] (fun i wr => ∃ k : Nat, k ≤ n ∧ i = .int .i64 k ∧ ds.take k = es.take k ∧ ∃ q, wr = w.drewN q) (fun i _ => n - (intOf i).toNat)
    case atStart => exact ⟨0, Nat.zero_le _, rfl, by simp, 0, rfl⟩
    case round =>
      obtain ⟨k, hk, rfl, hdg, q, rfl⟩ := hrel
      have HD := Lib.hid hdg; clear hdg
      by_cases hkn : k < n
      · obtain ⟨ad, hA, hlt, hkl, hc⟩ := hr.at_ hkn
        obtain ⟨ad2, hB, hlt2, hkl2, hc2⟩ := hs.at_ hkn
        subst hA; subst hB
        have hi0 : (0 : Int) ≤ (k : Int) := by omega
        have hi1 : (k : Int) < (n : Int) := by omega
        rcases hd : (ds[k] != es[k]) with _ | _
        · go_wp2
          go_quiet (fail)
          go_wp2
          have he : ds[k] = es[k] := by simpa using hd
          have HE := Lib.hid he; clear he
          go_roundw
          case rel => exact ⟨k + 1, by omega, by go_num, take_eq_of_succ HD.out hkl hkl2 HE.out, by first | exact ⟨_, rfl⟩ | exact ⟨_, World.drewN_drewN _ _ _⟩⟩
          case measure => simp [intOf]; omega
        · go_wp2
          go_quiet (fail)
          go_wp2
          go_ret
          refine ⟨ret_bool ?_, by first | exact ⟨_, rfl⟩ | exact ⟨_, World.drewN_drewN _ _ _⟩⟩
          have : ds ≠ es := by rintro rfl; simp at hd
          simp [this]
      · have HF : Hid (ds = es) := by
          have := HD.out
          rwa [List.take_of_length_le (by have := HL.out; omega), List.take_of_length_le (by have := HM.out; omega)] at this
        go_wp2
        go_ret
        exact ⟨ret_bool (by simp [HF.out]), q, rfl⟩
  · have HF : Hid (ds ≠ es) := by rintro rfl; exact hnm (hr.1.symm.trans hs.1)
    go_enter Try.func219, Try.ntmps219
    go_wp2
    go_ret
    exact ⟨ret_bool (by simp [HF.out]), 0, rfl⟩
set_option maxHeartbeats 400000 in
theorem l00Same_any (A B : Option Addr) (n c m d : Nat) (ds es : List Int) (w : World) (hr : RI w A n ds) (hs : RI w B m es) (hm : n ≤ 9223372036854775807) (hm2 : m ≤ 9223372036854775807) :
    Calls Try.prog 176 #[.slice A n c, .slice B m d] w fun e w' => e = .returned (.bool (decide (ds = es))) ∧ ∃ q, w' = w.drewN q := by
  have HL := Lib.hid hr.1
  have HM := Lib.hid hs.1
  by_cases hnm : n = m
  · subst hnm
    go_enter Try.func176, Try.ntmps176
    go_wp2
    go_loopw [5] (fun i wr => ∃ k : Nat, k ≤ n ∧ i = .int .i64 k ∧ ds.take k = es.take k ∧ ∃ q, wr = w.drewN q) (fun i _ => n - (intOf i).toNat)
    case atStart => exact ⟨0, Nat.zero_le _, rfl, by simp, 0, rfl⟩
    case round =>
      obtain ⟨k, hk, rfl, hdg, q, rfl⟩ := hrel
      have HD := Lib.hid hdg; clear hdg
      by_cases hkn : k < n
      · obtain ⟨ad, hA, hlt, hkl, hc⟩ := hr.at_ hkn
        obtain ⟨ad2, hB, hlt2, hkl2, hc2⟩ := hs.at_ hkn
        subst hA; subst hB
        have hi0 : (0 : Int) ≤ (k : Int) := by omega
        have hi1 : (k : Int) < (n : Int) := by omega
        rcases hd : (ds[k] != es[k]) with _ | _
        · go_wp2
          go_quiet (fail)
          go_wp2
          have he : ds[k] = es[k] := by simpa using hd
          have HE := Lib.hid he; clear he
          go_roundw
          case rel => exact ⟨k + 1, by omega, by go_num, take_eq_of_succ HD.out hkl hkl2 HE.out, by first | exact ⟨_, rfl⟩ | exact ⟨_, World.drewN_drewN _ _ _⟩⟩
          case measure => simp [intOf]; omega
        · go_wp2
          go_quiet (fail)
          go_wp2
          go_ret
          refine ⟨ret_bool ?_, by first | exact ⟨_, rfl⟩ | exact ⟨_, World.drewN_drewN _ _ _⟩⟩
          have : ds ≠ es := by rintro rfl; simp at hd
          simp [this]
      · have HF : Hid (ds = es) := by
          have := HD.out
          rwa [List.take_of_length_le (by have := HL.out; omega), List.take_of_length_le (by have := HM.out; omega)] at this
        go_wp2
        go_ret
        exact ⟨ret_bool (by simp [HF.out]), q, rfl⟩
  · have HF : Hid (ds ≠ es) := by rintro rfl; exact hnm (hr.1.symm.trans hs.1)
    go_enter Try.func176, Try.ntmps176
    go_wp2
    go_ret
    exact ⟨ret_bool (by simp [HF.out]), 0, rfl⟩
def sameR (r s : Reg) : Bool := r.base == s.base && decide (r.digits = s.digits)
theorem SameRegister_any (r s : Reg) (A B : Option Addr) (c d : Nat) (w : World) (hr : RI w A r.digits.length r.digits) (hs : RI w B s.digits.length s.digits) (hm : SmallReg r) (hm2 : SmallReg s) :
    Calls Try.prog 200 #[.agg #[.int .i64 r.base, .slice A r.digits.length c], .agg #[.int .i64 s.base, .slice B s.digits.length d]] w fun e w' => e = .returned (.bool (sameR r s)) ∧ Below w.heap.size w w' := by
  have hb0 : Below w.heap.size w ((w.alloc (.cells #[.int .i64 r.base, .slice A r.digits.length c] 26)).alloc (.cells #[.int .i64 s.base, .slice B s.digits.length d] 26)) := ((Below.refl _ _).alloc (Nat.le_refl _) _).alloc (by simp) _
  unfold SmallReg at hm hm2
  rcases k : (r.base == s.base) with _ | _
  · have HF : Hid (sameR r s = false) := by simp only [Hid, sameR]; rw [k]; rfl
    go_enter Try.func200, Try.ntmps200
    go_wp2
    go_ret
    exact ⟨ret_bool HF.out.symm, hb0⟩
  · have HF : Hid (sameR r s = decide (r.digits = s.digits)) := by simp only [Hid, sameR]; rw [k]; rfl
    go_enter Try.func200, Try.ntmps200
    go_wp2_with (go_at_call 219; refine (sameNumbers_any A B _ c _ d r.digits s.digits _ (hr.below hb0) (hs.below hb0) (by omega) (by omega)).mono ?_; rintro e w1 ⟨rfl, q, rfl⟩)
    go_ret
    exact ⟨ret_bool HF.out.symm, below_drewN hb0 _⟩
theorem l02Same_any (p q : Addr) (r s : Reg) (w : World) (hp : RegM w p r) (hq : RegM w q s) (hm : SmallReg r) (hm2 : SmallReg s) :
    Calls Try.prog 98 #[.pointer (some p), .pointer (some q)] w fun e w' => e = .returned (.bool (sameR r s)) ∧ ∃ m, w' = w.drewN m := by
  obtain ⟨A, c, ⟨ha, hb⟩, hr⟩ := hp
  obtain ⟨B, d, ⟨ha0, hb0⟩, hs⟩ := hq
  unfold SmallReg at hm hm2
  have K1 := Lib.hid (fun (m : Nat) => l00Same_any A B _ c _ d r.digits s.digits (w.drewN m) hr hs (by omega) (by omega))
  rcases k : (r.base == s.base) with _ | _
  · have HF : Hid (sameR r s = false) := by simp only [Hid, sameR]; rw [k]; rfl
    go_enter Try.func98, Try.ntmps98
    go_wp2_with fail
    go_quiet ((go_at_call 176; exact quiet_of_ex (K1.out _)))
    go_wp2
    go_ret
    exact ⟨ret_bool HF.out.symm, _, rfl⟩
  · have HF : Hid (sameR r s = decide (r.digits = s.digits)) := by simp only [Hid, sameR]; rw [k]; rfl
    go_enter Try.func98, Try.ntmps98
    go_wp2_with fail
    go_quiet ((go_at_call 176; exact quiet_of_ex (K1.out _)))
    go_wp2
    go_ret
    exact ⟨ret_bool HF.out.symm, _, rfl⟩
/-- the carry out of a digit with a kind of fault -/
def cstep (base t c kind : Int) : Int := if kind = 1 then 0 else if kind = 2 then 1 else if kind = 3 then (if t < base then 0 else 1) else if t + c < base then 0 else 1
end Go.Proofs.Ytkaaiocbiknipaa

namespace Go.Proofs.Ytkaaiocbiknipaa
open Go.RowKit Go.Sort
set_option maxRecDepth 100000 in
set_option maxHeartbeats 1600000 in
theorem shiftedW_any (b : Int) (A : Option Addr) (c : Nat) (ds : List Int) (x : Int) (w : World) (hr : RI w A ds.length ds) (hv : vreg b ds = true) (hp : pw b ds.length ≤ 1000000000001) (hx0 : -2000000000000000 ≤ x) (hx1 : x ≤ 2000000000000000) :
    Calls Try.prog 199 #[.agg #[.int .i64 b, .slice A ds.length c], .int .i64 x] w fun e w' => ∃ A' c', e = .returned (.tuple #[.agg #[.int .i64 b, .slice A' (shiftD b ds x).length c'], .bool (shiftB b ds x)]) ∧ Kn w [rowI A' c' (shiftD b ds x)] w' := by
  obtain ⟨⟨b1, b2⟩, ⟨n1, n2⟩, hd, hl⟩ := vreg_iff.1 hv
  have hp1 := pw_pos b b1 ds.length
  have hv0 := (valL_bd b b1 ds (fun d h => (hd d h).1)).1
  have KN := (fun W => values_any b A ds.length c W b1 b2 (by omega))
  have hpc : powC b ds.length = pw b ds.length := by unfold powC; rw [if_pos hp]
  rw [hpc] at KN
  have KV := (fun W (hW : Below w.heap.size w W) => value_any b A ds.length c ds W b1 b2 hd (hr.below hW) n2)
  have hsd : shiftD b ds x = digD b ds.length (((valL b ds + x).tmod (pw b ds.length) + pw b ds.length).tmod (pw b ds.length)) := rfl
  have hsb : shiftB b ds x = (decide (valL b ds + x < 0) || decide (pw b ds.length ≤ valL b ds + x)) := rfl
  obtain ⟨N, hN⟩ : ∃ N, pw b ds.length = N := ⟨_, rfl⟩
  obtain ⟨V, hV⟩ : ∃ V, valL b ds = V := ⟨_, rfl⟩
  rw [hN] at KN hsd hsb hp hp1
  rw [hV] at KV hsd hsb hv0 hl
  obtain ⟨S, hS⟩ : ∃ S, V + x = S := ⟨_, rfl⟩
  rw [hS] at hsd hsb
  have hSb : -2000000000000000 ≤ S ∧ S ≤ 3000000000000000 := by omega
  have hm1 : -N < S.tmod N ∧ S.tmod N < N := by
    have h1 := Int.tmod_lt_of_pos S (show 0 < N by omega)
    have h2 := Int.lt_tmod_of_pos S (show 0 < N by omega)
    omega
  have hm2 : 0 ≤ (S.tmod N + N).tmod N ∧ (S.tmod N + N).tmod N < N := ⟨Int.tmod_nonneg _ (by omega), Int.tmod_lt_of_pos _ (by omega)⟩
  have hwr : IntKind.i64.wrap (S.tmod N + N) = S.tmod N + N := wrapI64 (by omega)
  have nz1 : N ≠ 0 := by omega
  have nz2 : (N == 0) = false := by simp; omega
  have nz3 : ¬ N = 0 := by omega
  have KW := (fun W => withValue_any b A ds.length c ((S.tmod N + N).tmod N) W b1 b2 (by omega) hm2.1 (by omega))
  rw [← hsd] at KW
  obtain ⟨es, hes⟩ : ∃ es, shiftD b ds x = es := ⟨_, rfl⟩
  rw [hes] at KW ⊢
  obtain ⟨bell, hbl⟩ : ∃ e, shiftB b ds x = e := ⟨_, rfl⟩
  have HSB := Lib.hid (hbl.symm.trans hsb)
  rw [hbl]
  have KN := Lib.hid KN
  have KV := Lib.hid KV
  have KW := Lib.hid KW
  have HSS := Lib.hid hS
  have hV2 : -9223372036854775808 ≤ V + x ∧ V + x ≤ 9223372036854775807 := by omega
  clear hsd hsb hes hbl hr hv hd hl hpc hN hV hS
  go_enter Try.func199, Try.ntmps199
  go_wp2_with (first | (refine wpList.kn ((Kn.nil w).al [.int .i64 b, .slice A ds.length c] 26) ?_; intro w1 hK1))
  have hK2 := hK1.al [.int .i64 0, .slice none 0 0] 26
  generalize w1.alloc (.cells #[.int .i64 0, .slice none 0 0] 26) = w2 at hK2 ⊢
  have HG := Lib.hid (box2 hK2.drew.drop)
  go_cut [6, 7] (fun pp oo wx => pp = .int .i64 N ∧ oo = .int .i64 S ∧ Kn w [.blk w1.heap.size [.int .i64 0, .slice none 0 0] 26, .blk w.heap.size [.int .i64 b, .slice A ds.length c] 26] wx)
  case first =>
    go_region_held3 (fun W => W.cell? ⟨w.heap.size, 0, none⟩ = some (.int .i64 b) ∧ W.cell? ⟨w.heap.size, 1, none⟩ = some (.slice A ds.length c))
      (first | with_reducible exact HG.out | exact HG.out) (first
      | (go_at_call 127; with_reducible refine (KN.out _).mono ?_; rintro e w3 ⟨rfl, hw3⟩; have hK3 := hK2.drew.keep hw3; clear HG; have HG := Lib.hid (box2 hK3.drop))
      | (go_at_call 135; with_reducible refine (KV.out _ hK3.below).mono ?_; rintro e w4 ⟨rfl, hw4⟩; have hK4 := hK3.keep hw4; clear HG; have HG := Lib.hid (box2 hK4.drop)))
    all_goals
      go_wp2_with fail
      go_meet
      exact ⟨rfl, by rw [HSS.out, wrapI64 (by omega)], hK4⟩
  case rest =>
    obtain ⟨rfl, rfl, hK⟩ := hcut
    clear HG hK1 hK2
    clear hV2 hv0
    have HG := Lib.hid (box2 hK.drew.drop)
    have HS := HG
    obtain ⟨a1, a2, a3⟩ := hK.blkAt
    rcases hlt : decide (S < 0) with _ | _
    · have hl2 := of_decide_eq_false hlt
      rcases hge : decide (N ≤ S) with _ | _
      · have hg2 := of_decide_eq_false hge
        rw [hlt, hge] at HSB
        go_wp2_with fail
        go_region_held3 (fun W => W.cell? ⟨w.heap.size, 0, none⟩ = some (.int .i64 b) ∧ W.cell? ⟨w.heap.size, 1, none⟩ = some (.slice A ds.length c)) (first | with_reducible exact HG.out | with_reducible exact HS.out | exact HG.out) (first
            | (go_at_call 132; with_reducible refine (KW.out _).mono ?_; rintro e w3 ⟨A', c', rfl, hK'⟩; have hK3 := hK.drew.join hK'; clear HG; have HG := Lib.hid (box2 hK3.drop.drop); have hK4 := (hK3.sw1.st 0 (.int .i64 b)).st 1 (.slice A' es.length c'); have HS := Lib.hid (box2 hK4.drop.drop); clear a1 a2 a3; obtain ⟨a1, a2, a3⟩ := hK3.drop.blkAt)
          )
        all_goals
          go_wp2_with fail
          refine bodyPost.kn hK4 ?_; intro w6 hK6
          clear a1 a2 a3
          obtain ⟨a1, a2, a3, -⟩ := hK6.cells
          refine bodyPost_ret (v := .tuple #[.agg #[.int .i64 b, .slice A' es.length c'], .bool bell]) (by simp [results, Try.results199, go_sem, a1]; rw [HSB.out]; try simp) rfl ⟨A', c', rfl, ?_⟩
          exact hK6.drop.drop1
      · have hg2 := of_decide_eq_true hge
        rw [hlt, hge] at HSB
        go_wp2_with fail
        go_region_held3 (fun W => W.cell? ⟨w.heap.size, 0, none⟩ = some (.int .i64 b) ∧ W.cell? ⟨w.heap.size, 1, none⟩ = some (.slice A ds.length c)) (first | with_reducible exact HG.out | with_reducible exact HS.out | exact HG.out) (first
            | (go_at_call 132; with_reducible refine (KW.out _).mono ?_; rintro e w3 ⟨A', c', rfl, hK'⟩; have hK3 := hK.drew.join hK'; clear HG; have HG := Lib.hid (box2 hK3.drop.drop); have hK4 := (hK3.sw1.st 0 (.int .i64 b)).st 1 (.slice A' es.length c'); have HS := Lib.hid (box2 hK4.drop.drop); clear a1 a2 a3; obtain ⟨a1, a2, a3⟩ := hK3.drop.blkAt)
          )
        all_goals
          go_wp2_with fail
          refine bodyPost.kn hK4 ?_; intro w6 hK6
          clear a1 a2 a3
          obtain ⟨a1, a2, a3, -⟩ := hK6.cells
          refine bodyPost_ret (v := .tuple #[.agg #[.int .i64 b, .slice A' es.length c'], .bool bell]) (by simp [results, Try.results199, go_sem, a1]; rw [HSB.out]; try simp) rfl ⟨A', c', rfl, ?_⟩
          exact hK6.drop.drop1
    · have hl2 := of_decide_eq_true hlt
      have hbe : bell = true := by rw [HSB.out, hlt]; rfl
      have HSB := Lib.hid hbe
      clear hbe
      obtain ⟨x1, x2⟩ := box2 hK.drop
      go_wp2_with fail
      first | (go_region_law (go_simp; go_at_call 132; with_reducible refine (KW.out _).mono ?_; rintro e w3 ⟨A', c', rfl, hK'⟩; have hK3 := hK.drew.join hK'; clear HG; have HG := Lib.hid (box2 hK3.drop.drop); have hK4 := (hK3.sw1.st 0 (.int .i64 b)).st 1 (.slice A' es.length c'); have HS := Lib.hid (box2 hK4.drop.drop); clear a1 a2 a3; obtain ⟨a1, a2, a3⟩ := hK3.drop.blkAt)) | fail "no"
      all_goals
        go_wp2_with fail
        refine bodyPost.kn hK4 ?_; intro w6 hK6
        clear a1 a2 a3
        obtain ⟨a1, a2, a3, -⟩ := hK6.cells
        refine bodyPost_ret (v := .tuple #[.agg #[.int .i64 b, .slice A' es.length c'], .bool bell]) (by simp [results, Try.results199, go_sem, a1]; rw [HSB.out]; try simp) rfl ⟨A', c', rfl, ?_⟩
        exact hK6.drop.drop1
set_option maxRecDepth 100000 in
set_option maxHeartbeats 1600000 in
theorem l10MoveW_any (p : Addr) (b : Int) (A : Option Addr) (c : Nat) (ds : List Int) (x : Int) (w : World) (hp : RegAt w p b A ds.length c) (hr : RI w A ds.length ds) (hv : vreg b ds = true) (hpw : pw b ds.length ≤ 1000000000001) (hx0 : -2000000000000000 ≤ x) (hx1 : x ≤ 2000000000000000) :
    Calls Try.prog 218 #[.pointer (some p), .int .i64 x] w fun e w' => ∃ A' c', e = .returned (.tuple #[.agg #[.int .i64 b, .slice A' (shiftD b ds x).length c'], .bool (shiftB b ds x)]) ∧ Kn w [rowI A' c' (shiftD b ds x)] w' := by
  obtain ⟨⟨b1, b2⟩, ⟨n1, n2⟩, hd, hl⟩ := vreg_iff.1 hv
  have hp1 := pw_pos b b1 ds.length
  have hv0 := (valL_bd b b1 ds (fun d h => (hd d h).1)).1
  have KN := (fun W => l10Power_any b ds.length W b1 b2 (by omega))
  have hpc : powS b ds.length = pw b ds.length := by unfold powS; omega
  rw [hpc] at KN
  have KV := (fun W (hW : Below w.heap.size w W) => l02Value_any b A ds.length c ds W b1 b2 hd (hr.below hW) n2)
  have hsd : shiftD b ds x = digD b ds.length (((valL b ds + x).tmod (pw b ds.length) + pw b ds.length).tmod (pw b ds.length)) := rfl
  have hsb : shiftB b ds x = (decide (valL b ds + x < 0) || decide (pw b ds.length ≤ valL b ds + x)) := rfl
  obtain ⟨N, hN⟩ : ∃ N, pw b ds.length = N := ⟨_, rfl⟩
  obtain ⟨V, hV⟩ : ∃ V, valL b ds = V := ⟨_, rfl⟩
  rw [hN] at KN hsd hsb hpw hp1
  rw [hV] at KV hsd hsb hv0 hl
  obtain ⟨S, hS⟩ : ∃ S, V + x = S := ⟨_, rfl⟩
  rw [hS] at hsd hsb
  have hSb : -2000000000000000 ≤ S ∧ S ≤ 3000000000000000 := by omega
  have hm1 : -N < S.tmod N ∧ S.tmod N < N := by
    have h1 := Int.tmod_lt_of_pos S (show 0 < N by omega)
    have h2 := Int.lt_tmod_of_pos S (show 0 < N by omega)
    omega
  have hm2 : 0 ≤ (S.tmod N + N).tmod N ∧ (S.tmod N + N).tmod N < N := ⟨Int.tmod_nonneg _ (by omega), Int.tmod_lt_of_pos _ (by omega)⟩
  have hwr : IntKind.i64.wrap (S.tmod N + N) = S.tmod N + N := wrapI64 (by omega)
  have hwn : IntKind.i64.wrap (N - 1) = N - 1 := wrapI64 (by omega)
  have nz1 : N ≠ 0 := by omega
  have nz2 : (N == 0) = false := by simp; omega
  have nz3 : ¬ N = 0 := by omega
  have KW := (fun W => l02NewV_any b ds.length ((S.tmod N + N).tmod N) W b1 b2 (by omega) hm2.1 (by omega))
  rw [← hsd] at KW
  obtain ⟨es, hes⟩ : ∃ es, shiftD b ds x = es := ⟨_, rfl⟩
  rw [hes] at KW ⊢
  obtain ⟨bell, hbl⟩ : ∃ e, shiftB b ds x = e := ⟨_, rfl⟩
  have HSB := Lib.hid (show (!betB S 0 (N - 1)) = bell by
    rw [← hbl, hsb]
    rcases hb : betB S 0 (N - 1) with _ | _
    · have := betB_false.1 hb
      simp; omega
    · have := betB_iff.1 hb
      simp; omega)
  rw [hbl]
  have KI := Lib.hid (fun W => l00In_any S 0 (N - 1) W)
  have KN := Lib.hid KN
  have KV := Lib.hid KV
  have KW := Lib.hid KW
  have hSe : IntKind.i64.wrap (V + x) = S := by rw [hS]; exact wrapI64 (by omega)
  have HSE := Lib.hid hS
  have hV2 : -9223372036854775808 ≤ V + x ∧ V + x ≤ 9223372036854775807 := by omega
  have HP := Lib.hid (fun W (hW : Below w.heap.size w W) => hp.below hW)
  clear hsd hsb hes hbl hr hv hd hl hpc hN hV hS hp hSe
  go_enter Try.func218, Try.ntmps218
  go_wp2_with (first
    | (refine wpList.kn ((Kn.nil w).al [.int .i64 0, .slice none 0 0] 26) ?_; intro w2 hK2; obtain ⟨x1, x2⟩ := HP.out _ hK2.below)
    | (go_at_call 120; refine (KN.out _).mono ?_; rintro e w' ⟨rfl, rfl⟩))
  go_quiet ((go_at_call 124; exact quiet_left (KV.out _ (hK2.drewN _).below)))
  clear x1 x2
  have hK3 := hK2.drewN nq
  generalize w2.drewN nq = w3 at hK3 ⊢
  rw [HSE.out]
  have hq := HP.out _ hK3.drew.below
  have HG := Lib.hid (show _ ∧ _ from hq)
  have hq0 := HP.out _ (hK3.al [.int .i64 0, .slice none 0 0] 26).drew.below
  have HA := Lib.hid (show _ ∧ _ from hq0)
  have HS := HG
  clear hq hq0
  go_wp2_with fail
  go_cut [9] (fun pp wx => ∃ (g : Nat) (A' : Option Addr) (c' : Nat), pp = .pointer (some ⟨g, 0, none⟩) ∧ Kn w [.blk g [.int .i64 b, .slice A' es.length c'] 26, rowI A' c' es, .blk w.heap.size [.int .i64 0, .slice none 0 0] 26] wx)
  case first =>
    go_region_held3 (fun W => W.cell? p = some (.int .i64 b) ∧ W.cell? ⟨p.block, p.off + 1, none⟩ = some (.slice A ds.length c))
      (first | with_reducible exact HG.out | with_reducible exact HA.out | with_reducible exact HS.out | exact HG.out | exact HA.out | exact HS.out) (first
      | (go_at_call 93; (with_reducible refine (KW.out _).mono ?_); rintro e w4 ⟨A', c', rfl, hK⟩; clear HG HA; first
        | (have hK4 := hK3.drew.join hK; have hq := HP.out _ hK4.below; have HG := Lib.hid (show _ ∧ _ from hq); have hq1 := HP.out _ (hK4.al [.int .i64 0, .slice none 0 0] 26).below; have HA := Lib.hid (show _ ∧ _ from hq1); have hK5 := hK4.al [.int .i64 b, .slice A' es.length c'] 26; have hq2 := HP.out _ hK5.below; have HS := Lib.hid (show _ ∧ _ from hq2))
        | (have hK4 := (hK3.al [.int .i64 0, .slice none 0 0] 26).drew.join hK; have hq := HP.out _ hK4.below; have HG := Lib.hid (show _ ∧ _ from hq); obtain ⟨g1, f1, l1⟩ := hK4.drop.blkAt; have HA := HG; have hK5 := (hK4.sw1.st 0 (.int .i64 b)).st 1 (.slice A' es.length c'); have hq2 := HP.out _ hK5.below; have HS := Lib.hid (show _ ∧ _ from hq2))))
    all_goals
      go_wp2_with fail
      go_meet
      exact ⟨_, _, _, rfl, hK5⟩
  case rest =>
    obtain ⟨g, A', c', rfl, hK5⟩ := hcut
    clear HG HA HS KN KV KW hK2 hK3
    obtain ⟨a1, a2, a3, d1, d2, d3, -⟩ := hK5.cells
    go_wp2_with fail
    have HG := Lib.hid (box2 hK5.drew)
    have hK6 := ((hK5.sw2.st 0 (.int .i64 b)).st 1 (.slice A' es.length c')).drew
    have HS := Lib.hid (box2 hK6.drop)
    go_region_held3 (fun W => W.cell? ⟨g, 0, none⟩ = some (.int .i64 b) ∧ W.cell? ⟨g, 1, none⟩ = some (.slice A' es.length c'))
      (first | with_reducible exact HG.out | with_reducible exact HS.out | exact HG.out) (first
      | (go_at_call 107; (with_reducible refine (KI.out _).mono ?_); rintro e w7 ⟨rfl, rfl⟩))
    all_goals
      go_wp2_with fail
      refine bodyPost_ret (v := .tuple #[.agg #[.int .i64 b, .slice A' es.length c'], .bool bell]) (by simp [results, Try.results218, go_sem, d1]; first | exact HSB.out | (have := HSB.out; simp_all)) rfl ⟨A', c', rfl, ?_⟩
      exact hK6.drop.drop
end Go.Proofs.Ytkaaiocbiknipaa

namespace Go.Proofs.Ytkaaiocbiknipaa
open Go.RowKit Go.Sort
theorem strokeT_cs (k : Int) (t : Tri) : (strokeT k t).1.s.base = t.s.base ∧ (strokeT k t).1.s.digits.length = t.s.digits.length := by
  unfold strokeT turnT
  repeat' split
  all_goals simp [shiftD_len, digD_len]
theorem Ev.cs {L : List Ins} {t : Task} {s s' : RS} {b : Bool} (h : Ev L t s s' b) : s'.m.s.base = s.m.s.base ∧ s'.m.s.digits.length = s.m.s.digits.length := by
  induction h with
  | s0 => exact ⟨rfl, rfl⟩
  | sFull h => exact ⟨rfl, rfl⟩
  | @sStep kind n s s' b h he ih => have := strokeT_cs kind s.m; exact ⟨ih.1.trans this.1, ih.2.trans this.2⟩
  | rEnd h => exact ⟨rfl, rfl⟩
  | rCode hi h => exact ⟨rfl, rfl⟩
  | rSetFull hi hl hc ho h => exact ⟨rfl, rfl⟩
  | rSetBad hi hl hc ho h hf => exact ⟨rfl, rfl⟩
  | rSet hi hl hc ho h hf he ih => exact ih
  | rLoop hi hl hc ho hm h1 he ih1 ih2 => exact ⟨ih2.1.trans ih1.1, ih2.2.trans ih1.2⟩
  | rStr hi hl hc ho h1' h1 he ih1 ih2 => exact ⟨ih2.1.trans ih1.1, ih2.2.trans ih1.2⟩
  | lEnd h8 hk => exact ⟨rfl, rfl⟩
  | lFull h8 h => exact ⟨rfl, rfl⟩
  | lOut h8 h h1 ho ih => exact ih
  | lStep h8 h h1 ho he ih1 ih2 => exact ⟨ih2.1.trans ih1.1, ih2.2.trans ih1.2⟩
theorem sameR_comm (r s : Reg) : sameR r s = sameR s r := by
  unfold sameR
  have h1 : (r.base == s.base) = (s.base == r.base) := by
    rw [Bool.eq_iff_iff]; simp only [beq_iff_eq]; exact eq_comm
  have h2 : decide (r.digits = s.digits) = decide (s.digits = r.digits) := decide_eq_decide.2 eq_comm
  rw [h1, h2]
/-- the kinds of promises -/
def isP (kind arg : Int) : Bool := if kind = 1 then betB arg (-1000) 1000 else betB kind 1 4 && decide (arg = 0)
def kpAfter (t s : Tri) (kind arg : Int) : Bool :=
  if kind = 1 then sameR s.b ⟨t.b.base, shiftD t.b.base t.b.digits (arg * valL t.a.base t.a.digits)⟩ && sameR s.a t.a
  else if kind = 2 then (valL s.b.base s.b.digits == (valL t.b.base t.b.digits).tmod (valL t.a.base t.a.digits)) && ((pw t.s.base t.s.digits.length - valL s.s.base s.s.digits).tmod (pw t.s.base t.s.digits.length) == (valL t.b.base t.b.digits).tdiv (valL t.a.base t.a.digits))
  else if kind = 3 then sameR s.b t.b && sameR s.a t.a
  else (valL s.b.base s.b.digits == 0) && (valL s.s.base s.s.digits == 0)
noncomputable def kpB (L : List Ins) (t : Tri) (kind arg : Int) : Bool :=
  if kind = 2 ∧ valL t.a.base t.a.digits = 0 then true else if (endR L t).code = 0 then kpAfter t (endR L t).m kind arg else false
theorem kp_zero {L : List Ins} {t : Tri} {arg : Int} (h : valL t.a.base t.a.digits = 0) : kpB L t 2 arg = true := by unfold kpB; rw [if_pos ⟨rfl, h⟩]
theorem kp_code {L : List Ins} {t : Tri} {kind arg : Int} {s : RS} {b : Bool} (hn : ¬ (kind = 2 ∧ valL t.a.base t.a.digits = 0)) (he : Ev L (.run 0 L.length) (startR t) s b) (hc : ¬ s.code = 0) : kpB L t kind arg = false := by
  unfold kpB; rw [if_neg hn, endR_eq he, if_neg hc]
theorem kp_fine {L : List Ins} {t : Tri} {kind arg : Int} {s : RS} {b : Bool} (hn : ¬ (kind = 2 ∧ valL t.a.base t.a.digits = 0)) (he : Ev L (.run 0 L.length) (startR t) s b) (hc : s.code = 0) : kpB L t kind arg = kpAfter t s.m kind arg := by
  unfold kpB; rw [if_neg hn, endR_eq he, if_pos hc]
theorem l14Kind_any (n : Int) (w : World) : Calls Try.prog 196 #[.int .i64 n] w fun e w' => e = .returned (.bool (betB n 1 4)) ∧ w = w' := by
  go_enter Try.func196, Try.ntmps196
  go_wp2_with (go_at_call 107; refine (l00In_any _ _ _ _).mono ?_; rintro e w' ⟨rfl, rfl⟩)
  go_ret
  exact ⟨rfl, rfl⟩
theorem isPromise_any (kind arg : Int) (w : World) : Calls Try.prog 150 #[.int .i64 kind, .int .i64 arg] w fun e w' => e = .returned (.bool (isP kind arg)) ∧ w = w' := by
  by_cases h : kind = 1
  · subst h
    go_enter Try.func150, Try.ntmps150
    go_wp2_with (go_at_call 81; refine (between_any _ _ _ _).mono ?_; rintro e w' ⟨rfl, rfl⟩; try rw [hd'.out])
    go_ret
    exact ⟨rfl, rfl⟩
  · have hk : (kind == 1) = false := by simpa using h
    have HF := Lib.hid (show isP kind arg = (betB kind 1 4 && decide (arg = 0)) by unfold isP; rw [if_neg h])
    rcases hb : betB kind 1 4 with _ | _
    · have HF2 : Hid (isP kind arg = false) := by rw [Hid, HF.out, hb]; rfl
      have hd' := Lib.hid hb; clear hb
      go_enter Try.func150, Try.ntmps150
      go_wp2_with (go_at_call 81; refine (between_any _ _ _ _).mono ?_; rintro e w' ⟨rfl, rfl⟩; try rw [hd'.out])
      go_ret
      exact ⟨ret_bool HF2.out.symm, rfl⟩
    · by_cases ha : arg = 0
      · have HF2 : Hid (isP kind arg = true) := by rw [Hid, HF.out, hb, ha]; rfl
        have hd' := Lib.hid hb; clear hb
        subst ha
        go_enter Try.func150, Try.ntmps150
        go_wp2_with (go_at_call 81; refine (between_any _ _ _ _).mono ?_; rintro e w' ⟨rfl, rfl⟩; try rw [hd'.out])
        go_ret
        exact ⟨ret_bool HF2.out.symm, rfl⟩
      · have HF2 : Hid (isP kind arg = false) := by rw [Hid, HF.out, hb]; simpa using ha
        have hd' := Lib.hid hb; clear hb
        have ha2 : (arg == 0) = false := by simpa using ha
        go_enter Try.func150, Try.ntmps150
        go_wp2_with (go_at_call 81; refine (between_any _ _ _ _).mono ?_; rintro e w' ⟨rfl, rfl⟩; try rw [hd'.out])
        go_ret
        exact ⟨ret_bool HF2.out.symm, rfl⟩
theorem l14Arg_any (kind arg : Int) (w : World) : Calls Try.prog 148 #[.int .i64 kind, .int .i64 arg] w fun e w' => e = .returned (.bool (isP kind arg)) ∧ w = w' := by
  by_cases h : kind = 1
  · subst h
    go_enter Try.func148, Try.ntmps148
    go_wp2_with (first | (go_at_call 107; refine (l00In_any _ _ _ _).mono ?_; rintro e w' ⟨rfl, rfl⟩; try rw [hd'.out]) | (go_at_call 196; refine (l14Kind_any _ _).mono ?_; rintro e w' ⟨rfl, rfl⟩; try rw [hd'.out]))
    go_ret
    exact ⟨rfl, rfl⟩
  · have hk : (kind == 1) = false := by simpa using h
    have HF := Lib.hid (show isP kind arg = (betB kind 1 4 && decide (arg = 0)) by unfold isP; rw [if_neg h])
    rcases hb : betB kind 1 4 with _ | _
    · have HF2 : Hid (isP kind arg = false) := by rw [Hid, HF.out, hb]; rfl
      have hd' := Lib.hid hb; clear hb
      go_enter Try.func148, Try.ntmps148
      go_wp2_with (first | (go_at_call 107; refine (l00In_any _ _ _ _).mono ?_; rintro e w' ⟨rfl, rfl⟩; try rw [hd'.out]) | (go_at_call 196; refine (l14Kind_any _ _).mono ?_; rintro e w' ⟨rfl, rfl⟩; try rw [hd'.out]))
      go_ret
      exact ⟨ret_bool HF2.out.symm, rfl⟩
    · by_cases ha : arg = 0
      · have HF2 : Hid (isP kind arg = true) := by rw [Hid, HF.out, hb, ha]; rfl
        have hd' := Lib.hid hb; clear hb
        subst ha
        go_enter Try.func148, Try.ntmps148
        go_wp2_with (first | (go_at_call 107; refine (l00In_any _ _ _ _).mono ?_; rintro e w' ⟨rfl, rfl⟩; try rw [hd'.out]) | (go_at_call 196; refine (l14Kind_any _ _).mono ?_; rintro e w' ⟨rfl, rfl⟩; try rw [hd'.out]))
        go_ret
        exact ⟨ret_bool HF2.out.symm, rfl⟩
      · have HF2 : Hid (isP kind arg = false) := by rw [Hid, HF.out, hb]; simpa using ha
        have hd' := Lib.hid hb; clear hb
        have ha2 : (arg == 0) = false := by simpa using ha
        go_enter Try.func148, Try.ntmps148
        go_wp2_with (first | (go_at_call 107; refine (l00In_any _ _ _ _).mono ?_; rintro e w' ⟨rfl, rfl⟩; try rw [hd'.out]) | (go_at_call 196; refine (l14Kind_any _ _).mono ?_; rintro e w' ⟨rfl, rfl⟩; try rw [hd'.out]))
        go_ret
        exact ⟨ret_bool HF2.out.symm, rfl⟩
theorem l14Value_any (p : Addr) (b : Int) (A : Option Addr) (n c : Nat) (ds : List Int) (w : World) (hp : RegAt w p b A n c) (hb1 : 2 ≤ b) (hb2 : b ≤ 16) (hd : ∀ d ∈ ds, 0 ≤ d ∧ d < b) (hr : RI w A n ds) (hn : n ≤ 16) :
    Calls Try.prog 197 #[.pointer (some p)] w fun e w' => e = .returned (.int .i64 (valL b ds)) ∧ ∃ q, w' = w.drewN q := by
  obtain ⟨q1, q2⟩ := hp
  have KP := Lib.hid (fun (m : Nat) => l02Value_any b A n c ds (w.drewN m) hb1 hb2 hd (hr.below (below_drewN (Below.refl _ _) m)) hn)
  go_enter Try.func197, Try.ntmps197
  go_wp2_with fail
  go_quiet ((go_at_call 124; exact quiet_left (KP.out _)))
  go_wp2
  go_ret
  exact ⟨rfl, _, rfl⟩
theorem isP_kinds {kind arg : Int} (h : isP kind arg = true) : (kind = 1 ∧ -1000 ≤ arg ∧ arg ≤ 1000) ∨ kind = 2 ∨ kind = 3 ∨ kind = 4 := by
  unfold isP at h
  split at h
  · exact Or.inl ⟨by assumption, betB_iff.1 h⟩
  · rw [Bool.and_eq_true] at h
    have := betB_iff.1 h.1
    omega
end Go.Proofs.Ytkaaiocbiknipaa

namespace Go.Proofs.Ytkaaiocbiknipaa
open Go.RowKit Go.Sort
set_option maxRecDepth 100000 in
set_option maxHeartbeats 6400000 in
theorem keeps_any {L : List Ins} {n lc : Nat} {LA : Option Addr} (t : Tri) (A1 A2 A3 : Option Addr) (c1 c2 c3 : Nat) (kind arg : Int) (w : World) (r1 : RI w A1 t.a.digits.length t.a.digits) (r2 : RI w A2 t.b.digits.length t.b.digits) (r3 : RI w A3 t.s.digits.length t.s.digits) (hv : vmach t = true) (hp : vprog L = true) (hr : RL InsM 2 w LA n L) (hk : isP kind arg = true) :
    Calls Try.prog 151 #[.agg #[.int .i64 t.a.base, .slice A1 t.a.digits.length c1, .int .i64 t.b.base, .slice A2 t.b.digits.length c2, .int .i64 t.s.base, .slice A3 t.s.digits.length c3, .int .i64 t.carry], .slice LA n lc, .int .i64 kind, .int .i64 arg] w fun e w' => e = .returned (.bool (kpB L t kind arg)) ∧ Below w.heap.size w w' := by
  obtain ⟨k1, k2, k3, e1, e2, f1, f2, l1, p0, p1⟩ := vmach_all hv
  obtain ⟨⟨b1, b2⟩, ⟨n1, n2⟩, yd1, yl1⟩ := vreg_iff.1 k1
  obtain ⟨⟨b3, b4⟩, ⟨n3, n4⟩, yd2, yl2⟩ := vreg_iff.1 k2
  obtain ⟨⟨b5, b6⟩, ⟨n5, n6⟩, yd3, yl3⟩ := vreg_iff.1 k3
  have hva := (valL_bd t.a.base b1 t.a.digits (fun d h => (yd1 d h).1)).1
  have hvb := (valL_bd t.b.base b3 t.b.digits (fun d h => (yd2 d h).1)).1
  have KVA := (fun W (hW : Below w.heap.size w W) => value_any t.a.base A1 t.a.digits.length c1 t.a.digits W b1 b2 yd1 (r1.below hW) n2)
  have KVB := (fun W (hW : Below w.heap.size w W) => value_any t.b.base A2 t.b.digits.length c2 t.b.digits W b3 b4 yd2 (r2.below hW) n4)
  have KRP := (fun W (hW : Below w.heap.size w W) => runProgram_any (lc := lc) t A1 A2 A3 c1 c2 c3 W (r1.below hW) (r2.below hW) (r3.below hW) hv hp (hr.below steady_InsM hW))
  unfold RunPI at KRP
  have KN3 := (fun (A3 : Option Addr) (c3 : Nat) W => values_any t.s.base A3 t.s.digits.length c3 W b5 b6 (by omega))
  have hp3 : powC t.s.base t.s.digits.length = pw t.s.base t.s.digits.length := by unfold powC; rw [if_pos f2]
  rw [hp3] at KN3
  have p3 := pw_pos t.s.base b5 t.s.digits.length
  have HR1 := Lib.hid (fun W (hW : Below w.heap.size w W) => r1.below hW)
  have HR2 := Lib.hid (fun W (hW : Below w.heap.size w W) => r2.below hW)
  have kk : kind = 1 ∧ -1000 ≤ arg ∧ arg ≤ 1000 ∨ kind = 2 ∧ valL t.a.base t.a.digits = 0 ∨ kind = 2 ∧ ¬ valL t.a.base t.a.digits = 0 ∨ kind = 3 ∨ kind = 4 := by
    rcases isP_kinds hk with h | h | h | h
    · exact Or.inl h
    · by_cases h0 : valL t.a.base t.a.digits = 0
      · exact Or.inr (Or.inl ⟨h, h0⟩)
      · exact Or.inr (Or.inr (Or.inl ⟨h, h0⟩))
    · exact Or.inr (Or.inr (Or.inr (Or.inl h)))
    · exact Or.inr (Or.inr (Or.inr (Or.inr h)))
  have hs1 : SmallReg t.a := by unfold SmallReg; omega
  have hs2 : SmallReg t.b := by unfold SmallReg; omega
  have hmsz := fun (s : RS) (hg : s.Good) => sized_of hg.m
  rcases kk with ⟨rfl, x1, x2⟩ | ⟨rfl, h0⟩ | ⟨rfl, h0⟩ | rfl | rfl
  · -- times
    have HKC := Lib.hid (fun (s : RS) (b : Bool) he hc => kp_code (L := L) (t := t) (kind := 1) (arg := arg) (s := s) (b := b) (by omega) he hc)
    have HKF := Lib.hid (fun (s : RS) (b : Bool) he hc => kp_fine (L := L) (t := t) (kind := 1) (arg := arg) (s := s) (b := b) (by omega) he hc)
    have hxb : -2000000000000000 ≤ arg * valL t.a.base t.a.digits ∧ arg * valL t.a.base t.a.digits ≤ 2000000000000000 := by
      have h1 : arg * valL t.a.base t.a.digits ≤ 1000 * valL t.a.base t.a.digits := Int.mul_le_mul_of_nonneg_right x2 hva
      have h2 : -1000 * valL t.a.base t.a.digits ≤ arg * valL t.a.base t.a.digits := Int.mul_le_mul_of_nonneg_right x1 hva
      omega
    have KSH := (fun W (hW : Below w.heap.size w W) => shiftedW_any t.b.base A2 c2 t.b.digits (arg * valL t.a.base t.a.digits) W (r2.below hW) k2 f1 hxb.1 hxb.2)
    have hsl := shiftD_len t.b.base t.b.digits (arg * valL t.a.base t.a.digits)
    have HKD := Lib.hid (fun (s : Tri) => show kpAfter t s 1 arg = (sameR s.b ⟨t.b.base, shiftD t.b.base t.b.digits (arg * valL t.a.base t.a.digits)⟩ && sameR s.a t.a) from rfl)
    obtain ⟨VA, hVA⟩ : ∃ v, valL t.a.base t.a.digits = v := ⟨_, rfl⟩
    obtain ⟨VB, hVB⟩ : ∃ v, valL t.b.base t.b.digits = v := ⟨_, rfl⟩
    rw [hVA] at KVA KSH hxb hva hsl
    rw [hVB] at KVB hvb
    have HKD := HKD.out
    rw [hVA] at HKD
    obtain ⟨XX, hXX⟩ : ∃ v, arg * VA = v := ⟨_, rfl⟩
    rw [hXX] at KSH hxb hsl HKD
    have hxw : -9223372036854775808 ≤ arg * VA ∧ arg * VA ≤ 9223372036854775807 := by rw [hXX]; omega
    have HXX := Lib.hid hXX
    obtain ⟨SH, hSH⟩ : ∃ v, shiftD t.b.base t.b.digits XX = v := ⟨_, rfl⟩
    rw [hSH] at KSH hsl HKD
    obtain ⟨SB, hSB⟩ : ∃ v, shiftB t.b.base t.b.digits XX = v := ⟨_, rfl⟩
    rw [hSB] at KSH
    have hs3 : SmallReg ⟨t.b.base, SH⟩ := by unfold SmallReg; simp only; omega
    have KE1 := (fun (s : Tri) (h1 : SmallReg s.b) (B D : Option Addr) (c d : Nat) W q1 q2 => SameRegister_any s.b ⟨t.b.base, SH⟩ B D c d W q1 q2 h1 hs3)
    have KE2 := (fun (s : Tri) (h1 : SmallReg s.a) (B : Option Addr) (c : Nat) W q1 q2 => SameRegister_any s.a t.a B A1 c c1 W q1 q2 h1 hs1)
    dsimp only at KE1
    have HKD := Lib.hid HKD
    have KVA := Lib.hid KVA
    have KVB := Lib.hid KVB
    have KRP := Lib.hid KRP
    have KSH := Lib.hid KSH
    have KE1 := Lib.hid KE1
    have KE2 := Lib.hid KE2
    clear r1 r2 r3 hr hv hp hk k1 k2 k3 e1 e2 l1 p0 p1 yd1 yd2 yd3 hVA hVB hXX hSH hSB hsl hs2 KN3 hp3
    go_enter Try.func151, Try.ntmps151
    go_wp2_with fail
    have hK1 := (Kn.nil w).al [.int .i64 t.a.base, .slice A1 t.a.digits.length c1, .int .i64 t.b.base, .slice A2 t.b.digits.length c2, .int .i64 t.s.base, .slice A3 t.s.digits.length c3, .int .i64 t.carry] 65
    generalize w.alloc (.cells #[.int .i64 t.a.base, .slice A1 t.a.digits.length c1, .int .i64 t.b.base, .slice A2 t.b.digits.length c2, .int .i64 t.s.base, .slice A3 t.s.digits.length c3, .int .i64 t.carry] 65) = w1 at hK1 ⊢
    have HG := Lib.hid (box7 hK1.drew)
    go_cut [9, 10] (fun pp oo wx => pp = .int .i64 VA ∧ oo = .int .i64 VB ∧ Kn w [.blk w.heap.size [.int .i64 t.a.base, .slice A1 t.a.digits.length c1, .int .i64 t.b.base, .slice A2 t.b.digits.length c2, .int .i64 t.s.base, .slice A3 t.s.digits.length c3, .int .i64 t.carry] 65] wx)
    case first =>
      go_region_held3 (fun W => W.cell? ⟨w.heap.size, 0, none⟩ = some (.int .i64 t.a.base) ∧ W.cell? ⟨w.heap.size, 1, none⟩ = some (.slice A1 t.a.digits.length c1) ∧ W.cell? ⟨w.heap.size, 2, none⟩ = some (.int .i64 t.b.base) ∧ W.cell? ⟨w.heap.size, 3, none⟩ = some (.slice A2 t.b.digits.length c2) ∧ W.cell? ⟨w.heap.size, 4, none⟩ = some (.int .i64 t.s.base) ∧ W.cell? ⟨w.heap.size, 5, none⟩ = some (.slice A3 t.s.digits.length c3) ∧ W.cell? ⟨w.heap.size, 6, none⟩ = some (.int .i64 t.carry)) (first | with_reducible exact HG.out | exact HG.out) (first
        | (go_at_call 135; (with_reducible refine (KVA.out _ hK1.drew.below).mono ?_); rintro e w3 ⟨rfl, hw3⟩; have hK3 := hK1.drew.keep hw3; clear HG; have HG := Lib.hid (box7 hK3))
        | (go_at_call 135; (with_reducible refine (KVB.out _ hK3.below).mono ?_); rintro e w4 ⟨rfl, hw4⟩; have hK4 := hK3.keep hw4; clear HG; have HG := Lib.hid (box7 hK4)))
      all_goals
        go_wp2_with fail
        go_meet
        exact ⟨rfl, rfl, hK4⟩
    case rest =>
      obtain ⟨rfl, rfl, hK2⟩ := hcut
      clear HG hK1
      obtain ⟨a1, a2, a3, -⟩ := hK2.cells
      go_wp2_with fail
      refine (KRP.out _ hK2.below).mono ?_; rintro e w5 ⟨g, s, b', rfl, he, ⟨SA, sc, M1, j1, M2, j2, M3, j3, hKr⟩, hg⟩
      have hK5 : Kn w [.blk g [.int .i64 s.m.a.base, .slice M1 s.m.a.digits.length j1, .int .i64 s.m.b.base, .slice M2 s.m.b.digits.length j2, .int .i64 s.m.s.base, .slice M3 s.m.s.digits.length j3, .int .i64 s.m.carry, .slice LA n lc, .int .i64 (s.done : Int), .slice SA s.tr.length sc, .int .i64 s.code] 153, rowI M3 j3 s.m.s.digits, rowI M2 j2 s.m.b.digits, rowI M1 j1 s.m.a.digits, .blk w.heap.size [.int .i64 t.a.base, .slice A1 t.a.digits.length c1, .int .i64 t.b.base, .slice A2 t.b.digits.length c2, .int .i64 t.s.base, .slice A3 t.s.digits.length c3, .int .i64 t.carry] 65] w5 := (hK2.join hKr).sel [0, 1, 2, 3, 5] 99 (by decide) (by decide)
      clear hK2 hKr a1 a2 a3
      obtain ⟨d1, d2, d3, a1, a2, a3, -⟩ := hK5.cells
      rcases hc0 : (s.code == 0) with _ | _
      · have hcn : ¬ s.code = 0 := by simpa using hc0
        have hcb : (s.code != 0) = true := by simpa using hc0
        have HB := Lib.hid (HKC.out s b' he hcn)
        clear hc0 hcn he hg
        go_wp2_with fail
        go_ret
        exact ⟨ret_bool HB.out.symm, hK5.below⟩
      have hcn : s.code = 0 := by simpa using hc0
      have hcb : (s.code != 0) = false := by simpa using hc0
      have HB := HKF.out s b' he hcn
      have hcs := he.cs
      unfold startR at hcs
      simp only [] at hcs
      have HCS := Lib.hid hcs
      clear hcs
      clear hc0 hcn he
      rw [HKD.out] at HB
      have hz := hmsz s hg
      have hz1 : SmallReg s.m.a := by unfold SmallReg; have := hz.a; omega
      have hz2 : SmallReg s.m.b := by unfold SmallReg; have := hz.b; omega
      go_wp2_with fail
      refine Calls.kn (hK5.al [.int .i64 s.m.a.base, .slice M1 s.m.a.digits.length j1, .int .i64 s.m.b.base, .slice M2 s.m.b.digits.length j2, .int .i64 s.m.s.base, .slice M3 s.m.s.digits.length j3, .int .i64 s.m.carry] 65) ?_; intro w6 hK6r
      have hK6 : Kn w [.blk w5.heap.size [.int .i64 s.m.a.base, .slice M1 s.m.a.digits.length j1, .int .i64 s.m.b.base, .slice M2 s.m.b.digits.length j2, .int .i64 s.m.s.base, .slice M3 s.m.s.digits.length j3, .int .i64 s.m.carry] 65, rowI M3 j3 s.m.s.digits, rowI M2 j2 s.m.b.digits, rowI M1 j1 s.m.a.digits, .blk w.heap.size [.int .i64 t.a.base, .slice A1 t.a.digits.length c1, .int .i64 t.b.base, .slice A2 t.b.digits.length c2, .int .i64 t.s.base, .slice A3 t.s.digits.length c3, .int .i64 t.carry] 65] w6 := hK6r.sel [0, 2, 3, 4, 5] 99 (by decide) (by decide)
      clear hK6r hK5 d1 d2 d3 a1 a2 a3
      rw [HXX.out]
      refine (KSH.out _ hK6.below).mono ?_; rintro e w7 ⟨X, x, rfl, hKx⟩
      have hK7 := hK6.join hKx
      clear hK6 hKx
      obtain ⟨d1, d2, d3, a1, a2, a3, -⟩ := hK7.cells
      go_wp2_with fail
      refine Calls.kn (hK7.al [.int .i64 t.b.base, .slice X SH.length x] 26) ?_; intro w8 hK8
      have KE1 := Lib.hid (KE1.out s.m hz2)
      have KE2 := Lib.hid (KE2.out s.m hz1)
      refine (KE1.out _ _ _ _ _ (Kn.riv (hK8.sel [4] 99 (by decide) (by decide))) (Kn.riv (hK8.sel [1] 99 (by decide) (by decide)))).mono ?_; rintro e w9 ⟨rfl, hw⟩
      have hK9 := hK8.keep hw
      clear hK7 hK8 hw d1 d2 d3 a1 a2 a3
      obtain ⟨f1', f2', f3', d1, d2, d3, a1, a2, a3, -⟩ := hK9.cells
      rcases hq1 : sameR s.m.b ⟨t.b.base, SH⟩ with _ | _
      · have HF := Lib.hid (show kpB L t 1 arg = false by rw [HB, hq1]; rfl)
        go_wp2_with fail
        go_ret
        exact ⟨ret_bool HF.out.symm, hK9.below⟩
      · have HF := Lib.hid (show kpB L t 1 arg = sameR s.m.a t.a by rw [HB, hq1]; rfl)
        go_wp2_with fail
        refine (KE2.out _ _ _ (Kn.riv (hK9.sel [5] 99 (by decide) (by decide))) (HR1.out _ hK9.below)).mono ?_; rintro e w10 ⟨rfl, hw⟩
        have hK10 := hK9.keep hw
        go_wp2_with fail
        go_ret
        exact ⟨ret_bool HF.out.symm, hK10.below⟩
  · -- quotient, setting 0
    have HF := Lib.hid (kp_zero (L := L) (t := t) (arg := arg) h0)
    rw [h0] at KVA
    obtain ⟨VB, hVB⟩ : ∃ v, valL t.b.base t.b.digits = v := ⟨_, rfl⟩
    rw [hVB] at KVB hvb
    obtain ⟨VA, hVA⟩ : ∃ v : Int, 0 = v := ⟨_, rfl⟩
    rw [hVA] at KVA
    have KVA := Lib.hid KVA
    have KVB := Lib.hid KVB
    clear r1 r2 r3 hr hv hp hk k1 k2 k3 e1 e2 l1 p0 p1 yd1 yd2 yd3 hVB hs2 KN3 hp3 KRP
    go_enter Try.func151, Try.ntmps151
    go_wp2_with fail
    have hK1 := (Kn.nil w).al [.int .i64 t.a.base, .slice A1 t.a.digits.length c1, .int .i64 t.b.base, .slice A2 t.b.digits.length c2, .int .i64 t.s.base, .slice A3 t.s.digits.length c3, .int .i64 t.carry] 65
    generalize w.alloc (.cells #[.int .i64 t.a.base, .slice A1 t.a.digits.length c1, .int .i64 t.b.base, .slice A2 t.b.digits.length c2, .int .i64 t.s.base, .slice A3 t.s.digits.length c3, .int .i64 t.carry] 65) = w1 at hK1 ⊢
    have HG := Lib.hid (box7 hK1.drew)
    go_cut [9, 10] (fun pp oo wx => pp = .int .i64 VA ∧ oo = .int .i64 VB ∧ Kn w [.blk w.heap.size [.int .i64 t.a.base, .slice A1 t.a.digits.length c1, .int .i64 t.b.base, .slice A2 t.b.digits.length c2, .int .i64 t.s.base, .slice A3 t.s.digits.length c3, .int .i64 t.carry] 65] wx)
    case first =>
      go_region_held3 (fun W => W.cell? ⟨w.heap.size, 0, none⟩ = some (.int .i64 t.a.base) ∧ W.cell? ⟨w.heap.size, 1, none⟩ = some (.slice A1 t.a.digits.length c1) ∧ W.cell? ⟨w.heap.size, 2, none⟩ = some (.int .i64 t.b.base) ∧ W.cell? ⟨w.heap.size, 3, none⟩ = some (.slice A2 t.b.digits.length c2) ∧ W.cell? ⟨w.heap.size, 4, none⟩ = some (.int .i64 t.s.base) ∧ W.cell? ⟨w.heap.size, 5, none⟩ = some (.slice A3 t.s.digits.length c3) ∧ W.cell? ⟨w.heap.size, 6, none⟩ = some (.int .i64 t.carry)) (first | with_reducible exact HG.out | exact HG.out) (first
        | (go_at_call 135; (with_reducible refine (KVA.out _ hK1.drew.below).mono ?_); rintro e w3 ⟨rfl, hw3⟩; have hK3 := hK1.drew.keep hw3; clear HG; have HG := Lib.hid (box7 hK3))
        | (go_at_call 135; (with_reducible refine (KVB.out _ hK3.below).mono ?_); rintro e w4 ⟨rfl, hw4⟩; have hK4 := hK3.keep hw4; clear HG; have HG := Lib.hid (box7 hK4)))
      all_goals
        go_wp2_with fail
        go_meet
        exact ⟨rfl, rfl, hK4⟩
    case rest =>
      obtain ⟨rfl, rfl, hK2⟩ := hcut
      subst hVA
      go_wp2_with fail
      go_ret
      exact ⟨ret_bool HF.out.symm, hK2.below⟩
  · -- quotient
    have HKC := Lib.hid (fun (s : RS) (b : Bool) he hc => kp_code (L := L) (t := t) (kind := 2) (arg := arg) (s := s) (b := b) (fun h => h0 h.2) he hc)
    have HKF := Lib.hid (fun (s : RS) (b : Bool) he hc => kp_fine (L := L) (t := t) (kind := 2) (arg := arg) (s := s) (b := b) (fun h => h0 h.2) he hc)
    have HKD := (fun (s : Tri) => show kpAfter t s 2 arg = ((valL s.b.base s.b.digits == (valL t.b.base t.b.digits).tmod (valL t.a.base t.a.digits)) && ((pw t.s.base t.s.digits.length - valL s.s.base s.s.digits).tmod (pw t.s.base t.s.digits.length) == (valL t.b.base t.b.digits).tdiv (valL t.a.base t.a.digits))) from rfl)
    have hdv : 0 ≤ (valL t.b.base t.b.digits).tdiv (valL t.a.base t.a.digits) ∧ (valL t.b.base t.b.digits).tdiv (valL t.a.base t.a.digits) ≤ 1000000000001 := by
      rw [Int.tdiv_eq_ediv_of_nonneg hvb]
      have := Int.ediv_le_self (valL t.a.base t.a.digits) hvb
      exact ⟨Int.ediv_nonneg hvb hva, by omega⟩
    obtain ⟨VA, hVA⟩ : ∃ v, valL t.a.base t.a.digits = v := ⟨_, rfl⟩
    obtain ⟨VB, hVB⟩ : ∃ v, valL t.b.base t.b.digits = v := ⟨_, rfl⟩
    rw [hVA] at KVA hva h0
    rw [hVB] at KVB hvb
    simp only [hVA, hVB] at HKD hdv
    have hqw : IntKind.i64.wrap (VB.tdiv VA) = VB.tdiv VA := wrapI64 (by omega)
    have nv1 : VA ≠ 0 := h0
    have nv2 : (VA == 0) = false := by simpa using h0
    have HKD := Lib.hid HKD
    have KVA := Lib.hid KVA
    have KVB := Lib.hid KVB
    have KRP := Lib.hid KRP
    clear r1 r2 r3 hr hv hp hk k1 k2 k3 e1 e2 l1 p0 p1 yd1 yd2 yd3 hVA hVB hs2 KN3 hp3 h0
    go_enter Try.func151, Try.ntmps151
    go_wp2_with fail
    have hK1 := (Kn.nil w).al [.int .i64 t.a.base, .slice A1 t.a.digits.length c1, .int .i64 t.b.base, .slice A2 t.b.digits.length c2, .int .i64 t.s.base, .slice A3 t.s.digits.length c3, .int .i64 t.carry] 65
    generalize w.alloc (.cells #[.int .i64 t.a.base, .slice A1 t.a.digits.length c1, .int .i64 t.b.base, .slice A2 t.b.digits.length c2, .int .i64 t.s.base, .slice A3 t.s.digits.length c3, .int .i64 t.carry] 65) = w1 at hK1 ⊢
    have HG := Lib.hid (box7 hK1.drew)
    go_cut [9, 10] (fun pp oo wx => pp = .int .i64 VA ∧ oo = .int .i64 VB ∧ Kn w [.blk w.heap.size [.int .i64 t.a.base, .slice A1 t.a.digits.length c1, .int .i64 t.b.base, .slice A2 t.b.digits.length c2, .int .i64 t.s.base, .slice A3 t.s.digits.length c3, .int .i64 t.carry] 65] wx)
    case first =>
      go_region_held3 (fun W => W.cell? ⟨w.heap.size, 0, none⟩ = some (.int .i64 t.a.base) ∧ W.cell? ⟨w.heap.size, 1, none⟩ = some (.slice A1 t.a.digits.length c1) ∧ W.cell? ⟨w.heap.size, 2, none⟩ = some (.int .i64 t.b.base) ∧ W.cell? ⟨w.heap.size, 3, none⟩ = some (.slice A2 t.b.digits.length c2) ∧ W.cell? ⟨w.heap.size, 4, none⟩ = some (.int .i64 t.s.base) ∧ W.cell? ⟨w.heap.size, 5, none⟩ = some (.slice A3 t.s.digits.length c3) ∧ W.cell? ⟨w.heap.size, 6, none⟩ = some (.int .i64 t.carry)) (first | with_reducible exact HG.out | exact HG.out) (first
        | (go_at_call 135; (with_reducible refine (KVA.out _ hK1.drew.below).mono ?_); rintro e w3 ⟨rfl, hw3⟩; have hK3 := hK1.drew.keep hw3; clear HG; have HG := Lib.hid (box7 hK3))
        | (go_at_call 135; (with_reducible refine (KVB.out _ hK3.below).mono ?_); rintro e w4 ⟨rfl, hw4⟩; have hK4 := hK3.keep hw4; clear HG; have HG := Lib.hid (box7 hK4)))
      all_goals
        go_wp2_with fail
        go_meet
        exact ⟨rfl, rfl, hK4⟩
    case rest =>
      obtain ⟨rfl, rfl, hK2⟩ := hcut
      clear HG hK1
      obtain ⟨a1, a2, a3, -⟩ := hK2.cells
      go_wp2_with fail
      refine (KRP.out _ hK2.below).mono ?_; rintro e w5 ⟨g, s, b', rfl, he, ⟨SA, sc, M1, j1, M2, j2, M3, j3, hKr⟩, hg⟩
      have hK5 : Kn w [.blk g [.int .i64 s.m.a.base, .slice M1 s.m.a.digits.length j1, .int .i64 s.m.b.base, .slice M2 s.m.b.digits.length j2, .int .i64 s.m.s.base, .slice M3 s.m.s.digits.length j3, .int .i64 s.m.carry, .slice LA n lc, .int .i64 (s.done : Int), .slice SA s.tr.length sc, .int .i64 s.code] 153, rowI M3 j3 s.m.s.digits, rowI M2 j2 s.m.b.digits, rowI M1 j1 s.m.a.digits, .blk w.heap.size [.int .i64 t.a.base, .slice A1 t.a.digits.length c1, .int .i64 t.b.base, .slice A2 t.b.digits.length c2, .int .i64 t.s.base, .slice A3 t.s.digits.length c3, .int .i64 t.carry] 65] w5 := (hK2.join hKr).sel [0, 1, 2, 3, 5] 99 (by decide) (by decide)
      clear hK2 hKr a1 a2 a3
      obtain ⟨d1, d2, d3, a1, a2, a3, -⟩ := hK5.cells
      rcases hc0 : (s.code == 0) with _ | _
      · have hcn : ¬ s.code = 0 := by simpa using hc0
        have hcb : (s.code != 0) = true := by simpa using hc0
        have HB := Lib.hid (HKC.out s b' he hcn)
        clear hc0 hcn he hg
        go_wp2_with fail
        go_ret
        exact ⟨ret_bool HB.out.symm, hK5.below⟩
      have hcn : s.code = 0 := by simpa using hc0
      have hcb : (s.code != 0) = false := by simpa using hc0
      have HB := HKF.out s b' he hcn
      have hcs := he.cs
      unfold startR at hcs
      simp only [] at hcs
      have HCS := Lib.hid hcs
      clear hcs
      clear hc0 hcn he
      rw [HKD.out] at HB
      obtain ⟨k1, k2, k3, -, -, g1', g2', -⟩ := vmach_all hg.m
      obtain ⟨⟨y3, y4⟩, ⟨z3, z4⟩, yd2, -⟩ := vreg_iff.1 k2
      obtain ⟨⟨y5, y6⟩, ⟨z5, z6⟩, yd3, -⟩ := vreg_iff.1 k3
      have hv3 := (valL_bd s.m.s.base y5 s.m.s.digits (fun d h => (yd3 d h).1)).1
      have hv3' := valL_lt s.m.s.base y5 s.m.s.digits yd3
      rw [← HCS.out.1, ← HCS.out.2] at HB
      have KVC := (fun W (h : RI W M3 s.m.s.digits.length s.m.s.digits) => value_any s.m.s.base M3 s.m.s.digits.length j3 s.m.s.digits W y5 y6 yd3 h (by omega))
      have KVR := (fun W (h : RI W M2 s.m.b.digits.length s.m.b.digits) => value_any s.m.b.base M2 s.m.b.digits.length j2 s.m.b.digits W y3 y4 yd2 h (by omega))
      have KN := (fun W => values_any s.m.s.base M3 s.m.s.digits.length j3 W y5 y6 (by omega))
      have hp3 : powC s.m.s.base s.m.s.digits.length = pw s.m.s.base s.m.s.digits.length := by unfold powC; rw [if_pos g2']
      rw [hp3] at KN
      have p4 := pw_pos s.m.s.base y5 s.m.s.digits.length
      obtain ⟨VC, hVC⟩ : ∃ v, valL s.m.s.base s.m.s.digits = v := ⟨_, rfl⟩
      obtain ⟨VR, hVR⟩ : ∃ v, valL s.m.b.base s.m.b.digits = v := ⟨_, rfl⟩
      obtain ⟨N, hN⟩ : ∃ v, pw s.m.s.base s.m.s.digits.length = v := ⟨_, rfl⟩
      rw [hVC, hVR, hN] at HB
      rw [hVC] at KVC hv3 hv3'
      rw [hVR] at KVR
      rw [hN] at KN hv3' p4 g2'
      have HB := Lib.hid HB
      have KVC := Lib.hid KVC
      have KVR := Lib.hid KVR
      have KN := Lib.hid KN
      have nz1 : N ≠ 0 := by omega
      have nz2 : (N == 0) = false := by simp; omega
      have hwq := wrapI64 (n := N - VC) (by omega)
      clear k1 k2 k3 hVC hVR hN y3 y4 y5 y6 yd2 yd3 hg g1' hp3 z3 z4 z5 z6
      go_wp2_with fail
      refine Calls.kn (hK5.al [.int .i64 s.m.a.base, .slice M1 s.m.a.digits.length j1, .int .i64 s.m.b.base, .slice M2 s.m.b.digits.length j2, .int .i64 s.m.s.base, .slice M3 s.m.s.digits.length j3, .int .i64 s.m.carry] 65) ?_; intro w6 hK6r
      have hK6 : Kn w [.blk w5.heap.size [.int .i64 s.m.a.base, .slice M1 s.m.a.digits.length j1, .int .i64 s.m.b.base, .slice M2 s.m.b.digits.length j2, .int .i64 s.m.s.base, .slice M3 s.m.s.digits.length j3, .int .i64 s.m.carry] 65, rowI M3 j3 s.m.s.digits, rowI M2 j2 s.m.b.digits, rowI M1 j1 s.m.a.digits, .blk w.heap.size [.int .i64 t.a.base, .slice A1 t.a.digits.length c1, .int .i64 t.b.base, .slice A2 t.b.digits.length c2, .int .i64 t.s.base, .slice A3 t.s.digits.length c3, .int .i64 t.carry] 65] w6 := hK6r.sel [0, 2, 3, 4, 5] 99 (by decide) (by decide)
      clear hK6r hK5 d1 d2 d3 a1 a2 a3
      refine (KN.out _).mono ?_; rintro e w7 ⟨rfl, hw⟩
      have hK7 := hK6.keep hw
      clear hK6 hw
      obtain ⟨a1, a2, a3, d1, d2, d3, -⟩ := hK7.cells
      have HG := Lib.hid (box7 hK7.drew)
      rcases hq1 : (VR == VB.tmod VA) with _ | _
      · have HF := Lib.hid (show kpB L t 2 arg = false by rw [HB.out, hq1]; rfl)
        have hd1 : decide (VR = VB.tmod VA) = false := by simpa using hq1
        go_wp2_with fail
        refine wp_region_held_drew (S := (fun W => W.cell? ⟨w5.heap.size, 0, none⟩ = some (.int .i64 s.m.a.base) ∧ W.cell? ⟨w5.heap.size, 1, none⟩ = some (.slice M1 s.m.a.digits.length j1) ∧ W.cell? ⟨w5.heap.size, 2, none⟩ = some (.int .i64 s.m.b.base) ∧ W.cell? ⟨w5.heap.size, 3, none⟩ = some (.slice M2 s.m.b.digits.length j2) ∧ W.cell? ⟨w5.heap.size, 4, none⟩ = some (.int .i64 s.m.s.base) ∧ W.cell? ⟨w5.heap.size, 5, none⟩ = some (.slice M3 s.m.s.digits.length j3) ∧ W.cell? ⟨w5.heap.size, 6, none⟩ = some (.int .i64 s.m.carry))) (by kernel_rfl) ?_ (fun hHeld => ?_)
        · exact HG.out
        try dsimp only
        refine wpAnyH_take (i := 0) (v := ?_) rfl (by kernel_rfl) (by kernel_rfl) (by kernel_rfl) (fun _ _ _ h => h) (Or.inl ⟨by rfl, ?_⟩) hHeld ?_
        rotate_left
        · (intro w hSw; (try dsimp only at hSw); go_simp; try with_reducible rfl)
        try simp only [Act.put, List.setIfInBounds_toArray, List.set_cons_zero, List.set_cons_succ, List.getElem_toArray, List.getElem_cons_zero]
        refine wpAnyH_take (i := 1) (v := ?_) rfl (by kernel_rfl) (by kernel_rfl) (by kernel_rfl) (fun _ _ _ h => h) (Or.inl ⟨by rfl, ?_⟩) hHeld ?_
        rotate_left
        · (intro w hSw; (try dsimp only at hSw); go_simp; try with_reducible rfl)
        try simp only [Act.put, List.setIfInBounds_toArray, List.set_cons_zero, List.set_cons_succ, List.getElem_toArray, List.getElem_cons_succ, List.getElem_cons_zero]
        refine wpAnyH_take (i := 3) (v := ?_) rfl (by kernel_rfl) (by kernel_rfl) (by kernel_rfl) (fun _ _ _ h => h) (Or.inl ⟨by rfl, ?_⟩) hHeld ?_
        rotate_left
        · (intro w hSw; (try dsimp only at hSw); go_simp; try with_reducible rfl)
        try simp only [Act.put, List.setIfInBounds_toArray, List.set_cons_zero, List.set_cons_succ, List.getElem_toArray, List.getElem_cons_succ, List.getElem_cons_zero]
        refine wpAnyH_take (i := 4) (v := ?_) rfl (by kernel_rfl) (by kernel_rfl) (by kernel_rfl) (fun _ _ _ h => h) (Or.inl ⟨by rfl, ?_⟩) hHeld ?_
        rotate_left
        · (intro w hSw; (try dsimp only at hSw); go_simp; try with_reducible rfl)
        try simp only [Act.put, List.setIfInBounds_toArray, List.set_cons_zero, List.set_cons_succ, List.getElem_toArray, List.getElem_cons_succ, List.getElem_cons_zero]
        refine wpAnyH_take (i := 5) (v := ?_) rfl (by kernel_rfl) (by kernel_rfl) (by kernel_rfl) (fun _ _ _ h => h) (Or.inl ⟨by rfl, ?_⟩) hHeld ?_
        rotate_left
        · (intro w hSw; (try dsimp only at hSw); go_simp; try with_reducible rfl)
        try simp only [Act.put, List.setIfInBounds_toArray, List.set_cons_zero, List.set_cons_succ, List.getElem_toArray, List.getElem_cons_succ, List.getElem_cons_zero]
        refine wpAnyH_ready (rs := [2]) (by kernel_rfl) (by decide) (AllReadyH.cons (o := _) rfl (fun K hK => ?_) AllReadyH.nil)
        go_simp
        go_at_call 135
        (with_reducible refine (KVR.out _ (Kn.riv (hK7.drew.sel [2] 99 (by decide) (by decide)))).mono ?_); rintro e w8 ⟨rfl, hw⟩
        have hK8 := hK7.drew.keep hw
        have HG := Lib.hid (box7 hK8)
        refine hK.out _ _ HG.out (fun hHeld2 => ?_)
        clear hK K hHeld
        have hHeld := hHeld2
        clear hHeld2
        try simp only [Act.put, List.setIfInBounds_toArray]
        refine wpAnyH_take (i := 6) (v := .bool false) rfl (by kernel_rfl) (by kernel_rfl) (by kernel_rfl) (fun _ _ _ h => h) (Or.inl ⟨by rfl, ?_⟩) hHeld ?_
        · intro w hSw
          clear hSw
          go_simp
        try simp only [Act.put, List.setIfInBounds_toArray, List.set_cons_zero, List.set_cons_succ]
        refine wpAnyH_take (i := 7) (v := ?_) rfl (by kernel_rfl) (by kernel_rfl) (by kernel_rfl) (fun _ _ _ h => h) (Or.inl ⟨by rfl, ?_⟩) hHeld ?_
        rotate_left
        · (intro w hSw; (try dsimp only at hSw); go_simp; try with_reducible rfl)
        try simp only [Act.put, List.setIfInBounds_toArray, List.set_cons_zero, List.set_cons_succ, List.getElem_toArray, List.getElem_cons_succ, List.getElem_cons_zero]
        refine wpAnyH_take (i := 8) (v := undef) rfl (by kernel_rfl) (by kernel_rfl) (by kernel_rfl) (fun _ _ _ h => h) (Or.inr ⟨by rfl, rfl⟩) hHeld ?_
        try simp only [Act.put, List.setIfInBounds_toArray, List.set_cons_zero, List.set_cons_succ, List.getElem_toArray, List.getElem_cons_succ, List.getElem_cons_zero]
        refine wpAnyH_take (i := 9) (v := undef) rfl (by kernel_rfl) (by kernel_rfl) (by kernel_rfl) (fun _ _ _ h => h) (Or.inr ⟨by rfl, rfl⟩) hHeld ?_
        try simp only [Act.put, List.setIfInBounds_toArray, List.set_cons_zero, List.set_cons_succ, List.getElem_toArray, List.getElem_cons_succ, List.getElem_cons_zero]
        refine wpAnyH_take (i := 10) (v := undef) rfl (by kernel_rfl) (by kernel_rfl) (by kernel_rfl) (fun _ _ _ h => h) (Or.inr ⟨by rfl, rfl⟩) hHeld ?_
        try simp only [Act.put, List.setIfInBounds_toArray, List.set_cons_zero, List.set_cons_succ, List.getElem_toArray, List.getElem_cons_succ, List.getElem_cons_zero]
        refine wpAnyH_take (i := 11) (v := undef) rfl (by kernel_rfl) (by kernel_rfl) (by kernel_rfl) (fun _ _ _ h => h) (Or.inr ⟨by rfl, rfl⟩) hHeld ?_
        try simp only [Act.put, List.setIfInBounds_toArray, List.set_cons_zero, List.set_cons_succ, List.getElem_toArray, List.getElem_cons_succ, List.getElem_cons_zero]
        refine wpAnyH_take (i := 12) (v := undef) rfl (by kernel_rfl) (by kernel_rfl) (by kernel_rfl) (fun _ _ _ h => h) (Or.inr ⟨by rfl, rfl⟩) hHeld ?_
        try simp only [Act.put, List.setIfInBounds_toArray, List.set_cons_zero, List.set_cons_succ, List.getElem_toArray, List.getElem_cons_succ, List.getElem_cons_zero]
        refine wpAnyH_take (i := 13) (v := undef) rfl (by kernel_rfl) (by kernel_rfl) (by kernel_rfl) (fun _ _ _ h => h) (Or.inr ⟨by rfl, rfl⟩) hHeld ?_
        try simp only [Act.put, List.setIfInBounds_toArray, List.set_cons_zero, List.set_cons_succ, List.getElem_toArray, List.getElem_cons_succ, List.getElem_cons_zero]
        refine wpAnyH_take (i := 14) (v := undef) rfl (by kernel_rfl) (by kernel_rfl) (by kernel_rfl) (fun _ _ _ h => h) (Or.inr ⟨by rfl, rfl⟩) hHeld ?_
        try simp only [Act.put, List.setIfInBounds_toArray, List.set_cons_zero, List.set_cons_succ, List.getElem_toArray, List.getElem_cons_succ, List.getElem_cons_zero]
        refine wpAnyH_take (i := 15) (v := undef) rfl (by kernel_rfl) (by kernel_rfl) (by kernel_rfl) (fun _ _ _ h => h) (Or.inr ⟨by rfl, rfl⟩) hHeld ?_
        try simp only [Act.put, List.setIfInBounds_toArray, List.set_cons_zero, List.set_cons_succ, List.getElem_toArray, List.getElem_cons_succ, List.getElem_cons_zero]
        refine wpAnyH_take (i := 16) (v := undef) rfl (by kernel_rfl) (by kernel_rfl) (by kernel_rfl) (fun _ _ _ h => h) (Or.inr ⟨by rfl, rfl⟩) hHeld ?_
        try simp only [Act.put, List.setIfInBounds_toArray, List.set_cons_zero, List.set_cons_succ, List.getElem_toArray, List.getElem_cons_succ, List.getElem_cons_zero]
        refine wpAnyH_take (i := 17) (v := undef) rfl (by kernel_rfl) (by kernel_rfl) (by kernel_rfl) (fun _ _ _ h => h) (Or.inr ⟨by rfl, rfl⟩) hHeld ?_
        try simp only [Act.put, List.setIfInBounds_toArray, List.set_cons_zero, List.set_cons_succ, List.getElem_toArray, List.getElem_cons_succ, List.getElem_cons_zero]
        refine wpAnyH_take (i := 18) (v := undef) rfl (by kernel_rfl) (by kernel_rfl) (by kernel_rfl) (fun _ _ _ h => h) (Or.inr ⟨by rfl, rfl⟩) hHeld ?_
        try simp only [Act.put, List.setIfInBounds_toArray, List.set_cons_zero, List.set_cons_succ, List.getElem_toArray, List.getElem_cons_succ, List.getElem_cons_zero]
        refine wpAnyH_take (i := 19) (v := ?_) rfl (by kernel_rfl) (by kernel_rfl) (by kernel_rfl) (fun _ _ _ h => h) (Or.inl ⟨by rfl, ?_⟩) hHeld ?_
        rotate_left
        · (intro w hSw; (try dsimp only at hSw); go_simp; try with_reducible rfl)
        try simp only [Act.put, List.setIfInBounds_toArray, List.set_cons_zero, List.set_cons_succ, List.getElem_toArray, List.getElem_cons_succ, List.getElem_cons_zero]
        refine wpAnyH_take (i := 20) (v := ?_) rfl (by kernel_rfl) (by kernel_rfl) (by kernel_rfl) (fun _ _ _ h => h) (Or.inl ⟨by rfl, ?_⟩) hHeld ?_
        rotate_left
        · (intro w hSw; (try dsimp only at hSw); go_simp; try with_reducible rfl)
        try simp only [Act.put, List.setIfInBounds_toArray, List.set_cons_zero, List.set_cons_succ, List.getElem_toArray, List.getElem_cons_succ, List.getElem_cons_zero]
        refine wpAnyH_done (by kernel_rfl) ?_ _
        go_wp2_with fail
        go_ret
        exact ⟨ret_bool HF.out.symm, hK8.below⟩
      · have hd1 : decide (VR = VB.tmod VA) = true := by simpa using hq1
        rcases hq2 : ((N - VC).tmod N == VB.tdiv VA) with _ | _
        · have HF := Lib.hid (show kpB L t 2 arg = false by rw [HB.out, hq1, hq2]; rfl)
          have hd2 : decide ((N - VC).tmod N = VB.tdiv VA) = false := by simpa using hq2
          go_wp2_with fail
          go_region_held3 (fun W => W.cell? ⟨w5.heap.size, 0, none⟩ = some (.int .i64 s.m.a.base) ∧ W.cell? ⟨w5.heap.size, 1, none⟩ = some (.slice M1 s.m.a.digits.length j1) ∧ W.cell? ⟨w5.heap.size, 2, none⟩ = some (.int .i64 s.m.b.base) ∧ W.cell? ⟨w5.heap.size, 3, none⟩ = some (.slice M2 s.m.b.digits.length j2) ∧ W.cell? ⟨w5.heap.size, 4, none⟩ = some (.int .i64 s.m.s.base) ∧ W.cell? ⟨w5.heap.size, 5, none⟩ = some (.slice M3 s.m.s.digits.length j3) ∧ W.cell? ⟨w5.heap.size, 6, none⟩ = some (.int .i64 s.m.carry)) (first | with_reducible exact HG.out | exact HG.out) (first
            | (go_at_call 135; (with_reducible refine (KVR.out _ (Kn.riv (hK7.drew.sel [2] 99 (by decide) (by decide)))).mono ?_); rintro e w8 ⟨rfl, hw⟩; have hK8 := hK7.drew.keep hw; clear HG; have HG := Lib.hid (box7 hK8))
            | (go_at_call 135; (with_reducible refine (KVC.out _ (Kn.riv (hK8.sel [1] 99 (by decide) (by decide)))).mono ?_); rintro e w9 ⟨rfl, hw⟩; have hK9 := hK8.keep hw; clear HG; have HG := Lib.hid (box7 hK9)))
          all_goals
            go_wp2_with fail
            go_ret
            exact ⟨ret_bool HF.out.symm, hK9.below⟩
        · have HF := Lib.hid (show kpB L t 2 arg = true by rw [HB.out, hq1, hq2]; rfl)
          have hd2 : decide ((N - VC).tmod N = VB.tdiv VA) = true := by simpa using hq2
          go_wp2_with fail
          go_region_held3 (fun W => W.cell? ⟨w5.heap.size, 0, none⟩ = some (.int .i64 s.m.a.base) ∧ W.cell? ⟨w5.heap.size, 1, none⟩ = some (.slice M1 s.m.a.digits.length j1) ∧ W.cell? ⟨w5.heap.size, 2, none⟩ = some (.int .i64 s.m.b.base) ∧ W.cell? ⟨w5.heap.size, 3, none⟩ = some (.slice M2 s.m.b.digits.length j2) ∧ W.cell? ⟨w5.heap.size, 4, none⟩ = some (.int .i64 s.m.s.base) ∧ W.cell? ⟨w5.heap.size, 5, none⟩ = some (.slice M3 s.m.s.digits.length j3) ∧ W.cell? ⟨w5.heap.size, 6, none⟩ = some (.int .i64 s.m.carry)) (first | with_reducible exact HG.out | exact HG.out) (first
            | (go_at_call 135; (with_reducible refine (KVR.out _ (Kn.riv (hK7.drew.sel [2] 99 (by decide) (by decide)))).mono ?_); rintro e w8 ⟨rfl, hw⟩; have hK8 := hK7.drew.keep hw; clear HG; have HG := Lib.hid (box7 hK8))
            | (go_at_call 135; (with_reducible refine (KVC.out _ (Kn.riv (hK8.sel [1] 99 (by decide) (by decide)))).mono ?_); rintro e w9 ⟨rfl, hw⟩; have hK9 := hK8.keep hw; clear HG; have HG := Lib.hid (box7 hK9)))
          all_goals
            go_wp2_with fail
            go_ret
            exact ⟨ret_bool HF.out.symm, hK9.below⟩
  · -- keep
    have HKC := Lib.hid (fun (s : RS) (b : Bool) he hc => kp_code (L := L) (t := t) (kind := 3) (arg := arg) (s := s) (b := b) (by omega) he hc)
    have HKF := Lib.hid (fun (s : RS) (b : Bool) he hc => kp_fine (L := L) (t := t) (kind := 3) (arg := arg) (s := s) (b := b) (by omega) he hc)
    have HKD := Lib.hid (fun (s : Tri) => show kpAfter t s 3 arg = (sameR s.b t.b && sameR s.a t.a) from rfl)
    obtain ⟨VA, hVA⟩ : ∃ v, valL t.a.base t.a.digits = v := ⟨_, rfl⟩
    obtain ⟨VB, hVB⟩ : ∃ v, valL t.b.base t.b.digits = v := ⟨_, rfl⟩
    rw [hVA] at KVA hva
    rw [hVB] at KVB hvb
    have KE1 := (fun (s : Tri) (h1 : SmallReg s.b) (B : Option Addr) (c : Nat) W q1 q2 => SameRegister_any s.b t.b B A2 c c2 W q1 q2 h1 hs2)
    have KE2 := (fun (s : Tri) (h1 : SmallReg s.a) (B : Option Addr) (c : Nat) W q1 q2 => SameRegister_any s.a t.a B A1 c c1 W q1 q2 h1 hs1)
    have KVA := Lib.hid KVA
    have KVB := Lib.hid KVB
    have KRP := Lib.hid KRP
    have KE1 := Lib.hid KE1
    have KE2 := Lib.hid KE2
    clear r1 r2 r3 hr hv hp hk k1 k2 k3 e1 e2 l1 p0 p1 yd1 yd2 yd3 hVA hVB KN3 hp3
    go_enter Try.func151, Try.ntmps151
    go_wp2_with fail
    have hK1 := (Kn.nil w).al [.int .i64 t.a.base, .slice A1 t.a.digits.length c1, .int .i64 t.b.base, .slice A2 t.b.digits.length c2, .int .i64 t.s.base, .slice A3 t.s.digits.length c3, .int .i64 t.carry] 65
    generalize w.alloc (.cells #[.int .i64 t.a.base, .slice A1 t.a.digits.length c1, .int .i64 t.b.base, .slice A2 t.b.digits.length c2, .int .i64 t.s.base, .slice A3 t.s.digits.length c3, .int .i64 t.carry] 65) = w1 at hK1 ⊢
    have HG := Lib.hid (box7 hK1.drew)
    go_cut [9, 10] (fun pp oo wx => pp = .int .i64 VA ∧ oo = .int .i64 VB ∧ Kn w [.blk w.heap.size [.int .i64 t.a.base, .slice A1 t.a.digits.length c1, .int .i64 t.b.base, .slice A2 t.b.digits.length c2, .int .i64 t.s.base, .slice A3 t.s.digits.length c3, .int .i64 t.carry] 65] wx)
    case first =>
      go_region_held3 (fun W => W.cell? ⟨w.heap.size, 0, none⟩ = some (.int .i64 t.a.base) ∧ W.cell? ⟨w.heap.size, 1, none⟩ = some (.slice A1 t.a.digits.length c1) ∧ W.cell? ⟨w.heap.size, 2, none⟩ = some (.int .i64 t.b.base) ∧ W.cell? ⟨w.heap.size, 3, none⟩ = some (.slice A2 t.b.digits.length c2) ∧ W.cell? ⟨w.heap.size, 4, none⟩ = some (.int .i64 t.s.base) ∧ W.cell? ⟨w.heap.size, 5, none⟩ = some (.slice A3 t.s.digits.length c3) ∧ W.cell? ⟨w.heap.size, 6, none⟩ = some (.int .i64 t.carry)) (first | with_reducible exact HG.out | exact HG.out) (first
        | (go_at_call 135; (with_reducible refine (KVA.out _ hK1.drew.below).mono ?_); rintro e w3 ⟨rfl, hw3⟩; have hK3 := hK1.drew.keep hw3; clear HG; have HG := Lib.hid (box7 hK3))
        | (go_at_call 135; (with_reducible refine (KVB.out _ hK3.below).mono ?_); rintro e w4 ⟨rfl, hw4⟩; have hK4 := hK3.keep hw4; clear HG; have HG := Lib.hid (box7 hK4)))
      all_goals
        go_wp2_with fail
        go_meet
        exact ⟨rfl, rfl, hK4⟩
    case rest =>
      obtain ⟨rfl, rfl, hK2⟩ := hcut
      clear HG hK1
      obtain ⟨a1, a2, a3, -⟩ := hK2.cells
      go_wp2_with fail
      refine (KRP.out _ hK2.below).mono ?_; rintro e w5 ⟨g, s, b', rfl, he, ⟨SA, sc, M1, j1, M2, j2, M3, j3, hKr⟩, hg⟩
      have hK5 : Kn w [.blk g [.int .i64 s.m.a.base, .slice M1 s.m.a.digits.length j1, .int .i64 s.m.b.base, .slice M2 s.m.b.digits.length j2, .int .i64 s.m.s.base, .slice M3 s.m.s.digits.length j3, .int .i64 s.m.carry, .slice LA n lc, .int .i64 (s.done : Int), .slice SA s.tr.length sc, .int .i64 s.code] 153, rowI M3 j3 s.m.s.digits, rowI M2 j2 s.m.b.digits, rowI M1 j1 s.m.a.digits, .blk w.heap.size [.int .i64 t.a.base, .slice A1 t.a.digits.length c1, .int .i64 t.b.base, .slice A2 t.b.digits.length c2, .int .i64 t.s.base, .slice A3 t.s.digits.length c3, .int .i64 t.carry] 65] w5 := (hK2.join hKr).sel [0, 1, 2, 3, 5] 99 (by decide) (by decide)
      clear hK2 hKr a1 a2 a3
      obtain ⟨d1, d2, d3, a1, a2, a3, -⟩ := hK5.cells
      rcases hc0 : (s.code == 0) with _ | _
      · have hcn : ¬ s.code = 0 := by simpa using hc0
        have hcb : (s.code != 0) = true := by simpa using hc0
        have HB := Lib.hid (HKC.out s b' he hcn)
        clear hc0 hcn he hg
        go_wp2_with fail
        go_ret
        exact ⟨ret_bool HB.out.symm, hK5.below⟩
      have hcn : s.code = 0 := by simpa using hc0
      have hcb : (s.code != 0) = false := by simpa using hc0
      have HB := HKF.out s b' he hcn
      have hcs := he.cs
      unfold startR at hcs
      simp only [] at hcs
      have HCS := Lib.hid hcs
      clear hcs
      clear hc0 hcn he
      rw [HKD.out] at HB
      have hz := hmsz s hg
      have hz1 : SmallReg s.m.a := by unfold SmallReg; have := hz.a; omega
      have hz2 : SmallReg s.m.b := by unfold SmallReg; have := hz.b; omega
      go_wp2_with fail
      refine Calls.kn (hK5.al [.int .i64 s.m.a.base, .slice M1 s.m.a.digits.length j1, .int .i64 s.m.b.base, .slice M2 s.m.b.digits.length j2, .int .i64 s.m.s.base, .slice M3 s.m.s.digits.length j3, .int .i64 s.m.carry] 65) ?_; intro w6 hK6r
      have hK6 : Kn w [.blk w5.heap.size [.int .i64 s.m.a.base, .slice M1 s.m.a.digits.length j1, .int .i64 s.m.b.base, .slice M2 s.m.b.digits.length j2, .int .i64 s.m.s.base, .slice M3 s.m.s.digits.length j3, .int .i64 s.m.carry] 65, rowI M3 j3 s.m.s.digits, rowI M2 j2 s.m.b.digits, rowI M1 j1 s.m.a.digits, .blk w.heap.size [.int .i64 t.a.base, .slice A1 t.a.digits.length c1, .int .i64 t.b.base, .slice A2 t.b.digits.length c2, .int .i64 t.s.base, .slice A3 t.s.digits.length c3, .int .i64 t.carry] 65] w6 := hK6r.sel [0, 2, 3, 4, 5] 99 (by decide) (by decide)
      clear hK6r hK5 d1 d2 d3 a1 a2 a3
      have KE1 := Lib.hid (KE1.out s.m hz2)
      have KE2 := Lib.hid (KE2.out s.m hz1)
      refine (KE1.out _ _ _ (Kn.riv (hK6.sel [2] 99 (by decide) (by decide))) (HR2.out _ hK6.below)).mono ?_; rintro e w9 ⟨rfl, hw⟩
      have hK9 := hK6.keep hw
      clear hK6 hw
      obtain ⟨d1, d2, d3, a1, a2, a3, -⟩ := hK9.cells
      rcases hq1 : sameR s.m.b t.b with _ | _
      · have HF := Lib.hid (show kpB L t 3 arg = false by rw [HB, hq1]; rfl)
        go_wp2_with fail
        go_ret
        exact ⟨ret_bool HF.out.symm, hK9.below⟩
      · have HF := Lib.hid (show kpB L t 3 arg = sameR s.m.a t.a by rw [HB, hq1]; rfl)
        go_wp2_with fail
        refine (KE2.out _ _ _ (Kn.riv (hK9.sel [3] 99 (by decide) (by decide))) (HR1.out _ hK9.below)).mono ?_; rintro e w10 ⟨rfl, hw⟩
        have hK10 := hK9.keep hw
        go_wp2_with fail
        go_ret
        exact ⟨ret_bool HF.out.symm, hK10.below⟩
  · -- zero
    have HKC := Lib.hid (fun (s : RS) (b : Bool) he hc => kp_code (L := L) (t := t) (kind := 4) (arg := arg) (s := s) (b := b) (by omega) he hc)
    have HKF := Lib.hid (fun (s : RS) (b : Bool) he hc => kp_fine (L := L) (t := t) (kind := 4) (arg := arg) (s := s) (b := b) (by omega) he hc)
    have HKD := Lib.hid (fun (s : Tri) => show kpAfter t s 4 arg = ((valL s.b.base s.b.digits == 0) && (valL s.s.base s.s.digits == 0)) from rfl)
    obtain ⟨VA, hVA⟩ : ∃ v, valL t.a.base t.a.digits = v := ⟨_, rfl⟩
    obtain ⟨VB, hVB⟩ : ∃ v, valL t.b.base t.b.digits = v := ⟨_, rfl⟩
    rw [hVA] at KVA hva
    rw [hVB] at KVB hvb
    have KVA := Lib.hid KVA
    have KVB := Lib.hid KVB
    have KRP := Lib.hid KRP
    clear r1 r2 r3 hr hv hp hk k1 k2 k3 e1 e2 l1 p0 p1 yd1 yd2 yd3 hVA hVB hs2 KN3 hp3
    go_enter Try.func151, Try.ntmps151
    go_wp2_with fail
    have hK1 := (Kn.nil w).al [.int .i64 t.a.base, .slice A1 t.a.digits.length c1, .int .i64 t.b.base, .slice A2 t.b.digits.length c2, .int .i64 t.s.base, .slice A3 t.s.digits.length c3, .int .i64 t.carry] 65
    generalize w.alloc (.cells #[.int .i64 t.a.base, .slice A1 t.a.digits.length c1, .int .i64 t.b.base, .slice A2 t.b.digits.length c2, .int .i64 t.s.base, .slice A3 t.s.digits.length c3, .int .i64 t.carry] 65) = w1 at hK1 ⊢
    have HG := Lib.hid (box7 hK1.drew)
    go_cut [9, 10] (fun pp oo wx => pp = .int .i64 VA ∧ oo = .int .i64 VB ∧ Kn w [.blk w.heap.size [.int .i64 t.a.base, .slice A1 t.a.digits.length c1, .int .i64 t.b.base, .slice A2 t.b.digits.length c2, .int .i64 t.s.base, .slice A3 t.s.digits.length c3, .int .i64 t.carry] 65] wx)
    case first =>
      go_region_held3 (fun W => W.cell? ⟨w.heap.size, 0, none⟩ = some (.int .i64 t.a.base) ∧ W.cell? ⟨w.heap.size, 1, none⟩ = some (.slice A1 t.a.digits.length c1) ∧ W.cell? ⟨w.heap.size, 2, none⟩ = some (.int .i64 t.b.base) ∧ W.cell? ⟨w.heap.size, 3, none⟩ = some (.slice A2 t.b.digits.length c2) ∧ W.cell? ⟨w.heap.size, 4, none⟩ = some (.int .i64 t.s.base) ∧ W.cell? ⟨w.heap.size, 5, none⟩ = some (.slice A3 t.s.digits.length c3) ∧ W.cell? ⟨w.heap.size, 6, none⟩ = some (.int .i64 t.carry)) (first | with_reducible exact HG.out | exact HG.out) (first
        | (go_at_call 135; (with_reducible refine (KVA.out _ hK1.drew.below).mono ?_); rintro e w3 ⟨rfl, hw3⟩; have hK3 := hK1.drew.keep hw3; clear HG; have HG := Lib.hid (box7 hK3))
        | (go_at_call 135; (with_reducible refine (KVB.out _ hK3.below).mono ?_); rintro e w4 ⟨rfl, hw4⟩; have hK4 := hK3.keep hw4; clear HG; have HG := Lib.hid (box7 hK4)))
      all_goals
        go_wp2_with fail
        go_meet
        exact ⟨rfl, rfl, hK4⟩
    case rest =>
      obtain ⟨rfl, rfl, hK2⟩ := hcut
      clear HG hK1
      obtain ⟨a1, a2, a3, -⟩ := hK2.cells
      go_wp2_with fail
      refine (KRP.out _ hK2.below).mono ?_; rintro e w5 ⟨g, s, b', rfl, he, ⟨SA, sc, M1, j1, M2, j2, M3, j3, hKr⟩, hg⟩
      have hK5 : Kn w [.blk g [.int .i64 s.m.a.base, .slice M1 s.m.a.digits.length j1, .int .i64 s.m.b.base, .slice M2 s.m.b.digits.length j2, .int .i64 s.m.s.base, .slice M3 s.m.s.digits.length j3, .int .i64 s.m.carry, .slice LA n lc, .int .i64 (s.done : Int), .slice SA s.tr.length sc, .int .i64 s.code] 153, rowI M3 j3 s.m.s.digits, rowI M2 j2 s.m.b.digits, rowI M1 j1 s.m.a.digits, .blk w.heap.size [.int .i64 t.a.base, .slice A1 t.a.digits.length c1, .int .i64 t.b.base, .slice A2 t.b.digits.length c2, .int .i64 t.s.base, .slice A3 t.s.digits.length c3, .int .i64 t.carry] 65] w5 := (hK2.join hKr).sel [0, 1, 2, 3, 5] 99 (by decide) (by decide)
      clear hK2 hKr a1 a2 a3
      obtain ⟨d1, d2, d3, a1, a2, a3, -⟩ := hK5.cells
      rcases hc0 : (s.code == 0) with _ | _
      · have hcn : ¬ s.code = 0 := by simpa using hc0
        have hcb : (s.code != 0) = true := by simpa using hc0
        have HB := Lib.hid (HKC.out s b' he hcn)
        clear hc0 hcn he hg
        go_wp2_with fail
        go_ret
        exact ⟨ret_bool HB.out.symm, hK5.below⟩
      have hcn : s.code = 0 := by simpa using hc0
      have hcb : (s.code != 0) = false := by simpa using hc0
      have HB := HKF.out s b' he hcn
      have hcs := he.cs
      unfold startR at hcs
      simp only [] at hcs
      have HCS := Lib.hid hcs
      clear hcs
      clear hc0 hcn he
      rw [HKD.out] at HB
      obtain ⟨k1, k2, k3, -, -, g1', g2', -⟩ := vmach_all hg.m
      obtain ⟨⟨y3, y4⟩, ⟨z3, z4⟩, yd2, -⟩ := vreg_iff.1 k2
      obtain ⟨⟨y5, y6⟩, ⟨z5, z6⟩, yd3, -⟩ := vreg_iff.1 k3
      have KVC := (fun W (h : RI W M3 s.m.s.digits.length s.m.s.digits) => value_any s.m.s.base M3 s.m.s.digits.length j3 s.m.s.digits W y5 y6 yd3 h (by omega))
      have KVR := (fun W (h : RI W M2 s.m.b.digits.length s.m.b.digits) => value_any s.m.b.base M2 s.m.b.digits.length j2 s.m.b.digits W y3 y4 yd2 h (by omega))
      obtain ⟨VC, hVC⟩ : ∃ v, valL s.m.s.base s.m.s.digits = v := ⟨_, rfl⟩
      obtain ⟨VR, hVR⟩ : ∃ v, valL s.m.b.base s.m.b.digits = v := ⟨_, rfl⟩
      rw [hVC, hVR] at HB
      rw [hVC] at KVC
      rw [hVR] at KVR
      have HB := Lib.hid HB
      have KVC := Lib.hid KVC
      have KVR := Lib.hid KVR
      clear k1 k2 k3 hVC hVR y3 y4 y5 y6 yd2 yd3 hg g1' g2' z3 z4 z5 z6
      go_wp2_with fail
      refine Calls.kn (hK5.al [.int .i64 s.m.a.base, .slice M1 s.m.a.digits.length j1, .int .i64 s.m.b.base, .slice M2 s.m.b.digits.length j2, .int .i64 s.m.s.base, .slice M3 s.m.s.digits.length j3, .int .i64 s.m.carry] 65) ?_; intro w6 hK6r
      have hK6 : Kn w [.blk w5.heap.size [.int .i64 s.m.a.base, .slice M1 s.m.a.digits.length j1, .int .i64 s.m.b.base, .slice M2 s.m.b.digits.length j2, .int .i64 s.m.s.base, .slice M3 s.m.s.digits.length j3, .int .i64 s.m.carry] 65, rowI M3 j3 s.m.s.digits, rowI M2 j2 s.m.b.digits, rowI M1 j1 s.m.a.digits, .blk w.heap.size [.int .i64 t.a.base, .slice A1 t.a.digits.length c1, .int .i64 t.b.base, .slice A2 t.b.digits.length c2, .int .i64 t.s.base, .slice A3 t.s.digits.length c3, .int .i64 t.carry] 65] w6 := hK6r.sel [0, 2, 3, 4, 5] 99 (by decide) (by decide)
      clear hK6r hK5 d1 d2 d3 a1 a2 a3
      refine (KVR.out _ (Kn.riv (hK6.sel [2] 99 (by decide) (by decide)))).mono ?_; rintro e w7 ⟨rfl, hw⟩
      have hK7 := hK6.keep hw
      clear hK6 hw
      obtain ⟨a1, a2, a3, d1, d2, d3, -⟩ := hK7.cells
      rcases hq1 : (VR == 0) with _ | _
      · have HF := Lib.hid (show kpB L t 4 arg = false by rw [HB.out, hq1]; rfl)
        go_wp2_with fail
        go_ret
        exact ⟨ret_bool HF.out.symm, hK7.below⟩
      · have HF := Lib.hid (show kpB L t 4 arg = (VC == 0) by rw [HB.out, hq1]; rfl)
        go_wp2_with fail
        refine (KVC.out _ (Kn.riv (hK7.sel [1] 99 (by decide) (by decide)))).mono ?_; rintro e w8 ⟨rfl, hw⟩
        have hK8 := hK7.keep hw
        rcases hq2 : (VC == 0) with _ | _
        · rw [hq2] at HF
          go_wp2_with fail
          go_ret
          exact ⟨ret_bool HF.out.symm, hK8.below⟩
        · rw [hq2] at HF
          go_wp2_with fail
          go_ret
          exact ⟨ret_bool HF.out.symm, hK8.below⟩
end Go.Proofs.Ytkaaiocbiknipaa

namespace Go.Proofs.Ytkaaiocbiknipaa
open Go.RowKit Go.Sort
theorem TriC.regs {w : World} {g : Nat} {t : Tri} {A1 A2 A3 : Option Addr} {c1 c2 c3 : Nat} (h : TriC w ⟨g, 0, none⟩ t A1 c1 A2 c2 A3 c3) :
    RegAt w ⟨g, 0, none⟩ t.a.base A1 t.a.digits.length c1 ∧ RegAt w ⟨g, 2, none⟩ t.b.base A2 t.b.digits.length c2 ∧ RegAt w ⟨g, 4, none⟩ t.s.base A3 t.s.digits.length c3 ∧ RI w A1 t.a.digits.length t.a.digits ∧ RI w A2 t.b.digits.length t.b.digits ∧ RI w A3 t.s.digits.length t.s.digits :=
  ⟨⟨h.1.1, h.1.2.1⟩, ⟨h.1.2.2.1, h.1.2.2.2.1⟩, ⟨h.1.2.2.2.2.1, h.1.2.2.2.2.2.1⟩, h.2.1, h.2.2.1, h.2.2.2⟩
set_option maxRecDepth 100000 in
set_option maxHeartbeats 6400000 in
theorem l14After_any (ga gb : Nat) (t s : Tri) (A1 A2 A3 B1 B2 B3 : Option Addr) (c1 c2 c3 d1 d2 d3 : Nat) (kind arg : Int) (w : World) (hT : TriC w ⟨ga, 0, none⟩ t A1 c1 A2 c2 A3 c3) (hS : TriC w ⟨gb, 0, none⟩ s B1 d1 B2 d2 B3 d3) (hv : vmach t = true) (hv2 : vmach s = true)
    (hcs : s.s.base = t.s.base ∧ s.s.digits.length = t.s.digits.length) (hk : isP kind arg = true) (hz : ¬ (kind = 2 ∧ valL t.a.base t.a.digits = 0)) :
    Calls Try.prog 198 #[.pointer (some ⟨ga, 0, none⟩), .pointer (some ⟨gb, 0, none⟩), .int .i64 kind, .int .i64 arg] w fun e w' => e = .returned (.bool (kpAfter t s kind arg)) ∧ Below w.heap.size w w' := by
  have ha : ga < w.heap.size := World.block_lt_of_cell? w _ hT.1.1
  have hb : gb < w.heap.size := World.block_lt_of_cell? w _ hS.1.1
  have HT := (fun W (hW : Below w.heap.size w W) => (hT.below ha hW).regs)
  have HS := (fun W (hW : Below w.heap.size w W) => (hS.below hb hW).regs)
  obtain ⟨k1, k2, k3, e1, e2, f1, f2, l1, p0, p1⟩ := vmach_all hv
  obtain ⟨⟨b1, b2⟩, ⟨n1, n2⟩, yd1, yl1⟩ := vreg_iff.1 k1
  obtain ⟨⟨b3, b4⟩, ⟨n3, n4⟩, yd2, yl2⟩ := vreg_iff.1 k2
  obtain ⟨⟨b5, b6⟩, ⟨n5, n6⟩, yd3, yl3⟩ := vreg_iff.1 k3
  obtain ⟨m1, m2, m3, -, -, -, -, -, -, -⟩ := vmach_all hv2
  obtain ⟨⟨o1, o2⟩, ⟨i1, i2⟩, zd1, zl1⟩ := vreg_iff.1 m1
  obtain ⟨⟨o3, o4⟩, ⟨i3, i4⟩, zd2, zl2⟩ := vreg_iff.1 m2
  obtain ⟨⟨o5, o6⟩, ⟨i5, i6⟩, zd3, zl3⟩ := vreg_iff.1 m3
  have hva := (valL_bd t.a.base b1 t.a.digits (fun d h => (yd1 d h).1)).1
  have hvb := (valL_bd t.b.base b3 t.b.digits (fun d h => (yd2 d h).1)).1
  have KVA := (fun W (hW : Below w.heap.size w W) => l14Value_any ⟨ga, 0, none⟩ t.a.base A1 t.a.digits.length c1 t.a.digits W (HT W hW).1 b1 b2 yd1 (HT W hW).2.2.2.1 n2)
  have KVB := (fun W (hW : Below w.heap.size w W) => l14Value_any ⟨ga, 2, none⟩ t.b.base A2 t.b.digits.length c2 t.b.digits W (HT W hW).2.1 b3 b4 yd2 (HT W hW).2.2.2.2.1 n4)
  have KVR := (fun W (hW : Below w.heap.size w W) => l14Value_any ⟨gb, 2, none⟩ s.b.base B2 s.b.digits.length d2 s.b.digits W (HS W hW).2.1 o3 o4 zd2 (HS W hW).2.2.2.2.1 i4)
  have KVC := (fun W (hW : Below w.heap.size w W) => l14Value_any ⟨gb, 4, none⟩ s.s.base B3 s.s.digits.length d3 s.s.digits W (HS W hW).2.2.1 o5 o6 zd3 (HS W hW).2.2.2.2.2 i6)
  have KN := (fun W (hW : Below w.heap.size w W) => l12Room_any ⟨ga, 4, none⟩ t.s.base A3 t.s.digits.length c3 W (HT W hW).2.2.1 b5 b6 (by omega))
  have hp3 : powS t.s.base t.s.digits.length = pw t.s.base t.s.digits.length := by unfold powS; omega
  rw [hp3] at KN
  have p3 := pw_pos t.s.base b5 t.s.digits.length
  have sa : SmallReg t.a := by unfold SmallReg; omega
  have sb : SmallReg t.b := by unfold SmallReg; omega
  have sa2 : SmallReg s.a := by unfold SmallReg; omega
  have sb2 : SmallReg s.b := by unfold SmallReg; omega
  have KA := (fun W (hW : Below w.heap.size w W) (m : Nat) => l02Same_any ⟨ga, 0, none⟩ ⟨gb, 0, none⟩ t.a s.a (W.drewN m) ⟨A1, c1, (HT _ (below_drewN hW m)).1, (HT _ (below_drewN hW m)).2.2.2.1⟩ ⟨B1, d1, (HS _ (below_drewN hW m)).1, (HS _ (below_drewN hW m)).2.2.2.1⟩ sa sa2)
  have KB := (fun W (hW : Below w.heap.size w W) (m : Nat) => l02Same_any ⟨ga, 2, none⟩ ⟨gb, 2, none⟩ t.b s.b (W.drewN m) ⟨A2, c2, (HT _ (below_drewN hW m)).2.1, (HT _ (below_drewN hW m)).2.2.2.2.1⟩ ⟨B2, d2, (HS _ (below_drewN hW m)).2.1, (HS _ (below_drewN hW m)).2.2.2.2.1⟩ sb sb2)
  rw [sameR_comm t.a s.a] at KA
  rw [sameR_comm t.b s.b] at KB
  have HSB := Lib.hid (fun W (hW : Below w.heap.size w W) => And.intro (HS W hW).2.1 (HS W hW).2.2.2.2.1)
  rcases isP_kinds hk with ⟨rfl, x1, x2⟩ | rfl | rfl | rfl
  · have HKD := (show kpAfter t s 1 arg = (sameR s.b ⟨t.b.base, shiftD t.b.base t.b.digits (arg * valL t.a.base t.a.digits)⟩ && sameR s.a t.a) from rfl)
    have hxb : -2000000000000000 ≤ arg * valL t.a.base t.a.digits ∧ arg * valL t.a.base t.a.digits ≤ 2000000000000000 := by
      have h1 : arg * valL t.a.base t.a.digits ≤ 1000 * valL t.a.base t.a.digits := Int.mul_le_mul_of_nonneg_right x2 hva
      have h2 : -1000 * valL t.a.base t.a.digits ≤ arg * valL t.a.base t.a.digits := Int.mul_le_mul_of_nonneg_right x1 hva
      omega
    have KMV := (fun W (hW : Below w.heap.size w W) => l10MoveW_any ⟨ga, 2, none⟩ t.b.base A2 c2 t.b.digits (arg * valL t.a.base t.a.digits) W (HT W hW).2.1 (HT W hW).2.2.2.2.1 k2 f1 hxb.1 hxb.2)
    have hsl := shiftD_len t.b.base t.b.digits (arg * valL t.a.base t.a.digits)
    obtain ⟨VA, hVA⟩ : ∃ v, valL t.a.base t.a.digits = v := ⟨_, rfl⟩
    obtain ⟨VB, hVB⟩ : ∃ v, valL t.b.base t.b.digits = v := ⟨_, rfl⟩
    rw [hVA] at KVA KMV hxb hva hsl HKD
    rw [hVB] at KVB hvb
    rw [Int.mul_comm arg VA] at KMV hsl HKD hxb
    obtain ⟨XX, hXX⟩ : ∃ v, VA * arg = v := ⟨_, rfl⟩
    rw [hXX] at KMV hxb hsl HKD
    have hxw : -9223372036854775808 ≤ VA * arg ∧ VA * arg ≤ 9223372036854775807 := by rw [hXX]; omega
    have HXX := Lib.hid hXX
    obtain ⟨SH, hSH⟩ : ∃ v, shiftD t.b.base t.b.digits XX = v := ⟨_, rfl⟩
    rw [hSH] at KMV hsl HKD
    obtain ⟨SB, hSB⟩ : ∃ v, shiftB t.b.base t.b.digits XX = v := ⟨_, rfl⟩
    rw [hSB] at KMV
    have hs3 : SmallReg ⟨t.b.base, SH⟩ := by unfold SmallReg; simp only; omega
    have KE := (fun (g X : _) (x : Nat) W (hW : Below w.heap.size w W) (m : Nat) (q1 : RegAt (W.drewN m) ⟨g, 0, none⟩ t.b.base X SH.length x) (q2 : RI (W.drewN m) X SH.length SH) => l02Same_any ⟨g, 0, none⟩ ⟨gb, 2, none⟩ ⟨t.b.base, SH⟩ s.b (W.drewN m) ⟨X, x, q1, q2⟩ ⟨B2, d2, (HS _ (below_drewN hW m)).2.1, (HS _ (below_drewN hW m)).2.2.2.2.1⟩ hs3 sb2)
    rw [sameR_comm ⟨t.b.base, SH⟩ s.b] at KE
    have KVA := Lib.hid KVA
    have KVB := Lib.hid KVB
    have KMV := Lib.hid KMV
    clear hT hS HT HS hv hv2 hk hz k1 k2 k3 e1 e2 l1 p0 p1 yd1 yd2 yd3 m1 m2 m3 zd1 zd2 zd3 hVA hVB hXX hSH hSB hsl KVR KVC KN hp3
    rcases hq1 : sameR s.b ⟨t.b.base, SH⟩ with _ | _ <;> rcases hq2 : sameR s.a t.a with _ | _
    all_goals
      rw [hq1] at KE HKD
      rw [hq2] at KA HKD
      have KE := Lib.hid KE
      have KA := Lib.hid KA
      have HF := Lib.hid HKD
      clear HKD hq1 hq2
      go_enter Try.func198, Try.ntmps198
      go_wp2_with fail
      refine (KVA.out _ (Kn.nil w).below).mono ?_; rintro e w1 ⟨rfl, q, rfl⟩
      have hK1 := (Kn.nil w).drewN q
      generalize w.drewN q = w1 at hK1 ⊢
      go_wp2_with fail
      refine (KVB.out _ hK1.below).mono ?_; rintro e w2 ⟨rfl, q, rfl⟩
      have hK2 := hK1.drewN q
      generalize w1.drewN q = w2 at hK2 ⊢
      go_wp2_with fail
      rw [HXX.out]
      refine (KMV.out _ hK2.below).mono ?_; rintro e w3 ⟨X, x, rfl, hKx⟩
      have hK3 := hK2.join hKx
      go_wp2_with fail
      have hK4 := hK3.al [.int .i64 t.b.base, .slice X SH.length x] 26
      generalize w3.alloc (.cells #[.int .i64 t.b.base, .slice X SH.length x] 26) = w4 at hK4 ⊢
      have KE1 := Lib.hid (fun m => KE.out _ X x _ hK4.below m ⟨(hK4.drewN m).cellIs 0 _ rfl, (hK4.drewN m).cellIs 1 _ rfl⟩ ((hK4.drewN m).drop.riv))
      have KA1 := Lib.hid (KA.out _ hK4.below)
      go_quiet ((go_at_call 98; first | (with_reducible exact quiet_of_ex (KE1.out _)) | (with_reducible exact quiet_of_ex (KA1.out _)) | (with_reducible exact quiet_add_ex (KE1.out _)) | (with_reducible exact quiet_add_ex (KA1.out _))))
      go_wp2_with fail
      go_ret
      exact ⟨ret_bool HF.out.symm, (hK4.drewN _).below⟩
  · have HKD := (show kpAfter t s 2 arg = ((valL s.b.base s.b.digits == (valL t.b.base t.b.digits).tmod (valL t.a.base t.a.digits)) && ((pw t.s.base t.s.digits.length - valL s.s.base s.s.digits).tmod (pw t.s.base t.s.digits.length) == (valL t.b.base t.b.digits).tdiv (valL t.a.base t.a.digits))) from rfl)
    have h0 : ¬ valL t.a.base t.a.digits = 0 := fun h => hz ⟨rfl, h⟩
    have hdv : 0 ≤ (valL t.b.base t.b.digits).tdiv (valL t.a.base t.a.digits) ∧ (valL t.b.base t.b.digits).tdiv (valL t.a.base t.a.digits) ≤ 1000000000001 := by
      rw [Int.tdiv_eq_ediv_of_nonneg hvb]
      have := Int.ediv_le_self (valL t.a.base t.a.digits) hvb
      exact ⟨Int.ediv_nonneg hvb hva, by omega⟩
    have hv3 := (valL_bd s.s.base o5 s.s.digits (fun d h => (zd3 d h).1)).1
    have hv3' := valL_lt s.s.base o5 s.s.digits zd3
    rw [hcs.1, hcs.2] at hv3'
    rw [← hcs.1] at hv3'
    obtain ⟨VA, hVA⟩ : ∃ v, valL t.a.base t.a.digits = v := ⟨_, rfl⟩
    obtain ⟨VB, hVB⟩ : ∃ v, valL t.b.base t.b.digits = v := ⟨_, rfl⟩
    obtain ⟨VC, hVC⟩ : ∃ v, valL s.s.base s.s.digits = v := ⟨_, rfl⟩
    obtain ⟨VR, hVR⟩ : ∃ v, valL s.b.base s.b.digits = v := ⟨_, rfl⟩
    rw [hcs.1] at hv3'
    obtain ⟨N, hN⟩ : ∃ v, pw t.s.base t.s.digits.length = v := ⟨_, rfl⟩
    rw [hVA] at KVA hva h0
    rw [hVB] at KVB hvb
    rw [hVA, hVB] at hdv
    rw [hVA, hVB, hVC, hVR, hN] at HKD
    have hv4 : VC < N := by rw [← hVC, ← hN, hcs.1]; exact hv3'
    rw [hVC] at KVC hv3
    rw [hVR] at KVR
    rw [hN] at KN p3 f2
    have hqw : IntKind.i64.wrap (VB.tdiv VA) = VB.tdiv VA := wrapI64 (by omega)
    have nv1 : VA ≠ 0 := h0
    have nv2 : (VA == 0) = false := by simpa using h0
    have nz1 : N ≠ 0 := by omega
    have nz2 : (N == 0) = false := by simp; omega
    have hwq := wrapI64 (n := N - VC) (by omega)
    have HEM := Lib.hid (show -VC % N = (N - VC).tmod N by rw [Int.tmod_eq_emod_of_nonneg (by omega), show N - VC = -VC + N by omega, Int.add_emod_right])
    have KVA := Lib.hid KVA
    have KVB := Lib.hid KVB
    have KVC := Lib.hid KVC
    have KVR := Lib.hid (fun W (hW : Below w.heap.size w W) (m : Nat) => KVR (W.drewN m) (below_drewN hW m))
    have KN := Lib.hid KN
    clear hT hS HT HS hv hv2 hk hz k1 k2 k3 e1 e2 l1 p0 p1 yd1 yd2 yd3 m1 m2 m3 zd1 zd2 zd3 hVA hVB hVC hVR hN KA KB hp3 hv3' h0 hcs
    rcases hq1 : (VR == VB.tmod VA) with _ | _ <;> rcases hq2 : ((N - VC).tmod N == VB.tdiv VA) with _ | _
    all_goals
      rw [hq1, hq2] at HKD
      have HF := Lib.hid HKD
      clear HKD
      have hd1 := hq1
      have hd2 := hq2
      simp only [beq_eq_false_iff_ne, beq_iff_eq] at hd1 hd2
      go_enter Try.func198, Try.ntmps198
      go_wp2_with fail
      refine (KVA.out _ (Kn.nil w).below).mono ?_; rintro e w1 ⟨rfl, q, rfl⟩
      have hK1 := (Kn.nil w).drewN q
      generalize w.drewN q = w1 at hK1 ⊢
      go_wp2_with fail
      refine (KVB.out _ hK1.below).mono ?_; rintro e w2 ⟨rfl, q, rfl⟩
      have hK2 := hK1.drewN q
      generalize w1.drewN q = w2 at hK2 ⊢
      go_wp2_with fail
      refine (KN.out _ hK2.below).mono ?_; rintro e w3 ⟨rfl, q, rfl⟩
      have hK3 := hK2.drewN q
      generalize w2.drewN q = w3 at hK3 ⊢
      go_wp2_with fail
      refine (KVC.out _ hK3.below).mono ?_; rintro e w4 ⟨rfl, q, rfl⟩
      have hK4 := hK3.drewN q
      generalize w3.drewN q = w4 at hK4 ⊢
      go_wp2_with fail
      have KR1 := Lib.hid (KVR.out _ hK4.below)
      go_quiet ((go_at_call 197; first | (with_reducible exact quiet_of_ex (KR1.out _)) | (with_reducible exact quiet_add_ex (KR1.out _))))
      go_wp2_with fail
      go_ret
      exact ⟨ret_bool (by first | (rw [HF.out]; rfl) | (rw [HF.out, HEM.out, hq2]; rfl)), (hK4.drewN _).below⟩
  · have HKD := (show kpAfter t s 3 arg = (sameR s.b t.b && sameR s.a t.a) from rfl)
    obtain ⟨VA, hVA⟩ : ∃ v, valL t.a.base t.a.digits = v := ⟨_, rfl⟩
    obtain ⟨VB, hVB⟩ : ∃ v, valL t.b.base t.b.digits = v := ⟨_, rfl⟩
    rw [hVA] at KVA hva
    rw [hVB] at KVB hvb
    have KVA := Lib.hid KVA
    have KVB := Lib.hid KVB
    clear hT hS HT HS hv hv2 hk hz k1 k2 k3 e1 e2 l1 p0 p1 yd1 yd2 yd3 m1 m2 m3 zd1 zd2 zd3 hVA hVB KVR KVC KN hp3
    rcases hq1 : sameR s.b t.b with _ | _ <;> rcases hq2 : sameR s.a t.a with _ | _
    all_goals
      rw [hq1] at KB HKD
      rw [hq2] at KA HKD
      have KB := Lib.hid KB
      have KA := Lib.hid KA
      have HF := Lib.hid HKD
      clear HKD hq1 hq2
      go_enter Try.func198, Try.ntmps198
      go_wp2_with fail
      refine (KVA.out _ (Kn.nil w).below).mono ?_; rintro e w1 ⟨rfl, q, rfl⟩
      have hK1 := (Kn.nil w).drewN q
      generalize w.drewN q = w1 at hK1 ⊢
      go_wp2_with fail
      refine (KVB.out _ hK1.below).mono ?_; rintro e w2 ⟨rfl, q, rfl⟩
      have hK2 := hK1.drewN q
      generalize w1.drewN q = w2 at hK2 ⊢
      go_wp2_with fail
      have KB1 := Lib.hid (KB.out _ hK2.below)
      have KA1 := Lib.hid (KA.out _ hK2.below)
      go_quiet ((go_at_call 98; first | (with_reducible exact quiet_of_ex (KA1.out _)) | (with_reducible exact quiet_of_ex (KB1.out _)) | (with_reducible exact quiet_add_ex (KA1.out _)) | (with_reducible exact quiet_add_ex (KB1.out _))))
      go_wp2_with fail
      go_ret
      exact ⟨ret_bool HF.out.symm, (hK2.drewN _).below⟩
  · have HKD := (show kpAfter t s 4 arg = ((valL s.b.base s.b.digits == 0) && (valL s.s.base s.s.digits == 0)) from rfl)
    obtain ⟨VA, hVA⟩ : ∃ v, valL t.a.base t.a.digits = v := ⟨_, rfl⟩
    obtain ⟨VB, hVB⟩ : ∃ v, valL t.b.base t.b.digits = v := ⟨_, rfl⟩
    obtain ⟨VC, hVC⟩ : ∃ v, valL s.s.base s.s.digits = v := ⟨_, rfl⟩
    obtain ⟨VR, hVR⟩ : ∃ v, valL s.b.base s.b.digits = v := ⟨_, rfl⟩
    rw [hVA] at KVA hva
    rw [hVB] at KVB hvb
    rw [hVC, hVR] at HKD
    rw [hVC] at KVC
    rw [hVR] at KVR
    have KVA := Lib.hid KVA
    have KVB := Lib.hid KVB
    have KVC := Lib.hid KVC
    have KVR := Lib.hid KVR
    clear hT hS HT HS hv hv2 hk hz k1 k2 k3 e1 e2 l1 p0 p1 yd1 yd2 yd3 m1 m2 m3 zd1 zd2 zd3 hVA hVB hVC hVR KA KB KN hp3
    rcases hq1 : (VR == 0) with _ | _
    · have HF := Lib.hid (show kpAfter t s 4 arg = false by rw [HKD, hq1]; rfl)
      go_enter Try.func198, Try.ntmps198
      go_wp2_with fail
      refine (KVA.out _ (Kn.nil w).below).mono ?_; rintro e w1 ⟨rfl, q, rfl⟩
      have hK1 := (Kn.nil w).drewN q
      generalize w.drewN q = w1 at hK1 ⊢
      go_wp2_with fail
      refine (KVB.out _ hK1.below).mono ?_; rintro e w2 ⟨rfl, q, rfl⟩
      have hK2 := hK1.drewN q
      generalize w1.drewN q = w2 at hK2 ⊢
      go_wp2_with fail
      refine (KVR.out _ hK2.below).mono ?_; rintro e w3 ⟨rfl, q, rfl⟩
      go_wp2_with fail
      go_ret
      exact ⟨ret_bool HF.out.symm, (hK2.drewN _).below⟩
    · rcases hq2 : (VC == 0) with _ | _
      all_goals
        rw [hq1, hq2] at HKD
        have HF := Lib.hid HKD
        go_enter Try.func198, Try.ntmps198
        go_wp2_with fail
        refine (KVA.out _ (Kn.nil w).below).mono ?_; rintro e w1 ⟨rfl, q, rfl⟩
        have hK1 := (Kn.nil w).drewN q
        generalize w.drewN q = w1 at hK1 ⊢
        go_wp2_with fail
        refine (KVB.out _ hK1.below).mono ?_; rintro e w2 ⟨rfl, q, rfl⟩
        have hK2 := hK1.drewN q
        generalize w1.drewN q = w2 at hK2 ⊢
        go_wp2_with fail
        refine (KVR.out _ hK2.below).mono ?_; rintro e w3 ⟨rfl, q, rfl⟩
        have hK3 := hK2.drewN q
        generalize w2.drewN q = w3 at hK3 ⊢
        go_wp2_with fail
        refine (KVC.out _ hK3.below).mono ?_; rintro e w4 ⟨rfl, q, rfl⟩
        go_wp2_with fail
        go_ret
        exact ⟨ret_bool (by rw [HF.out]; rfl), (hK3.drewN _).below⟩
end Go.Proofs.Ytkaaiocbiknipaa
