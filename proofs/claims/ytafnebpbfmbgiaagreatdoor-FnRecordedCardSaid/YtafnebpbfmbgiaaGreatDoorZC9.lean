/- Part 9: lemmas and contracts of the claim's functions. -/
import Derived.Test.YtafnebpbfmbgiaaGreatDoorZC1
import Derived.Test.YtafnebpbfmbgiaaGreatDoorZC2
import Derived.Test.YtafnebpbfmbgiaaGreatDoorZC3
import Derived.Test.YtafnebpbfmbgiaaGreatDoorZC4
import Derived.Test.YtafnebpbfmbgiaaGreatDoorZC5
import Derived.Test.YtafnebpbfmbgiaaGreatDoorZC6
import Derived.Test.YtafnebpbfmbgiaaGreatDoorZC7
import Derived.Test.YtafnebpbfmbgiaaGreatDoorZC8
import Derived.Deep.RegionHeld3
import Derived.Deep.DeepCutAuto
namespace Go.Proofs.YtafnebpbfmbgiaaGreatDoor
open Go.RowKit Go.Sort
theorem l12Room_any (p : Addr) (b : Int) (A : Option Addr) (n c : Nat) (w : World) (hp : RegAt w p b A n c) (b1 : 2 ≤ b) (b2 : b ≤ 16) (hn : n ≤ 9223372036854775807) :
    Calls Tryz.prog 89 #[.pointer (some p)] w fun e w' => e = .returned (.int .i64 (powS b n)) ∧ ∃ q, w' = w.drewN q := by
  obtain ⟨q1, q2⟩ := hp
  have KP := Lib.hid (fun W => l10Power_any b n W b1 b2 hn)
  go_enter Tryz.func89, Tryz.ntmps89
  go_wp2_with fail
  go_quiet ((go_at_call 127; exact quiet_left (KP.out _)))
  go_wp2
  go_ret
  exact ⟨rfl, _, rfl⟩
/-- a fresh machine of a base and widths -/
def newT (b : Int) (n1 n2 n3 : Nat) : Tri := ⟨⟨b, digD b n1 0⟩, ⟨b, digD b n2 0⟩, ⟨b, digD b n3 0⟩, 0⟩
set_option maxRecDepth 100000 in
set_option maxHeartbeats 1600000 in
theorem l10New_any (b : Int) (n1 n2 n3 : Nat) (w : World) (b1 : 2 ≤ b) (b2 : b ≤ 16) (h1 : n1 ≤ 1000000) (h2 : n2 ≤ 1000000) (h3 : n3 ≤ 1000000) :
    Calls Tryz.prog 126 #[.int .i64 b, .int .i64 n1, .int .i64 n2, .int .i64 n3] w fun e w' => ∃ E1 g1 E2 g2 E3 g3, e = .returned (.agg #[.int .i64 b, .slice E1 (digD b n1 0).length g1, .int .i64 b, .slice E2 (digD b n2 0).length g2, .int .i64 b, .slice E3 (digD b n3 0).length g3, .int .i64 0]) ∧
      Kn w [rowI E3 g3 (digD b n3 0), rowI E2 g2 (digD b n2 0), rowI E1 g1 (digD b n1 0)] w' := by
  have K1 := (fun W => l02NewV_any b n1 0 W b1 b2 h1 (by decide) (by decide))
  have K2 := (fun W => l02NewV_any b n2 0 W b1 b2 h2 (by decide) (by decide))
  have K3 := (fun W => l02NewV_any b n3 0 W b1 b2 h3 (by decide) (by decide))
  obtain ⟨x1, hx1⟩ : ∃ x, digD b n1 0 = x := ⟨_, rfl⟩
  obtain ⟨x2, hx2⟩ : ∃ x, digD b n2 0 = x := ⟨_, rfl⟩
  obtain ⟨x3, hx3⟩ : ∃ x, digD b n3 0 = x := ⟨_, rfl⟩
  rw [hx1] at K1 ⊢
  rw [hx2] at K2 ⊢
  rw [hx3] at K3 ⊢
  have K1 := Lib.hid K1
  have K2 := Lib.hid K2
  have K3 := Lib.hid K3
  clear hx1 hx2 hx3
  go_enter Tryz.func126, Tryz.ntmps126
  go_wp2_with fail
  refine Calls.kn ((Kn.nil w).al [.int .i64 0, .slice none 0 0, .int .i64 0, .slice none 0 0, .int .i64 0, .slice none 0 0, .int .i64 0] 32) ?_; intro w1 hK1
  (with_reducible refine (K1.out _).mono ?_); rintro e w2 ⟨E1, g1, rfl, hKn⟩
  have hK2 := hK1.join hKn
  go_wp2_with fail
  refine Calls.kn (hK2.al [.int .i64 b, .slice E1 x1.length g1] 30) ?_; intro w3 hK3
  (with_reducible refine (K2.out _).mono ?_); rintro e w4 ⟨E2, g2, rfl, hKm⟩
  have hK4 := hK3.join hKm
  go_wp2_with fail
  refine Calls.kn (hK4.al [.int .i64 b, .slice E2 x2.length g2] 30) ?_; intro w5 hK5
  (with_reducible refine (K3.out _).mono ?_); rintro e w6 ⟨E3, g3, rfl, hKo⟩
  have hK6 := hK5.join hKo
  clear hK1 hK2 hK3 hK4 hK5 hKn hKm hKo
  obtain ⟨a1, a2, a3, d1, d2, d3, c1, c2, c3, -⟩ := hK6.cells
  go_wp2_with fail
  refine bodyPost.kn ((((((((hK6.front 5 rfl).st 0 (.int .i64 b)).st 1 (.slice E1 x1.length g1)).st 2 (.int .i64 b)).st 3 (.slice E2 x2.length g2)).st 4 (.int .i64 b)).st 5 (.slice E3 x3.length g3)).st 6 (.int .i64 0) |>.al_ _) ?_; intro w7 hK7
  clear a1 a2 a3 d1 d2 d3 c1 c2 c3
  obtain ⟨a1, a2, a3, -⟩ := hK7.cells
  refine bodyPost_ret (v := .agg #[.int .i64 b, .slice E1 x1.length g1, .int .i64 b, .slice E2 x2.length g2, .int .i64 b, .slice E3 x3.length g3, .int .i64 0]) (by simp [results, Tryz.results126, go_sem, a1]) rfl ⟨E1, g1, E2, g2, E3, g3, rfl, ?_⟩
  exact hK7.sel [1, 3, 5] 99 (by decide) (by decide)
end Go.Proofs.YtafnebpbfmbgiaaGreatDoor

namespace Go.Proofs.YtafnebpbfmbgiaaGreatDoor
open Go.RowKit Go.Sort
theorem draw_vreg {b : Int} {ds : List Int} (h1 : 2 ≤ b) (h2 : b ≤ 16) (h3 : 1 ≤ ds.length) (h4 : ds.length ≤ 16) (hd : ∀ d ∈ ds, 0 ≤ d ∧ d < b) (hp : pw b ds.length ≤ 1000000000001) : vreg b ds = true := by
  have h5 := valL_lt b h1 ds hd
  exact vreg_iff.2 ⟨⟨h1, h2⟩, ⟨by omega, by omega⟩, hd, by omega⟩
theorem base_mem {b : Int} (h : b ∈ [(10 : Int), 10, 10, 2, 3, 8, 12]) : 2 ≤ b ∧ b ≤ 12 ∧ pw b 8 ≤ 1000000000001 := by
  have H : ∀ b ∈ [(10 : Int), 10, 10, 2, 3, 8, 12], 2 ≤ b ∧ b ≤ 12 ∧ pw b 8 ≤ 1000000000001 := by decide
  exact H b h
theorem pickN {x n : Int} (hn : 1 ≤ n) (h : 0 ≤ x ∧ (x < n ∨ (n ≤ 1 ∧ x = 0))) : ∃ q : Nat, x = q ∧ (q : Int) ≤ n - 1 := ⟨x.toNat, by omega, by omega⟩
/-- what the drawing of a machine returns -/
def DMach (b M : Nat) (w : World) (e : Ending) (w' : World) : Prop := ∃ (t : Tri) (A1 : Option Addr) (c1 : Nat) (A2 : Option Addr) (c2 : Nat) (A3 : Option Addr) (c3 : Nat), e = .returned (.agg #[.int .i64 t.a.base, .slice A1 t.a.digits.length c1, .int .i64 t.b.base, .slice A2 t.b.digits.length c2, .int .i64 t.s.base, .slice A3 t.s.digits.length c3, .int .i64 t.carry]) ∧ vmach t = true ∧ DR b M w [rowI A3 c3 t.s.digits, rowI A2 c2 t.b.digits, rowI A1 c1 t.a.digits] w'
theorem DR.triC {b N : Nat} {w wi : World} {m : List Ent} {g : Nat} {t : Tri} {A1 A2 A3 : Option Addr} {c1 c2 c3 : Nat} (h : DR b N w ([.blk g [.int .i64 t.a.base, .slice A1 t.a.digits.length c1, .int .i64 t.b.base, .slice A2 t.b.digits.length c2, .int .i64 t.s.base, .slice A3 t.s.digits.length c3, .int .i64 t.carry] 32, rowI A3 c3 t.s.digits, rowI A2 c2 t.b.digits, rowI A1 c1 t.a.digits] ++ m) wi) : TriC wi ⟨g, 0, none⟩ t A1 c1 A2 c2 A3 c3 := by
  obtain ⟨v, -, -, hK⟩ := h
  exact ⟨⟨hK.blkAt.1 0, hK.blkAt.1 1, hK.blkAt.1 2, hK.blkAt.1 3, hK.blkAt.1 4, hK.blkAt.1 5, hK.blkAt.1 6⟩, hK.drop.drop.drop.riv, hK.drop.drop.riv, hK.drop.riv⟩
set_option maxRecDepth 100000 in
set_option maxHeartbeats 3200000 in
theorem l10Draw_dr (b N : Nat) (w : World) (h : Src w b N) (hN : N ≤ 700000) :
    Calls Tryz.prog 87 #[.pointer (some ⟨b, 0, none⟩)] w (DMach b (N + 200) w) := by
  unfold DMach
  have D0 := DR.nil h
  clear h
  go_enter Tryz.func87, Tryz.ntmps87
  go_wp2_with fail
  refine Calls.dr ((D0.al [.int .i64 0, .slice none 0 0, .int .i64 0, .slice none 0 0, .int .i64 0, .slice none 0 0, .int .i64 0] 32).al [.int .i64 10, .int .i64 10, .int .i64 10, .int .i64 2, .int .i64 3, .int .i64 8, .int .i64 12] 2) ?_; intro w1 D1
  simp only [World.size_alloc] at D1
  obtain ⟨hr, hA⟩ := DR.lit (ds := [10, 10, 10, 2, 3, 8, 12]) D1 (by decide)
  refine (among_dr b _ _ 7 7 _ w1 D1.src (by omega) hr hA (by omega) (by omega)).mono ?_; rintro e w2 ⟨bs, rfl, hx, h2⟩
  obtain ⟨b1, b2, b3⟩ := base_mem hx
  have D2 := (D1.add h2).sel [1] 99 (by decide) (by decide)
  clear D0 D1 h2 hr hA hx
  go_wp2_with fail
  refine (pick_dr b _ 4 w2 D2.src (by omega)).mono ?_; rintro e w3 ⟨y, rfl, hy, h3⟩
  have D3 := D2.add h3
  obtain ⟨q1, rfl, hq1⟩ := pickN (by omega) hy
  have hw1 : IntKind.i64.wrap (1 + (q1 : Int)) = ((q1 + 1 : Nat) : Int) := by rw [wrapI64 (by omega)]; omega
  obtain ⟨n1, hn1⟩ : ∃ n, q1 + 1 = n := ⟨_, rfl⟩
  rw [hn1] at hw1
  clear D2 h3 hy
  go_wp2_with fail
  refine (pick_dr b _ 5 w3 D3.src (by omega)).mono ?_; rintro e w4 ⟨y, rfl, hy, h4⟩
  have D4 := D3.add h4
  obtain ⟨q2, rfl, hq2'⟩ := pickN (by omega) hy
  have hw2 : IntKind.i64.wrap ((n1 : Int) + (q2 : Int)) = ((n1 + q2 : Nat) : Int) := by rw [wrapI64 (by omega)]; omega
  obtain ⟨n2, hn2⟩ : ∃ n, n1 + q2 = n := ⟨_, rfl⟩
  rw [hn2] at hw2
  clear D3 h4 hy
  go_wp2_with fail
  refine (pick_dr b _ 5 w4 D4.src (by omega)).mono ?_; rintro e w5 ⟨y, rfl, hy, h5⟩
  have D5 := D4.add h5
  obtain ⟨q3, rfl, hq3'⟩ := pickN (by omega) hy
  have hw3 : IntKind.i64.wrap (1 + (q3 : Int)) = ((q3 + 1 : Nat) : Int) := by rw [wrapI64 (by omega)]; omega
  obtain ⟨n3, hn3⟩ : ∃ n, q3 + 1 = n := ⟨_, rfl⟩
  rw [hn3] at hw3
  clear D4 h5 hy
  have hl1 : 1 ≤ n1 ∧ n1 ≤ n2 ∧ n2 ≤ 8 ∧ 1 ≤ n3 ∧ n3 ≤ 5 := by omega
  clear hn1 hn2 hn3 hq1 hq2' hq3'
  have KN := l10New_any bs n1 n2 n3 w5 (by omega) (by omega) (by omega) (by omega) (by omega)
  have hz3 := digD_vreg bs (by omega) (by omega) n3 (by omega) (by omega) 0 (by omega) (by have := pw_pos bs (by omega) n3; omega) (by omega)
  have hz2 := digD_vreg bs (by omega) (by omega) n2 (by omega) (by omega) 0 (by omega) (by have := pw_pos bs (by omega) n2; omega) (by omega)
  obtain ⟨x1, hx1⟩ : ∃ x, digD bs n1 0 = x := ⟨_, rfl⟩
  obtain ⟨ds2, hx2⟩ : ∃ x, digD bs n2 0 = x := ⟨_, rfl⟩
  obtain ⟨x3, hx3⟩ : ∃ x, digD bs n3 0 = x := ⟨_, rfl⟩
  have hm1 : x1.length = n1 := by rw [← hx1, digD_len]
  have hm2 : ds2.length = n2 := by rw [← hx2, digD_len]
  have hm3 : x3.length = n3 := by rw [← hx3, digD_len]
  rw [hx1, hx2, hx3, hm1, hm2, hm3] at KN
  rw [hx3] at hz3
  rw [hx2] at hz2
  have HM2 := Lib.hid hm2
  have HM3 := Lib.hid hm3
  have hpw : ∀ n : Nat, n ≤ 8 → pw bs n ≤ 1000000000001 := fun n hn => Int.le_trans (pw_mono bs (by omega) n 8 hn) b3
  have HPW := Lib.hid hpw
  have HZ3 := Lib.hid hz3
  have HZ2 := Lib.hid hz2
  replace KN := Lib.hid KN
  clear hx1 hx2 hx3 hm1 hm2 hm3 b3 hpw hz3 hz2
  go_wp2_with fail
  refine KN.out.mono ?_; rintro e w6 ⟨E1, g1, A2, c2, A3, c3, rfl, hKn⟩
  have D6 := D5.kn (fun v hK => hK.join hKn)
  clear D5 hKn
  go_wp2_with fail
  refine Calls.dr (D6.al [.int .i64 bs, .slice E1 n1 g1, .int .i64 bs, .slice A2 n2 c2, .int .i64 bs, .slice A3 n3 c3, .int .i64 0] 32) ?_; intro w7 D7
  obtain ⟨g, hg⟩ : ∃ g, w6.heap.size = g := ⟨_, rfl⟩
  rw [hg] at D7 ⊢
  clear D6 hg
  refine (digits_dr b _ bs n1 w7 D7.src (by omega) (by omega) (by omega) (by omega)).mono ?_; rintro e w8 ⟨A1, c1, ds1, rfl, hd1, hdd1, h8⟩
  have D8 := D7.add h8
  have HV1 := Lib.hid (draw_vreg (b := bs) (ds := ds1) (by omega) (by omega) (by omega) (by omega) hdd1 (HPW.out _ (by omega)))
  clear D7 h8 hdd1
  obtain ⟨a1, a2, a3, -⟩ := (D8.front 1 rfl).cells
  go_upto_region 6 with fail
  refine Code.wp.dr ((D8.front 1 rfl).st 1 (.slice A1 n1 c1)) ?_; intro w9 D9
  clear a1 a2 a3 D8
  go_wp2_with fail
  refine (one_dr b _ 2 w9 D9.src (by omega)).mono ?_; rintro e w10 ⟨yes, rfl, h10⟩
  have D10 := D9.add h10
  clear D9 h10
  obtain ⟨a1, a2, a3, -⟩ := D10.cells
  rcases yes with _ | _
  · have D9 := (D10.sel [0, 2, 3, 1, 5] 99 (by decide) (by decide)).mono (M := N + 120) (by omega)
    have hv1 := HV1.out
    have hv2 := HZ2.out
    have hv3 := HZ3.out
    have hx2l := HM2.out
    have hx3l := HM3.out
    have hq2 := HPW.out n2 (by omega)
    have hq3 := HPW.out n3 (by omega)
    have hl12 := hl1.2.1
    clear HV1 HZ2 HZ3 HM2 HM3 HPW KN
    subst hd1
    subst hx2l
    subst hx3l
    obtain ⟨t, ht⟩ : ∃ t : Tri, t = ⟨⟨bs, ds1⟩, ⟨bs, ds2⟩, ⟨bs, x3⟩, 0⟩ := ⟨_, rfl⟩
    have ha : t.a.digits = ds1 ∧ t.a.base = bs ∧ t.b.digits = ds2 ∧ t.b.base = bs ∧ t.s.digits = x3 ∧ t.s.base = bs ∧ t.carry = 0 := by rw [ht]; exact ⟨rfl, rfl, rfl, rfl, rfl, rfl, rfl⟩
    have D9 : DR b (N + 120) w [.blk g [.int .i64 t.a.base, .slice A1 t.a.digits.length c1, .int .i64 t.b.base, .slice A2 t.b.digits.length c2, .int .i64 t.s.base, .slice A3 t.s.digits.length c3, .int .i64 t.carry] 32, rowI A3 c3 t.s.digits, rowI A2 c2 t.b.digits, rowI A1 c1 t.a.digits, .blk w.heap.size [.int .i64 0, .slice none 0 0, .int .i64 0, .slice none 0 0, .int .i64 0, .slice none 0 0, .int .i64 0] 32] w10 := by rw [ha.1, ha.2.1, ha.2.2.1, ha.2.2.2.1, ha.2.2.2.2.1, ha.2.2.2.2.2.1, ha.2.2.2.2.2.2]; exact D9
    obtain ⟨vp1, vp2⟩ : 1 ≤ vplaces t ∧ vplaces t ≤ 16 := by unfold vplaces; rw [ha.1, ha.2.2.1, ha.2.2.2.2.1]; omega
    have hok : ∀ p : Int, 0 ≤ p → p ≤ vplaces t - 1 → vmach { t with carry := p } = true := fun p p0 p1 => by
      subst ht
      exact vmach_mk (t := ⟨⟨bs, ds1⟩, ⟨bs, ds2⟩, ⟨bs, x3⟩, p⟩) hv1 hv2 hv3 rfl rfl hq2 hq3 hl12 p0 p1
    have HOK := Lib.hid hok
    have HLT := Lib.hid (show t.a.digits.length ≤ 16 ∧ t.b.digits.length ≤ 16 ∧ t.s.digits.length ≤ 16 by rw [ha.1, ha.2.2.1, ha.2.2.2.2.1]; omega)
    clear hok ht ha hv1 hv2 hv3 hq2 hq3
    have KP := Lib.hid (l10Places_any ⟨g, 0, none⟩ t w10 (DR.triC (m := [.blk w.heap.size [.int .i64 0, .slice none 0 0, .int .i64 0, .slice none 0 0, .int .i64 0, .slice none 0 0, .int .i64 0] 32]) D9).tri HLT.out.1 HLT.out.2.1 HLT.out.2.2)
    obtain ⟨a1, a2, a3, -⟩ := D9.cells
    go_wp2_with fail
    refine KP.out.mono ?_; rintro e w10 ⟨rfl, mq, rfl⟩
    have D10 := D9.kn (fun v hK => hK.drewN mq)
    clear a1 a2 a3
    go_wp2_with fail
    refine (pick_dr b (N + 120) (vplaces t) _ D10.src (by omega)).mono ?_; rintro e w11 ⟨y, rfl, hy, h11⟩
    have D11 := D10.add h11
    obtain ⟨p, rfl, hp⟩ := pickN vp1 hy
    clear D9 D10 h11 hy KP
    obtain ⟨a1, a2, a3, -⟩ := D11.cells
    go_upto_region 9 with fail
    refine Code.wp.dr (D11.st 6 (.int .i64 (p : Int))) ?_; intro w12 D12
    clear a1 a2 a3 D11
    go_wp2_with fail
    refine (pick_dr b _ 5 w12 D12.src (by omega)).mono ?_; rintro e w13 ⟨y, rfl, hy, h13⟩
    have D13 := D12.add h13
    obtain ⟨k0, rfl, hk0⟩ := pickN (by omega) hy
    have hV0 := Lib.hid (HOK.out (p : Int) (by omega) (by omega))
    clear D12 h13 hy HLT
    obtain ⟨a1, a2, a3, -⟩ := D13.cells
    go_wp2_with fail
    clear a1 a2 a3
    go_loopw [7] (fun kk wr => ∃ (k : Nat) (t : Tri) (A1 : Option Addr) (c1 : Nat) (A2 : Option Addr) (c2 : Nat) (A3 : Option Addr) (c3 : Nat), k ≤ 4 ∧ kk = .int .i64 (k : Int) ∧ Hid (vmach t = true) ∧ DR b (N + 140 - 2 * k) w [.blk g [.int .i64 t.a.base, .slice A1 t.a.digits.length c1, .int .i64 t.b.base, .slice A2 t.b.digits.length c2, .int .i64 t.s.base, .slice A3 t.s.digits.length c3, .int .i64 t.carry] 32, rowI A3 c3 t.s.digits, rowI A2 c2 t.b.digits, rowI A1 c1 t.a.digits, .blk w.heap.size [.int .i64 0, .slice none 0 0, .int .i64 0, .slice none 0 0, .int .i64 0, .slice none 0 0, .int .i64 0] 32] wr) (fun kk _ => (intOf kk).toNat)
    case atStart => exact ⟨k0, { t with carry := p }, A1, c1, A2, c2, A3, c3, by omega, rfl, hV0, D13.mono (by omega)⟩
    case round =>
      clear D13 hV0 HOK vp1 vp2
      obtain ⟨k, t, A1, c1, A2, c2, A3, c3, hk4, rfl, HV, D⟩ := hrel
      obtain ⟨a1, a2, a3, a4, a5, a6, -⟩ := D.cells
      by_cases hk0 : 0 < k
      · have i1 : (0 : Int) < (k : Int) := by omega
        clear a1 a2 a3 a4 a5 a6
        go_wp2_with fail
        refine (pick_dr b _ 4 wr D.src (by omega)).mono ?_; rintro e w14 ⟨y, rfl, hy, h14⟩
        have D14 := D.add h14
        obtain ⟨q, rfl, hq⟩ := pickN (by omega) hy
        obtain ⟨v, hT, hS, hK⟩ := D14
        have hqw : IntKind.i64.wrap (1 + (q : Int)) = 1 + (q : Int) := wrapI64 (by omega)
        have KD := Lib.hid (l10DoK (m := [.blk w.heap.size [.int .i64 0, .slice none 0 0, .int .i64 0, .slice none 0 0, .int .i64 0, .slice none 0 0, .int .i64 0] 32]) (rest := []) t (1 + (q : Int)) w14 ⟨A1, c1, A2, c2, A3, c3, hK⟩ HV.out (by omega))
        obtain ⟨r, hr⟩ : ∃ r, strokeT (1 + (q : Int)) t = r := ⟨_, rfl⟩
        have HVR := Lib.hid (show vmach r.1 = true by rw [← hr]; exact strokeT_ok _ HV.out)
        rw [hr] at KD
        have HT := Lib.hid hT
        have HS := Lib.hid hS
        clear h14 hy hr hT hS hK D
        go_wp2_with fail
        refine KD.out.mono ?_; rintro e w15 ⟨rfl, E1, f1, E2, f2, E3, f3, hM⟩
        go_wp2_with fail
        go_roundw
        case rel => exact ⟨k - 1, r.1, E1, f1, E2, f2, E3, f3, by omega, by go_num, HVR, DR.mono (N := N + 140 - 2 * k + 2) ⟨v, HT.out, HS.out, hM⟩ (by omega)⟩
        case measure => simp [intOf]; omega
      · have i1 : ¬ (0 : Int) < (k : Int) := by omega
        go_wp2_with fail
        refine bodyPost.dr ((((((((D.front 4 rfl).st 0 (.int .i64 t.a.base)).st 1 (.slice A1 t.a.digits.length c1)).st 2 (.int .i64 t.b.base)).st 3 (.slice A2 t.b.digits.length c2)).st 4 (.int .i64 t.s.base)).st 5 (.slice A3 t.s.digits.length c3)).st 6 (.int .i64 t.carry)) ?_; intro w16 D16
        clear a1 a2 a3 a4 a5 a6
        obtain ⟨a1, a2, a3, -⟩ := D16.cells
        refine bodyPost_ret (v := .agg #[.int .i64 t.a.base, .slice A1 t.a.digits.length c1, .int .i64 t.b.base, .slice A2 t.b.digits.length c2, .int .i64 t.s.base, .slice A3 t.s.digits.length c3, .int .i64 t.carry]) (by simp [results, Tryz.results87, go_sem, a1]) rfl ⟨t, A1, c1, A2, c2, A3, c3, rfl, HV.out, ?_⟩
        exact (D16.sel [2, 3, 4] 99 (by decide) (by decide)).mono (by omega)
  · clear HZ2 HM2
    go_wp2_with fail
    refine (digits_dr b _ bs n2 w10 D10.src (by omega) (by omega) (by omega) (by omega)).mono ?_; rintro e w11 ⟨A2, c2, ds2, rfl, hd2, hdd2, h11⟩
    have D11 := D10.add h11
    have HZ2 := Lib.hid (draw_vreg (b := bs) (ds := ds2) (by omega) (by omega) (by omega) (by omega) hdd2 (HPW.out _ (by omega)))
    have HM2 := Lib.hid hd2
    clear a1 a2 a3 h11 hdd2 hd2 D10
    obtain ⟨a1, a2, a3, -⟩ := (D11.front 1 rfl).cells
    go_upto_region 8 with fail
    refine Code.wp.dr ((D11.front 1 rfl).st 3 (.slice A2 n2 c2)) ?_; intro w12 D12
    have D9 := (D12.sel [0, 3, 1, 2, 6] 99 (by decide) (by decide)).mono (M := N + 120) (by omega)
    clear a1 a2 a3 D11 D12
    have hv1 := HV1.out
    have hv2 := HZ2.out
    have hv3 := HZ3.out
    have hx2l := HM2.out
    have hx3l := HM3.out
    have hq2 := HPW.out n2 (by omega)
    have hq3 := HPW.out n3 (by omega)
    have hl12 := hl1.2.1
    clear HV1 HZ2 HZ3 HM2 HM3 HPW KN
    subst hd1
    subst hx2l
    subst hx3l
    obtain ⟨t, ht⟩ : ∃ t : Tri, t = ⟨⟨bs, ds1⟩, ⟨bs, ds2⟩, ⟨bs, x3⟩, 0⟩ := ⟨_, rfl⟩
    have ha : t.a.digits = ds1 ∧ t.a.base = bs ∧ t.b.digits = ds2 ∧ t.b.base = bs ∧ t.s.digits = x3 ∧ t.s.base = bs ∧ t.carry = 0 := by rw [ht]; exact ⟨rfl, rfl, rfl, rfl, rfl, rfl, rfl⟩
    have D9 : DR b (N + 120) w [.blk g [.int .i64 t.a.base, .slice A1 t.a.digits.length c1, .int .i64 t.b.base, .slice A2 t.b.digits.length c2, .int .i64 t.s.base, .slice A3 t.s.digits.length c3, .int .i64 t.carry] 32, rowI A3 c3 t.s.digits, rowI A2 c2 t.b.digits, rowI A1 c1 t.a.digits, .blk w.heap.size [.int .i64 0, .slice none 0 0, .int .i64 0, .slice none 0 0, .int .i64 0, .slice none 0 0, .int .i64 0] 32] w12 := by rw [ha.1, ha.2.1, ha.2.2.1, ha.2.2.2.1, ha.2.2.2.2.1, ha.2.2.2.2.2.1, ha.2.2.2.2.2.2]; exact D9
    obtain ⟨vp1, vp2⟩ : 1 ≤ vplaces t ∧ vplaces t ≤ 16 := by unfold vplaces; rw [ha.1, ha.2.2.1, ha.2.2.2.2.1]; omega
    have hok : ∀ p : Int, 0 ≤ p → p ≤ vplaces t - 1 → vmach { t with carry := p } = true := fun p p0 p1 => by
      subst ht
      exact vmach_mk (t := ⟨⟨bs, ds1⟩, ⟨bs, ds2⟩, ⟨bs, x3⟩, p⟩) hv1 hv2 hv3 rfl rfl hq2 hq3 hl12 p0 p1
    have HOK := Lib.hid hok
    have HLT := Lib.hid (show t.a.digits.length ≤ 16 ∧ t.b.digits.length ≤ 16 ∧ t.s.digits.length ≤ 16 by rw [ha.1, ha.2.2.1, ha.2.2.2.2.1]; omega)
    clear hok ht ha hv1 hv2 hv3 hq2 hq3
    have KP := Lib.hid (l10Places_any ⟨g, 0, none⟩ t w12 (DR.triC (m := [.blk w.heap.size [.int .i64 0, .slice none 0 0, .int .i64 0, .slice none 0 0, .int .i64 0, .slice none 0 0, .int .i64 0] 32]) D9).tri HLT.out.1 HLT.out.2.1 HLT.out.2.2)
    obtain ⟨a1, a2, a3, -⟩ := D9.cells
    go_wp2_with fail
    refine KP.out.mono ?_; rintro e w10 ⟨rfl, mq, rfl⟩
    have D10 := D9.kn (fun v hK => hK.drewN mq)
    clear a1 a2 a3
    go_wp2_with fail
    refine (pick_dr b (N + 120) (vplaces t) _ D10.src (by omega)).mono ?_; rintro e w11 ⟨y, rfl, hy, h11⟩
    have D11 := D10.add h11
    obtain ⟨p, rfl, hp⟩ := pickN vp1 hy
    clear D9 D10 h11 hy KP
    obtain ⟨a1, a2, a3, -⟩ := D11.cells
    go_upto_region 9 with fail
    refine Code.wp.dr (D11.st 6 (.int .i64 (p : Int))) ?_; intro w12 D12
    clear a1 a2 a3 D11
    go_wp2_with fail
    refine (pick_dr b _ 5 w12 D12.src (by omega)).mono ?_; rintro e w13 ⟨y, rfl, hy, h13⟩
    have D13 := D12.add h13
    obtain ⟨k0, rfl, hk0⟩ := pickN (by omega) hy
    have hV0 := Lib.hid (HOK.out (p : Int) (by omega) (by omega))
    clear D12 h13 hy HLT
    obtain ⟨a1, a2, a3, -⟩ := D13.cells
    go_wp2_with fail
    clear a1 a2 a3
    go_loopw [7] (fun kk wr => ∃ (k : Nat) (t : Tri) (A1 : Option Addr) (c1 : Nat) (A2 : Option Addr) (c2 : Nat) (A3 : Option Addr) (c3 : Nat), k ≤ 4 ∧ kk = .int .i64 (k : Int) ∧ Hid (vmach t = true) ∧ DR b (N + 140 - 2 * k) w [.blk g [.int .i64 t.a.base, .slice A1 t.a.digits.length c1, .int .i64 t.b.base, .slice A2 t.b.digits.length c2, .int .i64 t.s.base, .slice A3 t.s.digits.length c3, .int .i64 t.carry] 32, rowI A3 c3 t.s.digits, rowI A2 c2 t.b.digits, rowI A1 c1 t.a.digits, .blk w.heap.size [.int .i64 0, .slice none 0 0, .int .i64 0, .slice none 0 0, .int .i64 0, .slice none 0 0, .int .i64 0] 32] wr) (fun kk _ => (intOf kk).toNat)
    case atStart => exact ⟨k0, { t with carry := p }, A1, c1, A2, c2, A3, c3, by omega, rfl, hV0, D13.mono (by omega)⟩
    case round =>
      clear D13 hV0 HOK vp1 vp2
      obtain ⟨k, t, A1, c1, A2, c2, A3, c3, hk4, rfl, HV, D⟩ := hrel
      obtain ⟨a1, a2, a3, a4, a5, a6, -⟩ := D.cells
      by_cases hk0 : 0 < k
      · have i1 : (0 : Int) < (k : Int) := by omega
        clear a1 a2 a3 a4 a5 a6
        go_wp2_with fail
        refine (pick_dr b _ 4 wr D.src (by omega)).mono ?_; rintro e w14 ⟨y, rfl, hy, h14⟩
        have D14 := D.add h14
        obtain ⟨q, rfl, hq⟩ := pickN (by omega) hy
        obtain ⟨v, hT, hS, hK⟩ := D14
        have hqw : IntKind.i64.wrap (1 + (q : Int)) = 1 + (q : Int) := wrapI64 (by omega)
        have KD := Lib.hid (l10DoK (m := [.blk w.heap.size [.int .i64 0, .slice none 0 0, .int .i64 0, .slice none 0 0, .int .i64 0, .slice none 0 0, .int .i64 0] 32]) (rest := []) t (1 + (q : Int)) w14 ⟨A1, c1, A2, c2, A3, c3, hK⟩ HV.out (by omega))
        obtain ⟨r, hr⟩ : ∃ r, strokeT (1 + (q : Int)) t = r := ⟨_, rfl⟩
        have HVR := Lib.hid (show vmach r.1 = true by rw [← hr]; exact strokeT_ok _ HV.out)
        rw [hr] at KD
        have HT := Lib.hid hT
        have HS := Lib.hid hS
        clear h14 hy hr hT hS hK D
        go_wp2_with fail
        refine KD.out.mono ?_; rintro e w15 ⟨rfl, E1, f1, E2, f2, E3, f3, hM⟩
        go_wp2_with fail
        go_roundw
        case rel => exact ⟨k - 1, r.1, E1, f1, E2, f2, E3, f3, by omega, by go_num, HVR, DR.mono (N := N + 140 - 2 * k + 2) ⟨v, HT.out, HS.out, hM⟩ (by omega)⟩
        case measure => simp [intOf]; omega
      · have i1 : ¬ (0 : Int) < (k : Int) := by omega
        go_wp2_with fail
        refine bodyPost.dr ((((((((D.front 4 rfl).st 0 (.int .i64 t.a.base)).st 1 (.slice A1 t.a.digits.length c1)).st 2 (.int .i64 t.b.base)).st 3 (.slice A2 t.b.digits.length c2)).st 4 (.int .i64 t.s.base)).st 5 (.slice A3 t.s.digits.length c3)).st 6 (.int .i64 t.carry)) ?_; intro w16 D16
        clear a1 a2 a3 a4 a5 a6
        obtain ⟨a1, a2, a3, -⟩ := D16.cells
        refine bodyPost_ret (v := .agg #[.int .i64 t.a.base, .slice A1 t.a.digits.length c1, .int .i64 t.b.base, .slice A2 t.b.digits.length c2, .int .i64 t.s.base, .slice A3 t.s.digits.length c3, .int .i64 t.carry]) (by simp [results, Tryz.results87, go_sem, a1]) rfl ⟨t, A1, c1, A2, c2, A3, c3, rfl, HV.out, ?_⟩
        exact (D16.sel [2, 3, 4] 99 (by decide) (by decide)).mono (by omega)
end Go.Proofs.YtafnebpbfmbgiaaGreatDoor

/-! the draws of programs: l11Nest, l11Some, l11Draw (for FnRuns, FnPacked and others) -/
namespace Go.Proofs.YtafnebpbfmbgiaaGreatDoor
open Go.RowKit Go.Sort
section
variable {ops : Array Oper} {rest : List Oper} {o : Oper} {a : Act} {Q : Exit → Act → World → Prop} {w0 w : World} {m : List Ent}
/-- append(s, x..), x an own row that is not nil but may be empty -/
theorem kn_appZ {t e : TypeId} {z : Value} {size bytes : Nat} (T : TP t e z size bytes) (hgd : o.guard = none) (s x : Operand) (ho : o.op = .call { callee := .builtin .append, args := #[s, x], argTypes := #[t, t] })
    (v : Value) (n : Nat) (xs : List Value) (hs : a.eval s = v) (hb0 : v.ownBlock ≠ none) {ad : Addr} {c k : Nat} {l : List Value} (hx : a.eval x = .slice (some ad) k c)
    (hK : Kn w0 (.row (.slice (some ad) k c) e size k l :: .row v e size n xs :: m) w) (h1 : ∀ u ∈ l, u.oneCell' = true)
    (h63 : n + k ≤ 1000000000000000) (hb : (n + k) * bytes ≤ 140737488355328)
    (h : ∀ v' w', v'.ownBlock ≠ none → Kn w0 (.row v' e size (n + k) (xs ++ l) :: .row (.slice (some ad) k c) e size k l :: m) w' → wpList Tryz.prog ops Q rest (a.put o.dst v') w') : wpList Tryz.prog ops Q (o :: rest) a w := by
  have hK2 := hK.sw1
  have h0 : w.ownsRow 0 e size (.slice (some ad) k c) k l := hK.at0
  rcases h0.2 with ⟨hv, _⟩ | ⟨g, cap, cur, hv, -, hg, -⟩
  · cases hv
  injection hv with hv _ _
  injection hv with hv
  subst hv
  refine appG T hgd s x ho 0 v n xs hs hK2.at0 ⟨g, 0, none⟩ k c l hx h0.1 (fun j u hu => h0.cells (g := g) rfl j u hu) h1 h63 hb (Nat.zero_le _) (fun v' w' ho' hg hv => ?_)
  refine h v' w' ?_ (hK2.grow hg ho' hv)
  rcases hv with hv | hv <;> rw [hv]
  · exact hb0
  · simp
end
theorem row_some {w : World} {b : Nat} {e : TypeId} {size n : Nat} {v : Value} {xs : List Value} (h : w.ownsRow b e size v n xs) (hv : v.ownBlock ≠ none) : ∃ g c, v = .slice (some ⟨g, 0, none⟩) n c := by
  rcases h.2 with ⟨rfl, h2⟩ | ⟨g, cap, cur, rfl, -⟩
  · exact absurd rfl hv
  · exact ⟨_, _, rfl⟩
theorem row_pos {w : World} {b : Nat} {e : TypeId} {size n : Nat} {v : Value} {xs : List Value} (h : w.ownsRow b e size v n xs) (hn : 0 < n) : ∃ g c, v = .slice (some ⟨g, 0, none⟩) n c := by
  rcases h.2 with ⟨rfl, h2⟩ | ⟨g, cap, cur, rfl, -⟩
  · omega
  · exact ⟨_, _, rfl⟩
/-- instructions that are not nil -/
def InsRet (L : Nat) (w : World) (e : Ending) (w' : World) : Prop := ∃ (g c : Nat) (xs : List Ins), e = .returned (.slice (some ⟨g, 0, none⟩) xs.length c) ∧ xs.length ≤ L ∧ Kn w [rowIns (.slice (some ⟨g, 0, none⟩) xs.length c) xs] w'
set_option maxRecDepth 100000 in
set_option maxHeartbeats 1600000 in
theorem l11Nest_any (d : Nat) (t : Int) (w : World) (hd : d ≤ 5) : Calls Tryz.prog 97 #[.int .i64 d, .int .i64 t] w (InsRet 11 w) := by
  unfold InsRet
  go_enter Tryz.func97, Tryz.ntmps97
  go_wp2_with fail
  have hK1 : Kn w [rowIns (.slice (some ⟨w.heap.size, 0, none⟩) 0 0) []] (w.alloc (.cells #[] 93)) := ((Kn.nil w).al [] 93).litRow (size := 2) (n := 0) rfl (by decide)
  go_loopw [5, 6] (fun vv kk wr => ∃ (j : Nat) (g c : Nat) (xs : List Ins), kk = .int .i64 (j : Int) ∧ xs.length + j ≤ d ∧ vv = .slice (some ⟨g, 0, none⟩) xs.length c ∧ Kn w [rowIns (.slice (some ⟨g, 0, none⟩) xs.length c) xs] wr) (fun _ kk _ => (intOf kk).toNat)
  case atStart => exact ⟨d, _, 0, [], rfl, by simp, rfl, hK1⟩
  case round =>
    clear hK1
    obtain ⟨j, g, c, xs, rfl, hj, rfl, hK⟩ := hrel
    by_cases h0 : 0 < j
    · have i1 : (0 : Int) < (j : Int) := by omega
      have i2 : (j : Int) > 0 := i1
      go_wp2_with (at_builtin; refine kn_pushIns (m := []) (ys := [⟨8, t⟩]) rfl _ _ rfl _ xs rfl rfl (hK.al [.int .i64 8, .int .i64 t] 93) (by simp; omega) ?_; intro v2 w2 hK2; obtain ⟨g5, c5, rfl⟩ := row_pos hK2.at0 (by simp))
      go_roundw
      case rel => exact ⟨j - 1, g5, c5, xs ++ [⟨8, t⟩], by go_num, by simp; omega, by simp, hK2⟩
      case measure => simp [intOf]; omega
    · have i1 : ¬ (j : Int) > 0 := by omega
      go_wp2_with (at_builtin; refine kn_pushIns (m := []) (ys := [⟨2, 1⟩]) rfl _ _ rfl _ xs rfl rfl (hK.al [.int .i64 2, .int .i64 1] 93) (by simp; omega) ?_; intro v2 w2 hK2; obtain ⟨g5, c5, rfl⟩ := row_pos hK2.at0 (by simp))
      obtain ⟨ys, hys⟩ : ∃ ys, xs ++ [(⟨2, 1⟩ : Ins)] = ys := ⟨_, rfl⟩
      have hyn : ys.length = xs.length + 1 := by rw [← hys]; simp
      rw [hys] at hK2
      rw [← hyn]
      have hyl : ys.length ≤ d + 1 := by omega
      clear hys hyn hK
      go_loopw [5, 7] (fun vv kk wr => ∃ (j : Nat) (g c : Nat) (zs : List Ins), kk = .int .i64 (j : Int) ∧ zs.length + j ≤ 2 * d + 1 ∧ vv = .slice (some ⟨g, 0, none⟩) zs.length c ∧ Kn w [rowIns (.slice (some ⟨g, 0, none⟩) zs.length c) zs] wr) (fun _ kk _ => (intOf kk).toNat)
      case atStart => exact ⟨d, g5, c5, ys, rfl, by omega, rfl, hK2⟩
      case round =>
        clear hK2
        obtain ⟨i, g, c, zs, rfl, hi, rfl, hK⟩ := hrel
        by_cases h0 : 0 < i
        · have i1 : (0 : Int) < (i : Int) := by omega
          have i2 : (i : Int) > 0 := i1
          go_wp2_with (at_builtin; refine kn_pushIns (m := []) (ys := [⟨10, 0⟩]) rfl _ _ rfl _ zs rfl rfl (hK.al [.int .i64 10, .int .i64 0] 93) (by simp; omega) ?_; intro v2 w2 hK2; obtain ⟨g5, c5, rfl⟩ := row_pos hK2.at0 (by simp))
          go_roundw
          case rel => exact ⟨i - 1, g5, c5, zs ++ [⟨10, 0⟩], by go_num, by simp; omega, by simp, hK2⟩
          case measure => simp [intOf]; omega
        · have i1 : ¬ (i : Int) > 0 := by omega
          go_wp2_with fail
          go_ret
          exact ⟨g, c, zs, rfl, by omega, hK⟩
end Go.Proofs.YtafnebpbfmbgiaaGreatDoor

namespace Go.Proofs.YtafnebpbfmbgiaaGreatDoor
open Go.RowKit Go.Sort
/-- drawn instructions -/
def DIns (b M L : Nat) (w : World) (e : Ending) (w' : World) : Prop := ∃ (g c : Nat) (xs : List Ins), e = .returned (.slice (some ⟨g, 0, none⟩) xs.length c) ∧ xs.length ≤ L ∧ DR b M w [rowIns (.slice (some ⟨g, 0, none⟩) xs.length c) xs] w'
set_option maxRecDepth 100000 in
set_option maxHeartbeats 3200000 in
theorem l11Some0_dr (b N : Nat) (w : World) (h : Src w b N) (hN : N ≤ 700000) : Calls Tryz.prog 135 #[.pointer (some ⟨b, 0, none⟩), .int .i64 0] w (DIns b (N + (4 + 4 * (8 + 0))) (4 * (2 + 0)) w) := by
  unfold DIns
  have D0 := DR.nil h
  clear h
  go_enter Tryz.func135, Tryz.ntmps135
  go_wp2_with fail
  refine Calls.dr (D0.al [] 93) ?_; intro w1 D1
  obtain ⟨g, hg⟩ : ∃ g, w.heap.size = g := ⟨_, rfl⟩
  rw [hg] at D1 ⊢
  have D2 : DR b _ w [rowIns (.slice (some ⟨g, 0, none⟩) 0 0) []] w1 := D1.kn (fun v hK => hK.litRow (size := 2) (n := 0) rfl (by decide))
  clear D0 D1 hg
  refine (pick_dr b _ 4 w1 D2.src (by omega)).mono ?_; rintro e w5 ⟨x, rfl, hx, h5⟩
  have D6 : DR b _ w [rowIns (.slice (some ⟨g, 0, none⟩) 0 0) []] w5 := D2.add h5
  clear D2 h5
  obtain ⟨q, rfl⟩ : ∃ q : Nat, x = q := ⟨x.toNat, by omega⟩
  have hq : q ≤ 3 := by rcases hx.2 with h | h <;> omega
  have hw1 : IntKind.i64.wrap (1 + (q : Int)) = ((q + 1 : Nat) : Int) := by rw [wrapI64 (by omega)]; omega
  clear hx
  go_wp2_with fail
  go_loopw [5, 6] (fun vv kk wr => ∃ (k : Nat) (g c : Nat) (xs : List Ins), kk = .int .i64 (k : Int) ∧ k ≤ 4 ∧ xs.length ≤ (4 - k) * (2 + 0) ∧ vv = .slice (some ⟨g, 0, none⟩) xs.length c ∧ DR b (N + 2 + (4 - k) * (8 + 0)) w [rowIns (.slice (some ⟨g, 0, none⟩) xs.length c) xs] wr) (fun _ kk _ => (intOf kk).toNat)
  case atStart => exact ⟨q + 1, g, 0, [], by go_num, by omega, by simp, rfl, D6.mono (by omega)⟩
  case round =>
    clear D6 hw1 hq
    obtain ⟨k, g, c, xs, rfl, hk4, hxl, rfl, D⟩ := hrel
    by_cases hk : 0 < k
    · have i1 : (0 : Int) < (k : Int) := by omega
      have i2 : (k : Int) > 0 := i1
      go_wp2_with fail
      refine Calls.dr (D.al [.int .i64 2, .int .i64 2, .int .i64 3, .int .i64 4, .int .i64 5, .int .i64 1, .int .i64 8, .int .i64 9, .int .i64 6, .int .i64 7] 2) ?_; intro w6 D6
      obtain ⟨hr, hA⟩ := DR.lit (ds := [2, 2, 3, 4, 5, 1, 8, 9, 6, 7]) D6 (by decide)
      refine (among_dr b _ _ 10 10 _ w6 D6.src (by omega) hr hA (by omega) (by omega)).mono ?_; rintro e w7 ⟨x, rfl, hx, h7⟩
      have D7 : DR b _ w [rowIns (.slice (some ⟨g, 0, none⟩) xs.length c) xs] w7 := (D6.add h7).sel [1] 99 (by decide) (by decide)
      clear hr hA D D6 h7
      have hx2 : x = 8 ∨ x = 9 ∨ x = 1 ∨ (2 ≤ x ∧ x ≤ 5) ∨ x = 6 ∨ x = 7 := by simp at hx; omega
      clear hx
      rcases hx2 with rfl | rfl | rfl | hx2 | hx2
      · have ho : opens 8 = true := rfl
        rcases Nat.eq_zero_or_pos 0 with hz | hz
        · first
            | (exact absurd hz (by decide))
            | (go_wp2_with (go_at_call 109; refine (l11Opens_any _ _).mono ?_; rintro e w' ⟨rfl, rfl⟩; rw [ho])
               go_roundw
               case rel => exact ⟨k - 1, g, c, xs, by go_num, by omega, by omega, rfl, D7.mono (by omega)⟩
               case measure => simp [intOf]; omega)
        · first
            | (exact absurd hz (by decide))
            | (go_wp2_with (go_at_call 109; refine (l11Opens_any _ _).mono ?_; rintro e w' ⟨rfl, rfl⟩; rw [ho])
               refine Calls.dr (D7.al [.int .i64 8, .int .i64 0] 93) ?_; intro w8 D8
               obtain ⟨gx, hgx⟩ : ∃ g, w7.heap.size = g := ⟨_, rfl⟩
               rw [hgx] at D8 ⊢
               clear hgx D7
               refine (pick_dr b _ 4 w8 D8.src (by omega)).mono ?_; rintro e w9 ⟨y, rfl, hy, h9⟩
               have D9 : DR b _ w [.blk gx [.int .i64 8, .int .i64 0] 93, rowIns (.slice (some ⟨g, 0, none⟩) xs.length c) xs] w9 := D8.add h9
               clear D8 h9
               obtain ⟨r, hr⟩ : ∃ r, 1 + y = r := ⟨_, rfl⟩
               have hw1 : IntKind.i64.wrap (1 + y) = r := by rw [wrapI64 (by omega)]; exact hr
               clear hy hr
               obtain ⟨a1, a2, a3, -⟩ := D9.cells
               go_upto_region 13 with fail
               refine Code.wp.dr (D9.st 1 (.int .i64 r)) ?_; intro w10 D10
               clear a1 a2 a3 D9
               obtain ⟨a1, a2, a3, -⟩ := D10.cells
               obtain ⟨v, hT, hS, hK⟩ := D10.front 1 rfl
               go_wp2_with (at_builtin; refine kn_pushIns (ys := [⟨8, r⟩]) rfl _ _ rfl _ xs rfl rfl (hK.al [.int .i64 8, .int .i64 r] 93) (by simp; omega) ?_; intro v9 w11 hK9; obtain ⟨g5, c5, rfl⟩ := row_pos hK9.at0 (by simp))
               clear a1 a2 a3 D10
               have D11 : DR b _ w [rowIns (.slice (some ⟨g5, 0, none⟩) (xs ++ [(⟨8, r⟩ : Ins)]).length c5) (xs ++ [(⟨8, r⟩ : Ins)])] w11 := DR.sel ⟨v, hT, hS, hK9⟩ [0] 99 (by decide) (by decide)
               clear hT hS hK9 hK
               obtain ⟨ys, hys⟩ : ∃ ys, xs ++ [(⟨8, r⟩ : Ins)] = ys := ⟨_, rfl⟩
               have hyn : ys.length = xs.length + 1 := by rw [← hys]; simp
               rw [hys] at D11
               try rw [← hyn]
               have hyl : ys.length ≤ (4 - k) * (2 + 0) + 1 := by omega
               clear hys hyn
               have KR := Lib.hid (l11Some0_dr b _ w11 D11.src (by omega))
               unfold DIns at KR
               refine KR.out.mono ?_; rintro e w12 ⟨g6, c6, zs, rfl, hzl, h12⟩
               obtain ⟨v, hT, hS, hK⟩ : DR b _ w [rowIns (.slice (some ⟨g6, 0, none⟩) zs.length c6) zs, rowIns (.slice (some ⟨g5, 0, none⟩) ys.length c5) ys] w12 := D11.add h12
               clear h12 KR D11
               go_wp2_with (first
                 | (at_builtin; refine kn_appZ tpIns rfl _ _ rfl (.slice (some ⟨g5, 0, none⟩) ys.length c5) ys.length (cellsIns ys) rfl (by simp [Value.ownBlock]) rfl hK (cellsIns_one zs) (by omega) (by omega) ?_; intro v13 w13 hb13 hK13; have hK14 : Kn v (rowIns v13 (ys ++ zs) :: _) w13 := (by unfold rowIns; rw [List.length_append, cellsIns_app]; exact hK13); obtain ⟨g7, c7, rfl⟩ := row_some hK14.at0 hb13)
                 | (at_builtin; refine kn_pushIns (ys := [⟨10, 0⟩]) rfl _ _ rfl _ (ys ++ zs) (by rw [List.length_append]; rfl) rfl (hK14.al [.int .i64 10, .int .i64 0] 93) (by simp; omega) ?_; intro v15 w15 hK15; obtain ⟨g8, c8, rfl⟩ := row_pos hK15.at0 (by simp; omega)))
               go_roundw
               case rel => exact ⟨k - 1, g8, c8, ys ++ zs ++ [⟨10, 0⟩], by go_num, by omega, (by rw [List.length_append, List.length_append, List.length_singleton]; omega), by simp, (DR.sel (show DR b _ w _ _ from ⟨v, hT, hS, hK15⟩) [0] 99 (by decide) (by decide)).mono (by omega)⟩
               case measure => simp [intOf]; omega)
      · have ho : opens 9 = true := rfl
        rcases Nat.eq_zero_or_pos 0 with hz | hz
        · first
            | (exact absurd hz (by decide))
            | (go_wp2_with (go_at_call 109; refine (l11Opens_any _ _).mono ?_; rintro e w' ⟨rfl, rfl⟩; rw [ho])
               go_roundw
               case rel => exact ⟨k - 1, g, c, xs, by go_num, by omega, by omega, rfl, D7.mono (by omega)⟩
               case measure => simp [intOf]; omega)
        · first
            | (exact absurd hz (by decide))
            | (go_upto_region 13 with (go_at_call 109; refine (l11Opens_any _ _).mono ?_; rintro e w' ⟨rfl, rfl⟩; rw [ho])
               refine Code.wp.dr (D7.al [.int .i64 9, .int .i64 0] 93) ?_; intro w10 D10
               obtain ⟨gx, hgx⟩ : ∃ g, w7.heap.size = g := ⟨_, rfl⟩
               rw [hgx] at D10 ⊢
               clear hgx D7
               obtain ⟨a1, a2, a3, -⟩ := D10.cells
               obtain ⟨v, hT, hS, hK⟩ := D10.front 1 rfl
               go_wp2_with (at_builtin; refine kn_pushIns (ys := [⟨9, 0⟩]) rfl _ _ rfl _ xs rfl rfl (hK.al [.int .i64 9, .int .i64 0] 93) (by simp; omega) ?_; intro v9 w11 hK9; obtain ⟨g5, c5, rfl⟩ := row_pos hK9.at0 (by simp))
               clear a1 a2 a3 D10
               have D11 : DR b _ w [rowIns (.slice (some ⟨g5, 0, none⟩) (xs ++ [(⟨9, 0⟩ : Ins)]).length c5) (xs ++ [(⟨9, 0⟩ : Ins)])] w11 := DR.sel ⟨v, hT, hS, hK9⟩ [0] 99 (by decide) (by decide)
               clear hT hS hK9 hK
               obtain ⟨ys, hys⟩ : ∃ ys, xs ++ [(⟨9, 0⟩ : Ins)] = ys := ⟨_, rfl⟩
               have hyn : ys.length = xs.length + 1 := by rw [← hys]; simp
               rw [hys] at D11
               try rw [← hyn]
               have hyl : ys.length ≤ (4 - k) * (2 + 0) + 1 := by omega
               clear hys hyn
               have KR := Lib.hid (l11Some0_dr b _ w11 D11.src (by omega))
               unfold DIns at KR
               refine KR.out.mono ?_; rintro e w12 ⟨g6, c6, zs, rfl, hzl, h12⟩
               obtain ⟨v, hT, hS, hK⟩ : DR b _ w [rowIns (.slice (some ⟨g6, 0, none⟩) zs.length c6) zs, rowIns (.slice (some ⟨g5, 0, none⟩) ys.length c5) ys] w12 := D11.add h12
               clear h12 KR D11
               go_wp2_with (first
                 | (at_builtin; refine kn_appZ tpIns rfl _ _ rfl (.slice (some ⟨g5, 0, none⟩) ys.length c5) ys.length (cellsIns ys) rfl (by simp [Value.ownBlock]) rfl hK (cellsIns_one zs) (by omega) (by omega) ?_; intro v13 w13 hb13 hK13; have hK14 : Kn v (rowIns v13 (ys ++ zs) :: _) w13 := (by unfold rowIns; rw [List.length_append, cellsIns_app]; exact hK13); obtain ⟨g7, c7, rfl⟩ := row_some hK14.at0 hb13)
                 | (at_builtin; refine kn_pushIns (ys := [⟨10, 0⟩]) rfl _ _ rfl _ (ys ++ zs) (by rw [List.length_append]; rfl) rfl (hK14.al [.int .i64 10, .int .i64 0] 93) (by simp; omega) ?_; intro v15 w15 hK15; obtain ⟨g8, c8, rfl⟩ := row_pos hK15.at0 (by simp; omega)))
               go_roundw
               case rel => exact ⟨k - 1, g8, c8, ys ++ zs ++ [⟨10, 0⟩], by go_num, by omega, (by rw [List.length_append, List.length_append, List.length_singleton]; omega), by simp, (DR.sel (show DR b _ w _ _ from ⟨v, hT, hS, hK15⟩) [0] 99 (by decide) (by decide)).mono (by omega)⟩
               case measure => simp [intOf]; omega)
      · have ho : opens 1 = false := rfl
        go_wp2_with (go_at_call 109; refine (l11Opens_any _ _).mono ?_; rintro e w' ⟨rfl, rfl⟩; rw [ho])
        refine (pick_dr b _ 30 w7 D7.src (by omega)).mono ?_; rintro e w8 ⟨y, rfl, hy, h8⟩
        obtain ⟨v, hT, hS, hK⟩ : DR b _ w [rowIns (.slice (some ⟨g, 0, none⟩) xs.length c) xs] w8 := D7.add h8
        clear h8 D7 hy
        go_wp2_with (at_builtin; refine kn_pushIns (ys := [⟨1, y⟩]) rfl _ _ rfl _ xs rfl rfl (hK.al [.int .i64 (1), .int .i64 (y)] 93) (by simp; omega) ?_; intro v9 w9 hK9; obtain ⟨g5, c5, rfl⟩ := row_pos hK9.at0 (by simp))
        go_roundw
        case rel => exact ⟨k - 1, g5, c5, xs ++ [⟨1, y⟩], by go_num, by omega, by simp; omega, by simp, (show DR b _ w _ _ from ⟨v, hT, hS, hK9⟩).mono (by omega)⟩
        case measure => simp [intOf]; omega
      · have ho : opens x = false := by unfold opens; simp; omega
        have e1 : (x == 1) = false := by simp; omega
        have e2 : x < 6 := by omega
        go_wp2_with (go_at_call 109; refine (l11Opens_any _ _).mono ?_; rintro e w' ⟨rfl, rfl⟩; rw [ho])
        refine (pick_dr b _ 4 w7 D7.src (by omega)).mono ?_; rintro e w8 ⟨y, rfl, hy, h8⟩
        have D8 : DR b _ w [rowIns (.slice (some ⟨g, 0, none⟩) xs.length c) xs] w8 := D7.add h8
        clear h8 D7
        go_wp2_with fail
        refine (pick_dr b _ 2 w8 D8.src (by omega)).mono ?_; rintro e w9 ⟨z, rfl, hz, h9⟩
        obtain ⟨v, hT, hS, hK⟩ : DR b _ w [rowIns (.slice (some ⟨g, 0, none⟩) xs.length c) xs] w9 := D8.add h9
        clear h9 D8
        obtain ⟨r, hr⟩ : ∃ r, 1 + y * z = r := ⟨_, rfl⟩
        have hz2 : z = 0 ∨ z = 1 := by omega
        have hyz : 0 ≤ y * z ∧ y * z ≤ 3 := by rcases hz2 with rfl | rfl <;> omega
        have hw1 : IntKind.i64.wrap (y * z) = y * z := wrapI64 (by omega)
        have hw2 : IntKind.i64.wrap (1 + y * z) = r := by rw [wrapI64 (by omega)]; exact hr
        clear hz2 hyz hr hy hz
        go_wp2_with (at_builtin; refine kn_pushIns (ys := [⟨x, r⟩]) rfl _ _ rfl _ xs rfl rfl (hK.al [.int .i64 (x), .int .i64 (r)] 93) (by simp; omega) ?_; intro v9 w9 hK9; obtain ⟨g5, c5, rfl⟩ := row_pos hK9.at0 (by simp))
        go_roundw
        case rel => exact ⟨k - 1, g5, c5, xs ++ [⟨x, r⟩], by go_num, by omega, by simp; omega, by simp, (show DR b _ w _ _ from ⟨v, hT, hS, hK9⟩).mono (by omega)⟩
        case measure => simp [intOf]; omega
      · have ho : opens x = false := by rcases hx2 with rfl | rfl <;> rfl
        have e1 : (x == 1) = false := by simp; omega
        have e2 : ¬ x < 6 := by omega
        go_wp2_with (go_at_call 109; refine (l11Opens_any _ _).mono ?_; rintro e w' ⟨rfl, rfl⟩; rw [ho])
        refine (one_dr b _ 3 w7 D7.src (by omega)).mono ?_; rintro e w8 ⟨y, rfl, h8⟩
        have D8 : DR b _ w [rowIns (.slice (some ⟨g, 0, none⟩) xs.length c) xs] w8 := D7.add h8
        clear h8 D7
        rcases y with _ | _
        · go_wp2_with fail
          go_roundw
          case rel => exact ⟨k - 1, g, c, xs, by go_num, by omega, by omega, rfl, D8.mono (by omega)⟩
          case measure => simp [intOf]; omega
        · obtain ⟨v, hT, hS, hK⟩ := D8
          go_wp2_with (at_builtin; refine kn_pushIns (ys := [⟨x, 0⟩]) rfl _ _ rfl _ xs rfl rfl (hK.al [.int .i64 (x), .int .i64 (0)] 93) (by simp; omega) ?_; intro v9 w9 hK9; obtain ⟨g5, c5, rfl⟩ := row_pos hK9.at0 (by simp))
          go_roundw
          case rel => exact ⟨k - 1, g5, c5, xs ++ [⟨x, 0⟩], by go_num, by omega, by simp; omega, by simp, (show DR b _ w _ _ from ⟨v, hT, hS, hK9⟩).mono (by omega)⟩
          case measure => simp [intOf]; omega
    · have i1 : ¬ (k : Int) > 0 := by omega
      go_wp2_with fail
      go_ret
      exact ⟨g, c, xs, rfl, by omega, D.mono (by omega)⟩
set_option maxRecDepth 100000 in
set_option maxHeartbeats 3200000 in
theorem l11Some1_dr (b N : Nat) (w : World) (h : Src w b N) (hN : N ≤ 650000) : Calls Tryz.prog 135 #[.pointer (some ⟨b, 0, none⟩), .int .i64 1] w (DIns b (N + (4 + 4 * (8 + 36))) (4 * (2 + 8)) w) := by
  unfold DIns
  have D0 := DR.nil h
  clear h
  go_enter Tryz.func135, Tryz.ntmps135
  go_wp2_with fail
  refine Calls.dr (D0.al [] 93) ?_; intro w1 D1
  obtain ⟨g, hg⟩ : ∃ g, w.heap.size = g := ⟨_, rfl⟩
  rw [hg] at D1 ⊢
  have D2 : DR b _ w [rowIns (.slice (some ⟨g, 0, none⟩) 0 0) []] w1 := D1.kn (fun v hK => hK.litRow (size := 2) (n := 0) rfl (by decide))
  clear D0 D1 hg
  refine (pick_dr b _ 4 w1 D2.src (by omega)).mono ?_; rintro e w5 ⟨x, rfl, hx, h5⟩
  have D6 : DR b _ w [rowIns (.slice (some ⟨g, 0, none⟩) 0 0) []] w5 := D2.add h5
  clear D2 h5
  obtain ⟨q, rfl⟩ : ∃ q : Nat, x = q := ⟨x.toNat, by omega⟩
  have hq : q ≤ 3 := by rcases hx.2 with h | h <;> omega
  have hw1 : IntKind.i64.wrap (1 + (q : Int)) = ((q + 1 : Nat) : Int) := by rw [wrapI64 (by omega)]; omega
  clear hx
  go_wp2_with fail
  go_loopw [5, 6] (fun vv kk wr => ∃ (k : Nat) (g c : Nat) (xs : List Ins), kk = .int .i64 (k : Int) ∧ k ≤ 4 ∧ xs.length ≤ (4 - k) * (2 + 8) ∧ vv = .slice (some ⟨g, 0, none⟩) xs.length c ∧ DR b (N + 2 + (4 - k) * (8 + 36)) w [rowIns (.slice (some ⟨g, 0, none⟩) xs.length c) xs] wr) (fun _ kk _ => (intOf kk).toNat)
  case atStart => exact ⟨q + 1, g, 0, [], by go_num, by omega, by simp, rfl, D6.mono (by omega)⟩
  case round =>
    clear D6 hw1 hq
    obtain ⟨k, g, c, xs, rfl, hk4, hxl, rfl, D⟩ := hrel
    by_cases hk : 0 < k
    · have i1 : (0 : Int) < (k : Int) := by omega
      have i2 : (k : Int) > 0 := i1
      go_wp2_with fail
      refine Calls.dr (D.al [.int .i64 2, .int .i64 2, .int .i64 3, .int .i64 4, .int .i64 5, .int .i64 1, .int .i64 8, .int .i64 9, .int .i64 6, .int .i64 7] 2) ?_; intro w6 D6
      obtain ⟨hr, hA⟩ := DR.lit (ds := [2, 2, 3, 4, 5, 1, 8, 9, 6, 7]) D6 (by decide)
      refine (among_dr b _ _ 10 10 _ w6 D6.src (by omega) hr hA (by omega) (by omega)).mono ?_; rintro e w7 ⟨x, rfl, hx, h7⟩
      have D7 : DR b _ w [rowIns (.slice (some ⟨g, 0, none⟩) xs.length c) xs] w7 := (D6.add h7).sel [1] 99 (by decide) (by decide)
      clear hr hA D D6 h7
      have hx2 : x = 8 ∨ x = 9 ∨ x = 1 ∨ (2 ≤ x ∧ x ≤ 5) ∨ x = 6 ∨ x = 7 := by simp at hx; omega
      clear hx
      rcases hx2 with rfl | rfl | rfl | hx2 | hx2
      · have ho : opens 8 = true := rfl
        rcases Nat.eq_zero_or_pos 1 with hz | hz
        · first
            | (exact absurd hz (by decide))
            | (go_wp2_with (go_at_call 109; refine (l11Opens_any _ _).mono ?_; rintro e w' ⟨rfl, rfl⟩; rw [ho])
               go_roundw
               case rel => exact ⟨k - 1, g, c, xs, by go_num, by omega, by omega, rfl, D7.mono (by omega)⟩
               case measure => simp [intOf]; omega)
        · first
            | (exact absurd hz (by decide))
            | (go_wp2_with (go_at_call 109; refine (l11Opens_any _ _).mono ?_; rintro e w' ⟨rfl, rfl⟩; rw [ho])
               refine Calls.dr (D7.al [.int .i64 8, .int .i64 0] 93) ?_; intro w8 D8
               obtain ⟨gx, hgx⟩ : ∃ g, w7.heap.size = g := ⟨_, rfl⟩
               rw [hgx] at D8 ⊢
               clear hgx D7
               refine (pick_dr b _ 4 w8 D8.src (by omega)).mono ?_; rintro e w9 ⟨y, rfl, hy, h9⟩
               have D9 : DR b _ w [.blk gx [.int .i64 8, .int .i64 0] 93, rowIns (.slice (some ⟨g, 0, none⟩) xs.length c) xs] w9 := D8.add h9
               clear D8 h9
               obtain ⟨r, hr⟩ : ∃ r, 1 + y = r := ⟨_, rfl⟩
               have hw1 : IntKind.i64.wrap (1 + y) = r := by rw [wrapI64 (by omega)]; exact hr
               clear hy hr
               obtain ⟨a1, a2, a3, -⟩ := D9.cells
               go_upto_region 13 with fail
               refine Code.wp.dr (D9.st 1 (.int .i64 r)) ?_; intro w10 D10
               clear a1 a2 a3 D9
               obtain ⟨a1, a2, a3, -⟩ := D10.cells
               obtain ⟨v, hT, hS, hK⟩ := D10.front 1 rfl
               go_wp2_with (at_builtin; refine kn_pushIns (ys := [⟨8, r⟩]) rfl _ _ rfl _ xs rfl rfl (hK.al [.int .i64 8, .int .i64 r] 93) (by simp; omega) ?_; intro v9 w11 hK9; obtain ⟨g5, c5, rfl⟩ := row_pos hK9.at0 (by simp))
               clear a1 a2 a3 D10
               have D11 : DR b _ w [rowIns (.slice (some ⟨g5, 0, none⟩) (xs ++ [(⟨8, r⟩ : Ins)]).length c5) (xs ++ [(⟨8, r⟩ : Ins)])] w11 := DR.sel ⟨v, hT, hS, hK9⟩ [0] 99 (by decide) (by decide)
               clear hT hS hK9 hK
               obtain ⟨ys, hys⟩ : ∃ ys, xs ++ [(⟨8, r⟩ : Ins)] = ys := ⟨_, rfl⟩
               have hyn : ys.length = xs.length + 1 := by rw [← hys]; simp
               rw [hys] at D11
               try rw [← hyn]
               have hyl : ys.length ≤ (4 - k) * (2 + 8) + 1 := by omega
               clear hys hyn
               have KR := Lib.hid (l11Some0_dr b _ w11 D11.src (by omega))
               unfold DIns at KR
               refine KR.out.mono ?_; rintro e w12 ⟨g6, c6, zs, rfl, hzl, h12⟩
               obtain ⟨v, hT, hS, hK⟩ : DR b _ w [rowIns (.slice (some ⟨g6, 0, none⟩) zs.length c6) zs, rowIns (.slice (some ⟨g5, 0, none⟩) ys.length c5) ys] w12 := D11.add h12
               clear h12 KR D11
               go_wp2_with (first
                 | (at_builtin; refine kn_appZ tpIns rfl _ _ rfl (.slice (some ⟨g5, 0, none⟩) ys.length c5) ys.length (cellsIns ys) rfl (by simp [Value.ownBlock]) rfl hK (cellsIns_one zs) (by omega) (by omega) ?_; intro v13 w13 hb13 hK13; have hK14 : Kn v (rowIns v13 (ys ++ zs) :: _) w13 := (by unfold rowIns; rw [List.length_append, cellsIns_app]; exact hK13); obtain ⟨g7, c7, rfl⟩ := row_some hK14.at0 hb13)
                 | (at_builtin; refine kn_pushIns (ys := [⟨10, 0⟩]) rfl _ _ rfl _ (ys ++ zs) (by rw [List.length_append]; rfl) rfl (hK14.al [.int .i64 10, .int .i64 0] 93) (by simp; omega) ?_; intro v15 w15 hK15; obtain ⟨g8, c8, rfl⟩ := row_pos hK15.at0 (by simp; omega)))
               go_roundw
               case rel => exact ⟨k - 1, g8, c8, ys ++ zs ++ [⟨10, 0⟩], by go_num, by omega, (by rw [List.length_append, List.length_append, List.length_singleton]; omega), by simp, (DR.sel (show DR b _ w _ _ from ⟨v, hT, hS, hK15⟩) [0] 99 (by decide) (by decide)).mono (by omega)⟩
               case measure => simp [intOf]; omega)
      · have ho : opens 9 = true := rfl
        rcases Nat.eq_zero_or_pos 1 with hz | hz
        · first
            | (exact absurd hz (by decide))
            | (go_wp2_with (go_at_call 109; refine (l11Opens_any _ _).mono ?_; rintro e w' ⟨rfl, rfl⟩; rw [ho])
               go_roundw
               case rel => exact ⟨k - 1, g, c, xs, by go_num, by omega, by omega, rfl, D7.mono (by omega)⟩
               case measure => simp [intOf]; omega)
        · first
            | (exact absurd hz (by decide))
            | (go_upto_region 13 with (go_at_call 109; refine (l11Opens_any _ _).mono ?_; rintro e w' ⟨rfl, rfl⟩; rw [ho])
               refine Code.wp.dr (D7.al [.int .i64 9, .int .i64 0] 93) ?_; intro w10 D10
               obtain ⟨gx, hgx⟩ : ∃ g, w7.heap.size = g := ⟨_, rfl⟩
               rw [hgx] at D10 ⊢
               clear hgx D7
               obtain ⟨a1, a2, a3, -⟩ := D10.cells
               obtain ⟨v, hT, hS, hK⟩ := D10.front 1 rfl
               go_wp2_with (at_builtin; refine kn_pushIns (ys := [⟨9, 0⟩]) rfl _ _ rfl _ xs rfl rfl (hK.al [.int .i64 9, .int .i64 0] 93) (by simp; omega) ?_; intro v9 w11 hK9; obtain ⟨g5, c5, rfl⟩ := row_pos hK9.at0 (by simp))
               clear a1 a2 a3 D10
               have D11 : DR b _ w [rowIns (.slice (some ⟨g5, 0, none⟩) (xs ++ [(⟨9, 0⟩ : Ins)]).length c5) (xs ++ [(⟨9, 0⟩ : Ins)])] w11 := DR.sel ⟨v, hT, hS, hK9⟩ [0] 99 (by decide) (by decide)
               clear hT hS hK9 hK
               obtain ⟨ys, hys⟩ : ∃ ys, xs ++ [(⟨9, 0⟩ : Ins)] = ys := ⟨_, rfl⟩
               have hyn : ys.length = xs.length + 1 := by rw [← hys]; simp
               rw [hys] at D11
               try rw [← hyn]
               have hyl : ys.length ≤ (4 - k) * (2 + 8) + 1 := by omega
               clear hys hyn
               have KR := Lib.hid (l11Some0_dr b _ w11 D11.src (by omega))
               unfold DIns at KR
               refine KR.out.mono ?_; rintro e w12 ⟨g6, c6, zs, rfl, hzl, h12⟩
               obtain ⟨v, hT, hS, hK⟩ : DR b _ w [rowIns (.slice (some ⟨g6, 0, none⟩) zs.length c6) zs, rowIns (.slice (some ⟨g5, 0, none⟩) ys.length c5) ys] w12 := D11.add h12
               clear h12 KR D11
               go_wp2_with (first
                 | (at_builtin; refine kn_appZ tpIns rfl _ _ rfl (.slice (some ⟨g5, 0, none⟩) ys.length c5) ys.length (cellsIns ys) rfl (by simp [Value.ownBlock]) rfl hK (cellsIns_one zs) (by omega) (by omega) ?_; intro v13 w13 hb13 hK13; have hK14 : Kn v (rowIns v13 (ys ++ zs) :: _) w13 := (by unfold rowIns; rw [List.length_append, cellsIns_app]; exact hK13); obtain ⟨g7, c7, rfl⟩ := row_some hK14.at0 hb13)
                 | (at_builtin; refine kn_pushIns (ys := [⟨10, 0⟩]) rfl _ _ rfl _ (ys ++ zs) (by rw [List.length_append]; rfl) rfl (hK14.al [.int .i64 10, .int .i64 0] 93) (by simp; omega) ?_; intro v15 w15 hK15; obtain ⟨g8, c8, rfl⟩ := row_pos hK15.at0 (by simp; omega)))
               go_roundw
               case rel => exact ⟨k - 1, g8, c8, ys ++ zs ++ [⟨10, 0⟩], by go_num, by omega, (by rw [List.length_append, List.length_append, List.length_singleton]; omega), by simp, (DR.sel (show DR b _ w _ _ from ⟨v, hT, hS, hK15⟩) [0] 99 (by decide) (by decide)).mono (by omega)⟩
               case measure => simp [intOf]; omega)
      · have ho : opens 1 = false := rfl
        go_wp2_with (go_at_call 109; refine (l11Opens_any _ _).mono ?_; rintro e w' ⟨rfl, rfl⟩; rw [ho])
        refine (pick_dr b _ 30 w7 D7.src (by omega)).mono ?_; rintro e w8 ⟨y, rfl, hy, h8⟩
        obtain ⟨v, hT, hS, hK⟩ : DR b _ w [rowIns (.slice (some ⟨g, 0, none⟩) xs.length c) xs] w8 := D7.add h8
        clear h8 D7 hy
        go_wp2_with (at_builtin; refine kn_pushIns (ys := [⟨1, y⟩]) rfl _ _ rfl _ xs rfl rfl (hK.al [.int .i64 (1), .int .i64 (y)] 93) (by simp; omega) ?_; intro v9 w9 hK9; obtain ⟨g5, c5, rfl⟩ := row_pos hK9.at0 (by simp))
        go_roundw
        case rel => exact ⟨k - 1, g5, c5, xs ++ [⟨1, y⟩], by go_num, by omega, by simp; omega, by simp, (show DR b _ w _ _ from ⟨v, hT, hS, hK9⟩).mono (by omega)⟩
        case measure => simp [intOf]; omega
      · have ho : opens x = false := by unfold opens; simp; omega
        have e1 : (x == 1) = false := by simp; omega
        have e2 : x < 6 := by omega
        go_wp2_with (go_at_call 109; refine (l11Opens_any _ _).mono ?_; rintro e w' ⟨rfl, rfl⟩; rw [ho])
        refine (pick_dr b _ 4 w7 D7.src (by omega)).mono ?_; rintro e w8 ⟨y, rfl, hy, h8⟩
        have D8 : DR b _ w [rowIns (.slice (some ⟨g, 0, none⟩) xs.length c) xs] w8 := D7.add h8
        clear h8 D7
        go_wp2_with fail
        refine (pick_dr b _ 2 w8 D8.src (by omega)).mono ?_; rintro e w9 ⟨z, rfl, hz, h9⟩
        obtain ⟨v, hT, hS, hK⟩ : DR b _ w [rowIns (.slice (some ⟨g, 0, none⟩) xs.length c) xs] w9 := D8.add h9
        clear h9 D8
        obtain ⟨r, hr⟩ : ∃ r, 1 + y * z = r := ⟨_, rfl⟩
        have hz2 : z = 0 ∨ z = 1 := by omega
        have hyz : 0 ≤ y * z ∧ y * z ≤ 3 := by rcases hz2 with rfl | rfl <;> omega
        have hw1 : IntKind.i64.wrap (y * z) = y * z := wrapI64 (by omega)
        have hw2 : IntKind.i64.wrap (1 + y * z) = r := by rw [wrapI64 (by omega)]; exact hr
        clear hz2 hyz hr hy hz
        go_wp2_with (at_builtin; refine kn_pushIns (ys := [⟨x, r⟩]) rfl _ _ rfl _ xs rfl rfl (hK.al [.int .i64 (x), .int .i64 (r)] 93) (by simp; omega) ?_; intro v9 w9 hK9; obtain ⟨g5, c5, rfl⟩ := row_pos hK9.at0 (by simp))
        go_roundw
        case rel => exact ⟨k - 1, g5, c5, xs ++ [⟨x, r⟩], by go_num, by omega, by simp; omega, by simp, (show DR b _ w _ _ from ⟨v, hT, hS, hK9⟩).mono (by omega)⟩
        case measure => simp [intOf]; omega
      · have ho : opens x = false := by rcases hx2 with rfl | rfl <;> rfl
        have e1 : (x == 1) = false := by simp; omega
        have e2 : ¬ x < 6 := by omega
        go_wp2_with (go_at_call 109; refine (l11Opens_any _ _).mono ?_; rintro e w' ⟨rfl, rfl⟩; rw [ho])
        refine (one_dr b _ 3 w7 D7.src (by omega)).mono ?_; rintro e w8 ⟨y, rfl, h8⟩
        have D8 : DR b _ w [rowIns (.slice (some ⟨g, 0, none⟩) xs.length c) xs] w8 := D7.add h8
        clear h8 D7
        rcases y with _ | _
        · go_wp2_with fail
          go_roundw
          case rel => exact ⟨k - 1, g, c, xs, by go_num, by omega, by omega, rfl, D8.mono (by omega)⟩
          case measure => simp [intOf]; omega
        · obtain ⟨v, hT, hS, hK⟩ := D8
          go_wp2_with (at_builtin; refine kn_pushIns (ys := [⟨x, 0⟩]) rfl _ _ rfl _ xs rfl rfl (hK.al [.int .i64 (x), .int .i64 (0)] 93) (by simp; omega) ?_; intro v9 w9 hK9; obtain ⟨g5, c5, rfl⟩ := row_pos hK9.at0 (by simp))
          go_roundw
          case rel => exact ⟨k - 1, g5, c5, xs ++ [⟨x, 0⟩], by go_num, by omega, by simp; omega, by simp, (show DR b _ w _ _ from ⟨v, hT, hS, hK9⟩).mono (by omega)⟩
          case measure => simp [intOf]; omega
    · have i1 : ¬ (k : Int) > 0 := by omega
      go_wp2_with fail
      go_ret
      exact ⟨g, c, xs, rfl, by omega, D.mono (by omega)⟩
set_option maxRecDepth 100000 in
set_option maxHeartbeats 3200000 in
theorem l11Some2_dr (b N : Nat) (w : World) (h : Src w b N) (hN : N ≤ 600000) : Calls Tryz.prog 135 #[.pointer (some ⟨b, 0, none⟩), .int .i64 2] w (DIns b (N + (4 + 4 * (8 + 180))) (4 * (2 + 40)) w) := by
  unfold DIns
  have D0 := DR.nil h
  clear h
  go_enter Tryz.func135, Tryz.ntmps135
  go_wp2_with fail
  refine Calls.dr (D0.al [] 93) ?_; intro w1 D1
  obtain ⟨g, hg⟩ : ∃ g, w.heap.size = g := ⟨_, rfl⟩
  rw [hg] at D1 ⊢
  have D2 : DR b _ w [rowIns (.slice (some ⟨g, 0, none⟩) 0 0) []] w1 := D1.kn (fun v hK => hK.litRow (size := 2) (n := 0) rfl (by decide))
  clear D0 D1 hg
  refine (pick_dr b _ 4 w1 D2.src (by omega)).mono ?_; rintro e w5 ⟨x, rfl, hx, h5⟩
  have D6 : DR b _ w [rowIns (.slice (some ⟨g, 0, none⟩) 0 0) []] w5 := D2.add h5
  clear D2 h5
  obtain ⟨q, rfl⟩ : ∃ q : Nat, x = q := ⟨x.toNat, by omega⟩
  have hq : q ≤ 3 := by rcases hx.2 with h | h <;> omega
  have hw1 : IntKind.i64.wrap (1 + (q : Int)) = ((q + 1 : Nat) : Int) := by rw [wrapI64 (by omega)]; omega
  clear hx
  go_wp2_with fail
  go_loopw [5, 6] (fun vv kk wr => ∃ (k : Nat) (g c : Nat) (xs : List Ins), kk = .int .i64 (k : Int) ∧ k ≤ 4 ∧ xs.length ≤ (4 - k) * (2 + 40) ∧ vv = .slice (some ⟨g, 0, none⟩) xs.length c ∧ DR b (N + 2 + (4 - k) * (8 + 180)) w [rowIns (.slice (some ⟨g, 0, none⟩) xs.length c) xs] wr) (fun _ kk _ => (intOf kk).toNat)
  case atStart => exact ⟨q + 1, g, 0, [], by go_num, by omega, by simp, rfl, D6.mono (by omega)⟩
  case round =>
    clear D6 hw1 hq
    obtain ⟨k, g, c, xs, rfl, hk4, hxl, rfl, D⟩ := hrel
    by_cases hk : 0 < k
    · have i1 : (0 : Int) < (k : Int) := by omega
      have i2 : (k : Int) > 0 := i1
      go_wp2_with fail
      refine Calls.dr (D.al [.int .i64 2, .int .i64 2, .int .i64 3, .int .i64 4, .int .i64 5, .int .i64 1, .int .i64 8, .int .i64 9, .int .i64 6, .int .i64 7] 2) ?_; intro w6 D6
      obtain ⟨hr, hA⟩ := DR.lit (ds := [2, 2, 3, 4, 5, 1, 8, 9, 6, 7]) D6 (by decide)
      refine (among_dr b _ _ 10 10 _ w6 D6.src (by omega) hr hA (by omega) (by omega)).mono ?_; rintro e w7 ⟨x, rfl, hx, h7⟩
      have D7 : DR b _ w [rowIns (.slice (some ⟨g, 0, none⟩) xs.length c) xs] w7 := (D6.add h7).sel [1] 99 (by decide) (by decide)
      clear hr hA D D6 h7
      have hx2 : x = 8 ∨ x = 9 ∨ x = 1 ∨ (2 ≤ x ∧ x ≤ 5) ∨ x = 6 ∨ x = 7 := by simp at hx; omega
      clear hx
      rcases hx2 with rfl | rfl | rfl | hx2 | hx2
      · have ho : opens 8 = true := rfl
        rcases Nat.eq_zero_or_pos 2 with hz | hz
        · first
            | (exact absurd hz (by decide))
            | (go_wp2_with (go_at_call 109; refine (l11Opens_any _ _).mono ?_; rintro e w' ⟨rfl, rfl⟩; rw [ho])
               go_roundw
               case rel => exact ⟨k - 1, g, c, xs, by go_num, by omega, by omega, rfl, D7.mono (by omega)⟩
               case measure => simp [intOf]; omega)
        · first
            | (exact absurd hz (by decide))
            | (go_wp2_with (go_at_call 109; refine (l11Opens_any _ _).mono ?_; rintro e w' ⟨rfl, rfl⟩; rw [ho])
               refine Calls.dr (D7.al [.int .i64 8, .int .i64 0] 93) ?_; intro w8 D8
               obtain ⟨gx, hgx⟩ : ∃ g, w7.heap.size = g := ⟨_, rfl⟩
               rw [hgx] at D8 ⊢
               clear hgx D7
               refine (pick_dr b _ 4 w8 D8.src (by omega)).mono ?_; rintro e w9 ⟨y, rfl, hy, h9⟩
               have D9 : DR b _ w [.blk gx [.int .i64 8, .int .i64 0] 93, rowIns (.slice (some ⟨g, 0, none⟩) xs.length c) xs] w9 := D8.add h9
               clear D8 h9
               obtain ⟨r, hr⟩ : ∃ r, 1 + y = r := ⟨_, rfl⟩
               have hw1 : IntKind.i64.wrap (1 + y) = r := by rw [wrapI64 (by omega)]; exact hr
               clear hy hr
               obtain ⟨a1, a2, a3, -⟩ := D9.cells
               go_upto_region 13 with fail
               refine Code.wp.dr (D9.st 1 (.int .i64 r)) ?_; intro w10 D10
               clear a1 a2 a3 D9
               obtain ⟨a1, a2, a3, -⟩ := D10.cells
               obtain ⟨v, hT, hS, hK⟩ := D10.front 1 rfl
               go_wp2_with (at_builtin; refine kn_pushIns (ys := [⟨8, r⟩]) rfl _ _ rfl _ xs rfl rfl (hK.al [.int .i64 8, .int .i64 r] 93) (by simp; omega) ?_; intro v9 w11 hK9; obtain ⟨g5, c5, rfl⟩ := row_pos hK9.at0 (by simp))
               clear a1 a2 a3 D10
               have D11 : DR b _ w [rowIns (.slice (some ⟨g5, 0, none⟩) (xs ++ [(⟨8, r⟩ : Ins)]).length c5) (xs ++ [(⟨8, r⟩ : Ins)])] w11 := DR.sel ⟨v, hT, hS, hK9⟩ [0] 99 (by decide) (by decide)
               clear hT hS hK9 hK
               obtain ⟨ys, hys⟩ : ∃ ys, xs ++ [(⟨8, r⟩ : Ins)] = ys := ⟨_, rfl⟩
               have hyn : ys.length = xs.length + 1 := by rw [← hys]; simp
               rw [hys] at D11
               try rw [← hyn]
               have hyl : ys.length ≤ (4 - k) * (2 + 40) + 1 := by omega
               clear hys hyn
               have KR := Lib.hid (l11Some1_dr b _ w11 D11.src (by omega))
               unfold DIns at KR
               refine KR.out.mono ?_; rintro e w12 ⟨g6, c6, zs, rfl, hzl, h12⟩
               obtain ⟨v, hT, hS, hK⟩ : DR b _ w [rowIns (.slice (some ⟨g6, 0, none⟩) zs.length c6) zs, rowIns (.slice (some ⟨g5, 0, none⟩) ys.length c5) ys] w12 := D11.add h12
               clear h12 KR D11
               go_wp2_with (first
                 | (at_builtin; refine kn_appZ tpIns rfl _ _ rfl (.slice (some ⟨g5, 0, none⟩) ys.length c5) ys.length (cellsIns ys) rfl (by simp [Value.ownBlock]) rfl hK (cellsIns_one zs) (by omega) (by omega) ?_; intro v13 w13 hb13 hK13; have hK14 : Kn v (rowIns v13 (ys ++ zs) :: _) w13 := (by unfold rowIns; rw [List.length_append, cellsIns_app]; exact hK13); obtain ⟨g7, c7, rfl⟩ := row_some hK14.at0 hb13)
                 | (at_builtin; refine kn_pushIns (ys := [⟨10, 0⟩]) rfl _ _ rfl _ (ys ++ zs) (by rw [List.length_append]; rfl) rfl (hK14.al [.int .i64 10, .int .i64 0] 93) (by simp; omega) ?_; intro v15 w15 hK15; obtain ⟨g8, c8, rfl⟩ := row_pos hK15.at0 (by simp; omega)))
               go_roundw
               case rel => exact ⟨k - 1, g8, c8, ys ++ zs ++ [⟨10, 0⟩], by go_num, by omega, (by rw [List.length_append, List.length_append, List.length_singleton]; omega), by simp, (DR.sel (show DR b _ w _ _ from ⟨v, hT, hS, hK15⟩) [0] 99 (by decide) (by decide)).mono (by omega)⟩
               case measure => simp [intOf]; omega)
      · have ho : opens 9 = true := rfl
        rcases Nat.eq_zero_or_pos 2 with hz | hz
        · first
            | (exact absurd hz (by decide))
            | (go_wp2_with (go_at_call 109; refine (l11Opens_any _ _).mono ?_; rintro e w' ⟨rfl, rfl⟩; rw [ho])
               go_roundw
               case rel => exact ⟨k - 1, g, c, xs, by go_num, by omega, by omega, rfl, D7.mono (by omega)⟩
               case measure => simp [intOf]; omega)
        · first
            | (exact absurd hz (by decide))
            | (go_upto_region 13 with (go_at_call 109; refine (l11Opens_any _ _).mono ?_; rintro e w' ⟨rfl, rfl⟩; rw [ho])
               refine Code.wp.dr (D7.al [.int .i64 9, .int .i64 0] 93) ?_; intro w10 D10
               obtain ⟨gx, hgx⟩ : ∃ g, w7.heap.size = g := ⟨_, rfl⟩
               rw [hgx] at D10 ⊢
               clear hgx D7
               obtain ⟨a1, a2, a3, -⟩ := D10.cells
               obtain ⟨v, hT, hS, hK⟩ := D10.front 1 rfl
               go_wp2_with (at_builtin; refine kn_pushIns (ys := [⟨9, 0⟩]) rfl _ _ rfl _ xs rfl rfl (hK.al [.int .i64 9, .int .i64 0] 93) (by simp; omega) ?_; intro v9 w11 hK9; obtain ⟨g5, c5, rfl⟩ := row_pos hK9.at0 (by simp))
               clear a1 a2 a3 D10
               have D11 : DR b _ w [rowIns (.slice (some ⟨g5, 0, none⟩) (xs ++ [(⟨9, 0⟩ : Ins)]).length c5) (xs ++ [(⟨9, 0⟩ : Ins)])] w11 := DR.sel ⟨v, hT, hS, hK9⟩ [0] 99 (by decide) (by decide)
               clear hT hS hK9 hK
               obtain ⟨ys, hys⟩ : ∃ ys, xs ++ [(⟨9, 0⟩ : Ins)] = ys := ⟨_, rfl⟩
               have hyn : ys.length = xs.length + 1 := by rw [← hys]; simp
               rw [hys] at D11
               try rw [← hyn]
               have hyl : ys.length ≤ (4 - k) * (2 + 40) + 1 := by omega
               clear hys hyn
               have KR := Lib.hid (l11Some1_dr b _ w11 D11.src (by omega))
               unfold DIns at KR
               refine KR.out.mono ?_; rintro e w12 ⟨g6, c6, zs, rfl, hzl, h12⟩
               obtain ⟨v, hT, hS, hK⟩ : DR b _ w [rowIns (.slice (some ⟨g6, 0, none⟩) zs.length c6) zs, rowIns (.slice (some ⟨g5, 0, none⟩) ys.length c5) ys] w12 := D11.add h12
               clear h12 KR D11
               go_wp2_with (first
                 | (at_builtin; refine kn_appZ tpIns rfl _ _ rfl (.slice (some ⟨g5, 0, none⟩) ys.length c5) ys.length (cellsIns ys) rfl (by simp [Value.ownBlock]) rfl hK (cellsIns_one zs) (by omega) (by omega) ?_; intro v13 w13 hb13 hK13; have hK14 : Kn v (rowIns v13 (ys ++ zs) :: _) w13 := (by unfold rowIns; rw [List.length_append, cellsIns_app]; exact hK13); obtain ⟨g7, c7, rfl⟩ := row_some hK14.at0 hb13)
                 | (at_builtin; refine kn_pushIns (ys := [⟨10, 0⟩]) rfl _ _ rfl _ (ys ++ zs) (by rw [List.length_append]; rfl) rfl (hK14.al [.int .i64 10, .int .i64 0] 93) (by simp; omega) ?_; intro v15 w15 hK15; obtain ⟨g8, c8, rfl⟩ := row_pos hK15.at0 (by simp; omega)))
               go_roundw
               case rel => exact ⟨k - 1, g8, c8, ys ++ zs ++ [⟨10, 0⟩], by go_num, by omega, (by rw [List.length_append, List.length_append, List.length_singleton]; omega), by simp, (DR.sel (show DR b _ w _ _ from ⟨v, hT, hS, hK15⟩) [0] 99 (by decide) (by decide)).mono (by omega)⟩
               case measure => simp [intOf]; omega)
      · have ho : opens 1 = false := rfl
        go_wp2_with (go_at_call 109; refine (l11Opens_any _ _).mono ?_; rintro e w' ⟨rfl, rfl⟩; rw [ho])
        refine (pick_dr b _ 30 w7 D7.src (by omega)).mono ?_; rintro e w8 ⟨y, rfl, hy, h8⟩
        obtain ⟨v, hT, hS, hK⟩ : DR b _ w [rowIns (.slice (some ⟨g, 0, none⟩) xs.length c) xs] w8 := D7.add h8
        clear h8 D7 hy
        go_wp2_with (at_builtin; refine kn_pushIns (ys := [⟨1, y⟩]) rfl _ _ rfl _ xs rfl rfl (hK.al [.int .i64 (1), .int .i64 (y)] 93) (by simp; omega) ?_; intro v9 w9 hK9; obtain ⟨g5, c5, rfl⟩ := row_pos hK9.at0 (by simp))
        go_roundw
        case rel => exact ⟨k - 1, g5, c5, xs ++ [⟨1, y⟩], by go_num, by omega, by simp; omega, by simp, (show DR b _ w _ _ from ⟨v, hT, hS, hK9⟩).mono (by omega)⟩
        case measure => simp [intOf]; omega
      · have ho : opens x = false := by unfold opens; simp; omega
        have e1 : (x == 1) = false := by simp; omega
        have e2 : x < 6 := by omega
        go_wp2_with (go_at_call 109; refine (l11Opens_any _ _).mono ?_; rintro e w' ⟨rfl, rfl⟩; rw [ho])
        refine (pick_dr b _ 4 w7 D7.src (by omega)).mono ?_; rintro e w8 ⟨y, rfl, hy, h8⟩
        have D8 : DR b _ w [rowIns (.slice (some ⟨g, 0, none⟩) xs.length c) xs] w8 := D7.add h8
        clear h8 D7
        go_wp2_with fail
        refine (pick_dr b _ 2 w8 D8.src (by omega)).mono ?_; rintro e w9 ⟨z, rfl, hz, h9⟩
        obtain ⟨v, hT, hS, hK⟩ : DR b _ w [rowIns (.slice (some ⟨g, 0, none⟩) xs.length c) xs] w9 := D8.add h9
        clear h9 D8
        obtain ⟨r, hr⟩ : ∃ r, 1 + y * z = r := ⟨_, rfl⟩
        have hz2 : z = 0 ∨ z = 1 := by omega
        have hyz : 0 ≤ y * z ∧ y * z ≤ 3 := by rcases hz2 with rfl | rfl <;> omega
        have hw1 : IntKind.i64.wrap (y * z) = y * z := wrapI64 (by omega)
        have hw2 : IntKind.i64.wrap (1 + y * z) = r := by rw [wrapI64 (by omega)]; exact hr
        clear hz2 hyz hr hy hz
        go_wp2_with (at_builtin; refine kn_pushIns (ys := [⟨x, r⟩]) rfl _ _ rfl _ xs rfl rfl (hK.al [.int .i64 (x), .int .i64 (r)] 93) (by simp; omega) ?_; intro v9 w9 hK9; obtain ⟨g5, c5, rfl⟩ := row_pos hK9.at0 (by simp))
        go_roundw
        case rel => exact ⟨k - 1, g5, c5, xs ++ [⟨x, r⟩], by go_num, by omega, by simp; omega, by simp, (show DR b _ w _ _ from ⟨v, hT, hS, hK9⟩).mono (by omega)⟩
        case measure => simp [intOf]; omega
      · have ho : opens x = false := by rcases hx2 with rfl | rfl <;> rfl
        have e1 : (x == 1) = false := by simp; omega
        have e2 : ¬ x < 6 := by omega
        go_wp2_with (go_at_call 109; refine (l11Opens_any _ _).mono ?_; rintro e w' ⟨rfl, rfl⟩; rw [ho])
        refine (one_dr b _ 3 w7 D7.src (by omega)).mono ?_; rintro e w8 ⟨y, rfl, h8⟩
        have D8 : DR b _ w [rowIns (.slice (some ⟨g, 0, none⟩) xs.length c) xs] w8 := D7.add h8
        clear h8 D7
        rcases y with _ | _
        · go_wp2_with fail
          go_roundw
          case rel => exact ⟨k - 1, g, c, xs, by go_num, by omega, by omega, rfl, D8.mono (by omega)⟩
          case measure => simp [intOf]; omega
        · obtain ⟨v, hT, hS, hK⟩ := D8
          go_wp2_with (at_builtin; refine kn_pushIns (ys := [⟨x, 0⟩]) rfl _ _ rfl _ xs rfl rfl (hK.al [.int .i64 (x), .int .i64 (0)] 93) (by simp; omega) ?_; intro v9 w9 hK9; obtain ⟨g5, c5, rfl⟩ := row_pos hK9.at0 (by simp))
          go_roundw
          case rel => exact ⟨k - 1, g5, c5, xs ++ [⟨x, 0⟩], by go_num, by omega, by simp; omega, by simp, (show DR b _ w _ _ from ⟨v, hT, hS, hK9⟩).mono (by omega)⟩
          case measure => simp [intOf]; omega
    · have i1 : ¬ (k : Int) > 0 := by omega
      go_wp2_with fail
      go_ret
      exact ⟨g, c, xs, rfl, by omega, D.mono (by omega)⟩
end Go.Proofs.YtafnebpbfmbgiaaGreatDoor

namespace Go.Proofs.YtafnebpbfmbgiaaGreatDoor
open Go.RowKit Go.Sort
/-- a base and widths are those of machines -/
def nmOk (b n1 n2 n3 : Int) : Bool := (betB b 2 16 && betB n1 1 16 && betB n2 1 16 && betB n3 1 16) && vmach (newT b n1.toNat n2.toNat n3.toNat)
theorem regWidth_any (n : Int) (w : World) : Calls Tryz.prog 137 #[.int .i64 n] w fun e w' => e = .returned (.bool (betB n 1 16)) ∧ w = w' := by
  go_enter Tryz.func137, Tryz.ntmps137
  go_wp2_with (go_at_call 53; refine (between_any _ _ _ _).mono ?_; rintro e w' ⟨rfl, rfl⟩)
  go_ret
  exact ⟨rfl, rfl⟩
/-- what NewMachine returns for widths in range -/
def NMRet (b : Int) (n1 n2 n3 : Nat) (v : Bool) (w : World) (e : Ending) (w' : World) : Prop :=
  (v = true ∧ ∃ E1 g1 E2 g2 E3 g3, e = .returned (.tuple #[.agg #[.int .i64 b, .slice E1 (digD b n1 0).length g1, .int .i64 b, .slice E2 (digD b n2 0).length g2, .int .i64 b, .slice E3 (digD b n3 0).length g3, .int .i64 0], .int .i64 0]) ∧ Kn w [rowI E3 g3 (digD b n3 0), rowI E2 g2 (digD b n2 0), rowI E1 g1 (digD b n1 0)] w') ∨
  (v = false ∧ e = .returned (.tuple #[.agg #[.int .i64 0, .slice none 0 0, .int .i64 0, .slice none 0 0, .int .i64 0, .slice none 0 0, .int .i64 0], .int .i64 2]) ∧ Below w.heap.size w w')
end Go.Proofs.YtafnebpbfmbgiaaGreatDoor

namespace Go.Proofs.YtafnebpbfmbgiaaGreatDoor
open Go.RowKit Go.Sort
/-- the code of the widths of machines whose inputs are counted -/
def inC (b n1 n2 n3 : Int) : Int := if nmOk b n1 n2 n3 = false then 2 else if 256 < pw b n1.toNat * pw b n2.toNat then 5 else 0
structure NmB (b : Int) (n1 n2 n3 : Nat) : Prop where
  b1 : 2 ≤ b
  b2 : b ≤ 16
  h1 : 1 ≤ n1
  h1' : n1 ≤ 16
  h2 : 1 ≤ n2
  h2' : n2 ≤ 16
  h3 : 1 ≤ n3
  h3' : n3 ≤ 16
  hv : vmach (newT b n1 n2 n3) = true
  p1 : pw b n1 ≤ 1000000000001
  p2 : pw b n2 ≤ 1000000000001
  q1 : 1 ≤ pw b n1
  q2 : 1 ≤ pw b n2
theorem nmOk_true {b z1 z2 z3 : Int} (h : nmOk b z1 z2 z3 = true) : ∃ n1 n2 n3 : Nat, z1 = n1 ∧ z2 = n2 ∧ z3 = n3 ∧ NmB b n1 n2 n3 := by
  unfold nmOk at h
  simp only [Bool.and_eq_true, betB_iff] at h
  obtain ⟨⟨⟨⟨hb, h1⟩, h2⟩, h3⟩, hv⟩ := h
  obtain ⟨n1, rfl⟩ := Int.eq_ofNat_of_zero_le (show 0 ≤ z1 by omega)
  obtain ⟨n2, rfl⟩ := Int.eq_ofNat_of_zero_le (show 0 ≤ z2 by omega)
  obtain ⟨n3, rfl⟩ := Int.eq_ofNat_of_zero_le (show 0 ≤ z3 by omega)
  have hv' : vmach (newT b n1 n2 n3) = true := hv
  obtain ⟨k1, k2, k3, e1, e2, f1, f2, l1, p0, p1⟩ := vmach_all hv'
  simp only [newT, digD_len] at f1 l1
  have hm := pw_mono b (by omega) _ _ l1
  exact ⟨n1, n2, n3, rfl, rfl, rfl, by omega, by omega, by omega, by omega, by omega, by omega, by omega, by omega, hv', by omega, f1, pw_pos b (by omega) _, pw_pos b (by omega) _⟩
theorem inC_no {b z1 z2 z3 : Int} (h : nmOk b z1 z2 z3 = false) : inC b z1 z2 z3 = 2 := by unfold inC; rw [if_pos h]
theorem inC_full {b : Int} {n1 n2 n3 : Nat} (hn : nmOk b n1 n2 n3 = true) (h : 256 < pw b n1 * pw b n2) : inC b n1 n2 n3 = 5 := by
  unfold inC; rw [if_neg (by rw [hn]; decide)]; exact if_pos h
theorem inC_fine {b : Int} {n1 n2 n3 : Nat} (hn : nmOk b n1 n2 n3 = true) (h : ¬ 256 < pw b n1 * pw b n2) : inC b n1 n2 n3 = 0 := by
  unfold inC; rw [if_neg (by rw [hn]; decide)]; exact if_neg h
theorem mul_big {x y : Int} (hy : 1 ≤ y) (h : 256 < x) : 256 < x * y := by
  have := Int.mul_le_mul_of_nonneg_left hy (show 0 ≤ x by omega)
  omega
theorem div_big {x y : Int} (hy : 1 ≤ y) : (256 : Int).tdiv y < x ↔ 256 < x * y := by
  rw [Int.tdiv_eq_ediv_of_nonneg (by decide)]
  exact Int.ediv_lt_iff_lt_mul (by omega)
end Go.Proofs.YtafnebpbfmbgiaaGreatDoor

namespace Go.Proofs.YtafnebpbfmbgiaaGreatDoor
open Go.RowKit Go.Sort
/-- the machine with the input k -/
def atT (b : Int) (n1 n2 n3 : Nat) (k : Int) : Tri := ⟨⟨b, digD b n1 (k.tdiv (pw b n2))⟩, ⟨b, digD b n2 (k.tmod (pw b n2))⟩, ⟨b, digD b n3 0⟩, 0⟩
theorem at_bd {x y k : Int} (hy : 1 ≤ y) (h0 : 0 ≤ k) (h1 : k < x * y) : 0 ≤ k.tdiv y ∧ k.tdiv y < x ∧ 0 ≤ k.tmod y ∧ k.tmod y < y := by
  rw [Int.tdiv_eq_ediv_of_nonneg h0, Int.tmod_eq_emod_of_nonneg h0]
  exact ⟨Int.ediv_nonneg h0 (by omega), Int.ediv_lt_of_lt_mul (by omega) h1, Int.emod_nonneg _ (by omega), Int.emod_lt_of_pos _ (by omega)⟩
theorem atT_ok {b : Int} {n1 n2 n3 : Nat} (hB : NmB b n1 n2 n3) {k : Int} (h0 : 0 ≤ k) (h1 : k < pw b n1 * pw b n2) : vmach (atT b n1 n2 n3 k) = true := by
  obtain ⟨q1, q2, q3, q4⟩ := at_bd hB.q2 h0 h1
  have hv := hB.hv
  have p1 := hB.p1
  have p2 := hB.p2
  obtain ⟨k1, k2, k3, e1, e2, f1, f2, l1, c0, c1⟩ := vmach_all hv
  simp only [newT, vplaces, digD_len] at f1 f2 l1 c0 c1
  refine vmach_mk (t := atT b n1 n2 n3 k) (digD_vreg _ hB.b1 hB.b2 _ hB.h1 hB.h1' _ q1 q2 (by omega)) (digD_vreg _ hB.b1 hB.b2 _ hB.h2 hB.h2' _ q3 q4 (by omega)) k3 rfl rfl ?_ ?_ ?_ (Int.le_refl _) ?_
  · simp only [atT, digD_len]; exact f1
  · simp only [atT, digD_len]; exact f2
  · simp only [atT, digD_len]; exact l1
  · simp only [atT, vplaces, digD_len]; exact c1
end Go.Proofs.YtafnebpbfmbgiaaGreatDoor

namespace Go.Proofs.YtafnebpbfmbgiaaGreatDoor
open Go.RowKit Go.Sort
set_option maxHeartbeats 400000 in
theorem sameNumbers_any (A B : Option Addr) (n c m d : Nat) (ds es : List Int) (w : World) (hr : RI w A n ds) (hs : RI w B m es) (hm : n ≤ 9223372036854775807) (hm2 : m ≤ 9223372036854775807) :
    Calls Tryz.prog 133 #[.slice A n c, .slice B m d] w fun e w' => e = .returned (.bool (decide (ds = es))) ∧ ∃ q, w' = w.drewN q := by
  have HL := Lib.hid hr.1
  have HM := Lib.hid hs.1
  by_cases hnm : n = m
  · subst hnm
    go_enter Tryz.func133, Tryz.ntmps133
    go_wp2
    go_loopw [13] (fun i wr => ∃ k : Nat, k ≤ n ∧ i = .int .i64 k ∧ ds.take k = es.take k ∧ ∃ q, wr = w.drewN q) (fun i _ => n - (intOf i).toNat)
    case atStart => exact ⟨0, Nat.zero_le _, rfl, by simp, 0, rfl⟩
    case round =>
      obtain ⟨k, hk, rfl, hdg, q, rfl⟩ := hrel
      have HD := Lib.hid hdg; clear hdg
      by_cases hkn : k < n
      · obtain ⟨ad, hA, hlt, hkl, hc⟩ := hr.at_ hkn
        obtain ⟨ad2, hB, hlt2, hkl2, hc2⟩ := hs.at_ hkn
        subst hA; subst hB
        have hi0 : (0 : Int) ≤ (k : Int) := by omega
        have hi1 : (k : Int) < (n : Int) := by omega
        rcases hd : (ds[k] != es[k]) with _ | _
        · go_wp2
          go_quiet (fail)
          go_wp2
          have he : ds[k] = es[k] := by simpa using hd
          have HE := Lib.hid he; clear he
          go_roundw
          case rel => exact ⟨k + 1, by omega, by go_num, take_eq_of_succ HD.out hkl hkl2 HE.out, by first | exact ⟨_, rfl⟩ | exact ⟨_, World.drewN_drewN _ _ _⟩⟩
          case measure => simp [intOf]; omega
        · go_wp2
          go_quiet (fail)
          go_wp2
          go_ret
          refine ⟨ret_bool ?_, by first | exact ⟨_, rfl⟩ | exact ⟨_, World.drewN_drewN _ _ _⟩⟩
          have : ds ≠ es := by rintro rfl; simp at hd
          simp [this]
      · have HF : Hid (ds = es) := by
          have := HD.out
          rwa [List.take_of_length_le (by have := HL.out; omega), List.take_of_length_le (by have := HM.out; omega)] at this
        go_wp2
        go_ret
        exact ⟨ret_bool (by simp [HF.out]), q, rfl⟩
  · have HF : Hid (ds ≠ es) := by rintro rfl; exact hnm (hr.1.symm.trans hs.1)
    go_enter Tryz.func133, Tryz.ntmps133
    go_wp2
    go_ret
    exact ⟨ret_bool (by simp [HF.out]), 0, rfl⟩
set_option maxHeartbeats 400000 in
theorem l00Same_any (A B : Option Addr) (n c m d : Nat) (ds es : List Int) (w : World) (hr : RI w A n ds) (hs : RI w B m es) (hm : n ≤ 9223372036854775807) (hm2 : m ≤ 9223372036854775807) :
    Calls Tryz.prog 132 #[.slice A n c, .slice B m d] w fun e w' => e = .returned (.bool (decide (ds = es))) ∧ ∃ q, w' = w.drewN q := by
  have HL := Lib.hid hr.1
  have HM := Lib.hid hs.1
  by_cases hnm : n = m
  · subst hnm
    go_enter Tryz.func132, Tryz.ntmps132
    go_wp2
    go_loopw [5] (fun i wr => ∃ k : Nat, k ≤ n ∧ i = .int .i64 k ∧ ds.take k = es.take k ∧ ∃ q, wr = w.drewN q) (fun i _ => n - (intOf i).toNat)
    case atStart => exact ⟨0, Nat.zero_le _, rfl, by simp, 0, rfl⟩
    case round =>
      obtain ⟨k, hk, rfl, hdg, q, rfl⟩ := hrel
      have HD := Lib.hid hdg; clear hdg
      by_cases hkn : k < n
      · obtain ⟨ad, hA, hlt, hkl, hc⟩ := hr.at_ hkn
        obtain ⟨ad2, hB, hlt2, hkl2, hc2⟩ := hs.at_ hkn
        subst hA; subst hB
        have hi0 : (0 : Int) ≤ (k : Int) := by omega
        have hi1 : (k : Int) < (n : Int) := by omega
        rcases hd : (ds[k] != es[k]) with _ | _
        · go_wp2
          go_quiet (fail)
          go_wp2
          have he : ds[k] = es[k] := by simpa using hd
          have HE := Lib.hid he; clear he
          go_roundw
          case rel => exact ⟨k + 1, by omega, by go_num, take_eq_of_succ HD.out hkl hkl2 HE.out, by first | exact ⟨_, rfl⟩ | exact ⟨_, World.drewN_drewN _ _ _⟩⟩
          case measure => simp [intOf]; omega
        · go_wp2
          go_quiet (fail)
          go_wp2
          go_ret
          refine ⟨ret_bool ?_, by first | exact ⟨_, rfl⟩ | exact ⟨_, World.drewN_drewN _ _ _⟩⟩
          have : ds ≠ es := by rintro rfl; simp at hd
          simp [this]
      · have HF : Hid (ds = es) := by
          have := HD.out
          rwa [List.take_of_length_le (by have := HL.out; omega), List.take_of_length_le (by have := HM.out; omega)] at this
        go_wp2
        go_ret
        exact ⟨ret_bool (by simp [HF.out]), q, rfl⟩
  · have HF : Hid (ds ≠ es) := by rintro rfl; exact hnm (hr.1.symm.trans hs.1)
    go_enter Tryz.func132, Tryz.ntmps132
    go_wp2
    go_ret
    exact ⟨ret_bool (by simp [HF.out]), 0, rfl⟩
def sameR (r s : Reg) : Bool := r.base == s.base && decide (r.digits = s.digits)
theorem SameRegister_any (r s : Reg) (A B : Option Addr) (c d : Nat) (w : World) (hr : RI w A r.digits.length r.digits) (hs : RI w B s.digits.length s.digits) (hm : SmallReg r) (hm2 : SmallReg s) :
    Calls Tryz.prog 93 #[.agg #[.int .i64 r.base, .slice A r.digits.length c], .agg #[.int .i64 s.base, .slice B s.digits.length d]] w fun e w' => e = .returned (.bool (sameR r s)) ∧ Below w.heap.size w w' := by
  have hb0 : Below w.heap.size w ((w.alloc (.cells #[.int .i64 r.base, .slice A r.digits.length c] 30)).alloc (.cells #[.int .i64 s.base, .slice B s.digits.length d] 30)) := ((Below.refl _ _).alloc (Nat.le_refl _) _).alloc (by simp) _
  unfold SmallReg at hm hm2
  rcases k : (r.base == s.base) with _ | _
  · have HF : Hid (sameR r s = false) := by simp only [Hid, sameR]; rw [k]; rfl
    go_enter Tryz.func93, Tryz.ntmps93
    go_wp2
    go_ret
    exact ⟨ret_bool HF.out.symm, hb0⟩
  · have HF : Hid (sameR r s = decide (r.digits = s.digits)) := by simp only [Hid, sameR]; rw [k]; rfl
    go_enter Tryz.func93, Tryz.ntmps93
    go_wp2_with (go_at_call 133; refine (sameNumbers_any A B _ c _ d r.digits s.digits _ (hr.below hb0) (hs.below hb0) (by omega) (by omega)).mono ?_; rintro e w1 ⟨rfl, q, rfl⟩)
    go_ret
    exact ⟨ret_bool HF.out.symm, below_drewN hb0 _⟩
theorem l02Same_any (p q : Addr) (r s : Reg) (w : World) (hp : RegM w p r) (hq : RegM w q s) (hm : SmallReg r) (hm2 : SmallReg s) :
    Calls Tryz.prog 92 #[.pointer (some p), .pointer (some q)] w fun e w' => e = .returned (.bool (sameR r s)) ∧ ∃ m, w' = w.drewN m := by
  obtain ⟨A, c, ⟨ha, hb⟩, hr⟩ := hp
  obtain ⟨B, d, ⟨ha0, hb0⟩, hs⟩ := hq
  unfold SmallReg at hm hm2
  have K1 := Lib.hid (fun (m : Nat) => l00Same_any A B _ c _ d r.digits s.digits (w.drewN m) hr hs (by omega) (by omega))
  rcases k : (r.base == s.base) with _ | _
  · have HF : Hid (sameR r s = false) := by simp only [Hid, sameR]; rw [k]; rfl
    go_enter Tryz.func92, Tryz.ntmps92
    go_wp2_with fail
    go_quiet ((go_at_call 132; exact quiet_of_ex (K1.out _)))
    go_wp2
    go_ret
    exact ⟨ret_bool HF.out.symm, _, rfl⟩
  · have HF : Hid (sameR r s = decide (r.digits = s.digits)) := by simp only [Hid, sameR]; rw [k]; rfl
    go_enter Tryz.func92, Tryz.ntmps92
    go_wp2_with fail
    go_quiet ((go_at_call 132; exact quiet_of_ex (K1.out _)))
    go_wp2
    go_ret
    exact ⟨ret_bool HF.out.symm, _, rfl⟩
/-- the carry out of a digit with a kind of fault -/
def cstep (base t c kind : Int) : Int := if kind = 1 then 0 else if kind = 2 then 1 else if kind = 3 then (if t < base then 0 else 1) else if t + c < base then 0 else 1
end Go.Proofs.YtafnebpbfmbgiaaGreatDoor

namespace Go.Proofs.YtafnebpbfmbgiaaGreatDoor
open Go.RowKit Go.Sort
set_option maxRecDepth 100000 in
set_option maxHeartbeats 1600000 in
theorem shiftedW_any (b : Int) (A : Option Addr) (c : Nat) (ds : List Int) (x : Int) (w : World) (hr : RI w A ds.length ds) (hv : vreg b ds = true) (hp : pw b ds.length ≤ 1000000000001) (hx0 : -2000000000000000 ≤ x) (hx1 : x ≤ 2000000000000000) :
    Calls Tryz.prog 120 #[.agg #[.int .i64 b, .slice A ds.length c], .int .i64 x] w fun e w' => ∃ A' c', e = .returned (.tuple #[.agg #[.int .i64 b, .slice A' (shiftD b ds x).length c'], .bool (shiftB b ds x)]) ∧ Kn w [rowI A' c' (shiftD b ds x)] w' := by
  obtain ⟨⟨b1, b2⟩, ⟨n1, n2⟩, hd, hl⟩ := vreg_iff.1 hv
  have hp1 := pw_pos b b1 ds.length
  have hv0 := (valL_bd b b1 ds (fun d h => (hd d h).1)).1
  have KN := (fun W => values_any b A ds.length c W b1 b2 (by omega))
  have hpc : powC b ds.length = pw b ds.length := by unfold powC; rw [if_pos hp]
  rw [hpc] at KN
  have KV := (fun W (hW : Below w.heap.size w W) => value_any b A ds.length c ds W b1 b2 hd (hr.below hW) n2)
  have hsd : shiftD b ds x = digD b ds.length (((valL b ds + x).tmod (pw b ds.length) + pw b ds.length).tmod (pw b ds.length)) := rfl
  have hsb : shiftB b ds x = (decide (valL b ds + x < 0) || decide (pw b ds.length ≤ valL b ds + x)) := rfl
  obtain ⟨N, hN⟩ : ∃ N, pw b ds.length = N := ⟨_, rfl⟩
  obtain ⟨V, hV⟩ : ∃ V, valL b ds = V := ⟨_, rfl⟩
  rw [hN] at KN hsd hsb hp hp1
  rw [hV] at KV hsd hsb hv0 hl
  obtain ⟨S, hS⟩ : ∃ S, V + x = S := ⟨_, rfl⟩
  rw [hS] at hsd hsb
  have hSb : -2000000000000000 ≤ S ∧ S ≤ 3000000000000000 := by omega
  have hm1 : -N < S.tmod N ∧ S.tmod N < N := by
    have h1 := Int.tmod_lt_of_pos S (show 0 < N by omega)
    have h2 := Int.lt_tmod_of_pos S (show 0 < N by omega)
    omega
  have hm2 : 0 ≤ (S.tmod N + N).tmod N ∧ (S.tmod N + N).tmod N < N := ⟨Int.tmod_nonneg _ (by omega), Int.tmod_lt_of_pos _ (by omega)⟩
  have hwr : IntKind.i64.wrap (S.tmod N + N) = S.tmod N + N := wrapI64 (by omega)
  have nz1 : N ≠ 0 := by omega
  have nz2 : (N == 0) = false := by simp; omega
  have nz3 : ¬ N = 0 := by omega
  have KW := (fun W => withValue_any b A ds.length c ((S.tmod N + N).tmod N) W b1 b2 (by omega) hm2.1 (by omega))
  rw [← hsd] at KW
  obtain ⟨es, hes⟩ : ∃ es, shiftD b ds x = es := ⟨_, rfl⟩
  rw [hes] at KW ⊢
  obtain ⟨bell, hbl⟩ : ∃ e, shiftB b ds x = e := ⟨_, rfl⟩
  have HSB := Lib.hid (hbl.symm.trans hsb)
  rw [hbl]
  have KN := Lib.hid KN
  have KV := Lib.hid KV
  have KW := Lib.hid KW
  have HSS := Lib.hid hS
  have hV2 : -9223372036854775808 ≤ V + x ∧ V + x ≤ 9223372036854775807 := by omega
  clear hsd hsb hes hbl hr hv hd hl hpc hN hV hS
  go_enter Tryz.func120, Tryz.ntmps120
  go_wp2_with (first | (refine wpList.kn ((Kn.nil w).al [.int .i64 b, .slice A ds.length c] 30) ?_; intro w1 hK1))
  have hK2 := hK1.al [.int .i64 0, .slice none 0 0] 30
  generalize w1.alloc (.cells #[.int .i64 0, .slice none 0 0] 30) = w2 at hK2 ⊢
  have HG := Lib.hid (box2 hK2.drew.drop)
  go_cut [6, 7] (fun pp oo wx => pp = .int .i64 N ∧ oo = .int .i64 S ∧ Kn w [.blk w1.heap.size [.int .i64 0, .slice none 0 0] 30, .blk w.heap.size [.int .i64 b, .slice A ds.length c] 30] wx)
  case first =>
    go_region_held3 (fun W => W.cell? ⟨w.heap.size, 0, none⟩ = some (.int .i64 b) ∧ W.cell? ⟨w.heap.size, 1, none⟩ = some (.slice A ds.length c))
      (first | with_reducible exact HG.out | exact HG.out) (first
      | (go_at_call 99; with_reducible refine (KN.out _).mono ?_; rintro e w3 ⟨rfl, hw3⟩; have hK3 := hK2.drew.keep hw3; clear HG; have HG := Lib.hid (box2 hK3.drop))
      | (go_at_call 121; with_reducible refine (KV.out _ hK3.below).mono ?_; rintro e w4 ⟨rfl, hw4⟩; have hK4 := hK3.keep hw4; clear HG; have HG := Lib.hid (box2 hK4.drop)))
    all_goals
      go_wp2_with fail
      go_meet
      exact ⟨rfl, by rw [HSS.out, wrapI64 (by omega)], hK4⟩
  case rest =>
    obtain ⟨rfl, rfl, hK⟩ := hcut
    clear HG hK1 hK2
    clear hV2 hv0
    have HG := Lib.hid (box2 hK.drew.drop)
    have HS := HG
    obtain ⟨a1, a2, a3⟩ := hK.blkAt
    rcases hlt : decide (S < 0) with _ | _
    · have hl2 := of_decide_eq_false hlt
      rcases hge : decide (N ≤ S) with _ | _
      · have hg2 := of_decide_eq_false hge
        rw [hlt, hge] at HSB
        go_wp2_with fail
        go_region_held3 (fun W => W.cell? ⟨w.heap.size, 0, none⟩ = some (.int .i64 b) ∧ W.cell? ⟨w.heap.size, 1, none⟩ = some (.slice A ds.length c)) (first | with_reducible exact HG.out | with_reducible exact HS.out | exact HG.out) (first
            | (go_at_call 122; with_reducible refine (KW.out _).mono ?_; rintro e w3 ⟨A', c', rfl, hK'⟩; have hK3 := hK.drew.join hK'; clear HG; have HG := Lib.hid (box2 hK3.drop.drop); have hK4 := (hK3.sw1.st 0 (.int .i64 b)).st 1 (.slice A' es.length c'); have HS := Lib.hid (box2 hK4.drop.drop); clear a1 a2 a3; obtain ⟨a1, a2, a3⟩ := hK3.drop.blkAt)
          )
        all_goals
          go_wp2_with fail
          refine bodyPost.kn hK4 ?_; intro w6 hK6
          clear a1 a2 a3
          obtain ⟨a1, a2, a3, -⟩ := hK6.cells
          refine bodyPost_ret (v := .tuple #[.agg #[.int .i64 b, .slice A' es.length c'], .bool bell]) (by simp [results, Tryz.results120, go_sem, a1]; rw [HSB.out]; try simp) rfl ⟨A', c', rfl, ?_⟩
          exact hK6.drop.drop1
      · have hg2 := of_decide_eq_true hge
        rw [hlt, hge] at HSB
        go_wp2_with fail
        go_region_held3 (fun W => W.cell? ⟨w.heap.size, 0, none⟩ = some (.int .i64 b) ∧ W.cell? ⟨w.heap.size, 1, none⟩ = some (.slice A ds.length c)) (first | with_reducible exact HG.out | with_reducible exact HS.out | exact HG.out) (first
            | (go_at_call 122; with_reducible refine (KW.out _).mono ?_; rintro e w3 ⟨A', c', rfl, hK'⟩; have hK3 := hK.drew.join hK'; clear HG; have HG := Lib.hid (box2 hK3.drop.drop); have hK4 := (hK3.sw1.st 0 (.int .i64 b)).st 1 (.slice A' es.length c'); have HS := Lib.hid (box2 hK4.drop.drop); clear a1 a2 a3; obtain ⟨a1, a2, a3⟩ := hK3.drop.blkAt)
          )
        all_goals
          go_wp2_with fail
          refine bodyPost.kn hK4 ?_; intro w6 hK6
          clear a1 a2 a3
          obtain ⟨a1, a2, a3, -⟩ := hK6.cells
          refine bodyPost_ret (v := .tuple #[.agg #[.int .i64 b, .slice A' es.length c'], .bool bell]) (by simp [results, Tryz.results120, go_sem, a1]; rw [HSB.out]; try simp) rfl ⟨A', c', rfl, ?_⟩
          exact hK6.drop.drop1
    · have hl2 := of_decide_eq_true hlt
      have hbe : bell = true := by rw [HSB.out, hlt]; rfl
      have HSB := Lib.hid hbe
      clear hbe
      obtain ⟨x1, x2⟩ := box2 hK.drop
      go_wp2_with fail
      first | (go_region_law (go_simp; go_at_call 122; with_reducible refine (KW.out _).mono ?_; rintro e w3 ⟨A', c', rfl, hK'⟩; have hK3 := hK.drew.join hK'; clear HG; have HG := Lib.hid (box2 hK3.drop.drop); have hK4 := (hK3.sw1.st 0 (.int .i64 b)).st 1 (.slice A' es.length c'); have HS := Lib.hid (box2 hK4.drop.drop); clear a1 a2 a3; obtain ⟨a1, a2, a3⟩ := hK3.drop.blkAt)) | fail "no"
      all_goals
        go_wp2_with fail
        refine bodyPost.kn hK4 ?_; intro w6 hK6
        clear a1 a2 a3
        obtain ⟨a1, a2, a3, -⟩ := hK6.cells
        refine bodyPost_ret (v := .tuple #[.agg #[.int .i64 b, .slice A' es.length c'], .bool bell]) (by simp [results, Tryz.results120, go_sem, a1]; rw [HSB.out]; try simp) rfl ⟨A', c', rfl, ?_⟩
        exact hK6.drop.drop1
set_option maxRecDepth 100000 in
set_option maxHeartbeats 1600000 in
theorem l10MoveW_any (p : Addr) (b : Int) (A : Option Addr) (c : Nat) (ds : List Int) (x : Int) (w : World) (hp : RegAt w p b A ds.length c) (hr : RI w A ds.length ds) (hv : vreg b ds = true) (hpw : pw b ds.length ≤ 1000000000001) (hx0 : -2000000000000000 ≤ x) (hx1 : x ≤ 2000000000000000) :
    Calls Tryz.prog 157 #[.pointer (some p), .int .i64 x] w fun e w' => ∃ A' c', e = .returned (.tuple #[.agg #[.int .i64 b, .slice A' (shiftD b ds x).length c'], .bool (shiftB b ds x)]) ∧ Kn w [rowI A' c' (shiftD b ds x)] w' := by
  obtain ⟨⟨b1, b2⟩, ⟨n1, n2⟩, hd, hl⟩ := vreg_iff.1 hv
  have hp1 := pw_pos b b1 ds.length
  have hv0 := (valL_bd b b1 ds (fun d h => (hd d h).1)).1
  have KN := (fun W => l10Power_any b ds.length W b1 b2 (by omega))
  have hpc : powS b ds.length = pw b ds.length := by unfold powS; omega
  rw [hpc] at KN
  have KV := (fun W (hW : Below w.heap.size w W) => l02Value_any b A ds.length c ds W b1 b2 hd (hr.below hW) n2)
  have hsd : shiftD b ds x = digD b ds.length (((valL b ds + x).tmod (pw b ds.length) + pw b ds.length).tmod (pw b ds.length)) := rfl
  have hsb : shiftB b ds x = (decide (valL b ds + x < 0) || decide (pw b ds.length ≤ valL b ds + x)) := rfl
  obtain ⟨N, hN⟩ : ∃ N, pw b ds.length = N := ⟨_, rfl⟩
  obtain ⟨V, hV⟩ : ∃ V, valL b ds = V := ⟨_, rfl⟩
  rw [hN] at KN hsd hsb hpw hp1
  rw [hV] at KV hsd hsb hv0 hl
  obtain ⟨S, hS⟩ : ∃ S, V + x = S := ⟨_, rfl⟩
  rw [hS] at hsd hsb
  have hSb : -2000000000000000 ≤ S ∧ S ≤ 3000000000000000 := by omega
  have hm1 : -N < S.tmod N ∧ S.tmod N < N := by
    have h1 := Int.tmod_lt_of_pos S (show 0 < N by omega)
    have h2 := Int.lt_tmod_of_pos S (show 0 < N by omega)
    omega
  have hm2 : 0 ≤ (S.tmod N + N).tmod N ∧ (S.tmod N + N).tmod N < N := ⟨Int.tmod_nonneg _ (by omega), Int.tmod_lt_of_pos _ (by omega)⟩
  have hwr : IntKind.i64.wrap (S.tmod N + N) = S.tmod N + N := wrapI64 (by omega)
  have hwn : IntKind.i64.wrap (N - 1) = N - 1 := wrapI64 (by omega)
  have nz1 : N ≠ 0 := by omega
  have nz2 : (N == 0) = false := by simp; omega
  have nz3 : ¬ N = 0 := by omega
  have KW := (fun W => l02NewV_any b ds.length ((S.tmod N + N).tmod N) W b1 b2 (by omega) hm2.1 (by omega))
  rw [← hsd] at KW
  obtain ⟨es, hes⟩ : ∃ es, shiftD b ds x = es := ⟨_, rfl⟩
  rw [hes] at KW ⊢
  obtain ⟨bell, hbl⟩ : ∃ e, shiftB b ds x = e := ⟨_, rfl⟩
  have HSB := Lib.hid (show (!betB S 0 (N - 1)) = bell by
    rw [← hbl, hsb]
    rcases hb : betB S 0 (N - 1) with _ | _
    · have := betB_false.1 hb
      simp; omega
    · have := betB_iff.1 hb
      simp; omega)
  rw [hbl]
  have KI := Lib.hid (fun W => l00In_any S 0 (N - 1) W)
  have KN := Lib.hid KN
  have KV := Lib.hid KV
  have KW := Lib.hid KW
  have hSe : IntKind.i64.wrap (V + x) = S := by rw [hS]; exact wrapI64 (by omega)
  have HSE := Lib.hid hS
  have hV2 : -9223372036854775808 ≤ V + x ∧ V + x ≤ 9223372036854775807 := by omega
  have HP := Lib.hid (fun W (hW : Below w.heap.size w W) => hp.below hW)
  clear hsd hsb hes hbl hr hv hd hl hpc hN hV hS hp hSe
  go_enter Tryz.func157, Tryz.ntmps157
  go_wp2_with (first
    | (refine wpList.kn ((Kn.nil w).al [.int .i64 0, .slice none 0 0] 30) ?_; intro w2 hK2; obtain ⟨x1, x2⟩ := HP.out _ hK2.below)
    | (go_at_call 127; refine (KN.out _).mono ?_; rintro e w' ⟨rfl, rfl⟩))
  go_quiet ((go_at_call 145; exact quiet_left (KV.out _ (hK2.drewN _).below)))
  clear x1 x2
  have hK3 := hK2.drewN nq
  generalize w2.drewN nq = w3 at hK3 ⊢
  rw [HSE.out]
  have hq := HP.out _ hK3.drew.below
  have HG := Lib.hid (show _ ∧ _ from hq)
  have hq0 := HP.out _ (hK3.al [.int .i64 0, .slice none 0 0] 30).drew.below
  have HA := Lib.hid (show _ ∧ _ from hq0)
  have HS := HG
  clear hq hq0
  go_wp2_with fail
  go_cut [9] (fun pp wx => ∃ (g : Nat) (A' : Option Addr) (c' : Nat), pp = .pointer (some ⟨g, 0, none⟩) ∧ Kn w [.blk g [.int .i64 b, .slice A' es.length c'] 30, rowI A' c' es, .blk w.heap.size [.int .i64 0, .slice none 0 0] 30] wx)
  case first =>
    go_region_held3 (fun W => W.cell? p = some (.int .i64 b) ∧ W.cell? ⟨p.block, p.off + 1, none⟩ = some (.slice A ds.length c))
      (first | with_reducible exact HG.out | with_reducible exact HA.out | with_reducible exact HS.out | exact HG.out | exact HA.out | exact HS.out) (first
      | (go_at_call 128; (with_reducible refine (KW.out _).mono ?_); rintro e w4 ⟨A', c', rfl, hK⟩; clear HG HA; first
        | (have hK4 := hK3.drew.join hK; have hq := HP.out _ hK4.below; have HG := Lib.hid (show _ ∧ _ from hq); have hq1 := HP.out _ (hK4.al [.int .i64 0, .slice none 0 0] 30).below; have HA := Lib.hid (show _ ∧ _ from hq1); have hK5 := hK4.al [.int .i64 b, .slice A' es.length c'] 30; have hq2 := HP.out _ hK5.below; have HS := Lib.hid (show _ ∧ _ from hq2))
        | (have hK4 := (hK3.al [.int .i64 0, .slice none 0 0] 30).drew.join hK; have hq := HP.out _ hK4.below; have HG := Lib.hid (show _ ∧ _ from hq); obtain ⟨g1, f1, l1⟩ := hK4.drop.blkAt; have HA := HG; have hK5 := (hK4.sw1.st 0 (.int .i64 b)).st 1 (.slice A' es.length c'); have hq2 := HP.out _ hK5.below; have HS := Lib.hid (show _ ∧ _ from hq2))))
    all_goals
      go_wp2_with fail
      go_meet
      exact ⟨_, _, _, rfl, hK5⟩
  case rest =>
    obtain ⟨g, A', c', rfl, hK5⟩ := hcut
    clear HG HA HS KN KV KW hK2 hK3
    obtain ⟨a1, a2, a3, d1, d2, d3, -⟩ := hK5.cells
    go_wp2_with fail
    have HG := Lib.hid (box2 hK5.drew)
    have hK6 := ((hK5.sw2.st 0 (.int .i64 b)).st 1 (.slice A' es.length c')).drew
    have HS := Lib.hid (box2 hK6.drop)
    go_region_held3 (fun W => W.cell? ⟨g, 0, none⟩ = some (.int .i64 b) ∧ W.cell? ⟨g, 1, none⟩ = some (.slice A' es.length c'))
      (first | with_reducible exact HG.out | with_reducible exact HS.out | exact HG.out) (first
      | (go_at_call 54; (with_reducible refine (KI.out _).mono ?_); rintro e w7 ⟨rfl, rfl⟩))
    all_goals
      go_wp2_with fail
      refine bodyPost_ret (v := .tuple #[.agg #[.int .i64 b, .slice A' es.length c'], .bool bell]) (by simp [results, Tryz.results157, go_sem, d1]; first | exact HSB.out | (have := HSB.out; simp_all)) rfl ⟨A', c', rfl, ?_⟩
      exact hK6.drop.drop
end Go.Proofs.YtafnebpbfmbgiaaGreatDoor

namespace Go.Proofs.YtafnebpbfmbgiaaGreatDoor
open Go.RowKit Go.Sort
theorem strokeT_cs (k : Int) (t : Tri) : (strokeT k t).1.s.base = t.s.base ∧ (strokeT k t).1.s.digits.length = t.s.digits.length := by
  unfold strokeT turnT
  repeat' split
  all_goals simp [shiftD_len, digD_len]
theorem Ev.cs {L : List Ins} {t : Task} {s s' : RS} {b : Bool} (h : Ev L t s s' b) : s'.m.s.base = s.m.s.base ∧ s'.m.s.digits.length = s.m.s.digits.length := by
  induction h with
  | s0 => exact ⟨rfl, rfl⟩
  | sFull h => exact ⟨rfl, rfl⟩
  | @sStep kind n s s' b h he ih => have := strokeT_cs kind s.m; exact ⟨ih.1.trans this.1, ih.2.trans this.2⟩
  | rEnd h => exact ⟨rfl, rfl⟩
  | rCode hi h => exact ⟨rfl, rfl⟩
  | rSetFull hi hl hc ho h => exact ⟨rfl, rfl⟩
  | rSetBad hi hl hc ho h hf => exact ⟨rfl, rfl⟩
  | rSet hi hl hc ho h hf he ih => exact ih
  | rLoop hi hl hc ho hm h1 he ih1 ih2 => exact ⟨ih2.1.trans ih1.1, ih2.2.trans ih1.2⟩
  | rStr hi hl hc ho h1' h1 he ih1 ih2 => exact ⟨ih2.1.trans ih1.1, ih2.2.trans ih1.2⟩
  | lEnd h8 hk => exact ⟨rfl, rfl⟩
  | lFull h8 h => exact ⟨rfl, rfl⟩
  | lOut h8 h h1 ho ih => exact ih
  | lStep h8 h h1 ho he ih1 ih2 => exact ⟨ih2.1.trans ih1.1, ih2.2.trans ih1.2⟩
theorem sameR_comm (r s : Reg) : sameR r s = sameR s r := by
  unfold sameR
  have h1 : (r.base == s.base) = (s.base == r.base) := by
    rw [Bool.eq_iff_iff]; simp only [beq_iff_eq]; exact eq_comm
  have h2 : decide (r.digits = s.digits) = decide (s.digits = r.digits) := decide_eq_decide.2 eq_comm
  rw [h1, h2]
/-- the kinds of promises -/
def isP (kind arg : Int) : Bool := if kind = 1 then betB arg (-1000) 1000 else betB kind 1 4 && decide (arg = 0)
def kpAfter (t s : Tri) (kind arg : Int) : Bool :=
  if kind = 1 then sameR s.b ⟨t.b.base, shiftD t.b.base t.b.digits (arg * valL t.a.base t.a.digits)⟩ && sameR s.a t.a
  else if kind = 2 then (valL s.b.base s.b.digits == (valL t.b.base t.b.digits).tmod (valL t.a.base t.a.digits)) && ((pw t.s.base t.s.digits.length - valL s.s.base s.s.digits).tmod (pw t.s.base t.s.digits.length) == (valL t.b.base t.b.digits).tdiv (valL t.a.base t.a.digits))
  else if kind = 3 then sameR s.b t.b && sameR s.a t.a
  else (valL s.b.base s.b.digits == 0) && (valL s.s.base s.s.digits == 0)
noncomputable def kpB (L : List Ins) (t : Tri) (kind arg : Int) : Bool :=
  if kind = 2 ∧ valL t.a.base t.a.digits = 0 then true else if (endR L t).code = 0 then kpAfter t (endR L t).m kind arg else false
theorem kp_zero {L : List Ins} {t : Tri} {arg : Int} (h : valL t.a.base t.a.digits = 0) : kpB L t 2 arg = true := by unfold kpB; rw [if_pos ⟨rfl, h⟩]
theorem kp_code {L : List Ins} {t : Tri} {kind arg : Int} {s : RS} {b : Bool} (hn : ¬ (kind = 2 ∧ valL t.a.base t.a.digits = 0)) (he : Ev L (.run 0 L.length) (startR t) s b) (hc : ¬ s.code = 0) : kpB L t kind arg = false := by
  unfold kpB; rw [if_neg hn, endR_eq he, if_neg hc]
theorem kp_fine {L : List Ins} {t : Tri} {kind arg : Int} {s : RS} {b : Bool} (hn : ¬ (kind = 2 ∧ valL t.a.base t.a.digits = 0)) (he : Ev L (.run 0 L.length) (startR t) s b) (hc : s.code = 0) : kpB L t kind arg = kpAfter t s.m kind arg := by
  unfold kpB; rw [if_neg hn, endR_eq he, if_pos hc]
theorem isP_kinds {kind arg : Int} (h : isP kind arg = true) : (kind = 1 ∧ -1000 ≤ arg ∧ arg ≤ 1000) ∨ kind = 2 ∨ kind = 3 ∨ kind = 4 := by
  unfold isP at h
  split at h
  · exact Or.inl ⟨by assumption, betB_iff.1 h⟩
  · rw [Bool.and_eq_true] at h
    have := betB_iff.1 h.1
    omega
end Go.Proofs.YtafnebpbfmbgiaaGreatDoor

namespace Go.Proofs.YtafnebpbfmbgiaaGreatDoor
open Go.RowKit Go.Sort
end Go.Proofs.YtafnebpbfmbgiaaGreatDoor

namespace Go.Proofs.YtafnebpbfmbgiaaGreatDoor
open Go.RowKit Go.Sort
theorem TriC.regs {w : World} {g : Nat} {t : Tri} {A1 A2 A3 : Option Addr} {c1 c2 c3 : Nat} (h : TriC w ⟨g, 0, none⟩ t A1 c1 A2 c2 A3 c3) :
    RegAt w ⟨g, 0, none⟩ t.a.base A1 t.a.digits.length c1 ∧ RegAt w ⟨g, 2, none⟩ t.b.base A2 t.b.digits.length c2 ∧ RegAt w ⟨g, 4, none⟩ t.s.base A3 t.s.digits.length c3 ∧ RI w A1 t.a.digits.length t.a.digits ∧ RI w A2 t.b.digits.length t.b.digits ∧ RI w A3 t.s.digits.length t.s.digits :=
  ⟨⟨h.1.1, h.1.2.1⟩, ⟨h.1.2.2.1, h.1.2.2.2.1⟩, ⟨h.1.2.2.2.2.1, h.1.2.2.2.2.2.1⟩, h.2.1, h.2.2.1, h.2.2.2⟩
end Go.Proofs.YtafnebpbfmbgiaaGreatDoor

namespace Go.Proofs.YtafnebpbfmbgiaaGreatDoor
open Go.RowKit Go.Sort
def kqC (L : List Ins) (t : Tri) (kind arg : Int) : Int := if (vmach t && vprog L) = false then 1 else if isP kind arg = false then 2 else 0
noncomputable def kqB (L : List Ins) (t : Tri) (kind arg : Int) : Bool := if kqC L t kind arg = 0 then kpB L t kind arg else false
def KQRet (L : List Ins) (t : Tri) (kind arg : Int) (w : World) (e : Ending) (w' : World) : Prop := e = .returned (.tuple #[.bool (kqB L t kind arg), .int .i64 (kqC L t kind arg)]) ∧ Below w.heap.size w w'
theorem kq_bad {L : List Ins} {t : Tri} {kind arg c : Int} (h : kqC L t kind arg = c) (hc : ¬ c = 0) : kqB L t kind arg = false ∧ kqC L t kind arg = c := by
  refine ⟨?_, h⟩; unfold kqB; rw [h, if_neg hc]
theorem kq_fine {L : List Ins} {t : Tri} {kind arg : Int} (h : kqC L t kind arg = 0) : kqB L t kind arg = kpB L t kind arg ∧ kqC L t kind arg = 0 := by
  refine ⟨?_, h⟩; unfold kqB; rw [h, if_pos rfl]
end Go.Proofs.YtafnebpbfmbgiaaGreatDoor

namespace Go.Proofs.YtafnebpbfmbgiaaGreatDoor
open Go.RowKit Go.Sort
/-- the code of widths, a program and a promise -/
def pC (b z1 z2 z3 : Int) (L : List Ins) (kind arg : Int) : Int := if vprog L = false then 1 else if isP kind arg = false then 2 else inC b z1 z2 z3
theorem inC_cases (b z1 z2 z3 : Int) : inC b z1 z2 z3 ≠ 0 ∨ (inC b z1 z2 z3 = 0 ∧ ∃ n1 n2 n3 : Nat, z1 = n1 ∧ z2 = n2 ∧ z3 = n3 ∧ NmB b n1 n2 n3 ∧ ¬ 256 < pw b n1 * pw b n2) := by
  by_cases h : inC b z1 z2 z3 = 0
  · refine .inr ⟨h, ?_⟩
    rcases hn : nmOk b z1 z2 z3 with _ | _
    · rw [inC_no hn] at h; cases h
    · obtain ⟨n1, n2, n3, rfl, rfl, rfl, hB⟩ := nmOk_true hn
      exact ⟨n1, n2, n3, rfl, rfl, rfl, hB, fun hc => by rw [inC_full hn hc] at h; cases h⟩
  · exact .inl h
end Go.Proofs.YtafnebpbfmbgiaaGreatDoor

namespace Go.Proofs.YtafnebpbfmbgiaaGreatDoor
open Go.RowKit Go.Sort
/-- the numbers below n with p -/
def failsL (p : Nat → Bool) : Nat → List Int
  | 0 => []
  | k + 1 => if p k = true then failsL p k ++ [(k : Int)] else failsL p k
theorem failsL_len (p : Nat → Bool) (n : Nat) : (failsL p n).length ≤ n := by
  induction n with
  | zero => simp [failsL]
  | succ k ih =>
    unfold failsL
    split
    · rw [List.length_append]; simp; omega
    · omega
theorem failsL_succ (p : Nat → Bool) (k : Nat) : failsL p (k + 1) = if p k = true then failsL p k ++ [(k : Int)] else failsL p k := rfl
theorem failsL_pre (p : Nat → Bool) (k d : Nat) : ∃ ys, failsL p (k + d) = failsL p k ++ ys := by
  induction d with
  | zero => exact ⟨[], by simp⟩
  | succ d ih =>
    obtain ⟨ys, h⟩ := ih
    rw [show k + (d + 1) = (k + d) + 1 by omega, failsL_succ]
    split
    · exact ⟨ys ++ [((k + d : Nat) : Int)], by rw [h, List.append_assoc]⟩
    · exact ⟨ys, h⟩
theorem failsL_take {p : Nat → Bool} {k n m : Nat} (hk : k ≤ n) (hl : (failsL p k).length ≤ m) (h : k = n ∨ (failsL p k).length = m) : (failsL p n).take m = failsL p k := by
  rcases h with rfl | h
  · exact List.take_of_length_le hl
  · obtain ⟨ys, e⟩ := failsL_pre p k (n - k)
    rw [show k + (n - k) = n by omega] at e
    rw [e, List.take_append_of_le_length (by omega), ← h, List.take_length]
/-- an input for which a promise is not kept -/
noncomputable def badB (L : List Ins) (b : Int) (n1 n2 n3 : Nat) (kind arg : Int) (k : Nat) : Bool := !kpB L (atT b n1 n2 n3 k) kind arg
theorem failsL_first {p : Nat → Bool} {k n : Nat} (hk : k < n) (h : failsL p k = []) (hp : p k = true) : (failsL p n).headD (-1) = k := by
  obtain ⟨ys, e⟩ := failsL_pre p (k + 1) (n - (k + 1))
  rw [show k + 1 + (n - (k + 1)) = n by omega, failsL_succ, h, if_pos hp] at e
  rw [e]
  rfl
end Go.Proofs.YtafnebpbfmbgiaaGreatDoor
