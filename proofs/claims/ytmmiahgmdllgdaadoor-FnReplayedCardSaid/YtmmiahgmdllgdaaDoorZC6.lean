/- Part 6: lemmas and contracts of the claim's functions. -/
import Derived.Test.YtmmiahgmdllgdaaDoorZC1
import Derived.Test.YtmmiahgmdllgdaaDoorZC2
import Derived.Test.YtmmiahgmdllgdaaDoorZC3
import Derived.Test.YtmmiahgmdllgdaaDoorZC4
import Derived.Test.YtmmiahgmdllgdaaDoorZC5
namespace Go.Proofs.YtmmiahgmdllgdaaDoor
open Go.RowKit Go.Sort
theorem draw_vreg {b : Int} {ds : List Int} (h1 : 2 ≤ b) (h2 : b ≤ 16) (h3 : 1 ≤ ds.length) (h4 : ds.length ≤ 16) (hd : ∀ d ∈ ds, 0 ≤ d ∧ d < b) (hp : pw b ds.length ≤ 1000000000001) : vreg b ds = true := by
  have h5 := valL_lt b h1 ds hd
  exact vreg_iff.2 ⟨⟨h1, h2⟩, ⟨by omega, by omega⟩, hd, by omega⟩
theorem base_mem {b : Int} (h : b ∈ [(10 : Int), 10, 10, 2, 3, 8, 12]) : 2 ≤ b ∧ b ≤ 12 ∧ pw b 8 ≤ 1000000000001 := by
  have H : ∀ b ∈ [(10 : Int), 10, 10, 2, 3, 8, 12], 2 ≤ b ∧ b ≤ 12 ∧ pw b 8 ≤ 1000000000001 := by decide
  exact H b h
theorem pickN {x n : Int} (hn : 1 ≤ n) (h : 0 ≤ x ∧ (x < n ∨ (n ≤ 1 ∧ x = 0))) : ∃ q : Nat, x = q ∧ (q : Int) ≤ n - 1 := ⟨x.toNat, by omega, by omega⟩
/-- what the drawing of a machine returns -/
def DMach (b M : Nat) (w : World) (e : Ending) (w' : World) : Prop := ∃ (t : Tri) (A1 : Option Addr) (c1 : Nat) (A2 : Option Addr) (c2 : Nat) (A3 : Option Addr) (c3 : Nat), e = .returned (.agg #[.int .i64 t.a.base, .slice A1 t.a.digits.length c1, .int .i64 t.b.base, .slice A2 t.b.digits.length c2, .int .i64 t.s.base, .slice A3 t.s.digits.length c3, .int .i64 t.carry]) ∧ vmach t = true ∧ DR b M w [rowI A3 c3 t.s.digits, rowI A2 c2 t.b.digits, rowI A1 c1 t.a.digits] w'
theorem DR.triC {b N : Nat} {w wi : World} {m : List Ent} {g : Nat} {t : Tri} {A1 A2 A3 : Option Addr} {c1 c2 c3 : Nat} (h : DR b N w ([.blk g [.int .i64 t.a.base, .slice A1 t.a.digits.length c1, .int .i64 t.b.base, .slice A2 t.b.digits.length c2, .int .i64 t.s.base, .slice A3 t.s.digits.length c3, .int .i64 t.carry] 28, rowI A3 c3 t.s.digits, rowI A2 c2 t.b.digits, rowI A1 c1 t.a.digits] ++ m) wi) : TriC wi ⟨g, 0, none⟩ t A1 c1 A2 c2 A3 c3 := by
  obtain ⟨v, -, -, hK⟩ := h
  exact ⟨⟨hK.blkAt.1 0, hK.blkAt.1 1, hK.blkAt.1 2, hK.blkAt.1 3, hK.blkAt.1 4, hK.blkAt.1 5, hK.blkAt.1 6⟩, hK.drop.drop.drop.riv, hK.drop.drop.riv, hK.drop.riv⟩
set_option maxRecDepth 100000 in
set_option maxHeartbeats 3200000 in
theorem l10Draw_dr (b N : Nat) (w : World) (h : Src w b N) (hN : N ≤ 700000) :
    Calls Tryd.prog 14 #[.pointer (some ⟨b, 0, none⟩)] w (DMach b (N + 200) w) := by
  unfold DMach
  have D0 := DR.nil h
  clear h
  go_enter Tryd.func14, Tryd.ntmps14
  go_wp2_with fail
  refine Calls.dr ((D0.al [.int .i64 0, .slice none 0 0, .int .i64 0, .slice none 0 0, .int .i64 0, .slice none 0 0, .int .i64 0] 28).al [.int .i64 10, .int .i64 10, .int .i64 10, .int .i64 2, .int .i64 3, .int .i64 8, .int .i64 12] 2) ?_; intro w1 D1
  simp only [World.size_alloc] at D1
  obtain ⟨hr, hA⟩ := DR.lit (ds := [10, 10, 10, 2, 3, 8, 12]) D1 (by decide)
  refine (among_dr b _ _ 7 7 _ w1 D1.src (by omega) hr hA (by omega) (by omega)).mono ?_; rintro e w2 ⟨bs, rfl, hx, h2⟩
  obtain ⟨b1, b2, b3⟩ := base_mem hx
  have D2 := (D1.add h2).sel [1] 99 (by decide) (by decide)
  clear D0 D1 h2 hr hA hx
  go_wp2_with fail
  refine (pick_dr b _ 4 w2 D2.src (by omega)).mono ?_; rintro e w3 ⟨y, rfl, hy, h3⟩
  have D3 := D2.add h3
  obtain ⟨q1, rfl, hq1⟩ := pickN (by omega) hy
  have hw1 : IntKind.i64.wrap (1 + (q1 : Int)) = ((q1 + 1 : Nat) : Int) := by rw [wrapI64 (by omega)]; omega
  obtain ⟨n1, hn1⟩ : ∃ n, q1 + 1 = n := ⟨_, rfl⟩
  rw [hn1] at hw1
  clear D2 h3 hy
  go_wp2_with fail
  refine (pick_dr b _ 5 w3 D3.src (by omega)).mono ?_; rintro e w4 ⟨y, rfl, hy, h4⟩
  have D4 := D3.add h4
  obtain ⟨q2, rfl, hq2'⟩ := pickN (by omega) hy
  have hw2 : IntKind.i64.wrap ((n1 : Int) + (q2 : Int)) = ((n1 + q2 : Nat) : Int) := by rw [wrapI64 (by omega)]; omega
  obtain ⟨n2, hn2⟩ : ∃ n, n1 + q2 = n := ⟨_, rfl⟩
  rw [hn2] at hw2
  clear D3 h4 hy
  go_wp2_with fail
  refine (pick_dr b _ 5 w4 D4.src (by omega)).mono ?_; rintro e w5 ⟨y, rfl, hy, h5⟩
  have D5 := D4.add h5
  obtain ⟨q3, rfl, hq3'⟩ := pickN (by omega) hy
  have hw3 : IntKind.i64.wrap (1 + (q3 : Int)) = ((q3 + 1 : Nat) : Int) := by rw [wrapI64 (by omega)]; omega
  obtain ⟨n3, hn3⟩ : ∃ n, q3 + 1 = n := ⟨_, rfl⟩
  rw [hn3] at hw3
  clear D4 h5 hy
  have hl1 : 1 ≤ n1 ∧ n1 ≤ n2 ∧ n2 ≤ 8 ∧ 1 ≤ n3 ∧ n3 ≤ 5 := by omega
  clear hn1 hn2 hn3 hq1 hq2' hq3'
  have KN := l10New_any bs n1 n2 n3 w5 (by omega) (by omega) (by omega) (by omega) (by omega)
  have hz3 := digD_vreg bs (by omega) (by omega) n3 (by omega) (by omega) 0 (by omega) (by have := pw_pos bs (by omega) n3; omega) (by omega)
  have hz2 := digD_vreg bs (by omega) (by omega) n2 (by omega) (by omega) 0 (by omega) (by have := pw_pos bs (by omega) n2; omega) (by omega)
  obtain ⟨x1, hx1⟩ : ∃ x, digD bs n1 0 = x := ⟨_, rfl⟩
  obtain ⟨ds2, hx2⟩ : ∃ x, digD bs n2 0 = x := ⟨_, rfl⟩
  obtain ⟨x3, hx3⟩ : ∃ x, digD bs n3 0 = x := ⟨_, rfl⟩
  have hm1 : x1.length = n1 := by rw [← hx1, digD_len]
  have hm2 : ds2.length = n2 := by rw [← hx2, digD_len]
  have hm3 : x3.length = n3 := by rw [← hx3, digD_len]
  rw [hx1, hx2, hx3, hm1, hm2, hm3] at KN
  rw [hx3] at hz3
  rw [hx2] at hz2
  have HM2 := Lib.hid hm2
  have HM3 := Lib.hid hm3
  have hpw : ∀ n : Nat, n ≤ 8 → pw bs n ≤ 1000000000001 := fun n hn => Int.le_trans (pw_mono bs (by omega) n 8 hn) b3
  have HPW := Lib.hid hpw
  have HZ3 := Lib.hid hz3
  have HZ2 := Lib.hid hz2
  replace KN := Lib.hid KN
  clear hx1 hx2 hx3 hm1 hm2 hm3 b3 hpw hz3 hz2
  go_wp2_with fail
  refine KN.out.mono ?_; rintro e w6 ⟨E1, g1, A2, c2, A3, c3, rfl, hKn⟩
  have D6 := D5.kn (fun v hK => hK.join hKn)
  clear D5 hKn
  go_wp2_with fail
  refine Calls.dr (D6.al [.int .i64 bs, .slice E1 n1 g1, .int .i64 bs, .slice A2 n2 c2, .int .i64 bs, .slice A3 n3 c3, .int .i64 0] 28) ?_; intro w7 D7
  obtain ⟨g, hg⟩ : ∃ g, w6.heap.size = g := ⟨_, rfl⟩
  rw [hg] at D7 ⊢
  clear D6 hg
  refine (digits_dr b _ bs n1 w7 D7.src (by omega) (by omega) (by omega) (by omega)).mono ?_; rintro e w8 ⟨A1, c1, ds1, rfl, hd1, hdd1, h8⟩
  have D8 := D7.add h8
  have HV1 := Lib.hid (draw_vreg (b := bs) (ds := ds1) (by omega) (by omega) (by omega) (by omega) hdd1 (HPW.out _ (by omega)))
  clear D7 h8 hdd1
  obtain ⟨a1, a2, a3, -⟩ := (D8.front 1 rfl).cells
  go_upto_region 6 with fail
  refine Code.wp.dr ((D8.front 1 rfl).st 1 (.slice A1 n1 c1)) ?_; intro w9 D9
  clear a1 a2 a3 D8
  go_wp2_with fail
  refine (one_dr b _ 2 w9 D9.src (by omega)).mono ?_; rintro e w10 ⟨yes, rfl, h10⟩
  have D10 := D9.add h10
  clear D9 h10
  obtain ⟨a1, a2, a3, -⟩ := D10.cells
  rcases yes with _ | _
  · have D9 := (D10.sel [0, 2, 3, 1, 5] 99 (by decide) (by decide)).mono (M := N + 120) (by omega)
    have hv1 := HV1.out
    have hv2 := HZ2.out
    have hv3 := HZ3.out
    have hx2l := HM2.out
    have hx3l := HM3.out
    have hq2 := HPW.out n2 (by omega)
    have hq3 := HPW.out n3 (by omega)
    have hl12 := hl1.2.1
    clear HV1 HZ2 HZ3 HM2 HM3 HPW KN
    subst hd1
    subst hx2l
    subst hx3l
    obtain ⟨t, ht⟩ : ∃ t : Tri, t = ⟨⟨bs, ds1⟩, ⟨bs, ds2⟩, ⟨bs, x3⟩, 0⟩ := ⟨_, rfl⟩
    have ha : t.a.digits = ds1 ∧ t.a.base = bs ∧ t.b.digits = ds2 ∧ t.b.base = bs ∧ t.s.digits = x3 ∧ t.s.base = bs ∧ t.carry = 0 := by rw [ht]; exact ⟨rfl, rfl, rfl, rfl, rfl, rfl, rfl⟩
    have D9 : DR b (N + 120) w [.blk g [.int .i64 t.a.base, .slice A1 t.a.digits.length c1, .int .i64 t.b.base, .slice A2 t.b.digits.length c2, .int .i64 t.s.base, .slice A3 t.s.digits.length c3, .int .i64 t.carry] 28, rowI A3 c3 t.s.digits, rowI A2 c2 t.b.digits, rowI A1 c1 t.a.digits, .blk w.heap.size [.int .i64 0, .slice none 0 0, .int .i64 0, .slice none 0 0, .int .i64 0, .slice none 0 0, .int .i64 0] 28] w10 := by rw [ha.1, ha.2.1, ha.2.2.1, ha.2.2.2.1, ha.2.2.2.2.1, ha.2.2.2.2.2.1, ha.2.2.2.2.2.2]; exact D9
    obtain ⟨vp1, vp2⟩ : 1 ≤ vplaces t ∧ vplaces t ≤ 16 := by unfold vplaces; rw [ha.1, ha.2.2.1, ha.2.2.2.2.1]; omega
    have hok : ∀ p : Int, 0 ≤ p → p ≤ vplaces t - 1 → vmach { t with carry := p } = true := fun p p0 p1 => by
      subst ht
      exact vmach_mk (t := ⟨⟨bs, ds1⟩, ⟨bs, ds2⟩, ⟨bs, x3⟩, p⟩) hv1 hv2 hv3 rfl rfl hq2 hq3 hl12 p0 p1
    have HOK := Lib.hid hok
    have HLT := Lib.hid (show t.a.digits.length ≤ 16 ∧ t.b.digits.length ≤ 16 ∧ t.s.digits.length ≤ 16 by rw [ha.1, ha.2.2.1, ha.2.2.2.2.1]; omega)
    clear hok ht ha hv1 hv2 hv3 hq2 hq3
    have KP := Lib.hid (l10Places_any ⟨g, 0, none⟩ t w10 (DR.triC (m := [.blk w.heap.size [.int .i64 0, .slice none 0 0, .int .i64 0, .slice none 0 0, .int .i64 0, .slice none 0 0, .int .i64 0] 28]) D9).tri HLT.out.1 HLT.out.2.1 HLT.out.2.2)
    obtain ⟨a1, a2, a3, -⟩ := D9.cells
    go_wp2_with fail
    refine KP.out.mono ?_; rintro e w10 ⟨rfl, mq, rfl⟩
    have D10 := D9.kn (fun v hK => hK.drewN mq)
    clear a1 a2 a3
    go_wp2_with fail
    refine (pick_dr b (N + 120) (vplaces t) _ D10.src (by omega)).mono ?_; rintro e w11 ⟨y, rfl, hy, h11⟩
    have D11 := D10.add h11
    obtain ⟨p, rfl, hp⟩ := pickN vp1 hy
    clear D9 D10 h11 hy KP
    obtain ⟨a1, a2, a3, -⟩ := D11.cells
    go_upto_region 9 with fail
    refine Code.wp.dr (D11.st 6 (.int .i64 (p : Int))) ?_; intro w12 D12
    clear a1 a2 a3 D11
    go_wp2_with fail
    refine (pick_dr b _ 5 w12 D12.src (by omega)).mono ?_; rintro e w13 ⟨y, rfl, hy, h13⟩
    have D13 := D12.add h13
    obtain ⟨k0, rfl, hk0⟩ := pickN (by omega) hy
    have hV0 := Lib.hid (HOK.out (p : Int) (by omega) (by omega))
    clear D12 h13 hy HLT
    obtain ⟨a1, a2, a3, -⟩ := D13.cells
    go_wp2_with fail
    clear a1 a2 a3
    go_loopw [7] (fun kk wr => ∃ (k : Nat) (t : Tri) (A1 : Option Addr) (c1 : Nat) (A2 : Option Addr) (c2 : Nat) (A3 : Option Addr) (c3 : Nat), k ≤ 4 ∧ kk = .int .i64 (k : Int) ∧ Hid (vmach t = true) ∧ DR b (N + 140 - 2 * k) w [.blk g [.int .i64 t.a.base, .slice A1 t.a.digits.length c1, .int .i64 t.b.base, .slice A2 t.b.digits.length c2, .int .i64 t.s.base, .slice A3 t.s.digits.length c3, .int .i64 t.carry] 28, rowI A3 c3 t.s.digits, rowI A2 c2 t.b.digits, rowI A1 c1 t.a.digits, .blk w.heap.size [.int .i64 0, .slice none 0 0, .int .i64 0, .slice none 0 0, .int .i64 0, .slice none 0 0, .int .i64 0] 28] wr) (fun kk _ => (intOf kk).toNat)
    case atStart => exact ⟨k0, { t with carry := p }, A1, c1, A2, c2, A3, c3, by omega, rfl, hV0, D13.mono (by omega)⟩
    case round =>
      clear D13 hV0 HOK vp1 vp2
      obtain ⟨k, t, A1, c1, A2, c2, A3, c3, hk4, rfl, HV, D⟩ := hrel
      obtain ⟨a1, a2, a3, a4, a5, a6, -⟩ := D.cells
      by_cases hk0 : 0 < k
      · have i1 : (0 : Int) < (k : Int) := by omega
        clear a1 a2 a3 a4 a5 a6
        go_wp2_with fail
        refine (pick_dr b _ 4 wr D.src (by omega)).mono ?_; rintro e w14 ⟨y, rfl, hy, h14⟩
        have D14 := D.add h14
        obtain ⟨q, rfl, hq⟩ := pickN (by omega) hy
        obtain ⟨v, hT, hS, hK⟩ := D14
        have hqw : IntKind.i64.wrap (1 + (q : Int)) = 1 + (q : Int) := wrapI64 (by omega)
        have KD := Lib.hid (l10DoK (m := [.blk w.heap.size [.int .i64 0, .slice none 0 0, .int .i64 0, .slice none 0 0, .int .i64 0, .slice none 0 0, .int .i64 0] 28]) (rest := []) t (1 + (q : Int)) w14 ⟨A1, c1, A2, c2, A3, c3, hK⟩ HV.out (by omega))
        obtain ⟨r, hr⟩ : ∃ r, strokeT (1 + (q : Int)) t = r := ⟨_, rfl⟩
        have HVR := Lib.hid (show vmach r.1 = true by rw [← hr]; exact strokeT_ok _ HV.out)
        rw [hr] at KD
        have HT := Lib.hid hT
        have HS := Lib.hid hS
        clear h14 hy hr hT hS hK D
        go_wp2_with fail
        refine KD.out.mono ?_; rintro e w15 ⟨rfl, E1, f1, E2, f2, E3, f3, hM⟩
        go_wp2_with fail
        go_roundw
        case rel => exact ⟨k - 1, r.1, E1, f1, E2, f2, E3, f3, by omega, by go_num, HVR, DR.mono (N := N + 140 - 2 * k + 2) ⟨v, HT.out, HS.out, hM⟩ (by omega)⟩
        case measure => simp [intOf]; omega
      · have i1 : ¬ (0 : Int) < (k : Int) := by omega
        go_wp2_with fail
        refine bodyPost.dr ((((((((D.front 4 rfl).st 0 (.int .i64 t.a.base)).st 1 (.slice A1 t.a.digits.length c1)).st 2 (.int .i64 t.b.base)).st 3 (.slice A2 t.b.digits.length c2)).st 4 (.int .i64 t.s.base)).st 5 (.slice A3 t.s.digits.length c3)).st 6 (.int .i64 t.carry)) ?_; intro w16 D16
        clear a1 a2 a3 a4 a5 a6
        obtain ⟨a1, a2, a3, -⟩ := D16.cells
        refine bodyPost_ret (v := .agg #[.int .i64 t.a.base, .slice A1 t.a.digits.length c1, .int .i64 t.b.base, .slice A2 t.b.digits.length c2, .int .i64 t.s.base, .slice A3 t.s.digits.length c3, .int .i64 t.carry]) (by simp [results, Tryd.results14, go_sem, a1]) rfl ⟨t, A1, c1, A2, c2, A3, c3, rfl, HV.out, ?_⟩
        exact (D16.sel [2, 3, 4] 99 (by decide) (by decide)).mono (by omega)
  · clear HZ2 HM2
    go_wp2_with fail
    refine (digits_dr b _ bs n2 w10 D10.src (by omega) (by omega) (by omega) (by omega)).mono ?_; rintro e w11 ⟨A2, c2, ds2, rfl, hd2, hdd2, h11⟩
    have D11 := D10.add h11
    have HZ2 := Lib.hid (draw_vreg (b := bs) (ds := ds2) (by omega) (by omega) (by omega) (by omega) hdd2 (HPW.out _ (by omega)))
    have HM2 := Lib.hid hd2
    clear a1 a2 a3 h11 hdd2 hd2 D10
    obtain ⟨a1, a2, a3, -⟩ := (D11.front 1 rfl).cells
    go_upto_region 8 with fail
    refine Code.wp.dr ((D11.front 1 rfl).st 3 (.slice A2 n2 c2)) ?_; intro w12 D12
    have D9 := (D12.sel [0, 3, 1, 2, 6] 99 (by decide) (by decide)).mono (M := N + 120) (by omega)
    clear a1 a2 a3 D11 D12
    have hv1 := HV1.out
    have hv2 := HZ2.out
    have hv3 := HZ3.out
    have hx2l := HM2.out
    have hx3l := HM3.out
    have hq2 := HPW.out n2 (by omega)
    have hq3 := HPW.out n3 (by omega)
    have hl12 := hl1.2.1
    clear HV1 HZ2 HZ3 HM2 HM3 HPW KN
    subst hd1
    subst hx2l
    subst hx3l
    obtain ⟨t, ht⟩ : ∃ t : Tri, t = ⟨⟨bs, ds1⟩, ⟨bs, ds2⟩, ⟨bs, x3⟩, 0⟩ := ⟨_, rfl⟩
    have ha : t.a.digits = ds1 ∧ t.a.base = bs ∧ t.b.digits = ds2 ∧ t.b.base = bs ∧ t.s.digits = x3 ∧ t.s.base = bs ∧ t.carry = 0 := by rw [ht]; exact ⟨rfl, rfl, rfl, rfl, rfl, rfl, rfl⟩
    have D9 : DR b (N + 120) w [.blk g [.int .i64 t.a.base, .slice A1 t.a.digits.length c1, .int .i64 t.b.base, .slice A2 t.b.digits.length c2, .int .i64 t.s.base, .slice A3 t.s.digits.length c3, .int .i64 t.carry] 28, rowI A3 c3 t.s.digits, rowI A2 c2 t.b.digits, rowI A1 c1 t.a.digits, .blk w.heap.size [.int .i64 0, .slice none 0 0, .int .i64 0, .slice none 0 0, .int .i64 0, .slice none 0 0, .int .i64 0] 28] w12 := by rw [ha.1, ha.2.1, ha.2.2.1, ha.2.2.2.1, ha.2.2.2.2.1, ha.2.2.2.2.2.1, ha.2.2.2.2.2.2]; exact D9
    obtain ⟨vp1, vp2⟩ : 1 ≤ vplaces t ∧ vplaces t ≤ 16 := by unfold vplaces; rw [ha.1, ha.2.2.1, ha.2.2.2.2.1]; omega
    have hok : ∀ p : Int, 0 ≤ p → p ≤ vplaces t - 1 → vmach { t with carry := p } = true := fun p p0 p1 => by
      subst ht
      exact vmach_mk (t := ⟨⟨bs, ds1⟩, ⟨bs, ds2⟩, ⟨bs, x3⟩, p⟩) hv1 hv2 hv3 rfl rfl hq2 hq3 hl12 p0 p1
    have HOK := Lib.hid hok
    have HLT := Lib.hid (show t.a.digits.length ≤ 16 ∧ t.b.digits.length ≤ 16 ∧ t.s.digits.length ≤ 16 by rw [ha.1, ha.2.2.1, ha.2.2.2.2.1]; omega)
    clear hok ht ha hv1 hv2 hv3 hq2 hq3
    have KP := Lib.hid (l10Places_any ⟨g, 0, none⟩ t w12 (DR.triC (m := [.blk w.heap.size [.int .i64 0, .slice none 0 0, .int .i64 0, .slice none 0 0, .int .i64 0, .slice none 0 0, .int .i64 0] 28]) D9).tri HLT.out.1 HLT.out.2.1 HLT.out.2.2)
    obtain ⟨a1, a2, a3, -⟩ := D9.cells
    go_wp2_with fail
    refine KP.out.mono ?_; rintro e w10 ⟨rfl, mq, rfl⟩
    have D10 := D9.kn (fun v hK => hK.drewN mq)
    clear a1 a2 a3
    go_wp2_with fail
    refine (pick_dr b (N + 120) (vplaces t) _ D10.src (by omega)).mono ?_; rintro e w11 ⟨y, rfl, hy, h11⟩
    have D11 := D10.add h11
    obtain ⟨p, rfl, hp⟩ := pickN vp1 hy
    clear D9 D10 h11 hy KP
    obtain ⟨a1, a2, a3, -⟩ := D11.cells
    go_upto_region 9 with fail
    refine Code.wp.dr (D11.st 6 (.int .i64 (p : Int))) ?_; intro w12 D12
    clear a1 a2 a3 D11
    go_wp2_with fail
    refine (pick_dr b _ 5 w12 D12.src (by omega)).mono ?_; rintro e w13 ⟨y, rfl, hy, h13⟩
    have D13 := D12.add h13
    obtain ⟨k0, rfl, hk0⟩ := pickN (by omega) hy
    have hV0 := Lib.hid (HOK.out (p : Int) (by omega) (by omega))
    clear D12 h13 hy HLT
    obtain ⟨a1, a2, a3, -⟩ := D13.cells
    go_wp2_with fail
    clear a1 a2 a3
    go_loopw [7] (fun kk wr => ∃ (k : Nat) (t : Tri) (A1 : Option Addr) (c1 : Nat) (A2 : Option Addr) (c2 : Nat) (A3 : Option Addr) (c3 : Nat), k ≤ 4 ∧ kk = .int .i64 (k : Int) ∧ Hid (vmach t = true) ∧ DR b (N + 140 - 2 * k) w [.blk g [.int .i64 t.a.base, .slice A1 t.a.digits.length c1, .int .i64 t.b.base, .slice A2 t.b.digits.length c2, .int .i64 t.s.base, .slice A3 t.s.digits.length c3, .int .i64 t.carry] 28, rowI A3 c3 t.s.digits, rowI A2 c2 t.b.digits, rowI A1 c1 t.a.digits, .blk w.heap.size [.int .i64 0, .slice none 0 0, .int .i64 0, .slice none 0 0, .int .i64 0, .slice none 0 0, .int .i64 0] 28] wr) (fun kk _ => (intOf kk).toNat)
    case atStart => exact ⟨k0, { t with carry := p }, A1, c1, A2, c2, A3, c3, by omega, rfl, hV0, D13.mono (by omega)⟩
    case round =>
      clear D13 hV0 HOK vp1 vp2
      obtain ⟨k, t, A1, c1, A2, c2, A3, c3, hk4, rfl, HV, D⟩ := hrel
      obtain ⟨a1, a2, a3, a4, a5, a6, -⟩ := D.cells
      by_cases hk0 : 0 < k
      · have i1 : (0 : Int) < (k : Int) := by omega
        clear a1 a2 a3 a4 a5 a6
        go_wp2_with fail
        refine (pick_dr b _ 4 wr D.src (by omega)).mono ?_; rintro e w14 ⟨y, rfl, hy, h14⟩
        have D14 := D.add h14
        obtain ⟨q, rfl, hq⟩ := pickN (by omega) hy
        obtain ⟨v, hT, hS, hK⟩ := D14
        have hqw : IntKind.i64.wrap (1 + (q : Int)) = 1 + (q : Int) := wrapI64 (by omega)
        have KD := Lib.hid (l10DoK (m := [.blk w.heap.size [.int .i64 0, .slice none 0 0, .int .i64 0, .slice none 0 0, .int .i64 0, .slice none 0 0, .int .i64 0] 28]) (rest := []) t (1 + (q : Int)) w14 ⟨A1, c1, A2, c2, A3, c3, hK⟩ HV.out (by omega))
        obtain ⟨r, hr⟩ : ∃ r, strokeT (1 + (q : Int)) t = r := ⟨_, rfl⟩
        have HVR := Lib.hid (show vmach r.1 = true by rw [← hr]; exact strokeT_ok _ HV.out)
        rw [hr] at KD
        have HT := Lib.hid hT
        have HS := Lib.hid hS
        clear h14 hy hr hT hS hK D
        go_wp2_with fail
        refine KD.out.mono ?_; rintro e w15 ⟨rfl, E1, f1, E2, f2, E3, f3, hM⟩
        go_wp2_with fail
        go_roundw
        case rel => exact ⟨k - 1, r.1, E1, f1, E2, f2, E3, f3, by omega, by go_num, HVR, DR.mono (N := N + 140 - 2 * k + 2) ⟨v, HT.out, HS.out, hM⟩ (by omega)⟩
        case measure => simp [intOf]; omega
      · have i1 : ¬ (0 : Int) < (k : Int) := by omega
        go_wp2_with fail
        refine bodyPost.dr ((((((((D.front 4 rfl).st 0 (.int .i64 t.a.base)).st 1 (.slice A1 t.a.digits.length c1)).st 2 (.int .i64 t.b.base)).st 3 (.slice A2 t.b.digits.length c2)).st 4 (.int .i64 t.s.base)).st 5 (.slice A3 t.s.digits.length c3)).st 6 (.int .i64 t.carry)) ?_; intro w16 D16
        clear a1 a2 a3 a4 a5 a6
        obtain ⟨a1, a2, a3, -⟩ := D16.cells
        refine bodyPost_ret (v := .agg #[.int .i64 t.a.base, .slice A1 t.a.digits.length c1, .int .i64 t.b.base, .slice A2 t.b.digits.length c2, .int .i64 t.s.base, .slice A3 t.s.digits.length c3, .int .i64 t.carry]) (by simp [results, Tryd.results14, go_sem, a1]) rfl ⟨t, A1, c1, A2, c2, A3, c3, rfl, HV.out, ?_⟩
        exact (D16.sel [2, 3, 4] 99 (by decide) (by decide)).mono (by omega)
end Go.Proofs.YtmmiahgmdllgdaaDoor

namespace Go.Proofs.YtmmiahgmdllgdaaDoor
open Go.RowKit Go.Sort
set_option maxHeartbeats 400000 in
theorem l00Same_any (A B : Option Addr) (n c m d : Nat) (ds es : List Int) (w : World) (hr : RI w A n ds) (hs : RI w B m es) (hm : n ≤ 9223372036854775807) (hm2 : m ≤ 9223372036854775807) :
    Calls Tryd.prog 76 #[.slice A n c, .slice B m d] w fun e w' => e = .returned (.bool (decide (ds = es))) ∧ ∃ q, w' = w.drewN q := by
  have HL := Lib.hid hr.1
  have HM := Lib.hid hs.1
  by_cases hnm : n = m
  · subst hnm
    go_enter Tryd.func76, Tryd.ntmps76
    go_wp2
    go_loopw [5] (fun i wr => ∃ k : Nat, k ≤ n ∧ i = .int .i64 k ∧ ds.take k = es.take k ∧ ∃ q, wr = w.drewN q) (fun i _ => n - (intOf i).toNat)
    case atStart => exact ⟨0, Nat.zero_le _, rfl, by simp, 0, rfl⟩
    case round =>
      obtain ⟨k, hk, rfl, hdg, q, rfl⟩ := hrel
      have HD := Lib.hid hdg; clear hdg
      by_cases hkn : k < n
      · obtain ⟨ad, hA, hlt, hkl, hc⟩ := hr.at_ hkn
        obtain ⟨ad2, hB, hlt2, hkl2, hc2⟩ := hs.at_ hkn
        subst hA; subst hB
        have hi0 : (0 : Int) ≤ (k : Int) := by omega
        have hi1 : (k : Int) < (n : Int) := by omega
        rcases hd : (ds[k] != es[k]) with _ | _
        · go_wp2
          go_quiet (fail)
          go_wp2
          have he : ds[k] = es[k] := by simpa using hd
          have HE := Lib.hid he; clear he
          go_roundw
          case rel => exact ⟨k + 1, by omega, by go_num, take_eq_of_succ HD.out hkl hkl2 HE.out, by first | exact ⟨_, rfl⟩ | exact ⟨_, World.drewN_drewN _ _ _⟩⟩
          case measure => simp [intOf]; omega
        · go_wp2
          go_quiet (fail)
          go_wp2
          go_ret
          refine ⟨ret_bool ?_, by first | exact ⟨_, rfl⟩ | exact ⟨_, World.drewN_drewN _ _ _⟩⟩
          have : ds ≠ es := by rintro rfl; simp at hd
          simp [this]
      · have HF : Hid (ds = es) := by
          have := HD.out
          rwa [List.take_of_length_le (by have := HL.out; omega), List.take_of_length_le (by have := HM.out; omega)] at this
        go_wp2
        go_ret
        exact ⟨ret_bool (by simp [HF.out]), q, rfl⟩
  · have HF : Hid (ds ≠ es) := by rintro rfl; exact hnm (hr.1.symm.trans hs.1)
    go_enter Tryd.func76, Tryd.ntmps76
    go_wp2
    go_ret
    exact ⟨ret_bool (by simp [HF.out]), 0, rfl⟩
def sameR (r s : Reg) : Bool := r.base == s.base && decide (r.digits = s.digits)
theorem l02Same_any (p q : Addr) (r s : Reg) (w : World) (hp : RegM w p r) (hq : RegM w q s) (hm : SmallReg r) (hm2 : SmallReg s) :
    Calls Tryd.prog 55 #[.pointer (some p), .pointer (some q)] w fun e w' => e = .returned (.bool (sameR r s)) ∧ ∃ m, w' = w.drewN m := by
  obtain ⟨A, c, ⟨ha, hb⟩, hr⟩ := hp
  obtain ⟨B, d, ⟨ha0, hb0⟩, hs⟩ := hq
  unfold SmallReg at hm hm2
  have K1 := Lib.hid (fun (m : Nat) => l00Same_any A B _ c _ d r.digits s.digits (w.drewN m) hr hs (by omega) (by omega))
  rcases k : (r.base == s.base) with _ | _
  · have HF : Hid (sameR r s = false) := by simp only [Hid, sameR]; rw [k]; rfl
    go_enter Tryd.func55, Tryd.ntmps55
    go_wp2_with fail
    go_quiet ((go_at_call 76; exact quiet_of_ex (K1.out _)))
    go_wp2
    go_ret
    exact ⟨ret_bool HF.out.symm, _, rfl⟩
  · have HF : Hid (sameR r s = decide (r.digits = s.digits)) := by simp only [Hid, sameR]; rw [k]; rfl
    go_enter Tryd.func55, Tryd.ntmps55
    go_wp2_with fail
    go_quiet ((go_at_call 76; exact quiet_of_ex (K1.out _)))
    go_wp2
    go_ret
    exact ⟨ret_bool HF.out.symm, _, rfl⟩
/-- the carry out of a digit with a kind of fault -/
def cstep (base t c kind : Int) : Int := if kind = 1 then 0 else if kind = 2 then 1 else if kind = 3 then (if t < base then 0 else 1) else if t + c < base then 0 else 1
end Go.Proofs.YtmmiahgmdllgdaaDoor

namespace Go.Proofs.YtmmiahgmdllgdaaDoor
open Go.RowKit Go.Sort
def sameM (t u : Tri) : Bool := sameR t.a u.a && sameR t.b u.b && sameR t.s u.s && (t.carry == u.carry)
set_option maxRecDepth 100000 in
set_option maxHeartbeats 1600000 in
theorem l10Same_any (p q : Addr) (t u : Tri) (w : World) (hT : TriM w p t) (hU : TriM w q u) (hs : SmallTri t) (hu : SmallTri u) :
    Calls Tryd.prog 26 #[.pointer (some p), .pointer (some q)] w fun e w' => e = .returned (.bool (sameM t u)) ∧ ∃ m, w' = w.drewN m := by
  have HM := Lib.hid (show sameM t u = (sameR t.a u.a && sameR t.b u.b && sameR t.s u.s && (t.carry == u.carry)) from rfl)
  have K1 := (fun (m : Nat) => l02Same_any p q t.a u.a (w.drewN m) hT.1 hU.1 hs.1 hu.1)
  have K2 := (fun (m : Nat) => l02Same_any ⟨p.block, p.off + 2, none⟩ ⟨q.block, q.off + 2, none⟩ t.b u.b (w.drewN m) hT.2.1 hU.2.1 hs.2.1 hu.2.1)
  have K3 := (fun (m : Nat) => l02Same_any ⟨p.block, p.off + 4, none⟩ ⟨q.block, q.off + 4, none⟩ t.s u.s (w.drewN m) hT.2.2.1 hU.2.2.1 hs.2.2 hu.2.2)
  have hc1 := hT.2.2.2
  have hc2 := hU.2.2.2
  obtain ⟨e1, h1⟩ : ∃ b, sameR t.a u.a = b := ⟨_, rfl⟩
  obtain ⟨e2, h2⟩ : ∃ b, sameR t.b u.b = b := ⟨_, rfl⟩
  obtain ⟨e3, h3⟩ : ∃ b, sameR t.s u.s = b := ⟨_, rfl⟩
  rw [h1] at K1 HM
  rw [h2] at K2 HM
  rw [h3] at K3 HM
  replace K1 := Lib.hid K1
  replace K2 := Lib.hid K2
  replace K3 := Lib.hid K3
  obtain ⟨R, hR⟩ : ∃ R, sameM t u = R := ⟨_, rfl⟩
  rw [hR] at HM ⊢
  clear h1 h2 h3 hT hU hs hu hR
  rcases e1 with _ | _
  · have HQ : Hid (R = false) := by simp only [Hid]; rw [HM.out]; rfl
    go_enter Tryd.func26, Tryd.ntmps26
    go_wp2_with fail
    go_quiet ((go_at_call 55; first | (with_reducible exact quiet_of_ex (K1.out _)) | (with_reducible exact quiet_add_ex (K1.out _)) | (with_reducible exact quiet_of_ex (K2.out _)) | (with_reducible exact quiet_add_ex (K2.out _)) | (with_reducible exact quiet_of_ex (K3.out _)) | (with_reducible exact quiet_add_ex (K3.out _))))
    go_wp2_with fail
    go_ret
    exact ⟨ret_bool HQ.out.symm, by first | exact ⟨_, rfl⟩ | exact ⟨_, World.drewN_drewN _ _ _⟩⟩
  rcases e2 with _ | _
  · have HQ : Hid (R = false) := by simp only [Hid]; rw [HM.out]; rfl
    go_enter Tryd.func26, Tryd.ntmps26
    go_wp2_with fail
    go_quiet ((go_at_call 55; first | (with_reducible exact quiet_of_ex (K1.out _)) | (with_reducible exact quiet_add_ex (K1.out _)) | (with_reducible exact quiet_of_ex (K2.out _)) | (with_reducible exact quiet_add_ex (K2.out _)) | (with_reducible exact quiet_of_ex (K3.out _)) | (with_reducible exact quiet_add_ex (K3.out _))))
    go_wp2_with fail
    go_ret
    exact ⟨ret_bool HQ.out.symm, by first | exact ⟨_, rfl⟩ | exact ⟨_, World.drewN_drewN _ _ _⟩⟩
  rcases e3 with _ | _
  · have HQ : Hid (R = false) := by simp only [Hid]; rw [HM.out]; rfl
    go_enter Tryd.func26, Tryd.ntmps26
    go_wp2_with fail
    go_quiet ((go_at_call 55; first | (with_reducible exact quiet_of_ex (K1.out _)) | (with_reducible exact quiet_add_ex (K1.out _)) | (with_reducible exact quiet_of_ex (K2.out _)) | (with_reducible exact quiet_add_ex (K2.out _)) | (with_reducible exact quiet_of_ex (K3.out _)) | (with_reducible exact quiet_add_ex (K3.out _))))
    go_wp2_with fail
    go_ret
    exact ⟨ret_bool HQ.out.symm, by first | exact ⟨_, rfl⟩ | exact ⟨_, World.drewN_drewN _ _ _⟩⟩
  · have HQ : Hid (R = (t.carry == u.carry)) := by simp only [Hid]; rw [HM.out]; simp
    go_enter Tryd.func26, Tryd.ntmps26
    go_wp2_with fail
    go_quiet ((go_at_call 55; first | (with_reducible exact quiet_of_ex (K1.out _)) | (with_reducible exact quiet_add_ex (K1.out _)) | (with_reducible exact quiet_of_ex (K2.out _)) | (with_reducible exact quiet_add_ex (K2.out _)) | (with_reducible exact quiet_of_ex (K3.out _)) | (with_reducible exact quiet_add_ex (K3.out _))))
    go_wp2_with fail
    go_ret
    exact ⟨ret_bool HQ.out.symm, by first | exact ⟨_, rfl⟩ | exact ⟨_, World.drewN_drewN _ _ _⟩⟩
end Go.Proofs.YtmmiahgmdllgdaaDoor

namespace Go.Proofs.YtmmiahgmdllgdaaDoor
open Go.RowKit Go.Sort
/-! whole sessions, plainly -/
/-- what a line does to a machine -/
def stepM (t : Tri) (b : List UInt8) : Tri × Int :=
  if kindOf b ≠ 0 then ((strokeT (kindOf b) t).1, 0)
  else if b = endB then (t, 0)
  else if begins setB b then (if (rdDec (b.drop 4)).isSome && decide (0 ≤ rdN (b.drop 4) ∧ rdN (b.drop 4) < pw t.a.base t.a.digits.length) then (setT t (rdN (b.drop 4)), 0) else (t, 3))
  else if begins showB b then (if b.drop 5 = strB (mtextL t) then (t, 0) else (t, 4))
  else (t, 2)
theorem kind_end : kindOf endB = 0 := by decide
theorem lineS_step {s : SS} {i : Int} {b : List UInt8} (h : s.ended = false) : (lineS s i b).1.m = (stepM s.m b).1 ∧ (lineS s i b).2 = (stepM s.m b).2 ∧ (lineS s i b).1.ended = decide (b = endB) ∧ (lineS s i b).1.start = s.start := by
  unfold lineS stepM
  rw [if_neg (by rw [h]; decide)]
  by_cases hk : kindOf b = 0
  · have hk' : ¬ (kindOf b ≠ 0) := fun h => h hk
    rw [if_neg hk', if_neg hk']
    by_cases he : b = endB
    · rw [if_pos he, if_pos he]; simp [he]
    · rw [if_neg he, if_neg he]
      have hd : decide (b = endB) = false := decide_eq_false he
      rw [hd]
      rcases begins setB b with _ | _
      · simp only [Bool.false_eq_true, if_false]
        rcases begins showB b with _ | _
        · simp [h]
        · simp only [if_true]; split <;> simp [h]
      · simp only [if_true]; split <;> simp [h]
  · rw [if_pos hk, if_pos hk]
    have he : b ≠ endB := by rintro rfl; exact hk kind_end
    simp [he]
def foldT (t : Tri) (l : List (List UInt8)) : Tri := l.foldl (fun t b => (stepM t b).1) t
def AllOk : Tri → List (List UInt8) → Prop
  | _, [] => True
  | t, b :: l => (stepM t b).2 = 0 ∧ b ≠ endB ∧ AllOk (stepM t b).1 l
theorem goS_ended {s : SS} {i : Int} {l : List (List UInt8)} (h : s.ended = true) (h0 : (goS s i l).2.2 = 0) : l = [] := by
  cases l with
  | nil => rfl
  | cons b l =>
    rw [goS_cons, lineS_ended i b h] at h0
    rw [if_pos (show (5 : Int) ≠ 0 by decide)] at h0
    cases h0
/-- a whole session: its lines are fine, and the last one ends it -/
theorem goS_valid : ∀ {l : List (List UInt8)} {s : SS} {i : Int}, s.ended = false → (goS s i l).2.2 = 0 → ∃ body, l = body ++ [endB] ∧ AllOk s.m body ∧ (goS s i l).1.m = foldT s.m body ∧ (goS s i l).1.start = s.start
  | [], s, i, h, h0 => by
    rw [goS_nil, h, if_neg (by decide)] at h0
    cases h0
  | b :: l, s, i, h, h0 => by
    obtain ⟨e1, e2, e3, e4⟩ := lineS_step (i := i) (b := b) h
    by_cases hc : (lineS s i b).2 = 0
    · rw [goS_cons, if_neg (fun h => h hc)] at h0 ⊢
      by_cases he : b = endB
      · have hl := goS_ended (by rw [e3, decide_eq_true he]) h0
        subst hl
        refine ⟨[], by rw [he]; rfl, trivial, ?_, ?_⟩
        · rw [goS_nil, e3, decide_eq_true he, if_pos rfl, e1, he]
          show (stepM s.m endB).1 = s.m
          unfold stepM
          rw [if_neg (fun h => h kind_end), if_pos rfl]
        · rw [goS_nil, e3, decide_eq_true he, if_pos rfl, e4]
      · have he' : (lineS s i b).1.ended = false := by rw [e3, decide_eq_false he]
        obtain ⟨body, h1, h2, h3, h4⟩ := goS_valid (l := l) he' h0
        refine ⟨b :: body, by rw [h1]; rfl, ⟨e2.symm.trans hc, he, by rw [← e1]; exact h2⟩, ?_, by rw [h4, e4]⟩
        rw [h3, e1]; rfl
    · rw [goS_cons, if_pos hc] at h0
      exact absurd h0 hc
/-- fine lines without an end: the machine behind them -/
theorem goS_fold : ∀ {l : List (List UInt8)} {s : SS} {i : Int}, s.ended = false → AllOk s.m l → (goS s i l).1.m = foldT s.m l
  | [], s, i, h, _ => by rw [goS_nil, h, if_neg (by decide)]; rfl
  | b :: l, s, i, h, h0 => by
    obtain ⟨e1, e2, e3, e4⟩ := lineS_step (i := i) (b := b) h
    obtain ⟨h1, h2, h3⟩ := h0
    rw [goS_cons, if_neg (fun h => h (e2.trans h1))]
    rw [goS_fold (by rw [e3, decide_eq_false h2]) (by rw [e1]; exact h3), e1]; rfl
theorem foldT_ok : ∀ {l : List (List UInt8)} {t : Tri}, vmach t = true → vmach (foldT t l) = true
  | [], t, h => h
  | b :: l, t, h => by
    show vmach (foldT (stepM t b).1 l) = true
    refine foldT_ok ?_
    have hg : (SS.mk t t [] [] false).Good 0 := ⟨h, h, Nat.le_refl _, Nat.le_refl _⟩
    have := (lineS_good (i := 0) (bs := b) hg).m
    rw [(lineS_step (s := ⟨t, t, [], [], false⟩) (i := 0) (b := b) rfl).1] at this
    exact this
/-- a whole session, from its lines -/
theorem whole_parts {l : List (List UInt8)} (h : wholeC l = 0) : l.length ≤ 100 ∧ ∃ b0 body, l = b0 :: (body ++ [endB]) ∧ startOk b0 = true ∧ vmach (rdMach (b0.drop 6)) = true ∧ AllOk (rdMach (b0.drop 6)) body ∧ (runS l).1.m = foldT (rdMach (b0.drop 6)) body ∧ (runS l).1.start = rdMach (b0.drop 6) := by
  obtain ⟨h1, h2⟩ := wholeC_ok h
  refine ⟨h1, ?_⟩
  match l, h2 with
  | [], h2 => simp [runS] at h2
  | b :: t, h2 =>
    rw [runS_cons] at h2 ⊢
    rcases hs : startOk b with _ | _
    · rw [hs, if_neg (by decide)] at h2; cases h2
    · rw [hs, if_pos rfl] at h2
      obtain ⟨body, e1, e2, e3, e4⟩ := goS_valid (s := ⟨rdMach (b.drop 6), rdMach (b.drop 6), [], [], false⟩) rfl h2
      have hv : vmach (rdMach (b.drop 6)) = true := by
        unfold startOk at hs
        rw [Bool.and_eq_true] at hs
        exact rdm_good hs.2
      rw [if_pos rfl]
      exact ⟨b, body, by rw [e1], hs, hv, e2, e3, e4⟩
theorem show_step {t : Tri} {b : List UInt8} (h : begins showB b = true) (h0 : (stepM t b).2 = 0) : (stepM t b).1 = t := by
  have h0 := h0
  unfold stepM at h0 ⊢
  by_cases hk : kindOf b = 0
  · have hk' : ¬ (kindOf b ≠ 0) := fun h => h hk
    rw [if_neg hk'] at h0 ⊢
    rw [if_neg (begins_ne h (by decide)), show_not_set h, if_neg (by decide), if_pos h] at h0 ⊢
    split <;> rfl
  · have hkk := kindOf_name hk
    have hb := (begins_iff.1 h).1
    have : b.length ≤ 5 := by rw [← hkk, strB_len]; exact sname_len _
    change 5 < b.length at hb
    omega
/-- the bytes "show " alone are no line of a session -/
theorem show_alone {t : Tri} (h : (stepM t showB).2 = 0) : False := by
  have : stepM t showB = (t, 2) := by
    unfold stepM
    rw [if_neg (by decide), if_neg (by decide), if_neg (by decide), if_neg (by decide)]
  rw [this] at h
  cases h
/-- is a line one that shows? (the reference's test) -/
def isShow (b : List UInt8) : Bool := decide (5 ≤ b.length) && decide (b.take 5 = showB)
theorem isShow_eq {t : Tri} {b : List UInt8} (h : (stepM t b).2 = 0) : isShow b = begins showB b := by
  unfold isShow begins
  by_cases h5 : b.length = 5
  · by_cases hb : b.take 5 = showB
    · rw [List.take_of_length_le (by omega)] at hb
      subst hb
      exact (show_alone h).elim
    · show (_ && decide (b.take 5 = showB)) = (_ && decide (b.take 5 = showB))
      rw [decide_eq_false hb]; simp
  · show (decide (5 ≤ b.length) && _) = (decide (5 < b.length) && _)
    have : decide (5 ≤ b.length) = decide (5 < b.length) := by
      by_cases h6 : 5 < b.length
      · rw [decide_eq_true h6, decide_eq_true (by omega)]
      · rw [decide_eq_false h6, decide_eq_false (by omega)]
    rw [this]; rfl
theorem isShow_end : isShow endB = false := by decide
theorem start_not_show {b : List UInt8} (h : startOk b = true) : begins showB b = false ∧ isShow b = false := by
  unfold startOk at h
  rw [Bool.and_eq_true] at h
  have h1 := (begins_iff.1 h.1).2
  have h2 : b.take 5 = startB.take 5 := by rw [← h1, List.take_take]; rfl
  constructor
  · unfold begins
    have : ¬ b.take showB.length = showB := by
      show ¬ b.take 5 = showB
      rw [h2]; decide
    rw [decide_eq_false this]; simp
  · unfold isShow
    rw [h2]
    have : decide (startB.take 5 = showB) = false := by decide
    rw [this]; simp
end Go.Proofs.YtmmiahgmdllgdaaDoor

namespace Go.Proofs.YtmmiahgmdllgdaaDoor
open Go.RowKit Go.Sort
/-! the shown session, plainly -/
def endW : ByteArray := ⟨#[101, 110, 100]⟩
def showT (t : Tri) : ByteArray := showW ++ mtext t
/-- what follows in the shown session, behind the first line -/
def restL (t : Tri) : List ByteArray → List ByteArray
  | [] => []
  | b :: r => if r = [] then [b] else if begins showB (strB b) then restL t r else b :: showT (stepM t (strB b)).1 :: restL (stepM t (strB b)).1 r
/-- the same of lines none of which shows -/
def restP (t : Tri) : List ByteArray → List ByteArray
  | [] => []
  | b :: r => if r = [] then [b] else b :: showT (stepM t (strB b)).1 :: restP (stepM t (strB b)).1 r
def notShow (b : ByteArray) : Bool := !isShow (strB b)
/-- lines that are fine, and the end behind them -/
def OkEnd (t : Tri) (l : List ByteArray) : Prop := ∃ body, l = body ++ [endW] ∧ AllOk t (body.map strB)
theorem endW_of {E : ByteArray} (h : strB E = endB) : E = endW := by
  have : endW = E := str_eq.2 (show ([101, 110, 100] : List UInt8) = strB E from h.symm)
  exact this.symm
theorem OkEnd.cons {t : Tri} {b : ByteArray} {r : List ByteArray} (h : OkEnd t (b :: r)) (hr : r ≠ []) : (stepM t (strB b)).2 = 0 ∧ strB b ≠ endB ∧ OkEnd (stepM t (strB b)).1 r := by
  obtain ⟨body, h1, h2⟩ := h
  cases body with
  | nil =>
    simp only [List.nil_append, List.cons.injEq] at h1
    exact absurd h1.2 hr
  | cons c body =>
    simp only [List.cons_append, List.cons.injEq] at h1
    obtain ⟨rfl, rfl⟩ := h1
    exact ⟨h2.1, h2.2.1, body, rfl, h2.2.2⟩
theorem OkEnd.last {t : Tri} {b : ByteArray} (h : OkEnd t [b]) : b = endW := by
  obtain ⟨body, h1, h2⟩ := h
  cases body with
  | nil => simpa using h1
  | cons c body => simp at h1
theorem OkEnd.ne {t : Tri} {l : List ByteArray} (h : OkEnd t l) : l ≠ [] := by
  obtain ⟨body, h1, -⟩ := h
  rw [h1]; simp
theorem whole_lines {ss : List ByteArray} (h : wholeC (ss.map strB) = 0) : ss.length ≤ 100 ∧ ∃ L tl, ss = L :: tl ∧ startOk (strB L) = true ∧ vmach (rdMach ((strB L).drop 6)) = true ∧ OkEnd (rdMach ((strB L).drop 6)) tl ∧ (runS (ss.map strB)).1.start = rdMach ((strB L).drop 6) := by
  obtain ⟨h1, b0, body, h2, h3, h4, h5, h6, h7⟩ := whole_parts h
  rw [List.length_map] at h1
  refine ⟨h1, ?_⟩
  match ss, h2, h7 with
  | L :: tl, g2, h7 =>
    simp only [List.map_cons, List.cons.injEq] at g2
    obtain ⟨rfl, g3⟩ := g2
    refine ⟨L, tl, rfl, h3, h4, ?_, h7⟩
    obtain ⟨l1, l2, rfl, e1, e2⟩ := List.map_eq_append_iff.1 g3
    have hl2 : l2.length = 1 := by have := congrArg List.length e2; simpa using this
    obtain ⟨E, rfl⟩ := List.length_eq_one_iff.1 hl2
    have e3 : strB E = endB := by simpa using e2
    exact ⟨l1, by rw [endW_of e3], by rw [e1]; exact h5⟩
theorem endW_notShow : notShow endW = true := by decide
/-- the lines that do not show, and the machine -/
theorem rest_plain : ∀ {l : List ByteArray} {t : Tri}, OkEnd t l → restL t l = restP t (l.filter notShow) ∧ OkEnd t (l.filter notShow)
  | [], t, h => absurd rfl h.ne
  | [b], t, h => by
    have hb := h.last
    subst hb
    have hf : [endW].filter notShow = [endW] := by rw [List.filter_cons_of_pos endW_notShow, List.filter_nil]
    rw [hf]
    exact ⟨by unfold restL restP; simp, h⟩
  | b :: c :: r, t, h => by
    obtain ⟨h1, h2, h3⟩ := h.cons (by simp)
    obtain ⟨ih1, ih2⟩ := rest_plain h3
    have hs : notShow b = !begins showB (strB b) := by unfold notShow; rw [isShow_eq h1]
    rcases hb : begins showB (strB b) with _ | _
    · rw [hb] at hs
      rw [List.filter_cons_of_pos (by rw [hs]; rfl)]
      have hne := ih2.ne
      refine ⟨?_, ?_⟩
      · have e1 : restL t (b :: c :: r) = b :: showT (stepM t (strB b)).1 :: restL (stepM t (strB b)).1 (c :: r) := by
          conv => lhs; unfold restL
          rw [if_neg (by simp), hb, if_neg (by decide)]
        have e2 : restP t (b :: (c :: r).filter notShow) = b :: showT (stepM t (strB b)).1 :: restP (stepM t (strB b)).1 ((c :: r).filter notShow) := by
          conv => lhs; unfold restP
          rw [if_neg hne]
        rw [e1, e2, ih1]
      · obtain ⟨body, e, ok⟩ := ih2
        exact ⟨b :: body, by rw [e]; rfl, h1, h2, ok⟩
    · rw [hb] at hs
      rw [List.filter_cons_of_neg (by rw [hs]; decide)]
      have ht := show_step hb h1
      rw [ht] at ih1 ih2
      refine ⟨?_, ih2⟩
      have e1 : restL t (b :: c :: r) = restL t (c :: r) := by
        conv => lhs; unfold restL
        rw [if_neg (by simp), hb, if_pos rfl]
      rw [e1, ih1]
/-- the shown session, and its code -/
def shL (ss : List ByteArray) : List ByteArray := match ss with | [] => [] | L :: tl => L :: restL (rdMach ((strB L).drop 6)) tl
def shC (ss : List ByteArray) : Int := if wholeC (ss.map strB) = 0 then (if (shL ss).length > 100 then 5 else 0) else wholeC (ss.map strB)
def shR (ss : List ByteArray) : List ByteArray := if shC ss = 0 then shL ss else []
theorem shR_len (ss : List ByteArray) : (shR ss).length ≤ 100 := by
  unfold shR
  split
  · rename_i h
    unfold shC at h
    split at h
    · split at h
      · cases h
      · omega
    · rename_i h'; exact absurd h h'
  · simp
/-- a row of strings, of its own length -/
def rowT (A : Option Addr) (c : Nat) (ss : List ByteArray) : Ent := rowSN A ss.length c ss
/-- strings and a code -/
def SCRet (l : List ByteArray) (C : Int) (w : World) (e : Ending) (w' : World) : Prop := ∃ X x, e = .returned (.tuple #[.slice X l.length x, .int .i64 C]) ∧ Kn w [rowT X x l] w'
theorem SCRet.none {C : Int} {w w' : World} (h : Below w.heap.size w w') : SCRet [] C w (.returned (.tuple #[.slice none 0 0, .int .i64 C])) w' :=
  ⟨_, _, rfl, ((Kn.nil w).keep h).nilRow _ _⟩
theorem AllOk.take : ∀ {l : List (List UInt8)} {t : Tri} (k : Nat), AllOk t l → AllOk t (l.take k)
  | [], t, k, h => by rw [List.take_nil]; trivial
  | b :: l, t, 0, h => trivial
  | b :: l, t, k + 1, h => ⟨h.1, h.2.1, AllOk.take k h.2.2⟩
theorem restL_len : ∀ (l : List ByteArray) (t : Tri), (restL t l).length ≤ 2 * l.length
  | [], t => by simp [restL]
  | b :: r, t => by
    unfold restL
    have h1 := restL_len r t
    have h2 := restL_len r (stepM t (strB b)).1
    split
    · simp; omega
    · split
      · simp only [List.length_cons]; omega
      · simp only [List.length_cons]; omega
end Go.Proofs.YtmmiahgmdllgdaaDoor

namespace Go.Proofs.YtmmiahgmdllgdaaDoor
open Go.RowKit Go.Sort
theorem StrokeName_all (k : Int) (w : World) : Calls Tryd.prog 29 #[.int .i64 k] w fun e w' => e = .returned (.string (sname k)) ∧ Below w.heap.size w w' := by
  by_cases h : 1 ≤ k ∧ k ≤ 6
  · exact StrokeName_any k w h
  · have hs : sname k = ⟨#[]⟩ := by
      unfold sname
      rw [if_neg (by omega), if_neg (by omega), if_neg (by omega), if_neg (by omega), if_neg (by omega), if_neg (by omega)]
    have hb : betB k 1 6 = false := betB_false.2 (by omega)
    have KB := Lib.hid (fun W => calls_val (between_any k 1 6 W) (congrArg Value.bool hb))
    have KI : ∀ W, Calls Tryd.prog 27 #[.int .i64 k] W fun e w' => e = .returned (.bool false) ∧ W = w' := fun W => by
      go_enter Tryd.func27, Tryd.ntmps27
      go_wp2_with (go_at_call 45; refine (KB.out _).mono ?_; rintro e w' ⟨rfl, rfl⟩)
      go_ret
      exact ⟨rfl, rfl⟩
    have KI := Lib.hid KI
    rw [hs]
    clear hb h hs KB
    go_enter Tryd.func29, Tryd.ntmps29
    go_wp2_with (go_at_call 27; refine (KI.out _).mono ?_; rintro e w' ⟨rfl, rfl⟩)
    go_ret
    exact ⟨rfl, Below.refl _ _⟩
/-- a recorded session -/
def startT (t : Tri) : ByteArray := startW ++ mtext t
def recL (t : Tri) (s : RS) : List ByteArray := startT t :: (s.tr.map sname ++ [showT s.m, endW])
def hasSet (L : List Ins) : Bool := L.any (fun x => x.op == 1)
noncomputable def rcC (L : List Ins) (t : Tri) : Int :=
  if (vmach t && vprog L) = false then 1 else if hasSet L then 6 else if (endR L t).code ≠ 0 then (endR L t).code else if (recL t (endR L t)).length > 100 then 5 else 0
noncomputable def rcR (L : List Ins) (t : Tri) : List ByteArray := if rcC L t = 0 then recL t (endR L t) else []
theorem rcR_len (L : List Ins) (t : Tri) : (rcR L t).length ≤ 100 := by
  unfold rcR
  split
  · rename_i h
    unfold rcC at h
    split at h
    · cases h
    · split at h
      · cases h
      · split at h
        · rename_i h1; exact absurd h h1
        · split at h
          · cases h
          · omega
  · simp
theorem rc_bad {L : List Ins} {t : Tri} (h : (vmach t && vprog L) = false) : rcC L t = 1 ∧ rcR L t = [] := by
  have h1 : rcC L t = 1 := by unfold rcC; rw [if_pos h]
  exact ⟨h1, by unfold rcR; rw [h1, if_neg (by decide)]⟩
theorem rc_set {L : List Ins} {t : Tri} (h : (vmach t && vprog L) = true) (hs : hasSet L = true) : rcC L t = 6 ∧ rcR L t = [] := by
  have h1 : rcC L t = 6 := by unfold rcC; rw [if_neg (by rw [h]; decide), if_pos hs]
  exact ⟨h1, by unfold rcR; rw [h1, if_neg (by decide)]⟩
theorem rc_code {L : List Ins} {t : Tri} (h : (vmach t && vprog L) = true) (hs : hasSet L = false) {s' : RS} {b' : Bool} (he : Ev L (.run 0 L.length) (startR t) s' b') (hc : s'.code ≠ 0) : rcC L t = s'.code ∧ rcR L t = [] := by
  have h1 : rcC L t = s'.code := by unfold rcC; rw [if_neg (by rw [h]; decide), hs, if_neg (by decide), endR_eq he, if_pos hc]
  exact ⟨h1, by unfold rcR; rw [h1, if_neg hc]⟩
theorem rc_fine {L : List Ins} {t : Tri} (h : (vmach t && vprog L) = true) (hs : hasSet L = false) {s' : RS} {b' : Bool} (he : Ev L (.run 0 L.length) (startR t) s' b') (hc : s'.code = 0) : rcC L t = (if (recL t s').length > 100 then 5 else 0) ∧ rcR L t = (if (recL t s').length > 100 then [] else recL t s') := by
  have h1 : rcC L t = (if (recL t s').length > 100 then 5 else 0) := by
    unfold rcC; rw [if_neg (by rw [h]; decide), hs, if_neg (by decide), endR_eq he, if_neg (fun h => h hc)]
  refine ⟨h1, ?_⟩
  unfold rcR
  rw [h1, endR_eq he]
  by_cases hl : (recL t s').length > 100
  · rw [if_pos hl, if_neg (by decide), if_pos hl]
  · rw [if_neg hl, if_pos rfl, if_neg hl]
theorem hasSet_take_succ {L : List Ins} {k : Nat} (h : k < L.length) : hasSet (L.take (k + 1)) = (hasSet (L.take k) || (L[k].op == 1)) := by
  unfold hasSet
  rw [List.take_succ_eq_append_getElem h, List.any_append]; simp
theorem hasSet_at {L : List Ins} {k : Nat} (h : k < L.length) (h1 : (L[k].op == 1) = true) : hasSet L = true := by
  unfold hasSet
  rw [List.any_eq_true]
  exact ⟨_, List.getElem_mem h, h1⟩
theorem mtext_size {t : Tri} (hv : vmach t = true) : (mtext t).size ≤ 300 := by
  obtain ⟨o1, o2, o3, y0, y1⟩ := vmach_parts hv
  have l1 := rtext_len t.a
  have l2 := rtext_len t.b
  have l3 := rtext_len t.s
  have l4 := dec_len t.carry (by omega) (by omega)
  unfold mtext
  rw [if_pos hv]
  unfold mtextL
  have e1 : (⟨#[32]⟩ : ByteArray).size = 1 := rfl
  simp only [ByteArray.size_append, size_mk, e1]
  omega
theorem small_of' {t : Tri} (h : vmach t = true) : SmallTri t := by
  have hz := sized_of h
  exact ⟨by have := hz.a; unfold SmallReg; omega, by have := hz.b; unfold SmallReg; omega, by have := hz.s; unfold SmallReg; omega⟩
end Go.Proofs.YtmmiahgmdllgdaaDoor

namespace Go.Proofs.YtmmiahgmdllgdaaDoor
open Go.RowKit Go.Sort
theorem sameR_refl (r : Reg) : sameR r r = true := by simp [sameR]
theorem sameM_refl (t : Tri) : sameM t t = true := by simp [sameM, sameR_refl]
set_option maxHeartbeats 800000 in
theorem a2Long2_any (A B : Option Addr) (n c m d : Nat) (w : World) (hn : n ≤ 9223372036854775807) (hm : m ≤ 9223372036854775807) :
    Calls Tryd.prog 4 #[.slice A n c, .slice B m d] w fun e w' => e = .returned (.bool (decide (3000 < n) || decide (3000 < m))) ∧ w = w' := by
  by_cases h : 3000 < n
  · have h1 : (3000 : Int) < (n : Int) := by omega
    have HF : Hid ((decide (3000 < n) || decide (3000 < m)) = true) := by simp [Hid, h]
    obtain ⟨R, hR⟩ : ∃ R, (decide (3000 < n) || decide (3000 < m)) = R := ⟨_, rfl⟩
    rw [hR] at HF ⊢
    clear hR
    go_enter Tryd.func4, Tryd.ntmps4
    go_wp2
    go_ret
    exact ⟨by first | exact ret_bool HF.out.symm | rfl, rfl⟩
  · by_cases h2 : 3000 < m
    · have h1 : ¬ (3000 : Int) < (n : Int) := by omega
      have h3 : (3000 : Int) < (m : Int) := by omega
      have HF : Hid ((decide (3000 < n) || decide (3000 < m)) = true) := by simp [Hid, h2]
      obtain ⟨R, hR⟩ : ∃ R, (decide (3000 < n) || decide (3000 < m)) = R := ⟨_, rfl⟩
      rw [hR] at HF ⊢
      clear hR
      have hd : decide ((3000 : Int) < (n : Int)) = false := decide_eq_false h1
      go_enter Tryd.func4, Tryd.ntmps4
      go_wp2
      go_ret
      exact ⟨by first | exact ret_bool HF.out.symm | rfl, rfl⟩
    · have h1 : ¬ (3000 : Int) < (n : Int) := by omega
      have h3 : ¬ (3000 : Int) < (m : Int) := by omega
      have HF : Hid ((decide (3000 < n) || decide (3000 < m)) = false) := by simp [Hid, h, h2]
      obtain ⟨R, hR⟩ : ∃ R, (decide (3000 < n) || decide (3000 < m)) = R := ⟨_, rfl⟩
      rw [hR] at HF ⊢
      clear hR
      have hd : decide ((3000 : Int) < (n : Int)) = false := decide_eq_false h1
      have hd2 : decide ((3000 : Int) < (m : Int)) = false := decide_eq_false h3
      go_enter Tryd.func4, Tryd.ntmps4
      go_wp2
      go_ret
      exact ⟨by first | exact ret_bool HF.out.symm | rfl, rfl⟩
set_option maxHeartbeats 800000 in
theorem a2At0_any (A : Option Addr) (n c : Nat) (bs : List UInt8) (q : Int) (w : World) (hb : RB w A n bs) (hn : n ≤ 9223372036854775807) (hq : 1 ≤ q ∧ q ≤ 1000) :
    Calls Tryd.prog 11 #[.slice A n c, .int .i64 0, .int .i64 q] w fun e w' => (∃ x : Int, e = .returned (.int .i64 x) ∧ 0 ≤ x ∧ x < q) ∧ w = w' := by
  rcases Nat.eq_zero_or_pos n with h0 | h0
  · subst h0
    clear hb
    go_enter Tryd.func11, Tryd.ntmps11
    go_wp2_with fail
    go_ret
    exact ⟨⟨0, rfl, by omega, by omega⟩, rfl⟩
  · obtain ⟨ad, rfl, hl, hc⟩ := hb.2 h0
    have hl0 : 0 < bs.length := by rw [hb.1]; exact h0
    obtain ⟨z, hz⟩ : ∃ z : Nat, bs[0].toNat = z := ⟨_, rfl⟩
    have hc0 := hc 0 bs[0] (by simp [hl0])
    have hz2 : z < 256 := by rw [← hz]; exact bs[0].toNat_lt
    unfold byteV at hc0
    rw [hz] at hc0
    have hc1 : w.cell? ad = some (.int .u8 (z : Int)) := by
      have e0 : ad.add 0 = ad := by unfold Addr.add; split <;> simp_all
      rw [e0] at hc0; exact hc0
    clear hc0
    have i1 : ¬ (n : Int) ≤ 0 := by omega
    have i2 : (0 : Int) < (n : Int) := by omega
    have i3 : ¬ q < 1 := by omega
    have i4 : ¬ q = 0 := by omega
    have i5 : q ≠ 0 := by omega
    have hm0 := Int.emod_nonneg (z : Int) i5
    have hm1 := Int.emod_lt_of_pos (z : Int) (show 0 < q by omega)
    have hw1 : IntKind.i64.wrap (z : Int) = z := wrapI64 (by omega)
    have hw2 : IntKind.i64.wrap ((z : Int) % q) = (z : Int) % q := wrapI64 (by omega)
    have hw3 : IntKind.i64.wrap ((z : Int).tmod q) = (z : Int) % q := by rw [Int.tmod_eq_emod_of_nonneg (by omega)]; exact hw2
    clear hc hb hz hl
    go_enter Tryd.func11, Tryd.ntmps11
    go_wp2_with fail
    go_ret
    exact ⟨⟨(z : Int) % q, rfl, hm0, hm1⟩, rfl⟩
theorem StrokeBack_any (k : Int) (w : World) (hk : 1 ≤ k ∧ k ≤ 6) :
    Calls Tryd.prog 53 #[.int .i64 k] w fun e w' => e = .returned (.tuple #[.int .i64 (if k ≤ 4 then backK k else 0), .int .i64 (if k ≤ 4 then 0 else 3)]) ∧ w = w' := by
  have hk' : k = 1 ∨ k = 2 ∨ k = 3 ∨ k = 4 ∨ k = 5 ∨ k = 6 := by omega
  clear hk
  rcases hk' with rfl | rfl | rfl | rfl | rfl | rfl <;>
  · go_enter Tryd.func53, Tryd.ntmps53
    go_wp2_with fail
    go_ret2
    exact ⟨rfl, rfl⟩
theorem specSameMachine_any (t u : Tri) (A1 A2 A3 B1 B2 B3 : Option Addr) (c1 c2 c3 d1 d2 d3 : Nat) (w : World) (r1 : RI w A1 t.a.digits.length t.a.digits) (r2 : RI w A2 t.b.digits.length t.b.digits) (r3 : RI w A3 t.s.digits.length t.s.digits)
    (q1 : RI w B1 u.a.digits.length u.a.digits) (q2 : RI w B2 u.b.digits.length u.b.digits) (q3 : RI w B3 u.s.digits.length u.s.digits) (hs : SmallTri t) (hu : SmallTri u) :
    Calls Tryd.prog 10 #[.agg #[.int .i64 t.a.base, .slice A1 t.a.digits.length c1, .int .i64 t.b.base, .slice A2 t.b.digits.length c2, .int .i64 t.s.base, .slice A3 t.s.digits.length c3, .int .i64 t.carry], .agg #[.int .i64 u.a.base, .slice B1 u.a.digits.length d1, .int .i64 u.b.base, .slice B2 u.b.digits.length d2, .int .i64 u.s.base, .slice B3 u.s.digits.length d3, .int .i64 u.carry]] w fun e w' => e = .returned (.bool (sameM t u)) ∧ Below w.heap.size w w' := by
  have KV := Lib.hid (fun W (hW : Kn w ([.blk (w.heap.size + 1) [.int .i64 u.a.base, .slice B1 u.a.digits.length d1, .int .i64 u.b.base, .slice B2 u.b.digits.length d2, .int .i64 u.s.base, .slice B3 u.s.digits.length d3, .int .i64 u.carry] 28, .blk w.heap.size [.int .i64 t.a.base, .slice A1 t.a.digits.length c1, .int .i64 t.b.base, .slice A2 t.b.digits.length c2, .int .i64 t.s.base, .slice A3 t.s.digits.length c3, .int .i64 t.carry] 28]) W) => l10Same_any ⟨w.heap.size, 0, none⟩ ⟨w.heap.size + 1, 0, none⟩ t u W
    (TriC.tri (A1 := A1) (c1 := c1) (A2 := A2) (c2 := c2) (A3 := A3) (c3 := c3) ⟨⟨hW.drop.blkAt.1 0, hW.drop.blkAt.1 1, hW.drop.blkAt.1 2, hW.drop.blkAt.1 3, hW.drop.blkAt.1 4, hW.drop.blkAt.1 5, hW.drop.blkAt.1 6⟩, r1.below hW.below, r2.below hW.below, r3.below hW.below⟩)
    (TriC.tri (A1 := B1) (c1 := d1) (A2 := B2) (c2 := d2) (A3 := B3) (c3 := d3) ⟨⟨hW.blkAt.1 0, hW.blkAt.1 1, hW.blkAt.1 2, hW.blkAt.1 3, hW.blkAt.1 4, hW.blkAt.1 5, hW.blkAt.1 6⟩, q1.below hW.below, q2.below hW.below, q3.below hW.below⟩) hs hu)
  clear r1 r2 r3 q1 q2 q3
  go_enter Tryd.func10, Tryd.ntmps10
  go_wp2_with fail
  refine Calls.kn (((Kn.nil w).al [.int .i64 t.a.base, .slice A1 t.a.digits.length c1, .int .i64 t.b.base, .slice A2 t.b.digits.length c2, .int .i64 t.s.base, .slice A3 t.s.digits.length c3, .int .i64 t.carry] 28).al [.int .i64 u.a.base, .slice B1 u.a.digits.length d1, .int .i64 u.b.base, .slice B2 u.b.digits.length d2, .int .i64 u.s.base, .slice B3 u.s.digits.length d3, .int .i64 u.carry] 28) ?_; intro w1 hK0
  simp only [World.size_alloc] at hK0
  refine (KV.out _ hK0).mono ?_; rintro e w2 ⟨rfl, m, rfl⟩
  go_wp2_with fail
  go_ret
  exact ⟨rfl, (hK0.drewN m).below⟩
/-- a machine, a bell and a code -/
def DSRet (r : Tri × Bool) (w : World) (e : Ending) (w' : World) : Prop := ∃ E1 f1 E2 f2 E3 f3, e = .returned (.tuple #[.agg #[.int .i64 r.1.a.base, .slice E1 r.1.a.digits.length f1, .int .i64 r.1.b.base, .slice E2 r.1.b.digits.length f2, .int .i64 r.1.s.base, .slice E3 r.1.s.digits.length f3, .int .i64 r.1.carry], .bool r.2, .int .i64 0]) ∧ Kn w [rowI E3 f3 r.1.s.digits, rowI E2 f2 r.1.b.digits, rowI E1 f1 r.1.a.digits] w'
set_option maxRecDepth 100000 in
set_option maxHeartbeats 1600000 in
theorem specDoStrokeV (t : Tri) (A1 A2 A3 : Option Addr) (c1 c2 c3 : Nat) (k : Int) (w : World) (r1 : RI w A1 t.a.digits.length t.a.digits) (r2 : RI w A2 t.b.digits.length t.b.digits) (r3 : RI w A3 t.s.digits.length t.s.digits) (hv : vmach t = true) (hk : 1 ≤ k ∧ k ≤ 6) :
    Calls Tryd.prog 13 #[.agg #[.int .i64 t.a.base, .slice A1 t.a.digits.length c1, .int .i64 t.b.base, .slice A2 t.b.digits.length c2, .int .i64 t.s.base, .slice A3 t.s.digits.length c3, .int .i64 t.carry], .int .i64 k] w (DSRet (strokeT k t) w) := by
  have hTC : ∀ W, Kn w ([.blk (w.heap.size + 1) [.int .i64 0, .slice none 0 0, .int .i64 0, .slice none 0 0, .int .i64 0, .slice none 0 0, .int .i64 0] 28, .blk w.heap.size [.int .i64 t.a.base, .slice A1 t.a.digits.length c1, .int .i64 t.b.base, .slice A2 t.b.digits.length c2, .int .i64 t.s.base, .slice A3 t.s.digits.length c3, .int .i64 t.carry] 28]) W → TriC W ⟨w.heap.size, 0, none⟩ t A1 c1 A2 c2 A3 c3 := fun W h => ⟨⟨h.drop.blkAt.1 0, h.drop.blkAt.1 1, h.drop.blkAt.1 2, h.drop.blkAt.1 3, h.drop.blkAt.1 4, h.drop.blkAt.1 5, h.drop.blkAt.1 6⟩, r1.below h.below, r2.below h.below, r3.below h.below⟩
  have KV := (fun W (hW : Kn w ([.blk (w.heap.size + 1) [.int .i64 0, .slice none 0 0, .int .i64 0, .slice none 0 0, .int .i64 0, .slice none 0 0, .int .i64 0] 28, .blk w.heap.size [.int .i64 t.a.base, .slice A1 t.a.digits.length c1, .int .i64 t.b.base, .slice A2 t.b.digits.length c2, .int .i64 t.s.base, .slice A3 t.s.digits.length c3, .int .i64 t.carry] 28]) W) => l10Ok_any ⟨w.heap.size, 0, none⟩ t W (hTC W hW).tri (small_of' hv))
  rw [hv] at KV
  have KK := Lib.hid (fun W => l10KindV k W hk)
  have KC := Lib.hid (fun W (hW : Kn w ([.blk (w.heap.size + 1) [.int .i64 0, .slice none 0 0, .int .i64 0, .slice none 0 0, .int .i64 0, .slice none 0 0, .int .i64 0] 28, .blk w.heap.size [.int .i64 t.a.base, .slice A1 t.a.digits.length c1, .int .i64 t.b.base, .slice A2 t.b.digits.length c2, .int .i64 t.s.base, .slice A3 t.s.digits.length c3, .int .i64 t.carry] 28]) W) => l10Own_any w.heap.size t A1 A2 A3 c1 c2 c3 W (hTC W hW) (sized_of hv))
  have KT := (fun (g9 : Nat) (m' : List Ent) W (h : MB w g9 [] 28 t m' W) => l10DoK t k W h hv hk)
  obtain ⟨r, hr⟩ : ∃ r, strokeT k t = r := ⟨_, rfl⟩
  rw [hr] at KT ⊢
  replace KT := Lib.hid KT
  replace KV := Lib.hid KV
  clear hr hk hv r1 r2 r3 hTC
  unfold DSRet
  go_enter Tryd.func13, Tryd.ntmps13
  go_wp2_with fail
  refine Calls.kn (((Kn.nil w).al [.int .i64 t.a.base, .slice A1 t.a.digits.length c1, .int .i64 t.b.base, .slice A2 t.b.digits.length c2, .int .i64 t.s.base, .slice A3 t.s.digits.length c3, .int .i64 t.carry] 28).al [.int .i64 0, .slice none 0 0, .int .i64 0, .slice none 0 0, .int .i64 0, .slice none 0 0, .int .i64 0] 28) ?_; intro w1 hK0
  simp only [World.size_alloc] at hK0
  refine (KV.out _ hK0).mono ?_; rintro e w2 ⟨rfl, m, rfl⟩
  have hK5 := hK0.drewN m
  clear hK0
  obtain ⟨x1, x2, x3, x4, x5, x6, -⟩ := hK5.cells
  go_wp2_with (first
    | (go_at_call 31; with_reducible refine (KK.out _).mono ?_; rintro e w4 ⟨rfl, rfl⟩)
    | (go_at_call 32; refine (KC.out _ hK5).mono ?_; rintro e w7 ⟨B1, d1, B2, d2, B3, d3, rfl, hKn⟩; have hK7 := (hK5.join hKn).al [.int .i64 t.a.base, .slice B1 t.a.digits.length d1, .int .i64 t.b.base, .slice B2 t.b.digits.length d2, .int .i64 t.s.base, .slice B3 t.s.digits.length d3, .int .i64 t.carry] 28; clear x1 x2 x3 x4 x5 x6; obtain ⟨x1, x2, x3, x4, x5, x6, -⟩ := (hK5.join hKn).cells)
    | (go_at_call 33; refine (KT.out _ _ _ ⟨B1, d1, B2, d2, B3, d3, hK7⟩).mono ?_; rintro e w9 ⟨rfl, E1, f1, E2, f2, E3, f3, hK9⟩; clear x1 x2 x3 x4 x5 x6; obtain ⟨x1, x2, x3, x4, x5, x6, -⟩ := hK9.cells))
  refine bodyPost.kn ((((((((hK9.front 4 rfl).st 0 (.int .i64 r.1.a.base)).st 1 (.slice E1 r.1.a.digits.length f1)).st 2 (.int .i64 r.1.b.base)).st 3 (.slice E2 r.1.b.digits.length f2)).st 4 (.int .i64 r.1.s.base)).st 5 (.slice E3 r.1.s.digits.length f3)).st 6 (.int .i64 r.1.carry)) ?_; intro w8 hK8
  clear x1 x2 x3 x4 x5 x6
  obtain ⟨a1, a2, a3, -⟩ := hK8.cells
  refine bodyPost_ret (v := .tuple #[.agg #[.int .i64 r.1.a.base, .slice E1 r.1.a.digits.length f1, .int .i64 r.1.b.base, .slice E2 r.1.b.digits.length f2, .int .i64 r.1.s.base, .slice E3 r.1.s.digits.length f3, .int .i64 r.1.carry], .bool r.2, .int .i64 0]) (by simp [results, Tryd.results13, go_sem, a1]) rfl ?_
  exact ⟨E1, f1, E2, f2, E3, f3, rfl, hK8.sel [2, 3, 4] 99 (by decide) (by decide)⟩
end Go.Proofs.YtmmiahgmdllgdaaDoor

namespace Go.Proofs.YtmmiahgmdllgdaaDoor
open Go.RowKit Go.Sort
set_option maxRecDepth 100000 in
set_option maxHeartbeats 1600000 in
theorem A2Machine_any (A : Option Addr) (n c : Nat) (bs : List UInt8) (w : World) (hb : RB w A n bs) (hn : n ≤ 9223372036854775807) :
    Calls Tryd.prog 5 #[.slice A n c] w fun e w' => ∃ (t : Tri) (A1 : Option Addr) (c1 : Nat) (A2 : Option Addr) (c2 : Nat) (A3 : Option Addr) (c3 : Nat), e = .returned (.agg #[.int .i64 t.a.base, .slice A1 t.a.digits.length c1, .int .i64 t.b.base, .slice A2 t.b.digits.length c2, .int .i64 t.s.base, .slice A3 t.s.digits.length c3, .int .i64 t.carry]) ∧ vmach t = true ∧ Kn w [rowI A3 c3 t.s.digits, rowI A2 c2 t.b.digits, rowI A1 c1 t.a.digits] w' := by
  have KF := Lib.hid (fun W (hW : Below w.heap.size w W) => l00From_any A n c bs W (hb.below hW) hn)
  clear hb
  go_enter Tryd.func5, Tryd.ntmps5
  go_wp2_with fail
  refine Calls.kn ((Kn.nil w).al [.int .i64 0, .slice none 0 0, .int .i64 0, .slice none 0 0, .int .i64 0, .slice none 0 0, .int .i64 0] 28) ?_; intro w1 hK0
  refine (KF.out _ hK0.below).mono ?_; rintro e w2 ⟨rfl, hs, hw⟩
  obtain ⟨b, hb⟩ : ∃ b, w1.heap.size = b := ⟨_, rfl⟩
  have hbb := hw.size
  rw [hb] at hs ⊢
  have KD := Lib.hid (l10Draw_dr b 0 w2 hs (by omega))
  unfold DMach at KD
  clear hs
  go_wp2_with fail
  refine KD.out.mono ?_; rintro e w3 ⟨t, A1, c1, A2, c2, A3, c3, rfl, hv, D⟩
  have hK1 := hK0.join (Kn.ofDR hw (by omega) D)
  clear D hw hbb hK0
  obtain ⟨a1, a2, a3⟩ := (hK1.front 3 rfl).blkAt
  go_wp2_with fail
  refine bodyPost.kn ((((((((hK1.front 3 rfl).st 0 (.int .i64 t.a.base)).st 1 (.slice A1 t.a.digits.length c1)).st 2 (.int .i64 t.b.base)).st 3 (.slice A2 t.b.digits.length c2)).st 4 (.int .i64 t.s.base)).st 5 (.slice A3 t.s.digits.length c3)).st 6 (.int .i64 t.carry)) ?_; intro w16 K16
  clear a1 a2 a3
  obtain ⟨a1, a2, a3, -⟩ := K16.cells
  refine bodyPost_ret (v := .agg #[.int .i64 t.a.base, .slice A1 t.a.digits.length c1, .int .i64 t.b.base, .slice A2 t.b.digits.length c2, .int .i64 t.s.base, .slice A3 t.s.digits.length c3, .int .i64 t.carry]) (by simp [results, Tryd.results5, go_sem, a1]) rfl ⟨t, A1, c1, A2, c2, A3, c3, rfl, hv, ?_⟩
  exact K16.sel [1, 2, 3] 99 (by decide) (by decide)
theorem backK_bd {k : Int} (h : 1 ≤ k ∧ k ≤ 4) : (1 ≤ backK k ∧ backK k ≤ 4) ∧ backK (backK k) = k := by
  have h' : k = 1 ∨ k = 2 ∨ k = 3 ∨ k = 4 := by omega
  rcases h' with rfl | rfl | rfl | rfl <;> decide
theorem sname_ne {k : Int} (h : 1 ≤ k ∧ k ≤ 4) : (sname k).toList ≠ [] ∧ 1 ≤ (sname k).size := by
  have h' : k = 1 ∨ k = 2 ∨ k = 3 ∨ k = 4 := by omega
  rcases h' with rfl | rfl | rfl | rfl <;> (rw [strB_toList]; decide)
end Go.Proofs.YtmmiahgmdllgdaaDoor

namespace Go.Proofs.YtmmiahgmdllgdaaDoor
open Go.RowKit Go.Sort
theorem DR.bare {b N : Nat} {w wi : World} {m : List Ent} (h : DR b N w m wi) : DR b N w [] wi := h.kn (fun _ hK => hK.bare)
end Go.Proofs.YtmmiahgmdllgdaaDoor

namespace Go.Proofs.YtmmiahgmdllgdaaDoor
open Go.RowKit Go.Sort
/-- what the drawing of a string returns -/
def DStr (b M L : Nat) (w : World) (e : Ending) (w' : World) : Prop := ∃ s : ByteArray, e = .returned (.string s) ∧ s.size ≤ L ∧ DR b M w [] w'
set_option maxRecDepth 100000 in
set_option maxHeartbeats 800000 in
theorem text_dr {b N : Nat} {w0 w : World} {m : List Ent} {g : Nat} {T : TypeId} (ss : List ByteArray) (n : Nat) (hl : ss.length = n) (h : DR b N w0 (.blk g (ss.map Value.string) T :: m) w) (hN : N ≤ 900000) (h0 : 0 < n) :
    Calls Tryd.prog 41 #[.pointer (some ⟨b, 0, none⟩), .slice (some ⟨g, 0, none⟩) n n] w fun e w' => ∃ s : ByteArray, e = .returned (.string s) ∧ s ∈ ss ∧ DR b (N + 2) w0 (.blk g (ss.map Value.string) T :: m) w' := by
  have HL := Lib.hid hl
  clear hl
  go_enter Tryd.func41, Tryd.ntmps41
  go_wp2_with (go_at_call 35; refine (pick_dr b _ _ _ h.src (by omega)).mono ?_; rintro e w3 ⟨y, rfl, hy, hD⟩; have D3 : DR b _ w0 (.blk g (ss.map Value.string) T :: m) w3 := h.add hD; clear hD; obtain ⟨j, rfl⟩ : ∃ q : Nat, y = q := ⟨y.toNat, by omega⟩; have hj : j < n := (by omega); have hi0 : (0 : Int) ≤ (j : Int) := (by omega); have hi1 : (j : Int) < (n : Int) := (by omega); have hjl : j < ss.length := (by rw [HL.out]; exact hj); have hc : w3.cell? ⟨g, j, none⟩ = some (.string ss[j]) := (by obtain ⟨u, -, -, hK⟩ := D3; rw [hK.blkAt.1 j, List.getElem?_map, List.getElem?_eq_getElem hjl]; rfl))
  go_ret
  exact ⟨_, rfl, List.getElem_mem hjl, D3⟩
theorem ext_le (s : ByteArray) (i j : Nat) : (s.extract i j).size ≤ s.size := by rw [ByteArray.size_extract]; omega
end Go.Proofs.YtmmiahgmdllgdaaDoor

namespace Go.Proofs.YtmmiahgmdllgdaaDoor
open Go.RowKit Go.Sort
theorem mem_snoc {ss : List ByteArray} {s : ByteArray} {p : ByteArray → Prop} (h : ∀ s ∈ ss, p s) (hs : p s) : ∀ x ∈ ss ++ [s], p x := fun x hx => by
  rcases List.mem_append.1 hx with hx | hx
  · exact h x hx
  · rw [List.mem_singleton.1 hx]; exact hs
set_option maxRecDepth 100000 in
set_option maxHeartbeats 1600000 in
theorem l26Notes_dr (b N : Nat) (w : World) (h : Src w b N) (hN : N ≤ 600000) :
    Calls Tryd.prog 18 #[.pointer (some ⟨b, 0, none⟩), .int .i64 9] w fun e w' => ∃ X x, ∃ ns : List ByteArray, e = .returned (.slice X ns.length x) ∧ ns.length ≤ 9 ∧ (∀ s ∈ ns, strB s ∈ noteL) ∧ DR b (N + 40) w [rowS (.slice X ns.length x) ns] w' := by
  have D0 := DR.nil h
  clear h
  obtain ⟨g0, hg0⟩ : ∃ g, w.heap.size = g := ⟨_, rfl⟩
  have D1 := D0.al [] 9
  rw [hg0] at D1
  go_enter Tryd.func18, Tryd.ntmps18
  go_wp2_with fail
  try rw [hg0]
  refine Calls.dr D1 ?_; clear D0 D1 hg0; intro w1 D1
  refine (pick_dr b _ 10 w1 D1.src (by omega)).mono ?_; rintro e w2 ⟨x, rfl, hx, h2⟩
  obtain ⟨q, rfl, hq⟩ := pickN (by omega) hx
  have D2 : DR b (N + 2) w [rowS (.slice (some ⟨g0, 0, none⟩) 0 0) []] w2 := (D1.add h2).kn (fun v h => (h.front 0 rfl).litRow (size := 1) (n := 0) rfl (by decide))
  clear D1 h2 hx
  go_wp2_with fail
  go_loopw [6, 5] (fun kk mm wr => ∃ (k : Nat) (ms : List ByteArray), k ≤ 9 ∧ kk = .int .i64 (k : Int) ∧ Hid (ms.length + k ≤ 9) ∧ Hid (∀ s ∈ ms, strB s ∈ noteL) ∧ DR b (N + 38 - 3 * k) w [rowS mm ms] wr) (fun kk _ _ => (intOf kk).toNat)
  case atStart => exact ⟨q, [], by omega, rfl, Lib.hid (by simp; omega), Lib.hid (fun s h => by cases h), D2.mono (by omega)⟩
  case round =>
    clear D2
    obtain ⟨k, ms, hk, rfl, HLN, HSM, D⟩ := hrel
    by_cases hk0 : 0 < k
    · have i1 : (0 : Int) < (k : Int) := by omega
      obtain ⟨gt, hgt⟩ : ∃ g, wr.heap.size = g := ⟨_, rfl⟩
      have D1 := D.al [.string ⟨#[97, 100, 100]⟩, .string ⟨#[115, 117, 98]⟩, .string ⟨#[114, 105, 103, 104, 116]⟩, .string ⟨#[108, 101, 102, 116]⟩, .string ⟨#[97, 100, 100]⟩, .string ⟨#[115, 117, 98]⟩, .string ⟨#[99, 108, 101, 97, 114]⟩, .string ⟨#[122, 101, 114, 111]⟩, .string ⟨#[]⟩, .string ⟨#[118, 105, 115, 105, 116, 111, 114, 32, 55]⟩, .string ⟨#[115, 101, 116, 32, 49, 50]⟩, .string ⟨#[97, 100, 100, 32, 97, 100, 100]⟩, .string ⟨#[32, 120]⟩] 9
      rw [hgt] at D1
      go_wp2_with fail
      try rw [hgt]
      refine Calls.dr D1 ?_; clear D D1 hgt; intro w1 D1
      refine (text_dr [⟨#[97, 100, 100]⟩, ⟨#[115, 117, 98]⟩, ⟨#[114, 105, 103, 104, 116]⟩, ⟨#[108, 101, 102, 116]⟩, ⟨#[97, 100, 100]⟩, ⟨#[115, 117, 98]⟩, ⟨#[99, 108, 101, 97, 114]⟩, ⟨#[122, 101, 114, 111]⟩, ⟨#[]⟩, ⟨#[118, 105, 115, 105, 116, 111, 114, 32, 55]⟩, ⟨#[115, 101, 116, 32, 49, 50]⟩, ⟨#[97, 100, 100, 32, 97, 100, 100]⟩, ⟨#[32, 120]⟩] 13 rfl D1 (by omega) (by omega)).mono ?_; rintro e w2 ⟨TX, rfl, hTX, D2⟩
      have hts : strB TX ∈ noteL := by
        have H : ∀ s ∈ ([⟨#[97, 100, 100]⟩, ⟨#[115, 117, 98]⟩, ⟨#[114, 105, 103, 104, 116]⟩, ⟨#[108, 101, 102, 116]⟩, ⟨#[97, 100, 100]⟩, ⟨#[115, 117, 98]⟩, ⟨#[99, 108, 101, 97, 114]⟩, ⟨#[122, 101, 114, 111]⟩, ⟨#[]⟩, ⟨#[118, 105, 115, 105, 116, 111, 114, 32, 55]⟩, ⟨#[115, 101, 116, 32, 49, 50]⟩, ⟨#[97, 100, 100, 32, 97, 100, 100]⟩, ⟨#[32, 120]⟩] : List ByteArray), strB s ∈ noteL := by decide
        exact H _ hTX
      clear D1 hTX
      obtain ⟨u, tw, hs, hK⟩ := D2
      have hln : ms.length ≤ 10000000 := by have := HLN.out; omega
      go_wp2_with (at_builtin; refine kn_pushS rfl _ _ rfl _ ms rfl rfl ((hK.front 1 rfl).al [.string TX] 9) hln ?_; intro v9 w9 K9)
      go_roundw
      case rel => exact ⟨k - 1, ms ++ [TX], by omega, by go_num, Lib.hid (by have := HLN.out; simp; omega), Lib.hid (mem_snoc (p := fun s => strB s ∈ noteL) HSM.out hts), DR.mono (N := N + 38 - 3 * k + 2) ⟨u, tw, hs, K9.sel [0] 99 (by decide) (by decide)⟩ (by omega)⟩
      case measure => simp [intOf]; omega
    · have i1 : ¬ (0 : Int) < (k : Int) := by omega
      obtain ⟨Z, z, rfl⟩ : ∃ X x, u5 = .slice X ms.length x := by
        obtain ⟨u, -, -, hK⟩ := D
        exact row_form hK.at0
      go_wp2_with fail
      go_ret
      exact ⟨Z, z, ms, rfl, by have := HLN.out; omega, HSM.out, D.mono (by omega)⟩
set_option maxRecDepth 100000 in
set_option maxHeartbeats 1600000 in
theorem A2Notes_any (A : Option Addr) (n c : Nat) (bs : List UInt8) (w : World) (hb : RB w A n bs) (hn : n ≤ 9223372036854775807) :
    Calls Tryd.prog 7 #[.slice A n c] w fun e w' => ∃ X x, ∃ ns : List ByteArray, e = .returned (.slice X ns.length x) ∧ ns.length ≤ 9 ∧ (∀ s ∈ ns, strB s ∈ noteL) ∧ Kn w [rowS (.slice X ns.length x) ns] w' := by
  have K1 := Lib.hid (l00From_any A n c bs w hb hn)
  clear hb
  go_enter Tryd.func7, Tryd.ntmps7
  go_wp2_with fail
  refine K1.out.mono ?_; rintro e w1 ⟨rfl, hs, hb1⟩
  have D1 := DR.nil hs
  clear hs
  have KB := Lib.hid (l26Notes_dr _ _ w1 D1.src (by omega))
  go_wp2_with fail
  refine KB.out.mono ?_; rintro e w2 ⟨X, x, ns, rfl, hl, hz, h2⟩
  have K2 : Kn w [rowS (.slice X ns.length x) ns] w2 := (Kn.ofDR hb1 (Nat.le_refl _) (D1.add h2)).sel [0] 99 (by decide) (by decide)
  go_wp2_with fail
  go_ret
  exact ⟨X, x, ns, rfl, hl, hz, K2⟩
/-! the journal with some notes -/
theorem jmk_snoc (l : List (List UInt8)) (x : List UInt8) : jmk 0 0 (l ++ [x]) = jmk 0 0 l ++ jline (jsum 0 0 l) l.length x := by
  rw [jmk_append, Nat.zero_add]
  show _ ++ (jline _ _ x ++ []) = _
  rw [List.append_nil]
theorem jsum_append : ∀ (a b : List (List UInt8)) (n : Nat) (s : Int), jsum n s (a ++ b) = jsum (n + a.length) (jsum n s a) b
  | [], b, n, s => rfl
  | x :: a, b, n, s => by
    show jsum (n + 1) _ (a ++ b) = _
    rw [jsum_append a b, List.length_cons, show n + 1 + a.length = n + (a.length + 1) by omega]
    rfl
theorem jsum_snoc (l : List (List UInt8)) (x : List UInt8) : jsum 0 0 (l ++ [x]) = nsum (jsum 0 0 l) ((l.length : Int) + 1) x := by
  rw [jsum_append, Nat.zero_add]; rfl
theorem map_take_snoc {ns : List ByteArray} {k : Nat} (h : k < ns.length) : (ns.take (k + 1)).map strB = (ns.take k).map strB ++ [strB ns[k]] := by
  rw [List.take_succ_eq_append_getElem h, List.map_append]; rfl
theorem jof_small {l : List (List UInt8)} (hl : l.length ≤ 20) (h : ∀ x ∈ l, x.length ≤ 9) : (jof l).length ≤ 54 * l.length := jmk_bd 9 l 0 0 (by omega) h
set_option maxRecDepth 100000 in
set_option maxHeartbeats 1600000 in
theorem l26Make_any (A : Option Addr) (n c : Nat) (ns : List ByteArray) (w : World) (hr : RL StrM 1 w A n ns) (hn : n ≤ 20) (hz : ∀ s ∈ ns, (strB s).length ≤ 9) :
    Calls Tryd.prog 17 #[.slice A n c] w fun e w' => (∃ T : ByteArray, e = .returned (.tuple #[.string T, .int .i64 0]) ∧ strB T = jof (ns.map strB)) ∧ Below w.heap.size w w' := by
  have HL := Lib.hid hr.1
  have HR := Lib.hid (fun W (hW : Below w.heap.size w W) => hr.below steady_StrM hW)
  have HZ := Lib.hid hz
  clear hr hz
  go_enter Tryd.func17, Tryd.ntmps17
  go_wp2_with fail
  go_loopw [6, 4, 5] (fun ii tt ss wr => ∃ (k : Nat) (T : ByteArray), k ≤ n ∧ ii = .int .i64 k ∧ tt = .string T ∧ Hid (strB T = jmk 0 0 ((ns.take k).map strB)) ∧ ss = .int .i64 (jsum 0 0 ((ns.take k).map strB)) ∧ Below w.heap.size w wr) (fun ii _ _ _ => n - (intOf ii).toNat)
  case atStart => exact ⟨0, ⟨#[]⟩, Nat.zero_le _, rfl, rfl, Lib.hid rfl, rfl, Below.refl _ _⟩
  case round =>
    obtain ⟨k, T, hk, rfl, rfl, HT, rfl, hbw⟩ := hrel
    by_cases hkn : k < n
    · obtain ⟨ad, hA, hlt, hkl, hx⟩ := (HR.out _ hbw).at_ hkn
      unfold StrM at hx
      rw [Nat.mul_one] at hx
      have hzx := HZ.out _ (List.getElem_mem hkl)
      obtain ⟨x, hxe⟩ : ∃ x, ns[k] = x := ⟨_, rfl⟩
      have hms := map_take_snoc hkl
      have hml : ((ns.take k).map strB).length = k := by rw [List.length_map, List.length_take]; have := HL.out; omega
      rw [hxe] at hx hzx hms
      have h1 := jmk_snoc ((ns.take k).map strB) (strB x)
      have h2 := jsum_snoc ((ns.take k).map strB) (strB x)
      have h3 : (jof ((ns.take k).map strB)).length ≤ 54 * k := by
        have := jof_small (l := (ns.take k).map strB) (by omega) (fun y hy => by
          obtain ⟨s, hs, rfl⟩ := List.mem_map.1 hy
          exact HZ.out s (List.mem_of_mem_take hs))
        rw [hml] at this
        exact this
      have hTs : T.size ≤ 54 * k := by rw [← strB_len, HT.out]; exact h3
      rw [hml] at h1 h2
      rw [← hms] at h1 h2
      obtain ⟨S, hS⟩ : ∃ s, jsum 0 0 ((ns.take k).map strB) = s := ⟨_, rfl⟩
      rw [hS] at h1 h2
      have hxs : x.size ≤ 9 := by rw [← strB_len]; exact hzx
      have KL := (fun W => l26Line_any x S k W (by omega) (by omega))
      have hjl := (jline_len S k (by omega) (strB x)).2
      have hjs := jlineB_size S k x
      have HJ := Lib.hid (strB_jlineB S k x)
      obtain ⟨JL, hJL⟩ : ∃ j, jlineB S k x = j := ⟨_, rfl⟩
      have hjb : JL.size ≤ 54 := by rw [← hJL, hjs]; omega
      rw [hJL] at HJ
      simp only [hJL] at KL
      have HT2 := Lib.hid (show strB (T ++ JL) = jmk 0 0 ((ns.take (k + 1)).map strB) by rw [strB_app, HT.out, HJ.out, h1])
      replace h2 := Lib.hid h2
      rw [hS]
      replace KL := Lib.hid KL
      have hi0 : (0 : Int) ≤ (k : Int) := by omega
      have hi1 : (k : Int) < (n : Int) := by omega
      have hc1 : ¬ 9223372036854775807 < T.size + JL.size := by omega
      have hc2 : ¬ (4000 : Int) < ((T.size + JL.size : Nat) : Int) := by omega
      have hc3 : ¬ (4000 : Int) < (T.size : Int) + (JL.size : Int) := by omega
      subst hA
      clear hxe hms hml h1 h3 hjl hjs hJL hS hzx
      go_wp2_with fail
      refine (KL.out _).mono ?_; rintro e w5 ⟨rfl, hw⟩
      go_wp2_with fail
      go_roundw
      case rel => exact ⟨k + 1, T ++ JL, by omega, by go_num, rfl, HT2, by rw [h2.out], hbw.trans (hw.mono hbw.size)⟩
      case measure => simp [intOf]; omega
    · have hi1 : ¬ (k : Int) < (n : Int) := by omega
      have HE := Lib.hid (show strB T = jof (ns.map strB) by
        have := HT.out
        rw [List.take_of_length_le (by have := HL.out; omega)] at this
        exact this)
      go_wp2_with fail
      go_ret2
      exact ⟨⟨T, rfl, HE.out⟩, hbw⟩
end Go.Proofs.YtmmiahgmdllgdaaDoor

namespace Go.Proofs.YtmmiahgmdllgdaaDoor
open Go.RowKit Go.Sort
set_option maxRecDepth 100000 in
set_option maxHeartbeats 1600000 in
theorem JournalOf_any (A : Option Addr) (n c : Nat) (ns : List ByteArray) (w : World) (hr : RL StrM 1 w A n ns) (hn : n ≤ 20) (hz : ∀ s ∈ ns, (strB s).length ≤ 9) (hok : ∀ s ∈ ns, noteOk (strB s) = true) :
    Calls Tryd.prog 6 #[.slice A n c] w fun e w' => (∃ T : ByteArray, e = .returned (.tuple #[.string T, .int .i64 0]) ∧ strB T = jof (ns.map strB)) ∧ Below w.heap.size w w' := by
  have HL := Lib.hid hr.1
  have HR := Lib.hid hr
  have KM := Lib.hid (fun W (hW : Below w.heap.size w W) => l26Make_any A n c ns W (hr.below steady_StrM hW) hn hz)
  have HZ := Lib.hid hz
  have HO := Lib.hid hok
  clear hr hz hok
  go_enter Tryd.func6, Tryd.ntmps6
  go_wp2_with fail
  go_loopw [4] (fun ii wr => ∃ (k : Nat), k ≤ n ∧ ii = .int .i64 k ∧ w = wr) (fun ii _ => n - (intOf ii).toNat)
  case atStart => exact ⟨0, Nat.zero_le _, rfl, rfl⟩
  case round =>
    obtain ⟨k, hk, rfl, rfl⟩ := hrel
    by_cases hkn : k < n
    · obtain ⟨ad, hA, hlt, hkl, hx⟩ := HR.out.at_ hkn
      unfold StrM at hx
      rw [Nat.mul_one] at hx
      have hzx := HZ.out _ (List.getElem_mem hkl)
      have hox := HO.out _ (List.getElem_mem hkl)
      obtain ⟨x, hxe⟩ : ∃ x, ns[k] = x := ⟨_, rfl⟩
      rw [hxe] at hx hzx hox
      have hxs : x.size ≤ 9 := by rw [← strB_len]; exact hzx
      have KL := (fun W => l26Note_any x W (by omega))
      rw [hox] at KL
      replace KL := Lib.hid KL
      have hi0 : (0 : Int) ≤ (k : Int) := by omega
      have hi1 : (k : Int) < (n : Int) := by omega
      subst hA
      clear hxe hzx hox hxs
      go_wp2_with (go_at_call 16; refine (KL.out _).mono ?_; rintro e w5 ⟨rfl, hww⟩; obtain rfl := hww)
      go_roundw
      case rel => exact ⟨k + 1, by omega, by go_num, by first | rfl | trivial⟩
      case measure => simp [intOf]; omega
    · have hi1 : ¬ (k : Int) < (n : Int) := by omega
      go_wp2_with fail
      refine (KM.out _ (Below.refl _ _)).mono ?_; rintro e w5 ⟨⟨T, rfl, hT⟩, hw⟩
      have HT := Lib.hid hT
      clear hT
      go_wp2_with fail
      go_ret2
      exact ⟨⟨T, rfl, HT.out⟩, hw⟩
set_option maxRecDepth 100000 in
set_option maxHeartbeats 3200000 in
theorem journalOf_any (A : Option Addr) (n c : Nat) (ns : List ByteArray) (w : World) (hr : RL StrM 1 w A n ns) (hn : n ≤ 20) (hz : ∀ s ∈ ns, (strB s).length ≤ 9) (ht : TB w) :
    Calls Tryd.prog 25 #[.slice A n c] w fun e w' => (∃ T : ByteArray, e = .returned (.string T) ∧ strB T = jof (ns.map strB)) ∧ Below w.heap.size w w' := by
  have HL := Lib.hid hr.1
  have HR := Lib.hid (fun W (hW : Below w.heap.size w W) => hr.below steady_StrM hW)
  have HZ := Lib.hid hz
  have HTB := Lib.hid (fun W (hW : Below w.heap.size w W) => TB.below ht hW)
  clear hr hz ht
  obtain ⟨g, hg⟩ : ∃ g, w.heap.size = g := ⟨_, rfl⟩
  have K0 := ((Kn.nil w).al [.slice none 0 0, .int .i64 0, .int .i64 0] 54).nilRow 9 1
  rw [hg] at K0
  go_enter Tryd.func25, Tryd.ntmps25
  go_upto_region 2 with fail
  try rw [hg]
  refine Code.wp.kn K0 ?_; clear K0 hg; intro w1 K0
  go_wp2_with fail
  go_loopw [13, 4] (fun ii tt wr => ∃ (k : Nat) (T : ByteArray) (vv : Value), k ≤ n ∧ ii = .int .i64 k ∧ tt = .string T ∧ Hid (strB T = jmk 0 0 ((ns.take k).map strB)) ∧ Kn w [.blk g [vv, .int .i64 (jsum 0 0 ((ns.take k).map strB)), .int .i64 0] 54, rowS vv (ns.take k)] wr) (fun ii _ _ => n - (intOf ii).toNat)
  case atStart => exact ⟨0, ⟨#[]⟩, _, Nat.zero_le _, rfl, rfl, Lib.hid rfl, K0.sel [1, 0] 99 (by decide) (by decide)⟩
  case round =>
    clear K0
    obtain ⟨k, T, vv, hk, rfl, rfl, HT, hK⟩ := hrel
    by_cases hkn : k < n
    · obtain ⟨ad, hA, hlt, hkl, hx⟩ := (HR.out _ hK.below).at_ hkn
      unfold StrM at hx
      rw [Nat.mul_one] at hx
      have hzx := HZ.out _ (List.getElem_mem hkl)
      obtain ⟨x, hxe⟩ : ∃ x, ns[k] = x := ⟨_, rfl⟩
      have hms := map_take_snoc hkl
      have hts := List.take_succ_eq_append_getElem hkl
      have hml : ((ns.take k).map strB).length = k := by rw [List.length_map, List.length_take]; have := HL.out; omega
      have htl : (ns.take k).length = k := by rw [List.length_take]; have := HL.out; omega
      rw [hxe] at hx hzx hms hts
      have h1 := jmk_snoc ((ns.take k).map strB) (strB x)
      have h2 := jsum_snoc ((ns.take k).map strB) (strB x)
      have h3 : (jof ((ns.take k).map strB)).length ≤ 54 * k := by
        have := jof_small (l := (ns.take k).map strB) (by omega) (fun y hy => by
          obtain ⟨s, hs, rfl⟩ := List.mem_map.1 hy
          exact HZ.out s (List.mem_of_mem_take hs))
        rw [hml] at this
        exact this
      have hTs : T.size ≤ 54 * k := by rw [← strB_len, HT.out]; exact h3
      rw [hml] at h1 h2
      rw [← hms] at h1 h2
      obtain ⟨S, hS⟩ : ∃ s, jsum 0 0 ((ns.take k).map strB) = s := ⟨_, rfl⟩
      rw [hS] at h1 h2 hK
      have hxs : x.size ≤ 9 := by rw [← strB_len]; exact hzx
      obtain ⟨os, hos⟩ : ∃ o, ns.take k = o := ⟨_, rfl⟩
      rw [hos] at hK hts htl
      obtain ⟨X, xc, rfl⟩ := row_form (hK.front 1 rfl).at0
      have hln : os.length ≤ 10000000 := by omega
      rw [htl] at hK
      obtain ⟨a1, a2, a3⟩ := hK.blkAt
      have KL := (fun W (h0 : W.cell? ⟨g, 0, none⟩ = some (.slice X k xc)) (h1 : W.cell? ⟨g, 1, none⟩ = some (.int .i64 S)) ht => next_any x S k g X xc W h0 h1 (by omega) (by omega) ht)
      have hjl := (jline_len S k (by omega) (strB x)).2
      have hjs := jlineB_size S k x
      have HJ := Lib.hid (strB_jlineB S k x)
      obtain ⟨JL, hJL⟩ : ∃ j, jlineB S k x = j := ⟨_, rfl⟩
      have hjb : JL.size ≤ 54 := by rw [← hJL, hjs]; omega
      rw [hJL] at HJ
      simp only [hJL] at KL
      have HT2 := Lib.hid (show strB (T ++ JL) = jmk 0 0 ((ns.take (k + 1)).map strB) by rw [strB_app, HT.out, HJ.out, h1])
      replace h2 := Lib.hid h2
      obtain ⟨S2, hS2⟩ : ∃ s, nsum S ((k : Int) + 1) (strB x) = s := ⟨_, rfl⟩
      simp only [hS2] at KL
      rw [hS2] at h2
      have KL := Lib.hid (KL wr (a1 0) (a1 1) (HTB.out _ hK.below))
      have HTS := Lib.hid hts
      have hi0 : (0 : Int) ≤ (k : Int) := by omega
      have hi1 : (k : Int) < (n : Int) := by omega
      have hc1 : ¬ 9223372036854775807 < T.size + JL.size := by omega
      subst hA
      clear hxe hms hml h1 h3 hjl hjs hJL hS hS2 hzx hos hts
      have HTL := Lib.hid htl
      clear htl
      go_wp2_with fail
      refine KL.out.mono ?_; rintro e w5 ⟨rfl, hw⟩
      have K5 := hK.keep hw
      clear hK hw a1 a2 a3 KL
      obtain ⟨a1, a2, a3⟩ := K5.blkAt
      go_wp2_with (at_builtin; refine kn_pushS rfl _ _ rfl (.slice X k xc) os rfl rfl ((K5.front 1 rfl).al [.string x] 9) hln ?_; intro v9 w9 K9; obtain ⟨Y9, y9, rfl⟩ := row_form K9.at0; obtain ⟨m9, hm9⟩ : ∃ m, (os ++ [x]).length = m := ⟨_, rfl⟩; rw [hm9] at K9; try rw [hm9]; have HM9 := Lib.hid hm9; clear hm9; obtain ⟨d1, d2, d3⟩ := (K9.front 1 rfl).blkAt)
      go_roundw
      case rel => exact ⟨k + 1, T ++ JL, _, by omega, by go_num, rfl, HT2, by rw [h2.out, HTS.out]; exact ((K9.front 1 rfl).st 0 (.slice Y9 m9 y9)).st 1 (.int .i64 S2)⟩
      case measure => simp [intOf]; omega
    · have hi1 : ¬ (k : Int) < (n : Int) := by omega
      have HE := Lib.hid (show strB T = jof (ns.map strB) by
        have := HT.out
        rw [List.take_of_length_le (by have := HL.out; omega)] at this
        exact this)
      go_wp2_with fail
      go_ret
      exact ⟨⟨T, rfl, HE.out⟩, hK.below⟩
/-- does a note undo a turn? -/
theorem undoes_any (s t : ByteArray) (w : World) (h : strB s = aL ∨ strB s = sL) :
    Calls Tryd.prog 24 #[.string s, .string t] w fun e w' => e = .returned (.bool (undN (strB s) (strB t))) ∧ Below w.heap.size w w' := by
  have K1 := (fun W => strokeNamed_any s W)
  have K2 := (fun W => strokeNamed_any t W)
  have hkt := kindOf_bd (strB t)
  have HU : Hid (∀ k : Int, kindOf (strB t) = k → undN (strB s) (strB t) = (decide (k ≠ 0) && (k == backK (kindOf (strB s))))) := by
    simp only [Hid]
    intro k hk
    subst hk
    have hk1 : kindOf (strB t) = 1 ↔ strB t = aL := ⟨fun h => by have := kindOf_name (bs := strB t) (by omega); rw [h] at this; exact this.symm, fun h => by rw [h]; exact kind_aL⟩
    have hk2 : kindOf (strB t) = 2 ↔ strB t = sL := ⟨fun h => by have := kindOf_name (bs := strB t) (by omega); rw [h] at this; exact this.symm, fun h => by rw [h]; exact kind_sL⟩
    rcases h with h | h
    · rw [h, kind_aL]
      rw [Bool.eq_iff_iff, undN_iff]
      simp only [Bool.and_eq_true, decide_eq_true_eq, beq_iff_eq]
      show _ ↔ _ ∧ kindOf (strB t) = 2
      rw [← hk2]
      constructor
      · rintro (⟨-, h2⟩ | ⟨h1, -⟩)
        · exact ⟨by omega, h2⟩
        · exact absurd h1 (by decide)
      · rintro ⟨-, h2⟩
        exact .inl ⟨by trivial, h2⟩
    · rw [h, kind_sL]
      rw [Bool.eq_iff_iff, undN_iff]
      simp only [Bool.and_eq_true, decide_eq_true_eq, beq_iff_eq]
      show _ ↔ _ ∧ kindOf (strB t) = 1
      rw [← hk1]
      constructor
      · rintro (⟨h1, -⟩ | ⟨-, h2⟩)
        · exact absurd h1 (by decide)
        · exact ⟨by omega, h2⟩
      · rintro ⟨-, h2⟩
        exact .inr ⟨by trivial, h2⟩
  have hks : kindOf (strB s) = 1 ∨ kindOf (strB s) = 2 := by
    rcases h with h | h
    · left; rw [h]; exact kind_aL
    · right; rw [h]; exact kind_sL
  obtain ⟨kt, hkt'⟩ : ∃ k, kindOf (strB t) = k := ⟨_, rfl⟩
  have hun := HU.out kt hkt'
  obtain ⟨R, hR⟩ : ∃ r, undN (strB s) (strB t) = r := ⟨_, rfl⟩
  rw [hR] at hun ⊢
  obtain ⟨ks, hks'⟩ : ∃ k, kindOf (strB s) = k := ⟨_, rfl⟩
  simp only [hks'] at K1 hks hun
  simp only [hkt'] at K2 hkt
  have HUN := Lib.hid hun
  clear hun hR hkt' hks' HU h
  have K1 := Lib.hid K1
  have K2 := Lib.hid K2
  have KB := Lib.hid (fun W => StrokeBack_any ks W (by omega))
  rcases hks with rfl | rfl
  all_goals
    by_cases k0 : kt = 0
    · subst k0
      go_enter Tryd.func24, Tryd.ntmps24
      go_wp2_with (first | (go_at_call 22; first | ((with_reducible refine (K1.out _).mono ?_); rintro e w1 ⟨rfl, hw1⟩) | ((with_reducible refine (K2.out _).mono ?_); rintro e w2 ⟨rfl, hw2⟩)) | (go_at_call 53; refine (KB.out _).mono ?_; rintro e w3 ⟨rfl, hw3⟩; obtain rfl := hw3))
      go_ret
      exact ⟨ret_bool (by rw [HUN.out]; rfl), hw1.trans (hw2.mono hw1.size)⟩
    · have k1 : (kt == 0) = false := by simpa using k0
      have k2 : decide (kt ≠ 0) = true := decide_eq_true k0
      rw [k2] at HUN K2
      go_enter Tryd.func24, Tryd.ntmps24
      go_wp2_with (first | (go_at_call 22; first | ((with_reducible refine (K1.out _).mono ?_); rintro e w1 ⟨rfl, hw1⟩) | ((with_reducible refine (K2.out _).mono ?_); rintro e w2 ⟨rfl, hw2⟩)) | (go_at_call 53; refine (KB.out _).mono ?_; rintro e w3 ⟨rfl, hw3⟩; obtain rfl := hw3))
      go_ret
      exact ⟨ret_bool (by rw [HUN.out, Bool.true_and]; exact BEq.comm), hw1.trans (hw2.mono hw1.size)⟩
end Go.Proofs.YtmmiahgmdllgdaaDoor

namespace Go.Proofs.YtmmiahgmdllgdaaDoor
open Go.RowKit Go.Sort
theorem Kn.prefixG {w0 w : World} {m : List Ent} {g c n j size : Nat} {e : TypeId} {xs : List Value} (h : Kn w0 (.row (.slice (some ⟨g, 0, none⟩) n c) e size n xs :: m) w) (hj : j ≤ n) : Kn w0 (.row (.slice (some ⟨g, 0, none⟩) j c) e size j (xs.take (j * size)) :: m) w := by
  have h0 : w.ownsRow 0 e size (.slice (some ⟨g, 0, none⟩) n c) n xs := h.at0
  have hm : j * size ≤ n * size := Nat.mul_le_mul_right _ hj
  refine ⟨h.below, fun x hx => ?_, fun x hx k hk => ?_, List.pairwise_cons.2 ⟨fun x hx k hk => ?_, (List.pairwise_cons.1 h.apart).2⟩⟩
  · rcases List.mem_cons.1 hx with rfl | hx
    · rcases h0.2 with ⟨hv, _⟩ | ⟨g', cap, cur, hv, hb, hg, h1, h2, h3, h4⟩
      · cases hv
      · injection hv with hv1 hv2 hv3
        injection hv1 with hv1
        injection hv1 with hv1
        subst hv1
        subst hv3
        refine ⟨by rw [List.length_take, h0.1]; omega, .inr ⟨g, c, cur, rfl, hb, hg, by omega, h2, h3, ?_⟩⟩
        rw [← h4, List.take_take, Nat.min_eq_left hm]
    · exact h.ents x (List.mem_cons_of_mem _ hx)
  · rcases List.mem_cons.1 hx with rfl | hx
    · exact h.own _ (List.mem_cons_self ..) k hk
    · exact h.own x (List.mem_cons_of_mem _ hx) k hk
  · exact (List.pairwise_cons.1 h.apart).1 x hx k hk
theorem Kn.capG {w0 w : World} {m : List Ent} {g c n : Nat} {xs : List Value} {e : TypeId} {s : Nat} (h : Kn w0 (.row (.slice (some ⟨g, 0, none⟩) n c) e s n xs :: m) w) : n ≤ c := by
  have h0 : w.ownsRow 0 e s (.slice (some ⟨g, 0, none⟩) n c) n xs := h.at0
  rcases h0.2 with ⟨hv, _⟩ | ⟨g', cap, cur, hv, -, -, h1, h2, -⟩
  · cases hv
  · injection hv with _ _ hv
    subst hv
    exact h1
theorem Kn.setS {w0 w : World} {m : List Ent} {g c : Nat} {ss : List ByteArray} (h : Kn w0 (rowS (.slice (some ⟨g, 0, none⟩) ss.length c) ss :: m) w) (j : Nat) (s : ByteArray) :
    Kn w0 (rowS (.slice (some ⟨g, 0, none⟩) ss.length c) (ss.set j s) :: m) (w.setCell ⟨g, j, none⟩ (.string s)) := by
  have h1 := Kn.rowSt h j (.string s)
  unfold rowS
  rw [List.length_set, List.map_set]
  exact h1
theorem Kn.takeS {w0 w : World} {m : List Ent} {g c j : Nat} {ss : List ByteArray} (h : Kn w0 (rowS (.slice (some ⟨g, 0, none⟩) ss.length c) ss :: m) w) (hj : j ≤ ss.length) :
    Kn w0 (rowS (.slice (some ⟨g, 0, none⟩) j c) (ss.take j) :: m) w := by
  have h1 := Kn.prefixG h hj
  unfold rowS
  rw [List.length_take, Nat.min_eq_left hj, List.map_take]
  rw [Nat.mul_one] at h1
  exact h1
end Go.Proofs.YtmmiahgmdllgdaaDoor

namespace Go.Proofs.YtmmiahgmdllgdaaDoor
open Go.RowKit Go.Sort
theorem comp_snoc (l : List (List UInt8)) (x : List UInt8) : comp (l ++ [x]) = compS (comp l) x := by unfold comp; rw [List.foldl_append]; rfl
theorem compS_push {o : List (List UInt8)} {a x : List UInt8} (h : undN a x = false) : compS (o ++ [a]) x = o ++ [a] ++ [x] := by rw [compS_app, h]; rfl
theorem compS_pop {o : List (List UInt8)} {a x : List UInt8} (h : undN a x = true) : compS (o ++ [a]) x = o := by rw [compS_app, h]; rfl
theorem und_other {a x : List UInt8} (h1 : ¬ a = aL) (h2 : ¬ a = sL) : undN a x = false := by
  rcases h : undN a x with _ | _
  · rfl
  · rcases undN_iff.1 h with ⟨h, -⟩ | ⟨h, -⟩
    · exact absurd h h1
    · exact absurd h h2
theorem eqA (a : ByteArray) : (a.toList == [97, 100, 100]) = decide (strB a = aL) := by rw [strB_toList, Bool.eq_iff_iff, beq_iff_eq, decide_eq_true_eq]; rfl
theorem eqS (a : ByteArray) : (a.toList == [115, 117, 98]) = decide (strB a = sL) := by rw [strB_toList, Bool.eq_iff_iff, beq_iff_eq, decide_eq_true_eq]; rfl
set_option maxRecDepth 100000 in
set_option maxHeartbeats 6400000 in
theorem CompactJournal_any (s : ByteArray) (w : World) (hs : s.size ≤ 9223372036854775807) (ht : TB w) (h0 : jcode (strB s) = 0) (hn : (jall (strB s)).notes.length ≤ 20) (hz : ∀ x ∈ (jall (strB s)).notes, x.length ≤ 9) :
    Calls Tryd.prog 9 #[.string s] w fun e w' => (∃ T : ByteArray, e = .returned (.tuple #[.string T, .int .i64 0]) ∧ strB T = jof (comp (jall (strB s)).notes)) ∧ Below w.heap.size w w' := by
  have KW := wholeJournal_any s w hs ht
  have HTB := Lib.hid (fun W (hW : Below w.heap.size w W) => TB.below ht hW)
  unfold WJ JI at KW
  rw [h0] at KW
  obtain ⟨J, hJ⟩ : ∃ j, jall (strB s) = j := ⟨_, rfl⟩
  rw [hJ] at KW hn hz ⊢
  have HZ := Lib.hid hz
  obtain ⟨S, hS⟩ : ∃ j, J.sum = j := ⟨_, rfl⟩
  obtain ⟨Z, hZ⟩ : ∃ j : Int, (J.size : Int) = j := ⟨_, rfl⟩
  obtain ⟨NL, hNL⟩ : ∃ l, J.notes = l := ⟨_, rfl⟩
  rw [hNL] at hn HZ hz ⊢
  simp only [hS, hZ, hNL] at KW
  replace KW := Lib.hid KW
  clear hJ h0 hz ht hS hZ hNL
  go_enter Tryd.func9, Tryd.ntmps9
  go_wp2_with fail
  refine KW.out.mono ?_; rintro e w1 ⟨v, rfl, (⟨hbad, -⟩ | ⟨-, g, rfl, A, c, ns, hns, hK⟩)⟩
  · exact absurd rfl hbad
  have HNS := Lib.hid hns
  rw [← hns] at hn HZ
  rw [List.length_map] at hn
  obtain ⟨m, hm⟩ : ∃ m, ns.length = m := ⟨_, rfl⟩
  rw [hm] at hn
  have HM := Lib.hid hm
  have hK : Kn w [.blk g [.slice A m c, .int .i64 S, .int .i64 Z] 54, rowS (.slice A m c) ns] w1 := by rw [← hm]; exact hK
  clear KW hns hm
  have HR : Hid (∀ (W : World) (m' : List Ent), Kn w (rowS (.slice A m c) ns :: m') W → RL StrM 1 W A m ns) := Lib.hid (fun W m' h => h.rlS.2)
  obtain ⟨go, hgo⟩ : ∃ g, w1.heap.size = g := ⟨_, rfl⟩
  have K2 := (hK.al [] 9).litRow (size := 1) (n := 0) rfl (by decide)
  rw [hgo] at K2
  go_upto_region 5 with fail
  try rw [hgo]
  refine Code.wp.kn K2 ?_; clear K2 hK hgo; intro w2 K2
  obtain ⟨a1, a2, a3, -⟩ := (K2.front 1 rfl).cells
  go_wp2_with fail
  go_loopw [24, 6] (fun ii vv wr => ∃ (k : Nat) (O : List ByteArray) (X : Option Addr) (q xc : Nat), k ≤ m ∧ ii = .int .i64 k ∧ vv = .slice X q xc ∧ Hid (O.length = q) ∧ Hid (O.map strB = comp ((ns.take k).map strB)) ∧ Hid (O.length ≤ k) ∧ Kn w [rowS (.slice X q xc) O, .blk g [.slice A m c, .int .i64 S, .int .i64 Z] 54, rowS (.slice A m c) ns] wr) (fun ii _ _ => m - (intOf ii).toNat)
  case atStart => exact ⟨0, [], _, _, _, Nat.zero_le _, rfl, rfl, Lib.hid rfl, Lib.hid rfl, Lib.hid (Nat.le_refl _), K2⟩
  case round =>
    clear K2 a1 a2 a3
    obtain ⟨k, O, X, q, xc, hk, rfl, rfl, HOQ, HCO, HLO, hK⟩ := hrel
    by_cases hkn : k < m
    · obtain ⟨ad, hA, hlt, hkl, hx⟩ := (HR.out wr _ (hK.front 2 rfl)).at_ hkn
      unfold StrM at hx
      rw [Nat.mul_one] at hx
      have hzx := HZ.out _ (List.mem_map.2 ⟨_, List.getElem_mem hkl, rfl⟩)
      obtain ⟨x, hxe⟩ : ∃ x, ns[k] = x := ⟨_, rfl⟩
      have hms := map_take_snoc hkl
      rw [hxe] at hx hzx hms
      have hcs : comp ((ns.take (k + 1)).map strB) = compS (O.map strB) (strB x) := by rw [hms, comp_snoc, HCO.out]
      have hxs : x.size ≤ 9 := by rw [← strB_len]; exact hzx
      have hi0 : (0 : Int) ≤ (k : Int) := by omega
      have hi1 : (k : Int) < (m : Int) := by omega
      have HCS := Lib.hid hcs
      have hlo := HLO.out
      have hkm : k ≤ 20 := by omega
      have HX := Lib.hid (show ∀ (W : World) (m' : List Ent), Kn w (rowS (.slice A m c) ns :: m') W → W.cell? (ad.add k) = some (.string x) from fun W m' h => by
        obtain ⟨ad', hA', -, hkl', hx'⟩ := (HR.out W m' h).at_ hkn
        rw [hA] at hA'
        injection hA' with hA'
        subst hA'
        unfold StrM at hx'
        rw [Nat.mul_one, hxe] at hx'
        exact hx')
      clear hxe hms hcs hzx
      have hAA := hA
      rcases List.eq_nil_or_concat O with rfl | ⟨O', a, rfl⟩
      · have HNX : Hid (([] ++ [x] : List ByteArray).map strB = comp ((ns.take (k + 1)).map strB)) := by simp only [Hid]; rw [HCS.out]; rfl
        have HLN := Lib.hid (show ([] ++ [x] : List ByteArray).length ≤ k + 1 by simp)
        have hln : ([] : List ByteArray).length ≤ 10000000 := by simp
        obtain rfl : q = 0 := HOQ.out.symm
        have KU : Hid True := trivial
        subst hA
        go_wp2_with (first | (go_at_call 24; refine (KU.out wr hK.below).mono ?_; rintro e w5 ⟨rfl, hw⟩; have hK := hK.keep hw) | (at_builtin; refine kn_pushS rfl _ _ rfl _ ([]) rfl rfl (hK.al [.string x] 9) hln ?_; intro v9 w9 K9; obtain ⟨Y9, y9, rfl⟩ := row_form K9.at0; obtain ⟨m9, hm9⟩ : ∃ m, (([]) ++ [x]).length = m := ⟨_, rfl⟩; rw [hm9] at K9; try rw [hm9]; have HM9 := Lib.hid hm9; clear hm9))
        go_roundw
        case rel => exact ⟨k + 1, ([]) ++ [x], Y9, _, y9, by omega, by go_num, rfl, HM9, HNX, Lib.hid HLN.out, K9⟩
        case measure => simp [intOf] <;> omega
      · rw [List.concat_eq_append] at hK HCS HLO hlo HOQ
        obtain ⟨j, hj⟩ : ∃ q, O'.length = q := ⟨_, rfl⟩
        have hqj : q = j + 1 := by rw [← HOQ.out]; simp [hj]
        have hql : (O' ++ [a]).length = q := HOQ.out
        have hcell : ∃ go, X = some ⟨go, 0, none⟩ ∧ wr.cell? ⟨go, j, none⟩ = some (.string a) ∧ go < wr.heap.size := by
          obtain ⟨-, g', e1, e2, -, e3⟩ := hK.rowS_at (k := j) (by omega)
          refine ⟨g', e1, ?_, e3⟩
          rw [e2]
          simp [← hj]
        rw [hql] at hlo
        have hap : (O' ++ [a]).map strB = O'.map strB ++ [strB a] := by simp
        have hln : (O' ++ [a]).length ≤ 10000000 := by omega
        have HLN := Lib.hid (show ((O' ++ [a]) ++ [x]).length ≤ k + 1 by simp [hj]; omega)
        have HLP := Lib.hid (show O'.length ≤ k + 1 by omega)
        have hcs := HCS.out
        rw [hap] at hcs
        have HU := Lib.hid (fun (h : undN (strB a) (strB x) = false) => show ((O' ++ [a]) ++ [x]).map strB = comp ((ns.take (k + 1)).map strB) by rw [hcs, compS_push h]; simp)
        have HP := Lib.hid (fun (h : undN (strB a) (strB x) = true) => show O'.map strB = comp ((ns.take (k + 1)).map strB) by rw [hcs, compS_pop h])
        have HQ := Lib.hid hj
        obtain ⟨gx, rfl, hcx, hltx⟩ := hcell
        have HTK := Lib.hid (fun W (h : Kn w [rowS (.slice (some ⟨gx, 0, none⟩) q xc) (O' ++ [a]), .blk g [.slice A m c, .int .i64 S, .int .i64 Z] 54, rowS (.slice A m c) ns] W) => show Kn w [rowS (.slice (some ⟨gx, 0, none⟩) j xc) O', .blk g [.slice A m c, .int .i64 S, .int .i64 Z] 54, rowS (.slice A m c) ns] W by
          have h1 := Kn.takeS (j := j) (ss := O' ++ [a]) (by rw [hql]; exact h) (by simp [hj])
          rw [List.take_left' hj] at h1
          exact h1)
        have HCAP := Lib.hid (fun W (h : Kn w [rowS (.slice (some ⟨gx, 0, none⟩) q xc) (O' ++ [a]), .blk g [.slice A m c, .int .i64 S, .int .i64 Z] 54, rowS (.slice A m c) ns] W) => show q ≤ xc by
          rw [← hql] at h ⊢
          exact Kn.capG h)
        have e1 := eqA a
        have e2 := eqS a
        have hw1 : IntKind.i64.wrap ((q : Int) - 1) = (j : Int) := by rw [wrapI64 (by omega)]; omega
        have j0 : (0 : Int) ≤ (j : Int) := by omega
        have j1 : (j : Int) < (q : Int) := by omega
        have j3 : j < q := by omega
        clear hj hql hap hcs hqj
        by_cases ha : strB a = aL
        · rw [decide_eq_true ha] at e1
          have KU := Lib.hid (fun W (hW : Below w.heap.size w W) => undoes_any a x W (.inl ha))
          obtain ⟨bb, hbb⟩ : ∃ b, undN (strB a) (strB x) = b := ⟨_, rfl⟩
          simp only [hbb] at KU HU HP
          clear hbb ha e2
          rcases bb with _ | _
          · have HNX : Hid (((O' ++ [a]) ++ [x]).map strB = comp ((ns.take (k + 1)).map strB)) := HU.out rfl
            subst hA
            go_wp2_with (first | (go_at_call 24; refine (KU.out wr hK.below).mono ?_; rintro e w5 ⟨rfl, hw⟩; have hK := hK.keep hw) | (at_builtin; refine kn_pushS rfl _ _ rfl _ (O' ++ [a]) rfl rfl (hK.al [.string x] 9) hln ?_; intro v9 w9 K9; obtain ⟨Y9, y9, rfl⟩ := row_form K9.at0; obtain ⟨m9, hm9⟩ : ∃ m, ((O' ++ [a]) ++ [x]).length = m := ⟨_, rfl⟩; rw [hm9] at K9; try rw [hm9]; have HM9 := Lib.hid hm9; clear hm9))
            go_roundw
            case rel => exact ⟨k + 1, (O' ++ [a]) ++ [x], Y9, _, y9, by omega, by go_num, rfl, HM9, HNX, Lib.hid HLN.out, K9⟩
            case measure => simp [intOf] <;> omega
          · have HNX : Hid (O'.map strB = comp ((ns.take (k + 1)).map strB)) := HP.out rfl
            subst hA
            have hcap := HCAP.out _ hK
            have hjc : (j : Int) ≤ (xc : Int) := by omega
            have hjc2 : j ≤ xc := by omega
            clear hcap
            go_wp2_with (go_at_call 24; refine (KU.out wr hK.below).mono ?_; rintro e w5 ⟨rfl, hw⟩; have hK := hK.keep hw)
            go_roundw
            case rel => exact ⟨k + 1, O', _, _, _, by omega, by go_num, rfl, HQ, HNX, Lib.hid HLP.out, by have h := HTK.out _ hK; exact h⟩
            case measure => simp [intOf] <;> omega
        · rw [decide_eq_false ha] at e1
          by_cases ha2 : strB a = sL
          · rw [decide_eq_true ha2] at e2
            have KU := Lib.hid (fun W (hW : Below w.heap.size w W) => undoes_any a x W (.inr ha2))
            obtain ⟨bb, hbb⟩ : ∃ b, undN (strB a) (strB x) = b := ⟨_, rfl⟩
            simp only [hbb] at KU HU HP
            clear hbb ha ha2
            rcases bb with _ | _
            · have HNX : Hid (((O' ++ [a]) ++ [x]).map strB = comp ((ns.take (k + 1)).map strB)) := HU.out rfl
              subst hA
              go_wp2_with (first | (go_at_call 24; refine (KU.out wr hK.below).mono ?_; rintro e w5 ⟨rfl, hw⟩; have hK := hK.keep hw) | (at_builtin; refine kn_pushS rfl _ _ rfl _ (O' ++ [a]) rfl rfl (hK.al [.string x] 9) hln ?_; intro v9 w9 K9; obtain ⟨Y9, y9, rfl⟩ := row_form K9.at0; obtain ⟨m9, hm9⟩ : ∃ m, ((O' ++ [a]) ++ [x]).length = m := ⟨_, rfl⟩; rw [hm9] at K9; try rw [hm9]; have HM9 := Lib.hid hm9; clear hm9))
              go_roundw
              case rel => exact ⟨k + 1, (O' ++ [a]) ++ [x], Y9, _, y9, by omega, by go_num, rfl, HM9, HNX, Lib.hid HLN.out, K9⟩
              case measure => simp [intOf] <;> omega
            · have HNX : Hid (O'.map strB = comp ((ns.take (k + 1)).map strB)) := HP.out rfl
              subst hA
              have hcap := HCAP.out _ hK
              have hjc : (j : Int) ≤ (xc : Int) := by omega
              have hjc2 : j ≤ xc := by omega
              clear hcap
              go_wp2_with (go_at_call 24; refine (KU.out wr hK.below).mono ?_; rintro e w5 ⟨rfl, hw⟩; have hK := hK.keep hw)
              go_roundw
              case rel => exact ⟨k + 1, O', _, _, _, by omega, by go_num, rfl, HQ, HNX, Lib.hid HLP.out, by have h := HTK.out _ hK; exact h⟩
              case measure => simp [intOf] <;> omega
          · rw [decide_eq_false ha2] at e2
            have HNX : Hid (((O' ++ [a]) ++ [x]).map strB = comp ((ns.take (k + 1)).map strB)) := HU.out (und_other ha ha2)
            have KU : Hid True := trivial
            clear ha ha2 HP HU
            subst hA
            go_wp2_with (first | (go_at_call 24; refine (KU.out wr hK.below).mono ?_; rintro e w5 ⟨rfl, hw⟩; have hK := hK.keep hw) | (at_builtin; refine kn_pushS rfl _ _ rfl _ (O' ++ [a]) rfl rfl (hK.al [.string x] 9) hln ?_; intro v9 w9 K9; obtain ⟨Y9, y9, rfl⟩ := row_form K9.at0; obtain ⟨m9, hm9⟩ : ∃ m, ((O' ++ [a]) ++ [x]).length = m := ⟨_, rfl⟩; rw [hm9] at K9; try rw [hm9]; have HM9 := Lib.hid hm9; clear hm9))
            go_roundw
            case rel => exact ⟨k + 1, (O' ++ [a]) ++ [x], Y9, _, y9, by omega, by go_num, rfl, HM9, HNX, Lib.hid HLN.out, K9⟩
            case measure => simp [intOf] <;> omega
    · have hi1 : ¬ (k : Int) < (m : Int) := by omega
      obtain rfl : m = k := by omega
      have hco := HCO.out
      rw [List.take_of_length_le (by have := HM.out; omega)] at hco
      have hzo : ∀ s ∈ O, (strB s).length ≤ 9 := fun s hs => by
        obtain ⟨p, hp⟩ := comp_inv (ns.map strB)
        have h1 : strB s ∈ O.map strB := List.mem_map.2 ⟨s, hs, rfl⟩
        rw [hco] at h1
        exact HZ.out _ (hp.sub _ h1)
      have KJ := journalOf_any X q xc O wr hK.rlS.2 (by have := HLO.out; have := HOQ.out; omega) hzo (HTB.out _ hK.below)
      rw [hco, HNS.out] at KJ
      have KJ := Lib.hid KJ
      clear hco hzo
      go_wp2_with fail
      refine KJ.out.mono ?_; rintro e w5 ⟨⟨T, rfl, hT⟩, hw⟩
      have HT := Lib.hid hT
      clear hT
      go_wp2_with fail
      go_ret2
      exact ⟨⟨T, rfl, HT.out⟩, (hK.keep hw).below⟩
end Go.Proofs.YtmmiahgmdllgdaaDoor

namespace Go.Proofs.YtmmiahgmdllgdaaDoor
open Go.RowKit Go.Sort
/-- all that the law asks of a made journal -/
theorem rep_all {t : Tri} {N : List (List UInt8)} (hv : vmach t = true) (hm : ∀ x ∈ N, x ∈ noteL) (hl : N.length ≤ 20) {s : ByteArray} (hs : strB s = jof N) :
    jcode (strB s) = 0 ∧ (jall (strB s)).notes = N ∧ rjC t (strB s) = 0 ∧ rjM t (strB s) = rjFold t N ∧ rjN t (strB s) = (rjCount N : Int) ∧ vmach (rjFold t N) = true := by
  have hok : ∀ x ∈ N, noteOk x = true := fun x hx => (noteL_ok x (hm x hx)).1
  have h9 : ∀ x ∈ N, x.length ≤ 9 := fun x hx => (noteL_ok x (hm x hx)).2
  have hlen := jof_small (by omega : N.length ≤ 20) h9
  have h1 : jcode (strB s) = 0 := by rw [hs]; exact jcode_of hok (by omega)
  have h2 : (jall (strB s)).notes = N := by rw [hs, jall_of hok]
  obtain ⟨e1, e2, e3⟩ := rj_fine hv h1
  rw [h2] at e2 e3
  exact ⟨h1, h2, e1, e2, e3, rjFold_ok hv N⟩
theorem kind_note : ∀ k : Int, 1 ≤ k ∧ k ≤ 6 → strB (sname k) ∈ noteL := fun k h => by
  have h' : k = 1 ∨ k = 2 ∨ k = 3 ∨ k = 4 ∨ k = 5 ∨ k = 6 := by omega
  rcases h' with rfl | rfl | rfl | rfl | rfl | rfl <;> decide
/-- a stroke that is recorded behind a made journal -/
theorem rep_rec {t x : Tri} {N : List (List UInt8)} (hv : vmach x = true) (hm : ∀ x ∈ N, x ∈ noteL) (hl : N.length ≤ 9) {s : ByteArray} (hs : strB s = jof N) {k : Int} (hk : 1 ≤ k ∧ k ≤ 6) :
    rkC x s k = 0 ∧ rkM x s k = (strokeT k x).1 ∧ strB (rkT x s k) = jof (N ++ [strB (sname k)]) := by
  obtain ⟨h1, h2, -⟩ := rep_all hv hm (by omega) hs
  have hok : ∀ x ∈ N, noteOk x = true := fun x hx => (noteL_ok x (hm x hx)).1
  have h9 : ∀ x ∈ N, x.length ≤ 9 := fun x hx => (noteL_ok x (hm x hx)).2
  have hlen := jof_small (by omega : N.length ≤ 20) h9
  have hkn := noteL_ok _ (kind_note k hk)
  have hs' : s.size ≤ 486 := by rw [← strB_len, hs]; omega
  have hsum : (jall (strB s)).sum = jsum 0 0 N := by rw [hs, jall_of hok]
  have hjl := (jline_len (jall (strB s)).sum (jall (strB s)).notes.length (by rw [h2]; omega) (strB (sname k))).2
  obtain ⟨a1, a2⟩ := an_fine (s := s) (note := sname k) h1 hkn.1 (by rw [jlineB_size]; omega)
  obtain ⟨b1, b2, b3⟩ := rk_fine (t := x) (s := s) (k := k) hv h1 (betB_iff.2 hk) a1
  refine ⟨b1, b2, ?_⟩
  rw [b3, a2, strB_app, strB_jlineB, h2, hsum, hs]
  exact (jmk_snoc N (strB (sname k))).symm
/-- the compacted journal -/
theorem rep_comp {t : Tri} {N : List (List UInt8)} (hv : vmach t = true) (hm : ∀ x ∈ N, x ∈ noteL) (hl : N.length ≤ 9) :
    (∀ x ∈ comp N, x ∈ noteL) ∧ (comp N).length ≤ 9 ∧ rjFold t (comp N) = rjFold t N ∧ (∃ p : Nat, rjCount N = rjCount (comp N) + 2 * p) ∧ (jof (comp N)).length ≤ (jof N).length := by
  obtain ⟨p, hp⟩ := comp_inv N
  exact ⟨fun x hx => hm x (hp.sub x hx), by have := hp.len; omega, hp.fold t hv, ⟨p, hp.cnt⟩, comp_len hl hm⟩
theorem rep_one {t : Tri} {N : List (List UInt8)} {k : Int} (hk : 1 ≤ k ∧ k ≤ 6) : rjFold t (N ++ [strB (sname k)]) = (strokeT k (rjFold t N)).1 ∧ rjCount (N ++ [strB (sname k)]) = rjCount N + 1 := by
  have h1 := kindOf_sname hk
  refine ⟨?_, ?_⟩
  · rw [rjFold_app]
    show rjStep (rjFold t N) (strB (sname k)) = _
    unfold rjStep
    rw [h1, if_neg (by omega)]
  · rw [rjCount_app]
    congr 1
    unfold rjCount
    rw [List.filter_cons, if_pos (by rw [h1]; simp; omega)]
    rfl
end Go.Proofs.YtmmiahgmdllgdaaDoor
