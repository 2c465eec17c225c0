/- Part 5: lemmas and contracts of the claim's functions. -/
import Derived.Test.YtkfbfainhmkkdaaGreatZC1
import Derived.Test.YtkfbfainhmkkdaaGreatZC2
import Derived.Test.YtkfbfainhmkkdaaGreatZC3
import Derived.Test.YtkfbfainhmkkdaaGreatZC4
import Derived.Deep.OwnRows
namespace Go.Proofs.YtkfbfainhmkkdaaGreat
open Go.RowKit Go.Sort
theorem draw_vreg {b : Int} {ds : List Int} (h1 : 2 ≤ b) (h2 : b ≤ 16) (h3 : 1 ≤ ds.length) (h4 : ds.length ≤ 16) (hd : ∀ d ∈ ds, 0 ≤ d ∧ d < b) (hp : pw b ds.length ≤ 1000000000001) : vreg b ds = true := by
  have h5 := valL_lt b h1 ds hd
  exact vreg_iff.2 ⟨⟨h1, h2⟩, ⟨by omega, by omega⟩, hd, by omega⟩
theorem base_mem {b : Int} (h : b ∈ [(10 : Int), 10, 10, 2, 3, 8, 12]) : 2 ≤ b ∧ b ≤ 12 ∧ pw b 8 ≤ 1000000000001 := by
  have H : ∀ b ∈ [(10 : Int), 10, 10, 2, 3, 8, 12], 2 ≤ b ∧ b ≤ 12 ∧ pw b 8 ≤ 1000000000001 := by decide
  exact H b h
theorem pickN {x n : Int} (hn : 1 ≤ n) (h : 0 ≤ x ∧ (x < n ∨ (n ≤ 1 ∧ x = 0))) : ∃ q : Nat, x = q ∧ (q : Int) ≤ n - 1 := ⟨x.toNat, by omega, by omega⟩
/-- what the drawing of a machine returns -/
def DMach (b M : Nat) (w : World) (e : Ending) (w' : World) : Prop := ∃ (t : Tri) (A1 : Option Addr) (c1 : Nat) (A2 : Option Addr) (c2 : Nat) (A3 : Option Addr) (c3 : Nat), e = .returned (.agg #[.int .i64 t.a.base, .slice A1 t.a.digits.length c1, .int .i64 t.b.base, .slice A2 t.b.digits.length c2, .int .i64 t.s.base, .slice A3 t.s.digits.length c3, .int .i64 t.carry]) ∧ vmach t = true ∧ DR b M w [rowI A3 c3 t.s.digits, rowI A2 c2 t.b.digits, rowI A1 c1 t.a.digits] w'
theorem DR.triC {b N : Nat} {w wi : World} {m : List Ent} {g : Nat} {t : Tri} {A1 A2 A3 : Option Addr} {c1 c2 c3 : Nat} (h : DR b N w ([.blk g [.int .i64 t.a.base, .slice A1 t.a.digits.length c1, .int .i64 t.b.base, .slice A2 t.b.digits.length c2, .int .i64 t.s.base, .slice A3 t.s.digits.length c3, .int .i64 t.carry] 28, rowI A3 c3 t.s.digits, rowI A2 c2 t.b.digits, rowI A1 c1 t.a.digits] ++ m) wi) : TriC wi ⟨g, 0, none⟩ t A1 c1 A2 c2 A3 c3 := by
  obtain ⟨v, -, -, hK⟩ := h
  exact ⟨⟨hK.blkAt.1 0, hK.blkAt.1 1, hK.blkAt.1 2, hK.blkAt.1 3, hK.blkAt.1 4, hK.blkAt.1 5, hK.blkAt.1 6⟩, hK.drop.drop.drop.riv, hK.drop.drop.riv, hK.drop.riv⟩
set_option maxRecDepth 100000 in
set_option maxHeartbeats 3200000 in
theorem l10Draw_dr (b N : Nat) (w : World) (h : Src w b N) (hN : N ≤ 700000) :
    Calls Tryz.prog 98 #[.pointer (some ⟨b, 0, none⟩)] w (DMach b (N + 200) w) := by
  unfold DMach
  have D0 := DR.nil h
  clear h
  go_enter Tryz.func98, Tryz.ntmps98
  go_wp2_with fail
  refine Calls.dr ((D0.al [.int .i64 0, .slice none 0 0, .int .i64 0, .slice none 0 0, .int .i64 0, .slice none 0 0, .int .i64 0] 28).al [.int .i64 10, .int .i64 10, .int .i64 10, .int .i64 2, .int .i64 3, .int .i64 8, .int .i64 12] 2) ?_; intro w1 D1
  simp only [World.size_alloc] at D1
  obtain ⟨hr, hA⟩ := DR.lit (ds := [10, 10, 10, 2, 3, 8, 12]) D1 (by decide)
  refine (among_dr b _ _ 7 7 _ w1 D1.src (by omega) hr hA (by omega) (by omega)).mono ?_; rintro e w2 ⟨bs, rfl, hx, h2⟩
  obtain ⟨b1, b2, b3⟩ := base_mem hx
  have D2 := (D1.add h2).sel [1] 99 (by decide) (by decide)
  clear D0 D1 h2 hr hA hx
  go_wp2_with fail
  refine (pick_dr b _ 4 w2 D2.src (by omega)).mono ?_; rintro e w3 ⟨y, rfl, hy, h3⟩
  have D3 := D2.add h3
  obtain ⟨q1, rfl, hq1⟩ := pickN (by omega) hy
  have hw1 : IntKind.i64.wrap (1 + (q1 : Int)) = ((q1 + 1 : Nat) : Int) := by rw [wrapI64 (by omega)]; omega
  obtain ⟨n1, hn1⟩ : ∃ n, q1 + 1 = n := ⟨_, rfl⟩
  rw [hn1] at hw1
  clear D2 h3 hy
  go_wp2_with fail
  refine (pick_dr b _ 5 w3 D3.src (by omega)).mono ?_; rintro e w4 ⟨y, rfl, hy, h4⟩
  have D4 := D3.add h4
  obtain ⟨q2, rfl, hq2'⟩ := pickN (by omega) hy
  have hw2 : IntKind.i64.wrap ((n1 : Int) + (q2 : Int)) = ((n1 + q2 : Nat) : Int) := by rw [wrapI64 (by omega)]; omega
  obtain ⟨n2, hn2⟩ : ∃ n, n1 + q2 = n := ⟨_, rfl⟩
  rw [hn2] at hw2
  clear D3 h4 hy
  go_wp2_with fail
  refine (pick_dr b _ 5 w4 D4.src (by omega)).mono ?_; rintro e w5 ⟨y, rfl, hy, h5⟩
  have D5 := D4.add h5
  obtain ⟨q3, rfl, hq3'⟩ := pickN (by omega) hy
  have hw3 : IntKind.i64.wrap (1 + (q3 : Int)) = ((q3 + 1 : Nat) : Int) := by rw [wrapI64 (by omega)]; omega
  obtain ⟨n3, hn3⟩ : ∃ n, q3 + 1 = n := ⟨_, rfl⟩
  rw [hn3] at hw3
  clear D4 h5 hy
  have hl1 : 1 ≤ n1 ∧ n1 ≤ n2 ∧ n2 ≤ 8 ∧ 1 ≤ n3 ∧ n3 ≤ 5 := by omega
  clear hn1 hn2 hn3 hq1 hq2' hq3'
  have KN := l10New_any bs n1 n2 n3 w5 (by omega) (by omega) (by omega) (by omega) (by omega)
  have hz3 := digD_vreg bs (by omega) (by omega) n3 (by omega) (by omega) 0 (by omega) (by have := pw_pos bs (by omega) n3; omega) (by omega)
  have hz2 := digD_vreg bs (by omega) (by omega) n2 (by omega) (by omega) 0 (by omega) (by have := pw_pos bs (by omega) n2; omega) (by omega)
  obtain ⟨x1, hx1⟩ : ∃ x, digD bs n1 0 = x := ⟨_, rfl⟩
  obtain ⟨ds2, hx2⟩ : ∃ x, digD bs n2 0 = x := ⟨_, rfl⟩
  obtain ⟨x3, hx3⟩ : ∃ x, digD bs n3 0 = x := ⟨_, rfl⟩
  have hm1 : x1.length = n1 := by rw [← hx1, digD_len]
  have hm2 : ds2.length = n2 := by rw [← hx2, digD_len]
  have hm3 : x3.length = n3 := by rw [← hx3, digD_len]
  rw [hx1, hx2, hx3, hm1, hm2, hm3] at KN
  rw [hx3] at hz3
  rw [hx2] at hz2
  have HM2 := Lib.hid hm2
  have HM3 := Lib.hid hm3
  have hpw : ∀ n : Nat, n ≤ 8 → pw bs n ≤ 1000000000001 := fun n hn => Int.le_trans (pw_mono bs (by omega) n 8 hn) b3
  have HPW := Lib.hid hpw
  have HZ3 := Lib.hid hz3
  have HZ2 := Lib.hid hz2
  replace KN := Lib.hid KN
  clear hx1 hx2 hx3 hm1 hm2 hm3 b3 hpw hz3 hz2
  go_wp2_with fail
  refine KN.out.mono ?_; rintro e w6 ⟨E1, g1, A2, c2, A3, c3, rfl, hKn⟩
  have D6 := D5.kn (fun v hK => hK.join hKn)
  clear D5 hKn
  go_wp2_with fail
  refine Calls.dr (D6.al [.int .i64 bs, .slice E1 n1 g1, .int .i64 bs, .slice A2 n2 c2, .int .i64 bs, .slice A3 n3 c3, .int .i64 0] 28) ?_; intro w7 D7
  obtain ⟨g, hg⟩ : ∃ g, w6.heap.size = g := ⟨_, rfl⟩
  rw [hg] at D7 ⊢
  clear D6 hg
  refine (digits_dr b _ bs n1 w7 D7.src (by omega) (by omega) (by omega) (by omega)).mono ?_; rintro e w8 ⟨A1, c1, ds1, rfl, hd1, hdd1, h8⟩
  have D8 := D7.add h8
  have HV1 := Lib.hid (draw_vreg (b := bs) (ds := ds1) (by omega) (by omega) (by omega) (by omega) hdd1 (HPW.out _ (by omega)))
  clear D7 h8 hdd1
  obtain ⟨a1, a2, a3, -⟩ := (D8.front 1 rfl).cells
  go_upto_region 6 with fail
  refine Code.wp.dr ((D8.front 1 rfl).st 1 (.slice A1 n1 c1)) ?_; intro w9 D9
  clear a1 a2 a3 D8
  go_wp2_with fail
  refine (one_dr b _ 2 w9 D9.src (by omega)).mono ?_; rintro e w10 ⟨yes, rfl, h10⟩
  have D10 := D9.add h10
  clear D9 h10
  obtain ⟨a1, a2, a3, -⟩ := D10.cells
  rcases yes with _ | _
  · have D9 := (D10.sel [0, 2, 3, 1, 5] 99 (by decide) (by decide)).mono (M := N + 120) (by omega)
    have hv1 := HV1.out
    have hv2 := HZ2.out
    have hv3 := HZ3.out
    have hx2l := HM2.out
    have hx3l := HM3.out
    have hq2 := HPW.out n2 (by omega)
    have hq3 := HPW.out n3 (by omega)
    have hl12 := hl1.2.1
    clear HV1 HZ2 HZ3 HM2 HM3 HPW KN
    subst hd1
    subst hx2l
    subst hx3l
    obtain ⟨t, ht⟩ : ∃ t : Tri, t = ⟨⟨bs, ds1⟩, ⟨bs, ds2⟩, ⟨bs, x3⟩, 0⟩ := ⟨_, rfl⟩
    have ha : t.a.digits = ds1 ∧ t.a.base = bs ∧ t.b.digits = ds2 ∧ t.b.base = bs ∧ t.s.digits = x3 ∧ t.s.base = bs ∧ t.carry = 0 := by rw [ht]; exact ⟨rfl, rfl, rfl, rfl, rfl, rfl, rfl⟩
    have D9 : DR b (N + 120) w [.blk g [.int .i64 t.a.base, .slice A1 t.a.digits.length c1, .int .i64 t.b.base, .slice A2 t.b.digits.length c2, .int .i64 t.s.base, .slice A3 t.s.digits.length c3, .int .i64 t.carry] 28, rowI A3 c3 t.s.digits, rowI A2 c2 t.b.digits, rowI A1 c1 t.a.digits, .blk w.heap.size [.int .i64 0, .slice none 0 0, .int .i64 0, .slice none 0 0, .int .i64 0, .slice none 0 0, .int .i64 0] 28] w10 := by rw [ha.1, ha.2.1, ha.2.2.1, ha.2.2.2.1, ha.2.2.2.2.1, ha.2.2.2.2.2.1, ha.2.2.2.2.2.2]; exact D9
    obtain ⟨vp1, vp2⟩ : 1 ≤ vplaces t ∧ vplaces t ≤ 16 := by unfold vplaces; rw [ha.1, ha.2.2.1, ha.2.2.2.2.1]; omega
    have hok : ∀ p : Int, 0 ≤ p → p ≤ vplaces t - 1 → vmach { t with carry := p } = true := fun p p0 p1 => by
      subst ht
      exact vmach_mk (t := ⟨⟨bs, ds1⟩, ⟨bs, ds2⟩, ⟨bs, x3⟩, p⟩) hv1 hv2 hv3 rfl rfl hq2 hq3 hl12 p0 p1
    have HOK := Lib.hid hok
    have HLT := Lib.hid (show t.a.digits.length ≤ 16 ∧ t.b.digits.length ≤ 16 ∧ t.s.digits.length ≤ 16 by rw [ha.1, ha.2.2.1, ha.2.2.2.2.1]; omega)
    clear hok ht ha hv1 hv2 hv3 hq2 hq3
    have KP := Lib.hid (l10Places_any ⟨g, 0, none⟩ t w10 (DR.triC (m := [.blk w.heap.size [.int .i64 0, .slice none 0 0, .int .i64 0, .slice none 0 0, .int .i64 0, .slice none 0 0, .int .i64 0] 28]) D9).tri HLT.out.1 HLT.out.2.1 HLT.out.2.2)
    obtain ⟨a1, a2, a3, -⟩ := D9.cells
    go_wp2_with fail
    refine KP.out.mono ?_; rintro e w10 ⟨rfl, mq, rfl⟩
    have D10 := D9.kn (fun v hK => hK.drewN mq)
    clear a1 a2 a3
    go_wp2_with fail
    refine (pick_dr b (N + 120) (vplaces t) _ D10.src (by omega)).mono ?_; rintro e w11 ⟨y, rfl, hy, h11⟩
    have D11 := D10.add h11
    obtain ⟨p, rfl, hp⟩ := pickN vp1 hy
    clear D9 D10 h11 hy KP
    obtain ⟨a1, a2, a3, -⟩ := D11.cells
    go_upto_region 9 with fail
    refine Code.wp.dr (D11.st 6 (.int .i64 (p : Int))) ?_; intro w12 D12
    clear a1 a2 a3 D11
    go_wp2_with fail
    refine (pick_dr b _ 5 w12 D12.src (by omega)).mono ?_; rintro e w13 ⟨y, rfl, hy, h13⟩
    have D13 := D12.add h13
    obtain ⟨k0, rfl, hk0⟩ := pickN (by omega) hy
    have hV0 := Lib.hid (HOK.out (p : Int) (by omega) (by omega))
    clear D12 h13 hy HLT
    obtain ⟨a1, a2, a3, -⟩ := D13.cells
    go_wp2_with fail
    clear a1 a2 a3
    go_loopw [7] (fun kk wr => ∃ (k : Nat) (t : Tri) (A1 : Option Addr) (c1 : Nat) (A2 : Option Addr) (c2 : Nat) (A3 : Option Addr) (c3 : Nat), k ≤ 4 ∧ kk = .int .i64 (k : Int) ∧ Hid (vmach t = true) ∧ DR b (N + 140 - 2 * k) w [.blk g [.int .i64 t.a.base, .slice A1 t.a.digits.length c1, .int .i64 t.b.base, .slice A2 t.b.digits.length c2, .int .i64 t.s.base, .slice A3 t.s.digits.length c3, .int .i64 t.carry] 28, rowI A3 c3 t.s.digits, rowI A2 c2 t.b.digits, rowI A1 c1 t.a.digits, .blk w.heap.size [.int .i64 0, .slice none 0 0, .int .i64 0, .slice none 0 0, .int .i64 0, .slice none 0 0, .int .i64 0] 28] wr) (fun kk _ => (intOf kk).toNat)
    case atStart => exact ⟨k0, { t with carry := p }, A1, c1, A2, c2, A3, c3, by omega, rfl, hV0, D13.mono (by omega)⟩
    case round =>
      clear D13 hV0 HOK vp1 vp2
      obtain ⟨k, t, A1, c1, A2, c2, A3, c3, hk4, rfl, HV, D⟩ := hrel
      obtain ⟨a1, a2, a3, a4, a5, a6, -⟩ := D.cells
      by_cases hk0 : 0 < k
      · have i1 : (0 : Int) < (k : Int) := by omega
        clear a1 a2 a3 a4 a5 a6
        go_wp2_with fail
        refine (pick_dr b _ 4 wr D.src (by omega)).mono ?_; rintro e w14 ⟨y, rfl, hy, h14⟩
        have D14 := D.add h14
        obtain ⟨q, rfl, hq⟩ := pickN (by omega) hy
        obtain ⟨v, hT, hS, hK⟩ := D14
        have hqw : IntKind.i64.wrap (1 + (q : Int)) = 1 + (q : Int) := wrapI64 (by omega)
        have KD := Lib.hid (l10DoK (m := [.blk w.heap.size [.int .i64 0, .slice none 0 0, .int .i64 0, .slice none 0 0, .int .i64 0, .slice none 0 0, .int .i64 0] 28]) (rest := []) t (1 + (q : Int)) w14 ⟨A1, c1, A2, c2, A3, c3, hK⟩ HV.out (by omega))
        obtain ⟨r, hr⟩ : ∃ r, strokeT (1 + (q : Int)) t = r := ⟨_, rfl⟩
        have HVR := Lib.hid (show vmach r.1 = true by rw [← hr]; exact strokeT_ok _ HV.out)
        rw [hr] at KD
        have HT := Lib.hid hT
        have HS := Lib.hid hS
        clear h14 hy hr hT hS hK D
        go_wp2_with fail
        refine KD.out.mono ?_; rintro e w15 ⟨rfl, E1, f1, E2, f2, E3, f3, hM⟩
        go_wp2_with fail
        go_roundw
        case rel => exact ⟨k - 1, r.1, E1, f1, E2, f2, E3, f3, by omega, by go_num, HVR, DR.mono (N := N + 140 - 2 * k + 2) ⟨v, HT.out, HS.out, hM⟩ (by omega)⟩
        case measure => simp [intOf]; omega
      · have i1 : ¬ (0 : Int) < (k : Int) := by omega
        go_wp2_with fail
        refine bodyPost.dr ((((((((D.front 4 rfl).st 0 (.int .i64 t.a.base)).st 1 (.slice A1 t.a.digits.length c1)).st 2 (.int .i64 t.b.base)).st 3 (.slice A2 t.b.digits.length c2)).st 4 (.int .i64 t.s.base)).st 5 (.slice A3 t.s.digits.length c3)).st 6 (.int .i64 t.carry)) ?_; intro w16 D16
        clear a1 a2 a3 a4 a5 a6
        obtain ⟨a1, a2, a3, -⟩ := D16.cells
        refine bodyPost_ret (v := .agg #[.int .i64 t.a.base, .slice A1 t.a.digits.length c1, .int .i64 t.b.base, .slice A2 t.b.digits.length c2, .int .i64 t.s.base, .slice A3 t.s.digits.length c3, .int .i64 t.carry]) (by simp [results, Tryz.results98, go_sem, a1]) rfl ⟨t, A1, c1, A2, c2, A3, c3, rfl, HV.out, ?_⟩
        exact (D16.sel [2, 3, 4] 99 (by decide) (by decide)).mono (by omega)
  · clear HZ2 HM2
    go_wp2_with fail
    refine (digits_dr b _ bs n2 w10 D10.src (by omega) (by omega) (by omega) (by omega)).mono ?_; rintro e w11 ⟨A2, c2, ds2, rfl, hd2, hdd2, h11⟩
    have D11 := D10.add h11
    have HZ2 := Lib.hid (draw_vreg (b := bs) (ds := ds2) (by omega) (by omega) (by omega) (by omega) hdd2 (HPW.out _ (by omega)))
    have HM2 := Lib.hid hd2
    clear a1 a2 a3 h11 hdd2 hd2 D10
    obtain ⟨a1, a2, a3, -⟩ := (D11.front 1 rfl).cells
    go_upto_region 8 with fail
    refine Code.wp.dr ((D11.front 1 rfl).st 3 (.slice A2 n2 c2)) ?_; intro w12 D12
    have D9 := (D12.sel [0, 3, 1, 2, 6] 99 (by decide) (by decide)).mono (M := N + 120) (by omega)
    clear a1 a2 a3 D11 D12
    have hv1 := HV1.out
    have hv2 := HZ2.out
    have hv3 := HZ3.out
    have hx2l := HM2.out
    have hx3l := HM3.out
    have hq2 := HPW.out n2 (by omega)
    have hq3 := HPW.out n3 (by omega)
    have hl12 := hl1.2.1
    clear HV1 HZ2 HZ3 HM2 HM3 HPW KN
    subst hd1
    subst hx2l
    subst hx3l
    obtain ⟨t, ht⟩ : ∃ t : Tri, t = ⟨⟨bs, ds1⟩, ⟨bs, ds2⟩, ⟨bs, x3⟩, 0⟩ := ⟨_, rfl⟩
    have ha : t.a.digits = ds1 ∧ t.a.base = bs ∧ t.b.digits = ds2 ∧ t.b.base = bs ∧ t.s.digits = x3 ∧ t.s.base = bs ∧ t.carry = 0 := by rw [ht]; exact ⟨rfl, rfl, rfl, rfl, rfl, rfl, rfl⟩
    have D9 : DR b (N + 120) w [.blk g [.int .i64 t.a.base, .slice A1 t.a.digits.length c1, .int .i64 t.b.base, .slice A2 t.b.digits.length c2, .int .i64 t.s.base, .slice A3 t.s.digits.length c3, .int .i64 t.carry] 28, rowI A3 c3 t.s.digits, rowI A2 c2 t.b.digits, rowI A1 c1 t.a.digits, .blk w.heap.size [.int .i64 0, .slice none 0 0, .int .i64 0, .slice none 0 0, .int .i64 0, .slice none 0 0, .int .i64 0] 28] w12 := by rw [ha.1, ha.2.1, ha.2.2.1, ha.2.2.2.1, ha.2.2.2.2.1, ha.2.2.2.2.2.1, ha.2.2.2.2.2.2]; exact D9
    obtain ⟨vp1, vp2⟩ : 1 ≤ vplaces t ∧ vplaces t ≤ 16 := by unfold vplaces; rw [ha.1, ha.2.2.1, ha.2.2.2.2.1]; omega
    have hok : ∀ p : Int, 0 ≤ p → p ≤ vplaces t - 1 → vmach { t with carry := p } = true := fun p p0 p1 => by
      subst ht
      exact vmach_mk (t := ⟨⟨bs, ds1⟩, ⟨bs, ds2⟩, ⟨bs, x3⟩, p⟩) hv1 hv2 hv3 rfl rfl hq2 hq3 hl12 p0 p1
    have HOK := Lib.hid hok
    have HLT := Lib.hid (show t.a.digits.length ≤ 16 ∧ t.b.digits.length ≤ 16 ∧ t.s.digits.length ≤ 16 by rw [ha.1, ha.2.2.1, ha.2.2.2.2.1]; omega)
    clear hok ht ha hv1 hv2 hv3 hq2 hq3
    have KP := Lib.hid (l10Places_any ⟨g, 0, none⟩ t w12 (DR.triC (m := [.blk w.heap.size [.int .i64 0, .slice none 0 0, .int .i64 0, .slice none 0 0, .int .i64 0, .slice none 0 0, .int .i64 0] 28]) D9).tri HLT.out.1 HLT.out.2.1 HLT.out.2.2)
    obtain ⟨a1, a2, a3, -⟩ := D9.cells
    go_wp2_with fail
    refine KP.out.mono ?_; rintro e w10 ⟨rfl, mq, rfl⟩
    have D10 := D9.kn (fun v hK => hK.drewN mq)
    clear a1 a2 a3
    go_wp2_with fail
    refine (pick_dr b (N + 120) (vplaces t) _ D10.src (by omega)).mono ?_; rintro e w11 ⟨y, rfl, hy, h11⟩
    have D11 := D10.add h11
    obtain ⟨p, rfl, hp⟩ := pickN vp1 hy
    clear D9 D10 h11 hy KP
    obtain ⟨a1, a2, a3, -⟩ := D11.cells
    go_upto_region 9 with fail
    refine Code.wp.dr (D11.st 6 (.int .i64 (p : Int))) ?_; intro w12 D12
    clear a1 a2 a3 D11
    go_wp2_with fail
    refine (pick_dr b _ 5 w12 D12.src (by omega)).mono ?_; rintro e w13 ⟨y, rfl, hy, h13⟩
    have D13 := D12.add h13
    obtain ⟨k0, rfl, hk0⟩ := pickN (by omega) hy
    have hV0 := Lib.hid (HOK.out (p : Int) (by omega) (by omega))
    clear D12 h13 hy HLT
    obtain ⟨a1, a2, a3, -⟩ := D13.cells
    go_wp2_with fail
    clear a1 a2 a3
    go_loopw [7] (fun kk wr => ∃ (k : Nat) (t : Tri) (A1 : Option Addr) (c1 : Nat) (A2 : Option Addr) (c2 : Nat) (A3 : Option Addr) (c3 : Nat), k ≤ 4 ∧ kk = .int .i64 (k : Int) ∧ Hid (vmach t = true) ∧ DR b (N + 140 - 2 * k) w [.blk g [.int .i64 t.a.base, .slice A1 t.a.digits.length c1, .int .i64 t.b.base, .slice A2 t.b.digits.length c2, .int .i64 t.s.base, .slice A3 t.s.digits.length c3, .int .i64 t.carry] 28, rowI A3 c3 t.s.digits, rowI A2 c2 t.b.digits, rowI A1 c1 t.a.digits, .blk w.heap.size [.int .i64 0, .slice none 0 0, .int .i64 0, .slice none 0 0, .int .i64 0, .slice none 0 0, .int .i64 0] 28] wr) (fun kk _ => (intOf kk).toNat)
    case atStart => exact ⟨k0, { t with carry := p }, A1, c1, A2, c2, A3, c3, by omega, rfl, hV0, D13.mono (by omega)⟩
    case round =>
      clear D13 hV0 HOK vp1 vp2
      obtain ⟨k, t, A1, c1, A2, c2, A3, c3, hk4, rfl, HV, D⟩ := hrel
      obtain ⟨a1, a2, a3, a4, a5, a6, -⟩ := D.cells
      by_cases hk0 : 0 < k
      · have i1 : (0 : Int) < (k : Int) := by omega
        clear a1 a2 a3 a4 a5 a6
        go_wp2_with fail
        refine (pick_dr b _ 4 wr D.src (by omega)).mono ?_; rintro e w14 ⟨y, rfl, hy, h14⟩
        have D14 := D.add h14
        obtain ⟨q, rfl, hq⟩ := pickN (by omega) hy
        obtain ⟨v, hT, hS, hK⟩ := D14
        have hqw : IntKind.i64.wrap (1 + (q : Int)) = 1 + (q : Int) := wrapI64 (by omega)
        have KD := Lib.hid (l10DoK (m := [.blk w.heap.size [.int .i64 0, .slice none 0 0, .int .i64 0, .slice none 0 0, .int .i64 0, .slice none 0 0, .int .i64 0] 28]) (rest := []) t (1 + (q : Int)) w14 ⟨A1, c1, A2, c2, A3, c3, hK⟩ HV.out (by omega))
        obtain ⟨r, hr⟩ : ∃ r, strokeT (1 + (q : Int)) t = r := ⟨_, rfl⟩
        have HVR := Lib.hid (show vmach r.1 = true by rw [← hr]; exact strokeT_ok _ HV.out)
        rw [hr] at KD
        have HT := Lib.hid hT
        have HS := Lib.hid hS
        clear h14 hy hr hT hS hK D
        go_wp2_with fail
        refine KD.out.mono ?_; rintro e w15 ⟨rfl, E1, f1, E2, f2, E3, f3, hM⟩
        go_wp2_with fail
        go_roundw
        case rel => exact ⟨k - 1, r.1, E1, f1, E2, f2, E3, f3, by omega, by go_num, HVR, DR.mono (N := N + 140 - 2 * k + 2) ⟨v, HT.out, HS.out, hM⟩ (by omega)⟩
        case measure => simp [intOf]; omega
      · have i1 : ¬ (0 : Int) < (k : Int) := by omega
        go_wp2_with fail
        refine bodyPost.dr ((((((((D.front 4 rfl).st 0 (.int .i64 t.a.base)).st 1 (.slice A1 t.a.digits.length c1)).st 2 (.int .i64 t.b.base)).st 3 (.slice A2 t.b.digits.length c2)).st 4 (.int .i64 t.s.base)).st 5 (.slice A3 t.s.digits.length c3)).st 6 (.int .i64 t.carry)) ?_; intro w16 D16
        clear a1 a2 a3 a4 a5 a6
        obtain ⟨a1, a2, a3, -⟩ := D16.cells
        refine bodyPost_ret (v := .agg #[.int .i64 t.a.base, .slice A1 t.a.digits.length c1, .int .i64 t.b.base, .slice A2 t.b.digits.length c2, .int .i64 t.s.base, .slice A3 t.s.digits.length c3, .int .i64 t.carry]) (by simp [results, Tryz.results98, go_sem, a1]) rfl ⟨t, A1, c1, A2, c2, A3, c3, rfl, HV.out, ?_⟩
        exact (D16.sel [2, 3, 4] 99 (by decide) (by decide)).mono (by omega)
end Go.Proofs.YtkfbfainhmkkdaaGreat

namespace Go.Proofs.YtkfbfainhmkkdaaGreat
open Go.RowKit Go.Sort
/-- what the drawing of a machine returns that may be none -/
def DBent (b M : Nat) (w : World) (e : Ending) (w' : World) : Prop := ∃ (t : Tri) (A1 : Option Addr) (c1 : Nat) (A2 : Option Addr) (c2 : Nat) (A3 : Option Addr) (c3 : Nat), e = .returned (.agg #[.int .i64 t.a.base, .slice A1 t.a.digits.length c1, .int .i64 t.b.base, .slice A2 t.b.digits.length c2, .int .i64 t.s.base, .slice A3 t.s.digits.length c3, .int .i64 t.carry]) ∧ (t.a.digits.length ≤ 22 ∧ t.b.digits.length ≤ 22 ∧ t.s.digits.length ≤ 22) ∧ DR b M w [rowI A3 c3 t.s.digits, rowI A2 c2 t.b.digits, rowI A1 c1 t.a.digits] w'
theorem DR.rowFormP {b N : Nat} {w wi : World} {m : List Ent} {A : Option Addr} {c : Nat} {ds : List Int} (h : DR b N w (rowI A c ds :: m) wi) (hd : 0 < ds.length) : ∃ g, A = some ⟨g, 0, none⟩ := by
  obtain ⟨v, -, -, hK⟩ := h
  obtain ⟨g, c', he⟩ := Kn.rowForm hK hd
  injection he with he
  exact ⟨g, he⟩
theorem DR.setIP {b N : Nat} {w wi : World} {m : List Ent} {g c : Nat} {ds : List Int} (h : DR b N w (rowI (some ⟨g, 0, none⟩) c ds :: m) wi) (j : Nat) (v : Int) : DR b N w (rowI (some ⟨g, 0, none⟩) c (ds.set j v) :: m) (wi.setCell ⟨g, j, none⟩ (.int .i64 v)) := h.kn (fun _ hK => hK.setI j v)
theorem DR.rowCellP {b N : Nat} {w wi : World} {m : List Ent} {g c : Nat} {ds : List Int} (h : DR b N w (rowI (some ⟨g, 0, none⟩) c ds :: m) wi) {j : Nat} (hj : j < ds.length) : wi.cell? ⟨g, j, none⟩ = some (.int .i64 ds[j]) ∧ wi.frozen? ⟨g, j, none⟩ = false ∧ g < wi.heap.size := by
  obtain ⟨v, -, -, hK⟩ := h
  have h1 := Kn.rowCell hK (j := j) (u := .int .i64 ds[j]) (by simp [hj])
  exact ⟨h1.1, h1.2, World.block_lt_of_cell? wi _ h1.1⟩
theorem DR.cell23 {b N : Nat} {w wi : World} {m : List Ent} {g : Nat} {v0 v1 v2 v3 v4 v5 v6 : Value} {T : TypeId} (h : DR b N w m wi) (i : Nat) (hi : m[i]? = some (.blk g [v0, v1, v2, v3, v4, v5, v6] T)) : wi.cell? ⟨g, 2, none⟩ = some v2 ∧ wi.cell? ⟨g, 3, none⟩ = some v3 := by
  obtain ⟨v, -, -, hK⟩ := h
  have h7 := box7at hK i hi
  exact ⟨h7.2.2.1, h7.2.2.2.1⟩
set_option maxRecDepth 100000 in
set_option maxHeartbeats 3200000 in
theorem l10Bent_dr (b N : Nat) (w : World) (h : Src w b N) (hN : N ≤ 600000) :
    Calls Tryz.prog 46 #[.pointer (some ⟨b, 0, none⟩)] w (DBent b (N + 300) w) := by
  unfold DBent
  have D0 := DR.nil h
  clear h
  go_enter Tryz.func46, Tryz.ntmps46
  go_wp2_with fail
  refine Calls.dr (D0.al [.int .i64 0, .slice none 0 0, .int .i64 0, .slice none 0 0, .int .i64 0, .slice none 0 0, .int .i64 0] 28) ?_; intro w1 D1
  have KD := Lib.hid (l10Draw_dr b N w1 D1.src (by omega))
  unfold DMach at KD
  refine KD.out.mono ?_; rintro e w2 ⟨t, A1, c1, A2, c2, A3, c3, rfl, hv, h2⟩
  have D2 := D1.add h2
  have hz := sized_of hv
  have HV := Lib.hid hv
  clear D0 D1 h2 KD hv
  go_wp2_with fail
  refine Calls.dr (D2.al [.int .i64 t.a.base, .slice A1 t.a.digits.length c1, .int .i64 t.b.base, .slice A2 t.b.digits.length c2, .int .i64 t.s.base, .slice A3 t.s.digits.length c3, .int .i64 t.carry] 28) ?_; intro w3 D3
  obtain ⟨g, hg⟩ : ∃ g, w2.heap.size = g := ⟨_, rfl⟩
  rw [hg] at D3 ⊢
  clear hg D2
  refine (pick_dr b _ 20 w3 D3.src (by omega)).mono ?_; rintro e w4 ⟨y, rfl, hy, h4⟩
  have D4 : DR b _ w [.blk g [.int .i64 t.a.base, .slice A1 t.a.digits.length c1, .int .i64 t.b.base, .slice A2 t.b.digits.length c2, .int .i64 t.s.base, .slice A3 t.s.digits.length c3, .int .i64 t.carry] 28, rowI A3 c3 t.s.digits, rowI A2 c2 t.b.digits, rowI A1 c1 t.a.digits, .blk w.heap.size [.int .i64 0, .slice none 0 0, .int .i64 0, .slice none 0 0, .int .i64 0, .slice none 0 0, .int .i64 0] 28] w4 := D3.add h4
  have y0 : 0 ≤ y := hy.1
  have z1 := hz.a
  have z2 := hz.b
  have z3 := hz.s
  clear D3 h4 hy hz
  by_cases h0 : y = 0
  · subst h0
    have KP := Lib.hid (l10Places_any ⟨g, 0, none⟩ t w4 (DR.triC (m := [.blk w.heap.size [.int .i64 0, .slice none 0 0, .int .i64 0, .slice none 0 0, .int .i64 0, .slice none 0 0, .int .i64 0] 28]) D4).tri z1 z2 z3)
    go_wp2_with fail
    refine KP.out.mono ?_; rintro e w5 ⟨rfl, mq, rfl⟩
    have D5 := D4.kn (fun v hK => hK.drewN mq)
    clear D4 KP
    obtain ⟨vp, hvp⟩ : ∃ vp, vplaces t = vp := ⟨_, rfl⟩
    simp only [hvp]
    clear hvp
    go_wp2_with fail
    refine Calls.dr (D5.al [.int .i64 (-1), .int .i64 vp, .int .i64 9223372036854775807] 2) ?_; intro w6 D6
    obtain ⟨hr, hA⟩ := DR.lit (ds := [-1, vp, 9223372036854775807]) D6 (by simp)
    refine (among_dr b _ _ 3 3 _ w6 D6.src (by omega) hr hA (by omega) (by omega)).mono ?_; rintro e w7 ⟨x, rfl, hx, h7⟩
    have D7 := (D6.add h7).sel [1, 2, 3, 4, 5] 99 (by decide) (by decide)
    clear hr hA D5 D6 h7 hx
    obtain ⟨a1, a2, a3, d1, d2, d3, -⟩ := D7.cells
    go_upto_region 13 with fail
    refine Code.wp.dr (D7.st 6 (.int .i64 x)) ?_; intro w8 D8
    clear D7 a1 a2 a3 d1 d2 d3
    obtain ⟨u, B1, d1, B2, d2, B3, d3, hul, D9⟩ : ∃ (u : Tri) (B1 : Option Addr) (d1 : Nat) (B2 : Option Addr) (d2 : Nat) (B3 : Option Addr) (d3 : Nat), (u.a.digits.length ≤ 22 ∧ u.b.digits.length ≤ 22 ∧ u.s.digits.length ≤ 22) ∧ DR b (N + 290) w [.blk g [.int .i64 u.a.base, .slice B1 u.a.digits.length d1, .int .i64 u.b.base, .slice B2 u.b.digits.length d2, .int .i64 u.s.base, .slice B3 u.s.digits.length d3, .int .i64 u.carry] 28, rowI B3 d3 u.s.digits, rowI B2 d2 u.b.digits, rowI B1 d1 u.a.digits, .blk w.heap.size [.int .i64 0, .slice none 0 0, .int .i64 0, .slice none 0 0, .int .i64 0, .slice none 0 0, .int .i64 0] 28] w8 := ⟨{ t with carry := x }, A1, c1, A2, c2, A3, c3, by simp only; omega, D8.mono (by omega)⟩
    clear D8
    have D4 := D9
    clear D4 HV
    obtain ⟨a1, a2, a3, x1, x2, x3, -⟩ := D9.cells
    go_wp2_with fail
    refine bodyPost.dr ((((((((D9.front 4 rfl).st 0 (.int .i64 u.a.base)).st 1 (.slice B1 u.a.digits.length d1)).st 2 (.int .i64 u.b.base)).st 3 (.slice B2 u.b.digits.length d2)).st 4 (.int .i64 u.s.base)).st 5 (.slice B3 u.s.digits.length d3)).st 6 (.int .i64 u.carry)) ?_; intro w19 D19
    clear a1 a2 a3 x1 x2 x3
    obtain ⟨a1, a2, a3, -⟩ := D19.cells
    refine bodyPost_ret (v := .agg #[.int .i64 u.a.base, .slice B1 u.a.digits.length d1, .int .i64 u.b.base, .slice B2 u.b.digits.length d2, .int .i64 u.s.base, .slice B3 u.s.digits.length d3, .int .i64 u.carry]) (by simp [results, Tryz.results46, go_sem, a1]) rfl ⟨u, B1, d1, B2, d2, B3, d3, rfl, hul, ?_⟩
    exact (D19.sel [2, 3, 4] 99 (by decide) (by decide)).mono (by omega)
  by_cases h1 : y = 1
  · subst h1
    obtain ⟨-, -, k3, -⟩ := vmach_all HV.out
    obtain ⟨⟨b5, b6⟩, -⟩ := vreg_iff.1 k3
    have hwr : IntKind.i64.wrap (t.s.base + 1) = t.s.base + 1 := wrapI64 (by omega)
    obtain ⟨a1, a2, a3, x1, x2, x3, -⟩ := D4.cells
    go_upto_region 13 with fail
    refine Code.wp.dr (D4.st 4 (.int .i64 (t.s.base + 1))) ?_; intro w8 D8
    obtain ⟨u, B1, d1, B2, d2, B3, d3, hul, D9⟩ : ∃ (u : Tri) (B1 : Option Addr) (d1 : Nat) (B2 : Option Addr) (d2 : Nat) (B3 : Option Addr) (d3 : Nat), (u.a.digits.length ≤ 22 ∧ u.b.digits.length ≤ 22 ∧ u.s.digits.length ≤ 22) ∧ DR b (N + 290) w [.blk g [.int .i64 u.a.base, .slice B1 u.a.digits.length d1, .int .i64 u.b.base, .slice B2 u.b.digits.length d2, .int .i64 u.s.base, .slice B3 u.s.digits.length d3, .int .i64 u.carry] 28, rowI B3 d3 u.s.digits, rowI B2 d2 u.b.digits, rowI B1 d1 u.a.digits, .blk w.heap.size [.int .i64 0, .slice none 0 0, .int .i64 0, .slice none 0 0, .int .i64 0, .slice none 0 0, .int .i64 0] 28] w8 := ⟨{ t with s := ⟨t.s.base + 1, t.s.digits⟩ }, A1, c1, A2, c2, A3, c3, by simp only; omega, D8.mono (by omega)⟩
    clear D8 a1 a2 a3 x1 x2 x3
    clear D4 HV
    obtain ⟨a1, a2, a3, x1, x2, x3, -⟩ := D9.cells
    go_wp2_with fail
    refine bodyPost.dr ((((((((D9.front 4 rfl).st 0 (.int .i64 u.a.base)).st 1 (.slice B1 u.a.digits.length d1)).st 2 (.int .i64 u.b.base)).st 3 (.slice B2 u.b.digits.length d2)).st 4 (.int .i64 u.s.base)).st 5 (.slice B3 u.s.digits.length d3)).st 6 (.int .i64 u.carry)) ?_; intro w19 D19
    clear a1 a2 a3 x1 x2 x3
    obtain ⟨a1, a2, a3, -⟩ := D19.cells
    refine bodyPost_ret (v := .agg #[.int .i64 u.a.base, .slice B1 u.a.digits.length d1, .int .i64 u.b.base, .slice B2 u.b.digits.length d2, .int .i64 u.s.base, .slice B3 u.s.digits.length d3, .int .i64 u.carry]) (by simp [results, Tryz.results46, go_sem, a1]) rfl ⟨u, B1, d1, B2, d2, B3, d3, rfl, hul, ?_⟩
    exact (D19.sel [2, 3, 4] 99 (by decide) (by decide)).mono (by omega)
  by_cases h2 : y = 2
  · subst h2
    obtain ⟨L1, hL1⟩ : ∃ L, t.a.digits.length = L := ⟨_, rfl⟩
    have HL1 := Lib.hid hL1
    rw [hL1] at D4 z1
    clear hL1
    go_wp2_with fail
    refine wp_region_held_drew (S := fun _ => True) (by kernel_rfl) trivial (fun hHeld => ?_)
    try dsimp only
    have D5 := D4.drew
    obtain ⟨wd, hwd⟩ : ∃ W, w4.drew = W := ⟨_, rfl⟩
    rw [hwd] at D5 ⊢
    clear D4 hwd
    refine wpAnyH_take (i := 0) (v := ?_) rfl (by kernel_rfl) (by kernel_rfl) (by kernel_rfl) (fun _ _ _ h => h) (Or.inl ⟨by rfl, ?_⟩) hHeld ?_
    rotate_left
    · (intro w hSw; (try dsimp only at hSw); go_simp; try with_reducible rfl)
    try simp only [Act.put, List.setIfInBounds_toArray, List.set_cons_zero, List.set_cons_succ, List.getElem_toArray, List.getElem_cons_zero]
    refine wpAnyH_take (i := 1) (v := ?_) rfl (by kernel_rfl) (by kernel_rfl) (by kernel_rfl) (fun _ _ _ h => h) (Or.inl ⟨by rfl, ?_⟩) hHeld ?_
    rotate_left
    · (intro w hSw; (try dsimp only at hSw); go_simp; try with_reducible rfl)
    try simp only [Act.put, List.setIfInBounds_toArray, List.set_cons_zero, List.set_cons_succ, List.getElem_toArray, List.getElem_cons_succ, List.getElem_cons_zero]
    refine wpAnyH_take (i := 3) (v := ?_) rfl (by kernel_rfl) (by kernel_rfl) (by kernel_rfl) (fun _ _ _ h => h) (Or.inl ⟨by rfl, ?_⟩) hHeld ?_
    rotate_left
    · (intro w hSw; (try dsimp only at hSw); go_simp; try with_reducible rfl)
    try simp only [Act.put, List.setIfInBounds_toArray, List.set_cons_zero, List.set_cons_succ, List.getElem_toArray, List.getElem_cons_succ, List.getElem_cons_zero]
    obtain ⟨a1, a2, a3, -⟩ := D5.cells
    refine wpAnyH_ready (rs := [2, 4]) (by kernel_rfl) (by decide) (AllReadyH.cons (o := _) rfl (fun K hK' => ?_) (AllReadyH.cons (o := _) rfl (fun K hK' => ?_) AllReadyH.nil))
    · go_simp
      refine hK'.out _ _ trivial (fun hHeld2 => ?_)
      clear hK' K hHeld
      have hHeld := hHeld2
      clear hHeld2
      try simp only [Act.put, List.setIfInBounds_toArray]
      clear a1 a2 a3
      refine wpAnyH_ready (rs := [4]) (by kernel_rfl) (by decide) (AllReadyH.cons (o := _) rfl (fun K hK' => ?_) AllReadyH.nil)
      go_simp
      go_at_call 99
      refine (digits_dr b _ 2 6 wd D5.src (by omega) (by omega) (by omega) (by omega)).mono ?_; rintro e w5 ⟨X, xx, dd, rfl, hdl, hdd, h5⟩
      have D6 := D5.add h5
      refine hK'.out _ _ trivial (fun hHeld2 => ?_)
      clear hK' K hHeld
      have hHeld := hHeld2
      clear hHeld2
      try simp only [Act.put, List.setIfInBounds_toArray]
      clear h5 hdd D5
      obtain ⟨v, hT, hS, hK⟩ := D6
      have HT := Lib.hid hT
      have HS := Lib.hid hS
      have hKA : Kn v (.row (.slice X 6 xx) 2 1 6 (dd.map (Value.int .i64)) :: .row (.slice A1 L1 c1) 2 1 L1 (t.a.digits.map (Value.int .i64)) :: .blk g [.int .i64 t.a.base, .slice A1 L1 c1, .int .i64 t.b.base, .slice A2 t.b.digits.length c2, .int .i64 t.s.base, .slice A3 t.s.digits.length c3, .int .i64 t.carry] 28 :: rowI A3 c3 t.s.digits :: rowI A2 c2 t.b.digits :: .blk w.heap.size [.int .i64 0, .slice none 0 0, .int .i64 0, .slice none 0 0, .int .i64 0, .slice none 0 0, .int .i64 0] 28 :: []) w5 := by
        have h9 := hK.sel [0, 4, 1, 2, 3, 5] 99 (by decide) (by decide)
        unfold rowI at h9
        rw [hdl, HL1.out] at h9
        exact h9
      clear hT hS hK
      refine wpAnyH_ready (rs := [5]) (by kernel_rfl) (by decide) (AllReadyH.cons (o := _) rfl (fun K hK' => ?_) AllReadyH.nil)
      refine kn_step_row tpI (by rfl) _ _ (by rfl) (.slice A1 L1 c1) L1 (t.a.digits.map (Value.int .i64)) (by rfl) (by rfl) (by decide) hKA (by simp [Value.oneCell']) (by omega) (by omega) ?_; intro v7 w7 hK7
      refine hK'.out _ _ trivial (fun hHeld2 => ?_)
      clear hK' K hHeld
      have hHeld := hHeld2
      clear hHeld2
      try simp only [Act.put, List.setIfInBounds_toArray]
      generalize hv7 : v7 = vv at hK7 ⊢
      have hrow : ∃ A' c', vv = .slice A' (L1 + 6) c' := by
        have h0 : w7.ownsRow 0 2 1 vv (L1 + 6) _ := hK7.at0
        rcases h0.2 with ⟨_, h2⟩ | ⟨gq, cap, cur, hvq, -⟩
        · omega
        · exact ⟨_, _, hvq⟩
      obtain ⟨A', c', rfl⟩ := hrow
      clear hv7
      refine wpAnyH_take (i := 6) (v := ?_) rfl (by kernel_rfl) (by kernel_rfl) (by kernel_rfl) (fun _ _ _ h => h) (Or.inl ⟨by rfl, ?_⟩) hHeld ?_
      rotate_left
      · (intro w hSw; (try dsimp only at hSw); go_simp; try with_reducible rfl)
      try simp only [Act.put, List.setIfInBounds_toArray, List.set_cons_zero, List.set_cons_succ, List.getElem_toArray, List.getElem_cons_succ, List.getElem_cons_zero]
      refine wpAnyH_take (i := 7) (v := ?_) rfl (by kernel_rfl) (by kernel_rfl) (by kernel_rfl) (fun _ _ _ h => h) (Or.inl ⟨by rfl, ?_⟩) hHeld ?_
      rotate_left
      · (intro w hSw; (try dsimp only at hSw); go_simp; try with_reducible rfl)
      try simp only [Act.put, List.setIfInBounds_toArray, List.set_cons_zero, List.set_cons_succ, List.getElem_toArray, List.getElem_cons_succ, List.getElem_cons_zero]
      have D7 : DR b _ w _ w7 := ⟨v, HT.out, HS.out, hK7⟩
      have D8 := D7.front 2 rfl
      obtain ⟨y1, y2, y3, -⟩ := D8.cells
      refine wpAnyH_ready (rs := [8]) (by kernel_rfl) (by decide) (AllReadyH.cons (o := _) rfl (fun K hK' => ?_) AllReadyH.nil)
      go_simp
      refine hK'.out _ _ trivial (fun hHeld2 => ?_)
      clear hK' K hHeld
      have hHeld := hHeld2
      clear hHeld2
      try simp only [Act.put, List.setIfInBounds_toArray]
      refine wpAnyH_done (by kernel_rfl) ?_ _
      have D9 := D8.st 1 (.slice A' (L1 + 6) c')
      clear y1 y2 y3 D8 D7 hK7
      generalize w7.setCell ⟨g, 1, none⟩ (.slice A' (L1 + 6) c') = w8 at D9 ⊢
      obtain ⟨u, B1, d1, B2, d2, B3, d3, hul, D9⟩ : ∃ (u : Tri) (B1 : Option Addr) (d1 : Nat) (B2 : Option Addr) (d2 : Nat) (B3 : Option Addr) (d3 : Nat), (u.a.digits.length ≤ 22 ∧ u.b.digits.length ≤ 22 ∧ u.s.digits.length ≤ 22) ∧ DR b (N + 290) w [.blk g [.int .i64 u.a.base, .slice B1 u.a.digits.length d1, .int .i64 u.b.base, .slice B2 u.b.digits.length d2, .int .i64 u.s.base, .slice B3 u.s.digits.length d3, .int .i64 u.carry] 28, rowI B3 d3 u.s.digits, rowI B2 d2 u.b.digits, rowI B1 d1 u.a.digits, .blk w.heap.size [.int .i64 0, .slice none 0 0, .int .i64 0, .slice none 0 0, .int .i64 0, .slice none 0 0, .int .i64 0] 28] w8 := by
        refine ⟨{ t with a := ⟨t.a.base, t.a.digits ++ dd⟩ }, A', c', A2, c2, A3, c3, by simp only [List.length_append]; have := HL1.out; omega, ?_⟩
        have h9 := (D9.sel [0, 3, 4, 1, 5] 99 (by decide) (by decide)).mono (M := N + 290) (by omega)
        show DR b _ w [.blk g [.int .i64 t.a.base, .slice A' (t.a.digits ++ dd).length c', _, _, _, _, _] _, rowI A3 c3 t.s.digits, rowI A2 c2 t.b.digits, rowI A' c' (t.a.digits ++ dd), _] w8
        unfold rowI at h9 ⊢
        rw [List.length_append, HL1.out, hdl, List.map_append]
        exact h9
      clear HT HS
      have D4 := D9
      clear D4 HV
      obtain ⟨a1, a2, a3, x1, x2, x3, -⟩ := D9.cells
      go_wp2_with fail
      refine bodyPost.dr ((((((((D9.front 4 rfl).st 0 (.int .i64 u.a.base)).st 1 (.slice B1 u.a.digits.length d1)).st 2 (.int .i64 u.b.base)).st 3 (.slice B2 u.b.digits.length d2)).st 4 (.int .i64 u.s.base)).st 5 (.slice B3 u.s.digits.length d3)).st 6 (.int .i64 u.carry)) ?_; intro w19 D19
      clear a1 a2 a3 x1 x2 x3
      obtain ⟨a1, a2, a3, -⟩ := D19.cells
      refine bodyPost_ret (v := .agg #[.int .i64 u.a.base, .slice B1 u.a.digits.length d1, .int .i64 u.b.base, .slice B2 u.b.digits.length d2, .int .i64 u.s.base, .slice B3 u.s.digits.length d3, .int .i64 u.carry]) (by simp [results, Tryz.results46, go_sem, a1]) rfl ⟨u, B1, d1, B2, d2, B3, d3, rfl, hul, ?_⟩
      exact (D19.sel [2, 3, 4] 99 (by decide) (by decide)).mono (by omega)
    · go_simp
      go_at_call 99
      refine (digits_dr b _ 2 6 wd D5.src (by omega) (by omega) (by omega) (by omega)).mono ?_; rintro e w5 ⟨X, xx, dd, rfl, hdl, hdd, h5⟩
      have D6 := D5.add h5
      refine hK'.out _ _ trivial (fun hHeld2 => ?_)
      clear hK' K hHeld
      have hHeld := hHeld2
      clear hHeld2
      try simp only [Act.put, List.setIfInBounds_toArray]
      clear h5 hdd D5 a1 a2 a3
      obtain ⟨a1, a2, a3, -⟩ := (D6.front 1 rfl).cells
      refine wpAnyH_ready (rs := [2]) (by kernel_rfl) (by decide) (AllReadyH.cons (o := _) rfl (fun K hK' => ?_) AllReadyH.nil)
      go_simp
      refine hK'.out _ _ trivial (fun hHeld2 => ?_)
      clear hK' K hHeld
      have hHeld := hHeld2
      clear hHeld2
      try simp only [Act.put, List.setIfInBounds_toArray]
      clear a1 a2 a3
      obtain ⟨v, hT, hS, hK⟩ := D6
      have HT := Lib.hid hT
      have HS := Lib.hid hS
      have hKA : Kn v (.row (.slice X 6 xx) 2 1 6 (dd.map (Value.int .i64)) :: .row (.slice A1 L1 c1) 2 1 L1 (t.a.digits.map (Value.int .i64)) :: .blk g [.int .i64 t.a.base, .slice A1 L1 c1, .int .i64 t.b.base, .slice A2 t.b.digits.length c2, .int .i64 t.s.base, .slice A3 t.s.digits.length c3, .int .i64 t.carry] 28 :: rowI A3 c3 t.s.digits :: rowI A2 c2 t.b.digits :: .blk w.heap.size [.int .i64 0, .slice none 0 0, .int .i64 0, .slice none 0 0, .int .i64 0, .slice none 0 0, .int .i64 0] 28 :: []) w5 := by
        have h9 := hK.sel [0, 4, 1, 2, 3, 5] 99 (by decide) (by decide)
        unfold rowI at h9
        rw [hdl, HL1.out] at h9
        exact h9
      clear hT hS hK
      refine wpAnyH_ready (rs := [5]) (by kernel_rfl) (by decide) (AllReadyH.cons (o := _) rfl (fun K hK' => ?_) AllReadyH.nil)
      refine kn_step_row tpI (by rfl) _ _ (by rfl) (.slice A1 L1 c1) L1 (t.a.digits.map (Value.int .i64)) (by rfl) (by rfl) (by decide) hKA (by simp [Value.oneCell']) (by omega) (by omega) ?_; intro v7 w7 hK7
      refine hK'.out _ _ trivial (fun hHeld2 => ?_)
      clear hK' K hHeld
      have hHeld := hHeld2
      clear hHeld2
      try simp only [Act.put, List.setIfInBounds_toArray]
      generalize hv7 : v7 = vv at hK7 ⊢
      have hrow : ∃ A' c', vv = .slice A' (L1 + 6) c' := by
        have h0 : w7.ownsRow 0 2 1 vv (L1 + 6) _ := hK7.at0
        rcases h0.2 with ⟨_, h2⟩ | ⟨gq, cap, cur, hvq, -⟩
        · omega
        · exact ⟨_, _, hvq⟩
      obtain ⟨A', c', rfl⟩ := hrow
      clear hv7
      refine wpAnyH_take (i := 6) (v := ?_) rfl (by kernel_rfl) (by kernel_rfl) (by kernel_rfl) (fun _ _ _ h => h) (Or.inl ⟨by rfl, ?_⟩) hHeld ?_
      rotate_left
      · (intro w hSw; (try dsimp only at hSw); go_simp; try with_reducible rfl)
      try simp only [Act.put, List.setIfInBounds_toArray, List.set_cons_zero, List.set_cons_succ, List.getElem_toArray, List.getElem_cons_succ, List.getElem_cons_zero]
      refine wpAnyH_take (i := 7) (v := ?_) rfl (by kernel_rfl) (by kernel_rfl) (by kernel_rfl) (fun _ _ _ h => h) (Or.inl ⟨by rfl, ?_⟩) hHeld ?_
      rotate_left
      · (intro w hSw; (try dsimp only at hSw); go_simp; try with_reducible rfl)
      try simp only [Act.put, List.setIfInBounds_toArray, List.set_cons_zero, List.set_cons_succ, List.getElem_toArray, List.getElem_cons_succ, List.getElem_cons_zero]
      have D7 : DR b _ w _ w7 := ⟨v, HT.out, HS.out, hK7⟩
      have D8 := D7.front 2 rfl
      obtain ⟨y1, y2, y3, -⟩ := D8.cells
      refine wpAnyH_ready (rs := [8]) (by kernel_rfl) (by decide) (AllReadyH.cons (o := _) rfl (fun K hK' => ?_) AllReadyH.nil)
      go_simp
      refine hK'.out _ _ trivial (fun hHeld2 => ?_)
      clear hK' K hHeld
      have hHeld := hHeld2
      clear hHeld2
      try simp only [Act.put, List.setIfInBounds_toArray]
      refine wpAnyH_done (by kernel_rfl) ?_ _
      have D9 := D8.st 1 (.slice A' (L1 + 6) c')
      clear y1 y2 y3 D8 D7 hK7
      generalize w7.setCell ⟨g, 1, none⟩ (.slice A' (L1 + 6) c') = w8 at D9 ⊢
      obtain ⟨u, B1, d1, B2, d2, B3, d3, hul, D9⟩ : ∃ (u : Tri) (B1 : Option Addr) (d1 : Nat) (B2 : Option Addr) (d2 : Nat) (B3 : Option Addr) (d3 : Nat), (u.a.digits.length ≤ 22 ∧ u.b.digits.length ≤ 22 ∧ u.s.digits.length ≤ 22) ∧ DR b (N + 290) w [.blk g [.int .i64 u.a.base, .slice B1 u.a.digits.length d1, .int .i64 u.b.base, .slice B2 u.b.digits.length d2, .int .i64 u.s.base, .slice B3 u.s.digits.length d3, .int .i64 u.carry] 28, rowI B3 d3 u.s.digits, rowI B2 d2 u.b.digits, rowI B1 d1 u.a.digits, .blk w.heap.size [.int .i64 0, .slice none 0 0, .int .i64 0, .slice none 0 0, .int .i64 0, .slice none 0 0, .int .i64 0] 28] w8 := by
        refine ⟨{ t with a := ⟨t.a.base, t.a.digits ++ dd⟩ }, A', c', A2, c2, A3, c3, by simp only [List.length_append]; have := HL1.out; omega, ?_⟩
        have h9 := (D9.sel [0, 3, 4, 1, 5] 99 (by decide) (by decide)).mono (M := N + 290) (by omega)
        show DR b _ w [.blk g [.int .i64 t.a.base, .slice A' (t.a.digits ++ dd).length c', _, _, _, _, _] _, rowI A3 c3 t.s.digits, rowI A2 c2 t.b.digits, rowI A' c' (t.a.digits ++ dd), _] w8
        unfold rowI at h9 ⊢
        rw [List.length_append, HL1.out, hdl, List.map_append]
        exact h9
      clear HT HS
      have D4 := D9
      clear D4 HV
      obtain ⟨a1, a2, a3, x1, x2, x3, -⟩ := D9.cells
      go_wp2_with fail
      refine bodyPost.dr ((((((((D9.front 4 rfl).st 0 (.int .i64 u.a.base)).st 1 (.slice B1 u.a.digits.length d1)).st 2 (.int .i64 u.b.base)).st 3 (.slice B2 u.b.digits.length d2)).st 4 (.int .i64 u.s.base)).st 5 (.slice B3 u.s.digits.length d3)).st 6 (.int .i64 u.carry)) ?_; intro w19 D19
      clear a1 a2 a3 x1 x2 x3
      obtain ⟨a1, a2, a3, -⟩ := D19.cells
      refine bodyPost_ret (v := .agg #[.int .i64 u.a.base, .slice B1 u.a.digits.length d1, .int .i64 u.b.base, .slice B2 u.b.digits.length d2, .int .i64 u.s.base, .slice B3 u.s.digits.length d3, .int .i64 u.carry]) (by simp [results, Tryz.results46, go_sem, a1]) rfl ⟨u, B1, d1, B2, d2, B3, d3, rfl, hul, ?_⟩
      exact (D19.sel [2, 3, 4] 99 (by decide) (by decide)).mono (by omega)
  by_cases h3 : y = 3
  · subst h3
    obtain ⟨-, k2, k3, -⟩ := vmach_all HV.out
    obtain ⟨-, ⟨n3, n4⟩, -, -⟩ := vreg_iff.1 k2
    obtain ⟨gB, rfl⟩ := DR.rowFormP (D4.front 2 rfl) (by omega)
    obtain ⟨L2, hL2⟩ : ∃ L, t.b.digits.length = L := ⟨_, rfl⟩
    have HL2 := Lib.hid hL2
    rw [hL2] at D4 n3 n4 z2
    obtain ⟨bs, hbs⟩ : ∃ bs, t.b.base = bs := ⟨_, rfl⟩
    have HBS := Lib.hid hbs
    rw [hbs] at D4
    clear hL2 hbs k2 k3
    go_wp2_with fail
    refine wp_region_held_drew (S := fun W => W.cell? ⟨g, 2, none⟩ = some (.int .i64 bs) ∧ W.cell? ⟨g, 3, none⟩ = some (.slice (some ⟨gB, 0, none⟩) L2 c2)) (by kernel_rfl) (D4.drew.cell23 0 rfl) (fun hHeld => ?_)
    try dsimp only
    have D5 := D4.drew
    obtain ⟨wd, hwd⟩ : ∃ W, w4.drew = W := ⟨_, rfl⟩
    rw [hwd] at D5 hHeld ⊢
    clear D4 hwd
    refine wpAnyH_take (i := 0) (v := ?_) rfl (by kernel_rfl) (by kernel_rfl) (by kernel_rfl) (fun _ _ _ h => h) (Or.inl ⟨by rfl, ?_⟩) hHeld ?_
    rotate_left
    · (intro w hSw; (try dsimp only at hSw); go_simp; try with_reducible rfl)
    try simp only [Act.put, List.setIfInBounds_toArray, List.set_cons_zero, List.set_cons_succ, List.getElem_toArray, List.getElem_cons_succ, List.getElem_cons_zero]
    refine wpAnyH_take (i := 1) (v := ?_) rfl (by kernel_rfl) (by kernel_rfl) (by kernel_rfl) (fun _ _ _ h => h) (Or.inl ⟨by rfl, ?_⟩) hHeld ?_
    rotate_left
    · (intro w hSw; (try dsimp only at hSw); go_simp; try with_reducible rfl)
    try simp only [Act.put, List.setIfInBounds_toArray, List.set_cons_zero, List.set_cons_succ, List.getElem_toArray, List.getElem_cons_succ, List.getElem_cons_zero]
    refine wpAnyH_take (i := 2) (v := ?_) rfl (by kernel_rfl) (by kernel_rfl) (by kernel_rfl) (fun _ _ _ h => h) (Or.inl ⟨by rfl, ?_⟩) hHeld ?_
    rotate_left
    · (intro w hSw; (try dsimp only at hSw); go_simp; try with_reducible rfl)
    try simp only [Act.put, List.setIfInBounds_toArray, List.set_cons_zero, List.set_cons_succ, List.getElem_toArray, List.getElem_cons_succ, List.getElem_cons_zero]
    refine wpAnyH_take (i := 3) (v := ?_) rfl (by kernel_rfl) (by kernel_rfl) (by kernel_rfl) (fun _ _ _ h => h) (Or.inl ⟨by rfl, ?_⟩) hHeld ?_
    rotate_left
    · (intro w hSw; (try dsimp only at hSw); go_simp; try with_reducible rfl)
    try simp only [Act.put, List.setIfInBounds_toArray, List.set_cons_zero, List.set_cons_succ, List.getElem_toArray, List.getElem_cons_succ, List.getElem_cons_zero]
    refine wpAnyH_take (i := 4) (v := ?_) rfl (by kernel_rfl) (by kernel_rfl) (by kernel_rfl) (fun _ _ _ h => h) (Or.inl ⟨by rfl, ?_⟩) hHeld ?_
    rotate_left
    · (intro w hSw; (try dsimp only at hSw); go_simp; try with_reducible rfl)
    try simp only [Act.put, List.setIfInBounds_toArray, List.set_cons_zero, List.set_cons_succ, List.getElem_toArray, List.getElem_cons_succ, List.getElem_cons_zero]
    refine wpAnyH_take (i := 5) (v := ?_) rfl (by kernel_rfl) (by kernel_rfl) (by kernel_rfl) (fun _ _ _ h => h) (Or.inl ⟨by rfl, ?_⟩) hHeld ?_
    rotate_left
    · (intro w hSw; (try dsimp only at hSw); go_simp; try with_reducible rfl)
    try simp only [Act.put, List.setIfInBounds_toArray, List.set_cons_zero, List.set_cons_succ, List.getElem_toArray, List.getElem_cons_succ, List.getElem_cons_zero]
    refine wpAnyH_take (i := 6) (v := ?_) rfl (by kernel_rfl) (by kernel_rfl) (by kernel_rfl) (fun _ _ _ h => h) (Or.inl ⟨by rfl, ?_⟩) hHeld ?_
    rotate_left
    · (intro w hSw; (try dsimp only at hSw); go_simp; try with_reducible rfl)
    try simp only [Act.put, List.setIfInBounds_toArray, List.set_cons_zero, List.set_cons_succ, List.getElem_toArray, List.getElem_cons_succ, List.getElem_cons_zero]
    refine wpAnyH_ready (rs := [7]) (by kernel_rfl) (by decide) (AllReadyH.cons (o := _) rfl (fun K hK' => ?_) AllReadyH.nil)
    go_simp
    have D6 := D5.al [.int .i64 (-1), .int .i64 bs] 2
    refine hK'.out _ _ (D6.cell23 1 rfl) (fun hHeld2 => ?_)
    clear hK' K hHeld
    have hHeld := hHeld2
    clear hHeld2
    try simp only [Act.put, List.setIfInBounds_toArray]
    obtain ⟨hr, hA⟩ := DR.lit (ds := [-1, bs]) D6 (by simp)
    refine wpAnyH_ready (rs := [8]) (by kernel_rfl) (by decide) (AllReadyH.cons (o := _) rfl (fun K hK' => ?_) AllReadyH.nil)
    go_simp
    go_at_call 49
    refine (among_dr b _ _ 2 2 _ _ D6.src (by omega) hr hA (by omega) (by omega)).mono ?_; rintro e w7 ⟨x, rfl, hx, h7⟩
    have D7 := (D6.add h7).sel [1, 2, 3, 4, 5] 99 (by decide) (by decide)
    clear hr hA D5 D6 h7 hx
    refine hK'.out _ _ (D7.cell23 0 rfl) (fun hHeld2 => ?_)
    clear hK' K hHeld
    have hHeld := hHeld2
    clear hHeld2
    try simp only [Act.put, List.setIfInBounds_toArray]
    have hp0 : 0 < L2 := n3
    refine wpAnyH_take (i := 9) (v := ?_) rfl (by kernel_rfl) (by kernel_rfl) (by kernel_rfl) (fun _ _ _ h => h) (Or.inl ⟨by rfl, ?_⟩) hHeld ?_
    rotate_left
    · (intro w hSw; (try dsimp only at hSw); go_simp; first | with_reducible rfl | (rw [if_pos hp0]))
    try simp only [Act.put, List.setIfInBounds_toArray, List.set_cons_zero, List.set_cons_succ, List.getElem_toArray, List.getElem_cons_succ, List.getElem_cons_zero]
    obtain ⟨r1, r2, r3⟩ := (D7.front 2 rfl).rowCellP (j := 0) (by rw [HL2.out]; omega)
    have D8 := (D7.front 2 rfl).setIP 0 x
    refine wpAnyH_ready (rs := [10]) (by kernel_rfl) (by decide) (AllReadyH.cons (o := _) rfl (fun K hK' => ?_) AllReadyH.nil)
    go_simp
    refine hK'.out _ _ (D8.cell23 1 rfl) (fun hHeld2 => ?_)
    clear hK' K hHeld hHeld2
    try simp only [Act.put, List.setIfInBounds_toArray]
    refine wpAnyH_done (by kernel_rfl) ?_ _
    clear r1 r2 r3 D7
    generalize w7.setCell ⟨gB, 0, none⟩ (.int .i64 x) = w8 at D8 ⊢
    obtain ⟨u, B1, d1, B2, d2, B3, d3, hul, D9⟩ : ∃ (u : Tri) (B1 : Option Addr) (d1 : Nat) (B2 : Option Addr) (d2 : Nat) (B3 : Option Addr) (d3 : Nat), (u.a.digits.length ≤ 22 ∧ u.b.digits.length ≤ 22 ∧ u.s.digits.length ≤ 22) ∧ DR b (N + 290) w [.blk g [.int .i64 u.a.base, .slice B1 u.a.digits.length d1, .int .i64 u.b.base, .slice B2 u.b.digits.length d2, .int .i64 u.s.base, .slice B3 u.s.digits.length d3, .int .i64 u.carry] 28, rowI B3 d3 u.s.digits, rowI B2 d2 u.b.digits, rowI B1 d1 u.a.digits, .blk w.heap.size [.int .i64 0, .slice none 0 0, .int .i64 0, .slice none 0 0, .int .i64 0, .slice none 0 0, .int .i64 0] 28] w8 := by
      refine ⟨{ t with b := ⟨t.b.base, t.b.digits.set 0 x⟩ }, A1, c1, some ⟨gB, 0, none⟩, c2, A3, c3, by simp only [List.length_set]; have := HL2.out; omega, ?_⟩
      have h9 := (D8.sel [1, 2, 0, 3, 4] 99 (by decide) (by decide)).mono (M := N + 290) (by omega)
      show DR b _ w [.blk g [_, _, .int .i64 t.b.base, .slice (some ⟨gB, 0, none⟩) (t.b.digits.set 0 x).length c2, _, _, _] _, _, _, _, _] w8
      rw [List.length_set, HL2.out, HBS.out]
      exact h9
    clear D8
    have D4 := D9
    clear D4 HV
    obtain ⟨a1, a2, a3, x1, x2, x3, -⟩ := D9.cells
    go_wp2_with fail
    refine bodyPost.dr ((((((((D9.front 4 rfl).st 0 (.int .i64 u.a.base)).st 1 (.slice B1 u.a.digits.length d1)).st 2 (.int .i64 u.b.base)).st 3 (.slice B2 u.b.digits.length d2)).st 4 (.int .i64 u.s.base)).st 5 (.slice B3 u.s.digits.length d3)).st 6 (.int .i64 u.carry)) ?_; intro w19 D19
    clear a1 a2 a3 x1 x2 x3
    obtain ⟨a1, a2, a3, -⟩ := D19.cells
    refine bodyPost_ret (v := .agg #[.int .i64 u.a.base, .slice B1 u.a.digits.length d1, .int .i64 u.b.base, .slice B2 u.b.digits.length d2, .int .i64 u.s.base, .slice B3 u.s.digits.length d3, .int .i64 u.carry]) (by simp [results, Tryz.results46, go_sem, a1]) rfl ⟨u, B1, d1, B2, d2, B3, d3, rfl, hul, ?_⟩
    exact (D19.sel [2, 3, 4] 99 (by decide) (by decide)).mono (by omega)
  by_cases h4 : y = 4
  · subst h4
    go_wp2_with fail
    refine (digits_dr b _ 2 16 w4 D4.src (by omega) (by omega) (by omega) (by omega)).mono ?_; rintro e w5 ⟨A', c', ds, rfl, hdl, hdd, h5⟩
    have D5 := D4.add h5
    clear h5 hdd
    obtain ⟨a1, a2, a3, x1, x2, x3, -⟩ := (D5.front 1 rfl).cells
    go_upto_region 13 with fail
    refine Code.wp.dr ((D5.front 1 rfl).st 5 (.slice A' 16 c')) ?_; intro w8 D8
    obtain ⟨u, B1, d1, B2, d2, B3, d3, hul, D9⟩ : ∃ (u : Tri) (B1 : Option Addr) (d1 : Nat) (B2 : Option Addr) (d2 : Nat) (B3 : Option Addr) (d3 : Nat), (u.a.digits.length ≤ 22 ∧ u.b.digits.length ≤ 22 ∧ u.s.digits.length ≤ 22) ∧ DR b (N + 290) w [.blk g [.int .i64 u.a.base, .slice B1 u.a.digits.length d1, .int .i64 u.b.base, .slice B2 u.b.digits.length d2, .int .i64 u.s.base, .slice B3 u.s.digits.length d3, .int .i64 u.carry] 28, rowI B3 d3 u.s.digits, rowI B2 d2 u.b.digits, rowI B1 d1 u.a.digits, .blk w.heap.size [.int .i64 0, .slice none 0 0, .int .i64 0, .slice none 0 0, .int .i64 0, .slice none 0 0, .int .i64 0] 28] w8 := by
      refine ⟨{ t with s := ⟨t.s.base, ds⟩ }, A1, c1, A2, c2, A', c', by simp only; omega, ?_⟩
      have h9 := (D8.sel [0, 1, 3, 4, 5] 99 (by decide) (by decide)).mono (M := N + 290) (by omega)
      show DR b _ w [.blk g [_, _, _, _, _, .slice A' ds.length c', _] _, _, _, _, _] w8
      rw [hdl]
      exact h9
    clear D8 D5 a1 a2 a3 x1 x2 x3
    clear D4 HV
    obtain ⟨a1, a2, a3, x1, x2, x3, -⟩ := D9.cells
    go_wp2_with fail
    refine bodyPost.dr ((((((((D9.front 4 rfl).st 0 (.int .i64 u.a.base)).st 1 (.slice B1 u.a.digits.length d1)).st 2 (.int .i64 u.b.base)).st 3 (.slice B2 u.b.digits.length d2)).st 4 (.int .i64 u.s.base)).st 5 (.slice B3 u.s.digits.length d3)).st 6 (.int .i64 u.carry)) ?_; intro w19 D19
    clear a1 a2 a3 x1 x2 x3
    obtain ⟨a1, a2, a3, -⟩ := D19.cells
    refine bodyPost_ret (v := .agg #[.int .i64 u.a.base, .slice B1 u.a.digits.length d1, .int .i64 u.b.base, .slice B2 u.b.digits.length d2, .int .i64 u.s.base, .slice B3 u.s.digits.length d3, .int .i64 u.carry]) (by simp [results, Tryz.results46, go_sem, a1]) rfl ⟨u, B1, d1, B2, d2, B3, d3, rfl, hul, ?_⟩
    exact (D19.sel [2, 3, 4] 99 (by decide) (by decide)).mono (by omega)
  have e0 : (y == 0) = false := by simp [h0]
  have e1 : (y == 1) = false := by simp [h1]
  have e2 : (y == 2) = false := by simp [h2]
  have e3 : (y == 3) = false := by simp [h3]
  have e4 : (y == 4) = false := by simp [h4]
  obtain ⟨w8, hw8⟩ : ∃ w8, w4 = w8 := ⟨_, rfl⟩
  rw [hw8] at D4 ⊢
  clear hw8
  obtain ⟨u, B1, d1, B2, d2, B3, d3, hul, D9⟩ : ∃ (u : Tri) (B1 : Option Addr) (d1 : Nat) (B2 : Option Addr) (d2 : Nat) (B3 : Option Addr) (d3 : Nat), (u.a.digits.length ≤ 22 ∧ u.b.digits.length ≤ 22 ∧ u.s.digits.length ≤ 22) ∧ DR b (N + 290) w [.blk g [.int .i64 u.a.base, .slice B1 u.a.digits.length d1, .int .i64 u.b.base, .slice B2 u.b.digits.length d2, .int .i64 u.s.base, .slice B3 u.s.digits.length d3, .int .i64 u.carry] 28, rowI B3 d3 u.s.digits, rowI B2 d2 u.b.digits, rowI B1 d1 u.a.digits, .blk w.heap.size [.int .i64 0, .slice none 0 0, .int .i64 0, .slice none 0 0, .int .i64 0, .slice none 0 0, .int .i64 0] 28] w8 := ⟨t, A1, c1, A2, c2, A3, c3, by omega, D4.mono (by omega)⟩
  clear D4 HV
  obtain ⟨a1, a2, a3, x1, x2, x3, -⟩ := D9.cells
  go_wp2_with fail
  refine bodyPost.dr ((((((((D9.front 4 rfl).st 0 (.int .i64 u.a.base)).st 1 (.slice B1 u.a.digits.length d1)).st 2 (.int .i64 u.b.base)).st 3 (.slice B2 u.b.digits.length d2)).st 4 (.int .i64 u.s.base)).st 5 (.slice B3 u.s.digits.length d3)).st 6 (.int .i64 u.carry)) ?_; intro w19 D19
  clear a1 a2 a3 x1 x2 x3
  obtain ⟨a1, a2, a3, -⟩ := D19.cells
  refine bodyPost_ret (v := .agg #[.int .i64 u.a.base, .slice B1 u.a.digits.length d1, .int .i64 u.b.base, .slice B2 u.b.digits.length d2, .int .i64 u.s.base, .slice B3 u.s.digits.length d3, .int .i64 u.carry]) (by simp [results, Tryz.results46, go_sem, a1]) rfl ⟨u, B1, d1, B2, d2, B3, d3, rfl, hul, ?_⟩
  exact (D19.sel [2, 3, 4] 99 (by decide) (by decide)).mono (by omega)
end Go.Proofs.YtkfbfainhmkkdaaGreat

namespace Go.Proofs.YtkfbfainhmkkdaaGreat
open Go.RowKit Go.Sort
/-- drawn values -/
def DVals (b M : Nat) (w : World) (e : Ending) (w' : World) : Prop := ∃ (A : Option Addr) (c : Nat) (us : List Int), e = .returned (.slice A us.length c) ∧ us.length ≤ 70 ∧ DR b M w [rowI A c us] w'
end Go.Proofs.YtkfbfainhmkkdaaGreat

namespace Go.Proofs.YtkfbfainhmkkdaaGreat
open Go.RowKit Go.Sort
end Go.Proofs.YtkfbfainhmkkdaaGreat

namespace Go.Proofs.YtkfbfainhmkkdaaGreat
open Go.RowKit Go.Sort
theorem DR.box7at {b N : Nat} {w wi : World} {m : List Ent} {g : Nat} {v0 v1 v2 v3 v4 v5 v6 : Value} {T : TypeId} (h : DR b N w m wi) (i : Nat) (hi : m[i]? = some (.blk g [v0, v1, v2, v3, v4, v5, v6] T)) :
    wi.cell? ⟨g, 0, none⟩ = some v0 ∧ wi.cell? ⟨g, 1, none⟩ = some v1 ∧ wi.cell? ⟨g, 2, none⟩ = some v2 ∧ wi.cell? ⟨g, 3, none⟩ = some v3 ∧ wi.cell? ⟨g, 4, none⟩ = some v4 ∧ wi.cell? ⟨g, 5, none⟩ = some v5 ∧ wi.cell? ⟨g, 6, none⟩ = some v6 := by
  obtain ⟨v, -, -, hK⟩ := h
  exact Go.Proofs.YtkfbfainhmkkdaaGreat.box7at hK i hi
end Go.Proofs.YtkfbfainhmkkdaaGreat

namespace Go.Proofs.YtkfbfainhmkkdaaGreat
open Go.RowKit Go.Sort
/-- a machine on which only the setting is not 0 -/
def freshT (t : Tri) (v : Int) : Tri := ⟨⟨t.a.base, digD t.a.base t.a.digits.length v⟩, ⟨t.a.base, digD t.a.base t.b.digits.length 0⟩, ⟨t.a.base, digD t.a.base t.s.digits.length 0⟩, 0⟩
set_option maxRecDepth 100000 in
set_option maxHeartbeats 1600000 in
theorem l12Fresh_any (g : Nat) (b : Int) (A1 A2 A3 : Option Addr) (n1 n2 n3 c1 c2 c3 : Nat) (v : Int) (w : World)
    (q1 : w.cell? ⟨g, 0, none⟩ = some (.int .i64 b)) (q2 : w.cell? ⟨g, 1, none⟩ = some (.slice A1 n1 c1)) (q4 : w.cell? ⟨g, 3, none⟩ = some (.slice A2 n2 c2)) (q6 : w.cell? ⟨g, 5, none⟩ = some (.slice A3 n3 c3))
    (b1 : 2 ≤ b) (b2 : b ≤ 16) (h1 : n1 ≤ 1000000) (h2 : n2 ≤ 1000000) (h3 : n3 ≤ 1000000) (v0 : 0 ≤ v) (v1 : v ≤ 9223372036854775807) :
    Calls Tryz.prog 62 #[.pointer (some ⟨g, 0, none⟩), .int .i64 v] w fun e w' => ∃ E1 g1 E2 g2 E3 g3, e = .returned (.agg #[.int .i64 b, .slice E1 (digD b n1 v).length g1, .int .i64 b, .slice E2 (digD b n2 0).length g2, .int .i64 b, .slice E3 (digD b n3 0).length g3, .int .i64 0]) ∧
      Kn w [rowI E3 g3 (digD b n3 0), rowI E2 g2 (digD b n2 0), rowI E1 g1 (digD b n1 v)] w' := by
  have hlt : g < w.heap.size := World.block_lt_of_cell? w _ q1
  have HP := Lib.hid (fun W (hW : Below w.heap.size w W) => (show W.cell? ⟨g, 0, none⟩ = some (.int .i64 b) ∧ W.cell? ⟨g, 1, none⟩ = some (.slice A1 n1 c1) ∧ W.cell? ⟨g, 3, none⟩ = some (.slice A2 n2 c2) ∧ W.cell? ⟨g, 5, none⟩ = some (.slice A3 n3 c3) from
    ⟨(hW.cell (p := ⟨g, 0, none⟩) hlt).trans q1, (hW.cell (p := ⟨g, 1, none⟩) hlt).trans q2, (hW.cell (p := ⟨g, 3, none⟩) hlt).trans q4, (hW.cell (p := ⟨g, 5, none⟩) hlt).trans q6⟩))
  have KN := (fun W => l10New_any b n1 n2 n3 W b1 b2 h1 h2 h3)
  have KV := (fun W => l02NewV_any b n1 v W b1 b2 h1 v0 v1)
  obtain ⟨x1, hx1⟩ : ∃ x, digD b n1 0 = x := ⟨_, rfl⟩
  obtain ⟨x2, hx2⟩ : ∃ x, digD b n2 0 = x := ⟨_, rfl⟩
  obtain ⟨x3, hx3⟩ : ∃ x, digD b n3 0 = x := ⟨_, rfl⟩
  obtain ⟨ds, hds⟩ : ∃ x, digD b n1 v = x := ⟨_, rfl⟩
  rw [hx1, hx2, hx3] at KN
  rw [hds] at KV
  rw [hx2, hx3, hds]
  have KN := Lib.hid KN
  have KV := Lib.hid KV
  clear hx1 hx2 hx3 hds q1 q2 q4 q6 hlt
  go_enter Tryz.func62, Tryz.ntmps62
  go_wp2_with fail
  have hK2 := (Kn.nil w).al [.int .i64 0, .slice none 0 0, .int .i64 0, .slice none 0 0, .int .i64 0, .slice none 0 0, .int .i64 0] 28
  generalize w.alloc (.cells #[.int .i64 0, .slice none 0 0, .int .i64 0, .slice none 0 0, .int .i64 0, .slice none 0 0, .int .i64 0] 28) = w2 at hK2 ⊢
  have HT := Lib.hid (HP.out _ hK2.drew.below)
  have HA := Lib.hid (HP.out _ (hK2.al [.int .i64 0, .slice none 0 0, .int .i64 0, .slice none 0 0, .int .i64 0, .slice none 0 0, .int .i64 0] 28).drew.below)
  have HS := HT
  go_cut [5] (fun pp wx => ∃ (g5 : Nat) (E1 : Option Addr) (g1 : Nat) (E2 : Option Addr) (g2 : Nat) (E3 : Option Addr) (g3 : Nat), pp = .pointer (some ⟨g5, 0, none⟩) ∧ Kn w [.blk g5 [.int .i64 b, .slice E1 x1.length g1, .int .i64 b, .slice E2 x2.length g2, .int .i64 b, .slice E3 x3.length g3, .int .i64 0] 28, rowI E3 g3 x3, rowI E2 g2 x2, rowI E1 g1 x1, .blk w.heap.size [.int .i64 0, .slice none 0 0, .int .i64 0, .slice none 0 0, .int .i64 0, .slice none 0 0, .int .i64 0] 28] wx)
  case first =>
    go_region_held3 (fun W => W.cell? ⟨g, 0, none⟩ = some (.int .i64 b) ∧ W.cell? ⟨g, 1, none⟩ = some (.slice A1 n1 c1) ∧ W.cell? ⟨g, 3, none⟩ = some (.slice A2 n2 c2) ∧ W.cell? ⟨g, 5, none⟩ = some (.slice A3 n3 c3))
      (first | with_reducible exact HT.out | with_reducible exact HA.out | with_reducible exact HS.out) (first
      | (go_at_call 109; (with_reducible refine (KN.out _).mono ?_); rintro e w4 ⟨E1, g1, E2, g2, E3, g3, rfl, hK⟩; clear HT HA; first
        | (have hK4 := hK2.drew.join hK; have HT := Lib.hid (HP.out _ hK4.below); have HA := Lib.hid (HP.out _ (hK4.al [.int .i64 0, .slice none 0 0, .int .i64 0, .slice none 0 0, .int .i64 0, .slice none 0 0, .int .i64 0] 28).below); have hK5 := hK4.al [.int .i64 b, .slice E1 x1.length g1, .int .i64 b, .slice E2 x2.length g2, .int .i64 b, .slice E3 x3.length g3, .int .i64 0] 28; have HS := Lib.hid (HP.out _ hK5.below))
        | (have hK4 := (hK2.al [.int .i64 0, .slice none 0 0, .int .i64 0, .slice none 0 0, .int .i64 0, .slice none 0 0, .int .i64 0] 28).drew.join hK; have HT := Lib.hid (HP.out _ hK4.below); obtain ⟨p1, p2, p3⟩ := hK4.drop.drop.drop.blkAt; have HA := HT; have hK5 := ((((((hK4.sw3.st 0 (.int .i64 b)).st 1 (.slice E1 x1.length g1)).st 2 (.int .i64 b)).st 3 (.slice E2 x2.length g2)).st 4 (.int .i64 b)).st 5 (.slice E3 x3.length g3)).st 6 (.int .i64 0); have HS := Lib.hid (HP.out _ hK5.below))))
    all_goals
      go_wp2_with fail
      go_meet
      exact ⟨_, _, _, _, _, _, _, rfl, hK5⟩
  case rest =>
    obtain ⟨g5, E1, g1, E2, g2, E3, g3, rfl, hK5⟩ := hcut
    clear HT HA HS hK2 KN
    go_wp2_with fail
    have HT := Lib.hid (HP.out _ hK5.drew.below)
    have HA := Lib.hid (HP.out _ (hK5.al [.int .i64 0, .slice none 0 0] 26).drew.below)
    have HS := HT
    go_cut [6] (fun pp wx => ∃ (g6 : Nat) (F : Option Addr) (f : Nat), pp = .pointer (some ⟨g6, 0, none⟩) ∧ Kn w [.blk g6 [.int .i64 b, .slice F ds.length f] 26, rowI F f ds, .blk g5 [.int .i64 b, .slice E1 x1.length g1, .int .i64 b, .slice E2 x2.length g2, .int .i64 b, .slice E3 x3.length g3, .int .i64 0] 28, rowI E3 g3 x3, rowI E2 g2 x2, rowI E1 g1 x1, .blk w.heap.size [.int .i64 0, .slice none 0 0, .int .i64 0, .slice none 0 0, .int .i64 0, .slice none 0 0, .int .i64 0] 28] wx)
    case first =>
      go_region_held3 (fun W => W.cell? ⟨g, 0, none⟩ = some (.int .i64 b) ∧ W.cell? ⟨g, 1, none⟩ = some (.slice A1 n1 c1) ∧ W.cell? ⟨g, 3, none⟩ = some (.slice A2 n2 c2) ∧ W.cell? ⟨g, 5, none⟩ = some (.slice A3 n3 c3))
        (first | with_reducible exact HT.out | with_reducible exact HA.out | with_reducible exact HS.out) (first
        | (go_at_call 110; (with_reducible refine (KV.out _).mono ?_); rintro e w4 ⟨F, f, rfl, hK⟩; clear HT HA; first
          | (have hK6 := hK5.drew.join hK; have HT := Lib.hid (HP.out _ hK6.below); have HA := Lib.hid (HP.out _ (hK6.al [.int .i64 0, .slice none 0 0] 26).below); have hK7 := hK6.al [.int .i64 b, .slice F ds.length f] 26; have HS := Lib.hid (HP.out _ hK7.below))
          | (have hK6 := (hK5.al [.int .i64 0, .slice none 0 0] 26).drew.join hK; have HT := Lib.hid (HP.out _ hK6.below); obtain ⟨p1, p2, p3⟩ := hK6.drop.blkAt; have HA := HT; have hK7 := (hK6.sw1.st 0 (.int .i64 b)).st 1 (.slice F ds.length f); have HS := Lib.hid (HP.out _ hK7.below))))
      all_goals
        go_wp2_with fail
        go_meet
        exact ⟨_, _, _, rfl, hK7⟩
    case rest =>
      obtain ⟨g6, F, f, rfl, hK7⟩ := hcut
      clear HT HA HS hK5 KV HP
      obtain ⟨a1, a2, a3, d1, d2, d3, c1', c2', c3', -⟩ := hK7.cells
      have ne1 := hK7.ne 2 6 rfl rfl (by decide)
      have ne2 := ne1.symm
      go_wp2_with fail
      refine bodyPost.kn ((((((((((hK7.front 2 rfl).st 0 (.int .i64 b)).st 1 (.slice F ds.length f)).front 6 rfl).st 0 (.int .i64 b)).st 1 (.slice F ds.length f)).st 2 (.int .i64 b)).st 3 (.slice E2 x2.length g2)).st 4 (.int .i64 b)).st 5 (.slice E3 x3.length g3) |>.st 6 (.int .i64 0)) ?_; intro w8 hK8
      clear a1 a2 a3 d1 d2 d3 c1' c2' c3'
      obtain ⟨a1, a2, a3, -⟩ := hK8.cells
      refine bodyPost_ret (v := .agg #[.int .i64 b, .slice F ds.length f, .int .i64 b, .slice E2 x2.length g2, .int .i64 b, .slice E3 x3.length g3, .int .i64 0]) (by simp [results, Tryz.results62, go_sem, a1]) rfl ⟨F, f, E2, g2, E3, g3, rfl, ?_⟩
      exact hK8.sel [4, 5, 3] 99 (by decide) (by decide)
end Go.Proofs.YtkfbfainhmkkdaaGreat

namespace Go.Proofs.YtkfbfainhmkkdaaGreat
open Go.RowKit Go.Sort
end Go.Proofs.YtkfbfainhmkkdaaGreat

namespace Go.Proofs.YtkfbfainhmkkdaaGreat
open Go.RowKit
end Go.Proofs.YtkfbfainhmkkdaaGreat

namespace Go.Proofs.YtkfbfainhmkkdaaGreat
open Go.RowKit Go.Sort
def lftT (left : Int) (t : Tri) : Int := lft3 left t.a.digits.length t.b.digits.length t.s.digits.length
def lftS : Int → List Tri → Int
  | left, [] => left
  | left, t :: ts => if lftT left t < 0 then -1 else lftS (lftT left t) ts
def szS (left : Int) (ts : List Tri) : Int := if left - ts.length < 0 then -1 else lftS (left - ts.length) ts
theorem lftT_bd (left : Int) (t : Tri) (h : -1 ≤ left) : -1 ≤ lftT left t ∧ lftT left t ≤ left := by
  unfold lftT lft3
  have b1 := lft_bd left t.a.digits.length h (by omega)
  have b2 := lft_bd _ t.b.digits.length b1.1 (by omega)
  have b3 := lft_bd _ t.s.digits.length b2.1 (by omega)
  split
  · omega
  · split <;> omega
theorem lftT_small {left : Int} {t : Tri} (hl : left ≤ 1048576) (h0 : -1 ≤ left) (h : ¬ lftT left t < 0) : t.a.digits.length ≤ 1048576 ∧ t.b.digits.length ≤ 1048576 ∧ t.s.digits.length ≤ 1048576 := by
  unfold lftT lft3 at h
  split at h
  · omega
  · rename_i k1
    split at h
    · omega
    · rename_i k2
      have b1 := lft_bd left t.a.digits.length h0 (by omega)
      have b2 := lft_bd _ t.b.digits.length b1.1 (by omega)
      unfold lft at h k1 k2 b1 b2
      refine ⟨?_, ?_, ?_⟩
      · split at k1 <;> omega
      · split at k2 <;> split at k2 <;> omega
      · split at h <;> split at h <;> split at h <;> omega
theorem lftS_small : ∀ (ts : List Tri) (left : Int), 0 ≤ left → left ≤ 1048576 → ¬ lftS left ts < 0 → ∀ t ∈ ts, t.a.digits.length ≤ 1048576 ∧ t.b.digits.length ≤ 1048576 ∧ t.s.digits.length ≤ 1048576
  | [], _, _, _, _ => fun t h => by cases h
  | t :: ts, left, h0, hl, h => by
    unfold lftS at h
    split at h
    · omega
    · rename_i k1
      have hb := lftT_bd left t (by omega)
      intro u hu
      rcases List.mem_cons.1 hu with rfl | hu
      · exact lftT_small hl (by omega) k1
      · exact lftS_small ts (lftT left t) (by omega) (by omega) h u hu
theorem szS_small {ts : List Tri} (h : ¬ szS 1048576 ts < 0) : ts.length ≤ 1048576 ∧ ∀ t ∈ ts, t.a.digits.length ≤ 1048576 ∧ t.b.digits.length ≤ 1048576 ∧ t.s.digits.length ≤ 1048576 := by
  unfold szS at h
  split at h
  · omega
  · exact ⟨by omega, lftS_small ts _ (by omega) (by omega) h⟩
theorem smallTri_of {t : Tri} (h : t.a.digits.length ≤ 1048576 ∧ t.b.digits.length ≤ 1048576 ∧ t.s.digits.length ≤ 1048576) : SmallTri t := by
  unfold SmallTri SmallReg; omega
end Go.Proofs.YtkfbfainhmkkdaaGreat

namespace Go.Proofs.YtkfbfainhmkkdaaGreat
open Go.RowKit Go.Sort
theorem ownI_ri {w : World} {base n c : Nat} {A : Option Addr} {ds : List Int} (h : OwnI w base (.slice A n c) ds) : RI w A n ds := by
  obtain ⟨A', c', h1, h2, -⟩ := h.reads
  injection h1 with h1 h3 h4
  rw [h1, h3]; exact h2
theorem row_below {w w' : World} {base : Nat} {e : TypeId} {size : Nat} {v : Value} {n : Nat} {xs : List Value} (h : w.ownsRow base e size v n xs) (hb : Below w.heap.size w w') : w'.ownsRow base e size v n xs := by
  refine ⟨h.1, ?_⟩
  rcases h.2 with hn | ⟨g, cap, cur, rfl, hbg, hg, rest⟩
  · exact .inl hn
  · exact .inr ⟨g, cap, cur, rfl, hbg, by rw [hb.block g (Array.getElem?_eq_some_iff.1 hg).1]; exact hg, rest⟩
/-- trial i in the cells xs of an own row, its digits in own rows from block b on -/
def TriX (w : World) (b : Nat) (xs : List Value) (i : Nat) (t : Tri) : Prop := ∃ X1 x1 X2 x2 X3 x3, (xs[i * 7]? = some (.int .i64 t.a.base) ∧ xs[i * 7 + 1]? = some (.slice X1 t.a.digits.length x1) ∧ xs[i * 7 + 2]? = some (.int .i64 t.b.base) ∧ xs[i * 7 + 3]? = some (.slice X2 t.b.digits.length x2) ∧
    xs[i * 7 + 4]? = some (.int .i64 t.s.base) ∧ xs[i * 7 + 5]? = some (.slice X3 t.s.digits.length x3) ∧ xs[i * 7 + 6]? = some (.int .i64 t.carry)) ∧ OwnI w b (.slice X1 t.a.digits.length x1) t.a.digits ∧ OwnI w b (.slice X2 t.b.digits.length x2) t.b.digits ∧ OwnI w b (.slice X3 t.s.digits.length x3) t.s.digits
theorem TriX.below {w w' : World} {b : Nat} {xs : List Value} {i : Nat} {t : Tri} (h : TriX w b xs i t) (hb : Below w.heap.size w w') : TriX w' b xs i t := by
  obtain ⟨X1, x1, X2, x2, X3, x3, h1, h2, h3, h4⟩ := h
  exact ⟨X1, x1, X2, x2, X3, x3, h1, h2.below hb, h3.below hb, h4.below hb⟩
theorem TriX.setBelow {w : World} {b : Nat} {xs : List Value} {i : Nat} {t : Tri} (h : TriX w b xs i t) {a : Addr} (ha : a.block < b) (u : Value) : TriX (w.setCell a u) b xs i t := by
  obtain ⟨X1, x1, X2, x2, X3, x3, h1, h2, h3, h4⟩ := h
  exact ⟨X1, x1, X2, x2, X3, x3, h1, h2.setBelow ha u, h3.setBelow ha u, h4.setBelow ha u⟩
theorem row7 {w : World} {g n k : Nat} {T : TypeId} {xs : List Value} (h : w.ownsRow g T 7 (.slice (some ⟨g, 0, none⟩) n n) n xs) (hk : k < n) :
    (∃ u, w.cell? ⟨g, k * 7, none⟩ = some u) ∧ (∃ u, w.cell? ⟨g, k * 7 + 1, none⟩ = some u) ∧ (∃ u, w.cell? ⟨g, k * 7 + 2, none⟩ = some u) ∧ (∃ u, w.cell? ⟨g, k * 7 + 3, none⟩ = some u) ∧ (∃ u, w.cell? ⟨g, k * 7 + 4, none⟩ = some u) ∧ (∃ u, w.cell? ⟨g, k * 7 + 5, none⟩ = some u) ∧ (∃ u, w.cell? ⟨g, k * 7 + 6, none⟩ = some u) := by
  have hl := h.1
  have H : ∀ j, j < n * 7 → ∃ u, w.cell? ⟨g, j, none⟩ = some u := fun j hj => ⟨xs[j]'(by omega), (h.cellAt j (by omega)).trans (List.getElem?_eq_getElem (by omega))⟩
  exact ⟨H _ (by omega), H _ (by omega), H _ (by omega), H _ (by omega), H _ (by omega), H _ (by omega), H _ (by omega)⟩
def set7 (xs : List Value) (o : Nat) (v0 v1 v2 v3 v4 v5 v6 : Value) : List Value := ((((((xs.set o v0).set (o + 1) v1).set (o + 2) v2).set (o + 3) v3).set (o + 4) v4).set (o + 5) v5).set (o + 6) v6
theorem set7_ne {xs : List Value} {o i : Nat} {v0 v1 v2 v3 v4 v5 v6 : Value} (h : i < o) : (set7 xs o v0 v1 v2 v3 v4 v5 v6)[i]? = xs[i]? := by
  unfold set7
  rw [List.getElem?_set_ne (by omega), List.getElem?_set_ne (by omega), List.getElem?_set_ne (by omega), List.getElem?_set_ne (by omega), List.getElem?_set_ne (by omega), List.getElem?_set_ne (by omega), List.getElem?_set_ne (by omega)]
theorem set7_at {xs : List Value} {o : Nat} {v0 v1 v2 v3 v4 v5 v6 : Value} (h : o + 6 < xs.length) : (set7 xs o v0 v1 v2 v3 v4 v5 v6)[o]? = some v0 ∧ (set7 xs o v0 v1 v2 v3 v4 v5 v6)[o + 1]? = some v1 ∧ (set7 xs o v0 v1 v2 v3 v4 v5 v6)[o + 2]? = some v2 ∧ (set7 xs o v0 v1 v2 v3 v4 v5 v6)[o + 3]? = some v3 ∧
    (set7 xs o v0 v1 v2 v3 v4 v5 v6)[o + 4]? = some v4 ∧ (set7 xs o v0 v1 v2 v3 v4 v5 v6)[o + 5]? = some v5 ∧ (set7 xs o v0 v1 v2 v3 v4 v5 v6)[o + 6]? = some v6 := by
  unfold set7
  refine ⟨?_, ?_, ?_, ?_, ?_, ?_, ?_⟩ <;>
    (repeat rw [List.getElem?_set_ne (by omega)]) <;> rw [List.getElem?_set_self (by first | omega | (simp only [List.length_set]; omega))]
theorem stored7 {w : World} {g n : Nat} {T : TypeId} {xs : List Value} (h : w.ownsRow g T 7 (.slice (some ⟨g, 0, none⟩) n n) n xs) (o : Nat) (v0 v1 v2 v3 v4 v5 v6 : Value) :
    (((((((w.setCell ⟨g, o, none⟩ v0).setCell ⟨g, o + 1, none⟩ v1).setCell ⟨g, o + 2, none⟩ v2).setCell ⟨g, o + 3, none⟩ v3).setCell ⟨g, o + 4, none⟩ v4).setCell ⟨g, o + 5, none⟩ v5).setCell ⟨g, o + 6, none⟩ v6).ownsRow g T 7 (.slice (some ⟨g, 0, none⟩) n n) n (set7 xs o v0 v1 v2 v3 v4 v5 v6) :=
  ((((((((h.stored o v0).1.stored (o + 1) v1).1.stored (o + 2) v2).1.stored (o + 3) v3).1.stored (o + 4) v4).1.stored (o + 5) v5).1.stored (o + 6) v6)).1
end Go.Proofs.YtkfbfainhmkkdaaGreat

namespace Go.Proofs.YtkfbfainhmkkdaaGreat
open Go.RowKit Go.Sort
/-- numbers were stored into blocks of P -/
inductive Marks (P : Nat → Prop) : World → World → Prop
  | refl (w : World) : Marks P w w
  | step {w w' : World} {b : Nat} (h : Marks P w w') (hb : P b) (j : Nat) (u : Int) : Marks P w (w'.setCell ⟨b, j, none⟩ (.int .i64 u))
theorem Marks.trans {P : Nat → Prop} {a b c : World} (h1 : Marks P a b) (h2 : Marks P b c) : Marks P a c := by
  induction h2 with
  | refl => exact h1
  | step _ hb j u ih => exact ih.step hb j u
theorem Marks.weaken {P Q : Nat → Prop} {a b : World} (h : Marks P a b) (hq : ∀ k, P k → Q k) : Marks Q a b := by
  induction h with
  | refl => exact .refl _
  | step _ hb j u ih => exact ih.step (hq _ hb) j u
theorem Marks.under {P : Nat → Prop} {B : Nat} {a w w' : World} (h : Marks P w w') (hb : Below B a w) (hP : ∀ k, P k → B ≤ k) : Below B a w' := by
  induction h with
  | refl => exact hb
  | step _ hk j u ih => exact ih.setCell (hP _ hk) _
theorem Marks.size {P : Nat → Prop} {w w' : World} (h : Marks P w w') : w'.heap.size = w.heap.size := by
  induction h with
  | refl => rfl
  | step _ hk j u ih => rw [← ih]; simp [World.setCell]
theorem Marks.block {P : Nat → Prop} {w w' : World} (h : Marks P w w') {k : Nat} (hk : ¬ P k) : w'.heap[k]? = w.heap[k]? := by
  induction h with
  | refl => rfl
  | step _ hb j u ih => rw [← ih]; exact heap_setCell_other _ _ k _ (fun e => hk (by rw [e]; exact hb))
theorem map_set_int (ds : List Int) (j : Nat) (u : Int) : (ds.map (Value.int .i64)).set j (.int .i64 u) = (ds.set j u).map (Value.int .i64) := by
  rw [List.map_set]
theorem OwnI.setAny {w : World} {base : Nat} {v : Value} {ds : List Int} (h : OwnI w base v ds) (b j : Nat) (u : Int) : ∃ ds', ds'.length = ds.length ∧ OwnI (w.setCell ⟨b, j, none⟩ (.int .i64 u)) base v ds' := by
  have h' := h
  rcases h.2 with ⟨rfl, hn⟩ | ⟨g, cap, cur, rfl, hb, hg, rest⟩
  · exact ⟨ds, rfl, by simp [hn], .inl ⟨rfl, hn⟩⟩
  · by_cases hgb : g = b
    · subst hgb
      refine ⟨ds.set j u, by simp, ?_⟩
      have hs := (World.ownsRow.stored h j (.int .i64 u)).1
      rw [map_set_int] at hs
      unfold OwnI
      rw [List.length_set]
      exact hs
    · refine ⟨ds, rfl, h.1, .inr ⟨g, cap, cur, rfl, hb, ?_, rest⟩⟩
      rw [heap_setCell_other _ _ _ _ (by simpa using hgb)]
      exact hg
theorem Marks.ownI {P : Nat → Prop} {w w' : World} (h : Marks P w w') {base : Nat} {v : Value} {ds : List Int} (ho : OwnI w base v ds) : ∃ ds', ds'.length = ds.length ∧ OwnI w' base v ds' := by
  induction h with
  | refl => exact ⟨ds, rfl, ho⟩
  | step _ hb j u ih =>
    obtain ⟨d1, l1, o1⟩ := ih
    obtain ⟨d2, l2, o2⟩ := o1.setAny _ j u
    exact ⟨d2, l2.trans l1, o2⟩
/-- k, k + 1, .. -/
def upto (k : Int) (n : Nat) : List Int := (List.range n).map (fun (i : Nat) => k + (i : Int))
theorem upto_len (k : Int) (n : Nat) : (upto k n).length = n := by simp [upto]
theorem upto_get (k : Int) {n i : Nat} (h : i < n) : (upto k n)[i]? = some (k + i) := by simp [upto, h]
/-- the first j are marked -/
def marked (k : Int) (ds : List Int) (j : Nat) : List Int := upto k j ++ ds.drop j
theorem marked_len (k : Int) (ds : List Int) {j : Nat} (h : j ≤ ds.length) : (marked k ds j).length = ds.length := by simp [marked, upto_len]; omega
theorem marked_set (k : Int) (ds : List Int) {j : Nat} (h : j < ds.length) : (marked k ds j).set j (k + j) = marked k ds (j + 1) := by
  unfold marked
  rw [List.set_append_right _ _ (by rw [upto_len]; exact Nat.le_refl _), upto_len, Nat.sub_self, List.drop_eq_getElem_cons h, List.set_cons_zero]
  simp [upto, List.range_succ]
end Go.Proofs.YtkfbfainhmkkdaaGreat

namespace Go.Proofs.YtkfbfainhmkkdaaGreat
open Go.RowKit Go.Sort
theorem Marks.chg {P : Nat → Prop} {w w' : World} (h : Marks P w w') : Chg P w w' := by
  induction h with
  | refl => exact ⟨rfl, rfl, rfl, Nat.le_refl _, fun _ _ _ => rfl⟩
  | step h hb j u ih =>
    refine ⟨ih.os, ih.tape, ih.output, Nat.le_trans ih.size (by simp [World.setCell]), fun k hk hn => ?_⟩
    rw [Below.heap_setCell _ _ _ _ (fun e => hn (by rw [e]; exact hb))]
    exact ih.block k hk hn
def rowN (A : Option Addr) (n c : Nat) (ds : List Int) : Ent := .row (.slice A n c) 2 1 n (ds.map (Value.int .i64))
theorem Kn.marks {w0 w w' : World} {m : List Ent} {A : Option Addr} {n c : Nat} {ds ds' : List Int} (h : Kn w0 (rowN A n c ds :: m) w) (hm : Marks (fun b => (Value.slice A n c).ownBlock = some b) w w') (ho : OwnI w' 0 (.slice A n c) ds') (hl : ds'.length = n) : Kn w0 (rowN A n c ds' :: m) w' := by
  subst hl
  exact h.upd (e' := rowN A ds'.length c ds') hm.chg ho (fun k hk => .inl hk)
theorem Kn.ownN {w0 w : World} {m : List Ent} {A : Option Addr} {n c : Nat} {ds : List Int} (h : Kn w0 (rowN A n c ds :: m) w) : OwnI w 0 (.slice A n c) ds ∧ ds.length = n := by
  have h1 : w.ownsRow 0 2 1 (.slice A n c) n (ds.map (Value.int .i64)) := h.at0
  have h2 := h1.1
  rw [List.length_map, Nat.mul_one] at h2
  subst h2
  exact ⟨h1, rfl⟩
theorem Kn.riN {w0 w : World} {m : List Ent} {A : Option Addr} {n c : Nat} {ds : List Int} (h : Kn w0 (rowN A n c ds :: m) w) : RI w A n ds := h.ownN.1.ri
theorem Kn.tail3 {w0 w : World} {m : List Ent} {a b c d : Ent} (h : Kn w0 (a :: b :: c :: d :: m) w) : Kn w0 (b :: c :: d :: a :: m) w := h.perm (List.perm_middle (a := a) (l₁ := [b, c, d]) (l₂ := m)).symm
theorem Kn.rot3 {w0 w : World} {m : List Ent} {b c d : Ent} (h : Kn w0 (b :: c :: d :: m) w) : Kn w0 (c :: d :: b :: m) w := h.perm (List.perm_middle (a := b) (l₁ := [c, d]) (l₂ := m)).symm
theorem Kn.addN {w0 w w' : World} {m : List Ent} {A : Option Addr} {n c : Nat} {ds : List Int} (h : Kn w0 m w) (hb : Below w.heap.size w w') (ho : OwnI w' w.heap.size (.slice A n c) ds) (hl : ds.length = n) : Kn w0 (rowN A n c ds :: m) w' := by
  subst hl
  exact h.addI hb ho
theorem lf_small {left n : Int} (h : ¬ lft left n < 0) (hl : left ≤ 1048576) : n ≤ 1048576 := by unfold lft at h; split at h <;> omega
theorem lf3_small {n1 n2 n3 : Int} (p1 : 0 ≤ n1) (p2 : 0 ≤ n2) (_p3 : 0 ≤ n3) (h : ¬ lft3 1048576 n1 n2 n3 < 0) : n1 ≤ 1048576 ∧ n2 ≤ 1048576 ∧ n3 ≤ 1048576 := by
  unfold lft3 at h
  split at h
  · omega
  · rename_i k1
    split at h
    · omega
    · rename_i k2
      have h1 := lf_small k1 (Int.le_refl _)
      have b1 := lft_bd 1048576 n1 (by omega) p1
      have h2 := lf_small k2 b1.2
      have b2 := lft_bd _ n2 b1.1 p2
      have h3 := lf_small h (by omega)
      exact ⟨h1, h2, h3⟩
theorem lf3_lo (n1 n2 n3 : Int) (p1 : 0 ≤ n1) (p2 : 0 ≤ n2) (p3 : 0 ≤ n3) : lft3 1048576 n1 n2 n3 ≤ 1048576 ∧ -1 ≤ lft3 1048576 n1 n2 n3 := by
  unfold lft3
  have b1 := lft_bd 1048576 n1 (by omega) p1
  have b2 := lft_bd _ n2 b1.1 p2
  have b3 := lft_bd _ n3 b2.1 p3
  split
  · omega
  · split <;> omega
end Go.Proofs.YtkfbfainhmkkdaaGreat

namespace Go.Proofs.YtkfbfainhmkkdaaGreat
open Go.RowKit Go.Sort
def dvStart (t : Tri) (x y : Int) : Tri := ⟨⟨t.a.base, digD t.a.base t.a.digits.length y⟩, ⟨t.b.base, digD t.b.base t.b.digits.length x⟩, ⟨t.s.base, digD t.s.base t.s.digits.length 0⟩, 0⟩
def dvC (t : Tri) (x y : Int) : Int :=
  if vmach t = false then 1 else if betB x 0 (pw t.b.base t.b.digits.length - 1) = false then 2 else if betB y 1 (pw t.a.base t.a.digits.length - 1) = false then 2 else if pw t.a.base (vplaces t).toNat ≤ x.tdiv y then 5 else 0
noncomputable def dvEnd (t : Tri) (x y : Int) : RS := endR (divProg (vplaces t).toNat) (dvStart t x y)
noncomputable def dvQ (t : Tri) (x y : Int) : Int := if dvC t x y = 0 then (pw t.s.base t.s.digits.length - valL (dvEnd t x y).m.s.base (dvEnd t x y).m.s.digits).tmod (pw t.s.base t.s.digits.length) else 0
noncomputable def dvR (t : Tri) (x y : Int) : Int := if dvC t x y = 0 then valL (dvEnd t x y).m.b.base (dvEnd t x y).m.b.digits else 0
noncomputable def dvN (t : Tri) (x y : Int) : Int := if dvC t x y = 0 then ((dvEnd t x y).tr.length : Int) else 0
def DVRet (t : Tri) (x y : Int) (w : World) (e : Ending) (w' : World) : Prop := e = .returned (.tuple #[.int .i64 (dvQ t x y), .int .i64 (dvR t x y), .int .i64 (dvN t x y), .int .i64 (dvC t x y)]) ∧ Below w.heap.size w w'
theorem dv_code {t : Tri} {x y c : Int} (h : dvC t x y = c) (hc : ¬ c = 0) : dvQ t x y = 0 ∧ dvR t x y = 0 ∧ dvN t x y = 0 ∧ dvC t x y = c := by
  refine ⟨?_, ?_, ?_, h⟩
  · unfold dvQ; rw [h, if_neg hc]
  · unfold dvR; rw [h, if_neg hc]
  · unfold dvN; rw [h, if_neg hc]
theorem dv_fine {t : Tri} {x y : Int} (h : dvC t x y = 0) {s : RS} {b : Bool} (he : Ev (divProg (vplaces t).toNat) (.run 0 (divProg (vplaces t).toNat).length) (startR (dvStart t x y)) s b) :
    dvQ t x y = (pw t.s.base t.s.digits.length - valL s.m.s.base s.m.s.digits).tmod (pw t.s.base t.s.digits.length) ∧ dvR t x y = valL s.m.b.base s.m.b.digits ∧ dvN t x y = (s.tr.length : Int) ∧ dvC t x y = 0 := by
  have h1 : dvEnd t x y = s := endR_eq he
  refine ⟨?_, ?_, ?_, h⟩
  · unfold dvQ; rw [h, h1, if_pos rfl]
  · unfold dvR; rw [h, h1, if_pos rfl]
  · unfold dvN; rw [h, h1, if_pos rfl]
theorem dvStart_ok {t : Tri} {x y : Int} (hv : vmach t = true) (hx : betB x 0 (pw t.b.base t.b.digits.length - 1) = true) (hy : betB y 1 (pw t.a.base t.a.digits.length - 1) = true) : vmach (dvStart t x y) = true := by
  obtain ⟨k1, k2, k3, e1, e2, f1, f2, l1, p0, p1⟩ := vmach_all hv
  obtain ⟨⟨b1, b2⟩, ⟨n1, n2⟩, -⟩ := vreg_iff.1 k1
  obtain ⟨⟨b3, b4⟩, ⟨n3, n4⟩, -⟩ := vreg_iff.1 k2
  obtain ⟨⟨b5, b6⟩, ⟨n5, n6⟩, -⟩ := vreg_iff.1 k3
  have hx' := betB_iff.1 hx
  have hy' := betB_iff.1 hy
  have hm := pw_mono t.a.base (by omega) _ _ l1
  rw [← e1] at f1
  rw [← e1] at hx'
  refine vmach_mk (t := dvStart t x y) (digD_vreg _ b1 b2 _ (by omega) (by omega) y (by omega) (by omega) (by omega)) (digD_vreg _ b3 b4 _ (by omega) (by omega) x (by omega) (by rw [← e1]; omega) (by omega)) (zero_ok k3) e1 e2 ?_ ?_ ?_ (by simp [dvStart]) ?_
  · simp only [dvStart, digD_len]; rw [← e1]; exact f1
  · simp only [dvStart, digD_len]; exact f2
  · simp only [dvStart, digD_len]; exact l1
  · simp only [dvStart, vplaces, digD_len]; unfold vplaces at p1; omega
theorem vplaces_bd {t : Tri} (hv : vmach t = true) : 1 ≤ (vplaces t).toNat ∧ (vplaces t).toNat ≤ 16 ∧ ((vplaces t).toNat : Int) = vplaces t ∧ pw t.a.base (vplaces t).toNat ≤ 1000000000001 ∧ 1 ≤ pw t.a.base (vplaces t).toNat := by
  obtain ⟨k1, k2, k3, e1, e2, f1, f2, l1, p0, p1⟩ := vmach_all hv
  obtain ⟨⟨b1, b2⟩, ⟨n1, n2⟩, -⟩ := vreg_iff.1 k1
  obtain ⟨-, ⟨n5, n6⟩, -⟩ := vreg_iff.1 k3
  have h1 : vplaces t ≤ t.s.digits.length := by unfold vplaces; omega
  have hm := pw_mono t.a.base b1 (vplaces t).toNat t.s.digits.length (by omega)
  rw [e2] at f2
  rw [← e1] at f2
  exact ⟨by omega, by omega, by omega, by omega, pw_pos _ b1 _⟩
end Go.Proofs.YtkfbfainhmkkdaaGreat

namespace Go.Proofs.YtkfbfainhmkkdaaGreat
open Go.RowKit Go.Sort
/-! the division, plainly: what the program that divides leaves -/
/-- a machine with values -/
def mchV (b : Int) (n1 n2 n3 : Nat) (y R N c : Int) : Tri := ⟨⟨b, digD b n1 y⟩, ⟨b, digD b n2 R⟩, ⟨b, digD b n3 N⟩, c⟩
structure DvOk (b : Int) (n1 n2 n3 : Nat) (y : Int) : Prop where
  b2 : 2 ≤ b
  y0 : 0 ≤ y
  y1 : y < pw b n1
  p1 : pw b n1 ≤ 1000000000001
  p2 : pw b n2 ≤ 1000000000001
  p3 : pw b n3 ≤ 1000000000001
theorem valL_dig {b : Int} {n : Nat} {v : Int} (hb : 2 ≤ b) (hp : pw b n ≤ 1000000000001) (h0 : 0 ≤ v) (h1 : v < pw b n) : valL b (digD b n v) = v := valL_digD b hb n v h0 h1 (by omega)
theorem turn_mch {b : Int} {n1 n2 n3 : Nat} {y : Int} (h : DvOk b n1 n2 n3 y) {R N c : Int} (hR : 0 ≤ R ∧ R < pw b n2) (hN : 0 ≤ N ∧ N < pw b n3) (sign u : Int) (hu : pw b c.toNat = u) :
    turnT (mchV b n1 n2 n3 y R N c) sign = (mchV b n1 n2 n3 y ((R + sign * (y * u)) % pw b n2) ((N + sign * u) % pw b n3) c, decide (R + sign * (y * u) < 0) || decide (pw b n2 ≤ R + sign * (y * u))) := by
  have q1 := pw_pos b h.b2 n2
  have q2 := pw_pos b h.b2 n3
  simp only [turnT, mchV, shiftD, shiftB, digD_len, hu, valL_dig h.b2 h.p1 h.y0 h.y1, valL_dig h.b2 h.p2 hR.1 hR.2, valL_dig h.b2 h.p3 hN.1 hN.2]
  rw [tmod_wrap _ _ (by omega), tmod_wrap _ _ (by omega)]
/-- one stroke as a program's part -/
theorem run_one {L : List Ins} {i tt : Nat} (hi : i < tt) (hl : i < L.length) {op : Int} (hL : L[i] = ⟨op, 1⟩) (ho : opens op = false) (h1 : ¬ op = 1) {s s' : RS} {b' : Bool} (hc : s.code = 0) (hd : s.done < 3000) {r : Tri × Bool} (hr : strokeT (op - 1) s.m = r)
    (he : Ev L (.run (i + 1) tt) ⟨r.1, s.tr ++ [op - 1], s.done + 1, 0⟩ s' b') : Ev L (.run i tt) s s' (r.2 || b') := by
  have e1 : (L[i]).op = op := by rw [hL]
  have e2 : (L[i]).arg = 1 := by rw [hL]
  have hs : Ev L (.str ((L[i]).op - 1) (max 1 (L[i]).arg).toNat) s ⟨r.1, s.tr ++ [op - 1], s.done + 1, 0⟩ (r.2 || false) := by
    rw [e1, e2]
    have := @Ev.sStep L (op - 1) 0 s ⟨r.1, s.tr ++ [op - 1], s.done + 1, 0⟩ false (by omega) (by rw [hr]; exact Ev.s0)
    rw [hr] at this
    exact this
  have := Ev.rStr hi hl hc (by rw [e1]; exact ho) (by rw [e1]; exact h1) hs he
  simpa using this
theorem dv_loop {L : List Ins} {b : Int} {n1 n2 n3 : Nat} {y : Int} (h : DvOk b n1 n2 n3 y) {c u : Int} (hu : pw b c.toNat = u) {i : Nat} (hl1 : i + 1 < L.length) (hL1 : L[i + 1] = ⟨3, 1⟩) (hD : 0 ≤ y * u) :
    ∀ (q : Nat) (R N : Int) (tr : List Int) (dn k : Nat), 0 ≤ R → R < pw b n2 → 0 ≤ N → N < pw b n3 → (q : Int) * (y * u) ≤ R → R < ((q : Int) + 1) * (y * u) → dn + 2 * (q + 1) ≤ 3000 →
      ∃ tr', Ev L (.loop 9 0 (i + 1) (i + 2) k) ⟨mchV b n1 n2 n3 y R N c, tr, dn, 0⟩ ⟨mchV b n1 n2 n3 y ((R - ((q : Int) + 1) * (y * u)) % pw b n2) ((N - ((q : Int) + 1) * u) % pw b n3) c, tr', dn + 2 * (q + 1), 0⟩ false
  | 0, R, N, tr, dn, k, h0, h1, h2, h3, h4, h5, h6 => by
    have ht := turn_mch h (R := R) (N := N) ⟨h0, h1⟩ ⟨h2, h3⟩ (-1) u hu
    refine ⟨tr ++ [2], ?_⟩
    have hb : R + -1 * (y * u) < 0 := by simp at h5; omega
    have hst : strokeT 2 (mchV b n1 n2 n3 y R N c) = (mchV b n1 n2 n3 y ((R + -1 * (y * u)) % pw b n2) ((N + -1 * u) % pw b n3) c, true) := by
      rw [show strokeT 2 (mchV b n1 n2 n3 y R N c) = turnT (mchV b n1 n2 n3 y R N c) (-1) from rfl, ht, decide_eq_true hb, Bool.true_or]
    have hrun := run_one (L := L) (i := i + 1) (tt := i + 2) (by omega) hl1 hL1 rfl (by decide) (s := ⟨mchV b n1 n2 n3 y R N c, tr, dn + 1, 0⟩) rfl (by show dn + 1 < 3000; omega) hst (Ev.rEnd (by omega))
    have := Ev.lOut (L := L) (op := 9) (arg := 0) (i := i + 1) (e := i + 2) (k := k) (s := ⟨mchV b n1 n2 n3 y R N c, tr, dn, 0⟩) (by omega) (by show ¬ dn = 3000; omega) hrun (.inr ⟨rfl, rfl⟩)
    simpa [Int.sub_eq_add_neg] using this
  | q + 1, R, N, tr, dn, k, h0, h1, h2, h3, h4, h5, h6 => by
    have ht := turn_mch h (R := R) (N := N) ⟨h0, h1⟩ ⟨h2, h3⟩ (-1) u hu
    have q1 := pw_pos b h.b2 n3
    have m1 : ((q + 1 : Nat) : Int) * (y * u) = (q : Int) * (y * u) + y * u := by rw [Int.natCast_succ, Int.add_mul, Int.one_mul]
    have m2 : (((q + 1 : Nat) : Int) + 1) * (y * u) = ((q : Int) + 1) * (y * u) + y * u := by rw [Int.natCast_succ, Int.add_mul, Int.one_mul]
    have m3 : ((q : Int) + 1) * (y * u) = (q : Int) * (y * u) + y * u := by rw [Int.add_mul, Int.one_mul]
    have hqD : 0 ≤ (q : Int) * (y * u) := Int.mul_nonneg (by omega) hD
    have hb : ¬ R + -1 * (y * u) < 0 := by omega
    have hb2 : ¬ pw b n2 ≤ R + -1 * (y * u) := by omega
    have hst : strokeT 2 (mchV b n1 n2 n3 y R N c) = (mchV b n1 n2 n3 y (R - y * u) ((N + -1 * u) % pw b n3) c, false) := by
      rw [show strokeT 2 (mchV b n1 n2 n3 y R N c) = turnT (mchV b n1 n2 n3 y R N c) (-1) from rfl, ht, decide_eq_false hb, decide_eq_false hb2, Int.emod_eq_of_lt (by omega) (by omega), show R + -1 * (y * u) = R - y * u by omega]
      rfl
    have hrun := run_one (L := L) (i := i + 1) (tt := i + 2) (by omega) hl1 hL1 rfl (by decide) (s := ⟨mchV b n1 n2 n3 y R N c, tr, dn + 1, 0⟩) rfl (by show dn + 1 < 3000; omega) hst (Ev.rEnd (by omega))
    obtain ⟨tr', hev⟩ := dv_loop h hu hl1 hL1 hD q (R - y * u) ((N + -1 * u) % pw b n3) (tr ++ [2]) (dn + 2) (k + 1) (by omega) (by omega) (Int.emod_nonneg _ (by omega)) (Int.emod_lt_of_pos _ (by omega)) (by omega) (by omega) (by omega)
    refine ⟨tr', ?_⟩
    have e1 : (R - y * u - ((q : Int) + 1) * (y * u)) % pw b n2 = (R - (((q + 1 : Nat) : Int) + 1) * (y * u)) % pw b n2 := by congr 1; omega
    have e2 : ((N + -1 * u) % pw b n3 - ((q : Int) + 1) * u) % pw b n3 = (N - (((q + 1 : Nat) : Int) + 1) * u) % pw b n3 := by
      rw [Int.sub_eq_add_neg, Int.emod_add_emod]
      congr 1
      rw [Int.natCast_succ, Int.add_mul ((q : Int) + 1) 1 u]; omega
    rw [e1, e2, show dn + 2 + 2 * (q + 1) = dn + 2 * (q + 1 + 1) by omega] at hev
    exact Ev.lStep (L := L) (op := 9) (arg := 0) (i := i + 1) (e := i + 2) (k := k) (s := ⟨mchV b n1 n2 n3 y R N c, tr, dn, 0⟩) (by omega) (by show ¬ dn = 3000; omega) hrun ⟨rfl, by simp⟩ hev
theorem right_str {L : List Ins} {b : Int} {n1 n2 n3 : Nat} {y R N : Int} {p : Int} (hp : ∀ c, vplaces (mchV b n1 n2 n3 y R N c) = p) :
    ∀ (n : Nat) (c : Int) (tr : List Int) (dn : Nat), 0 ≤ c → c + n ≤ p - 1 → dn + n ≤ 3000 →
      ∃ tr', Ev L (.str 3 n) ⟨mchV b n1 n2 n3 y R N c, tr, dn, 0⟩ ⟨mchV b n1 n2 n3 y R N (c + n), tr', dn + n, 0⟩ false
  | 0, c, tr, dn, _, _, _ => ⟨tr, by simpa using Ev.s0⟩
  | n + 1, c, tr, dn, h0, h1, h2 => by
    have hst : strokeT 3 (mchV b n1 n2 n3 y R N c) = (mchV b n1 n2 n3 y R N (c + 1), false) := by
      have : ¬ (mchV b n1 n2 n3 y R N c).carry + 1 = vplaces (mchV b n1 n2 n3 y R N c) := by rw [hp]; show ¬ c + 1 = p; omega
      unfold strokeT
      rw [if_neg (by decide), if_neg (by decide), if_pos rfl, if_neg this]; rfl
    obtain ⟨tr', hev⟩ := right_str hp n (c + 1) (tr ++ [3]) (dn + 1) (by omega) (by omega) (by omega)
    refine ⟨tr', ?_⟩
    rw [show c + 1 + (n : Int) = c + ((n + 1 : Nat) : Int) by omega, show dn + 1 + n = dn + (n + 1) by omega] at hev
    have := @Ev.sStep L 3 n ⟨mchV b n1 n2 n3 y R N c, tr, dn, 0⟩ _ false (by show ¬ dn = 3000; omega) (by rw [hst]; exact hev)
    rw [hst] at this
    exact this
/-- where the parts of the program lie -/
def offP (p : Nat) : Nat := if 1 < p then 1 else 0
theorem div_shape : ∀ p : Fin 17, ∀ j : Fin 17, j.val < p.val → (divProg p.val).length = offP p.val + 5 * p.val - 1 ∧ (divProg p.val)[offP p.val + 5 * j.val]? = some ⟨9, 0⟩ ∧ (divProg p.val)[offP p.val + 5 * j.val + 1]? = some ⟨3, 1⟩ ∧ (divProg p.val)[offP p.val + 5 * j.val + 3]? = some ⟨2, 1⟩ ∧ (j.val + 1 < p.val → (divProg p.val)[offP p.val + 5 * j.val + 4]? = some ⟨5, 1⟩) ∧
    depA (divProg p.val) (offP p.val + 5 * j.val) = 0 ∧ depA (divProg p.val) (offP p.val + 5 * j.val + 1) = 1 ∧ depA (divProg p.val) (offP p.val + 5 * j.val + 2) = 1 ∧ depA (divProg p.val) (offP p.val + 5 * j.val + 3) = 0 := by decide +kernel
theorem div_match {p j : Nat} (hp : p ≤ 16) (hj : j < p) : IsMatch (divProg p) (offP p + 5 * j) (offP p + 5 * j + 2) := by
  obtain ⟨h1, h2, h3, h4, h5, d0, d1, d2, d3⟩ := div_shape ⟨p, by omega⟩ ⟨j, by omega⟩ hj
  simp only at h1 h2 h3 h4 h5 d0 d1 d2 d3
  refine ⟨by omega, by rw [h1]; omega, by rw [d3, d0], fun k hk1 hk2 => ?_⟩
  have : k = offP p + 5 * j + 1 ∨ k = offP p + 5 * j + 2 := by omega
  rcases this with rfl | rfl
  · rw [d0, d1]; decide
  · rw [d0, d2]; decide
theorem get_of {L : List Ins} {i : Nat} {x : Ins} (h : L[i]? = some x) : ∃ hl : i < L.length, L[i] = x := by
  obtain ⟨hl, e⟩ := List.getElem?_eq_some_iff.1 h
  exact ⟨hl, e⟩
theorem dv_place {b : Int} {n1 n2 n3 : Nat} {y : Int} (h : DvOk b n1 n2 n3 y) (hy : 1 ≤ y) {p j : Nat} (hp16 : p ≤ 16) (hj : j < p) {c u : Int} (hu : pw b c.toNat = u) (hu1 : 1 ≤ u) {q : Nat} {R N : Int} {tr : List Int} {dn : Nat}
    (h0 : 0 ≤ R) (h1 : R < pw b n2) (h2 : 0 ≤ N) (h3 : N < pw b n3) (h4 : (q : Int) * (y * u) ≤ R) (h5 : R < ((q : Int) + 1) * (y * u)) (h6 : dn + 2 * (q + 1) + 1 ≤ 3000) :
    ∃ tr', ∀ (s' : RS) (b' : Bool), Ev (divProg p) (.run (offP p + 5 * j + 4) (divProg p).length) ⟨mchV b n1 n2 n3 y (R - (q : Int) * (y * u)) ((N - (q : Int) * u) % pw b n3) c, tr', dn + 2 * (q + 1) + 1, 0⟩ s' b' →
      ∃ b'', Ev (divProg p) (.run (offP p + 5 * j) (divProg p).length) ⟨mchV b n1 n2 n3 y R N c, tr, dn, 0⟩ s' b'' := by
  obtain ⟨g1, g2, g3, g4, -⟩ := div_shape ⟨p, by omega⟩ ⟨j, by omega⟩ hj
  simp only at g1 g2 g3 g4
  obtain ⟨l0, e0⟩ := get_of g2
  obtain ⟨l1, e1⟩ := get_of g3
  obtain ⟨l3, e3⟩ := get_of g4
  have q1 := pw_pos b h.b2 n3
  have q2 := pw_pos b h.b2 n2
  have hD : 0 ≤ y * u := Int.mul_nonneg (by omega) (by omega)
  have hqD : 0 ≤ (q : Int) * (y * u) := Int.mul_nonneg (by omega) hD
  obtain ⟨tr1, hlp⟩ := dv_loop (L := divProg p) h hu l1 e1 hD q R N tr dn 0 h0 h1 h2 h3 h4 h5 (by omega)
  have ht := turn_mch h (c := c) (R := (R - ((q : Int) + 1) * (y * u)) % pw b n2) (N := (N - ((q : Int) + 1) * u) % pw b n3) ⟨Int.emod_nonneg _ (by omega), Int.emod_lt_of_pos _ (by omega)⟩ ⟨Int.emod_nonneg _ (by omega), Int.emod_lt_of_pos _ (by omega)⟩ 1 u hu
  have f1 : ((R - ((q : Int) + 1) * (y * u)) % pw b n2 + 1 * (y * u)) % pw b n2 = R - (q : Int) * (y * u) := by
    rw [Int.emod_add_emod, show R - ((q : Int) + 1) * (y * u) + 1 * (y * u) = R - (q : Int) * (y * u) by rw [Int.add_mul]; omega]
    exact Int.emod_eq_of_lt (by omega) (by omega)
  have f2 : ((N - ((q : Int) + 1) * u) % pw b n3 + 1 * u) % pw b n3 = (N - (q : Int) * u) % pw b n3 := by
    rw [Int.emod_add_emod, show N - ((q : Int) + 1) * u + 1 * u = N - (q : Int) * u by rw [Int.add_mul]; omega]
  rw [f1, f2] at ht
  refine ⟨tr1 ++ [1], fun s' b' he => ?_⟩
  have hst : strokeT (2 - 1) (mchV b n1 n2 n3 y ((R - ((q : Int) + 1) * (y * u)) % pw b n2) ((N - ((q : Int) + 1) * u) % pw b n3) c) = _ := ht
  have h7 := run_one (L := divProg p) (i := offP p + 5 * j + 3) (tt := (divProg p).length) l3 l3 e3 rfl (by decide) (s := ⟨mchV b n1 n2 n3 y ((R - ((q : Int) + 1) * (y * u)) % pw b n2) ((N - ((q : Int) + 1) * u) % pw b n3) c, tr1, dn + 2 * (q + 1), 0⟩) rfl (by show dn + 2 * (q + 1) < 3000; omega) hst he
  have hop : (divProg p)[offP p + 5 * j].op = 9 := by rw [e0]
  have har : (divProg p)[offP p + 5 * j].arg = 0 := by rw [e0]
  exact ⟨_, Ev.rLoop l0 l0 rfl (by rw [hop]; rfl) (div_match hp16 hj) (by rw [hop, har]; exact hlp) h7⟩
theorem dv_parts {b : Int} {n1 n2 n3 : Nat} {y x : Int} (h : DvOk b n1 n2 n3 y) (hb16 : b ≤ 16) (hy : 1 ≤ y) {p : Nat} (hp16 : p ≤ 16) :
    ∀ (r j : Nat) (R Q : Int) (tr : List Int) (dn : Nat), j + (r + 1) = p → 0 ≤ R → R < pw b n2 → R < y * pw b (r + 1) → x = Q * y + R → dn + 34 * (r + 1) ≤ 3000 →
      ∃ (R' Q' : Int) (s' : RS) (b' : Bool), Ev (divProg p) (.run (offP p + 5 * j) (divProg p).length) ⟨mchV b n1 n2 n3 y R ((-Q) % pw b n3) (r : Int), tr, dn, 0⟩ s' b' ∧ s'.code = 0 ∧ s'.m = mchV b n1 n2 n3 y R' ((-Q') % pw b n3) 0 ∧ 0 ≤ R' ∧ R' < y ∧ R' < pw b n2 ∧ x = Q' * y + R' := by
  intro r
  induction r with
  | zero =>
    intro j R Q tr dn hj h0 h1 h2 h3 h4
    obtain ⟨g1, -⟩ := div_shape ⟨p, by omega⟩ ⟨j, by omega⟩ (show j < p by omega)
    simp only at g1
    have q1 := pw_pos b h.b2 n3
    simp only [pw, Int.one_mul] at h2
    have hq0 : 0 ≤ R / y := Int.ediv_nonneg h0 (by omega)
    have hqb : R / y < b := Int.ediv_lt_of_lt_mul (by omega) (by rw [Int.mul_comm]; exact h2)
    obtain ⟨q, hq⟩ : ∃ q : Nat, R / y = q := ⟨(R / y).toNat, by omega⟩
    have hmd := Int.emod_add_mul_ediv R y
    have hm0 := Int.emod_nonneg R (show y ≠ 0 by omega)
    have hm1 := Int.emod_lt_of_pos R (show 0 < y by omega)
    rw [hq, Int.mul_comm] at hmd
    obtain ⟨tr1, hk⟩ := dv_place h hy hp16 (show j < p by omega) (c := 0) (u := 1) rfl (by omega) (q := q) (R := R) (N := (-Q) % pw b n3) (tr := tr) (dn := dn) h0 h1 (Int.emod_nonneg _ (by omega)) (Int.emod_lt_of_pos _ (by omega)) (by rw [Int.mul_one]; omega) (by rw [Int.mul_one, Int.add_mul, Int.one_mul]; omega) (by omega)
    obtain ⟨b'', hev⟩ := hk _ _ (Ev.rEnd (by rw [g1]; omega))
    refine ⟨R - (q : Int) * (y * 1), Q + q, _, _, hev, rfl, ?_, by rw [Int.mul_one]; omega, by rw [Int.mul_one]; omega, ?_, ?_⟩
    · have e1 : ((-Q) % pw b n3 - (q : Int) * 1) % pw b n3 = (-(Q + q)) % pw b n3 := by
        rw [Int.sub_eq_add_neg, Int.emod_add_emod]; congr 1; omega
      show mchV b n1 n2 n3 y _ (((-Q) % pw b n3 - (q : Int) * 1) % pw b n3) 0 = _
      rw [e1]
    · have hqy : 0 ≤ (q : Int) * y := Int.mul_nonneg (by omega) (by omega)
      rw [Int.mul_one]; omega
    · rw [Int.mul_one, Int.add_mul]; omega
  | succ r ih =>
    intro j R Q tr dn hj h0 h1 h2 h3 h4
    obtain ⟨g1, -, -, -, g5, -⟩ := div_shape ⟨p, by omega⟩ ⟨j, by omega⟩ (show j < p by omega)
    simp only at g1 g5
    obtain ⟨l4, e4⟩ := get_of (g5 (by omega))
    have q1 := pw_pos b h.b2 n3
    obtain ⟨u, hu⟩ : ∃ u, pw b (r + 1) = u := ⟨_, rfl⟩
    have hu1 : 1 ≤ u := by rw [← hu]; exact pw_pos b h.b2 _
    have hub : pw b (r + 1 + 1) = u * b := by rw [pw_succ, hu]
    have hD1 : y * 1 ≤ y * u := Int.mul_le_mul_of_nonneg_left hu1 (by omega)
    rw [Int.mul_one] at hD1
    rw [hub, ← Int.mul_assoc] at h2
    obtain ⟨D, hD⟩ : ∃ D, y * u = D := ⟨_, rfl⟩
    rw [hD] at h2 hD1
    have hq0 : 0 ≤ R / D := Int.ediv_nonneg h0 (by omega)
    have hqb : R / D < b := Int.ediv_lt_of_lt_mul (by omega) (by rw [Int.mul_comm]; exact h2)
    obtain ⟨q, hq⟩ : ∃ q : Nat, R / D = q := ⟨(R / D).toNat, by omega⟩
    have hmd := Int.emod_add_mul_ediv R D
    have hm0 := Int.emod_nonneg R (show D ≠ 0 by omega)
    have hm1 := Int.emod_lt_of_pos R (show 0 < D by omega)
    rw [hq, Int.mul_comm] at hmd
    have hqD : 0 ≤ (q : Int) * D := Int.mul_nonneg (by omega) (by omega)
    obtain ⟨tr1, hk⟩ := dv_place h hy hp16 (show j < p by omega) (c := ((r + 1 : Nat) : Int)) (u := u) (by rw [Int.toNat_natCast]; exact hu) hu1 (q := q) (R := R) (N := (-Q) % pw b n3) (tr := tr) (dn := dn) h0 h1 (Int.emod_nonneg _ (by omega)) (Int.emod_lt_of_pos _ (by omega)) (by rw [hD]; omega) (by rw [hD, Int.add_mul, Int.one_mul]; omega) (by omega)
    rw [hD] at hk
    have e1 : ((-Q) % pw b n3 - (q : Int) * u) % pw b n3 = (-(Q + q * u)) % pw b n3 := by
      rw [Int.sub_eq_add_neg, Int.emod_add_emod]; congr 1; omega
    rw [e1] at hk
    have hx : x = (Q + q * u) * y + (R - (q : Int) * D) := by
      rw [Int.add_mul, Int.mul_assoc, Int.mul_comm u y, hD]; omega
    obtain ⟨R', Q', s', b', hev, hc, hm, r0, r1, r2, hxx⟩ := ih (j + 1) (R - (q : Int) * D) (Q + q * u) (tr1 ++ [4]) (dn + 2 * (q + 1) + 1 + 1) (by omega) (by omega) (by omega) (by rw [hu, hD]; omega) hx (by omega)
    rw [show offP p + 5 * (j + 1) = offP p + 5 * j + 4 + 1 by omega] at hev
    have hst : strokeT (5 - 1) (mchV b n1 n2 n3 y (R - (q : Int) * D) ((-(Q + q * u)) % pw b n3) ((r + 1 : Nat) : Int)) = (mchV b n1 n2 n3 y (R - (q : Int) * D) ((-(Q + q * u)) % pw b n3) (r : Int), false) := by
      have hne : ¬ (mchV b n1 n2 n3 y (R - (q : Int) * D) ((-(Q + q * u)) % pw b n3) ((r + 1 : Nat) : Int)).carry = 0 := by show ¬ ((r + 1 : Nat) : Int) = 0; omega
      unfold strokeT
      rw [if_neg (by decide), if_neg (by decide), if_neg (by decide), if_pos (by decide), if_neg hne]
      show (mchV b n1 n2 n3 y (R - (q : Int) * D) ((-(Q + q * u)) % pw b n3) (((r + 1 : Nat) : Int) - 1), false) = _
      rw [show ((r + 1 : Nat) : Int) - 1 = (r : Int) by omega]
    have h7 := run_one (L := divProg p) (i := offP p + 5 * j + 4) (tt := (divProg p).length) l4 l4 e4 rfl (by decide) (s := ⟨mchV b n1 n2 n3 y (R - (q : Int) * D) ((-(Q + q * u)) % pw b n3) ((r + 1 : Nat) : Int), tr1, dn + 2 * (q + 1) + 1, 0⟩) rfl (by show dn + 2 * (q + 1) + 1 < 3000; omega) hst hev
    obtain ⟨b'', h8⟩ := hk _ _ h7
    exact ⟨R', Q', s', b'', h8, hc, hm, r0, r1, r2, hxx⟩
/-- the whole program -/
theorem dv_run {b : Int} {n1 n2 n3 : Nat} {y x : Int} (h : DvOk b n1 n2 n3 y) (hb16 : b ≤ 16) (hy : 1 ≤ y) {p : Nat} (hp1 : 1 ≤ p) (hp16 : p ≤ 16) (hpl : ∀ R N c, vplaces (mchV b n1 n2 n3 y R N c) = p) (hx0 : 0 ≤ x) (hx1 : x < pw b n2) (hxy : x < y * pw b p) :
    ∃ (R' Q' : Int) (s' : RS) (b' : Bool), Ev (divProg p) (.run 0 (divProg p).length) (startR (mchV b n1 n2 n3 y x 0 0)) s' b' ∧ s'.code = 0 ∧ s'.m = mchV b n1 n2 n3 y R' ((-Q') % pw b n3) 0 ∧ 0 ≤ R' ∧ R' < y ∧ R' < pw b n2 ∧ x = Q' * y + R' := by
  obtain ⟨r, rfl⟩ : ∃ r, p = r + 1 := ⟨p - 1, by omega⟩
  rcases Nat.eq_zero_or_pos r with hr | hr
  · subst hr
    obtain ⟨R', Q', s', b', hev, rest⟩ := dv_parts (x := x) h hb16 hy hp16 0 0 x 0 [] 0 rfl hx0 hx1 hxy (by omega) (by omega)
    refine ⟨R', Q', s', b', ?_, rest⟩
    simpa [offP, startR] using hev
  · obtain ⟨tr1, hs⟩ := right_str (L := divProg (r + 1)) (R := x) (N := 0) (fun c => hpl x 0 c) r 0 [] 0 (by omega) (by omega) (by omega)
    obtain ⟨R', Q', s', b', hev, rest⟩ := dv_parts (x := x) h hb16 hy hp16 r 0 x 0 tr1 r (by omega) hx0 hx1 hxy (by omega) (by omega)
    have hL0 : (divProg (r + 1))[0]? = some ⟨4, ((r + 1 : Nat) : Int) - 1⟩ := by
      have H : ∀ p : Fin 17, 1 < p.val → (divProg p.val)[0]? = some ⟨4, (p.val : Int) - 1⟩ := by decide +kernel
      exact H ⟨r + 1, by omega⟩ (by show 1 < r + 1; omega)
    obtain ⟨l0, e0⟩ := get_of hL0
    have hop : (divProg (r + 1))[0].op = 4 := by rw [e0]
    have har : (max (1 : Int) (divProg (r + 1))[0].arg).toNat = r := by rw [e0]; show (max (1 : Int) (((r + 1 : Nat) : Int) - 1)).toNat = r; omega
    refine ⟨R', Q', s', false || b', ?_, rest⟩
    refine Ev.rStr (by omega) l0 rfl (by rw [hop]; rfl) (by rw [hop]; decide) (by rw [hop, har]; exact hs) ?_
    have ho : offP (r + 1) = 1 := by unfold offP; rw [if_pos (by omega)]
    rw [ho] at hev
    simpa using hev
theorem dv_law {t : Tri} {x y : Int} (hv : vmach t = true) (h : dvC t x y = 0) : dvQ t x y * y + dvR t x y = x ∧ 0 ≤ dvR t x y ∧ dvR t x y < y ∧ 0 ≤ dvQ t x y * y ∧ dvQ t x y * y ≤ x ∧ x ≤ 1000000000001 := by
  obtain ⟨k1, k2, k3, e1, e2, f1, f2, l1, c0, c1⟩ := vmach_all hv
  obtain ⟨⟨b1, b2⟩, ⟨n1, n2⟩, -⟩ := vreg_iff.1 k1
  obtain ⟨⟨b3, b4⟩, ⟨n3, n4⟩, -⟩ := vreg_iff.1 k2
  obtain ⟨⟨b5, b6⟩, ⟨n5, n6⟩, -⟩ := vreg_iff.1 k3
  obtain ⟨v1, v2, v3, v4, v5⟩ := vplaces_bd hv
  have hx : betB x 0 (pw t.b.base t.b.digits.length - 1) = true := by
    cases hb : betB x 0 (pw t.b.base t.b.digits.length - 1) with
    | true => rfl
    | false => unfold dvC at h; rw [hv, hb] at h; simp at h
  have hy : betB y 1 (pw t.a.base t.a.digits.length - 1) = true := by
    cases hb : betB y 1 (pw t.a.base t.a.digits.length - 1) with
    | true => rfl
    | false => unfold dvC at h; rw [hv, hx, hb] at h; simp at h
  have hq : ¬ pw t.a.base (vplaces t).toNat ≤ x.tdiv y := fun hc => by
    unfold dvC at h; rw [hv, hx, hy, if_neg (by decide), if_neg (by decide), if_neg (by decide), if_pos hc] at h; cases h
  obtain ⟨x0, x1⟩ := betB_iff.1 hx
  obtain ⟨y0, y1⟩ := betB_iff.1 hy
  have hm := pw_mono t.a.base (by omega) _ _ l1
  have hm3 := pw_mono t.a.base (by omega) (vplaces t).toNat t.s.digits.length (by unfold vplaces; omega)
  rw [← e1] at f1 x1
  have e3 : t.s.base = t.a.base := e2.trans e1.symm
  rw [e3] at f2
  have hok : DvOk t.a.base t.a.digits.length t.b.digits.length t.s.digits.length y := ⟨b1, by omega, by omega, by omega, f1, f2⟩
  obtain ⟨P, hP⟩ : ∃ P, pw t.a.base (vplaces t).toNat = P := ⟨_, rfl⟩
  rw [hP] at hq hm3
  have hdiv : x.tdiv y = x / y := Int.tdiv_eq_ediv_of_nonneg x0
  rw [hdiv] at hq
  have hxy : x < y * P := by
    rw [Int.mul_comm]; exact Int.lt_mul_of_ediv_lt (by omega) (by omega)
  obtain ⟨R', Q', s', b', hev, hc, hmm, r0, r1, r2, hxx⟩ := dv_run (x := x) hok b2 y0 v1 v2 (fun R N c => by rw [v3]; simp [vplaces, mchV, digD_len]) x0 (by omega) (by rw [hP]; exact hxy)
  have hstart : dvStart t x y = mchV t.a.base t.a.digits.length t.b.digits.length t.s.digits.length y x 0 0 := by
    unfold dvStart mchV; rw [← e1, e3]
  obtain ⟨a1, a2, -, -⟩ := dv_fine (x := x) (y := y) h (by rw [hstart]; exact hev)
  rw [hmm] at a1 a2
  have hQ0 : 0 ≤ Q' := by
    rcases Int.lt_or_le Q' 0 with hn | hn
    · have : Q' * y ≤ (-1) * y := Int.mul_le_mul_of_nonneg_right (by omega) (by omega)
      omega
    · exact hn
  have hQP : Q' < P := by
    rcases Int.lt_or_le Q' P with hn | hn
    · exact hn
    · have : P * y ≤ Q' * y := Int.mul_le_mul_of_nonneg_right hn (by omega)
      rw [Int.mul_comm] at hxy
      omega
  have q1 := pw_pos t.a.base b1 t.s.digits.length
  have hr : dvR t x y = R' := by
    rw [a2]; exact valL_dig b1 f1 r0 r2
  have hvn : valL t.a.base (digD t.a.base t.s.digits.length ((-Q') % pw t.a.base t.s.digits.length)) = (-Q') % pw t.a.base t.s.digits.length := valL_dig b1 f2 (Int.emod_nonneg _ (by omega)) (Int.emod_lt_of_pos _ (by omega))
  have hqq : dvQ t x y = Q' := by
    rw [a1]
    show (pw t.s.base t.s.digits.length - valL t.a.base (digD t.a.base t.s.digits.length ((-Q') % pw t.a.base t.s.digits.length))).tmod (pw t.s.base t.s.digits.length) = Q'
    rw [hvn, e3]
    have h1 := Int.emod_lt_of_pos (-Q') (show 0 < pw t.a.base t.s.digits.length by omega)
    rw [Int.tmod_eq_emod_of_nonneg (by omega), Int.sub_emod, Int.emod_emod, ← Int.sub_emod, show pw t.a.base t.s.digits.length - -Q' = Q' + pw t.a.base t.s.digits.length by omega, Int.add_emod_right]
    exact Int.emod_eq_of_lt hQ0 (by omega)
  have hq0 : 0 ≤ Q' * y := Int.mul_nonneg hQ0 (by omega)
  rw [hr, hqq]
  omega
end Go.Proofs.YtkfbfainhmkkdaaGreat

namespace Go.Proofs.YtkfbfainhmkkdaaGreat
open Go.RowKit Go.Sort
end Go.Proofs.YtkfbfainhmkkdaaGreat

namespace Go.Proofs.YtkfbfainhmkkdaaGreat
open Go.RowKit Go.Sort
/-- the program that adds values -/
def inV (vs : List Int) : Bool := vs.all (fun v => betB v 0 1000000000000)
theorem inV_take_succ {vs : List Int} {k : Nat} (h : k < vs.length) : inV (vs.take (k + 1)) = (inV (vs.take k) && betB vs[k] 0 1000000000000) := by
  unfold inV; rw [List.take_succ_eq_append_getElem h, List.all_append]; simp only [List.all_cons, List.all_nil, Bool.and_true]
theorem inV_not {vs : List Int} {k : Nat} (h : k < vs.length) (h1 : betB vs[k] 0 1000000000000 = false) : inV vs = false := by
  simp only [inV, List.all_eq_false]; exact ⟨vs[k], List.getElem_mem _, by simp [h1]⟩
def sumL (vs : List Int) : List Ins := ⟨6, 0⟩ :: vs.flatMap (fun v => [⟨1, v⟩, ⟨2, 1⟩])
theorem sumL_step {vs : List Int} {k : Nat} (h : k < vs.length) : sumL (vs.take (k + 1)) = sumL (vs.take k) ++ [⟨1, vs[k]⟩, ⟨2, 1⟩] := by
  unfold sumL; rw [List.take_succ_eq_append_getElem h, List.flatMap_append]; rfl
theorem sumL_len (vs : List Int) : (sumL vs).length = 1 + 2 * vs.length := by
  unfold sumL
  induction vs with
  | nil => rfl
  | cons v vs ih => simp only [List.flatMap_cons, List.length_cons, List.length_append, List.length_nil] at ih ⊢; omega
def spC (vs : List Int) : Int := if inV vs = false then 2 else if 120 < 2 * (vs.length : Int) + 1 then 5 else 0
def spL (vs : List Int) : List Ins := if spC vs = 0 then sumL vs else []
theorem sp_bad {vs : List Int} {c : Int} (h : spC vs = c) (hc : ¬ c = 0) : spC vs = c ∧ spL vs = [] := ⟨h, by unfold spL; rw [h, if_neg hc]⟩
theorem sp_fine {vs : List Int} (h : spC vs = 0) : spC vs = 0 ∧ spL vs = sumL vs := ⟨h, by unfold spL; rw [h, if_pos rfl]⟩
def SPRet (vs : List Int) (w : World) (e : Ending) (w' : World) : Prop := ∃ LA lc, e = .returned (.tuple #[.slice LA (spL vs).length lc, .int .i64 (spC vs)]) ∧ Kn w [rowIns (.slice LA (spL vs).length lc) (spL vs)] w'
theorem SPRet.bad {vs : List Int} {c : Int} {w w' : World} (h : spC vs = c ∧ spL vs = []) (hk : Kn w [] w') : SPRet vs w (.returned (.tuple #[.slice none 0 0, .int .i64 c])) w' := by
  unfold SPRet
  rw [h.1, h.2]
  exact ⟨none, 0, rfl, hk.nilRow _ _⟩
theorem SPRet.fine {vs : List Int} {w w' : World} {A : Option Addr} {c : Nat} (h : spC vs = 0 ∧ spL vs = sumL vs) (hk : Kn w [rowIns (.slice A (sumL vs).length c) (sumL vs)] w') : SPRet vs w (.returned (.tuple #[.slice A (sumL vs).length c, .int .i64 0])) w' := by
  unfold SPRet
  rw [h.1, h.2]
  exact ⟨A, c, rfl, hk⟩
end Go.Proofs.YtkfbfainhmkkdaaGreat
