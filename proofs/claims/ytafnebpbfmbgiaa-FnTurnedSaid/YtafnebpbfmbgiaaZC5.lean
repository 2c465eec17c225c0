/- Part 5: lemmas and contracts of the claim's functions. -/
import Derived.Test.YtafnebpbfmbgiaaZC1
import Derived.Test.YtafnebpbfmbgiaaZC2
import Derived.Test.YtafnebpbfmbgiaaZC3
import Derived.Test.YtafnebpbfmbgiaaZC4
import Derived.Deep.OwnRows
namespace Go.Proofs.Ytafnebpbfmbgiaa
open Go.RowKit Go.Sort
theorem bestK_succ (cs : List Int) (k : Nat) : bestK cs (k + 1) = if cs.getD (bestK cs k) 0 < cs.getD k 0 then k else bestK cs k := rfl
def BTRet (d : Dr) (a : Int) (xs : List Int) (w : World) (e : Ending) (w' : World) : Prop := e = .returned (.tuple #[.int .i64 (btA d a xs), .int .i64 (btM d a xs), .int .i64 (btC d a xs)]) ∧ Below w.heap.size w w'
theorem BTRet.of {d : Dr} {a : Int} {xs : List Int} {C A M : Int} {w w' : World} {e : Ending} (h : btC d a xs = C ∧ btA d a xs = A ∧ btM d a xs = M) (he : e = .returned (.tuple #[.int .i64 A, .int .i64 M, .int .i64 C])) (hb : Below w.heap.size w w') : BTRet d a xs w e w' := by
  unfold BTRet
  rw [h.1, h.2.1, h.2.2]
  exact ⟨he, hb⟩
theorem make_ints (n : Nat) (h : n ≤ 1000) (W : World) : (Instr.makeSlice 26 (.int .i64 (n : Int)) (.int .i64 (n : Int))).run Try.prog W = .ok (.slice (some ⟨W.heap.size, 0, none⟩) n n) (W.alloc (.cells ((List.replicate n 0).map (Value.int .i64)).toArray 2)) := by
  have h := run_make_row' (P := Try.prog) 26 2 (.int .i64 0) 8 (by kernel_rfl) (by kernel_rfl) rfl .i64 .i64 n (by omega) (by omega) W
  rw [List.map_replicate, ← toList_madeCells_one, Array.toArray_toList]
  exact h
theorem Kn.zeros {w0 w : World} {m : List Ent} {g n : Nat} (h : Kn w0 (.blk g ((List.replicate n (0 : Int)).map (Value.int .i64)) 2 :: m) w) (hn : n ≤ 1000) : Kn w0 (rowI (some ⟨g, 0, none⟩) n (List.replicate n 0) :: m) w := by
  have h := h.litRow (size := 1) (n := n) (by simp) (by unfold maxLen; omega)
  unfold rowI
  rw [List.length_replicate]
  exact h
set_option maxRecDepth 100000 in
set_option maxHeartbeats 6400000 in
theorem BusiestTime_any (d : Dr) (a : Int) (XA : Option Addr) (xc : Nat) (xs : List Int) (w : World) (hx : RI w XA xs.length xs) (hm1 : xs.length ≤ 1000000) :
    Calls Try.prog 13 #[.agg #[.int .i64 d.k, .int .i64 d.b, .int .i64 d.t, .int .i64 d.f], .agg #[.int .i64 a, .slice XA xs.length xc]] w (BTRet d a xs w) := by
  have KD := (fun W => ValidDrum_any d.k d.b d.t d.f W)
  have KX := (fun W (hW : Below w.heap.size w W) => ValidRegister_any a XA xs.length xc xs W (hx.below hW) (by omega))
  have hd0 : drOk ⟨d.k, d.b, d.t, d.f⟩ = drOk d := rfl
  rw [hd0] at KD
  clear hd0
  obtain ⟨g1, hg1⟩ : ∃ g, w.heap.size = g := ⟨_, rfl⟩
  have K0 := ((Kn.nil w).al [.int .i64 d.k, .int .i64 d.b, .int .i64 d.t, .int .i64 d.f] 25).al [.int .i64 a, .slice XA xs.length xc] 28
  simp only [World.size_alloc, hg1] at K0
  rcases hv1 : drOk d with _ | _
  · have HX := Lib.hid (bt_bad (a := a) (xs := xs) (show (drOk d && vreg a xs) = false by rw [hv1]; rfl))
    rw [hv1] at KD
    replace KD := Lib.hid KD
    clear KX hv1
    go_enter Try.func13, Try.ntmps13
    go_wp2_with (go_at_call 41; refine Calls.kn K0 ?_; intro w1 K1; refine (KD.out _).mono ?_; rintro e w2 ⟨rfl, hw⟩; have K2 := K1.keep hw; clear hw)
    go_ret3
    exact BTRet.of HX.out rfl K2.below
  rw [hv1] at KD
  replace KD := Lib.hid KD
  rcases hv2 : vreg a xs with _ | _
  · have HX := Lib.hid (bt_bad (a := a) (xs := xs) (show (drOk d && vreg a xs) = false by rw [hv1, hv2]; rfl))
    rw [hv2] at KX
    replace KX := Lib.hid KX
    clear hv1 hv2
    go_enter Try.func13, Try.ntmps13
    go_wp2_with (first
      | (go_at_call 41; refine Calls.kn K0 ?_; intro w1 K1; refine (KD.out _).mono ?_; rintro e w2 ⟨rfl, hw⟩; have K2 := K1.keep hw; clear hw; obtain ⟨a1, a2, a3, b1, b2, b3, -⟩ := K2.cells)
      | (go_at_call 42; (refine (KX.out _ K2.below).mono ?_); rintro e w3 ⟨rfl, hw⟩; replace K2 := K2.keep hw; clear hw))
    go_ret3
    exact BTRet.of HX.out rfl K2.below
  rw [hv2] at KX
  replace KX := Lib.hid KX
  have HV := Lib.hid (show (drOk d && vreg a xs) = true by rw [hv1, hv2]; rfl)
  have HV1 := Lib.hid hv1
  have HV2 := Lib.hid hv2
  clear hv1 hv2
  by_cases e1 : a = d.b
  rotate_left
  · have HX := Lib.hid (bt_state HV.out e1)
    have y1 : (a == d.b) = false := beq_eq_false_iff_ne.2 e1
    have y2 : (a != d.b) = true := bne_iff_ne.2 e1
    go_enter Try.func13, Try.ntmps13
    go_wp2_with (first
      | (go_at_call 41; refine Calls.kn K0 ?_; intro w1 K1; refine (KD.out _).mono ?_; rintro e w2 ⟨rfl, hw⟩; have K2 := K1.keep hw; clear hw; obtain ⟨a1, a2, a3, b1, b2, b3, -⟩ := K2.cells)
      | (go_at_call 42; (refine (KX.out _ K2.below).mono ?_); rintro e w3 ⟨rfl, hw⟩; replace K2 := K2.keep hw; clear hw a1 a2 a3 b1 b2 b3; obtain ⟨a1, a2, a3, b1, b2, b3, -⟩ := K2.cells))
    go_ret3
    exact BTRet.of HX.out rfl K2.below
  have HX := Lib.hid (bt_fine HV.out e1)
  have y2 : (a != d.b) = false := by rw [e1]; exact bne_self_eq_false _
  have hdd := HV1.out
  obtain ⟨-, hdb, hdt, -⟩ := drOk_iff.1 hdd
  obtain ⟨-, hxl, hdx, -⟩ := vreg_iff.1 HV2.out
  rw [e1] at hdx
  have HDX := Lib.hid hdx
  have HGT := Lib.hid (fun k hk i => cntW_get hdd hdx k hk i)
  have HGJ := Lib.hid (fun (n : Nat) (hn : (n : Int) < d.b) (cs : List Int) j hj i => cntJ_get hdd hn cs j hj i)
  have HTB := Lib.hid (fun (n j : Nat) (hj : (j : Int) < n) (hn : (n : Int) < d.b) => dTime_bd hdd hj hn)
  have KT := Lib.hid (fun (n : Nat) (hn : (n : Int) < d.b) W => times_any d n W hdd hn)
  unfold TMRet at KT
  have HCL := Lib.hid (fun k => cntW_len d xs k)
  have HC0 := Lib.hid (show cntW d xs 0 = List.replicate (d.t.toNat + 1) 0 from rfl)
  have HCS := Lib.hid (fun k => show cntW d xs (k + 1) = cntJ d (xs.getD k 0).toNat (cntW d xs k) (xs.getD k 0).toNat from rfl)
  obtain ⟨N, hN⟩ : ∃ N, d.t.toNat + 1 = N := ⟨_, rfl⟩
  have hNT : d.t + 1 = (N : Int) := by omega
  have hNb : 3 ≤ N ∧ N ≤ 61 := by omega
  rw [hN] at HX HCL HC0
  have x1 : IntKind.i64.wrap (d.t + 1) = (N : Int) := by rw [wrapI (by omega)]; omega
  have MK := make_ints N (by omega)
  have HNT := Lib.hid hNT
  clear e1 hdd hdx hN hNT
  go_enter Try.func13, Try.ntmps13
  go_upto_region 5 with (first
    | (go_at_call 41; refine Calls.kn K0 ?_; intro w1 K1; refine (KD.out _).mono ?_; rintro e w2 ⟨rfl, hw⟩; have K2 := K1.keep hw; clear hw; obtain ⟨a1, a2, a3, b1, b2, b3, -⟩ := K2.cells)
    | (go_at_call 42; (refine (KX.out _ K2.below).mono ?_); rintro e w3 ⟨rfl, hw⟩; replace K2 := K2.keep hw; clear hw a1 a2 a3 b1 b2 b3; obtain ⟨a1, a2, a3, b1, b2, b3, -⟩ := K2.cells))
  have K3 := (K2.al ((List.replicate N (0 : Int)).map (Value.int .i64)) 2).zeros (by omega)
  obtain ⟨gC, hgC⟩ : ∃ g, w3.heap.size = g := ⟨_, rfl⟩
  go_upto_region 6 with fail
  rw [show ((List.replicate N (0 : Int)).map (Value.int .i64)).toArray = Array.replicate N (Value.int .i64 0) by simp] at K3
  refine Code.wp.kn K3 ?_; clear K3; intro w4 K3
  rw [hgC] at K3
  try rw [hgC]
  clear hgC a1 a2 a3 b1 b2 b3 K2 MK
  obtain ⟨a1, a2, a3, b1, b2, b3, -⟩ := K3.cells
  go_wp2_with fail
  clear a1 a2 a3 b1 b2 b3
  rw [← HC0.out] at K3
  go_loopw [35] (fun ii wr => ∃ (k : Nat), k ≤ xs.length ∧ ii = .int .i64 (k : Int) ∧ Kn w [rowI (some ⟨gC, 0, none⟩) N (cntW d xs k), .blk (g1 + 1) [.int .i64 a, .slice XA xs.length xc] 28, .blk g1 [.int .i64 d.k, .int .i64 d.b, .int .i64 d.t, .int .i64 d.f] 25] wr) (fun ii _ => xs.length - (intOf ii).toNat)
  case atStart => exact ⟨0, Nat.zero_le _, rfl, K3⟩
  case round =>
    clear K3
    obtain ⟨k, hk, rfl, K3⟩ := hrel
    by_cases hkn : k < xs.length
    · have i1 : (k : Int) < (xs.length : Int) := by omega
      have i0 : (0 : Int) ≤ (k : Int) := by omega
      obtain ⟨adx, hA, hltx, hkx, hcx⟩ := (hx.below K3.below).at_ hkn
      have hS := HCS.out k
      rw [getD_of hkn] at hS
      obtain ⟨x, hxx⟩ : ∃ x, xs[k] = x := ⟨_, rfl⟩
      have bx := HDX.out x (by rw [← hxx]; exact List.getElem_mem hkn)
      rw [hxx] at hcx hS
      obtain ⟨n, rfl⟩ : ∃ n : Nat, x = n := ⟨x.toNat, by omega⟩
      rw [Int.toNat_natCast] at hS
      have hcsl := HCL.out k
      have hcsb := HGT.out k hk
      obtain ⟨cs, hcs⟩ : ∃ cs, cntW d xs k = cs := ⟨_, rfl⟩
      rw [hcs] at hS K3 hcsl hcsb
      have HS := Lib.hid hS
      have HCSL := Lib.hid hcsl
      have HCSB := Lib.hid hcsb
      have KTN := Lib.hid (KT.out n bx.2)
      subst hA
      clear hxx hS hcs hcsl hcsb
      obtain ⟨a1, a2, a3, b1, b2, b3, -⟩ := K3.cells
      go_wp2_with (go_at_call 54; refine (KTN.out _).mono ?_; rintro e w5 ⟨TA, tc, rfl, hK⟩; have K5 := (K3.join hK).sel [1, 0, 2, 3] 99 (by decide) (by decide); clear hK)
      clear a1 a2 a3 b1 b2 b3 K3
      have K5 : Kn w [rowI (some ⟨gC, 0, none⟩) N cs, rowI TA tc (dTimes d n), .blk (g1 + 1) [.int .i64 a, .slice (some adx) xs.length xc] 28, .blk g1 [.int .i64 d.k, .int .i64 d.b, .int .i64 d.t, .int .i64 d.f] 25] w5 := K5
      go_loopw [43] (fun jj wq => ∃ (j : Nat), j ≤ n ∧ jj = .int .i64 (j : Int) ∧ Kn w [rowI (some ⟨gC, 0, none⟩) N (cntJ d n cs j), rowI TA tc (dTimes d n), .blk (g1 + 1) [.int .i64 a, .slice (some adx) xs.length xc] 28, .blk g1 [.int .i64 d.k, .int .i64 d.b, .int .i64 d.t, .int .i64 d.f] 25] wq) (fun jj _ => n - (intOf jj).toNat)
      case atStart => exact ⟨0, Nat.zero_le _, rfl, K5⟩
      case round =>
        clear K5
        obtain ⟨j, hj, rfl, K5⟩ := hrel
        by_cases hjn : j < n
        · have j1 : (j : Int) < (n : Int) := by omega
          have j0 : (0 : Int) ≤ (j : Int) := by omega
          have hri := (K5.front 1 rfl).riv
          rw [dTimes_len, Int.toNat_natCast] at hri
          obtain ⟨ad, hA, hlt, hkl, hc1⟩ := hri.at_ hjn
          obtain ⟨hlj, hge⟩ := dTimes_get d n hjn
          have htb := HTB.out n j j1 bx.2
          have hJS := cntJ_succ d n cs j
          have hJL := cntJ_len d n cs j
          have hJG := HGJ.out n bx.2 cs j hj
          obtain ⟨y, hy⟩ : ∃ y, dTime d n j = y := ⟨_, rfl⟩
          rw [hge] at hc1
          rw [hy] at hc1 hJS htb
          obtain ⟨us, hus⟩ : ∃ us, cntJ d n cs j = us := ⟨_, rfl⟩
          rw [hus] at K5 hJS hJL
          obtain ⟨m, rfl⟩ : ∃ m : Nat, y = m := ⟨y.toNat, by omega⟩
          have hmu : m < us.length := by rw [hJL, HCSL.out]; have := HNT.out; omega
          have hb2 := (hJG m).1
          have hb3 := HCSB.out m
          rw [hus] at hb2
          have hbu : bump us (m : Int) = us.set m (us[m] + 1) := by unfold bump; rw [Int.toNat_natCast, getD_of hmu]
          rw [getD_of hmu] at hb2
          obtain ⟨z1, z2⟩ := Kn.rowCell K5 (j := m) (u := .int .i64 us[m]) (by simp [hmu])
          obtain ⟨v, hv⟩ : ∃ v, us[m] = v := ⟨_, rfl⟩
          rw [hv] at z1 hbu hb2
          have xw : IntKind.i64.wrap (v + 1) = v + 1 := wrapI (by omega)
          have m0 : (0 : Int) ≤ (m : Int) := by omega
          have m1 : (m : Int) < (N : Int) := by have := HNT.out; omega
          have HJS := Lib.hid (hJS.trans hbu)
          have HJL := Lib.hid hJL
          subst hA
          clear hJS hJL hJG hus hy hge hlj hkl hri htb hmu hb2 hb3 hbu hv
          go_wp2_with fail
          go_roundw
          case rel => exact ⟨j + 1, by omega, by go_num, by rw [HJS.out]; exact Kn.setI K5 m (v + 1)⟩
          case measure => simp [intOf]; omega
        · have j1 : ¬ (j : Int) < (n : Int) := by omega
          obtain rfl : j = n := by omega
          rw [← HS.out] at K5
          go_wp2_with fail
          go_roundw
          case rel => exact ⟨k + 1, by omega, by go_num, K5.sel [0, 2, 3] 99 (by decide) (by decide)⟩
          case measure => simp [intOf]; omega
    · have i1 : ¬ (k : Int) < (xs.length : Int) := by omega
      obtain rfl : k = xs.length := by omega
      have hcsl := HCL.out xs.length
      obtain ⟨cs, hcs⟩ : ∃ cs, cntW d xs xs.length = cs := ⟨_, rfl⟩
      rw [hcs] at HX K3 hcsl
      have HCSL := Lib.hid hcsl
      clear hcs hcsl HCL HC0 HCS HGT HGJ
      go_wp2_with fail
      go_loopw [12, 57] (fun bb ii wr => ∃ (k : Nat), k ≤ N ∧ ii = .int .i64 (k : Int) ∧ bb = .int .i64 ((bestK cs k : Nat) : Int) ∧ Kn w [rowI (some ⟨gC, 0, none⟩) N cs, .blk (g1 + 1) [.int .i64 a, .slice XA xs.length xc] 28, .blk g1 [.int .i64 d.k, .int .i64 d.b, .int .i64 d.t, .int .i64 d.f] 25] wr) (fun _ ii _ => N - (intOf ii).toNat)
      case atStart => exact ⟨0, Nat.zero_le _, rfl, rfl, K3⟩
      case round =>
        clear K3
        obtain ⟨k, hk, rfl, rfl, K3⟩ := hrel
        by_cases hkn : k < N
        · have i1 : (k : Int) < (N : Int) := by omega
          have i0 : (0 : Int) ≤ (k : Int) := by omega
          have hbl := bestK_lt cs k
          have hbs := bestK_succ cs k
          obtain ⟨bb, hbb⟩ : ∃ b, bestK cs k = b := ⟨_, rfl⟩
          rw [hbb] at hbl hbs
          try rw [hbb]
          have hkl : k < cs.length := by rw [HCSL.out]; exact hkn
          have hbl2 : bb < cs.length := by omega
          have b0 : (0 : Int) ≤ (bb : Int) := by omega
          have b1 : (bb : Int) < (N : Int) := by omega
          obtain ⟨y1, y2⟩ := Kn.rowCell K3 (j := bb) (u := .int .i64 cs[bb]) (by simp [hbl2])
          obtain ⟨z1, z2⟩ := Kn.rowCell K3 (j := k) (u := .int .i64 cs[k]) (by simp [hkl])
          rw [getD_of hbl2, getD_of hkl] at hbs
          obtain ⟨u, hu⟩ : ∃ u, cs[bb] = u := ⟨_, rfl⟩
          obtain ⟨v, hv⟩ : ∃ v, cs[k] = v := ⟨_, rfl⟩
          rw [hu] at y1 hbs
          rw [hv] at z1 hbs
          have HBS := Lib.hid hbs
          clear hbl hbs hbb hkl hbl2 hu hv
          by_cases huv : u < v
          · have HB2 := Lib.hid (HBS.out.trans (by rw [if_pos huv]))
            go_wp2_with fail
            go_roundw
            case rel => exact ⟨k + 1, by omega, by go_num, by rw [HB2.out], K3⟩
            case measure => simp [intOf]; omega
          · have HB2 := Lib.hid (HBS.out.trans (by rw [if_neg huv]))
            go_wp2_with fail
            go_roundw
            case rel => exact ⟨k + 1, by omega, by go_num, by rw [HB2.out], K3⟩
            case measure => simp [intOf]; omega
        · have i1 : ¬ (k : Int) < (N : Int) := by omega
          obtain rfl : k = N := by omega
          have hbl := bestK_lt cs k
          obtain ⟨bb, hbb⟩ : ∃ b, bestK cs k = b := ⟨_, rfl⟩
          rw [hbb] at hbl HX
          try rw [hbb]
          have hbl2 : bb < cs.length := by rw [HCSL.out]; omega
          have b0 : (0 : Int) ≤ (bb : Int) := by omega
          have b1 : (bb : Int) < (k : Int) := by omega
          obtain ⟨y1, y2⟩ := Kn.rowCell K3 (j := bb) (u := .int .i64 cs[bb]) (by simp [hbl2])
          have HY := Lib.hid (getD_of (ds := cs) hbl2)
          obtain ⟨u, hu⟩ : ∃ u, cs[bb] = u := ⟨_, rfl⟩
          rw [hu] at y1 HY
          have HX2 := Lib.hid (And.intro HX.out.1 (And.intro HX.out.2.1 (HX.out.2.2.trans HY.out)))
          clear hbl hbb hbl2 hu HX HY
          go_wp2_with fail
          go_quiet (fail)
          go_wp2_with fail
          go_ret3
          exact BTRet.of HX2.out rfl (by first | exact K3.below | exact (K3.drewN _).below)
end Go.Proofs.Ytafnebpbfmbgiaa

namespace Go.Proofs.Ytafnebpbfmbgiaa
open Go.RowKit Go.Sort
set_option maxRecDepth 100000 in
set_option maxHeartbeats 6400000 in
theorem specBusiestTime_any (d : Dr) (a : Int) (XA : Option Addr) (xc : Nat) (xs : List Int) (w : World) (hx : RI w XA xs.length xs) (hm1 : xs.length ≤ 1000000) :
    Calls Try.prog 14 #[.agg #[.int .i64 d.k, .int .i64 d.b, .int .i64 d.t, .int .i64 d.f], .agg #[.int .i64 a, .slice XA xs.length xc]] w (BTRet d a xs w) := by
  obtain ⟨g1, hg1⟩ : ∃ g, w.heap.size = g := ⟨_, rfl⟩
  have KD := (fun W (K : Kn w [.blk (g1 + 1) [.int .i64 a, .slice XA xs.length xc] 28, .blk g1 [.int .i64 d.k, .int .i64 d.b, .int .i64 d.t, .int .i64 d.f] 25] W) => l05Ok_any g1 d W ⟨(K.front 1 rfl).blkAt.1 0, (K.front 1 rfl).blkAt.1 1, (K.front 1 rfl).blkAt.1 2, (K.front 1 rfl).blkAt.1 3⟩)
  have KX := (fun W (K : Kn w [.blk (g1 + 1) [.int .i64 a, .slice XA xs.length xc] 28, .blk g1 [.int .i64 d.k, .int .i64 d.b, .int .i64 d.t, .int .i64 d.f] 25] W) => l02Ok_any ⟨g1 + 1, 0, none⟩ a XA xs.length xc xs W ⟨K.blkAt.1 0, K.blkAt.1 1⟩ (hx.below K.below) (by omega))
  have K0 := ((Kn.nil w).al [.int .i64 d.k, .int .i64 d.b, .int .i64 d.t, .int .i64 d.f] 25).al [.int .i64 a, .slice XA xs.length xc] 28
  simp only [World.size_alloc, hg1] at K0
  rcases hv1 : drOk d with _ | _
  · have HX := Lib.hid (bt_bad (a := a) (xs := xs) (show (drOk d && vreg a xs) = false by rw [hv1]; rfl))
    rw [hv1] at KD
    replace KD := Lib.hid KD
    clear KX hv1
    go_enter Try.func14, Try.ntmps14
    go_wp2_with (go_at_call 36; refine Calls.kn K0 ?_; intro w1 K1; refine (KD.out _ K1).mono ?_; rintro e w2 ⟨rfl, q1, rfl⟩; have K2 := K1.drewN q1; generalize w1.drewN q1 = w2 at K2 ⊢)
    go_ret3
    exact BTRet.of HX.out rfl K2.below
  rw [hv1] at KD
  replace KD := Lib.hid KD
  rcases hv2 : vreg a xs with _ | _
  · have HX := Lib.hid (bt_bad (a := a) (xs := xs) (show (drOk d && vreg a xs) = false by rw [hv1, hv2]; rfl))
    rw [hv2] at KX
    replace KX := Lib.hid KX
    clear hv1 hv2
    go_enter Try.func14, Try.ntmps14
    go_wp2_with (first
      | (go_at_call 36; refine Calls.kn K0 ?_; intro w1 K1; refine (KD.out _ K1).mono ?_; rintro e w2 ⟨rfl, q1, rfl⟩; have K2 := K1.drewN q1; generalize w1.drewN q1 = w2 at K2 ⊢; obtain ⟨a1, a2, a3, b1, b2, b3, -⟩ := K2.cells)
      | (go_at_call 50; (refine (KX.out _ K2).mono ?_); rintro e w3 ⟨rfl, q2, rfl⟩; replace K2 := K2.drewN q2; generalize w2.drewN q2 = w3 at K2 ⊢; clear KX))
    go_ret3
    exact BTRet.of HX.out rfl K2.below
  rw [hv2] at KX
  replace KX := Lib.hid KX
  have HV := Lib.hid (show (drOk d && vreg a xs) = true by rw [hv1, hv2]; rfl)
  have HV1 := Lib.hid hv1
  have HV2 := Lib.hid hv2
  clear hv1 hv2
  by_cases e1 : a = d.b
  rotate_left
  · have HX := Lib.hid (bt_state HV.out e1)
    have y1 : (d.b == a) = false := beq_eq_false_iff_ne.2 (Ne.symm e1)
    have y2 : (d.b != a) = true := bne_iff_ne.2 (Ne.symm e1)
    go_enter Try.func14, Try.ntmps14
    go_wp2_with (first
      | (go_at_call 36; refine Calls.kn K0 ?_; intro w1 K1; refine (KD.out _ K1).mono ?_; rintro e w2 ⟨rfl, q1, rfl⟩; have K2 := K1.drewN q1; generalize w1.drewN q1 = w2 at K2 ⊢; obtain ⟨a1, a2, a3, b1, b2, b3, -⟩ := K2.cells)
      | (go_at_call 50; (refine (KX.out _ K2).mono ?_); rintro e w3 ⟨rfl, q2, rfl⟩; replace K2 := K2.drewN q2; generalize w2.drewN q2 = w3 at K2 ⊢; clear KX a1 a2 a3 b1 b2 b3; obtain ⟨a1, a2, a3, b1, b2, b3, -⟩ := K2.cells))
    go_ret3
    exact BTRet.of HX.out rfl K2.below
  have HX := Lib.hid (bt_fine HV.out e1)
  have y2 : (d.b != a) = false := by rw [e1]; exact bne_self_eq_false _
  have hdd := HV1.out
  obtain ⟨-, hdb, hdt, -⟩ := drOk_iff.1 hdd
  obtain ⟨-, hxl, hdx, -⟩ := vreg_iff.1 HV2.out
  rw [e1] at hdx
  have HDX := Lib.hid hdx
  have HGT := Lib.hid (fun k hk i => cntW_get hdd hdx k hk i)
  have HGJ := Lib.hid (fun (n : Nat) (hn : (n : Int) < d.b) (cs : List Int) j hj i => cntJ_get hdd hn cs j hj i)
  have HTB := Lib.hid (fun (n j : Nat) (hj : (j : Int) < n) (hn : (n : Int) < d.b) => dTime_bd hdd hj hn)
  have KT := Lib.hid (fun (n : Nat) (hn : (n : Int) < d.b) W (h : DrAt W g1 d) => l05Times_any g1 d n W h hdd hn)
  unfold TMRet at KT
  have HCL := Lib.hid (fun k => cntW_len d xs k)
  have HC0 := Lib.hid (show cntW d xs 0 = List.replicate (d.t.toNat + 1) 0 from rfl)
  have HCS := Lib.hid (fun k => show cntW d xs (k + 1) = cntJ d (xs.getD k 0).toNat (cntW d xs k) (xs.getD k 0).toNat from rfl)
  obtain ⟨N, hN⟩ : ∃ N, d.t.toNat + 1 = N := ⟨_, rfl⟩
  have hNT : d.t + 1 = (N : Int) := by omega
  have hNb : 3 ≤ N ∧ N ≤ 61 := by omega
  rw [hN] at HX HCL HC0
  have x1 : IntKind.i64.wrap (d.t + 1) = (N : Int) := by rw [wrapI (by omega)]; omega
  have MK := make_ints N (by omega)
  have HNT := Lib.hid hNT
  clear e1 hdd hdx hN hNT
  go_enter Try.func14, Try.ntmps14
  go_upto_region 5 with (first
    | (go_at_call 36; refine Calls.kn K0 ?_; intro w1 K1; refine (KD.out _ K1).mono ?_; rintro e w2 ⟨rfl, q1, rfl⟩; have K2 := K1.drewN q1; generalize w1.drewN q1 = w2 at K2 ⊢; obtain ⟨a1, a2, a3, b1, b2, b3, -⟩ := K2.cells)
    | (go_at_call 50; (refine (KX.out _ K2).mono ?_); rintro e w3 ⟨rfl, q2, rfl⟩; replace K2 := K2.drewN q2; generalize w2.drewN q2 = w3 at K2 ⊢; clear KX a1 a2 a3 b1 b2 b3; obtain ⟨a1, a2, a3, b1, b2, b3, -⟩ := K2.cells))
  have K3 := (K2.al ((List.replicate N (0 : Int)).map (Value.int .i64)) 2).zeros (by omega)
  obtain ⟨gC, hgC⟩ : ∃ g, w3.heap.size = g := ⟨_, rfl⟩
  go_upto_region 6 with fail
  rw [show ((List.replicate N (0 : Int)).map (Value.int .i64)).toArray = Array.replicate N (Value.int .i64 0) by simp] at K3
  refine Code.wp.kn K3 ?_; clear K3; intro w4 K3
  rw [hgC] at K3
  try rw [hgC]
  clear hgC a1 a2 a3 b1 b2 b3 K2 MK
  go_wp2_with fail
  rw [← HC0.out] at K3
  go_loopw [8] (fun ii wr => ∃ (k : Nat), k ≤ xs.length ∧ ii = .int .i64 (k : Int) ∧ Kn w [rowI (some ⟨gC, 0, none⟩) N (cntW d xs k), .blk (g1 + 1) [.int .i64 a, .slice XA xs.length xc] 28, .blk g1 [.int .i64 d.k, .int .i64 d.b, .int .i64 d.t, .int .i64 d.f] 25] wr) (fun ii _ => xs.length - (intOf ii).toNat)
  case atStart => exact ⟨0, Nat.zero_le _, rfl, K3⟩
  case round =>
    clear K3
    obtain ⟨k, hk, rfl, K3⟩ := hrel
    obtain ⟨a1, a2, a3, b1, b2, b3, -⟩ := K3.cells
    by_cases hkn : k < xs.length
    · have i1 : (k : Int) < (xs.length : Int) := by omega
      have i0 : (0 : Int) ≤ (k : Int) := by omega
      obtain ⟨adx, hA, hltx, hkx, hcx⟩ := (hx.below K3.below).at_ hkn
      have hS := HCS.out k
      rw [getD_of hkn] at hS
      obtain ⟨x, hxx⟩ : ∃ x, xs[k] = x := ⟨_, rfl⟩
      have bx := HDX.out x (by rw [← hxx]; exact List.getElem_mem hkn)
      rw [hxx] at hcx hS
      obtain ⟨n, rfl⟩ : ∃ n : Nat, x = n := ⟨x.toNat, by omega⟩
      rw [Int.toNat_natCast] at hS
      have hcsl := HCL.out k
      have hcsb := HGT.out k hk
      obtain ⟨cs, hcs⟩ : ∃ cs, cntW d xs k = cs := ⟨_, rfl⟩
      rw [hcs] at hS K3 hcsl hcsb
      have HS := Lib.hid hS
      have HCSL := Lib.hid hcsl
      have HCSB := Lib.hid hcsb
      have KTN := Lib.hid (KT.out n bx.2)
      subst hA
      clear hxx hS hcs hcsl hcsb
      clear a1 a2 a3 b1 b2 b3
      obtain ⟨a1, a2, a3, b1, b2, b3, -⟩ := K3.cells
      have HDA := Lib.hid (show DrAt wr g1 d from ⟨(K3.front 2 rfl).blkAt.1 0, (K3.front 2 rfl).blkAt.1 1, (K3.front 2 rfl).blkAt.1 2, (K3.front 2 rfl).blkAt.1 3⟩)
      go_wp2_with (go_at_call 57; refine (KTN.out _ HDA.out).mono ?_; rintro e w5 ⟨TA, tc, rfl, hK⟩; have K5 := (K3.join hK).sel [1, 0, 2, 3] 99 (by decide) (by decide); clear hK)
      clear a1 a2 a3 b1 b2 b3 K3 HDA
      have K5 : Kn w [rowI (some ⟨gC, 0, none⟩) N cs, rowI TA tc (dTimes d n), .blk (g1 + 1) [.int .i64 a, .slice (some adx) xs.length xc] 28, .blk g1 [.int .i64 d.k, .int .i64 d.b, .int .i64 d.t, .int .i64 d.f] 25] w5 := K5
      go_loopw [10] (fun jj wq => ∃ (j : Nat), j ≤ n ∧ jj = .int .i64 (j : Int) ∧ Kn w [rowI (some ⟨gC, 0, none⟩) N (cntJ d n cs j), rowI TA tc (dTimes d n), .blk (g1 + 1) [.int .i64 a, .slice (some adx) xs.length xc] 28, .blk g1 [.int .i64 d.k, .int .i64 d.b, .int .i64 d.t, .int .i64 d.f] 25] wq) (fun jj _ => n - (intOf jj).toNat)
      case atStart => exact ⟨0, Nat.zero_le _, rfl, K5⟩
      case round =>
        clear K5
        obtain ⟨j, hj, rfl, K5⟩ := hrel
        by_cases hjn : j < n
        · have j1 : (j : Int) < (n : Int) := by omega
          have j0 : (0 : Int) ≤ (j : Int) := by omega
          have hri := (K5.front 1 rfl).riv
          rw [dTimes_len, Int.toNat_natCast] at hri
          obtain ⟨ad, hA, hlt, hkl, hc1⟩ := hri.at_ hjn
          obtain ⟨hlj, hge⟩ := dTimes_get d n hjn
          have htb := HTB.out n j j1 bx.2
          have hJS := cntJ_succ d n cs j
          have hJL := cntJ_len d n cs j
          have hJG := HGJ.out n bx.2 cs j hj
          obtain ⟨y, hy⟩ : ∃ y, dTime d n j = y := ⟨_, rfl⟩
          rw [hge] at hc1
          rw [hy] at hc1 hJS htb
          obtain ⟨us, hus⟩ : ∃ us, cntJ d n cs j = us := ⟨_, rfl⟩
          rw [hus] at K5 hJS hJL
          obtain ⟨m, rfl⟩ : ∃ m : Nat, y = m := ⟨y.toNat, by omega⟩
          have hmu : m < us.length := by rw [hJL, HCSL.out]; have := HNT.out; omega
          have hb2 := (hJG m).1
          have hb3 := HCSB.out m
          rw [hus] at hb2
          have hbu : bump us (m : Int) = us.set m (us[m] + 1) := by unfold bump; rw [Int.toNat_natCast, getD_of hmu]
          rw [getD_of hmu] at hb2
          obtain ⟨z1, z2⟩ := Kn.rowCell K5 (j := m) (u := .int .i64 us[m]) (by simp [hmu])
          obtain ⟨v, hv⟩ : ∃ v, us[m] = v := ⟨_, rfl⟩
          rw [hv] at z1 hbu hb2
          have xw : IntKind.i64.wrap (v + 1) = v + 1 := wrapI (by omega)
          have m0 : (0 : Int) ≤ (m : Int) := by omega
          have m1 : (m : Int) < (N : Int) := by have := HNT.out; omega
          have HJS := Lib.hid (hJS.trans hbu)
          have HJL := Lib.hid hJL
          subst hA
          clear hJS hJL hJG hus hy hge hlj hkl hri htb hmu hb2 hb3 hbu hv
          go_wp2_with fail
          go_roundw
          case rel => exact ⟨j + 1, by omega, by go_num, by rw [HJS.out]; exact Kn.setI K5 m (v + 1)⟩
          case measure => simp [intOf]; omega
        · have j1 : ¬ (j : Int) < (n : Int) := by omega
          obtain rfl : j = n := by omega
          rw [← HS.out] at K5
          go_wp2_with fail
          go_roundw
          case rel => exact ⟨k + 1, by omega, by go_num, K5.sel [0, 2, 3] 99 (by decide) (by decide)⟩
          case measure => simp [intOf]; omega
    · have i1 : ¬ (k : Int) < (xs.length : Int) := by omega
      obtain rfl : k = xs.length := by omega
      have hcsl := HCL.out xs.length
      obtain ⟨cs, hcs⟩ : ∃ cs, cntW d xs xs.length = cs := ⟨_, rfl⟩
      rw [hcs] at HX K3 hcsl
      have HCSL := Lib.hid hcsl
      clear hcs hcsl HCL HC0 HCS HGT HGJ
      go_wp2_with fail
      clear a1 a2 a3 b1 b2 b3
      go_loopw [11, 12] (fun bb ii wr => ∃ (k : Nat), (1 ≤ k ∧ k ≤ N) ∧ ii = .int .i64 (k : Int) ∧ bb = .int .i64 ((bestK cs k : Nat) : Int) ∧ Kn w [rowI (some ⟨gC, 0, none⟩) N cs, .blk (g1 + 1) [.int .i64 a, .slice XA xs.length xc] 28, .blk g1 [.int .i64 d.k, .int .i64 d.b, .int .i64 d.t, .int .i64 d.f] 25] wr) (fun _ ii _ => N - (intOf ii).toNat)
      case atStart => exact ⟨1, by omega, rfl, by rw [bestK_one]; rfl, K3⟩
      case round =>
        clear K3
        obtain ⟨k, hk, rfl, rfl, K3⟩ := hrel
        obtain ⟨a1, a2, a3, b1, b2, b3, -⟩ := K3.cells
        by_cases hkn : k < N
        · have i1 : (k : Int) < (N : Int) := by omega
          have i2 : (k : Int) ≤ d.t := by have := HNT.out; omega
          have i0 : (0 : Int) ≤ (k : Int) := by omega
          have hbl := bestK_lt cs k
          have hbs := bestK_succ cs k
          obtain ⟨bb, hbb⟩ : ∃ b, bestK cs k = b := ⟨_, rfl⟩
          rw [hbb] at hbl hbs
          try rw [hbb]
          have hkl : k < cs.length := by rw [HCSL.out]; exact hkn
          have hbl2 : bb < cs.length := by omega
          have b0 : (0 : Int) ≤ (bb : Int) := by omega
          have b1 : (bb : Int) < (N : Int) := by omega
          obtain ⟨y1, y2⟩ := Kn.rowCell K3 (j := bb) (u := .int .i64 cs[bb]) (by simp [hbl2])
          obtain ⟨z1, z2⟩ := Kn.rowCell K3 (j := k) (u := .int .i64 cs[k]) (by simp [hkl])
          rw [getD_of hbl2, getD_of hkl] at hbs
          obtain ⟨u, hu⟩ : ∃ u, cs[bb] = u := ⟨_, rfl⟩
          obtain ⟨v, hv⟩ : ∃ v, cs[k] = v := ⟨_, rfl⟩
          rw [hu] at y1 hbs
          rw [hv] at z1 hbs
          have HBS := Lib.hid hbs
          clear hbl hbs hbb hkl hbl2 hu hv
          by_cases huv : u < v
          · have HB2 := Lib.hid (HBS.out.trans (by rw [if_pos huv]))
            go_wp2_with fail
            go_quiet (fail)
            go_wp2_with fail
            go_roundw
            case rel => exact ⟨k + 1, by omega, by go_num, by rw [HB2.out], by first | exact K3 | exact K3.drewN _⟩
            case measure => simp [intOf]; omega
          · have HB2 := Lib.hid (HBS.out.trans (by rw [if_neg huv]))
            go_wp2_with fail
            go_quiet (fail)
            go_wp2_with fail
            go_roundw
            case rel => exact ⟨k + 1, by omega, by go_num, by rw [HB2.out], by first | exact K3 | exact K3.drewN _⟩
            case measure => simp [intOf]; omega
        · have i1 : ¬ (k : Int) < (N : Int) := by omega
          have i2 : ¬ (k : Int) ≤ d.t := by have := HNT.out; omega
          obtain rfl : k = N := by omega
          have hbl := bestK_lt cs k
          obtain ⟨bb, hbb⟩ : ∃ b, bestK cs k = b := ⟨_, rfl⟩
          rw [hbb] at hbl HX
          try rw [hbb]
          have hbl2 : bb < cs.length := by rw [HCSL.out]; omega
          have b0 : (0 : Int) ≤ (bb : Int) := by omega
          have b1 : (bb : Int) < (k : Int) := by omega
          obtain ⟨y1, y2⟩ := Kn.rowCell K3 (j := bb) (u := .int .i64 cs[bb]) (by simp [hbl2])
          have HY := Lib.hid (getD_of (ds := cs) hbl2)
          obtain ⟨u, hu⟩ : ∃ u, cs[bb] = u := ⟨_, rfl⟩
          rw [hu] at y1 HY
          have HX2 := Lib.hid (And.intro HX.out.1 (And.intro HX.out.2.1 (HX.out.2.2.trans HY.out)))
          clear hbl hbb hbl2 hu HX HY
          go_wp2_with fail
          go_quiet (fail)
          go_wp2_with fail
          go_ret3
          exact BTRet.of HX2.out rfl (by first | exact K3.below | exact (K3.drewN _).below)
end Go.Proofs.Ytafnebpbfmbgiaa

namespace Go.Proofs.Ytafnebpbfmbgiaa
open Go.RowKit Go.Sort
/-! draws of drums -/
def DDrum (P : Dr → Prop) (b N : Nat) (w : World) (e : Ending) (w' : World) : Prop := ∃ d : Dr, e = .returned (.agg #[.int .i64 d.k, .int .i64 d.b, .int .i64 d.t, .int .i64 d.f]) ∧ P d ∧ DR b N w [] w'
set_option maxHeartbeats 800000 in
theorem l05Clock_dr (b N : Nat) (w : World) (h : Src w b N) (hN : N ≤ 600000) :
    Calls Try.prog 40 #[.pointer (some ⟨b, 0, none⟩)] w fun e w' => ∃ x : Int, e = .returned (.int .i64 x) ∧ DR b (N + 10) w [] w' := by
  have D0 := DR.nil h
  clear h
  go_enter Try.func40, Try.ntmps40
  go_wp2_with fail
  refine (one_dr b N 12 w D0.src (by omega)).mono ?_; rintro e w1 ⟨z, rfl, h1⟩
  have D1 := D0.add h1
  clear D0 h1
  rcases z with _ | _
  · go_wp2_with fail
    refine (pick_dr b _ 100 w1 D1.src (by omega)).mono ?_; rintro e w2 ⟨x, rfl, -, h2⟩
    have D2 := D1.add h2
    go_wp2_with fail
    go_ret
    exact ⟨x, rfl, D2.mono (by omega)⟩
  · go_wp2_with fail
    refine Calls.dr (D1.al [.int .i64 (-1), .int .i64 0, .int .i64 100000, .int .i64 100001] 2) ?_; intro w5 D5
    obtain ⟨hr, hA⟩ := DR.lit (ds := [-1, 0, 100000, 100001]) D5 (by decide)
    refine (among_dr b _ _ 4 4 _ w5 D5.src (by omega) hr hA (by omega) (by omega)).mono ?_; rintro e w6 ⟨x, rfl, hx, h6⟩
    have D6 := D5.add h6
    clear hr hA D1 D5 h6 hx
    go_wp2_with fail
    go_ret
    exact ⟨x, rfl, (D6.sel [] 99 (by decide) (by decide)).mono (by omega)⟩
theorem DR.box4 {b N : Nat} {w wi : World} {m : List Ent} {g : Nat} {v0 v1 v2 v3 : Value} {T : TypeId} (h : DR b N w (.blk g [v0, v1, v2, v3] T :: m) wi) : wi.cell? ⟨g, 0, none⟩ = some v0 ∧ wi.cell? ⟨g, 1, none⟩ = some v1 := by
  obtain ⟨v, -, -, hK⟩ := h
  exact ⟨hK.blkAt.1 0, hK.blkAt.1 1⟩
set_option maxRecDepth 100000 in
set_option maxHeartbeats 3200000 in
theorem l05Draw_dr (b N : Nat) (w : World) (h : Src w b N) (hN : N ≤ 600000) :
    Calls Try.prog 92 #[.pointer (some ⟨b, 0, none⟩)] w (DDrum (fun d => (1 ≤ d.k ∧ d.k ≤ 3) ∧ (2 ≤ d.b ∧ d.b ≤ 16) ∧ (2 ≤ d.t ∧ d.t ≤ 40) ∧ (0 ≤ d.f ∧ d.f ≤ 50)) b (N + 20) w) := by
  unfold DDrum
  have D0 := DR.nil h
  clear h
  go_enter Try.func92, Try.ntmps92
  go_wp2_with fail
  refine Calls.dr (D0.al [.int .i64 0, .int .i64 0, .int .i64 0, .int .i64 0] 25) ?_; intro w1 D1
  refine (pick_dr b N 3 w1 D1.src (by omega)).mono ?_; rintro e w2 ⟨k, rfl, hk, h2⟩
  have D2 := D1.add h2
  clear D0 D1 h2
  obtain ⟨g0, hg0⟩ : ∃ g, w.heap.size = g := ⟨_, rfl⟩
  rw [hg0] at D2 ⊢
  have hk3 : 0 ≤ k ∧ k ≤ 2 := by rcases hk.2 with h | h <;> omega
  obtain ⟨K, hK⟩ : ∃ K, 1 + k = K := ⟨_, rfl⟩
  have wk : IntKind.i64.wrap (1 + k) = K := by rw [wrapI64 (by omega)]; exact hK
  have hKb : 1 ≤ K ∧ K ≤ 3 := by omega
  clear hk hk3 hg0 hK
  obtain ⟨g, hg⟩ : ∃ g, w2.heap.size = g := ⟨_, rfl⟩
  go_wp2_with fail
  refine Calls.dr (D2.al [.int .i64 K, .int .i64 10, .int .i64 0, .int .i64 0] 25) ?_; intro w3 D3
  rw [hg] at D3
  try rw [hg]
  clear hg D2
  refine (one_dr b _ 3 w3 D3.src (by omega)).mono ?_; rintro e w4 ⟨z, rfl, h4⟩
  have D4 : DR b _ w [.blk g [.int .i64 K, .int .i64 10, .int .i64 0, .int .i64 0] 25, .blk g0 [.int .i64 0, .int .i64 0, .int .i64 0, .int .i64 0] 25] w4 := D3.add h4
  clear D3 h4
  rcases z with _ | _
  · have D6 := D4.mono (M := N + 6) (by omega)
    have hB : 2 ≤ (10 : Int) ∧ (10 : Int) ≤ 16 := by omega
    clear D4
    obtain ⟨a1, a2, a3, -⟩ := D6.cells
    have HG := Lib.hid (D6.drew.box4)
    have HP := Lib.hid (pick_dr b _ 20 _ D6.drew.src (by omega))
    go_upto_region 4 with fail
    go_region_held3 (fun W => W.cell? ⟨g, 0, none⟩ = some (.int .i64 K) ∧ W.cell? ⟨g, 1, none⟩ = some (.int .i64 10)) (first | with_reducible exact HG.out | with_reducible exact HT.out) (first
      | (go_at_call 38; refine HP.out.mono ?_; rintro e w7 ⟨y, rfl, hy, h7⟩; have D7 := D6.drew.add h7; clear HG; have HG := Lib.hid (D7.box4); have hy2 : 0 ≤ y ∧ y ≤ 19 := by { rcases hy.2 with h | h <;> omega }; obtain ⟨T, hTT⟩ : ∃ T, 10 + y = T := ⟨_, rfl⟩; have hT : 10 ≤ T ∧ T ≤ 10 + 19 := by { omega }; have wt : IntKind.i64.wrap (10 + y) = T := by { rw [wrapI64 (by omega)]; exact hTT }; clear hTT; have D8 := D7.st 2 (.int .i64 T); have HT := Lib.hid (D8.box4); obtain ⟨b1, b2, b3, -⟩ := D7.cells))
    go_upto_region 5 with fail
    refine Code.wp.dr D8 ?_; clear D8; intro w8 D8
    clear a1 a2 a3 b1 b2 b3 D6 D7 HG HT h7 hy hy2
    obtain ⟨a1, a2, a3, -⟩ := D8.cells
    by_cases hK3 : K = 3
    · have k1 : (K == 3) = true := by simpa using hK3
      have k2 : (K != 3) = false := by simpa using hK3
      clear hK3
      go_upto_region 7 with fail
      clear a1 a2 a3
      obtain ⟨a1, a2, a3, c1, c2, c3, -⟩ := D8.cells
      go_wp2_with fail
      refine bodyPost.dr (((((D8.front 1 rfl).st 0 (.int .i64 K)).st 1 (.int .i64 10)).st 2 (.int .i64 T)).st 3 (.int .i64 0)) ?_; intro w9 D9
      clear a1 a2 a3 c1 c2 c3
      obtain ⟨a1, a2, a3, -⟩ := D9.cells
      refine bodyPost_ret (v := .agg #[.int .i64 K, .int .i64 10, .int .i64 T, .int .i64 0]) (by simp [results, Try.results92, go_sem, a1]) rfl ⟨⟨K, 10, T, 0⟩, rfl, ?_, (D9.sel [] 99 (by decide) (by decide)).mono (by omega)⟩
      exact ⟨hKb, hB, by constructor <;> (simp only []; omega), by constructor <;> (simp only []; omega)⟩
    · have k1 : (K == 3) = false := by simpa using hK3
      have k2 : (K != 3) = true := by simpa using hK3
      clear hK3
      obtain ⟨Y, hY⟩ : ∃ Y, T - 10 + 2 = Y := ⟨_, rfl⟩
      have wy1 : IntKind.i64.wrap (T - 10) = T - 10 := wrapI64 (by omega)
      have wy2 : IntKind.i64.wrap (T - 10 + 2) = Y := by rw [wrapI64 (by omega)]; exact hY
      have hYb : 2 ≤ Y ∧ Y ≤ 21 := by omega
      clear hY
      have HP := Lib.hid (pick_dr b _ Y _ D8.src (by omega))
      go_upto_region 7 with (go_at_call 38; refine HP.out.mono ?_; rintro e w9 ⟨f, rfl, hf, h9⟩; have D9 := D8.add h9; clear a1 a2 a3; obtain ⟨a1, a2, a3, -⟩ := D9.cells; have hf2 : 0 ≤ f ∧ f ≤ 20 := by { rcases hf.2 with h | h <;> omega }; obtain ⟨F, hF⟩ : ∃ F, 1 + f = F := ⟨_, rfl⟩; have hFb : 1 ≤ F ∧ F ≤ 21 := by { omega }; have wf : IntKind.i64.wrap (1 + f) = F := by { rw [wrapI64 (by omega)]; exact hF }; clear hF)
      refine Code.wp.dr (D9.st 3 (.int .i64 F)) ?_; clear D8 D9; intro w8 D8
      clear a1 a2 a3
      obtain ⟨a1, a2, a3, c1, c2, c3, -⟩ := D8.cells
      go_wp2_with fail
      refine bodyPost.dr (((((D8.front 1 rfl).st 0 (.int .i64 K)).st 1 (.int .i64 10)).st 2 (.int .i64 T)).st 3 (.int .i64 F)) ?_; intro w9 D9
      clear a1 a2 a3 c1 c2 c3
      obtain ⟨a1, a2, a3, -⟩ := D9.cells
      refine bodyPost_ret (v := .agg #[.int .i64 K, .int .i64 10, .int .i64 T, .int .i64 F]) (by simp [results, Try.results92, go_sem, a1]) rfl ⟨⟨K, 10, T, F⟩, rfl, ?_, (D9.sel [] 99 (by decide) (by decide)).mono (by omega)⟩
      exact ⟨hKb, hB, by constructor <;> (simp only []; omega), by constructor <;> (simp only []; omega)⟩
  · go_wp2_with fail
    refine (pick_dr b _ 15 w4 D4.src (by omega)).mono ?_; rintro e w5 ⟨y, rfl, hy, h5⟩
    have D5 := D4.add h5
    clear D4 h5
    have hy2 : 0 ≤ y ∧ y ≤ 14 := by rcases hy.2 with h | h <;> omega
    obtain ⟨B, hBB⟩ : ∃ B, 2 + y = B := ⟨_, rfl⟩
    have wy : IntKind.i64.wrap (2 + y) = B := by rw [wrapI64 (by omega)]; exact hBB
    have hB : 2 ≤ B ∧ B ≤ 16 := by omega
    obtain ⟨a1, a2, a3, -⟩ := D5.cells
    go_upto_region 4 with fail
    refine Code.wp.dr ((D5.st 1 (.int .i64 B)).mono (M := N + 6) (by omega)) ?_; intro w6 D6
    clear a1 a2 a3 D5 hBB hy hy2
    obtain ⟨a1, a2, a3, -⟩ := D6.cells
    have HG := Lib.hid (D6.drew.box4)
    have HP := Lib.hid (pick_dr b _ 20 _ D6.drew.src (by omega))
    go_upto_region 4 with fail
    go_region_held3 (fun W => W.cell? ⟨g, 0, none⟩ = some (.int .i64 K) ∧ W.cell? ⟨g, 1, none⟩ = some (.int .i64 B)) (first | with_reducible exact HG.out | with_reducible exact HT.out) (first
      | (go_at_call 38; refine HP.out.mono ?_; rintro e w7 ⟨y, rfl, hy, h7⟩; have D7 := D6.drew.add h7; clear HG; have HG := Lib.hid (D7.box4); have hy2 : 0 ≤ y ∧ y ≤ 19 := by { rcases hy.2 with h | h <;> omega }; obtain ⟨T, hTT⟩ : ∃ T, B + y = T := ⟨_, rfl⟩; have hT : B ≤ T ∧ T ≤ B + 19 := by { omega }; have wt : IntKind.i64.wrap (B + y) = T := by { rw [wrapI64 (by omega)]; exact hTT }; clear hTT; have D8 := D7.st 2 (.int .i64 T); have HT := Lib.hid (D8.box4); obtain ⟨b1, b2, b3, -⟩ := D7.cells))
    go_upto_region 5 with fail
    refine Code.wp.dr D8 ?_; clear D8; intro w8 D8
    clear a1 a2 a3 b1 b2 b3 D6 D7 HG HT h7 hy hy2
    obtain ⟨a1, a2, a3, -⟩ := D8.cells
    by_cases hK3 : K = 3
    · have k1 : (K == 3) = true := by simpa using hK3
      have k2 : (K != 3) = false := by simpa using hK3
      clear hK3
      go_upto_region 7 with fail
      clear a1 a2 a3
      obtain ⟨a1, a2, a3, c1, c2, c3, -⟩ := D8.cells
      go_wp2_with fail
      refine bodyPost.dr (((((D8.front 1 rfl).st 0 (.int .i64 K)).st 1 (.int .i64 B)).st 2 (.int .i64 T)).st 3 (.int .i64 0)) ?_; intro w9 D9
      clear a1 a2 a3 c1 c2 c3
      obtain ⟨a1, a2, a3, -⟩ := D9.cells
      refine bodyPost_ret (v := .agg #[.int .i64 K, .int .i64 B, .int .i64 T, .int .i64 0]) (by simp [results, Try.results92, go_sem, a1]) rfl ⟨⟨K, B, T, 0⟩, rfl, ?_, (D9.sel [] 99 (by decide) (by decide)).mono (by omega)⟩
      exact ⟨hKb, hB, by constructor <;> (simp only []; omega), by constructor <;> (simp only []; omega)⟩
    · have k1 : (K == 3) = false := by simpa using hK3
      have k2 : (K != 3) = true := by simpa using hK3
      clear hK3
      obtain ⟨Y, hY⟩ : ∃ Y, T - B + 2 = Y := ⟨_, rfl⟩
      have wy1 : IntKind.i64.wrap (T - B) = T - B := wrapI64 (by omega)
      have wy2 : IntKind.i64.wrap (T - B + 2) = Y := by rw [wrapI64 (by omega)]; exact hY
      have hYb : 2 ≤ Y ∧ Y ≤ 21 := by omega
      clear hY
      have HP := Lib.hid (pick_dr b _ Y _ D8.src (by omega))
      go_upto_region 7 with (go_at_call 38; refine HP.out.mono ?_; rintro e w9 ⟨f, rfl, hf, h9⟩; have D9 := D8.add h9; clear a1 a2 a3; obtain ⟨a1, a2, a3, -⟩ := D9.cells; have hf2 : 0 ≤ f ∧ f ≤ 20 := by { rcases hf.2 with h | h <;> omega }; obtain ⟨F, hF⟩ : ∃ F, 1 + f = F := ⟨_, rfl⟩; have hFb : 1 ≤ F ∧ F ≤ 21 := by { omega }; have wf : IntKind.i64.wrap (1 + f) = F := by { rw [wrapI64 (by omega)]; exact hF }; clear hF)
      refine Code.wp.dr (D9.st 3 (.int .i64 F)) ?_; clear D8 D9; intro w8 D8
      clear a1 a2 a3
      obtain ⟨a1, a2, a3, c1, c2, c3, -⟩ := D8.cells
      go_wp2_with fail
      refine bodyPost.dr (((((D8.front 1 rfl).st 0 (.int .i64 K)).st 1 (.int .i64 B)).st 2 (.int .i64 T)).st 3 (.int .i64 F)) ?_; intro w9 D9
      clear a1 a2 a3 c1 c2 c3
      obtain ⟨a1, a2, a3, -⟩ := D9.cells
      refine bodyPost_ret (v := .agg #[.int .i64 K, .int .i64 B, .int .i64 T, .int .i64 F]) (by simp [results, Try.results92, go_sem, a1]) rfl ⟨⟨K, B, T, F⟩, rfl, ?_, (D9.sel [] 99 (by decide) (by decide)).mono (by omega)⟩
      exact ⟨hKb, hB, by constructor <;> (simp only []; omega), by constructor <;> (simp only []; omega)⟩
set_option maxRecDepth 100000 in
set_option maxHeartbeats 3200000 in
theorem l05Bent_dr (b N : Nat) (w : World) (h : Src w b N) (hN : N ≤ 600000) :
    Calls Try.prog 34 #[.pointer (some ⟨b, 0, none⟩)] w (DDrum (fun d => 1 ≤ d.b ∧ d.b ≤ 17) b (N + 30) w) := by
  unfold DDrum
  have D0 := DR.nil h
  clear h
  go_enter Try.func34, Try.ntmps34
  go_wp2_with fail
  refine Calls.dr (D0.al [.int .i64 0, .int .i64 0, .int .i64 0, .int .i64 0] 25) ?_; intro w1 D1
  have KD := l05Draw_dr b N w1 D1.src (by omega)
  unfold DDrum at KD
  refine KD.mono ?_; rintro e w2 ⟨⟨k, B, t, f⟩, rfl, hP, h2⟩
  have D2 := D1.add h2
  simp only at hP
  obtain ⟨⟨k1, k2⟩, ⟨b1, b2⟩, ⟨t1, t2⟩, ⟨f1, f2⟩⟩ := hP
  clear D0 D1 h2 KD
  obtain ⟨g0, hg0⟩ : ∃ g, w.heap.size = g := ⟨_, rfl⟩
  rw [hg0] at D2 ⊢
  clear hg0
  obtain ⟨g, hg⟩ : ∃ g, w2.heap.size = g := ⟨_, rfl⟩
  go_wp2_with fail
  refine Calls.dr (D2.al [.int .i64 k, .int .i64 B, .int .i64 t, .int .i64 f] 25) ?_; intro w3 D3
  rw [hg] at D3
  try rw [hg]
  clear hg D2
  refine (pick_dr b _ 24 w3 D3.src (by omega)).mono ?_; rintro e w4 ⟨y, rfl, hy, h4⟩
  have D4 : DR b _ w [.blk g [.int .i64 k, .int .i64 B, .int .i64 t, .int .i64 f] 25, .blk g0 [.int .i64 0, .int .i64 0, .int .i64 0, .int .i64 0] 25] w4 := D3.add h4
  clear D3 h4
  have y0 : 0 ≤ y := hy.1
  clear hy
  by_cases h0 : y = 0
  · subst h0
    go_wp2_with fail
    refine Calls.dr (D4.al [.int .i64 0, .int .i64 1, .int .i64 4, .int .i64 (-9223372036854775808)] 2) ?_; intro w5 D5
    obtain ⟨hr, hA⟩ := DR.lit (ds := [0, 1, 4, -9223372036854775808]) D5 (by simp)
    refine (among_dr b _ _ 4 4 _ w5 D5.src (by omega) hr hA (by omega) (by omega)).mono ?_; rintro e w6 ⟨x, rfl, hx, h6⟩
    have D6 := D5.add h6
    clear hr hA D4 D5 h6
    obtain ⟨l1, l2, l3, a1, a2, a3, d1, d2, d3, -⟩ := D6.cells
    go_upto_region 11 with fail
    refine Code.wp.dr (((D6.front 1 rfl).st 0 (.int .i64 x)).sel [0, 2] 99 (by decide) (by decide)) ?_; intro w8 D8
    clear D6 l1 l2 l3 a1 a2 a3 d1 d2 d3
    obtain ⟨a1, a2, a3, c1, c2, c3, -⟩ := D8.cells
    go_wp2_with fail
    refine bodyPost.dr (((((D8.front 1 rfl).st 0 (.int .i64 x)).st 1 (.int .i64 B)).st 2 (.int .i64 t)).st 3 (.int .i64 f)) ?_; intro w9 D9
    clear a1 a2 a3 c1 c2 c3
    obtain ⟨a1, a2, a3, -⟩ := D9.cells
    refine bodyPost_ret (v := .agg #[.int .i64 x, .int .i64 B, .int .i64 t, .int .i64 f]) (by simp [results, Try.results34, go_sem, a1]) rfl ⟨⟨x, B, t, f⟩, rfl, ?_, (D9.sel [] 99 (by decide) (by decide)).mono (by omega)⟩
    constructor <;> (simp only []; omega)
  by_cases h1 : y = 1
  · subst h1
    go_wp2_with fail
    refine Calls.dr (D4.al [.int .i64 1, .int .i64 2, .int .i64 16, .int .i64 17] 2) ?_; intro w5 D5
    obtain ⟨hr, hA⟩ := DR.lit (ds := [1, 2, 16, 17]) D5 (by simp)
    refine (among_dr b _ _ 4 4 _ w5 D5.src (by omega) hr hA (by omega) (by omega)).mono ?_; rintro e w6 ⟨x, rfl, hx, h6⟩
    have D6 := D5.add h6
    clear hr hA D4 D5 h6
    obtain ⟨l1, l2, l3, a1, a2, a3, d1, d2, d3, -⟩ := D6.cells
    go_upto_region 11 with fail
    refine Code.wp.dr (((D6.front 1 rfl).st 1 (.int .i64 x)).sel [0, 2] 99 (by decide) (by decide)) ?_; intro w8 D8
    clear D6 l1 l2 l3 a1 a2 a3 d1 d2 d3
    have hx2 : 1 ≤ x ∧ x ≤ 17 := by simp only [List.mem_cons, List.not_mem_nil, or_false] at hx; omega
    clear hx
    obtain ⟨a1, a2, a3, c1, c2, c3, -⟩ := D8.cells
    go_wp2_with fail
    refine bodyPost.dr (((((D8.front 1 rfl).st 0 (.int .i64 k)).st 1 (.int .i64 x)).st 2 (.int .i64 t)).st 3 (.int .i64 f)) ?_; intro w9 D9
    clear a1 a2 a3 c1 c2 c3
    obtain ⟨a1, a2, a3, -⟩ := D9.cells
    refine bodyPost_ret (v := .agg #[.int .i64 k, .int .i64 x, .int .i64 t, .int .i64 f]) (by simp [results, Try.results34, go_sem, a1]) rfl ⟨⟨k, x, t, f⟩, rfl, ?_, (D9.sel [] 99 (by decide) (by decide)).mono (by omega)⟩
    exact hx2
  by_cases h2 : y = 2
  · subst h2
    have wb : IntKind.i64.wrap (B - 1) = B - 1 := wrapI64 (by omega)
    obtain ⟨q1, q2, q3, -⟩ := D4.cells
    go_wp2_with fail
    refine Calls.dr (D4.al [.int .i64 (B - 1), .int .i64 60, .int .i64 61, .int .i64 (-9223372036854775808)] 2) ?_; intro w5 D5
    obtain ⟨hr, hA⟩ := DR.lit (ds := [B - 1, 60, 61, -9223372036854775808]) D5 (by simp)
    refine (among_dr b _ _ 4 4 _ w5 D5.src (by omega) hr hA (by omega) (by omega)).mono ?_; rintro e w6 ⟨x, rfl, hx, h6⟩
    have D6 := D5.add h6
    clear hr hA D4 D5 h6
    obtain ⟨l1, l2, l3, a1, a2, a3, d1, d2, d3, -⟩ := D6.cells
    go_upto_region 11 with fail
    refine Code.wp.dr (((D6.front 1 rfl).st 2 (.int .i64 x)).sel [0, 2] 99 (by decide) (by decide)) ?_; intro w8 D8
    clear D6 l1 l2 l3 a1 a2 a3 d1 d2 d3
    obtain ⟨a1, a2, a3, c1, c2, c3, -⟩ := D8.cells
    go_wp2_with fail
    refine bodyPost.dr (((((D8.front 1 rfl).st 0 (.int .i64 k)).st 1 (.int .i64 B)).st 2 (.int .i64 x)).st 3 (.int .i64 f)) ?_; intro w9 D9
    clear a1 a2 a3 c1 c2 c3
    obtain ⟨a1, a2, a3, -⟩ := D9.cells
    refine bodyPost_ret (v := .agg #[.int .i64 k, .int .i64 B, .int .i64 x, .int .i64 f]) (by simp [results, Try.results34, go_sem, a1]) rfl ⟨⟨k, B, x, f⟩, rfl, ?_, (D9.sel [] 99 (by decide) (by decide)).mono (by omega)⟩
    constructor <;> (simp only []; omega)
  by_cases h3 : y = 3
  · subst h3
    have wb1 : IntKind.i64.wrap (t - B) = t - B := wrapI64 (by omega)
    have wb2 : IntKind.i64.wrap (t - B + 2) = t - B + 2 := wrapI64 (by omega)
    have wb3 : IntKind.i64.wrap (t - B + 3) = t - B + 3 := wrapI64 (by omega)
    obtain ⟨q1, q2, q3, -⟩ := D4.cells
    go_wp2_with fail
    refine Calls.dr (D4.al [.int .i64 0, .int .i64 1, .int .i64 (t - B + 2), .int .i64 (t - B + 3), .int .i64 (-1)] 2) ?_; intro w5 D5
    obtain ⟨hr, hA⟩ := DR.lit (ds := [0, 1, t - B + 2, t - B + 3, -1]) D5 (by simp)
    refine (among_dr b _ _ 5 5 _ w5 D5.src (by omega) hr hA (by omega) (by omega)).mono ?_; rintro e w6 ⟨x, rfl, hx, h6⟩
    have D6 := D5.add h6
    clear hr hA D4 D5 h6
    obtain ⟨l1, l2, l3, a1, a2, a3, d1, d2, d3, -⟩ := D6.cells
    go_upto_region 11 with fail
    refine Code.wp.dr (((D6.front 1 rfl).st 3 (.int .i64 x)).sel [0, 2] 99 (by decide) (by decide)) ?_; intro w8 D8
    clear D6 l1 l2 l3 a1 a2 a3 d1 d2 d3
    obtain ⟨a1, a2, a3, c1, c2, c3, -⟩ := D8.cells
    go_wp2_with fail
    refine bodyPost.dr (((((D8.front 1 rfl).st 0 (.int .i64 k)).st 1 (.int .i64 B)).st 2 (.int .i64 t)).st 3 (.int .i64 x)) ?_; intro w9 D9
    clear a1 a2 a3 c1 c2 c3
    obtain ⟨a1, a2, a3, -⟩ := D9.cells
    refine bodyPost_ret (v := .agg #[.int .i64 k, .int .i64 B, .int .i64 t, .int .i64 x]) (by simp [results, Try.results34, go_sem, a1]) rfl ⟨⟨k, B, t, x⟩, rfl, ?_, (D9.sel [] 99 (by decide) (by decide)).mono (by omega)⟩
    constructor <;> (simp only []; omega)
  · have y1 : (y == 0) = false := by simpa using h0
    have y2 : (y == 1) = false := by simpa using h1
    have y3 : (y == 2) = false := by simpa using h2
    have y4 : (y == 3) = false := by simpa using h3
    go_upto_region 11 with fail
    have D8 := (D4.front 0 rfl)
    obtain ⟨a1, a2, a3, c1, c2, c3, -⟩ := D8.cells
    go_wp2_with fail
    refine bodyPost.dr (((((D8.front 1 rfl).st 0 (.int .i64 k)).st 1 (.int .i64 B)).st 2 (.int .i64 t)).st 3 (.int .i64 f)) ?_; intro w9 D9
    clear a1 a2 a3 c1 c2 c3
    obtain ⟨a1, a2, a3, -⟩ := D9.cells
    refine bodyPost_ret (v := .agg #[.int .i64 k, .int .i64 B, .int .i64 t, .int .i64 f]) (by simp [results, Try.results34, go_sem, a1]) rfl ⟨⟨k, B, t, f⟩, rfl, ?_, (D9.sel [] 99 (by decide) (by decide)).mono (by omega)⟩
    constructor <;> (simp only []; omega)
end Go.Proofs.Ytafnebpbfmbgiaa

namespace Go.Proofs.Ytafnebpbfmbgiaa
open Go.RowKit Go.Sort
theorem DR.box4' {b N : Nat} {w wi : World} {m : List Ent} {g : Nat} {v0 v1 v2 v3 : Value} {T : TypeId} (h : DR b N w (.blk g [v0, v1, v2, v3] T :: m) wi) : wi.cell? ⟨g, 0, none⟩ = some v0 ∧ wi.cell? ⟨g, 1, none⟩ = some v1 ∧ wi.cell? ⟨g, 2, none⟩ = some v2 ∧ wi.cell? ⟨g, 3, none⟩ = some v3 := by
  obtain ⟨v, -, -, hK⟩ := h
  exact ⟨hK.blkAt.1 0, hK.blkAt.1 1, hK.blkAt.1 2, hK.blkAt.1 3⟩
set_option maxRecDepth 100000 in
set_option maxHeartbeats 3200000 in
theorem l05Digit_dr (b N : Nat) (w : World) (h : Src w b N) (hN : N ≤ 500000) :
    Calls Try.prog 51 #[.pointer (some ⟨b, 0, none⟩)] w fun e w' => ∃ (d : Dr) (x : Int), e = .returned (.tuple #[.agg #[.int .i64 d.k, .int .i64 d.b, .int .i64 d.t, .int .i64 d.f], .int .i64 x]) ∧ DR b (N + 40) w [] w' := by
  have D0 := DR.nil h
  clear h
  go_enter Try.func51, Try.ntmps51
  go_wp2_with fail
  refine Calls.dr (D0.al [.int .i64 0, .int .i64 0, .int .i64 0, .int .i64 0] 25) ?_; intro w1 D1
  have KD := l05Bent_dr b N w1 D1.src (by omega)
  unfold DDrum at KD
  refine KD.mono ?_; rintro e w2 ⟨⟨k, B, t, f⟩, rfl, hP, h2⟩
  have D2 := D1.add h2
  simp only at hP
  clear D0 D1 h2 KD
  obtain ⟨g0, hg0⟩ : ∃ g, w.heap.size = g := ⟨_, rfl⟩
  rw [hg0] at D2 ⊢
  clear hg0
  obtain ⟨g, hg⟩ : ∃ g, w2.heap.size = g := ⟨_, rfl⟩
  go_wp2_with fail
  refine Calls.dr (D2.al [.int .i64 k, .int .i64 B, .int .i64 t, .int .i64 f] 25) ?_; intro w3 D3
  rw [hg] at D3
  try rw [hg]
  clear hg D2
  refine (one_dr b _ 12 w3 D3.src (by omega)).mono ?_; rintro e w4 ⟨z, rfl, h4⟩
  have D4 : DR b _ w [.blk g [.int .i64 k, .int .i64 B, .int .i64 t, .int .i64 f] 25, .blk g0 [.int .i64 0, .int .i64 0, .int .i64 0, .int .i64 0] 25] w4 := D3.add h4
  clear D3 h4
  rcases z with _ | _
  · go_wp2_with fail
    have HG := Lib.hid D4.drew.box4'
    have HT := HG
    have hm : 1 ≤ max 1 (min 16 B) ∧ max 1 (min 16 B) ≤ 16 := by omega
    have HP := Lib.hid (pick_dr b _ (max 1 (min 16 B)) _ D4.drew.src (by omega))
    go_region_held3 (fun W => W.cell? ⟨g, 0, none⟩ = some (.int .i64 k) ∧ W.cell? ⟨g, 1, none⟩ = some (.int .i64 B) ∧ W.cell? ⟨g, 2, none⟩ = some (.int .i64 t) ∧ W.cell? ⟨g, 3, none⟩ = some (.int .i64 f)) (first | with_reducible exact HG.out | with_reducible exact HT.out) (first
      | (go_at_call 99; (with_reducible refine (l00Min_any _ _ _).mono ?_); rintro e w5 ⟨rfl, rfl⟩)
      | (go_at_call 98; (with_reducible refine (l00Max_any _ _ _).mono ?_); rintro e w5 ⟨rfl, rfl⟩)
      | (go_at_call 38; refine HP.out.mono ?_; rintro e w6 ⟨x, rfl, -, h6⟩; have D6 := D4.drew.add h6; clear HG; have HG := Lib.hid D6.box4'; have D7 := D6.front 1 rfl; have D8 := ((((D7.st 0 (.int .i64 k)).st 1 (.int .i64 B)).st 2 (.int .i64 t)).st 3 (.int .i64 f)); clear HT; have HT := Lib.hid (D8.front 1 rfl).box4'; obtain ⟨a1, a2, a3, -⟩ := D7.cells))
    all_goals
      go_wp2_with fail
      refine bodyPost.dr D8 ?_; intro w9 D9
      clear a1 a2 a3
      obtain ⟨a1, a2, a3, -⟩ := D9.cells
      exact bodyPost_ret (v := .tuple #[.agg #[.int .i64 k, .int .i64 B, .int .i64 t, .int .i64 f], .int .i64 x]) (by simp [results, Try.results51, go_sem, a1]) rfl ⟨⟨k, B, t, f⟩, x, rfl, (D9.sel [] 99 (by decide) (by decide)).mono (by omega)⟩
  · go_wp2_with fail
    have HG := Lib.hid D4.drew.box4'
    have D5 := (D4.al [.int .i64 (-1), .int .i64 B, .int .i64 9223372036854775807] 2).drew
    have HT := Lib.hid (D5.front 1 rfl).box4'
    have hRA := DR.lit (ds := [-1, B, 9223372036854775807]) D5 (by simp)
    have HP := Lib.hid (among_dr b _ _ 3 3 _ _ D5.src (by omega) hRA.1 hRA.2 (by omega) (by omega))
    clear hRA
    go_region_held3 (fun W => W.cell? ⟨g, 0, none⟩ = some (.int .i64 k) ∧ W.cell? ⟨g, 1, none⟩ = some (.int .i64 B) ∧ W.cell? ⟨g, 2, none⟩ = some (.int .i64 t) ∧ W.cell? ⟨g, 3, none⟩ = some (.int .i64 f)) (first | with_reducible exact HG.out | with_reducible exact HT.out) (first
      | (go_at_call 52; refine HP.out.mono ?_; rintro e w6 ⟨x, rfl, -, h6⟩; have D6 := D5.add h6; clear HG; have HG := Lib.hid (D6.front 1 rfl).box4'; have D7 := D6.front 2 rfl; have D8 := ((((D7.st 0 (.int .i64 k)).st 1 (.int .i64 B)).st 2 (.int .i64 t)).st 3 (.int .i64 f)); clear HT; have HT := Lib.hid (D8.front 2 rfl).box4'; obtain ⟨a1, a2, a3, -⟩ := D7.cells))
    all_goals
      go_wp2_with fail
      refine bodyPost.dr D8 ?_; intro w9 D9
      clear a1 a2 a3
      obtain ⟨a1, a2, a3, -⟩ := D9.cells
      exact bodyPost_ret (v := .tuple #[.agg #[.int .i64 k, .int .i64 B, .int .i64 t, .int .i64 f], .int .i64 x]) (by simp [results, Try.results51, go_sem, a1]) rfl ⟨⟨k, B, t, f⟩, x, rfl, (D9.sel [] 99 (by decide) (by decide)).mono (by omega)⟩
end Go.Proofs.Ytafnebpbfmbgiaa

namespace Go.Proofs.Ytafnebpbfmbgiaa
open Go.RowKit Go.Sort
set_option maxRecDepth 100000 in
set_option maxHeartbeats 3200000 in
theorem DrawBrokenSteps_any (A : Option Addr) (n c : Nat) (bs : List UInt8) (w : World) (hb : RB w A n bs) (hn : n ≤ 9223372036854775807) :
    Calls Try.prog 9 #[.slice A n c] w fun e w' => ∃ (d : Dr) (x y : Int), e = .returned (.tuple #[.agg #[.int .i64 d.k, .int .i64 d.b, .int .i64 d.t, .int .i64 d.f], .int .i64 x, .int .i64 y]) ∧ Below w.heap.size w w' := by
  have HB := Lib.hid hb
  clear hb
  go_enter Try.func9, Try.ntmps9
  go_wp2_with fail
  refine Calls.kn ((Kn.nil w).al [.int .i64 0, .int .i64 0, .int .i64 0, .int .i64 0] 25) ?_; intro w1 K1
  refine (l00From_any A n c bs w1 (HB.out.below K1.below) hn).mono ?_; rintro e w2 ⟨rfl, hs, hb2⟩
  have D2 := DR.nil hs
  clear HB hs
  go_wp2_with fail
  refine (l05Digit_dr _ _ w2 D2.src (by omega)).mono ?_; rintro e w3 ⟨d, x, rfl, h3⟩
  have D3 := D2.add h3
  clear D2 h3
  obtain ⟨g, hg⟩ : ∃ g, w3.heap.size = g := ⟨_, rfl⟩
  go_wp2_with fail
  refine Calls.dr (D3.al [.int .i64 d.k, .int .i64 d.b, .int .i64 d.t, .int .i64 d.f] 25) ?_; intro w4 D4
  rw [hg] at D4
  try rw [hg]
  clear hg D3
  refine (pick_dr _ _ 256 w4 D4.src (by omega)).mono ?_; rintro e w5 ⟨p, rfl, hp, h5⟩
  have D5 := D4.add h5
  clear D4 h5
  have hp2 : 0 ≤ p ∧ p ≤ 255 := by rcases hp.2 with h | h <;> omega
  clear hp
  go_wp2_with fail
  refine (pick_dr _ _ 128 w5 D5.src (by omega)).mono ?_; rintro e w6 ⟨q, rfl, hq, h6⟩
  have D6 := D5.add h6
  clear D5 h6 hq
  obtain ⟨y0, hy0⟩ : ∃ y0, IntKind.i64.wrap (p * q) = y0 := ⟨_, rfl⟩
  go_wp2_with fail
  refine (pick_dr _ _ 8 w6 D6.src (by omega)).mono ?_; rintro e w7 ⟨y, rfl, hy, h7⟩
  have D7 : DR _ _ w2 [.blk g [.int .i64 d.k, .int .i64 d.b, .int .i64 d.t, .int .i64 d.f] 25] w7 := D6.add h7
  clear D6 h7
  have hy2 : 0 ≤ y ∧ y ≤ 7 := by rcases hy.2 with h | h <;> omega
  clear hy hp2
  by_cases h0 : y = 0
  · subst h0
    clear hy2
    go_wp2_with fail
    refine Calls.dr (D7.al [.int .i64 (-1), .int .i64 0, .int .i64 511, .int .i64 512, .int .i64 9223372036854775807] 2) ?_; intro w8 D8
    obtain ⟨hr, hA⟩ := DR.lit (ds := [-1, 0, 511, 512, 9223372036854775807]) D8 (by decide)
    refine (among_dr _ _ _ 5 5 _ w8 D8.src (by omega) hr hA (by omega) (by omega)).mono ?_; rintro e w9 ⟨z, rfl, -, h9⟩
    have D9 := (D8.add h9).sel [1] 99 (by decide) (by decide)
    clear hr hA D7 D8 h9
    go_upto_region 12 with fail
    have K5 : Kn w [.blk g [.int .i64 d.k, .int .i64 d.b, .int .i64 d.t, .int .i64 d.f] 25, .blk w.heap.size [.int .i64 0, .int .i64 0, .int .i64 0, .int .i64 0] 25] _ := K1.join (Kn.ofDR hb2 (Nat.le_refl _) D9)
    obtain ⟨a1, a2, a3, c1, c2, c3, -⟩ := K5.cells
    go_wp2_with fail
    refine bodyPost.kn (((((K5.front 1 rfl).st 0 (.int .i64 d.k)).st 1 (.int .i64 d.b)).st 2 (.int .i64 d.t)).st 3 (.int .i64 d.f)) ?_; intro w9 K9
    clear a1 a2 a3 c1 c2 c3
    obtain ⟨a1, a2, a3, -⟩ := K9.cells
    exact bodyPost_ret (v := .tuple #[.agg #[.int .i64 d.k, .int .i64 d.b, .int .i64 d.t, .int .i64 d.f], .int .i64 x, .int .i64 z]) (by simp [results, Try.results9, go_sem, a1]) rfl ⟨d, x, z, rfl, K9.below⟩
  · have y1 : (y == 0) = false := by simpa using h0
    by_cases h1 : y ≤ 4
    · have h' : y = 1 ∨ y = 2 ∨ y = 3 ∨ y = 4 := by omega
      clear h0 y1 h1 hy2
      rcases h' with rfl | rfl | rfl | rfl
      · go_wp2_with fail
        refine (pick_dr _ _ 2 w7 D7.src (by omega)).mono ?_; rintro e w8 ⟨u, rfl, hu, h8⟩
        have D8 := D7.add h8
        clear D7 h8
        have hu2 : 0 ≤ u ∧ u ≤ 1 := by rcases hu.2 with h | h <;> omega
        clear hu
        go_wp2_with fail
        refine (pick_dr _ _ 9 w8 D8.src (by omega)).mono ?_; rintro e w9 ⟨v, rfl, hv, h9⟩
        have D9 : DR _ _ w2 [.blk g [.int .i64 d.k, .int .i64 d.b, .int .i64 d.t, .int .i64 d.f] 25] w9 := D8.add h9
        clear D8 h9
        have v0 : 0 ≤ v := hv.1
        have v1 : v ≤ 8 := by rcases hv.2 with h | h <;> omega
        have wv : IntKind.u64.wrap v = v := by simp [IntKind.wrap, IntKind.bits, IntKind.signed]; omega
        clear hv
        go_upto_region 12 with fail
        have K5 : Kn w [.blk g [.int .i64 d.k, .int .i64 d.b, .int .i64 d.t, .int .i64 d.f] 25, .blk w.heap.size [.int .i64 0, .int .i64 0, .int .i64 0, .int .i64 0] 25] _ := K1.join (Kn.ofDR hb2 (Nat.le_refl _) D9)
        obtain ⟨a1, a2, a3, c1, c2, c3, -⟩ := K5.cells
        go_wp2_with fail
        refine bodyPost.kn (((((K5.front 1 rfl).st 0 (.int .i64 d.k)).st 1 (.int .i64 d.b)).st 2 (.int .i64 d.t)).st 3 (.int .i64 d.f)) ?_; intro w9 K9
        clear a1 a2 a3 c1 c2 c3
        obtain ⟨a1, a2, a3, -⟩ := K9.cells
        exact bodyPost_ret (v := .tuple #[.agg #[.int .i64 d.k, .int .i64 d.b, .int .i64 d.t, .int .i64 d.f], .int .i64 x, .int .i64 (wrap64 (u * 2 ^ v.toNat))]) (by simp [results, Try.results9, go_sem, a1]) rfl ⟨d, x, (wrap64 (u * 2 ^ v.toNat)), rfl, K9.below⟩
      · go_wp2_with fail
        refine (pick_dr _ _ 2 w7 D7.src (by omega)).mono ?_; rintro e w8 ⟨u, rfl, hu, h8⟩
        have D8 := D7.add h8
        clear D7 h8
        have hu2 : 0 ≤ u ∧ u ≤ 1 := by rcases hu.2 with h | h <;> omega
        clear hu
        go_wp2_with fail
        refine (pick_dr _ _ 9 w8 D8.src (by omega)).mono ?_; rintro e w9 ⟨v, rfl, hv, h9⟩
        have D9 : DR _ _ w2 [.blk g [.int .i64 d.k, .int .i64 d.b, .int .i64 d.t, .int .i64 d.f] 25] w9 := D8.add h9
        clear D8 h9
        have v0 : 0 ≤ v := hv.1
        have v1 : v ≤ 8 := by rcases hv.2 with h | h <;> omega
        have wv : IntKind.u64.wrap v = v := by simp [IntKind.wrap, IntKind.bits, IntKind.signed]; omega
        clear hv
        go_upto_region 12 with fail
        have K5 : Kn w [.blk g [.int .i64 d.k, .int .i64 d.b, .int .i64 d.t, .int .i64 d.f] 25, .blk w.heap.size [.int .i64 0, .int .i64 0, .int .i64 0, .int .i64 0] 25] _ := K1.join (Kn.ofDR hb2 (Nat.le_refl _) D9)
        obtain ⟨a1, a2, a3, c1, c2, c3, -⟩ := K5.cells
        go_wp2_with fail
        refine bodyPost.kn (((((K5.front 1 rfl).st 0 (.int .i64 d.k)).st 1 (.int .i64 d.b)).st 2 (.int .i64 d.t)).st 3 (.int .i64 d.f)) ?_; intro w9 K9
        clear a1 a2 a3 c1 c2 c3
        obtain ⟨a1, a2, a3, -⟩ := K9.cells
        exact bodyPost_ret (v := .tuple #[.agg #[.int .i64 d.k, .int .i64 d.b, .int .i64 d.t, .int .i64 d.f], .int .i64 x, .int .i64 (wrap64 (u * 2 ^ v.toNat))]) (by simp [results, Try.results9, go_sem, a1]) rfl ⟨d, x, (wrap64 (u * 2 ^ v.toNat)), rfl, K9.below⟩
      · go_wp2_with fail
        refine (pick_dr _ _ 2 w7 D7.src (by omega)).mono ?_; rintro e w8 ⟨u, rfl, hu, h8⟩
        have D8 := D7.add h8
        clear D7 h8
        have hu2 : 0 ≤ u ∧ u ≤ 1 := by rcases hu.2 with h | h <;> omega
        clear hu
        go_wp2_with fail
        refine (pick_dr _ _ 9 w8 D8.src (by omega)).mono ?_; rintro e w9 ⟨v, rfl, hv, h9⟩
        have D9 : DR _ _ w2 [.blk g [.int .i64 d.k, .int .i64 d.b, .int .i64 d.t, .int .i64 d.f] 25] w9 := D8.add h9
        clear D8 h9
        have v0 : 0 ≤ v := hv.1
        have v1 : v ≤ 8 := by rcases hv.2 with h | h <;> omega
        have wv : IntKind.u64.wrap v = v := by simp [IntKind.wrap, IntKind.bits, IntKind.signed]; omega
        clear hv
        go_upto_region 12 with fail
        have K5 : Kn w [.blk g [.int .i64 d.k, .int .i64 d.b, .int .i64 d.t, .int .i64 d.f] 25, .blk w.heap.size [.int .i64 0, .int .i64 0, .int .i64 0, .int .i64 0] 25] _ := K1.join (Kn.ofDR hb2 (Nat.le_refl _) D9)
        obtain ⟨a1, a2, a3, c1, c2, c3, -⟩ := K5.cells
        go_wp2_with fail
        refine bodyPost.kn (((((K5.front 1 rfl).st 0 (.int .i64 d.k)).st 1 (.int .i64 d.b)).st 2 (.int .i64 d.t)).st 3 (.int .i64 d.f)) ?_; intro w9 K9
        clear a1 a2 a3 c1 c2 c3
        obtain ⟨a1, a2, a3, -⟩ := K9.cells
        exact bodyPost_ret (v := .tuple #[.agg #[.int .i64 d.k, .int .i64 d.b, .int .i64 d.t, .int .i64 d.f], .int .i64 x, .int .i64 (wrap64 (u * 2 ^ v.toNat))]) (by simp [results, Try.results9, go_sem, a1]) rfl ⟨d, x, (wrap64 (u * 2 ^ v.toNat)), rfl, K9.below⟩
      · go_wp2_with fail
        refine (pick_dr _ _ 2 w7 D7.src (by omega)).mono ?_; rintro e w8 ⟨u, rfl, hu, h8⟩
        have D8 := D7.add h8
        clear D7 h8
        have hu2 : 0 ≤ u ∧ u ≤ 1 := by rcases hu.2 with h | h <;> omega
        clear hu
        go_wp2_with fail
        refine (pick_dr _ _ 9 w8 D8.src (by omega)).mono ?_; rintro e w9 ⟨v, rfl, hv, h9⟩
        have D9 : DR _ _ w2 [.blk g [.int .i64 d.k, .int .i64 d.b, .int .i64 d.t, .int .i64 d.f] 25] w9 := D8.add h9
        clear D8 h9
        have v0 : 0 ≤ v := hv.1
        have v1 : v ≤ 8 := by rcases hv.2 with h | h <;> omega
        have wv : IntKind.u64.wrap v = v := by simp [IntKind.wrap, IntKind.bits, IntKind.signed]; omega
        clear hv
        go_upto_region 12 with fail
        have K5 : Kn w [.blk g [.int .i64 d.k, .int .i64 d.b, .int .i64 d.t, .int .i64 d.f] 25, .blk w.heap.size [.int .i64 0, .int .i64 0, .int .i64 0, .int .i64 0] 25] _ := K1.join (Kn.ofDR hb2 (Nat.le_refl _) D9)
        obtain ⟨a1, a2, a3, c1, c2, c3, -⟩ := K5.cells
        go_wp2_with fail
        refine bodyPost.kn (((((K5.front 1 rfl).st 0 (.int .i64 d.k)).st 1 (.int .i64 d.b)).st 2 (.int .i64 d.t)).st 3 (.int .i64 d.f)) ?_; intro w9 K9
        clear a1 a2 a3 c1 c2 c3
        obtain ⟨a1, a2, a3, -⟩ := K9.cells
        exact bodyPost_ret (v := .tuple #[.agg #[.int .i64 d.k, .int .i64 d.b, .int .i64 d.t, .int .i64 d.f], .int .i64 x, .int .i64 (wrap64 (u * 2 ^ v.toNat))]) (by simp [results, Try.results9, go_sem, a1]) rfl ⟨d, x, (wrap64 (u * 2 ^ v.toNat)), rfl, K9.below⟩
    · have y2 : (y == 1) = false := by simp; omega
      have y3 : (y == 2) = false := by simp; omega
      have y4 : (y == 3) = false := by simp; omega
      have y5 : (y == 4) = false := by simp; omega
      clear h0 h1 hy2
      go_upto_region 12 with fail
      have K5 : Kn w [.blk g [.int .i64 d.k, .int .i64 d.b, .int .i64 d.t, .int .i64 d.f] 25, .blk w.heap.size [.int .i64 0, .int .i64 0, .int .i64 0, .int .i64 0] 25] _ := K1.join (Kn.ofDR hb2 (Nat.le_refl _) D7)
      obtain ⟨a1, a2, a3, c1, c2, c3, -⟩ := K5.cells
      go_wp2_with fail
      refine bodyPost.kn (((((K5.front 1 rfl).st 0 (.int .i64 d.k)).st 1 (.int .i64 d.b)).st 2 (.int .i64 d.t)).st 3 (.int .i64 d.f)) ?_; intro w9 K9
      clear a1 a2 a3 c1 c2 c3
      obtain ⟨a1, a2, a3, -⟩ := K9.cells
      exact bodyPost_ret (v := .tuple #[.agg #[.int .i64 d.k, .int .i64 d.b, .int .i64 d.t, .int .i64 d.f], .int .i64 x, .int .i64 y0]) (by simp [results, Try.results9, go_sem, a1]) rfl ⟨d, x, y0, rfl, K9.below⟩
end Go.Proofs.Ytafnebpbfmbgiaa

namespace Go.Proofs.Ytafnebpbfmbgiaa
open Go.RowKit Go.Sort
theorem Kn.box4 {w0 w : World} {m : List Ent} {g : Nat} {v0 v1 v2 v3 : Value} {T : TypeId} (h : Kn w0 (.blk g [v0, v1, v2, v3] T :: m) w) : w.cell? ⟨g, 0, none⟩ = some v0 ∧ w.cell? ⟨g, 1, none⟩ = some v1 ∧ w.cell? ⟨g, 2, none⟩ = some v2 ∧ w.cell? ⟨g, 3, none⟩ = some v3 :=
  ⟨h.blkAt.1 0, h.blkAt.1 1, h.blkAt.1 2, h.blkAt.1 3⟩
theorem Kn.box2 {w0 w : World} {m : List Ent} {g : Nat} {v0 v1 : Value} {T : TypeId} (h : Kn w0 (.blk g [v0, v1] T :: m) w) : w.cell? ⟨g, 0, none⟩ = some v0 ∧ w.cell? ⟨g, 1, none⟩ = some v1 := ⟨h.blkAt.1 0, h.blkAt.1 1⟩
theorem DR.drAt {b N : Nat} {w wi : World} {m : List Ent} {g : Nat} {d : Dr} {T : TypeId} (h : DR b N w (.blk g [.int .i64 d.k, .int .i64 d.b, .int .i64 d.t, .int .i64 d.f] T :: m) wi) : DrAt wi g d := h.box4'

set_option maxRecDepth 100000 in
set_option maxHeartbeats 6400000 in
theorem DrawBusiestTime_any (A : Option Addr) (n c : Nat) (bs : List UInt8) (w : World) (hb : RB w A n bs) (hn : n ≤ 9223372036854775807) :
    Calls Try.prog 12 #[.slice A n c] w fun e w' => ∃ (d : Dr) (b : Int) (A : Option Addr) (c : Nat) (ds : List Int), e = .returned (.tuple #[.agg #[.int .i64 d.k, .int .i64 d.b, .int .i64 d.t, .int .i64 d.f], .agg #[.int .i64 b, .slice A ds.length c]]) ∧ ds.length ≤ 20 ∧ Kn w [rowI A c ds] w' := by
  have HB := Lib.hid hb
  clear hb
  go_enter Try.func12, Try.ntmps12
  go_wp2_with fail
  refine Calls.kn (((Kn.nil w).al [.int .i64 0, .int .i64 0, .int .i64 0, .int .i64 0] 25).al [.int .i64 0, .slice none 0 0] 28) ?_; intro w1 K1
  simp only [World.size_alloc] at K1
  refine (l00From_any A n c bs w1 (HB.out.below K1.below) hn).mono ?_; rintro e w2 ⟨rfl, hs, hb2⟩
  have D2 := DR.nil hs
  clear HB hs
  go_wp2_with fail
  have KD := l05Bent_dr _ _ w2 D2.src (by omega)
  unfold DDrum at KD
  refine KD.mono ?_; rintro e w3 ⟨d, rfl, -, h3⟩
  have D3 := D2.add h3
  clear D2 h3 KD
  obtain ⟨g, hg⟩ : ∃ g, w3.heap.size = g := ⟨_, rfl⟩
  go_wp2_with fail
  refine Calls.dr (D3.al [.int .i64 d.k, .int .i64 d.b, .int .i64 d.t, .int .i64 d.f] 25) ?_; intro w4 D4
  rw [hg] at D4
  try rw [hg]
  clear hg D3
  have KD := l02Bent_dr _ _ w4 D4.src (by omega)
  unfold DReg2 at KD
  refine KD.mono ?_; rintro e w5 ⟨b, A, c, ds, rfl, hl, h5⟩
  have D5 : DR w1.heap.size _ w2 [rowI A c ds, .blk g [.int .i64 d.k, .int .i64 d.b, .int .i64 d.t, .int .i64 d.f] 25] w5 := D4.add h5
  clear D4 h5 KD
  obtain ⟨h, hh⟩ : ∃ g, w5.heap.size = g := ⟨_, rfl⟩
  go_wp2_with fail
  refine Calls.dr (D5.al [.int .i64 b, .slice A ds.length c] 28) ?_; intro w6 D6
  rw [hh] at D6
  try rw [hh]
  clear hh D5
  have D6 : DR w1.heap.size _ w2 [.blk h [.int .i64 b, .slice A ds.length c] 28, .blk g [.int .i64 d.k, .int .i64 d.b, .int .i64 d.t, .int .i64 d.f] 25, rowI A c ds] w6 := D6.sel [0, 2, 1] 99 (by decide) (by decide)
  refine (l05Ok_any g d w6 (D6.front 1 rfl).drAt).mono ?_; rintro e w7 ⟨rfl, q, rfl⟩
  have D7 := D6.keep (drewN_below q)
  generalize w6.drewN q = w7 at D7 ⊢
  clear D6
  rcases ho : drOk d with _ | _
  · clear ho
    go_upto_region 6 with fail
    have K5 : Kn w [.blk h [.int .i64 b, .slice A ds.length c] 28, .blk g [.int .i64 d.k, .int .i64 d.b, .int .i64 d.t, .int .i64 d.f] 25, rowI A c ds, .blk (w.heap.size + 1) [.int .i64 0, .slice none 0 0] 28, .blk w.heap.size [.int .i64 0, .int .i64 0, .int .i64 0, .int .i64 0] 25] w7 := K1.join (Kn.ofDR hb2 (Nat.le_refl _) D7)
    clear D7 K1 hb2
    have HG := Lib.hid (And.intro (K5.drew.front 1 rfl).box4 (K5.drew.front 0 rfl).box2)
    have KSD := (((((K5.front 4 rfl).st 0 (.int .i64 d.k)).st 1 (.int .i64 d.b)).st 2 (.int .i64 d.t)).st 3 (.int .i64 d.f))
    have HKSD := Lib.hid (And.intro (KSD.drew.front 2 rfl).box4 (KSD.drew.front 1 rfl).box2)
    have KSR := (((K5.front 3 rfl).st 0 (.int .i64 b)).st 1 (.slice A (ds).length c))
    have HKSR := Lib.hid (And.intro (KSR.drew.front 2 rfl).box4 (KSR.drew.front 1 rfl).box2)
    have KSDR := (((KSD.front 4 rfl).st 0 (.int .i64 b)).st 1 (.slice A (ds).length c))
    have HKSDR := Lib.hid (And.intro (KSDR.drew.front 3 rfl).box4 (KSDR.drew.front 2 rfl).box2)
    have KSRD := (((((KSR.front 4 rfl).st 0 (.int .i64 d.k)).st 1 (.int .i64 d.b)).st 2 (.int .i64 d.t)).st 3 (.int .i64 d.f))
    have HKSRD := Lib.hid (And.intro (KSRD.drew.front 3 rfl).box4 (KSRD.drew.front 2 rfl).box2)
    obtain ⟨c01, c02, c03, -⟩ := (K5.front 4 rfl).cells
    obtain ⟨c11, c12, c13, -⟩ := (K5.front 3 rfl).cells
    go_region_held3 (fun W => (W.cell? ⟨g, 0, none⟩ = some (.int .i64 d.k) ∧ W.cell? ⟨g, 1, none⟩ = some (.int .i64 d.b) ∧ W.cell? ⟨g, 2, none⟩ = some (.int .i64 d.t) ∧ W.cell? ⟨g, 3, none⟩ = some (.int .i64 d.f)) ∧ W.cell? ⟨h, 0, none⟩ = some (.int .i64 b) ∧ W.cell? ⟨h, 1, none⟩ = some (.slice A (ds).length c)) (first | with_reducible exact HG.out | with_reducible exact HKSD.out | with_reducible exact HKSR.out | with_reducible exact HKSDR.out | with_reducible exact HKSRD.out) (fail)
    all_goals
      go_wp2_with fail
      first
        | (refine bodyPost.kn ((KSDR.drew).sel [1, 0, 2, 3, 4] 99 (by decide) (by decide)) ?_; intro w9 K9)
        | (refine bodyPost.kn ((KSDR).sel [1, 0, 2, 3, 4] 99 (by decide) (by decide)) ?_; intro w9 K9)
        | (refine bodyPost.kn ((KSRD.drew).sel [0, 1, 2, 3, 4] 99 (by decide) (by decide)) ?_; intro w9 K9)
        | (refine bodyPost.kn ((KSRD).sel [0, 1, 2, 3, 4] 99 (by decide) (by decide)) ?_; intro w9 K9)
      clear c01 c02 c03 c11 c12 c13
      obtain ⟨c01, c02, c03, c11, c12, c13, -⟩ := K9.cells
      exact bodyPost_ret (v := .tuple #[.agg #[.int .i64 d.k, .int .i64 d.b, .int .i64 d.t, .int .i64 d.f], .agg #[.int .i64 b, .slice A (ds).length c]]) (by simp [results, Try.results12, go_sem, c01, c11]) rfl ⟨d, b, A, c, ds, rfl, hl, K9.sel [4] 99 (by decide) (by decide)⟩
  · obtain ⟨-, hdb, -⟩ := drOk_iff.1 ho
    clear ho
    go_wp2_with fail
    refine (one_dr _ _ 8 w7 D7.src (by omega)).mono ?_; rintro e w8 ⟨z, rfl, h8⟩
    have D8 : DR w1.heap.size _ w2 [.blk h [.int .i64 b, .slice A ds.length c] 28, .blk g [.int .i64 d.k, .int .i64 d.b, .int .i64 d.t, .int .i64 d.f] 25, rowI A c ds] w8 := D7.add h8
    clear D7 h8
    rcases z with _ | _
    rotate_left
    · go_upto_region 6 with fail
      have K5 : Kn w [.blk h [.int .i64 b, .slice A ds.length c] 28, .blk g [.int .i64 d.k, .int .i64 d.b, .int .i64 d.t, .int .i64 d.f] 25, rowI A c ds, .blk (w.heap.size + 1) [.int .i64 0, .slice none 0 0] 28, .blk w.heap.size [.int .i64 0, .int .i64 0, .int .i64 0, .int .i64 0] 25] w8 := K1.join (Kn.ofDR hb2 (Nat.le_refl _) D8)
      clear D8 K1 hb2
      have HG := Lib.hid (And.intro (K5.drew.front 1 rfl).box4 (K5.drew.front 0 rfl).box2)
      have KSD := (((((K5.front 4 rfl).st 0 (.int .i64 d.k)).st 1 (.int .i64 d.b)).st 2 (.int .i64 d.t)).st 3 (.int .i64 d.f))
      have HKSD := Lib.hid (And.intro (KSD.drew.front 2 rfl).box4 (KSD.drew.front 1 rfl).box2)
      have KSR := (((K5.front 3 rfl).st 0 (.int .i64 b)).st 1 (.slice A (ds).length c))
      have HKSR := Lib.hid (And.intro (KSR.drew.front 2 rfl).box4 (KSR.drew.front 1 rfl).box2)
      have KSDR := (((KSD.front 4 rfl).st 0 (.int .i64 b)).st 1 (.slice A (ds).length c))
      have HKSDR := Lib.hid (And.intro (KSDR.drew.front 3 rfl).box4 (KSDR.drew.front 2 rfl).box2)
      have KSRD := (((((KSR.front 4 rfl).st 0 (.int .i64 d.k)).st 1 (.int .i64 d.b)).st 2 (.int .i64 d.t)).st 3 (.int .i64 d.f))
      have HKSRD := Lib.hid (And.intro (KSRD.drew.front 3 rfl).box4 (KSRD.drew.front 2 rfl).box2)
      obtain ⟨c01, c02, c03, -⟩ := (K5.front 4 rfl).cells
      obtain ⟨c11, c12, c13, -⟩ := (K5.front 3 rfl).cells
      go_region_held3 (fun W => (W.cell? ⟨g, 0, none⟩ = some (.int .i64 d.k) ∧ W.cell? ⟨g, 1, none⟩ = some (.int .i64 d.b) ∧ W.cell? ⟨g, 2, none⟩ = some (.int .i64 d.t) ∧ W.cell? ⟨g, 3, none⟩ = some (.int .i64 d.f)) ∧ W.cell? ⟨h, 0, none⟩ = some (.int .i64 b) ∧ W.cell? ⟨h, 1, none⟩ = some (.slice A (ds).length c)) (first | with_reducible exact HG.out | with_reducible exact HKSD.out | with_reducible exact HKSR.out | with_reducible exact HKSDR.out | with_reducible exact HKSRD.out) (fail)
      all_goals
        go_wp2_with fail
        first
          | (refine bodyPost.kn ((KSDR.drew).sel [1, 0, 2, 3, 4] 99 (by decide) (by decide)) ?_; intro w9 K9)
          | (refine bodyPost.kn ((KSDR).sel [1, 0, 2, 3, 4] 99 (by decide) (by decide)) ?_; intro w9 K9)
          | (refine bodyPost.kn ((KSRD.drew).sel [0, 1, 2, 3, 4] 99 (by decide) (by decide)) ?_; intro w9 K9)
          | (refine bodyPost.kn ((KSRD).sel [0, 1, 2, 3, 4] 99 (by decide) (by decide)) ?_; intro w9 K9)
        clear c01 c02 c03 c11 c12 c13
        obtain ⟨c01, c02, c03, c11, c12, c13, -⟩ := K9.cells
        exact bodyPost_ret (v := .tuple #[.agg #[.int .i64 d.k, .int .i64 d.b, .int .i64 d.t, .int .i64 d.f], .agg #[.int .i64 b, .slice A (ds).length c]]) (by simp [results, Try.results12, go_sem, c01, c11]) rfl ⟨d, b, A, c, ds, rfl, hl, K9.sel [4] 99 (by decide) (by decide)⟩
    · go_wp2_with fail
      have HG := Lib.hid ((D8.drew.front 1 rfl).box4'.2.1)
      have HT := HG
      have HP := Lib.hid (pick_dr _ _ 6 _ D8.drew.src (by omega))
      go_region_held3 (fun W => W.cell? ⟨g, 1, none⟩ = some (.int .i64 d.b)) (first | with_reducible exact HG.out | with_reducible exact HT.out) (first
        | (go_at_call 38; refine HP.out.mono ?_; rintro e w9 ⟨x, rfl, hx, h9⟩; have D9 := D8.drew.add h9; clear HG; have HG := Lib.hid ((D9.front 1 rfl).box4'.2.1); obtain ⟨q, rfl⟩ : ∃ q : Nat, x = q := ⟨x.toNat, by omega⟩; have hq : q ≤ 5 := by { rcases hx.2 with h | h <;> omega }; have hq1 : IntKind.i64.wrap (1 + (q : Int)) = (q : Int) + 1 := by { rw [wrapI64 (by omega)]; omega })
        | (go_at_call 39; rw [show (q : Int) + 1 = ((q + 1 : Nat) : Int) from rfl]; refine (digits_dr _ _ d.b (q + 1) _ D9.src (by omega) (by omega) (by omega) (by omega)).mono ?_; rintro e w10 ⟨E, j, fs, rfl, hl3, hd, h10⟩; have D10 := D9.add h10; clear HG; have HG := Lib.hid ((D10.front 2 rfl).box4'.2.1); obtain ⟨x1, x2, x3, -⟩ := (D10.front 1 rfl).cells; have D11 := ((D10.front 1 rfl).st 0 (.int .i64 d.b)).st 1 (.slice E (q + 1) j); clear HT; have HT := Lib.hid ((D11.front 2 rfl).box4'.2.1)))
      all_goals
        clear HG HT x1 x2 x3 D10 D9 hd
        generalize (w10.setCell ⟨h, 0, none⟩ (.int .i64 d.b)).setCell ⟨h, 1, none⟩ (.slice E (q + 1) j) = w11 at D11 ⊢
        rw [← hl3] at D11 ⊢
        have hl4 : fs.length ≤ 20 := by omega
        clear hl3 D8
        go_upto_region 6 with fail
        have K5 : Kn w [.blk h [.int .i64 d.b, .slice E fs.length j] 28, .blk g [.int .i64 d.k, .int .i64 d.b, .int .i64 d.t, .int .i64 d.f] 25, rowI E j fs, .blk (w.heap.size + 1) [.int .i64 0, .slice none 0 0] 28, .blk w.heap.size [.int .i64 0, .int .i64 0, .int .i64 0, .int .i64 0] 25] w11 := K1.join (Kn.ofDR hb2 (Nat.le_refl _) (D11.sel [0, 2, 1] 99 (by decide) (by decide)))
        clear D11 K1 hb2
        have HG := Lib.hid (And.intro (K5.drew.front 1 rfl).box4 (K5.drew.front 0 rfl).box2)
        have KSD := (((((K5.front 4 rfl).st 0 (.int .i64 d.k)).st 1 (.int .i64 d.b)).st 2 (.int .i64 d.t)).st 3 (.int .i64 d.f))
        have HKSD := Lib.hid (And.intro (KSD.drew.front 2 rfl).box4 (KSD.drew.front 1 rfl).box2)
        have KSR := (((K5.front 3 rfl).st 0 (.int .i64 d.b)).st 1 (.slice E (fs).length j))
        have HKSR := Lib.hid (And.intro (KSR.drew.front 2 rfl).box4 (KSR.drew.front 1 rfl).box2)
        have KSDR := (((KSD.front 4 rfl).st 0 (.int .i64 d.b)).st 1 (.slice E (fs).length j))
        have HKSDR := Lib.hid (And.intro (KSDR.drew.front 3 rfl).box4 (KSDR.drew.front 2 rfl).box2)
        have KSRD := (((((KSR.front 4 rfl).st 0 (.int .i64 d.k)).st 1 (.int .i64 d.b)).st 2 (.int .i64 d.t)).st 3 (.int .i64 d.f))
        have HKSRD := Lib.hid (And.intro (KSRD.drew.front 3 rfl).box4 (KSRD.drew.front 2 rfl).box2)
        obtain ⟨c01, c02, c03, -⟩ := (K5.front 4 rfl).cells
        obtain ⟨c11, c12, c13, -⟩ := (K5.front 3 rfl).cells
        go_region_held3 (fun W => (W.cell? ⟨g, 0, none⟩ = some (.int .i64 d.k) ∧ W.cell? ⟨g, 1, none⟩ = some (.int .i64 d.b) ∧ W.cell? ⟨g, 2, none⟩ = some (.int .i64 d.t) ∧ W.cell? ⟨g, 3, none⟩ = some (.int .i64 d.f)) ∧ W.cell? ⟨h, 0, none⟩ = some (.int .i64 d.b) ∧ W.cell? ⟨h, 1, none⟩ = some (.slice E (fs).length j)) (first | with_reducible exact HG.out | with_reducible exact HKSD.out | with_reducible exact HKSR.out | with_reducible exact HKSDR.out | with_reducible exact HKSRD.out) (fail)
        all_goals
          go_wp2_with fail
          first
            | (refine bodyPost.kn ((KSDR.drew).sel [1, 0, 2, 3, 4] 99 (by decide) (by decide)) ?_; intro w9 K9)
            | (refine bodyPost.kn ((KSDR).sel [1, 0, 2, 3, 4] 99 (by decide) (by decide)) ?_; intro w9 K9)
            | (refine bodyPost.kn ((KSRD.drew).sel [0, 1, 2, 3, 4] 99 (by decide) (by decide)) ?_; intro w9 K9)
            | (refine bodyPost.kn ((KSRD).sel [0, 1, 2, 3, 4] 99 (by decide) (by decide)) ?_; intro w9 K9)
          clear c01 c02 c03 c11 c12 c13
          obtain ⟨c01, c02, c03, c11, c12, c13, -⟩ := K9.cells
          exact bodyPost_ret (v := .tuple #[.agg #[.int .i64 d.k, .int .i64 d.b, .int .i64 d.t, .int .i64 d.f], .agg #[.int .i64 d.b, .slice E (fs).length j]]) (by simp [results, Try.results12, go_sem, c01, c11]) rfl ⟨d, d.b, E, j, fs, rfl, hl4, K9.sel [4] 99 (by decide) (by decide)⟩

def DTurn (w : World) (e : Ending) (w' : World) : Prop := ∃ (d : Dr) (b : Int) (A : Option Addr) (c : Nat) (ds : List Int) (b2 : Int) (B : Option Addr) (k : Nat) (es : List Int) (x : Int), e = .returned (.tuple #[.agg #[.int .i64 d.k, .int .i64 d.b, .int .i64 d.t, .int .i64 d.f], .agg #[.int .i64 b, .slice A ds.length c], .agg #[.int .i64 b2, .slice B es.length k], .int .i64 x]) ∧ (ds.length ≤ 20 ∧ es.length ≤ 20) ∧ Kn w [rowI A c ds, rowI B k es] w'
set_option maxRecDepth 100000 in
set_option maxHeartbeats 12800000 in
theorem DrawTurnDrums_any (A : Option Addr) (n c : Nat) (bs : List UInt8) (w : World) (hb : RB w A n bs) (hn : n ≤ 9223372036854775807) :
    Calls Try.prog 6 #[.slice A n c] w (DTurn w) := by
  unfold DTurn
  have HB := Lib.hid hb
  clear hb
  go_enter Try.func6, Try.ntmps6
  go_wp2_with fail
  refine Calls.kn ((((Kn.nil w).al [.int .i64 0, .int .i64 0, .int .i64 0, .int .i64 0] 25).al [.int .i64 0, .slice none 0 0] 28).al [.int .i64 0, .slice none 0 0] 28) ?_; intro w1 K1
  simp only [World.size_alloc] at K1
  refine (l00From_any A n c bs w1 (HB.out.below K1.below) hn).mono ?_; rintro e w2 ⟨rfl, hs, hb2⟩
  have D2 := DR.nil hs
  clear HB hs
  go_wp2_with fail
  have KD := l05Bent_dr _ _ w2 D2.src (by omega)
  unfold DDrum at KD
  refine KD.mono ?_; rintro e w3 ⟨d, rfl, -, h3⟩
  have D3 := D2.add h3
  clear D2 h3 KD
  obtain ⟨g, hg⟩ : ∃ g, w3.heap.size = g := ⟨_, rfl⟩
  go_wp2_with fail
  refine Calls.dr (D3.al [.int .i64 d.k, .int .i64 d.b, .int .i64 d.t, .int .i64 d.f] 25) ?_; intro w4 D4
  rw [hg] at D4
  try rw [hg]
  clear hg D3
  have KD := l02Bent_dr _ _ w4 D4.src (by omega)
  unfold DReg2 at KD
  refine KD.mono ?_; rintro e w5 ⟨b, A, c, ds, rfl, hl, h5⟩
  have D5 : DR w1.heap.size _ w2 [rowI A c ds, .blk g [.int .i64 d.k, .int .i64 d.b, .int .i64 d.t, .int .i64 d.f] 25] w5 := D4.add h5
  clear D4 h5 KD
  obtain ⟨ha, hh⟩ : ∃ g, w5.heap.size = g := ⟨_, rfl⟩
  go_wp2_with fail
  refine Calls.dr (D5.al [.int .i64 b, .slice A ds.length c] 28) ?_; intro w6 D6
  rw [hh] at D6
  try rw [hh]
  clear hh D5
  have KD := l02Bent_dr _ _ w6 D6.src (by omega)
  unfold DReg2 at KD
  refine KD.mono ?_; rintro e w7 ⟨b2, B, k, es, rfl, hl2, h7⟩
  have D7 : DR w1.heap.size _ w2 [rowI B k es, .blk ha [.int .i64 b, .slice A ds.length c] 28, rowI A c ds, .blk g [.int .i64 d.k, .int .i64 d.b, .int .i64 d.t, .int .i64 d.f] 25] w7 := D6.add h7
  clear D6 h7 KD
  obtain ⟨hb, hh⟩ : ∃ g, w7.heap.size = g := ⟨_, rfl⟩
  go_wp2_with fail
  refine Calls.dr (D7.al [.int .i64 b2, .slice B es.length k] 28) ?_; intro w8 D8
  rw [hh] at D8
  try rw [hh]
  clear hh D7
  have D8 : DR w1.heap.size _ w2 [.blk hb [.int .i64 b2, .slice B es.length k] 28, .blk ha [.int .i64 b, .slice A ds.length c] 28, .blk g [.int .i64 d.k, .int .i64 d.b, .int .i64 d.t, .int .i64 d.f] 25, rowI B k es, rowI A c ds] w8 := D8.sel [0, 2, 4, 1, 3] 99 (by decide) (by decide)
  refine (l05Ok_any g d w8 (D8.front 2 rfl).drAt).mono ?_; rintro e w7 ⟨rfl, q, rfl⟩
  have D7 := D8.keep (drewN_below q)
  generalize w8.drewN q = w7 at D7 ⊢
  clear D8
  rcases ho : drOk d with _ | _
  · clear ho
    go_upto_region 9 with fail
    have HS0 := Lib.hid (And.intro (D7.drew.front 2 rfl).box4' (And.intro (D7.drew.front 1 rfl).box2 (D7.drew.front 0 rfl).box2))
    have HC := Lib.hid (l05Clock_dr _ _ _ D7.drew.src (by omega))
    go_region_held3 (fun W => (W.cell? ⟨g, 0, none⟩ = some (.int .i64 d.k) ∧ W.cell? ⟨g, 1, none⟩ = some (.int .i64 d.b) ∧ W.cell? ⟨g, 2, none⟩ = some (.int .i64 d.t) ∧ W.cell? ⟨g, 3, none⟩ = some (.int .i64 d.f)) ∧ (W.cell? ⟨ha, 0, none⟩ = some (.int .i64 b) ∧ W.cell? ⟨ha, 1, none⟩ = some (.slice A (ds).length c)) ∧ W.cell? ⟨hb, 0, none⟩ = some (.int .i64 b2) ∧ W.cell? ⟨hb, 1, none⟩ = some (.slice B (es).length k)) (first | with_reducible exact HS0.out | with_reducible exact HG.out | with_reducible exact HKSD.out | with_reducible exact HKSA.out | with_reducible exact HKSB.out | with_reducible exact HKSDA.out | with_reducible exact HKSDB.out | with_reducible exact HKSAD.out | with_reducible exact HKSAB.out | with_reducible exact HKSBD.out | with_reducible exact HKSBA.out | with_reducible exact HKSDAB.out | with_reducible exact HKSDBA.out | with_reducible exact HKSADB.out | with_reducible exact HKSABD.out | with_reducible exact HKSBDA.out | with_reducible exact HKSBAD.out) (first
      | (go_at_call 40; refine HC.out.mono ?_; rintro e w12 ⟨x, rfl, h12⟩; have D12 := D7.drew.add h12; have K5 : Kn w [.blk hb [.int .i64 b2, .slice B (es).length k] 28, .blk ha [.int .i64 b, .slice A (ds).length c] 28, .blk g [.int .i64 d.k, .int .i64 d.b, .int .i64 d.t, .int .i64 d.f] 25, rowI B k es, rowI A c ds, .blk (w.heap.size + 1 + 1) [.int .i64 0, .slice none 0 0] 28, .blk (w.heap.size + 1) [.int .i64 0, .slice none 0 0] 28, .blk w.heap.size [.int .i64 0, .int .i64 0, .int .i64 0, .int .i64 0] 25] w12 := K1.join (Kn.ofDR hb2 (Nat.le_refl _) D12); have HG := Lib.hid (And.intro (K5.front 2 rfl).box4 (And.intro (K5.front 1 rfl).box2 (K5.front 0 rfl).box2)); have KSD := (((((K5.front 7 rfl).st 0 (.int .i64 d.k)).st 1 (.int .i64 d.b)).st 2 (.int .i64 d.t)).st 3 (.int .i64 d.f)); have HKSD := Lib.hid (And.intro (KSD.front 3 rfl).box4 (And.intro (KSD.front 2 rfl).box2 (KSD.front 1 rfl).box2)); have KSA := (((K5.front 6 rfl).st 0 (.int .i64 b)).st 1 (.slice A (ds).length c)); have HKSA := Lib.hid (And.intro (KSA.front 3 rfl).box4 (And.intro (KSA.front 2 rfl).box2 (KSA.front 1 rfl).box2)); have KSB := (((K5.front 5 rfl).st 0 (.int .i64 b2)).st 1 (.slice B (es).length k)); have HKSB := Lib.hid (And.intro (KSB.front 3 rfl).box4 (And.intro (KSB.front 2 rfl).box2 (KSB.front 1 rfl).box2)); have KSDA := (((KSD.front 7 rfl).st 0 (.int .i64 b)).st 1 (.slice A (ds).length c)); have HKSDA := Lib.hid (And.intro (KSDA.front 4 rfl).box4 (And.intro (KSDA.front 3 rfl).box2 (KSDA.front 2 rfl).box2)); have KSDB := (((KSD.front 6 rfl).st 0 (.int .i64 b2)).st 1 (.slice B (es).length k)); have HKSDB := Lib.hid (And.intro (KSDB.front 4 rfl).box4 (And.intro (KSDB.front 3 rfl).box2 (KSDB.front 2 rfl).box2)); have KSAD := (((((KSA.front 7 rfl).st 0 (.int .i64 d.k)).st 1 (.int .i64 d.b)).st 2 (.int .i64 d.t)).st 3 (.int .i64 d.f)); have HKSAD := Lib.hid (And.intro (KSAD.front 4 rfl).box4 (And.intro (KSAD.front 3 rfl).box2 (KSAD.front 2 rfl).box2)); have KSAB := (((KSA.front 6 rfl).st 0 (.int .i64 b2)).st 1 (.slice B (es).length k)); have HKSAB := Lib.hid (And.intro (KSAB.front 4 rfl).box4 (And.intro (KSAB.front 3 rfl).box2 (KSAB.front 2 rfl).box2)); have KSBD := (((((KSB.front 7 rfl).st 0 (.int .i64 d.k)).st 1 (.int .i64 d.b)).st 2 (.int .i64 d.t)).st 3 (.int .i64 d.f)); have HKSBD := Lib.hid (And.intro (KSBD.front 4 rfl).box4 (And.intro (KSBD.front 3 rfl).box2 (KSBD.front 2 rfl).box2)); have KSBA := (((KSB.front 6 rfl).st 0 (.int .i64 b)).st 1 (.slice A (ds).length c)); have HKSBA := Lib.hid (And.intro (KSBA.front 4 rfl).box4 (And.intro (KSBA.front 3 rfl).box2 (KSBA.front 2 rfl).box2)); have KSDAB := (((KSDA.front 7 rfl).st 0 (.int .i64 b2)).st 1 (.slice B (es).length k)); have HKSDAB := Lib.hid (And.intro (KSDAB.front 5 rfl).box4 (And.intro (KSDAB.front 4 rfl).box2 (KSDAB.front 3 rfl).box2)); have KSDBA := (((KSDB.front 7 rfl).st 0 (.int .i64 b)).st 1 (.slice A (ds).length c)); have HKSDBA := Lib.hid (And.intro (KSDBA.front 5 rfl).box4 (And.intro (KSDBA.front 4 rfl).box2 (KSDBA.front 3 rfl).box2)); have KSADB := (((KSAD.front 7 rfl).st 0 (.int .i64 b2)).st 1 (.slice B (es).length k)); have HKSADB := Lib.hid (And.intro (KSADB.front 5 rfl).box4 (And.intro (KSADB.front 4 rfl).box2 (KSADB.front 3 rfl).box2)); have KSABD := (((((KSAB.front 7 rfl).st 0 (.int .i64 d.k)).st 1 (.int .i64 d.b)).st 2 (.int .i64 d.t)).st 3 (.int .i64 d.f)); have HKSABD := Lib.hid (And.intro (KSABD.front 5 rfl).box4 (And.intro (KSABD.front 4 rfl).box2 (KSABD.front 3 rfl).box2)); have KSBDA := (((KSBD.front 7 rfl).st 0 (.int .i64 b)).st 1 (.slice A (ds).length c)); have HKSBDA := Lib.hid (And.intro (KSBDA.front 5 rfl).box4 (And.intro (KSBDA.front 4 rfl).box2 (KSBDA.front 3 rfl).box2)); have KSBAD := (((((KSBA.front 7 rfl).st 0 (.int .i64 d.k)).st 1 (.int .i64 d.b)).st 2 (.int .i64 d.t)).st 3 (.int .i64 d.f)); have HKSBAD := Lib.hid (And.intro (KSBAD.front 5 rfl).box4 (And.intro (KSBAD.front 4 rfl).box2 (KSBAD.front 3 rfl).box2)); obtain ⟨c01, c02, c03, -⟩ := (K5.front 7 rfl).cells; obtain ⟨c11, c12, c13, -⟩ := (K5.front 6 rfl).cells; obtain ⟨c21, c22, c23, -⟩ := (K5.front 5 rfl).cells))
    all_goals
      go_wp2_with fail
      first
        | (refine bodyPost.kn ((KSDAB).sel [2, 1, 0, 3, 4, 5, 6, 7] 99 (by decide) (by decide)) ?_; intro w9 K9)
        | (refine bodyPost.kn ((KSDBA).sel [2, 0, 1, 3, 4, 5, 6, 7] 99 (by decide) (by decide)) ?_; intro w9 K9)
        | (refine bodyPost.kn ((KSADB).sel [1, 2, 0, 3, 4, 5, 6, 7] 99 (by decide) (by decide)) ?_; intro w9 K9)
        | (refine bodyPost.kn ((KSABD).sel [0, 2, 1, 3, 4, 5, 6, 7] 99 (by decide) (by decide)) ?_; intro w9 K9)
        | (refine bodyPost.kn ((KSBDA).sel [1, 0, 2, 3, 4, 5, 6, 7] 99 (by decide) (by decide)) ?_; intro w9 K9)
        | (refine bodyPost.kn ((KSBAD).sel [0, 1, 2, 3, 4, 5, 6, 7] 99 (by decide) (by decide)) ?_; intro w9 K9)
      clear c01 c02 c03 c11 c12 c13 c21 c22 c23
      obtain ⟨c01, c02, c03, c11, c12, c13, c21, c22, c23, -⟩ := K9.cells
      exact bodyPost_ret (v := .tuple #[.agg #[.int .i64 d.k, .int .i64 d.b, .int .i64 d.t, .int .i64 d.f], .agg #[.int .i64 b, .slice A (ds).length c], .agg #[.int .i64 b2, .slice B (es).length k], .int .i64 x]) (by simp [results, Try.results6, go_sem, c01, c11, c21]) rfl ⟨d, b, A, c, ds, b2, B, k, es, x, rfl, ⟨hl, hl2⟩, K9.sel [7, 6] 99 (by decide) (by decide)⟩
  · obtain ⟨-, hdb, -⟩ := drOk_iff.1 ho
    clear ho
    go_wp2_with fail
    refine (one_dr _ _ 8 w7 D7.src (by omega)).mono ?_; rintro e w8 ⟨z, rfl, h8⟩
    have D8 : DR w1.heap.size _ w2 [.blk hb [.int .i64 b2, .slice B es.length k] 28, .blk ha [.int .i64 b, .slice A ds.length c] 28, .blk g [.int .i64 d.k, .int .i64 d.b, .int .i64 d.t, .int .i64 d.f] 25, rowI B k es, rowI A c ds] w8 := D7.add h8
    clear D7 h8
    rcases z with _ | _
    rotate_left
    · go_upto_region 9 with fail
      have HS0 := Lib.hid (And.intro (D8.drew.front 2 rfl).box4' (And.intro (D8.drew.front 1 rfl).box2 (D8.drew.front 0 rfl).box2))
      have HC := Lib.hid (l05Clock_dr _ _ _ D8.drew.src (by omega))
      go_region_held3 (fun W => (W.cell? ⟨g, 0, none⟩ = some (.int .i64 d.k) ∧ W.cell? ⟨g, 1, none⟩ = some (.int .i64 d.b) ∧ W.cell? ⟨g, 2, none⟩ = some (.int .i64 d.t) ∧ W.cell? ⟨g, 3, none⟩ = some (.int .i64 d.f)) ∧ (W.cell? ⟨ha, 0, none⟩ = some (.int .i64 b) ∧ W.cell? ⟨ha, 1, none⟩ = some (.slice A (ds).length c)) ∧ W.cell? ⟨hb, 0, none⟩ = some (.int .i64 b2) ∧ W.cell? ⟨hb, 1, none⟩ = some (.slice B (es).length k)) (first | with_reducible exact HS0.out | with_reducible exact HG.out | with_reducible exact HKSD.out | with_reducible exact HKSA.out | with_reducible exact HKSB.out | with_reducible exact HKSDA.out | with_reducible exact HKSDB.out | with_reducible exact HKSAD.out | with_reducible exact HKSAB.out | with_reducible exact HKSBD.out | with_reducible exact HKSBA.out | with_reducible exact HKSDAB.out | with_reducible exact HKSDBA.out | with_reducible exact HKSADB.out | with_reducible exact HKSABD.out | with_reducible exact HKSBDA.out | with_reducible exact HKSBAD.out) (first
        | (go_at_call 40; refine HC.out.mono ?_; rintro e w12 ⟨x, rfl, h12⟩; have D12 := D8.drew.add h12; have K5 : Kn w [.blk hb [.int .i64 b2, .slice B (es).length k] 28, .blk ha [.int .i64 b, .slice A (ds).length c] 28, .blk g [.int .i64 d.k, .int .i64 d.b, .int .i64 d.t, .int .i64 d.f] 25, rowI B k es, rowI A c ds, .blk (w.heap.size + 1 + 1) [.int .i64 0, .slice none 0 0] 28, .blk (w.heap.size + 1) [.int .i64 0, .slice none 0 0] 28, .blk w.heap.size [.int .i64 0, .int .i64 0, .int .i64 0, .int .i64 0] 25] w12 := K1.join (Kn.ofDR hb2 (Nat.le_refl _) D12); have HG := Lib.hid (And.intro (K5.front 2 rfl).box4 (And.intro (K5.front 1 rfl).box2 (K5.front 0 rfl).box2)); have KSD := (((((K5.front 7 rfl).st 0 (.int .i64 d.k)).st 1 (.int .i64 d.b)).st 2 (.int .i64 d.t)).st 3 (.int .i64 d.f)); have HKSD := Lib.hid (And.intro (KSD.front 3 rfl).box4 (And.intro (KSD.front 2 rfl).box2 (KSD.front 1 rfl).box2)); have KSA := (((K5.front 6 rfl).st 0 (.int .i64 b)).st 1 (.slice A (ds).length c)); have HKSA := Lib.hid (And.intro (KSA.front 3 rfl).box4 (And.intro (KSA.front 2 rfl).box2 (KSA.front 1 rfl).box2)); have KSB := (((K5.front 5 rfl).st 0 (.int .i64 b2)).st 1 (.slice B (es).length k)); have HKSB := Lib.hid (And.intro (KSB.front 3 rfl).box4 (And.intro (KSB.front 2 rfl).box2 (KSB.front 1 rfl).box2)); have KSDA := (((KSD.front 7 rfl).st 0 (.int .i64 b)).st 1 (.slice A (ds).length c)); have HKSDA := Lib.hid (And.intro (KSDA.front 4 rfl).box4 (And.intro (KSDA.front 3 rfl).box2 (KSDA.front 2 rfl).box2)); have KSDB := (((KSD.front 6 rfl).st 0 (.int .i64 b2)).st 1 (.slice B (es).length k)); have HKSDB := Lib.hid (And.intro (KSDB.front 4 rfl).box4 (And.intro (KSDB.front 3 rfl).box2 (KSDB.front 2 rfl).box2)); have KSAD := (((((KSA.front 7 rfl).st 0 (.int .i64 d.k)).st 1 (.int .i64 d.b)).st 2 (.int .i64 d.t)).st 3 (.int .i64 d.f)); have HKSAD := Lib.hid (And.intro (KSAD.front 4 rfl).box4 (And.intro (KSAD.front 3 rfl).box2 (KSAD.front 2 rfl).box2)); have KSAB := (((KSA.front 6 rfl).st 0 (.int .i64 b2)).st 1 (.slice B (es).length k)); have HKSAB := Lib.hid (And.intro (KSAB.front 4 rfl).box4 (And.intro (KSAB.front 3 rfl).box2 (KSAB.front 2 rfl).box2)); have KSBD := (((((KSB.front 7 rfl).st 0 (.int .i64 d.k)).st 1 (.int .i64 d.b)).st 2 (.int .i64 d.t)).st 3 (.int .i64 d.f)); have HKSBD := Lib.hid (And.intro (KSBD.front 4 rfl).box4 (And.intro (KSBD.front 3 rfl).box2 (KSBD.front 2 rfl).box2)); have KSBA := (((KSB.front 6 rfl).st 0 (.int .i64 b)).st 1 (.slice A (ds).length c)); have HKSBA := Lib.hid (And.intro (KSBA.front 4 rfl).box4 (And.intro (KSBA.front 3 rfl).box2 (KSBA.front 2 rfl).box2)); have KSDAB := (((KSDA.front 7 rfl).st 0 (.int .i64 b2)).st 1 (.slice B (es).length k)); have HKSDAB := Lib.hid (And.intro (KSDAB.front 5 rfl).box4 (And.intro (KSDAB.front 4 rfl).box2 (KSDAB.front 3 rfl).box2)); have KSDBA := (((KSDB.front 7 rfl).st 0 (.int .i64 b)).st 1 (.slice A (ds).length c)); have HKSDBA := Lib.hid (And.intro (KSDBA.front 5 rfl).box4 (And.intro (KSDBA.front 4 rfl).box2 (KSDBA.front 3 rfl).box2)); have KSADB := (((KSAD.front 7 rfl).st 0 (.int .i64 b2)).st 1 (.slice B (es).length k)); have HKSADB := Lib.hid (And.intro (KSADB.front 5 rfl).box4 (And.intro (KSADB.front 4 rfl).box2 (KSADB.front 3 rfl).box2)); have KSABD := (((((KSAB.front 7 rfl).st 0 (.int .i64 d.k)).st 1 (.int .i64 d.b)).st 2 (.int .i64 d.t)).st 3 (.int .i64 d.f)); have HKSABD := Lib.hid (And.intro (KSABD.front 5 rfl).box4 (And.intro (KSABD.front 4 rfl).box2 (KSABD.front 3 rfl).box2)); have KSBDA := (((KSBD.front 7 rfl).st 0 (.int .i64 b)).st 1 (.slice A (ds).length c)); have HKSBDA := Lib.hid (And.intro (KSBDA.front 5 rfl).box4 (And.intro (KSBDA.front 4 rfl).box2 (KSBDA.front 3 rfl).box2)); have KSBAD := (((((KSBA.front 7 rfl).st 0 (.int .i64 d.k)).st 1 (.int .i64 d.b)).st 2 (.int .i64 d.t)).st 3 (.int .i64 d.f)); have HKSBAD := Lib.hid (And.intro (KSBAD.front 5 rfl).box4 (And.intro (KSBAD.front 4 rfl).box2 (KSBAD.front 3 rfl).box2)); obtain ⟨c01, c02, c03, -⟩ := (K5.front 7 rfl).cells; obtain ⟨c11, c12, c13, -⟩ := (K5.front 6 rfl).cells; obtain ⟨c21, c22, c23, -⟩ := (K5.front 5 rfl).cells))
      all_goals
        go_wp2_with fail
        first
          | (refine bodyPost.kn ((KSDAB).sel [2, 1, 0, 3, 4, 5, 6, 7] 99 (by decide) (by decide)) ?_; intro w9 K9)
          | (refine bodyPost.kn ((KSDBA).sel [2, 0, 1, 3, 4, 5, 6, 7] 99 (by decide) (by decide)) ?_; intro w9 K9)
          | (refine bodyPost.kn ((KSADB).sel [1, 2, 0, 3, 4, 5, 6, 7] 99 (by decide) (by decide)) ?_; intro w9 K9)
          | (refine bodyPost.kn ((KSABD).sel [0, 2, 1, 3, 4, 5, 6, 7] 99 (by decide) (by decide)) ?_; intro w9 K9)
          | (refine bodyPost.kn ((KSBDA).sel [1, 0, 2, 3, 4, 5, 6, 7] 99 (by decide) (by decide)) ?_; intro w9 K9)
          | (refine bodyPost.kn ((KSBAD).sel [0, 1, 2, 3, 4, 5, 6, 7] 99 (by decide) (by decide)) ?_; intro w9 K9)
        clear c01 c02 c03 c11 c12 c13 c21 c22 c23
        obtain ⟨c01, c02, c03, c11, c12, c13, c21, c22, c23, -⟩ := K9.cells
        exact bodyPost_ret (v := .tuple #[.agg #[.int .i64 d.k, .int .i64 d.b, .int .i64 d.t, .int .i64 d.f], .agg #[.int .i64 b, .slice A (ds).length c], .agg #[.int .i64 b2, .slice B (es).length k], .int .i64 x]) (by simp [results, Try.results6, go_sem, c01, c11, c21]) rfl ⟨d, b, A, c, ds, b2, B, k, es, x, rfl, ⟨hl, hl2⟩, K9.sel [7, 6] 99 (by decide) (by decide)⟩
    · go_wp2_with fail
      refine (pick_dr _ _ 6 w8 D8.src (by omega)).mono ?_; rintro e w9 ⟨x, rfl, hx, h9⟩
      have D9 : DR w1.heap.size _ w2 [.blk hb [.int .i64 b2, .slice B es.length k] 28, .blk ha [.int .i64 b, .slice A ds.length c] 28, .blk g [.int .i64 d.k, .int .i64 d.b, .int .i64 d.t, .int .i64 d.f] 25, rowI B k es, rowI A c ds] w9 := D8.add h9
      clear D8 h9
      obtain ⟨q, rfl⟩ : ∃ q : Nat, x = q := ⟨x.toNat, by omega⟩
      have hq : q ≤ 5 := by rcases hx.2 with h | h <;> omega
      have hq1 : IntKind.i64.wrap (1 + (q : Int)) = (q : Int) + 1 := by rw [wrapI64 (by omega)]; omega
      clear hx
      go_wp2_with fail
      have HG := Lib.hid ((D9.drew.front 2 rfl).box4'.2.1)
      have HT := HG
      have HP := Lib.hid (digits_dr _ _ d.b (q + 1) _ D9.drew.src (by omega) (by omega) (by omega) (by omega))
      go_region_held3 (fun W => W.cell? ⟨g, 1, none⟩ = some (.int .i64 d.b)) (first | with_reducible exact HG.out | with_reducible exact HT.out) (first
        | (go_at_call 39; rw [show (q : Int) + 1 = ((q + 1 : Nat) : Int) from rfl]; refine HP.out.mono ?_; rintro e w10 ⟨E1, j1, fs1, rfl, hl1, hd, h10⟩; have D10 := D9.drew.add h10; clear HG; have HG := Lib.hid ((D10.front 3 rfl).box4'.2.1); obtain ⟨x1, x2, x3, -⟩ := (D10.front 2 rfl).cells; have D11 := ((D10.front 2 rfl).st 0 (.int .i64 d.b)).st 1 (.slice E1 (q + 1) j1); clear HT; have HT := Lib.hid ((D11.front 3 rfl).box4'.2.1)))
      clear HG HT HP x1 x2 x3 D10 hd h10 D9
      generalize (w10.setCell ⟨ha, 0, none⟩ (.int .i64 d.b)).setCell ⟨ha, 1, none⟩ (.slice E1 (q + 1) j1) = w11 at D11 ⊢
      rw [← hl1] at D11 ⊢
      have hm1 : fs1.length ≤ 20 := by omega
      clear hl1
      go_upto_region 8 with fail
      obtain ⟨w13, D13⟩ : ∃ W, w11 = W := ⟨_, rfl⟩
      subst D13
      have D9 : DR w1.heap.size _ w2 [.blk hb [.int .i64 b2, .slice B es.length k] 28, .blk ha [.int .i64 d.b, .slice E1 fs1.length j1] 28, .blk g [.int .i64 d.k, .int .i64 d.b, .int .i64 d.t, .int .i64 d.f] 25, rowI B k es, rowI E1 j1 fs1] w11 := D11.sel [2, 0, 3, 4, 1] 99 (by decide) (by decide)
      clear D11
      go_wp2_with fail
      have HG := Lib.hid ((D9.drew.front 2 rfl).box4'.2.1)
      have HT := HG
      have HP := Lib.hid (digits_dr _ _ d.b (q + 1) _ D9.drew.src (by omega) (by omega) (by omega) (by omega))
      go_region_held3 (fun W => W.cell? ⟨g, 1, none⟩ = some (.int .i64 d.b)) (first | with_reducible exact HG.out | with_reducible exact HT.out) (first
        | (go_at_call 39; rw [show (q : Int) + 1 = ((q + 1 : Nat) : Int) from rfl]; refine HP.out.mono ?_; rintro e w10 ⟨E2, j2, fs2, rfl, hl2, hd, h10⟩; have D10 := D9.drew.add h10; clear HG; have HG := Lib.hid ((D10.front 3 rfl).box4'.2.1); obtain ⟨x1, x2, x3, -⟩ := (D10.front 1 rfl).cells; have D11 := ((D10.front 1 rfl).st 0 (.int .i64 d.b)).st 1 (.slice E2 (q + 1) j2); clear HT; have HT := Lib.hid ((D11.front 3 rfl).box4'.2.1)))
      clear HG HT HP x1 x2 x3 D10 hd h10 D9
      generalize (w10.setCell ⟨hb, 0, none⟩ (.int .i64 d.b)).setCell ⟨hb, 1, none⟩ (.slice E2 (q + 1) j2) = w11 at D11 ⊢
      rw [← hl2] at D11 ⊢
      have hm2 : fs2.length ≤ 20 := by omega
      clear hl2
      go_upto_region 9 with fail
      have D9 := D11.sel [0, 2, 3, 1, 5] 99 (by decide) (by decide)
      clear D11
      have HS0 := Lib.hid (And.intro (D9.drew.front 2 rfl).box4' (And.intro (D9.drew.front 1 rfl).box2 (D9.drew.front 0 rfl).box2))
      have HC := Lib.hid (l05Clock_dr _ _ _ D9.drew.src (by omega))
      go_region_held3 (fun W => (W.cell? ⟨g, 0, none⟩ = some (.int .i64 d.k) ∧ W.cell? ⟨g, 1, none⟩ = some (.int .i64 d.b) ∧ W.cell? ⟨g, 2, none⟩ = some (.int .i64 d.t) ∧ W.cell? ⟨g, 3, none⟩ = some (.int .i64 d.f)) ∧ (W.cell? ⟨ha, 0, none⟩ = some (.int .i64 d.b) ∧ W.cell? ⟨ha, 1, none⟩ = some (.slice E1 (fs1).length j1)) ∧ W.cell? ⟨hb, 0, none⟩ = some (.int .i64 d.b) ∧ W.cell? ⟨hb, 1, none⟩ = some (.slice E2 (fs2).length j2)) (first | with_reducible exact HS0.out | with_reducible exact HG.out | with_reducible exact HKSD.out | with_reducible exact HKSA.out | with_reducible exact HKSB.out | with_reducible exact HKSDA.out | with_reducible exact HKSDB.out | with_reducible exact HKSAD.out | with_reducible exact HKSAB.out | with_reducible exact HKSBD.out | with_reducible exact HKSBA.out | with_reducible exact HKSDAB.out | with_reducible exact HKSDBA.out | with_reducible exact HKSADB.out | with_reducible exact HKSABD.out | with_reducible exact HKSBDA.out | with_reducible exact HKSBAD.out) (first
        | (go_at_call 40; refine HC.out.mono ?_; rintro e w12 ⟨x, rfl, h12⟩; have D12 := D9.drew.add h12; have K5 : Kn w [.blk hb [.int .i64 d.b, .slice E2 (fs2).length j2] 28, .blk ha [.int .i64 d.b, .slice E1 (fs1).length j1] 28, .blk g [.int .i64 d.k, .int .i64 d.b, .int .i64 d.t, .int .i64 d.f] 25, rowI E2 j2 fs2, rowI E1 j1 fs1, .blk (w.heap.size + 1 + 1) [.int .i64 0, .slice none 0 0] 28, .blk (w.heap.size + 1) [.int .i64 0, .slice none 0 0] 28, .blk w.heap.size [.int .i64 0, .int .i64 0, .int .i64 0, .int .i64 0] 25] w12 := K1.join (Kn.ofDR hb2 (Nat.le_refl _) D12); have HG := Lib.hid (And.intro (K5.front 2 rfl).box4 (And.intro (K5.front 1 rfl).box2 (K5.front 0 rfl).box2)); have KSD := (((((K5.front 7 rfl).st 0 (.int .i64 d.k)).st 1 (.int .i64 d.b)).st 2 (.int .i64 d.t)).st 3 (.int .i64 d.f)); have HKSD := Lib.hid (And.intro (KSD.front 3 rfl).box4 (And.intro (KSD.front 2 rfl).box2 (KSD.front 1 rfl).box2)); have KSA := (((K5.front 6 rfl).st 0 (.int .i64 d.b)).st 1 (.slice E1 (fs1).length j1)); have HKSA := Lib.hid (And.intro (KSA.front 3 rfl).box4 (And.intro (KSA.front 2 rfl).box2 (KSA.front 1 rfl).box2)); have KSB := (((K5.front 5 rfl).st 0 (.int .i64 d.b)).st 1 (.slice E2 (fs2).length j2)); have HKSB := Lib.hid (And.intro (KSB.front 3 rfl).box4 (And.intro (KSB.front 2 rfl).box2 (KSB.front 1 rfl).box2)); have KSDA := (((KSD.front 7 rfl).st 0 (.int .i64 d.b)).st 1 (.slice E1 (fs1).length j1)); have HKSDA := Lib.hid (And.intro (KSDA.front 4 rfl).box4 (And.intro (KSDA.front 3 rfl).box2 (KSDA.front 2 rfl).box2)); have KSDB := (((KSD.front 6 rfl).st 0 (.int .i64 d.b)).st 1 (.slice E2 (fs2).length j2)); have HKSDB := Lib.hid (And.intro (KSDB.front 4 rfl).box4 (And.intro (KSDB.front 3 rfl).box2 (KSDB.front 2 rfl).box2)); have KSAD := (((((KSA.front 7 rfl).st 0 (.int .i64 d.k)).st 1 (.int .i64 d.b)).st 2 (.int .i64 d.t)).st 3 (.int .i64 d.f)); have HKSAD := Lib.hid (And.intro (KSAD.front 4 rfl).box4 (And.intro (KSAD.front 3 rfl).box2 (KSAD.front 2 rfl).box2)); have KSAB := (((KSA.front 6 rfl).st 0 (.int .i64 d.b)).st 1 (.slice E2 (fs2).length j2)); have HKSAB := Lib.hid (And.intro (KSAB.front 4 rfl).box4 (And.intro (KSAB.front 3 rfl).box2 (KSAB.front 2 rfl).box2)); have KSBD := (((((KSB.front 7 rfl).st 0 (.int .i64 d.k)).st 1 (.int .i64 d.b)).st 2 (.int .i64 d.t)).st 3 (.int .i64 d.f)); have HKSBD := Lib.hid (And.intro (KSBD.front 4 rfl).box4 (And.intro (KSBD.front 3 rfl).box2 (KSBD.front 2 rfl).box2)); have KSBA := (((KSB.front 6 rfl).st 0 (.int .i64 d.b)).st 1 (.slice E1 (fs1).length j1)); have HKSBA := Lib.hid (And.intro (KSBA.front 4 rfl).box4 (And.intro (KSBA.front 3 rfl).box2 (KSBA.front 2 rfl).box2)); have KSDAB := (((KSDA.front 7 rfl).st 0 (.int .i64 d.b)).st 1 (.slice E2 (fs2).length j2)); have HKSDAB := Lib.hid (And.intro (KSDAB.front 5 rfl).box4 (And.intro (KSDAB.front 4 rfl).box2 (KSDAB.front 3 rfl).box2)); have KSDBA := (((KSDB.front 7 rfl).st 0 (.int .i64 d.b)).st 1 (.slice E1 (fs1).length j1)); have HKSDBA := Lib.hid (And.intro (KSDBA.front 5 rfl).box4 (And.intro (KSDBA.front 4 rfl).box2 (KSDBA.front 3 rfl).box2)); have KSADB := (((KSAD.front 7 rfl).st 0 (.int .i64 d.b)).st 1 (.slice E2 (fs2).length j2)); have HKSADB := Lib.hid (And.intro (KSADB.front 5 rfl).box4 (And.intro (KSADB.front 4 rfl).box2 (KSADB.front 3 rfl).box2)); have KSABD := (((((KSAB.front 7 rfl).st 0 (.int .i64 d.k)).st 1 (.int .i64 d.b)).st 2 (.int .i64 d.t)).st 3 (.int .i64 d.f)); have HKSABD := Lib.hid (And.intro (KSABD.front 5 rfl).box4 (And.intro (KSABD.front 4 rfl).box2 (KSABD.front 3 rfl).box2)); have KSBDA := (((KSBD.front 7 rfl).st 0 (.int .i64 d.b)).st 1 (.slice E1 (fs1).length j1)); have HKSBDA := Lib.hid (And.intro (KSBDA.front 5 rfl).box4 (And.intro (KSBDA.front 4 rfl).box2 (KSBDA.front 3 rfl).box2)); have KSBAD := (((((KSBA.front 7 rfl).st 0 (.int .i64 d.k)).st 1 (.int .i64 d.b)).st 2 (.int .i64 d.t)).st 3 (.int .i64 d.f)); have HKSBAD := Lib.hid (And.intro (KSBAD.front 5 rfl).box4 (And.intro (KSBAD.front 4 rfl).box2 (KSBAD.front 3 rfl).box2)); obtain ⟨c01, c02, c03, -⟩ := (K5.front 7 rfl).cells; obtain ⟨c11, c12, c13, -⟩ := (K5.front 6 rfl).cells; obtain ⟨c21, c22, c23, -⟩ := (K5.front 5 rfl).cells))
      all_goals
        go_wp2_with fail
        first
          | (refine bodyPost.kn ((KSDAB).sel [2, 1, 0, 3, 4, 5, 6, 7] 99 (by decide) (by decide)) ?_; intro w9 K9)
          | (refine bodyPost.kn ((KSDBA).sel [2, 0, 1, 3, 4, 5, 6, 7] 99 (by decide) (by decide)) ?_; intro w9 K9)
          | (refine bodyPost.kn ((KSADB).sel [1, 2, 0, 3, 4, 5, 6, 7] 99 (by decide) (by decide)) ?_; intro w9 K9)
          | (refine bodyPost.kn ((KSABD).sel [0, 2, 1, 3, 4, 5, 6, 7] 99 (by decide) (by decide)) ?_; intro w9 K9)
          | (refine bodyPost.kn ((KSBDA).sel [1, 0, 2, 3, 4, 5, 6, 7] 99 (by decide) (by decide)) ?_; intro w9 K9)
          | (refine bodyPost.kn ((KSBAD).sel [0, 1, 2, 3, 4, 5, 6, 7] 99 (by decide) (by decide)) ?_; intro w9 K9)
        clear c01 c02 c03 c11 c12 c13 c21 c22 c23
        obtain ⟨c01, c02, c03, c11, c12, c13, c21, c22, c23, -⟩ := K9.cells
        exact bodyPost_ret (v := .tuple #[.agg #[.int .i64 d.k, .int .i64 d.b, .int .i64 d.t, .int .i64 d.f], .agg #[.int .i64 d.b, .slice E1 (fs1).length j1], .agg #[.int .i64 d.b, .slice E2 (fs2).length j2], .int .i64 x]) (by simp [results, Try.results6, go_sem, c01, c11, c21]) rfl ⟨d, d.b, E1, j1, fs1, d.b, E2, j2, fs2, x, rfl, ⟨hm1, hm2⟩, K9.sel [7, 6] 99 (by decide) (by decide)⟩

end Go.Proofs.Ytafnebpbfmbgiaa
