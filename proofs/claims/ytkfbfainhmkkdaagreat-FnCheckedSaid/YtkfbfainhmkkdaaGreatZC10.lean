/- Part 10: lemmas and contracts of the claim's functions. -/
import Derived.Test.YtkfbfainhmkkdaaGreatZC1
import Derived.Test.YtkfbfainhmkkdaaGreatZC2
import Derived.Test.YtkfbfainhmkkdaaGreatZC3
import Derived.Test.YtkfbfainhmkkdaaGreatZC4
import Derived.Test.YtkfbfainhmkkdaaGreatZC5
import Derived.Test.YtkfbfainhmkkdaaGreatZC6
import Derived.Test.YtkfbfainhmkkdaaGreatZC7
import Derived.Test.YtkfbfainhmkkdaaGreatZC8
import Derived.Test.YtkfbfainhmkkdaaGreatZC9
import Derived.Deep.RegionHeld3
import Derived.Deep.DeepCutAuto
namespace Go.Proofs.YtkfbfainhmkkdaaGreat
open Go.RowKit Go.Sort
theorem Kn.box2at {w0 w : World} {m : List Ent} {g : Nat} {v0 v1 : Value} {l : List Value} {T : TypeId} (h : Kn w0 (.blk g (v0 :: v1 :: l) T :: m) w) : w.cell? ⟨g, 1, none⟩ = some v1 := h.blkAt.1 1
set_option maxRecDepth 100000 in
set_option maxHeartbeats 6400000 in
theorem specMultiplyOn_any (t : Tri) (A1 A2 A3 : Option Addr) (c1 c2 c3 : Nat) (x f : Int) (sh : Bool) (w : World) (r1 : RI w A1 t.a.digits.length t.a.digits) (r2 : RI w A2 t.b.digits.length t.b.digits) (r3 : RI w A3 t.s.digits.length t.s.digits) (hs : SmallTri t) :
    Calls Tryz.prog 9 #[.agg #[.int .i64 t.a.base, .slice A1 t.a.digits.length c1, .int .i64 t.b.base, .slice A2 t.b.digits.length c2, .int .i64 t.s.base, .slice A3 t.s.digits.length c3, .int .i64 t.carry], .int .i64 x, .int .i64 f, .bool sh] w (MORet t x f sh w) := by
  have hTC : ∀ W, Kn w [.blk (w.heap.size + 1) [.int .i64 0, .slice none 0 0, .int .i64 0, .slice none 0 0, .int .i64 0, .slice none 0 0, .int .i64 0] 28, .blk w.heap.size [.int .i64 t.a.base, .slice A1 t.a.digits.length c1, .int .i64 t.b.base, .slice A2 t.b.digits.length c2, .int .i64 t.s.base, .slice A3 t.s.digits.length c3, .int .i64 t.carry] 28] W → TriC W ⟨w.heap.size, 0, none⟩ t A1 c1 A2 c2 A3 c3 := fun W h => ⟨⟨h.drop.blkAt.1 0, h.drop.blkAt.1 1, h.drop.blkAt.1 2, h.drop.blkAt.1 3, h.drop.blkAt.1 4, h.drop.blkAt.1 5, h.drop.blkAt.1 6⟩, r1.below h.below, r2.below h.below, r3.below h.below⟩
  have KV := (fun W (hW : Kn w [.blk (w.heap.size + 1) [.int .i64 0, .slice none 0 0, .int .i64 0, .slice none 0 0, .int .i64 0, .slice none 0 0, .int .i64 0] 28, .blk w.heap.size [.int .i64 t.a.base, .slice A1 t.a.digits.length c1, .int .i64 t.b.base, .slice A2 t.b.digits.length c2, .int .i64 t.s.base, .slice A3 t.s.digits.length c3, .int .i64 t.carry] 28] W) => l10Ok_any ⟨w.heap.size, 0, none⟩ t W (hTC W hW).tri hs)
  rcases hv : vmach t with _ | _
  · rw [hv] at KV
    have HB := Lib.hid (mo_code (t := t) (x := x) (f := f) (sh := sh) (c := 1) (by unfold moC; rw [if_pos hv]) (by decide))
    have KV := Lib.hid KV
    clear hv r1 r2 r3 hs hTC
    go_enter Tryz.func9, Tryz.ntmps9
    go_wp2_with fail
    refine Calls.kn (((Kn.nil w).al [.int .i64 t.a.base, .slice A1 t.a.digits.length c1, .int .i64 t.b.base, .slice A2 t.b.digits.length c2, .int .i64 t.s.base, .slice A3 t.s.digits.length c3, .int .i64 t.carry] 28).al [.int .i64 0, .slice none 0 0, .int .i64 0, .slice none 0 0, .int .i64 0, .slice none 0 0, .int .i64 0] 28) ?_; intro w1 hK0
    simp only [World.size_alloc] at hK0
    refine (KV.out _ hK0).mono ?_; rintro e w2 ⟨rfl, q, rfl⟩
    have hK1 := hK0.drewN q
    generalize w1.drewN q = w3 at hK1 ⊢
    obtain ⟨x1, x2, x3, -⟩ := hK1.cells
    go_wp2_with fail
    refine bodyPost.kn (((((((hK1.st 0 (.int .i64 0)).st 1 (.slice none 0 0)).st 2 (.int .i64 0)).st 3 (.slice none 0 0)).st 4 (.int .i64 0)).st 5 (.slice none 0 0)).st 6 (.int .i64 0)) ?_; intro w6 hK6
    clear x1 x2 x3
    obtain ⟨a1, a2, a3, -⟩ := hK6.cells
    refine bodyPost_ret (v := .tuple #[.agg #[.int .i64 0, .slice none 0 0, .int .i64 0, .slice none 0 0, .int .i64 0, .slice none 0 0, .int .i64 0], .int .i64 0, .int .i64 1]) (by simp [results, Tryz.results9, go_sem, a1]) rfl ?_
    unfold MORet
    rw [HB.out.1, HB.out.2.1, HB.out.2.2]
    exact MSRet.bad hK6.bare
  rw [hv] at KV
  obtain ⟨k1, k2, k3, e1, e2, f1, f2, l1, p0, p1⟩ := vmach_all hv
  obtain ⟨⟨b1, b2⟩, ⟨n1, n2⟩, -⟩ := vreg_iff.1 k1
  obtain ⟨⟨b3, b4⟩, ⟨n3, n4⟩, -⟩ := vreg_iff.1 k2
  obtain ⟨⟨b5, b6⟩, ⟨n5, n6⟩, -⟩ := vreg_iff.1 k3
  have hC0 : moC t x f sh = if trnC t.a.base f = 2 then 2 else if betB x 0 (pw t.a.base t.a.digits.length - 1) = false then 2 else if vplaces t < ((turnL sh t.a.base f).length : Int) ∨ pw t.b.base t.b.digits.length - 1 < x * f then 5 else 0 := by unfold moC; rw [if_neg (by rw [hv]; decide)]
  have KM := (fun W => l12Digits_any t.a.base f sh W)
  unfold TDRet at KM
  rcases trnC_cases t.a.base f with hc | ⟨hc, -, -, h0, h1⟩
  · have HB := Lib.hid (mo_code (t := t) (x := x) (f := f) (sh := sh) (c := 2) (by rw [hC0, if_pos hc]) (by decide))
    have HC := Lib.hid hc
    have KM := Lib.hid KM
    have KV := Lib.hid KV
    clear hv r1 r2 r3 hs k1 k2 k3 hc hC0 e1 e2 f1 f2 l1 p0 p1 hTC
    go_enter Tryz.func9, Tryz.ntmps9
    go_wp2_with fail
    refine Calls.kn (((Kn.nil w).al [.int .i64 t.a.base, .slice A1 t.a.digits.length c1, .int .i64 t.b.base, .slice A2 t.b.digits.length c2, .int .i64 t.s.base, .slice A3 t.s.digits.length c3, .int .i64 t.carry] 28).al [.int .i64 0, .slice none 0 0, .int .i64 0, .slice none 0 0, .int .i64 0, .slice none 0 0, .int .i64 0] 28) ?_; intro w1 hK0
    simp only [World.size_alloc] at hK0
    refine (KV.out _ hK0).mono ?_; rintro e w2 ⟨rfl, q, rfl⟩
    have hK1 := hK0.drewN q
    generalize w1.drewN q = w2 at hK1 ⊢
    clear hK0
    obtain ⟨a1, a2, a3, d1, d2, d3, -⟩ := hK1.cells
    go_wp2_with fail
    refine (KM.out _).mono ?_; rintro e w3 (⟨-, rfl, hw⟩ | ⟨hc, -⟩)
    rotate_left
    · rw [HC.out] at hc; cases hc
    have hK1 := hK1.keep hw
    clear hw a1 a2 a3 d1 d2 d3
    go_upto_region 4 with fail
    refine Code.wp.kn (hK1.al_ (.cells #[.int .i64 0, .slice none 0 0] 91)) ?_; intro w4 hK1
    obtain ⟨x1, x2, x3, -⟩ := hK1.cells
    go_wp2_with fail
    refine bodyPost.kn (((((((hK1.st 0 (.int .i64 0)).st 1 (.slice none 0 0)).st 2 (.int .i64 0)).st 3 (.slice none 0 0)).st 4 (.int .i64 0)).st 5 (.slice none 0 0)).st 6 (.int .i64 0)) ?_; intro w6 hK6
    clear x1 x2 x3
    obtain ⟨a1, a2, a3, -⟩ := hK6.cells
    refine bodyPost_ret (v := .tuple #[.agg #[.int .i64 0, .slice none 0 0, .int .i64 0, .slice none 0 0, .int .i64 0, .slice none 0 0, .int .i64 0], .int .i64 0, .int .i64 2]) (by simp [results, Tryz.results9, go_sem, a1]) rfl ?_
    unfold MORet
    rw [HB.out.1, HB.out.2.1, HB.out.2.2]
    exact MSRet.bad hK6.bare
  have hvp := vplaces_bd hv
  have hmo := pw_mono t.a.base b1 _ _ l1
  have pb := pw_pos t.b.base b3 t.b.digits.length
  have pa := pw_pos t.a.base b1 t.a.digits.length
  have pa2 : pw t.a.base t.a.digits.length ≤ 1000000000001 := by rw [e1] at hmo ⊢; omega
  have hp1 : powS t.a.base t.a.digits.length = pw t.a.base t.a.digits.length := by unfold powS; omega
  have hp2 : powS t.b.base t.b.digits.length = pw t.b.base t.b.digits.length := by unfold powS; omega
  have KN1 := (fun W (h : RegAt W ⟨w.heap.size, 0, none⟩ t.a.base A1 t.a.digits.length c1) => l12Room_any ⟨w.heap.size, 0, none⟩ t.a.base A1 t.a.digits.length c1 W h b1 b2 (by omega))
  rw [hp1] at KN1
  have KN2 := (fun W (h : RegAt W ⟨w.heap.size, 2, none⟩ t.b.base A2 t.b.digits.length c2) => l12Room_any ⟨w.heap.size, 2, none⟩ t.b.base A2 t.b.digits.length c2 W h b3 b4 (by omega))
  rw [hp2] at KN2
  have hC1 : moC t x f sh = if betB x 0 (pw t.a.base t.a.digits.length - 1) = false then 2 else if vplaces t < ((turnL sh t.a.base f).length : Int) ∨ pw t.b.base t.b.digits.length - 1 < x * f then 5 else 0 := by rw [hC0, if_neg (by rw [hc]; decide)]
  have KM := (fun W => (KM W).mono (R' := fun e w' => ∃ A c, e = .returned (.tuple #[.agg #[.int .i64 t.a.base, .slice A (turnL sh t.a.base f).length c], .int .i64 0]) ∧ Kn W [rowI A c (turnL sh t.a.base f)] w') (fun e w' h => h.elim (fun h => absurd (hc.symm.trans h.1) (by decide)) (fun h => h.2)))
  have hlp := mulP_ok (sh := sh) b1 b2 h0 h1
  obtain ⟨htl, htd⟩ := turnL_bd sh b1 b2 h0 h1
  have KB0 := (fun W => l00In_any x 0 (pw t.a.base t.a.digits.length - 1) W)
  rcases hx : betB x 0 (pw t.a.base t.a.digits.length - 1) with _ | _
  · rw [hx] at KB0
    have HB := Lib.hid (mo_code (t := t) (x := x) (f := f) (sh := sh) (c := 2) (by rw [hC1, if_pos hx]) (by decide))
    obtain ⟨ts, hts⟩ : ∃ l, turnL sh t.a.base f = l := ⟨_, rfl⟩
    obtain ⟨N1, hN1⟩ : ∃ N, pw t.a.base t.a.digits.length = N := ⟨_, rfl⟩
    rw [hN1] at KN1 KB0 pa pa2
    rw [hts] at KM
    have KB := Lib.hid KB0
    have KN1 := Lib.hid KN1
    have KM := Lib.hid KM
    have KV := Lib.hid KV
    clear hv r1 r2 r3 hs k1 k2 k3 hc hC0 e1 e2 f1 f2 l1 p0 p1 hC1 KN2 hlp htl htd hts hx hmo hp1 hp2 hvp hN1 hTC KB0
    go_enter Tryz.func9, Tryz.ntmps9
    go_wp2_with fail
    refine Calls.kn (((Kn.nil w).al [.int .i64 t.a.base, .slice A1 t.a.digits.length c1, .int .i64 t.b.base, .slice A2 t.b.digits.length c2, .int .i64 t.s.base, .slice A3 t.s.digits.length c3, .int .i64 t.carry] 28).al [.int .i64 0, .slice none 0 0, .int .i64 0, .slice none 0 0, .int .i64 0, .slice none 0 0, .int .i64 0] 28) ?_; intro w1 hK0
    simp only [World.size_alloc] at hK0
    refine (KV.out _ hK0).mono ?_; rintro e w2 ⟨rfl, q, rfl⟩
    have hK1 := hK0.drewN q
    generalize w1.drewN q = w2 at hK1 ⊢
    clear hK0
    obtain ⟨a1, a2, a3, d1, d2, d3, -⟩ := hK1.cells
    go_wp2_with fail
    refine (KM.out _).mono ?_; rintro e w3 ⟨TA, tc, rfl, hKm⟩
    have hK1 := hK1.keep hKm.below
    clear hKm a1 a2 a3 d1 d2 d3
    go_upto_region 4 with fail
    refine Code.wp.kn (hK1.al_ (.cells #[.int .i64 t.a.base, .slice TA ts.length tc] 91)) ?_; intro w4 hK1
    go_wp2_with fail
    have hq := hK1.drop.blkAt.1
    refine (KN1.out _ ⟨hq 0, hq 1⟩).mono ?_; rintro e w5 ⟨rfl, q2, rfl⟩
    have hK1 := hK1.drewN q2
    generalize w4.drewN q2 = w5 at hK1 ⊢
    clear hq
    go_wp2_with fail
    refine (KB.out _).mono ?_; rintro e w6 ⟨rfl, rfl⟩
    obtain ⟨x1, x2, x3, -⟩ := hK1.cells
    go_wp2_with fail
    refine bodyPost.kn (((((((hK1.st 0 (.int .i64 0)).st 1 (.slice none 0 0)).st 2 (.int .i64 0)).st 3 (.slice none 0 0)).st 4 (.int .i64 0)).st 5 (.slice none 0 0)).st 6 (.int .i64 0)) ?_; intro w6 hK6
    clear x1 x2 x3
    obtain ⟨a1, a2, a3, -⟩ := hK6.cells
    refine bodyPost_ret (v := .tuple #[.agg #[.int .i64 0, .slice none 0 0, .int .i64 0, .slice none 0 0, .int .i64 0, .slice none 0 0, .int .i64 0], .int .i64 0, .int .i64 2]) (by simp [results, Tryz.results9, go_sem, a1]) rfl ?_
    unfold MORet
    rw [HB.out.1, HB.out.2.1, HB.out.2.2]
    exact MSRet.bad hK6.bare
  rw [hx] at KB0
  have hx' := betB_iff.1 hx
  have hst := moStart_ok hv hx
  have hC2 : moC t x f sh = if vplaces t < ((turnL sh t.a.base f).length : Int) ∨ pw t.b.base t.b.digits.length - 1 < x * f then 5 else 0 := by rw [hC1, if_neg (by rw [hx]; decide)]
  have KP := (fun W (hW : Kn w [.blk (w.heap.size + 1) [.int .i64 0, .slice none 0 0, .int .i64 0, .slice none 0 0, .int .i64 0, .slice none 0 0, .int .i64 0] 28, .blk w.heap.size [.int .i64 t.a.base, .slice A1 t.a.digits.length c1, .int .i64 t.b.base, .slice A2 t.b.digits.length c2, .int .i64 t.s.base, .slice A3 t.s.digits.length c3, .int .i64 t.carry] 28] W) => l10Places_any ⟨w.heap.size, 0, none⟩ t W (hTC W hW).tri n2 n4 n6)
  have KC : ∀ W, W.cell? ⟨w.heap.size, 0, none⟩ = some (.int .i64 t.a.base) → W.cell? ⟨w.heap.size, 1, none⟩ = some (.slice A1 t.a.digits.length c1) → W.cell? ⟨w.heap.size, 3, none⟩ = some (.slice A2 t.b.digits.length c2) → W.cell? ⟨w.heap.size, 5, none⟩ = some (.slice A3 t.s.digits.length c3) → Calls Tryz.prog 62 #[.pointer (some ⟨w.heap.size, 0, none⟩), .int .i64 x] W fun e w' => ∃ E1 g1 E2 g2 E3 g3, e = .returned (.agg #[.int .i64 t.a.base, .slice E1 (digD t.a.base t.a.digits.length x).length g1, .int .i64 t.b.base, .slice E2 (digD t.b.base t.b.digits.length 0).length g2, .int .i64 t.s.base, .slice E3 (digD t.s.base t.s.digits.length 0).length g3, .int .i64 0]) ∧
      Kn W [rowI E3 g3 (digD t.s.base t.s.digits.length 0), rowI E2 g2 (digD t.b.base t.b.digits.length 0), rowI E1 g1 (digD t.a.base t.a.digits.length x)] w' := by
    intro W q1 q2 q3 q4
    have := l12Fresh_any w.heap.size t.a.base A1 A2 A3 t.a.digits.length t.b.digits.length t.s.digits.length c1 c2 c3 x W q1 q2 q3 q4 b1 b2 (by omega) (by omega) (by omega) (by omega) (by omega)
    rw [e2, ← e1]
    exact this
  have KR := (fun (LA : Option Addr) (lc : Nat) (g : Nat) (E1 : Option Addr) (g1 : Nat) (E2 : Option Addr) (g2 : Nat) (E3 : Option Addr) (g3 : Nat) W hT hq => l11Run_any (lc := lc) (LA := LA) (L := mulP (turnL sh t.a.base f)) (n := (mulP (turnL sh t.a.base f)).length) g (dvStart t 0 x) E1 E2 E3 g1 g2 g3 W hT hst hlp hq)
  unfold RunPS at KR
  have KT := (fun (g : Nat) (A : Option Addr) (c : Nat) W q2 hr => l12Turns_any g A c (turnL sh t.a.base f) W q2 hr (by omega) htd)
  have hdl := div_less (X := pw t.b.base t.b.digits.length - 1) (x := f) (y := x) (by omega)
  rw [Int.mul_comm f x] at hdl
  have hmf := (fun (s : RS) (b : Bool) h he hg => mo_fine (t := t) (x := x) (f := f) (sh := sh) (s := s) (b := b) h he hg)
  unfold dvStart at hmf KR
  obtain ⟨N1, hN1⟩ : ∃ N, pw t.a.base t.a.digits.length = N := ⟨_, rfl⟩
  obtain ⟨N2, hN2⟩ : ∃ N, pw t.b.base t.b.digits.length = N := ⟨_, rfl⟩
  obtain ⟨PL, hPL⟩ : ∃ N, (vplaces t) = N := ⟨_, rfl⟩
  obtain ⟨LL, hLL⟩ : ∃ l, mulP (turnL sh t.a.base f) = l := ⟨_, rfl⟩
  rw [hN1] at KN1 KB0 pa pa2 hx'
  rw [hN2] at KN2 pb f1 hdl hC2
  rw [hLL] at KR hmf KT
  rw [hPL] at KP hvp hC2
  obtain ⟨ts, hts⟩ : ∃ l, turnL sh t.a.base f = l := ⟨_, rfl⟩
  rw [hts] at KM KT hC2 htl
  obtain ⟨ds, hds⟩ : ∃ l, digD t.a.base t.a.digits.length x = l := ⟨_, rfl⟩
  obtain ⟨fs, hfs⟩ : ∃ l, digD t.s.base t.s.digits.length 0 = l := ⟨_, rfl⟩
  obtain ⟨zs, hzs⟩ : ∃ l, digD t.b.base t.b.digits.length 0 = l := ⟨_, rfl⟩
  rw [hds, hzs, hfs] at KR hmf
  rw [hds, hzs, hfs] at KC
  have hplb : 1 ≤ PL ∧ PL ≤ 16 := by omega
  have hdq : 0 < x → 0 ≤ (N2 - 1).tdiv x ∧ (N2 - 1).tdiv x ≤ N2 - 1 := fun h => by
    rw [Int.tdiv_eq_ediv_of_nonneg (by omega)]
    exact ⟨Int.ediv_nonneg (by omega) (by omega), Int.ediv_le_self _ (by omega)⟩
  obtain ⟨Q, hQ⟩ : ∃ q, (N2 - 1).tdiv x = q := ⟨_, rfl⟩
  rw [hQ] at hdq hdl
  have HX5 := Lib.hid (fun (h : PL < (ts.length : Int) ∨ N2 - 1 < x * f) => mo_code (t := t) (x := x) (f := f) (sh := sh) (c := 5) (by rw [hC2, if_pos h]) (by decide))
  have HX0 := Lib.hid (fun (h : ¬ (PL < (ts.length : Int) ∨ N2 - 1 < x * f)) => show moC t x f sh = 0 by rw [hC2, if_neg h])
  have HDL := Lib.hid hdl
  have HMF := Lib.hid hmf
  have KB := Lib.hid KB0
  have KN1 := Lib.hid KN1
  have KN2 := Lib.hid KN2
  have KM := Lib.hid KM
  have KV := Lib.hid KV
  have KP := Lib.hid KP
  have KC := Lib.hid KC
  have KR := Lib.hid KR
  have KT := Lib.hid KT
  clear hv r1 r2 r3 hs k1 k2 k3 hc hC0 e1 e2 f2 l1 p0 p1 hC1 hC2 hlp hLL hts hx hmo hp1 hp2 hvp hN1 hN2 hPL hst hds hfs hzs hdl hmf htd KB0 hTC
  go_enter Tryz.func9, Tryz.ntmps9
  go_wp2_with fail
  refine Calls.kn (((Kn.nil w).al [.int .i64 t.a.base, .slice A1 t.a.digits.length c1, .int .i64 t.b.base, .slice A2 t.b.digits.length c2, .int .i64 t.s.base, .slice A3 t.s.digits.length c3, .int .i64 t.carry] 28).al [.int .i64 0, .slice none 0 0, .int .i64 0, .slice none 0 0, .int .i64 0, .slice none 0 0, .int .i64 0] 28) ?_; intro w1 hK0
  simp only [World.size_alloc] at hK0
  refine (KV.out _ hK0).mono ?_; rintro e w2 ⟨rfl, q, rfl⟩
  have hK1 := hK0.drewN q
  generalize w1.drewN q = w2 at hK1 ⊢
  clear hK0
  obtain ⟨a1, a2, a3, d1, d2, d3, -⟩ := hK1.cells
  go_wp2_with fail
  refine (KM.out _).mono ?_; rintro e w3 ⟨TA, tc, rfl, hKm⟩
  have hK2 := hK1.join hKm
  clear hKm a1 a2 a3 d1 d2 d3 hK1
  go_upto_region 4 with fail
  refine Code.wp.kn (hK2.al [.int .i64 t.a.base, .slice TA ts.length tc] 91) ?_; intro w4 hK2
  have hK2 : Kn w [.blk w3.heap.size [.int .i64 t.a.base, .slice TA ts.length tc] 91, rowI TA tc ts, .blk (w.heap.size + 1) [.int .i64 0, .slice none 0 0, .int .i64 0, .slice none 0 0, .int .i64 0, .slice none 0 0, .int .i64 0] 28, .blk w.heap.size [.int .i64 t.a.base, .slice A1 t.a.digits.length c1, .int .i64 t.b.base, .slice A2 t.b.digits.length c2, .int .i64 t.s.base, .slice A3 t.s.digits.length c3, .int .i64 t.carry] 28] w4 := hK2
  go_wp2_with fail
  have hq := (hK2.front 3 rfl).blkAt.1
  refine (KN1.out _ ⟨hq 0, hq 1⟩).mono ?_; rintro e w5 ⟨rfl, q2, rfl⟩
  have hK2 : Kn w [.blk w3.heap.size [.int .i64 t.a.base, .slice TA ts.length tc] 91, rowI TA tc ts, .blk (w.heap.size + 1) [.int .i64 0, .slice none 0 0, .int .i64 0, .slice none 0 0, .int .i64 0, .slice none 0 0, .int .i64 0] 28, .blk w.heap.size [.int .i64 t.a.base, .slice A1 t.a.digits.length c1, .int .i64 t.b.base, .slice A2 t.b.digits.length c2, .int .i64 t.s.base, .slice A3 t.s.digits.length c3, .int .i64 t.carry] 28] (w4.drewN q2) := hK2.drewN q2
  generalize w4.drewN q2 = w5 at hK2 ⊢
  clear hq
  go_wp2_with fail
  refine (KB.out _).mono ?_; rintro e w6 ⟨rfl, rfl⟩
  go_wp2_with fail
  by_cases hA : PL < (ts.length : Int)
  · have HB := Lib.hid (HX5.out (.inl hA))
    have hA2 : decide (PL < (ts.length : Int)) = true := decide_eq_true hA
    have HG := Lib.hid (show w5.drew.cell? ⟨w3.heap.size, 1, none⟩ = some (.slice TA ts.length tc) from hK2.drew.cellIs 1 (.slice TA ts.length tc) rfl)
    refine wp_region_held_drew (S := (fun W => W.cell? ⟨w3.heap.size, 1, none⟩ = some (.slice TA ts.length tc))) (by kernel_rfl) ?_ (fun hHeld => ?_)
    · exact HG.out
    try dsimp only
    refine wpAnyH_take (i := 0) (v := ?_) rfl (by kernel_rfl) (by kernel_rfl) (by kernel_rfl) (fun _ _ _ h => h) (Or.inl ⟨by rfl, ?_⟩) hHeld ?_
    rotate_left
    · (intro w hSw; (try dsimp only at hSw); go_simp; try with_reducible rfl)
    try simp only [Act.put, List.setIfInBounds_toArray, List.set_cons_zero, List.set_cons_succ, List.getElem_toArray, List.getElem_cons_zero]
    refine wpAnyH_take (i := 1) (v := ?_) rfl (by kernel_rfl) (by kernel_rfl) (by kernel_rfl) (fun _ _ _ h => h) (Or.inl ⟨by rfl, ?_⟩) hHeld ?_
    rotate_left
    · (intro w hSw; (try dsimp only at hSw); go_simp; try with_reducible rfl)
    try simp only [Act.put, List.setIfInBounds_toArray, List.set_cons_zero, List.set_cons_succ, List.getElem_toArray, List.getElem_cons_succ, List.getElem_cons_zero]
    refine wpAnyH_take (i := 2) (v := ?_) rfl (by kernel_rfl) (by kernel_rfl) (by kernel_rfl) (fun _ _ _ h => h) (Or.inl ⟨by rfl, ?_⟩) hHeld ?_
    rotate_left
    · (intro w hSw; (try dsimp only at hSw); go_simp; try with_reducible rfl)
    try simp only [Act.put, List.setIfInBounds_toArray, List.set_cons_zero, List.set_cons_succ, List.getElem_toArray, List.getElem_cons_succ, List.getElem_cons_zero]
    refine wpAnyH_ready (rs := [3]) (by kernel_rfl) (by decide) (AllReadyH.cons (o := _) rfl (fun K hK => ?_) AllReadyH.nil)
    go_simp
    go_at_call 61
    (refine (KP.out _ (hK2.drew.sel [2, 3] 99 (by decide) (by decide))).mono ?_); rintro e w8 ⟨rfl, q8, rfl⟩
    have hK8 := hK2.drew.drewN q8
    generalize w5.drew.drewN q8 = w8 at hK8 ⊢
    have HG := Lib.hid (show w8.cell? ⟨w3.heap.size, 1, none⟩ = some (.slice TA ts.length tc) from hK8.cellIs 1 (.slice TA ts.length tc) rfl)
    refine hK.out _ _ HG.out (fun hHeld2 => ?_)
    clear hK K hHeld
    have hHeld := hHeld2
    clear hHeld2
    try simp only [Act.put, List.setIfInBounds_toArray]
    refine wpAnyH_take (i := 4) (v := .bool true) rfl (by kernel_rfl) (by kernel_rfl) (by kernel_rfl) (fun _ _ _ h => h) (Or.inl ⟨by rfl, ?_⟩) hHeld ?_
    · (intro w hSw; clear hSw; go_simp)
    try simp only [Act.put, List.setIfInBounds_toArray, List.set_cons_zero, List.set_cons_succ, List.getElem_toArray, List.getElem_cons_succ, List.getElem_cons_zero]
    refine wpAnyH_take (i := 5) (v := ?_) rfl (by kernel_rfl) (by kernel_rfl) (by kernel_rfl) (fun _ _ _ h => h) (Or.inl ⟨by rfl, ?_⟩) hHeld ?_
    rotate_left
    · (intro w hSw; (try dsimp only at hSw); go_simp; try with_reducible rfl)
    try simp only [Act.put, List.setIfInBounds_toArray, List.set_cons_zero, List.set_cons_succ, List.getElem_toArray, List.getElem_cons_succ, List.getElem_cons_zero]
    refine wpAnyH_take (i := 6) (v := undef) rfl (by kernel_rfl) (by kernel_rfl) (by kernel_rfl) (fun _ _ _ h => h) (Or.inr ⟨by rfl, rfl⟩) hHeld ?_
    try simp only [Act.put, List.setIfInBounds_toArray, List.set_cons_zero, List.set_cons_succ, List.getElem_toArray, List.getElem_cons_succ, List.getElem_cons_zero]
    refine wpAnyH_take (i := 7) (v := undef) rfl (by kernel_rfl) (by kernel_rfl) (by kernel_rfl) (fun _ _ _ h => h) (Or.inr ⟨by rfl, rfl⟩) hHeld ?_
    try simp only [Act.put, List.setIfInBounds_toArray, List.set_cons_zero, List.set_cons_succ, List.getElem_toArray, List.getElem_cons_succ, List.getElem_cons_zero]
    refine wpAnyH_take (i := 8) (v := undef) rfl (by kernel_rfl) (by kernel_rfl) (by kernel_rfl) (fun _ _ _ h => h) (Or.inr ⟨by rfl, rfl⟩) hHeld ?_
    try simp only [Act.put, List.setIfInBounds_toArray, List.set_cons_zero, List.set_cons_succ, List.getElem_toArray, List.getElem_cons_succ, List.getElem_cons_zero]
    refine wpAnyH_take (i := 9) (v := undef) rfl (by kernel_rfl) (by kernel_rfl) (by kernel_rfl) (fun _ _ _ h => h) (Or.inr ⟨by rfl, rfl⟩) hHeld ?_
    try simp only [Act.put, List.setIfInBounds_toArray, List.set_cons_zero, List.set_cons_succ, List.getElem_toArray, List.getElem_cons_succ, List.getElem_cons_zero]
    refine wpAnyH_take (i := 10) (v := undef) rfl (by kernel_rfl) (by kernel_rfl) (by kernel_rfl) (fun _ _ _ h => h) (Or.inr ⟨by rfl, rfl⟩) hHeld ?_
    try simp only [Act.put, List.setIfInBounds_toArray, List.set_cons_zero, List.set_cons_succ, List.getElem_toArray, List.getElem_cons_succ, List.getElem_cons_zero]
    refine wpAnyH_take (i := 11) (v := undef) rfl (by kernel_rfl) (by kernel_rfl) (by kernel_rfl) (fun _ _ _ h => h) (Or.inr ⟨by rfl, rfl⟩) hHeld ?_
    try simp only [Act.put, List.setIfInBounds_toArray, List.set_cons_zero, List.set_cons_succ, List.getElem_toArray, List.getElem_cons_succ, List.getElem_cons_zero]
    refine wpAnyH_take (i := 12) (v := undef) rfl (by kernel_rfl) (by kernel_rfl) (by kernel_rfl) (fun _ _ _ h => h) (Or.inr ⟨by rfl, rfl⟩) hHeld ?_
    try simp only [Act.put, List.setIfInBounds_toArray, List.set_cons_zero, List.set_cons_succ, List.getElem_toArray, List.getElem_cons_succ, List.getElem_cons_zero]
    refine wpAnyH_take (i := 13) (v := undef) rfl (by kernel_rfl) (by kernel_rfl) (by kernel_rfl) (fun _ _ _ h => h) (Or.inr ⟨by rfl, rfl⟩) hHeld ?_
    try simp only [Act.put, List.setIfInBounds_toArray, List.set_cons_zero, List.set_cons_succ, List.getElem_toArray, List.getElem_cons_succ, List.getElem_cons_zero]
    refine wpAnyH_take (i := 14) (v := undef) rfl (by kernel_rfl) (by kernel_rfl) (by kernel_rfl) (fun _ _ _ h => h) (Or.inr ⟨by rfl, rfl⟩) hHeld ?_
    try simp only [Act.put, List.setIfInBounds_toArray, List.set_cons_zero, List.set_cons_succ, List.getElem_toArray, List.getElem_cons_succ, List.getElem_cons_zero]
    refine wpAnyH_take (i := 15) (v := undef) rfl (by kernel_rfl) (by kernel_rfl) (by kernel_rfl) (fun _ _ _ h => h) (Or.inr ⟨by rfl, rfl⟩) hHeld ?_
    try simp only [Act.put, List.setIfInBounds_toArray, List.set_cons_zero, List.set_cons_succ, List.getElem_toArray, List.getElem_cons_succ, List.getElem_cons_zero]
    refine wpAnyH_take (i := 16) (v := undef) rfl (by kernel_rfl) (by kernel_rfl) (by kernel_rfl) (fun _ _ _ h => h) (Or.inr ⟨by rfl, rfl⟩) hHeld ?_
    try simp only [Act.put, List.setIfInBounds_toArray, List.set_cons_zero, List.set_cons_succ, List.getElem_toArray, List.getElem_cons_succ, List.getElem_cons_zero]
    refine wpAnyH_take (i := 17) (v := ?_) rfl (by kernel_rfl) (by kernel_rfl) (by kernel_rfl) (fun _ _ _ h => h) (Or.inl ⟨by rfl, ?_⟩) hHeld ?_
    rotate_left
    · (intro w hSw; (try dsimp only at hSw); go_simp; try with_reducible rfl)
    try simp only [Act.put, List.setIfInBounds_toArray, List.set_cons_zero, List.set_cons_succ, List.getElem_toArray, List.getElem_cons_succ, List.getElem_cons_zero]
    refine wpAnyH_done (by kernel_rfl) ?_ _
    have hK1 := hK8.sel [2, 3] 99 (by decide) (by decide)
    obtain ⟨x1, x2, x3, -⟩ := hK1.cells
    go_wp2_with fail
    refine bodyPost.kn (((((((hK1.st 0 (.int .i64 0)).st 1 (.slice none 0 0)).st 2 (.int .i64 0)).st 3 (.slice none 0 0)).st 4 (.int .i64 0)).st 5 (.slice none 0 0)).st 6 (.int .i64 0)) ?_; intro w6 hK6
    clear x1 x2 x3
    obtain ⟨a1, a2, a3, -⟩ := hK6.cells
    refine bodyPost_ret (v := .tuple #[.agg #[.int .i64 0, .slice none 0 0, .int .i64 0, .slice none 0 0, .int .i64 0, .slice none 0 0, .int .i64 0], .int .i64 0, .int .i64 5]) (by simp [results, Tryz.results9, go_sem, a1]) rfl ?_
    unfold MORet
    rw [HB.out.1, HB.out.2.1, HB.out.2.2]
    exact MSRet.bad hK6.bare
  by_cases hx0 : 0 < x
  · have hdq0 := hdq hx0
    have wq : IntKind.i64.wrap Q = Q := wrapI64 (by omega)
    have wq2 : IntKind.i64.wrap ((N2 - 1).tdiv x) = Q := by rw [hQ]; exact wq
    have wn : IntKind.i64.wrap (N2 - 1) = N2 - 1 := wrapI64 (by omega)
    have nf1 : x ≠ 0 := by omega
    have nf2 : (x == 0) = false := by simp; omega
    have hA2 : decide (PL < (ts.length : Int)) = false := decide_eq_false hA
    by_cases hB : Q < f
    · have HB := Lib.hid (HX5.out (.inr ((HDL.out hx0).1 hB)))
      have hB2 : decide (Q < f) = true := decide_eq_true hB
      have HG := Lib.hid (show w5.drew.cell? ⟨w3.heap.size, 1, none⟩ = some (.slice TA ts.length tc) from hK2.drew.cellIs 1 (.slice TA ts.length tc) rfl)
      refine wp_region_held_drew (S := (fun W => W.cell? ⟨w3.heap.size, 1, none⟩ = some (.slice TA ts.length tc))) (by kernel_rfl) ?_ (fun hHeld => ?_)
      · exact HG.out
      try dsimp only
      refine wpAnyH_take (i := 0) (v := ?_) rfl (by kernel_rfl) (by kernel_rfl) (by kernel_rfl) (fun _ _ _ h => h) (Or.inl ⟨by rfl, ?_⟩) hHeld ?_
      rotate_left
      · (intro w hSw; (try dsimp only at hSw); go_simp; try with_reducible rfl)
      try simp only [Act.put, List.setIfInBounds_toArray, List.set_cons_zero, List.set_cons_succ, List.getElem_toArray, List.getElem_cons_zero]
      refine wpAnyH_take (i := 1) (v := ?_) rfl (by kernel_rfl) (by kernel_rfl) (by kernel_rfl) (fun _ _ _ h => h) (Or.inl ⟨by rfl, ?_⟩) hHeld ?_
      rotate_left
      · (intro w hSw; (try dsimp only at hSw); go_simp; try with_reducible rfl)
      try simp only [Act.put, List.setIfInBounds_toArray, List.set_cons_zero, List.set_cons_succ, List.getElem_toArray, List.getElem_cons_succ, List.getElem_cons_zero]
      refine wpAnyH_take (i := 2) (v := ?_) rfl (by kernel_rfl) (by kernel_rfl) (by kernel_rfl) (fun _ _ _ h => h) (Or.inl ⟨by rfl, ?_⟩) hHeld ?_
      rotate_left
      · (intro w hSw; (try dsimp only at hSw); go_simp; try with_reducible rfl)
      try simp only [Act.put, List.setIfInBounds_toArray, List.set_cons_zero, List.set_cons_succ, List.getElem_toArray, List.getElem_cons_succ, List.getElem_cons_zero]
      refine wpAnyH_ready (rs := [3]) (by kernel_rfl) (by decide) (AllReadyH.cons (o := _) rfl (fun K hK => ?_) AllReadyH.nil)
      go_simp
      go_at_call 61
      (refine (KP.out _ (hK2.drew.sel [2, 3] 99 (by decide) (by decide))).mono ?_); rintro e w8 ⟨rfl, q8, rfl⟩
      have hK8 := hK2.drew.drewN q8
      generalize w5.drew.drewN q8 = w8 at hK8 ⊢
      have HG := Lib.hid (show w8.cell? ⟨w3.heap.size, 1, none⟩ = some (.slice TA ts.length tc) from hK8.cellIs 1 (.slice TA ts.length tc) rfl)
      refine hK.out _ _ HG.out (fun hHeld2 => ?_)
      clear hK K hHeld
      have hHeld := hHeld2
      clear hHeld2
      try simp only [Act.put, List.setIfInBounds_toArray]
      refine wpAnyH_take (i := 4) (v := .bool false) rfl (by kernel_rfl) (by kernel_rfl) (by kernel_rfl) (fun _ _ _ h => h) (Or.inl ⟨by rfl, ?_⟩) hHeld ?_
      · (intro w hSw; clear hSw; go_simp)
      try simp only [Act.put, List.setIfInBounds_toArray, List.set_cons_zero, List.set_cons_succ, List.getElem_toArray, List.getElem_cons_succ, List.getElem_cons_zero]
      refine wpAnyH_take (i := 5) (v := ?_) rfl (by kernel_rfl) (by kernel_rfl) (by kernel_rfl) (fun _ _ _ h => h) (Or.inl ⟨by rfl, ?_⟩) hHeld ?_
      rotate_left
      · (intro w hSw; (try dsimp only at hSw); go_simp; try with_reducible rfl)
      try simp only [Act.put, List.setIfInBounds_toArray, List.set_cons_zero, List.set_cons_succ, List.getElem_toArray, List.getElem_cons_succ, List.getElem_cons_zero]
      refine wpAnyH_take (i := 6) (v := ?_) rfl (by kernel_rfl) (by kernel_rfl) (by kernel_rfl) (fun _ _ _ h => h) (Or.inl ⟨by rfl, ?_⟩) hHeld ?_
      rotate_left
      · (intro w hSw; (try dsimp only at hSw); go_simp; try with_reducible rfl)
      try simp only [Act.put, List.setIfInBounds_toArray, List.set_cons_zero, List.set_cons_succ, List.getElem_toArray, List.getElem_cons_succ, List.getElem_cons_zero]
      refine wpAnyH_take (i := 7) (v := ?_) rfl (by kernel_rfl) (by kernel_rfl) (by kernel_rfl) (fun _ _ _ h => h) (Or.inl ⟨by rfl, ?_⟩) hHeld ?_
      rotate_left
      · (intro w hSw; (try dsimp only at hSw); go_simp; try with_reducible rfl)
      try simp only [Act.put, List.setIfInBounds_toArray, List.set_cons_zero, List.set_cons_succ, List.getElem_toArray, List.getElem_cons_succ, List.getElem_cons_zero]
      refine wpAnyH_take (i := 8) (v := ?_) rfl (by kernel_rfl) (by kernel_rfl) (by kernel_rfl) (fun _ _ _ h => h) (Or.inl ⟨by rfl, ?_⟩) hHeld ?_
      rotate_left
      · (intro w hSw; (try dsimp only at hSw); go_simp; try with_reducible rfl)
      try simp only [Act.put, List.setIfInBounds_toArray, List.set_cons_zero, List.set_cons_succ, List.getElem_toArray, List.getElem_cons_succ, List.getElem_cons_zero]
      refine wpAnyH_take (i := 9) (v := ?_) rfl (by kernel_rfl) (by kernel_rfl) (by kernel_rfl) (fun _ _ _ h => h) (Or.inl ⟨by rfl, ?_⟩) hHeld ?_
      rotate_left
      · (intro w hSw; (try dsimp only at hSw); go_simp; try with_reducible rfl)
      try simp only [Act.put, List.setIfInBounds_toArray, List.set_cons_zero, List.set_cons_succ, List.getElem_toArray, List.getElem_cons_succ, List.getElem_cons_zero]
      refine wpAnyH_take (i := 10) (v := ?_) rfl (by kernel_rfl) (by kernel_rfl) (by kernel_rfl) (fun _ _ _ h => h) (Or.inl ⟨by rfl, ?_⟩) hHeld ?_
      rotate_left
      · (intro w hSw; (try dsimp only at hSw); go_simp; try with_reducible rfl)
      try simp only [Act.put, List.setIfInBounds_toArray, List.set_cons_zero, List.set_cons_succ, List.getElem_toArray, List.getElem_cons_succ, List.getElem_cons_zero]
      refine wpAnyH_take (i := 13) (v := ?_) rfl (by kernel_rfl) (by kernel_rfl) (by kernel_rfl) (fun _ _ _ h => h) (Or.inl ⟨by rfl, ?_⟩) hHeld ?_
      rotate_left
      · (intro w hSw; (try dsimp only at hSw); go_simp; try with_reducible rfl)
      try simp only [Act.put, List.setIfInBounds_toArray, List.set_cons_zero, List.set_cons_succ, List.getElem_toArray, List.getElem_cons_succ, List.getElem_cons_zero]
      refine wpAnyH_ready (rs := [11]) (by kernel_rfl) (by decide) (AllReadyH.cons (o := _) rfl (fun K hK => ?_) AllReadyH.nil)
      go_simp
      go_at_call 60
      have hq := (hK8.front 3 rfl).blkAt.1
      (refine (KN2.out _ ⟨hq 2, hq 3⟩).mono ?_); rintro e w9 ⟨rfl, q9, rfl⟩
      have hK9 := hK8.drewN q9
      generalize w8.drewN q9 = w9 at hK9 ⊢
      clear hq
      have HG := Lib.hid (show w9.cell? ⟨w3.heap.size, 1, none⟩ = some (.slice TA ts.length tc) from hK9.cellIs 1 (.slice TA ts.length tc) rfl)
      refine hK.out _ _ HG.out (fun hHeld2 => ?_)
      clear hK K hHeld
      have hHeld := hHeld2
      clear hHeld2
      try simp only [Act.put, List.setIfInBounds_toArray]
      refine wpAnyH_take (i := 12) (v := ?_) rfl (by kernel_rfl) (by kernel_rfl) (by kernel_rfl) (fun _ _ _ h => h) (Or.inl ⟨by rfl, ?_⟩) hHeld ?_
      rotate_left
      · (intro w hSw; (try dsimp only at hSw); go_simp; try with_reducible rfl)
      try simp only [Act.put, List.setIfInBounds_toArray, List.set_cons_zero, List.set_cons_succ, List.getElem_toArray, List.getElem_cons_succ, List.getElem_cons_zero]
      refine wpAnyH_take (i := 14) (v := ?_) rfl (by kernel_rfl) (by kernel_rfl) (by kernel_rfl) (fun _ _ _ h => h) (Or.inl ⟨by rfl, ?_⟩) hHeld ?_
      rotate_left
      · (intro w hSw; (try dsimp only at hSw); go_simp; try with_reducible rfl)
      try simp only [Act.put, List.setIfInBounds_toArray, List.set_cons_zero, List.set_cons_succ, List.getElem_toArray, List.getElem_cons_succ, List.getElem_cons_zero]
      refine wpAnyH_take (i := 15) (v := .bool true) rfl (by kernel_rfl) (by kernel_rfl) (by kernel_rfl) (fun _ _ _ h => h) (Or.inl ⟨by rfl, ?_⟩) hHeld ?_
      · (intro w hSw; clear hSw; go_simp)
      try simp only [Act.put, List.setIfInBounds_toArray, List.set_cons_zero, List.set_cons_succ, List.getElem_toArray, List.getElem_cons_succ, List.getElem_cons_zero]
      refine wpAnyH_take (i := 16) (v := ?_) rfl (by kernel_rfl) (by kernel_rfl) (by kernel_rfl) (fun _ _ _ h => h) (Or.inl ⟨by rfl, ?_⟩) hHeld ?_
      rotate_left
      · (intro w hSw; (try dsimp only at hSw); go_simp; try with_reducible rfl)
      try simp only [Act.put, List.setIfInBounds_toArray, List.set_cons_zero, List.set_cons_succ, List.getElem_toArray, List.getElem_cons_succ, List.getElem_cons_zero]
      refine wpAnyH_take (i := 17) (v := ?_) rfl (by kernel_rfl) (by kernel_rfl) (by kernel_rfl) (fun _ _ _ h => h) (Or.inl ⟨by rfl, ?_⟩) hHeld ?_
      rotate_left
      · (intro w hSw; (try dsimp only at hSw); go_simp; try with_reducible rfl)
      try simp only [Act.put, List.setIfInBounds_toArray, List.set_cons_zero, List.set_cons_succ, List.getElem_toArray, List.getElem_cons_succ, List.getElem_cons_zero]
      refine wpAnyH_done (by kernel_rfl) ?_ _
      have hK1 := hK9.sel [2, 3] 99 (by decide) (by decide)
      obtain ⟨x1, x2, x3, -⟩ := hK1.cells
      go_wp2_with fail
      refine bodyPost.kn (((((((hK1.st 0 (.int .i64 0)).st 1 (.slice none 0 0)).st 2 (.int .i64 0)).st 3 (.slice none 0 0)).st 4 (.int .i64 0)).st 5 (.slice none 0 0)).st 6 (.int .i64 0)) ?_; intro w6 hK6
      clear x1 x2 x3
      obtain ⟨a1, a2, a3, -⟩ := hK6.cells
      refine bodyPost_ret (v := .tuple #[.agg #[.int .i64 0, .slice none 0 0, .int .i64 0, .slice none 0 0, .int .i64 0, .slice none 0 0, .int .i64 0], .int .i64 0, .int .i64 5]) (by simp [results, Tryz.results9, go_sem, a1]) rfl ?_
      unfold MORet
      rw [HB.out.1, HB.out.2.1, HB.out.2.2]
      exact MSRet.bad hK6.bare
    · have HZ := Lib.hid (HX0.out (fun h => h.elim hA (fun h => hB ((HDL.out hx0).2 h))))
      have hB2 : decide (Q < f) = false := decide_eq_false hB
      have HG := Lib.hid (show w5.drew.cell? ⟨w3.heap.size, 1, none⟩ = some (.slice TA ts.length tc) from hK2.drew.cellIs 1 (.slice TA ts.length tc) rfl)
      refine wp_region_held_drew (S := (fun W => W.cell? ⟨w3.heap.size, 1, none⟩ = some (.slice TA ts.length tc))) (by kernel_rfl) ?_ (fun hHeld => ?_)
      · exact HG.out
      try dsimp only
      refine wpAnyH_take (i := 0) (v := ?_) rfl (by kernel_rfl) (by kernel_rfl) (by kernel_rfl) (fun _ _ _ h => h) (Or.inl ⟨by rfl, ?_⟩) hHeld ?_
      rotate_left
      · (intro w hSw; (try dsimp only at hSw); go_simp; try with_reducible rfl)
      try simp only [Act.put, List.setIfInBounds_toArray, List.set_cons_zero, List.set_cons_succ, List.getElem_toArray, List.getElem_cons_zero]
      refine wpAnyH_take (i := 1) (v := ?_) rfl (by kernel_rfl) (by kernel_rfl) (by kernel_rfl) (fun _ _ _ h => h) (Or.inl ⟨by rfl, ?_⟩) hHeld ?_
      rotate_left
      · (intro w hSw; (try dsimp only at hSw); go_simp; try with_reducible rfl)
      try simp only [Act.put, List.setIfInBounds_toArray, List.set_cons_zero, List.set_cons_succ, List.getElem_toArray, List.getElem_cons_succ, List.getElem_cons_zero]
      refine wpAnyH_take (i := 2) (v := ?_) rfl (by kernel_rfl) (by kernel_rfl) (by kernel_rfl) (fun _ _ _ h => h) (Or.inl ⟨by rfl, ?_⟩) hHeld ?_
      rotate_left
      · (intro w hSw; (try dsimp only at hSw); go_simp; try with_reducible rfl)
      try simp only [Act.put, List.setIfInBounds_toArray, List.set_cons_zero, List.set_cons_succ, List.getElem_toArray, List.getElem_cons_succ, List.getElem_cons_zero]
      refine wpAnyH_ready (rs := [3]) (by kernel_rfl) (by decide) (AllReadyH.cons (o := _) rfl (fun K hK => ?_) AllReadyH.nil)
      go_simp
      go_at_call 61
      (refine (KP.out _ (hK2.drew.sel [2, 3] 99 (by decide) (by decide))).mono ?_); rintro e w8 ⟨rfl, q8, rfl⟩
      have hK8 := hK2.drew.drewN q8
      generalize w5.drew.drewN q8 = w8 at hK8 ⊢
      have HG := Lib.hid (show w8.cell? ⟨w3.heap.size, 1, none⟩ = some (.slice TA ts.length tc) from hK8.cellIs 1 (.slice TA ts.length tc) rfl)
      refine hK.out _ _ HG.out (fun hHeld2 => ?_)
      clear hK K hHeld
      have hHeld := hHeld2
      clear hHeld2
      try simp only [Act.put, List.setIfInBounds_toArray]
      refine wpAnyH_take (i := 4) (v := .bool false) rfl (by kernel_rfl) (by kernel_rfl) (by kernel_rfl) (fun _ _ _ h => h) (Or.inl ⟨by rfl, ?_⟩) hHeld ?_
      · (intro w hSw; clear hSw; go_simp)
      try simp only [Act.put, List.setIfInBounds_toArray, List.set_cons_zero, List.set_cons_succ, List.getElem_toArray, List.getElem_cons_succ, List.getElem_cons_zero]
      refine wpAnyH_take (i := 5) (v := ?_) rfl (by kernel_rfl) (by kernel_rfl) (by kernel_rfl) (fun _ _ _ h => h) (Or.inl ⟨by rfl, ?_⟩) hHeld ?_
      rotate_left
      · (intro w hSw; (try dsimp only at hSw); go_simp; try with_reducible rfl)
      try simp only [Act.put, List.setIfInBounds_toArray, List.set_cons_zero, List.set_cons_succ, List.getElem_toArray, List.getElem_cons_succ, List.getElem_cons_zero]
      refine wpAnyH_take (i := 6) (v := ?_) rfl (by kernel_rfl) (by kernel_rfl) (by kernel_rfl) (fun _ _ _ h => h) (Or.inl ⟨by rfl, ?_⟩) hHeld ?_
      rotate_left
      · (intro w hSw; (try dsimp only at hSw); go_simp; try with_reducible rfl)
      try simp only [Act.put, List.setIfInBounds_toArray, List.set_cons_zero, List.set_cons_succ, List.getElem_toArray, List.getElem_cons_succ, List.getElem_cons_zero]
      refine wpAnyH_take (i := 7) (v := ?_) rfl (by kernel_rfl) (by kernel_rfl) (by kernel_rfl) (fun _ _ _ h => h) (Or.inl ⟨by rfl, ?_⟩) hHeld ?_
      rotate_left
      · (intro w hSw; (try dsimp only at hSw); go_simp; try with_reducible rfl)
      try simp only [Act.put, List.setIfInBounds_toArray, List.set_cons_zero, List.set_cons_succ, List.getElem_toArray, List.getElem_cons_succ, List.getElem_cons_zero]
      refine wpAnyH_take (i := 8) (v := ?_) rfl (by kernel_rfl) (by kernel_rfl) (by kernel_rfl) (fun _ _ _ h => h) (Or.inl ⟨by rfl, ?_⟩) hHeld ?_
      rotate_left
      · (intro w hSw; (try dsimp only at hSw); go_simp; try with_reducible rfl)
      try simp only [Act.put, List.setIfInBounds_toArray, List.set_cons_zero, List.set_cons_succ, List.getElem_toArray, List.getElem_cons_succ, List.getElem_cons_zero]
      refine wpAnyH_take (i := 9) (v := ?_) rfl (by kernel_rfl) (by kernel_rfl) (by kernel_rfl) (fun _ _ _ h => h) (Or.inl ⟨by rfl, ?_⟩) hHeld ?_
      rotate_left
      · (intro w hSw; (try dsimp only at hSw); go_simp; try with_reducible rfl)
      try simp only [Act.put, List.setIfInBounds_toArray, List.set_cons_zero, List.set_cons_succ, List.getElem_toArray, List.getElem_cons_succ, List.getElem_cons_zero]
      refine wpAnyH_take (i := 10) (v := ?_) rfl (by kernel_rfl) (by kernel_rfl) (by kernel_rfl) (fun _ _ _ h => h) (Or.inl ⟨by rfl, ?_⟩) hHeld ?_
      rotate_left
      · (intro w hSw; (try dsimp only at hSw); go_simp; try with_reducible rfl)
      try simp only [Act.put, List.setIfInBounds_toArray, List.set_cons_zero, List.set_cons_succ, List.getElem_toArray, List.getElem_cons_succ, List.getElem_cons_zero]
      refine wpAnyH_take (i := 13) (v := ?_) rfl (by kernel_rfl) (by kernel_rfl) (by kernel_rfl) (fun _ _ _ h => h) (Or.inl ⟨by rfl, ?_⟩) hHeld ?_
      rotate_left
      · (intro w hSw; (try dsimp only at hSw); go_simp; try with_reducible rfl)
      try simp only [Act.put, List.setIfInBounds_toArray, List.set_cons_zero, List.set_cons_succ, List.getElem_toArray, List.getElem_cons_succ, List.getElem_cons_zero]
      refine wpAnyH_ready (rs := [11]) (by kernel_rfl) (by decide) (AllReadyH.cons (o := _) rfl (fun K hK => ?_) AllReadyH.nil)
      go_simp
      go_at_call 60
      have hq := (hK8.front 3 rfl).blkAt.1
      (refine (KN2.out _ ⟨hq 2, hq 3⟩).mono ?_); rintro e w9 ⟨rfl, q9, rfl⟩
      have hK9 := hK8.drewN q9
      generalize w8.drewN q9 = w9 at hK9 ⊢
      clear hq
      have HG := Lib.hid (show w9.cell? ⟨w3.heap.size, 1, none⟩ = some (.slice TA ts.length tc) from hK9.cellIs 1 (.slice TA ts.length tc) rfl)
      refine hK.out _ _ HG.out (fun hHeld2 => ?_)
      clear hK K hHeld
      have hHeld := hHeld2
      clear hHeld2
      try simp only [Act.put, List.setIfInBounds_toArray]
      refine wpAnyH_take (i := 12) (v := ?_) rfl (by kernel_rfl) (by kernel_rfl) (by kernel_rfl) (fun _ _ _ h => h) (Or.inl ⟨by rfl, ?_⟩) hHeld ?_
      rotate_left
      · (intro w hSw; (try dsimp only at hSw); go_simp; try with_reducible rfl)
      try simp only [Act.put, List.setIfInBounds_toArray, List.set_cons_zero, List.set_cons_succ, List.getElem_toArray, List.getElem_cons_succ, List.getElem_cons_zero]
      refine wpAnyH_take (i := 14) (v := ?_) rfl (by kernel_rfl) (by kernel_rfl) (by kernel_rfl) (fun _ _ _ h => h) (Or.inl ⟨by rfl, ?_⟩) hHeld ?_
      rotate_left
      · (intro w hSw; (try dsimp only at hSw); go_simp; try with_reducible rfl)
      try simp only [Act.put, List.setIfInBounds_toArray, List.set_cons_zero, List.set_cons_succ, List.getElem_toArray, List.getElem_cons_succ, List.getElem_cons_zero]
      refine wpAnyH_take (i := 15) (v := .bool false) rfl (by kernel_rfl) (by kernel_rfl) (by kernel_rfl) (fun _ _ _ h => h) (Or.inl ⟨by rfl, ?_⟩) hHeld ?_
      · (intro w hSw; clear hSw; go_simp)
      try simp only [Act.put, List.setIfInBounds_toArray, List.set_cons_zero, List.set_cons_succ, List.getElem_toArray, List.getElem_cons_succ, List.getElem_cons_zero]
      refine wpAnyH_take (i := 16) (v := ?_) rfl (by kernel_rfl) (by kernel_rfl) (by kernel_rfl) (fun _ _ _ h => h) (Or.inl ⟨by rfl, ?_⟩) hHeld ?_
      rotate_left
      · (intro w hSw; (try dsimp only at hSw); go_simp; try with_reducible rfl)
      try simp only [Act.put, List.setIfInBounds_toArray, List.set_cons_zero, List.set_cons_succ, List.getElem_toArray, List.getElem_cons_succ, List.getElem_cons_zero]
      refine wpAnyH_take (i := 17) (v := ?_) rfl (by kernel_rfl) (by kernel_rfl) (by kernel_rfl) (fun _ _ _ h => h) (Or.inl ⟨by rfl, ?_⟩) hHeld ?_
      rotate_left
      · (intro w hSw; (try dsimp only at hSw); go_simp; try with_reducible rfl)
      try simp only [Act.put, List.setIfInBounds_toArray, List.set_cons_zero, List.set_cons_succ, List.getElem_toArray, List.getElem_cons_succ, List.getElem_cons_zero]
      refine wpAnyH_done (by kernel_rfl) ?_ _
      have hK2 := hK9
      clear hK9 hK8 HG hHeld
      go_wp2_with fail
      have hq := (hK2.front 3 rfl).blkAt.1
      refine (KC.out _ (hq 0) (hq 1) (hq 3) (hq 5)).mono ?_; rintro e w11 ⟨G1, h1, G2, h2, G3, h3, rfl, hKc⟩
      have hK3 := hK2.join hKc
      clear hK2 hKc hq
      go_wp2_with fail
      refine Calls.kn (hK3.al [.int .i64 t.a.base, .slice G1 ds.length h1, .int .i64 t.b.base, .slice G2 zs.length h2, .int .i64 t.s.base, .slice G3 fs.length h3, .int .i64 0] 28) ?_; intro w12 hK4
      clear hK3
      refine (KT.out _ _ _ _ (hK4.front 4 rfl).box2at (Kn.riv (hK4.sel [5] 99 (by decide) (by decide)))).mono ?_; rintro e w13 ⟨PA, pc, rfl, hKt⟩
      have hK5 := hK4.join hKt
      clear hK4 hKt
      go_wp2_with fail
      refine (KR.out PA pc _ G1 h1 G2 h2 G3 h3 _ ⟨box7at hK5 1 rfl, Kn.riv (hK5.sel [4] 99 (by decide) (by decide)), Kn.riv (hK5.sel [3] 99 (by decide) (by decide)), Kn.riv (hK5.sel [2] 99 (by decide) (by decide))⟩ (Kn.rlIns hK5).2).mono ?_; rintro e w14 ⟨g, s, b', b2, rfl, he, ⟨SA, sc, B1, d1, B2, d2, B3, d3, hKr⟩, hg⟩
      have HB := Lib.hid (HMF.out s b' HZ.out he hg)
      have hK6 := (hK5.join hKr).sel [0, 1, 2, 3, 4, 12] 99 (by decide) (by decide)
      clear hK5 hKr he hg
      obtain ⟨a1, a2, a3, q1, q2, q3, -⟩ := hK6.cells
      go_wp2_with fail
      have HG := Lib.hid (And.intro (hK6.drew.cellIs 8 (.slice SA s.tr.length sc) rfl) (box7' hK6.drew))
      have hK7 := (((((((hK6.front 5 rfl).st 0 (.int .i64 s.m.a.base)).st 1 (.slice B1 s.m.a.digits.length d1)).st 2 (.int .i64 s.m.b.base)).st 3 (.slice B2 s.m.b.digits.length d2)).st 4 (.int .i64 s.m.s.base)).st 5 (.slice B3 s.m.s.digits.length d3)).st 6 (.int .i64 s.m.carry)
      have HS := Lib.hid (And.intro (hK7.drew.drop.cellIs 8 (.slice SA s.tr.length sc) rfl) (box7' hK7.drew.drop))
      go_region_held3 (fun W => W.cell? ⟨g, 8, none⟩ = some (.slice SA s.tr.length sc) ∧ W.cell? ⟨g, 0, none⟩ = some (.int .i64 s.m.a.base) ∧ W.cell? ⟨g, 1, none⟩ = some (.slice B1 s.m.a.digits.length d1) ∧ W.cell? ⟨g, 2, none⟩ = some (.int .i64 s.m.b.base) ∧ W.cell? ⟨g, 3, none⟩ = some (.slice B2 s.m.b.digits.length d2) ∧ W.cell? ⟨g, 4, none⟩ = some (.int .i64 s.m.s.base) ∧ W.cell? ⟨g, 5, none⟩ = some (.slice B3 s.m.s.digits.length d3) ∧ W.cell? ⟨g, 6, none⟩ = some (.int .i64 s.m.carry)) (first | with_reducible exact HG.out | with_reducible exact HS.out) (fail)
      all_goals
        go_wp2_with fail
        refine bodyPost.kn hK7.drew ?_; intro w6 hK6
        clear a1 a2 a3 q1 q2 q3
        obtain ⟨a1, a2, a3, -⟩ := hK6.cells
        refine bodyPost_ret (v := .tuple #[.agg #[.int .i64 s.m.a.base, .slice B1 s.m.a.digits.length d1, .int .i64 s.m.b.base, .slice B2 s.m.b.digits.length d2, .int .i64 s.m.s.base, .slice B3 s.m.s.digits.length d3, .int .i64 s.m.carry], .int .i64 s.tr.length, .int .i64 0]) (by simp [results, Tryz.results9, go_sem, a1]) rfl ?_
        unfold MORet
        rw [HB.out.1, HB.out.2.1, HB.out.2.2]
        exact ⟨B1, d1, B2, d2, B3, d3, rfl, hK6.sel [2, 3, 4] 99 (by decide) (by decide)⟩
  · have hz : ¬ N2 - 1 < x * f := by
      obtain rfl : x = 0 := by omega
      rw [Int.zero_mul]
      omega
    have HZ := Lib.hid (HX0.out (fun h => h.elim hA hz))
    have hA2 : decide (PL < (ts.length : Int)) = false := decide_eq_false hA
    have hx2 : decide (0 < x) = false := decide_eq_false hx0
    clear hz
    have HG := Lib.hid (show w5.drew.cell? ⟨w3.heap.size, 1, none⟩ = some (.slice TA ts.length tc) from hK2.drew.cellIs 1 (.slice TA ts.length tc) rfl)
    refine wp_region_held_drew (S := (fun W => W.cell? ⟨w3.heap.size, 1, none⟩ = some (.slice TA ts.length tc))) (by kernel_rfl) ?_ (fun hHeld => ?_)
    · exact HG.out
    try dsimp only
    refine wpAnyH_take (i := 0) (v := ?_) rfl (by kernel_rfl) (by kernel_rfl) (by kernel_rfl) (fun _ _ _ h => h) (Or.inl ⟨by rfl, ?_⟩) hHeld ?_
    rotate_left
    · (intro w hSw; (try dsimp only at hSw); go_simp; try with_reducible rfl)
    try simp only [Act.put, List.setIfInBounds_toArray, List.set_cons_zero, List.set_cons_succ, List.getElem_toArray, List.getElem_cons_zero]
    refine wpAnyH_take (i := 1) (v := ?_) rfl (by kernel_rfl) (by kernel_rfl) (by kernel_rfl) (fun _ _ _ h => h) (Or.inl ⟨by rfl, ?_⟩) hHeld ?_
    rotate_left
    · (intro w hSw; (try dsimp only at hSw); go_simp; try with_reducible rfl)
    try simp only [Act.put, List.setIfInBounds_toArray, List.set_cons_zero, List.set_cons_succ, List.getElem_toArray, List.getElem_cons_succ, List.getElem_cons_zero]
    refine wpAnyH_take (i := 2) (v := ?_) rfl (by kernel_rfl) (by kernel_rfl) (by kernel_rfl) (fun _ _ _ h => h) (Or.inl ⟨by rfl, ?_⟩) hHeld ?_
    rotate_left
    · (intro w hSw; (try dsimp only at hSw); go_simp; try with_reducible rfl)
    try simp only [Act.put, List.setIfInBounds_toArray, List.set_cons_zero, List.set_cons_succ, List.getElem_toArray, List.getElem_cons_succ, List.getElem_cons_zero]
    refine wpAnyH_ready (rs := [3]) (by kernel_rfl) (by decide) (AllReadyH.cons (o := _) rfl (fun K hK => ?_) AllReadyH.nil)
    go_simp
    go_at_call 61
    (refine (KP.out _ (hK2.drew.sel [2, 3] 99 (by decide) (by decide))).mono ?_); rintro e w8 ⟨rfl, q8, rfl⟩
    have hK8 := hK2.drew.drewN q8
    generalize w5.drew.drewN q8 = w8 at hK8 ⊢
    have HG := Lib.hid (show w8.cell? ⟨w3.heap.size, 1, none⟩ = some (.slice TA ts.length tc) from hK8.cellIs 1 (.slice TA ts.length tc) rfl)
    refine hK.out _ _ HG.out (fun hHeld2 => ?_)
    clear hK K hHeld
    have hHeld := hHeld2
    clear hHeld2
    try simp only [Act.put, List.setIfInBounds_toArray]
    refine wpAnyH_take (i := 4) (v := .bool false) rfl (by kernel_rfl) (by kernel_rfl) (by kernel_rfl) (fun _ _ _ h => h) (Or.inl ⟨by rfl, ?_⟩) hHeld ?_
    · (intro w hSw; clear hSw; go_simp)
    try simp only [Act.put, List.setIfInBounds_toArray, List.set_cons_zero, List.set_cons_succ, List.getElem_toArray, List.getElem_cons_succ, List.getElem_cons_zero]
    refine wpAnyH_take (i := 5) (v := ?_) rfl (by kernel_rfl) (by kernel_rfl) (by kernel_rfl) (fun _ _ _ h => h) (Or.inl ⟨by rfl, ?_⟩) hHeld ?_
    rotate_left
    · (intro w hSw; (try dsimp only at hSw); go_simp; try with_reducible rfl)
    try simp only [Act.put, List.setIfInBounds_toArray, List.set_cons_zero, List.set_cons_succ, List.getElem_toArray, List.getElem_cons_succ, List.getElem_cons_zero]
    refine wpAnyH_take (i := 6) (v := ?_) rfl (by kernel_rfl) (by kernel_rfl) (by kernel_rfl) (fun _ _ _ h => h) (Or.inl ⟨by rfl, ?_⟩) hHeld ?_
    rotate_left
    · (intro w hSw; (try dsimp only at hSw); go_simp; try with_reducible rfl)
    try simp only [Act.put, List.setIfInBounds_toArray, List.set_cons_zero, List.set_cons_succ, List.getElem_toArray, List.getElem_cons_succ, List.getElem_cons_zero]
    refine wpAnyH_take (i := 7) (v := .bool false) rfl (by kernel_rfl) (by kernel_rfl) (by kernel_rfl) (fun _ _ _ h => h) (Or.inl ⟨by rfl, ?_⟩) hHeld ?_
    · (intro w hSw; clear hSw; go_simp)
    try simp only [Act.put, List.setIfInBounds_toArray, List.set_cons_zero, List.set_cons_succ, List.getElem_toArray, List.getElem_cons_succ, List.getElem_cons_zero]
    refine wpAnyH_take (i := 8) (v := ?_) rfl (by kernel_rfl) (by kernel_rfl) (by kernel_rfl) (fun _ _ _ h => h) (Or.inl ⟨by rfl, ?_⟩) hHeld ?_
    rotate_left
    · (intro w hSw; (try dsimp only at hSw); go_simp; try with_reducible rfl)
    try simp only [Act.put, List.setIfInBounds_toArray, List.set_cons_zero, List.set_cons_succ, List.getElem_toArray, List.getElem_cons_succ, List.getElem_cons_zero]
    refine wpAnyH_take (i := 9) (v := undef) rfl (by kernel_rfl) (by kernel_rfl) (by kernel_rfl) (fun _ _ _ h => h) (Or.inr ⟨by rfl, rfl⟩) hHeld ?_
    try simp only [Act.put, List.setIfInBounds_toArray, List.set_cons_zero, List.set_cons_succ, List.getElem_toArray, List.getElem_cons_succ, List.getElem_cons_zero]
    refine wpAnyH_take (i := 10) (v := undef) rfl (by kernel_rfl) (by kernel_rfl) (by kernel_rfl) (fun _ _ _ h => h) (Or.inr ⟨by rfl, rfl⟩) hHeld ?_
    try simp only [Act.put, List.setIfInBounds_toArray, List.set_cons_zero, List.set_cons_succ, List.getElem_toArray, List.getElem_cons_succ, List.getElem_cons_zero]
    refine wpAnyH_take (i := 11) (v := undef) rfl (by kernel_rfl) (by kernel_rfl) (by kernel_rfl) (fun _ _ _ h => h) (Or.inr ⟨by rfl, rfl⟩) hHeld ?_
    try simp only [Act.put, List.setIfInBounds_toArray, List.set_cons_zero, List.set_cons_succ, List.getElem_toArray, List.getElem_cons_succ, List.getElem_cons_zero]
    refine wpAnyH_take (i := 12) (v := undef) rfl (by kernel_rfl) (by kernel_rfl) (by kernel_rfl) (fun _ _ _ h => h) (Or.inr ⟨by rfl, rfl⟩) hHeld ?_
    try simp only [Act.put, List.setIfInBounds_toArray, List.set_cons_zero, List.set_cons_succ, List.getElem_toArray, List.getElem_cons_succ, List.getElem_cons_zero]
    refine wpAnyH_take (i := 13) (v := undef) rfl (by kernel_rfl) (by kernel_rfl) (by kernel_rfl) (fun _ _ _ h => h) (Or.inr ⟨by rfl, rfl⟩) hHeld ?_
    try simp only [Act.put, List.setIfInBounds_toArray, List.set_cons_zero, List.set_cons_succ, List.getElem_toArray, List.getElem_cons_succ, List.getElem_cons_zero]
    refine wpAnyH_take (i := 14) (v := undef) rfl (by kernel_rfl) (by kernel_rfl) (by kernel_rfl) (fun _ _ _ h => h) (Or.inr ⟨by rfl, rfl⟩) hHeld ?_
    try simp only [Act.put, List.setIfInBounds_toArray, List.set_cons_zero, List.set_cons_succ, List.getElem_toArray, List.getElem_cons_succ, List.getElem_cons_zero]
    refine wpAnyH_take (i := 15) (v := undef) rfl (by kernel_rfl) (by kernel_rfl) (by kernel_rfl) (fun _ _ _ h => h) (Or.inr ⟨by rfl, rfl⟩) hHeld ?_
    try simp only [Act.put, List.setIfInBounds_toArray, List.set_cons_zero, List.set_cons_succ, List.getElem_toArray, List.getElem_cons_succ, List.getElem_cons_zero]
    refine wpAnyH_take (i := 16) (v := ?_) rfl (by kernel_rfl) (by kernel_rfl) (by kernel_rfl) (fun _ _ _ h => h) (Or.inl ⟨by rfl, ?_⟩) hHeld ?_
    rotate_left
    · (intro w hSw; (try dsimp only at hSw); go_simp; try with_reducible rfl)
    try simp only [Act.put, List.setIfInBounds_toArray, List.set_cons_zero, List.set_cons_succ, List.getElem_toArray, List.getElem_cons_succ, List.getElem_cons_zero]
    refine wpAnyH_take (i := 17) (v := ?_) rfl (by kernel_rfl) (by kernel_rfl) (by kernel_rfl) (fun _ _ _ h => h) (Or.inl ⟨by rfl, ?_⟩) hHeld ?_
    rotate_left
    · (intro w hSw; (try dsimp only at hSw); go_simp; try with_reducible rfl)
    try simp only [Act.put, List.setIfInBounds_toArray, List.set_cons_zero, List.set_cons_succ, List.getElem_toArray, List.getElem_cons_succ, List.getElem_cons_zero]
    refine wpAnyH_done (by kernel_rfl) ?_ _
    have hK2 := hK8
    clear hK8 HG hHeld
    go_wp2_with fail
    have hq := (hK2.front 3 rfl).blkAt.1
    refine (KC.out _ (hq 0) (hq 1) (hq 3) (hq 5)).mono ?_; rintro e w11 ⟨G1, h1, G2, h2, G3, h3, rfl, hKc⟩
    have hK3 := hK2.join hKc
    clear hK2 hKc hq
    go_wp2_with fail
    refine Calls.kn (hK3.al [.int .i64 t.a.base, .slice G1 ds.length h1, .int .i64 t.b.base, .slice G2 zs.length h2, .int .i64 t.s.base, .slice G3 fs.length h3, .int .i64 0] 28) ?_; intro w12 hK4
    clear hK3
    refine (KT.out _ _ _ _ (hK4.front 4 rfl).box2at (Kn.riv (hK4.sel [5] 99 (by decide) (by decide)))).mono ?_; rintro e w13 ⟨PA, pc, rfl, hKt⟩
    have hK5 := hK4.join hKt
    clear hK4 hKt
    go_wp2_with fail
    refine (KR.out PA pc _ G1 h1 G2 h2 G3 h3 _ ⟨box7at hK5 1 rfl, Kn.riv (hK5.sel [4] 99 (by decide) (by decide)), Kn.riv (hK5.sel [3] 99 (by decide) (by decide)), Kn.riv (hK5.sel [2] 99 (by decide) (by decide))⟩ (Kn.rlIns hK5).2).mono ?_; rintro e w14 ⟨g, s, b', b2, rfl, he, ⟨SA, sc, B1, d1, B2, d2, B3, d3, hKr⟩, hg⟩
    have HB := Lib.hid (HMF.out s b' HZ.out he hg)
    have hK6 := (hK5.join hKr).sel [0, 1, 2, 3, 4, 12] 99 (by decide) (by decide)
    clear hK5 hKr he hg
    obtain ⟨a1, a2, a3, q1, q2, q3, -⟩ := hK6.cells
    go_wp2_with fail
    have HG := Lib.hid (And.intro (hK6.drew.cellIs 8 (.slice SA s.tr.length sc) rfl) (box7' hK6.drew))
    have hK7 := (((((((hK6.front 5 rfl).st 0 (.int .i64 s.m.a.base)).st 1 (.slice B1 s.m.a.digits.length d1)).st 2 (.int .i64 s.m.b.base)).st 3 (.slice B2 s.m.b.digits.length d2)).st 4 (.int .i64 s.m.s.base)).st 5 (.slice B3 s.m.s.digits.length d3)).st 6 (.int .i64 s.m.carry)
    have HS := Lib.hid (And.intro (hK7.drew.drop.cellIs 8 (.slice SA s.tr.length sc) rfl) (box7' hK7.drew.drop))
    go_region_held3 (fun W => W.cell? ⟨g, 8, none⟩ = some (.slice SA s.tr.length sc) ∧ W.cell? ⟨g, 0, none⟩ = some (.int .i64 s.m.a.base) ∧ W.cell? ⟨g, 1, none⟩ = some (.slice B1 s.m.a.digits.length d1) ∧ W.cell? ⟨g, 2, none⟩ = some (.int .i64 s.m.b.base) ∧ W.cell? ⟨g, 3, none⟩ = some (.slice B2 s.m.b.digits.length d2) ∧ W.cell? ⟨g, 4, none⟩ = some (.int .i64 s.m.s.base) ∧ W.cell? ⟨g, 5, none⟩ = some (.slice B3 s.m.s.digits.length d3) ∧ W.cell? ⟨g, 6, none⟩ = some (.int .i64 s.m.carry)) (first | with_reducible exact HG.out | with_reducible exact HS.out) (fail)
    all_goals
      go_wp2_with fail
      refine bodyPost.kn hK7.drew ?_; intro w6 hK6
      clear a1 a2 a3 q1 q2 q3
      obtain ⟨a1, a2, a3, -⟩ := hK6.cells
      refine bodyPost_ret (v := .tuple #[.agg #[.int .i64 s.m.a.base, .slice B1 s.m.a.digits.length d1, .int .i64 s.m.b.base, .slice B2 s.m.b.digits.length d2, .int .i64 s.m.s.base, .slice B3 s.m.s.digits.length d3, .int .i64 s.m.carry], .int .i64 s.tr.length, .int .i64 0]) (by simp [results, Tryz.results9, go_sem, a1]) rfl ?_
      unfold MORet
      rw [HB.out.1, HB.out.2.1, HB.out.2.2]
      exact ⟨B1, d1, B2, d2, B3, d3, rfl, hK6.sel [2, 3, 4] 99 (by decide) (by decide)⟩
end Go.Proofs.YtkfbfainhmkkdaaGreat

namespace Go.Proofs.YtkfbfainhmkkdaaGreat
open Go.RowKit Go.Sort
/-- accumulators: which registers they are, and what they show -/
def aOk (b : Int) (ds : List Int) : Bool := vreg b ds && decide (pw b ds.length ≤ 1000000000001)
def aSize (b : Int) (ds : List Int) : Int := if aOk b ds = true then pw b ds.length else 0
def isNm (n x : Int) : Bool := betB x (-(n.tdiv 2)) (n - 1 - n.tdiv 2)
def aNum (b : Int) (ds : List Int) : Int := if valL b ds ≤ pw b ds.length - 1 - (pw b ds.length).tdiv 2 then valL b ds else valL b ds - pw b ds.length
def aNorm (n x : Int) : Int := (x.tmod n + n).tmod n
def aSet (b : Int) (k : Nat) (x : Int) : List Int := digD b k (aNorm (pw b k) x)
theorem aOk_iff {b : Int} {ds : List Int} : aOk b ds = true ↔ vreg b ds = true ∧ pw b ds.length ≤ 1000000000001 := by
  unfold aOk; rw [Bool.and_eq_true, decide_eq_true_eq]
theorem aNorm_bd {n x : Int} (hn : 1 ≤ n) : 0 ≤ aNorm n x ∧ aNorm n x < n := by
  unfold aNorm
  have h1 : -n < x.tmod n ∧ x.tmod n < n := by
    rcases Int.le_total 0 x with h | h
    · rw [Int.tmod_eq_emod_of_nonneg h]
      have := Int.emod_nonneg x (show n ≠ 0 by omega)
      have := Int.emod_lt_of_pos x (show 0 < n by omega)
      omega
    · have h2 := Int.neg_tmod (-x) n
      rw [Int.neg_neg] at h2
      rw [h2, Int.tmod_eq_emod_of_nonneg (by omega)]
      have := Int.emod_nonneg (-x) (show n ≠ 0 by omega)
      have := Int.emod_lt_of_pos (-x) (show 0 < n by omega)
      omega
  rw [Int.tmod_eq_emod_of_nonneg (by omega)]
  exact ⟨Int.emod_nonneg _ (by omega), Int.emod_lt_of_pos _ (by omega)⟩
theorem half_bd {n : Int} (hn : 0 ≤ n) : 0 ≤ n.tdiv 2 ∧ 2 * n.tdiv 2 ≤ n ∧ n ≤ 2 * n.tdiv 2 + 1 := by
  rw [Int.tdiv_eq_ediv_of_nonneg hn]; omega
theorem valL_in {b : Int} {ds : List Int} (h : aOk b ds = true) : 0 ≤ valL b ds ∧ valL b ds < pw b ds.length ∧ 1 ≤ pw b ds.length ∧ pw b ds.length ≤ 1000000000001 := by
  obtain ⟨h1, h2⟩ := aOk_iff.1 h
  obtain ⟨⟨b1, b2⟩, -, hd, -⟩ := vreg_iff.1 h1
  exact ⟨(valL_bd b b1 ds (fun d hd' => (hd d hd').1)).1, valL_lt b b1 ds hd, pw_pos b b1 _, h2⟩
theorem aNum_bd {b : Int} {ds : List Int} (h : aOk b ds = true) : -1000000000001 ≤ aNum b ds ∧ aNum b ds ≤ 1000000000001 := by
  have := valL_in h
  unfold aNum
  split <;> omega
end Go.Proofs.YtkfbfainhmkkdaaGreat

namespace Go.Proofs.YtkfbfainhmkkdaaGreat
open Go.RowKit Go.Sort
/-- what a function that adds a number returns -/
def anuC (b : Int) (ds : List Int) (x : Int) : Int := if aOk b ds = false then 1 else if betB x (-1000000000000) 1000000000000 = false then 2 else 0
def ANRet (b : Int) (ds : List Int) (x : Int) (w : World) (e : Ending) (w' : World) : Prop :=
  (anuC b ds x ≠ 0 ∧ e = .returned (.tuple #[.agg #[.int .i64 0, .slice none 0 0], .bool false, .int .i64 (anuC b ds x)]) ∧ Below w.heap.size w w') ∨
  (anuC b ds x = 0 ∧ ∃ E g, e = .returned (.tuple #[.agg #[.int .i64 b, .slice E (aSet b ds.length (aNum b ds + x)).length g], .bool (!isNm (pw b ds.length) (aNum b ds + x)), .int .i64 0]) ∧ Kn w [rowI E g (aSet b ds.length (aNum b ds + x))] w')
end Go.Proofs.YtkfbfainhmkkdaaGreat

namespace Go.Proofs.YtkfbfainhmkkdaaGreat
open Go.RowKit Go.Sort
/-- a register in a block -/
def RegB (w : World) (g : Nat) (b : Int) (A : Option Addr) (c : Nat) (ds : List Int) : Prop := (w.cell? ⟨g, 0, none⟩ = some (.int .i64 b) ∧ w.cell? ⟨g, 1, none⟩ = some (.slice A ds.length c)) ∧ RI w A ds.length ds
theorem RegB.below {w w' : World} {g : Nat} {b : Int} {A : Option Addr} {c : Nat} {ds : List Int} (h : RegB w g b A c ds) (hb : Below w.heap.size w w') : RegB w' g b A c ds := by
  have hlt : g < w.heap.size := World.block_lt_of_cell? w _ h.1.1
  exact ⟨⟨(hb.cell (p := ⟨g, 0, none⟩) hlt).trans h.1.1, (hb.cell (p := ⟨g, 1, none⟩) hlt).trans h.1.2⟩, h.2.below hb⟩
theorem tmod_bd {n x : Int} (hn : 1 ≤ n) : -n < x.tmod n ∧ x.tmod n < n := by
  rcases Int.le_total 0 x with h | h
  · rw [Int.tmod_eq_emod_of_nonneg h]
    have := Int.emod_nonneg x (show n ≠ 0 by omega)
    have := Int.emod_lt_of_pos x (show 0 < n by omega)
    omega
  · have h2 := Int.neg_tmod (-x) n
    rw [Int.neg_neg] at h2
    rw [h2, Int.tmod_eq_emod_of_nonneg (by omega)]
    have := Int.emod_nonneg (-x) (show n ≠ 0 by omega)
    have := Int.emod_lt_of_pos (-x) (show 0 < n by omega)
    omega
end Go.Proofs.YtkfbfainhmkkdaaGreat

namespace Go.Proofs.YtkfbfainhmkkdaaGreat
open Go.RowKit Go.Sort
theorem isNm_val {n v : Int} (hn : 1 ≤ n) (h0 : 0 ≤ v) : isNm n v = decide (v ≤ n - 1 - n.tdiv 2) := by
  have hh := half_bd (n := n) (by omega)
  unfold isNm
  rw [Bool.eq_iff_iff, betB_iff, decide_eq_true_eq]
  omega
end Go.Proofs.YtkfbfainhmkkdaaGreat

namespace Go.Proofs.YtkfbfainhmkkdaaGreat
open Go.RowKit Go.Sort
/-- how far each wheel is turned to come to 0 -/
def ctL (b : Int) (ds : List Int) : List Int := ds.map (fun d => (b - d).tmod b)
def ctR (b : Int) (ds : List Int) : List Int := if vreg b ds then ctL b ds else []
def CTRet (b : Int) (ds : List Int) (w : World) (e : Ending) (w' : World) : Prop := ∃ E k, e = .returned (.tuple #[.slice E (ctR b ds).length k, .int .i64 (if vreg b ds then 0 else 1)]) ∧ Kn w [rowI E k (ctR b ds)] w'
theorem ctL_take {b : Int} {ds : List Int} {k : Nat} (h : k < ds.length) : ctL b (ds.take (k + 1)) = ctL b (ds.take k) ++ [(b - ds[k]).tmod b] := by
  unfold ctL; rw [List.take_succ_eq_append_getElem h, List.map_append]; rfl
theorem ctL_len (b : Int) (ds : List Int) : (ctL b ds).length = ds.length := by unfold ctL; rw [List.length_map]
end Go.Proofs.YtkfbfainhmkkdaaGreat

namespace Go.Proofs.YtkfbfainhmkkdaaGreat
open Go.RowKit Go.Sort
def tfC (b : Int) (ds : List Int) (b' : Int) (es : List Int) : Int := if (aOk b ds && aOk b' es) = false then 1 else if b ≠ b' then 6 else 0
/-- what a transfer returns -/
def TFRet (b : Int) (ds : List Int) (b' : Int) (es : List Int) (w : World) (e : Ending) (w' : World) : Prop :=
  (tfC b ds b' es ≠ 0 ∧ e = .returned (.tuple #[.agg #[.int .i64 0, .slice none 0 0], .agg #[.int .i64 0, .slice none 0 0], .bool false, .int .i64 (tfC b ds b' es)]) ∧ Below w.heap.size w w') ∨
  (tfC b ds b' es = 0 ∧ ∃ E1 k1 E2 k2, e = .returned (.tuple #[.agg #[.int .i64 b, .slice E1 (digD b ds.length 0).length k1], .agg #[.int .i64 b', .slice E2 (aSet b' es.length (aNum b' es + aNum b ds)).length k2], .bool (!isNm (pw b' es.length) (aNum b' es + aNum b ds)), .int .i64 0]) ∧
    Kn w [rowI E2 k2 (aSet b' es.length (aNum b' es + aNum b ds)), rowI E1 k1 (digD b ds.length 0)] w')
theorem tfC_bad {b b' : Int} {ds es : List Int} (h : (aOk b ds && aOk b' es) = false) : tfC b ds b' es = 1 := by unfold tfC; rw [if_pos h]
end Go.Proofs.YtkfbfainhmkkdaaGreat

namespace Go.Proofs.YtkfbfainhmkkdaaGreat
open Go.RowKit Go.Sort
def accD (b : Int) (ds xs : List Int) : Nat → List Int
  | 0 => ds
  | k + 1 => aSet b ds.length (aNum b (accD b ds xs k) + xs.getD k 0)
def accB (b : Int) (ds xs : List Int) : Nat → List Int
  | 0 => []
  | k + 1 => if isNm (pw b ds.length) (aNum b (accD b ds xs k) + xs.getD k 0) = true then accB b ds xs k else accB b ds xs k ++ [(k : Int)]
def inA (xs : List Int) : Bool := xs.all (fun x => betB x (-1000000000000) 1000000000000)
def aaC (b : Int) (ds xs : List Int) : Int := if aOk b ds = false then 1 else if inA xs = false then 2 else 0
theorem aSet_len (b : Int) (k : Nat) (x : Int) : (aSet b k x).length = k := digD_len ..
theorem accD_len (b : Int) (ds xs : List Int) (k : Nat) : (accD b ds xs k).length = ds.length := by
  cases k with
  | zero => rfl
  | succ k => exact aSet_len ..
theorem accB_len (b : Int) (ds xs : List Int) (k : Nat) : (accB b ds xs k).length ≤ k := by
  induction k with
  | zero => simp [accB]
  | succ k ih => unfold accB; split; omega; rw [List.length_append]; simp; omega
theorem aSet_ok {b : Int} {ds : List Int} (h : aOk b ds = true) (x : Int) : aOk b (aSet b ds.length x) = true := by
  obtain ⟨h1, h2⟩ := aOk_iff.1 h
  obtain ⟨⟨b1, b2⟩, ⟨n1, n2⟩, -⟩ := vreg_iff.1 h1
  have hp := pw_pos b b1 ds.length
  have hb := aNorm_bd (n := pw b ds.length) (x := x) hp
  refine aOk_iff.2 ⟨?_, by rw [aSet_len]; exact h2⟩
  exact digD_vreg b b1 b2 _ n1 n2 _ hb.1 hb.2 (by omega)
theorem accD_ok {b : Int} {ds : List Int} (h : aOk b ds = true) (xs : List Int) (k : Nat) : aOk b (accD b ds xs k) = true := by
  cases k with
  | zero => exact h
  | succ k => exact aSet_ok h _
theorem inA_take_succ {xs : List Int} {k : Nat} (h : k < xs.length) : inA (xs.take (k + 1)) = (inA (xs.take k) && betB xs[k] (-1000000000000) 1000000000000) := by
  unfold inA; rw [List.take_succ_eq_append_getElem h, List.all_append]; simp only [List.all_cons, List.all_nil, Bool.and_true]
theorem inA_not {xs : List Int} {k : Nat} (h : k < xs.length) (h1 : betB xs[k] (-1000000000000) 1000000000000 = false) : inA xs = false := by
  simp only [inA, List.all_eq_false]; exact ⟨xs[k], List.getElem_mem _, by simp [h1]⟩
/-- what the adding of numbers returns -/
def AARet (b : Int) (ds xs : List Int) (w : World) (e : Ending) (w' : World) : Prop :=
  (aaC b ds xs ≠ 0 ∧ e = .returned (.tuple #[.agg #[.int .i64 0, .slice none 0 0], .slice none 0 0, .int .i64 (aaC b ds xs)]) ∧ Below w.heap.size w w') ∨
  (aaC b ds xs = 0 ∧ ∃ E k B m, e = .returned (.tuple #[.agg #[.int .i64 b, .slice E (accD b ds xs xs.length).length k], .slice B (accB b ds xs xs.length).length m, .int .i64 0]) ∧
    Kn w [rowI B m (accB b ds xs xs.length), rowI E k (accD b ds xs xs.length)] w')
theorem accD_succ (b : Int) (ds : List Int) {xs : List Int} {i : Nat} (h : i < xs.length) : accD b ds xs (i + 1) = aSet b ds.length (aNum b (accD b ds xs i) + xs[i]) := by rw [← getD_of h]; rfl
theorem accB_succ (b : Int) (ds : List Int) {xs : List Int} {i : Nat} (h : i < xs.length) : accB b ds xs (i + 1) = if isNm (pw b ds.length) (aNum b (accD b ds xs i) + xs[i]) = true then accB b ds xs i else accB b ds xs i ++ [(i : Int)] := by rw [← getD_of h]; rfl
theorem inA_get {xs : List Int} (h : inA xs = true) {i : Nat} (hi : i < xs.length) : betB xs[i] (-1000000000000) 1000000000000 = true := by
  unfold inA at h
  exact List.all_eq_true.1 h _ (List.getElem_mem _)
end Go.Proofs.YtkfbfainhmkkdaaGreat

namespace Go.Proofs.YtkfbfainhmkkdaaGreat
open Go.RowKit Go.Sort
end Go.Proofs.YtkfbfainhmkkdaaGreat

namespace Go.Proofs.YtkfbfainhmkkdaaGreat
open Go.RowKit Go.Sort
/-- what the drawing of a good register returns -/
def DReg (b M : Nat) (w : World) (e : Ending) (w' : World) : Prop := ∃ (bs : Int) (A : Option Addr) (c : Nat) (ds : List Int), e = .returned (.agg #[.int .i64 bs, .slice A ds.length c]) ∧ (2 ≤ bs ∧ bs ≤ 12 ∧ 1 ≤ ds.length ∧ ds.length ≤ 6) ∧ DR b M w [rowI A c ds] w'
theorem min6 {q k : Nat} (h : 0 ≤ (q : Int) ∧ ((q : Int) < min 6 (k : Int) ∨ min 6 (k : Int) ≤ 1 ∧ (q : Int) = 0)) : q ≤ 5 := by omega
theorem wrapQ {q : Nat} (h : q ≤ 5) : IntKind.i64.wrap (1 + (q : Int)) = ((q + 1 : Nat) : Int) := by rw [wrapI64 (by omega)]; omega
end Go.Proofs.YtkfbfainhmkkdaaGreat

namespace Go.Proofs.YtkfbfainhmkkdaaGreat
open Go.RowKit Go.Sort
end Go.Proofs.YtkfbfainhmkkdaaGreat

namespace Go.Proofs.YtkfbfainhmkkdaaGreat
open Go.RowKit Go.Sort
theorem DR.ad {b N : Nat} {w wi w' : World} {m m' : List Ent} (h : DR b N w m wi) (h1 : Kn wi m' w') : DR b N w (m' ++ m) w' := h.kn (fun _ hK => hK.join h1)
theorem pw_12 {b : Int} (b1 : 2 ≤ b) (b2 : b ≤ 12) (k : Nat) : pw b k ≤ pw 12 k := by
  induction k with
  | zero => exact Int.le_refl _
  | succ k ih =>
    rw [pw_succ, pw_succ]
    have := pw_pos b b1 k
    exact Int.mul_le_mul ih b2 (by omega) (by have := pw_pos 12 (by omega) k; omega)
theorem pw_small {b : Int} (b1 : 2 ≤ b) (b2 : b ≤ 12) {k : Nat} (hk : k ≤ 6) : pw b k ≤ 2985984 := by
  have h1 := pw_12 b1 b2 k
  have h2 := pw_mono 12 (by omega) k 6 hk
  have h3 : pw 12 6 = 2985984 := by decide
  omega
/-- what the drawing of a register returns -/
def DReg2 (b M : Nat) (w : World) (e : Ending) (w' : World) : Prop := ∃ (bs : Int) (A : Option Addr) (c : Nat) (ds : List Int), e = .returned (.agg #[.int .i64 bs, .slice A ds.length c]) ∧ ds.length ≤ 20 ∧ DR b M w [rowI A c ds] w'
end Go.Proofs.YtkfbfainhmkkdaaGreat

namespace Go.Proofs.YtkfbfainhmkkdaaGreat
open Go.RowKit Go.Sort
theorem DR.setI {b N : Nat} {w wi : World} {m : List Ent} {g c : Nat} {ds : List Int} (h : DR b N w (rowI (some ⟨g, 0, none⟩) c ds :: m) wi) (j : Nat) (v : Int) : DR b N w (rowI (some ⟨g, 0, none⟩) c (ds.set j v) :: m) (wi.setCell ⟨g, j, none⟩ (.int .i64 v)) := h.kn (fun _ hK => hK.setI j v)
theorem DR.rowCell {b N : Nat} {w wi : World} {m : List Ent} {g c : Nat} {ds : List Int} (h : DR b N w (rowI (some ⟨g, 0, none⟩) c ds :: m) wi) {j : Nat} (hj : j < ds.length) : wi.cell? ⟨g, j, none⟩ = some (.int .i64 ds[j]) ∧ wi.frozen? ⟨g, j, none⟩ = false ∧ g < wi.heap.size := by
  obtain ⟨v, -, -, hK⟩ := h
  have h1 := Kn.rowCell hK (j := j) (u := .int .i64 ds[j]) (by simp [hj])
  exact ⟨h1.1, h1.2, World.block_lt_of_cell? wi _ h1.1⟩
theorem DR.rowForm {b N : Nat} {w wi : World} {m : List Ent} {A : Option Addr} {c : Nat} {ds : List Int} (h : DR b N w (rowI A c ds :: m) wi) (hd : 0 < ds.length) : ∃ g, A = some ⟨g, 0, none⟩ := by
  obtain ⟨v, -, -, hK⟩ := h
  obtain ⟨g, c', he⟩ := Kn.rowForm hK hd
  injection he with he
  exact ⟨g, he⟩
theorem idxL {j L : Nat} (h : 0 ≤ (j : Int) ∧ ((j : Int) < (L : Int) ∨ (L : Int) ≤ 1 ∧ (j : Int) = 0)) (h1 : 1 ≤ L) : j < L := by omega
end Go.Proofs.YtkfbfainhmkkdaaGreat

namespace Go.Proofs.YtkfbfainhmkkdaaGreat
open Go.RowKit Go.Sort
end Go.Proofs.YtkfbfainhmkkdaaGreat

namespace Go.Proofs.YtkfbfainhmkkdaaGreat
open Go.RowKit Go.Sort
/-- a register that a law's draw returns -/
def DrawsReg (w : World) (e : Ending) (w' : World) : Prop := ∃ (bs : Int) (A : Option Addr) (c : Nat) (ds : List Int), e = .returned (.agg #[.int .i64 bs, .slice A ds.length c]) ∧ ds.length ≤ 20 ∧ Kn w [rowI A c ds] w'
end Go.Proofs.YtkfbfainhmkkdaaGreat

namespace Go.Proofs.YtkfbfainhmkkdaaGreat
open Go.RowKit Go.Sort
end Go.Proofs.YtkfbfainhmkkdaaGreat

namespace Go.Proofs.YtkfbfainhmkkdaaGreat
open Go.RowKit Go.Sort
/-- what the draw of two registers returns -/
def Draws2 (w : World) (e : Ending) (w' : World) : Prop := ∃ (b : Int) (A : Option Addr) (c : Nat) (ds : List Int) (b2 : Int) (B : Option Addr) (k : Nat) (es : List Int), e = .returned (.tuple #[.agg #[.int .i64 b, .slice A ds.length c], .agg #[.int .i64 b2, .slice B es.length k]]) ∧ (ds.length ≤ 20 ∧ es.length ≤ 20) ∧ Kn w [rowI A c ds, rowI B k es] w'
theorem pick5 {q : Nat} (h : 0 ≤ (q : Int) ∧ ((q : Int) < 5 ∨ (5 : Int) ≤ 1 ∧ (q : Int) = 0)) : q ≤ 5 := by omega
end Go.Proofs.YtkfbfainhmkkdaaGreat

namespace Go.Proofs.YtkfbfainhmkkdaaGreat
open Go.RowKit Go.Sort
theorem f6big_any (A : Option Addr) (n c : Nat) (w : World) : Calls Tryz.prog 6 #[.slice A n c] w fun e w' => e = .returned (.bool (decide ((n : Int) > 4096))) ∧ w' = w := by
  go_enter Tryz.func6, Tryz.ntmps6
  go_wp2
  go_ret
  exact ⟨rfl, rfl⟩
set_option maxHeartbeats 400000 in
theorem f6ints_any (A B : Option Addr) (n c m d : Nat) (ds es : List Int) (w : World) (hr : RI w A n ds) (hs : RI w B m es) (hm : n ≤ 9223372036854775807) (hm2 : m ≤ 9223372036854775807) :
    Calls Tryz.prog 44 #[.slice A n c, .slice B m d] w fun e w' => e = .returned (.bool (decide (ds = es))) ∧ ∃ q, w' = w.drewN q := by
  have HL := Lib.hid hr.1
  have HM := Lib.hid hs.1
  by_cases hnm : n = m
  · subst hnm
    go_enter Tryz.func44, Tryz.ntmps44
    go_wp2
    go_loopw [5] (fun i wr => ∃ k : Nat, k ≤ n ∧ i = .int .i64 k ∧ ds.take k = es.take k ∧ ∃ q, wr = w.drewN q) (fun i _ => n - (intOf i).toNat)
    case atStart => exact ⟨0, Nat.zero_le _, rfl, by simp, 0, rfl⟩
    case round =>
      obtain ⟨k, hk, rfl, hdg, q, rfl⟩ := hrel
      have HD := Lib.hid hdg; clear hdg
      by_cases hkn : k < n
      · obtain ⟨ad, hA, hlt, hkl, hc⟩ := hr.at_ hkn
        obtain ⟨ad2, hB, hlt2, hkl2, hc2⟩ := hs.at_ hkn
        subst hA; subst hB
        have hi0 : (0 : Int) ≤ (k : Int) := by omega
        have hi1 : (k : Int) < (n : Int) := by omega
        rcases hd : (ds[k] != es[k]) with _ | _
        · go_wp2
          go_quiet (fail)
          go_wp2
          have he : ds[k] = es[k] := by simpa using hd
          have HE := Lib.hid he; clear he
          go_roundw
          case rel => exact ⟨k + 1, by omega, by go_num, take_eq_of_succ HD.out hkl hkl2 HE.out, by first | exact ⟨_, rfl⟩ | exact ⟨_, World.drewN_drewN _ _ _⟩⟩
          case measure => simp [intOf]; omega
        · go_wp2
          go_quiet (fail)
          go_wp2
          go_ret
          refine ⟨ret_bool ?_, by first | exact ⟨_, rfl⟩ | exact ⟨_, World.drewN_drewN _ _ _⟩⟩
          have : ds ≠ es := by rintro rfl; simp at hd
          simp [this]
      · have HF : Hid (ds = es) := by
          have := HD.out
          rwa [List.take_of_length_le (by have := HL.out; omega), List.take_of_length_le (by have := HM.out; omega)] at this
        go_wp2
        go_ret
        exact ⟨ret_bool (by simp [HF.out]), q, rfl⟩
  · have HF : Hid (ds ≠ es) := by rintro rfl; exact hnm (hr.1.symm.trans hs.1)
    go_enter Tryz.func44, Tryz.ntmps44
    go_wp2
    go_ret
    exact ⟨ret_bool (by simp [HF.out]), 0, rfl⟩
end Go.Proofs.YtkfbfainhmkkdaaGreat

namespace Go.Proofs.YtkfbfainhmkkdaaGreat
open Go.RowKit Go.Sort
theorem failsL_mem {p : Nat → Bool} {n : Nat} {x : Int} (h : x ∈ failsL p n) : ∃ k : Nat, k < n ∧ x = k ∧ p k = true := by
  induction n with
  | zero => simp [failsL] at h
  | succ n ih =>
    rw [failsL_succ] at h
    split at h
    · rename_i hp
      rcases List.mem_append.1 h with h | h
      · obtain ⟨k, hk, e, hh⟩ := ih h
        exact ⟨k, by omega, e, hh⟩
      · exact ⟨n, by omega, by simpa using h, hp⟩
    · obtain ⟨k, hk, e, hh⟩ := ih h
      exact ⟨k, by omega, e, hh⟩
theorem pC_zero {b z1 z2 z3 : Int} {L : List Ins} {kind arg : Int} (h1 : vprog L = true) (h2 : isP kind arg = true) (h3 : inC b z1 z2 z3 = 0) : pC b z1 z2 z3 L kind arg = 0 := by
  unfold pC
  rw [if_neg (by rw [h1]; decide), if_neg (by rw [h2]; decide)]
  exact h3
/-- a shortest program keeps its promise for all inputs -/
theorem sf_law {b z1 z2 z3 kind arg most : Int} (h : sfC b z1 z2 z3 kind arg most = 0) : ffC b z1 z2 z3 (sfL b z1 z2 z3 kind arg most) kind arg = 3 ∧ ((sfL b z1 z2 z3 kind arg most).length : Int) ≤ most := by
  rcases sf_cases b z1 z2 z3 kind arg most with hb | ⟨h0, hi, hp, n1, n2, n3, N, M, rfl, rfl, rfl, rfl, hM, hB, hbig, hN, hN2⟩
  · rw [(sf_bad hb).2] at h; exact absurd h hb
  · by_cases hf : ∃ p : Nat × Nat, Found (sfQ b n1 n2 n3 N kind arg) M p.1 p.2
    · obtain ⟨⟨n, k⟩, hf⟩ := hf
      simp only [] at hf
      have hL := (sf_found h0 hN hf).1
      have hn := hf.nM
      rw [hL]
      refine ⟨?_, by rw [numP_len]; omega⟩
      rw [(ff_fine (pC_zero (numP_ok n k (by omega)) hp hi) hN).2.1, if_pos]
      exact of_decide_eq_true hf.yes
    · have hn : sfB b n1 n2 n3 kind arg M = none := by
        rw [sfB_eq hN]
        unfold bestP
        rw [dif_neg hf]
      unfold sfC at h
      rw [if_neg (fun h2 => h2 h0), hn] at h
      simp at h
/-- what is proved for a factor -/
theorem fp_law {b z1 z2 z3 most f : Int} {sh : Bool} (h : fpC b z1 z2 z3 most = 0) (hf : f ∈ fpL b z1 z2 z3 most sh) : trnC b f = 0 ∧ ffC b z1 z2 z3 (mulP (turnL sh b f)) 1 f = 3 := by
  rcases fpC_cases b z1 z2 z3 most with hb | ⟨h0, hi, n1, n2, n3, N, M, rfl, rfl, rfl, rfl, hM, hB, hbig, hN, hN2⟩
  · exact absurd h hb
  · rw [fp_fine h0 hN] at hf
    obtain ⟨k, hk, rfl, hok⟩ := failsL_mem hf
    refine ⟨trnC_fine hB (by omega), ?_⟩
    have hp : pC b n1 n2 n3 (mulP (turnL sh b k)) 1 k = 0 := pC_zero (mulP_ok hB.b1 hB.b2 (by omega) (by omega)) (show isP 1 k = true from betB_iff.2 (by omega)) hi
    rw [(ff_fine hp hN).2.1, if_pos]
    exact of_decide_eq_true hok
end Go.Proofs.YtkfbfainhmkkdaaGreat

namespace Go.Proofs.YtkfbfainhmkkdaaGreat
open Go.RowKit Go.Sort
theorem results_tmp4 {fn : Func} {t u v x : Tmp} (h : fn.results = #[.tmp t, .tmp u, .tmp v, .tmp x]) (tmps : Array Value) (P : Program) (w : World) :
    (results fn tmps).run P w = .ok (.tuple #[tmps.getD t undef, tmps.getD u undef, tmps.getD v undef, tmps.getD x undef]) w := by
  simp [results, h]
theorem results_tmp5 {fn : Func} {t u v x y : Tmp} (h : fn.results = #[.tmp t, .tmp u, .tmp v, .tmp x, .tmp y]) (tmps : Array Value) (P : Program) (w : World) :
    (results fn tmps).run P w = .ok (.tuple #[tmps.getD t undef, tmps.getD u undef, tmps.getD v undef, tmps.getD x undef, tmps.getD y undef]) w := by
  simp [results, h]
theorem results_tmp6 {fn : Func} {t u v x y z : Tmp} (h : fn.results = #[.tmp t, .tmp u, .tmp v, .tmp x, .tmp y, .tmp z]) (tmps : Array Value) (P : Program) (w : World) :
    (results fn tmps).run P w = .ok (.tuple #[tmps.getD t undef, tmps.getD u undef, tmps.getD v undef, tmps.getD x undef, tmps.getD y undef, tmps.getD z undef]) w := by
  simp [results, h]
theorem results_tmp7 {fn : Func} {t u v x y z r : Tmp} (h : fn.results = #[.tmp t, .tmp u, .tmp v, .tmp x, .tmp y, .tmp z, .tmp r]) (tmps : Array Value) (P : Program) (w : World) :
    (results fn tmps).run P w = .ok (.tuple #[tmps.getD t undef, tmps.getD u undef, tmps.getD v undef, tmps.getD x undef, tmps.getD y undef, tmps.getD z undef, tmps.getD r undef]) w := by
  simp [results, h]
theorem DR.bare {b N : Nat} {w w' : World} {m : List Ent} (h : DR b N w m w') : DR b N w [] w' := h.kn (fun _ k => k.bare)
set_option maxRecDepth 100000 in
set_option maxHeartbeats 1600000 in
theorem l14Widths_dr (b N : Nat) (w : World) (h : Src w b N) (hN : N ≤ 900000) :
    Calls Tryz.prog 94 #[.pointer (some ⟨b, 0, none⟩)] w fun e w' => ∃ x1 x2 x3 x4 : Int, e = .returned (.tuple #[.int .i64 x1, .int .i64 x2, .int .i64 x3, .int .i64 x4]) ∧ DR b (N + 12) w [] w' := by
  have D0 := DR.nil h
  clear h
  go_enter Tryz.func94, Tryz.ntmps94
  go_wp2_with fail
  refine (pick_dr _ _ 2 w D0.src (by omega)).mono ?_; rintro e w1 ⟨p, rfl, hp, h1⟩
  have D1 := D0.add h1
  clear D0 h1
  go_wp2_with fail
  refine (pick_dr _ _ 2 w1 D1.src (by omega)).mono ?_; rintro e w2 ⟨q, rfl, hq, h1⟩
  have D2 := D1.add h1
  clear D1 h1
  go_wp2_with fail
  refine (pick_dr _ _ 2 w2 D2.src (by omega)).mono ?_; rintro e w3 ⟨r, rfl, hr, h1⟩
  have D3 := D2.add h1
  clear D2 h1
  go_wp2_with fail
  refine (pick_dr _ _ 3 w3 D3.src (by omega)).mono ?_; rintro e w4 ⟨s, rfl, hs, h1⟩
  have D4 := D3.add h1
  clear D3 h1
  go_wp2_with fail
  refine (pick_dr _ _ 24 w4 D4.src (by omega)).mono ?_; rintro e w5 ⟨z, rfl, hz, h1⟩
  have D5 := D4.add h1
  clear D4 h1
  by_cases h0 : z = 0
  · subst h0
    go_wp2_with fail
    refine Calls.dr (D5.al [.int .i64 0, .int .i64 4, .int .i64 16, .int .i64 17] 2) ?_; intro w90 D90
    obtain ⟨hr, hA⟩ := DR.lit (ds := [0, 4, 16, 17]) D90 (by decide)
    refine (among_dr _ _ _ 4 4 _ w90 D90.src (by omega) hr hA (by omega) (by omega)).mono ?_; rintro e w91 ⟨x, rfl, hx, h10⟩
    have D6 := ((D90.add h10).bare)
    clear hr hA D5 D90 h10 hx
    go_wp2_with fail
    (try simp only [Exit.inBlock, Exit.then])
    refine bodyPost_ret (results_tmp4 rfl _ _ _) rfl ?_
    exact ⟨_, _, _, _, rfl, D6.mono (by omega)⟩
  by_cases h1 : z = 1
  · subst h1
    go_wp2_with fail
    refine Calls.dr (D5.al [.int .i64 0, .int .i64 6, .int .i64 7, .int .i64 8, .int .i64 17] 2) ?_; intro w90 D90
    obtain ⟨hr, hA⟩ := DR.lit (ds := [0, 6, 7, 8, 17]) D90 (by decide)
    refine (among_dr _ _ _ 5 5 _ w90 D90.src (by omega) hr hA (by omega) (by omega)).mono ?_; rintro e w91 ⟨x, rfl, hx, h10⟩
    have D6 := ((D90.add h10).bare)
    clear hr hA D5 D90 h10 hx
    go_wp2_with fail
    (try simp only [Exit.inBlock, Exit.then])
    refine bodyPost_ret (results_tmp4 rfl _ _ _) rfl ?_
    exact ⟨_, _, _, _, rfl, D6.mono (by omega)⟩
  by_cases h2 : z = 2
  · subst h2
    go_wp2_with fail
    refine Calls.dr (D5.al [.int .i64 0, .int .i64 16, .int .i64 17] 2) ?_; intro w90 D90
    obtain ⟨hr, hA⟩ := DR.lit (ds := [0, 16, 17]) D90 (by decide)
    refine (among_dr _ _ _ 3 3 _ w90 D90.src (by omega) hr hA (by omega) (by omega)).mono ?_; rintro e w91 ⟨x, rfl, hx, h10⟩
    have D6 := ((D90.add h10).bare)
    clear hr hA D5 D90 h10 hx
    go_wp2_with fail
    (try simp only [Exit.inBlock, Exit.then])
    refine bodyPost_ret (results_tmp4 rfl _ _ _) rfl ?_
    exact ⟨_, _, _, _, rfl, D6.mono (by omega)⟩
  have e0 : (z == 0) = false := by simp [h0]
  have e1 : (z == 1) = false := by simp [h1]
  have e2 : (z == 2) = false := by simp [h2]
  go_wp2_with fail
  (try simp only [Exit.inBlock, Exit.then])
  refine bodyPost_ret (results_tmp4 rfl _ _ _) rfl ?_
  exact ⟨_, _, _, _, rfl, D5.mono (by omega)⟩
set_option maxRecDepth 100000 in
set_option maxHeartbeats 1600000 in
theorem l14Promise_dr (b N : Nat) (w : World) (h : Src w b N) (hN : N ≤ 900000) :
    Calls Tryz.prog 78 #[.pointer (some ⟨b, 0, none⟩)] w fun e w' => ∃ x1 x2 : Int, e = .returned (.tuple #[.int .i64 x1, .int .i64 x2]) ∧ DR b (N + 12) w [] w' := by
  have D0 := DR.nil h
  clear h
  go_enter Tryz.func78, Tryz.ntmps78
  go_wp2_with fail
  refine (pick_dr _ _ 4 w D0.src (by omega)).mono ?_; rintro e w1 ⟨p, rfl, hp, h1⟩
  have D1 := D0.add h1
  clear D0 h1
  have hk : ∃ (a : Int) (M : Nat) (w2 : World), M ≤ N + 4 ∧ DR b M w [] w2 ∧ True := ⟨0, _, _, by omega, D1, trivial⟩
  clear hk
  have e9 : IntKind.i64.wrap (1 + p) = 1 + p := wrapI64 (by omega)
  by_cases hp0 : p = 0
  · subst hp0
    go_wp2_with fail
    refine (pick_dr _ _ 5 w1 D1.src (by omega)).mono ?_; rintro e w2 ⟨q, rfl, hq, h1⟩
    have D2 := D1.add h1
    clear D1 h1
    go_wp2_with fail
    refine (pick_dr _ _ 24 w2 D2.src (by omega)).mono ?_; rintro e w5 ⟨z, rfl, hz, h1⟩
    have D5 := D2.add h1
    clear D2 h1
    by_cases h0 : z = 0
    · subst h0
      go_wp2_with fail
      refine Calls.dr (D5.al [.int .i64 0, .int .i64 5] 2) ?_; intro w90 D90
      obtain ⟨hr, hA⟩ := DR.lit (ds := [0, 5]) D90 (by decide)
      refine (among_dr _ _ _ 2 2 _ w90 D90.src (by omega) hr hA (by omega) (by omega)).mono ?_; rintro e w91 ⟨x, rfl, hx, h10⟩
      have D6 := ((D90.add h10).bare)
      clear hr hA D5 D90 h10 hx
      go_wp2_with fail
      go_ret2
      exact ⟨_, _, rfl, D6.mono (by omega)⟩
    by_cases h1 : z = 1
    · subst h1
      go_wp2_with fail
      refine Calls.dr (D5.al [.int .i64 (-1001), .int .i64 (-1000), .int .i64 1, .int .i64 1000, .int .i64 1001, .int .i64 (-9223372036854775808)] 2) ?_; intro w90 D90
      obtain ⟨hr, hA⟩ := DR.lit (ds := [-1001, -1000, 1, 1000, 1001, -9223372036854775808]) D90 (by decide)
      refine (among_dr _ _ _ 6 6 _ w90 D90.src (by omega) hr hA (by omega) (by omega)).mono ?_; rintro e w91 ⟨x, rfl, hx, h10⟩
      have D6 := ((D90.add h10).bare)
      clear hr hA D5 D90 h10 hx
      go_wp2_with fail
      go_ret2
      exact ⟨_, _, rfl, D6.mono (by omega)⟩
    have e0 : (z == 0) = false := by simp [h0]
    have e1 : (z == 1) = false := by simp [h1]
    go_wp2_with fail
    go_ret2
    exact ⟨_, _, rfl, D5.mono (by omega)⟩
  · have e8 : (1 + p == 1) = false := by simp; omega
    go_wp2_with fail
    refine (pick_dr _ _ 24 w1 D1.src (by omega)).mono ?_; rintro e w5 ⟨z, rfl, hz, h1⟩
    have D5 := D1.add h1
    clear D1 h1
    by_cases h0 : z = 0
    · subst h0
      go_wp2_with fail
      refine Calls.dr (D5.al [.int .i64 0, .int .i64 5] 2) ?_; intro w90 D90
      obtain ⟨hr, hA⟩ := DR.lit (ds := [0, 5]) D90 (by decide)
      refine (among_dr _ _ _ 2 2 _ w90 D90.src (by omega) hr hA (by omega) (by omega)).mono ?_; rintro e w91 ⟨x, rfl, hx, h10⟩
      have D6 := ((D90.add h10).bare)
      clear hr hA D5 D90 h10 hx
      go_wp2_with fail
      go_ret2
      exact ⟨_, _, rfl, D6.mono (by omega)⟩
    by_cases h1 : z = 1
    · subst h1
      go_wp2_with fail
      refine Calls.dr (D5.al [.int .i64 (-1001), .int .i64 (-1000), .int .i64 1, .int .i64 1000, .int .i64 1001, .int .i64 (-9223372036854775808)] 2) ?_; intro w90 D90
      obtain ⟨hr, hA⟩ := DR.lit (ds := [-1001, -1000, 1, 1000, 1001, -9223372036854775808]) D90 (by decide)
      refine (among_dr _ _ _ 6 6 _ w90 D90.src (by omega) hr hA (by omega) (by omega)).mono ?_; rintro e w91 ⟨x, rfl, hx, h10⟩
      have D6 := ((D90.add h10).bare)
      clear hr hA D5 D90 h10 hx
      go_wp2_with fail
      go_ret2
      exact ⟨_, _, rfl, D6.mono (by omega)⟩
    have e0 : (z == 0) = false := by simp [h0]
    have e1 : (z == 1) = false := by simp [h1]
    go_wp2_with fail
    go_ret2
    exact ⟨_, _, rfl, D5.mono (by omega)⟩
set_option maxRecDepth 100000 in
set_option maxHeartbeats 1600000 in
theorem DrawInputsOf_any (A : Option Addr) (n c : Nat) (bs : List UInt8) (w : World) (hb : RB w A n bs) (hn : n ≤ 9223372036854775807) :
    Calls Tryz.prog 42 #[.slice A n c] w fun e w' => ∃ x1 x2 x3 : Int, e = .returned (.tuple #[.int .i64 x1, .int .i64 x2, .int .i64 x3]) ∧ Below w.heap.size w w' := by
  have HB := Lib.hid hb
  clear hb
  go_enter Tryz.func42, Tryz.ntmps42
  go_wp2_with fail
  refine (l00From_any A n c bs w HB.out hn).mono ?_; rintro e w0 ⟨rfl, hs, hb2⟩
  have D0 := DR.nil hs
  clear HB hs
  go_wp2_with fail
  refine (l14Widths_dr _ _ w0 D0.src (by omega)).mono ?_; rintro e w1 ⟨x1, x2, x3, x4, rfl, h1⟩
  have K := ((Kn.nil w).join (Kn.ofDR hb2 (Nat.le_refl _) (D0.add h1))).below
  clear D0 h1 hb2
  go_wp2_with fail
  go_ret3
  exact ⟨x1, x2, x3, rfl, K⟩
set_option maxRecDepth 100000 in
set_option maxHeartbeats 1600000 in
theorem DrawInputAt_any (A : Option Addr) (n c : Nat) (bs : List UInt8) (w : World) (hb : RB w A n bs) (hn : n ≤ 9223372036854775807) :
    Calls Tryz.prog 40 #[.slice A n c] w fun e w' => ∃ x1 x2 x3 x4 x5 : Int, e = .returned (.tuple #[.int .i64 x1, .int .i64 x2, .int .i64 x3, .int .i64 x4, .int .i64 x5]) ∧ Below w.heap.size w w' := by
  have HB := Lib.hid hb
  clear hb
  go_enter Tryz.func40, Tryz.ntmps40
  go_wp2_with fail
  refine (l00From_any A n c bs w HB.out hn).mono ?_; rintro e w0 ⟨rfl, hs, hb2⟩
  have D0 := DR.nil hs
  clear HB hs
  go_wp2_with fail
  refine (l14Widths_dr _ _ w0 D0.src (by omega)).mono ?_; rintro e w1 ⟨x1, x2, x3, x4, rfl, h1⟩
  have D1 := D0.add h1
  clear D0 h1
  go_wp2_with fail
  refine (pick_dr _ _ 80 w1 D1.src (by omega)).mono ?_; rintro e w2 ⟨q, rfl, hq, h1⟩
  have D2 := D1.add h1
  clear D1 h1
  go_wp2_with fail
  refine (one_dr _ _ 10 w2 D2.src (by omega)).mono ?_; rintro e w3 ⟨z, rfl, h3⟩
  have D3 := D2.add h3
  clear D2 h3
  rcases z with _ | _
  · have K := ((Kn.nil w).join (Kn.ofDR hb2 (Nat.le_refl _) D3)).below
    clear D3 hb2
    go_wp2_with fail
    (try simp only [Exit.inBlock, Exit.then])
    refine bodyPost_ret (results_tmp5 rfl _ _ _) rfl ?_
    exact ⟨x1, x2, x3, x4, q, rfl, K⟩
  · go_wp2_with fail
    refine Calls.dr (D3.al [.int .i64 (-1), .int .i64 255, .int .i64 256] 2) ?_; intro w90 D90
    obtain ⟨hr, hA⟩ := DR.lit (ds := [-1, 255, 256]) D90 (by decide)
    refine (among_dr _ _ _ 3 3 _ w90 D90.src (by omega) hr hA (by omega) (by omega)).mono ?_; rintro e w91 ⟨x, rfl, hx, h10⟩
    have D6 := ((D90.add h10).bare)
    clear hr hA D3 D90 h10 hx
    have K := ((Kn.nil w).join (Kn.ofDR hb2 (Nat.le_refl _) D6)).below
    clear D6 hb2
    go_wp2_with fail
    (try simp only [Exit.inBlock, Exit.then])
    refine bodyPost_ret (results_tmp5 rfl _ _ _) rfl ?_
    exact ⟨x1, x2, x3, x4, x, rfl, K⟩
set_option maxRecDepth 100000 in
set_option maxHeartbeats 1600000 in
theorem DrawFactorProofs_any (A : Option Addr) (n c : Nat) (bs : List UInt8) (w : World) (hb : RB w A n bs) (hn : n ≤ 9223372036854775807) :
    Calls Tryz.prog 34 #[.slice A n c] w fun e w' => ∃ (x1 x2 x3 x4 x5 : Int) (s : Bool), e = .returned (.tuple #[.int .i64 x1, .int .i64 x2, .int .i64 x3, .int .i64 x4, .int .i64 x5, .bool s]) ∧ Below w.heap.size w w' := by
  have HB := Lib.hid hb
  clear hb
  go_enter Tryz.func34, Tryz.ntmps34
  go_wp2_with fail
  refine (l00From_any A n c bs w HB.out hn).mono ?_; rintro e w0 ⟨rfl, hs, hb2⟩
  have D0 := DR.nil hs
  clear HB hs
  go_wp2_with fail
  refine (l14Widths_dr _ _ w0 D0.src (by omega)).mono ?_; rintro e w1 ⟨x1, x2, x3, x4, rfl, h1⟩
  have D1 := D0.add h1
  clear D0 h1
  go_wp2_with fail
  refine (pick_dr _ _ 9 w1 D1.src (by omega)).mono ?_; rintro e w2 ⟨q, rfl, hq, h1⟩
  have D2 := D1.add h1
  clear D1 h1
  go_wp2_with fail
  refine (one_dr _ _ 10 w2 D2.src (by omega)).mono ?_; rintro e w3 ⟨z, rfl, h3⟩
  have D3 := D2.add h3
  clear D2 h3
  rcases z with _ | _
  · go_wp2_with fail
    refine (one_dr _ _ 2 w3 D3.src (by omega)).mono ?_; rintro e w4 ⟨s, rfl, h3⟩
    have K := ((Kn.nil w).join (Kn.ofDR hb2 (Nat.le_refl _) (D3.add h3))).below
    clear D3 hb2 h3
    go_wp2_with fail
    (try simp only [Exit.inBlock, Exit.then])
    refine bodyPost_ret (results_tmp6 rfl _ _ _) rfl ?_
    exact ⟨x1, x2, x3, x4, q, s, rfl, K⟩
  · go_wp2_with fail
    refine Calls.dr (D3.al [.int .i64 (-1), .int .i64 0, .int .i64 30, .int .i64 31] 2) ?_; intro w90 D90
    obtain ⟨hr, hA⟩ := DR.lit (ds := [-1, 0, 30, 31]) D90 (by decide)
    refine (among_dr _ _ _ 4 4 _ w90 D90.src (by omega) hr hA (by omega) (by omega)).mono ?_; rintro e w91 ⟨x, rfl, hx, h10⟩
    have D6 := ((D90.add h10).bare)
    clear hr hA D3 D90 h10 hx
    go_wp2_with fail
    refine (one_dr _ _ 2 w91 D6.src (by omega)).mono ?_; rintro e w4 ⟨s, rfl, h3⟩
    have K := ((Kn.nil w).join (Kn.ofDR hb2 (Nat.le_refl _) (D6.add h3))).below
    clear D6 hb2 h3
    go_wp2_with fail
    (try simp only [Exit.inBlock, Exit.then])
    refine bodyPost_ret (results_tmp6 rfl _ _ _) rfl ?_
    exact ⟨x1, x2, x3, x4, x, s, rfl, K⟩
set_option maxRecDepth 100000 in
set_option maxHeartbeats 1600000 in
theorem DrawShortestFor_any (A : Option Addr) (n c : Nat) (bs : List UInt8) (w : World) (hb : RB w A n bs) (hn : n ≤ 9223372036854775807) :
    Calls Tryz.prog 37 #[.slice A n c] w fun e w' => ∃ x1 x2 x3 x4 x5 x6 x7 : Int, e = .returned (.tuple #[.int .i64 x1, .int .i64 x2, .int .i64 x3, .int .i64 x4, .int .i64 x5, .int .i64 x6, .int .i64 x7]) ∧ Below w.heap.size w w' := by
  have HB := Lib.hid hb
  clear hb
  go_enter Tryz.func37, Tryz.ntmps37
  go_wp2_with fail
  refine (l00From_any A n c bs w HB.out hn).mono ?_; rintro e w0 ⟨rfl, hs, hb2⟩
  have D0 := DR.nil hs
  clear HB hs
  go_wp2_with fail
  refine (pick_dr _ _ 2 w0 D0.src (by omega)).mono ?_; rintro e w1 ⟨p, rfl, hp, h1⟩
  have D1 := D0.add h1
  clear D0 h1
  go_wp2_with fail
  refine (pick_dr _ _ 2 w1 D1.src (by omega)).mono ?_; rintro e w2 ⟨q, rfl, hq, h1⟩
  have D2 := D1.add h1
  clear D1 h1
  go_wp2_with fail
  refine (pick_dr _ _ 2 w2 D2.src (by omega)).mono ?_; rintro e w3 ⟨r, rfl, hr, h1⟩
  have D3 := D2.add h1
  clear D2 h1
  go_wp2_with fail
  refine (l14Promise_dr _ _ w3 D3.src (by omega)).mono ?_; rintro e w4 ⟨y1, y2, rfl, h1⟩
  have D4 := D3.add h1
  clear D3 h1
  go_wp2_with fail
  refine (pick_dr _ _ 4 w4 D4.src (by omega)).mono ?_; rintro e w5 ⟨s, rfl, hs, h1⟩
  have D5 := D4.add h1
  clear D4 h1
  go_wp2_with fail
  refine (pick_dr _ _ 16 w5 D5.src (by omega)).mono ?_; rintro e w6 ⟨z, rfl, hz, h1⟩
  have D6 := D5.add h1
  clear D5 h1
  by_cases h0 : z = 0
  · subst h0
    go_wp2_with fail
    refine Calls.dr (D6.al [.int .i64 (-1), .int .i64 4, .int .i64 5] 2) ?_; intro w90 D90
    obtain ⟨hr, hA⟩ := DR.lit (ds := [-1, 4, 5]) D90 (by decide)
    refine (among_dr _ _ _ 3 3 _ w90 D90.src (by omega) hr hA (by omega) (by omega)).mono ?_; rintro e w91 ⟨x, rfl, hx, h10⟩
    have D7 := ((D90.add h10).bare)
    clear hr hA D6 D90 h10 hx
    have K := ((Kn.nil w).join (Kn.ofDR hb2 (Nat.le_refl _) D7)).below
    clear D7 hb2
    go_wp2_with fail
    (try simp only [Exit.inBlock, Exit.then])
    refine bodyPost_ret (results_tmp7 rfl _ _ _) rfl ?_
    exact ⟨_, _, _, _, _, _, _, rfl, K⟩
  by_cases h1 : z = 1
  · subst h1
    go_wp2_with fail
    refine Calls.dr (D6.al [.int .i64 0, .int .i64 7, .int .i64 8] 2) ?_; intro w90 D90
    obtain ⟨hr, hA⟩ := DR.lit (ds := [0, 7, 8]) D90 (by decide)
    refine (among_dr _ _ _ 3 3 _ w90 D90.src (by omega) hr hA (by omega) (by omega)).mono ?_; rintro e w91 ⟨x, rfl, hx, h10⟩
    have D7 := ((D90.add h10).bare)
    clear hr hA D6 D90 h10 hx
    have K := ((Kn.nil w).join (Kn.ofDR hb2 (Nat.le_refl _) D7)).below
    clear D7 hb2
    go_wp2_with fail
    (try simp only [Exit.inBlock, Exit.then])
    refine bodyPost_ret (results_tmp7 rfl _ _ _) rfl ?_
    exact ⟨_, _, _, _, _, _, _, rfl, K⟩
  have e0 : (z == 0) = false := by simp [h0]
  have e1 : (z == 1) = false := by simp [h1]
  have K := ((Kn.nil w).join (Kn.ofDR hb2 (Nat.le_refl _) D6)).below
  clear D6 hb2
  go_wp2_with fail
  (try simp only [Exit.inBlock, Exit.then])
  refine bodyPost_ret (results_tmp7 rfl _ _ _) rfl ?_
  exact ⟨_, _, _, _, _, _, _, rfl, K⟩
end Go.Proofs.YtkfbfainhmkkdaaGreat
