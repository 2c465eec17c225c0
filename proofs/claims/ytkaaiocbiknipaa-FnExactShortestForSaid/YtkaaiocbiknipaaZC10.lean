/- Part 10: lemmas and contracts of the claim's functions. -/
import Derived.Test.YtkaaiocbiknipaaZC1
import Derived.Test.YtkaaiocbiknipaaZC2
import Derived.Test.YtkaaiocbiknipaaZC3
import Derived.Test.YtkaaiocbiknipaaZC4
import Derived.Test.YtkaaiocbiknipaaZC5
import Derived.Test.YtkaaiocbiknipaaZC6
import Derived.Test.YtkaaiocbiknipaaZC7
import Derived.Test.YtkaaiocbiknipaaZC8
import Derived.Test.YtkaaiocbiknipaaZC9
namespace Go.Proofs.Ytkaaiocbiknipaa
open Go.RowKit Go.Sort
theorem Kn.box2at {w0 w : World} {m : List Ent} {g : Nat} {v0 v1 : Value} {l : List Value} {T : TypeId} (h : Kn w0 (.blk g (v0 :: v1 :: l) T :: m) w) : w.cell? ⟨g, 1, none⟩ = some v1 := h.blkAt.1 1
set_option maxRecDepth 100000 in
set_option maxHeartbeats 6400000 in
theorem specMultiplyOn_any (t : Tri) (A1 A2 A3 : Option Addr) (c1 c2 c3 : Nat) (x f : Int) (sh : Bool) (w : World) (r1 : RI w A1 t.a.digits.length t.a.digits) (r2 : RI w A2 t.b.digits.length t.b.digits) (r3 : RI w A3 t.s.digits.length t.s.digits) (hs : SmallTri t) :
    Calls Try.prog 63 #[.agg #[.int .i64 t.a.base, .slice A1 t.a.digits.length c1, .int .i64 t.b.base, .slice A2 t.b.digits.length c2, .int .i64 t.s.base, .slice A3 t.s.digits.length c3, .int .i64 t.carry], .int .i64 x, .int .i64 f, .bool sh] w (MORet t x f sh w) := by
  have hTC : ∀ W, Kn w [.blk (w.heap.size + 1) [.int .i64 0, .slice none 0 0, .int .i64 0, .slice none 0 0, .int .i64 0, .slice none 0 0, .int .i64 0] 65, .blk w.heap.size [.int .i64 t.a.base, .slice A1 t.a.digits.length c1, .int .i64 t.b.base, .slice A2 t.b.digits.length c2, .int .i64 t.s.base, .slice A3 t.s.digits.length c3, .int .i64 t.carry] 65] W → TriC W ⟨w.heap.size, 0, none⟩ t A1 c1 A2 c2 A3 c3 := fun W h => ⟨⟨h.drop.blkAt.1 0, h.drop.blkAt.1 1, h.drop.blkAt.1 2, h.drop.blkAt.1 3, h.drop.blkAt.1 4, h.drop.blkAt.1 5, h.drop.blkAt.1 6⟩, r1.below h.below, r2.below h.below, r3.below h.below⟩
  have KV := (fun W (hW : Kn w [.blk (w.heap.size + 1) [.int .i64 0, .slice none 0 0, .int .i64 0, .slice none 0 0, .int .i64 0, .slice none 0 0, .int .i64 0] 65, .blk w.heap.size [.int .i64 t.a.base, .slice A1 t.a.digits.length c1, .int .i64 t.b.base, .slice A2 t.b.digits.length c2, .int .i64 t.s.base, .slice A3 t.s.digits.length c3, .int .i64 t.carry] 65] W) => l10Ok_any ⟨w.heap.size, 0, none⟩ t W (hTC W hW).tri hs)
  rcases hv : vmach t with _ | _
  · rw [hv] at KV
    have HB := Lib.hid (mo_code (t := t) (x := x) (f := f) (sh := sh) (c := 1) (by unfold moC; rw [if_pos hv]) (by decide))
    have KV := Lib.hid KV
    clear hv r1 r2 r3 hs hTC
    go_enter Try.func63, Try.ntmps63
    go_wp2_with fail
    refine Calls.kn (((Kn.nil w).al [.int .i64 t.a.base, .slice A1 t.a.digits.length c1, .int .i64 t.b.base, .slice A2 t.b.digits.length c2, .int .i64 t.s.base, .slice A3 t.s.digits.length c3, .int .i64 t.carry] 65).al [.int .i64 0, .slice none 0 0, .int .i64 0, .slice none 0 0, .int .i64 0, .slice none 0 0, .int .i64 0] 65) ?_; intro w1 hK0
    simp only [World.size_alloc] at hK0
    refine (KV.out _ hK0).mono ?_; rintro e w2 ⟨rfl, q, rfl⟩
    have hK1 := hK0.drewN q
    generalize w1.drewN q = w3 at hK1 ⊢
    obtain ⟨x1, x2, x3, -⟩ := hK1.cells
    go_wp2_with fail
    refine bodyPost.kn (((((((hK1.st 0 (.int .i64 0)).st 1 (.slice none 0 0)).st 2 (.int .i64 0)).st 3 (.slice none 0 0)).st 4 (.int .i64 0)).st 5 (.slice none 0 0)).st 6 (.int .i64 0)) ?_; intro w6 hK6
    clear x1 x2 x3
    obtain ⟨a1, a2, a3, -⟩ := hK6.cells
    refine bodyPost_ret (v := .tuple #[.agg #[.int .i64 0, .slice none 0 0, .int .i64 0, .slice none 0 0, .int .i64 0, .slice none 0 0, .int .i64 0], .int .i64 0, .int .i64 1]) (by simp [results, Try.results63, go_sem, a1]) rfl ?_
    unfold MORet
    rw [HB.out.1, HB.out.2.1, HB.out.2.2]
    exact MSRet.bad hK6.bare
  rw [hv] at KV
  obtain ⟨k1, k2, k3, e1, e2, f1, f2, l1, p0, p1⟩ := vmach_all hv
  obtain ⟨⟨b1, b2⟩, ⟨n1, n2⟩, -⟩ := vreg_iff.1 k1
  obtain ⟨⟨b3, b4⟩, ⟨n3, n4⟩, -⟩ := vreg_iff.1 k2
  obtain ⟨⟨b5, b6⟩, ⟨n5, n6⟩, -⟩ := vreg_iff.1 k3
  have hC0 : moC t x f sh = if trnC t.a.base f = 2 then 2 else if betB x 0 (pw t.a.base t.a.digits.length - 1) = false then 2 else if vplaces t < ((turnL sh t.a.base f).length : Int) ∨ pw t.b.base t.b.digits.length - 1 < x * f then 5 else 0 := by unfold moC; rw [if_neg (by rw [hv]; decide)]
  have KM := (fun W => l12Digits_any t.a.base f sh W)
  unfold TDRet at KM
  rcases trnC_cases t.a.base f with hc | ⟨hc, -, -, h0, h1⟩
  · have HB := Lib.hid (mo_code (t := t) (x := x) (f := f) (sh := sh) (c := 2) (by rw [hC0, if_pos hc]) (by decide))
    have HC := Lib.hid hc
    have KM := Lib.hid KM
    have KV := Lib.hid KV
    clear hv r1 r2 r3 hs k1 k2 k3 hc hC0 e1 e2 f1 f2 l1 p0 p1 hTC
    go_enter Try.func63, Try.ntmps63
    go_wp2_with fail
    refine Calls.kn (((Kn.nil w).al [.int .i64 t.a.base, .slice A1 t.a.digits.length c1, .int .i64 t.b.base, .slice A2 t.b.digits.length c2, .int .i64 t.s.base, .slice A3 t.s.digits.length c3, .int .i64 t.carry] 65).al [.int .i64 0, .slice none 0 0, .int .i64 0, .slice none 0 0, .int .i64 0, .slice none 0 0, .int .i64 0] 65) ?_; intro w1 hK0
    simp only [World.size_alloc] at hK0
    refine (KV.out _ hK0).mono ?_; rintro e w2 ⟨rfl, q, rfl⟩
    have hK1 := hK0.drewN q
    generalize w1.drewN q = w2 at hK1 ⊢
    clear hK0
    obtain ⟨a1, a2, a3, d1, d2, d3, -⟩ := hK1.cells
    go_wp2_with fail
    refine (KM.out _).mono ?_; rintro e w3 (⟨-, rfl, hw⟩ | ⟨hc, -⟩)
    rotate_left
    · rw [HC.out] at hc; cases hc
    have hK1 := hK1.keep hw
    clear hw a1 a2 a3 d1 d2 d3
    go_upto_region 4 with fail
    refine Code.wp.kn (hK1.al_ (.cells #[.int .i64 0, .slice none 0 0] 163)) ?_; intro w4 hK1
    obtain ⟨x1, x2, x3, -⟩ := hK1.cells
    go_wp2_with fail
    refine bodyPost.kn (((((((hK1.st 0 (.int .i64 0)).st 1 (.slice none 0 0)).st 2 (.int .i64 0)).st 3 (.slice none 0 0)).st 4 (.int .i64 0)).st 5 (.slice none 0 0)).st 6 (.int .i64 0)) ?_; intro w6 hK6
    clear x1 x2 x3
    obtain ⟨a1, a2, a3, -⟩ := hK6.cells
    refine bodyPost_ret (v := .tuple #[.agg #[.int .i64 0, .slice none 0 0, .int .i64 0, .slice none 0 0, .int .i64 0, .slice none 0 0, .int .i64 0], .int .i64 0, .int .i64 2]) (by simp [results, Try.results63, go_sem, a1]) rfl ?_
    unfold MORet
    rw [HB.out.1, HB.out.2.1, HB.out.2.2]
    exact MSRet.bad hK6.bare
  have hvp := vplaces_bd hv
  have hmo := pw_mono t.a.base b1 _ _ l1
  have pb := pw_pos t.b.base b3 t.b.digits.length
  have pa := pw_pos t.a.base b1 t.a.digits.length
  have pa2 : pw t.a.base t.a.digits.length ≤ 1000000000001 := by rw [e1] at hmo ⊢; omega
  have hp1 : powS t.a.base t.a.digits.length = pw t.a.base t.a.digits.length := by unfold powS; omega
  have hp2 : powS t.b.base t.b.digits.length = pw t.b.base t.b.digits.length := by unfold powS; omega
  have KN1 := (fun W (h : RegAt W ⟨w.heap.size, 0, none⟩ t.a.base A1 t.a.digits.length c1) => l12Room_any ⟨w.heap.size, 0, none⟩ t.a.base A1 t.a.digits.length c1 W h b1 b2 (by omega))
  rw [hp1] at KN1
  have KN2 := (fun W (h : RegAt W ⟨w.heap.size, 2, none⟩ t.b.base A2 t.b.digits.length c2) => l12Room_any ⟨w.heap.size, 2, none⟩ t.b.base A2 t.b.digits.length c2 W h b3 b4 (by omega))
  rw [hp2] at KN2
  have hC1 : moC t x f sh = if betB x 0 (pw t.a.base t.a.digits.length - 1) = false then 2 else if vplaces t < ((turnL sh t.a.base f).length : Int) ∨ pw t.b.base t.b.digits.length - 1 < x * f then 5 else 0 := by rw [hC0, if_neg (by rw [hc]; decide)]
  have KM := (fun W => (KM W).mono (R' := fun e w' => ∃ A c, e = .returned (.tuple #[.agg #[.int .i64 t.a.base, .slice A (turnL sh t.a.base f).length c], .int .i64 0]) ∧ Kn W [rowI A c (turnL sh t.a.base f)] w') (fun e w' h => h.elim (fun h => absurd (hc.symm.trans h.1) (by decide)) (fun h => h.2)))
  have hlp := mulP_ok (sh := sh) b1 b2 h0 h1
  obtain ⟨htl, htd⟩ := turnL_bd sh b1 b2 h0 h1
  have KB0 := (fun W => l00In_any x 0 (pw t.a.base t.a.digits.length - 1) W)
  rcases hx : betB x 0 (pw t.a.base t.a.digits.length - 1) with _ | _
  · rw [hx] at KB0
    have HB := Lib.hid (mo_code (t := t) (x := x) (f := f) (sh := sh) (c := 2) (by rw [hC1, if_pos hx]) (by decide))
    obtain ⟨ts, hts⟩ : ∃ l, turnL sh t.a.base f = l := ⟨_, rfl⟩
    obtain ⟨N1, hN1⟩ : ∃ N, pw t.a.base t.a.digits.length = N := ⟨_, rfl⟩
    rw [hN1] at KN1 KB0 pa pa2
    rw [hts] at KM
    have KB := Lib.hid KB0
    have KN1 := Lib.hid KN1
    have KM := Lib.hid KM
    have KV := Lib.hid KV
    clear hv r1 r2 r3 hs k1 k2 k3 hc hC0 e1 e2 f1 f2 l1 p0 p1 hC1 KN2 hlp htl htd hts hx hmo hp1 hp2 hvp hN1 hTC KB0
    go_enter Try.func63, Try.ntmps63
    go_wp2_with fail
    refine Calls.kn (((Kn.nil w).al [.int .i64 t.a.base, .slice A1 t.a.digits.length c1, .int .i64 t.b.base, .slice A2 t.b.digits.length c2, .int .i64 t.s.base, .slice A3 t.s.digits.length c3, .int .i64 t.carry] 65).al [.int .i64 0, .slice none 0 0, .int .i64 0, .slice none 0 0, .int .i64 0, .slice none 0 0, .int .i64 0] 65) ?_; intro w1 hK0
    simp only [World.size_alloc] at hK0
    refine (KV.out _ hK0).mono ?_; rintro e w2 ⟨rfl, q, rfl⟩
    have hK1 := hK0.drewN q
    generalize w1.drewN q = w2 at hK1 ⊢
    clear hK0
    obtain ⟨a1, a2, a3, d1, d2, d3, -⟩ := hK1.cells
    go_wp2_with fail
    refine (KM.out _).mono ?_; rintro e w3 ⟨TA, tc, rfl, hKm⟩
    have hK1 := hK1.keep hKm.below
    clear hKm a1 a2 a3 d1 d2 d3
    go_upto_region 4 with fail
    refine Code.wp.kn (hK1.al_ (.cells #[.int .i64 t.a.base, .slice TA ts.length tc] 163)) ?_; intro w4 hK1
    go_wp2_with fail
    have hq := hK1.drop.blkAt.1
    refine (KN1.out _ ⟨hq 0, hq 1⟩).mono ?_; rintro e w5 ⟨rfl, q2, rfl⟩
    have hK1 := hK1.drewN q2
    generalize w4.drewN q2 = w5 at hK1 ⊢
    clear hq
    go_wp2_with fail
    refine (KB.out _).mono ?_; rintro e w6 ⟨rfl, rfl⟩
    obtain ⟨x1, x2, x3, -⟩ := hK1.cells
    go_wp2_with fail
    refine bodyPost.kn (((((((hK1.st 0 (.int .i64 0)).st 1 (.slice none 0 0)).st 2 (.int .i64 0)).st 3 (.slice none 0 0)).st 4 (.int .i64 0)).st 5 (.slice none 0 0)).st 6 (.int .i64 0)) ?_; intro w6 hK6
    clear x1 x2 x3
    obtain ⟨a1, a2, a3, -⟩ := hK6.cells
    refine bodyPost_ret (v := .tuple #[.agg #[.int .i64 0, .slice none 0 0, .int .i64 0, .slice none 0 0, .int .i64 0, .slice none 0 0, .int .i64 0], .int .i64 0, .int .i64 2]) (by simp [results, Try.results63, go_sem, a1]) rfl ?_
    unfold MORet
    rw [HB.out.1, HB.out.2.1, HB.out.2.2]
    exact MSRet.bad hK6.bare
  rw [hx] at KB0
  have hx' := betB_iff.1 hx
  have hst := moStart_ok hv hx
  have hC2 : moC t x f sh = if vplaces t < ((turnL sh t.a.base f).length : Int) ∨ pw t.b.base t.b.digits.length - 1 < x * f then 5 else 0 := by rw [hC1, if_neg (by rw [hx]; decide)]
  have KP := (fun W (hW : Kn w [.blk (w.heap.size + 1) [.int .i64 0, .slice none 0 0, .int .i64 0, .slice none 0 0, .int .i64 0, .slice none 0 0, .int .i64 0] 65, .blk w.heap.size [.int .i64 t.a.base, .slice A1 t.a.digits.length c1, .int .i64 t.b.base, .slice A2 t.b.digits.length c2, .int .i64 t.s.base, .slice A3 t.s.digits.length c3, .int .i64 t.carry] 65] W) => l10Places_any ⟨w.heap.size, 0, none⟩ t W (hTC W hW).tri n2 n4 n6)
  have KC : ∀ W, W.cell? ⟨w.heap.size, 0, none⟩ = some (.int .i64 t.a.base) → W.cell? ⟨w.heap.size, 1, none⟩ = some (.slice A1 t.a.digits.length c1) → W.cell? ⟨w.heap.size, 3, none⟩ = some (.slice A2 t.b.digits.length c2) → W.cell? ⟨w.heap.size, 5, none⟩ = some (.slice A3 t.s.digits.length c3) → Calls Try.prog 121 #[.pointer (some ⟨w.heap.size, 0, none⟩), .int .i64 x] W fun e w' => ∃ E1 g1 E2 g2 E3 g3, e = .returned (.agg #[.int .i64 t.a.base, .slice E1 (digD t.a.base t.a.digits.length x).length g1, .int .i64 t.b.base, .slice E2 (digD t.b.base t.b.digits.length 0).length g2, .int .i64 t.s.base, .slice E3 (digD t.s.base t.s.digits.length 0).length g3, .int .i64 0]) ∧
      Kn W [rowI E3 g3 (digD t.s.base t.s.digits.length 0), rowI E2 g2 (digD t.b.base t.b.digits.length 0), rowI E1 g1 (digD t.a.base t.a.digits.length x)] w' := by
    intro W q1 q2 q3 q4
    have := l12Fresh_any w.heap.size t.a.base A1 A2 A3 t.a.digits.length t.b.digits.length t.s.digits.length c1 c2 c3 x W q1 q2 q3 q4 b1 b2 (by omega) (by omega) (by omega) (by omega) (by omega)
    rw [e2, ← e1]
    exact this
  have KR := (fun (LA : Option Addr) (lc : Nat) (g : Nat) (E1 : Option Addr) (g1 : Nat) (E2 : Option Addr) (g2 : Nat) (E3 : Option Addr) (g3 : Nat) W hT hq => l11Run_any (lc := lc) (LA := LA) (L := mulP (turnL sh t.a.base f)) (n := (mulP (turnL sh t.a.base f)).length) g (dvStart t 0 x) E1 E2 E3 g1 g2 g3 W hT hst hlp hq)
  unfold RunPS at KR
  have KT := (fun (g : Nat) (A : Option Addr) (c : Nat) W q2 hr => l12Turns_any g A c (turnL sh t.a.base f) W q2 hr (by omega) htd)
  have hdl := div_less (X := pw t.b.base t.b.digits.length - 1) (x := f) (y := x) (by omega)
  rw [Int.mul_comm f x] at hdl
  have hmf := (fun (s : RS) (b : Bool) h he hg => mo_fine (t := t) (x := x) (f := f) (sh := sh) (s := s) (b := b) h he hg)
  unfold dvStart at hmf KR
  obtain ⟨N1, hN1⟩ : ∃ N, pw t.a.base t.a.digits.length = N := ⟨_, rfl⟩
  obtain ⟨N2, hN2⟩ : ∃ N, pw t.b.base t.b.digits.length = N := ⟨_, rfl⟩
  obtain ⟨PL, hPL⟩ : ∃ N, (vplaces t) = N := ⟨_, rfl⟩
  obtain ⟨LL, hLL⟩ : ∃ l, mulP (turnL sh t.a.base f) = l := ⟨_, rfl⟩
  rw [hN1] at KN1 KB0 pa pa2 hx'
  rw [hN2] at KN2 pb f1 hdl hC2
  rw [hLL] at KR hmf KT
  rw [hPL] at KP hvp hC2
  obtain ⟨ts, hts⟩ : ∃ l, turnL sh t.a.base f = l := ⟨_, rfl⟩
  rw [hts] at KM KT hC2 htl
  obtain ⟨ds, hds⟩ : ∃ l, digD t.a.base t.a.digits.length x = l := ⟨_, rfl⟩
  obtain ⟨fs, hfs⟩ : ∃ l, digD t.s.base t.s.digits.length 0 = l := ⟨_, rfl⟩
  obtain ⟨zs, hzs⟩ : ∃ l, digD t.b.base t.b.digits.length 0 = l := ⟨_, rfl⟩
  rw [hds, hzs, hfs] at KR hmf
  rw [hds, hzs, hfs] at KC
  have hplb : 1 ≤ PL ∧ PL ≤ 16 := by omega
  have hdq : 0 < x → 0 ≤ (N2 - 1).tdiv x ∧ (N2 - 1).tdiv x ≤ N2 - 1 := fun h => by
    rw [Int.tdiv_eq_ediv_of_nonneg (by omega)]
    exact ⟨Int.ediv_nonneg (by omega) (by omega), Int.ediv_le_self _ (by omega)⟩
  obtain ⟨Q, hQ⟩ : ∃ q, (N2 - 1).tdiv x = q := ⟨_, rfl⟩
  rw [hQ] at hdq hdl
  have HX5 := Lib.hid (fun (h : PL < (ts.length : Int) ∨ N2 - 1 < x * f) => mo_code (t := t) (x := x) (f := f) (sh := sh) (c := 5) (by rw [hC2, if_pos h]) (by decide))
  have HX0 := Lib.hid (fun (h : ¬ (PL < (ts.length : Int) ∨ N2 - 1 < x * f)) => show moC t x f sh = 0 by rw [hC2, if_neg h])
  have HDL := Lib.hid hdl
  have HMF := Lib.hid hmf
  have KB := Lib.hid KB0
  have KN1 := Lib.hid KN1
  have KN2 := Lib.hid KN2
  have KM := Lib.hid KM
  have KV := Lib.hid KV
  have KP := Lib.hid KP
  have KC := Lib.hid KC
  have KR := Lib.hid KR
  have KT := Lib.hid KT
  clear hv r1 r2 r3 hs k1 k2 k3 hc hC0 e1 e2 f2 l1 p0 p1 hC1 hC2 hlp hLL hts hx hmo hp1 hp2 hvp hN1 hN2 hPL hst hds hfs hzs hdl hmf htd KB0 hTC
  go_enter Try.func63, Try.ntmps63
  go_wp2_with fail
  refine Calls.kn (((Kn.nil w).al [.int .i64 t.a.base, .slice A1 t.a.digits.length c1, .int .i64 t.b.base, .slice A2 t.b.digits.length c2, .int .i64 t.s.base, .slice A3 t.s.digits.length c3, .int .i64 t.carry] 65).al [.int .i64 0, .slice none 0 0, .int .i64 0, .slice none 0 0, .int .i64 0, .slice none 0 0, .int .i64 0] 65) ?_; intro w1 hK0
  simp only [World.size_alloc] at hK0
  refine (KV.out _ hK0).mono ?_; rintro e w2 ⟨rfl, q, rfl⟩
  have hK1 := hK0.drewN q
  generalize w1.drewN q = w2 at hK1 ⊢
  clear hK0
  obtain ⟨a1, a2, a3, d1, d2, d3, -⟩ := hK1.cells
  go_wp2_with fail
  refine (KM.out _).mono ?_; rintro e w3 ⟨TA, tc, rfl, hKm⟩
  have hK2 := hK1.join hKm
  clear hKm a1 a2 a3 d1 d2 d3 hK1
  go_upto_region 4 with fail
  refine Code.wp.kn (hK2.al [.int .i64 t.a.base, .slice TA ts.length tc] 163) ?_; intro w4 hK2
  have hK2 : Kn w [.blk w3.heap.size [.int .i64 t.a.base, .slice TA ts.length tc] 163, rowI TA tc ts, .blk (w.heap.size + 1) [.int .i64 0, .slice none 0 0, .int .i64 0, .slice none 0 0, .int .i64 0, .slice none 0 0, .int .i64 0] 65, .blk w.heap.size [.int .i64 t.a.base, .slice A1 t.a.digits.length c1, .int .i64 t.b.base, .slice A2 t.b.digits.length c2, .int .i64 t.s.base, .slice A3 t.s.digits.length c3, .int .i64 t.carry] 65] w4 := hK2
  go_wp2_with fail
  have hq := (hK2.front 3 rfl).blkAt.1
  refine (KN1.out _ ⟨hq 0, hq 1⟩).mono ?_; rintro e w5 ⟨rfl, q2, rfl⟩
  have hK2 : Kn w [.blk w3.heap.size [.int .i64 t.a.base, .slice TA ts.length tc] 163, rowI TA tc ts, .blk (w.heap.size + 1) [.int .i64 0, .slice none 0 0, .int .i64 0, .slice none 0 0, .int .i64 0, .slice none 0 0, .int .i64 0] 65, .blk w.heap.size [.int .i64 t.a.base, .slice A1 t.a.digits.length c1, .int .i64 t.b.base, .slice A2 t.b.digits.length c2, .int .i64 t.s.base, .slice A3 t.s.digits.length c3, .int .i64 t.carry] 65] (w4.drewN q2) := hK2.drewN q2
  generalize w4.drewN q2 = w5 at hK2 ⊢
  clear hq
  go_wp2_with fail
  refine (KB.out _).mono ?_; rintro e w6 ⟨rfl, rfl⟩
  go_wp2_with fail
  by_cases hA : PL < (ts.length : Int)
  · have HB := Lib.hid (HX5.out (.inl hA))
    have hA2 : decide (PL < (ts.length : Int)) = true := decide_eq_true hA
    have HG := Lib.hid (show w5.drew.cell? ⟨w3.heap.size, 1, none⟩ = some (.slice TA ts.length tc) from hK2.drew.cellIs 1 (.slice TA ts.length tc) rfl)
    refine wp_region_held_drew (S := (fun W => W.cell? ⟨w3.heap.size, 1, none⟩ = some (.slice TA ts.length tc))) (by kernel_rfl) ?_ (fun hHeld => ?_)
    · exact HG.out
    try dsimp only
    refine wpAnyH_take (i := 0) (v := ?_) rfl (by kernel_rfl) (by kernel_rfl) (by kernel_rfl) (fun _ _ _ h => h) (Or.inl ⟨by rfl, ?_⟩) hHeld ?_
    rotate_left
    · (intro w hSw; (try dsimp only at hSw); go_simp; try with_reducible rfl)
    try simp only [Act.put, List.setIfInBounds_toArray, List.set_cons_zero, List.set_cons_succ, List.getElem_toArray, List.getElem_cons_zero]
    refine wpAnyH_take (i := 1) (v := ?_) rfl (by kernel_rfl) (by kernel_rfl) (by kernel_rfl) (fun _ _ _ h => h) (Or.inl ⟨by rfl, ?_⟩) hHeld ?_
    rotate_left
    · (intro w hSw; (try dsimp only at hSw); go_simp; try with_reducible rfl)
    try simp only [Act.put, List.setIfInBounds_toArray, List.set_cons_zero, List.set_cons_succ, List.getElem_toArray, List.getElem_cons_succ, List.getElem_cons_zero]
    refine wpAnyH_take (i := 2) (v := ?_) rfl (by kernel_rfl) (by kernel_rfl) (by kernel_rfl) (fun _ _ _ h => h) (Or.inl ⟨by rfl, ?_⟩) hHeld ?_
    rotate_left
    · (intro w hSw; (try dsimp only at hSw); go_simp; try with_reducible rfl)
    try simp only [Act.put, List.setIfInBounds_toArray, List.set_cons_zero, List.set_cons_succ, List.getElem_toArray, List.getElem_cons_succ, List.getElem_cons_zero]
    refine wpAnyH_ready (rs := [3]) (by kernel_rfl) (by decide) (AllReadyH.cons (o := _) rfl (fun K hK => ?_) AllReadyH.nil)
    go_simp
    go_at_call 119
    (refine (KP.out _ (hK2.drew.sel [2, 3] 99 (by decide) (by decide))).mono ?_); rintro e w8 ⟨rfl, q8, rfl⟩
    have hK8 := hK2.drew.drewN q8
    generalize w5.drew.drewN q8 = w8 at hK8 ⊢
    have HG := Lib.hid (show w8.cell? ⟨w3.heap.size, 1, none⟩ = some (.slice TA ts.length tc) from hK8.cellIs 1 (.slice TA ts.length tc) rfl)
    refine hK.out _ _ HG.out (fun hHeld2 => ?_)
    clear hK K hHeld
    have hHeld := hHeld2
    clear hHeld2
    try simp only [Act.put, List.setIfInBounds_toArray]
    refine wpAnyH_take (i := 4) (v := .bool true) rfl (by kernel_rfl) (by kernel_rfl) (by kernel_rfl) (fun _ _ _ h => h) (Or.inl ⟨by rfl, ?_⟩) hHeld ?_
    · (intro w hSw; clear hSw; go_simp)
    try simp only [Act.put, List.setIfInBounds_toArray, List.set_cons_zero, List.set_cons_succ, List.getElem_toArray, List.getElem_cons_succ, List.getElem_cons_zero]
    refine wpAnyH_take (i := 5) (v := ?_) rfl (by kernel_rfl) (by kernel_rfl) (by kernel_rfl) (fun _ _ _ h => h) (Or.inl ⟨by rfl, ?_⟩) hHeld ?_
    rotate_left
    · (intro w hSw; (try dsimp only at hSw); go_simp; try with_reducible rfl)
    try simp only [Act.put, List.setIfInBounds_toArray, List.set_cons_zero, List.set_cons_succ, List.getElem_toArray, List.getElem_cons_succ, List.getElem_cons_zero]
    refine wpAnyH_take (i := 6) (v := undef) rfl (by kernel_rfl) (by kernel_rfl) (by kernel_rfl) (fun _ _ _ h => h) (Or.inr ⟨by rfl, rfl⟩) hHeld ?_
    try simp only [Act.put, List.setIfInBounds_toArray, List.set_cons_zero, List.set_cons_succ, List.getElem_toArray, List.getElem_cons_succ, List.getElem_cons_zero]
    refine wpAnyH_take (i := 7) (v := undef) rfl (by kernel_rfl) (by kernel_rfl) (by kernel_rfl) (fun _ _ _ h => h) (Or.inr ⟨by rfl, rfl⟩) hHeld ?_
    try simp only [Act.put, List.setIfInBounds_toArray, List.set_cons_zero, List.set_cons_succ, List.getElem_toArray, List.getElem_cons_succ, List.getElem_cons_zero]
    refine wpAnyH_take (i := 8) (v := undef) rfl (by kernel_rfl) (by kernel_rfl) (by kernel_rfl) (fun _ _ _ h => h) (Or.inr ⟨by rfl, rfl⟩) hHeld ?_
    try simp only [Act.put, List.setIfInBounds_toArray, List.set_cons_zero, List.set_cons_succ, List.getElem_toArray, List.getElem_cons_succ, List.getElem_cons_zero]
    refine wpAnyH_take (i := 9) (v := undef) rfl (by kernel_rfl) (by kernel_rfl) (by kernel_rfl) (fun _ _ _ h => h) (Or.inr ⟨by rfl, rfl⟩) hHeld ?_
    try simp only [Act.put, List.setIfInBounds_toArray, List.set_cons_zero, List.set_cons_succ, List.getElem_toArray, List.getElem_cons_succ, List.getElem_cons_zero]
    refine wpAnyH_take (i := 10) (v := undef) rfl (by kernel_rfl) (by kernel_rfl) (by kernel_rfl) (fun _ _ _ h => h) (Or.inr ⟨by rfl, rfl⟩) hHeld ?_
    try simp only [Act.put, List.setIfInBounds_toArray, List.set_cons_zero, List.set_cons_succ, List.getElem_toArray, List.getElem_cons_succ, List.getElem_cons_zero]
    refine wpAnyH_take (i := 11) (v := undef) rfl (by kernel_rfl) (by kernel_rfl) (by kernel_rfl) (fun _ _ _ h => h) (Or.inr ⟨by rfl, rfl⟩) hHeld ?_
    try simp only [Act.put, List.setIfInBounds_toArray, List.set_cons_zero, List.set_cons_succ, List.getElem_toArray, List.getElem_cons_succ, List.getElem_cons_zero]
    refine wpAnyH_take (i := 12) (v := undef) rfl (by kernel_rfl) (by kernel_rfl) (by kernel_rfl) (fun _ _ _ h => h) (Or.inr ⟨by rfl, rfl⟩) hHeld ?_
    try simp only [Act.put, List.setIfInBounds_toArray, List.set_cons_zero, List.set_cons_succ, List.getElem_toArray, List.getElem_cons_succ, List.getElem_cons_zero]
    refine wpAnyH_take (i := 13) (v := undef) rfl (by kernel_rfl) (by kernel_rfl) (by kernel_rfl) (fun _ _ _ h => h) (Or.inr ⟨by rfl, rfl⟩) hHeld ?_
    try simp only [Act.put, List.setIfInBounds_toArray, List.set_cons_zero, List.set_cons_succ, List.getElem_toArray, List.getElem_cons_succ, List.getElem_cons_zero]
    refine wpAnyH_take (i := 14) (v := undef) rfl (by kernel_rfl) (by kernel_rfl) (by kernel_rfl) (fun _ _ _ h => h) (Or.inr ⟨by rfl, rfl⟩) hHeld ?_
    try simp only [Act.put, List.setIfInBounds_toArray, List.set_cons_zero, List.set_cons_succ, List.getElem_toArray, List.getElem_cons_succ, List.getElem_cons_zero]
    refine wpAnyH_take (i := 15) (v := undef) rfl (by kernel_rfl) (by kernel_rfl) (by kernel_rfl) (fun _ _ _ h => h) (Or.inr ⟨by rfl, rfl⟩) hHeld ?_
    try simp only [Act.put, List.setIfInBounds_toArray, List.set_cons_zero, List.set_cons_succ, List.getElem_toArray, List.getElem_cons_succ, List.getElem_cons_zero]
    refine wpAnyH_take (i := 16) (v := undef) rfl (by kernel_rfl) (by kernel_rfl) (by kernel_rfl) (fun _ _ _ h => h) (Or.inr ⟨by rfl, rfl⟩) hHeld ?_
    try simp only [Act.put, List.setIfInBounds_toArray, List.set_cons_zero, List.set_cons_succ, List.getElem_toArray, List.getElem_cons_succ, List.getElem_cons_zero]
    refine wpAnyH_take (i := 17) (v := ?_) rfl (by kernel_rfl) (by kernel_rfl) (by kernel_rfl) (fun _ _ _ h => h) (Or.inl ⟨by rfl, ?_⟩) hHeld ?_
    rotate_left
    · (intro w hSw; (try dsimp only at hSw); go_simp; try with_reducible rfl)
    try simp only [Act.put, List.setIfInBounds_toArray, List.set_cons_zero, List.set_cons_succ, List.getElem_toArray, List.getElem_cons_succ, List.getElem_cons_zero]
    refine wpAnyH_done (by kernel_rfl) ?_ _
    have hK1 := hK8.sel [2, 3] 99 (by decide) (by decide)
    obtain ⟨x1, x2, x3, -⟩ := hK1.cells
    go_wp2_with fail
    refine bodyPost.kn (((((((hK1.st 0 (.int .i64 0)).st 1 (.slice none 0 0)).st 2 (.int .i64 0)).st 3 (.slice none 0 0)).st 4 (.int .i64 0)).st 5 (.slice none 0 0)).st 6 (.int .i64 0)) ?_; intro w6 hK6
    clear x1 x2 x3
    obtain ⟨a1, a2, a3, -⟩ := hK6.cells
    refine bodyPost_ret (v := .tuple #[.agg #[.int .i64 0, .slice none 0 0, .int .i64 0, .slice none 0 0, .int .i64 0, .slice none 0 0, .int .i64 0], .int .i64 0, .int .i64 5]) (by simp [results, Try.results63, go_sem, a1]) rfl ?_
    unfold MORet
    rw [HB.out.1, HB.out.2.1, HB.out.2.2]
    exact MSRet.bad hK6.bare
  by_cases hx0 : 0 < x
  · have hdq0 := hdq hx0
    have wq : IntKind.i64.wrap Q = Q := wrapI64 (by omega)
    have wq2 : IntKind.i64.wrap ((N2 - 1).tdiv x) = Q := by rw [hQ]; exact wq
    have wn : IntKind.i64.wrap (N2 - 1) = N2 - 1 := wrapI64 (by omega)
    have nf1 : x ≠ 0 := by omega
    have nf2 : (x == 0) = false := by simp; omega
    have hA2 : decide (PL < (ts.length : Int)) = false := decide_eq_false hA
    by_cases hB : Q < f
    · have HB := Lib.hid (HX5.out (.inr ((HDL.out hx0).1 hB)))
      have hB2 : decide (Q < f) = true := decide_eq_true hB
      have HG := Lib.hid (show w5.drew.cell? ⟨w3.heap.size, 1, none⟩ = some (.slice TA ts.length tc) from hK2.drew.cellIs 1 (.slice TA ts.length tc) rfl)
      refine wp_region_held_drew (S := (fun W => W.cell? ⟨w3.heap.size, 1, none⟩ = some (.slice TA ts.length tc))) (by kernel_rfl) ?_ (fun hHeld => ?_)
      · exact HG.out
      try dsimp only
      refine wpAnyH_take (i := 0) (v := ?_) rfl (by kernel_rfl) (by kernel_rfl) (by kernel_rfl) (fun _ _ _ h => h) (Or.inl ⟨by rfl, ?_⟩) hHeld ?_
      rotate_left
      · (intro w hSw; (try dsimp only at hSw); go_simp; try with_reducible rfl)
      try simp only [Act.put, List.setIfInBounds_toArray, List.set_cons_zero, List.set_cons_succ, List.getElem_toArray, List.getElem_cons_zero]
      refine wpAnyH_take (i := 1) (v := ?_) rfl (by kernel_rfl) (by kernel_rfl) (by kernel_rfl) (fun _ _ _ h => h) (Or.inl ⟨by rfl, ?_⟩) hHeld ?_
      rotate_left
      · (intro w hSw; (try dsimp only at hSw); go_simp; try with_reducible rfl)
      try simp only [Act.put, List.setIfInBounds_toArray, List.set_cons_zero, List.set_cons_succ, List.getElem_toArray, List.getElem_cons_succ, List.getElem_cons_zero]
      refine wpAnyH_take (i := 2) (v := ?_) rfl (by kernel_rfl) (by kernel_rfl) (by kernel_rfl) (fun _ _ _ h => h) (Or.inl ⟨by rfl, ?_⟩) hHeld ?_
      rotate_left
      · (intro w hSw; (try dsimp only at hSw); go_simp; try with_reducible rfl)
      try simp only [Act.put, List.setIfInBounds_toArray, List.set_cons_zero, List.set_cons_succ, List.getElem_toArray, List.getElem_cons_succ, List.getElem_cons_zero]
      refine wpAnyH_ready (rs := [3]) (by kernel_rfl) (by decide) (AllReadyH.cons (o := _) rfl (fun K hK => ?_) AllReadyH.nil)
      go_simp
      go_at_call 119
      (refine (KP.out _ (hK2.drew.sel [2, 3] 99 (by decide) (by decide))).mono ?_); rintro e w8 ⟨rfl, q8, rfl⟩
      have hK8 := hK2.drew.drewN q8
      generalize w5.drew.drewN q8 = w8 at hK8 ⊢
      have HG := Lib.hid (show w8.cell? ⟨w3.heap.size, 1, none⟩ = some (.slice TA ts.length tc) from hK8.cellIs 1 (.slice TA ts.length tc) rfl)
      refine hK.out _ _ HG.out (fun hHeld2 => ?_)
      clear hK K hHeld
      have hHeld := hHeld2
      clear hHeld2
      try simp only [Act.put, List.setIfInBounds_toArray]
      refine wpAnyH_take (i := 4) (v := .bool false) rfl (by kernel_rfl) (by kernel_rfl) (by kernel_rfl) (fun _ _ _ h => h) (Or.inl ⟨by rfl, ?_⟩) hHeld ?_
      · (intro w hSw; clear hSw; go_simp)
      try simp only [Act.put, List.setIfInBounds_toArray, List.set_cons_zero, List.set_cons_succ, List.getElem_toArray, List.getElem_cons_succ, List.getElem_cons_zero]
      refine wpAnyH_take (i := 5) (v := ?_) rfl (by kernel_rfl) (by kernel_rfl) (by kernel_rfl) (fun _ _ _ h => h) (Or.inl ⟨by rfl, ?_⟩) hHeld ?_
      rotate_left
      · (intro w hSw; (try dsimp only at hSw); go_simp; try with_reducible rfl)
      try simp only [Act.put, List.setIfInBounds_toArray, List.set_cons_zero, List.set_cons_succ, List.getElem_toArray, List.getElem_cons_succ, List.getElem_cons_zero]
      refine wpAnyH_take (i := 6) (v := ?_) rfl (by kernel_rfl) (by kernel_rfl) (by kernel_rfl) (fun _ _ _ h => h) (Or.inl ⟨by rfl, ?_⟩) hHeld ?_
      rotate_left
      · (intro w hSw; (try dsimp only at hSw); go_simp; try with_reducible rfl)
      try simp only [Act.put, List.setIfInBounds_toArray, List.set_cons_zero, List.set_cons_succ, List.getElem_toArray, List.getElem_cons_succ, List.getElem_cons_zero]
      refine wpAnyH_take (i := 7) (v := ?_) rfl (by kernel_rfl) (by kernel_rfl) (by kernel_rfl) (fun _ _ _ h => h) (Or.inl ⟨by rfl, ?_⟩) hHeld ?_
      rotate_left
      · (intro w hSw; (try dsimp only at hSw); go_simp; try with_reducible rfl)
      try simp only [Act.put, List.setIfInBounds_toArray, List.set_cons_zero, List.set_cons_succ, List.getElem_toArray, List.getElem_cons_succ, List.getElem_cons_zero]
      refine wpAnyH_take (i := 8) (v := ?_) rfl (by kernel_rfl) (by kernel_rfl) (by kernel_rfl) (fun _ _ _ h => h) (Or.inl ⟨by rfl, ?_⟩) hHeld ?_
      rotate_left
      · (intro w hSw; (try dsimp only at hSw); go_simp; try with_reducible rfl)
      try simp only [Act.put, List.setIfInBounds_toArray, List.set_cons_zero, List.set_cons_succ, List.getElem_toArray, List.getElem_cons_succ, List.getElem_cons_zero]
      refine wpAnyH_take (i := 9) (v := ?_) rfl (by kernel_rfl) (by kernel_rfl) (by kernel_rfl) (fun _ _ _ h => h) (Or.inl ⟨by rfl, ?_⟩) hHeld ?_
      rotate_left
      · (intro w hSw; (try dsimp only at hSw); go_simp; try with_reducible rfl)
      try simp only [Act.put, List.setIfInBounds_toArray, List.set_cons_zero, List.set_cons_succ, List.getElem_toArray, List.getElem_cons_succ, List.getElem_cons_zero]
      refine wpAnyH_take (i := 10) (v := ?_) rfl (by kernel_rfl) (by kernel_rfl) (by kernel_rfl) (fun _ _ _ h => h) (Or.inl ⟨by rfl, ?_⟩) hHeld ?_
      rotate_left
      · (intro w hSw; (try dsimp only at hSw); go_simp; try with_reducible rfl)
      try simp only [Act.put, List.setIfInBounds_toArray, List.set_cons_zero, List.set_cons_succ, List.getElem_toArray, List.getElem_cons_succ, List.getElem_cons_zero]
      refine wpAnyH_take (i := 13) (v := ?_) rfl (by kernel_rfl) (by kernel_rfl) (by kernel_rfl) (fun _ _ _ h => h) (Or.inl ⟨by rfl, ?_⟩) hHeld ?_
      rotate_left
      · (intro w hSw; (try dsimp only at hSw); go_simp; try with_reducible rfl)
      try simp only [Act.put, List.setIfInBounds_toArray, List.set_cons_zero, List.set_cons_succ, List.getElem_toArray, List.getElem_cons_succ, List.getElem_cons_zero]
      refine wpAnyH_ready (rs := [11]) (by kernel_rfl) (by decide) (AllReadyH.cons (o := _) rfl (fun K hK => ?_) AllReadyH.nil)
      go_simp
      go_at_call 118
      have hq := (hK8.front 3 rfl).blkAt.1
      (refine (KN2.out _ ⟨hq 2, hq 3⟩).mono ?_); rintro e w9 ⟨rfl, q9, rfl⟩
      have hK9 := hK8.drewN q9
      generalize w8.drewN q9 = w9 at hK9 ⊢
      clear hq
      have HG := Lib.hid (show w9.cell? ⟨w3.heap.size, 1, none⟩ = some (.slice TA ts.length tc) from hK9.cellIs 1 (.slice TA ts.length tc) rfl)
      refine hK.out _ _ HG.out (fun hHeld2 => ?_)
      clear hK K hHeld
      have hHeld := hHeld2
      clear hHeld2
      try simp only [Act.put, List.setIfInBounds_toArray]
      refine wpAnyH_take (i := 12) (v := ?_) rfl (by kernel_rfl) (by kernel_rfl) (by kernel_rfl) (fun _ _ _ h => h) (Or.inl ⟨by rfl, ?_⟩) hHeld ?_
      rotate_left
      · (intro w hSw; (try dsimp only at hSw); go_simp; try with_reducible rfl)
      try simp only [Act.put, List.setIfInBounds_toArray, List.set_cons_zero, List.set_cons_succ, List.getElem_toArray, List.getElem_cons_succ, List.getElem_cons_zero]
      refine wpAnyH_take (i := 14) (v := ?_) rfl (by kernel_rfl) (by kernel_rfl) (by kernel_rfl) (fun _ _ _ h => h) (Or.inl ⟨by rfl, ?_⟩) hHeld ?_
      rotate_left
      · (intro w hSw; (try dsimp only at hSw); go_simp; try with_reducible rfl)
      try simp only [Act.put, List.setIfInBounds_toArray, List.set_cons_zero, List.set_cons_succ, List.getElem_toArray, List.getElem_cons_succ, List.getElem_cons_zero]
      refine wpAnyH_take (i := 15) (v := .bool true) rfl (by kernel_rfl) (by kernel_rfl) (by kernel_rfl) (fun _ _ _ h => h) (Or.inl ⟨by rfl, ?_⟩) hHeld ?_
      · (intro w hSw; clear hSw; go_simp)
      try simp only [Act.put, List.setIfInBounds_toArray, List.set_cons_zero, List.set_cons_succ, List.getElem_toArray, List.getElem_cons_succ, List.getElem_cons_zero]
      refine wpAnyH_take (i := 16) (v := ?_) rfl (by kernel_rfl) (by kernel_rfl) (by kernel_rfl) (fun _ _ _ h => h) (Or.inl ⟨by rfl, ?_⟩) hHeld ?_
      rotate_left
      · (intro w hSw; (try dsimp only at hSw); go_simp; try with_reducible rfl)
      try simp only [Act.put, List.setIfInBounds_toArray, List.set_cons_zero, List.set_cons_succ, List.getElem_toArray, List.getElem_cons_succ, List.getElem_cons_zero]
      refine wpAnyH_take (i := 17) (v := ?_) rfl (by kernel_rfl) (by kernel_rfl) (by kernel_rfl) (fun _ _ _ h => h) (Or.inl ⟨by rfl, ?_⟩) hHeld ?_
      rotate_left
      · (intro w hSw; (try dsimp only at hSw); go_simp; try with_reducible rfl)
      try simp only [Act.put, List.setIfInBounds_toArray, List.set_cons_zero, List.set_cons_succ, List.getElem_toArray, List.getElem_cons_succ, List.getElem_cons_zero]
      refine wpAnyH_done (by kernel_rfl) ?_ _
      have hK1 := hK9.sel [2, 3] 99 (by decide) (by decide)
      obtain ⟨x1, x2, x3, -⟩ := hK1.cells
      go_wp2_with fail
      refine bodyPost.kn (((((((hK1.st 0 (.int .i64 0)).st 1 (.slice none 0 0)).st 2 (.int .i64 0)).st 3 (.slice none 0 0)).st 4 (.int .i64 0)).st 5 (.slice none 0 0)).st 6 (.int .i64 0)) ?_; intro w6 hK6
      clear x1 x2 x3
      obtain ⟨a1, a2, a3, -⟩ := hK6.cells
      refine bodyPost_ret (v := .tuple #[.agg #[.int .i64 0, .slice none 0 0, .int .i64 0, .slice none 0 0, .int .i64 0, .slice none 0 0, .int .i64 0], .int .i64 0, .int .i64 5]) (by simp [results, Try.results63, go_sem, a1]) rfl ?_
      unfold MORet
      rw [HB.out.1, HB.out.2.1, HB.out.2.2]
      exact MSRet.bad hK6.bare
    · have HZ := Lib.hid (HX0.out (fun h => h.elim hA (fun h => hB ((HDL.out hx0).2 h))))
      have hB2 : decide (Q < f) = false := decide_eq_false hB
      have HG := Lib.hid (show w5.drew.cell? ⟨w3.heap.size, 1, none⟩ = some (.slice TA ts.length tc) from hK2.drew.cellIs 1 (.slice TA ts.length tc) rfl)
      refine wp_region_held_drew (S := (fun W => W.cell? ⟨w3.heap.size, 1, none⟩ = some (.slice TA ts.length tc))) (by kernel_rfl) ?_ (fun hHeld => ?_)
      · exact HG.out
      try dsimp only
      refine wpAnyH_take (i := 0) (v := ?_) rfl (by kernel_rfl) (by kernel_rfl) (by kernel_rfl) (fun _ _ _ h => h) (Or.inl ⟨by rfl, ?_⟩) hHeld ?_
      rotate_left
      · (intro w hSw; (try dsimp only at hSw); go_simp; try with_reducible rfl)
      try simp only [Act.put, List.setIfInBounds_toArray, List.set_cons_zero, List.set_cons_succ, List.getElem_toArray, List.getElem_cons_zero]
      refine wpAnyH_take (i := 1) (v := ?_) rfl (by kernel_rfl) (by kernel_rfl) (by kernel_rfl) (fun _ _ _ h => h) (Or.inl ⟨by rfl, ?_⟩) hHeld ?_
      rotate_left
      · (intro w hSw; (try dsimp only at hSw); go_simp; try with_reducible rfl)
      try simp only [Act.put, List.setIfInBounds_toArray, List.set_cons_zero, List.set_cons_succ, List.getElem_toArray, List.getElem_cons_succ, List.getElem_cons_zero]
      refine wpAnyH_take (i := 2) (v := ?_) rfl (by kernel_rfl) (by kernel_rfl) (by kernel_rfl) (fun _ _ _ h => h) (Or.inl ⟨by rfl, ?_⟩) hHeld ?_
      rotate_left
      · (intro w hSw; (try dsimp only at hSw); go_simp; try with_reducible rfl)
      try simp only [Act.put, List.setIfInBounds_toArray, List.set_cons_zero, List.set_cons_succ, List.getElem_toArray, List.getElem_cons_succ, List.getElem_cons_zero]
      refine wpAnyH_ready (rs := [3]) (by kernel_rfl) (by decide) (AllReadyH.cons (o := _) rfl (fun K hK => ?_) AllReadyH.nil)
      go_simp
      go_at_call 119
      (refine (KP.out _ (hK2.drew.sel [2, 3] 99 (by decide) (by decide))).mono ?_); rintro e w8 ⟨rfl, q8, rfl⟩
      have hK8 := hK2.drew.drewN q8
      generalize w5.drew.drewN q8 = w8 at hK8 ⊢
      have HG := Lib.hid (show w8.cell? ⟨w3.heap.size, 1, none⟩ = some (.slice TA ts.length tc) from hK8.cellIs 1 (.slice TA ts.length tc) rfl)
      refine hK.out _ _ HG.out (fun hHeld2 => ?_)
      clear hK K hHeld
      have hHeld := hHeld2
      clear hHeld2
      try simp only [Act.put, List.setIfInBounds_toArray]
      refine wpAnyH_take (i := 4) (v := .bool false) rfl (by kernel_rfl) (by kernel_rfl) (by kernel_rfl) (fun _ _ _ h => h) (Or.inl ⟨by rfl, ?_⟩) hHeld ?_
      · (intro w hSw; clear hSw; go_simp)
      try simp only [Act.put, List.setIfInBounds_toArray, List.set_cons_zero, List.set_cons_succ, List.getElem_toArray, List.getElem_cons_succ, List.getElem_cons_zero]
      refine wpAnyH_take (i := 5) (v := ?_) rfl (by kernel_rfl) (by kernel_rfl) (by kernel_rfl) (fun _ _ _ h => h) (Or.inl ⟨by rfl, ?_⟩) hHeld ?_
      rotate_left
      · (intro w hSw; (try dsimp only at hSw); go_simp; try with_reducible rfl)
      try simp only [Act.put, List.setIfInBounds_toArray, List.set_cons_zero, List.set_cons_succ, List.getElem_toArray, List.getElem_cons_succ, List.getElem_cons_zero]
      refine wpAnyH_take (i := 6) (v := ?_) rfl (by kernel_rfl) (by kernel_rfl) (by kernel_rfl) (fun _ _ _ h => h) (Or.inl ⟨by rfl, ?_⟩) hHeld ?_
      rotate_left
      · (intro w hSw; (try dsimp only at hSw); go_simp; try with_reducible rfl)
      try simp only [Act.put, List.setIfInBounds_toArray, List.set_cons_zero, List.set_cons_succ, List.getElem_toArray, List.getElem_cons_succ, List.getElem_cons_zero]
      refine wpAnyH_take (i := 7) (v := ?_) rfl (by kernel_rfl) (by kernel_rfl) (by kernel_rfl) (fun _ _ _ h => h) (Or.inl ⟨by rfl, ?_⟩) hHeld ?_
      rotate_left
      · (intro w hSw; (try dsimp only at hSw); go_simp; try with_reducible rfl)
      try simp only [Act.put, List.setIfInBounds_toArray, List.set_cons_zero, List.set_cons_succ, List.getElem_toArray, List.getElem_cons_succ, List.getElem_cons_zero]
      refine wpAnyH_take (i := 8) (v := ?_) rfl (by kernel_rfl) (by kernel_rfl) (by kernel_rfl) (fun _ _ _ h => h) (Or.inl ⟨by rfl, ?_⟩) hHeld ?_
      rotate_left
      · (intro w hSw; (try dsimp only at hSw); go_simp; try with_reducible rfl)
      try simp only [Act.put, List.setIfInBounds_toArray, List.set_cons_zero, List.set_cons_succ, List.getElem_toArray, List.getElem_cons_succ, List.getElem_cons_zero]
      refine wpAnyH_take (i := 9) (v := ?_) rfl (by kernel_rfl) (by kernel_rfl) (by kernel_rfl) (fun _ _ _ h => h) (Or.inl ⟨by rfl, ?_⟩) hHeld ?_
      rotate_left
      · (intro w hSw; (try dsimp only at hSw); go_simp; try with_reducible rfl)
      try simp only [Act.put, List.setIfInBounds_toArray, List.set_cons_zero, List.set_cons_succ, List.getElem_toArray, List.getElem_cons_succ, List.getElem_cons_zero]
      refine wpAnyH_take (i := 10) (v := ?_) rfl (by kernel_rfl) (by kernel_rfl) (by kernel_rfl) (fun _ _ _ h => h) (Or.inl ⟨by rfl, ?_⟩) hHeld ?_
      rotate_left
      · (intro w hSw; (try dsimp only at hSw); go_simp; try with_reducible rfl)
      try simp only [Act.put, List.setIfInBounds_toArray, List.set_cons_zero, List.set_cons_succ, List.getElem_toArray, List.getElem_cons_succ, List.getElem_cons_zero]
      refine wpAnyH_take (i := 13) (v := ?_) rfl (by kernel_rfl) (by kernel_rfl) (by kernel_rfl) (fun _ _ _ h => h) (Or.inl ⟨by rfl, ?_⟩) hHeld ?_
      rotate_left
      · (intro w hSw; (try dsimp only at hSw); go_simp; try with_reducible rfl)
      try simp only [Act.put, List.setIfInBounds_toArray, List.set_cons_zero, List.set_cons_succ, List.getElem_toArray, List.getElem_cons_succ, List.getElem_cons_zero]
      refine wpAnyH_ready (rs := [11]) (by kernel_rfl) (by decide) (AllReadyH.cons (o := _) rfl (fun K hK => ?_) AllReadyH.nil)
      go_simp
      go_at_call 118
      have hq := (hK8.front 3 rfl).blkAt.1
      (refine (KN2.out _ ⟨hq 2, hq 3⟩).mono ?_); rintro e w9 ⟨rfl, q9, rfl⟩
      have hK9 := hK8.drewN q9
      generalize w8.drewN q9 = w9 at hK9 ⊢
      clear hq
      have HG := Lib.hid (show w9.cell? ⟨w3.heap.size, 1, none⟩ = some (.slice TA ts.length tc) from hK9.cellIs 1 (.slice TA ts.length tc) rfl)
      refine hK.out _ _ HG.out (fun hHeld2 => ?_)
      clear hK K hHeld
      have hHeld := hHeld2
      clear hHeld2
      try simp only [Act.put, List.setIfInBounds_toArray]
      refine wpAnyH_take (i := 12) (v := ?_) rfl (by kernel_rfl) (by kernel_rfl) (by kernel_rfl) (fun _ _ _ h => h) (Or.inl ⟨by rfl, ?_⟩) hHeld ?_
      rotate_left
      · (intro w hSw; (try dsimp only at hSw); go_simp; try with_reducible rfl)
      try simp only [Act.put, List.setIfInBounds_toArray, List.set_cons_zero, List.set_cons_succ, List.getElem_toArray, List.getElem_cons_succ, List.getElem_cons_zero]
      refine wpAnyH_take (i := 14) (v := ?_) rfl (by kernel_rfl) (by kernel_rfl) (by kernel_rfl) (fun _ _ _ h => h) (Or.inl ⟨by rfl, ?_⟩) hHeld ?_
      rotate_left
      · (intro w hSw; (try dsimp only at hSw); go_simp; try with_reducible rfl)
      try simp only [Act.put, List.setIfInBounds_toArray, List.set_cons_zero, List.set_cons_succ, List.getElem_toArray, List.getElem_cons_succ, List.getElem_cons_zero]
      refine wpAnyH_take (i := 15) (v := .bool false) rfl (by kernel_rfl) (by kernel_rfl) (by kernel_rfl) (fun _ _ _ h => h) (Or.inl ⟨by rfl, ?_⟩) hHeld ?_
      · (intro w hSw; clear hSw; go_simp)
      try simp only [Act.put, List.setIfInBounds_toArray, List.set_cons_zero, List.set_cons_succ, List.getElem_toArray, List.getElem_cons_succ, List.getElem_cons_zero]
      refine wpAnyH_take (i := 16) (v := ?_) rfl (by kernel_rfl) (by kernel_rfl) (by kernel_rfl) (fun _ _ _ h => h) (Or.inl ⟨by rfl, ?_⟩) hHeld ?_
      rotate_left
      · (intro w hSw; (try dsimp only at hSw); go_simp; try with_reducible rfl)
      try simp only [Act.put, List.setIfInBounds_toArray, List.set_cons_zero, List.set_cons_succ, List.getElem_toArray, List.getElem_cons_succ, List.getElem_cons_zero]
      refine wpAnyH_take (i := 17) (v := ?_) rfl (by kernel_rfl) (by kernel_rfl) (by kernel_rfl) (fun _ _ _ h => h) (Or.inl ⟨by rfl, ?_⟩) hHeld ?_
      rotate_left
      · (intro w hSw; (try dsimp only at hSw); go_simp; try with_reducible rfl)
      try simp only [Act.put, List.setIfInBounds_toArray, List.set_cons_zero, List.set_cons_succ, List.getElem_toArray, List.getElem_cons_succ, List.getElem_cons_zero]
      refine wpAnyH_done (by kernel_rfl) ?_ _
      have hK2 := hK9
      clear hK9 hK8 HG hHeld
      go_wp2_with fail
      have hq := (hK2.front 3 rfl).blkAt.1
      refine (KC.out _ (hq 0) (hq 1) (hq 3) (hq 5)).mono ?_; rintro e w11 ⟨G1, h1, G2, h2, G3, h3, rfl, hKc⟩
      have hK3 := hK2.join hKc
      clear hK2 hKc hq
      go_wp2_with fail
      refine Calls.kn (hK3.al [.int .i64 t.a.base, .slice G1 ds.length h1, .int .i64 t.b.base, .slice G2 zs.length h2, .int .i64 t.s.base, .slice G3 fs.length h3, .int .i64 0] 65) ?_; intro w12 hK4
      clear hK3
      refine (KT.out _ _ _ _ (hK4.front 4 rfl).box2at (Kn.riv (hK4.sel [5] 99 (by decide) (by decide)))).mono ?_; rintro e w13 ⟨PA, pc, rfl, hKt⟩
      have hK5 := hK4.join hKt
      clear hK4 hKt
      go_wp2_with fail
      refine (KR.out PA pc _ G1 h1 G2 h2 G3 h3 _ ⟨box7at hK5 1 rfl, Kn.riv (hK5.sel [4] 99 (by decide) (by decide)), Kn.riv (hK5.sel [3] 99 (by decide) (by decide)), Kn.riv (hK5.sel [2] 99 (by decide) (by decide))⟩ (Kn.rlIns hK5).2).mono ?_; rintro e w14 ⟨g, s, b', b2, rfl, he, ⟨SA, sc, B1, d1, B2, d2, B3, d3, hKr⟩, hg⟩
      have HB := Lib.hid (HMF.out s b' HZ.out he hg)
      have hK6 := (hK5.join hKr).sel [0, 1, 2, 3, 4, 12] 99 (by decide) (by decide)
      clear hK5 hKr he hg
      obtain ⟨a1, a2, a3, q1, q2, q3, -⟩ := hK6.cells
      go_wp2_with fail
      have HG := Lib.hid (And.intro (hK6.drew.cellIs 8 (.slice SA s.tr.length sc) rfl) (box7' hK6.drew))
      have hK7 := (((((((hK6.front 5 rfl).st 0 (.int .i64 s.m.a.base)).st 1 (.slice B1 s.m.a.digits.length d1)).st 2 (.int .i64 s.m.b.base)).st 3 (.slice B2 s.m.b.digits.length d2)).st 4 (.int .i64 s.m.s.base)).st 5 (.slice B3 s.m.s.digits.length d3)).st 6 (.int .i64 s.m.carry)
      have HS := Lib.hid (And.intro (hK7.drew.drop.cellIs 8 (.slice SA s.tr.length sc) rfl) (box7' hK7.drew.drop))
      go_region_held3 (fun W => W.cell? ⟨g, 8, none⟩ = some (.slice SA s.tr.length sc) ∧ W.cell? ⟨g, 0, none⟩ = some (.int .i64 s.m.a.base) ∧ W.cell? ⟨g, 1, none⟩ = some (.slice B1 s.m.a.digits.length d1) ∧ W.cell? ⟨g, 2, none⟩ = some (.int .i64 s.m.b.base) ∧ W.cell? ⟨g, 3, none⟩ = some (.slice B2 s.m.b.digits.length d2) ∧ W.cell? ⟨g, 4, none⟩ = some (.int .i64 s.m.s.base) ∧ W.cell? ⟨g, 5, none⟩ = some (.slice B3 s.m.s.digits.length d3) ∧ W.cell? ⟨g, 6, none⟩ = some (.int .i64 s.m.carry)) (first | with_reducible exact HG.out | with_reducible exact HS.out) (fail)
      all_goals
        go_wp2_with fail
        refine bodyPost.kn hK7.drew ?_; intro w6 hK6
        clear a1 a2 a3 q1 q2 q3
        obtain ⟨a1, a2, a3, -⟩ := hK6.cells
        refine bodyPost_ret (v := .tuple #[.agg #[.int .i64 s.m.a.base, .slice B1 s.m.a.digits.length d1, .int .i64 s.m.b.base, .slice B2 s.m.b.digits.length d2, .int .i64 s.m.s.base, .slice B3 s.m.s.digits.length d3, .int .i64 s.m.carry], .int .i64 s.tr.length, .int .i64 0]) (by simp [results, Try.results63, go_sem, a1]) rfl ?_
        unfold MORet
        rw [HB.out.1, HB.out.2.1, HB.out.2.2]
        exact ⟨B1, d1, B2, d2, B3, d3, rfl, hK6.sel [2, 3, 4] 99 (by decide) (by decide)⟩
  · have hz : ¬ N2 - 1 < x * f := by
      obtain rfl : x = 0 := by omega
      rw [Int.zero_mul]
      omega
    have HZ := Lib.hid (HX0.out (fun h => h.elim hA hz))
    have hA2 : decide (PL < (ts.length : Int)) = false := decide_eq_false hA
    have hx2 : decide (0 < x) = false := decide_eq_false hx0
    clear hz
    have HG := Lib.hid (show w5.drew.cell? ⟨w3.heap.size, 1, none⟩ = some (.slice TA ts.length tc) from hK2.drew.cellIs 1 (.slice TA ts.length tc) rfl)
    refine wp_region_held_drew (S := (fun W => W.cell? ⟨w3.heap.size, 1, none⟩ = some (.slice TA ts.length tc))) (by kernel_rfl) ?_ (fun hHeld => ?_)
    · exact HG.out
    try dsimp only
    refine wpAnyH_take (i := 0) (v := ?_) rfl (by kernel_rfl) (by kernel_rfl) (by kernel_rfl) (fun _ _ _ h => h) (Or.inl ⟨by rfl, ?_⟩) hHeld ?_
    rotate_left
    · (intro w hSw; (try dsimp only at hSw); go_simp; try with_reducible rfl)
    try simp only [Act.put, List.setIfInBounds_toArray, List.set_cons_zero, List.set_cons_succ, List.getElem_toArray, List.getElem_cons_zero]
    refine wpAnyH_take (i := 1) (v := ?_) rfl (by kernel_rfl) (by kernel_rfl) (by kernel_rfl) (fun _ _ _ h => h) (Or.inl ⟨by rfl, ?_⟩) hHeld ?_
    rotate_left
    · (intro w hSw; (try dsimp only at hSw); go_simp; try with_reducible rfl)
    try simp only [Act.put, List.setIfInBounds_toArray, List.set_cons_zero, List.set_cons_succ, List.getElem_toArray, List.getElem_cons_succ, List.getElem_cons_zero]
    refine wpAnyH_take (i := 2) (v := ?_) rfl (by kernel_rfl) (by kernel_rfl) (by kernel_rfl) (fun _ _ _ h => h) (Or.inl ⟨by rfl, ?_⟩) hHeld ?_
    rotate_left
    · (intro w hSw; (try dsimp only at hSw); go_simp; try with_reducible rfl)
    try simp only [Act.put, List.setIfInBounds_toArray, List.set_cons_zero, List.set_cons_succ, List.getElem_toArray, List.getElem_cons_succ, List.getElem_cons_zero]
    refine wpAnyH_ready (rs := [3]) (by kernel_rfl) (by decide) (AllReadyH.cons (o := _) rfl (fun K hK => ?_) AllReadyH.nil)
    go_simp
    go_at_call 119
    (refine (KP.out _ (hK2.drew.sel [2, 3] 99 (by decide) (by decide))).mono ?_); rintro e w8 ⟨rfl, q8, rfl⟩
    have hK8 := hK2.drew.drewN q8
    generalize w5.drew.drewN q8 = w8 at hK8 ⊢
    have HG := Lib.hid (show w8.cell? ⟨w3.heap.size, 1, none⟩ = some (.slice TA ts.length tc) from hK8.cellIs 1 (.slice TA ts.length tc) rfl)
    refine hK.out _ _ HG.out (fun hHeld2 => ?_)
    clear hK K hHeld
    have hHeld := hHeld2
    clear hHeld2
    try simp only [Act.put, List.setIfInBounds_toArray]
    refine wpAnyH_take (i := 4) (v := .bool false) rfl (by kernel_rfl) (by kernel_rfl) (by kernel_rfl) (fun _ _ _ h => h) (Or.inl ⟨by rfl, ?_⟩) hHeld ?_
    · (intro w hSw; clear hSw; go_simp)
    try simp only [Act.put, List.setIfInBounds_toArray, List.set_cons_zero, List.set_cons_succ, List.getElem_toArray, List.getElem_cons_succ, List.getElem_cons_zero]
    refine wpAnyH_take (i := 5) (v := ?_) rfl (by kernel_rfl) (by kernel_rfl) (by kernel_rfl) (fun _ _ _ h => h) (Or.inl ⟨by rfl, ?_⟩) hHeld ?_
    rotate_left
    · (intro w hSw; (try dsimp only at hSw); go_simp; try with_reducible rfl)
    try simp only [Act.put, List.setIfInBounds_toArray, List.set_cons_zero, List.set_cons_succ, List.getElem_toArray, List.getElem_cons_succ, List.getElem_cons_zero]
    refine wpAnyH_take (i := 6) (v := ?_) rfl (by kernel_rfl) (by kernel_rfl) (by kernel_rfl) (fun _ _ _ h => h) (Or.inl ⟨by rfl, ?_⟩) hHeld ?_
    rotate_left
    · (intro w hSw; (try dsimp only at hSw); go_simp; try with_reducible rfl)
    try simp only [Act.put, List.setIfInBounds_toArray, List.set_cons_zero, List.set_cons_succ, List.getElem_toArray, List.getElem_cons_succ, List.getElem_cons_zero]
    refine wpAnyH_take (i := 7) (v := .bool false) rfl (by kernel_rfl) (by kernel_rfl) (by kernel_rfl) (fun _ _ _ h => h) (Or.inl ⟨by rfl, ?_⟩) hHeld ?_
    · (intro w hSw; clear hSw; go_simp)
    try simp only [Act.put, List.setIfInBounds_toArray, List.set_cons_zero, List.set_cons_succ, List.getElem_toArray, List.getElem_cons_succ, List.getElem_cons_zero]
    refine wpAnyH_take (i := 8) (v := ?_) rfl (by kernel_rfl) (by kernel_rfl) (by kernel_rfl) (fun _ _ _ h => h) (Or.inl ⟨by rfl, ?_⟩) hHeld ?_
    rotate_left
    · (intro w hSw; (try dsimp only at hSw); go_simp; try with_reducible rfl)
    try simp only [Act.put, List.setIfInBounds_toArray, List.set_cons_zero, List.set_cons_succ, List.getElem_toArray, List.getElem_cons_succ, List.getElem_cons_zero]
    refine wpAnyH_take (i := 9) (v := undef) rfl (by kernel_rfl) (by kernel_rfl) (by kernel_rfl) (fun _ _ _ h => h) (Or.inr ⟨by rfl, rfl⟩) hHeld ?_
    try simp only [Act.put, List.setIfInBounds_toArray, List.set_cons_zero, List.set_cons_succ, List.getElem_toArray, List.getElem_cons_succ, List.getElem_cons_zero]
    refine wpAnyH_take (i := 10) (v := undef) rfl (by kernel_rfl) (by kernel_rfl) (by kernel_rfl) (fun _ _ _ h => h) (Or.inr ⟨by rfl, rfl⟩) hHeld ?_
    try simp only [Act.put, List.setIfInBounds_toArray, List.set_cons_zero, List.set_cons_succ, List.getElem_toArray, List.getElem_cons_succ, List.getElem_cons_zero]
    refine wpAnyH_take (i := 11) (v := undef) rfl (by kernel_rfl) (by kernel_rfl) (by kernel_rfl) (fun _ _ _ h => h) (Or.inr ⟨by rfl, rfl⟩) hHeld ?_
    try simp only [Act.put, List.setIfInBounds_toArray, List.set_cons_zero, List.set_cons_succ, List.getElem_toArray, List.getElem_cons_succ, List.getElem_cons_zero]
    refine wpAnyH_take (i := 12) (v := undef) rfl (by kernel_rfl) (by kernel_rfl) (by kernel_rfl) (fun _ _ _ h => h) (Or.inr ⟨by rfl, rfl⟩) hHeld ?_
    try simp only [Act.put, List.setIfInBounds_toArray, List.set_cons_zero, List.set_cons_succ, List.getElem_toArray, List.getElem_cons_succ, List.getElem_cons_zero]
    refine wpAnyH_take (i := 13) (v := undef) rfl (by kernel_rfl) (by kernel_rfl) (by kernel_rfl) (fun _ _ _ h => h) (Or.inr ⟨by rfl, rfl⟩) hHeld ?_
    try simp only [Act.put, List.setIfInBounds_toArray, List.set_cons_zero, List.set_cons_succ, List.getElem_toArray, List.getElem_cons_succ, List.getElem_cons_zero]
    refine wpAnyH_take (i := 14) (v := undef) rfl (by kernel_rfl) (by kernel_rfl) (by kernel_rfl) (fun _ _ _ h => h) (Or.inr ⟨by rfl, rfl⟩) hHeld ?_
    try simp only [Act.put, List.setIfInBounds_toArray, List.set_cons_zero, List.set_cons_succ, List.getElem_toArray, List.getElem_cons_succ, List.getElem_cons_zero]
    refine wpAnyH_take (i := 15) (v := undef) rfl (by kernel_rfl) (by kernel_rfl) (by kernel_rfl) (fun _ _ _ h => h) (Or.inr ⟨by rfl, rfl⟩) hHeld ?_
    try simp only [Act.put, List.setIfInBounds_toArray, List.set_cons_zero, List.set_cons_succ, List.getElem_toArray, List.getElem_cons_succ, List.getElem_cons_zero]
    refine wpAnyH_take (i := 16) (v := ?_) rfl (by kernel_rfl) (by kernel_rfl) (by kernel_rfl) (fun _ _ _ h => h) (Or.inl ⟨by rfl, ?_⟩) hHeld ?_
    rotate_left
    · (intro w hSw; (try dsimp only at hSw); go_simp; try with_reducible rfl)
    try simp only [Act.put, List.setIfInBounds_toArray, List.set_cons_zero, List.set_cons_succ, List.getElem_toArray, List.getElem_cons_succ, List.getElem_cons_zero]
    refine wpAnyH_take (i := 17) (v := ?_) rfl (by kernel_rfl) (by kernel_rfl) (by kernel_rfl) (fun _ _ _ h => h) (Or.inl ⟨by rfl, ?_⟩) hHeld ?_
    rotate_left
    · (intro w hSw; (try dsimp only at hSw); go_simp; try with_reducible rfl)
    try simp only [Act.put, List.setIfInBounds_toArray, List.set_cons_zero, List.set_cons_succ, List.getElem_toArray, List.getElem_cons_succ, List.getElem_cons_zero]
    refine wpAnyH_done (by kernel_rfl) ?_ _
    have hK2 := hK8
    clear hK8 HG hHeld
    go_wp2_with fail
    have hq := (hK2.front 3 rfl).blkAt.1
    refine (KC.out _ (hq 0) (hq 1) (hq 3) (hq 5)).mono ?_; rintro e w11 ⟨G1, h1, G2, h2, G3, h3, rfl, hKc⟩
    have hK3 := hK2.join hKc
    clear hK2 hKc hq
    go_wp2_with fail
    refine Calls.kn (hK3.al [.int .i64 t.a.base, .slice G1 ds.length h1, .int .i64 t.b.base, .slice G2 zs.length h2, .int .i64 t.s.base, .slice G3 fs.length h3, .int .i64 0] 65) ?_; intro w12 hK4
    clear hK3
    refine (KT.out _ _ _ _ (hK4.front 4 rfl).box2at (Kn.riv (hK4.sel [5] 99 (by decide) (by decide)))).mono ?_; rintro e w13 ⟨PA, pc, rfl, hKt⟩
    have hK5 := hK4.join hKt
    clear hK4 hKt
    go_wp2_with fail
    refine (KR.out PA pc _ G1 h1 G2 h2 G3 h3 _ ⟨box7at hK5 1 rfl, Kn.riv (hK5.sel [4] 99 (by decide) (by decide)), Kn.riv (hK5.sel [3] 99 (by decide) (by decide)), Kn.riv (hK5.sel [2] 99 (by decide) (by decide))⟩ (Kn.rlIns hK5).2).mono ?_; rintro e w14 ⟨g, s, b', b2, rfl, he, ⟨SA, sc, B1, d1, B2, d2, B3, d3, hKr⟩, hg⟩
    have HB := Lib.hid (HMF.out s b' HZ.out he hg)
    have hK6 := (hK5.join hKr).sel [0, 1, 2, 3, 4, 12] 99 (by decide) (by decide)
    clear hK5 hKr he hg
    obtain ⟨a1, a2, a3, q1, q2, q3, -⟩ := hK6.cells
    go_wp2_with fail
    have HG := Lib.hid (And.intro (hK6.drew.cellIs 8 (.slice SA s.tr.length sc) rfl) (box7' hK6.drew))
    have hK7 := (((((((hK6.front 5 rfl).st 0 (.int .i64 s.m.a.base)).st 1 (.slice B1 s.m.a.digits.length d1)).st 2 (.int .i64 s.m.b.base)).st 3 (.slice B2 s.m.b.digits.length d2)).st 4 (.int .i64 s.m.s.base)).st 5 (.slice B3 s.m.s.digits.length d3)).st 6 (.int .i64 s.m.carry)
    have HS := Lib.hid (And.intro (hK7.drew.drop.cellIs 8 (.slice SA s.tr.length sc) rfl) (box7' hK7.drew.drop))
    go_region_held3 (fun W => W.cell? ⟨g, 8, none⟩ = some (.slice SA s.tr.length sc) ∧ W.cell? ⟨g, 0, none⟩ = some (.int .i64 s.m.a.base) ∧ W.cell? ⟨g, 1, none⟩ = some (.slice B1 s.m.a.digits.length d1) ∧ W.cell? ⟨g, 2, none⟩ = some (.int .i64 s.m.b.base) ∧ W.cell? ⟨g, 3, none⟩ = some (.slice B2 s.m.b.digits.length d2) ∧ W.cell? ⟨g, 4, none⟩ = some (.int .i64 s.m.s.base) ∧ W.cell? ⟨g, 5, none⟩ = some (.slice B3 s.m.s.digits.length d3) ∧ W.cell? ⟨g, 6, none⟩ = some (.int .i64 s.m.carry)) (first | with_reducible exact HG.out | with_reducible exact HS.out) (fail)
    all_goals
      go_wp2_with fail
      refine bodyPost.kn hK7.drew ?_; intro w6 hK6
      clear a1 a2 a3 q1 q2 q3
      obtain ⟨a1, a2, a3, -⟩ := hK6.cells
      refine bodyPost_ret (v := .tuple #[.agg #[.int .i64 s.m.a.base, .slice B1 s.m.a.digits.length d1, .int .i64 s.m.b.base, .slice B2 s.m.b.digits.length d2, .int .i64 s.m.s.base, .slice B3 s.m.s.digits.length d3, .int .i64 s.m.carry], .int .i64 s.tr.length, .int .i64 0]) (by simp [results, Try.results63, go_sem, a1]) rfl ?_
      unfold MORet
      rw [HB.out.1, HB.out.2.1, HB.out.2.2]
      exact ⟨B1, d1, B2, d2, B3, d3, rfl, hK6.sel [2, 3, 4] 99 (by decide) (by decide)⟩
end Go.Proofs.Ytkaaiocbiknipaa
