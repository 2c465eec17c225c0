/- Part 3: lemmas and contracts of the claim's functions. -/
import Derived.Test.YtikcifpdnbhpiaaZC1
import Derived.Test.YtikcifpdnbhpiaaZC2
import Derived.WalkSmall
import Derived.Laws.Bits64b
namespace Go.Proofs.Ytikcifpdnbhpiaa
open Go.RowKit Go.Sort
def tfC (b : Int) (ds : List Int) (b' : Int) (es : List Int) : Int := if (aOk b ds && aOk b' es) = false then 1 else if b ≠ b' then 6 else 0
/-- what a transfer returns -/
def TFRet (b : Int) (ds : List Int) (b' : Int) (es : List Int) (w : World) (e : Ending) (w' : World) : Prop :=
  (tfC b ds b' es ≠ 0 ∧ e = .returned (.tuple #[.agg #[.int .i64 0, .slice none 0 0], .agg #[.int .i64 0, .slice none 0 0], .bool false, .int .i64 (tfC b ds b' es)]) ∧ Below w.heap.size w w') ∨
  (tfC b ds b' es = 0 ∧ ∃ E1 k1 E2 k2, e = .returned (.tuple #[.agg #[.int .i64 b, .slice E1 (digD b ds.length 0).length k1], .agg #[.int .i64 b', .slice E2 (aSet b' es.length (aNum b' es + aNum b ds)).length k2], .bool (!isNm (pw b' es.length) (aNum b' es + aNum b ds)), .int .i64 0]) ∧
    Kn w [rowI E2 k2 (aSet b' es.length (aNum b' es + aNum b ds)), rowI E1 k1 (digD b ds.length 0)] w')
theorem tfC_bad {b b' : Int} {ds es : List Int} (h : (aOk b ds && aOk b' es) = false) : tfC b ds b' es = 1 := by unfold tfC; rw [if_pos h]
set_option maxRecDepth 100000 in
set_option maxHeartbeats 3200000 in
theorem TransferTo_any (b : Int) (A : Option Addr) (c : Nat) (ds : List Int) (b' : Int) (A' : Option Addr) (c' : Nat) (es : List Int) (w : World) (hr : RI w A ds.length ds) (hm : ds.length ≤ 9223372036854775807) (hr' : RI w A' es.length es) (hm' : es.length ≤ 9223372036854775807) :
    Calls Try.prog 12 #[.agg #[.int .i64 b, .slice A ds.length c], .agg #[.int .i64 b', .slice A' es.length c']] w (TFRet b ds b' es w) := by
  unfold TFRet
  have KS := (fun W (hW : Below w.heap.size w W) => size_any b A c ds W (hr.below hW) hm)
  have KT := (fun W (hW : Below w.heap.size w W) => size_any b' A' c' es W (hr'.below hW) hm')
  rcases ho : aOk b ds with _ | _
  · have HC := Lib.hid (tfC_bad (b := b) (b' := b') (ds := ds) (es := es) (by rw [ho]; rfl))
    have hs : aSize b ds = 0 := by unfold aSize; rw [ho]; rfl
    rw [hs] at KS
    replace KS := Lib.hid KS
    clear hs hr ho hr' KT
    go_enter Try.func12, Try.ntmps12
    go_wp2_with fail
    refine Calls.kn (((((Kn.nil w).al [.int .i64 b, .slice A ds.length c] 26).al [.int .i64 b', .slice A' es.length c'] 26).al [.int .i64 0, .slice none 0 0] 26).al [.int .i64 0, .slice none 0 0] 26) ?_; intro w1 hK1
    simp only [World.size_alloc] at hK1
    (with_reducible refine (KS.out _ hK1.below).mono ?_); rintro e w2 ⟨rfl, hw⟩
    have hK2 := hK1.keep hw
    obtain ⟨x1, x2, x3, y1, y2, y3, -⟩ := hK2.cells
    go_wp2_with fail
    refine bodyPost.kn (((((hK2.front 1 rfl).st 0 (.int .i64 0)).st 1 (.slice none 0 0)).front 1 rfl).st 0 (.int .i64 0) |>.st 1 (.slice none 0 0)) ?_; intro w9 hK9
    obtain ⟨a1, a2, a3, d1, d2, d3, -⟩ := hK9.cells
    exact bodyPost_ret (v := .tuple #[.agg #[.int .i64 0, .slice none 0 0], .agg #[.int .i64 0, .slice none 0 0], .bool false, .int .i64 1]) (by simp [results, Try.results12, go_sem, a1, d1]) rfl (.inl ⟨by rw [HC.out]; decide, by rw [HC.out], hK9.below⟩)
  have hs : aSize b ds = pw b ds.length := by unfold aSize; rw [if_pos ho]
  rw [hs] at KS
  have hv := valL_in ho
  have nz : (pw b ds.length == 0) = false := by simp; omega
  obtain ⟨n, hn⟩ : ∃ n, pw b ds.length = n := ⟨_, rfl⟩
  rw [hn] at KS nz
  replace KS := Lib.hid KS
  rcases ho' : aOk b' es with _ | _
  · have HC := Lib.hid (tfC_bad (b := b) (b' := b') (ds := ds) (es := es) (by rw [ho, ho']; rfl))
    have hs' : aSize b' es = 0 := by unfold aSize; rw [ho']; rfl
    rw [hs'] at KT
    replace KT := Lib.hid KT
    clear hs hs' hr ho hr' ho' hv hn
    go_enter Try.func12, Try.ntmps12
    go_wp2_with fail
    refine Calls.kn (((((Kn.nil w).al [.int .i64 b, .slice A ds.length c] 26).al [.int .i64 b', .slice A' es.length c'] 26).al [.int .i64 0, .slice none 0 0] 26).al [.int .i64 0, .slice none 0 0] 26) ?_; intro w1 hK1
    simp only [World.size_alloc] at hK1
    (with_reducible refine (KS.out _ hK1.below).mono ?_); rintro e w2 ⟨rfl, hw⟩
    have hK2 := hK1.keep hw
    clear hw hK1
    obtain ⟨x1, x2, x3, y1, y2, y3, z1, z2, z3, -⟩ := hK2.cells
    go_wp2_with fail
    (with_reducible refine (KT.out _ hK2.below).mono ?_); rintro e w3 ⟨rfl, hw⟩
    have hK3 := hK2.keep hw
    clear hK2 x1 x2 x3 y1 y2 y3 z1 z2 z3
    obtain ⟨x1, x2, x3, y1, y2, y3, -⟩ := hK3.cells
    go_wp2_with fail
    refine bodyPost.kn (((((hK3.front 1 rfl).st 0 (.int .i64 0)).st 1 (.slice none 0 0)).front 1 rfl).st 0 (.int .i64 0) |>.st 1 (.slice none 0 0)) ?_; intro w9 hK9
    obtain ⟨a1, a2, a3, d1, d2, d3, -⟩ := hK9.cells
    exact bodyPost_ret (v := .tuple #[.agg #[.int .i64 0, .slice none 0 0], .agg #[.int .i64 0, .slice none 0 0], .bool false, .int .i64 1]) (by simp [results, Try.results12, go_sem, a1, d1]) rfl (.inl ⟨by rw [HC.out]; decide, by rw [HC.out], hK9.below⟩)
  have hs' : aSize b' es = pw b' es.length := by unfold aSize; rw [if_pos ho']
  rw [hs'] at KT
  have hv' := valL_in ho'
  have nz' : (pw b' es.length == 0) = false := by simp; omega
  obtain ⟨n', hn'⟩ : ∃ n, pw b' es.length = n := ⟨_, rfl⟩
  rw [hn'] at KT nz'
  replace KT := Lib.hid KT
  by_cases hbb : b = b'
  rotate_left
  · have HC := Lib.hid (show tfC b ds b' es = 6 by unfold tfC; rw [if_neg (by rw [ho, ho']; decide), if_pos hbb])
    have hb1 : (b == b') = false := by simpa using hbb
    have hb2 : (b != b') = true := by simpa using hbb
    clear hs hs' hr ho hr' ho' hv hv' hn hn'
    go_enter Try.func12, Try.ntmps12
    go_wp2_with fail
    refine Calls.kn (((((Kn.nil w).al [.int .i64 b, .slice A ds.length c] 26).al [.int .i64 b', .slice A' es.length c'] 26).al [.int .i64 0, .slice none 0 0] 26).al [.int .i64 0, .slice none 0 0] 26) ?_; intro w1 hK1
    simp only [World.size_alloc] at hK1
    (with_reducible refine (KS.out _ hK1.below).mono ?_); rintro e w2 ⟨rfl, hw⟩
    have hK2 := hK1.keep hw
    clear hw hK1
    obtain ⟨x1, x2, x3, y1, y2, y3, z1, z2, z3, -⟩ := hK2.cells
    go_wp2_with fail
    (with_reducible refine (KT.out _ hK2.below).mono ?_); rintro e w3 ⟨rfl, hw⟩
    have hK3 := hK2.keep hw
    clear hK2 x1 x2 x3 y1 y2 y3 z1 z2 z3
    obtain ⟨x1, x2, x3, y1, y2, y3, z1, z2, z3, u1, u2, u3, -⟩ := hK3.cells
    go_wp2_with fail
    refine bodyPost.kn (((((hK3.front 1 rfl).st 0 (.int .i64 0)).st 1 (.slice none 0 0)).front 1 rfl).st 0 (.int .i64 0) |>.st 1 (.slice none 0 0)) ?_; intro w9 hK9
    obtain ⟨a1, a2, a3, d1, d2, d3, -⟩ := hK9.cells
    exact bodyPost_ret (v := .tuple #[.agg #[.int .i64 0, .slice none 0 0], .agg #[.int .i64 0, .slice none 0 0], .bool false, .int .i64 6]) (by simp [results, Try.results12, go_sem, a1, d1]) rfl (.inl ⟨by rw [HC.out]; decide, by rw [HC.out], hK9.below⟩)
  have HC := Lib.hid (show tfC b ds b' es = 0 by unfold tfC; rw [if_neg (by rw [ho, ho']; decide), if_neg (fun h => h hbb)])
  obtain ⟨h1, h2⟩ := aOk_iff.1 ho
  obtain ⟨⟨b1, b2⟩, ⟨n1, n2⟩, -⟩ := vreg_iff.1 h1
  have hnb := aNum_bd ho
  have KW := Lib.hid (fun W => width_any b A ds.length c W)
  have KR := (fun W => registerOf_any b ds.length 0 W b1 b2 (by omega) (by decide) (by decide))
  have KN := (fun W (hW : Below w.heap.size w W) => number_any b A c ds W (hr.below hW) ho)
  have KA := (fun W (hW : Below w.heap.size w W) => accumulated_any b' A' c' es (aNum b ds) W (hr'.below hW) ho' (by omega))
  obtain ⟨zs, hzs⟩ : ∃ l, digD b ds.length 0 = l := ⟨_, rfl⟩
  obtain ⟨ok, hok⟩ : ∃ l, (restD b ds.length 0 == 0) = l := ⟨_, rfl⟩
  obtain ⟨x, hx⟩ : ∃ x, aNum b ds = x := ⟨_, rfl⟩
  obtain ⟨us, hus⟩ : ∃ l, aSet b' es.length (aNum b' es + x) = l := ⟨_, rfl⟩
  obtain ⟨r, hr2⟩ : ∃ r, isNm (pw b' es.length) (aNum b' es + x) = r := ⟨_, rfl⟩
  rw [hzs, hok] at KR
  rw [hx] at KN KA
  rw [hus, hr2] at KA
  rw [hzs, hx, hus, hr2]
  replace KR := Lib.hid KR
  replace KN := Lib.hid KN
  replace KA := Lib.hid KA
  have hb1 : (b == b') = true := by simpa using hbb
  have hb2 : (b != b') = false := by simpa using hbb
  have hb3 : decide (b = b') = true := decide_eq_true hbb
  clear hs hs' hr ho hr' ho' hv hv' hn hn' h1 h2 hzs hok hx hus hr2 hbb b1 b2
  go_enter Try.func12, Try.ntmps12
  go_wp2_with fail
  refine Calls.kn (((((Kn.nil w).al [.int .i64 b, .slice A ds.length c] 26).al [.int .i64 b', .slice A' es.length c'] 26).al [.int .i64 0, .slice none 0 0] 26).al [.int .i64 0, .slice none 0 0] 26) ?_; intro w1 hK1
  simp only [World.size_alloc] at hK1
  (with_reducible refine (KS.out _ hK1.below).mono ?_); rintro e w2 ⟨rfl, hw⟩
  have hK2 := hK1.keep hw
  clear hw hK1
  obtain ⟨x1, x2, x3, y1, y2, y3, z1, z2, z3, -⟩ := hK2.cells
  go_wp2_with fail
  (with_reducible refine (KT.out _ hK2.below).mono ?_); rintro e w3 ⟨rfl, hw⟩
  have hK3 : Kn w [.blk (w.heap.size + 1 + 1 + 1) [.int .i64 0, .slice none 0 0] 26, .blk (w.heap.size + 1 + 1) [.int .i64 0, .slice none 0 0] 26, .blk (w.heap.size + 1) [.int .i64 b', .slice A' es.length c'] 26, .blk w.heap.size [.int .i64 b, .slice A ds.length c] 26] w3 := hK2.keep hw
  clear hK2 x1 x2 x3 y1 y2 y3 z1 z2 z3 hw
  obtain ⟨x1, x2, x3, y1, y2, y3, z1, z2, z3, u1, u2, u3, -⟩ := hK3.cells
  go_wp2_with fail
  clear x1 x2 x3 y1 y2 y3 z1 z2 z3 u1 u2 u3
  have HG := Lib.hid (box2 (hK3.drew.front 3 rfl))
  have HA := Lib.hid (box2 ((hK3.drew.al [.int .i64 0, .slice none 0 0] 26).front 4 rfl))
  have HS := HG
  go_cut [8, 9] (fun pp oo wx => ∃ (g1 : Nat) (E1 : Option Addr) (k1 : Nat), pp = .pointer (some ⟨g1, 0, none⟩) ∧ oo = .bool ok ∧ Kn w [.blk g1 [.int .i64 b, .slice E1 zs.length k1] 26, rowI E1 k1 zs, .blk (w.heap.size + 1 + 1 + 1) [.int .i64 0, .slice none 0 0] 26, .blk (w.heap.size + 1 + 1) [.int .i64 0, .slice none 0 0] 26, .blk (w.heap.size + 1) [.int .i64 b', .slice A' es.length c'] 26, .blk w.heap.size [.int .i64 b, .slice A ds.length c] 26] wx)
  case first =>
    go_region_held3 (fun W => W.cell? ⟨w.heap.size, 0, none⟩ = some (.int .i64 b) ∧ W.cell? ⟨w.heap.size, 1, none⟩ = some (.slice A ds.length c)) (first | with_reducible exact HG.out | with_reducible exact HA.out | with_reducible exact HS.out | exact HG.out | exact HA.out | exact HS.out) (first
      | (go_at_call 37; with_reducible refine (KW.out _).mono ?_; rintro e w4 ⟨rfl, hw⟩; first | (have hK4 := hK3.drew.keep hw; clear HG HA; have HG := Lib.hid (box2 (hK4.front 3 rfl)); have HA := Lib.hid (box2 ((hK4.al [.int .i64 0, .slice none 0 0] 26).front 4 rfl))) | (have hK4 := (hK3.al [.int .i64 0, .slice none 0 0] 26).drew.keep hw; clear HG; have HG := Lib.hid (box2 (hK4.front 4 rfl))))
      | (go_at_call 36; with_reducible refine (KR.out _).mono ?_; rintro e w5 ⟨E1, k1, rfl, hK⟩; clear HG HA; first
        | (have hK5 := hK4.join hK; have HG := Lib.hid (box2 (v0 := .int .i64 b) (hK5.front 5 rfl)); obtain ⟨g1', f1', l1'⟩ := (hK5.front 1 rfl).blkAt; have hK6 := ((hK5.front 1 rfl).st 0 (.int .i64 b)).st 1 (.slice E1 zs.length k1); have HS := Lib.hid (box2 (hK6.front 5 rfl)); have HA := HG)
        | (have hK5 := (hK4.al [.int .i64 0, .slice none 0 0] 26).join hK; have HG := Lib.hid (box2 (v0 := .int .i64 b) (hK5.front 5 rfl)); obtain ⟨g1', f1', l1'⟩ := (hK5.front 1 rfl).blkAt; have hK6 := ((hK5.front 1 rfl).st 0 (.int .i64 b)).st 1 (.slice E1 zs.length k1); have HS := Lib.hid (box2 (hK6.front 5 rfl)); have HA := HG)
        | (have hK5 := hK4.join hK; have HG := Lib.hid (box2 (hK5.front 4 rfl)); have HA := Lib.hid (box2 ((hK5.al [.int .i64 0, .slice none 0 0] 26).front 5 rfl)); have hK6 := hK5.al [.int .i64 b, .slice E1 zs.length k1] 26; have HS := Lib.hid (box2 (hK6.front 5 rfl)))))
    all_goals
      go_wp2_with fail
      go_meet
      exact ⟨_, _, _, rfl, rfl, hK6⟩
  case rest =>
    obtain ⟨g1, E1, k1, rfl, rfl, hK7⟩ := hcut
    clear HG HA HS hK3 KW KR
    go_wp2_with fail
    have hK8 : Kn w [.blk g1 [.int .i64 b, .slice E1 zs.length k1] 26, rowI E1 k1 zs, .blk (w.heap.size + 1 + 1 + 1) [.int .i64 0, .slice none 0 0] 26, .blk (w.heap.size + 1 + 1) [.int .i64 0, .slice none 0 0] 26, .blk (w.heap.size + 1) [.int .i64 b', .slice A' es.length c'] 26, .blk w.heap.size [.int .i64 b, .slice A ds.length c] 26] _ := hK7
    clear hK7
    have HG := Lib.hid (And.intro (box2 (hK8.drew.front 5 rfl)) (box2 (hK8.drew.front 4 rfl)))
    have HA := Lib.hid (And.intro (box2 ((hK8.drew.al [.int .i64 0, .slice none 0 0] 26).front 6 rfl)) (box2 ((hK8.drew.al [.int .i64 0, .slice none 0 0] 26).front 5 rfl)))
    have HS := HG
    go_cut [10, 11] (fun pp oo wx => ∃ (g2 : Nat) (E2 : Option Addr) (k2 : Nat), pp = .pointer (some ⟨g2, 0, none⟩) ∧ oo = .bool (!r) ∧ Kn w [.blk g2 [.int .i64 b', .slice E2 us.length k2] 26, rowI E2 k2 us, .blk g1 [.int .i64 b, .slice E1 zs.length k1] 26, rowI E1 k1 zs, .blk (w.heap.size + 1 + 1 + 1) [.int .i64 0, .slice none 0 0] 26, .blk (w.heap.size + 1 + 1) [.int .i64 0, .slice none 0 0] 26, .blk (w.heap.size + 1) [.int .i64 b', .slice A' es.length c'] 26, .blk w.heap.size [.int .i64 b, .slice A ds.length c] 26] wx)
    case first =>
      go_region_held3 (fun W => (W.cell? ⟨w.heap.size, 0, none⟩ = some (.int .i64 b) ∧ W.cell? ⟨w.heap.size, 1, none⟩ = some (.slice A ds.length c)) ∧ (W.cell? ⟨w.heap.size + 1, 0, none⟩ = some (.int .i64 b') ∧ W.cell? ⟨w.heap.size + 1, 1, none⟩ = some (.slice A' es.length c'))) (first | with_reducible exact HG.out | with_reducible exact HA.out | with_reducible exact HS.out | exact HG.out | exact HA.out | exact HS.out) (first
        | (go_at_call 38; first
          | (with_reducible refine (KN.out _ hK8.drew.below).mono ?_; rintro e w4 ⟨rfl, hw⟩; have hK4 := hK8.drew.keep hw; clear HG HA; have HG := Lib.hid (And.intro (box2 (hK4.front 5 rfl)) (box2 (hK4.front 4 rfl))); have HA := Lib.hid (And.intro (box2 ((hK4.al [.int .i64 0, .slice none 0 0] 26).front 6 rfl)) (box2 ((hK4.al [.int .i64 0, .slice none 0 0] 26).front 5 rfl))))
          | (with_reducible refine (KN.out _ (hK8.al [.int .i64 0, .slice none 0 0] 26).drew.below).mono ?_; rintro e w4 ⟨rfl, hw⟩; have hK4 := (hK8.al [.int .i64 0, .slice none 0 0] 26).drew.keep hw; clear HG; have HG := Lib.hid (And.intro (box2 (hK4.front 6 rfl)) (box2 (hK4.front 5 rfl)))))
        | (go_at_call 29; first
          | (with_reducible refine (KA.out _ hK4.below).mono ?_; rintro e w5 ⟨E2, k2, rfl, hK⟩; clear HG HA; first
            | (have hK5 := hK4.join hK; have HG := Lib.hid (And.intro (box2 (v0 := .int .i64 b) (hK5.front 7 rfl)) (box2 (v0 := .int .i64 b') (hK5.front 6 rfl))); obtain ⟨g1', f1', l1'⟩ := (hK5.front 1 rfl).blkAt; have hK6 := ((hK5.front 1 rfl).st 0 (.int .i64 b')).st 1 (.slice E2 us.length k2); have HS := Lib.hid (And.intro (box2 (hK6.front 7 rfl)) (box2 (hK6.front 6 rfl))); have HA := HG)
            | (have hK5 := hK4.join hK; have HG := Lib.hid (And.intro (box2 (hK5.front 6 rfl)) (box2 (hK5.front 5 rfl))); have HA := Lib.hid (And.intro (box2 ((hK5.al [.int .i64 0, .slice none 0 0] 26).front 7 rfl)) (box2 ((hK5.al [.int .i64 0, .slice none 0 0] 26).front 6 rfl))); have hK6 := hK5.al [.int .i64 b', .slice E2 us.length k2] 26; have HS := Lib.hid (And.intro (box2 (hK6.front 7 rfl)) (box2 (hK6.front 6 rfl)))))
          | (with_reducible refine (KA.out _ (hK4.al [.int .i64 0, .slice none 0 0] 26).below).mono ?_; rintro e w5 ⟨E2, k2, rfl, hK⟩; clear HG HA; have hK5 := (hK4.al [.int .i64 0, .slice none 0 0] 26).join hK; have HG := Lib.hid (And.intro (box2 (v0 := .int .i64 b) (hK5.front 7 rfl)) (box2 (v0 := .int .i64 b') (hK5.front 6 rfl))); obtain ⟨g1', f1', l1'⟩ := (hK5.front 1 rfl).blkAt; have hK6 := ((hK5.front 1 rfl).st 0 (.int .i64 b')).st 1 (.slice E2 us.length k2); have HS := Lib.hid (And.intro (box2 (hK6.front 7 rfl)) (box2 (hK6.front 6 rfl))); have HA := HG)))
      all_goals
        go_wp2_with fail
        go_meet
        exact ⟨_, _, _, rfl, rfl, hK6⟩
    case rest =>
      obtain ⟨g2, E2, k2, rfl, rfl, hK9⟩ := hcut
      clear HG HA HS hK8 KN KA
      go_wp2_with fail
      obtain ⟨x1, x2, x3⟩ := (hK9.front 5 rfl).blkAt
      obtain ⟨y1, y2, y3⟩ := (hK9.front 4 rfl).blkAt
      have HG := Lib.hid (And.intro (box2 (hK9.drew.front 2 rfl)) (box2 hK9.drew))
      have hKa := ((hK9.front 5 rfl).st 0 (.int .i64 b)).st 1 (.slice E1 zs.length k1)
      have HA := Lib.hid (And.intro (box2 (hKa.drew.front 3 rfl)) (box2 (hKa.drew.front 1 rfl)))
      have hKb := ((hKa.front 5 rfl).st 0 (.int .i64 b')).st 1 (.slice E2 us.length k2)
      have HS := Lib.hid (And.intro (box2 (hKb.drew.front 4 rfl)) (box2 (hKb.drew.front 2 rfl)))
      have hKc := ((hK9.front 4 rfl).st 0 (.int .i64 b')).st 1 (.slice E2 us.length k2)
      have HT := Lib.hid (And.intro (box2 (hKc.drew.front 3 rfl)) (box2 (hKc.drew.front 1 rfl)))
      have hKd := ((hKc.front 5 rfl).st 0 (.int .i64 b)).st 1 (.slice E1 zs.length k1)
      have HU := Lib.hid (And.intro (box2 (hKd.drew.front 4 rfl)) (box2 (hKd.drew.front 2 rfl)))
      go_region_held3 (fun W => (W.cell? ⟨g1, 0, none⟩ = some (.int .i64 b) ∧ W.cell? ⟨g1, 1, none⟩ = some (.slice E1 zs.length k1)) ∧ (W.cell? ⟨g2, 0, none⟩ = some (.int .i64 b') ∧ W.cell? ⟨g2, 1, none⟩ = some (.slice E2 us.length k2))) (first | with_reducible exact HG.out | with_reducible exact HA.out | with_reducible exact HS.out | with_reducible exact HT.out | with_reducible exact HU.out) (fail)
      all_goals
        go_wp2_with fail
        first
          | (refine bodyPost.kn hKb.drew ?_; intro w7 hKe; replace hKe := hKe.sel [1, 0, 3, 5] 99 (by decide) (by decide))
          | (refine bodyPost.kn hKd.drew ?_; intro w7 hKe; replace hKe := hKe.sel [0, 1, 3, 5] 99 (by decide) (by decide))
        obtain ⟨a1, a2, a3, d1, d2, d3, -⟩ := hKe.cells
        exact bodyPost_ret (v := .tuple #[.agg [.int .i64 b, .slice E1 zs.length k1].toArray, .agg [.int .i64 b', .slice E2 us.length k2].toArray, .bool (!r), .int .i64 0]) (by simp [results, Try.results12, go_sem, a1, d1]) rfl (.inr ⟨HC.out, E1, k1, E2, k2, rfl, hKe.sel [2, 3] 99 (by decide) (by decide)⟩)
set_option maxRecDepth 100000 in
set_option maxHeartbeats 3200000 in
theorem specTransferTo_any (b : Int) (A : Option Addr) (c : Nat) (ds : List Int) (b' : Int) (A' : Option Addr) (c' : Nat) (es : List Int) (w : World) (hr : RI w A ds.length ds) (hm : ds.length ≤ 9223372036854775807) (hr' : RI w A' es.length es) (hm' : es.length ≤ 9223372036854775807) :
    Calls Try.prog 13 #[.agg #[.int .i64 b, .slice A ds.length c], .agg #[.int .i64 b', .slice A' es.length c']] w (TFRet b ds b' es w) := by
  unfold TFRet
  have HR1 := (fun W (hW : Kn w [.blk (w.heap.size + 1 + 1 + 1) [.int .i64 0, .slice none 0 0] 26, .blk (w.heap.size + 1 + 1) [.int .i64 0, .slice none 0 0] 26, .blk (w.heap.size + 1) [.int .i64 b', .slice A' es.length c'] 26, .blk w.heap.size [.int .i64 b, .slice A ds.length c] 26] W) => show RegB W w.heap.size b A c ds from ⟨box2 (hW.front 3 rfl), hr.below hW.below⟩)
  have HR2 := (fun W (hW : Kn w [.blk (w.heap.size + 1 + 1 + 1) [.int .i64 0, .slice none 0 0] 26, .blk (w.heap.size + 1 + 1) [.int .i64 0, .slice none 0 0] 26, .blk (w.heap.size + 1) [.int .i64 b', .slice A' es.length c'] 26, .blk w.heap.size [.int .i64 b, .slice A ds.length c] 26] W) => show RegB W (w.heap.size + 1) b' A' c' es from ⟨box2 (hW.front 2 rfl), hr'.below hW.below⟩)
  have KS := (fun W (hW : Kn w [.blk (w.heap.size + 1 + 1 + 1) [.int .i64 0, .slice none 0 0] 26, .blk (w.heap.size + 1 + 1) [.int .i64 0, .slice none 0 0] 26, .blk (w.heap.size + 1) [.int .i64 b', .slice A' es.length c'] 26, .blk w.heap.size [.int .i64 b, .slice A ds.length c] 26] W) => l09Ok_any w.heap.size b A c ds W (HR1 W hW) hm)
  have KT := (fun W (hW : Kn w [.blk (w.heap.size + 1 + 1 + 1) [.int .i64 0, .slice none 0 0] 26, .blk (w.heap.size + 1 + 1) [.int .i64 0, .slice none 0 0] 26, .blk (w.heap.size + 1) [.int .i64 b', .slice A' es.length c'] 26, .blk w.heap.size [.int .i64 b, .slice A ds.length c] 26] W) => l09Ok_any (w.heap.size + 1) b' A' c' es W (HR2 W hW) hm')
  rcases ho : aOk b ds with _ | _
  · have HC := Lib.hid (tfC_bad (b := b) (b' := b') (ds := ds) (es := es) (by rw [ho]; rfl))
    rw [ho] at KS
    replace KS := Lib.hid KS
    clear hr ho hr' KT HR1 HR2
    go_enter Try.func13, Try.ntmps13
    go_wp2_with fail
    refine Calls.kn (((((Kn.nil w).al [.int .i64 b, .slice A ds.length c] 26).al [.int .i64 b', .slice A' es.length c'] 26).al [.int .i64 0, .slice none 0 0] 26).al [.int .i64 0, .slice none 0 0] 26) ?_; intro w1 hK1
    simp only [World.size_alloc] at hK1
    (refine (KS.out _ hK1).mono ?_); rintro e w2 ⟨rfl, hw⟩
    have hK2 := hK1.keep hw
    obtain ⟨x1, x2, x3, y1, y2, y3, -⟩ := hK2.cells
    go_wp2_with fail
    refine bodyPost.kn (((((hK2.front 1 rfl).st 0 (.int .i64 0)).st 1 (.slice none 0 0)).front 1 rfl).st 0 (.int .i64 0) |>.st 1 (.slice none 0 0)) ?_; intro w9 hK9
    obtain ⟨a1, a2, a3, d1, d2, d3, -⟩ := hK9.cells
    exact bodyPost_ret (v := .tuple #[.agg #[.int .i64 0, .slice none 0 0], .agg #[.int .i64 0, .slice none 0 0], .bool false, .int .i64 1]) (by simp [results, Try.results13, go_sem, a1, d1]) rfl (.inl ⟨by rw [HC.out]; decide, by rw [HC.out], hK9.below⟩)
  rw [ho] at KS
  replace KS := Lib.hid KS
  rcases ho' : aOk b' es with _ | _
  · have HC := Lib.hid (tfC_bad (b := b) (b' := b') (ds := ds) (es := es) (by rw [ho, ho']; rfl))
    rw [ho'] at KT
    replace KT := Lib.hid KT
    clear hr ho hr' ho' HR1 HR2
    go_enter Try.func13, Try.ntmps13
    go_wp2_with fail
    refine Calls.kn (((((Kn.nil w).al [.int .i64 b, .slice A ds.length c] 26).al [.int .i64 b', .slice A' es.length c'] 26).al [.int .i64 0, .slice none 0 0] 26).al [.int .i64 0, .slice none 0 0] 26) ?_; intro w1 hK1
    simp only [World.size_alloc] at hK1
    (refine (KS.out _ hK1).mono ?_); rintro e w2 ⟨rfl, hw⟩
    have hK2 : Kn w [.blk (w.heap.size + 1 + 1 + 1) [.int .i64 0, .slice none 0 0] 26, .blk (w.heap.size + 1 + 1) [.int .i64 0, .slice none 0 0] 26, .blk (w.heap.size + 1) [.int .i64 b', .slice A' es.length c'] 26, .blk w.heap.size [.int .i64 b, .slice A ds.length c] 26] w2 := hK1.keep hw
    clear hw hK1
    go_wp2_with fail
    (refine (KT.out _ hK2).mono ?_); rintro e w3 ⟨rfl, hw⟩
    have hK3 := hK2.keep hw
    clear hK2
    obtain ⟨x1, x2, x3, y1, y2, y3, -⟩ := hK3.cells
    go_wp2_with fail
    refine bodyPost.kn (((((hK3.front 1 rfl).st 0 (.int .i64 0)).st 1 (.slice none 0 0)).front 1 rfl).st 0 (.int .i64 0) |>.st 1 (.slice none 0 0)) ?_; intro w9 hK9
    obtain ⟨a1, a2, a3, d1, d2, d3, -⟩ := hK9.cells
    exact bodyPost_ret (v := .tuple #[.agg #[.int .i64 0, .slice none 0 0], .agg #[.int .i64 0, .slice none 0 0], .bool false, .int .i64 1]) (by simp [results, Try.results13, go_sem, a1, d1]) rfl (.inl ⟨by rw [HC.out]; decide, by rw [HC.out], hK9.below⟩)
  rw [ho'] at KT
  replace KT := Lib.hid KT
  by_cases hbb : b = b'
  rotate_left
  · have HC := Lib.hid (show tfC b ds b' es = 6 by unfold tfC; rw [if_neg (by rw [ho, ho']; decide), if_pos hbb])
    have hb1 : (b == b') = false := by simpa using hbb
    have hb2 : (b != b') = true := by simpa using hbb
    clear hr ho hr' ho' HR1 HR2
    go_enter Try.func13, Try.ntmps13
    go_wp2_with fail
    refine Calls.kn (((((Kn.nil w).al [.int .i64 b, .slice A ds.length c] 26).al [.int .i64 b', .slice A' es.length c'] 26).al [.int .i64 0, .slice none 0 0] 26).al [.int .i64 0, .slice none 0 0] 26) ?_; intro w1 hK1
    simp only [World.size_alloc] at hK1
    (refine (KS.out _ hK1).mono ?_); rintro e w2 ⟨rfl, hw⟩
    have hK2 : Kn w [.blk (w.heap.size + 1 + 1 + 1) [.int .i64 0, .slice none 0 0] 26, .blk (w.heap.size + 1 + 1) [.int .i64 0, .slice none 0 0] 26, .blk (w.heap.size + 1) [.int .i64 b', .slice A' es.length c'] 26, .blk w.heap.size [.int .i64 b, .slice A ds.length c] 26] w2 := hK1.keep hw
    clear hw hK1
    go_wp2_with fail
    (refine (KT.out _ hK2).mono ?_); rintro e w3 ⟨rfl, hw⟩
    have hK3 := hK2.keep hw
    clear hK2
    obtain ⟨x1, x2, x3, y1, y2, y3, z1, z2, z3, u1, u2, u3, -⟩ := hK3.cells
    go_wp2_with fail
    refine bodyPost.kn (((((hK3.front 1 rfl).st 0 (.int .i64 0)).st 1 (.slice none 0 0)).front 1 rfl).st 0 (.int .i64 0) |>.st 1 (.slice none 0 0)) ?_; intro w9 hK9
    obtain ⟨a1, a2, a3, d1, d2, d3, -⟩ := hK9.cells
    exact bodyPost_ret (v := .tuple #[.agg #[.int .i64 0, .slice none 0 0], .agg #[.int .i64 0, .slice none 0 0], .bool false, .int .i64 6]) (by simp [results, Try.results13, go_sem, a1, d1]) rfl (.inl ⟨by rw [HC.out]; decide, by rw [HC.out], hK9.below⟩)
  have HC := Lib.hid (show tfC b ds b' es = 0 by unfold tfC; rw [if_neg (by rw [ho, ho']; decide), if_neg (fun h => h hbb)])
  obtain ⟨h1, h2⟩ := aOk_iff.1 ho
  obtain ⟨⟨b1, b2⟩, ⟨n1, n2⟩, -⟩ := vreg_iff.1 h1
  have hnb := aNum_bd ho
  have KR := (fun W => l02NewV_any b ds.length 0 W b1 b2 (by omega) (by decide) (by decide))
  have HRB1 := (fun W (hW : Below w.heap.size w W) (q : _) => show RegB W w.heap.size b A c ds from ⟨q, hr.below hW⟩)
  have HRB2 := (fun W (hW : Below w.heap.size w W) (q : _) => show RegB W (w.heap.size + 1) b' A' c' es from ⟨q, hr'.below hW⟩)
  have KN := (fun W (h : RegB W w.heap.size b A c ds) => l09Number_any w.heap.size b A c ds W h ho)
  have KA := (fun W (h : RegB W (w.heap.size + 1) b' A' c' es) => l09Add_any (w.heap.size + 1) b' A' c' es (aNum b ds) W h ho' (by omega))
  replace HRB1 := Lib.hid HRB1
  replace HRB2 := Lib.hid HRB2
  obtain ⟨zs, hzs⟩ : ∃ l, digD b ds.length 0 = l := ⟨_, rfl⟩
  obtain ⟨ok, hok⟩ : ∃ l, restD b ds.length 0 = l := ⟨_, rfl⟩
  obtain ⟨x, hx⟩ : ∃ x, aNum b ds = x := ⟨_, rfl⟩
  obtain ⟨us, hus⟩ : ∃ l, aSet b' es.length (aNum b' es + x) = l := ⟨_, rfl⟩
  obtain ⟨r, hr2⟩ : ∃ r, isNm (pw b' es.length) (aNum b' es + x) = r := ⟨_, rfl⟩
  rw [hzs, hok] at KR
  rw [hx] at KN KA
  rw [hus, hr2] at KA
  rw [hzs, hx, hus, hr2]
  replace KR := Lib.hid KR
  replace KN := Lib.hid KN
  replace KA := Lib.hid KA
  have hb1 : (b == b') = true := by simpa using hbb
  have hb2 : (b != b') = false := by simpa using hbb
  have hb3 : decide (b = b') = true := decide_eq_true hbb
  clear hr ho hr' ho' h1 h2 hzs hok hx hus hr2 hbb b1 b2 HR1 HR2
  go_enter Try.func13, Try.ntmps13
  go_wp2_with fail
  refine Calls.kn (((((Kn.nil w).al [.int .i64 b, .slice A ds.length c] 26).al [.int .i64 b', .slice A' es.length c'] 26).al [.int .i64 0, .slice none 0 0] 26).al [.int .i64 0, .slice none 0 0] 26) ?_; intro w1 hK1
  simp only [World.size_alloc] at hK1
  (refine (KS.out _ hK1).mono ?_); rintro e w2 ⟨rfl, hw⟩
  have hK2 : Kn w [.blk (w.heap.size + 1 + 1 + 1) [.int .i64 0, .slice none 0 0] 26, .blk (w.heap.size + 1 + 1) [.int .i64 0, .slice none 0 0] 26, .blk (w.heap.size + 1) [.int .i64 b', .slice A' es.length c'] 26, .blk w.heap.size [.int .i64 b, .slice A ds.length c] 26] w2 := hK1.keep hw
  clear hw hK1
  go_wp2_with fail
  (refine (KT.out _ hK2).mono ?_); rintro e w3 ⟨rfl, hw⟩
  have hK3 : Kn w [.blk (w.heap.size + 1 + 1 + 1) [.int .i64 0, .slice none 0 0] 26, .blk (w.heap.size + 1 + 1) [.int .i64 0, .slice none 0 0] 26, .blk (w.heap.size + 1) [.int .i64 b', .slice A' es.length c'] 26, .blk w.heap.size [.int .i64 b, .slice A ds.length c] 26] w3 := hK2.keep hw
  clear hK2 hw
  obtain ⟨x1, x2, x3, y1, y2, y3, z1, z2, z3, u1, u2, u3, -⟩ := hK3.cells
  go_wp2_with fail
  (with_reducible refine (KR.out _).mono ?_); rintro e w4 ⟨E1, k1, rfl, hKn⟩
  have hK4 := hK3.join hKn
  clear hK3 hKn x1 x2 x3 y1 y2 y3 z1 z2 z3 u1 u2 u3
  go_wp2_with fail
  refine Calls.kn (hK4.al [.int .i64 b, .slice E1 zs.length k1] 26) ?_; clear hK4; intro w5 hK5
  (refine (KN.out _ (HRB1.out _ hK5.below (box2 (hK5.front 5 rfl)))).mono ?_); rintro e w6 ⟨rfl, hw⟩
  have hK6 := hK5.keep hw
  clear hw hK5
  go_wp2_with fail
  (refine (KA.out _ (HRB2.out _ hK6.below (box2 (hK6.front 4 rfl)))).mono ?_); rintro e w7 ⟨E2, k2, rfl, hKn⟩
  have hK7 := hK6.join hKn
  clear hK6 hKn
  go_upto_region 7 with fail
  refine Code.wp.kn (hK7.al [.int .i64 b', .slice E2 us.length k2] 26) ?_; intro w8 hK8
  obtain ⟨g1, hg1⟩ : ∃ g, w4.heap.size = g := ⟨_, rfl⟩
  obtain ⟨g2, hg2⟩ : ∃ g, w7.heap.size = g := ⟨_, rfl⟩
  rw [hg1, hg2] at hK8 ⊢
  have hK9 := hK8.sel [0, 1, 2, 3, 4, 5, 6, 7] 99 (by decide) (by decide)
  clear hg1 hg2 hK7 hK8
  go_wp2_with fail
  obtain ⟨x1, x2, x3⟩ := (hK9.front 5 rfl).blkAt
  obtain ⟨y1, y2, y3⟩ := (hK9.front 4 rfl).blkAt
  have HG := Lib.hid (And.intro (box2 (hK9.drew.front 2 rfl)) (box2 hK9.drew))
  have hKa := ((hK9.front 5 rfl).st 0 (.int .i64 b)).st 1 (.slice E1 zs.length k1)
  have HA := Lib.hid (And.intro (box2 (hKa.drew.front 3 rfl)) (box2 (hKa.drew.front 1 rfl)))
  have hKb := ((hKa.front 5 rfl).st 0 (.int .i64 b')).st 1 (.slice E2 us.length k2)
  have HS := Lib.hid (And.intro (box2 (hKb.drew.front 4 rfl)) (box2 (hKb.drew.front 2 rfl)))
  have hKc := ((hK9.front 4 rfl).st 0 (.int .i64 b')).st 1 (.slice E2 us.length k2)
  have HT := Lib.hid (And.intro (box2 (hKc.drew.front 3 rfl)) (box2 (hKc.drew.front 1 rfl)))
  have hKd := ((hKc.front 5 rfl).st 0 (.int .i64 b)).st 1 (.slice E1 zs.length k1)
  have HU := Lib.hid (And.intro (box2 (hKd.drew.front 4 rfl)) (box2 (hKd.drew.front 2 rfl)))
  go_region_held3 (fun W => (W.cell? ⟨g1, 0, none⟩ = some (.int .i64 b) ∧ W.cell? ⟨g1, 1, none⟩ = some (.slice E1 zs.length k1)) ∧ (W.cell? ⟨g2, 0, none⟩ = some (.int .i64 b') ∧ W.cell? ⟨g2, 1, none⟩ = some (.slice E2 us.length k2))) (first | with_reducible exact HG.out | with_reducible exact HA.out | with_reducible exact HS.out | with_reducible exact HT.out | with_reducible exact HU.out) (fail)
  all_goals
    go_wp2_with fail
    first
      | (refine bodyPost.kn hKb.drew ?_; intro w7 hKe; replace hKe := hKe.sel [1, 0, 3, 5] 99 (by decide) (by decide))
      | (refine bodyPost.kn hKd.drew ?_; intro w7 hKe; replace hKe := hKe.sel [0, 1, 3, 5] 99 (by decide) (by decide))
    obtain ⟨a1, a2, a3, d1, d2, d3, -⟩ := hKe.cells
    exact bodyPost_ret (v := .tuple #[.agg [.int .i64 b, .slice E1 zs.length k1].toArray, .agg [.int .i64 b', .slice E2 us.length k2].toArray, .bool (!r), .int .i64 0]) (by simp [results, Try.results13, go_sem, a1, d1]) rfl (.inr ⟨HC.out, E1, k1, E2, k2, rfl, hKe.sel [2, 3] 99 (by decide) (by decide)⟩)
end Go.Proofs.Ytikcifpdnbhpiaa

namespace Go.Proofs.Ytikcifpdnbhpiaa
open Go.RowKit Go.Sort
def accD (b : Int) (ds xs : List Int) : Nat → List Int
  | 0 => ds
  | k + 1 => aSet b ds.length (aNum b (accD b ds xs k) + xs.getD k 0)
def accB (b : Int) (ds xs : List Int) : Nat → List Int
  | 0 => []
  | k + 1 => if isNm (pw b ds.length) (aNum b (accD b ds xs k) + xs.getD k 0) = true then accB b ds xs k else accB b ds xs k ++ [(k : Int)]
def inA (xs : List Int) : Bool := xs.all (fun x => betB x (-1000000000000) 1000000000000)
def aaC (b : Int) (ds xs : List Int) : Int := if aOk b ds = false then 1 else if inA xs = false then 2 else 0
theorem aSet_len (b : Int) (k : Nat) (x : Int) : (aSet b k x).length = k := digD_len ..
theorem accD_len (b : Int) (ds xs : List Int) (k : Nat) : (accD b ds xs k).length = ds.length := by
  cases k with
  | zero => rfl
  | succ k => exact aSet_len ..
theorem accB_len (b : Int) (ds xs : List Int) (k : Nat) : (accB b ds xs k).length ≤ k := by
  induction k with
  | zero => simp [accB]
  | succ k ih => unfold accB; split; omega; rw [List.length_append]; simp; omega
theorem aSet_ok {b : Int} {ds : List Int} (h : aOk b ds = true) (x : Int) : aOk b (aSet b ds.length x) = true := by
  obtain ⟨h1, h2⟩ := aOk_iff.1 h
  obtain ⟨⟨b1, b2⟩, ⟨n1, n2⟩, -⟩ := vreg_iff.1 h1
  have hp := pw_pos b b1 ds.length
  have hb := aNorm_bd (n := pw b ds.length) (x := x) hp
  refine aOk_iff.2 ⟨?_, by rw [aSet_len]; exact h2⟩
  exact digD_vreg b b1 b2 _ n1 n2 _ hb.1 hb.2 (by omega)
theorem accD_ok {b : Int} {ds : List Int} (h : aOk b ds = true) (xs : List Int) (k : Nat) : aOk b (accD b ds xs k) = true := by
  cases k with
  | zero => exact h
  | succ k => exact aSet_ok h _
theorem inA_take_succ {xs : List Int} {k : Nat} (h : k < xs.length) : inA (xs.take (k + 1)) = (inA (xs.take k) && betB xs[k] (-1000000000000) 1000000000000) := by
  unfold inA; rw [List.take_succ_eq_append_getElem h, List.all_append]; simp only [List.all_cons, List.all_nil, Bool.and_true]
theorem inA_not {xs : List Int} {k : Nat} (h : k < xs.length) (h1 : betB xs[k] (-1000000000000) 1000000000000 = false) : inA xs = false := by
  simp only [inA, List.all_eq_false]; exact ⟨xs[k], List.getElem_mem _, by simp [h1]⟩
/-- what the adding of numbers returns -/
def AARet (b : Int) (ds xs : List Int) (w : World) (e : Ending) (w' : World) : Prop :=
  (aaC b ds xs ≠ 0 ∧ e = .returned (.tuple #[.agg #[.int .i64 0, .slice none 0 0], .slice none 0 0, .int .i64 (aaC b ds xs)]) ∧ Below w.heap.size w w') ∨
  (aaC b ds xs = 0 ∧ ∃ E k B m, e = .returned (.tuple #[.agg #[.int .i64 b, .slice E (accD b ds xs xs.length).length k], .slice B (accB b ds xs xs.length).length m, .int .i64 0]) ∧
    Kn w [rowI B m (accB b ds xs xs.length), rowI E k (accD b ds xs xs.length)] w')
theorem accD_succ (b : Int) (ds : List Int) {xs : List Int} {i : Nat} (h : i < xs.length) : accD b ds xs (i + 1) = aSet b ds.length (aNum b (accD b ds xs i) + xs[i]) := by rw [← getD_of h]; rfl
theorem accB_succ (b : Int) (ds : List Int) {xs : List Int} {i : Nat} (h : i < xs.length) : accB b ds xs (i + 1) = if isNm (pw b ds.length) (aNum b (accD b ds xs i) + xs[i]) = true then accB b ds xs i else accB b ds xs i ++ [(i : Int)] := by rw [← getD_of h]; rfl
theorem inA_get {xs : List Int} (h : inA xs = true) {i : Nat} (hi : i < xs.length) : betB xs[i] (-1000000000000) 1000000000000 = true := by
  unfold inA at h
  exact List.all_eq_true.1 h _ (List.getElem_mem _)
set_option maxRecDepth 100000 in
set_option maxHeartbeats 6400000 in
theorem AccumulateAll_any (b : Int) (A : Option Addr) (c : Nat) (ds : List Int) (X : Option Addr) (xc : Nat) (xs : List Int) (w : World) (hr : RI w A ds.length ds) (hm : ds.length ≤ 9223372036854775807) (hx : RI w X xs.length xs) (hxm : xs.length ≤ 1000000) :
    Calls Try.prog 6 #[.agg #[.int .i64 b, .slice A ds.length c], .slice X xs.length xc] w (AARet b ds xs w) := by
  unfold AARet
  have KS := (fun W (hW : Below w.heap.size w W) => size_any b A c ds W (hr.below hW) hm)
  rcases ho : aOk b ds with _ | _
  · have HC := Lib.hid (show aaC b ds xs = 1 by unfold aaC; rw [if_pos ho])
    have hs : aSize b ds = 0 := by unfold aSize; rw [ho]; rfl
    rw [hs] at KS
    replace KS := Lib.hid KS
    clear hs hr ho hx
    go_enter Try.func6, Try.ntmps6
    go_wp2_with fail
    refine Calls.kn (((Kn.nil w).al [.int .i64 b, .slice A ds.length c] 26).al [.int .i64 0, .slice none 0 0] 26) ?_; intro w1 hK1
    simp only [World.size_alloc] at hK1
    (with_reducible refine (KS.out _ hK1.below).mono ?_); rintro e w2 ⟨rfl, hw⟩
    have hK2 := hK1.keep hw
    obtain ⟨x1, x2, x3, -⟩ := hK2.cells
    go_wp2_with fail
    refine bodyPost.kn ((hK2.st 0 (.int .i64 0)).st 1 (.slice none 0 0)) ?_; intro w9 hK9
    obtain ⟨a1, a2, a3, -⟩ := hK9.cells
    exact bodyPost_ret (v := .tuple #[.agg #[.int .i64 0, .slice none 0 0], .slice none 0 0, .int .i64 1]) (by simp [results, Try.results6, go_sem, a1]) rfl (.inl ⟨by rw [HC.out]; decide, by rw [HC.out], hK9.below⟩)
  have hs : aSize b ds = pw b ds.length := by unfold aSize; rw [if_pos ho]
  rw [hs] at KS
  have hv := valL_in ho
  obtain ⟨h1, h2⟩ := aOk_iff.1 ho
  obtain ⟨-, ⟨n1, n2⟩, -⟩ := vreg_iff.1 h1
  have nz : (pw b ds.length == 0) = false := by simp; omega
  have HO := Lib.hid (accD_ok ho xs)
  have HC1 := Lib.hid (fun k (h : k < xs.length) (h2 : betB xs[k] (-1000000000000) 1000000000000 = false) => show aaC b ds xs = 2 by unfold aaC; rw [if_neg (by rw [ho]; decide), if_pos (inA_not h h2)])
  have HC2 := Lib.hid (fun (h : inA xs = true) => show aaC b ds xs = 0 by unfold aaC; rw [if_neg (by rw [ho]; decide), if_neg (by rw [h]; decide)])
  have KC := Lib.hid (fun W (hW : Below w.heap.size w W) => copyNumbers_any A ds.length c ds W (hr.below hW) (by omega) (by omega))
  have KB := Lib.hid (fun x W => between_B x (-1000000000000) 1000000000000 W)
  have HX := Lib.hid (fun W (hW : Below w.heap.size w W) => hx.below hW)
  obtain ⟨n, hn⟩ : ∃ n, pw b ds.length = n := ⟨_, rfl⟩
  have HPW := Lib.hid hn
  rw [hn] at KS nz
  replace KS := Lib.hid KS
  have HTK := Lib.hid (show xs.take xs.length = xs from List.take_length)
  have HIN := Lib.hid (fun k (h : k < xs.length) => inA_take_succ h)
  clear hs hr ho hx hv h1 h2 hn
  go_enter Try.func6, Try.ntmps6
  go_wp2_with fail
  refine Calls.kn (((Kn.nil w).al [.int .i64 b, .slice A ds.length c] 26).al [.int .i64 0, .slice none 0 0] 26) ?_; intro w1 hK1
  simp only [World.size_alloc] at hK1
  (with_reducible refine (KS.out _ hK1.below).mono ?_); rintro e w2 ⟨rfl, hw⟩
  have hK2 : Kn w [.blk (w.heap.size + 1) [.int .i64 0, .slice none 0 0] 26, .blk w.heap.size [.int .i64 b, .slice A ds.length c] 26] w2 := hK1.keep hw
  clear hw hK1
  go_wp2_with fail
  go_loopw [21] (fun kk wr => ∃ (k : Nat), k ≤ xs.length ∧ kk = .int .i64 k ∧ Hid (inA (xs.take k) = true) ∧ Kn w [.blk (w.heap.size + 1) [.int .i64 0, .slice none 0 0] 26, .blk w.heap.size [.int .i64 b, .slice A ds.length c] 26] wr) (fun kk _ => xs.length - (intOf kk).toNat)
  case atStart => exact ⟨0, Nat.zero_le _, rfl, Lib.hid rfl, hK2⟩
  case round =>
    obtain ⟨k, hk, rfl, HI, hK⟩ := hrel
    clear hK2
    by_cases hkn : k < xs.length
    · have hk1 : (k : Int) < (xs.length : Int) := by omega
      obtain ⟨ad, hA, hlt, hkl, hc⟩ := (HX.out _ hK.below).at_ hkn
      subst hA
      have HI1 := HIN.out k hkl
      have HCK := HC1.out k hkl
      obtain ⟨x, hxx⟩ : ∃ x, xs[k] = x := ⟨_, rfl⟩
      rw [hxx] at hc HI1 HCK
      have KB1 := KB.out x
      clear hxx
      rcases hbt : betB x (-1000000000000) 1000000000000 with _ | _
      · have HC := Lib.hid (HCK hbt)
        rw [hbt] at KB1
        replace KB1 := Lib.hid KB1
        clear hbt HI1 HCK
        go_wp2_with fail
        (with_reducible refine (KB1.out _).mono ?_); rintro e w3 ⟨rfl, hw⟩
        have hK3 := hK.keep hw
        obtain ⟨x1, x2, x3, -⟩ := hK3.cells
        go_wp2_with fail
        refine bodyPost.kn ((hK3.st 0 (.int .i64 0)).st 1 (.slice none 0 0)) ?_; intro w9 hK9
        obtain ⟨a1, a2, a3, -⟩ := hK9.cells
        exact bodyPost_ret (v := .tuple #[.agg #[.int .i64 0, .slice none 0 0], .slice none 0 0, .int .i64 2]) (by simp [results, Try.results6, go_sem, a1]) rfl (.inl ⟨by rw [HC.out]; decide, by rw [HC.out], hK9.below⟩)
      · have HI2 := Lib.hid (show inA (xs.take (k + 1)) = true by rw [HI1, HI.out, hbt]; rfl)
        rw [hbt] at KB1
        replace KB1 := Lib.hid KB1
        clear hbt HI1 HCK
        go_wp2_with fail
        (with_reducible refine (KB1.out _).mono ?_); rintro e w3 ⟨rfl, hw⟩
        have hK3 := hK.keep hw
        clear hK hw
        go_wp2_with fail
        go_roundw
        case rel => exact ⟨k + 1, by omega, by go_num, HI2, hK3⟩
        case measure => simp [intOf]; omega
    · have hk1 : ¬ (k : Int) < (xs.length : Int) := by omega
      obtain rfl : k = xs.length := by omega
      have HIA := (show inA xs = true by rw [← HTK.out]; exact HI.out)
      have HC := Lib.hid (HC2.out HIA)
      have HAL := Lib.hid (fun i (hi : i < xs.length) => inA_get HIA hi)
      have HSD := Lib.hid (fun i (hi : i < xs.length) => accD_succ b ds hi)
      have HSB := Lib.hid (fun i (hi : i < xs.length) => accB_succ b ds hi)
      clear HIA
      clear HI HC1 HC2 HIN
      obtain ⟨wo, hwo⟩ : ∃ wo : World, wo = wr := ⟨_, rfl⟩
      subst hwo
      go_wp2_with fail
      have e0 : wo.cell? ⟨w.heap.size, 0, none⟩ = some (.int .i64 b) := (box2 (hK.front 1 rfl)).1
      have e1 : wo.cell? ⟨w.heap.size, 1, none⟩ = some (.slice A ds.length c) := (box2 (hK.front 1 rfl)).2
      have m0 := World.new_ne wo _ e0
      have m1 := hK.size
      have HG := Lib.hid (box2 (hK.drew.front 1 rfl))
      go_cut [9, 10] (fun pp oo wx => ∃ (g9 gB : Nat) (E : Option Addr) (k : Nat) (T : TypeId), pp = .pointer (some ⟨g9, 0, none⟩) ∧ oo = .slice (some ⟨gB, 0, none⟩) 0 0 ∧ Kn w [.blk g9 [.int .i64 b, .slice E ds.length k] 26, .blk gB [] 2, rowI E k ds, .blk (w.heap.size + 1) [.int .i64 0, .slice none 0 0] 26, .blk w.heap.size [.int .i64 b, .slice A ds.length c] 26] wx)
      case first =>
        refine wp_region_held_drew (S := (fun W => W.cell? ⟨w.heap.size, 0, none⟩ = some (.int .i64 b) ∧ W.cell? ⟨w.heap.size, 1, none⟩ = some (.slice A ds.length c))) (by kernel_rfl) ?_ (fun hHeld => ?_)
        · exact HG.out
        try dsimp only
        have hKd := hK.drew
        generalize wo.drew = wd at hKd hHeld ⊢
        refine wpAnyH_take (i := 0) (v := ?_) rfl (by kernel_rfl) (by kernel_rfl) (by kernel_rfl) (fun _ _ _ h => h) (Or.inl ⟨by rfl, ?_⟩) hHeld ?_
        rotate_left
        · (intro w hSw; (try dsimp only at hSw); go_simp; try with_reducible rfl)
        try simp only [Act.put, List.setIfInBounds_toArray, List.set_cons_zero, List.set_cons_succ, List.getElem_toArray, List.getElem_cons_succ, List.getElem_cons_zero]
        refine wpAnyH_take (i := 1) (v := ?_) rfl (by kernel_rfl) (by kernel_rfl) (by kernel_rfl) (fun _ _ _ h => h) (Or.inl ⟨by rfl, ?_⟩) hHeld ?_
        rotate_left
        · (intro w hSw; (try dsimp only at hSw); go_simp; try with_reducible rfl)
        try simp only [Act.put, List.setIfInBounds_toArray, List.set_cons_zero, List.set_cons_succ, List.getElem_toArray, List.getElem_cons_succ, List.getElem_cons_zero]
        refine wpAnyH_take (i := 2) (v := ?_) rfl (by kernel_rfl) (by kernel_rfl) (by kernel_rfl) (fun _ _ _ h => h) (Or.inl ⟨by rfl, ?_⟩) hHeld ?_
        rotate_left
        · (intro w hSw; (try dsimp only at hSw); go_simp; try with_reducible rfl)
        try simp only [Act.put, List.setIfInBounds_toArray, List.set_cons_zero, List.set_cons_succ, List.getElem_toArray, List.getElem_cons_succ, List.getElem_cons_zero]
        refine wpAnyH_take (i := 3) (v := ?_) rfl (by kernel_rfl) (by kernel_rfl) (by kernel_rfl) (fun _ _ _ h => h) (Or.inl ⟨by rfl, ?_⟩) hHeld ?_
        rotate_left
        · (intro w hSw; (try dsimp only at hSw); go_simp; try with_reducible rfl)
        try simp only [Act.put, List.setIfInBounds_toArray, List.set_cons_zero, List.set_cons_succ, List.getElem_toArray, List.getElem_cons_succ, List.getElem_cons_zero]
        refine wpAnyH_ready (rs := [4, 6, 7]) (by kernel_rfl) (by decide) (AllReadyH.cons (o := _) rfl (fun K hK' => ?_) (AllReadyH.cons (o := _) rfl (fun K hK' => ?_) (AllReadyH.cons (o := _) rfl (fun K hK' => ?_) AllReadyH.nil)))
        · go_simp
          go_at_call 28
          (refine (KC.out _ hKd.below).mono ?_); rintro e w5 ⟨E, k, rfl, hKn⟩
          have hK4 := hKd.join hKn
          have HG := Lib.hid (box2 (hK4.front 2 rfl))
          refine hK'.out _ _ HG.out (fun hHeld2 => ?_)
          clear hK' K hHeld
          have hHeld := hHeld2
          clear hHeld2
          try simp only [Act.put, List.setIfInBounds_toArray]
          refine wpAnyH_take (i := 5) (v := ?_) rfl (by kernel_rfl) (by kernel_rfl) (by kernel_rfl) (fun _ _ _ h => h) (Or.inl ⟨by rfl, ?_⟩) hHeld ?_
          rotate_left
          · (intro w hSw; (try dsimp only at hSw); go_simp; try with_reducible rfl)
          try simp only [Act.put, List.setIfInBounds_toArray, List.set_cons_zero, List.set_cons_succ, List.getElem_toArray, List.getElem_cons_succ, List.getElem_cons_zero]
          refine wpAnyH_ready (rs := [6, 7]) (by kernel_rfl) (by decide) (AllReadyH.cons (o := _) rfl (fun K hK' => ?_) (AllReadyH.cons (o := _) rfl (fun K hK' => ?_) AllReadyH.nil))
          · go_simp
            have hK5 := hK4.al [] 2
            have HG := Lib.hid (box2 (hK5.front 3 rfl))
            refine hK'.out _ _ HG.out (fun hHeld2 => ?_)
            clear hK' K hHeld
            have hHeld := hHeld2
            clear hHeld2
            try simp only [Act.put, List.setIfInBounds_toArray]
            generalize w5.alloc (.cells #[] 2) = wb at hK5 hHeld ⊢
            obtain ⟨gB, hgB⟩ : ∃ g, w5.heap.size = g := ⟨_, rfl⟩
            rw [hgB] at hK5 ⊢
            refine wpAnyH_ready (rs := [7]) (by kernel_rfl) (by decide) (AllReadyH.cons (o := _) rfl (fun K hK' => ?_) AllReadyH.nil)
            go_simp
            have hK6 := hK5.al [.int .i64 0, .slice none 0 0] 26
            have HG := Lib.hid (box2 (hK6.front 4 rfl))
            refine hK'.out _ _ HG.out (fun hHeld2 => ?_)
            clear hK' K hHeld
            have hHeld := hHeld2
            clear hHeld2
            try simp only [Act.put, List.setIfInBounds_toArray]
            generalize wb.alloc (.cells #[.int .i64 0, .slice none 0 0] 26) = wq at hK6 hHeld ⊢
            obtain ⟨gQ, hgQ⟩ : ∃ g, wb.heap.size = g := ⟨_, rfl⟩
            rw [hgQ] at hK6 ⊢
            refine wpAnyH_ready (rs := [8]) (by kernel_rfl) (by decide) (AllReadyH.cons (o := _) rfl (fun K hK' => ?_) AllReadyH.nil)
            obtain ⟨s1, s2, s3⟩ := (hK6.front 0 rfl).blkAt
            have hK7 := ((hK6.front 0 rfl).st 0 (.int .i64 b)).st 1 (.slice E ds.length k)
            go_simp
            have HG := Lib.hid (box2 (hK7.front 4 rfl))
            refine hK'.out _ _ HG.out (fun hHeld2 => ?_)
            clear hK' K hHeld
            have hHeld := hHeld2
            clear hHeld2
            try simp only [Act.put, List.setIfInBounds_toArray]
            refine wpAnyH_take (i := 9) (v := ?_) rfl (by kernel_rfl) (by kernel_rfl) (by kernel_rfl) (fun _ _ _ h => h) (Or.inl ⟨by rfl, ?_⟩) hHeld ?_
            rotate_left
            · (intro w hSw; (try dsimp only at hSw); go_simp; try with_reducible rfl)
            try simp only [Act.put, List.setIfInBounds_toArray, List.set_cons_zero, List.set_cons_succ, List.getElem_toArray, List.getElem_cons_succ, List.getElem_cons_zero]
            refine wpAnyH_done (by kernel_rfl) ?_ _
            go_wp2_with fail
            go_meet
            exact ⟨_, _, _, _, 2, rfl, rfl, hK7.sel [0, 1, 2, 3, 4] 99 (by decide) (by decide)⟩
          · go_simp
            have hK5 := hK4.al [.int .i64 0, .slice none 0 0] 26
            have HG := Lib.hid (box2 (hK5.front 3 rfl))
            refine hK'.out _ _ HG.out (fun hHeld2 => ?_)
            clear hK' K hHeld
            have hHeld := hHeld2
            clear hHeld2
            try simp only [Act.put, List.setIfInBounds_toArray]
            generalize w5.alloc (.cells #[.int .i64 0, .slice none 0 0] 26) = wq at hK5 hHeld ⊢
            obtain ⟨gQ, hgQ⟩ : ∃ g, w5.heap.size = g := ⟨_, rfl⟩
            rw [hgQ] at hK5 ⊢
            refine wpAnyH_ready (rs := [6, 8]) (by kernel_rfl) (by decide) (AllReadyH.cons (o := _) rfl (fun K hK' => ?_) (AllReadyH.cons (o := _) rfl (fun K hK' => ?_) AllReadyH.nil))
            · go_simp
              have hK6 := hK5.al [] 2
              have HG := Lib.hid (box2 (hK6.front 4 rfl))
              refine hK'.out _ _ HG.out (fun hHeld2 => ?_)
              clear hK' K hHeld
              have hHeld := hHeld2
              clear hHeld2
              try simp only [Act.put, List.setIfInBounds_toArray]
              generalize wq.alloc (.cells #[] 2) = wb at hK6 hHeld ⊢
              obtain ⟨gB, hgB⟩ : ∃ g, wq.heap.size = g := ⟨_, rfl⟩
              rw [hgB] at hK6 ⊢
              refine wpAnyH_ready (rs := [8]) (by kernel_rfl) (by decide) (AllReadyH.cons (o := _) rfl (fun K hK' => ?_) AllReadyH.nil)
              obtain ⟨s1, s2, s3⟩ := (hK6.front 1 rfl).blkAt
              have hK7 := ((hK6.front 1 rfl).st 0 (.int .i64 b)).st 1 (.slice E ds.length k)
              go_simp
              have HG := Lib.hid (box2 (hK7.front 4 rfl))
              refine hK'.out _ _ HG.out (fun hHeld2 => ?_)
              clear hK' K hHeld
              have hHeld := hHeld2
              clear hHeld2
              try simp only [Act.put, List.setIfInBounds_toArray]
              refine wpAnyH_take (i := 9) (v := ?_) rfl (by kernel_rfl) (by kernel_rfl) (by kernel_rfl) (fun _ _ _ h => h) (Or.inl ⟨by rfl, ?_⟩) hHeld ?_
              rotate_left
              · (intro w hSw; (try dsimp only at hSw); go_simp; try with_reducible rfl)
              try simp only [Act.put, List.setIfInBounds_toArray, List.set_cons_zero, List.set_cons_succ, List.getElem_toArray, List.getElem_cons_succ, List.getElem_cons_zero]
              refine wpAnyH_done (by kernel_rfl) ?_ _
              go_wp2_with fail
              go_meet
              exact ⟨_, _, _, _, 2, rfl, rfl, hK7.sel [0, 1, 2, 3, 4] 99 (by decide) (by decide)⟩
            · obtain ⟨s1, s2, s3⟩ := (hK5.front 0 rfl).blkAt
              have hK6 := ((hK5.front 0 rfl).st 0 (.int .i64 b)).st 1 (.slice E ds.length k)
              go_simp
              have HG := Lib.hid (box2 (hK6.front 3 rfl))
              refine hK'.out _ _ HG.out (fun hHeld2 => ?_)
              clear hK' K hHeld
              have hHeld := hHeld2
              clear hHeld2
              try simp only [Act.put, List.setIfInBounds_toArray]
              refine wpAnyH_ready (rs := [6]) (by kernel_rfl) (by decide) (AllReadyH.cons (o := _) rfl (fun K hK' => ?_) AllReadyH.nil)
              go_simp
              have hK7 := hK6.al [] 2
              simp only [World.size_setCell] at hK7
              have HG := Lib.hid (box2 (hK7.front 4 rfl))
              refine hK'.out _ _ HG.out (fun hHeld2 => ?_)
              clear hK' K hHeld
              have hHeld := hHeld2
              clear hHeld2
              try simp only [Act.put, List.setIfInBounds_toArray]
              refine wpAnyH_take (i := 9) (v := ?_) rfl (by kernel_rfl) (by kernel_rfl) (by kernel_rfl) (fun _ _ _ h => h) (Or.inl ⟨by rfl, ?_⟩) hHeld ?_
              rotate_left
              · (intro w hSw; (try dsimp only at hSw); go_simp; try with_reducible rfl)
              try simp only [Act.put, List.setIfInBounds_toArray, List.set_cons_zero, List.set_cons_succ, List.getElem_toArray, List.getElem_cons_succ, List.getElem_cons_zero]
              refine wpAnyH_done (by kernel_rfl) ?_ _
              go_wp2_with fail
              go_meet
              exact ⟨_, _, _, _, 2, rfl, rfl, hK7.sel [1, 0, 2, 3, 4] 99 (by decide) (by decide)⟩
        · go_simp
          have hK4 := hKd.al [] 2
          have HG := Lib.hid (box2 (hK4.front 2 rfl))
          refine hK'.out _ _ HG.out (fun hHeld2 => ?_)
          clear hK' K hHeld
          have hHeld := hHeld2
          clear hHeld2
          try simp only [Act.put, List.setIfInBounds_toArray]
          generalize wd.alloc (.cells #[] 2) = wb at hK4 hHeld ⊢
          obtain ⟨gB, hgB⟩ : ∃ g, wd.heap.size = g := ⟨_, rfl⟩
          rw [hgB] at hK4 ⊢
          refine wpAnyH_ready (rs := [4, 7]) (by kernel_rfl) (by decide) (AllReadyH.cons (o := _) rfl (fun K hK' => ?_) (AllReadyH.cons (o := _) rfl (fun K hK' => ?_) AllReadyH.nil))
          · go_simp
            go_at_call 28
            (refine (KC.out _ hK4.below).mono ?_); rintro e w5 ⟨E, k, rfl, hKn⟩
            have hK5 := hK4.join hKn
            have HG := Lib.hid (box2 (hK5.front 3 rfl))
            refine hK'.out _ _ HG.out (fun hHeld2 => ?_)
            clear hK' K hHeld
            have hHeld := hHeld2
            clear hHeld2
            try simp only [Act.put, List.setIfInBounds_toArray]
            refine wpAnyH_take (i := 5) (v := ?_) rfl (by kernel_rfl) (by kernel_rfl) (by kernel_rfl) (fun _ _ _ h => h) (Or.inl ⟨by rfl, ?_⟩) hHeld ?_
            rotate_left
            · (intro w hSw; (try dsimp only at hSw); go_simp; try with_reducible rfl)
            try simp only [Act.put, List.setIfInBounds_toArray, List.set_cons_zero, List.set_cons_succ, List.getElem_toArray, List.getElem_cons_succ, List.getElem_cons_zero]
            refine wpAnyH_ready (rs := [7]) (by kernel_rfl) (by decide) (AllReadyH.cons (o := _) rfl (fun K hK' => ?_) AllReadyH.nil)
            go_simp
            have hK6 := hK5.al [.int .i64 0, .slice none 0 0] 26
            have HG := Lib.hid (box2 (hK6.front 4 rfl))
            refine hK'.out _ _ HG.out (fun hHeld2 => ?_)
            clear hK' K hHeld
            have hHeld := hHeld2
            clear hHeld2
            try simp only [Act.put, List.setIfInBounds_toArray]
            generalize w5.alloc (.cells #[.int .i64 0, .slice none 0 0] 26) = wq at hK6 hHeld ⊢
            obtain ⟨gQ, hgQ⟩ : ∃ g, w5.heap.size = g := ⟨_, rfl⟩
            rw [hgQ] at hK6 ⊢
            refine wpAnyH_ready (rs := [8]) (by kernel_rfl) (by decide) (AllReadyH.cons (o := _) rfl (fun K hK' => ?_) AllReadyH.nil)
            obtain ⟨s1, s2, s3⟩ := (hK6.front 0 rfl).blkAt
            have hK7 := ((hK6.front 0 rfl).st 0 (.int .i64 b)).st 1 (.slice E ds.length k)
            go_simp
            have HG := Lib.hid (box2 (hK7.front 4 rfl))
            refine hK'.out _ _ HG.out (fun hHeld2 => ?_)
            clear hK' K hHeld
            have hHeld := hHeld2
            clear hHeld2
            try simp only [Act.put, List.setIfInBounds_toArray]
            refine wpAnyH_take (i := 9) (v := ?_) rfl (by kernel_rfl) (by kernel_rfl) (by kernel_rfl) (fun _ _ _ h => h) (Or.inl ⟨by rfl, ?_⟩) hHeld ?_
            rotate_left
            · (intro w hSw; (try dsimp only at hSw); go_simp; try with_reducible rfl)
            try simp only [Act.put, List.setIfInBounds_toArray, List.set_cons_zero, List.set_cons_succ, List.getElem_toArray, List.getElem_cons_succ, List.getElem_cons_zero]
            refine wpAnyH_done (by kernel_rfl) ?_ _
            go_wp2_with fail
            go_meet
            exact ⟨_, _, _, _, 2, rfl, rfl, hK7.sel [0, 2, 1, 3, 4] 99 (by decide) (by decide)⟩
          · go_simp
            have hK5 := hK4.al [.int .i64 0, .slice none 0 0] 26
            have HG := Lib.hid (box2 (hK5.front 3 rfl))
            refine hK'.out _ _ HG.out (fun hHeld2 => ?_)
            clear hK' K hHeld
            have hHeld := hHeld2
            clear hHeld2
            try simp only [Act.put, List.setIfInBounds_toArray]
            generalize wb.alloc (.cells #[.int .i64 0, .slice none 0 0] 26) = wq at hK5 hHeld ⊢
            obtain ⟨gQ, hgQ⟩ : ∃ g, wb.heap.size = g := ⟨_, rfl⟩
            rw [hgQ] at hK5 ⊢
            refine wpAnyH_ready (rs := [4]) (by kernel_rfl) (by decide) (AllReadyH.cons (o := _) rfl (fun K hK' => ?_) AllReadyH.nil)
            go_simp
            go_at_call 28
            (refine (KC.out _ hK5.below).mono ?_); rintro e w5 ⟨E, k, rfl, hKn⟩
            have hK6 := hK5.join hKn
            have HG := Lib.hid (box2 (hK6.front 4 rfl))
            refine hK'.out _ _ HG.out (fun hHeld2 => ?_)
            clear hK' K hHeld
            have hHeld := hHeld2
            clear hHeld2
            try simp only [Act.put, List.setIfInBounds_toArray]
            refine wpAnyH_take (i := 5) (v := ?_) rfl (by kernel_rfl) (by kernel_rfl) (by kernel_rfl) (fun _ _ _ h => h) (Or.inl ⟨by rfl, ?_⟩) hHeld ?_
            rotate_left
            · (intro w hSw; (try dsimp only at hSw); go_simp; try with_reducible rfl)
            try simp only [Act.put, List.setIfInBounds_toArray, List.set_cons_zero, List.set_cons_succ, List.getElem_toArray, List.getElem_cons_succ, List.getElem_cons_zero]
            refine wpAnyH_ready (rs := [8]) (by kernel_rfl) (by decide) (AllReadyH.cons (o := _) rfl (fun K hK' => ?_) AllReadyH.nil)
            obtain ⟨s1, s2, s3⟩ := (hK6.front 1 rfl).blkAt
            have hK7 := ((hK6.front 1 rfl).st 0 (.int .i64 b)).st 1 (.slice E ds.length k)
            go_simp
            have HG := Lib.hid (box2 (hK7.front 4 rfl))
            refine hK'.out _ _ HG.out (fun hHeld2 => ?_)
            clear hK' K hHeld
            have hHeld := hHeld2
            clear hHeld2
            try simp only [Act.put, List.setIfInBounds_toArray]
            refine wpAnyH_take (i := 9) (v := ?_) rfl (by kernel_rfl) (by kernel_rfl) (by kernel_rfl) (fun _ _ _ h => h) (Or.inl ⟨by rfl, ?_⟩) hHeld ?_
            rotate_left
            · (intro w hSw; (try dsimp only at hSw); go_simp; try with_reducible rfl)
            try simp only [Act.put, List.setIfInBounds_toArray, List.set_cons_zero, List.set_cons_succ, List.getElem_toArray, List.getElem_cons_succ, List.getElem_cons_zero]
            refine wpAnyH_done (by kernel_rfl) ?_ _
            go_wp2_with fail
            go_meet
            exact ⟨_, _, _, _, 2, rfl, rfl, hK7.sel [0, 2, 1, 3, 4] 99 (by decide) (by decide)⟩
        · go_simp
          have hK4 := hKd.al [.int .i64 0, .slice none 0 0] 26
          have HG := Lib.hid (box2 (hK4.front 2 rfl))
          refine hK'.out _ _ HG.out (fun hHeld2 => ?_)
          clear hK' K hHeld
          have hHeld := hHeld2
          clear hHeld2
          try simp only [Act.put, List.setIfInBounds_toArray]
          generalize wd.alloc (.cells #[.int .i64 0, .slice none 0 0] 26) = wq at hK4 hHeld ⊢
          obtain ⟨gQ, hgQ⟩ : ∃ g, wd.heap.size = g := ⟨_, rfl⟩
          rw [hgQ] at hK4 ⊢
          refine wpAnyH_ready (rs := [4, 6]) (by kernel_rfl) (by decide) (AllReadyH.cons (o := _) rfl (fun K hK' => ?_) (AllReadyH.cons (o := _) rfl (fun K hK' => ?_) AllReadyH.nil))
          · go_simp
            go_at_call 28
            (refine (KC.out _ hK4.below).mono ?_); rintro e w5 ⟨E, k, rfl, hKn⟩
            have hK5 := hK4.join hKn
            have HG := Lib.hid (box2 (hK5.front 3 rfl))
            refine hK'.out _ _ HG.out (fun hHeld2 => ?_)
            clear hK' K hHeld
            have hHeld := hHeld2
            clear hHeld2
            try simp only [Act.put, List.setIfInBounds_toArray]
            refine wpAnyH_take (i := 5) (v := ?_) rfl (by kernel_rfl) (by kernel_rfl) (by kernel_rfl) (fun _ _ _ h => h) (Or.inl ⟨by rfl, ?_⟩) hHeld ?_
            rotate_left
            · (intro w hSw; (try dsimp only at hSw); go_simp; try with_reducible rfl)
            try simp only [Act.put, List.setIfInBounds_toArray, List.set_cons_zero, List.set_cons_succ, List.getElem_toArray, List.getElem_cons_succ, List.getElem_cons_zero]
            refine wpAnyH_ready (rs := [6, 8]) (by kernel_rfl) (by decide) (AllReadyH.cons (o := _) rfl (fun K hK' => ?_) (AllReadyH.cons (o := _) rfl (fun K hK' => ?_) AllReadyH.nil))
            · go_simp
              have hK6 := hK5.al [] 2
              have HG := Lib.hid (box2 (hK6.front 4 rfl))
              refine hK'.out _ _ HG.out (fun hHeld2 => ?_)
              clear hK' K hHeld
              have hHeld := hHeld2
              clear hHeld2
              try simp only [Act.put, List.setIfInBounds_toArray]
              generalize w5.alloc (.cells #[] 2) = wb at hK6 hHeld ⊢
              obtain ⟨gB, hgB⟩ : ∃ g, w5.heap.size = g := ⟨_, rfl⟩
              rw [hgB] at hK6 ⊢
              refine wpAnyH_ready (rs := [8]) (by kernel_rfl) (by decide) (AllReadyH.cons (o := _) rfl (fun K hK' => ?_) AllReadyH.nil)
              obtain ⟨s1, s2, s3⟩ := (hK6.front 2 rfl).blkAt
              have hK7 := ((hK6.front 2 rfl).st 0 (.int .i64 b)).st 1 (.slice E ds.length k)
              go_simp
              have HG := Lib.hid (box2 (hK7.front 4 rfl))
              refine hK'.out _ _ HG.out (fun hHeld2 => ?_)
              clear hK' K hHeld
              have hHeld := hHeld2
              clear hHeld2
              try simp only [Act.put, List.setIfInBounds_toArray]
              refine wpAnyH_take (i := 9) (v := ?_) rfl (by kernel_rfl) (by kernel_rfl) (by kernel_rfl) (fun _ _ _ h => h) (Or.inl ⟨by rfl, ?_⟩) hHeld ?_
              rotate_left
              · (intro w hSw; (try dsimp only at hSw); go_simp; try with_reducible rfl)
              try simp only [Act.put, List.setIfInBounds_toArray, List.set_cons_zero, List.set_cons_succ, List.getElem_toArray, List.getElem_cons_succ, List.getElem_cons_zero]
              refine wpAnyH_done (by kernel_rfl) ?_ _
              go_wp2_with fail
              go_meet
              exact ⟨_, _, _, _, 2, rfl, rfl, hK7.sel [0, 1, 2, 3, 4] 99 (by decide) (by decide)⟩
            · obtain ⟨s1, s2, s3⟩ := (hK5.front 1 rfl).blkAt
              have hK6 := ((hK5.front 1 rfl).st 0 (.int .i64 b)).st 1 (.slice E ds.length k)
              go_simp
              have HG := Lib.hid (box2 (hK6.front 3 rfl))
              refine hK'.out _ _ HG.out (fun hHeld2 => ?_)
              clear hK' K hHeld
              have hHeld := hHeld2
              clear hHeld2
              try simp only [Act.put, List.setIfInBounds_toArray]
              refine wpAnyH_ready (rs := [6]) (by kernel_rfl) (by decide) (AllReadyH.cons (o := _) rfl (fun K hK' => ?_) AllReadyH.nil)
              go_simp
              have hK7 := hK6.al [] 2
              simp only [World.size_setCell] at hK7
              have HG := Lib.hid (box2 (hK7.front 4 rfl))
              refine hK'.out _ _ HG.out (fun hHeld2 => ?_)
              clear hK' K hHeld
              have hHeld := hHeld2
              clear hHeld2
              try simp only [Act.put, List.setIfInBounds_toArray]
              refine wpAnyH_take (i := 9) (v := ?_) rfl (by kernel_rfl) (by kernel_rfl) (by kernel_rfl) (fun _ _ _ h => h) (Or.inl ⟨by rfl, ?_⟩) hHeld ?_
              rotate_left
              · (intro w hSw; (try dsimp only at hSw); go_simp; try with_reducible rfl)
              try simp only [Act.put, List.setIfInBounds_toArray, List.set_cons_zero, List.set_cons_succ, List.getElem_toArray, List.getElem_cons_succ, List.getElem_cons_zero]
              refine wpAnyH_done (by kernel_rfl) ?_ _
              go_wp2_with fail
              go_meet
              exact ⟨_, _, _, _, 2, rfl, rfl, hK7.sel [1, 0, 2, 3, 4] 99 (by decide) (by decide)⟩
          · go_simp
            have hK5 := hK4.al [] 2
            have HG := Lib.hid (box2 (hK5.front 3 rfl))
            refine hK'.out _ _ HG.out (fun hHeld2 => ?_)
            clear hK' K hHeld
            have hHeld := hHeld2
            clear hHeld2
            try simp only [Act.put, List.setIfInBounds_toArray]
            generalize wq.alloc (.cells #[] 2) = wb at hK5 hHeld ⊢
            obtain ⟨gB, hgB⟩ : ∃ g, wq.heap.size = g := ⟨_, rfl⟩
            rw [hgB] at hK5 ⊢
            refine wpAnyH_ready (rs := [4]) (by kernel_rfl) (by decide) (AllReadyH.cons (o := _) rfl (fun K hK' => ?_) AllReadyH.nil)
            go_simp
            go_at_call 28
            (refine (KC.out _ hK5.below).mono ?_); rintro e w5 ⟨E, k, rfl, hKn⟩
            have hK6 := hK5.join hKn
            have HG := Lib.hid (box2 (hK6.front 4 rfl))
            refine hK'.out _ _ HG.out (fun hHeld2 => ?_)
            clear hK' K hHeld
            have hHeld := hHeld2
            clear hHeld2
            try simp only [Act.put, List.setIfInBounds_toArray]
            refine wpAnyH_take (i := 5) (v := ?_) rfl (by kernel_rfl) (by kernel_rfl) (by kernel_rfl) (fun _ _ _ h => h) (Or.inl ⟨by rfl, ?_⟩) hHeld ?_
            rotate_left
            · (intro w hSw; (try dsimp only at hSw); go_simp; try with_reducible rfl)
            try simp only [Act.put, List.setIfInBounds_toArray, List.set_cons_zero, List.set_cons_succ, List.getElem_toArray, List.getElem_cons_succ, List.getElem_cons_zero]
            refine wpAnyH_ready (rs := [8]) (by kernel_rfl) (by decide) (AllReadyH.cons (o := _) rfl (fun K hK' => ?_) AllReadyH.nil)
            obtain ⟨s1, s2, s3⟩ := (hK6.front 2 rfl).blkAt
            have hK7 := ((hK6.front 2 rfl).st 0 (.int .i64 b)).st 1 (.slice E ds.length k)
            go_simp
            have HG := Lib.hid (box2 (hK7.front 4 rfl))
            refine hK'.out _ _ HG.out (fun hHeld2 => ?_)
            clear hK' K hHeld
            have hHeld := hHeld2
            clear hHeld2
            try simp only [Act.put, List.setIfInBounds_toArray]
            refine wpAnyH_take (i := 9) (v := ?_) rfl (by kernel_rfl) (by kernel_rfl) (by kernel_rfl) (fun _ _ _ h => h) (Or.inl ⟨by rfl, ?_⟩) hHeld ?_
            rotate_left
            · (intro w hSw; (try dsimp only at hSw); go_simp; try with_reducible rfl)
            try simp only [Act.put, List.setIfInBounds_toArray, List.set_cons_zero, List.set_cons_succ, List.getElem_toArray, List.getElem_cons_succ, List.getElem_cons_zero]
            refine wpAnyH_done (by kernel_rfl) ?_ _
            go_wp2_with fail
            go_meet
            exact ⟨_, _, _, _, 2, rfl, rfl, hK7.sel [0, 2, 1, 3, 4] 99 (by decide) (by decide)⟩
      case rest =>
        obtain ⟨g9, gB, E, k, T, rfl, rfl, hK5⟩ := hcut
        have hK6 : Kn w [rowI (some ⟨gB, 0, none⟩) 0 [], .blk g9 [.int .i64 b, .slice E ds.length k] 26, rowI E k ds, .blk (w.heap.size + 1) [.int .i64 0, .slice none 0 0] 26, .blk w.heap.size [.int .i64 b, .slice A ds.length c] 26] _ := ((hK5.front 1 rfl).litRow (size := 1) (n := 0) rfl (by decide))
        clear hK hK5 HG e0 e1 m0 m1
        go_wp2_with fail
        go_loopw [10, 39] (fun vv kk wr => ∃ (i : Nat) (B : Option Addr) (m : Nat) (E : Option Addr) (k : Nat) (us bs : List Int), i ≤ xs.length ∧ kk = .int .i64 i ∧ vv = .slice B bs.length m ∧ us.length = ds.length ∧ bs.length ≤ i ∧ Hid (us = accD b ds xs i ∧ bs = accB b ds xs i) ∧ Kn w [rowI B m bs, .blk g9 [.int .i64 b, .slice E us.length k] 26, rowI E k us, .blk (w.heap.size + 1) [.int .i64 0, .slice none 0 0] 26, .blk w.heap.size [.int .i64 b, .slice A ds.length c] 26] wr) (fun _ kk _ => xs.length - (intOf kk).toNat)
        case atStart => exact ⟨0, some ⟨gB, 0, none⟩, 0, E, k, ds, [], Nat.zero_le _, rfl, rfl, rfl, Nat.zero_le _, Lib.hid ⟨rfl, rfl⟩, hK6⟩
        case round =>
          obtain ⟨i, B, m, E, k, us, bs, hi, rfl, rfl, hul, hbl, HUB, hK⟩ := hrel
          clear hK6
          by_cases hin : i < xs.length
          · have hi1 : (i : Int) < (xs.length : Int) := by omega
            obtain ⟨ad, hA, hlt, hkl, hc⟩ := (HX.out _ hK.below).at_ hin
            subst hA
            have hxb := HAL.out i hkl
            have hs1 := HSD.out i hkl
            have hs2 := HSB.out i hkl
            rw [← HUB.out.1] at hs1 hs2
            rw [← HUB.out.2] at hs2
            obtain ⟨x, hxx⟩ : ∃ x, xs[i] = x := ⟨_, rfl⟩
            rw [hxx] at hc hxb hs1 hs2
            have hxb := betB_iff.1 hxb
            have hou : aOk b us = true := by rw [HUB.out.1]; exact HO.out i
            have KA := (fun W (hr : RI W E us.length us) => accumulated_any b E k us x W hr hou (by omega))
            rw [hul, HPW.out] at KA
            rw [HPW.out] at hs2
            obtain ⟨vs, hvs⟩ : ∃ l, aSet b ds.length (aNum b us + x) = l := ⟨_, rfl⟩
            obtain ⟨r, hr2⟩ : ∃ r, isNm n (aNum b us + x) = r := ⟨_, rfl⟩
            rw [hvs, hr2] at KA
            rw [hvs] at hs1
            rw [hr2] at hs2
            have HVL := Lib.hid (show vs.length = ds.length by rw [← hvs]; exact aSet_len ..)
            replace KA := Lib.hid KA
            have HS1 := Lib.hid hs1
            rw [hul] at hK
            have HUL := Lib.hid hul
            clear hxx hou hvs hr2 hs1 hxb HUB hul
            rcases r with _ | _
            · have HS2 := Lib.hid (show accB b ds xs (i + 1) = bs ++ [(i : Int)] from hs2)
              clear hs2
              obtain ⟨a1, a2, a3, -⟩ := hK.cells
              go_wp2_with fail
              (refine (KA.out _ (by rw [← HUL.out]; exact Kn.riv (hK.sel [2] 99 (by decide) (by decide)))).mono ?_); rintro e w3 ⟨F, f, rfl, hKn⟩
              have hK3 := hK.join hKn
              clear hK hKn a1 a2 a3
              obtain ⟨a1, a2, a3, -⟩ := hK3.cells
              go_upto_region 15 with fail
              refine Code.wp.kn (((((hK3.front 2 rfl).st 0 (.int .i64 b)).st 1 (.slice F vs.length f)).al_ (.cells #[.int .i64 b, .slice F vs.length f] 26)).sel [2, 0, 1, 4, 5] 99 (by decide) (by decide)) ?_; intro w8 hK8
              clear hK3 a1 a2 a3
              go_wp2_with (at_builtin; refine kn_pushI rfl _ _ rfl _ bs rfl rfl (hK8.al [.int .i64 (i : Int)] 2) (by omega) ?_; intro v5 w6 hK9; obtain ⟨A5, c5, rfl⟩ := row_form hK9.at0)
              go_roundw
              case rel =>
                refine ⟨i + 1, A5, c5, F, f, vs, bs ++ [(i : Int)], by omega, by go_num, by simp, HVL.out, by simp; omega, Lib.hid ⟨HS1.out.symm, HS2.out.symm⟩, ?_⟩
                exact hK9
              case measure => simp [intOf]; omega
            · have HS2 := Lib.hid (show accB b ds xs (i + 1) = bs from hs2)
              clear hs2
              obtain ⟨a1, a2, a3, -⟩ := hK.cells
              go_wp2_with fail
              (refine (KA.out _ (by rw [← HUL.out]; exact Kn.riv (hK.sel [2] 99 (by decide) (by decide)))).mono ?_); rintro e w3 ⟨F, f, rfl, hKn⟩
              have hK3 := hK.join hKn
              clear hK hKn a1 a2 a3
              obtain ⟨a1, a2, a3, -⟩ := hK3.cells
              go_upto_region 15 with fail
              refine Code.wp.kn (((((hK3.front 2 rfl).st 0 (.int .i64 b)).st 1 (.slice F vs.length f)).al_ (.cells #[.int .i64 b, .slice F vs.length f] 26)).sel [2, 0, 1, 4, 5] 99 (by decide) (by decide)) ?_; intro w8 hK8
              clear hK3 a1 a2 a3
              go_wp2_with fail
              go_roundw
              case rel =>
                refine ⟨i + 1, B, m, F, f, vs, bs, by omega, by go_num, rfl, HVL.out, by omega, Lib.hid ⟨HS1.out.symm, HS2.out.symm⟩, ?_⟩
                exact hK8
              case measure => simp [intOf]; omega
          · have hi1 : ¬ (i : Int) < (xs.length : Int) := by omega
            obtain rfl : i = xs.length := by omega
            rw [hul] at hK
            have HUL := Lib.hid hul
            clear hul
            obtain ⟨a1, a2, a3, d1, d2, d3, -⟩ := hK.cells
            go_wp2_with fail
            refine bodyPost.kn (((hK.front 3 rfl).st 0 (.int .i64 b)).st 1 (.slice E ds.length k)) ?_; intro w9 hK9
            clear a1 a2 a3 d1 d2 d3
            obtain ⟨a1, a2, a3, -⟩ := hK9.cells
            refine bodyPost_ret (v := .tuple #[.agg #[.int .i64 b, .slice E ds.length k], .slice B bs.length m, .int .i64 0]) (by simp [results, Try.results6, go_sem, a1]) rfl (.inr ⟨HC.out, E, k, B, m, ?_, ?_⟩)
            · rw [← HUB.out.1, ← HUB.out.2, HUL.out]
            · rw [← HUB.out.1, ← HUB.out.2]
              exact hK9.sel [1, 3] 99 (by decide) (by decide)
end Go.Proofs.Ytikcifpdnbhpiaa

namespace Go.Proofs.Ytikcifpdnbhpiaa
open Go.RowKit Go.Sort
set_option maxRecDepth 100000 in
set_option maxHeartbeats 6400000 in
theorem specAccumulateAll_any (b : Int) (A : Option Addr) (c : Nat) (ds : List Int) (X : Option Addr) (xc : Nat) (xs : List Int) (w : World) (hr : RI w A ds.length ds) (hm : ds.length ≤ 9223372036854775807) (hx : RI w X xs.length xs) (hxm : xs.length ≤ 1000000) :
    Calls Try.prog 7 #[.agg #[.int .i64 b, .slice A ds.length c], .slice X xs.length xc] w (AARet b ds xs w) := by
  unfold AARet
  have HR := (fun W (hW : Kn w [.blk (w.heap.size + 1) [.int .i64 0, .slice none 0 0] 26, .blk w.heap.size [.int .i64 b, .slice A ds.length c] 26] W) => show RegB W w.heap.size b A c ds from ⟨box2 hW.drop, hr.below hW.below⟩)
  have KS := (fun W (hW : Kn w [.blk (w.heap.size + 1) [.int .i64 0, .slice none 0 0] 26, .blk w.heap.size [.int .i64 b, .slice A ds.length c] 26] W) => l09Ok_any w.heap.size b A c ds W (HR W hW) hm)
  rcases ho : aOk b ds with _ | _
  · have HC := Lib.hid (show aaC b ds xs = 1 by unfold aaC; rw [if_pos ho])
    rw [ho] at KS
    replace KS := Lib.hid KS
    clear hr ho hx HR
    go_enter Try.func7, Try.ntmps7
    go_wp2_with fail
    refine Calls.kn (((Kn.nil w).al [.int .i64 b, .slice A ds.length c] 26).al [.int .i64 0, .slice none 0 0] 26) ?_; intro w1 hK1
    simp only [World.size_alloc] at hK1
    (refine (KS.out _ hK1).mono ?_); rintro e w2 ⟨rfl, hw⟩
    have hK2 := hK1.keep hw
    obtain ⟨x1, x2, x3, -⟩ := hK2.cells
    go_wp2_with fail
    refine bodyPost.kn ((hK2.st 0 (.int .i64 0)).st 1 (.slice none 0 0)) ?_; intro w9 hK9
    obtain ⟨a1, a2, a3, -⟩ := hK9.cells
    exact bodyPost_ret (v := .tuple #[.agg #[.int .i64 0, .slice none 0 0], .slice none 0 0, .int .i64 1]) (by simp [results, Try.results7, go_sem, a1]) rfl (.inl ⟨by rw [HC.out]; decide, by rw [HC.out], hK9.below⟩)
  rw [ho] at KS
  have hv := valL_in ho
  obtain ⟨h1, h2⟩ := aOk_iff.1 ho
  obtain ⟨-, ⟨n1, n2⟩, -⟩ := vreg_iff.1 h1
  have HO := Lib.hid (accD_ok ho xs)
  have HC1 := Lib.hid (fun k (h : k < xs.length) (h2 : betB xs[k] (-1000000000000) 1000000000000 = false) => show aaC b ds xs = 2 by unfold aaC; rw [if_neg (by rw [ho]; decide), if_pos (inA_not h h2)])
  have HC2 := Lib.hid (fun (h : inA xs = true) => show aaC b ds xs = 0 by unfold aaC; rw [if_neg (by rw [ho]; decide), if_neg (by rw [h]; decide)])
  have KC := Lib.hid (fun W (hW : Kn w [.blk (w.heap.size + 1) [.int .i64 0, .slice none 0 0] 26, .blk w.heap.size [.int .i64 b, .slice A ds.length c] 26] W) => l02Own_any ⟨w.heap.size, 0, none⟩ b A ds.length c ds W (box2 hW.drop) (hr.below hW.below) (by omega) (by omega))
  have KB := Lib.hid (fun x W => l09Most_any x W)
  have HX := Lib.hid (fun W (hW : Below w.heap.size w W) => hx.below hW)
  obtain ⟨n, hn⟩ : ∃ n, pw b ds.length = n := ⟨_, rfl⟩
  have HPW := Lib.hid hn
  replace KS := Lib.hid KS
  have HTK := Lib.hid (show xs.take xs.length = xs from List.take_length)
  have HIN := Lib.hid (fun k (h : k < xs.length) => inA_take_succ h)
  clear hr ho hx hv h1 h2 hn HR
  go_enter Try.func7, Try.ntmps7
  go_wp2_with fail
  refine Calls.kn (((Kn.nil w).al [.int .i64 b, .slice A ds.length c] 26).al [.int .i64 0, .slice none 0 0] 26) ?_; intro w1 hK1
  simp only [World.size_alloc] at hK1
  (refine (KS.out _ hK1).mono ?_); rintro e w2 ⟨rfl, hw⟩
  have hK2 : Kn w [.blk (w.heap.size + 1) [.int .i64 0, .slice none 0 0] 26, .blk w.heap.size [.int .i64 b, .slice A ds.length c] 26] w2 := hK1.keep hw
  clear hw hK1
  go_wp2_with fail
  go_loopw [7] (fun kk wr => ∃ (k : Nat), k ≤ xs.length ∧ kk = .int .i64 k ∧ Hid (inA (xs.take k) = true) ∧ Kn w [.blk (w.heap.size + 1) [.int .i64 0, .slice none 0 0] 26, .blk w.heap.size [.int .i64 b, .slice A ds.length c] 26] wr) (fun kk _ => xs.length - (intOf kk).toNat)
  case atStart => exact ⟨0, Nat.zero_le _, rfl, Lib.hid rfl, hK2⟩
  case round =>
    obtain ⟨k, hk, rfl, HI, hK⟩ := hrel
    clear hK2
    by_cases hkn : k < xs.length
    · have hk1 : (k : Int) < (xs.length : Int) := by omega
      obtain ⟨ad, hA, hlt, hkl, hc⟩ := (HX.out _ hK.below).at_ hkn
      subst hA
      have HI1 := HIN.out k hkl
      have HCK := HC1.out k hkl
      obtain ⟨x, hxx⟩ : ∃ x, xs[k] = x := ⟨_, rfl⟩
      rw [hxx] at hc HI1 HCK
      have KB1 := KB.out x
      clear hxx
      rcases hbt : betB x (-1000000000000) 1000000000000 with _ | _
      · have HC := Lib.hid (HCK hbt)
        rw [hbt] at KB1
        replace KB1 := Lib.hid KB1
        clear hbt HI1 HCK
        go_wp2_with fail
        (with_reducible refine (KB1.out _).mono ?_); rintro e w3 ⟨rfl, rfl⟩
        have hK3 := hK
        obtain ⟨x1, x2, x3, -⟩ := hK3.cells
        go_wp2_with fail
        refine bodyPost.kn ((hK3.st 0 (.int .i64 0)).st 1 (.slice none 0 0)) ?_; intro w9 hK9
        obtain ⟨a1, a2, a3, -⟩ := hK9.cells
        exact bodyPost_ret (v := .tuple #[.agg #[.int .i64 0, .slice none 0 0], .slice none 0 0, .int .i64 2]) (by simp [results, Try.results7, go_sem, a1]) rfl (.inl ⟨by rw [HC.out]; decide, by rw [HC.out], hK9.below⟩)
      · have HI2 := Lib.hid (show inA (xs.take (k + 1)) = true by rw [HI1, HI.out, hbt]; rfl)
        rw [hbt] at KB1
        replace KB1 := Lib.hid KB1
        clear hbt HI1 HCK
        go_wp2_with fail
        (with_reducible refine (KB1.out _).mono ?_); rintro e w3 ⟨rfl, rfl⟩
        have hK3 := hK
        clear hK
        go_wp2_with fail
        go_roundw
        case rel => exact ⟨k + 1, by omega, by go_num, HI2, hK3⟩
        case measure => simp [intOf]; omega
    · have hk1 : ¬ (k : Int) < (xs.length : Int) := by omega
      obtain rfl : k = xs.length := by omega
      have HIA := (show inA xs = true by rw [← HTK.out]; exact HI.out)
      have HC := Lib.hid (HC2.out HIA)
      have HAL := Lib.hid (fun i (hi : i < xs.length) => inA_get HIA hi)
      have HSD := Lib.hid (fun i (hi : i < xs.length) => accD_succ b ds hi)
      have HSB := Lib.hid (fun i (hi : i < xs.length) => accB_succ b ds hi)
      clear HIA
      clear HI HC1 HC2 HIN
      go_wp2_with fail
      (refine (KC.out _ hK).mono ?_); rintro e w4 ⟨E, k, rfl, hKn⟩
      have hK4 := hK.join hKn
      clear hK hKn
      go_upto_region 10 with fail
      refine Code.wp.kn ((hK4.al [.int .i64 b, .slice E ds.length k] 26).al [] 2) ?_; intro w5 hK5
      simp only [World.size_alloc] at hK5
      have hK6 : Kn w [rowI (some ⟨w4.heap.size + 1, 0, none⟩) 0 [], .blk w4.heap.size [.int .i64 b, .slice E ds.length k] 26, rowI E k ds, .blk (w.heap.size + 1) [.int .i64 0, .slice none 0 0] 26, .blk w.heap.size [.int .i64 b, .slice A ds.length c] 26] w5 := hK5.litRow (size := 1) (n := 0) rfl (by decide)
      obtain ⟨g9, hg9⟩ : ∃ g, w4.heap.size = g := ⟨_, rfl⟩
      rw [hg9] at hK6 ⊢
      clear hK5 hK4 hg9
      go_wp2_with fail
      go_loopw [9, 10] (fun vv kk wr => ∃ (i : Nat) (B : Option Addr) (m : Nat) (E : Option Addr) (k : Nat) (us bs : List Int), i ≤ xs.length ∧ kk = .int .i64 i ∧ vv = .slice B bs.length m ∧ us.length = ds.length ∧ bs.length ≤ i ∧ Hid (us = accD b ds xs i ∧ bs = accB b ds xs i) ∧ Kn w [rowI B m bs, .blk g9 [.int .i64 b, .slice E us.length k] 26, rowI E k us, .blk (w.heap.size + 1) [.int .i64 0, .slice none 0 0] 26, .blk w.heap.size [.int .i64 b, .slice A ds.length c] 26] wr) (fun _ kk _ => xs.length - (intOf kk).toNat)
      case atStart => exact ⟨0, some ⟨g9 + 1, 0, none⟩, 0, E, k, ds, [], Nat.zero_le _, rfl, rfl, rfl, Nat.zero_le _, Lib.hid ⟨rfl, rfl⟩, hK6⟩
      case round =>
        obtain ⟨i, B, m, E, k, us, bs, hi, rfl, rfl, hul, hbl, HUB, hK⟩ := hrel
        clear hK6
        by_cases hin : i < xs.length
        · have hi1 : (i : Int) < (xs.length : Int) := by omega
          obtain ⟨ad, hA, hlt, hkl, hc⟩ := (HX.out _ hK.below).at_ hin
          subst hA
          have hxb := HAL.out i hkl
          have hs1 := HSD.out i hkl
          have hs2 := HSB.out i hkl
          rw [← HUB.out.1] at hs1 hs2
          rw [← HUB.out.2] at hs2
          obtain ⟨x, hxx⟩ : ∃ x, xs[i] = x := ⟨_, rfl⟩
          rw [hxx] at hc hxb hs1 hs2
          have hxb := betB_iff.1 hxb
          have hou : aOk b us = true := by rw [HUB.out.1]; exact HO.out i
          have KA := (fun W (hB : RegB W g9 b E k us) => l09Add_any g9 b E k us x W hB hou (by omega))
          rw [hul, HPW.out] at KA
          rw [HPW.out] at hs2
          obtain ⟨vs, hvs⟩ : ∃ l, aSet b ds.length (aNum b us + x) = l := ⟨_, rfl⟩
          obtain ⟨r, hr2⟩ : ∃ r, isNm n (aNum b us + x) = r := ⟨_, rfl⟩
          rw [hvs, hr2] at KA
          rw [hvs] at hs1
          rw [hr2] at hs2
          have HVL := Lib.hid (show vs.length = ds.length by rw [← hvs]; exact aSet_len ..)
          replace KA := Lib.hid KA
          have HS1 := Lib.hid hs1
          have HRB := Lib.hid (show RegB wr g9 b E k us from ⟨box2 (hK.front 1 rfl), Kn.riv (hK.sel [2] 99 (by decide) (by decide))⟩)
          rw [hul] at hK
          have HUL := Lib.hid hul
          clear hxx hou hvs hr2 hs1 hxb HUB hul
          rcases r with _ | _
          · have HS2 := Lib.hid (show accB b ds xs (i + 1) = bs ++ [(i : Int)] from hs2)
            clear hs2
            obtain ⟨a1, a2, a3, -⟩ := hK.cells
            go_wp2_with fail
            (refine (KA.out _ HRB.out).mono ?_); rintro e w3 ⟨F, f, rfl, hKn⟩
            have hK3 := hK.join hKn
            clear hK hKn HRB a1 a2 a3
            obtain ⟨a1, a2, a3, -⟩ := hK3.cells
            go_upto_region 15 with fail
            refine Code.wp.kn (((((hK3.front 2 rfl).st 0 (.int .i64 b)).st 1 (.slice F vs.length f)).al_ (.cells #[.int .i64 b, .slice F vs.length f] 26)).sel [2, 0, 1, 4, 5] 99 (by decide) (by decide)) ?_; intro w8 hK8
            clear hK3 a1 a2 a3
            go_wp2_with (at_builtin; refine kn_pushI rfl _ _ rfl _ bs rfl rfl (hK8.al [.int .i64 (i : Int)] 2) (by omega) ?_; intro v5 w6 hK9; obtain ⟨A5, c5, rfl⟩ := row_form hK9.at0)
            go_roundw
            case rel =>
              refine ⟨i + 1, A5, c5, F, f, vs, bs ++ [(i : Int)], by omega, by go_num, by simp, HVL.out, by simp; omega, Lib.hid ⟨HS1.out.symm, HS2.out.symm⟩, ?_⟩
              exact hK9
            case measure => simp [intOf]; omega
          · have HS2 := Lib.hid (show accB b ds xs (i + 1) = bs from hs2)
            clear hs2
            obtain ⟨a1, a2, a3, -⟩ := hK.cells
            go_wp2_with fail
            (refine (KA.out _ HRB.out).mono ?_); rintro e w3 ⟨F, f, rfl, hKn⟩
            have hK3 := hK.join hKn
            clear hK hKn HRB a1 a2 a3
            obtain ⟨a1, a2, a3, -⟩ := hK3.cells
            go_upto_region 15 with fail
            refine Code.wp.kn (((((hK3.front 2 rfl).st 0 (.int .i64 b)).st 1 (.slice F vs.length f)).al_ (.cells #[.int .i64 b, .slice F vs.length f] 26)).sel [2, 0, 1, 4, 5] 99 (by decide) (by decide)) ?_; intro w8 hK8
            clear hK3 a1 a2 a3
            go_wp2_with fail
            go_roundw
            case rel =>
              refine ⟨i + 1, B, m, F, f, vs, bs, by omega, by go_num, rfl, HVL.out, by omega, Lib.hid ⟨HS1.out.symm, HS2.out.symm⟩, ?_⟩
              exact hK8
            case measure => simp [intOf]; omega
        · have hi1 : ¬ (i : Int) < (xs.length : Int) := by omega
          obtain rfl : i = xs.length := by omega
          rw [hul] at hK
          have HUL := Lib.hid hul
          clear hul
          obtain ⟨a1, a2, a3, d1, d2, d3, -⟩ := hK.cells
          go_wp2_with fail
          refine bodyPost.kn (((hK.front 3 rfl).st 0 (.int .i64 b)).st 1 (.slice E ds.length k)) ?_; intro w9 hK9
          clear a1 a2 a3 d1 d2 d3
          obtain ⟨a1, a2, a3, -⟩ := hK9.cells
          refine bodyPost_ret (v := .tuple #[.agg #[.int .i64 b, .slice E ds.length k], .slice B bs.length m, .int .i64 0]) (by simp [results, Try.results7, go_sem, a1]) rfl (.inr ⟨HC.out, E, k, B, m, ?_, ?_⟩)
          · rw [← HUB.out.1, ← HUB.out.2, HUL.out]
          · rw [← HUB.out.1, ← HUB.out.2]
            exact hK9.sel [1, 3] 99 (by decide) (by decide)
end Go.Proofs.Ytikcifpdnbhpiaa

namespace Go.Proofs.Ytikcifpdnbhpiaa
open Go.RowKit Go.Sort
theorem gtrans {w a b : World} {o : Option Nat} (h1 : w.grownBy a o) (h2 : a.grownBy b o) : w.grownBy b o :=
  ⟨h2.os.trans h1.os, h2.tape.trans h1.tape, h2.output.trans h1.output, Nat.le_trans h1.size h2.size, fun k hk hne => (h2.block k (Nat.lt_of_lt_of_le hk h1.size) hne).trans (h1.block k hk hne)⟩
/-- a source of draws at block b, from which at most N draws were taken -/
def Src (w : World) (b N : Nat) : Prop := ∃ (A : Option Addr) (n c k : Nat) (seed : Int) (bs : List UInt8), w.cell? ⟨b, 0, none⟩ = some (.slice A n c) ∧ w.cell? ⟨b, 1, none⟩ = some (.int .i64 (k : Int)) ∧ w.cell? ⟨b, 2, none⟩ = some (.int .u64 seed) ∧
  w.frozen? ⟨b, 1, none⟩ = false ∧ w.frozen? ⟨b, 2, none⟩ = false ∧ RB w A n bs ∧ k ≤ N ∧ n ≤ 9223372036854775807 ∧ (0 < n → ∀ ad, A = some ad → ad.block < b) ∧ b < w.heap.size
theorem low_byte (x : Int) : 0 ≤ wrap64 (bits .and .u64 (IntKind.u64.wrap x / 1099511627776) 255) ∧ wrap64 (bits .and .u64 (IntKind.u64.wrap x / 1099511627776) 255) ≤ 255 := by
  obtain ⟨a, ha, ha2⟩ : ∃ a : Nat, IntKind.u64.wrap x / 1099511627776 = (a : Int) ∧ a < 18446744073709551616 := by
    rw [IntKind.wrap_u64]
    exact ⟨(x % 18446744073709551616 / 1099511627776).toNat, by omega, by omega⟩
  rw [ha]
  have h := bits_and_u64_nat a 255 ha2 (by omega)
  have h2 : a &&& 255 ≤ 255 := Nat.and_le_right
  have h3 : bits .and .u64 (a : Int) 255 = ((a &&& 255 : Nat) : Int) := h
  rw [h3]
  unfold wrap64
  omega
theorem src_step {w : World} {b N k n c : Nat} {A : Option Addr} {seed : Int} {bs : List UInt8} (c0 : w.cell? ⟨b, 0, none⟩ = some (.slice A n c)) (c1 : w.cell? ⟨b, 1, none⟩ = some (.int .i64 (k : Int))) (c2 : w.cell? ⟨b, 2, none⟩ = some (.int .u64 seed))
    (f1 : w.frozen? ⟨b, 1, none⟩ = false) (f2 : w.frozen? ⟨b, 2, none⟩ = false) (hb : RB w A n bs) (hk : k ≤ N) (hn : n ≤ 9223372036854775807) (hne : 0 < n → ∀ ad, A = some ad → ad.block < b) (hlt : b < w.heap.size) (s : Int) :
    Src ((w.setCell ⟨b, 1, none⟩ (.int .i64 ((k : Int) + 1))).setCell ⟨b, 2, none⟩ (.int .u64 s)) b (N + 1) ∧ w.grownBy ((w.setCell ⟨b, 1, none⟩ (.int .i64 ((k : Int) + 1))).setCell ⟨b, 2, none⟩ (.int .u64 s)) (some b) := by
  refine ⟨⟨A, n, c, k + 1, s, bs, by go_simp, by go_simp, by go_simp, by go_simp, by go_simp, ⟨hb.1, fun h0 => ?_⟩, by omega, hn, hne, by simp [World.setCell]; exact hlt⟩, ⟨rfl, rfl, rfl, by simp [World.setCell], fun g _ hg => ?_⟩⟩
  · obtain ⟨ad, e, hl, hc⟩ := hb.2 h0
    refine ⟨ad, e, by simp [World.setCell]; exact hl, fun j u hu => ?_⟩
    have h1 : ad.block ≠ b := Nat.ne_of_lt (hne h0 ad e)
    rw [World.cell?_setCell_far _ _ _ _ (by rw [block_of_add]; exact Ne.symm h1), World.cell?_setCell_far _ _ _ _ (by rw [block_of_add]; exact Ne.symm h1)]
    exact hc j u hu
  · rw [heap_setCell_other _ _ _ _ (fun e => hg (by rw [e])), heap_setCell_other _ _ _ _ (fun e => hg (by rw [e]))]
theorem Src.drewN {w : World} {b N : Nat} (h : Src w b N) (q : Nat) : Src (w.drewN q) b N := h
theorem gDrew {w w' : World} {o : Option Nat} (h : w.grownBy w' o) (q : Nat) : w.grownBy (w'.drewN q) o := ⟨h.os, h.tape, h.output, h.size, h.block⟩
theorem gDrewL {w w' : World} {o : Option Nat} {q : Nat} (h : (w.drewN q).grownBy w' o) : w.grownBy w' o := ⟨h.os, h.tape, h.output, h.size, h.block⟩
set_option maxHeartbeats 1600000 in
theorem next_any (b N : Nat) (w : World) (h : Src w b N) (hN : N ≤ 1000000) :
    Calls Try.prog 46 #[.pointer (some ⟨b, 0, none⟩)] w fun e w' => ∃ x : Int, e = .returned (.int .i64 x) ∧ 0 ≤ x ∧ x ≤ 255 ∧ Src w' b (N + 1) ∧ w.grownBy w' (some b) := by
  obtain ⟨A, n, c, k, seed, bs, c0, c1, c2, f1, f2, hb, hk, hn, hne, hlt⟩ := h
  have HB := Lib.hid hb
  by_cases hkn : k < n
  · obtain ⟨ad, hA, hl, hc⟩ := hb.2 (by omega)
    have hbl : k < bs.length := by have := hb.1; omega
    have hcb := hc k _ (List.getElem?_eq_getElem hbl)
    have hi0 : (0 : Int) ≤ (k : Int) := by omega
    have hi1 : (k : Int) < (n : Int) := by omega
    have hi2 : (k : Int) + 1 ≤ (n : Int) := by omega
    unfold byteV at hcb
    obtain ⟨u, hu⟩ : ∃ u : Nat, u = bs[k].toNat := ⟨_, rfl⟩
    have hu2 : u < 256 := by rw [hu]; exact UInt8.toNat_lt _
    rw [← hu] at hcb
    subst hA
    clear hu hb hc
    go_enter Try.func46, Try.ntmps46
    go_wp2
    go_quiet (fail)
    go_wp2
    go_quiet (fail)
    go_wp2
    go_quiet (fail)
    go_wp2
    go_ret
    refine ⟨_, rfl, by omega, by omega, ?_⟩
    have z := fun q => src_step (w := w.drewN q) c0 c1 c2 f1 f2 HB.out hk hn hne hlt
    exact ⟨(z _ _).1.drewN _, gDrew (gDrewL (z _ _).2) _⟩
  · have hi1 : ¬ (k : Int) < (n : Int) := by omega
    have hi2 : ¬ (k : Int) + 1 ≤ (n : Int) := by omega
    clear hb
    go_enter Try.func46, Try.ntmps46
    go_wp2
    go_quiet (fail)
    go_wp2
    go_quiet (fail)
    go_wp2
    go_ret
    obtain ⟨q1, q2⟩ := low_byte (IntKind.u64.wrap (IntKind.u64.wrap (seed * 6364136223846793005)) + 1442695040888963407)
    refine ⟨_, rfl, q1, q2, ?_⟩
    have z := fun q => src_step (w := w.drewN q) c0 c1 c2 f1 f2 HB.out hk hn hne hlt
    exact ⟨(z _ _).1.drewN _, gDrew (gDrewL (z _ _).2) _⟩
theorem Src.keep {w w' : World} {b N : Nat} (h : Src w b N) (hs : w.heap.size ≤ w'.heap.size) (hk : ∀ k, k ≤ b → w'.heap[k]? = w.heap[k]?) : Src w' b N := by
  obtain ⟨A, n, c, k, seed, bs, c0, c1, c2, f1, f2, hb, hkN, hn, hne, hlt⟩ := h
  have hcell : ∀ o, w'.cell? ⟨b, o, none⟩ = w.cell? ⟨b, o, none⟩ := fun o => World.cell?_of_block (hk b (Nat.le_refl _))
  have hfz : ∀ o, w'.frozen? ⟨b, o, none⟩ = w.frozen? ⟨b, o, none⟩ := fun o => World.frozen?_of_block (hk b (Nat.le_refl _))
  refine ⟨A, n, c, k, seed, bs, by rw [hcell]; exact c0, by rw [hcell]; exact c1, by rw [hcell]; exact c2, by rw [hfz]; exact f1, by rw [hfz]; exact f2, ⟨hb.1, fun h0 => ?_⟩, hkN, hn, hne, Nat.lt_of_lt_of_le hlt hs⟩
  obtain ⟨ad, e, hl, hc⟩ := hb.2 h0
  refine ⟨ad, e, Nat.lt_of_lt_of_le hl hs, fun j u hu => ?_⟩
  rw [World.cell?_of_block (w := w) (by rw [block_of_add]; exact hk _ (Nat.le_of_lt (hne h0 ad e)))]
  exact hc j u hu
theorem Src.mono {w : World} {b N M : Nat} (h : Src w b N) (hm : N ≤ M) : Src w b M := by
  obtain ⟨A, n, c, k, seed, bs, c0, c1, c2, f1, f2, hb, hkN, hr⟩ := h
  exact ⟨A, n, c, k, seed, bs, c0, c1, c2, f1, f2, hb, by omega, hr⟩
theorem Src.lt {w : World} {b N : Nat} (h : Src w b N) : b < w.heap.size := by
  obtain ⟨A, n, c, k, seed, bs, c0, c1, c2, f1, f2, hb, hkN, hn, hne, hlt⟩ := h
  exact hlt
theorem gRefl (w : World) (o : Option Nat) : w.grownBy w o := ⟨rfl, rfl, rfl, Nat.le_refl _, fun _ _ _ => rfl⟩
theorem gMore {w a c : World} {o o2 : Option Nat} (h1 : w.grownBy a o) (h2 : a.grownBy c o2) (ho : ∀ k, o2 = some k → w.heap.size ≤ k) : w.grownBy c o :=
  ⟨h2.os.trans h1.os, h2.tape.trans h1.tape, h2.output.trans h1.output, Nat.le_trans h1.size h2.size, fun k hk hne => (h2.block k (Nat.lt_of_lt_of_le hk h1.size) (fun e => by have := ho k e.symm; omega)).trans (h1.block k hk hne)⟩
theorem gBelow {w a c : World} {o : Option Nat} (h1 : w.grownBy a o) (h2 : Below a.heap.size a c) : w.grownBy c o :=
  ⟨h2.os.trans h1.os, h2.tape.trans h1.tape, h2.output.trans h1.output, Nat.le_trans h1.size h2.size, fun k hk hne => (h2.block k (Nat.lt_of_lt_of_le hk h1.size)).trans (h1.block k hk hne)⟩
theorem ofBelow {w c : World} (h2 : Below w.heap.size w c) (o : Option Nat) : w.grownBy c o := gBelow (gRefl w o) h2
/-- from a source's own block on, everything is new -/
theorem belowG {B b : Nat} {a w c : World} (h : Below B a w) (h2 : w.grownBy c (some b)) (hb : B ≤ b) (hs : B ≤ w.heap.size) : Below B a c :=
  h.grown h2 hs (fun k hk => by injection hk with hk; omega)
theorem Src.below {w w' : World} {b N : Nat} (h : Src w b N) (hb : Below w.heap.size w w') : Src w' b N := h.keep hb.size (fun k hk => hb.block k (Nat.lt_of_le_of_lt hk h.lt))
theorem OwnI.grown {w w' : World} {base b : Nat} {v : Value} {ds : List Int} (h : OwnI w base v ds) (hg : w.grownBy w' (some b)) (hb : b < base) : OwnI w' base v ds := by
  refine ⟨h.1, ?_⟩
  rcases h.2 with hn | ⟨g, cap, cur, rfl, hbg, hc, rest⟩
  · exact .inl hn
  · exact .inr ⟨g, cap, cur, rfl, hbg, by rw [hg.block g (Array.getElem?_eq_some_iff.1 hc).1 (fun e => by injection e with e; omega)]; exact hc, rest⟩
theorem ownI_lo {w : World} {base : Nat} {v : Value} {ds : List Int} (h : OwnI w base v ds) : ∀ k, v.ownBlock = some k → base ≤ k := by
  intro k hk
  rcases h.2 with ⟨rfl, -⟩ | ⟨g, cap, cur, rfl, hb, -⟩
  · simp [Value.ownBlock] at hk
  · simp only [Value.ownBlock, Option.some.injEq] at hk; omega
set_option maxHeartbeats 1600000 in
theorem pick_any (b N : Nat) (n : Int) (w : World) (h : Src w b N) (hN : N ≤ 999999) :
    Calls Try.prog 24 #[.pointer (some ⟨b, 0, none⟩), .int .i64 n] w fun e w' => ∃ x : Int, e = .returned (.int .i64 x) ∧ 0 ≤ x ∧ (x < n ∨ (n ≤ 1 ∧ x = 0)) ∧ Src w' b (N + 2) ∧ w.grownBy w' (some b) := by
  have H := Lib.hid h; clear h
  by_cases h1 : n ≤ 1
  · go_enter Try.func24, Try.ntmps24
    go_wp2
    go_ret
    exact ⟨0, rfl, by omega, .inr ⟨h1, rfl⟩, H.out.mono (by omega), gRefl _ _⟩
  · by_cases h2 : 200 < n
    · go_enter Try.func24, Try.ntmps24
      go_wp2_with fail
      refine (next_any b N w H.out (by omega)).mono ?_; rintro e w1 ⟨x, rfl, x0, x1, hs1, hg1⟩
      have HS1 := Lib.hid hs1; clear hs1
      have HG1 := Lib.hid hg1; clear hg1
      go_wp2_with fail
      refine (next_any b (N + 1) w1 HS1.out (by omega)).mono ?_; rintro e w2 ⟨y, rfl, y0, y1, hs2, hg2⟩
      have HS2 := Lib.hid hs2; clear hs2
      have HG2 := Lib.hid (gtrans HG1.out hg2); clear hg2
      go_wp2
      go_ret
      exact ⟨_, rfl, Int.emod_nonneg _ (by omega), .inl (Int.emod_lt_of_pos _ (by omega)), HS2.out, HG2.out⟩
    · go_enter Try.func24, Try.ntmps24
      go_wp2_with fail
      refine (next_any b N w H.out (by omega)).mono ?_; rintro e w1 ⟨x, rfl, x0, x1, hs1, hg1⟩
      have HS1 := Lib.hid hs1; clear hs1
      have HG1 := Lib.hid hg1; clear hg1
      go_wp2
      go_ret
      exact ⟨_, rfl, Int.emod_nonneg _ (by omega), .inl (Int.emod_lt_of_pos _ (by omega)), HS1.out.mono (by omega), HG1.out⟩
set_option maxHeartbeats 800000 in
theorem one_any (b N : Nat) (n : Int) (w : World) (h : Src w b N) (hN : N ≤ 999999) :
    Calls Try.prog 34 #[.pointer (some ⟨b, 0, none⟩), .int .i64 n] w fun e w' => ∃ x : Bool, e = .returned (.bool x) ∧ Src w' b (N + 2) ∧ w.grownBy w' (some b) := by
  have H := Lib.hid h; clear h
  go_enter Try.func34, Try.ntmps34
  go_wp2_with fail
  refine (pick_any b N n w H.out hN).mono ?_; rintro e w1 ⟨x, rfl, x0, -, hs1, hg1⟩
  have HS1 := Lib.hid hs1; clear hs1
  have HG1 := Lib.hid hg1; clear hg1
  go_wp2
  go_ret
  exact ⟨_, rfl, HS1.out, HG1.out⟩
set_option maxHeartbeats 800000 in
theorem among_any (b N : Nat) (A : Option Addr) (n c : Nat) (ds : List Int) (w : World) (h : Src w b N) (hN : N ≤ 999999) (hr : RI w A n ds) (hA : ∀ ad, A = some ad → ad.block ≠ b) (hn0 : 0 < n) (hn : n ≤ 1000000) :
    Calls Try.prog 47 #[.pointer (some ⟨b, 0, none⟩), .slice A n c] w fun e w' => ∃ x : Int, e = .returned (.int .i64 x) ∧ x ∈ ds ∧ Src w' b (N + 2) ∧ w.grownBy w' (some b) := by
  have H := Lib.hid h; clear h
  go_enter Try.func47, Try.ntmps47
  go_wp2_with fail
  refine (pick_any b N n w H.out hN).mono ?_; rintro e w1 ⟨x, rfl, x0, xn, hs1, hg1⟩
  have HS1 := Lib.hid hs1; clear hs1
  have HG1 := Lib.hid hg1; clear hg1
  obtain ⟨j, rfl⟩ : ∃ j : Nat, x = j := ⟨x.toNat, by omega⟩
  have hjn : j < n := by omega
  obtain ⟨ad, hAd, hlt, hjl, hc⟩ := hr.at_ hjn
  have hc2 : w1.cell? (ad.add j) = some (.int .i64 ds[j]) := by
    rw [World.cell?_of_block (w := w) (by rw [block_of_add]; exact HG1.out.block _ hlt (fun e => by injection e with e; exact hA ad hAd e))]; exact hc
  have hi1 : (j : Int) < (n : Int) := by omega
  have HM := Lib.hid (List.getElem_mem hjl)
  subst hAd
  clear hc xn
  go_wp2
  go_ret
  exact ⟨_, rfl, HM.out, HS1.out, HG1.out⟩
set_option maxHeartbeats 800000 in
theorem l00From_any (A : Option Addr) (n c : Nat) (bs : List UInt8) (w : World) (hb : RB w A n bs) (hn : n ≤ 9223372036854775807) :
    Calls Try.prog 22 #[.slice A n c] w fun e w' => e = .returned (.pointer (some ⟨w.heap.size, 0, none⟩)) ∧ Src w' w.heap.size 0 ∧ Below w.heap.size w w' := by
  have HB := Lib.hid hb; clear hb
  go_enter Try.func22, Try.ntmps22
  go_wp2
  go_ret
  have hba : Below w.heap.size w (w.alloc (.cells #[.slice A n c, .int .i64 0, .int .u64 0] 70)) := (Below.refl _ _).alloc (Nat.le_refl _) _
  exact ⟨rfl, ⟨A, n, c, 0, 0, bs, by go_simp, by go_simp, by go_simp, by go_simp, by go_simp, HB.out.below hba, Nat.le_refl _, hn, (fun h0 ad e => by obtain ⟨ad', e', hl, -⟩ := HB.out.2 h0; rw [e] at e'; injection e' with e'; rw [e']; exact hl), by simp⟩, hba⟩
set_option maxRecDepth 100000 in
set_option maxHeartbeats 1600000 in
theorem l02DrawDigits_any (b N : Nat) (base : Int) (width : Nat) (w : World) (h : Src w b N) (hN : N + width * 4 ≤ 900000) (hb2 : 2 ≤ base) (hb16 : base ≤ 1000) (hw : width ≤ 1000) :
    Calls Try.prog 35 #[.pointer (some ⟨b, 0, none⟩), .int .i64 base, .int .i64 width] w fun e w' => ∃ A c ds, e = .returned (.slice A width c) ∧ OwnI w' w.heap.size (.slice A width c) ds ∧ ds.length = width ∧ (∀ d ∈ ds, 0 ≤ d ∧ d < base) ∧ Src w' b (N + width * 4) ∧ w.grownBy w' (some b) := by
  have H := Lib.hid h
  have hlt := h.lt
  clear h
  go_enter Try.func35, Try.ntmps35
  go_wp2_with fail
  go_loopw [8, 7] (fun kk out wr => ∃ (k : Nat) (ds : List Int), k ≤ width ∧ kk = .int .i64 k ∧ OwnI wr w.heap.size out ds ∧ ds.length = k ∧ (∀ d ∈ ds, 0 ≤ d ∧ d < base) ∧ Src wr b (N + k * 4) ∧ w.grownBy wr (some b)) (fun kk _ _ => width - (intOf kk).toNat)
  case atStart =>
    have hba : Below w.heap.size w (w.alloc (.cells #[] 2)) := (Below.refl _ _).alloc (Nat.le_refl _) _
    exact ⟨0, [], Nat.zero_le _, rfl, ⟨rfl, .inr ⟨w.heap.size, 0, #[], rfl, Nat.le_refl _, heap_alloc_new _ _, Nat.le_refl _, by decide, rfl, rfl⟩⟩, rfl, (fun d hd => by cases hd), by simpa using H.out.below hba, ofBelow hba _⟩
  case round =>
    obtain ⟨k, ds, hk, rfl, hown, hlen, hds, hsr, hg⟩ := hrel
    have HO := Lib.hid hown
    have HD := Lib.hid hds
    have HS := Lib.hid hsr
    have HG := Lib.hid hg
    have HL := Lib.hid hlen
    have hwz := hg.size
    clear hown hds hsr hg hlen
    by_cases hkn : k < width
    · have hi1 : (k : Int) < (width : Int) := by omega
      go_wp2_with fail
      refine (pick_any b _ base wr HS.out (by omega)).mono ?_; rintro e w1 ⟨x, rfl, x0, xn, hs1, hg1⟩
      have HS1 := Lib.hid hs1
      have HG1 := Lib.hid (gtrans HG.out hg1)
      have HO1 := Lib.hid (HO.out.grown hg1 hlt)
      have hz1 := hg1.size
      have hxb : x < base := by omega
      clear hs1 hg1 xn
      go_wp2_with fail
      refine (one_any b _ 3 w1 HS1.out (by omega)).mono ?_; rintro e w2 ⟨y, rfl, hs2, hg2⟩
      have HS2 := Lib.hid hs2
      have HG2 := Lib.hid (gtrans HG1.out hg2)
      have HO2 := Lib.hid (HO1.out.grown hg2 hlt)
      have hz2 := hg2.size
      have hlen := HL.out
      clear hs2 hg2
      cases y
      · have HOB := Lib.hid (HO2.out.below ((Below.refl _ _).alloc (Nat.le_refl _) (.cells #[.int .i64 x] 2)))
        have hgb := gBelow HG2.out ((Below.refl _ _).alloc (Nat.le_refl _) (.cells #[.int .i64 x] 2))
        have hsb := HS2.out.below ((Below.refl _ _).alloc (Nat.le_refl _) (.cells #[.int .i64 x] 2))
        have HGB := Lib.hid hgb; clear hgb
        have HSB := Lib.hid hsb; clear hsb
        go_wp2_with (at_builtin; refine app1I rfl _ _ rfl w.heap.size _ ds rfl HOB.out w2.heap.size x rfl (heap_alloc_new _ _) (by omega) (by simp; omega) ?_; intro v5 w6 hown5 hg5 hv5)
        have hlo := ownI_lo HOB.out
        have HGF := Lib.hid (gMore HGB.out hg5 hlo)
        have HSF := Lib.hid ((HSB.out.keep hg5.size (fun k hk => hg5.block k (by simp; omega) (fun e => by have := hlo k e.symm; omega))).mono (show N + k * 4 + 2 + 2 ≤ N + (k + 1) * 4 by omega))
        have HOF := Lib.hid hown5; clear hown5
        go_roundw
        case rel => exact ⟨k + 1, ds ++ [x], by omega, by go_num, HOF.out, by rw [List.length_append, HL.out]; rfl, fun d hd => by
          rcases List.mem_append.1 hd with hd | hd
          · exact HD.out d hd
          · rw [List.mem_singleton.1 hd]; omega, HSF.out, HGF.out⟩
        case measure => simp [intOf]; omega
      · have HOB := Lib.hid (HO2.out.below ((Below.refl _ _).alloc (Nat.le_refl _) (.cells #[.int .i64 (base - 1)] 2)))
        have hgb := gBelow HG2.out ((Below.refl _ _).alloc (Nat.le_refl _) (.cells #[.int .i64 (base - 1)] 2))
        have hsb := HS2.out.below ((Below.refl _ _).alloc (Nat.le_refl _) (.cells #[.int .i64 (base - 1)] 2))
        have HGB := Lib.hid hgb; clear hgb
        have HSB := Lib.hid hsb; clear hsb
        go_wp2_with (at_builtin; refine app1I rfl _ _ rfl w.heap.size _ ds rfl HOB.out w2.heap.size (base - 1) rfl (heap_alloc_new _ _) (by omega) (by simp; omega) ?_; intro v5 w6 hown5 hg5 hv5)
        have hlo := ownI_lo HOB.out
        have HGF := Lib.hid (gMore HGB.out hg5 hlo)
        have HSF := Lib.hid ((HSB.out.keep hg5.size (fun k hk => hg5.block k (by simp; omega) (fun e => by have := hlo k e.symm; omega))).mono (show N + k * 4 + 2 + 2 ≤ N + (k + 1) * 4 by omega))
        have HOF := Lib.hid hown5; clear hown5
        go_roundw
        case rel => exact ⟨k + 1, ds ++ [(base - 1)], by omega, by go_num, HOF.out, by rw [List.length_append, HL.out]; rfl, fun d hd => by
          rcases List.mem_append.1 hd with hd | hd
          · exact HD.out d hd
          · rw [List.mem_singleton.1 hd]; omega, HSF.out, HGF.out⟩
        case measure => simp [intOf]; omega
    · have HK : Hid (k = width) := by simp only [Hid]; omega
      obtain ⟨AO, cO, rfl, -⟩ := HO.out.reads
      have HE : Hid (ds.length = width) := by simp only [Hid]; have := HL.out; have := HK.out; omega
      have HOW : Hid (OwnI wr w.heap.size (.slice AO width cO) ds) := by have h := HO.out; rw [HE.out] at h; exact h
      have HSF : Hid (Src wr b (N + width * 4)) := HS.out.mono (by have := HK.out; omega)
      rw [HE.out]
      go_wp2
      go_ret
      exact ⟨AO, cO, ds, rfl, HOW.out, HE.out, HD.out, HSF.out, HG.out⟩
end Go.Proofs.Ytikcifpdnbhpiaa

namespace Go.Proofs.Ytikcifpdnbhpiaa
open Go.RowKit Go.Sort
/-- w with its first n blocks alone -/
def trunc (w : World) (n : Nat) : World := { w with heap := w.heap.extract 0 n }
theorem trunc_size {w : World} {n : Nat} (h : n ≤ w.heap.size) : (trunc w n).heap.size = n := by
  simp only [trunc, Array.size_extract]; omega
theorem trunc_get {w : World} {n k : Nat} (h : n ≤ w.heap.size) (hk : k < n) : (trunc w n).heap[k]? = w.heap[k]? := by
  simp only [trunc, Array.getElem?_extract, Nat.sub_zero, Nat.zero_add]
  rw [if_pos (by omega)]
theorem trunc_below {w : World} {n : Nat} (h : n ≤ w.heap.size) : Below (trunc w n).heap.size (trunc w n) w := by
  rw [trunc_size h]
  exact ⟨rfl, rfl, rfl, by rw [trunc_size h]; exact h, fun k hk => (trunc_get h hk).symm⟩
/-- v is w with block b turned -/
def Tw (b : Nat) (w v : World) : Prop := w.grownBy v (some b) ∧ v.heap.size = w.heap.size
theorem Tw.refl (b : Nat) (w : World) : Tw b w w := ⟨gRefl w _, rfl⟩
theorem Tw.of {b : Nat} {w w' : World} (h : w.grownBy w' (some b)) : Tw b w (trunc w' w.heap.size) :=
  ⟨⟨h.os, h.tape, h.output, by rw [trunc_size h.size]; exact Nat.le_refl _, fun k hk hne => (trunc_get h.size hk).trans (h.block k hk hne)⟩, trunc_size h.size⟩
theorem Src.trunc {b N : Nat} {w : World} {n : Nat} (h : Src w b N) (hb : b < n) (hn : n ≤ w.heap.size) : Src (trunc w n) b N := by
  obtain ⟨A, m, c, k, seed, bs, c0, c1, c2, f1, f2, hB, hkN, hm, hne, hlt⟩ := h
  have hbl : ∀ k, k ≤ b → (Go.Proofs.Ytikcifpdnbhpiaa.trunc w n).heap[k]? = w.heap[k]? := fun k hk => trunc_get hn (by omega)
  have hcell : ∀ o, (Go.Proofs.Ytikcifpdnbhpiaa.trunc w n).cell? ⟨b, o, none⟩ = w.cell? ⟨b, o, none⟩ := fun o => World.cell?_of_block (hbl b (Nat.le_refl _))
  have hfz : ∀ o, (Go.Proofs.Ytikcifpdnbhpiaa.trunc w n).frozen? ⟨b, o, none⟩ = w.frozen? ⟨b, o, none⟩ := fun o => World.frozen?_of_block (hbl b (Nat.le_refl _))
  refine ⟨A, m, c, k, seed, bs, by rw [hcell]; exact c0, by rw [hcell]; exact c1, by rw [hcell]; exact c2, by rw [hfz]; exact f1, by rw [hfz]; exact f2, ⟨hB.1, fun h0 => ?_⟩, hkN, hm, hne, by rw [trunc_size hn]; exact hb⟩
  obtain ⟨ad, e, hl, hc⟩ := hB.2 h0
  have hab := hne h0 ad e
  refine ⟨ad, e, by rw [trunc_size hn]; omega, fun j u hu => ?_⟩
  rw [World.cell?_of_block (w := w) (by rw [block_of_add]; exact hbl _ (by omega))]
  exact hc j u hu
/-- what a draw leaves: the source's block is turned, and the call owns the things of m -/
def DR (b N : Nat) (w : World) (m : List Ent) (w' : World) : Prop := ∃ v, Tw b w v ∧ Src v b N ∧ Kn v m w'
theorem DR.src {b N : Nat} {w : World} {m : List Ent} {w' : World} (h : DR b N w m w') : Src w' b N := by
  obtain ⟨v, -, hS, hK⟩ := h
  exact hS.below hK.below
theorem DR.of {b N : Nat} {w w' : World} (hs : Src w' b N) (hg : w.grownBy w' (some b)) (hb : b < w.heap.size) : DR b N w [] w' :=
  ⟨_, Tw.of hg, hs.trunc hb hg.size, (Kn.nil _).keep (trunc_below hg.size)⟩
theorem DR.nil {b N : Nat} {w : World} (hs : Src w b N) : DR b N w [] w := ⟨w, Tw.refl b w, hs, Kn.nil w⟩
theorem DR.mono {b N M : Nat} {w w' : World} {m : List Ent} (h : DR b N w m w') (hm : N ≤ M) : DR b M w m w' := by
  obtain ⟨v, hT, hS, hK⟩ := h
  exact ⟨v, hT, hS.mono hm, hK⟩
theorem DR.kn {b N : Nat} {w w' : World} {m m' : List Ent} (h : DR b N w m w') {w2 : World} (f : ∀ v, Kn v m w' → Kn v m' w2) : DR b N w m' w2 := by
  obtain ⟨v, hT, hS, hK⟩ := h
  exact ⟨v, hT, hS, f v hK⟩
theorem Kn.tw {b : Nat} {w v : World} {m : List Ent} {wi wi' : World} (hT : Tw b w v) (hK : Kn v m wi) (hb : b < w.heap.size) (hg : wi.grownBy wi' (some b)) : Tw b w (trunc wi' w.heap.size) ∧ Kn (trunc wi' w.heap.size) m wi' := by
  have hs : w.heap.size ≤ wi.heap.size := by have := hK.size; rw [hT.2] at this; exact this
  have hs' : w.heap.size ≤ wi'.heap.size := Nat.le_trans hs hg.size
  have hbw := hK.below
  refine ⟨⟨⟨hg.os.trans (hbw.os.trans hT.1.os), hg.tape.trans (hbw.tape.trans hT.1.tape), hg.output.trans (hbw.output.trans hT.1.output), by rw [trunc_size hs']; exact Nat.le_refl _, fun k hk hne => ?_⟩, trunc_size hs'⟩, trunc_below hs', fun e he => ?_, fun e he k hk => ?_, hK.apart⟩
  · rw [trunc_get hs' hk, hg.block k (by omega) hne, hbw.block k (by rw [hT.2]; exact hk)]
    exact hT.1.block k hk hne
  · refine Ent.stable (hK.ents e he) hg.size (fun k hk => hg.block k (Ent.lt (hK.ents e he) hk) (fun h2 => ?_))
    have h3 := hK.own e he k hk
    rw [hT.2] at h3
    injection h2 with h2
    omega
  · rw [trunc_size hs']
    have h3 := hK.own e he k hk
    rw [hT.2] at h3
    exact h3
theorem Tw.grown {b : Nat} {w v : World} (h : Tw b w v) : w.grownBy v (some b) := h.1
/-- one draw behind another -/
theorem DR.join {b N M : Nat} {w wi w' : World} {m m' : List Ent} (h : DR b N w m wi) (h1 : DR b M wi m' w') (hb : b < w.heap.size) : DR b M w (m' ++ m) w' := by
  obtain ⟨v, hT, hS, hK⟩ := h
  obtain ⟨v1, hT1, hS1, hK1⟩ := h1
  have hs : w.heap.size ≤ wi.heap.size := by have := hK.size; rw [hT.2] at this; exact this
  have hs1 : w.heap.size ≤ v1.heap.size := by rw [hT1.2]; exact hs
  obtain ⟨h2, h3⟩ := hK.tw hT hb hT1.1
  exact ⟨_, h2, hS1.trunc hb hs1, h3.join hK1⟩
/-- a source of the call's own -/
theorem Kn.ofDR {w w1 w2 : World} {b N : Nat} {m : List Ent} (hb : Below w.heap.size w w1) (hlo : w.heap.size ≤ b) (h : DR b N w1 m w2) : Kn w m w2 := by
  obtain ⟨v, hT, -, hK⟩ := h
  exact hK.mono (belowG hb hT.1 hlo hb.size)
theorem pick_dr (b N : Nat) (n : Int) (w : World) (h : Src w b N) (hN : N ≤ 999999) :
    Calls Try.prog 24 #[.pointer (some ⟨b, 0, none⟩), .int .i64 n] w fun e w' => ∃ x : Int, e = .returned (.int .i64 x) ∧ (0 ≤ x ∧ (x < n ∨ (n ≤ 1 ∧ x = 0))) ∧ DR b (N + 2) w [] w' := by
  refine (pick_any b N n w h hN).mono ?_
  rintro e w' ⟨x, rfl, h0, h1, hs, hg⟩
  exact ⟨x, rfl, ⟨h0, h1⟩, .of hs hg h.lt⟩
theorem one_dr (b N : Nat) (n : Int) (w : World) (h : Src w b N) (hN : N ≤ 999999) :
    Calls Try.prog 34 #[.pointer (some ⟨b, 0, none⟩), .int .i64 n] w fun e w' => ∃ x : Bool, e = .returned (.bool x) ∧ DR b (N + 2) w [] w' := by
  refine (one_any b N n w h hN).mono ?_
  rintro e w' ⟨x, rfl, hs, hg⟩
  exact ⟨x, rfl, .of hs hg h.lt⟩
theorem among_dr (b N : Nat) (A : Option Addr) (n c : Nat) (ds : List Int) (w : World) (h : Src w b N) (hN : N ≤ 999999) (hr : RI w A n ds) (hA : ∀ ad, A = some ad → ad.block ≠ b) (hn0 : 0 < n) (hn : n ≤ 1000000) :
    Calls Try.prog 47 #[.pointer (some ⟨b, 0, none⟩), .slice A n c] w fun e w' => ∃ x : Int, e = .returned (.int .i64 x) ∧ x ∈ ds ∧ DR b (N + 2) w [] w' := by
  refine (among_any b N A n c ds w h hN hr hA hn0 hn).mono ?_
  rintro e w' ⟨x, rfl, hx, hs, hg⟩
  exact ⟨x, rfl, hx, .of hs hg h.lt⟩
theorem digits_dr (b N : Nat) (base : Int) (width : Nat) (w : World) (h : Src w b N) (hN : N + width * 4 ≤ 900000) (hb2 : 2 ≤ base) (hb16 : base ≤ 1000) (hw : width ≤ 1000) :
    Calls Try.prog 35 #[.pointer (some ⟨b, 0, none⟩), .int .i64 base, .int .i64 width] w fun e w' => ∃ A c ds, e = .returned (.slice A width c) ∧ ds.length = width ∧ (∀ d ∈ ds, 0 ≤ d ∧ d < base) ∧ DR b (N + width * 4) w [rowI A c ds] w' := by
  refine (l02DrawDigits_any b N base width w h hN hb2 hb16 hw).mono ?_
  rintro e w' ⟨A, c, ds, rfl, ho, hl, hd, hs, hg⟩
  refine ⟨A, c, ds, rfl, hl, hd, _, Tw.of hg, hs.trunc h.lt hg.size, ?_⟩
  have hk := (Kn.nil (trunc w' w.heap.size)).addI (trunc_below hg.size) (by rw [trunc_size hg.size]; exact ho)
  rw [← hl] at hk
  exact hk
end Go.Proofs.Ytikcifpdnbhpiaa
