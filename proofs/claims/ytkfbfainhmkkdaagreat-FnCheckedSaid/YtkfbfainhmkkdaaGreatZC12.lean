/- Part 12: lemmas and contracts of the claim's functions. -/
import Derived.Test.YtkfbfainhmkkdaaGreatZC1
import Derived.Test.YtkfbfainhmkkdaaGreatZC2
import Derived.Test.YtkfbfainhmkkdaaGreatZC3
import Derived.Test.YtkfbfainhmkkdaaGreatZC4
import Derived.Test.YtkfbfainhmkkdaaGreatZC5
import Derived.Test.YtkfbfainhmkkdaaGreatZC6
import Derived.Test.YtkfbfainhmkkdaaGreatZC7
import Derived.Test.YtkfbfainhmkkdaaGreatZC8
import Derived.Test.YtkfbfainhmkkdaaGreatZC9
import Derived.Test.YtkfbfainhmkkdaaGreatZC10
import Derived.Test.YtkfbfainhmkkdaaGreatZC11
namespace Go.Proofs.YtkfbfainhmkkdaaGreat
open Go.RowKit Go.Sort
/-- drawn instructions, perhaps nil -/
def DInsA (b M L : Nat) (w : World) (e : Ending) (w' : World) : Prop := ∃ (A : Option Addr) (c : Nat) (xs : List Ins), e = .returned (.slice A xs.length c) ∧ xs.length ≤ L ∧ DR b M w [rowIns (.slice A xs.length c) xs] w'
theorem MultiplyProgram_spec (base arg : Int) (sh : Bool) (w : World) :
    (Calls Tryz.prog 12 #[.int .i64 base, .int .i64 arg, .bool sh] w fun e w' => e = .returned (.tuple #[.slice none 0 0, .int .i64 2]) ∧ Below w.heap.size w w') ∨
    (Calls Tryz.prog 12 #[.int .i64 base, .int .i64 arg, .bool sh] w fun e w' => ∃ (A : Option Addr) (c : Nat) (xs : List Ins), e = .returned (.tuple #[.slice A xs.length c, .int .i64 0]) ∧ xs.length ≤ 120 ∧ Kn w [rowIns (.slice A xs.length c) xs] w') := by
  have H := specMultiplyProgram_any base arg sh w
  rcases trnC_cases base arg with hc | ⟨hc, b1, b2, h0, h1⟩
  · exact .inl (H.mono (fun e w' h => h.elim (fun h => h.2) (fun h => absurd (hc.symm.trans h.1) (by decide))))
  · refine .inr (H.mono (fun e w' h => h.elim (fun h => absurd (hc.symm.trans h.1) (by decide)) (fun h => ?_)))
    obtain ⟨-, A, c, he, hK⟩ := h
    exact ⟨A, c, _, he, vprog_len (mulP_ok b1 b2 h0 h1), hK⟩
set_option maxRecDepth 100000 in
set_option maxHeartbeats 3200000 in
theorem l14Program_dr (b N : Nat) (base kind arg : Int) (w : World) (h : Src w b N) (hN : N ≤ 300000) : Calls Tryz.prog 79 #[.pointer (some ⟨b, 0, none⟩), .int .i64 base, .int .i64 kind, .int .i64 arg] w (DInsA b (N + 1100) 200 w) := by
  unfold DInsA
  have D0 := DR.nil h
  clear h
  go_enter Tryz.func79, Tryz.ntmps79
  go_wp2_with fail
  refine (pick_dr _ _ 4 w D0.src (by omega)).mono ?_; rintro e w1 ⟨z, rfl, hz, h99⟩
  have D1 := D0.add h99
  clear D0 h99
  by_cases z0 : z = 0
  · subst z0
    have KR := Lib.hid (l11Some0_dr b _ w1 D1.src (by omega))
    unfold DIns at KR
    go_wp2_with fail
    refine KR.out.mono ?_; rintro e w2 ⟨g, c, xs, rfl, hl, h2⟩
    have D2 := D1.add h2
    clear D1 h2 KR
    go_wp2_with fail
    go_ret
    exact ⟨_, c, xs, rfl, by omega, D2.mono (by omega)⟩
  by_cases z1 : z = 1
  · subst z1
    have KR := Lib.hid (l11Bent_dr b _ w1 D1.src (by omega))
    unfold DIns at KR
    go_wp2_with fail
    refine KR.out.mono ?_; rintro e w2 ⟨g, c, xs, rfl, hl, h2⟩
    have D2 := D1.add h2
    clear D1 h2 KR
    go_wp2_with fail
    go_ret
    exact ⟨_, c, xs, rfl, by omega, D2.mono (by omega)⟩
  have e0 : (z == 0) = false := by simp [z0]
  have e1 : (z == 1) = false := by simp [z1]
  by_cases k1 : kind = 1
  · subst k1
    go_wp2_with fail
    refine (one_dr b _ 2 w1 D1.src (by omega)).mono ?_; rintro e w2 ⟨sh, rfl, h2⟩
    have D2 := D1.add h2
    clear D1 h2
    have KM := (MultiplyProgram_spec base arg sh w2)
    rcases KM with KM | KM
    · have KM := Lib.hid KM
      go_wp2_with fail
      refine KM.out.mono ?_; rintro e w3 ⟨rfl, hw⟩
      have D3 : DR b _ w [] w3 := D2.kn (fun v hK => hK.keep hw)
      clear D2 hw KM
      go_wp2_with fail
      go_ret
      exact ⟨_, 2, [⟨2, 1⟩, ⟨3, 1⟩], rfl, by decide, (((D3.al [.int .i64 2, .int .i64 1, .int .i64 3, .int .i64 1] 80).kn (fun v hK => hK.litRow (size := 2) (n := 2) rfl (by decide))).sel [0] 99 (by decide) (by decide)).mono (by omega)⟩
    · have KM := Lib.hid KM
      go_wp2_with fail
      refine KM.out.mono ?_; rintro e w3 ⟨A, c, xs, rfl, hl, hK⟩
      have D3 : DR b _ w [rowIns (.slice A xs.length c) xs] w3 := D2.kn (fun v hK2 => hK2.join hK)
      clear D2 hK KM
      go_wp2_with fail
      go_ret
      exact ⟨A, c, xs, rfl, by omega, D3.mono (by omega)⟩
  have f1 : (kind == 1) = false := by simp [k1]
  by_cases k2 : kind = 2
  · subst k2
    go_wp2_with fail
    refine (pick_dr _ _ 3 w1 D1.src (by omega)).mono ?_; rintro e w2 ⟨p, rfl, hp, h99⟩
    have D2 := D1.add h99
    clear D1 h99
    obtain ⟨q, rfl⟩ : ∃ q : Nat, p = q := ⟨p.toNat, by omega⟩
    have hq : q ≤ 2 := by rcases hp.2 with h | h <;> omega
    have hw1 : IntKind.i64.wrap (1 + (q : Int)) = ((q + 1 : Nat) : Int) := by rw [wrapI64 (by omega)]; omega
    have KD := (l12Divide_any (q + 1) w2 (by omega) (by omega))
    have hdl : (divProg (q + 1)).length ≤ 200 := by
      have := divUpto_len (q + 1) (q + 1)
      unfold divProg; omega
    obtain ⟨L, hL⟩ : ∃ L, divProg (q + 1) = L := ⟨_, rfl⟩
    rw [hL] at KD hdl
    have KD := Lib.hid KD
    clear hL hp
    go_wp2_with fail
    refine KD.out.mono ?_; rintro e w3 ⟨A, c, rfl, hK⟩
    have D3 : DR b _ w [rowIns (.slice A L.length c) L] w3 := D2.kn (fun v hK2 => hK2.join hK)
    clear D2 hK KD
    go_wp2_with fail
    go_ret
    exact ⟨A, c, L, rfl, by omega, D3.mono (by omega)⟩
  have f2 : (kind == 2) = false := by simp [k2]
  by_cases k4 : kind = 4
  · subst k4
    go_wp2_with fail
    go_ret
    exact ⟨_, 1, [⟨6, 0⟩], rfl, by decide, (((D1.al [.int .i64 6, .int .i64 0] 80).kn (fun v hK => hK.litRow (size := 2) (n := 1) rfl (by decide))).sel [0] 99 (by decide) (by decide)).mono (by omega)⟩
  have f4 : (kind == 4) = false := by simp [k4]
  go_wp2_with fail
  go_ret
  exact ⟨_, 2, [⟨2, 1⟩, ⟨3, 1⟩], rfl, by decide, (((D1.al [.int .i64 2, .int .i64 1, .int .i64 3, .int .i64 1] 80).kn (fun v hK => hK.litRow (size := 2) (n := 2) rfl (by decide))).sel [0] 99 (by decide) (by decide)).mono (by omega)⟩
set_option maxRecDepth 100000 in
set_option maxHeartbeats 3200000 in
theorem DrawCountFailures_any (A : Option Addr) (n c : Nat) (bs : List UInt8) (w : World) (hb : RB w A n bs) (hn : n ≤ 9223372036854775807) :
    Calls Tryz.prog 21 #[.slice A n c] w fun e w' => ∃ (x1 x2 x3 x4 x5 x6 : Int) (B : Option Addr) (d : Nat) (xs : List Ins), e = .returned (.tuple #[.int .i64 x1, .int .i64 x2, .int .i64 x3, .int .i64 x4, .slice B xs.length d, .int .i64 x5, .int .i64 x6]) ∧ xs.length ≤ 200 ∧ Kn w [rowIns (.slice B xs.length d) xs] w' := by
  have HB := Lib.hid hb
  clear hb
  go_enter Tryz.func21, Tryz.ntmps21
  go_wp2_with fail
  refine (l00From_any A n c bs w HB.out hn).mono ?_; rintro e w0 ⟨rfl, hs, hb2⟩
  have D0 := DR.nil hs
  clear HB hs
  go_wp2_with fail
  refine (pick_dr _ _ 2 w0 D0.src (by omega)).mono ?_; rintro e w1 ⟨p, rfl, hp, h99⟩
  have D1 := D0.add h99
  clear D0 h99
  have hw1 : IntKind.i64.wrap (2 + p) = 2 + p := wrapI64 (by omega)
  go_wp2_with fail
  refine (pick_dr _ _ 2 w1 D1.src (by omega)).mono ?_; rintro e w2 ⟨q, rfl, hq, h99⟩
  have D2 := D1.add h99
  clear D1 h99
  go_wp2_with fail
  refine (l14Promise_dr _ _ w2 D2.src (by omega)).mono ?_; rintro e w4 ⟨y1, y2, rfl, h1⟩
  have D4 := D2.add h1
  clear D2 h1
  go_wp2_with fail
  refine (pick_dr _ _ 2 w4 D4.src (by omega)).mono ?_; rintro e w5 ⟨s, rfl, hs, h99⟩
  have D5 := D4.add h99
  clear D4 h99
  go_wp2_with fail
  refine (one_dr _ _ 10 w5 D5.src (by omega)).mono ?_; rintro e w6 ⟨z, rfl, h3⟩
  have D6 := D5.add h3
  clear D5 h3
  rcases z with _ | _
  · have KR := Lib.hid (l14Program_dr _ _ (2 + p) y1 y2 _ D6.src (by omega))
    unfold DInsA at KR
    go_wp2_with fail
    refine KR.out.mono ?_; rintro e w9 ⟨B, d, xs, rfl, hl, h9⟩
    have K9 := (Kn.nil w).join (Kn.ofDR hb2 (Nat.le_refl _) (D6.add h9))
    clear D6 h9 KR hb2
    go_wp2_with fail
    (try simp only [Exit.inBlock, Exit.then])
    refine bodyPost_ret (results_tmp7 rfl _ _ _) rfl ?_
    exact ⟨_, _, _, _, _, _, B, d, xs, rfl, hl, K9⟩
  · go_wp2_with fail
    refine Calls.dr (D6.al [.int .i64 0, .int .i64 7, .int .i64 8] 2) ?_; intro w90 D90
    obtain ⟨hr, hA⟩ := DR.lit (ds := [0, 7, 8]) D90 (by decide)
    refine (among_dr _ _ _ 3 3 _ w90 D90.src (by omega) hr hA (by omega) (by omega)).mono ?_; rintro e w91 ⟨x, rfl, hx, h10⟩
    have D7 := ((D90.add h10).bare)
    clear hr hA D6 D90 h10 hx
    have KR := Lib.hid (l14Program_dr _ _ (2 + p) y1 y2 _ D7.src (by omega))
    unfold DInsA at KR
    go_wp2_with fail
    refine KR.out.mono ?_; rintro e w9 ⟨B, d, xs, rfl, hl, h9⟩
    have K9 := (Kn.nil w).join (Kn.ofDR hb2 (Nat.le_refl _) (D7.add h9))
    clear D7 h9 KR hb2
    go_wp2_with fail
    (try simp only [Exit.inBlock, Exit.then])
    refine bodyPost_ret (results_tmp7 rfl _ _ _) rfl ?_
    exact ⟨_, _, _, _, _, _, B, d, xs, rfl, hl, K9⟩
set_option maxRecDepth 100000 in
set_option maxHeartbeats 3200000 in
theorem DrawKeepsPromise_any (A : Option Addr) (n c : Nat) (bs : List UInt8) (w : World) (hb : RB w A n bs) (hn : n ≤ 9223372036854775807) :
    Calls Tryz.prog 26 #[.slice A n c] w fun e w' => ∃ (t : Tri) (A1 : Option Addr) (c1 : Nat) (A2 : Option Addr) (c2 : Nat) (A3 : Option Addr) (c3 : Nat) (B : Option Addr) (d : Nat) (xs : List Ins) (y1 y2 : Int), e = .returned (.tuple #[.agg #[.int .i64 t.a.base, .slice A1 t.a.digits.length c1, .int .i64 t.b.base, .slice A2 t.b.digits.length c2, .int .i64 t.s.base, .slice A3 t.s.digits.length c3, .int .i64 t.carry], .slice B xs.length d, .int .i64 y1, .int .i64 y2]) ∧ ((t.a.digits.length ≤ 22 ∧ t.b.digits.length ≤ 22 ∧ t.s.digits.length ≤ 22) ∧ xs.length ≤ 200) ∧ Kn w [rowI A3 c3 t.s.digits, rowI A2 c2 t.b.digits, rowI A1 c1 t.a.digits, rowIns (.slice B xs.length d) xs] w' := by
  have HB := Lib.hid hb
  clear hb
  go_enter Tryz.func26, Tryz.ntmps26
  go_wp2_with fail
  refine Calls.kn ((Kn.nil w).al [.int .i64 0, .slice none 0 0, .int .i64 0, .slice none 0 0, .int .i64 0, .slice none 0 0, .int .i64 0] 28) ?_; intro w1 K1
  refine (l00From_any A n c bs w1 (HB.out.below K1.below) hn).mono ?_; rintro e w2 ⟨rfl, hs, hb2⟩
  have D2 := DR.nil hs
  clear HB hs
  go_wp2_with fail
  have KD := Lib.hid (l10Bent_dr _ _ w2 D2.src (by omega))
  unfold DBent at KD
  refine KD.out.mono ?_; rintro e w3 ⟨t, A1, c1, A2, c2, A3, c3, rfl, hl, h3⟩
  have D3 := D2.add h3
  clear D2 h3 KD
  go_wp2_with fail
  refine Calls.dr (D3.al [.int .i64 t.a.base, .slice A1 t.a.digits.length c1, .int .i64 t.b.base, .slice A2 t.b.digits.length c2, .int .i64 t.s.base, .slice A3 t.s.digits.length c3, .int .i64 t.carry] 28) ?_; intro w4 D4
  obtain ⟨g, hg⟩ : ∃ g, w3.heap.size = g := ⟨_, rfl⟩
  rw [hg] at D4 ⊢
  clear D3 hg
  refine (l14Promise_dr _ _ w4 D4.src (by omega)).mono ?_; rintro e w5 ⟨y1, y2, rfl, h1⟩
  have D5 : DR _ _ w2 [.blk g [.int .i64 t.a.base, .slice A1 t.a.digits.length c1, .int .i64 t.b.base, .slice A2 t.b.digits.length c2, .int .i64 t.s.base, .slice A3 t.s.digits.length c3, .int .i64 t.carry] 28, rowI A3 c3 t.s.digits, rowI A2 c2 t.b.digits, rowI A1 c1 t.a.digits] w5 := D4.add h1
  clear D4 h1
  go_upto_region 4 with fail
  have D99 : DR _ _ w2 [.blk g [.int .i64 t.a.base, .slice A1 t.a.digits.length c1, .int .i64 t.b.base, .slice A2 t.b.digits.length c2, .int .i64 t.s.base, .slice A3 t.s.digits.length c3, .int .i64 t.carry] 28, rowI A3 c3 t.s.digits, rowI A2 c2 t.b.digits, rowI A1 c1 t.a.digits] w5.drew := D5.drew
  have HG := Lib.hid (D99.box7at 0 rfl)
  have HT := HG
  have HV := Lib.hid (l14Program_dr _ _ t.a.base y1 y2 _ D99.src (by omega))
  unfold DInsA at HV
  go_region_held3 (fun W => W.cell? ⟨g, 0, none⟩ = some (.int .i64 t.a.base) ∧ W.cell? ⟨g, 1, none⟩ = some (.slice A1 t.a.digits.length c1) ∧ W.cell? ⟨g, 2, none⟩ = some (.int .i64 t.b.base) ∧ W.cell? ⟨g, 3, none⟩ = some (.slice A2 t.b.digits.length c2) ∧ W.cell? ⟨g, 4, none⟩ = some (.int .i64 t.s.base) ∧ W.cell? ⟨g, 5, none⟩ = some (.slice A3 t.s.digits.length c3) ∧ W.cell? ⟨g, 6, none⟩ = some (.int .i64 t.carry)) (first | with_reducible exact HG.out | with_reducible exact HT.out | exact HG.out | exact HT.out) (first
    | (go_at_call 79; (refine HV.out.mono ?_); rintro e w6 ⟨B, d, xs, rfl, hxl, h6⟩; have D6 := D99.add h6; clear HG; have HG := Lib.hid (D6.box7at 1 rfl); have K6 : Kn w [rowIns (.slice B xs.length d) xs, .blk g [.int .i64 t.a.base, .slice A1 t.a.digits.length c1, .int .i64 t.b.base, .slice A2 t.b.digits.length c2, .int .i64 t.s.base, .slice A3 t.s.digits.length c3, .int .i64 t.carry] 28, rowI A3 c3 t.s.digits, rowI A2 c2 t.b.digits, rowI A1 c1 t.a.digits, .blk w.heap.size [.int .i64 0, .slice none 0 0, .int .i64 0, .slice none 0 0, .int .i64 0, .slice none 0 0, .int .i64 0] 28] w6 := K1.join (Kn.ofDR hb2 (Nat.le_refl _) D6); obtain ⟨x1, x2, x3, -⟩ := (K6.front 5 rfl).cells; have K8 := ((((((((K6.front 5 rfl).st 0 (.int .i64 t.a.base)).st 1 (.slice A1 t.a.digits.length c1)).st 2 (.int .i64 t.b.base)).st 3 (.slice A2 t.b.digits.length c2)).st 4 (.int .i64 t.s.base)).st 5 (.slice A3 t.s.digits.length c3)).st 6 (.int .i64 t.carry)); clear HT; have HT := Lib.hid (Go.Proofs.YtkfbfainhmkkdaaGreat.box7at K8 2 rfl)))
  all_goals
    go_wp2_with fail
    refine bodyPost.kn K8 ?_; intro w9 K9
    clear x1 x2 x3
    obtain ⟨a1, a2, a3, -⟩ := K9.cells
    exact bodyPost_ret (v := .tuple #[.agg #[.int .i64 t.a.base, .slice A1 t.a.digits.length c1, .int .i64 t.b.base, .slice A2 t.b.digits.length c2, .int .i64 t.s.base, .slice A3 t.s.digits.length c3, .int .i64 t.carry], .slice B xs.length d, .int .i64 y1, .int .i64 y2]) (by simp [results, Tryz.results26, go_sem, a1]) rfl ⟨t, A1, c1, A2, c2, A3, c3, B, d, xs, y1, y2, rfl, ⟨hl, hxl⟩, K9.sel [3, 4, 5, 1] 99 (by decide) (by decide)⟩
end Go.Proofs.YtkfbfainhmkkdaaGreat
