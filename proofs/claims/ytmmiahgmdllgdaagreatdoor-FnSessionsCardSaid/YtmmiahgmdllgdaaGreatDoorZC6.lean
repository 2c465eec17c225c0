/- Part 6: lemmas and contracts of the claim's functions. -/
import Derived.Test.YtmmiahgmdllgdaaGreatDoorZC1
import Derived.Test.YtmmiahgmdllgdaaGreatDoorZC2
import Derived.Test.YtmmiahgmdllgdaaGreatDoorZC3
import Derived.Test.YtmmiahgmdllgdaaGreatDoorZC4
import Derived.Test.YtmmiahgmdllgdaaGreatDoorZC5
import Derived.Deep.DrawnRows
import Derived.Deep.LoopGhost
namespace Go.Proofs.YtmmiahgmdllgdaaGreatDoor
open Go.RowKit Go.Sort
set_option maxRecDepth 100000 in
set_option maxHeartbeats 3200000 in
theorem lineR_end {w0 : World} {g : Nat} (s : SS) (i : Int) (L : ByteArray) (w : World) (hS : SesS w0 g s w) (he : s.ended = false) (hq : kindOf (strB L) = 0) (h1 : strB L = endB) :
    Calls Tryz.prog 128 #[.pointer (some ⟨g, 0, none⟩), .int .i64 i, .string L] w fun e w' => e = .returned (.int .i64 (lineS s i (strB L)).2) ∧ SesS w0 g (lineS s i (strB L)).1 w' := by
  have HKN := nameS0 hq
  have HQ := Lib.hid (show lineS s i (strB L) = ({ s with ended := true }, 0) by
    unfold lineS
    rw [if_neg (by rw [he]; decide), if_neg (fun h => h hq), if_pos h1])
  have hqe : (L.toList == [101, 110, 100]) = true := by rw [strB_toList, h1]; rfl
  clear h1 hq
  obtain ⟨U1, u1, U2, u2, U3, u3, A1, c1, A2, c2, A3, c3, SA, sc, BA, bc, m, hK, hu⟩ := hS
  have HU := Lib.hid hu
  clear hu
  obtain ⟨a1, a2, a3⟩ := hK.blkAt
  go_enter Tryz.func128, Tryz.ntmps128
  go_wp2_with fail
  refine (HKN.out _).mono ?_; rintro e w1 ⟨rfl, hw⟩
  have hK1 := hK.keep hw
  clear a1 a2 a3 hK hw
  obtain ⟨a1, a2, a3⟩ := hK1.blkAt
  go_wp2_with fail
  go_ret
  rw [HQ.out]
  exact ⟨rfl, SesS.of (s := { s with ended := true }) (hK1.st 16 (.bool true)) HU.out⟩
set_option maxRecDepth 100000 in
set_option maxHeartbeats 3200000 in
theorem lineR_word {w0 : World} {g : Nat} (s : SS) (i : Int) (L : ByteArray) (w : World) (hS : SesS w0 g s w) (he : s.ended = false) (hq : kindOf (strB L) = 0) (hL : L.size ≤ 1048576) (h0 : strB L ≠ endB) (h1 : begins setB (strB L) = false) (h2 : begins showB (strB L) = false) :
    Calls Tryz.prog 128 #[.pointer (some ⟨g, 0, none⟩), .int .i64 i, .string L] w fun e w' => e = .returned (.int .i64 (lineS s i (strB L)).2) ∧ SesS w0 g (lineS s i (strB L)).1 w' := by
  have HKN := nameS0 hq
  have HQ := Lib.hid (show lineS s i (strB L) = (s, 2) by
    unfold lineS
    rw [if_neg (by rw [he]; decide), if_neg (fun h => h hq), if_neg h0, h1, h2]
    rfl)
  have hqe : (L.toList == [101, 110, 100]) = false := by rw [strB_toList, beq_eq_false_iff_ne]; exact h0
  have n1 := begins_no h1
  have n2 := begins_no h2
  clear h0 h1 h2 hq
  change L.size ≤ 4 ∨ (4 < L.size ∧ ((L.extract 0 4).toList == [115, 101, 116, 32]) = false) at n1
  change L.size ≤ 5 ∨ (5 < L.size ∧ ((L.extract 0 5).toList == [115, 104, 111, 119, 32]) = false) at n2
  rcases n1 with n1 | ⟨n1, f1⟩
  · have i1 : ¬ (4 : Int) < (L.size : Int) := by omega
    have i2 : ¬ (5 : Int) < (L.size : Int) := by omega
    clear n1 n2
    obtain ⟨U1, u1, U2, u2, U3, u3, A1, c1, A2, c2, A3, c3, SA, sc, BA, bc, m, hK, hu⟩ := hS
    have HU := Lib.hid hu
    clear hu
    obtain ⟨a1, a2, a3⟩ := hK.blkAt
    go_enter Tryz.func128, Tryz.ntmps128
    go_wp2_with fail
    refine (HKN.out _).mono ?_; rintro e w1 ⟨rfl, hw⟩
    have hK1 := hK.keep hw
    clear a1 a2 a3 hK hw
    obtain ⟨a1, a2, a3⟩ := hK1.blkAt
    go_wp2_with fail
    go_ret
    rw [HQ.out]
    exact ⟨rfl, SesS.of hK1 HU.out⟩
  · have i1 : (4 : Int) < (L.size : Int) := by omega
    have i1' : (4 : Int) ≤ (L.size : Int) := by omega
    rcases n2 with n2 | ⟨n2, f2⟩
    · have i2 : ¬ (5 : Int) < (L.size : Int) := by omega
      clear n1 n2
      obtain ⟨U1, u1, U2, u2, U3, u3, A1, c1, A2, c2, A3, c3, SA, sc, BA, bc, m, hK, hu⟩ := hS
      have HU := Lib.hid hu
      clear hu
      obtain ⟨a1, a2, a3⟩ := hK.blkAt
      go_enter Tryz.func128, Tryz.ntmps128
      go_wp2_with fail
      refine (HKN.out _).mono ?_; rintro e w1 ⟨rfl, hw⟩
      have hK1 := hK.keep hw
      clear a1 a2 a3 hK hw
      obtain ⟨a1, a2, a3⟩ := hK1.blkAt
      go_wp2_with fail
      go_ret
      rw [HQ.out]
      exact ⟨rfl, SesS.of hK1 HU.out⟩
    · have i2 : (5 : Int) < (L.size : Int) := by omega
      have i2' : (5 : Int) ≤ (L.size : Int) := by omega
      clear n1 n2
      obtain ⟨U1, u1, U2, u2, U3, u3, A1, c1, A2, c2, A3, c3, SA, sc, BA, bc, m, hK, hu⟩ := hS
      have HU := Lib.hid hu
      clear hu
      obtain ⟨a1, a2, a3⟩ := hK.blkAt
      go_enter Tryz.func128, Tryz.ntmps128
      go_wp2_with fail
      refine (HKN.out _).mono ?_; rintro e w1 ⟨rfl, hw⟩
      have hK1 := hK.keep hw
      clear a1 a2 a3 hK hw
      obtain ⟨a1, a2, a3⟩ := hK1.blkAt
      go_wp2_with fail
      go_ret
      rw [HQ.out]
      exact ⟨rfl, SesS.of hK1 HU.out⟩
set_option maxRecDepth 100000 in
set_option maxHeartbeats 3200000 in
theorem lineR_show {w0 : World} {g k : Nat} (s : SS) (i : Int) (L : ByteArray) (w : World) (hS : SesS w0 g s w) (hg : s.Good k) (he : s.ended = false) (hq : kindOf (strB L) = 0) (hL : L.size ≤ 1048576) (h2 : begins showB (strB L) = true) :
    Calls Tryz.prog 128 #[.pointer (some ⟨g, 0, none⟩), .int .i64 i, .string L] w fun e w' => e = .returned (.int .i64 (lineS s i (strB L)).2) ∧ SesS w0 g (lineS s i (strB L)).1 w' := by
  have HKN := nameS0 hq
  have h0 : strB L ≠ endB := begins_ne h2 (by decide)
  have h1 := show_not_set h2
  obtain ⟨R, hR⟩ : ∃ R, L.extract 5 L.size = R := ⟨_, rfl⟩
  have hRB : strB R = (strB L).drop 5 := by rw [← hR]; exact strB_drop L 5
  have HL := (show lineS s i (strB L) = if strB R = strB (mtextL s.m) then (s, 0) else (s, 4) by
    unfold lineS
    rw [if_neg (by rw [he]; decide), if_neg (fun h => h hq), if_neg h0, h1, h2, hRB]
    rfl)
  have hqe : (L.toList == [101, 110, 100]) = false := by rw [strB_toList, beq_eq_false_iff_ne]; exact h0
  have n1 := begins_no h1
  obtain ⟨n2, f2⟩ := extract_beg h2
  change L.size ≤ 4 ∨ (4 < L.size ∧ ((L.extract 0 4).toList == [115, 101, 116, 32]) = false) at n1
  change 5 < L.size at n2
  have f2' : ((L.extract 0 5).toList == [115, 104, 111, 119, 32]) = true := by rw [beq_iff_eq]; exact f2
  have f1 : ((L.extract 0 4).toList == [115, 101, 116, 32]) = false := by
    rcases n1 with n1 | ⟨n1, f1⟩
    · omega
    · exact f1
  have i1 : (4 : Int) < (L.size : Int) := by omega
  have i1' : (4 : Int) ≤ (L.size : Int) := by omega
  have i2 : (5 : Int) < (L.size : Int) := by omega
  have i2' : (5 : Int) ≤ (L.size : Int) := by omega
  have HMT := (fun p W hT hlt => l10Text_any p s.m W hT hlt hg.m)
  obtain ⟨T, hT⟩ : ∃ T, mtextL s.m = T := ⟨_, rfl⟩
  rw [hT] at HMT HL
  replace HMT := Lib.hid HMT
  replace HL := Lib.hid HL
  clear h0 h1 h2 hq n1 n2 f2 hRB hT hg
  rcases hqr : (R.toList == T.toList) with _ | _
  · have HQ : Hid (lineS s i (strB L) = (s, 4)) := by
      simp only [Hid]
      rw [HL.out, if_neg]
      rw [strB_toList, strB_toList, beq_eq_false_iff_ne] at hqr
      exact hqr
    obtain ⟨U1, u1, U2, u2, U3, u3, A1, c1, A2, c2, A3, c3, SA, sc, BA, bc, m, hK, hu⟩ := hS
    have HU := Lib.hid hu
    clear hu
    obtain ⟨a1, a2, a3⟩ := hK.blkAt
    go_enter Tryz.func128, Tryz.ntmps128
    go_wp2_with fail
    refine (HKN.out _).mono ?_; rintro e w1 ⟨rfl, hw⟩
    have hK1 := hK.keep hw
    clear a1 a2 a3 hK hw
    obtain ⟨a1, a2, a3⟩ := hK1.blkAt
    have HTM := Lib.hid (fun W (h : Kn w0 (.blk g [.int .i64 s.start.a.base, .slice U1 s.start.a.digits.length u1, .int .i64 s.start.b.base, .slice U2 s.start.b.digits.length u2, .int .i64 s.start.s.base, .slice U3 s.start.s.digits.length u3, .int .i64 s.start.carry, .int .i64 s.m.a.base, .slice A1 s.m.a.digits.length c1, .int .i64 s.m.b.base, .slice A2 s.m.b.digits.length c2, .int .i64 s.m.s.base, .slice A3 s.m.s.digits.length c3, .int .i64 s.m.carry, .slice SA s.str.length sc, .slice BA s.bel.length bc, .bool s.ended] 91 :: rowI A3 c3 s.m.s.digits :: rowI A2 c2 s.m.b.digits :: rowI A1 c1 s.m.a.digits :: rowI SA sc s.str :: rowI BA bc s.bel :: m) W) => TriC.tri (w := W) (b := g) (o := 7) (t := s.m) ⟨⟨h.blkAt.1 7, h.blkAt.1 8, h.blkAt.1 9, h.blkAt.1 10, h.blkAt.1 11, h.blkAt.1 12, h.blkAt.1 13⟩, (h.front 3 rfl).riv, (h.front 2 rfl).riv, (h.front 1 rfl).riv⟩)
    have hld := hK1.drew.blkAt.2.2
    go_wp2_with fail
    go_region_held3 (fun W => True) (trivial) (
      (go_at_call 73; (refine (HMT.out ⟨g, 7, none⟩ _ (HTM.out _ hK1.drew) hld).mono ?_); rintro e w2 ⟨rfl, hw⟩; have hK2 := hK1.drew.keep hw))
    all_goals
      clear a1 a2 a3
      go_wp2_with fail
      go_ret
      rw [HQ.out]
      exact ⟨rfl, SesS.of hK2 HU.out⟩
  · have HQ : Hid (lineS s i (strB L) = (s, 0)) := by
      simp only [Hid]
      rw [HL.out, if_pos]
      rw [strB_toList, strB_toList, beq_iff_eq] at hqr
      exact hqr
    obtain ⟨U1, u1, U2, u2, U3, u3, A1, c1, A2, c2, A3, c3, SA, sc, BA, bc, m, hK, hu⟩ := hS
    have HU := Lib.hid hu
    clear hu
    obtain ⟨a1, a2, a3⟩ := hK.blkAt
    go_enter Tryz.func128, Tryz.ntmps128
    go_wp2_with fail
    refine (HKN.out _).mono ?_; rintro e w1 ⟨rfl, hw⟩
    have hK1 := hK.keep hw
    clear a1 a2 a3 hK hw
    obtain ⟨a1, a2, a3⟩ := hK1.blkAt
    have HTM := Lib.hid (fun W (h : Kn w0 (.blk g [.int .i64 s.start.a.base, .slice U1 s.start.a.digits.length u1, .int .i64 s.start.b.base, .slice U2 s.start.b.digits.length u2, .int .i64 s.start.s.base, .slice U3 s.start.s.digits.length u3, .int .i64 s.start.carry, .int .i64 s.m.a.base, .slice A1 s.m.a.digits.length c1, .int .i64 s.m.b.base, .slice A2 s.m.b.digits.length c2, .int .i64 s.m.s.base, .slice A3 s.m.s.digits.length c3, .int .i64 s.m.carry, .slice SA s.str.length sc, .slice BA s.bel.length bc, .bool s.ended] 91 :: rowI A3 c3 s.m.s.digits :: rowI A2 c2 s.m.b.digits :: rowI A1 c1 s.m.a.digits :: rowI SA sc s.str :: rowI BA bc s.bel :: m) W) => TriC.tri (w := W) (b := g) (o := 7) (t := s.m) ⟨⟨h.blkAt.1 7, h.blkAt.1 8, h.blkAt.1 9, h.blkAt.1 10, h.blkAt.1 11, h.blkAt.1 12, h.blkAt.1 13⟩, (h.front 3 rfl).riv, (h.front 2 rfl).riv, (h.front 1 rfl).riv⟩)
    have hld := hK1.drew.blkAt.2.2
    go_wp2_with fail
    go_region_held3 (fun W => True) (trivial) (
      (go_at_call 73; (refine (HMT.out ⟨g, 7, none⟩ _ (HTM.out _ hK1.drew) hld).mono ?_); rintro e w2 ⟨rfl, hw⟩; have hK2 := hK1.drew.keep hw))
    all_goals
      clear a1 a2 a3
      go_wp2_with fail
      go_ret
      rw [HQ.out]
      exact ⟨rfl, SesS.of hK2 HU.out⟩
set_option maxRecDepth 100000 in
set_option maxHeartbeats 3200000 in
theorem lineR_set {w0 : World} {g k : Nat} (s : SS) (i : Int) (L : ByteArray) (w : World) (hS : SesS w0 g s w) (hg : s.Good k) (he : s.ended = false) (hq : kindOf (strB L) = 0) (hL : L.size ≤ 1048576) (h1 : begins setB (strB L) = true) :
    Calls Tryz.prog 128 #[.pointer (some ⟨g, 0, none⟩), .int .i64 i, .string L] w fun e w' => e = .returned (.int .i64 (lineS s i (strB L)).2) ∧ SesS w0 g (lineS s i (strB L)).1 w' := by
  have HKN := nameS0 hq
  have h0 : strB L ≠ endB := begins_ne h1 (by decide)
  obtain ⟨R, hR⟩ : ∃ R, L.extract 4 L.size = R := ⟨_, rfl⟩
  have hRB : strB R = (strB L).drop 4 := by rw [← hR]; exact strB_drop L 4
  have hRs : R.size ≤ 9223372036854775807 := by rw [← hR, extract_size]; omega
  have HL := (show lineS s i (strB L) = if (rdDec (strB R)).isSome && fits s.m (rdN (strB R)) then ({ s with m := setT s.m (rdN (strB R)) }, 0) else (s, 3) by
    unfold lineS fits
    rw [if_neg (by rw [he]; decide), if_neg (fun h => h hq), if_neg h0, h1, hRB]
    rfl)
  have hqe : (L.toList == [101, 110, 100]) = false := by rw [strB_toList, beq_eq_false_iff_ne]; exact h0
  obtain ⟨n2, f2⟩ := extract_beg h1
  change 4 < L.size at n2
  have f2' : ((L.extract 0 4).toList == [115, 101, 116, 32]) = true := by rw [beq_iff_eq]; exact f2
  have i1 : (4 : Int) < (L.size : Int) := by omega
  have i1' : (4 : Int) ≤ (L.size : Int) := by omega
  have HRD := (fun W => l01Number_any R W hRs)
  obtain ⟨v, hv⟩ : ∃ v, rdN (strB R) = v := ⟨_, rfl⟩
  obtain ⟨ok, hok⟩ : ∃ b, (rdDec (strB R)).isSome = b := ⟨_, rfl⟩
  rw [hv, hok] at HRD HL
  replace HRD := Lib.hid HRD
  replace HL := Lib.hid HL
  have HSV := Lib.hid (fun (A1 A2 A3 : Option Addr) (c1 c2 c3 : Nat) W r1 r2 r3 => specSetValueG s.m A1 A2 A3 c1 c2 c3 v W r1 r2 r3 hg.m)
  obtain ⟨ds, hds⟩ : ∃ ds, (setT s.m v).a.digits = ds := ⟨_, rfl⟩
  have HDS := Lib.hid hds
  have HST := Lib.hid (show setT s.m v = ⟨⟨s.m.a.base, ds⟩, s.m.b, s.m.s, s.m.carry⟩ by rw [← hds]; rfl)
  clear h0 h1 hq hRB hv hok hg hds f2 n2 hRs
  rcases ok with _ | _
  · have HQ : Hid (lineS s i (strB L) = (s, 3)) := by
      simp only [Hid]
      rw [HL.out, if_neg (by simp)]
    obtain ⟨U1, u1, U2, u2, U3, u3, A1, c1, A2, c2, A3, c3, SA, sc, BA, bc, m, hK, hu⟩ := hS
    have HU := Lib.hid hu
    clear hu
    obtain ⟨a1, a2, a3⟩ := hK.blkAt
    go_enter Tryz.func128, Tryz.ntmps128
    go_wp2_with fail
    refine (HKN.out _).mono ?_; rintro e w1 ⟨rfl, hw⟩
    have hK1 := hK.keep hw
    clear a1 a2 a3 hK hw
    obtain ⟨a1, a2, a3⟩ := hK1.blkAt
    go_wp2_with fail
    refine (HRD.out _).mono ?_; rintro e w2 ⟨rfl, hw⟩
    have hK2 := hK1.keep hw
    clear a1 a2 a3 hK1 hw
    obtain ⟨a1, a2, a3⟩ := hK2.blkAt
    go_wp2_with fail
    refine (HSV.out _ _ _ _ _ _ _ (hK2.front 3 rfl).riv (hK2.front 2 rfl).riv (hK2.front 1 rfl).riv).mono ?_; rintro e w3 (⟨hf, B1, d1, B2, d2, B3, d3, rfl, hKn⟩ | ⟨hf, rfl, hw⟩)
    · rw [HDS.out] at hKn ⊢
      have hK3 := ((hK2.join hKn).sel [3, 4, 5, 6, 7, 8] 9 (by decide) (by decide)).al_ (.cells #[.int .i64 s.m.a.base, .slice B1 ds.length d1, .int .i64 s.m.b.base, .slice B2 s.m.b.digits.length d2, .int .i64 s.m.s.base, .slice B3 s.m.s.digits.length d3, .int .i64 s.m.carry] 32)
      clear a1 a2 a3 hK2 hKn
      go_wp2_with fail
      go_ret
      rw [HQ.out]
      exact ⟨rfl, SesS.of (m := m) hK3 HU.out⟩
    · have hK3 := (hK2.keep hw).al_ (.cells #[.int .i64 0, .slice none 0 0, .int .i64 0, .slice none 0 0, .int .i64 0, .slice none 0 0, .int .i64 0] 32)
      clear a1 a2 a3 hK2 hw
      go_wp2_with fail
      go_ret
      rw [HQ.out]
      exact ⟨rfl, SesS.of hK3 HU.out⟩
  · obtain ⟨U1, u1, U2, u2, U3, u3, A1, c1, A2, c2, A3, c3, SA, sc, BA, bc, m, hK, hu⟩ := hS
    have HU := Lib.hid hu
    clear hu
    obtain ⟨a1, a2, a3⟩ := hK.blkAt
    go_enter Tryz.func128, Tryz.ntmps128
    go_wp2_with fail
    refine (HKN.out _).mono ?_; rintro e w1 ⟨rfl, hw⟩
    have hK1 := hK.keep hw
    clear a1 a2 a3 hK hw
    obtain ⟨a1, a2, a3⟩ := hK1.blkAt
    go_wp2_with fail
    refine (HRD.out _).mono ?_; rintro e w2 ⟨rfl, hw⟩
    have hK2 := hK1.keep hw
    clear a1 a2 a3 hK1 hw
    obtain ⟨a1, a2, a3⟩ := hK2.blkAt
    go_wp2_with fail
    refine (HSV.out _ _ _ _ _ _ _ (hK2.front 3 rfl).riv (hK2.front 2 rfl).riv (hK2.front 1 rfl).riv).mono ?_; rintro e w3 (⟨hf, B1, d1, B2, d2, B3, d3, rfl, hKn⟩ | ⟨hf, rfl, hw⟩)
    · have HQ : Hid (lineS s i (strB L) = ({ s with m := ⟨⟨s.m.a.base, ds⟩, s.m.b, s.m.s, s.m.carry⟩ }, 0)) := by
        simp only [Hid]
        rw [HL.out, hf, HST.out]; rfl
      rw [HDS.out] at hKn ⊢
      have hK3 : Kn w0 (.blk g [.int .i64 s.start.a.base, .slice U1 s.start.a.digits.length u1, .int .i64 s.start.b.base, .slice U2 s.start.b.digits.length u2, .int .i64 s.start.s.base, .slice U3 s.start.s.digits.length u3, .int .i64 s.start.carry, .int .i64 s.m.a.base, .slice A1 s.m.a.digits.length c1, .int .i64 s.m.b.base, .slice A2 s.m.b.digits.length c2, .int .i64 s.m.s.base, .slice A3 s.m.s.digits.length c3, .int .i64 s.m.carry, .slice SA s.str.length sc, .slice BA s.bel.length bc, .bool s.ended] 91 :: rowI B3 d3 s.m.s.digits :: rowI B2 d2 s.m.b.digits :: rowI B1 d1 ds :: rowI SA sc s.str :: rowI BA bc s.bel :: m) w3 := (hK2.join hKn).sel [3, 0, 1, 2, 7, 8] 9 (by decide) (by decide)
      clear a1 a2 a3 hK2 hKn hf
      obtain ⟨a1, a2, a3⟩ := hK3.blkAt
      go_wp2_with fail
      go_ret
      rw [HQ.out]
      exact ⟨rfl, SesS.of (s := { s with m := ⟨⟨s.m.a.base, ds⟩, s.m.b, s.m.s, s.m.carry⟩ }) (m := m) ((((((((hK3.st 7 (.int .i64 s.m.a.base)).st 8 (.slice B1 ds.length d1)).st 9 (.int .i64 s.m.b.base)).st 10 (.slice B2 s.m.b.digits.length d2)).st 11 (.int .i64 s.m.s.base)).st 12 (.slice B3 s.m.s.digits.length d3)).st 13 (.int .i64 s.m.carry)).al_ (.cells #[.int .i64 s.m.a.base, .slice B1 ds.length d1, .int .i64 s.m.b.base, .slice B2 s.m.b.digits.length d2, .int .i64 s.m.s.base, .slice B3 s.m.s.digits.length d3, .int .i64 s.m.carry] 32)) HU.out⟩
    · have HQ : Hid (lineS s i (strB L) = (s, 3)) := by
        simp only [Hid]
        rw [HL.out, hf]; rfl
      have hK3 := (hK2.keep hw).al_ (.cells #[.int .i64 0, .slice none 0 0, .int .i64 0, .slice none 0 0, .int .i64 0, .slice none 0 0, .int .i64 0] 32)
      clear a1 a2 a3 hK2 hw hf
      go_wp2_with fail
      go_ret
      rw [HQ.out]
      exact ⟨rfl, SesS.of hK3 HU.out⟩
theorem lineR_any {w0 : World} {g k : Nat} (s : SS) (i : Int) (L : ByteArray) (w : World) (hS : SesS w0 g s w) (hg : s.Good k) (hk : k ≤ 1000000) (hL : L.size ≤ 1048576) :
    Calls Tryz.prog 128 #[.pointer (some ⟨g, 0, none⟩), .int .i64 i, .string L] w fun e w' => e = .returned (.int .i64 (lineS s i (strB L)).2) ∧ SesS w0 g (lineS s i (strB L)).1 w' := by
  rcases he : s.ended with _ | _
  · by_cases hq : kindOf (strB L) = 0
    · by_cases h0 : strB L = endB
      · exact lineR_end s i L w hS he hq h0
      · rcases h1 : begins setB (strB L) with _ | _
        · rcases h2 : begins showB (strB L) with _ | _
          · exact lineR_word s i L w hS he hq hL h0 h1 h2
          · exact lineR_show s i L w hS hg he hq hL h2
        · exact lineR_set s i L w hS hg he hq hL h1
    · refine (lineR_stroke s i L w hS hg hk he hq).mono ?_
      rintro e w' ⟨rfl, h⟩
      refine ⟨?_, h⟩
      unfold lineS
      rw [if_neg (by rw [he]; decide), if_pos hq]
  · exact lineR_ended s i L w hS he
end Go.Proofs.YtmmiahgmdllgdaaGreatDoor

namespace Go.Proofs.YtmmiahgmdllgdaaGreatDoor
open Go.RowKit Go.Sort
theorem sesS_zero {w w1 : World} (h : Kn w [.blk (w.heap.size + 1 + 1) [.int .i64 0, .slice none 0 0, .int .i64 0, .slice none 0 0, .int .i64 0, .slice none 0 0, .int .i64 0, .int .i64 0, .slice none 0 0, .int .i64 0, .slice none 0 0, .int .i64 0, .slice none 0 0, .int .i64 0, .slice (some ⟨w.heap.size, 0, none⟩) 0 0, .slice (some ⟨w.heap.size + 1, 0, none⟩) 0 0, .bool false] 91, .blk (w.heap.size + 1) [] 2, .blk w.heap.size [] 2] w1) : SesS w (w.heap.size + 1 + 1) zSS w1 := by
  have h1 := (h.front 1 rfl).litRow (n := 0) (size := 1) rfl (by decide)
  have h2 := (h1.front 2 rfl).litRow (n := 0) (size := 1) rfl (by decide)
  have h3 := (((h2.nilRow 2 1).nilRow 2 1).nilRow 2 1).nilRow 2 1
  exact ⟨none, 0, none, 0, none, 0, none, 0, none, 0, none, 0, some ⟨w.heap.size, 0, none⟩, 0, some ⟨w.heap.size + 1, 0, none⟩, 0, [rowI none 0 []], h3.sel [6, 1, 2, 3, 4, 5, 0] 99 (by decide) (by decide), ⟨by simp [zSS, zTri], by simp [zSS, zTri], by simp [zSS, zTri]⟩⟩
theorem sesS_start {w w1 : World} {t : Tri} {A1 A2 A3 B1 B2 B3 : Option Addr} {c1 c2 c3 d1 d2 d3 g8 : Nat} {l8 : List Value} {T8 : TypeId} (h : Kn w [.blk (w.heap.size + 1 + 1) [.int .i64 t.a.base, .slice A1 t.a.digits.length c1, .int .i64 t.b.base, .slice A2 t.b.digits.length c2, .int .i64 t.s.base, .slice A3 t.s.digits.length c3, .int .i64 t.carry, .int .i64 t.a.base, .slice B1 t.a.digits.length d1, .int .i64 t.b.base, .slice B2 t.b.digits.length d2, .int .i64 t.s.base, .slice B3 t.s.digits.length d3, .int .i64 t.carry, .slice (some ⟨w.heap.size, 0, none⟩) 0 0, .slice (some ⟨w.heap.size + 1, 0, none⟩) 0 0, .bool false] 91, rowI B3 d3 t.s.digits, rowI B2 d2 t.b.digits, rowI B1 d1 t.a.digits, .blk g8 l8 T8, rowI A3 c3 t.s.digits, rowI A2 c2 t.b.digits, rowI A1 c1 t.a.digits, .blk (w.heap.size + 1) [] 2, .blk w.heap.size [] 2] w1) : SesS w (w.heap.size + 1 + 1) ⟨t, t, [], [], false⟩ w1 := by
  have h1 := (h.front 8 rfl).litRow (n := 0) (size := 1) rfl (by decide)
  have h2 := (h1.front 9 rfl).litRow (n := 0) (size := 1) rfl (by decide)
  exact ⟨A1, c1, A2, c2, A3, c3, B1, d1, B2, d2, B3, d3, some ⟨w.heap.size, 0, none⟩, 0, some ⟨w.heap.size + 1, 0, none⟩, 0, [rowI A3 c3 t.s.digits, rowI A2 c2 t.b.digits, rowI A1 c1 t.a.digits], h2.sel [2, 3, 4, 5, 0, 1, 7, 8, 9] 99 (by decide) (by decide), ⟨by simp, by simp, by simp⟩⟩
theorem SesS.below {w0 w : World} {g : Nat} {s : SS} (h : SesS w0 g s w) : Below w0.heap.size w0 w := by
  obtain ⟨U1, u1, U2, u2, U3, u3, A1, c1, A2, c2, A3, c3, SA, sc, BA, bc, m, hK, -⟩ := h
  exact hK.below
theorem SesS.endedAt {w0 w : World} {g : Nat} {s : SS} (h : SesS w0 g s w) : w.cell? ⟨g, 16, none⟩ = some (.bool s.ended) := by
  obtain ⟨U1, u1, U2, u2, U3, u3, A1, c1, A2, c2, A3, c3, SA, sc, BA, bc, m, hK, -⟩ := h
  exact hK.blkAt.1 16
set_option maxRecDepth 100000 in
set_option maxHeartbeats 6400000 in
theorem l24Run_any (A : Option Addr) (n c : Nat) (ss : List ByteArray) (w : World) (hr : RL StrM 1 w A n ss) (hn : n ≤ 100) (hsz : ∀ s ∈ ss, s.size ≤ 1048576) :
    Calls Tryz.prog 65 #[.slice A n c] w fun e w' => ∃ g, e = .returned (.tuple #[.pointer (some ⟨g, 0, none⟩), .int .i64 (runS (ss.map strB)).2.1, .int .i64 (runS (ss.map strB)).2.2]) ∧ SesS w g (runS (ss.map strB)).1 w' := by
  have hl := hr.1
  obtain ⟨RES, hRES⟩ : ∃ r, runS (ss.map strB) = r := ⟨_, rfl⟩
  rw [hRES]
  have HRES := Lib.hid hRES
  clear hRES
  have HR := Lib.hid (fun W (hW : Below w.heap.size w W) => hr.below steady_StrM hW)
  have HZ := Lib.hid hsz
  have hK0 := (((Kn.nil w).al [] 2).al [] 2).al [.int .i64 0, .slice none 0 0, .int .i64 0, .slice none 0 0, .int .i64 0, .slice none 0 0, .int .i64 0, .int .i64 0, .slice none 0 0, .int .i64 0, .slice none 0 0, .int .i64 0, .slice none 0 0, .int .i64 0, .slice (some ⟨w.heap.size, 0, none⟩) 0 0, .slice (some ⟨w.heap.size + 1, 0, none⟩) 0 0, .bool false] 91
  simp only [World.size_alloc] at hK0
  clear hsz hr
  match ss, hl with
  | [], hl =>
    have hn0 : n = 0 := hl.symm
    subst hn0
    have HQ := Lib.hid (show RES = (zSS, 0, 1) by rw [← HRES.out]; rfl)
    go_enter Tryz.func65, Tryz.ntmps65
    go_wp2_with fail
    refine bodyPost.kn hK0 ?_; intro w1 hK1
    go_ret3
    rw [HQ.out]
    exact ⟨_, rfl, sesS_zero hK1⟩
  | L :: tl, hl =>
    have hL := HZ.out L (List.mem_cons_self ..)
    have hn0 : 0 < n := by rw [← hl]; simp
    have hn1 : ((n : Int) == 0) = false := by rw [beq_eq_false_iff_ne]; omega
    have hn2 : (0 : Int) < (n : Int) := by omega
    have HL := Lib.hid hl
    have HX := Lib.hid (fun W (hW : Below w.heap.size w W) => show ∃ ad, A = some ad ∧ W.cell? ad = some (.string L) from by
      obtain ⟨ad, hA, hlt, hkl, hx⟩ := (HR.out W hW).at_ hn0
      refine ⟨ad, hA, ?_⟩
      have h : W.cell? (ad.add (0 * 1)) = some (.string L) := hx
      rw [show ad.add (0 * 1) = ad from by cases ad; simp [Addr.add]] at h
      exact h)
    clear hl
    rcases hbg : begins startB (strB L) with _ | _
    · have HQ : Hid (RES = (zSS, 0, 1)) := by
        simp only [Hid]
        rw [← HRES.out, List.map_cons, runS_cons, if_neg (by unfold startOk; rw [hbg]; simp)]
      have n1 := begins_no hbg
      change L.size ≤ 6 ∨ (6 < L.size ∧ ((L.extract 0 6).toList == [115, 116, 97, 114, 116, 32]) = false) at n1
      clear hbg
      rcases n1 with n1 | ⟨n1, f1⟩
      · have i1 : (L.size : Int) < 7 := by omega
        go_enter Tryz.func65, Tryz.ntmps65
        go_upto_region 2 with fail
        refine Code.wp.kn hK0 ?_; intro w1 hK1
        obtain ⟨ad, hA, hx0⟩ := HX.out w1 hK1.below
        subst hA
        go_wp2_with fail
        go_ret3
        rw [HQ.out]
        exact ⟨_, rfl, sesS_zero hK1⟩
      · have i1 : ¬ (L.size : Int) < 7 := by omega
        have i2 : (6 : Int) ≤ (L.size : Int) := by omega
        go_enter Tryz.func65, Tryz.ntmps65
        go_upto_region 2 with fail
        refine Code.wp.kn hK0 ?_; intro w1 hK1
        obtain ⟨ad, hA, hx0⟩ := HX.out w1 hK1.below
        subst hA
        go_wp2_with fail
        go_ret3
        rw [HQ.out]
        exact ⟨_, rfl, sesS_zero hK1⟩
    · obtain ⟨n1, f1⟩ := extract_beg hbg
      change 6 < L.size at n1
      have f1' : ((L.extract 0 6).toList == [115, 116, 97, 114, 116, 32]) = true := by rw [beq_iff_eq]; exact f1
      have i1 : ¬ (L.size : Int) < 7 := by omega
      have i2 : (6 : Int) ≤ (L.size : Int) := by omega
      obtain ⟨R, hR⟩ : ∃ R, L.extract 6 L.size = R := ⟨_, rfl⟩
      have hRB : strB R = (strB L).drop 6 := by rw [← hR]; exact strB_drop L 6
      have hRs : R.size ≤ 1048576 := by rw [← hR, extract_size]; omega
      have HRM := (fun W => specReadMachine_any R W hRs)
      have HQ0 := (show RES = if (rdM (strB R)).isSome then goS ⟨rdMach (strB R), rdMach (strB R), [], [], false⟩ 1 (tl.map strB) else (zSS, 0, 1) by
        rw [← HRES.out, List.map_cons, runS_cons]
        unfold startOk
        rw [hbg, hRB]; rfl)
      have hvt0 := rdm_good (bs := strB R)
      obtain ⟨t, htr⟩ : ∃ t, rdMach (strB R) = t := ⟨_, rfl⟩
      obtain ⟨rd, hrd⟩ : ∃ b, (rdM (strB R)).isSome = b := ⟨_, rfl⟩
      rw [htr, hrd] at HRM HQ0
      rw [htr, hrd] at hvt0
      replace HRM := Lib.hid HRM
      replace HQ0 := Lib.hid HQ0
      clear hbg hRB hRs htr hrd f1 n1
      go_enter Tryz.func65, Tryz.ntmps65
      go_upto_region 2 with fail
      refine Code.wp.kn hK0 ?_; intro w1 hK1
      obtain ⟨ad, hA, hx0⟩ := HX.out w1 hK1.below
      subst hA
      clear hK0
      go_wp2_with fail
      refine (HRM.out _).mono ?_; rintro e w3 ⟨A1, c1, A2, c2, A3, c3, rfl, hKn⟩
      have hK2 := hK1.join hKn
      clear hK1 hKn hx0
      obtain ⟨a1, a2, a3, -⟩ := hK2.cells
      rcases rd with _ | _
      · have HQ : Hid (RES = (zSS, 0, 1)) := HQ0.out
        have hK1 := (hK2.sel [3, 4, 5] 99 (by decide) (by decide)).al_ (.cells #[.int .i64 t.a.base, .slice A1 t.a.digits.length c1, .int .i64 t.b.base, .slice A2 t.b.digits.length c2, .int .i64 t.s.base, .slice A3 t.s.digits.length c3, .int .i64 t.carry] 32)
        clear hK2
        go_wp2_with fail
        go_ret3
        rw [HQ.out]
        exact ⟨_, rfl, sesS_zero hK1⟩
      · have HQ : Hid (RES = goS ⟨t, t, [], [], false⟩ 1 (tl.map strB)) := HQ0.out
        have hvt := hvt0 rfl
        have hz := sized_of hvt
        go_upto_region 7 with fail
        refine Code.wp.kn (hK2.al [.int .i64 t.a.base, .slice A1 t.a.digits.length c1, .int .i64 t.b.base, .slice A2 t.b.digits.length c2, .int .i64 t.s.base, .slice A3 t.s.digits.length c3, .int .i64 t.carry] 32) ?_; intro w4 hK4
        obtain ⟨g8, hg8⟩ : ∃ g, w3.heap.size = g := ⟨_, rfl⟩
        rw [hg8] at hK4 ⊢
        clear hg8 hK2 a1 a2 a3
        obtain ⟨b1, b2, b3, a1, a2, a3, -⟩ := hK4.cells
        have hKa := (((((((hK4.front 4 rfl).st 0 (.int .i64 t.a.base)).st 1 (.slice A1 t.a.digits.length c1)).st 2 (.int .i64 t.b.base)).st 3 (.slice A2 t.b.digits.length c2)).st 4 (.int .i64 t.s.base)).st 5 (.slice A3 t.s.digits.length c3)).st 6 (.int .i64 t.carry)
        go_wp2_with fail
        refine Calls.kn hKa ?_; intro w5 hK5
        clear hKa hK4 b1 b2 b3 a1 a2 a3
        refine (l10Own_any g8 t A1 A2 A3 c1 c2 c3 w5 ⟨box7at hK5 1 rfl, (hK5.front 4 rfl).riv, (hK5.front 3 rfl).riv, (hK5.front 2 rfl).riv⟩ hz).mono ?_
        rintro e w6 ⟨B1, d1, B2, d2, B3, d3, rfl, hKn⟩
        have hK6 := hK5.join hKn
        clear hK5 hKn
        obtain ⟨a1, a2, a3, -⟩ := hK6.cells
        have hKb := (((((((hK6.front 3 rfl).st 7 (.int .i64 t.a.base)).st 8 (.slice B1 t.a.digits.length d1)).st 9 (.int .i64 t.b.base)).st 10 (.slice B2 t.b.digits.length d2)).st 11 (.int .i64 t.s.base)).st 12 (.slice B3 t.s.digits.length d3)).st 13 (.int .i64 t.carry)
        go_upto_region 9 with fail
        refine Code.wp.kn hKb ?_; intro w7 hK7
        have hS0 := sesS_start hK7
        have hg0 : (SS.mk t t [] [] false).Good 1 := ⟨hvt, hvt, by simp, by simp⟩
        obtain ⟨RR, hRR⟩ : ∃ r, goS ⟨t, t, [], [], false⟩ 1 (tl.map strB) = r := ⟨_, rfl⟩
        rw [hRR] at HQ
        clear hKb hK6 hK7 a1 a2 a3
        go_wp2_with fail
        go_loopw [8, 9] (fun ii _ wr => ∃ (k : Nat) (s : SS), 1 ≤ k ∧ k ≤ n ∧ ii = .int .i64 k ∧ SesS w (w.heap.size + 1 + 1) s wr ∧ s.Good k ∧ goS s k (((L :: tl).map strB).drop k) = RR) (fun ii _ _ => n - (intOf ii).toNat)
        case atStart => exact ⟨1, _, Nat.le_refl _, hn0, rfl, hS0, hg0, hRR⟩
        case round =>
          clear hS0 hg0 hRR
          obtain ⟨k, s, k1, kn, rfl, hS, hg, hgo⟩ := hrel
          have hb := hS.below
          by_cases hkn : k < n
          · obtain ⟨ad', hA, hlt', hkl, hx⟩ := (HR.out wr hb).at_ hkn
            have hx0 : wr.cell? (ad'.add k) = some (.string (L :: tl)[k]) := by have h : wr.cell? (ad'.add (k * 1)) = some (.string (L :: tl)[k]) := hx; rw [Nat.mul_one] at h; exact h
            have hLk := HZ.out _ (List.getElem_mem hkl)
            have hdr : ((L :: tl).map strB).drop k = strB (L :: tl)[k] :: ((L :: tl).map strB).drop (k + 1) := by
              rw [List.drop_eq_getElem_cons (by rw [List.length_map]; exact hkl), List.getElem_map]
            obtain ⟨Lk, hLe⟩ : ∃ x, (L :: tl)[k] = x := ⟨_, rfl⟩
            rw [hLe] at hx0 hLk hdr
            rw [hdr, goS_cons] at hgo
            injection hA with hA
            subst hA
            have hgn := lineS_good (i := k) (bs := strB Lk) hg
            have KL := (lineR_any s k Lk wr hS hg (by omega) hLk)
            obtain ⟨⟨s', cd⟩, hls⟩ : ∃ r, lineS s k (strB Lk) = r := ⟨_, rfl⟩
            rw [hls] at KL hgo hgn
            have KL := Lib.hid KL
            have HGO := Lib.hid hgo
            have HGN := Lib.hid hgn
            have hi0 : (0 : Int) ≤ (k : Int) := by omega
            have hi1 : (k : Int) < (n : Int) := by omega
            clear hls hgo hgn hS hg hx hLe hdr
            rcases hcd : (cd == 0) with _ | _
            · go_wp2_with fail
              refine KL.out.mono ?_; rintro e w6 ⟨rfl, hS6⟩
              go_wp2_with fail
              go_ret3
              have h1 := HGO.out
              rw [if_pos (by simpa using hcd)] at h1
              rw [HQ.out, ← h1]
              exact ⟨_, rfl, hS6⟩
            · obtain rfl : cd = 0 := by simpa using hcd
              go_wp2_with fail
              refine KL.out.mono ?_; rintro e w6 ⟨rfl, hS6⟩
              go_wp2_with fail
              go_roundw
              case rel =>
                have h1 := HGO.out
                rw [if_neg (by simp)] at h1
                exact ⟨k + 1, s', by omega, by omega, by go_num, hS6, HGN.out, h1⟩
              case measure => simp [intOf]; omega
          · obtain rfl : k = n := by omega
            have hi1 : ¬ (k : Int) < (k : Int) := by omega
            rw [List.drop_eq_nil_of_le (by rw [List.length_map]; have := HL.out; omega), goS_nil] at hgo
            have he := hS.endedAt
            have HGO := Lib.hid hgo
            have HS := Lib.hid hS
            clear hgo hS
            rcases hen : s.ended with _ | _
            · rw [hen] at he
              go_wp2_with fail
              go_ret3
              have h1 := HGO.out
              rw [hen, if_neg (by decide)] at h1
              rw [HQ.out, ← h1]
              exact ⟨_, rfl, HS.out⟩
            · rw [hen] at he
              go_wp2_with fail
              go_ret3
              have h1 := HGO.out
              rw [hen, if_pos rfl] at h1
              rw [HQ.out, ← h1]
              exact ⟨_, rfl, HS.out⟩
/-- what a whole session gives (the program) -/
def WholeI (bs : List (List UInt8)) (w : World) (e : Ending) (w' : World) : Prop :=
  (wholeC bs = 0 ∧ ∃ g, e = .returned (.tuple #[.pointer (some ⟨g, 0, none⟩), .int .i64 0]) ∧ SesI [] w g (runS bs).1 w') ∨
  (wholeC bs ≠ 0 ∧ e = .returned (.tuple #[.pointer none, .int .i64 (wholeC bs)]) ∧ Below w.heap.size w w')
/-- the same (the reference) -/
def WholeS (bs : List (List UInt8)) (w : World) (e : Ending) (w' : World) : Prop :=
  (wholeC bs = 0 ∧ ∃ g, e = .returned (.tuple #[.pointer (some ⟨g, 0, none⟩), .int .i64 0]) ∧ SesS w g (runS bs).1 w') ∨
  (wholeC bs ≠ 0 ∧ ∃ g, e = .returned (.tuple #[.pointer (some ⟨g, 0, none⟩), .int .i64 (wholeC bs)]) ∧ Below w.heap.size w w')
theorem wholeSession_any (A : Option Addr) (n c : Nat) (ss : List ByteArray) (w : World) (hr : RL StrM 1 w A n ss) (hsz : ∀ s ∈ ss, s.size ≤ 1048576) (ht : TB w) :
    Calls Tryz.prog 66 #[.slice A n c] w (WholeI (ss.map strB) w) := by
  have hl := hr.1
  by_cases hn : n ≤ 100
  · have hi : ¬ (100 : Int) < (n : Int) := by omega
    have KR := (runSession_any A n c ss w hr hn hsz ht)
    have hC := Lib.hid (show wholeC (ss.map strB) = if (runS (ss.map strB)).2.2 = 0 then 0 else 8 by unfold wholeC; rw [List.length_map, if_neg (by omega)])
    unfold WholeI
    obtain ⟨⟨s, at_, cd⟩, hR⟩ : ∃ r, runS (ss.map strB) = r := ⟨_, rfl⟩
    rw [hR] at KR hC ⊢
    obtain ⟨C, hCC⟩ : ∃ C, wholeC (ss.map strB) = C := ⟨_, rfl⟩
    rw [hCC] at hC ⊢
    have KR := Lib.hid KR
    clear hR hCC hr hsz ht
    rcases hcd : (cd == 0) with _ | _
    · have HC : Hid (C = 8) := by simp only [Hid]; rw [hC.out, if_neg (by simpa using hcd)]
      go_enter Tryz.func66, Tryz.ntmps66
      go_wp2_with fail
      refine KR.out.mono ?_; rintro e w1 ⟨g, rfl, hS⟩
      go_wp2_with fail
      go_ret2
      exact .inr ⟨by rw [HC.out]; decide, by rw [HC.out]; rfl, hS.below⟩
    · have HC : Hid (C = 0) := by simp only [Hid]; rw [hC.out, if_pos (by simpa using hcd)]
      obtain rfl : cd = 0 := by simpa using hcd
      go_enter Tryz.func66, Tryz.ntmps66
      go_wp2_with fail
      refine KR.out.mono ?_; rintro e w1 ⟨g, rfl, hS⟩
      go_wp2_with fail
      go_ret2
      exact .inl ⟨HC.out, g, rfl, hS⟩
  · have hi : (100 : Int) < (n : Int) := by omega
    have HC := Lib.hid (show wholeC (ss.map strB) = 5 by unfold wholeC; rw [List.length_map, if_pos (by omega)])
    unfold WholeI
    rw [HC.out]
    clear hr hsz ht
    go_enter Tryz.func66, Tryz.ntmps66
    go_wp2_with fail
    go_ret2
    exact .inr ⟨by decide, rfl, Below.refl _ _⟩
theorem l24Ask_any (A : Option Addr) (n c : Nat) (ss : List ByteArray) (w : World) (hr : RL StrM 1 w A n ss) (hsz : ∀ s ∈ ss, s.size ≤ 1048576) :
    Calls Tryz.prog 68 #[.slice A n c] w (WholeS (ss.map strB) w) := by
  have hl := hr.1
  by_cases hn : n ≤ 100
  · have hi : ¬ (100 : Int) < (n : Int) := by omega
    have KR := (l24Run_any A n c ss w hr hn hsz)
    have hC := Lib.hid (show wholeC (ss.map strB) = if (runS (ss.map strB)).2.2 = 0 then 0 else 8 by unfold wholeC; rw [List.length_map, if_neg (by omega)])
    unfold WholeS
    obtain ⟨⟨s, at_, cd⟩, hR⟩ : ∃ r, runS (ss.map strB) = r := ⟨_, rfl⟩
    rw [hR] at KR hC ⊢
    obtain ⟨C, hCC⟩ : ∃ C, wholeC (ss.map strB) = C := ⟨_, rfl⟩
    rw [hCC] at hC ⊢
    have KR := Lib.hid KR
    clear hR hCC hr hsz
    rcases hcd : (cd == 0) with _ | _
    · have HC : Hid (C = 8) := by simp only [Hid]; rw [hC.out, if_neg (by simpa using hcd)]
      go_enter Tryz.func68, Tryz.ntmps68
      go_wp2_with fail
      refine KR.out.mono ?_; rintro e w1 ⟨g, rfl, hS⟩
      go_wp2_with fail
      go_ret2
      exact .inr ⟨by rw [HC.out]; decide, g, by rw [HC.out]; rfl, hS.below⟩
    · have HC : Hid (C = 0) := by simp only [Hid]; rw [hC.out, if_pos (by simpa using hcd)]
      obtain rfl : cd = 0 := by simpa using hcd
      go_enter Tryz.func68, Tryz.ntmps68
      go_wp2_with fail
      refine KR.out.mono ?_; rintro e w1 ⟨g, rfl, hS⟩
      go_wp2_with fail
      go_ret2
      exact .inl ⟨HC.out, g, rfl, hS⟩
  · have hi : (100 : Int) < (n : Int) := by omega
    have HC := Lib.hid (show wholeC (ss.map strB) = 5 by unfold wholeC; rw [List.length_map, if_pos (by omega)])
    unfold WholeS
    rw [HC.out]
    clear hr hsz
    go_enter Tryz.func68, Tryz.ntmps68
    go_wp2_with fail
    go_ret2
    exact .inr ⟨by decide, _, rfl, (Below.refl _ _).alloc (Nat.le_refl _) _⟩
end Go.Proofs.YtmmiahgmdllgdaaGreatDoor

namespace Go.Proofs.YtmmiahgmdllgdaaGreatDoor
open Go.RowKit Go.Sort
/-! whole sessions, plainly -/
/-- what a line does to a machine -/
def stepM (t : Tri) (b : List UInt8) : Tri × Int :=
  if kindOf b ≠ 0 then ((strokeT (kindOf b) t).1, 0)
  else if b = endB then (t, 0)
  else if begins setB b then (if (rdDec (b.drop 4)).isSome && decide (0 ≤ rdN (b.drop 4) ∧ rdN (b.drop 4) < pw t.a.base t.a.digits.length) then (setT t (rdN (b.drop 4)), 0) else (t, 3))
  else if begins showB b then (if b.drop 5 = strB (mtextL t) then (t, 0) else (t, 4))
  else (t, 2)
theorem kind_end : kindOf endB = 0 := by decide
theorem lineS_step {s : SS} {i : Int} {b : List UInt8} (h : s.ended = false) : (lineS s i b).1.m = (stepM s.m b).1 ∧ (lineS s i b).2 = (stepM s.m b).2 ∧ (lineS s i b).1.ended = decide (b = endB) ∧ (lineS s i b).1.start = s.start := by
  unfold lineS stepM
  rw [if_neg (by rw [h]; decide)]
  by_cases hk : kindOf b = 0
  · have hk' : ¬ (kindOf b ≠ 0) := fun h => h hk
    rw [if_neg hk', if_neg hk']
    by_cases he : b = endB
    · rw [if_pos he, if_pos he]; simp [he]
    · rw [if_neg he, if_neg he]
      have hd : decide (b = endB) = false := decide_eq_false he
      rw [hd]
      rcases begins setB b with _ | _
      · simp only [Bool.false_eq_true, if_false]
        rcases begins showB b with _ | _
        · simp [h]
        · simp only [if_true]; split <;> simp [h]
      · simp only [if_true]; split <;> simp [h]
  · rw [if_pos hk, if_pos hk]
    have he : b ≠ endB := by rintro rfl; exact hk kind_end
    simp [he]
def foldT (t : Tri) (l : List (List UInt8)) : Tri := l.foldl (fun t b => (stepM t b).1) t
def AllOk : Tri → List (List UInt8) → Prop
  | _, [] => True
  | t, b :: l => (stepM t b).2 = 0 ∧ b ≠ endB ∧ AllOk (stepM t b).1 l
theorem goS_ended {s : SS} {i : Int} {l : List (List UInt8)} (h : s.ended = true) (h0 : (goS s i l).2.2 = 0) : l = [] := by
  cases l with
  | nil => rfl
  | cons b l =>
    rw [goS_cons, lineS_ended i b h] at h0
    rw [if_pos (show (5 : Int) ≠ 0 by decide)] at h0
    cases h0
/-- a whole session: its lines are fine, and the last one ends it -/
theorem goS_valid : ∀ {l : List (List UInt8)} {s : SS} {i : Int}, s.ended = false → (goS s i l).2.2 = 0 → ∃ body, l = body ++ [endB] ∧ AllOk s.m body ∧ (goS s i l).1.m = foldT s.m body ∧ (goS s i l).1.start = s.start
  | [], s, i, h, h0 => by
    rw [goS_nil, h, if_neg (by decide)] at h0
    cases h0
  | b :: l, s, i, h, h0 => by
    obtain ⟨e1, e2, e3, e4⟩ := lineS_step (i := i) (b := b) h
    by_cases hc : (lineS s i b).2 = 0
    · rw [goS_cons, if_neg (fun h => h hc)] at h0 ⊢
      by_cases he : b = endB
      · have hl := goS_ended (by rw [e3, decide_eq_true he]) h0
        subst hl
        refine ⟨[], by rw [he]; rfl, trivial, ?_, ?_⟩
        · rw [goS_nil, e3, decide_eq_true he, if_pos rfl, e1, he]
          show (stepM s.m endB).1 = s.m
          unfold stepM
          rw [if_neg (fun h => h kind_end), if_pos rfl]
        · rw [goS_nil, e3, decide_eq_true he, if_pos rfl, e4]
      · have he' : (lineS s i b).1.ended = false := by rw [e3, decide_eq_false he]
        obtain ⟨body, h1, h2, h3, h4⟩ := goS_valid (l := l) he' h0
        refine ⟨b :: body, by rw [h1]; rfl, ⟨e2.symm.trans hc, he, by rw [← e1]; exact h2⟩, ?_, by rw [h4, e4]⟩
        rw [h3, e1]; rfl
    · rw [goS_cons, if_pos hc] at h0
      exact absurd h0 hc
/-- fine lines without an end: the machine behind them -/
theorem goS_fold : ∀ {l : List (List UInt8)} {s : SS} {i : Int}, s.ended = false → AllOk s.m l → (goS s i l).1.m = foldT s.m l
  | [], s, i, h, _ => by rw [goS_nil, h, if_neg (by decide)]; rfl
  | b :: l, s, i, h, h0 => by
    obtain ⟨e1, e2, e3, e4⟩ := lineS_step (i := i) (b := b) h
    obtain ⟨h1, h2, h3⟩ := h0
    rw [goS_cons, if_neg (fun h => h (e2.trans h1))]
    rw [goS_fold (by rw [e3, decide_eq_false h2]) (by rw [e1]; exact h3), e1]; rfl
theorem foldT_ok : ∀ {l : List (List UInt8)} {t : Tri}, vmach t = true → vmach (foldT t l) = true
  | [], t, h => h
  | b :: l, t, h => by
    show vmach (foldT (stepM t b).1 l) = true
    refine foldT_ok ?_
    have hg : (SS.mk t t [] [] false).Good 0 := ⟨h, h, Nat.le_refl _, Nat.le_refl _⟩
    have := (lineS_good (i := 0) (bs := b) hg).m
    rw [(lineS_step (s := ⟨t, t, [], [], false⟩) (i := 0) (b := b) rfl).1] at this
    exact this
/-- a whole session, from its lines -/
theorem whole_parts {l : List (List UInt8)} (h : wholeC l = 0) : l.length ≤ 100 ∧ ∃ b0 body, l = b0 :: (body ++ [endB]) ∧ startOk b0 = true ∧ vmach (rdMach (b0.drop 6)) = true ∧ AllOk (rdMach (b0.drop 6)) body ∧ (runS l).1.m = foldT (rdMach (b0.drop 6)) body ∧ (runS l).1.start = rdMach (b0.drop 6) := by
  obtain ⟨h1, h2⟩ := wholeC_ok h
  refine ⟨h1, ?_⟩
  match l, h2 with
  | [], h2 => simp [runS] at h2
  | b :: t, h2 =>
    rw [runS_cons] at h2 ⊢
    rcases hs : startOk b with _ | _
    · rw [hs, if_neg (by decide)] at h2; cases h2
    · rw [hs, if_pos rfl] at h2
      obtain ⟨body, e1, e2, e3, e4⟩ := goS_valid (s := ⟨rdMach (b.drop 6), rdMach (b.drop 6), [], [], false⟩) rfl h2
      have hv : vmach (rdMach (b.drop 6)) = true := by
        unfold startOk at hs
        rw [Bool.and_eq_true] at hs
        exact rdm_good hs.2
      rw [if_pos rfl]
      exact ⟨b, body, by rw [e1], hs, hv, e2, e3, e4⟩
theorem show_step {t : Tri} {b : List UInt8} (h : begins showB b = true) (h0 : (stepM t b).2 = 0) : (stepM t b).1 = t := by
  have h0 := h0
  unfold stepM at h0 ⊢
  by_cases hk : kindOf b = 0
  · have hk' : ¬ (kindOf b ≠ 0) := fun h => h hk
    rw [if_neg hk'] at h0 ⊢
    rw [if_neg (begins_ne h (by decide)), show_not_set h, if_neg (by decide), if_pos h] at h0 ⊢
    split <;> rfl
  · have hkk := kindOf_name hk
    have hb := (begins_iff.1 h).1
    have : b.length ≤ 5 := by rw [← hkk, strB_len]; exact sname_len _
    change 5 < b.length at hb
    omega
/-- the bytes "show " alone are no line of a session -/
theorem show_alone {t : Tri} (h : (stepM t showB).2 = 0) : False := by
  have : stepM t showB = (t, 2) := by
    unfold stepM
    rw [if_neg (by decide), if_neg (by decide), if_neg (by decide), if_neg (by decide)]
  rw [this] at h
  cases h
/-- is a line one that shows? (the reference's test) -/
def isShow (b : List UInt8) : Bool := decide (5 ≤ b.length) && decide (b.take 5 = showB)
theorem isShow_eq {t : Tri} {b : List UInt8} (h : (stepM t b).2 = 0) : isShow b = begins showB b := by
  unfold isShow begins
  by_cases h5 : b.length = 5
  · by_cases hb : b.take 5 = showB
    · rw [List.take_of_length_le (by omega)] at hb
      subst hb
      exact (show_alone h).elim
    · show (_ && decide (b.take 5 = showB)) = (_ && decide (b.take 5 = showB))
      rw [decide_eq_false hb]; simp
  · show (decide (5 ≤ b.length) && _) = (decide (5 < b.length) && _)
    have : decide (5 ≤ b.length) = decide (5 < b.length) := by
      by_cases h6 : 5 < b.length
      · rw [decide_eq_true h6, decide_eq_true (by omega)]
      · rw [decide_eq_false h6, decide_eq_false (by omega)]
    rw [this]; rfl
theorem isShow_end : isShow endB = false := by decide
theorem start_not_show {b : List UInt8} (h : startOk b = true) : begins showB b = false ∧ isShow b = false := by
  unfold startOk at h
  rw [Bool.and_eq_true] at h
  have h1 := (begins_iff.1 h.1).2
  have h2 : b.take 5 = startB.take 5 := by rw [← h1, List.take_take]; rfl
  constructor
  · unfold begins
    have : ¬ b.take showB.length = showB := by
      show ¬ b.take 5 = showB
      rw [h2]; decide
    rw [decide_eq_false this]; simp
  · unfold isShow
    rw [h2]
    have : decide (startB.take 5 = showB) = false := by decide
    rw [this]; simp
end Go.Proofs.YtmmiahgmdllgdaaGreatDoor

namespace Go.Proofs.YtmmiahgmdllgdaaGreatDoor
open Go.RowKit Go.Sort
/-! the shown session, plainly -/
def endW : ByteArray := ⟨#[101, 110, 100]⟩
def showT (t : Tri) : ByteArray := showW ++ mtext t
/-- what follows in the shown session, behind the first line -/
def restL (t : Tri) : List ByteArray → List ByteArray
  | [] => []
  | b :: r => if r = [] then [b] else if begins showB (strB b) then restL t r else b :: showT (stepM t (strB b)).1 :: restL (stepM t (strB b)).1 r
/-- the same of lines none of which shows -/
def restP (t : Tri) : List ByteArray → List ByteArray
  | [] => []
  | b :: r => if r = [] then [b] else b :: showT (stepM t (strB b)).1 :: restP (stepM t (strB b)).1 r
def notShow (b : ByteArray) : Bool := !isShow (strB b)
/-- lines that are fine, and the end behind them -/
def OkEnd (t : Tri) (l : List ByteArray) : Prop := ∃ body, l = body ++ [endW] ∧ AllOk t (body.map strB)
theorem endW_of {E : ByteArray} (h : strB E = endB) : E = endW := by
  have : endW = E := str_eq.2 (show ([101, 110, 100] : List UInt8) = strB E from h.symm)
  exact this.symm
theorem OkEnd.cons {t : Tri} {b : ByteArray} {r : List ByteArray} (h : OkEnd t (b :: r)) (hr : r ≠ []) : (stepM t (strB b)).2 = 0 ∧ strB b ≠ endB ∧ OkEnd (stepM t (strB b)).1 r := by
  obtain ⟨body, h1, h2⟩ := h
  cases body with
  | nil =>
    simp only [List.nil_append, List.cons.injEq] at h1
    exact absurd h1.2 hr
  | cons c body =>
    simp only [List.cons_append, List.cons.injEq] at h1
    obtain ⟨rfl, rfl⟩ := h1
    exact ⟨h2.1, h2.2.1, body, rfl, h2.2.2⟩
theorem OkEnd.last {t : Tri} {b : ByteArray} (h : OkEnd t [b]) : b = endW := by
  obtain ⟨body, h1, h2⟩ := h
  cases body with
  | nil => simpa using h1
  | cons c body => simp at h1
theorem OkEnd.ne {t : Tri} {l : List ByteArray} (h : OkEnd t l) : l ≠ [] := by
  obtain ⟨body, h1, -⟩ := h
  rw [h1]; simp
theorem whole_lines {ss : List ByteArray} (h : wholeC (ss.map strB) = 0) : ss.length ≤ 100 ∧ ∃ L tl, ss = L :: tl ∧ startOk (strB L) = true ∧ vmach (rdMach ((strB L).drop 6)) = true ∧ OkEnd (rdMach ((strB L).drop 6)) tl ∧ (runS (ss.map strB)).1.start = rdMach ((strB L).drop 6) := by
  obtain ⟨h1, b0, body, h2, h3, h4, h5, h6, h7⟩ := whole_parts h
  rw [List.length_map] at h1
  refine ⟨h1, ?_⟩
  match ss, h2, h7 with
  | L :: tl, g2, h7 =>
    simp only [List.map_cons, List.cons.injEq] at g2
    obtain ⟨rfl, g3⟩ := g2
    refine ⟨L, tl, rfl, h3, h4, ?_, h7⟩
    obtain ⟨l1, l2, rfl, e1, e2⟩ := List.map_eq_append_iff.1 g3
    have hl2 : l2.length = 1 := by have := congrArg List.length e2; simpa using this
    obtain ⟨E, rfl⟩ := List.length_eq_one_iff.1 hl2
    have e3 : strB E = endB := by simpa using e2
    exact ⟨l1, by rw [endW_of e3], by rw [e1]; exact h5⟩
theorem endW_notShow : notShow endW = true := by decide
/-- the lines that do not show, and the machine -/
theorem rest_plain : ∀ {l : List ByteArray} {t : Tri}, OkEnd t l → restL t l = restP t (l.filter notShow) ∧ OkEnd t (l.filter notShow)
  | [], t, h => absurd rfl h.ne
  | [b], t, h => by
    have hb := h.last
    subst hb
    have hf : [endW].filter notShow = [endW] := by rw [List.filter_cons_of_pos endW_notShow, List.filter_nil]
    rw [hf]
    exact ⟨by unfold restL restP; simp, h⟩
  | b :: c :: r, t, h => by
    obtain ⟨h1, h2, h3⟩ := h.cons (by simp)
    obtain ⟨ih1, ih2⟩ := rest_plain h3
    have hs : notShow b = !begins showB (strB b) := by unfold notShow; rw [isShow_eq h1]
    rcases hb : begins showB (strB b) with _ | _
    · rw [hb] at hs
      rw [List.filter_cons_of_pos (by rw [hs]; rfl)]
      have hne := ih2.ne
      refine ⟨?_, ?_⟩
      · have e1 : restL t (b :: c :: r) = b :: showT (stepM t (strB b)).1 :: restL (stepM t (strB b)).1 (c :: r) := by
          conv => lhs; unfold restL
          rw [if_neg (by simp), hb, if_neg (by decide)]
        have e2 : restP t (b :: (c :: r).filter notShow) = b :: showT (stepM t (strB b)).1 :: restP (stepM t (strB b)).1 ((c :: r).filter notShow) := by
          conv => lhs; unfold restP
          rw [if_neg hne]
        rw [e1, e2, ih1]
      · obtain ⟨body, e, ok⟩ := ih2
        exact ⟨b :: body, by rw [e]; rfl, h1, h2, ok⟩
    · rw [hb] at hs
      rw [List.filter_cons_of_neg (by rw [hs]; decide)]
      have ht := show_step hb h1
      rw [ht] at ih1 ih2
      refine ⟨?_, ih2⟩
      have e1 : restL t (b :: c :: r) = restL t (c :: r) := by
        conv => lhs; unfold restL
        rw [if_neg (by simp), hb, if_pos rfl]
      rw [e1, ih1]
/-- the shown session, and its code -/
def shL (ss : List ByteArray) : List ByteArray := match ss with | [] => [] | L :: tl => L :: restL (rdMach ((strB L).drop 6)) tl
def shC (ss : List ByteArray) : Int := if wholeC (ss.map strB) = 0 then (if (shL ss).length > 100 then 5 else 0) else wholeC (ss.map strB)
def shR (ss : List ByteArray) : List ByteArray := if shC ss = 0 then shL ss else []
theorem shR_len (ss : List ByteArray) : (shR ss).length ≤ 100 := by
  unfold shR
  split
  · rename_i h
    unfold shC at h
    split at h
    · split at h
      · cases h
      · omega
    · rename_i h'; exact absurd h h'
  · simp
/-- a row of strings, of its own length -/
def rowT (A : Option Addr) (c : Nat) (ss : List ByteArray) : Ent := rowSN A ss.length c ss
/-- strings and a code -/
def SCRet (l : List ByteArray) (C : Int) (w : World) (e : Ending) (w' : World) : Prop := ∃ X x, e = .returned (.tuple #[.slice X l.length x, .int .i64 C]) ∧ Kn w [rowT X x l] w'
theorem SCRet.none {C : Int} {w w' : World} (h : Below w.heap.size w w') : SCRet [] C w (.returned (.tuple #[.slice none 0 0, .int .i64 C])) w' :=
  ⟨_, _, rfl, ((Kn.nil w).keep h).nilRow _ _⟩
theorem AllOk.take : ∀ {l : List (List UInt8)} {t : Tri} (k : Nat), AllOk t l → AllOk t (l.take k)
  | [], t, k, h => by rw [List.take_nil]; trivial
  | b :: l, t, 0, h => trivial
  | b :: l, t, k + 1, h => ⟨h.1, h.2.1, AllOk.take k h.2.2⟩
theorem restL_len : ∀ (l : List ByteArray) (t : Tri), (restL t l).length ≤ 2 * l.length
  | [], t => by simp [restL]
  | b :: r, t => by
    unfold restL
    have h1 := restL_len r t
    have h2 := restL_len r (stepM t (strB b)).1
    split
    · simp; omega
    · split
      · simp only [List.length_cons]; omega
      · simp only [List.length_cons]; omega
end Go.Proofs.YtmmiahgmdllgdaaGreatDoor

namespace Go.Proofs.YtmmiahgmdllgdaaGreatDoor
open Go.RowKit Go.Sort
/-! strokes that lead back, plainly -/
theorem tmod_wrap (a P : Int) (hP : 0 < P) : (a.tmod P + P).tmod P = a % P := by
  have h1 := Int.lt_tmod_of_pos a hP
  rw [Int.tmod_eq_emod_of_nonneg (by omega), Int.add_emod_right, Int.tmod_def, Int.sub_mul_emod_self_left]
theorem digD_valL (b : Int) (hb : 2 ≤ b) : ∀ ds : List Int, (∀ d ∈ ds, 0 ≤ d ∧ d < b) → valL b ds ≤ 1000000000000 → digD b ds.length (valL b ds) = ds
  | [], _, _ => rfl
  | d :: ds, hd, hl => by
    have hd0 := hd d (List.mem_cons_self ..)
    have hv0 := (valL_bd b hb ds (fun x hx => (hd x (List.mem_cons_of_mem _ hx)).1)).1
    have e1 : valL b (d :: ds) = valL b ds * b + d := by simp only [valL] at hl ⊢; omega
    have h2 : valL b ds * 1 ≤ valL b ds * b := Int.mul_le_mul_of_nonneg_left (by omega) hv0
    have ih := digD_valL b hb ds (fun x hx => hd x (List.mem_cons_of_mem _ hx)) (by omega)
    have h3 : 0 ≤ valL b ds * b + d := by omega
    have e2 : (valL b ds * b + d).tmod b = d := by
      rw [Int.tmod_eq_emod_of_nonneg h3, Int.add_comm, Int.add_mul_emod_self_right]
      exact Int.emod_eq_of_lt hd0.1 hd0.2
    have e3 : (valL b ds * b + d).tdiv b = valL b ds := by
      rw [Int.tdiv_eq_ediv_of_nonneg h3, Int.add_comm, Int.add_mul_ediv_right _ _ (by omega), Int.ediv_eq_zero_of_lt hd0.1 hd0.2, Int.zero_add]
    rw [List.length_cons, digD_cons, e1, e2, e3, ih]
theorem vreg_dig {b : Int} {ds : List Int} (hv : vreg b ds = true) : digD b ds.length (valL b ds) = ds := by
  obtain ⟨⟨b1, b2⟩, -, hd, hl⟩ := vreg_iff.1 hv
  exact digD_valL b b1 ds hd hl
theorem valL_shift {b : Int} {ds : List Int} (x : Int) (hv : vreg b ds = true) (hp : pw b ds.length ≤ 1000000000001) : valL b (shiftD b ds x) = (valL b ds + x) % pw b ds.length := by
  obtain ⟨⟨b1, b2⟩, -, hd, hl⟩ := vreg_iff.1 hv
  have hp1 := pw_pos b b1 ds.length
  unfold shiftD
  rw [tmod_wrap _ _ (by omega)]
  have h1 := Int.emod_nonneg (valL b ds + x) (show pw b ds.length ≠ 0 by omega)
  have h2 := Int.emod_lt_of_pos (valL b ds + x) (show 0 < pw b ds.length by omega)
  exact valL_digD b b1 _ _ h1 h2 (by omega)
theorem shiftD_eq (b : Int) (hb : 2 ≤ b) (ds : List Int) (y : Int) : shiftD b ds y = digD b ds.length ((valL b ds + y) % pw b ds.length) := by
  have hp1 := pw_pos b hb ds.length
  unfold shiftD
  rw [tmod_wrap _ _ (by omega)]
theorem shift_back {b : Int} {ds : List Int} (x y : Int) (hxy : x + y = 0) (hv : vreg b ds = true) (hp : pw b ds.length ≤ 1000000000001) : shiftD b (shiftD b ds x) y = ds := by
  obtain ⟨⟨b1, b2⟩, -, hd, hl⟩ := vreg_iff.1 hv
  have hp1 := pw_pos b b1 ds.length
  have hv0 := (valL_bd b b1 ds (fun x hx => (hd x hx).1)).1
  have hv1 := valL_lt b b1 ds hd
  rw [shiftD_eq b b1 (shiftD b ds x) y, valL_shift x hv hp, shiftD_len, Int.emod_add_emod, Int.add_assoc, hxy, Int.add_zero, Int.emod_eq_of_lt hv0 hv1]
  exact vreg_dig hv
/-- the stroke that leads back -/
def backK (k : Int) : Int := if k = 1 then 2 else if k = 2 then 1 else if k = 3 then 4 else 3
theorem turn_back {t : Tri} (h : vmach t = true) (s s' : Int) (hs : s + s' = 0) : (turnT (turnT t s).1 s').1 = t := by
  obtain ⟨k1, k2, k3, e1, e2, f1, f2, l1, c0, c1⟩ := vmach_all h
  have q1 := shift_back (s * (valL t.a.base t.a.digits * pw t.b.base t.carry.toNat)) (s' * (valL t.a.base t.a.digits * pw t.b.base t.carry.toNat)) (by rw [← Int.add_mul, hs, Int.zero_mul]) k2 f1
  have q2 := shift_back (s * pw t.b.base t.carry.toNat) (s' * pw t.b.base t.carry.toNat) (by rw [← Int.add_mul, hs, Int.zero_mul]) k3 f2
  rw [show (turnT (turnT t s).1 s').1 = ⟨t.a, ⟨t.b.base, shiftD t.b.base (shiftD t.b.base t.b.digits (s * (valL t.a.base t.a.digits * pw t.b.base t.carry.toNat))) (s' * (valL t.a.base t.a.digits * pw t.b.base t.carry.toNat))⟩, ⟨t.s.base, shiftD t.s.base (shiftD t.s.base t.s.digits (s * pw t.b.base t.carry.toNat)) (s' * pw t.b.base t.carry.toNat)⟩, t.carry⟩ from rfl, q1, q2]
theorem stroke_back {t : Tri} (h : vmach t = true) {k : Int} (hk : 1 ≤ k ∧ k ≤ 4) : if (strokeT k t).2 = true ∧ 2 < k then (strokeT k t).1 = t else (strokeT (backK k) (strokeT k t).1).1 = t := by
  obtain ⟨k1, k2, k3, e1, e2, f1, f2, l1, c0, c1⟩ := vmach_all h
  have hk' : k = 1 ∨ k = 2 ∨ k = 3 ∨ k = 4 := by omega
  rcases hk' with rfl | rfl | rfl | rfl
  · rw [if_neg (by omega)]
    exact turn_back h 1 (-1) (by decide)
  · rw [if_neg (by omega)]
    exact turn_back h (-1) 1 (by decide)
  · by_cases hc : t.carry + 1 = vplaces t
    · have e : strokeT 3 t = (t, true) := by simp [strokeT, hc]
      rw [e, if_pos ⟨rfl, by decide⟩]
    · have e : strokeT 3 t = ({ t with carry := t.carry + 1 }, false) := by simp [strokeT, hc]
      rw [e, if_neg (by simp)]
      have h4 : ¬ t.carry + 1 = 0 := by omega
      simp [strokeT, backK, h4]
  · by_cases hc : t.carry = 0
    · have e : strokeT 4 t = (t, true) := by simp [strokeT, hc]
      rw [e, if_pos ⟨rfl, by decide⟩]
    · have e : strokeT 4 t = ({ t with carry := t.carry - 1 }, false) := by simp [strokeT, hc]
      rw [e, if_neg (by simp)]
      have h4 : ¬ t.carry = vplaces t := by omega
      simp only [backK, strokeT]
      simp [vplaces] at h4 ⊢
      simp [h4]
end Go.Proofs.YtmmiahgmdllgdaaGreatDoor

namespace Go.Proofs.YtmmiahgmdllgdaaGreatDoor
open Go.RowKit Go.Sort
/-! notes and their sums -/
def noteB (b : UInt8) : Bool := decide (32 ≤ b.toNat) && decide (b.toNat ≤ 126)
def noteOk (bs : List UInt8) : Bool := bs.all noteB && decide (bs.length ≤ 60)
def nfold (y : Int) (bs : List UInt8) : Int := bs.foldl (fun s b => (31 * s + (b.toNat : Int)).tmod 65521) y
def nsum (before number : Int) (bs : List UInt8) : Int := if betB before 0 65520 && betB number 0 1000000 then nfold ((before + 7 * number).tmod 65521) bs else 0
theorem nmod_bd {a : Int} (h : 0 ≤ a) : 0 ≤ a.tmod 65521 ∧ a.tmod 65521 ≤ 65520 := by
  rw [Int.tmod_eq_emod_of_nonneg h]; omega
theorem nfold_bd {y : Int} (h0 : 0 ≤ y) (h1 : y ≤ 65520) (bs : List UInt8) : 0 ≤ nfold y bs ∧ nfold y bs ≤ 65520 := by
  unfold nfold
  induction bs generalizing y with
  | nil => exact ⟨h0, h1⟩
  | cons b bs ih =>
    rw [List.foldl_cons]
    have := nmod_bd (a := 31 * y + (b.toNat : Int)) (by omega)
    exact ih this.1 this.2
theorem nsum_bd (before number : Int) (bs : List UInt8) : 0 ≤ nsum before number bs ∧ nsum before number bs ≤ 65520 := by
  unfold nsum
  split
  · rename_i h
    rw [Bool.and_eq_true] at h
    have b1 := betB_iff.1 h.1
    have b2 := betB_iff.1 h.2
    have := nmod_bd (a := before + 7 * number) (by omega)
    exact nfold_bd this.1 this.2 bs
  · omega
end Go.Proofs.YtmmiahgmdllgdaaGreatDoor

namespace Go.Proofs.YtmmiahgmdllgdaaGreatDoor
open Go.RowKit Go.Sort
/-! journals, plainly -/
/-- a line of a journal -/
def jline (sum : Int) (n : Nat) (note : List UInt8) : List UInt8 := dec ((n : Int) + 1) ++ [32] ++ dec (nsum sum ((n : Int) + 1) note) ++ [32] ++ note ++ [10]
def jlineB (sum : Int) (n : Nat) (note : ByteArray) : ByteArray := (((((⟨(dec ((n : Int) + 1)).toArray⟩ : ByteArray) ++ (⟨#[32]⟩ : ByteArray)) ++ (⟨(dec (nsum sum ((n : Int) + 1) (strB note))).toArray⟩ : ByteArray)) ++ (⟨#[32]⟩ : ByteArray)) ++ note) ++ (⟨#[10]⟩ : ByteArray)
theorem strB_jlineB (sum : Int) (n : Nat) (note : ByteArray) : strB (jlineB sum n note) = jline sum n (strB note) := by
  simp [jlineB, jline, strB]
theorem jlineB_size (sum : Int) (n : Nat) (note : ByteArray) : (jlineB sum n note).size = (jline sum n (strB note)).length := by
  rw [← strB_jlineB, strB_len]
theorem jline_len (sum : Int) (n : Nat) (hn : n ≤ 1000000) (note : List UInt8) : note.length + 3 ≤ (jline sum n note).length ∧ (jline sum n note).length ≤ note.length + 45 := by
  have h1 := dec_len ((n : Int) + 1) (by omega) (by omega)
  have h2 := nsum_bd sum ((n : Int) + 1) note
  have h3 := dec_len (nsum sum ((n : Int) + 1) note) (by omega) (by omega)
  simp only [jline, List.length_append, List.length_cons, List.length_nil]
  omega
/-- the note of the next line of what is left of a journal -/
def jstep (sum : Int) (n : Nat) (rest : List UInt8) : Option (List UInt8) :=
  (cutB [10] rest).bind fun q => (cutB [32] q.1).bind fun r => (cutB [32] r.2).bind fun t => if noteOk t.2 && (jline sum n t.2 == q.1 ++ [10]) then some t.2 else none
theorem cutB_len (p : List UInt8) : ∀ (l : List UInt8) (q), cutB p l = some q → q.1.length + p.length + q.2.length = l.length
  | [], q, h => by simp [cutB] at h
  | b :: tl, q, h => by
    simp only [cutB] at h
    split at h
    · rename_i hp
      obtain rfl := (Option.some.inj h).symm
      have := (List.isPrefixOf_iff_prefix.1 hp).length_le
      simp at this ⊢; omega
    · cases h1 : cutB p tl with
      | none => rw [h1] at h; simp at h
      | some r =>
        rw [h1] at h
        obtain rfl := (Option.some.inj h).symm
        have := cutB_len p tl r h1
        simp; omega
theorem jstep_some {sum : Int} {n : Nat} {rest note : List UInt8} (h : jstep sum n rest = some note) : noteOk note = true ∧ 3 + note.length ≤ (jline sum n note).length ∧ (jline sum n note).length ≤ rest.length := by
  unfold jstep at h
  cases h1 : cutB [10] rest with
  | none => rw [h1] at h; simp at h
  | some q =>
    rw [h1, Option.bind_some] at h
    cases h2 : cutB [32] q.1 with
    | none => rw [h2] at h; simp at h
    | some r =>
      rw [h2, Option.bind_some] at h
      cases h3 : cutB [32] r.2 with
      | none => rw [h3] at h; simp at h
      | some t =>
        rw [h3, Option.bind_some] at h
        split at h
        · rename_i h4
          obtain rfl := Option.some.inj h
          rw [Bool.and_eq_true, beq_iff_eq] at h4
          have l1 := cutB_len _ _ _ h1
          have l5 := congrArg List.length h4.2
          refine ⟨h4.1, ?_, ?_⟩
          · simp only [jline, List.length_append, List.length_cons, List.length_nil]; omega
          · rw [l5]; simp at l1 ⊢; omega
        · simp at h
/-- what is read of a journal: the notes, the last sum, the bytes -/
structure JS where
  notes : List (List UInt8)
  sum : Int
  size : Nat
def jread (rest : List UInt8) (j : JS) : JS :=
  match _h : jstep j.sum j.notes.length rest with
  | none => j
  | some note => jread (rest.drop (jline j.sum j.notes.length note).length) ⟨j.notes ++ [note], nsum j.sum ((j.notes.length : Int) + 1) note, j.size + (jline j.sum j.notes.length note).length⟩
termination_by rest.length
decreasing_by
  have := jstep_some _h
  rw [List.length_drop]; omega
theorem jread_none {rest : List UInt8} {j : JS} (h : jstep j.sum j.notes.length rest = none) : jread rest j = j := by
  rw [jread]; split
  · rfl
  · rename_i h1; rw [h] at h1; cases h1
theorem jread_some {rest : List UInt8} {j : JS} {note : List UInt8} (h : jstep j.sum j.notes.length rest = some note) :
    jread rest j = jread (rest.drop (jline j.sum j.notes.length note).length) ⟨j.notes ++ [note], nsum j.sum ((j.notes.length : Int) + 1) note, j.size + (jline j.sum j.notes.length note).length⟩ := by
  rw [jread]; split
  · rename_i h1; rw [h] at h1; cases h1
  · rename_i n1 h1; rw [h] at h1; obtain rfl := Option.some.inj h1; rfl
/-- the whole reading -/
def jall (bs : List UInt8) : JS := jread bs ⟨[], 0, 0⟩
/-- the code of a text that must be a journal -/
def jcode (bs : List UInt8) : Int := if bs.length > 4000 then 5 else if (jall bs).size = bs.length then 0 else 8
/-- behind the first blanks: how many, and what is left -/
def aft : Nat → List UInt8 → Nat × List UInt8
  | b, [] => (b, [])
  | b, x :: tl => if 2 ≤ b then (b, x :: tl) else aft (if x.toNat = 32 then b + 1 else b) tl
theorem aft_two (l : List UInt8) : aft 2 l = (2, l) := by cases l <;> simp [aft]
theorem aft_step (b : Nat) (hb : b < 2) (l : List UInt8) : aft b l = match cutB [32] l with | none => (b, []) | some q => aft (b + 1) q.2 := by
  induction l with
  | nil => rfl
  | cons x tl ih =>
    rw [aft, if_neg (by omega)]
    simp only [cutB]
    by_cases hx : x.toNat = 32
    · rw [if_pos hx]
      have h1 : ([32] : List UInt8).isPrefixOf (x :: tl) = true := by
        have : x = 32 := UInt8.toNat_inj.1 hx
        subst this; simp [List.isPrefixOf]
      rw [h1]; rfl
    · rw [if_neg hx, ih]
      have h1 : ([32] : List UInt8).isPrefixOf (x :: tl) = false := by
        have : ¬ (32 : UInt8) = x := fun h => hx (by rw [← h]; rfl)
        simp [List.isPrefixOf, this]
      rw [h1]
      cases cutB [32] tl <;> rfl
theorem aft_cut (l : List UInt8) : aft 0 l = match cutB [32] l with | none => (0, []) | some q => match cutB [32] q.2 with | none => (1, []) | some t => (2, t.2) := by
  rw [aft_step 0 (by omega)]
  cases cutB [32] l with
  | none => rfl
  | some q =>
    show aft 1 q.2 = _
    rw [aft_step 1 (by omega)]
    dsimp only
    cases cutB [32] q.2 with
    | none => simp
    | some t => simp [aft_two]
/-! the next line, both -/
end Go.Proofs.YtmmiahgmdllgdaaGreatDoor

namespace Go.Proofs.YtmmiahgmdllgdaaGreatDoor
open Go.RowKit Go.Sort
theorem cutB_skip {k : Nat} {l : List UInt8} {q : UInt8} (hk : k < l.length) (hq : l[k] = q) (hne : q.toNat ≠ 10) : cutB [10] (l.drop k) = (cutB [10] (l.drop (k + 1))).map fun r => (q :: r.1, r.2) := by
  rw [List.drop_eq_getElem_cons hk, hq]
  simp only [cutB]
  have h1 : ([10] : List UInt8).isPrefixOf (q :: l.drop (k + 1)) = false := by
    have : ¬ (10 : UInt8) = q := fun h => hne (by rw [← h]; rfl)
    simp [List.isPrefixOf, this]
  rw [h1]; rfl
theorem cutB_hit {k : Nat} {l : List UInt8} {q : UInt8} (hk : k < l.length) (hq : l[k] = q) (hne : q.toNat = 10) : cutB [10] (l.drop k) = some ([], l.drop (k + 1)) := by
  rw [List.drop_eq_getElem_cons hk, hq]
  simp only [cutB]
  have h1 : ([10] : List UInt8).isPrefixOf (q :: l.drop (k + 1)) = true := by
    have : q = 10 := UInt8.toNat_inj.1 hne
    subst this; simp [List.isPrefixOf]
  rw [h1]; rfl
/-- the next line of what is left, by the blanks -/
theorem jstep_aft {sum : Int} {n : Nat} {rest : List UInt8} {q : List UInt8 × List UInt8} {b : Nat} {note : List UInt8} (h1 : cutB [10] rest = some q) (h2 : aft 0 q.1 = (b, note)) :
    jstep sum n rest = if !(decide (b < 2)) && (noteOk note && (jline sum n note == q.1 ++ [10])) then some note else none := by
  unfold jstep
  rw [h1, Option.bind_some]
  rw [aft_cut] at h2
  cases h3 : cutB [32] q.1 with
  | none => rw [h3] at h2; obtain ⟨rfl, rfl⟩ := Prod.mk.inj h2; simp
  | some r =>
    rw [h3] at h2
    rw [Option.bind_some]
    dsimp only at h2
    cases h4 : cutB [32] r.2 with
    | none => rw [h4] at h2; obtain ⟨rfl, rfl⟩ := Prod.mk.inj h2; simp
    | some t => rw [h4] at h2; obtain ⟨rfl, rfl⟩ := Prod.mk.inj h2; simp
theorem cutB_ten {l : List UInt8} {q : List UInt8 × List UInt8} (h : cutB [10] l = some q) : l.take q.1.length = q.1 ∧ q.1.length < l.length := by
  obtain ⟨h1, -⟩ := cutB_mem 10 l q.1 q.2 h
  have h2 := congrArg List.length h1
  simp at h2
  refine ⟨?_, by omega⟩
  conv => lhs; rw [h1]
  exact List.take_left
theorem cutB_take {l : List UInt8} {q : List UInt8 × List UInt8} (h : cutB [10] l = some q) : l.take (q.1.length + 1) = q.1 ++ [10] := by
  obtain ⟨h1, -⟩ := cutB_mem 10 l q.1 q.2 h
  conv => lhs; rw [h1]
  rw [show q.1 ++ (10 : UInt8) :: q.2 = (q.1 ++ [10]) ++ q.2 by simp, List.take_left' (by simp)]
end Go.Proofs.YtmmiahgmdllgdaaGreatDoor

namespace Go.Proofs.YtmmiahgmdllgdaaGreatDoor
open Go.RowKit Go.Sort
theorem kn_stepS {ops : Array Oper} {o : Oper} {a : Act} {Q : Exit → Act → World → Prop} {w0 w : World} {m : List Ent} {K : Act → World → Prop} {E : Prop} (hgd : o.guard = none) (s x : Operand) (ho : o.op = .call { callee := .builtin .append, args := #[s, x], argTypes := #[24, 24] })
    (v : Value) (ss : List ByteArray) (hs : a.eval s = v) {g c : Nat} {T' : TypeId} {z : ByteArray} (hx : a.eval x = .slice (some ⟨g, 0, none⟩) 1 c)
    (hK : Kn w0 (.blk g [.string z] T' :: rowS v ss :: m) w) (hl : ss.length ≤ 10000000)
    (h : ∀ v' w', Kn w0 (rowS v' (ss ++ [z]) :: m) w' → K (a.put o.dst v') w') : if Region.wanted o (yielded ops a.tmps) = true then Oper.wp Tryz.prog o a w K Q else E := by
  refine kn_step_app tpS hgd s x ho v ss.length (ss.map Value.string) hs hx hK rfl (by simp [Value.oneCell']) (by omega) (by omega) (fun v' w' hK' => h v' w' ?_)
  unfold rowS
  rw [List.length_append, List.map_append, List.map_cons, List.map_nil]
  exact hK'
theorem cutY_len (p l : List UInt8) : (cutY p l).length ≤ l.length := by
  unfold cutY
  cases h : cutB p l with
  | none => exact Nat.zero_le _
  | some q => have := cutB_len p l q h; simp; omega
theorem jstep_eq {sum : Int} {n : Nat} {rest : List UInt8} {q : List UInt8 × List UInt8} {x y2 y3 : ByteArray} (h1 : cutB [10] rest = some q) (hx : strB x = q.1) (hy2 : strB y2 = cutY [32] (strB x)) (hy3 : strB y3 = cutY [32] (strB y2)) :
    jstep sum n rest = if (cutB [32] (strB x)).isSome && ((cutB [32] (strB y2)).isSome && (noteOk (strB y3) && ((jlineB sum n y3).toList == (x ++ (⟨#[10]⟩ : ByteArray)).toList))) then some (strB y3) else none := by
  have hl : ((jlineB sum n y3).toList == (x ++ (⟨#[10]⟩ : ByteArray)).toList) = (jline sum n (strB y3) == strB x ++ [10]) := by
    rw [strB_toList, strB_toList, strB_jlineB]
    rfl
  rw [hl]
  unfold jstep
  rw [h1, Option.bind_some, ← hx]
  cases h2 : cutB [32] (strB x) with
  | none => rfl
  | some r =>
    rw [cutY, h2] at hy2
    simp only [Option.map_some, Option.getD_some] at hy2
    rw [Option.bind_some, ← hy2]
    cases h3 : cutB [32] (strB y2) with
    | none => simp
    | some t =>
      rw [cutY, h3] at hy3
      simp only [Option.map_some, Option.getD_some] at hy3
      rw [Option.bind_some, hy3]
      simp
end Go.Proofs.YtmmiahgmdllgdaaGreatDoor

namespace Go.Proofs.YtmmiahgmdllgdaaGreatDoor
open Go.RowKit Go.Sort
theorem jread_size (rest : List UInt8) (j : JS) : (jread rest j).size ≤ j.size + rest.length := by
  induction h : rest.length using Nat.strongRecOn generalizing rest j with
  | _ n ih =>
    subst h
    cases h1 : jstep j.sum j.notes.length rest with
    | none => rw [jread_none h1]; omega
    | some note =>
      have h2 := jstep_some h1
      rw [jread_some h1]
      have h3 := ih _ (by rw [List.length_drop]; omega) (rest.drop (jline j.sum j.notes.length note).length) ⟨j.notes ++ [note], nsum j.sum ((j.notes.length : Int) + 1) note, j.size + (jline j.sum j.notes.length note).length⟩ rfl
      rw [List.length_drop] at h3
      simp only at h3
      omega
theorem jall_size (bs : List UInt8) : (jall bs).size ≤ bs.length := by
  have := jread_size bs ⟨[], 0, 0⟩
  simpa [jall] using this
end Go.Proofs.YtmmiahgmdllgdaaGreatDoor

namespace Go.Proofs.YtmmiahgmdllgdaaGreatDoor
open Go.RowKit Go.Sort
theorem jread_notes (rest : List UInt8) (j : JS) (h0 : j.notes.length ≤ j.size) : (jread rest j).notes.length ≤ (jread rest j).size := by
  induction h : rest.length using Nat.strongRecOn generalizing rest j with
  | _ n ih =>
    subst h
    cases h1 : jstep j.sum j.notes.length rest with
    | none => rw [jread_none h1]; exact h0
    | some note =>
      have h2 := jstep_some h1
      rw [jread_some h1]
      refine ih _ (by rw [List.length_drop]; omega) _ _ ?_ rfl
      simp only [List.length_append, List.length_cons, List.length_nil]
      omega
theorem jcode_zero {bs : List UInt8} (h : jcode bs = 0) : bs.length ≤ 4000 ∧ (jall bs).size = bs.length ∧ (jall bs).notes.length ≤ 4000 := by
  unfold jcode at h
  split at h
  · cases h
  · split at h
    · rename_i h1 h2
      have := jread_notes bs ⟨[], 0, 0⟩ (Nat.le_refl _)
      refine ⟨by omega, h2, ?_⟩
      show (jread bs ⟨[], 0, 0⟩).notes.length ≤ 4000
      have h3 : (jread bs ⟨[], 0, 0⟩).size = bs.length := h2
      omega
    · cases h
/-- what the appending of a note gives -/
def anC (S N : List UInt8) : Int := if jcode S ≠ 0 then jcode S else if noteOk N = false then 7 else if S.length + (jline (jall S).sum (jall S).notes.length N).length > 4000 then 5 else 0
def anT (s note : ByteArray) : ByteArray := if anC (strB s) (strB note) = 0 then s ++ jlineB (jall (strB s)).sum (jall (strB s)).notes.length note else ⟨#[]⟩
theorem an_bad {s note : ByteArray} (h : jcode (strB s) ≠ 0) : anC (strB s) (strB note) = jcode (strB s) ∧ anT s note = ⟨#[]⟩ := by
  have h1 : anC (strB s) (strB note) = jcode (strB s) := by unfold anC; rw [if_pos h]
  exact ⟨h1, by unfold anT; rw [h1, if_neg h]⟩
theorem an_note {s note : ByteArray} (h : jcode (strB s) = 0) (h2 : noteOk (strB note) = false) : anC (strB s) (strB note) = 7 ∧ anT s note = ⟨#[]⟩ := by
  have h1 : anC (strB s) (strB note) = 7 := by unfold anC; rw [if_neg (fun h' => h' h), if_pos h2]
  exact ⟨h1, by unfold anT; rw [h1, if_neg (by decide)]⟩
theorem an_full {s note : ByteArray} (h : jcode (strB s) = 0) (h2 : noteOk (strB note) = true) (h3 : s.size + (jlineB (jall (strB s)).sum (jall (strB s)).notes.length note).size > 4000) : anC (strB s) (strB note) = 5 ∧ anT s note = ⟨#[]⟩ := by
  have h1 : anC (strB s) (strB note) = 5 := by
    unfold anC; rw [if_neg (fun h' => h' h), if_neg (by rw [h2]; decide), if_pos (by rw [strB_len, ← jlineB_size]; exact h3)]
  exact ⟨h1, by unfold anT; rw [h1, if_neg (by decide)]⟩
theorem an_fine {s note : ByteArray} (h : jcode (strB s) = 0) (h2 : noteOk (strB note) = true) (h3 : ¬ s.size + (jlineB (jall (strB s)).sum (jall (strB s)).notes.length note).size > 4000) : anC (strB s) (strB note) = 0 ∧ anT s note = s ++ jlineB (jall (strB s)).sum (jall (strB s)).notes.length note := by
  have h1 : anC (strB s) (strB note) = 0 := by
    unfold anC; rw [if_neg (fun h' => h' h), if_neg (by rw [h2]; decide), if_neg (by rw [strB_len, ← jlineB_size]; exact h3)]
  exact ⟨h1, by unfold anT; rw [h1, if_pos rfl]⟩
end Go.Proofs.YtmmiahgmdllgdaaGreatDoor

namespace Go.Proofs.YtmmiahgmdllgdaaGreatDoor
open Go.RowKit Go.Sort
end Go.Proofs.YtmmiahgmdllgdaaGreatDoor

namespace Go.Proofs.YtmmiahgmdllgdaaGreatDoor
open Go.RowKit Go.Sort
def rsM (bs : List (List UInt8)) : Tri := if wholeC bs = 0 then (runS bs).1.m else zTri
theorem rsM_len (bs : List (List UInt8)) : (rsM bs).a.digits.length ≤ 16 ∧ (rsM bs).b.digits.length ≤ 16 ∧ (rsM bs).s.digits.length ≤ 16 := by
  unfold rsM
  split
  · rename_i h
    have := sized_of (runS_good (wholeC_ok h).2).m
    exact ⟨this.a, this.b, this.s⟩
  · simp [zTri]
/-- a machine and a code -/
def MCRet (t : Tri) (C : Int) (w : World) (e : Ending) (w' : World) : Prop := ∃ A1 c1 A2 c2 A3 c3, e = .returned (.tuple #[.agg #[.int .i64 t.a.base, .slice A1 t.a.digits.length c1, .int .i64 t.b.base, .slice A2 t.b.digits.length c2, .int .i64 t.s.base, .slice A3 t.s.digits.length c3, .int .i64 t.carry], .int .i64 C]) ∧ Kn w [rowI A3 c3 t.s.digits, rowI A2 c2 t.b.digits, rowI A1 c1 t.a.digits] w'
def RSRet (bs : List (List UInt8)) (w : World) (e : Ending) (w' : World) : Prop := MCRet (rsM bs) (wholeC bs) w e w'
theorem MCRet.zero {C : Int} {w w' : World} (h : Below w.heap.size w w') : MCRet zTri C w (.returned (.tuple #[.agg #[.int .i64 0, .slice none 0 0, .int .i64 0, .slice none 0 0, .int .i64 0, .slice none 0 0, .int .i64 0], .int .i64 C])) w' :=
  ⟨none, 0, none, 0, none, 0, rfl, ((((Kn.nil w).keep h).nilRow _ _).nilRow _ _).nilRow _ _⟩
set_option maxRecDepth 100000 in
theorem ReplaySession_any (A : Option Addr) (n c : Nat) (ss : List ByteArray) (w : World) (hr : RL StrM 1 w A n ss) (hsz : ∀ s ∈ ss, s.size ≤ 1048576) (ht : TB w) :
    Calls Tryz.prog 10 #[.slice A n c] w (RSRet (ss.map strB) w) := by
  have hK0 := (Kn.nil w).al [.int .i64 0, .slice none 0 0, .int .i64 0, .slice none 0 0, .int .i64 0, .slice none 0 0, .int .i64 0] 32
  have KW := (wholeSession_any A n c ss (w.alloc (.cells #[.int .i64 0, .slice none 0 0, .int .i64 0, .slice none 0 0, .int .i64 0, .slice none 0 0, .int .i64 0] 32)) (hr.below steady_StrM hK0.below) hsz (TB.below ht hK0.below))
  unfold RSRet
  unfold WholeI at KW
  have HM := Lib.hid (show rsM (ss.map strB) = if wholeC (ss.map strB) = 0 then (runS (ss.map strB)).1.m else zTri from rfl)
  have HG := Lib.hid (fun (h : wholeC (ss.map strB) = 0) => runS_good (wholeC_ok h).2)
  obtain ⟨rm, hrm⟩ : ∃ r, rsM (ss.map strB) = r := ⟨_, rfl⟩
  rw [hrm] at HM ⊢
  obtain ⟨C, hC⟩ : ∃ C, wholeC (ss.map strB) = C := ⟨_, rfl⟩
  rw [hC] at KW HM HG ⊢
  obtain ⟨s, hs⟩ : ∃ s, (runS (ss.map strB)).1 = s := ⟨_, rfl⟩
  rw [hs] at KW HM HG
  replace KW := Lib.hid KW
  clear hC hs hr hsz ht hrm
  rcases hc : (C == 0) with _ | _
  · have HC := Lib.hid (show C ≠ 0 by simpa using hc)
    have HQ : Hid (rm = zTri) := by simp only [Hid]; rw [HM.out, if_neg HC.out]
    go_enter Tryz.func10, Tryz.ntmps10
    go_wp2_with fail
    refine KW.out.mono ?_; rintro e w1 (⟨h0, -⟩ | ⟨-, rfl, hw⟩)
    · exact absurd h0 HC.out
    have hK1 := hK0.keep hw
    clear hK0 hw
    obtain ⟨a1, a2, a3, -⟩ := hK1.cells
    go_wp2_with fail
    refine bodyPost.kn (((((((hK1.st 0 (.int .i64 0)).st 1 (.slice none 0 0)).st 2 (.int .i64 0)).st 3 (.slice none 0 0)).st 4 (.int .i64 0)).st 5 (.slice none 0 0)).st 6 (.int .i64 0)) ?_; intro w6 hK6
    clear a1 a2 a3
    obtain ⟨a1, a2, a3, -⟩ := hK6.cells
    refine bodyPost_ret (v := .tuple #[.agg #[.int .i64 0, .slice none 0 0, .int .i64 0, .slice none 0 0, .int .i64 0, .slice none 0 0, .int .i64 0], .int .i64 C]) (by simp [results, Tryz.results10, go_sem, a1]) rfl ?_
    rw [HQ.out]
    exact MCRet.zero hK6.below
  · obtain rfl : C = 0 := by simpa using hc
    have HQ : Hid (rm = s.m) := by simp only [Hid]; rw [HM.out, if_pos rfl]
    have hz := sized_of (HG.out rfl).m
    go_enter Tryz.func10, Tryz.ntmps10
    go_wp2_with fail
    refine KW.out.mono ?_; rintro e w1 (⟨-, g, rfl, hS⟩ | ⟨h0, -⟩)
    rotate_left
    · exact absurd rfl h0
    have hK1 := hK0.keep hS.below
    obtain ⟨U1, u1, U2, u2, U3, u3, A1, c1, A2, c2, A3, c3, SA, sc, BA, bc, m, hK, -, hm⟩ := hS
    obtain ⟨x1, x2, x3, -⟩ := hK1.cells
    obtain ⟨a1, a2, a3⟩ := hK.blkAt
    obtain ⟨r1, r2, r3⟩ := hm.ri hK (fun e h => by simp [h])
    obtain ⟨t, htt⟩ : ∃ t, s.m = t := ⟨_, rfl⟩
    rw [htt] at r1 r2 r3 hz HQ a1
    have KC := Lib.hid (copiedM_any t A1 A2 A3 c1 c2 c3 w1 r1 r2 r3 hz)
    clear hK hm r1 r2 r3 hK0 htt
    go_wp2_with fail
    refine KC.out.mono ?_; rintro e w2 ⟨B1, d1, B2, d2, B3, d3, rfl, hKn⟩
    have hK2 := hK1.join hKn
    clear hK1 hKn x1 x2 x3 a1 a2 a3
    obtain ⟨x1, x2, x3, -⟩ := hK2.cells
    go_wp2_with fail
    refine bodyPost.kn ((((((((hK2.front 3 rfl).st 0 (.int .i64 t.a.base)).st 1 (.slice B1 t.a.digits.length d1)).st 2 (.int .i64 t.b.base)).st 3 (.slice B2 t.b.digits.length d2)).st 4 (.int .i64 t.s.base)).st 5 (.slice B3 t.s.digits.length d3)).st 6 (.int .i64 t.carry)) ?_; intro w6 hK6
    clear x1 x2 x3
    obtain ⟨a1, a2, a3, -⟩ := hK6.cells
    refine bodyPost_ret (v := .tuple #[.agg #[.int .i64 t.a.base, .slice B1 t.a.digits.length d1, .int .i64 t.b.base, .slice B2 t.b.digits.length d2, .int .i64 t.s.base, .slice B3 t.s.digits.length d3, .int .i64 t.carry], .int .i64 0]) (by simp [results, Tryz.results10, go_sem, a1]) rfl ?_
    rw [HQ.out]
    exact ⟨B1, d1, B2, d2, B3, d3, rfl, hK6.sel [1, 2, 3] 99 (by decide) (by decide)⟩
set_option maxRecDepth 100000 in
theorem specReplaySession_any (A : Option Addr) (n c : Nat) (ss : List ByteArray) (w : World) (hr : RL StrM 1 w A n ss) (hsz : ∀ s ∈ ss, s.size ≤ 1048576) :
    Calls Tryz.prog 11 #[.slice A n c] w (RSRet (ss.map strB) w) := by
  have hK0 := (Kn.nil w).al [.int .i64 0, .slice none 0 0, .int .i64 0, .slice none 0 0, .int .i64 0, .slice none 0 0, .int .i64 0] 32
  have KW := (l24Ask_any A n c ss (w.alloc (.cells #[.int .i64 0, .slice none 0 0, .int .i64 0, .slice none 0 0, .int .i64 0, .slice none 0 0, .int .i64 0] 32)) (hr.below steady_StrM hK0.below) hsz)
  unfold RSRet
  unfold WholeS at KW
  have HM := Lib.hid (show rsM (ss.map strB) = if wholeC (ss.map strB) = 0 then (runS (ss.map strB)).1.m else zTri from rfl)
  obtain ⟨rm, hrm⟩ : ∃ r, rsM (ss.map strB) = r := ⟨_, rfl⟩
  rw [hrm] at HM ⊢
  obtain ⟨C, hC⟩ : ∃ C, wholeC (ss.map strB) = C := ⟨_, rfl⟩
  rw [hC] at KW HM ⊢
  obtain ⟨s, hs⟩ : ∃ s, (runS (ss.map strB)).1 = s := ⟨_, rfl⟩
  rw [hs] at KW HM
  replace KW := Lib.hid KW
  clear hC hs hr hsz hrm
  rcases hc : (C == 0) with _ | _
  · have HC := Lib.hid (show C ≠ 0 by simpa using hc)
    have HQ : Hid (rm = zTri) := by simp only [Hid]; rw [HM.out, if_neg HC.out]
    go_enter Tryz.func11, Tryz.ntmps11
    go_wp2_with fail
    refine KW.out.mono ?_; rintro e w1 (⟨h0, -⟩ | ⟨-, g, rfl, hw⟩)
    · exact absurd h0 HC.out
    have hK1 := hK0.keep hw
    clear hK0 hw
    obtain ⟨a1, a2, a3, -⟩ := hK1.cells
    go_wp2_with fail
    refine bodyPost.kn (((((((hK1.st 0 (.int .i64 0)).st 1 (.slice none 0 0)).st 2 (.int .i64 0)).st 3 (.slice none 0 0)).st 4 (.int .i64 0)).st 5 (.slice none 0 0)).st 6 (.int .i64 0)) ?_; intro w6 hK6
    clear a1 a2 a3
    obtain ⟨a1, a2, a3, -⟩ := hK6.cells
    refine bodyPost_ret (v := .tuple #[.agg #[.int .i64 0, .slice none 0 0, .int .i64 0, .slice none 0 0, .int .i64 0, .slice none 0 0, .int .i64 0], .int .i64 C]) (by simp [results, Tryz.results11, go_sem, a1]) rfl ?_
    rw [HQ.out]
    exact MCRet.zero hK6.below
  · obtain rfl : C = 0 := by simpa using hc
    have HQ : Hid (rm = s.m) := by simp only [Hid]; rw [HM.out, if_pos rfl]
    go_enter Tryz.func11, Tryz.ntmps11
    go_wp2_with fail
    refine KW.out.mono ?_; rintro e w1 (⟨-, g, rfl, hS⟩ | ⟨h0, -⟩)
    rotate_left
    · exact absurd rfl h0
    obtain ⟨U1, u1, U2, u2, U3, u3, A1, c1, A2, c2, A3, c3, SA, sc, BA, bc, m, hK, -⟩ := hS
    have hK1 := hK0.join hK
    have hK2 : Kn w (.blk w.heap.size [.int .i64 0, .slice none 0 0, .int .i64 0, .slice none 0 0, .int .i64 0, .slice none 0 0, .int .i64 0] 32 :: _) w1 := hK1.perm (List.perm_append_comm.trans (List.Perm.refl _))
    clear hK hK0 hK1
    obtain ⟨x1, x2, x3, a1, a2, a3, -⟩ := hK2.cells
    obtain ⟨t, htt⟩ : ∃ t, s.m = t := ⟨_, rfl⟩
    rw [htt] at hK2 HQ a1
    clear htt
    go_wp2_with fail
    refine bodyPost.kn (((((((hK2.st 0 (.int .i64 t.a.base)).st 1 (.slice A1 t.a.digits.length c1)).st 2 (.int .i64 t.b.base)).st 3 (.slice A2 t.b.digits.length c2)).st 4 (.int .i64 t.s.base)).st 5 (.slice A3 t.s.digits.length c3)).st 6 (.int .i64 t.carry)) ?_; intro w6 hK6
    clear x1 x2 x3 a1 a2 a3
    obtain ⟨a1, a2, a3, -⟩ := hK6.cells
    refine bodyPost_ret (v := .tuple #[.agg #[.int .i64 t.a.base, .slice A1 t.a.digits.length c1, .int .i64 t.b.base, .slice A2 t.b.digits.length c2, .int .i64 t.s.base, .slice A3 t.s.digits.length c3, .int .i64 t.carry], .int .i64 0]) (by simp [results, Tryz.results11, go_sem, a1]) rfl ?_
    rw [HQ.out]
    exact ⟨A1, c1, A2, c2, A3, c3, rfl, (hK6.sel [2, 3, 4] 99 (by decide) (by decide)).only (by simp)⟩
end Go.Proofs.YtmmiahgmdllgdaaGreatDoor

namespace Go.Proofs.YtmmiahgmdllgdaaGreatDoor
open Go.RowKit Go.Sort
/-- a machine, a value and a code -/
def M2Ret (t : Tri) (x : Value) (C : Int) (w : World) (e : Ending) (w' : World) : Prop := ∃ A1 c1 A2 c2 A3 c3, e = .returned (.tuple #[.agg #[.int .i64 t.a.base, .slice A1 t.a.digits.length c1, .int .i64 t.b.base, .slice A2 t.b.digits.length c2, .int .i64 t.s.base, .slice A3 t.s.digits.length c3, .int .i64 t.carry], x, .int .i64 C]) ∧ Kn w [rowI A3 c3 t.s.digits, rowI A2 c2 t.b.digits, rowI A1 c1 t.a.digits] w'
theorem M2Ret.zero {x : Value} {C : Int} {w w' : World} (h : Below w.heap.size w w') : M2Ret zTri x C w (.returned (.tuple #[.agg #[.int .i64 0, .slice none 0 0, .int .i64 0, .slice none 0 0, .int .i64 0, .slice none 0 0, .int .i64 0], x, .int .i64 C])) w' :=
  ⟨none, 0, none, 0, none, 0, rfl, ((((Kn.nil w).keep h).nilRow _ _).nilRow _ _).nilRow _ _⟩
/-! a journal's replay, plainly -/
def rjStep (t : Tri) (n : List UInt8) : Tri := if kindOf n = 0 then t else (strokeT (kindOf n) t).1
def rjFold (t : Tri) (l : List (List UInt8)) : Tri := l.foldl rjStep t
def rjCount (l : List (List UInt8)) : Nat := (l.filter (fun n => decide (kindOf n ≠ 0))).length
theorem rjFold_ok {t : Tri} (h : vmach t = true) (l : List (List UInt8)) : vmach (rjFold t l) = true := by
  induction l generalizing t with
  | nil => exact h
  | cons n l ih =>
    show vmach (rjFold (rjStep t n) l) = true
    refine ih ?_
    unfold rjStep
    split
    · exact h
    · exact strokeT_ok _ h
theorem rj_next {l : List (List UInt8)} {k : Nat} (h : k < l.length) (t : Tri) : rjFold t (l.take (k + 1)) = rjStep (rjFold t (l.take k)) l[k] ∧ rjCount (l.take (k + 1)) = rjCount (l.take k) + (if kindOf l[k] = 0 then 0 else 1) := by
  rw [List.take_succ_eq_append_getElem h]
  constructor
  · unfold rjFold; rw [List.foldl_append]; rfl
  · unfold rjCount
    rw [List.filter_append, List.length_append]
    congr 1
    by_cases h0 : kindOf l[k] = 0 <;> simp [h0]
theorem rjCount_le (l : List (List UInt8)) (k : Nat) : rjCount (l.take k) ≤ k := by
  unfold rjCount
  refine Nat.le_trans (List.length_filter_le _ _) ?_
  rw [List.length_take]; omega
def rjC (t : Tri) (S : List UInt8) : Int := if vmach t then jcode S else 1
def rjM (t : Tri) (S : List UInt8) : Tri := if rjC t S = 0 then rjFold t (jall S).notes else zTri
def rjN (t : Tri) (S : List UInt8) : Int := if rjC t S = 0 then (rjCount (jall S).notes : Int) else 0
theorem rj_bad {t : Tri} {S : List UInt8} (h : vmach t = false) : rjC t S = 1 ∧ rjM t S = zTri ∧ rjN t S = 0 := by
  have h1 : rjC t S = 1 := by unfold rjC; rw [h]; rfl
  exact ⟨h1, by unfold rjM; rw [h1, if_neg (by decide)], by unfold rjN; rw [h1, if_neg (by decide)]⟩
theorem rj_code {t : Tri} {S : List UInt8} (h : vmach t = true) (hc : jcode S ≠ 0) : rjC t S = jcode S ∧ rjM t S = zTri ∧ rjN t S = 0 := by
  have h1 : rjC t S = jcode S := by unfold rjC; rw [h]; rfl
  exact ⟨h1, by unfold rjM; rw [h1, if_neg hc], by unfold rjN; rw [h1, if_neg hc]⟩
theorem rj_fine {t : Tri} {S : List UInt8} (h : vmach t = true) (hc : jcode S = 0) : rjC t S = 0 ∧ rjM t S = rjFold t (jall S).notes ∧ rjN t S = (rjCount (jall S).notes : Int) := by
  have h1 : rjC t S = 0 := by unfold rjC; rw [h]; exact hc
  exact ⟨h1, by unfold rjM; rw [h1, if_pos rfl], by unfold rjN; rw [h1, if_pos rfl]⟩
theorem rjM_ok {t : Tri} {S : List UInt8} (h : rjC t S = 0) : vmach (rjM t S) = true := by
  have hv : vmach t = true := by
    cases hv : vmach t with
    | true => rfl
    | false => rw [(rj_bad hv).1] at h; cases h
  unfold rjM
  rw [if_pos h]
  exact rjFold_ok hv _
theorem rjM_len (t : Tri) (S : List UInt8) : (rjM t S).a.digits.length ≤ 16 ∧ (rjM t S).b.digits.length ≤ 16 ∧ (rjM t S).s.digits.length ≤ 16 := by
  by_cases h : rjC t S = 0
  · have := sized_of (rjM_ok h)
    exact ⟨this.a, this.b, this.s⟩
  · unfold rjM; rw [if_neg h]; simp [zTri]
def RJRet (t : Tri) (S : List UInt8) : World → Ending → World → Prop := M2Ret (rjM t S) (.int .i64 (rjN t S)) (rjC t S)
end Go.Proofs.YtmmiahgmdllgdaaGreatDoor

namespace Go.Proofs.YtmmiahgmdllgdaaGreatDoor
open Go.RowKit Go.Sort
end Go.Proofs.YtmmiahgmdllgdaaGreatDoor

namespace Go.Proofs.YtmmiahgmdllgdaaGreatDoor
open Go.RowKit Go.Sort
/-! the recording of a stroke, plainly -/
def rkC (t : Tri) (s : ByteArray) (k : Int) : Int := if vmach t = false then 1 else if jcode (strB s) ≠ 0 then jcode (strB s) else if betB k 1 6 = false then 2 else anC (strB s) (strB (sname k))
def rkM (t : Tri) (s : ByteArray) (k : Int) : Tri := if rkC t s k = 0 then (strokeT k t).1 else zTri
def rkT (t : Tri) (s : ByteArray) (k : Int) : ByteArray := if rkC t s k = 0 then anT s (sname k) else ⟨#[]⟩
theorem rk_not {t : Tri} {s : ByteArray} {k c : Int} (h : rkC t s k = c) (hc : c ≠ 0) : rkC t s k = c ∧ rkM t s k = zTri ∧ rkT t s k = ⟨#[]⟩ :=
  ⟨h, by unfold rkM; rw [h, if_neg hc], by unfold rkT; rw [h, if_neg hc]⟩
theorem rk_bad {t : Tri} {s : ByteArray} {k : Int} (h : vmach t = false) : rkC t s k = 1 ∧ rkM t s k = zTri ∧ rkT t s k = ⟨#[]⟩ := rk_not (by unfold rkC; rw [if_pos h]) (by decide)
theorem rk_code {t : Tri} {s : ByteArray} {k : Int} (h : vmach t = true) (h2 : jcode (strB s) ≠ 0) : rkC t s k = jcode (strB s) ∧ rkM t s k = zTri ∧ rkT t s k = ⟨#[]⟩ := rk_not (by unfold rkC; rw [if_neg (by rw [h]; decide), if_pos h2]) h2
theorem rk_kind {t : Tri} {s : ByteArray} {k : Int} (h : vmach t = true) (h2 : jcode (strB s) = 0) (h3 : betB k 1 6 = false) : rkC t s k = 2 ∧ rkM t s k = zTri ∧ rkT t s k = ⟨#[]⟩ := rk_not (by unfold rkC; rw [if_neg (by rw [h]; decide), if_neg (fun h' => h' h2), if_pos h3]) (by decide)
theorem rk_note {t : Tri} {s : ByteArray} {k : Int} (h : vmach t = true) (h2 : jcode (strB s) = 0) (h3 : betB k 1 6 = true) (h4 : anC (strB s) (strB (sname k)) ≠ 0) : rkC t s k = anC (strB s) (strB (sname k)) ∧ rkM t s k = zTri ∧ rkT t s k = ⟨#[]⟩ := rk_not (by unfold rkC; rw [if_neg (by rw [h]; decide), if_neg (fun h' => h' h2), if_neg (by rw [h3]; decide)]) h4
theorem rk_fine {t : Tri} {s : ByteArray} {k : Int} (h : vmach t = true) (h2 : jcode (strB s) = 0) (h3 : betB k 1 6 = true) (h4 : anC (strB s) (strB (sname k)) = 0) : rkC t s k = 0 ∧ rkM t s k = (strokeT k t).1 ∧ rkT t s k = anT s (sname k) := by
  have h1 : rkC t s k = 0 := by unfold rkC; rw [if_neg (by rw [h]; decide), if_neg (fun h' => h' h2), if_neg (by rw [h3]; decide)]; exact h4
  exact ⟨h1, by unfold rkM; rw [h1, if_pos rfl], by unfold rkT; rw [h1, if_pos rfl]⟩
theorem rkM_ok {t : Tri} {s : ByteArray} {k : Int} (h : rkC t s k = 0) : vmach (rkM t s k) = true := by
  have hv : vmach t = true := by
    cases hv : vmach t with
    | true => rfl
    | false => rw [(rk_bad hv).1] at h; cases h
  unfold rkM
  rw [if_pos h]
  exact strokeT_ok _ hv
theorem rkM_len (t : Tri) (s : ByteArray) (k : Int) : (rkM t s k).a.digits.length ≤ 16 ∧ (rkM t s k).b.digits.length ≤ 16 ∧ (rkM t s k).s.digits.length ≤ 16 := by
  by_cases h : rkC t s k = 0
  · have := sized_of (rkM_ok h)
    exact ⟨this.a, this.b, this.s⟩
  · unfold rkM; rw [if_neg h]; simp [zTri]
def RKRet (t : Tri) (s : ByteArray) (k : Int) : World → Ending → World → Prop := M2Ret (rkM t s k) (.string (rkT t s k)) (rkC t s k)
theorem isStroke_any (k : Int) (w : World) : Calls Tryz.prog 218 #[.int .i64 k] w fun e w' => e = .returned (.bool (betB k 1 6)) ∧ w = w' := by
  have KB := Lib.hid (fun W => between_any k 1 6 W)
  go_enter Tryz.func218, Tryz.ntmps218
  go_wp2_with (go_at_call 80; refine (KB.out _).mono ?_; rintro e w' ⟨rfl, rfl⟩)
  go_ret
  exact ⟨rfl, rfl⟩
theorem l10Kind_any (k : Int) (w : World) : Calls Tryz.prog 188 #[.int .i64 k] w fun e w' => e = .returned (.bool (betB k 1 6)) ∧ w = w' := by
  have KB := Lib.hid (fun W => l00In_any k 1 6 W)
  go_enter Tryz.func188, Tryz.ntmps188
  go_wp2_with (go_at_call 81; refine (KB.out _).mono ?_; rintro e w' ⟨rfl, rfl⟩)
  go_ret
  exact ⟨rfl, rfl⟩
end Go.Proofs.YtmmiahgmdllgdaaGreatDoor

namespace Go.Proofs.YtmmiahgmdllgdaaGreatDoor
open Go.RowKit Go.Sort
set_option maxHeartbeats 400000 in
theorem sameNumbers_any (A B : Option Addr) (n c m d : Nat) (ds es : List Int) (w : World) (hr : RI w A n ds) (hs : RI w B m es) (hm : n ≤ 9223372036854775807) (hm2 : m ≤ 9223372036854775807) :
    Calls Tryz.prog 190 #[.slice A n c, .slice B m d] w fun e w' => e = .returned (.bool (decide (ds = es))) ∧ ∃ q, w' = w.drewN q := by
  have HL := Lib.hid hr.1
  have HM := Lib.hid hs.1
  by_cases hnm : n = m
  · subst hnm
    go_enter Tryz.func190, Tryz.ntmps190
    go_wp2
    go_loopw [13] (fun i wr => ∃ k : Nat, k ≤ n ∧ i = .int .i64 k ∧ ds.take k = es.take k ∧ ∃ q, wr = w.drewN q) (fun i _ => n - (intOf i).toNat)
    case atStart => exact ⟨0, Nat.zero_le _, rfl, by simp, 0, rfl⟩
    case round =>
      obtain ⟨k, hk, rfl, hdg, q, rfl⟩ := hrel
      have HD := Lib.hid hdg; clear hdg
      by_cases hkn : k < n
      · obtain ⟨ad, hA, hlt, hkl, hc⟩ := hr.at_ hkn
        obtain ⟨ad2, hB, hlt2, hkl2, hc2⟩ := hs.at_ hkn
        subst hA; subst hB
        have hi0 : (0 : Int) ≤ (k : Int) := by omega
        have hi1 : (k : Int) < (n : Int) := by omega
        rcases hd : (ds[k] != es[k]) with _ | _
        · go_wp2
          go_quiet (fail)
          go_wp2
          have he : ds[k] = es[k] := by simpa using hd
          have HE := Lib.hid he; clear he
          go_roundw
          case rel => exact ⟨k + 1, by omega, by go_num, take_eq_of_succ HD.out hkl hkl2 HE.out, by first | exact ⟨_, rfl⟩ | exact ⟨_, World.drewN_drewN _ _ _⟩⟩
          case measure => simp [intOf]; omega
        · go_wp2
          go_quiet (fail)
          go_wp2
          go_ret
          refine ⟨ret_bool ?_, by first | exact ⟨_, rfl⟩ | exact ⟨_, World.drewN_drewN _ _ _⟩⟩
          have : ds ≠ es := by rintro rfl; simp at hd
          simp [this]
      · have HF : Hid (ds = es) := by
          have := HD.out
          rwa [List.take_of_length_le (by have := HL.out; omega), List.take_of_length_le (by have := HM.out; omega)] at this
        go_wp2
        go_ret
        exact ⟨ret_bool (by simp [HF.out]), q, rfl⟩
  · have HF : Hid (ds ≠ es) := by rintro rfl; exact hnm (hr.1.symm.trans hs.1)
    go_enter Tryz.func190, Tryz.ntmps190
    go_wp2
    go_ret
    exact ⟨ret_bool (by simp [HF.out]), 0, rfl⟩
set_option maxHeartbeats 400000 in
theorem l00Same_any (A B : Option Addr) (n c m d : Nat) (ds es : List Int) (w : World) (hr : RI w A n ds) (hs : RI w B m es) (hm : n ≤ 9223372036854775807) (hm2 : m ≤ 9223372036854775807) :
    Calls Tryz.prog 189 #[.slice A n c, .slice B m d] w fun e w' => e = .returned (.bool (decide (ds = es))) ∧ ∃ q, w' = w.drewN q := by
  have HL := Lib.hid hr.1
  have HM := Lib.hid hs.1
  by_cases hnm : n = m
  · subst hnm
    go_enter Tryz.func189, Tryz.ntmps189
    go_wp2
    go_loopw [5] (fun i wr => ∃ k : Nat, k ≤ n ∧ i = .int .i64 k ∧ ds.take k = es.take k ∧ ∃ q, wr = w.drewN q) (fun i _ => n - (intOf i).toNat)
    case atStart => exact ⟨0, Nat.zero_le _, rfl, by simp, 0, rfl⟩
    case round =>
      obtain ⟨k, hk, rfl, hdg, q, rfl⟩ := hrel
      have HD := Lib.hid hdg; clear hdg
      by_cases hkn : k < n
      · obtain ⟨ad, hA, hlt, hkl, hc⟩ := hr.at_ hkn
        obtain ⟨ad2, hB, hlt2, hkl2, hc2⟩ := hs.at_ hkn
        subst hA; subst hB
        have hi0 : (0 : Int) ≤ (k : Int) := by omega
        have hi1 : (k : Int) < (n : Int) := by omega
        rcases hd : (ds[k] != es[k]) with _ | _
        · go_wp2
          go_quiet (fail)
          go_wp2
          have he : ds[k] = es[k] := by simpa using hd
          have HE := Lib.hid he; clear he
          go_roundw
          case rel => exact ⟨k + 1, by omega, by go_num, take_eq_of_succ HD.out hkl hkl2 HE.out, by first | exact ⟨_, rfl⟩ | exact ⟨_, World.drewN_drewN _ _ _⟩⟩
          case measure => simp [intOf]; omega
        · go_wp2
          go_quiet (fail)
          go_wp2
          go_ret
          refine ⟨ret_bool ?_, by first | exact ⟨_, rfl⟩ | exact ⟨_, World.drewN_drewN _ _ _⟩⟩
          have : ds ≠ es := by rintro rfl; simp at hd
          simp [this]
      · have HF : Hid (ds = es) := by
          have := HD.out
          rwa [List.take_of_length_le (by have := HL.out; omega), List.take_of_length_le (by have := HM.out; omega)] at this
        go_wp2
        go_ret
        exact ⟨ret_bool (by simp [HF.out]), q, rfl⟩
  · have HF : Hid (ds ≠ es) := by rintro rfl; exact hnm (hr.1.symm.trans hs.1)
    go_enter Tryz.func189, Tryz.ntmps189
    go_wp2
    go_ret
    exact ⟨ret_bool (by simp [HF.out]), 0, rfl⟩
def sameR (r s : Reg) : Bool := r.base == s.base && decide (r.digits = s.digits)
theorem SameRegister_any (r s : Reg) (A B : Option Addr) (c d : Nat) (w : World) (hr : RI w A r.digits.length r.digits) (hs : RI w B s.digits.length s.digits) (hm : SmallReg r) (hm2 : SmallReg s) :
    Calls Tryz.prog 147 #[.agg #[.int .i64 r.base, .slice A r.digits.length c], .agg #[.int .i64 s.base, .slice B s.digits.length d]] w fun e w' => e = .returned (.bool (sameR r s)) ∧ Below w.heap.size w w' := by
  have hb0 : Below w.heap.size w ((w.alloc (.cells #[.int .i64 r.base, .slice A r.digits.length c] 30)).alloc (.cells #[.int .i64 s.base, .slice B s.digits.length d] 30)) := ((Below.refl _ _).alloc (Nat.le_refl _) _).alloc (by simp) _
  unfold SmallReg at hm hm2
  rcases k : (r.base == s.base) with _ | _
  · have HF : Hid (sameR r s = false) := by simp only [Hid, sameR]; rw [k]; rfl
    go_enter Tryz.func147, Tryz.ntmps147
    go_wp2
    go_ret
    exact ⟨ret_bool HF.out.symm, hb0⟩
  · have HF : Hid (sameR r s = decide (r.digits = s.digits)) := by simp only [Hid, sameR]; rw [k]; rfl
    go_enter Tryz.func147, Tryz.ntmps147
    go_wp2_with (go_at_call 190; refine (sameNumbers_any A B _ c _ d r.digits s.digits _ (hr.below hb0) (hs.below hb0) (by omega) (by omega)).mono ?_; rintro e w1 ⟨rfl, q, rfl⟩)
    go_ret
    exact ⟨ret_bool HF.out.symm, below_drewN hb0 _⟩
theorem l02Same_any (p q : Addr) (r s : Reg) (w : World) (hp : RegM w p r) (hq : RegM w q s) (hm : SmallReg r) (hm2 : SmallReg s) :
    Calls Tryz.prog 146 #[.pointer (some p), .pointer (some q)] w fun e w' => e = .returned (.bool (sameR r s)) ∧ ∃ m, w' = w.drewN m := by
  obtain ⟨A, c, ⟨ha, hb⟩, hr⟩ := hp
  obtain ⟨B, d, ⟨ha0, hb0⟩, hs⟩ := hq
  unfold SmallReg at hm hm2
  have K1 := Lib.hid (fun (m : Nat) => l00Same_any A B _ c _ d r.digits s.digits (w.drewN m) hr hs (by omega) (by omega))
  rcases k : (r.base == s.base) with _ | _
  · have HF : Hid (sameR r s = false) := by simp only [Hid, sameR]; rw [k]; rfl
    go_enter Tryz.func146, Tryz.ntmps146
    go_wp2_with fail
    go_quiet ((go_at_call 189; exact quiet_of_ex (K1.out _)))
    go_wp2
    go_ret
    exact ⟨ret_bool HF.out.symm, _, rfl⟩
  · have HF : Hid (sameR r s = decide (r.digits = s.digits)) := by simp only [Hid, sameR]; rw [k]; rfl
    go_enter Tryz.func146, Tryz.ntmps146
    go_wp2_with fail
    go_quiet ((go_at_call 189; exact quiet_of_ex (K1.out _)))
    go_wp2
    go_ret
    exact ⟨ret_bool HF.out.symm, _, rfl⟩
/-- the carry out of a digit with a kind of fault -/
def cstep (base t c kind : Int) : Int := if kind = 1 then 0 else if kind = 2 then 1 else if kind = 3 then (if t < base then 0 else 1) else if t + c < base then 0 else 1
end Go.Proofs.YtmmiahgmdllgdaaGreatDoor

namespace Go.Proofs.YtmmiahgmdllgdaaGreatDoor
open Go.RowKit Go.Sort
def sameM (t u : Tri) : Bool := sameR t.a u.a && sameR t.b u.b && sameR t.s u.s && (t.carry == u.carry)
set_option maxRecDepth 100000 in
theorem SameMachine_any (t u : Tri) (A1 A2 A3 B1 B2 B3 : Option Addr) (c1 c2 c3 d1 d2 d3 : Nat) (w : World) (r1 : RI w A1 t.a.digits.length t.a.digits) (r2 : RI w A2 t.b.digits.length t.b.digits) (r3 : RI w A3 t.s.digits.length t.s.digits)
    (q1 : RI w B1 u.a.digits.length u.a.digits) (q2 : RI w B2 u.b.digits.length u.b.digits) (q3 : RI w B3 u.s.digits.length u.s.digits) (hs : SmallTri t) (hu : SmallTri u) :
    Calls Tryz.prog 79 #[.agg #[.int .i64 t.a.base, .slice A1 t.a.digits.length c1, .int .i64 t.b.base, .slice A2 t.b.digits.length c2, .int .i64 t.s.base, .slice A3 t.s.digits.length c3, .int .i64 t.carry], .agg #[.int .i64 u.a.base, .slice B1 u.a.digits.length d1, .int .i64 u.b.base, .slice B2 u.b.digits.length d2, .int .i64 u.s.base, .slice B3 u.s.digits.length d3, .int .i64 u.carry]] w fun e w' => e = .returned (.bool (sameM t u)) ∧ Below w.heap.size w w' := by
  have HM := Lib.hid (show sameM t u = (sameR t.a u.a && sameR t.b u.b && sameR t.s u.s && (t.carry == u.carry)) from rfl)
  have K1 := (fun W (hW : Below w.heap.size w W) => SameRegister_any t.a u.a A1 B1 c1 d1 W (r1.below hW) (q1.below hW) hs.1 hu.1)
  have K2 := (fun W (hW : Below w.heap.size w W) => SameRegister_any t.b u.b A2 B2 c2 d2 W (r2.below hW) (q2.below hW) hs.2.1 hu.2.1)
  have K3 := (fun W (hW : Below w.heap.size w W) => SameRegister_any t.s u.s A3 B3 c3 d3 W (r3.below hW) (q3.below hW) hs.2.2 hu.2.2)
  obtain ⟨e1, h1⟩ : ∃ b, sameR t.a u.a = b := ⟨_, rfl⟩
  obtain ⟨e2, h2⟩ : ∃ b, sameR t.b u.b = b := ⟨_, rfl⟩
  obtain ⟨e3, h3⟩ : ∃ b, sameR t.s u.s = b := ⟨_, rfl⟩
  rw [h1] at K1 HM
  rw [h2] at K2 HM
  rw [h3] at K3 HM
  replace K1 := Lib.hid K1
  replace K2 := Lib.hid K2
  replace K3 := Lib.hid K3
  obtain ⟨R, hR⟩ : ∃ R, sameM t u = R := ⟨_, rfl⟩
  rw [hR] at HM ⊢
  have hK0 := ((Kn.nil w).al [.int .i64 t.a.base, .slice A1 t.a.digits.length c1, .int .i64 t.b.base, .slice A2 t.b.digits.length c2, .int .i64 t.s.base, .slice A3 t.s.digits.length c3, .int .i64 t.carry] 32).al [.int .i64 u.a.base, .slice B1 u.a.digits.length d1, .int .i64 u.b.base, .slice B2 u.b.digits.length d2, .int .i64 u.s.base, .slice B3 u.s.digits.length d3, .int .i64 u.carry] 32
  simp only [World.size_alloc] at hK0
  clear h1 h2 h3 r1 r2 r3 q1 q2 q3 hs hu hR
  rcases e1 with _ | _
  · have HQ : Hid (R = false) := by simp only [Hid]; rw [HM.out]; rfl
    go_enter Tryz.func79, Tryz.ntmps79
    go_wp2_with fail
    refine Calls.kn hK0 ?_; intro w1 hK1
    clear hK0
    refine (K1.out _ hK1.below).mono ?_; rintro e w2 ⟨rfl, hw⟩
    have hK2 := hK1.keep hw
    clear hK1 hw
    obtain ⟨x1, x2, x3, a1, a2, a3, -⟩ := hK2.cells
    go_wp2_with fail
    go_ret
    exact ⟨ret_bool HQ.out.symm, hK2.below⟩
  rcases e2 with _ | _
  · have HQ : Hid (R = false) := by simp only [Hid]; rw [HM.out]; rfl
    go_enter Tryz.func79, Tryz.ntmps79
    go_wp2_with fail
    refine Calls.kn hK0 ?_; intro w1 hK1
    clear hK0
    refine (K1.out _ hK1.below).mono ?_; rintro e w2 ⟨rfl, hw⟩
    have hK2 := hK1.keep hw
    clear hK1 hw
    obtain ⟨x1, x2, x3, a1, a2, a3, -⟩ := hK2.cells
    go_wp2_with fail
    refine (K2.out _ hK2.below).mono ?_; rintro e w3 ⟨rfl, hw⟩
    have hK3 := hK2.keep hw
    clear hK2 hw x1 x2 x3 a1 a2 a3
    obtain ⟨x1, x2, x3, a1, a2, a3, -⟩ := hK3.cells
    go_wp2_with fail
    go_ret
    exact ⟨ret_bool HQ.out.symm, hK3.below⟩
  rcases e3 with _ | _
  · have HQ : Hid (R = false) := by simp only [Hid]; rw [HM.out]; rfl
    go_enter Tryz.func79, Tryz.ntmps79
    go_wp2_with fail
    refine Calls.kn hK0 ?_; intro w1 hK1
    clear hK0
    refine (K1.out _ hK1.below).mono ?_; rintro e w2 ⟨rfl, hw⟩
    have hK2 := hK1.keep hw
    clear hK1 hw
    obtain ⟨x1, x2, x3, a1, a2, a3, -⟩ := hK2.cells
    go_wp2_with fail
    refine (K2.out _ hK2.below).mono ?_; rintro e w3 ⟨rfl, hw⟩
    have hK3 := hK2.keep hw
    clear hK2 hw x1 x2 x3 a1 a2 a3
    obtain ⟨x1, x2, x3, a1, a2, a3, -⟩ := hK3.cells
    go_wp2_with fail
    refine (K3.out _ hK3.below).mono ?_; rintro e w4 ⟨rfl, hw⟩
    have hK4 := hK3.keep hw
    clear hK3 hw x1 x2 x3 a1 a2 a3
    obtain ⟨x1, x2, x3, a1, a2, a3, -⟩ := hK4.cells
    go_wp2_with fail
    go_ret
    exact ⟨ret_bool HQ.out.symm, hK4.below⟩
  · have HQ : Hid (R = (t.carry == u.carry)) := by simp only [Hid]; rw [HM.out]; simp
    go_enter Tryz.func79, Tryz.ntmps79
    go_wp2_with fail
    refine Calls.kn hK0 ?_; intro w1 hK1
    clear hK0
    refine (K1.out _ hK1.below).mono ?_; rintro e w2 ⟨rfl, hw⟩
    have hK2 := hK1.keep hw
    clear hK1 hw
    obtain ⟨x1, x2, x3, a1, a2, a3, -⟩ := hK2.cells
    go_wp2_with fail
    refine (K2.out _ hK2.below).mono ?_; rintro e w3 ⟨rfl, hw⟩
    have hK3 := hK2.keep hw
    clear hK2 hw x1 x2 x3 a1 a2 a3
    obtain ⟨x1, x2, x3, a1, a2, a3, -⟩ := hK3.cells
    go_wp2_with fail
    refine (K3.out _ hK3.below).mono ?_; rintro e w4 ⟨rfl, hw⟩
    have hK4 := hK3.keep hw
    clear hK3 hw x1 x2 x3 a1 a2 a3
    obtain ⟨x1, x2, x3, a1, a2, a3, -⟩ := hK4.cells
    go_wp2_with fail
    go_ret
    exact ⟨ret_bool (by rw [HQ.out]), hK4.below⟩
set_option maxRecDepth 100000 in
set_option maxHeartbeats 1600000 in
theorem l10Same_any (p q : Addr) (t u : Tri) (w : World) (hT : TriM w p t) (hU : TriM w q u) (hs : SmallTri t) (hu : SmallTri u) :
    Calls Tryz.prog 78 #[.pointer (some p), .pointer (some q)] w fun e w' => e = .returned (.bool (sameM t u)) ∧ ∃ m, w' = w.drewN m := by
  have HM := Lib.hid (show sameM t u = (sameR t.a u.a && sameR t.b u.b && sameR t.s u.s && (t.carry == u.carry)) from rfl)
  have K1 := (fun (m : Nat) => l02Same_any p q t.a u.a (w.drewN m) hT.1 hU.1 hs.1 hu.1)
  have K2 := (fun (m : Nat) => l02Same_any ⟨p.block, p.off + 2, none⟩ ⟨q.block, q.off + 2, none⟩ t.b u.b (w.drewN m) hT.2.1 hU.2.1 hs.2.1 hu.2.1)
  have K3 := (fun (m : Nat) => l02Same_any ⟨p.block, p.off + 4, none⟩ ⟨q.block, q.off + 4, none⟩ t.s u.s (w.drewN m) hT.2.2.1 hU.2.2.1 hs.2.2 hu.2.2)
  have hc1 := hT.2.2.2
  have hc2 := hU.2.2.2
  obtain ⟨e1, h1⟩ : ∃ b, sameR t.a u.a = b := ⟨_, rfl⟩
  obtain ⟨e2, h2⟩ : ∃ b, sameR t.b u.b = b := ⟨_, rfl⟩
  obtain ⟨e3, h3⟩ : ∃ b, sameR t.s u.s = b := ⟨_, rfl⟩
  rw [h1] at K1 HM
  rw [h2] at K2 HM
  rw [h3] at K3 HM
  replace K1 := Lib.hid K1
  replace K2 := Lib.hid K2
  replace K3 := Lib.hid K3
  obtain ⟨R, hR⟩ : ∃ R, sameM t u = R := ⟨_, rfl⟩
  rw [hR] at HM ⊢
  clear h1 h2 h3 hT hU hs hu hR
  rcases e1 with _ | _
  · have HQ : Hid (R = false) := by simp only [Hid]; rw [HM.out]; rfl
    go_enter Tryz.func78, Tryz.ntmps78
    go_wp2_with fail
    go_quiet ((go_at_call 146; first | (with_reducible exact quiet_of_ex (K1.out _)) | (with_reducible exact quiet_add_ex (K1.out _)) | (with_reducible exact quiet_of_ex (K2.out _)) | (with_reducible exact quiet_add_ex (K2.out _)) | (with_reducible exact quiet_of_ex (K3.out _)) | (with_reducible exact quiet_add_ex (K3.out _))))
    go_wp2_with fail
    go_ret
    exact ⟨ret_bool HQ.out.symm, by first | exact ⟨_, rfl⟩ | exact ⟨_, World.drewN_drewN _ _ _⟩⟩
  rcases e2 with _ | _
  · have HQ : Hid (R = false) := by simp only [Hid]; rw [HM.out]; rfl
    go_enter Tryz.func78, Tryz.ntmps78
    go_wp2_with fail
    go_quiet ((go_at_call 146; first | (with_reducible exact quiet_of_ex (K1.out _)) | (with_reducible exact quiet_add_ex (K1.out _)) | (with_reducible exact quiet_of_ex (K2.out _)) | (with_reducible exact quiet_add_ex (K2.out _)) | (with_reducible exact quiet_of_ex (K3.out _)) | (with_reducible exact quiet_add_ex (K3.out _))))
    go_wp2_with fail
    go_ret
    exact ⟨ret_bool HQ.out.symm, by first | exact ⟨_, rfl⟩ | exact ⟨_, World.drewN_drewN _ _ _⟩⟩
  rcases e3 with _ | _
  · have HQ : Hid (R = false) := by simp only [Hid]; rw [HM.out]; rfl
    go_enter Tryz.func78, Tryz.ntmps78
    go_wp2_with fail
    go_quiet ((go_at_call 146; first | (with_reducible exact quiet_of_ex (K1.out _)) | (with_reducible exact quiet_add_ex (K1.out _)) | (with_reducible exact quiet_of_ex (K2.out _)) | (with_reducible exact quiet_add_ex (K2.out _)) | (with_reducible exact quiet_of_ex (K3.out _)) | (with_reducible exact quiet_add_ex (K3.out _))))
    go_wp2_with fail
    go_ret
    exact ⟨ret_bool HQ.out.symm, by first | exact ⟨_, rfl⟩ | exact ⟨_, World.drewN_drewN _ _ _⟩⟩
  · have HQ : Hid (R = (t.carry == u.carry)) := by simp only [Hid]; rw [HM.out]; simp
    go_enter Tryz.func78, Tryz.ntmps78
    go_wp2_with fail
    go_quiet ((go_at_call 146; first | (with_reducible exact quiet_of_ex (K1.out _)) | (with_reducible exact quiet_add_ex (K1.out _)) | (with_reducible exact quiet_of_ex (K2.out _)) | (with_reducible exact quiet_add_ex (K2.out _)) | (with_reducible exact quiet_of_ex (K3.out _)) | (with_reducible exact quiet_add_ex (K3.out _))))
    go_wp2_with fail
    go_ret
    exact ⟨ret_bool HQ.out.symm, by first | exact ⟨_, rfl⟩ | exact ⟨_, World.drewN_drewN _ _ _⟩⟩
end Go.Proofs.YtmmiahgmdllgdaaGreatDoor
