/- Part 10: lemmas and contracts of the claim's functions. -/
import Derived.Test.YtmmiahgmdllgdaaGreatDoorZC1
import Derived.Test.YtmmiahgmdllgdaaGreatDoorZC2
import Derived.Test.YtmmiahgmdllgdaaGreatDoorZC3
import Derived.Test.YtmmiahgmdllgdaaGreatDoorZC4
import Derived.Test.YtmmiahgmdllgdaaGreatDoorZC5
import Derived.Test.YtmmiahgmdllgdaaGreatDoorZC6
import Derived.Test.YtmmiahgmdllgdaaGreatDoorZC7
import Derived.Test.YtmmiahgmdllgdaaGreatDoorZC8
import Derived.Test.YtmmiahgmdllgdaaGreatDoorZC9
namespace Go.Proofs.YtmmiahgmdllgdaaGreatDoor
open Go.RowKit Go.Sort
theorem Kn.setS {w0 w : World} {m : List Ent} {g c : Nat} {ss : List ByteArray} (h : Kn w0 (rowS (.slice (some ⟨g, 0, none⟩) ss.length c) ss :: m) w) (j : Nat) (s : ByteArray) :
    Kn w0 (rowS (.slice (some ⟨g, 0, none⟩) ss.length c) (ss.set j s) :: m) (w.setCell ⟨g, j, none⟩ (.string s)) := by
  have h1 := Kn.rowSt h j (.string s)
  unfold rowS
  rw [List.length_set, List.map_set]
  exact h1
theorem Kn.takeS {w0 w : World} {m : List Ent} {g c j : Nat} {ss : List ByteArray} (h : Kn w0 (rowS (.slice (some ⟨g, 0, none⟩) ss.length c) ss :: m) w) (hj : j ≤ ss.length) :
    Kn w0 (rowS (.slice (some ⟨g, 0, none⟩) j c) (ss.take j) :: m) w := by
  have h1 := Kn.prefixG h hj
  unfold rowS
  rw [List.length_take, Nat.min_eq_left hj, List.map_take]
  rw [Nat.mul_one] at h1
  exact h1
theorem size_set {ss : List ByteArray} {s : ByteArray} {B j : Nat} (h : ∀ s ∈ ss, s.size ≤ B) (hs : s.size ≤ B) : ∀ x ∈ ss.set j s, x.size ≤ B := fun x hx => by
  rcases List.mem_or_eq_of_mem_set hx with hx | hx
  · exact h x hx
  · rw [hx]; exact hs
set_option maxHeartbeats 800000 in
theorem l24First_any (A : Option Addr) (n c B : Nat) (ss : List ByteArray) (w : World) (hr : RL StrM 1 w A n ss) (hz : ∀ s ∈ ss, s.size ≤ B) (hB : 100 ≤ B) :
    Calls Tryz.prog 124 #[.slice A n c] w fun e w' => (∃ L : ByteArray, e = .returned (.string L) ∧ L.size ≤ B) ∧ w = w' := by
  have HB := Lib.hid hB
  clear hB
  rcases Nat.eq_zero_or_pos n with h0 | h0
  · subst h0
    go_enter Tryz.func124, Tryz.ntmps124
    go_wp2_with fail
    go_ret
    exact ⟨⟨_, rfl, Nat.le_trans (by decide) HB.out⟩, rfl⟩
  · obtain ⟨ad, hA, hlt, hkl, hx⟩ := hr.at_ h0
    unfold StrM at hx
    rw [Nat.mul_one, addr_add_zero] at hx
    have HZ := Lib.hid (hz _ (List.getElem_mem hkl))
    obtain ⟨x, hxe⟩ : ∃ x, ss[0] = x := ⟨_, rfl⟩
    rw [hxe] at hx HZ
    subst hA
    have i1 : ¬ (n : Int) = 0 := by omega
    have i2 : (0 : Int) < (n : Int) := by omega
    clear hxe hr hz
    go_enter Tryz.func124, Tryz.ntmps124
    go_wp2_with fail
    go_ret
    exact ⟨⟨_, rfl, HZ.out⟩, rfl⟩
/-- what the drawing of a session that is often wrong returns -/
def DSes2 (b M : Nat) (w : World) (e : Ending) (w' : World) : Prop := ∃ X x, ∃ ss : List ByteArray, e = .returned (.slice X ss.length x) ∧ ss.length ≤ 300 ∧ (∀ s ∈ ss, s.size ≤ 20001) ∧ DR b M w [rowS (.slice X ss.length x) ss] w'
set_option maxRecDepth 100000 in
set_option maxHeartbeats 6400000 in
theorem l24Bent_dr (b N : Nat) (w : World) (h : Src w b N) (hN : N ≤ 500000) :
    Calls Tryz.prog 63 #[.pointer (some ⟨b, 0, none⟩)] w (DSes2 b (N + 800) w) := by
  unfold DSes2
  have D0 := DR.nil h
  have KM := Lib.hid (l24Draw_dr b N w h (by omega))
  unfold DSes at KM
  clear h
  go_enter Tryz.func63, Tryz.ntmps63
  go_wp2_with fail
  refine KM.out.mono ?_; rintro e w1 ⟨X, x, ss, rfl, hl, hsz, h1⟩
  have D1 := D0.add h1
  obtain ⟨gx, rfl⟩ : ∃ gx, X = some ⟨gx, 0, none⟩ := by
    obtain ⟨u, -, -, hK⟩ := D1
    obtain ⟨-, g', e1, -⟩ := hK.rowS_at (k := 0) (by omega)
    exact ⟨g', e1⟩
  have HSZ := Lib.hid (fun s hs => Nat.le_trans (hsz s hs) (show 6000 ≤ 20001 by omega))
  have HS6 := Lib.hid hsz
  clear D0 h1 KM hsz
  go_wp2_with fail
  refine (pick_dr b _ (ss.length : Int) w1 D1.src (by omega)).mono ?_; rintro e w2 ⟨y, rfl, hy, h2⟩
  have D2 := D1.add h2
  obtain ⟨j, rfl, hj⟩ := pickN (by omega) hy
  clear D1 h2 hy
  go_wp2_with fail
  refine (pick_dr b _ 10 w2 D2.src (by omega)).mono ?_; rintro e w3 ⟨y2, rfl, hy2, h3⟩
  have D3 := D2.add h3
  have hj0 : (0 : Int) ≤ (j : Int) := by omega
  have hj1 : (j : Int) < (ss.length : Int) := by omega
  have hj2 : j < ss.length := by omega
  obtain ⟨hcx, hfx, hltx⟩ : w3.cell? ⟨gx, j, none⟩ = some (.string (ss.getD j ⟨#[]⟩)) ∧ w3.frozen? ⟨gx, j, none⟩ = false ∧ gx < w3.heap.size := by
    obtain ⟨u, -, -, hK⟩ := D3
    obtain ⟨-, g', e1, e2, -, e3⟩ := hK.rowS_at (k := j) (by omega)
    injection e1 with e1
    injection e1 with e1
    subst e1
    have e4 := Kn.rowCell hK (j := j) (u := .string ss[j]) (by rw [List.getElem?_map, List.getElem?_eq_getElem hj2]; rfl)
    refine ⟨?_, e4.2, e3⟩
    rw [List.getD_eq_getElem?_getD, List.getElem?_eq_getElem (by omega)]
    exact e2
  have HLS : Hid ((ss.getD j ⟨#[]⟩).size ≤ 6000) := by
    simp only [Hid]
    rw [List.getD_eq_getElem?_getD, List.getElem?_eq_getElem (by omega)]
    exact HS6.out _ (List.getElem_mem hj2)
  obtain ⟨L, hL⟩ : ∃ L, ss.getD j ⟨#[]⟩ = L := ⟨_, rfl⟩
  rw [hL] at hcx HLS
  clear hL D2 h3
  by_cases y0 : y2 = 0
  · subst y0
    clear hy2
    have KS := Lib.hid (l01Spoil_dr b _ L w3 D3.src (by omega) (by have := HLS.out; omega))
    unfold DStr at KS
    go_wp2_with fail
    refine KS.out.mono ?_; rintro e w4 ⟨S, rfl, hS, h4⟩
    have D4 := D3.add h4
    clear D3 h4 KS hcx hfx hltx
    obtain ⟨u, tw, hs, hK⟩ := D4
    obtain ⟨hc4, hf4⟩ := Kn.rowCell hK (j := j) (u := .string ss[j]) (by rw [List.getElem?_map, List.getElem?_eq_getElem hj2]; rfl)
    obtain ⟨-, g', e1, -, -, hlt4⟩ := hK.rowS_at (k := j) (by omega)
    injection e1 with e1
    injection e1 with e1
    subst e1
    go_upto_region 12 with fail
    refine Code.wp.kn (hK.setS j S) ?_; intro wN KN
    have D : DR b (N + 450) w [rowS (.slice (some ⟨gx, 0, none⟩) (ss.length) (x)) (ss.set j S)] wN := DR.mono (⟨u, tw, hs, KN⟩) (by omega)
    have HYL : Hid ((ss.set j S).length ≤ 201) := Lib.hid (by rw [List.length_set]; omega)
    have HYZ : Hid (∀ s ∈ (ss.set j S), s.size ≤ 20001) := Lib.hid (size_set HSZ.out hS)
    have HN9 : Hid ((ss.set j S).length = ss.length) := Lib.hid (List.length_set)
    obtain ⟨ys, hys⟩ : ∃ ys, (ss.set j S) = ys := ⟨_, rfl⟩
    rw [hys] at D HYL HYZ HN9
    clear hys
    clear hc4 hf4 hlt4 tw hs hK KN HLS
    go_wp2_with fail
    refine (one_dr b _ 24 wN D.src (by omega)).mono ?_; rintro e w12 ⟨z, rfl, h12⟩
    have D12 := D.add h12
    clear D h12
    rcases z with _ | _
    · go_wp2_with fail
      go_ret
      exact ⟨some ⟨gx, 0, none⟩, x, ys, by rw [HN9.out]; rfl, by have := HYL.out; omega, HYZ.out, by rw [HN9.out]; exact D12.mono (by omega)⟩
    · have KF := Lib.hid (l24First_any (some ⟨gx, 0, none⟩) (ss.length) (x) 20001 ys w12 (by obtain ⟨u, -, -, hK⟩ := D12; exact hK.rlS.2) HYZ.out (by omega))
      go_wp2_with fail
      refine KF.out.mono ?_; rintro e w13 ⟨⟨LF, rfl, hLF⟩, hww⟩
      obtain rfl := hww
      obtain ⟨gm, hgm⟩ : ∃ g, w12.heap.size = g := ⟨_, rfl⟩
      have D13 := (D12.al [.string LF] 9).sel [0] 99 (by decide) (by decide)
      rw [hgm] at D13
      go_wp2_with fail
      try rw [hgm]
      refine Calls.dr D13 ?_; clear D12 D13 hgm KF; intro w13 D13
      refine (pick_dr b _ 2 w13 D13.src (by omega)).mono ?_; rintro e w14 ⟨x, rfl, hx, h14⟩
      obtain ⟨q, rfl, hq⟩ := pickN (by omega) hx
      have D14 : DR b (N + 460) w [rowS (.slice (some ⟨gm, 0, none⟩) 1 1) [LF]] w14 := ((D13.add h14).kn (fun v h => (h.front 0 rfl).litRow (size := 1) (n := 1) rfl (by decide))).mono (by omega)
      clear D13 h14 hx
      have hw1 : IntKind.i64.wrap (100 + (q : Int)) = 100 + (q : Int) := wrapI64 (by omega)
      have hw2 : IntKind.i64.wrap (100 + (q : Int) - 2) = ((98 + q : Nat) : Int) := by rw [wrapI64 (by omega)]; omega
      go_wp2_with fail
      go_loopw [6, 5] (fun kk mm wr => ∃ (k : Nat) (ms : List ByteArray), k ≤ 99 ∧ kk = .int .i64 (k : Int) ∧ Hid (ms.length + k ≤ 100) ∧ Hid (∀ s ∈ ms, s.size ≤ 20001) ∧ DR b (N + 760 - 3 * k) w [rowS mm ms] wr) (fun kk _ _ => (intOf kk).toNat)
      case atStart => exact ⟨98 + q, [LF], by omega, rfl, Lib.hid (by simp; omega), Lib.hid (fun s h => by rw [List.mem_singleton.1 h]; exact hLF), D14.mono (by omega)⟩
      case round =>
        clear D14 hLF
        obtain ⟨k, ms, hk, rfl, HLN, HSM, D⟩ := hrel
        by_cases hk0 : 0 < k
        · have i1 : (0 : Int) < (k : Int) := by omega
          obtain ⟨gt, hgt⟩ : ∃ g, wr.heap.size = g := ⟨_, rfl⟩
          have D1 := D.al [.string ⟨#[97, 100, 100]⟩, .string ⟨#[115, 117, 98]⟩] 9
          rw [hgt] at D1
          go_wp2_with fail
          try rw [hgt]
          refine Calls.dr D1 ?_; clear D D1 hgt; intro w1 D1
          refine (text_dr [⟨#[97, 100, 100]⟩, ⟨#[115, 117, 98]⟩] 2 rfl D1 (by omega) (by omega)).mono ?_; rintro e w2 ⟨TX, rfl, hTX, D2⟩
          have hts : TX.size ≤ 20001 := by
            simp only [List.mem_cons, List.not_mem_nil, or_false] at hTX
            rcases hTX with rfl | rfl <;> decide
          clear D1 hTX
          obtain ⟨u, tw, hs, hK⟩ := D2
          have hln : ms.length ≤ 10000000 := by have := HLN.out; omega
          go_wp2_with (at_builtin; refine kn_pushS rfl _ _ rfl _ ms rfl rfl ((hK.front 1 rfl).al [.string TX] 9) hln ?_; intro v9 w9 K9)
          go_roundw
          case rel => exact ⟨k - 1, ms ++ [TX], by omega, by go_num, Lib.hid (by have := HLN.out; simp; omega), Lib.hid (size_snoc HSM.out hts), DR.mono (N := N + 760 - 3 * k + 2) ⟨u, tw, hs, K9.sel [0] 99 (by decide) (by decide)⟩ (by omega)⟩
          case measure => simp [intOf]; omega
        · have i1 : ¬ (0 : Int) < (k : Int) := by omega
          obtain ⟨u, tw, hs, hK⟩ := D
          have hln : ms.length ≤ 10000000 := by have := HLN.out; omega
          go_wp2_with (at_builtin; refine kn_pushS rfl _ _ rfl _ ms rfl rfl (hK.al [.string ⟨#[101, 110, 100]⟩] 9) hln ?_; intro v9 w9 K9)
          obtain ⟨Z, z, rfl⟩ := row_form K9.at0
          go_ret
          exact ⟨Z, z, ms ++ [⟨#[101, 110, 100]⟩], rfl, by have := HLN.out; simp; omega, size_snoc HSM.out (by decide), DR.mono (N := N + 760 - 3 * k) ⟨u, tw, hs, K9⟩ (by omega)⟩
  by_cases y1 : y2 = 1
  · subst y1
    clear hy2
    have hw0 := y0
    have hjc : (j : Int) ≤ (x : Int) := by
      obtain ⟨u, -, -, hK⟩ := D3
      have := Kn.capG hK
      omega
    clear hcx hfx hltx
    go_upto_region 12 with fail
    obtain ⟨wN, rfl⟩ : ∃ W, W = w3 := ⟨_, rfl⟩
    have D : DR b (N + 450) w [rowS (.slice (some ⟨gx, 0, none⟩) (j) (x)) (ss.take j)] wN := DR.mono (D3.kn (fun v h => h.takeS (by omega))) (by omega)
    have HYL : Hid ((ss.take j).length ≤ 201) := Lib.hid (by rw [List.length_take]; omega)
    have HYZ : Hid (∀ s ∈ (ss.take j), s.size ≤ 20001) := Lib.hid (fun s h => HSZ.out s (List.mem_of_mem_take h))
    have HN9 : Hid ((ss.take j).length = j) := Lib.hid (by rw [List.length_take]; omega)
    obtain ⟨ys, hys⟩ : ∃ ys, (ss.take j) = ys := ⟨_, rfl⟩
    rw [hys] at D HYL HYZ HN9
    clear hys
    go_wp2_with fail
    refine (one_dr b _ 24 wN D.src (by omega)).mono ?_; rintro e w12 ⟨z, rfl, h12⟩
    have D12 := D.add h12
    clear D h12
    rcases z with _ | _
    · go_wp2_with fail
      go_ret
      exact ⟨some ⟨gx, 0, none⟩, x, ys, by rw [HN9.out]; rfl, by have := HYL.out; omega, HYZ.out, by rw [HN9.out]; exact D12.mono (by omega)⟩
    · have KF := Lib.hid (l24First_any (some ⟨gx, 0, none⟩) (j) (x) 20001 ys w12 (by obtain ⟨u, -, -, hK⟩ := D12; exact hK.rlS.2) HYZ.out (by omega))
      go_wp2_with fail
      refine KF.out.mono ?_; rintro e w13 ⟨⟨LF, rfl, hLF⟩, hww⟩
      obtain rfl := hww
      obtain ⟨gm, hgm⟩ : ∃ g, w12.heap.size = g := ⟨_, rfl⟩
      have D13 := (D12.al [.string LF] 9).sel [0] 99 (by decide) (by decide)
      rw [hgm] at D13
      go_wp2_with fail
      try rw [hgm]
      refine Calls.dr D13 ?_; clear D12 D13 hgm KF; intro w13 D13
      refine (pick_dr b _ 2 w13 D13.src (by omega)).mono ?_; rintro e w14 ⟨x, rfl, hx, h14⟩
      obtain ⟨q, rfl, hq⟩ := pickN (by omega) hx
      have D14 : DR b (N + 460) w [rowS (.slice (some ⟨gm, 0, none⟩) 1 1) [LF]] w14 := ((D13.add h14).kn (fun v h => (h.front 0 rfl).litRow (size := 1) (n := 1) rfl (by decide))).mono (by omega)
      clear D13 h14 hx
      have hw1 : IntKind.i64.wrap (100 + (q : Int)) = 100 + (q : Int) := wrapI64 (by omega)
      have hw2 : IntKind.i64.wrap (100 + (q : Int) - 2) = ((98 + q : Nat) : Int) := by rw [wrapI64 (by omega)]; omega
      go_wp2_with fail
      go_loopw [6, 5] (fun kk mm wr => ∃ (k : Nat) (ms : List ByteArray), k ≤ 99 ∧ kk = .int .i64 (k : Int) ∧ Hid (ms.length + k ≤ 100) ∧ Hid (∀ s ∈ ms, s.size ≤ 20001) ∧ DR b (N + 760 - 3 * k) w [rowS mm ms] wr) (fun kk _ _ => (intOf kk).toNat)
      case atStart => exact ⟨98 + q, [LF], by omega, rfl, Lib.hid (by simp; omega), Lib.hid (fun s h => by rw [List.mem_singleton.1 h]; exact hLF), D14.mono (by omega)⟩
      case round =>
        clear D14 hLF
        obtain ⟨k, ms, hk, rfl, HLN, HSM, D⟩ := hrel
        by_cases hk0 : 0 < k
        · have i1 : (0 : Int) < (k : Int) := by omega
          obtain ⟨gt, hgt⟩ : ∃ g, wr.heap.size = g := ⟨_, rfl⟩
          have D1 := D.al [.string ⟨#[97, 100, 100]⟩, .string ⟨#[115, 117, 98]⟩] 9
          rw [hgt] at D1
          go_wp2_with fail
          try rw [hgt]
          refine Calls.dr D1 ?_; clear D D1 hgt; intro w1 D1
          refine (text_dr [⟨#[97, 100, 100]⟩, ⟨#[115, 117, 98]⟩] 2 rfl D1 (by omega) (by omega)).mono ?_; rintro e w2 ⟨TX, rfl, hTX, D2⟩
          have hts : TX.size ≤ 20001 := by
            simp only [List.mem_cons, List.not_mem_nil, or_false] at hTX
            rcases hTX with rfl | rfl <;> decide
          clear D1 hTX
          obtain ⟨u, tw, hs, hK⟩ := D2
          have hln : ms.length ≤ 10000000 := by have := HLN.out; omega
          go_wp2_with (at_builtin; refine kn_pushS rfl _ _ rfl _ ms rfl rfl ((hK.front 1 rfl).al [.string TX] 9) hln ?_; intro v9 w9 K9)
          go_roundw
          case rel => exact ⟨k - 1, ms ++ [TX], by omega, by go_num, Lib.hid (by have := HLN.out; simp; omega), Lib.hid (size_snoc HSM.out hts), DR.mono (N := N + 760 - 3 * k + 2) ⟨u, tw, hs, K9.sel [0] 99 (by decide) (by decide)⟩ (by omega)⟩
          case measure => simp [intOf]; omega
        · have i1 : ¬ (0 : Int) < (k : Int) := by omega
          obtain ⟨u, tw, hs, hK⟩ := D
          have hln : ms.length ≤ 10000000 := by have := HLN.out; omega
          go_wp2_with (at_builtin; refine kn_pushS rfl _ _ rfl _ ms rfl rfl (hK.al [.string ⟨#[101, 110, 100]⟩] 9) hln ?_; intro v9 w9 K9)
          obtain ⟨Z, z, rfl⟩ := row_form K9.at0
          go_ret
          exact ⟨Z, z, ms ++ [⟨#[101, 110, 100]⟩], rfl, by have := HLN.out; simp; omega, size_snoc HSM.out (by decide), DR.mono (N := N + 760 - 3 * k) ⟨u, tw, hs, K9⟩ (by omega)⟩
  by_cases y2' : y2 = 2
  · subst y2'
    clear hy2
    obtain ⟨gt, hgt⟩ : ∃ g, w3.heap.size = g := ⟨_, rfl⟩
    have D4 := D3.al [.string ⟨#[]⟩, .string ⟨#[101, 110, 100]⟩, .string ⟨#[115, 101, 116, 32, 45, 49]⟩, .string ⟨#[115, 101, 116, 32, 57, 57, 57, 57, 57]⟩, .string ⟨#[115, 101, 116]⟩, .string ⟨#[115, 104, 111, 119]⟩, .string ⟨#[115, 104, 111, 119, 32, 49, 48, 58, 49, 32, 49, 48, 58, 49, 32, 49, 48, 58, 49, 32, 48]⟩, .string ⟨#[116, 117, 114, 110]⟩, .string ⟨#[97, 100, 100, 32, 50]⟩, .string ⟨#[115, 116, 97, 114, 116, 32, 49, 48, 58, 49, 32, 49, 48, 58, 49, 32, 49, 48, 58, 49, 32, 48]⟩] 9
    rw [hgt] at D4
    go_wp2_with fail
    try rw [hgt]
    refine Calls.dr D4 ?_; clear D3 D4 hgt hcx hfx hltx; intro w4 D4
    refine (text_dr [⟨#[]⟩, ⟨#[101, 110, 100]⟩, ⟨#[115, 101, 116, 32, 45, 49]⟩, ⟨#[115, 101, 116, 32, 57, 57, 57, 57, 57]⟩, ⟨#[115, 101, 116]⟩, ⟨#[115, 104, 111, 119]⟩, ⟨#[115, 104, 111, 119, 32, 49, 48, 58, 49, 32, 49, 48, 58, 49, 32, 49, 48, 58, 49, 32, 48]⟩, ⟨#[116, 117, 114, 110]⟩, ⟨#[97, 100, 100, 32, 50]⟩, ⟨#[115, 116, 97, 114, 116, 32, 49, 48, 58, 49, 32, 49, 48, 58, 49, 32, 49, 48, 58, 49, 32, 48]⟩] 10 rfl D4 (by omega) (by omega)).mono ?_; rintro e w5 ⟨S, rfl, hTX, D5⟩
    have hS : S.size ≤ 20001 := by
      have H : ∀ s ∈ ([⟨#[]⟩, ⟨#[101, 110, 100]⟩, ⟨#[115, 101, 116, 32, 45, 49]⟩, ⟨#[115, 101, 116, 32, 57, 57, 57, 57, 57]⟩, ⟨#[115, 101, 116]⟩, ⟨#[115, 104, 111, 119]⟩, ⟨#[115, 104, 111, 119, 32, 49, 48, 58, 49, 32, 49, 48, 58, 49, 32, 49, 48, 58, 49, 32, 48]⟩, ⟨#[116, 117, 114, 110]⟩, ⟨#[97, 100, 100, 32, 50]⟩, ⟨#[115, 116, 97, 114, 116, 32, 49, 48, 58, 49, 32, 49, 48, 58, 49, 32, 49, 48, 58, 49, 32, 48]⟩] : List ByteArray), s.size ≤ 20001 := by decide
      exact H _ hTX
    clear D4 hTX
    obtain ⟨u, tw, hs, hK⟩ := D5
    have hK := hK.front 1 rfl
    obtain ⟨hc4, hf4⟩ := Kn.rowCell hK (j := j) (u := .string ss[j]) (by rw [List.getElem?_map, List.getElem?_eq_getElem hj2]; rfl)
    obtain ⟨-, g', e1, -, -, hlt4⟩ := hK.rowS_at (k := j) (by omega)
    injection e1 with e1
    injection e1 with e1
    subst e1
    go_upto_region 12 with fail
    refine Code.wp.kn ((hK.setS j S).sel [0] 99 (by decide) (by decide)) ?_; intro wN KN
    have D : DR b (N + 450) w [rowS (.slice (some ⟨gx, 0, none⟩) (ss.length) (x)) (ss.set j S)] wN := DR.mono (⟨u, tw, hs, KN⟩) (by omega)
    have HYL : Hid ((ss.set j S).length ≤ 201) := Lib.hid (by rw [List.length_set]; omega)
    have HYZ : Hid (∀ s ∈ (ss.set j S), s.size ≤ 20001) := Lib.hid (size_set HSZ.out hS)
    have HN9 : Hid ((ss.set j S).length = ss.length) := Lib.hid (List.length_set)
    obtain ⟨ys, hys⟩ : ∃ ys, (ss.set j S) = ys := ⟨_, rfl⟩
    rw [hys] at D HYL HYZ HN9
    clear hys
    clear hc4 hf4 hlt4 tw hs hK KN HLS
    go_wp2_with fail
    refine (one_dr b _ 24 wN D.src (by omega)).mono ?_; rintro e w12 ⟨z, rfl, h12⟩
    have D12 := D.add h12
    clear D h12
    rcases z with _ | _
    · go_wp2_with fail
      go_ret
      exact ⟨some ⟨gx, 0, none⟩, x, ys, by rw [HN9.out]; rfl, by have := HYL.out; omega, HYZ.out, by rw [HN9.out]; exact D12.mono (by omega)⟩
    · have KF := Lib.hid (l24First_any (some ⟨gx, 0, none⟩) (ss.length) (x) 20001 ys w12 (by obtain ⟨u, -, -, hK⟩ := D12; exact hK.rlS.2) HYZ.out (by omega))
      go_wp2_with fail
      refine KF.out.mono ?_; rintro e w13 ⟨⟨LF, rfl, hLF⟩, hww⟩
      obtain rfl := hww
      obtain ⟨gm, hgm⟩ : ∃ g, w12.heap.size = g := ⟨_, rfl⟩
      have D13 := (D12.al [.string LF] 9).sel [0] 99 (by decide) (by decide)
      rw [hgm] at D13
      go_wp2_with fail
      try rw [hgm]
      refine Calls.dr D13 ?_; clear D12 D13 hgm KF; intro w13 D13
      refine (pick_dr b _ 2 w13 D13.src (by omega)).mono ?_; rintro e w14 ⟨x, rfl, hx, h14⟩
      obtain ⟨q, rfl, hq⟩ := pickN (by omega) hx
      have D14 : DR b (N + 460) w [rowS (.slice (some ⟨gm, 0, none⟩) 1 1) [LF]] w14 := ((D13.add h14).kn (fun v h => (h.front 0 rfl).litRow (size := 1) (n := 1) rfl (by decide))).mono (by omega)
      clear D13 h14 hx
      have hw1 : IntKind.i64.wrap (100 + (q : Int)) = 100 + (q : Int) := wrapI64 (by omega)
      have hw2 : IntKind.i64.wrap (100 + (q : Int) - 2) = ((98 + q : Nat) : Int) := by rw [wrapI64 (by omega)]; omega
      go_wp2_with fail
      go_loopw [6, 5] (fun kk mm wr => ∃ (k : Nat) (ms : List ByteArray), k ≤ 99 ∧ kk = .int .i64 (k : Int) ∧ Hid (ms.length + k ≤ 100) ∧ Hid (∀ s ∈ ms, s.size ≤ 20001) ∧ DR b (N + 760 - 3 * k) w [rowS mm ms] wr) (fun kk _ _ => (intOf kk).toNat)
      case atStart => exact ⟨98 + q, [LF], by omega, rfl, Lib.hid (by simp; omega), Lib.hid (fun s h => by rw [List.mem_singleton.1 h]; exact hLF), D14.mono (by omega)⟩
      case round =>
        clear D14 hLF
        obtain ⟨k, ms, hk, rfl, HLN, HSM, D⟩ := hrel
        by_cases hk0 : 0 < k
        · have i1 : (0 : Int) < (k : Int) := by omega
          obtain ⟨gt, hgt⟩ : ∃ g, wr.heap.size = g := ⟨_, rfl⟩
          have D1 := D.al [.string ⟨#[97, 100, 100]⟩, .string ⟨#[115, 117, 98]⟩] 9
          rw [hgt] at D1
          go_wp2_with fail
          try rw [hgt]
          refine Calls.dr D1 ?_; clear D D1 hgt; intro w1 D1
          refine (text_dr [⟨#[97, 100, 100]⟩, ⟨#[115, 117, 98]⟩] 2 rfl D1 (by omega) (by omega)).mono ?_; rintro e w2 ⟨TX, rfl, hTX, D2⟩
          have hts : TX.size ≤ 20001 := by
            simp only [List.mem_cons, List.not_mem_nil, or_false] at hTX
            rcases hTX with rfl | rfl <;> decide
          clear D1 hTX
          obtain ⟨u, tw, hs, hK⟩ := D2
          have hln : ms.length ≤ 10000000 := by have := HLN.out; omega
          go_wp2_with (at_builtin; refine kn_pushS rfl _ _ rfl _ ms rfl rfl ((hK.front 1 rfl).al [.string TX] 9) hln ?_; intro v9 w9 K9)
          go_roundw
          case rel => exact ⟨k - 1, ms ++ [TX], by omega, by go_num, Lib.hid (by have := HLN.out; simp; omega), Lib.hid (size_snoc HSM.out hts), DR.mono (N := N + 760 - 3 * k + 2) ⟨u, tw, hs, K9.sel [0] 99 (by decide) (by decide)⟩ (by omega)⟩
          case measure => simp [intOf]; omega
        · have i1 : ¬ (0 : Int) < (k : Int) := by omega
          obtain ⟨u, tw, hs, hK⟩ := D
          have hln : ms.length ≤ 10000000 := by have := HLN.out; omega
          go_wp2_with (at_builtin; refine kn_pushS rfl _ _ rfl _ ms rfl rfl (hK.al [.string ⟨#[101, 110, 100]⟩] 9) hln ?_; intro v9 w9 K9)
          obtain ⟨Z, z, rfl⟩ := row_form K9.at0
          go_ret
          exact ⟨Z, z, ms ++ [⟨#[101, 110, 100]⟩], rfl, by have := HLN.out; simp; omega, size_snoc HSM.out (by decide), DR.mono (N := N + 760 - 3 * k) ⟨u, tw, hs, K9⟩ (by omega)⟩
  clear hcx hfx hltx
  by_cases y3 : y2 = 3
  · subst y3
    clear hy2
    obtain ⟨u, tw, hs, hK⟩ := D3
    have hln : ss.length ≤ 10000000 := by omega
    go_upto_region 12 with (at_builtin; refine kn_pushS rfl _ _ rfl _ ss rfl rfl (hK.al [.string ⟨#[97, 100, 100]⟩] 9) hln ?_; intro v9 wN K9)
    obtain ⟨Y9, y9, rfl⟩ := row_form K9.at0
    rw [show (ss ++ [(⟨#[97, 100, 100]⟩ : ByteArray)]).length = ss.length + 1 from by simp] at K9
    have D : DR b (N + 450) w [rowS (.slice (Y9) (ss.length + 1) (y9)) (ss ++ [(⟨#[97, 100, 100]⟩ : ByteArray)])] wN := DR.mono (⟨u, tw, hs, K9⟩) (by omega)
    have HYL : Hid ((ss ++ [(⟨#[97, 100, 100]⟩ : ByteArray)]).length ≤ 201) := Lib.hid (by simp; omega)
    have HYZ : Hid (∀ s ∈ (ss ++ [(⟨#[97, 100, 100]⟩ : ByteArray)]), s.size ≤ 20001) := Lib.hid (size_snoc HSZ.out (by decide))
    have HN9 : Hid ((ss ++ [(⟨#[97, 100, 100]⟩ : ByteArray)]).length = ss.length + 1) := Lib.hid (by simp)
    obtain ⟨ys, hys⟩ : ∃ ys, (ss ++ [(⟨#[97, 100, 100]⟩ : ByteArray)]) = ys := ⟨_, rfl⟩
    rw [hys] at D HYL HYZ HN9
    clear hys
    clear tw hs hK K9 HLS
    go_wp2_with fail
    refine (one_dr b _ 24 wN D.src (by omega)).mono ?_; rintro e w12 ⟨z, rfl, h12⟩
    have D12 := D.add h12
    clear D h12
    rcases z with _ | _
    · go_wp2_with fail
      go_ret
      exact ⟨Y9, y9, ys, by rw [HN9.out]; rfl, by have := HYL.out; omega, HYZ.out, by rw [HN9.out]; exact D12.mono (by omega)⟩
    · have KF := Lib.hid (l24First_any (Y9) (ss.length + 1) (y9) 20001 ys w12 (by obtain ⟨u, -, -, hK⟩ := D12; exact hK.rlS.2) HYZ.out (by omega))
      go_wp2_with fail
      refine KF.out.mono ?_; rintro e w13 ⟨⟨LF, rfl, hLF⟩, hww⟩
      obtain rfl := hww
      obtain ⟨gm, hgm⟩ : ∃ g, w12.heap.size = g := ⟨_, rfl⟩
      have D13 := (D12.al [.string LF] 9).sel [0] 99 (by decide) (by decide)
      rw [hgm] at D13
      go_wp2_with fail
      try rw [hgm]
      refine Calls.dr D13 ?_; clear D12 D13 hgm KF; intro w13 D13
      refine (pick_dr b _ 2 w13 D13.src (by omega)).mono ?_; rintro e w14 ⟨x, rfl, hx, h14⟩
      obtain ⟨q, rfl, hq⟩ := pickN (by omega) hx
      have D14 : DR b (N + 460) w [rowS (.slice (some ⟨gm, 0, none⟩) 1 1) [LF]] w14 := ((D13.add h14).kn (fun v h => (h.front 0 rfl).litRow (size := 1) (n := 1) rfl (by decide))).mono (by omega)
      clear D13 h14 hx
      have hw1 : IntKind.i64.wrap (100 + (q : Int)) = 100 + (q : Int) := wrapI64 (by omega)
      have hw2 : IntKind.i64.wrap (100 + (q : Int) - 2) = ((98 + q : Nat) : Int) := by rw [wrapI64 (by omega)]; omega
      go_wp2_with fail
      go_loopw [6, 5] (fun kk mm wr => ∃ (k : Nat) (ms : List ByteArray), k ≤ 99 ∧ kk = .int .i64 (k : Int) ∧ Hid (ms.length + k ≤ 100) ∧ Hid (∀ s ∈ ms, s.size ≤ 20001) ∧ DR b (N + 760 - 3 * k) w [rowS mm ms] wr) (fun kk _ _ => (intOf kk).toNat)
      case atStart => exact ⟨98 + q, [LF], by omega, rfl, Lib.hid (by simp; omega), Lib.hid (fun s h => by rw [List.mem_singleton.1 h]; exact hLF), D14.mono (by omega)⟩
      case round =>
        clear D14 hLF
        obtain ⟨k, ms, hk, rfl, HLN, HSM, D⟩ := hrel
        by_cases hk0 : 0 < k
        · have i1 : (0 : Int) < (k : Int) := by omega
          obtain ⟨gt, hgt⟩ : ∃ g, wr.heap.size = g := ⟨_, rfl⟩
          have D1 := D.al [.string ⟨#[97, 100, 100]⟩, .string ⟨#[115, 117, 98]⟩] 9
          rw [hgt] at D1
          go_wp2_with fail
          try rw [hgt]
          refine Calls.dr D1 ?_; clear D D1 hgt; intro w1 D1
          refine (text_dr [⟨#[97, 100, 100]⟩, ⟨#[115, 117, 98]⟩] 2 rfl D1 (by omega) (by omega)).mono ?_; rintro e w2 ⟨TX, rfl, hTX, D2⟩
          have hts : TX.size ≤ 20001 := by
            simp only [List.mem_cons, List.not_mem_nil, or_false] at hTX
            rcases hTX with rfl | rfl <;> decide
          clear D1 hTX
          obtain ⟨u, tw, hs, hK⟩ := D2
          have hln : ms.length ≤ 10000000 := by have := HLN.out; omega
          go_wp2_with (at_builtin; refine kn_pushS rfl _ _ rfl _ ms rfl rfl ((hK.front 1 rfl).al [.string TX] 9) hln ?_; intro v9 w9 K9)
          go_roundw
          case rel => exact ⟨k - 1, ms ++ [TX], by omega, by go_num, Lib.hid (by have := HLN.out; simp; omega), Lib.hid (size_snoc HSM.out hts), DR.mono (N := N + 760 - 3 * k + 2) ⟨u, tw, hs, K9.sel [0] 99 (by decide) (by decide)⟩ (by omega)⟩
          case measure => simp [intOf]; omega
        · have i1 : ¬ (0 : Int) < (k : Int) := by omega
          obtain ⟨u, tw, hs, hK⟩ := D
          have hln : ms.length ≤ 10000000 := by have := HLN.out; omega
          go_wp2_with (at_builtin; refine kn_pushS rfl _ _ rfl _ ms rfl rfl (hK.al [.string ⟨#[101, 110, 100]⟩] 9) hln ?_; intro v9 w9 K9)
          obtain ⟨Z, z, rfl⟩ := row_form K9.at0
          go_ret
          exact ⟨Z, z, ms ++ [⟨#[101, 110, 100]⟩], rfl, by have := HLN.out; simp; omega, size_snoc HSM.out (by decide), DR.mono (N := N + 760 - 3 * k) ⟨u, tw, hs, K9⟩ (by omega)⟩
  · have z0 : (y2 == 0) = false := beq_eq_false_iff_ne.2 y0
    have z1 : (y2 == 1) = false := beq_eq_false_iff_ne.2 y1
    have z2 : (y2 == 2) = false := beq_eq_false_iff_ne.2 y2'
    have z3 : (y2 == 3) = false := beq_eq_false_iff_ne.2 y3
    go_upto_region 12 with fail
    obtain ⟨wN, rfl⟩ : ∃ W, W = w3 := ⟨_, rfl⟩
    have D : DR b (N + 450) w [rowS (.slice (some ⟨gx, 0, none⟩) (ss.length) (x)) (ss.take ss.length)] wN := DR.mono (D3.kn (fun v h => h.takeS (Nat.le_refl _))) (by omega)
    have HYL : Hid ((ss.take ss.length).length ≤ 201) := Lib.hid (by rw [List.length_take]; omega)
    have HYZ : Hid (∀ s ∈ (ss.take ss.length), s.size ≤ 20001) := Lib.hid (fun s h => HSZ.out s (List.mem_of_mem_take h))
    have HN9 : Hid ((ss.take ss.length).length = ss.length) := Lib.hid (by rw [List.length_take]; omega)
    obtain ⟨ys, hys⟩ : ∃ ys, (ss.take ss.length) = ys := ⟨_, rfl⟩
    rw [hys] at D HYL HYZ HN9
    clear hys
    go_wp2_with fail
    refine (one_dr b _ 24 wN D.src (by omega)).mono ?_; rintro e w12 ⟨z, rfl, h12⟩
    have D12 := D.add h12
    clear D h12
    rcases z with _ | _
    · go_wp2_with fail
      go_ret
      exact ⟨some ⟨gx, 0, none⟩, x, ys, by rw [HN9.out]; rfl, by have := HYL.out; omega, HYZ.out, by rw [HN9.out]; exact D12.mono (by omega)⟩
    · have KF := Lib.hid (l24First_any (some ⟨gx, 0, none⟩) (ss.length) (x) 20001 ys w12 (by obtain ⟨u, -, -, hK⟩ := D12; exact hK.rlS.2) HYZ.out (by omega))
      go_wp2_with fail
      refine KF.out.mono ?_; rintro e w13 ⟨⟨LF, rfl, hLF⟩, hww⟩
      obtain rfl := hww
      obtain ⟨gm, hgm⟩ : ∃ g, w12.heap.size = g := ⟨_, rfl⟩
      have D13 := (D12.al [.string LF] 9).sel [0] 99 (by decide) (by decide)
      rw [hgm] at D13
      go_wp2_with fail
      try rw [hgm]
      refine Calls.dr D13 ?_; clear D12 D13 hgm KF; intro w13 D13
      refine (pick_dr b _ 2 w13 D13.src (by omega)).mono ?_; rintro e w14 ⟨x, rfl, hx, h14⟩
      obtain ⟨q, rfl, hq⟩ := pickN (by omega) hx
      have D14 : DR b (N + 460) w [rowS (.slice (some ⟨gm, 0, none⟩) 1 1) [LF]] w14 := ((D13.add h14).kn (fun v h => (h.front 0 rfl).litRow (size := 1) (n := 1) rfl (by decide))).mono (by omega)
      clear D13 h14 hx
      have hw1 : IntKind.i64.wrap (100 + (q : Int)) = 100 + (q : Int) := wrapI64 (by omega)
      have hw2 : IntKind.i64.wrap (100 + (q : Int) - 2) = ((98 + q : Nat) : Int) := by rw [wrapI64 (by omega)]; omega
      go_wp2_with fail
      go_loopw [6, 5] (fun kk mm wr => ∃ (k : Nat) (ms : List ByteArray), k ≤ 99 ∧ kk = .int .i64 (k : Int) ∧ Hid (ms.length + k ≤ 100) ∧ Hid (∀ s ∈ ms, s.size ≤ 20001) ∧ DR b (N + 760 - 3 * k) w [rowS mm ms] wr) (fun kk _ _ => (intOf kk).toNat)
      case atStart => exact ⟨98 + q, [LF], by omega, rfl, Lib.hid (by simp; omega), Lib.hid (fun s h => by rw [List.mem_singleton.1 h]; exact hLF), D14.mono (by omega)⟩
      case round =>
        clear D14 hLF
        obtain ⟨k, ms, hk, rfl, HLN, HSM, D⟩ := hrel
        by_cases hk0 : 0 < k
        · have i1 : (0 : Int) < (k : Int) := by omega
          obtain ⟨gt, hgt⟩ : ∃ g, wr.heap.size = g := ⟨_, rfl⟩
          have D1 := D.al [.string ⟨#[97, 100, 100]⟩, .string ⟨#[115, 117, 98]⟩] 9
          rw [hgt] at D1
          go_wp2_with fail
          try rw [hgt]
          refine Calls.dr D1 ?_; clear D D1 hgt; intro w1 D1
          refine (text_dr [⟨#[97, 100, 100]⟩, ⟨#[115, 117, 98]⟩] 2 rfl D1 (by omega) (by omega)).mono ?_; rintro e w2 ⟨TX, rfl, hTX, D2⟩
          have hts : TX.size ≤ 20001 := by
            simp only [List.mem_cons, List.not_mem_nil, or_false] at hTX
            rcases hTX with rfl | rfl <;> decide
          clear D1 hTX
          obtain ⟨u, tw, hs, hK⟩ := D2
          have hln : ms.length ≤ 10000000 := by have := HLN.out; omega
          go_wp2_with (at_builtin; refine kn_pushS rfl _ _ rfl _ ms rfl rfl ((hK.front 1 rfl).al [.string TX] 9) hln ?_; intro v9 w9 K9)
          go_roundw
          case rel => exact ⟨k - 1, ms ++ [TX], by omega, by go_num, Lib.hid (by have := HLN.out; simp; omega), Lib.hid (size_snoc HSM.out hts), DR.mono (N := N + 760 - 3 * k + 2) ⟨u, tw, hs, K9.sel [0] 99 (by decide) (by decide)⟩ (by omega)⟩
          case measure => simp [intOf]; omega
        · have i1 : ¬ (0 : Int) < (k : Int) := by omega
          obtain ⟨u, tw, hs, hK⟩ := D
          have hln : ms.length ≤ 10000000 := by have := HLN.out; omega
          go_wp2_with (at_builtin; refine kn_pushS rfl _ _ rfl _ ms rfl rfl (hK.al [.string ⟨#[101, 110, 100]⟩] 9) hln ?_; intro v9 w9 K9)
          obtain ⟨Z, z, rfl⟩ := row_form K9.at0
          go_ret
          exact ⟨Z, z, ms ++ [⟨#[101, 110, 100]⟩], rfl, by have := HLN.out; simp; omega, size_snoc HSM.out (by decide), DR.mono (N := N + 760 - 3 * k) ⟨u, tw, hs, K9⟩ (by omega)⟩
/-- a drawn session of the call's own -/
def OSes (w : World) (e : Ending) (w' : World) : Prop := ∃ X x, ∃ ss : List ByteArray, e = .returned (.slice X ss.length x) ∧ ss.length ≤ 300 ∧ (∀ s ∈ ss, s.size ≤ 20001) ∧ Kn w [rowS (.slice X ss.length x) ss] w'
set_option maxRecDepth 100000 in
set_option maxHeartbeats 3200000 in
theorem DrawShownSession_any (A : Option Addr) (n c : Nat) (bs : List UInt8) (w : World) (hb : RB w A n bs) (hn : n ≤ 9223372036854775807) :
    Calls Tryz.prog 7 #[.slice A n c] w (OSes w) := by
  unfold OSes
  have K1 := Lib.hid (l00From_any A n c bs w hb hn)
  clear hb
  go_enter Tryz.func7, Tryz.ntmps7
  go_wp2_with fail
  refine K1.out.mono ?_; rintro e w1 ⟨rfl, hs, hb1⟩
  have D1 := DR.nil hs
  clear hs
  go_wp2_with fail
  refine (one_dr _ _ 10 w1 D1.src (by omega)).mono ?_; rintro e w2 ⟨z, rfl, h2⟩
  have D2 := D1.add h2
  clear D1 h2
  rcases z with _ | _
  · have KB := Lib.hid (l24Bent_dr _ _ w2 D2.src (by omega))
    unfold DSes2 at KB
    go_wp2_with fail
    refine KB.out.mono ?_; rintro e w3 ⟨X, x, ss, rfl, hl, hsz, h3⟩
    have K3 : Kn w [rowS (.slice X ss.length x) ss] w3 := (Kn.ofDR hb1 (Nat.le_refl _) (D2.add h3)).sel [0] 99 (by decide) (by decide)
    go_wp2_with fail
    go_ret
    exact ⟨X, x, ss, rfl, hl, hsz, K3⟩
  · obtain ⟨gm, hgm⟩ : ∃ g, w2.heap.size = g := ⟨_, rfl⟩
    have D3 := D2.al [.string ⟨#[115, 116, 97, 114, 116, 32, 49, 48, 58, 49, 32, 49, 48, 58, 48, 48, 32, 49, 48, 58, 48, 32, 48]⟩] 9
    rw [hgm] at D3
    go_wp2_with fail
    try rw [hgm]
    refine Calls.dr D3 ?_; clear D2 D3 hgm; intro w3 D3
    refine (pick_dr _ _ 2 w3 D3.src (by omega)).mono ?_; rintro e w4 ⟨x, rfl, hx, h4⟩
    obtain ⟨q, rfl, hq⟩ := pickN (by omega) hx
    have K4 : Kn w [rowS (.slice (some ⟨gm, 0, none⟩) 1 1) [⟨#[115, 116, 97, 114, 116, 32, 49, 48, 58, 49, 32, 49, 48, 58, 48, 48, 32, 49, 48, 58, 48, 32, 48]⟩]] w4 := (((Kn.ofDR hb1 (Nat.le_refl _) (D3.add h4)).sel [0] 99 (by decide) (by decide)).front 0 rfl).litRow (size := 1) (n := 1) rfl (by decide)
    clear D3 h4 hx
    have hw1 : IntKind.i64.wrap (49 + (q : Int)) = ((49 + q : Nat) : Int) := by rw [wrapI64 (by omega)]; omega
    go_wp2_with fail
    go_loopw [5, 4] (fun kk mm wr => ∃ (k : Nat) (ms : List ByteArray), k ≤ 50 ∧ kk = .int .i64 (k : Int) ∧ Hid (ms.length + k ≤ 51) ∧ Hid (∀ s ∈ ms, s.size ≤ 20001) ∧ Kn w [rowS mm ms] wr) (fun kk _ _ => (intOf kk).toNat)
    case atStart => exact ⟨49 + q, _, by omega, rfl, Lib.hid (by simp; omega), Lib.hid (fun s h => by rw [List.mem_singleton.1 h]; decide), K4⟩
    case round =>
      clear K4
      obtain ⟨k, ms, hk, rfl, HLN, HSM, hK⟩ := hrel
      have hln : ms.length ≤ 10000000 := by have := HLN.out; omega
      by_cases hk0 : 0 < k
      · have i1 : (0 : Int) < (k : Int) := by omega
        go_wp2_with (at_builtin; refine kn_pushS rfl _ _ rfl _ ms rfl rfl (hK.al [.string ⟨#[97, 100, 100]⟩] 9) hln ?_; intro v9 w9 K9)
        go_roundw
        case rel => exact ⟨k - 1, ms ++ [⟨#[97, 100, 100]⟩], by omega, by go_num, Lib.hid (by have := HLN.out; simp; omega), Lib.hid (size_snoc HSM.out (by decide)), K9⟩
        case measure => simp [intOf]; omega
      · have i1 : ¬ (0 : Int) < (k : Int) := by omega
        go_wp2_with (at_builtin; refine kn_pushS rfl _ _ rfl _ ms rfl rfl (hK.al [.string ⟨#[101, 110, 100]⟩] 9) hln ?_; intro v9 w9 K9)
        obtain ⟨Z, z, rfl⟩ := row_form K9.at0
        go_ret
        exact ⟨Z, z, ms ++ [⟨#[101, 110, 100]⟩], rfl, by have := HLN.out; simp; omega, size_snoc HSM.out (by decide), K9⟩
end Go.Proofs.YtmmiahgmdllgdaaGreatDoor

namespace Go.Proofs.YtmmiahgmdllgdaaGreatDoor
open Go.RowKit Go.Sort
theorem isShow_str (s : ByteArray) : isShow (strB s) = (decide (5 ≤ s.size) && decide ((s.extract 0 5).toList = [115, 104, 111, 119, 32])) := by
  unfold isShow
  rw [strB_len, strB_toList, strB_extract, List.drop_zero]
  exact congrArg (decide (5 ≤ s.size) && ·) (decide_eq_decide.2 Iff.rfl)
theorem show_app : ((⟨#[115, 104, 111, 119]⟩ : ByteArray) ++ (⟨#[32]⟩ : ByteArray)).toList = [115, 104, 111, 119, 32] := by
  rw [strB_toList]
  unfold strB
  simp
theorem l24Is_show (s : ByteArray) (w : World) (hs : s.size ≤ 9223372036854775807) :
    Calls Tryz.prog 135 #[.string s, .string ⟨#[115, 104, 111, 119]⟩] w fun e w' => e = .returned (.bool (isShow (strB s))) ∧ w = w' := by
  have HI := Lib.hid (isShow_str s)
  obtain ⟨R, hR⟩ : ∃ R, isShow (strB s) = R := ⟨_, rfl⟩
  rw [hR] at HI ⊢
  clear hR
  by_cases h5 : 5 ≤ s.size
  · have i5 : (5 : Int) ≤ (s.size : Int) := by omega
    rcases hq : ((s.extract 0 5).toList == ((⟨#[115, 104, 111, 119]⟩ : ByteArray) ++ (⟨#[32]⟩ : ByteArray)).toList) with _ | _
    · have HQ : Hid (R = false) := by
        simp only [Hid]
        rw [HI.out, decide_eq_true h5, decide_eq_false (by rw [show_app, beq_eq_false_iff_ne] at hq; exact hq)]; rfl
      go_enter Tryz.func135, Tryz.ntmps135
      go_wp2_with fail
      go_ret
      exact ⟨ret_bool HQ.out.symm, rfl⟩
    · have HQ : Hid (R = true) := by
        simp only [Hid]
        rw [HI.out, decide_eq_true h5, decide_eq_true (by rw [show_app, beq_iff_eq] at hq; exact hq)]; rfl
      go_enter Tryz.func135, Tryz.ntmps135
      go_wp2_with fail
      go_ret
      exact ⟨ret_bool HQ.out.symm, rfl⟩
  · have i5 : ¬ (5 : Int) ≤ (s.size : Int) := by omega
    have HQ : Hid (R = false) := by
      simp only [Hid]
      rw [HI.out, decide_eq_false h5]; rfl
    go_enter Tryz.func135, Tryz.ntmps135
    go_wp2_with fail
    go_ret
    exact ⟨ret_bool HQ.out.symm, rfl⟩
theorem filter_take_succ {α : Type} (p : α → Bool) (l : List α) {k : Nat} (h : k < l.length) : (l.take (k + 1)).filter p = (l.take k).filter p ++ (if p l[k] then [l[k]] else []) := by
  rw [List.take_succ_eq_append_getElem h, List.filter_append, List.filter_cons, List.filter_nil]
set_option maxHeartbeats 1600000 in
theorem l24Plain_any (A : Option Addr) (n c : Nat) (ss : List ByteArray) (w : World) (hr : RL StrM 1 w A n ss) (hn : n ≤ 1000000) (hsz : ∀ s ∈ ss, s.size ≤ 1048576) :
    Calls Tryz.prog 72 #[.slice A n c] w fun e w' => ∃ X x, e = .returned (.slice X (ss.filter notShow).length x) ∧ Kn w [rowS (.slice X (ss.filter notShow).length x) (ss.filter notShow)] w' := by
  have HL := Lib.hid hr.1
  have HR := Lib.hid (fun W (hW : Below w.heap.size w W) => hr.below steady_StrM hW)
  have HZ := Lib.hid hsz
  have hK0 := ((Kn.nil w).al [] 9).litRow (n := 0) (size := 1) rfl (by decide)
  clear hr hsz
  go_enter Tryz.func72, Tryz.ntmps72
  go_wp2_with fail
  go_loopw [3, 4] (fun v i wr => ∃ (k : Nat) (X : Option Addr) (x : Nat), k ≤ n ∧ i = .int .i64 k ∧ v = .slice X ((ss.take k).filter notShow).length x ∧ Kn w [rowS (.slice X ((ss.take k).filter notShow).length x) ((ss.take k).filter notShow)] wr) (fun _ i _ => n - (intOf i).toNat)
  case atStart => exact ⟨0, _, _, Nat.zero_le _, rfl, rfl, hK0⟩
  case round =>
    clear hK0
    obtain ⟨k, X, x, hk, rfl, rfl, hK⟩ := hrel
    have hln : ((ss.take k).filter notShow).length ≤ 1000000 := by
      have := List.length_filter_le notShow (ss.take k)
      rw [List.length_take] at this
      omega
    by_cases hkn : k < n
    · obtain ⟨ad, hA, hlt, hkl, hx⟩ := (HR.out wr hK.below).at_ hkn
      have hx0 : wr.cell? (ad.add k) = some (.string ss[k]) := by have h : wr.cell? (ad.add (k * 1)) = some (.string ss[k]) := hx; rw [Nat.mul_one] at h; exact h
      have hsk := HZ.out _ (List.getElem_mem hkl)
      have hft := filter_take_succ notShow ss hkl
      obtain ⟨z, hz⟩ : ∃ z, ss[k] = z := ⟨_, rfl⟩
      rw [hz] at hx0 hsk hft
      obtain ⟨O, hO⟩ : ∃ O, (ss.take k).filter notShow = O := ⟨_, rfl⟩
      rw [hO] at hK hft hln ⊢
      have HFT := Lib.hid hft
      have KI := (fun W => l24Is_show z W (by omega))
      have hns : notShow z = !isShow (strB z) := rfl
      obtain ⟨b, hb⟩ : ∃ b, isShow (strB z) = b := ⟨_, rfl⟩
      rw [hb] at KI hns
      replace KI := Lib.hid KI
      have HNS := Lib.hid hns
      have hi0 : (0 : Int) ≤ (k : Int) := by omega
      have hi1 : (k : Int) < (n : Int) := by omega
      subst hA
      clear hx hz hft hO hb hns
      rcases b with _ | _
      · have hA : Kn w [.blk wr.heap.size [.string z] 9, rowS (.slice X O.length x) O] _ := hK.al [.string z] 9
        have HO := Lib.hid (show (ss.take (k + 1)).filter notShow = O ++ [z] by rw [HFT.out, HNS.out]; rfl)
        go_wp2_with (first | (go_at_call 135; refine (KI.out _).mono ?_; rintro e w2 ⟨rfl, rfl⟩) | (at_builtin; refine kn_pushS rfl _ _ rfl (.slice X O.length x) O rfl rfl hA (by omega) ?_; intro v3 w3 hK3))
        obtain ⟨X3, x3, rfl⟩ := row_form hK3.at0
        go_roundw
        case rel =>
          refine ⟨k + 1, X3, x3, by omega, by go_num, ?_, ?_⟩
          · rw [HO.out]
          · rw [HO.out]; exact hK3
        case measure => simp [intOf]; omega
      · have HO := Lib.hid (show (ss.take (k + 1)).filter notShow = O by rw [HFT.out, HNS.out]; simp)
        go_wp2_with (go_at_call 135; refine (KI.out _).mono ?_; rintro e w2 ⟨rfl, rfl⟩)
        go_roundw
        case rel =>
          refine ⟨k + 1, X, x, by omega, by go_num, ?_, ?_⟩
          · rw [HO.out]
          · rw [HO.out]; exact hK
        case measure => simp [intOf]; omega
    · have HT := Lib.hid (show ss.take k = ss by rw [List.take_of_length_le]; have := HL.out; omega)
      have hi1 : ¬ (k : Int) < (n : Int) := by omega
      go_wp2_with fail
      go_ret
      rw [HT.out] at hK
      exact ⟨X, x, by rw [HT.out]; rfl, hK⟩
end Go.Proofs.YtmmiahgmdllgdaaGreatDoor

namespace Go.Proofs.YtmmiahgmdllgdaaGreatDoor
open Go.RowKit Go.Sort
theorem rowT_ne (X : Option Addr) (x : Nat) (L : List ByteArray) (A : Option Addr) (c : Nat) (ds : List Int) : rowT X x L ≠ rowI A c ds := by
  intro h
  unfold rowT rowSN rowI at h
  injection h with h1 h2
  revert h2
  decide
theorem SesI.pull {e : Ent} {w0 w : World} {g : Nat} {s : SS} (h : SesI [e] w0 g s w) (he : ∀ A c ds, e ≠ rowI A c ds) : ∃ U1 u1 U2 u2 U3 u3 A1 c1 A2 c2 A3 c3 SA sc BA bc m, Kn w0 (e :: .blk g [.int .i64 s.start.a.base, .slice U1 s.start.a.digits.length u1, .int .i64 s.start.b.base, .slice U2 s.start.b.digits.length u2, .int .i64 s.start.s.base, .slice U3 s.start.s.digits.length u3, .int .i64 s.start.carry, .int .i64 s.m.a.base, .slice A1 s.m.a.digits.length c1, .int .i64 s.m.b.base, .slice A2 s.m.b.digits.length c2, .int .i64 s.m.s.base, .slice A3 s.m.s.digits.length c3, .int .i64 s.m.carry, .slice SA s.str.length sc, .slice BA s.bel.length bc, .bool s.ended] 86 :: rowI SA sc s.str :: rowI BA bc s.bel :: m) w ∧ Own3 m U1 u1 U2 u2 U3 u3 s.start ∧ Own3 m A1 c1 A2 c2 A3 c3 s.m := by
  obtain ⟨U1, u1, U2, u2, U3, u3, A1, c1, A2, c2, A3, c3, SA, sc, BA, bc, m, hK, ⟨hu, hF⟩, hm⟩ := h
  obtain ⟨l1, l2, rfl⟩ := List.append_of_mem (hF e (List.mem_cons_self ..))
  have hsub : ∀ A c ds, rowI A c ds ∈ l1 ++ e :: l2 → rowI A c ds ∈ l1 ++ l2 := fun A c ds hx => by
    rcases List.mem_append.1 hx with hx | hx
    · exact List.mem_append_left _ hx
    · rcases List.mem_cons.1 hx with hx | hx
      · exact absurd hx.symm (he A c ds)
      · exact List.mem_append_right _ hx
  exact ⟨U1, u1, U2, u2, U3, u3, A1, c1, A2, c2, A3, c3, SA, sc, BA, bc, l1 ++ l2, hK.perm (List.perm_middle (a := e) (l₁ := .blk g [.int .i64 s.start.a.base, .slice U1 s.start.a.digits.length u1, .int .i64 s.start.b.base, .slice U2 s.start.b.digits.length u2, .int .i64 s.start.s.base, .slice U3 s.start.s.digits.length u3, .int .i64 s.start.carry, .int .i64 s.m.a.base, .slice A1 s.m.a.digits.length c1, .int .i64 s.m.b.base, .slice A2 s.m.b.digits.length c2, .int .i64 s.m.s.base, .slice A3 s.m.s.digits.length c3, .int .i64 s.m.carry, .slice SA s.str.length sc, .slice BA s.bel.length bc, .bool s.ended] 86 :: rowI SA sc s.str :: rowI BA bc s.bel :: l1) (l₂ := l2)),
    ⟨hsub _ _ _ hu.1, hsub _ _ _ hu.2.1, hsub _ _ _ hu.2.2⟩, ⟨hsub _ _ _ hm.1, hsub _ _ _ hm.2.1, hsub _ _ _ hm.2.2⟩⟩
theorem SesI.push {e : Ent} {w0 w : World} {g : Nat} {s : SS} {U1 U2 U3 A1 A2 A3 SA BA : Option Addr} {u1 u2 u3 c1 c2 c3 sc bc : Nat} {m : List Ent} (hK : Kn w0 (e :: .blk g [.int .i64 s.start.a.base, .slice U1 s.start.a.digits.length u1, .int .i64 s.start.b.base, .slice U2 s.start.b.digits.length u2, .int .i64 s.start.s.base, .slice U3 s.start.s.digits.length u3, .int .i64 s.start.carry, .int .i64 s.m.a.base, .slice A1 s.m.a.digits.length c1, .int .i64 s.m.b.base, .slice A2 s.m.b.digits.length c2, .int .i64 s.m.s.base, .slice A3 s.m.s.digits.length c3, .int .i64 s.m.carry, .slice SA s.str.length sc, .slice BA s.bel.length bc, .bool s.ended] 86 :: rowI SA sc s.str :: rowI BA bc s.bel :: m) w) (hu : Own3 m U1 u1 U2 u2 U3 u3 s.start) (hm : Own3 m A1 c1 A2 c2 A3 c3 s.m) : SesI [e] w0 g s w :=
  ⟨U1, u1, U2, u2, U3, u3, A1, c1, A2, c2, A3, c3, SA, sc, BA, bc, e :: m, hK.sel [1, 2, 3, 0] 4 (by decide) (by decide), ⟨hu.mono (fun x h => List.mem_cons_of_mem _ h), fun x h => by simp at h; simp [h]⟩, hm.mono (fun x h => List.mem_cons_of_mem _ h)⟩
/-- the shown session, so far -/
def ShSt (ss : List ByteArray) (t0 : Tri) (k : Nat) (O : List ByteArray) (s : SS) : Prop :=
  (k = 0 ∧ O = [] ∧ s.m = t0) ∨ (1 ≤ k ∧ k < ss.length ∧ O ++ restL s.m (ss.drop k) = shL ss ∧ OkEnd s.m (ss.drop k)) ∨ (k = ss.length ∧ O = shL ss)
theorem sh_first {ss : List ByteArray} {t : Tri} {L : ByteArray} {tl : List ByteArray} {s : SS} (h1 : ss = L :: tl) (h2 : OkEnd t tl) (h3 : shL ss = L :: restL t tl) (hm : s.m = t) : ShSt ss t 1 ([] ++ [L]) s := by
  refine .inr (.inl ⟨Nat.le_refl _, ?_, ?_, ?_⟩)
  · rw [h1]
    have := h2.ne
    cases tl with
    | nil => exact absurd rfl this
    | cons a b => simp
  · rw [h3, hm, h1]; rfl
  · rw [hm, h1]; exact h2
theorem sh_last {ss : List ByteArray} {t : Tri} {k : Nat} {O : List ByteArray} {s : SS} {z : ByteArray} (h1 : k < ss.length) (h2 : O ++ restL s.m (ss.drop k) = shL ss) (h3 : OkEnd s.m (ss.drop k)) (hd : ss.drop k = [z]) : z = endW ∧ k + 1 = ss.length ∧ ShSt ss t (k + 1) (O ++ [z]) s := by
  rw [hd] at h2 h3
  have hk : k + 1 = ss.length := by
    have := congrArg List.length hd
    rw [List.length_drop] at this
    simp at this; omega
  refine ⟨h3.last, hk, .inr (.inr ⟨hk, ?_⟩)⟩
  rw [← h2]; unfold restL; simp
theorem sh_skip {ss : List ByteArray} {t : Tri} {k : Nat} {O : List ByteArray} {s : SS} {z : ByteArray} {r : List ByteArray} (h2 : O ++ restL s.m (ss.drop k) = shL ss) (h3 : OkEnd s.m (ss.drop k)) (hd : ss.drop k = z :: r) (hr : r ≠ []) (hk : k + 1 < ss.length) (hrr : ss.drop (k + 1) = r) (hb : begins showB (strB z) = true) : ShSt ss t (k + 1) O s := by
  rw [hd] at h2 h3
  obtain ⟨e1, e2, e3⟩ := h3.cons hr
  rw [show_step hb e1] at e3
  refine .inr (.inl ⟨by omega, hk, ?_, by rw [hrr]; exact e3⟩)
  rw [hrr, ← h2]
  conv => rhs; unfold restL
  rw [if_neg hr, if_pos hb]
theorem sh_step {ss : List ByteArray} {t : Tri} {k : Nat} {O : List ByteArray} {s : SS} {z : ByteArray} {r : List ByteArray} (h2 : O ++ restL s.m (ss.drop k) = shL ss) (h3 : OkEnd s.m (ss.drop k)) (hd : ss.drop k = z :: r) (hr : r ≠ []) (hk : k + 1 < ss.length) (hrr : ss.drop (k + 1) = r) (hb : begins showB (strB z) = false) :
    strB z ≠ endB ∧ ∀ s' : SS, s'.m = (stepM s.m (strB z)).1 → ShSt ss t (k + 1) ((O ++ [z]) ++ [showT s'.m]) s' := by
  rw [hd] at h2 h3
  obtain ⟨e1, e2, e3⟩ := h3.cons hr
  refine ⟨e2, fun s' hs => .inr (.inl ⟨by omega, hk, ?_, by rw [hrr, hs]; exact e3⟩)⟩
  rw [hrr, ← h2, hs]
  conv => rhs; unfold restL
  rw [if_neg hr, hb, if_neg (by decide)]
  simp
set_option maxRecDepth 100000 in
set_option maxHeartbeats 6400000 in
theorem ShownSession_any (A : Option Addr) (n c : Nat) (ss : List ByteArray) (w : World) (hr : RL StrM 1 w A n ss) (hsz : ∀ s ∈ ss, s.size ≤ 1048576) (ht : TB w) :
    Calls Tryz.prog 16 #[.slice A n c] w (SCRet (shR ss) (shC ss) w) := by
  have KW := (wholeSession_any A n c ss w hr hsz ht)
  unfold WholeI at KW
  have hl := hr.1
  have HTB := Lib.hid (fun W (hW : Below w.heap.size w W) => TB.below ht hW)
  have HR := Lib.hid (fun W (hW : Below w.heap.size w W) => hr.below steady_StrM hW)
  have HZ := Lib.hid hsz
  have HT := Lib.hid ht
  clear hr hsz ht
  by_cases hC : wholeC (ss.map strB) = 0
  rotate_left
  · have e1 : shC ss = wholeC (ss.map strB) := by unfold shC; rw [if_neg hC]
    have e2 : shR ss = [] := by unfold shR; rw [e1, if_neg hC]
    rw [e1, e2]
    obtain ⟨C, hCC⟩ : ∃ C, wholeC (ss.map strB) = C := ⟨_, rfl⟩
    rw [hCC] at KW hC ⊢
    replace KW := Lib.hid KW
    have HC := Lib.hid hC
    clear e1 e2 hCC
    go_enter Tryz.func16, Tryz.ntmps16
    go_wp2_with fail
    refine KW.out.mono ?_; rintro e w1 (⟨h0, -⟩ | ⟨-, rfl, hw⟩)
    · exact absurd h0 HC.out
    have hcb : (C == 0) = false := by simpa using hC
    clear hC
    go_wp2_with fail
    go_ret2
    exact SCRet.none hw
  · obtain ⟨h100, L, tl, hss, hst, hvt, hok, hstart⟩ := whole_lines hC
    rw [hC] at KW
    have e1 : shC ss = if (shL ss).length > 100 then 5 else 0 := by unfold shC; rw [if_pos hC]
    have e2 : shR ss = if (shL ss).length > 100 then [] else shL ss := by
      unfold shR; rw [e1]
      by_cases h : (shL ss).length > 100
      · rw [if_pos h, if_neg (by decide), if_pos h]
      · rw [if_neg h, if_pos rfl, if_neg h]
    rw [e1, e2]
    obtain ⟨t, htt⟩ : ∃ t, rdMach ((strB L).drop 6) = t := ⟨_, rfl⟩
    have hsL : shL ss = L :: restL t tl := by rw [hss, ← htt]; rfl
    rw [htt] at hvt hok hstart
    have hrl := restL_len tl t
    have htl : tl.length + 1 = ss.length := by rw [hss]; rfl
    obtain ⟨s0, hs0⟩ : ∃ s, (runS (ss.map strB)).1 = s := ⟨_, rfl⟩
    rw [hs0] at KW hstart
    replace KW := Lib.hid KW
    have HSL := Lib.hid hsL
    have HOK := Lib.hid hok
    have HSS := Lib.hid hss
    have HST := Lib.hid (start_not_show hst).1
    have hshl : (shL ss).length ≤ 301 := by rw [hsL, List.length_cons]; omega
    have hne := hok.ne
    have hn2 : 2 ≤ n := by
      rw [← hl, hss]
      cases tl with
      | nil => exact absurd rfl hne
      | cons a b => simp
    obtain ⟨SH, hSH⟩ : ∃ l, shL ss = l := ⟨_, rfl⟩
    rw [hSH] at hshl ⊢
    obtain ⟨RS, hRS⟩ : ∃ x : List ByteArray, (if SH.length > 100 then [] else SH) = x := ⟨_, rfl⟩
    obtain ⟨RC, hRC⟩ : ∃ x : Int, (if SH.length > 100 then 5 else 0) = x := ⟨_, rfl⟩
    rw [hRS, hRC]
    have HRS := Lib.hid hRS
    have HRC := Lib.hid hRC
    clear hRS hRC
    have HSH := Lib.hid hSH
    have HL := Lib.hid hl
    clear hC e1 e2 hs0 hst hss hsL hok htl hrl hne htt hSH hl
    go_enter Tryz.func16, Tryz.ntmps16
    go_wp2_with fail
    refine KW.out.mono ?_; rintro e w1 (⟨-, g, rfl, hS⟩ | ⟨h0, -⟩)
    rotate_left
    · exact absurd rfl h0
    obtain ⟨U1, u1, U2, u2, U3, u3, A1, c1, A2, c2, A3, c3, SA, sc, BA, bc, m, hK, ⟨hu, -⟩, -⟩ := hS
    rw [hstart] at hK hu
    clear hstart
    obtain ⟨a1, a2, a3⟩ := hK.blkAt
    have HG := Lib.hid (box7' hK.drew)
    have hKa := hK.al [.int .i64 t.a.base, .slice U1 t.a.digits.length u1, .int .i64 t.b.base, .slice U2 t.b.digits.length u2, .int .i64 t.s.base, .slice U3 t.s.digits.length u3, .int .i64 t.carry, .int .i64 t.a.base, .slice U1 t.a.digits.length u1, .int .i64 t.b.base, .slice U2 t.b.digits.length u2, .int .i64 t.s.base, .slice U3 t.s.digits.length u3, .int .i64 t.carry, .slice none 0 0, .slice none 0 0, .bool false] 86
    have HA := Lib.hid (box7' (hKa.front 1 rfl).drew)
    go_upto_region 4 with fail
    go_region_held3 (fun W => W.cell? ⟨g, 0, none⟩ = some (.int .i64 t.a.base) ∧ W.cell? ⟨g, 1, none⟩ = some (.slice U1 t.a.digits.length u1) ∧ W.cell? ⟨g, 2, none⟩ = some (.int .i64 t.b.base) ∧ W.cell? ⟨g, 3, none⟩ = some (.slice U2 t.b.digits.length u2) ∧ W.cell? ⟨g, 4, none⟩ = some (.int .i64 t.s.base) ∧ W.cell? ⟨g, 5, none⟩ = some (.slice U3 t.s.digits.length u3) ∧ W.cell? ⟨g, 6, none⟩ = some (.int .i64 t.carry))
      (first | with_reducible exact HG.out | with_reducible exact HA.out) (fail)
    all_goals
      go_upto_region 6 with fail
      have hKb := (hKa.al [] 9).drew
      simp only [World.size_alloc] at hKb
      refine Code.wp.kn hKb ?_; intro w3 hK3
      obtain ⟨g2, hg2⟩ : ∃ g, w1.heap.size = g := ⟨_, rfl⟩
      rw [hg2] at hK3 ⊢
      have hK4 := ((hK3.litRow (n := 0) (size := 1) rfl (by decide)).nilRow 2 1).nilRow 2 1
      have hS2 : SesI [rowT (some ⟨g2 + 1, 0, none⟩) 0 []] w g2 ⟨t, t, [], [], false⟩ w3 := SesI.push (s := ⟨t, t, [], [], false⟩) (SA := none) (sc := 0) (BA := none) (bc := 0) (hK4.sel [2, 3, 0, 1] 4 (by decide) (by decide)) (hu.mono (fun e h => by simp [h])) (hu.mono (fun e h => by simp [h]))
      clear HG HA hKa hKb hK hK3 hK4 a1 a2 a3 hg2
      go_wp2_with fail
      go_loopw [33, 7, 8, 9, 10, 11] (fun ii v _ _ _ _ wr => ∃ (k : Nat) (O : List ByteArray) (X : Option Addr) (x : Nat) (s : SS), k ≤ n ∧ ii = .int .i64 k ∧ v = .slice X O.length x ∧ SesI [rowT X x O] w g2 s wr ∧ s.Good k ∧ s.ended = false ∧ O.length ≤ 2 * k ∧ ShSt ss t k O s) (fun ii _ _ _ _ _ _ => n - (intOf ii).toNat)
      case atStart => exact ⟨0, [], _, _, _, Nat.zero_le _, rfl, rfl, hS2, ⟨hvt, hvt, by simp, by simp⟩, rfl, by simp, .inl ⟨rfl, rfl, rfl⟩⟩
      case round =>
        clear hS2 hvt hu
        obtain ⟨k, O, X, x, s, hk, rfl, rfl, hS, hg, hen, hOl, hSt⟩ := hrel
        have hb := hS.below
        have hO10 : O.length ≤ 10000000 := by have := HL.out; omega
        by_cases hkn : k < n
        · obtain ⟨ad, hA, hlt, hkl, hx⟩ := (HR.out wr hb).at_ hkn
          have hx0 : wr.cell? (ad.add k) = some (.string ss[k]) := by have h : wr.cell? (ad.add (k * 1)) = some (.string ss[k]) := hx; rw [Nat.mul_one] at h; exact h
          have hzz := HZ.out _ (List.getElem_mem hkl)
          have hdr : ss.drop k = ss[k] :: ss.drop (k + 1) := List.drop_eq_getElem_cons hkl
          have hdn : k + 1 < ss.length ↔ ss.drop (k + 1) ≠ [] := by
            rw [ne_eq, List.drop_eq_nil_iff]; omega
          obtain ⟨z, hz⟩ : ∃ z, ss[k] = z := ⟨_, rfl⟩
          have HZ0 := Lib.hid hz
          rw [hz] at hx0 hzz hdr
          obtain ⟨r, hrr⟩ : ∃ r, ss.drop (k + 1) = r := ⟨_, rfl⟩
          rw [hrr] at hdr hdn
          have HRR := Lib.hid hrr
          have hi0 : (0 : Int) ≤ (k : Int) := by omega
          have hi1 : (k : Int) < (n : Int) := by omega
          subst hA
          clear hx hz hrr
          have hll := HL.out
          obtain ⟨U1, u1, U2, u2, U3, u3, A1, c1, A2, c2, A3, c3, SA, sc, BA, bc, m, hK, hu, hm⟩ := hS.pull (rowT_ne X x O)
          have hA : Kn w (.blk wr.heap.size [.string z] 9 :: rowS (.slice X O.length x) O :: _) _ := hK.al [.string z] 9
          rcases hSt with ⟨rfl, rfl, hmt⟩ | ⟨k1, k2, hsh, hoe⟩ | ⟨hke, -⟩
          · have hzL : z = L := by
              have h1 := HZ0.out
              have h2 := HSS.out
              subst h2
              exact h1.symm
            have HB := showNo hzz (by rw [hzL]; exact HST.out)
            have hx1 : wr.cell? ad = some (.string z) := by rw [show ad.add 0 = ad from by cases ad; simp [Addr.add]] at hx0; exact hx0
            have HNX := Lib.hid (show ShSt ss t 1 ([] ++ [z]) s by rw [hzL]; exact sh_first HSS.out HOK.out HSL.out hmt)
            clear hmt hzL
            go_wp2_with (first | (go_at_call 69; refine (HB.out _).mono ?_; rintro e w2 ⟨rfl, rfl⟩) | (at_builtin; refine kn_pushS rfl _ _ rfl (.slice X ([] : List ByteArray).length x) [] rfl rfl hA (by decide) ?_; intro v5 w5 hK5))
            obtain ⟨X5, x5, rfl⟩ := row_form hK5.at0
            go_roundw
            case rel => exact ⟨1, [] ++ [z], X5, x5, s, by omega, by go_num, rfl, SesI.push (e := rowT X5 x5 ([] ++ [z])) hK5 hu hm, hg.mono (by omega), hen, by simp, HNX.out⟩
            case measure => simp [intOf]; omega
          · have i0 : ((k : Int) == 0) = false := by rw [beq_eq_false_iff_ne]; omega
            by_cases hr0 : r = []
            · subst hr0
              obtain ⟨hz, hk1, hnx⟩ := sh_last (t := t) k2 hsh hoe hdr
              have i1 : ((k : Int) == (n : Int) - 1) = true := by rw [beq_iff_eq]; omega
              have HB := showNo hzz (by rw [hz]; decide)
              have HNX := Lib.hid hnx
              clear hz hnx hsh hoe hdr
              go_wp2_with (first | (go_at_call 69; refine (HB.out _).mono ?_; rintro e w2 ⟨rfl, rfl⟩) | (at_builtin; refine kn_pushS rfl _ _ rfl (.slice X O.length x) O rfl rfl hA hO10 ?_; intro v5 w5 hK5))
              obtain ⟨X5, x5, rfl⟩ := row_form hK5.at0
              go_roundw
              case rel => exact ⟨k + 1, O ++ [z], X5, x5, s, by omega, by go_num, rfl, SesI.push (e := rowT X5 x5 (O ++ [z])) hK5 hu hm, hg.mono (by omega), hen, by simp; omega, HNX.out⟩
              case measure => simp [intOf]; omega
            · have hk1 := hdn.2 hr0
              have i1 : ((k : Int) == (n : Int) - 1) = false := by rw [beq_eq_false_iff_ne]; omega
              rcases hbz : begins showB (strB z) with _ | _
              · obtain ⟨hz, hnx⟩ := sh_step (t := t) hsh hoe hdr hr0 hk1 HRR.out hbz
                have HB := showNo hzz hbz
                obtain ⟨f1, -, f3, -⟩ := lineS_step (i := (k : Int)) (b := strB z) hen
                have hgn := lineS_good (i := (k : Int)) (bs := strB z) hg
                have HLN := Lib.hid (show ∀ (F : List Ent) (W : World), SesI F w g2 s W → Calls Tryz.prog 70 #[.pointer (some ⟨g2, 0, none⟩), .int .i64 k, .string z] W fun e w' => e = .returned (.int .i64 (lineS s k (strB z)).2) ∧ SesI F w g2 (lineS s k (strB z)).1 w' from fun F W hS => lineI_any s k z W hS hg (by omega) hzz HT.out)
                obtain ⟨⟨s', cd⟩, hls⟩ : ∃ q, lineS s k (strB z) = q := ⟨_, rfl⟩
                rw [hls] at HLN f1 f3 hgn
                have f3' : s'.ended = false := by rw [f3, decide_eq_false hz]
                have HNX := Lib.hid (hnx s' f1)
                have hvt' := hgn.m
                obtain ⟨t', ht'⟩ : ∃ t, s'.m = t := ⟨_, rfl⟩
                have hsm := small_of hvt'
                have HMT := (fun (A1 A2 A3 : Option Addr) (c1 c2 c3 : Nat) W r1 r2 r3 hw => MachineText_any s'.m A1 A2 A3 c1 c2 c3 W r1 r2 r3 hsm hw)
                have hsT : showT s'.m = (⟨#[115, 104, 111, 119, 32]⟩ : ByteArray) ++ mtext s'.m := rfl
                have hTs := mtext_size hvt'
                obtain ⟨T, hT⟩ : ∃ T, mtext s'.m = T := ⟨_, rfl⟩
                rw [hT] at HMT hsT hTs
                rw [hsT] at HNX
                replace HMT := Lib.hid HMT
                obtain ⟨O2, hO2⟩ : ∃ l, O ++ [z] = l := ⟨_, rfl⟩
                rw [hO2] at HNX
                have HO2 := Lib.hid hO2
                have HO2L := Lib.hid (show O2.length = O.length + 1 by rw [← hO2]; simp)
                clear hsh hoe hdr hbz f1 f3 hls hz hnx hT hsT ht' hvt' hsm hO2
                go_wp2_with (first | (go_at_call 69; refine (HB.out _).mono ?_; rintro e w2 ⟨rfl, rfl⟩) | (at_builtin; refine kn_pushS rfl _ _ rfl (.slice X O.length x) O rfl rfl hA hO10 ?_; intro v5 w5 hK5; rw [HO2.out] at hK5; obtain ⟨X5, x5, rfl⟩ := row_form hK5.at0))
                refine (HLN.out [rowT X5 x5 O2] _ (SesI.push (e := rowT X5 x5 O2) hK5 hu hm)).mono ?_; rintro e w6 ⟨rfl, hS6⟩
                clear hK hA hK5 hu hm
                obtain ⟨U1, u1, U2, u2, U3, u3, A1, c1, A2, c2, A3, c3, SA, sc, BA, bc, m, hK6, hu, hm⟩ := hS6.pull (rowT_ne X5 x5 _)
                obtain ⟨a1, a2, a3, -⟩ := hK6.cells
                obtain ⟨r1, r2, r3⟩ := hm.ri hK6 (fun e h => by simp [h])
                go_wp2_with fail
                refine (HMT.out _ _ _ _ _ _ _ r1 r2 r3 (HTB.out _ hK6.below)).mono ?_; rintro e w7 ⟨rfl, hw7⟩
                have hK7 := hK6.keep hw7
                clear a1 a2 a3 r1 r2 r3 hK6
                obtain ⟨z2, hz2⟩ : ∃ q : ByteArray, (⟨#[115, 104, 111, 119, 32]⟩ : ByteArray) ++ T = q := ⟨_, rfl⟩
                rw [hz2] at HNX
                have HZ2 := Lib.hid hz2
                have hA : Kn w (.blk w7.heap.size [.string ((⟨#[115, 104, 111, 119, 32]⟩ : ByteArray) ++ T)] 9 :: rowS (.slice X5 O2.length x5) O2 :: _) _ := hK7.al [.string ((⟨#[115, 104, 111, 119, 32]⟩ : ByteArray) ++ T)] 9
                have hO11 : O2.length ≤ 10000000 := by have := HL.out; have := HO2L.out; omega
                clear hz2
                go_wp2_with (at_builtin; refine kn_pushS rfl _ _ rfl (.slice X5 O2.length x5) O2 rfl rfl hA hO11 ?_; intro v8 w8 hK8)
                obtain ⟨X8, x8, rfl⟩ := row_form hK8.at0
                go_roundw
                case rel =>
                  rw [HZ2.out] at hK8
                  refine ⟨k + 1, O2 ++ [z2], X8, x8, s', by omega, by go_num, ?_, SesI.push (e := rowT X8 x8 (O2 ++ [z2])) hK8 hu hm, hgn, f3', by have := HO2L.out; simp; omega, HNX.out⟩
                  first | rfl | simp
                case measure => simp [intOf]; omega
              · obtain ⟨R, -, -, hRc⟩ := showYes hzz hbz
                have HB := Lib.hid hRc
                have HNX := Lib.hid (sh_skip (t := t) hsh hoe hdr hr0 hk1 HRR.out hbz)
                clear hsh hoe hdr hbz hRc
                go_wp2_with (first | (go_at_call 69; refine (HB.out _).mono ?_; rintro e w2 ⟨rfl, rfl⟩))
                go_roundw
                case rel => exact ⟨k + 1, O, X, x, s, by omega, by go_num, rfl, hS, hg.mono (by omega), hen, by omega, HNX.out⟩
                case measure => simp [intOf]; omega
          · omega
        · have hkk : k = n := by omega
          have hi1 : ¬ (k : Int) < (n : Int) := by omega
          have hOS : O = SH := by
            have hll := HL.out
            rcases hSt with ⟨h, -⟩ | ⟨-, h, -⟩ | ⟨-, h⟩
            · omega
            · omega
            · rw [h, HSH.out]
          obtain ⟨U1, u1, U2, u2, U3, u3, A1, c1, A2, c2, A3, c3, SA, sc, BA, bc, m, hK, -, -⟩ := hS.pull (rowT_ne X x O)
          subst hOS
          clear hS hSt
          by_cases h1 : O.length > 100
          · have h2 : (100 : Int) < (O.length : Int) := by omega
            have h3 := HRS.out
            have h4 := HRC.out
            rw [if_pos h1] at h3 h4
            subst h3
            subst h4
            go_wp2_with fail
            go_ret2
            exact SCRet.none hb
          · have h2 : ¬ (100 : Int) < (O.length : Int) := by omega
            have h3 := HRS.out
            have h4 := HRC.out
            rw [if_neg h1] at h3 h4
            subst h3
            subst h4
            go_wp2_with fail
            go_ret2
            exact ⟨X, x, rfl, hK.only (by simp)⟩
end Go.Proofs.YtmmiahgmdllgdaaGreatDoor

namespace Go.Proofs.YtmmiahgmdllgdaaGreatDoor
open Go.RowKit Go.Sort
theorem kn_step2S {ops : Array Oper} {o : Oper} {a : Act} {Q : Exit → Act → World → Prop} {w0 w : World} {m : List Ent} {K : Act → World → Prop} {E : Prop} (hgd : o.guard = none) (s x : Operand) (ho : o.op = .call { callee := .builtin .append, args := #[s, x], argTypes := #[24, 24] })
    (v : Value) (ss : List ByteArray) (hs : a.eval s = v) {g c : Nat} {T' : TypeId} {y z : ByteArray} (hx : a.eval x = .slice (some ⟨g, 0, none⟩) 2 c)
    (hK : Kn w0 (.blk g [.string y, .string z] T' :: rowS v ss :: m) w) (hl : ss.length ≤ 10000000)
    (h : ∀ v' w', Kn w0 (rowS v' (ss ++ [y, z]) :: m) w' → K (a.put o.dst v') w') : if Region.wanted o (yielded ops a.tmps) = true then Oper.wp Tryz.prog o a w K Q else E := by
  refine kn_step_app tpS hgd s x ho v ss.length (ss.map Value.string) hs hx hK rfl (by simp [Value.oneCell']) (by omega) (by omega) (fun v' w' hK' => h v' w' ?_)
  unfold rowS
  rw [List.length_append, List.map_append, List.map_cons, List.map_cons, List.map_nil]
  exact hK'
theorem RL.pre {α : Type} {E : World → Addr → α → Prop} {sz : Nat} {w : World} {A : Option Addr} {n : Nat} {xs : List α} (h : RL E sz w A n xs) {k : Nat} (hk : k ≤ n) : RL E sz w A k (xs.take k) := by
  refine ⟨by rw [List.length_take]; have := h.1; omega, fun h0 => ?_⟩
  obtain ⟨ad, e, hl, hc⟩ := h.2 (by omega)
  exact ⟨ad, e, hl, fun j hj => by
    have hj' : j < xs.length := by rw [List.length_take] at hj; omega
    rw [List.getElem_take]; exact hc j hj'⟩
theorem foldT_take {t : Tri} {l : List (List UInt8)} {k : Nat} (h : k < l.length) : foldT t (l.take (k + 1)) = (stepM (foldT t (l.take k)) l[k]).1 := by
  unfold foldT
  rw [List.take_succ_eq_append_getElem h, List.foldl_append]; rfl
/-- the lines that do not show, of a whole session -/
theorem plain_parts {ss : List ByteArray} {L : ByteArray} {tl : List ByteArray} {t : Tri} (h1 : ss = L :: tl) (hs : startOk (strB L) = true) (ho : OkEnd t tl) (h3 : shL ss = L :: restL t tl) :
    ∃ pb, ss.filter notShow = L :: (pb ++ [endW]) ∧ AllOk t (pb.map strB) ∧ shL ss = L :: restP t (pb ++ [endW]) := by
  obtain ⟨e1, pb, e2, e3⟩ := rest_plain ho
  refine ⟨pb, ?_, e3, by rw [h3, e1, e2]⟩
  rw [h1, List.filter_cons_of_pos (by unfold notShow; rw [(start_not_show hs).2]; rfl), e2]
theorem Kn.rowCap {w0 w : World} {m : List Ent} {g n c size : Nat} {t : TypeId} {xs : List Value} (h : Kn w0 (.row (.slice (some ⟨g, 0, none⟩) n c) t size n xs :: m) w) : n ≤ c := by
  have h0 : w.ownsRow 0 t size (.slice (some ⟨g, 0, none⟩) n c) n xs := h.at0
  rcases h0.2 with ⟨h1, -⟩ | ⟨g', cap, cur, hv, -, -, hn, -⟩
  · cases h1
  · injection hv with hv hv2 hv3
    omega
theorem plain_run {PL pb : List ByteArray} {L : ByteArray} {t : Tri} {j : Nat} (h1 : PL = L :: (pb ++ [endW])) (hs : startOk (strB L) = true) (ht : rdMach ((strB L).drop 6) = t) (ho : AllOk t (pb.map strB)) (hj : j < pb.length) :
    (runS ((PL.take (j + 2)).map strB)).1.m = foldT t ((pb.take (j + 1)).map strB) := by
  have e1 : PL.take (j + 2) = L :: pb.take (j + 1) := by
    rw [h1, List.take_succ_cons, List.take_append_of_le_length (by omega)]
  rw [e1, List.map_cons, runS_cons, if_pos hs, ht]
  exact goS_fold (s := ⟨t, t, [], [], false⟩) rfl (by rw [List.map_take]; exact AllOk.take (t := t) _ ho)
theorem SesS.textAt {w0 w : World} {g : Nat} {s : SS} (h : SesS w0 g s w) : TriM w ⟨g, 7, none⟩ s.m ∧ g < w.heap.size := by
  obtain ⟨U1, u1, U2, u2, U3, u3, A1, c1, A2, c2, A3, c3, SA, sc, BA, bc, m, h, -⟩ := h
  exact ⟨TriC.tri (w := w) (b := g) (o := 7) (t := s.m) ⟨⟨h.blkAt.1 7, h.blkAt.1 8, h.blkAt.1 9, h.blkAt.1 10, h.blkAt.1 11, h.blkAt.1 12, h.blkAt.1 13⟩, (h.front 3 rfl).riv, (h.front 2 rfl).riv, (h.front 1 rfl).riv⟩, h.blkAt.2.2⟩
theorem SesS.keep {w0 w w' : World} {g : Nat} {s : SS} (h : SesS w0 g s w) (hb : Below w.heap.size w w') : SesS w0 g s w' := by
  obtain ⟨U1, u1, U2, u2, U3, u3, A1, c1, A2, c2, A3, c3, SA, sc, BA, bc, m, h, hu⟩ := h
  exact ⟨U1, u1, U2, u2, U3, u3, A1, c1, A2, c2, A3, c3, SA, sc, BA, bc, m, h.keep hb, hu⟩
theorem restP_step {t : Tri} {pb : List ByteArray} {j : Nat} (hj : j < pb.length) : restP (foldT t ((pb.take j).map strB)) ((pb ++ [endW]).drop j) = pb[j] :: showT (foldT t ((pb.take (j + 1)).map strB)) :: restP (foldT t ((pb.take (j + 1)).map strB)) ((pb ++ [endW]).drop (j + 1)) := by
  have hd : (pb ++ [endW]).drop j = pb[j] :: (pb ++ [endW]).drop (j + 1) := by
    rw [List.drop_eq_getElem_cons (by simp; omega), List.getElem_append_left hj]
  have hne : (pb ++ [endW]).drop (j + 1) ≠ [] := by
    rw [ne_eq, List.drop_eq_nil_iff]; simp; omega
  have hf : foldT t ((pb.take (j + 1)).map strB) = (stepM (foldT t ((pb.take j).map strB)) (strB pb[j])).1 := by
    have := foldT_take (t := t) (l := pb.map strB) (k := j) (by rw [List.length_map]; exact hj)
    rw [List.getElem_map] at this
    rw [List.map_take, List.map_take]; exact this
  rw [hd, hf]
  conv => lhs; unfold restP
  rw [if_neg hne]
theorem restP_end {t : Tri} {pb : List ByteArray} : restP t ((pb ++ [endW]).drop pb.length) = [endW] := by
  rw [List.drop_left]
  unfold restP; rfl
set_option maxRecDepth 100000 in
set_option maxHeartbeats 6400000 in
theorem specShownSession_any (A : Option Addr) (n c : Nat) (ss : List ByteArray) (w : World) (hr : RL StrM 1 w A n ss) (hsz : ∀ s ∈ ss, s.size ≤ 1048576) :
    Calls Tryz.prog 17 #[.slice A n c] w (SCRet (shR ss) (shC ss) w) := by
  have KW := (l24Ask_any A n c ss w hr hsz)
  unfold WholeS at KW
  have hl := hr.1
  have HR := Lib.hid (fun W (hW : Below w.heap.size w W) => hr.below steady_StrM hW)
  have HZ := Lib.hid hsz
  clear hr
  by_cases hC : wholeC (ss.map strB) = 0
  rotate_left
  · have e1 : shC ss = wholeC (ss.map strB) := by unfold shC; rw [if_neg hC]
    have e2 : shR ss = [] := by unfold shR; rw [e1, if_neg hC]
    rw [e1, e2]
    obtain ⟨C, hCC⟩ : ∃ C, wholeC (ss.map strB) = C := ⟨_, rfl⟩
    rw [hCC] at KW hC ⊢
    replace KW := Lib.hid KW
    have HC := Lib.hid hC
    clear e1 e2 hCC hsz
    go_enter Tryz.func17, Tryz.ntmps17
    go_wp2_with fail
    refine KW.out.mono ?_; rintro e w1 (⟨h0, -⟩ | ⟨-, g, rfl, hw⟩)
    · exact absurd h0 HC.out
    have hcb : (C == 0) = false := by simpa using hC
    clear hC
    go_wp2_with fail
    go_ret2
    exact SCRet.none hw
  · obtain ⟨h100, L, tl, hss, hst, hvt, hok, hstart⟩ := whole_lines hC
    rw [hC] at KW
    have e1 : shC ss = if (shL ss).length > 100 then 5 else 0 := by unfold shC; rw [if_pos hC]
    have e2 : shR ss = if (shL ss).length > 100 then [] else shL ss := by
      unfold shR; rw [e1]
      by_cases h : (shL ss).length > 100
      · rw [if_pos h, if_neg (by decide), if_pos h]
      · rw [if_neg h, if_pos rfl, if_neg h]
    rw [e1, e2]
    obtain ⟨t, htt⟩ : ∃ t, rdMach ((strB L).drop 6) = t := ⟨_, rfl⟩
    have hsL : shL ss = L :: restL t tl := by rw [hss, ← htt]; rfl
    have HTT := Lib.hid htt
    rw [htt] at hvt hok
    obtain ⟨pb, hpl, hpo, hps⟩ := plain_parts hss hst hok hsL
    have KP := Lib.hid (fun W (hW : Below w.heap.size w W) => l24Plain_any A n c ss W (HR.out W hW) (by omega) hsz)
    obtain ⟨PL, hPL⟩ : ∃ l, ss.filter notShow = l := ⟨_, rfl⟩
    rw [hPL] at KP hpl
    have hPn : PL.length ≤ 100 := by rw [← hPL]; exact Nat.le_trans (List.length_filter_le _ _) h100
    have HPM := Lib.hid (show PL.length = pb.length + 2 by rw [hpl]; simp)
    have hPz : ∀ s ∈ PL, s.size ≤ 1048576 := fun s h => hsz s (by rw [← hPL] at h; exact (List.mem_filter.1 h).1)
    have HPZ := Lib.hid hPz
    have HPL := Lib.hid hpl
    have HPO := Lib.hid hpo
    have HST := Lib.hid hst
    obtain ⟨SH, hSH⟩ : ∃ l, shL ss = l := ⟨_, rfl⟩
    rw [hSH] at hps
    have HPS := Lib.hid hps
    replace KW := Lib.hid KW
    rw [hSH]
    obtain ⟨RS, hRS⟩ : ∃ x : List ByteArray, (if SH.length > 100 then [] else SH) = x := ⟨_, rfl⟩
    obtain ⟨RC, hRC⟩ : ∃ x : Int, (if SH.length > 100 then 5 else 0) = x := ⟨_, rfl⟩
    rw [hRS, hRC]
    have HRS := Lib.hid hRS
    have HRC := Lib.hid hRC
    clear hRS hRC hC e1 e2 hstart hst hss hsL hok htt hPL hpl hpo hps hSH hPz hsz hl
    go_enter Tryz.func17, Tryz.ntmps17
    go_wp2_with fail
    refine KW.out.mono ?_; rintro e w1 (⟨-, g, rfl, hS⟩ | ⟨h0, -⟩)
    rotate_left
    · exact absurd rfl h0
    have hw1 := hS.below
    clear hS
    go_wp2_with fail
    refine (KP.out _ hw1).mono ?_; rintro e w2 ⟨X, x, rfl, hKn⟩
    have hK2 := (Kn.nil w).keep hw1 |>.join hKn
    clear hKn hw1
    have hp00 : 0 < PL.length := by have := HPM.out; omega
    obtain ⟨-, gP, rfl, hc0, -, -⟩ := hK2.rowS_at (k := 0) hp00
    have hc1 : w2.cell? ⟨gP, 0, none⟩ = some (.string L) := by
      rw [hc0]
      congr 2
      simp only [HPL.out, List.getElem_cons_zero]
    have hp0 : (0 : Int) < (PL.length : Int) := by omega
    have hK3 := (hK2.al [.string L] 9).litRow (n := 1) (size := 1) rfl (by decide)
    clear hc0
    go_upto_region 6 with fail
    refine Code.wp.kn hK3 ?_; intro w3 hK4
    obtain ⟨gO, hgO⟩ : ∃ g, w2.heap.size = g := ⟨_, rfl⟩
    rw [hgO] at hK4 ⊢
    clear hgO hK3 hK2 hc1
    go_wp2_with fail
    go_loopw [8, 7, 9, 10, 11] (fun ii v _ _ _ wr => ∃ (j : Nat) (O : List ByteArray) (XO : Option Addr) (xo : Nat), j ≤ pb.length ∧ ii = .int .i64 ((j + 1 : Nat) : Int) ∧ v = .slice XO O.length xo ∧ Kn w [rowS (.slice XO O.length xo) O, rowS (.slice (some ⟨gP, 0, none⟩) PL.length x) PL] wr ∧ O.length ≤ 2 * j + 1 ∧ O ++ restP (foldT t ((pb.take j).map strB)) ((pb ++ [endW]).drop j) = SH) (fun ii _ _ _ _ _ => PL.length - (intOf ii).toNat)
    case atStart => exact ⟨0, [L], some ⟨gO, 0, none⟩, 1, Nat.zero_le _, rfl, rfl, hK4, by simp, by rw [HPS.out]; rfl⟩
    case round =>
      clear hK4
      obtain ⟨j, O, XO, xo, hj, rfl, rfl, hK, hOl, hsh⟩ := hrel
      have hpm := HPM.out
      have hO10 : O.length ≤ 10000000 := by omega
      have HSHH := Lib.hid hsh
      obtain ⟨k, hk⟩ : ∃ k, j + 1 = k := ⟨_, rfl⟩
      rw [hk]
      have hK1 := hK.sw1
      by_cases hjn : j < pb.length
      · obtain ⟨-, g', hg', hc0, -, -⟩ := hK1.rowS_at (k := k) (by omega)
        have hgg : g' = gP := by injection hg' with h; injection h with h; exact h.symm
        subst hgg
        have hz : PL[k]'(by omega) = pb[j] := by
          have h1 := HPL.out
          subst hk
          simp only [h1, List.getElem_cons_succ]
          rw [List.getElem_append_left hjn]
        rw [hz] at hc0
        have hrun := plain_run (j := j) HPL.out HST.out HTT.out HPO.out hjn
        have hstp := restP_step (t := t) hjn
        have hvt2 := foldT_ok (l := (pb.take (j + 1)).map strB) hvt
        have hpz := HPZ.out _ (List.getElem_mem (l := PL) (n := k) (by omega))
        rw [hz] at hpz
        obtain ⟨z, hzz⟩ : ∃ z, pb[j] = z := ⟨_, rfl⟩
        rw [hzz] at hc0 hstp hpz
        obtain ⟨t', ht'⟩ : ∃ t', foldT t ((pb.take (j + 1)).map strB) = t' := ⟨_, rfl⟩
        rw [ht'] at hrun hstp hvt2
        have HT' := Lib.hid ht'
        have hcap := hK1.rowCap
        have hrl := hK1.rlS.2.pre (k := k + 1) (by omega)
        have KR := (l24Run_any (some ⟨g', 0, none⟩) (k + 1) x (PL.take (k + 1)) wr hrl (by omega) (fun s h => HPZ.out s (List.mem_of_mem_take h)))
        have hjk : j + 2 = k + 1 := by omega
        rw [hjk] at hrun
        obtain ⟨s', hs'⟩ : ∃ s, (runS ((PL.take (k + 1)).map strB)).1 = s := ⟨_, rfl⟩
        obtain ⟨ra, hra⟩ : ∃ s, (runS ((PL.take (k + 1)).map strB)).2.1 = s := ⟨_, rfl⟩
        obtain ⟨rb, hrb⟩ : ∃ s, (runS ((PL.take (k + 1)).map strB)).2.2 = s := ⟨_, rfl⟩
        rw [hs', hra, hrb] at KR
        rw [hs'] at hrun
        replace KR := Lib.hid KR
        have HSTP := Lib.hid hstp
        have HRUN := Lib.hid hrun
        have i1 : (k : Int) < (PL.length : Int) - 1 := by omega
        have i2 : (0 : Int) ≤ (k : Int) := by omega
        have i3 : (k : Int) < (PL.length : Int) := by omega
        have i4 : (k : Int) + 1 ≤ (x : Int) := by omega
        have i5 : k + 1 ≤ x := by omega
        have hkl : k ≤ 100 := by omega
        have hkp : k < PL.length := by omega
        have HZK := Lib.hid (show PL[k]'hkp = z from hz.trans hzz)
        have hmt : mtext t' = mtextL t' := by unfold mtext; rw [if_pos hvt2]
        have hTs := mtext_size hvt2
        have hsT : showT t' = (⟨#[115, 104, 111, 119, 32]⟩ : ByteArray) ++ mtext t' := rfl
        obtain ⟨T, hT⟩ : ∃ T, mtextL t' = T := ⟨_, rfl⟩
        rw [hmt, hT] at hTs hsT
        have HSTW := Lib.hid hsT
        have HMT := (fun (gq : Nat) (W : World) (hW : TriM W ⟨gq, 7, none⟩ t') (hlt : gq < W.heap.size) => l10Text_any ⟨gq, 7, none⟩ t' W hW hlt hvt2)
        rw [hT] at HMT
        replace HMT := Lib.hid HMT
        have hcat : ¬ 9223372036854775807 < 5 + T.size := by omega
        have HX := Lib.hid (fun W (h : Kn w (rowS (.slice (some ⟨g', 0, none⟩) PL.length x) PL :: rowS (.slice XO O.length xo) O :: []) W) => show W.cell? ⟨g', k, none⟩ = some (.string z) by rw [h.rowS_get hkp, HZK.out])
        have HK := Lib.hid hk
        clear hrl hcap hs' hra hrb hrun hstp ht' hzz hz hsh hjk hpm hmt hT hsT hk hK hg' hc0
        go_wp2_with fail
        refine KR.out.mono ?_; rintro e w5 ⟨gr, rfl, hS⟩
        have hK5 := (hK1.keep hS.below).drew
        have hSd := (hS.keep (Below.refl w5.heap.size w5).drew).textAt
        rw [HRUN.out] at hSd
        have HSD := Lib.hid hSd
        have HG := Lib.hid (HX.out _ hK5)
        clear hK1 hS hSd
        go_wp2_with fail
        go_region_held3 (fun W => W.cell? ⟨g', k, none⟩ = some (.string z)) (first | with_reducible exact HG.out | with_reducible exact HA.out) (first
          | (go_at_call 73; (refine (HMT.out _ _ HSD.out.1 HSD.out.2).mono ?_); rintro e w6 ⟨rfl, hw6⟩; have hK6 := hK5.keep hw6; clear HG; have HG := Lib.hid (HX.out _ hK6); have hA : Kn w (.blk w6.heap.size [.string z, .string ((⟨#[115, 104, 111, 119, 32]⟩ : ByteArray) ++ T)] 9 :: rowS (.slice XO O.length xo) O :: rowS (.slice (some ⟨g', 0, none⟩) PL.length x) PL :: []) _ := hK6.sw1.al [.string z, .string ((⟨#[115, 104, 111, 119, 32]⟩ : ByteArray) ++ T)] 9; have HA := Lib.hid (HX.out _ (hA.sel [2, 1] 3 (by decide) (by decide))))
          | (refine kn_step2S (by rfl) _ _ (by rfl) (.slice XO O.length xo) O (by rfl) (by rfl) hA hO10 ?_; intro v8 w8 hK8; clear HG HA; have HG := Lib.hid (show w8.cell? ⟨g', k, none⟩ = some (.string z) by rw [hK8.sw1.rowS_get hkp, HZK.out])))
        all_goals
          go_wp2_with fail
          obtain ⟨X8, x8, rfl⟩ := row_form hK8.at0
          go_roundw
          case rel =>
            have hk := HK.out
            refine ⟨j + 1, O ++ [z, (⟨#[115, 104, 111, 119, 32]⟩ : ByteArray) ++ T], X8, x8, by omega, ?_, rfl, hK8, by simp; omega, ?_⟩
            · rw [hk]; go_num
            · have h1 := HSHH.out
              rw [HSTP.out, HSTW.out] at h1
              rw [HT'.out]
              simpa using h1
          case measure => simp [intOf]; omega
      · obtain rfl : j = pb.length := by omega
        have i1 : ¬ (k : Int) < (PL.length : Int) - 1 := by omega
        have hfin : O ++ [endW] = SH := by
          have h1 := HSHH.out
          rw [restP_end] at h1
          exact h1
        have HFIN := Lib.hid hfin
        have hA : Kn w (.blk wr.heap.size [.string ⟨#[101, 110, 100]⟩] 9 :: rowS (.slice XO O.length xo) O :: _) _ := hK.al [.string ⟨#[101, 110, 100]⟩] 9
        clear hfin hsh hpm hK1
        by_cases h1 : SH.length > 100
        · have h2 : (100 : Int) < (SH.length : Int) := by omega
          have h3 := HRS.out
          have h4 := HRC.out
          rw [if_pos h1] at h3 h4
          subst h3
          subst h4
          go_wp2_with (at_builtin; refine kn_pushS rfl _ _ rfl (.slice XO O.length xo) O rfl rfl hA hO10 ?_; intro v8 w8 hK8; rw [show O ++ [(⟨#[101, 110, 100]⟩ : ByteArray)] = SH from HFIN.out] at hK8; obtain ⟨X8, x8, rfl⟩ := row_form hK8.at0)
          go_ret2
          exact SCRet.none hK8.below
        · have h2 : ¬ (100 : Int) < (SH.length : Int) := by omega
          have h3 := HRS.out
          have h4 := HRC.out
          rw [if_neg h1] at h3 h4
          subst h3
          subst h4
          go_wp2_with (at_builtin; refine kn_pushS rfl _ _ rfl (.slice XO O.length xo) O rfl rfl hA hO10 ?_; intro v8 w8 hK8; rw [show O ++ [(⟨#[101, 110, 100]⟩ : ByteArray)] = SH from HFIN.out] at hK8; obtain ⟨X8, x8, rfl⟩ := row_form hK8.at0)
          go_ret2
          exact ⟨X8, x8, rfl, hK8.sel [0] 99 (by decide) (by decide)⟩
end Go.Proofs.YtmmiahgmdllgdaaGreatDoor

namespace Go.Proofs.YtmmiahgmdllgdaaGreatDoor
open Go.RowKit Go.Sort
/-! names of faults -/
def sfN (k : Int) : ByteArray := if k = 0 then ⟨#[110, 111, 110, 101]⟩ else if k = 1 then ⟨#[115, 116, 97, 114, 116]⟩ else if k = 2 then ⟨#[119, 111, 114, 100]⟩ else if k = 3 then ⟨#[118, 97, 108, 117, 101]⟩ else if k = 4 then ⟨#[115, 104, 111, 119]⟩ else if k = 5 then ⟨#[101, 110, 100]⟩ else ⟨#[]⟩
theorem SessionFaultName_any (k : Int) (w : World) :
    Calls Tryz.prog 27 #[.int .i64 k] w fun e w' => e = .returned (.string (sfN k)) ∧ Below w.heap.size w w' := by
  have KB := Lib.hid (fun W => between_any k 0 5 W)
  by_cases hk : 0 ≤ k ∧ k ≤ 5
  rotate_left
  · have hb : betB k 0 5 = false := betB_false.2 (by omega)
    have HN : Hid (sfN k = ⟨#[]⟩) := by
      simp only [Hid]; unfold sfN
      rw [if_neg (by omega), if_neg (by omega), if_neg (by omega), if_neg (by omega), if_neg (by omega), if_neg (by omega)]
    go_enter Tryz.func27, Tryz.ntmps27
    go_wp2_with (go_at_call 80; refine (KB.out _).mono ?_; rintro e w' ⟨rfl, rfl⟩; rw [hb])
    go_ret
    exact ⟨ret_str HN.out.symm, (Below.refl _ _).alloc (Nat.le_refl _) _⟩
  · have hb : betB k 0 5 = true := betB_iff.2 hk
    have hk' : k = 0 ∨ k = 1 ∨ k = 2 ∨ k = 3 ∨ k = 4 ∨ k = 5 := by omega
    clear hk
    rcases hk' with rfl | rfl | rfl | rfl | rfl | rfl <;>
    · go_enter Tryz.func27, Tryz.ntmps27
      go_wp2_with (go_at_call 80; refine (KB.out _).mono ?_; rintro e w' ⟨rfl, rfl⟩; rw [hb])
      go_ret
      exact ⟨rfl, (Below.refl _ _).alloc (Nat.le_refl _) _⟩
theorem specSessionFaultName_any (k : Int) (w : World) :
    Calls Tryz.prog 28 #[.int .i64 k] w fun e w' => e = .returned (.string (sfN k)) ∧ Below w.heap.size w w' := by
  have KB := Lib.hid (fun W => l00In_any k 0 5 W)
  by_cases hk : 0 ≤ k ∧ k ≤ 5
  rotate_left
  · have hb : betB k 0 5 = false := betB_false.2 (by omega)
    have HN : Hid (sfN k = ⟨#[]⟩) := by
      simp only [Hid]; unfold sfN
      rw [if_neg (by omega), if_neg (by omega), if_neg (by omega), if_neg (by omega), if_neg (by omega), if_neg (by omega)]
    go_enter Tryz.func28, Tryz.ntmps28
    go_wp2_with (go_at_call 81; refine (KB.out _).mono ?_; rintro e w' ⟨rfl, rfl⟩; rw [hb])
    go_ret
    exact ⟨ret_str HN.out.symm, (Below.refl _ _).alloc (Nat.le_refl _) _⟩
  · have hb : betB k 0 5 = true := betB_iff.2 hk
    have hk' : k = 0 ∨ k = 1 ∨ k = 2 ∨ k = 3 ∨ k = 4 ∨ k = 5 := by omega
    clear hk
    rcases hk' with rfl | rfl | rfl | rfl | rfl | rfl <;>
    · go_enter Tryz.func28, Tryz.ntmps28
      go_wp2_with (go_at_call 81; refine (KB.out _).mono ?_; rintro e w' ⟨rfl, rfl⟩; rw [hb])
      go_ret
      exact ⟨rfl, (Below.refl _ _).alloc (Nat.le_refl _) _⟩
set_option maxHeartbeats 1600000 in
theorem DrawSessionFaultName_any (A : Option Addr) (n c : Nat) (bs : List UInt8) (w : World) (hb : RB w A n bs) (hn : n ≤ 9223372036854775807) :
    Calls Tryz.prog 21 #[.slice A n c] w fun e w' => (∃ k : Int, e = .returned (.int .i64 k)) ∧ Below w.heap.size w w' := by
  have K1 := Lib.hid (l00From_any A n c bs w hb hn)
  clear hb
  go_enter Tryz.func21, Tryz.ntmps21
  go_wp2_with fail
  refine K1.out.mono ?_; rintro e w1 ⟨rfl, hs, hb1⟩
  have D1 := DR.nil hs
  clear hs
  go_wp2_with fail
  refine (pick_dr _ _ 9 w1 D1.src (by omega)).mono ?_; rintro e w2 ⟨z, rfl, hz, h2⟩
  have K2 : Kn w [] w2 := (Kn.ofDR hb1 (Nat.le_refl _) (D1.add h2)).bare
  have hw : IntKind.i64.wrap (z - 1) = z - 1 := wrapI64 (by omega)
  go_wp2_with fail
  go_ret
  exact ⟨⟨_, rfl⟩, K2.below⟩
theorem shR_sizes {ss : List ByteArray} {B : Nat} (h : shC ss = 0) (hz : ∀ s ∈ ss, s.size ≤ B) (hB : 400 ≤ B) : ∀ s ∈ shR ss, s.size ≤ B := by
  have hw : wholeC (ss.map strB) = 0 := by
    unfold shC at h
    split at h
    · assumption
    · exact h
  have hR : shR ss = shL ss := if_pos h
  obtain ⟨L, body, rfl, n1, hs, hv, hok⟩ := whole_body hw
  rw [hR]
  have H : ∀ (l : List ByteArray) (t : Tri), vmach t = true → (∀ s ∈ l, s.size ≤ B) → ∀ s ∈ restL t l, s.size ≤ B := by
    intro l
    induction l with
    | nil => intro t _ _ s hs; cases hs
    | cons b l ih =>
      intro t hv hz s hs
      have hv' := stepM_ok (b := strB b) hv
      have h1 := ih (stepM t (strB b)).1 hv' (fun s hs => hz s (List.mem_cons_of_mem _ hs))
      have hsh : (showT (stepM t (strB b)).1).size ≤ B := by
        have := mtext_size hv'
        unfold showT
        rw [ByteArray.size_append, show showW.size = 5 from rfl]; omega
      unfold restL at hs
      split at hs
      · rw [List.mem_singleton.1 hs]; exact hz _ (List.mem_cons_self ..)
      · split at hs
        · exact ih t hv (fun s hs => hz s (List.mem_cons_of_mem _ hs)) s hs
        · rcases List.mem_cons.1 hs with rfl | hs
          · exact hz _ (List.mem_cons_self ..)
          · rcases List.mem_cons.1 hs with rfl | hs
            · exact hsh
            · exact h1 s hs
  intro s hs
  rcases List.mem_cons.1 hs with rfl | hs
  · exact hz _ (List.mem_cons_self ..)
  · exact H _ _ hv (fun s hs => hz s (List.mem_cons_of_mem _ hs)) s hs
theorem keptU_sizes {bel : List Int} {ss : List ByteArray} {B : Nat} (hz : ∀ s ∈ ss, s.size ≤ B) : ∀ k, k ≤ ss.length → ∀ x ∈ keptU bel ss k, x.text.size ≤ B
  | 0, _, x, hx => by cases hx
  | k + 1, hk, x, hx => by
    have ih := keptU_sizes (bel := bel) hz k (by omega)
    rw [keptU_succ] at hx
    unfold stepKp at hx
    split at hx
    · exact ih x ((List.dropLast_sublist _).subset hx)
    · rcases List.mem_append.1 hx with hx | hx
      · exact ih x hx
      · rw [List.mem_singleton.1 hx]
        show (ss.getD k ByteArray.empty).size ≤ B
        rw [List.getD_eq_getElem?_getD, List.getElem?_eq_getElem (by omega)]
        exact hz _ (List.getElem_mem (by omega))
theorem shoL_sizes {ss : List ByteArray} {B : Nat} (hz : ∀ s ∈ ss, s.size ≤ B) : ∀ s ∈ shoL ss, s.size ≤ B := by
  intro s hs
  unfold shoL at hs
  split at hs
  · obtain ⟨x, hx, rfl⟩ := List.mem_map.1 hs
    exact keptU_sizes hz _ (Nat.le_refl _) x hx
  · cases hs
/-! a session's fault -/
theorem lineS_code (s : SS) (i : Int) (b : List UInt8) : 0 ≤ (lineS s i b).2 ∧ (lineS s i b).2 ≤ 5 := by
  unfold lineS
  (repeat' split) <;> simp
theorem goS_code : ∀ (l : List (List UInt8)) (s : SS) (i : Int), 0 ≤ i → ((goS s i l).2.1 = -1 ↔ (goS s i l).2.2 = 0) ∧ 0 ≤ (goS s i l).2.2 ∧ (goS s i l).2.2 ≤ 5
  | [], s, i, hi => by
    unfold goS
    split
    · show ((-1 : Int) = -1 ↔ (0 : Int) = 0) ∧ (0 : Int) ≤ 0 ∧ (0 : Int) ≤ 5
      decide
    · show (i = -1 ↔ (5 : Int) = 0) ∧ (0 : Int) ≤ 5 ∧ (5 : Int) ≤ 5
      refine ⟨⟨fun h => by omega, fun h => absurd h (by decide)⟩, by decide, by decide⟩
  | b :: l, s, i, hi => by
    have h1 := lineS_code s i b
    unfold goS
    split
    · rename_i h
      exact ⟨⟨fun h2 => by dsimp only at h2; omega, fun h2 => absurd h2 h⟩, h1.1, h1.2⟩
    · exact goS_code l _ (i + 1) (by omega)
theorem runS_code (l : List (List UInt8)) : ((runS l).2.1 = -1 ↔ (runS l).2.2 = 0) ∧ 0 ≤ (runS l).2.2 ∧ (runS l).2.2 ≤ 5 := by
  have H : ((0 : Int) = -1 ↔ (1 : Int) = 0) ∧ (0 : Int) ≤ 1 ∧ (1 : Int) ≤ 5 := by decide
  cases l with
  | nil => exact H
  | cons b t =>
    rw [runS_cons]
    split
    · exact goS_code t _ 1 (by omega)
    · exact H
theorem sfF_bd (l : List (List UInt8)) : 0 ≤ sfF l ∧ sfF l ≤ 5 := by
  have := (runS_code l).2
  unfold sfF
  split
  · decide
  · exact this
theorem sf_whole {l : List (List UInt8)} (h : sfC l = 0) : (sfA l = -1 ↔ wholeC l = 0) := by
  have := (runS_code l).1
  unfold sfC at h
  split at h
  · cases h
  · rename_i h100
    unfold sfA wholeC
    rw [if_neg h100, if_neg h100, this]
    split
    · rename_i h0
      simp [h0]
    · rename_i h0
      simp [h0]
theorem sfN_ne {k : Int} (h : 0 ≤ k ∧ k ≤ 5) : (sfN k).toList.isEmpty = false := by
  rw [strB_toList]
  have hk' : k = 0 ∨ k = 1 ∨ k = 2 ∨ k = 3 ∨ k = 4 ∨ k = 5 := by omega
  rcases hk' with rfl | rfl | rfl | rfl | rfl | rfl <;> decide
end Go.Proofs.YtmmiahgmdllgdaaGreatDoor

namespace Go.Proofs.YtmmiahgmdllgdaaGreatDoor
open Go.RowKit Go.Sort
/-- two drawn sessions of the call's own -/
def OSes2 (w : World) (e : Ending) (w' : World) : Prop := ∃ X x, ∃ xs : List ByteArray, ∃ Y y, ∃ ys : List ByteArray, e = .returned (.tuple #[.slice X xs.length x, .slice Y ys.length y]) ∧ (∀ s ∈ xs, s.size ≤ 20001) ∧ (∀ s ∈ ys, s.size ≤ 20001) ∧ Kn w [rowS (.slice Y ys.length y) ys, rowS (.slice X xs.length x) xs] w'
set_option maxRecDepth 100000 in
set_option maxHeartbeats 3200000 in
theorem DrawSessionsAgree_any (A : Option Addr) (n c : Nat) (bs : List UInt8) (w : World) (hb : RB w A n bs) (hn : n ≤ 9223372036854775807) :
    Calls Tryz.prog 20 #[.slice A n c] w (OSes2 w) := by
  unfold OSes2
  have K1 := Lib.hid (l00From_any A n c bs w hb hn)
  clear hb
  go_enter Tryz.func20, Tryz.ntmps20
  go_wp2_with fail
  refine K1.out.mono ?_; rintro e w1 ⟨rfl, hs, hb1⟩
  have D1 := DR.nil hs
  clear hs
  have KB := Lib.hid (l24Bent_dr _ _ w1 D1.src (by omega))
  unfold DSes2 at KB
  go_wp2_with fail
  refine KB.out.mono ?_; rintro e w2 ⟨X, x, ss, rfl, hl, hsz, h2⟩
  have D2 := (D1.add h2).sel [0] 99 (by decide) (by decide)
  clear D1 h2 KB
  have HSZ := Lib.hid hsz
  have hsz' : ∀ s ∈ ss, s.size ≤ 1048576 := fun s hs => Nat.le_trans (hsz s hs) (by omega)
  have hrl : RL StrM 1 w2 X ss.length ss := by
    obtain ⟨u, -, -, hK⟩ := D2
    exact hK.rlS.2
  have KS := specShortSession_any X ss.length x ss w2 hrl hsz'
  have KW := (fun W hr => specShownSession_any X ss.length x ss W hr hsz')
  unfold SCRet rowT at KS KW
  have HZ1 := Lib.hid (shoL_sizes (B := 20001) hsz)
  have HZ2 := Lib.hid (fun h => shR_sizes (B := 20001) (ss := ss) h hsz (by omega))
  obtain ⟨SO, hSO⟩ : ∃ x, shoL ss = x := ⟨_, rfl⟩
  obtain ⟨SH, hSH⟩ : ∃ x, shR ss = x := ⟨_, rfl⟩
  obtain ⟨C1, hC1⟩ : ∃ x, wholeC (ss.map strB) = x := ⟨_, rfl⟩
  obtain ⟨C2, hC2⟩ : ∃ x, shC ss = x := ⟨_, rfl⟩
  rw [hSO] at KS HZ1
  rw [hC1] at KS
  simp only [hSH, hC2] at KW HZ2
  replace KS := Lib.hid KS
  replace KW := Lib.hid KW
  clear hSO hSH hC1 hC2 hsz hsz' hrl
  go_wp2_with fail
  refine KS.out.mono ?_; rintro e w3 ⟨Y, y, rfl, hK⟩
  have D3 := D2.kn (fun v h => h.join hK)
  clear D2 hK
  by_cases hc : C1 = 0
  · subst hc
    go_wp2_with fail
    refine (one_dr _ _ 2 w3 D3.src (by omega)).mono ?_; rintro e w4 ⟨z, rfl, h4⟩
    have D4 := D3.add h4
    clear D3 h4
    rcases z with _ | _
    · have K5 := KW.out w4 (by obtain ⟨u, -, -, hK⟩ := D4; exact (hK.front 1 rfl).rlS.2)
      go_wp2_with fail
      refine K5.mono ?_; rintro e w5 ⟨Z, z, rfl, hK⟩
      have D5 := (D4).kn (fun v h => h.join hK)
      clear hK K5
      by_cases hc2 : C2 = 0
      · subst hc2
        go_wp2_with fail
        go_ret2
        exact ⟨X, x, ss, Z, z, SH, rfl, HSZ.out, HZ2.out trivial, (Kn.ofDR hb1 (Nat.le_refl _) D5).sel [0, 2] 99 (by decide) (by decide)⟩
      · have hcb2 : (C2 == 0) = false := by simpa using hc2
        have KD := Lib.hid (l24Draw_dr _ _ w5 D5.src (by omega))
        unfold DSes at KD
        go_wp2_with fail
        refine KD.out.mono ?_; rintro e w6 ⟨V, v, vs, rfl, -, hvz, h6⟩
        have K6 := Kn.ofDR hb1 (Nat.le_refl _) (D5.add h6)
        go_wp2_with fail
        go_ret2
        exact ⟨X, x, ss, V, v, vs, rfl, HSZ.out, fun s h => Nat.le_trans (hvz s h) (by omega), K6.sel [0, 3] 99 (by decide) (by decide)⟩
    · go_wp2_with fail
      go_ret2
      exact ⟨X, x, ss, Y, y, SO, rfl, HSZ.out, HZ1.out, Kn.ofDR hb1 (Nat.le_refl _) D4⟩
  · have hcb : (C1 == 0) = false := by simpa using hc
    have K5 := KW.out w3 (by obtain ⟨u, -, -, hK⟩ := D3; exact (hK.front 1 rfl).rlS.2)
    go_wp2_with fail
    refine K5.mono ?_; rintro e w5 ⟨Z, z, rfl, hK⟩
    have D5 := (D3).kn (fun v h => h.join hK)
    clear hK K5
    by_cases hc2 : C2 = 0
    · subst hc2
      go_wp2_with fail
      go_ret2
      exact ⟨X, x, ss, Z, z, SH, rfl, HSZ.out, HZ2.out trivial, (Kn.ofDR hb1 (Nat.le_refl _) D5).sel [0, 2] 99 (by decide) (by decide)⟩
    · have hcb2 : (C2 == 0) = false := by simpa using hc2
      have KD := Lib.hid (l24Draw_dr _ _ w5 D5.src (by omega))
      unfold DSes at KD
      go_wp2_with fail
      refine KD.out.mono ?_; rintro e w6 ⟨V, v, vs, rfl, -, hvz, h6⟩
      have K6 := Kn.ofDR hb1 (Nat.le_refl _) (D5.add h6)
      go_wp2_with fail
      go_ret2
      exact ⟨X, x, ss, V, v, vs, rfl, HSZ.out, fun s h => Nat.le_trans (hvz s h) (by omega), K6.sel [0, 3] 99 (by decide) (by decide)⟩
end Go.Proofs.YtmmiahgmdllgdaaGreatDoor

namespace Go.Proofs.YtmmiahgmdllgdaaGreatDoor
theorem sf_not {l : List (List UInt8)} (h : ¬ sfC l = 0) : ¬ wholeC l = 0 := by
  unfold sfC at h
  unfold wholeC
  split at h
  · rename_i h1
    rw [if_pos h1]; decide
  · exact absurd rfl h
open Go.RowKit Go.Sort
set_option maxRecDepth 100000 in
set_option maxHeartbeats 12800000 in
theorem law_Sessions (A : Option Addr) (n c : Nat) (bs : List UInt8) (w : World) (hb : RB w A n bs) (hn : n ≤ 9223372036854775807) (ht : TB w) :
    Calls Tryz.prog 3 #[.slice A n c] w fun e w' => e = .returned (.bool true) ∧ Below w.heap.size w w' := by
  have KD := Lib.hid (DrawShownSession_any A n c bs w hb hn)
  have KE := Lib.hid (fun W (hW : Below w.heap.size w W) => DrawSessionsAgree_any A n c bs W (hb.below hW) hn)
  have KN := Lib.hid (fun W (hW : Below w.heap.size w W) => DrawSessionFaultName_any A n c bs W (hb.below hW) hn)
  have HTB := Lib.hid (fun W (hW : Below w.heap.size w W) => TB.below ht hW)
  unfold OSes at KD
  unfold OSes2 at KE
  clear hb ht
  have KG := (fun W => f6big_any A n c W)
  obtain ⟨bg, hbg⟩ : ∃ b, decide ((n : Int) > 4096) = b := ⟨_, rfl⟩
  rw [hbg] at KG
  replace KG := Lib.hid KG
  clear hbg
  rcases bg with _ | _
  rotate_left
  · go_enter Tryz.func3, Tryz.ntmps3
    go_wp2_with (go_at_call 6; refine (KG.out _).mono ?_; rintro e w' ⟨rfl, hww⟩; obtain rfl := hww.symm)
    go_ret
    exact ⟨rfl, Below.refl _ _⟩
  go_enter Tryz.func3, Tryz.ntmps3
  go_wp2_with (go_at_call 6; refine (KG.out _).mono ?_; rintro e w' ⟨rfl, hww⟩; obtain rfl := hww.symm)
  refine KD.out.mono ?_; rintro e w1 ⟨X, x, ss, rfl, hl, hsz, K1⟩
  clear KD KG
  have hsz' : ∀ s ∈ ss, s.size ≤ 1048576 := fun s hs => Nat.le_trans (hsz s hs) (by omega)
  have KA := (fun W (hW : Below w.heap.size w W) hr => SessionFault_any X ss.length x ss W hr hsz' (HTB.out W hW))
  have KB := (fun W hr => specSessionFault_any X ss.length x ss W hr hsz')
  have KC := (fun W (hW : Below w.heap.size w W) hr => ReplaySession_any X ss.length x ss W hr hsz' (HTB.out W hW))
  have KF := (fun W hr => specReplaySession_any X ss.length x ss W hr hsz')
  have KH := (fun W (hW : Below w.heap.size w W) hr => SessionStrokes_any X ss.length x ss W hr hsz' (HTB.out W hW))
  have KI := (fun W hr => specSessionStrokes_any X ss.length x ss W hr hsz')
  have KJ := (fun W (hW : Below w.heap.size w W) hr => BellLines_any X ss.length x ss W hr hsz' (HTB.out W hW))
  have KK := (fun W hr => specBellLines_any X ss.length x ss W hr hsz')
  have KL := (fun W (hW : Below w.heap.size w W) hr => ShownSession_any X ss.length x ss W hr hsz' (HTB.out W hW))
  have KM := (fun W hr => specShownSession_any X ss.length x ss W hr hsz')
  have KO := (fun W (hW : Below w.heap.size w W) hr => ShortSession_any X ss.length x ss W hr hsz' (HTB.out W hW))
  have KP := (fun W hr => specShortSession_any X ss.length x ss W hr hsz')
  have F1 := (fun h => sf_whole (l := ss.map strB) h)
  have F5 := (fun h => sf_not (l := ss.map strB) h)
  have F2 := sfN_ne (sfF_bd (ss.map strB))
  have F3 := (fun h => shown_agree (ss := ss) h)
  have F4 := (fun h => (show saB (ss.map strB) ((shoL ss).map strB) = true ∧ (shoL ss).length ≤ ss.length ∧ shoL (shoL ss) = shoL ss ∧ wholeC ((shoL ss).map strB) = 0 from ⟨(short_agree (ss := ss) h).1, (short_agree (ss := ss) h).2.1, short_again h, (short_agree (ss := ss) h).2.2⟩))
  have Z1 := shoL_sizes (B := 1048576) hsz'
  have Z2 := (fun h => shR_sizes (B := 1048576) (ss := ss) h hsz' (by omega))
  have l1 := shR_len ss
  have l2 := shoL_len ss
  have l3 := ssL_len (ss.map strB)
  have l4 := blL_len (ss.map strB)
  have l5 := rsM_len (ss.map strB)
  have KQ := (fun W (hW : Below w.heap.size w W) => SessionFaultName_any (sfF (ss.map strB)) W)
  unfold SFRet at KA KB
  unfold RSRet MCRet at KC KF
  unfold ssRet at KH KI
  unfold blRet at KJ KK
  unfold SCRet rowT at KL KM KO KP
  obtain ⟨SH, hSH⟩ : ∃ v, shR ss = v := ⟨_, rfl⟩
  obtain ⟨C2, hC2⟩ : ∃ v, shC ss = v := ⟨_, rfl⟩
  obtain ⟨SO, hSO⟩ : ∃ v, shoL ss = v := ⟨_, rfl⟩
  obtain ⟨WC, hWC⟩ : ∃ v, wholeC (ss.map strB) = v := ⟨_, rfl⟩
  obtain ⟨M, hM⟩ : ∃ v, rsM (ss.map strB) = v := ⟨_, rfl⟩
  obtain ⟨ST, hST⟩ : ∃ v, ssL (ss.map strB) = v := ⟨_, rfl⟩
  obtain ⟨BL, hBL⟩ : ∃ v, blL (ss.map strB) = v := ⟨_, rfl⟩
  obtain ⟨SA, hSA⟩ : ∃ v, sfA (ss.map strB) = v := ⟨_, rfl⟩
  obtain ⟨SF, hSF⟩ : ∃ v, sfF (ss.map strB) = v := ⟨_, rfl⟩
  obtain ⟨SC, hSC⟩ : ∃ v, sfC (ss.map strB) = v := ⟨_, rfl⟩
  simp only [hSH, hC2, hSO, hWC, hM, hST, hBL, hSA, hSF, hSC] at KA KB KC KF KH KI KJ KK KL KM KO KP F1 F2 F5 F3 F4 Z1 Z2 l1 l2 l3 l4 l5 KQ
  clear hSH hC2 hSO hWC hM hST hBL hSA hSF hSC
  obtain ⟨NM, hNM⟩ : ∃ v, sfN SF = v := ⟨_, rfl⟩
  simp only [hNM] at KQ F2
  clear hNM
  have HSZ := Lib.hid hsz'
  replace KA := Lib.hid KA
  replace KB := Lib.hid KB
  replace KC := Lib.hid KC
  replace KF := Lib.hid KF
  replace KH := Lib.hid KH
  replace KI := Lib.hid KI
  replace KJ := Lib.hid KJ
  replace KK := Lib.hid KK
  replace KL := Lib.hid KL
  replace KM := Lib.hid KM
  replace KO := Lib.hid KO
  replace KP := Lib.hid KP
  replace KQ := Lib.hid KQ
  replace F1 := Lib.hid F1
  replace F2 := Lib.hid F2
  replace F5 := Lib.hid F5
  replace F3 := Lib.hid F3
  replace F4 := Lib.hid F4
  replace Z1 := Lib.hid Z1
  replace Z2 := Lib.hid Z2
  clear hsz hsz'
  go_wp2_with fail
  refine (KA.out _ K1.below K1.rlS.2).mono ?_; rintro e w2 ⟨rfl, hw⟩
  have K2 := K1.keep hw
  clear K1 hw KA
  go_wp2_with fail
  refine (KB.out _ K2.rlS.2).mono ?_; rintro e w3 ⟨rfl, hw⟩
  have K3 := K2.keep hw
  clear K2 hw KB
  go_wp2_with fail
  refine (KC.out _ K3.below K3.rlS.2).mono ?_; rintro e w4 ⟨A1, c1, A2, c2, A3, c3, rfl, hK⟩
  have K4 := K3.join hK
  clear K3 hK KC
  go_wp2_with fail
  obtain ⟨g1, hg1⟩ : ∃ g, w4.heap.size = g := ⟨_, rfl⟩
  have K5 := K4.al [.int .i64 M.a.base, .slice A1 M.a.digits.length c1, .int .i64 M.b.base, .slice A2 M.b.digits.length c2, .int .i64 M.s.base, .slice A3 M.s.digits.length c3, .int .i64 M.carry] 32
  rw [hg1] at K5
  try rw [hg1]
  refine Calls.kn K5 ?_; clear K4 K5 hg1; intro w5 K5
  refine (KF.out _ (K5.front 4 rfl).rlS.2).mono ?_; rintro e w6 ⟨E1, f1, E2, f2, E3, f3, rfl, hK⟩
  have K6 := K5.join hK
  clear K5 hK KF
  go_wp2_with fail
  obtain ⟨g2, hg2⟩ : ∃ g, w6.heap.size = g := ⟨_, rfl⟩
  have K7 := K6.al [.int .i64 M.a.base, .slice E1 M.a.digits.length f1, .int .i64 M.b.base, .slice E2 M.b.digits.length f2, .int .i64 M.s.base, .slice E3 M.s.digits.length f3, .int .i64 M.carry] 32
  rw [hg2] at K7
  try rw [hg2]
  refine Calls.kn K7 ?_; clear K6 K7 hg2; intro w7 K7
  refine (KH.out _ K7.below (K7.front 8 rfl).rlS.2).mono ?_; rintro e w8 ⟨R1, r1, rfl, hK⟩
  have K8 := K7.join hK
  clear K7 hK KH
  go_wp2_with fail
  refine (KI.out _ (K8.front 9 rfl).rlS.2).mono ?_; rintro e w9 ⟨R2, r2, rfl, hK⟩
  have K9 := K8.join hK
  clear K8 hK KI
  go_wp2_with fail
  refine (KJ.out _ K9.below (K9.front 10 rfl).rlS.2).mono ?_; rintro e w10 ⟨R3, r3, rfl, hK⟩
  have K10 := K9.join hK
  clear K9 hK KJ
  go_wp2_with fail
  refine (KK.out _ (K10.front 11 rfl).rlS.2).mono ?_; rintro e w11 ⟨R4, r4, rfl, hK⟩
  have K11 := K10.join hK
  clear K10 hK KK
  go_wp2_with fail
  refine (KL.out _ K11.below (K11.front 12 rfl).rlS.2).mono ?_; rintro e w12 ⟨S1, s1, rfl, hK⟩
  have K12 := K11.join hK
  clear K11 hK KL
  go_wp2_with fail
  refine (KM.out _ (K12.front 13 rfl).rlS.2).mono ?_; rintro e w13 ⟨S2, s2, rfl, hK⟩
  have K13 := K12.join hK
  clear K12 hK KM
  go_wp2_with fail
  refine (KO.out _ K13.below (K13.front 14 rfl).rlS.2).mono ?_; rintro e w14 ⟨S3, s3, rfl, hK⟩
  have K14 := K13.join hK
  clear K13 hK KO
  go_wp2_with fail
  refine (KP.out _ (K14.front 15 rfl).rlS.2).mono ?_; rintro e w15 ⟨S4, s4, rfl, hK⟩
  have K15 := K14.join hK
  clear K14 hK KP
  go_wp2_with fail
  refine (KE.out _ K15.below).mono ?_; rintro e w16 ⟨V1, v1, xs, V2, v2, ys, rfl, hzx, hzy, hK⟩
  have K16 := K15.join hK
  have HZX := Lib.hid (fun s hs => Nat.le_trans (hzx s hs) (show 20001 ≤ 1048576 by omega))
  have HZY := Lib.hid (fun s hs => Nat.le_trans (hzy s hs) (show 20001 ≤ 1048576 by omega))
  clear K15 hK KE hzx hzy
  go_wp2_with fail
  refine (KN.out _ K16.below).mono ?_; rintro e w17 ⟨⟨kn, rfl⟩, hw⟩
  have K17 := K16.keep hw
  clear K16 hw KN
  obtain ⟨a1, a2, a3, -⟩ := (K17.front 14 rfl).cells
  obtain ⟨b1, b2, b3, -⟩ := (K17.front 10 rfl).cells
  have KU := Lib.hid (fun W => SessionFaultName_any kn W)
  have KV := Lib.hid (fun W => specSessionFaultName_any kn W)
  obtain ⟨NK, hNK⟩ : ∃ v, sfN kn = v := ⟨_, rfl⟩
  simp only [hNK] at KU KV
  clear hNK
  go_wp2_with fail
  have hsm : SmallTri M := ⟨by unfold SmallReg; omega, by unfold SmallReg; omega, by unfold SmallReg; omega⟩
  have hsame := specSameMachine_any M M A1 A2 A3 E1 E2 E3 c1 c2 c3 f1 f2 f3 w17 (K17.front 17 rfl).riv (K17.front 16 rfl).riv (K17.front 15 rfl).riv (K17.front 13 rfl).riv (K17.front 12 rfl).riv (K17.front 11 rfl).riv hsm hsm
  rw [sameM_refl] at hsame
  refine hsame.mono ?_; rintro e w18 ⟨rfl, hw⟩
  have K18 := (K17.keep hw).sel [0, 1, 2, 3, 4, 5, 6, 7, 8, 9, 18] 99 (by decide) (by decide)
  clear K17 hw hsame hsm a1 a2 a3 b1 b2 b3
  go_wp2_with fail
  have hfi := f6ints_any R1 R2 ST.length r1 ST.length r2 ST ST w18 (K18.front 9 rfl).riv (K18.front 8 rfl).riv (by omega) (by omega)
  rw [show decide (ST = ST) = true from decide_eq_true rfl] at hfi
  refine hfi.mono ?_; rintro e w19 ⟨rfl, q, rfl⟩
  have K19 := K18.drewN q
  generalize w18.drewN q = w19 at K19 ⊢
  clear hfi K18
  go_wp2_with fail
  have hfi := f6ints_any R3 R4 BL.length r3 BL.length r4 BL BL w19 (K19.front 7 rfl).riv (K19.front 6 rfl).riv (by omega) (by omega)
  rw [show decide (BL = BL) = true from decide_eq_true rfl] at hfi
  refine hfi.mono ?_; rintro e w20 ⟨rfl, q, rfl⟩
  have K20 := K19.drewN q
  generalize w19.drewN q = w20 at K20 ⊢
  clear hfi K19
  go_wp2_with fail
  refine (f6texts_same S1 S2 SH.length s1 s2 SH w20 (Kn.rlSN (K20.front 5 rfl)).2 (Kn.rlSN (K20.front 4 rfl)).2 (by omega)).mono ?_; rintro e w21 ⟨rfl, q, rfl⟩
  have K21 := K20.drewN q
  generalize w20.drewN q = w21 at K21 ⊢
  clear K20
  go_wp2_with fail
  refine (f6texts_same S3 S4 SO.length s3 s4 SO w21 (Kn.rlSN (K21.front 3 rfl)).2 (Kn.rlSN (K21.front 2 rfl)).2 (by omega)).mono ?_; rintro e w22 ⟨rfl, q, rfl⟩
  have K22 := K21.drewN q
  generalize w21.drewN q = w22 at K22 ⊢
  clear K21
  obtain ⟨sb, hsb⟩ : ∃ v, saB (xs.map strB) (ys.map strB) = v := ⟨_, rfl⟩
  have KX := SessionsAgree_any V1 xs.length v1 xs V2 ys.length v2 ys w22 (K22.front 1 rfl).rlS.2 HZX.out (K22.front 0 rfl).rlS.2 HZY.out (HTB.out _ K22.below)
  rw [hsb] at KX
  go_wp2_with fail
  refine KX.mono ?_; rintro e w23 ⟨rfl, hw⟩
  have K23 := K22.keep hw
  clear K22 hw KX
  have KX := specSessionsAgree_any V1 xs.length v1 xs V2 ys.length v2 ys w23 (K23.front 1 rfl).rlS.2 HZX.out (K23.front 0 rfl).rlS.2 HZY.out
  rw [hsb] at KX
  go_wp2_with fail
  refine KX.mono ?_; rintro e w24 ⟨rfl, hw⟩
  have K24 := (K23.keep hw).sel [3, 5, 10] 99 (by decide) (by decide)
  clear K23 hw KX hsb
  go_wp2_with fail
  refine (KU.out _).mono ?_; rintro e w25 ⟨rfl, hw⟩
  have K25 := K24.keep hw
  clear K24 hw KU
  go_wp2_with fail
  refine (KV.out _).mono ?_; rintro e w26 ⟨rfl, hw⟩
  have K26 := K25.keep hw
  clear K25 hw KV
  have hne := F2.out
  by_cases hsc : SC = 0
  · by_cases hwc : WC = 0
    · have hsa := (F1.out hsc).2 hwc
      subst hsc
      subst hwc
      subst hsa
      obtain ⟨g1', g2', g3', g4'⟩ := F4.out rfl
      have G2 := Lib.hid g2'
      go_wp2_with fail
      refine (KQ.out _ K26.below).mono ?_; rintro e w27 ⟨rfl, hw⟩
      have K27 := K26.keep hw
      clear K26 hw KQ F1 F2
      have KZ := (fun W (hW : Below w.heap.size w W) hr => ShortSession_any S3 SO.length s3 SO W hr Z1.out (HTB.out W hW))
      unfold SCRet rowT at KZ
      rw [g3', g4'] at KZ
      have KY := (fun W (hW : Below w.heap.size w W) hr hr2 => SessionsAgree_any X ss.length x ss S3 SO.length s3 SO W hr HSZ.out hr2 Z1.out (HTB.out W hW))
      rw [g1'] at KY
      have hle : (SO.length : Int) ≤ (ss.length : Int) := by omega
      replace KZ := Lib.hid KZ
      replace KY := Lib.hid KY
      clear g1' g2' g3' g4' F4
      by_cases h2 : C2 = 0
      · subst h2
        have KX := SessionsAgree_any X ss.length x ss S1 SH.length s1 SH w27 (K27.front 2 rfl).rlS.2 HSZ.out (Kn.rlSN (K27.front 1 rfl)).2 (Z2.out rfl) (HTB.out _ K27.below)
        rw [F3.out rfl] at KX
        go_wp2_with fail
        refine KX.mono ?_; rintro e w28 ⟨rfl, hw⟩
        have K28 := K27.keep hw
        clear K27 hw KX
        go_wp2_with fail
        refine (KZ.out _ (K28).below (Kn.rlSN (K28)).2).mono ?_; rintro e w29 ⟨S5, s5, rfl, hK⟩
        have K29 := (K28).join hK
        clear hK KZ
        go_wp2_with fail
        refine (KY.out _ K29.below ((K29.front 3 rfl).rlS.2) (Kn.rlSN (K29.front 1 rfl)).2).mono ?_; rintro e w30 ⟨rfl, hw⟩
        have K30 := K29.keep hw
        clear K29 hw KY
        go_wp2_with fail
        refine (f6texts_same S5 S3 SO.length s5 s3 SO w30 (Kn.rlSN (K30.front 0 rfl)).2 (Kn.rlSN (K30.front 1 rfl)).2 (by omega)).mono ?_; rintro e w31 ⟨rfl, q, rfl⟩
        go_wp2_with fail
        go_ret
        exact ⟨rfl, (K30.drewN q).below⟩
      · have hb2 : (C2 == 0) = false := by simpa using h2
        go_wp2_with fail
        refine (KZ.out _ (K27).below (Kn.rlSN (K27)).2).mono ?_; rintro e w29 ⟨S5, s5, rfl, hK⟩
        have K29 := (K27).join hK
        clear hK KZ
        go_wp2_with fail
        refine (KY.out _ K29.below ((K29.front 3 rfl).rlS.2) (Kn.rlSN (K29.front 1 rfl)).2).mono ?_; rintro e w30 ⟨rfl, hw⟩
        have K30 := K29.keep hw
        clear K29 hw KY
        go_wp2_with fail
        refine (f6texts_same S5 S3 SO.length s5 s3 SO w30 (Kn.rlSN (K30.front 0 rfl)).2 (Kn.rlSN (K30.front 1 rfl)).2 (by omega)).mono ?_; rintro e w31 ⟨rfl, q, rfl⟩
        go_wp2_with fail
        go_ret
        exact ⟨rfl, (K30.drewN q).below⟩
    · have hsa : ¬ SA = -1 := fun h => hwc ((F1.out hsc).1 h)
      subst hsc
      have h1 : (SA == -1) = false := by simpa using hsa
      have h2 : (WC == 0) = false := by simpa using hwc
      have h3 : (WC != 0) = true := by simpa using hwc
      go_wp2_with fail
      refine (KQ.out _ K26.below).mono ?_; rintro e w27 ⟨rfl, hw⟩
      have K27 := K26.keep hw
      clear K26 hw
      go_wp2_with fail
      go_ret
      exact ⟨rfl, K27.below⟩
  · have h1 : (SC == 0) = false := by simpa using hsc
    go_wp2_with fail
    refine (KQ.out _ K26.below).mono ?_; rintro e w27 ⟨rfl, hw⟩
    have K27 := K26.keep hw
    clear K26 hw
    have h3 : (WC != 0) = true := by simpa using F5.out hsc
    go_wp2_with fail
    go_ret
    exact ⟨rfl, K27.below⟩
end Go.Proofs.YtmmiahgmdllgdaaGreatDoor
