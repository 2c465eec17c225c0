/- Part 9: lemmas and contracts of the claim's functions. -/
import Derived.Test.YtkfbfainhmkkdaaGreatZC1
import Derived.Test.YtkfbfainhmkkdaaGreatZC2
import Derived.Test.YtkfbfainhmkkdaaGreatZC3
import Derived.Test.YtkfbfainhmkkdaaGreatZC4
import Derived.Test.YtkfbfainhmkkdaaGreatZC5
import Derived.Test.YtkfbfainhmkkdaaGreatZC6
import Derived.Test.YtkfbfainhmkkdaaGreatZC7
import Derived.Test.YtkfbfainhmkkdaaGreatZC8
namespace Go.Proofs.YtkfbfainhmkkdaaGreat
open Go.RowKit Go.Sort
theorem mulUpto_next {ts : List Int} {k : Nat} (h : k < ts.length) : mulUpto ts (k + 1) = mulUpto ts k ++ mulIns k ts[k] := by
  rw [← getD_of h]; rfl
set_option maxRecDepth 100000 in
set_option maxHeartbeats 3200000 in
theorem l12Turns_any (g : Nat) (A : Option Addr) (c : Nat) (ts : List Int) (w : World) (q2 : w.cell? ⟨g, 1, none⟩ = some (.slice A ts.length c)) (hr : RI w A ts.length ts) (hl : ts.length ≤ 100) (hd : ∀ d ∈ ts, -16 ≤ d ∧ d ≤ 16) :
    Calls Tryz.prog 64 #[.pointer (some ⟨g, 0, none⟩)] w fun e w' => ∃ A' c', e = .returned (.slice A' (mulP ts).length c') ∧ Kn w [rowIns (.slice A' (mulP ts).length c') (mulP ts)] w' := by
  have hlt : g < w.heap.size := World.block_lt_of_cell? w _ q2
  have HP := Lib.hid (fun W (hW : Below w.heap.size w W) => (hW.cell (p := ⟨g, 1, none⟩) hlt).trans q2)
  have HR := Lib.hid (fun W (hW : Below w.heap.size w W) => hr.below hW)
  have HDB := Lib.hid hd
  have HPR := Lib.hid (show mulP ts = mulUpto ts ts.length from rfl)
  clear hd hr hlt
  go_enter Tryz.func64, Tryz.ntmps64
  go_wp2_with fail
  have hK2 : Kn w [rowIns (.slice (some ⟨w.heap.size, 0, none⟩) 0 0) (mulUpto ts 0)] (w.alloc (.cells #[] 80)) := ((Kn.nil w).al [] 80).litRow (size := 2) (n := 0) rfl (by decide)
  go_loopw [3, 4] (fun vv kk wr => ∃ (k : Nat), k ≤ ts.length ∧ kk = .int .i64 k ∧ Kn w [rowIns vv (mulUpto ts k)] wr) (fun _ kk _ => ts.length - (intOf kk).toNat)
  case atStart => exact ⟨0, Nat.zero_le _, rfl, hK2⟩
  case round =>
    clear hK2
    obtain ⟨k, hk, rfl, hK⟩ := hrel
    have a1 := HP.out _ hK.below
    by_cases hkn : k < ts.length
    · have hi1 : (k : Int) < (ts.length : Int) := by omega
      obtain ⟨ad, hA, hlt, hkl, hc⟩ := (HR.out _ hK.below).at_ hkn
      subst hA
      have HC0 := (fun W (hW : Below w.heap.size w W) => show W.cell? (ad.add k) = some (.int .i64 ts[k]) from by
        obtain ⟨ad', e, -, hk', h⟩ := (HR.out W hW).at_ hkn
        cases e
        exact h)
      obtain ⟨d, hd⟩ : ∃ d, ts[k] = d := ⟨_, rfl⟩
      rw [hd] at HC0 hc
      have HC := Lib.hid HC0
      clear HC0
      have HNX := mulUpto_next hkl
      rw [hd] at HNX
      have hdb := HDB.out d (by rw [← hd]; exact List.getElem_mem _)
      obtain ⟨ds, hds⟩ : ∃ ds, mulUpto ts k = ds := ⟨_, rfl⟩
      rw [hds] at hK HNX
      have hln := mulUpto_len ts k
      rw [hds] at hln
      obtain ⟨A0, c0, rfl⟩ := row_form hK.at0
      have wnd : IntKind.i64.wrap (-d) = -d := wrapI64 (by omega)
      have HNX := Lib.hid HNX
      clear hd hds
      by_cases hk0 : 0 < k
      · have hk1 : (0 : Int) < (k : Int) := by omega
        rcases Int.lt_trichotomy d 0 with hd0 | rfl | hd0
        · have hd1 : ¬ 0 < d := by omega
          have HI := Lib.hid (show mulIns k d = [⟨4, 1⟩] ++ [⟨3, -d⟩] by unfold mulIns; rw [if_pos hk0, if_neg hd1, if_pos hd0])
          go_wp2_with (first
            | (at_builtin; refine kn_pushIns (m := []) (ys := [⟨4, 1⟩]) rfl _ _ rfl _ ds rfl rfl (hK.al [.int .i64 4, .int .i64 1] 80) (by simp; omega) ?_; intro v3 w3 hK3; clear hK; (have a1 := HP.out _ hK3.below; have hc := HC.out _ hK3.below))
            | (at_builtin; refine kn_pushIns (m := []) (ys := [⟨3, -d⟩]) rfl _ _ rfl _ (ds ++ [⟨4, 1⟩]) rfl rfl (hK3.al [.int .i64 3, .int .i64 (-d)] 80) (by simp; omega) ?_; intro v4 w4 hK4; have hE : ds ++ [⟨4, 1⟩] ++ [⟨3, -d⟩] = mulUpto ts (k + 1) := (by rw [HNX.out, HI.out, List.append_assoc]); rw [hE] at hK4; clear hE))
          go_roundw
          case rel => exact ⟨k + 1, by omega, by go_num, hK4⟩
          case measure => simp [intOf]; omega
        · have HI := Lib.hid (show mulIns k 0 = [⟨4, 1⟩] by unfold mulIns; rw [if_pos hk0]; rfl)
          go_wp2_with (first
            | (at_builtin; refine kn_pushIns (m := []) (ys := [⟨4, 1⟩]) rfl _ _ rfl _ ds rfl rfl (hK.al [.int .i64 4, .int .i64 1] 80) (by simp; omega) ?_; intro v3 w4 hK4; clear hK; have hK3 := hK4; (have a1 := HP.out _ hK3.below; have hc := HC.out _ hK3.below); clear hK3; have hE : ds ++ [⟨4, 1⟩] = mulUpto ts (k + 1) := (by rw [HNX.out, HI.out]); rw [hE] at hK4; clear hE))
          go_roundw
          case rel => exact ⟨k + 1, by omega, by go_num, hK4⟩
          case measure => simp [intOf]; omega
        · have hd1 : ¬ d < 0 := by omega
          have HI := Lib.hid (show mulIns k d = [⟨4, 1⟩] ++ [⟨2, d⟩] by unfold mulIns; rw [if_pos hk0, if_pos hd0])
          go_wp2_with (first
            | (at_builtin; refine kn_pushIns (m := []) (ys := [⟨4, 1⟩]) rfl _ _ rfl _ ds rfl rfl (hK.al [.int .i64 4, .int .i64 1] 80) (by simp; omega) ?_; intro v3 w3 hK3; clear hK; (have a1 := HP.out _ hK3.below; have hc := HC.out _ hK3.below))
            | (at_builtin; refine kn_pushIns (m := []) (ys := [⟨2, d⟩]) rfl _ _ rfl _ (ds ++ [⟨4, 1⟩]) rfl rfl (hK3.al [.int .i64 2, .int .i64 d] 80) (by simp; omega) ?_; intro v4 w4 hK4; have hE : ds ++ [⟨4, 1⟩] ++ [⟨2, d⟩] = mulUpto ts (k + 1) := (by rw [HNX.out, HI.out, List.append_assoc]); rw [hE] at hK4; clear hE))
          go_roundw
          case rel => exact ⟨k + 1, by omega, by go_num, hK4⟩
          case measure => simp [intOf]; omega
      · have hk1 : ¬ (0 : Int) < (k : Int) := by omega
        rcases Int.lt_trichotomy d 0 with hd0 | rfl | hd0
        · have hd1 : ¬ 0 < d := by omega
          have HI := Lib.hid (show mulIns k d = [⟨3, -d⟩] by unfold mulIns; rw [if_neg hk0, if_neg hd1, if_pos hd0]; rfl)
          go_wp2_with (first
            | (at_builtin; refine kn_pushIns (m := []) (ys := [⟨3, -d⟩]) rfl _ _ rfl _ ds rfl rfl (hK.al [.int .i64 3, .int .i64 (-d)] 80) (by simp; omega) ?_; intro v4 w4 hK4; clear hK; have hE : ds ++ [⟨3, -d⟩] = mulUpto ts (k + 1) := (by rw [HNX.out, HI.out]); rw [hE] at hK4; clear hE))
          go_roundw
          case rel => exact ⟨k + 1, by omega, by go_num, hK4⟩
          case measure => simp [intOf]; omega
        · have HI := Lib.hid (show mulIns k 0 = [] by unfold mulIns; rw [if_neg hk0]; rfl)
          go_wp2_with fail
          have hK4 := hK
          have hE : ds = mulUpto ts (k + 1) := (by rw [HNX.out, HI.out, List.append_nil])
          rw [hE] at hK4 ⊢
          clear hE hK
          go_roundw
          case rel => exact ⟨k + 1, by omega, by go_num, hK4⟩
          case measure => simp [intOf]; omega
        · have hd1 : ¬ d < 0 := by omega
          have HI := Lib.hid (show mulIns k d = [⟨2, d⟩] by unfold mulIns; rw [if_neg hk0, if_pos hd0]; rfl)
          go_wp2_with (first
            | (at_builtin; refine kn_pushIns (m := []) (ys := [⟨2, d⟩]) rfl _ _ rfl _ ds rfl rfl (hK.al [.int .i64 2, .int .i64 d] 80) (by simp; omega) ?_; intro v4 w4 hK4; clear hK; have hE : ds ++ [⟨2, d⟩] = mulUpto ts (k + 1) := (by rw [HNX.out, HI.out]); rw [hE] at hK4; clear hE))
          go_roundw
          case rel => exact ⟨k + 1, by omega, by go_num, hK4⟩
          case measure => simp [intOf]; omega
    · have hi1 : ¬ (k : Int) < (ts.length : Int) := by omega
      obtain rfl : k = ts.length := by omega
      obtain ⟨A0, c0, rfl⟩ := row_form hK.at0
      rw [← HPR.out] at hK ⊢
      go_wp2_with fail
      go_ret
      exact ⟨A0, c0, rfl, hK⟩
/-- what a function that makes a program returns -/
def MPRet (b f : Int) (sh : Bool) (w : World) (e : Ending) (w' : World) : Prop :=
  (trnC b f = 2 ∧ e = .returned (.tuple #[.slice none 0 0, .int .i64 2]) ∧ Below w.heap.size w w') ∨
  (trnC b f = 0 ∧ ∃ A c, e = .returned (.tuple #[.slice A (mulP (turnL sh b f)).length c, .int .i64 0]) ∧ Kn w [rowIns (.slice A (mulP (turnL sh b f)).length c) (mulP (turnL sh b f))] w')
theorem turnL_bd (sh : Bool) {b f : Int} (hb : 2 ≤ b) (hb2 : b ≤ 16) (h0 : 0 ≤ f) (h1 : f ≤ 62500000) : (turnL sh b f).length ≤ 30 ∧ ∀ d ∈ turnL sh b f, -16 ≤ d ∧ d ≤ 16 :=
  ⟨turnF_len sh b 30 f, fun d hd => by have := turnF_bd sh hb 30 f h0 (Int.le_trans h1 (by decide)) d hd; omega⟩
set_option maxRecDepth 100000 in
theorem specMultiplyProgram_any (b f : Int) (sh : Bool) (w : World) : Calls Tryz.prog 12 #[.int .i64 b, .int .i64 f, .bool sh] w (MPRet b f sh w) := by
  unfold MPRet
  have KD := Lib.hid (fun W => l12Digits_any b f sh W)
  go_enter Tryz.func12, Tryz.ntmps12
  go_wp2_with fail
  (with_reducible refine (KD.out _).mono ?_); rintro e w2 (⟨hc, rfl, hw⟩ | ⟨hc, A, c, rfl, hKn⟩)
  · have HC := Lib.hid hc
    have hK2 := (Kn.nil w).keep hw
    clear hc
    go_wp2_with fail
    go_ret2
    exact .inl ⟨HC.out, rfl, (hK2.al_ _).below⟩
  · have HC := Lib.hid hc
    obtain ⟨hb, hb2, h0, h1⟩ := (trnC_cases b f).elim (fun h => absurd (h.symm.trans hc) (by decide)) (fun h => h.2)
    obtain ⟨hl, hd⟩ := turnL_bd sh hb hb2 h0 h1
    obtain ⟨ts, hts⟩ : ∃ ts, turnL sh b f = ts := ⟨_, rfl⟩
    rw [hts] at hKn hl hd ⊢
    have HTS := Lib.hid hts
    have HD := Lib.hid hd
    clear hc hd hts hb hb2 h0 h1 KD
    have hK2 := hKn.al [.int .i64 b, .slice A ts.length c] 91
    go_wp2_with fail
    refine Calls.kn hK2 ?_; clear hK2; intro w3 hK3
    refine (l12Turns_any _ A c ts _ (box2 hK3).2 (Kn.riv (hK3.sel [1] 99 (by decide) (by decide))) (by omega) HD.out).mono ?_; rintro e w4 ⟨A', c', rfl, hKp⟩
    have hK4 := hK3.join hKp
    go_wp2_with fail
    go_ret2
    rw [HTS.out]
    exact .inr ⟨HC.out, A', c', rfl, hK4.sel [0] 99 (by decide) (by decide)⟩
set_option maxRecDepth 100000 in
set_option maxHeartbeats 6400000 in
theorem MultiplyProgram_any (b f : Int) (sh : Bool) (w : World) : Calls Tryz.prog 11 #[.int .i64 b, .int .i64 f, .bool sh] w (MPRet b f sh w) := by
  unfold MPRet
  have KI := (fun W => isTurnsInput_any b f W)
  rcases hi : (betB b 2 16 && betB f 0 62500000) with _ | _
  · have HC := Lib.hid (show trnC b f = 2 by unfold trnC; rw [hi]; rfl)
    rw [hi] at KI
    have KI := Lib.hid KI
    clear hi
    go_enter Tryz.func11, Tryz.ntmps11
    go_wp2_with (go_at_call 65; refine (KI.out _).mono ?_; rintro e w' ⟨rfl, rfl⟩)
    go_ret2
    exact .inl ⟨HC.out, rfl, Below.refl _ _⟩
  have HC := Lib.hid (show trnC b f = 0 by unfold trnC; rw [hi]; rfl)
  rw [hi] at KI
  have KI := Lib.hid KI
  obtain ⟨hb, hb2, h0, h1⟩ := (trnC_cases b f).elim (fun h => absurd (h.symm.trans HC.out) (by decide)) (fun h => h.2)
  have K0 := (fun W => plainTurns_any b f W hb hb2 h0 h1)
  have K1 := (fun W => fewestTurns_any b f W hb hb2 h0 h1)
  obtain ⟨hl, hd⟩ := turnL_bd sh hb hb2 h0 h1
  rcases sh with _ | _
  · obtain ⟨ts, hts⟩ : ∃ ts, turnL false b f = ts := ⟨_, rfl⟩
    rw [hts] at K0 hl hd ⊢
    have K0 := Lib.hid K0
    have HDB := Lib.hid hd
    have HPR := Lib.hid (show mulP ts = mulUpto ts ts.length from rfl)
    clear K1 hts hi hb hb2 h0 h1 hd
    go_enter Tryz.func11, Tryz.ntmps11
    go_wp2_with (go_at_call 65; refine (KI.out _).mono ?_; rintro e w' ⟨rfl, rfl⟩)
    (with_reducible refine (K0.out _).mono ?_); rintro e w2 ⟨A, c, rfl, hK1⟩
    go_wp2_with fail
    have hK2 : Kn w [rowIns (.slice (some ⟨w2.heap.size, 0, none⟩) 0 0) (mulUpto ts 0), rowI A c ts] (w2.alloc (.cells #[] 80)) := (hK1.al [] 80).litRow (size := 2) (n := 0) rfl (by decide)
    go_loopw [9, 26] (fun vv kk wr => ∃ (k : Nat), k ≤ ts.length ∧ kk = .int .i64 k ∧ Kn w [rowIns vv (mulUpto ts k), rowI A c ts] wr) (fun _ kk _ => ts.length - (intOf kk).toNat)
    case atStart => exact ⟨0, Nat.zero_le _, rfl, hK2⟩
    case round =>
      clear hK2 hK1
      obtain ⟨k, hk, rfl, hK⟩ := hrel
      by_cases hkn : k < ts.length
      · have hi1 : (k : Int) < (ts.length : Int) := by omega
        obtain ⟨ad, hA, hlt, hkl, hc⟩ := (Kn.riv (hK.sel [1] 99 (by decide) (by decide))).at_ hkn
        subst hA
        obtain ⟨d, hd⟩ : ∃ d, ts[k] = d := ⟨_, rfl⟩
        rw [hd] at hc
        have HNX := mulUpto_next hkl
        rw [hd] at HNX
        have hdb := HDB.out d (by rw [← hd]; exact List.getElem_mem _)
        obtain ⟨ds, hds⟩ : ∃ ds, mulUpto ts k = ds := ⟨_, rfl⟩
        rw [hds] at hK HNX
        have hln := mulUpto_len ts k
        rw [hds] at hln
        obtain ⟨A0, c0, rfl⟩ := row_form hK.at0
        have wnd : IntKind.i64.wrap (-d) = -d := wrapI64 (by omega)
        have HNX := Lib.hid HNX
        clear hd hds
        by_cases hk0 : 0 < k
        · have hk1 : (0 : Int) < (k : Int) := by omega
          rcases Int.lt_trichotomy d 0 with hd0 | rfl | hd0
          · have hd1 : ¬ 0 < d := by omega
            have HI := Lib.hid (show mulIns k d = [⟨4, 1⟩] ++ [⟨3, -d⟩] by unfold mulIns; rw [if_pos hk0, if_neg hd1, if_pos hd0])
            go_wp2_with (first
              | (at_builtin; refine kn_pushIns (m := [rowI (some ad) c ts]) (ys := [⟨4, 1⟩]) rfl _ _ rfl _ ds rfl rfl (hK.al [.int .i64 4, .int .i64 1] 80) (by simp; omega) ?_; intro v3 w3 hK3; clear hK; skip)
              | (at_builtin; refine kn_pushIns (m := [rowI (some ad) c ts]) (ys := [⟨3, -d⟩]) rfl _ _ rfl _ (ds ++ [⟨4, 1⟩]) rfl rfl (hK3.al [.int .i64 3, .int .i64 (-d)] 80) (by simp; omega) ?_; intro v4 w4 hK4; have hE : ds ++ [⟨4, 1⟩] ++ [⟨3, -d⟩] = mulUpto ts (k + 1) := (by rw [HNX.out, HI.out, List.append_assoc]); rw [hE] at hK4; clear hE))
            go_roundw
            case rel => exact ⟨k + 1, by omega, by go_num, hK4⟩
            case measure => simp [intOf]; omega
          · have HI := Lib.hid (show mulIns k 0 = [⟨4, 1⟩] by unfold mulIns; rw [if_pos hk0]; rfl)
            go_wp2_with (first
              | (at_builtin; refine kn_pushIns (m := [rowI (some ad) c ts]) (ys := [⟨4, 1⟩]) rfl _ _ rfl _ ds rfl rfl (hK.al [.int .i64 4, .int .i64 1] 80) (by simp; omega) ?_; intro v3 w4 hK4; clear hK; have hK3 := hK4; skip; clear hK3; have hE : ds ++ [⟨4, 1⟩] = mulUpto ts (k + 1) := (by rw [HNX.out, HI.out]); rw [hE] at hK4; clear hE))
            go_roundw
            case rel => exact ⟨k + 1, by omega, by go_num, hK4⟩
            case measure => simp [intOf]; omega
          · have hd1 : ¬ d < 0 := by omega
            have HI := Lib.hid (show mulIns k d = [⟨4, 1⟩] ++ [⟨2, d⟩] by unfold mulIns; rw [if_pos hk0, if_pos hd0])
            go_wp2_with (first
              | (at_builtin; refine kn_pushIns (m := [rowI (some ad) c ts]) (ys := [⟨4, 1⟩]) rfl _ _ rfl _ ds rfl rfl (hK.al [.int .i64 4, .int .i64 1] 80) (by simp; omega) ?_; intro v3 w3 hK3; clear hK; skip)
              | (at_builtin; refine kn_pushIns (m := [rowI (some ad) c ts]) (ys := [⟨2, d⟩]) rfl _ _ rfl _ (ds ++ [⟨4, 1⟩]) rfl rfl (hK3.al [.int .i64 2, .int .i64 d] 80) (by simp; omega) ?_; intro v4 w4 hK4; have hE : ds ++ [⟨4, 1⟩] ++ [⟨2, d⟩] = mulUpto ts (k + 1) := (by rw [HNX.out, HI.out, List.append_assoc]); rw [hE] at hK4; clear hE))
            go_roundw
            case rel => exact ⟨k + 1, by omega, by go_num, hK4⟩
            case measure => simp [intOf]; omega
        · have hk1 : ¬ (0 : Int) < (k : Int) := by omega
          rcases Int.lt_trichotomy d 0 with hd0 | rfl | hd0
          · have hd1 : ¬ 0 < d := by omega
            have HI := Lib.hid (show mulIns k d = [⟨3, -d⟩] by unfold mulIns; rw [if_neg hk0, if_neg hd1, if_pos hd0]; rfl)
            go_wp2_with (first
              | (at_builtin; refine kn_pushIns (m := [rowI (some ad) c ts]) (ys := [⟨3, -d⟩]) rfl _ _ rfl _ ds rfl rfl (hK.al [.int .i64 3, .int .i64 (-d)] 80) (by simp; omega) ?_; intro v4 w4 hK4; clear hK; have hE : ds ++ [⟨3, -d⟩] = mulUpto ts (k + 1) := (by rw [HNX.out, HI.out]); rw [hE] at hK4; clear hE))
            go_roundw
            case rel => exact ⟨k + 1, by omega, by go_num, hK4⟩
            case measure => simp [intOf]; omega
          · have HI := Lib.hid (show mulIns k 0 = [] by unfold mulIns; rw [if_neg hk0]; rfl)
            go_wp2_with fail
            have hK4 := hK
            have hE : ds = mulUpto ts (k + 1) := (by rw [HNX.out, HI.out, List.append_nil])
            rw [hE] at hK4 ⊢
            clear hE hK
            go_roundw
            case rel => exact ⟨k + 1, by omega, by go_num, hK4⟩
            case measure => simp [intOf]; omega
          · have hd1 : ¬ d < 0 := by omega
            have HI := Lib.hid (show mulIns k d = [⟨2, d⟩] by unfold mulIns; rw [if_neg hk0, if_pos hd0]; rfl)
            go_wp2_with (first
              | (at_builtin; refine kn_pushIns (m := [rowI (some ad) c ts]) (ys := [⟨2, d⟩]) rfl _ _ rfl _ ds rfl rfl (hK.al [.int .i64 2, .int .i64 d] 80) (by simp; omega) ?_; intro v4 w4 hK4; clear hK; have hE : ds ++ [⟨2, d⟩] = mulUpto ts (k + 1) := (by rw [HNX.out, HI.out]); rw [hE] at hK4; clear hE))
            go_roundw
            case rel => exact ⟨k + 1, by omega, by go_num, hK4⟩
            case measure => simp [intOf]; omega
      · have hi1 : ¬ (k : Int) < (ts.length : Int) := by omega
        obtain rfl : k = ts.length := by omega
        obtain ⟨A0, c0, rfl⟩ := row_form hK.at0
        rw [← HPR.out] at hK ⊢
        go_wp2_with fail
        go_ret2
        exact .inr ⟨HC.out, A0, c0, rfl, hK.sel [0] 99 (by decide) (by decide)⟩
  · obtain ⟨ts, hts⟩ : ∃ ts, turnL true b f = ts := ⟨_, rfl⟩
    rw [hts] at K1 hl hd ⊢
    obtain ⟨t0, ht0⟩ : ∃ ts, turnL false b f = ts := ⟨_, rfl⟩
    rw [ht0] at K0
    have K0 := Lib.hid K0
    have K1 := Lib.hid K1
    have HDB := Lib.hid hd
    have HPR := Lib.hid (show mulP ts = mulUpto ts ts.length from rfl)
    clear hts ht0 hi hb hb2 h0 h1 hd
    go_enter Tryz.func11, Tryz.ntmps11
    go_wp2_with (go_at_call 65; refine (KI.out _).mono ?_; rintro e w' ⟨rfl, rfl⟩)
    (with_reducible refine (K0.out _).mono ?_); rintro e w1 ⟨A0, c0, rfl, hK0⟩
    go_wp2_with fail
    (with_reducible refine (K1.out _).mono ?_); rintro e w2 ⟨A, c, rfl, hKn⟩
    have hK1 := (hK0.join hKn).sel [0] 99 (by decide) (by decide)
    clear hK0 hKn
    go_wp2_with fail
    have hK2 : Kn w [rowIns (.slice (some ⟨w2.heap.size, 0, none⟩) 0 0) (mulUpto ts 0), rowI A c ts] (w2.alloc (.cells #[] 80)) := (hK1.al [] 80).litRow (size := 2) (n := 0) rfl (by decide)
    go_loopw [9, 26] (fun vv kk wr => ∃ (k : Nat), k ≤ ts.length ∧ kk = .int .i64 k ∧ Kn w [rowIns vv (mulUpto ts k), rowI A c ts] wr) (fun _ kk _ => ts.length - (intOf kk).toNat)
    case atStart => exact ⟨0, Nat.zero_le _, rfl, hK2⟩
    case round =>
      clear hK2 hK1
      obtain ⟨k, hk, rfl, hK⟩ := hrel
      by_cases hkn : k < ts.length
      · have hi1 : (k : Int) < (ts.length : Int) := by omega
        obtain ⟨ad, hA, hlt, hkl, hc⟩ := (Kn.riv (hK.sel [1] 99 (by decide) (by decide))).at_ hkn
        subst hA
        obtain ⟨d, hd⟩ : ∃ d, ts[k] = d := ⟨_, rfl⟩
        rw [hd] at hc
        have HNX := mulUpto_next hkl
        rw [hd] at HNX
        have hdb := HDB.out d (by rw [← hd]; exact List.getElem_mem _)
        obtain ⟨ds, hds⟩ : ∃ ds, mulUpto ts k = ds := ⟨_, rfl⟩
        rw [hds] at hK HNX
        have hln := mulUpto_len ts k
        rw [hds] at hln
        obtain ⟨A0, c0, rfl⟩ := row_form hK.at0
        have wnd : IntKind.i64.wrap (-d) = -d := wrapI64 (by omega)
        have HNX := Lib.hid HNX
        clear hd hds
        by_cases hk0 : 0 < k
        · have hk1 : (0 : Int) < (k : Int) := by omega
          rcases Int.lt_trichotomy d 0 with hd0 | rfl | hd0
          · have hd1 : ¬ 0 < d := by omega
            have HI := Lib.hid (show mulIns k d = [⟨4, 1⟩] ++ [⟨3, -d⟩] by unfold mulIns; rw [if_pos hk0, if_neg hd1, if_pos hd0])
            go_wp2_with (first
              | (at_builtin; refine kn_pushIns (m := [rowI (some ad) c ts]) (ys := [⟨4, 1⟩]) rfl _ _ rfl _ ds rfl rfl (hK.al [.int .i64 4, .int .i64 1] 80) (by simp; omega) ?_; intro v3 w3 hK3; clear hK; skip)
              | (at_builtin; refine kn_pushIns (m := [rowI (some ad) c ts]) (ys := [⟨3, -d⟩]) rfl _ _ rfl _ (ds ++ [⟨4, 1⟩]) rfl rfl (hK3.al [.int .i64 3, .int .i64 (-d)] 80) (by simp; omega) ?_; intro v4 w4 hK4; have hE : ds ++ [⟨4, 1⟩] ++ [⟨3, -d⟩] = mulUpto ts (k + 1) := (by rw [HNX.out, HI.out, List.append_assoc]); rw [hE] at hK4; clear hE))
            go_roundw
            case rel => exact ⟨k + 1, by omega, by go_num, hK4⟩
            case measure => simp [intOf]; omega
          · have HI := Lib.hid (show mulIns k 0 = [⟨4, 1⟩] by unfold mulIns; rw [if_pos hk0]; rfl)
            go_wp2_with (first
              | (at_builtin; refine kn_pushIns (m := [rowI (some ad) c ts]) (ys := [⟨4, 1⟩]) rfl _ _ rfl _ ds rfl rfl (hK.al [.int .i64 4, .int .i64 1] 80) (by simp; omega) ?_; intro v3 w4 hK4; clear hK; have hK3 := hK4; skip; clear hK3; have hE : ds ++ [⟨4, 1⟩] = mulUpto ts (k + 1) := (by rw [HNX.out, HI.out]); rw [hE] at hK4; clear hE))
            go_roundw
            case rel => exact ⟨k + 1, by omega, by go_num, hK4⟩
            case measure => simp [intOf]; omega
          · have hd1 : ¬ d < 0 := by omega
            have HI := Lib.hid (show mulIns k d = [⟨4, 1⟩] ++ [⟨2, d⟩] by unfold mulIns; rw [if_pos hk0, if_pos hd0])
            go_wp2_with (first
              | (at_builtin; refine kn_pushIns (m := [rowI (some ad) c ts]) (ys := [⟨4, 1⟩]) rfl _ _ rfl _ ds rfl rfl (hK.al [.int .i64 4, .int .i64 1] 80) (by simp; omega) ?_; intro v3 w3 hK3; clear hK; skip)
              | (at_builtin; refine kn_pushIns (m := [rowI (some ad) c ts]) (ys := [⟨2, d⟩]) rfl _ _ rfl _ (ds ++ [⟨4, 1⟩]) rfl rfl (hK3.al [.int .i64 2, .int .i64 d] 80) (by simp; omega) ?_; intro v4 w4 hK4; have hE : ds ++ [⟨4, 1⟩] ++ [⟨2, d⟩] = mulUpto ts (k + 1) := (by rw [HNX.out, HI.out, List.append_assoc]); rw [hE] at hK4; clear hE))
            go_roundw
            case rel => exact ⟨k + 1, by omega, by go_num, hK4⟩
            case measure => simp [intOf]; omega
        · have hk1 : ¬ (0 : Int) < (k : Int) := by omega
          rcases Int.lt_trichotomy d 0 with hd0 | rfl | hd0
          · have hd1 : ¬ 0 < d := by omega
            have HI := Lib.hid (show mulIns k d = [⟨3, -d⟩] by unfold mulIns; rw [if_neg hk0, if_neg hd1, if_pos hd0]; rfl)
            go_wp2_with (first
              | (at_builtin; refine kn_pushIns (m := [rowI (some ad) c ts]) (ys := [⟨3, -d⟩]) rfl _ _ rfl _ ds rfl rfl (hK.al [.int .i64 3, .int .i64 (-d)] 80) (by simp; omega) ?_; intro v4 w4 hK4; clear hK; have hE : ds ++ [⟨3, -d⟩] = mulUpto ts (k + 1) := (by rw [HNX.out, HI.out]); rw [hE] at hK4; clear hE))
            go_roundw
            case rel => exact ⟨k + 1, by omega, by go_num, hK4⟩
            case measure => simp [intOf]; omega
          · have HI := Lib.hid (show mulIns k 0 = [] by unfold mulIns; rw [if_neg hk0]; rfl)
            go_wp2_with fail
            have hK4 := hK
            have hE : ds = mulUpto ts (k + 1) := (by rw [HNX.out, HI.out, List.append_nil])
            rw [hE] at hK4 ⊢
            clear hE hK
            go_roundw
            case rel => exact ⟨k + 1, by omega, by go_num, hK4⟩
            case measure => simp [intOf]; omega
          · have hd1 : ¬ d < 0 := by omega
            have HI := Lib.hid (show mulIns k d = [⟨2, d⟩] by unfold mulIns; rw [if_neg hk0, if_pos hd0]; rfl)
            go_wp2_with (first
              | (at_builtin; refine kn_pushIns (m := [rowI (some ad) c ts]) (ys := [⟨2, d⟩]) rfl _ _ rfl _ ds rfl rfl (hK.al [.int .i64 2, .int .i64 d] 80) (by simp; omega) ?_; intro v4 w4 hK4; clear hK; have hE : ds ++ [⟨2, d⟩] = mulUpto ts (k + 1) := (by rw [HNX.out, HI.out]); rw [hE] at hK4; clear hE))
            go_roundw
            case rel => exact ⟨k + 1, by omega, by go_num, hK4⟩
            case measure => simp [intOf]; omega
      · have hi1 : ¬ (k : Int) < (ts.length : Int) := by omega
        obtain rfl : k = ts.length := by omega
        obtain ⟨A0, c0, rfl⟩ := row_form hK.at0
        rw [← HPR.out] at hK ⊢
        go_wp2_with fail
        go_ret2
        exact .inr ⟨HC.out, A0, c0, rfl, hK.sel [0] 99 (by decide) (by decide)⟩
end Go.Proofs.YtkfbfainhmkkdaaGreat

namespace Go.Proofs.YtkfbfainhmkkdaaGreat
open Go.RowKit Go.Sort
/-- whether multiplying by f keeps its promise for all inputs -/
noncomputable def okF (sh : Bool) (b : Int) (n1 n2 n3 N : Nat) (f : Nat) : Bool := decide (failsL (badB (mulP (turnL sh b f)) b n1 n2 n3 1 f) N = [])
def fpC (b z1 z2 z3 most : Int) : Int := if betB most 0 30 = false then 2 else inC b z1 z2 z3
noncomputable def fpL (b z1 z2 z3 most : Int) (sh : Bool) : List Int := if fpC b z1 z2 z3 most ≠ 0 then [] else failsL (okF sh b z1.toNat z2.toNat z3.toNat (pw b z1.toNat * pw b z2.toNat).toNat) (most.toNat + 1)
def FPRet (b z1 z2 z3 most : Int) (sh : Bool) (w : World) (e : Ending) (w' : World) : Prop := ∃ A c, e = .returned (.tuple #[.slice A (fpL b z1 z2 z3 most sh).length c, .int .i64 (fpC b z1 z2 z3 most)]) ∧ Kn w [rowI A c (fpL b z1 z2 z3 most sh)] w'
theorem fpC_cases (b z1 z2 z3 most : Int) : fpC b z1 z2 z3 most ≠ 0 ∨ (fpC b z1 z2 z3 most = 0 ∧ inC b z1 z2 z3 = 0 ∧ ∃ n1 n2 n3 N M : Nat, z1 = n1 ∧ z2 = n2 ∧ z3 = n3 ∧ most = M ∧ M ≤ 30 ∧ NmB b n1 n2 n3 ∧ ¬ 256 < pw b n1 * pw b n2 ∧ pw b n1 * pw b n2 = (N : Int) ∧ N ≤ 256) := by
  by_cases h : fpC b z1 z2 z3 most = 0
  · refine .inr ⟨h, ?_⟩
    unfold fpC at h
    split at h
    · cases h
    rename_i hm
    have hm := betB_iff.1 (show betB most 0 30 = true by simpa using hm)
    rcases inC_cases b z1 z2 z3 with h2 | ⟨-, n1, n2, n3, e1, e2, e3, hB, hbig⟩
    · exact absurd h h2
    · have hm0 : 0 ≤ pw b n1 * pw b n2 := Int.mul_nonneg (by have := hB.q1; omega) (by have := hB.q2; omega)
      obtain ⟨N, hN⟩ := Int.eq_ofNat_of_zero_le hm0
      obtain ⟨M, hM⟩ := Int.eq_ofNat_of_zero_le hm.1
      exact ⟨h, n1, n2, n3, N, M, e1, e2, e3, hM, by omega, hB, hbig, hN, by omega⟩
  · exact .inl h
theorem fp_bad {b z1 z2 z3 most : Int} {sh : Bool} (h : fpC b z1 z2 z3 most ≠ 0) : fpL b z1 z2 z3 most sh = [] := by unfold fpL; rw [if_pos h]
theorem fp_fine {b : Int} {n1 n2 n3 N M : Nat} {sh : Bool} (h : fpC b n1 n2 n3 M = 0) (hN : pw b n1 * pw b n2 = (N : Int)) : fpL b n1 n2 n3 M sh = failsL (okF sh b n1 n2 n3 N) (M + 1) := by
  have hn : ¬ (fpC b n1 n2 n3 M ≠ 0) := fun h2 => h2 h
  unfold fpL
  rw [if_neg hn]
  simp only [Int.toNat_natCast, hN]
theorem fpL_len (b z1 z2 z3 most : Int) (sh : Bool) : (fpL b z1 z2 z3 most sh).length ≤ 31 := by
  rcases fpC_cases b z1 z2 z3 most with h | ⟨h, -, n1, n2, n3, N, M, rfl, rfl, rfl, rfl, hM, hB, hbig, hN, hN2⟩
  · rw [fp_bad h]; simp
  · rw [fp_fine h hN]; have := failsL_len (okF sh b n1 n2 n3 N) (M + 1); omega
theorem mp_fine {b : Int} {f : Nat} {sh : Bool} {w : World} {P : Calls Tryz.prog 11 #[.int .i64 b, .int .i64 f, .bool sh] w (MPRet b f sh w)} (hc : trnC b f = 0) :
    Calls Tryz.prog 11 #[.int .i64 b, .int .i64 f, .bool sh] w fun e w' => ∃ A c, e = .returned (.tuple #[.slice A (mulP (turnL sh b f)).length c, .int .i64 0]) ∧ Kn w [rowIns (.slice A (mulP (turnL sh b f)).length c) (mulP (turnL sh b f))] w' := by
  refine P.mono ?_
  rintro e w' (⟨h, -⟩ | ⟨-, h⟩)
  · rw [hc] at h; cases h
  · exact h
theorem spec_mp_fine {b : Int} {f : Nat} {sh : Bool} {w : World} {P : Calls Tryz.prog 12 #[.int .i64 b, .int .i64 f, .bool sh] w (MPRet b f sh w)} (hc : trnC b f = 0) :
    Calls Tryz.prog 12 #[.int .i64 b, .int .i64 f, .bool sh] w fun e w' => ∃ A c, e = .returned (.tuple #[.slice A (mulP (turnL sh b f)).length c, .int .i64 0]) ∧ Kn w [rowIns (.slice A (mulP (turnL sh b f)).length c) (mulP (turnL sh b f))] w' := by
  refine P.mono ?_
  rintro e w' (⟨h, -⟩ | ⟨-, h⟩)
  · rw [hc] at h; cases h
  · exact h
theorem trnC_fine {b : Int} {n1 n2 n3 : Nat} (hB : NmB b n1 n2 n3) {f : Nat} (hf : f ≤ 1000) : trnC b f = 0 := by
  unfold trnC
  rw [if_pos]
  rw [Bool.and_eq_true, betB_iff, betB_iff]
  have := hB.b1
  have := hB.b2
  omega
theorem take_one {α : Type} {xs : List α} : (xs = [] ∧ xs.take 1 = []) ∨ (xs ≠ [] ∧ ∃ x, xs.take 1 = [x]) := by
  cases xs with
  | nil => exact .inl ⟨rfl, rfl⟩
  | cons x xs => exact .inr ⟨by simp, x, rfl⟩
set_option maxRecDepth 100000 in
set_option maxHeartbeats 6400000 in
theorem FactorProofs_any (b z1 z2 z3 most : Int) (sh : Bool) (w : World) :
    Calls Tryz.prog 35 #[.int .i64 b, .int .i64 z1, .int .i64 z2, .int .i64 z3, .int .i64 most, .bool sh] w (FPRet b z1 z2 z3 most sh w) := by
  unfold FPRet
  rcases fpC_cases b z1 z2 z3 most with hb | ⟨h0, hi0, n1, n2, n3, N, M, rfl, rfl, rfl, rfl, hM, hB, hbig, hN, hN2⟩
  · have hl := fp_bad (sh := sh) hb
    rw [hl]
    clear hl
    rcases hm : betB most 0 30 with _ | _
    · have HC := Lib.hid (show fpC b z1 z2 z3 most = 2 by unfold fpC; rw [if_pos hm])
      have KB := Lib.hid (fun W => calls_val (between_B most 0 30 W) (congrArg Value.bool hm))
      rw [HC.out]
      clear hm hb
      go_enter Tryz.func35, Tryz.ntmps35
      go_wp2_with (go_at_call 51; refine (KB.out _).mono ?_; rintro e w' ⟨rfl, hw⟩; have hK := (Kn.nil w).keep hw)
      go_ret2
      exact ⟨none, 0, rfl, hK.nilRow _ _⟩
    · have HC := Lib.hid (show fpC b z1 z2 z3 most = inC b z1 z2 z3 by unfold fpC; rw [if_neg (by rw [hm]; decide)])
      have KB := Lib.hid (fun W => calls_val (between_B most 0 30 W) (congrArg Value.bool hm))
      rw [HC.out] at hb
      have KI := (fun W => inputsOf_bad b z1 z2 z3 W hb)
      rw [HC.out]
      obtain ⟨c, hc⟩ : ∃ c, inC b z1 z2 z3 = c := ⟨_, rfl⟩
      rw [hc] at KI hb
      rw [hc]
      have KI := Lib.hid KI
      have hcb : (c != 0) = true := by simpa using hb
      have hcb2 : (c == 0) = false := by simpa using hb
      clear hm hb hc HC
      go_enter Tryz.func35, Tryz.ntmps35
      go_wp2_with (first | (go_at_call 51; refine (KB.out _).mono ?_; rintro e w' ⟨rfl, hw⟩; have hK := (Kn.nil w).keep hw) | (go_at_call 92; refine (KI.out _).mono ?_; rintro e w'' ⟨rfl, hw2⟩; have hK2 := hK.keep hw2))
      go_ret2
      exact ⟨none, 0, rfl, (hK2.al_ _).nilRow _ _⟩
  have HL := Lib.hid (fp_fine (sh := sh) h0 hN)
  have HC := Lib.hid h0
  have KB := Lib.hid (fun W => calls_val (between_B (M : Int) 0 30 W) (congrArg Value.bool (betB_iff.2 (show (0 : Int) ≤ M ∧ (M : Int) ≤ 30 by omega))))
  have KI := (fun W => inputsOf_fine W hB hbig)
  rw [hN] at KI
  have KM := Lib.hid (fun (f : Nat) (hf : f ≤ 30) W => mp_fine (P := MultiplyProgram_any b f sh W) (trnC_fine hB (by omega)))
  have KF := (fun (f : Nat) (hf : f ≤ 30) (LA : Option Addr) (lc : Nat) (E1 E2 E3 : Option Addr) (g1 g2 g3 : Nat) W q1 q2 q3 hr => failures_any (L := mulP (turnL sh b f)) (n := (mulP (turnL sh b f)).length) (lc := lc) (LA := LA) E1 E2 E3 g1 g2 g3 1 f 1 W hB hN hN2 q1 q2 q3 (mulP_ok hB.b1 hB.b2 (by omega) (by omega)) hr (show isP 1 f = true from betB_iff.2 (by omega)) (by decide))
  have HOK := Lib.hid (fun f : Nat => show okF sh b n1 n2 n3 N f = decide (failsL (badB (mulP (turnL sh b f)) b n1 n2 n3 1 f) N = []) from rfl)
  rw [HL.out, HC.out]
  obtain ⟨q, hq⟩ : ∃ q, okF sh b n1 n2 n3 N = q := ⟨_, rfl⟩
  rw [hq] at HOK
  rw [hq]
  obtain ⟨x1, hx1⟩ : ∃ x, digD b n1 0 = x := ⟨_, rfl⟩
  obtain ⟨x2, hx2⟩ : ∃ x, digD b n2 0 = x := ⟨_, rfl⟩
  obtain ⟨x3, hx3⟩ : ∃ x, digD b n3 0 = x := ⟨_, rfl⟩
  rw [hx1, hx2, hx3] at KI KF
  have KI := Lib.hid KI
  have KF := Lib.hid KF
  have HFL := Lib.hid (failsL_len q)
  have HSC := Lib.hid (failsL_succ q)
  have wM : IntKind.i64.wrap ((M : Int) + 1) = (M : Int) + 1 := wrapI64 (by omega)
  clear h0 hi0 hB hbig hN hx1 hx2 hx3 hq HL HC
  go_enter Tryz.func35, Tryz.ntmps35
  go_wp2_with (first | (go_at_call 51; refine (KB.out _).mono ?_; rintro e w1 ⟨rfl, hw⟩; have hK := (Kn.nil w).keep hw; clear hw) | (go_at_call 92; refine (KI.out _).mono ?_; rintro e w2 ⟨E1, g1, E2, g2, E3, g3, rfl, hKn⟩; have hK2 := hK.join hKn; clear hK hKn))
  have hK3 := ((hK2.al [.int .i64 b, .slice E1 x1.length g1, .int .i64 b, .slice E2 x2.length g2, .int .i64 b, .slice E3 x3.length g3, .int .i64 0, .int .i64 (N : Int)] 115).al [] 2).litRow (size := 1) (n := 0) rfl (by decide)
  simp only [World.size_alloc] at hK3
  go_loopw [16, 37] (fun vv kk wr => ∃ (k : Nat) (A : Option Addr) (c : Nat), k ≤ M + 1 ∧ kk = .int .i64 k ∧ vv = .slice A (failsL q k).length c ∧ Kn w [rowI A c (failsL q k), .blk w2.heap.size [.int .i64 b, .slice E1 x1.length g1, .int .i64 b, .slice E2 x2.length g2, .int .i64 b, .slice E3 x3.length g3, .int .i64 0, .int .i64 (N : Int)] 115, rowI E3 g3 x3, rowI E2 g2 x2, rowI E1 g1 x1] wr) (fun _ kk _ => M + 1 - (intOf kk).toNat)
  case atStart => exact ⟨0, some ⟨w2.heap.size + 1, 0, none⟩, 0, Nat.zero_le _, rfl, rfl, hK3⟩
  case round =>
    obtain ⟨k, A, c, hkN, rfl, rfl, hK⟩ := hrel
    clear hK2 hK3
    have hds := HFL.out k
    have HSK := HSC.out k
    obtain ⟨ds, hd⟩ : ∃ ds, failsL q k = ds := ⟨_, rfl⟩
    have HD := Lib.hid hd
    rw [hd] at HSK hK hds ⊢
    have HSK := Lib.hid HSK
    clear hd
    by_cases hkn : k < M + 1
    · have hk1 : (k : Int) < (M : Int) + 1 := by omega
      have hk30 : k ≤ 30 := by omega
      have KM1 := KM.out k hk30
      have KF1 := KF.out k hk30
      have HO := HOK.out k
      obtain ⟨P, hP⟩ : ∃ P, mulP (turnL sh b k) = P := ⟨_, rfl⟩
      rw [hP] at KM1 KF1 HO
      have hto := take_one (xs := failsL (badB P b n1 n2 n3 1 k) N)
      obtain ⟨rs, hrs⟩ : ∃ rs, (failsL (badB P b n1 n2 n3 1 k) N).take 1 = rs := ⟨_, rfl⟩
      rw [hrs] at KF1 hto
      have KM1 := Lib.hid KM1
      have KF1 := Lib.hid KF1
      clear hP hrs
      rcases hto with ⟨hf, rfl⟩ | ⟨hf, x, rfl⟩
      · have HQ := Lib.hid (show q k = true by rw [HO, hf]; simp)
        clear hf HO
        go_wp2_with fail
        (with_reducible refine (KM1.out _).mono ?_); rintro e w3 ⟨PA, pc, rfl, hKp⟩
        have hK4 := hK.join hKp
        clear hKp hK
        obtain ⟨a1, a2, a3, -⟩ := hK4.cells
        go_wp2_with fail
        (refine (KF1.out PA pc E1 E2 E3 g1 g2 g3 _ (Kn.riv (hK4.sel [5] 99 (by decide) (by decide))) (Kn.riv (hK4.sel [4] 99 (by decide) (by decide))) (Kn.riv (hK4.sel [3] 99 (by decide) (by decide))) (hK4.rlIns).2).mono ?_); rintro e w4 ⟨FA, fc, rfl, hKf⟩
        have hK5 := (hK4.join hKf).sel [2, 3, 4, 5, 6] 99 (by decide) (by decide)
        clear hK4 hKf a1 a2 a3
        obtain ⟨a1, a2, a3, -⟩ := hK5.cells
        go_wp2_with (at_builtin; refine kn_pushI rfl _ _ rfl _ ds rfl rfl (hK5.al [.int .i64 (k : Int)] 2) (by omega) ?_; intro v5 w6 hK9; obtain ⟨A5, c5, rfl⟩ := row_form hK9.at0)
        go_roundw
        case rel =>
          have h2 : failsL q (k + 1) = ds ++ [(k : Int)] := by rw [HSK.out, if_pos HQ.out]
          refine ⟨k + 1, A5, c5, by omega, by go_num, by rw [h2]; simp, ?_⟩
          rw [h2]
          exact hK9
        case measure => simp [intOf]; omega
      · have HQ := Lib.hid (show ¬ q k = true by rw [HO]; simpa using hf)
        clear hf HO
        go_wp2_with fail
        (with_reducible refine (KM1.out _).mono ?_); rintro e w3 ⟨PA, pc, rfl, hKp⟩
        have hK4 := hK.join hKp
        clear hKp hK
        obtain ⟨a1, a2, a3, -⟩ := hK4.cells
        go_wp2_with fail
        (refine (KF1.out PA pc E1 E2 E3 g1 g2 g3 _ (Kn.riv (hK4.sel [5] 99 (by decide) (by decide))) (Kn.riv (hK4.sel [4] 99 (by decide) (by decide))) (Kn.riv (hK4.sel [3] 99 (by decide) (by decide))) (hK4.rlIns).2).mono ?_); rintro e w4 ⟨FA, fc, rfl, hKf⟩
        have hK5 := (hK4.join hKf).sel [2, 3, 4, 5, 6] 99 (by decide) (by decide)
        clear hK4 hKf a1 a2 a3
        go_wp2_with fail
        go_roundw
        case rel =>
          have h2 : failsL q (k + 1) = ds := by rw [HSK.out, if_neg HQ.out]
          refine ⟨k + 1, A, c, by omega, by go_num, by rw [h2], ?_⟩
          rw [h2]
          exact hK5
        case measure => simp [intOf]; omega
    · have hk1 : ¬ (k : Int) < (M : Int) + 1 := by omega
      have hkk : k = M + 1 := by omega
      have HX := Lib.hid (show failsL q (M + 1) = ds by rw [← hkk]; exact HD.out)
      clear hkk
      go_wp2_with fail
      go_ret2
      rw [HX.out]
      exact ⟨A, c, rfl, hK.sel [0] 99 (by decide) (by decide)⟩
set_option maxRecDepth 100000 in
set_option maxHeartbeats 6400000 in
theorem specFactorProofs_any (b z1 z2 z3 most : Int) (sh : Bool) (w : World) :
    Calls Tryz.prog 36 #[.int .i64 b, .int .i64 z1, .int .i64 z2, .int .i64 z3, .int .i64 most, .bool sh] w (FPRet b z1 z2 z3 most sh w) := by
  unfold FPRet
  have KB0 := (fun W => l00In_any most 0 30 W)
  have KS0 := (fun W => l14Size_any b z1 z2 z3 W)
  rcases fpC_cases b z1 z2 z3 most with hb | ⟨h0, hi0, n1, n2, n3, N, M, rfl, rfl, rfl, rfl, hM, hB, hbig, hN, hN2⟩
  · have hl := fp_bad (sh := sh) hb
    rw [hl]
    clear hl
    rcases hn : nmOk b z1 z2 z3 with _ | _
    · have KN := Lib.hid (fun W => specNewMachine_no b z1 z2 z3 W hn)
      have HC := Lib.hid (show fpC b z1 z2 z3 most = 2 by unfold fpC; rw [inC_no hn]; split <;> rfl)
      rw [HC.out]
      clear hn hb KB0 KS0
      go_enter Tryz.func36, Tryz.ntmps36
      go_wp2_with fail
      (with_reducible refine (KN.out _).mono ?_); rintro e w2 ⟨rfl, hw⟩
      have hK2 := (Kn.nil w).keep hw
      go_wp2_with fail
      go_ret2
      exact ⟨none, 0, rfl, (hK2.al_ _).nilRow _ _⟩
    obtain ⟨n1, n2, n3, rfl, rfl, rfl, hB⟩ := nmOk_true hn
    have KN := Lib.hid (fun W => specNewMachine_yes W hB)
    rcases hm : betB most 0 30 with _ | _
    · have HC := Lib.hid (show fpC b n1 n2 n3 most = 2 by unfold fpC; rw [if_pos hm])
      rw [hm] at KB0
      have KB := Lib.hid KB0
      rw [HC.out]
      clear hm hb KS0 hB hn KB0
      go_enter Tryz.func36, Tryz.ntmps36
      go_wp2_with fail
      (with_reducible refine (KN.out _).mono ?_); rintro e w2 ⟨E1, g1, E2, g2, E3, g3, rfl, hKn⟩
      go_wp2_with (go_at_call 59; refine (KB.out _).mono ?_; rintro e w' ⟨rfl, rfl⟩)
      go_ret2
      exact ⟨none, 0, rfl, ((hKn.bare).al_ _).nilRow _ _⟩
    · have HC := Lib.hid (show fpC b n1 n2 n3 most = inC b n1 n2 n3 by unfold fpC; rw [if_neg (by rw [hm]; decide)])
      rw [hm] at KB0
      have KB := Lib.hid KB0
      rw [HC.out] at hb
      rw [HC.out]
      obtain ⟨c, hc⟩ : ∃ c, inC b n1 n2 n3 = c := ⟨_, rfl⟩
      rw [hc] at KS0 hb
      rw [hc]
      have KS := Lib.hid KS0
      have hcb : (c != 0) = true := by simpa using hb
      have hcb2 : (c == 0) = false := by simpa using hb
      clear hm hb hc HC hB hn KB0 KS0
      go_enter Tryz.func36, Tryz.ntmps36
      go_wp2_with fail
      (with_reducible refine (KN.out _).mono ?_); rintro e w2 ⟨E1, g1, E2, g2, E3, g3, rfl, hKn⟩
      go_wp2_with (go_at_call 59; refine (KB.out _).mono ?_; rintro e w' ⟨rfl, rfl⟩)
      refine Calls.kn (hKn.bare.al_ _) ?_; intro w3 hK3
      (with_reducible refine (KS.out _).mono ?_); rintro e w4 ⟨rfl, hw⟩
      have hK4 := hK3.keep hw
      go_wp2_with fail
      go_ret2
      exact ⟨none, 0, rfl, hK4.nilRow _ _⟩
  have HL := Lib.hid (fp_fine (sh := sh) h0 hN)
  have HC := Lib.hid h0
  have KB := Lib.hid (fun W => calls_val (l00In_any (M : Int) 0 30 W) (congrArg Value.bool (betB_iff.2 (show (0 : Int) ≤ M ∧ (M : Int) ≤ 30 by omega))))
  have KN := Lib.hid (fun W => specNewMachine_yes W hB)
  have KS := Lib.hid (fun W => calls_val (l14Size_any b n1 n2 n3 W) (congrArg (Value.int .i64) hi0))
  have KM := Lib.hid (fun (f : Nat) (hf : f ≤ 30) W => spec_mp_fine (P := specMultiplyProgram_any b f sh W) (trnC_fine hB (by omega)))
  have KF := Lib.hid (fun (f : Nat) (hf : f ≤ 30) (LA : Option Addr) (lc : Nat) W hr => l14First_any (L := mulP (turnL sh b f)) (n := (mulP (turnL sh b f)).length) (lc := lc) (LA := LA) 1 f W hB hN hN2 (mulP_ok hB.b1 hB.b2 (by omega) (by omega)) hr (show isP 1 f = true from betB_iff.2 (by omega)))
  have HOK := Lib.hid (fun f : Nat => show okF sh b n1 n2 n3 N f = decide (failsL (badB (mulP (turnL sh b f)) b n1 n2 n3 1 f) N = []) from rfl)
  rw [HL.out, HC.out]
  obtain ⟨q, hq⟩ : ∃ q, okF sh b n1 n2 n3 N = q := ⟨_, rfl⟩
  rw [hq] at HOK
  rw [hq]
  have HFL := Lib.hid (failsL_len q)
  have HSC := Lib.hid (failsL_succ q)
  clear h0 hi0 hB hbig hN hq HL HC KB0 KS0
  go_enter Tryz.func36, Tryz.ntmps36
  go_wp2_with fail
  (with_reducible refine (KN.out _).mono ?_); rintro e w2 ⟨E1, g1, E2, g2, E3, g3, rfl, hKn⟩
  go_wp2_with (go_at_call 59; refine (KB.out _).mono ?_; rintro e w' ⟨rfl, rfl⟩)
  refine Calls.kn (hKn.bare.al_ _) ?_; intro w3 hK3
  (with_reducible refine (KS.out _).mono ?_); rintro e w4 ⟨rfl, hw⟩
  have hK4 := hK3.keep hw
  go_wp2_with fail
  have hK5 := (hK4.al [] 2).litRow (size := 1) (n := 0) rfl (by decide)
  clear hKn hK3 hw hK4
  go_loopw [16, 17] (fun vv kk wr => ∃ (k : Nat) (A : Option Addr) (c : Nat), k ≤ M + 1 ∧ kk = .int .i64 k ∧ vv = .slice A (failsL q k).length c ∧ Kn w [rowI A c (failsL q k)] wr) (fun _ kk _ => M + 1 - (intOf kk).toNat)
  case atStart => exact ⟨0, some ⟨w4.heap.size, 0, none⟩, 0, Nat.zero_le _, rfl, rfl, hK5⟩
  case round =>
    obtain ⟨k, A, c, hkN, rfl, rfl, hK⟩ := hrel
    clear hK5
    have hds := HFL.out k
    have HSK := HSC.out k
    obtain ⟨ds, hd⟩ : ∃ ds, failsL q k = ds := ⟨_, rfl⟩
    have HD := Lib.hid hd
    rw [hd] at HSK hK hds ⊢
    have HSK := Lib.hid HSK
    clear hd
    by_cases hkn : k < M + 1
    · have hk1 : (k : Int) ≤ (M : Int) := by omega
      have hk30 : k ≤ 30 := by omega
      have KM1 := KM.out k hk30
      have KF1 := KF.out k hk30
      have HO := HOK.out k
      obtain ⟨P, hP⟩ : ∃ P, mulP (turnL sh b k) = P := ⟨_, rfl⟩
      rw [hP] at KM1 KF1 HO
      have hhd := head_neg (p := badB P b n1 n2 n3 1 k) (N := N)
      obtain ⟨rs, hrs⟩ : ∃ rs, failsL (badB P b n1 n2 n3 1 k) N = rs := ⟨_, rfl⟩
      rw [hrs] at KF1 hhd HO
      obtain ⟨x, hx⟩ : ∃ x, rs.headD (-1) = x := ⟨_, rfl⟩
      rw [hx] at KF1 hhd
      have KM1 := Lib.hid KM1
      have KF1 := Lib.hid KF1
      clear hP hrs hx
      rcases hhd with ⟨hf, rfl⟩ | ⟨hf, h2, h3, h4⟩
      · have HQ := Lib.hid (show q k = true by rw [HO, hf]; simp)
        clear hf HO
        go_wp2_with fail
        (with_reducible refine (KM1.out _).mono ?_); rintro e w3 ⟨PA, pc, rfl, hKp⟩
        have hK4 := hK.join hKp
        clear hKp hK
        go_wp2_with fail
        (refine (KF1.out PA pc _ (hK4.rlIns).2).mono ?_); rintro e w5 ⟨rfl, hw⟩
        have hK5 := (hK4.keep hw).sel [1] 99 (by decide) (by decide)
        clear hK4 hw
        go_wp2_with (at_builtin; refine kn_pushI rfl _ _ rfl _ ds rfl rfl (hK5.al [.int .i64 (k : Int)] 2) (by omega) ?_; intro v5 w6 hK9; obtain ⟨A5, c5, rfl⟩ := row_form hK9.at0)
        go_roundw
        case rel =>
          have h2 : failsL q (k + 1) = ds ++ [(k : Int)] := by rw [HSK.out, if_pos HQ.out]
          refine ⟨k + 1, A5, c5, by omega, by go_num, by rw [h2]; simp, ?_⟩
          rw [h2]
          exact hK9
        case measure => simp [intOf]; omega
      · have HQ := Lib.hid (show ¬ q k = true by rw [HO]; simpa using hf)
        rw [← h2] at h3 h4
        have hx0 : ¬ x < 0 := by omega
        clear hf HO h2
        go_wp2_with fail
        (with_reducible refine (KM1.out _).mono ?_); rintro e w3 ⟨PA, pc, rfl, hKp⟩
        have hK4 := hK.join hKp
        clear hKp hK
        go_wp2_with fail
        (refine (KF1.out PA pc _ (hK4.rlIns).2).mono ?_); rintro e w5 ⟨rfl, hw⟩
        have hK5 := (hK4.keep hw).sel [1] 99 (by decide) (by decide)
        clear hK4 hw
        go_wp2_with fail
        go_roundw
        case rel =>
          have h2 : failsL q (k + 1) = ds := by rw [HSK.out, if_neg HQ.out]
          refine ⟨k + 1, A, c, by omega, by go_num, by rw [h2], ?_⟩
          rw [h2]
          exact hK5
        case measure => simp [intOf]; omega
    · have hk1 : ¬ (k : Int) ≤ (M : Int) := by omega
      have hkk : k = M + 1 := by omega
      have HX := Lib.hid (show failsL q (M + 1) = ds by rw [← hkk]; exact HD.out)
      clear hkk
      go_wp2_with fail
      go_ret2
      rw [HX.out]
      exact ⟨A, c, rfl, hK.sel [0] 99 (by decide) (by decide)⟩
end Go.Proofs.YtkfbfainhmkkdaaGreat

namespace Go.Proofs.YtkfbfainhmkkdaaGreat
open Go.RowKit Go.Sort
/-- a program in memory -/
structure PE where
  g : Nat
  c : Nat
  L : List Ins
def PE.v (p : PE) : Value := .slice (some ⟨p.g, 0, none⟩) p.L.length p.c
theorem peStable (ps : List PE) : ∀ w w' : World, (∀ p ∈ ps, (rowIns p.v p.L).holds w) → w.heap.size ≤ w'.heap.size → (∀ k, (∃ p ∈ ps, p.g = k) → w'.heap[k]? = w.heap[k]?) → ∀ p ∈ ps, (rowIns p.v p.L).holds w' :=
  fun _ _ h hs hb p hp => Ent.stable (h p hp) hs (fun k hk => hb k ⟨p, hp, by cases hk; rfl⟩)
/-- programs that are owned together -/
def peE (ps : List PE) : Ent := .any (fun k => ∃ p ∈ ps, p.g = k) (fun w => ∀ p ∈ ps, (rowIns p.v p.L).holds w) (peStable ps)
/-- the row of their slices -/
def progsN (g n c : Nat) (ps : List PE) : Ent := .row (.slice (some ⟨g, 0, none⟩) n c) 35 1 n (ps.map PE.v)
section
variable {w0 w : World} {m : List Ent} {ps : List PE}
theorem Kn.pePick (h : Kn w0 (peE ps :: m) w) {p : PE} (hp : p ∈ ps) : Kn w0 (rowIns p.v p.L :: m) w := by
  obtain ⟨ha, hb⟩ := List.pairwise_cons.1 h.apart
  refine ⟨h.below, fun x hx => ?_, fun x hx k hk => ?_, List.pairwise_cons.2 ⟨fun x hx k hk => ?_, hb⟩⟩
  · rcases List.mem_cons.1 hx with rfl | hx
    · exact (h.ents (peE ps) (List.mem_cons_self ..)).1 p hp
    · exact h.ents x (List.mem_cons_of_mem _ hx)
  · rcases List.mem_cons.1 hx with rfl | hx
    · exact h.own (peE ps) (List.mem_cons_self ..) k ⟨p, hp, by cases hk; rfl⟩
    · exact h.own x (List.mem_cons_of_mem _ hx) k hk
  · exact ha x hx k ⟨p, hp, by cases hk; rfl⟩
theorem Kn.peNil (h : Kn w0 m w) : Kn w0 (peE [] :: m) w := by
  refine ⟨h.below, fun x hx => ?_, fun x hx k hk => ?_, List.pairwise_cons.2 ⟨fun x hx k hk => ?_, h.apart⟩⟩
  · rcases List.mem_cons.1 hx with rfl | hx
    · exact ⟨fun p hp => (by cases hp), fun k hk => (by obtain ⟨p, hp, -⟩ := hk; cases hp)⟩
    · exact h.ents x hx
  · rcases List.mem_cons.1 hx with rfl | hx
    · obtain ⟨p, hp, -⟩ := hk; cases hp
    · exact h.own x hx k hk
  · obtain ⟨p, hp, -⟩ := hk; cases hp
theorem Kn.peAdd {g c : Nat} {L : List Ins} (h : Kn w0 (rowIns (.slice (some ⟨g, 0, none⟩) L.length c) L :: peE ps :: m) w) : Kn w0 (peE (ps ++ [⟨g, c, L⟩]) :: m) w := by
  obtain ⟨ha, hb⟩ := List.pairwise_cons.1 h.apart
  obtain ⟨hc, hd⟩ := List.pairwise_cons.1 hb
  have e1 := h.ents _ (List.mem_cons_self ..)
  have e2 := h.ents (peE ps) (List.mem_cons_of_mem _ (List.mem_cons_self ..))
  have hf : ∀ k, (∃ p ∈ ps ++ [(⟨g, c, L⟩ : PE)], p.g = k) → (∃ p ∈ ps, p.g = k) ∨ k = g := fun k hk => by
    obtain ⟨p, hp, rfl⟩ := hk
    rcases List.mem_append.1 hp with hp | hp
    · exact .inl ⟨p, hp, rfl⟩
    · rw [List.mem_singleton.1 hp]; exact .inr rfl
  refine ⟨h.below, fun x hx => ?_, fun x hx k hk => ?_, List.pairwise_cons.2 ⟨fun x hx k hk => ?_, hd⟩⟩
  · rcases List.mem_cons.1 hx with rfl | hx
    · refine ⟨fun p hp => ?_, fun k hk => ?_⟩
      · rcases List.mem_append.1 hp with hp | hp
        · exact e2.1 p hp
        · rw [List.mem_singleton.1 hp]; exact e1
      · rcases hf k hk with hk | rfl
        · exact e2.2 k hk
        · exact Ent.lt e1 rfl
    · exact h.ents x (List.mem_cons_of_mem _ (List.mem_cons_of_mem _ hx))
  · rcases List.mem_cons.1 hx with rfl | hx
    · rcases hf k hk with hk | rfl
      · exact h.own (peE ps) (List.mem_cons_of_mem _ (List.mem_cons_self ..)) k hk
      · exact h.own _ (List.mem_cons_self ..) k rfl
    · exact h.own x (List.mem_cons_of_mem _ (List.mem_cons_of_mem _ hx)) k hk
  · rcases hf k hk with hk | rfl
    · exact hc x hx k hk
    · exact ha x (List.mem_cons_of_mem _ hx) k rfl
end
theorem Kn.peCells {w0 w : World} {m : List Ent} {ps : List PE} (h : Kn w0 (peE ps :: m) w) {g c : Nat} {L : List Ins} (hp : (⟨g, c, L⟩ : PE) ∈ ps) : ∀ j u, (cellsIns L)[j]? = some u → w.cell? ((⟨g, 0, none⟩ : Addr).add j) = some u := by
  have h0 : w.ownsRow 0 80 2 (.slice (some ⟨g, 0, none⟩) L.length c) L.length (cellsIns L) := (h.pePick hp).at0
  intro j u hu
  exact h0.cells (g := g) rfl j u hu
theorem tpPP : TP 130 35 (.slice none 0 0) 1 24 := ⟨Tryz.underlying130, by kernel_rfl, rfl, by decide⟩
/-- the first n programs of s strokes -/
structure PSx (s : Nat) (ps : List PE) (n : Nat) : Prop where
  len : ps.length = n
  at_ : ∀ i (h : i < ps.length), ps[i].L = numP s i
theorem PSx.nil (s : Nat) : PSx s [] 0 := ⟨rfl, fun i h => by simp at h⟩
theorem PSx.snoc {s n : Nat} {ps : List PE} (h : PSx s ps n) {p : PE} (hp : p.L = numP s n) : PSx s (ps ++ [p]) (n + 1) := by
  refine ⟨by rw [List.length_append, h.len]; rfl, fun i hi => ?_⟩
  rw [List.length_append, List.length_singleton] at hi
  rcases Nat.lt_or_ge i ps.length with h1 | h1
  · rw [List.getElem_append_left h1]; exact h.at_ i h1
  · obtain rfl : i = ps.length := by omega
    rw [List.getElem_append_right (Nat.le_refl _)]
    simp only [Nat.sub_self, List.getElem_cons_zero]
    rw [hp, h.len]
theorem numP_ext (s k o : Nat) (ho : o < 4) : numP s k ++ [⟨2 + (o : Int), 1⟩] = numP (s + 1) (4 * k + o) := by
  show _ = numP s ((4 * k + o) / 4) ++ [⟨2 + (((4 * k + o) % 4 : Nat) : Int), 1⟩]
  rw [show (4 * k + o) / 4 = k by omega, show (4 * k + o) % 4 = o by omega]
set_option maxRecDepth 100000 in
set_option maxHeartbeats 12800000 in
theorem ShortestFor_any (b z1 z2 z3 kind arg most : Int) (w : World) :
    Calls Tryz.prog 38 #[.int .i64 b, .int .i64 z1, .int .i64 z2, .int .i64 z3, .int .i64 kind, .int .i64 arg, .int .i64 most] w (SFRet b z1 z2 z3 kind arg most w) := by
  unfold SFRet
  have KA0 := (fun W => isPromise_any kind arg W)
  have KB0 := (fun W => between_B most 0 4 W)
  rcases sf_cases b z1 z2 z3 kind arg most with hb | ⟨h0, hi0, hk0, n1, n2, n3, N, M, rfl, rfl, rfl, rfl, hM, hB, hbig, hN, hN2⟩
  · have HB0 := sf_bad hb
    rcases ha : isP kind arg with _ | _
    · have HB := Lib.hid (show sfL b z1 z2 z3 kind arg most = [] ∧ sfC b z1 z2 z3 kind arg most = 2 from ⟨HB0.1, by rw [HB0.2]; unfold sfC0; rw [ha]; rfl⟩)
      rw [ha] at KA0
      have KA := Lib.hid KA0
      clear hb KB0 KA0 HB0 ha
      go_enter Tryz.func38, Tryz.ntmps38
      go_wp2_with (go_at_call 87; refine (KA.out _).mono ?_; rintro e w' ⟨rfl, rfl⟩)
      go_ret2
      refine ⟨none, 0, ?_, ?_⟩
      · rw [HB.out.1, HB.out.2]; rfl
      · rw [HB.out.1]
        exact (Kn.nil w).nilIns
    rw [ha] at KA0
    have KA := Lib.hid KA0
    rcases hm : betB most 0 4 with _ | _
    · have HB := Lib.hid (show sfL b z1 z2 z3 kind arg most = [] ∧ sfC b z1 z2 z3 kind arg most = 2 from ⟨HB0.1, by rw [HB0.2]; unfold sfC0; rw [ha, hm]; rfl⟩)
      rw [hm] at KB0
      have KB := Lib.hid KB0
      clear hm hb KB0 KA0 HB0 ha
      go_enter Tryz.func38, Tryz.ntmps38
      go_wp2_with (first | (go_at_call 87; refine (KA.out _).mono ?_; rintro e w' ⟨rfl, rfl⟩) | (go_at_call 51; refine (KB.out _).mono ?_; rintro e w' ⟨rfl, hw⟩; have hK := (Kn.nil w).keep hw))
      go_ret2
      refine ⟨none, 0, ?_, ?_⟩
      · rw [HB.out.1, HB.out.2]; rfl
      · rw [HB.out.1]
        exact hK.nilIns
    · have HC := (show sfC0 b z1 z2 z3 kind arg most = inC b z1 z2 z3 by unfold sfC0; rw [ha, hm]; rfl)
      rw [HC] at hb HB0
      rw [hm] at KB0
      have KB := Lib.hid KB0
      have KI := (fun W => inputsOf_bad b z1 z2 z3 W hb)
      obtain ⟨c, hc⟩ : ∃ c, inC b z1 z2 z3 = c := ⟨_, rfl⟩
      rw [hc] at KI hb HB0
      have HB := Lib.hid HB0
      have KI := Lib.hid KI
      have hcb : (c != 0) = true := by simpa using hb
      have hcb2 : (c == 0) = false := by simpa using hb
      clear hm hb hc HC KB0 KA0 ha HB0
      go_enter Tryz.func38, Tryz.ntmps38
      go_wp2_with (first | (go_at_call 87; refine (KA.out _).mono ?_; rintro e w' ⟨rfl, rfl⟩) | (go_at_call 51; refine (KB.out _).mono ?_; rintro e w' ⟨rfl, hw⟩; have hK := (Kn.nil w).keep hw) | (go_at_call 92; refine (KI.out _).mono ?_; rintro e w'' ⟨rfl, hw2⟩; have hK2 := hK.keep hw2))
      go_ret2
      refine ⟨none, 0, ?_, ?_⟩
      · rw [HB.out.1, HB.out.2]; rfl
      · rw [HB.out.1]
        exact (hK2.al_ _).nilIns
  have KB := Lib.hid (fun W => calls_val (between_B (M : Int) 0 4 W) (congrArg Value.bool (betB_iff.2 (show (0 : Int) ≤ M ∧ (M : Int) ≤ 4 by omega))))
  have KA := Lib.hid (fun W => calls_val (isPromise_any kind arg W) (congrArg Value.bool hk0))
  have KI := (fun W => inputsOf_fine W hB hbig)
  rw [hN] at KI
  have KF := (fun (L : List Ins) (hL : vprog L = true) (LA : Option Addr) (lc : Nat) (E1 E2 E3 : Option Addr) (g1 g2 g3 : Nat) W q1 q2 q3 hr => failures_any (L := L) (n := L.length) (lc := lc) (LA := LA) E1 E2 E3 g1 g2 g3 kind arg 1 W hB hN hN2 q1 q2 q3 hL hr hk0 (by decide))
  have HOK := (fun L => show sfQ b n1 n2 n3 N kind arg L = decide (failsL (badB L b n1 n2 n3 kind arg) N = []) from rfl)
  have HFD := (fun n k => sf_found (M := M) (n := n) (k := k) h0 hN)
  have HNO := (sf_none (M := M) h0 hN)
  obtain ⟨q, hq⟩ : ∃ q, sfQ b n1 n2 n3 N kind arg = q := ⟨_, rfl⟩
  rw [hq] at HOK HNO
  simp only [hq] at HFD
  have HFD := Lib.hid HFD
  have HNO := Lib.hid HNO
  have HOK := Lib.hid HOK
  obtain ⟨x1, hx1⟩ : ∃ x, digD b n1 0 = x := ⟨_, rfl⟩
  obtain ⟨x2, hx2⟩ : ∃ x, digD b n2 0 = x := ⟨_, rfl⟩
  obtain ⟨x3, hx3⟩ : ∃ x, digD b n3 0 = x := ⟨_, rfl⟩
  rw [hx1, hx2, hx3] at KI KF
  have KI := Lib.hid KI
  have KF := Lib.hid KF
  clear h0 hi0 hk0 hB hbig hN KB0 KA0 hq hx1 hx2 hx3
  go_enter Tryz.func38, Tryz.ntmps38
  go_wp2_with (first | (go_at_call 87; refine (KA.out _).mono ?_; rintro e w' ⟨rfl, rfl⟩) | (go_at_call 51; refine (KB.out _).mono ?_; rintro e w1 ⟨rfl, hw⟩; have hK := (Kn.nil w).keep hw; clear hw) | (go_at_call 92; refine (KI.out _).mono ?_; rintro e w2 ⟨E1, g1, E2, g2, E3, g3, rfl, hKn⟩; have hK2 := hK.join hKn; clear hK hKn))
  have hK3 := hK2.al [.int .i64 b, .slice E1 x1.length g1, .int .i64 b, .slice E2 x2.length g2, .int .i64 b, .slice E3 x3.length g3, .int .i64 0, .int .i64 (N : Int)] 115
  have hK4 := ((hK3.al [] 80).litRow (size := 2) (n := 0) rfl (by decide)).al [.slice (some ⟨w2.heap.size + 1, 0, none⟩) 0 0] 35
  simp only [World.size_alloc] at hK4
  have hK5 := (hK4.litRow (size := 1) (n := 1) rfl (by decide)).sw1
  have hK6 : Kn w (peE [⟨w2.heap.size + 1, 0, []⟩] :: progsN (w2.heap.size + 1 + 1) 1 1 [⟨w2.heap.size + 1, 0, []⟩] :: [.blk w2.heap.size [.int .i64 b, .slice E1 x1.length g1, .int .i64 b, .slice E2 x2.length g2, .int .i64 b, .slice E3 x3.length g3, .int .i64 0, .int .i64 (N : Int)] 115, rowI E3 g3 x3, rowI E2 g2 x2, rowI E1 g1 x1]) _ := (Kn.peAdd (ps := []) (L := []) (hK5.peNil.sw1))
  have hK7 := hK6.sw1
  clear hK2 hK3 hK4 hK5 hK6
  go_loopw [18, 19] (fun pp ss wr => ∃ (s : Nat) (ps : List PE) (g c P : Nat), s ≤ M ∧ P ≤ 256 ∧ ss = .int .i64 s ∧ pp = .slice (some ⟨g, 0, none⟩) P c ∧ Hid (P = 4 ^ s ∧ PSx s ps P) ∧ Hid (∀ n', n' < s → ∀ k', k' < 4 ^ n' → q (numP n' k') = false) ∧ Kn w (progsN g P c ps :: peE ps :: [.blk w2.heap.size [.int .i64 b, .slice E1 x1.length g1, .int .i64 b, .slice E2 x2.length g2, .int .i64 b, .slice E3 x3.length g3, .int .i64 0, .int .i64 (N : Int)] 115, rowI E3 g3 x3, rowI E2 g2 x2, rowI E1 g1 x1]) wr) (fun _ ss _ => M - (intOf ss).toNat)
  case atStart => exact ⟨0, [⟨w2.heap.size + 1, 0, []⟩], w2.heap.size + 1 + 1, 1, 1, Nat.zero_le _, by decide, rfl, rfl, Lib.hid ⟨rfl, (PSx.nil 0).snoc (p := ⟨w2.heap.size + 1, 0, []⟩) rfl⟩, Lib.hid (fun n' h => absurd h (Nat.not_lt_zero _)), hK7⟩
  case round =>
    obtain ⟨s, ps, g, c, P, hs, hP, rfl, rfl, HPS, HLS, hK⟩ := hrel
    clear hK7
    obtain ⟨wo, hwo⟩ : ∃ wo : World, wo = wr := ⟨_, rfl⟩
    subst hwo
    go_wp2_with fail
    go_loopw [52] (fun kk wr => ∃ (k : Nat), k ≤ P ∧ kk = .int .i64 k ∧ Hid (∀ k', k' < k → q (numP s k') = false) ∧ Kn w (progsN g P c ps :: peE ps :: [.blk w2.heap.size [.int .i64 b, .slice E1 x1.length g1, .int .i64 b, .slice E2 x2.length g2, .int .i64 b, .slice E3 x3.length g3, .int .i64 0, .int .i64 (N : Int)] 115, rowI E3 g3 x3, rowI E2 g2 x2, rowI E1 g1 x1]) wr) (fun kk _ => P - (intOf kk).toNat)
    case atStart => exact ⟨0, Nat.zero_le _, rfl, Lib.hid (fun k' h => absurd h (Nat.not_lt_zero _)), hK⟩
    case round =>
      obtain ⟨k, hk, rfl, HSM, hK2⟩ := hrel
      clear hK
      by_cases hkP : k < P
      · have hk1 : (k : Int) < (P : Int) := by omega
        have hkl : k < ps.length := by rw [HPS.out.2.len]; exact hkP
        obtain ⟨p, hp⟩ : ∃ p, ps[k] = p := ⟨_, rfl⟩
        have hpm : p ∈ ps := by rw [← hp]; exact List.getElem_mem _
        have hpL : p.L = numP s k := by rw [← hp]; exact HPS.out.2.at_ k hkl
        have HPP := Lib.hid (show (ps.map PE.v)[k]? = some (.slice (some ⟨p.g, 0, none⟩) p.L.length p.c) by rw [List.getElem?_map, List.getElem?_eq_getElem hkl, hp]; rfl)
        obtain ⟨pg, pc, L⟩ := p
        replace hpL : L = numP s k := hpL
        obtain ⟨y1, y2⟩ := Kn.rowCell (g := g) (c := c) (n := P) (size := 1) (xs := ps.map PE.v) hK2 HPP.out
        have y1 : wr.cell? ⟨g, k, none⟩ = some (.slice (some ⟨pg, 0, none⟩) L.length pc) := y1
        have HPM := Lib.hid hpm
        have KF1 := KF.out L (by rw [hpL]; exact numP_ok _ _ (by omega)) (some ⟨pg, 0, none⟩) pc E1 E2 E3 g1 g2 g3
        have HO := HOK.out L
        have hto := take_one (xs := failsL (badB L b n1 n2 n3 kind arg) N)
        obtain ⟨rs, hrs⟩ : ∃ rs, (failsL (badB L b n1 n2 n3 kind arg) N).take 1 = rs := ⟨_, rfl⟩
        rw [hrs] at KF1 hto
        have KF1 := Lib.hid KF1
        have HPL := Lib.hid hpL
        have hll : L.length ≤ 100 := by rw [hpL, numP_len]; omega
        clear hp hpm hpL hrs hkl
        rcases hto with ⟨hf, rfl⟩ | ⟨hf, x, rfl⟩
        · have hq1 : q L = true := HO.trans (decide_eq_true hf)
          have hk4 : k < 4 ^ s := Nat.lt_of_lt_of_le hkP (Nat.le_of_eq HPS.out.1)
          have hfd : Found q M s k := ⟨hs, hk4, by rw [← HPL.out]; exact hq1, HLS.out, HSM.out⟩
          have HB := Lib.hid (HFD.out s k hfd)
          clear hq1 hk4 hfd
          clear hf HO
          obtain ⟨a1, a2, a3, -⟩ := hK2.cells
          go_wp2_with fail
          (refine (KF1.out _ (Kn.riv (hK2.sel [5] 99 (by decide) (by decide))) (Kn.riv (hK2.sel [4] 99 (by decide) (by decide))) (Kn.riv (hK2.sel [3] 99 (by decide) (by decide))) ((hK2.drop.pePick HPM.out).rlIns).2).mono ?_); rintro e w4 ⟨FA, fc, rfl, hKf⟩
          have hK3 := hK2.keep hKf.below
          clear hKf a1 a2 a3
          go_wp2_with fail
          go_ret2
          refine ⟨some ⟨pg, 0, none⟩, pc, ?_, ?_⟩
          · rw [HB.out.1, HB.out.2, ← HPL.out]; rfl
          · rw [HB.out.1, ← HPL.out]
            exact (hK3.drop.pePick HPM.out).sel [0] 99 (by decide) (by decide)
        · have hq1 : q L = false := HO.trans (decide_eq_false hf)
          have HNQ := Lib.hid (show q (numP s k) = false by rw [← HPL.out]; exact hq1)
          clear hq1
          clear hf HO
          obtain ⟨a1, a2, a3, -⟩ := hK2.cells
          go_wp2_with fail
          (refine (KF1.out _ (Kn.riv (hK2.sel [5] 99 (by decide) (by decide))) (Kn.riv (hK2.sel [4] 99 (by decide) (by decide))) (Kn.riv (hK2.sel [3] 99 (by decide) (by decide))) ((hK2.drop.pePick HPM.out).rlIns).2).mono ?_); rintro e w4 ⟨FA, fc, rfl, hKf⟩
          have hK3 := hK2.keep hKf.below
          clear hKf a1 a2 a3
          go_wp2_with fail
          go_roundw
          case rel =>
            refine ⟨k + 1, by omega, by go_num, Lib.hid (fun k' h => ?_), hK3⟩
            rcases Nat.lt_or_ge k' k with h1 | h1
            · exact HSM.out k' h1
            · obtain rfl : k' = k := by omega
              exact HNQ.out
          case measure => simp [intOf]; omega
      · have hk1 : ¬ (k : Int) < (P : Int) := by omega
        obtain rfl : P = k := by omega
        by_cases hsM : s = M
        · have hs1 : (s : Int) = (M : Int) := by omega
          have hs2 : ((s : Int) == (M : Int)) = true := by simpa using hs1
          have HB := Lib.hid (HNO.out (fun n hn k' hk' => by
            rcases Nat.lt_or_ge n s with h1 | h1
            · exact HLS.out n h1 k' hk'
            · obtain rfl : n = s := by omega
              exact HSM.out k' (by rw [HPS.out.1]; exact hk')))
          subst hsM
          clear hs1
          go_wp2_with fail
          go_ret2
          refine ⟨none, 0, ?_, ?_⟩
          · rw [HB.out.1, HB.out.2]; rfl
          · rw [HB.out.1]
            exact hK2.bare.nilIns
        · have hs1 : ¬ (s : Int) = (M : Int) := by omega
          have hs2 : ((s : Int) == (M : Int)) = false := by simpa using hs1
          go_wp2_with fail
          obtain ⟨w4, hw4⟩ : ∃ w4 : World, w4 = wr := ⟨_, rfl⟩
          subst hw4
          have hKb := (((hK2.al [] 35).litRow (size := 1) (n := 0) rfl (by decide)).sw2.sw2).peNil
          have hKb : Kn w (progsN w4.heap.size (4 * 0) 0 [] :: peE [] :: progsN g P c ps :: peE ps :: [.blk w2.heap.size [.int .i64 b, .slice E1 x1.length g1, .int .i64 b, .slice E2 x2.length g2, .int .i64 b, .slice E3 x3.length g3, .int .i64 0, .int .i64 (N : Int)] 115, rowI E3 g3 x3, rowI E2 g2 x2, rowI E1 g1 x1]) (w4.alloc (.cells #[] 35)) := hKb.sel [3, 0, 1, 2, 4, 5, 6, 7] 99 (by decide) (by decide)
          go_loopw [22, 71] (fun vv kk wr => ∃ (k g' c' : Nat) (ps' : List PE), k ≤ P ∧ kk = .int .i64 k ∧ vv = .slice (some ⟨g', 0, none⟩) (4 * k) c' ∧ Hid (PSx (s + 1) ps' (4 * k)) ∧ Kn w (progsN g' (4 * k) c' ps' :: peE ps' :: progsN g P c ps :: peE ps :: [.blk w2.heap.size [.int .i64 b, .slice E1 x1.length g1, .int .i64 b, .slice E2 x2.length g2, .int .i64 b, .slice E3 x3.length g3, .int .i64 0, .int .i64 (N : Int)] 115, rowI E3 g3 x3, rowI E2 g2 x2, rowI E1 g1 x1]) wr) (fun _ kk _ => P - (intOf kk).toNat)
          case atStart => exact ⟨0, w4.heap.size, 0, [], Nat.zero_le _, rfl, rfl, Lib.hid (PSx.nil _), hKb⟩
          case round =>
            obtain ⟨k, g', c', ps', hk, rfl, rfl, HQS, hK⟩ := hrel
            clear hKb hK2
            obtain ⟨w5, hw5⟩ : ∃ w5 : World, w5 = wr := ⟨_, rfl⟩
            subst hw5
            by_cases hkP : k < P
            · have hk1 : (k : Int) < (P : Int) := by omega
              have hkl : k < ps.length := by rw [HPS.out.2.len]; exact hkP
              obtain ⟨p, hp⟩ : ∃ p, ps[k] = p := ⟨_, rfl⟩
              have hpm : p ∈ ps := by rw [← hp]; exact List.getElem_mem _
              have hpL : p.L = numP s k := by rw [← hp]; exact HPS.out.2.at_ k hkl
              have HPP := Lib.hid (show (ps.map PE.v)[k]? = some (.slice (some ⟨p.g, 0, none⟩) p.L.length p.c) by rw [List.getElem?_map, List.getElem?_eq_getElem hkl, hp]; rfl)
              obtain ⟨pg, pc, L⟩ := p
              replace hpL : L = numP s k := hpL
              obtain ⟨y1, y2⟩ := Kn.rowCell (g := g) (c := c) (n := P) (size := 1) (xs := ps.map PE.v) (hK.sel [2] 99 (by decide) (by decide)) HPP.out
              have y1 : w5.cell? ⟨g, k, none⟩ = some (.slice (some ⟨pg, 0, none⟩) L.length pc) := y1
              have HPM := Lib.hid hpm
              have HPL := Lib.hid hpL
              have hll : L.length ≤ 100 := by rw [hpL, numP_len]; omega
              clear hp hpm hpL hkl
              go_wp2_with fail
              go_loopw [22, 25] (fun vv oo wr => ∃ (o g' c' : Nat) (ps' : List PE), o ≤ 4 ∧ oo = .int .i64 (2 + (o : Int)) ∧ vv = .slice (some ⟨g', 0, none⟩) (4 * k + o) c' ∧ Hid (PSx (s + 1) ps' (4 * k + o)) ∧ Kn w (progsN g' (4 * k + o) c' ps' :: peE ps' :: progsN g P c ps :: peE ps :: [.blk w2.heap.size [.int .i64 b, .slice E1 x1.length g1, .int .i64 b, .slice E2 x2.length g2, .int .i64 b, .slice E3 x3.length g3, .int .i64 0, .int .i64 (N : Int)] 115, rowI E3 g3 x3, rowI E2 g2 x2, rowI E1 g1 x1]) wr) (fun _ oo _ => 6 - (intOf oo).toNat)
              case atStart => exact ⟨0, g', c', ps', by omega, rfl, rfl, HQS, hK⟩
              case round =>
                obtain ⟨o, g2', c2', qs, ho, rfl, rfl, HQ2, hK2⟩ := hrel
                clear hK y1 y2 HQS
                by_cases ho4 : o < 4
                · have ho1 : 2 + (o : Int) ≤ 5 := by omega
                  have hKa := (hK2.al [] 80).litRow (size := 2) (n := 0) rfl (by decide)
                  have HPC := Lib.hid ((hKa.sel [4] 99 (by decide) (by decide)).peCells HPM.out)
                  have hkb : 4 * k + o ≤ 2000 := by omega
                  have HL1 := Lib.hid (show (L ++ [(⟨2 + (o : Int), 1⟩ : Ins)]).length = L.length + 1 by simp)
                  go_wp2_with (first
                    | (at_builtin; refine kn_appC tpIns rfl _ _ rfl _ 0 [] rfl (ad := ⟨pg, 0, none⟩) (k := L.length) (c := pc) (l := cellsIns L) rfl HPC.out hKa (cellsIns_len L) (cellsIns_one L) (by omega) (by omega) ?_; intro v4 w6 hK4; rw [Nat.zero_add, List.nil_append] at hK4; clear hKa)
                    | (at_builtin; refine kn_pushIns (xs := L) (ys := [⟨2 + (o : Int), 1⟩]) rfl _ _ rfl _ rfl rfl (hK4.al [.int .i64 (2 + (o : Int)), .int .i64 1] 80) (by simp; omega) ?_; intro v7 w7 hK5; obtain ⟨gN, cN, rfl⟩ := Kn.rowForm hK5 (by simp); have hK5 := hK5; rw [HL1.out] at hK5; clear hK4; have hK6 := (hK5.al [.slice (some ⟨gN, 0, none⟩) (L.length + 1) cN] 35).sel [0, 2, 1, 3, 4, 5, 6, 7, 8, 9] 99 (by decide) (by decide))
                    | (at_builtin; refine kn_app tpPP rfl _ _ rfl (.slice (some ⟨g2', 0, none⟩) (4 * k + o) c2') (4 * k + o) (qs.map PE.v) rfl (k := 1) rfl hK6 rfl (fun u hu => by rw [List.mem_singleton.1 hu]; rfl) (by omega) (by omega) ?_; intro v8 w8 hK7; obtain ⟨gz, cz, rfl⟩ := Kn.rowForm hK7 (by omega)))
                  go_roundw
                  case rel =>
                    have hK8 := hK7.sel [1, 2, 0, 3, 4, 5, 6, 7, 8] 99 (by decide) (by decide)
                    rw [← HL1.out] at hK8
                    have hK9 := (Kn.peAdd (g := gN) (c := cN) (L := L ++ [⟨2 + (o : Int), 1⟩]) (ps := qs) hK8).sw1
                    refine ⟨o + 1, gz, cz, qs ++ [⟨gN, cN, L ++ [⟨2 + (o : Int), 1⟩]⟩], by omega, by go_num, rfl, Lib.hid (HQ2.out.snoc ?_), ?_⟩
                    · show L ++ [⟨2 + (o : Int), 1⟩] = _
                      rw [HPL.out]
                      exact numP_ext s k o ho4
                    · unfold progsN
                      rw [List.map_append]
                      exact hK9
                  case measure => simp [intOf]; omega
                · have ho1 : ¬ 2 + (o : Int) ≤ 5 := by omega
                  obtain rfl : o = 4 := by omega
                  go_wp2_with fail
                  go_roundw
                  case rel =>
                    have e4 : 4 * k + 4 = 4 * (k + 1) := by omega
                    rw [e4] at hK2 HQ2
                    exact ⟨k + 1, g2', c2', qs, by omega, by go_num, by rw [e4], HQ2, hK2⟩
                  case measure => simp [intOf]; omega
            · have hk1 : ¬ (k : Int) < (P : Int) := by omega
              obtain rfl : P = k := by omega
              go_wp2_with fail
              go_roundw
              case rel =>
                refine ⟨s + 1, ps', g', c', 4 * P, by omega, ?_, by go_num, rfl, ?_, ?_, hK.sel [0, 1, 4, 5, 6, 7] 99 (by decide) (by decide)⟩
                · have hs4 : s ≤ 3 := by omega
                  have h1 := HPS.out.1
                  have : s = 0 ∨ s = 1 ∨ s = 2 ∨ s = 3 := by omega
                  rcases this with rfl | rfl | rfl | rfl <;> omega
                · refine Lib.hid ⟨?_, HQS.out⟩
                  rw [HPS.out.1, Nat.pow_succ, Nat.mul_comm]
                · refine Lib.hid (fun n' h k' hk' => ?_)
                  rcases Nat.lt_or_ge n' s with h1 | h1
                  · exact HLS.out n' h1 k' hk'
                  · obtain rfl : n' = s := by omega
                    exact HSM.out k' (by rw [HPS.out.1]; exact hk')
              case measure => simp [intOf]; omega
end Go.Proofs.YtkfbfainhmkkdaaGreat

namespace Go.Proofs.YtkfbfainhmkkdaaGreat
open Go.RowKit Go.Sort
noncomputable def moE (t : Tri) (x f : Int) (sh : Bool) : RS := endR (mulP (turnL sh t.a.base f)) (dvStart t 0 x)
def moC (t : Tri) (x f : Int) (sh : Bool) : Int :=
  if vmach t = false then 1 else if trnC t.a.base f = 2 then 2 else if betB x 0 (pw t.a.base t.a.digits.length - 1) = false then 2 else if vplaces t < ((turnL sh t.a.base f).length : Int) ∨ pw t.b.base t.b.digits.length - 1 < x * f then 5 else 0
noncomputable def moM (t : Tri) (x f : Int) (sh : Bool) : Tri := if moC t x f sh = 0 ∧ vmach (moE t x f sh).m = true then (moE t x f sh).m else zTri
noncomputable def moN (t : Tri) (x f : Int) (sh : Bool) : Int := if moC t x f sh = 0 then ((moE t x f sh).tr.length : Int) else 0
def MORet (t : Tri) (x f : Int) (sh : Bool) (w : World) (e : Ending) (w' : World) : Prop := MSRet (moM t x f sh) (moN t x f sh) (moC t x f sh) w e w'
theorem mo_code {t : Tri} {x f c : Int} {sh : Bool} (h : moC t x f sh = c) (hc : ¬ c = 0) : moM t x f sh = zTri ∧ moN t x f sh = 0 ∧ moC t x f sh = c := by
  refine ⟨?_, ?_, h⟩
  · unfold moM; rw [h, if_neg (fun h => hc h.1)]
  · unfold moN; rw [h, if_neg hc]
theorem mo_fine {t : Tri} {x f : Int} {sh : Bool} (h : moC t x f sh = 0) {s : RS} {b : Bool} (he : Ev (mulP (turnL sh t.a.base f)) (.run 0 (mulP (turnL sh t.a.base f)).length) (startR (dvStart t 0 x)) s b) (hg : s.Good) :
    moM t x f sh = s.m ∧ moN t x f sh = (s.tr.length : Int) ∧ moC t x f sh = 0 := by
  have h1 : moE t x f sh = s := endR_eq he
  refine ⟨?_, ?_, h⟩
  · unfold moM; rw [h, h1, if_pos ⟨rfl, hg.m⟩]
  · unfold moN; rw [h, h1, if_pos rfl]
theorem moM_len (t : Tri) (x f : Int) (sh : Bool) : (moM t x f sh).a.digits.length ≤ 16 ∧ (moM t x f sh).b.digits.length ≤ 16 ∧ (moM t x f sh).s.digits.length ≤ 16 := by
  unfold moM
  split
  · rename_i h
    have := sized_of h.2
    exact ⟨this.a, this.b, this.s⟩
  · exact ⟨by decide, by decide, by decide⟩
theorem moStart_ok {t : Tri} {x : Int} (hv : vmach t = true) (hx : betB x 0 (pw t.a.base t.a.digits.length - 1) = true) : vmach (dvStart t 0 x) = true := by
  obtain ⟨k1, k2, k3, e1, e2, f1, f2, l1, p0, p1⟩ := vmach_all hv
  obtain ⟨⟨b1, b2⟩, ⟨n1, n2⟩, -⟩ := vreg_iff.1 k1
  obtain ⟨⟨b3, b4⟩, ⟨n3, n4⟩, -⟩ := vreg_iff.1 k2
  have hx' := betB_iff.1 hx
  have hm := pw_mono t.a.base (by omega) _ _ l1
  have hp := pw_pos t.b.base b3 t.b.digits.length
  have f1' := f1
  rw [← e1] at f1
  refine vmach_mk (t := dvStart t 0 x) (digD_vreg _ b1 b2 _ (by omega) (by omega) x (by omega) (by omega) (by omega)) (digD_vreg _ b3 b4 _ (by omega) (by omega) 0 (by omega) (by omega) (by omega)) (zero_ok k3) e1 e2 ?_ ?_ ?_ (by simp [dvStart]) ?_
  · simp only [dvStart, digD_len]; exact f1'
  · simp only [dvStart, digD_len]; exact f2
  · simp only [dvStart, digD_len]; exact l1
  · simp only [dvStart, vplaces, digD_len]; unfold vplaces at p1; omega
/-- how many instructions shift to the right -/
def cntR : List Ins → Nat
  | [] => 0
  | x :: xs => (if x.op = 4 then 1 else 0) + cntR xs
theorem cntR_app (xs ys : List Ins) : cntR (xs ++ ys) = cntR xs + cntR ys := by
  induction xs with
  | nil => simp [cntR]
  | cons x xs ih => simp only [List.cons_append, cntR, ih]; omega
theorem cntR_take {xs : List Ins} {k : Nat} (h : k < xs.length) : cntR (xs.take (k + 1)) = cntR (xs.take k) + (if xs[k].op = 4 then 1 else 0) := by
  rw [List.take_succ_eq_append_getElem h, cntR_app]; rfl
theorem cntR_le (xs : List Ins) : cntR xs ≤ xs.length := by
  induction xs with
  | nil => simp [cntR]
  | cons x xs ih => simp only [cntR, List.length_cons]; split <;> omega
theorem cntR_ins (k : Nat) (n : Int) : cntR (mulIns k n) = if 0 < k then 1 else 0 := by
  unfold mulIns
  rw [cntR_app]
  have h2 : cntR (if 0 < n then [⟨2, n⟩] else if n < 0 then [⟨3, -n⟩] else []) = 0 := by
    split
    · rfl
    · split <;> rfl
  rw [h2]
  split <;> rfl
theorem cntR_upto (ts : List Int) (k : Nat) : cntR (mulUpto ts k) = k - 1 := by
  induction k with
  | zero => rfl
  | succ k ih =>
    unfold mulUpto
    rw [cntR_app, ih, cntR_ins]
    split <;> omega
theorem cntR_mul (sh : Bool) (b f : Int) (_h0 : 0 ≤ f) : (if 0 < f then 1 else 0) + cntR (mulP (turnL sh b f)) = (turnL sh b f).length := by
  unfold mulP
  rw [cntR_upto]
  by_cases h : 0 < f
  · have : turnL sh b f = turnD sh b f :: turnF sh b 29 (turnN sh b f) := turnF_succ h
    rw [if_pos h, this, List.length_cons]
    omega
  · have : turnL sh b f = [] := turnF_zero h
    rw [if_neg h, this]
    rfl
theorem div_less {X x y : Int} (hX : 0 ≤ X) (hy : 0 < y) : X.tdiv y < x ↔ X < x * y := by
  rw [Int.tdiv_eq_ediv_of_nonneg hX]
  exact Int.ediv_lt_iff_lt_mul hy
set_option maxRecDepth 100000 in
set_option maxHeartbeats 6400000 in
theorem MultiplyOn_any (t : Tri) (A1 A2 A3 : Option Addr) (c1 c2 c3 : Nat) (x f : Int) (sh : Bool) (w : World) (r1 : RI w A1 t.a.digits.length t.a.digits) (r2 : RI w A2 t.b.digits.length t.b.digits) (r3 : RI w A3 t.s.digits.length t.s.digits) (hs : SmallTri t) :
    Calls Tryz.prog 8 #[.agg #[.int .i64 t.a.base, .slice A1 t.a.digits.length c1, .int .i64 t.b.base, .slice A2 t.b.digits.length c2, .int .i64 t.s.base, .slice A3 t.s.digits.length c3, .int .i64 t.carry], .int .i64 x, .int .i64 f, .bool sh] w (MORet t x f sh w) := by
  have KV := (fun W (hW : Below w.heap.size w W) => ValidMachine_any t A1 A2 A3 c1 c2 c3 W (r1.below hW) (r2.below hW) (r3.below hW) hs)
  rcases hv : vmach t with _ | _
  · rw [hv] at KV
    have HB := Lib.hid (mo_code (t := t) (x := x) (f := f) (sh := sh) (c := 1) (by unfold moC; rw [if_pos hv]) (by decide))
    have KV := Lib.hid KV
    clear hv r1 r2 r3 hs
    go_enter Tryz.func8, Tryz.ntmps8
    go_wp2_with fail
    refine Calls.kn (((Kn.nil w).al [.int .i64 t.a.base, .slice A1 t.a.digits.length c1, .int .i64 t.b.base, .slice A2 t.b.digits.length c2, .int .i64 t.s.base, .slice A3 t.s.digits.length c3, .int .i64 t.carry] 28).al [.int .i64 0, .slice none 0 0, .int .i64 0, .slice none 0 0, .int .i64 0, .slice none 0 0, .int .i64 0] 28) ?_; intro w1 hK0
    simp only [World.size_alloc] at hK0
    refine (KV.out _ hK0.below).mono ?_; rintro e w2 ⟨rfl, hw⟩
    have hK1 := hK0.keep hw
    obtain ⟨x1, x2, x3, -⟩ := hK1.cells
    go_wp2_with fail
    refine bodyPost.kn (((((((hK1.st 0 (.int .i64 0)).st 1 (.slice none 0 0)).st 2 (.int .i64 0)).st 3 (.slice none 0 0)).st 4 (.int .i64 0)).st 5 (.slice none 0 0)).st 6 (.int .i64 0)) ?_; intro w6 hK6
    clear x1 x2 x3
    obtain ⟨a1, a2, a3, -⟩ := hK6.cells
    refine bodyPost_ret (v := .tuple #[.agg #[.int .i64 0, .slice none 0 0, .int .i64 0, .slice none 0 0, .int .i64 0, .slice none 0 0, .int .i64 0], .int .i64 0, .int .i64 1]) (by simp [results, Tryz.results8, go_sem, a1]) rfl ?_
    unfold MORet
    rw [HB.out.1, HB.out.2.1, HB.out.2.2]
    exact MSRet.bad hK6.bare
  rw [hv] at KV
  obtain ⟨k1, k2, k3, e1, e2, f1, f2, l1, p0, p1⟩ := vmach_all hv
  obtain ⟨⟨b1, b2⟩, ⟨n1, n2⟩, -⟩ := vreg_iff.1 k1
  obtain ⟨⟨b3, b4⟩, ⟨n3, n4⟩, -⟩ := vreg_iff.1 k2
  obtain ⟨⟨b5, b6⟩, ⟨n5, n6⟩, -⟩ := vreg_iff.1 k3
  have hC0 : moC t x f sh = if trnC t.a.base f = 2 then 2 else if betB x 0 (pw t.a.base t.a.digits.length - 1) = false then 2 else if vplaces t < ((turnL sh t.a.base f).length : Int) ∨ pw t.b.base t.b.digits.length - 1 < x * f then 5 else 0 := by unfold moC; rw [if_neg (by rw [hv]; decide)]
  have KM := (fun W => MultiplyProgram_any t.a.base f sh W)
  unfold MPRet at KM
  rcases trnC_cases t.a.base f with hc | ⟨hc, -, -, h0, h1⟩
  · have HB := Lib.hid (mo_code (t := t) (x := x) (f := f) (sh := sh) (c := 2) (by rw [hC0, if_pos hc]) (by decide))
    have HC := Lib.hid hc
    have KM := Lib.hid KM
    have KV := Lib.hid KV
    clear hv r1 r2 r3 hs k1 k2 k3 hc hC0 e1 e2 f1 f2 l1 p0 p1
    go_enter Tryz.func8, Tryz.ntmps8
    go_wp2_with fail
    refine Calls.kn (((Kn.nil w).al [.int .i64 t.a.base, .slice A1 t.a.digits.length c1, .int .i64 t.b.base, .slice A2 t.b.digits.length c2, .int .i64 t.s.base, .slice A3 t.s.digits.length c3, .int .i64 t.carry] 28).al [.int .i64 0, .slice none 0 0, .int .i64 0, .slice none 0 0, .int .i64 0, .slice none 0 0, .int .i64 0] 28) ?_; intro w1 hK0
    simp only [World.size_alloc] at hK0
    refine (KV.out _ hK0.below).mono ?_; rintro e w2 ⟨rfl, hw⟩
    have hK1 := hK0.keep hw
    clear hK0 hw
    obtain ⟨a1, a2, a3, d1, d2, d3, -⟩ := hK1.cells
    go_wp2_with fail
    refine (KM.out _).mono ?_; rintro e w3 (⟨-, rfl, hw⟩ | ⟨hc, -⟩)
    rotate_left
    · rw [HC.out] at hc; cases hc
    have hK1 := hK1.keep hw
    clear hw a1 a2 a3 d1 d2 d3
    obtain ⟨x1, x2, x3, -⟩ := hK1.cells
    go_wp2_with fail
    refine bodyPost.kn (((((((hK1.st 0 (.int .i64 0)).st 1 (.slice none 0 0)).st 2 (.int .i64 0)).st 3 (.slice none 0 0)).st 4 (.int .i64 0)).st 5 (.slice none 0 0)).st 6 (.int .i64 0)) ?_; intro w6 hK6
    clear x1 x2 x3
    obtain ⟨a1, a2, a3, -⟩ := hK6.cells
    refine bodyPost_ret (v := .tuple #[.agg #[.int .i64 0, .slice none 0 0, .int .i64 0, .slice none 0 0, .int .i64 0, .slice none 0 0, .int .i64 0], .int .i64 0, .int .i64 2]) (by simp [results, Tryz.results8, go_sem, a1]) rfl ?_
    unfold MORet
    rw [HB.out.1, HB.out.2.1, HB.out.2.2]
    exact MSRet.bad hK6.bare
  have hvp := vplaces_bd hv
  have hmo := pw_mono t.a.base b1 _ _ l1
  have pb := pw_pos t.b.base b3 t.b.digits.length
  have pa := pw_pos t.a.base b1 t.a.digits.length
  have pa2 : pw t.a.base t.a.digits.length ≤ 1000000000001 := by rw [e1] at hmo ⊢; omega
  have KN1 := (fun W => values_any t.a.base A1 t.a.digits.length c1 W b1 b2 (by omega))
  have hp1 : powC t.a.base t.a.digits.length = pw t.a.base t.a.digits.length := by unfold powC; rw [if_pos pa2]
  rw [hp1] at KN1
  have KN2 := (fun W => values_any t.b.base A2 t.b.digits.length c2 W b3 b4 (by omega))
  have hp2 : powC t.b.base t.b.digits.length = pw t.b.base t.b.digits.length := by unfold powC; rw [if_pos f1]
  rw [hp2] at KN2
  have hC1 : moC t x f sh = if betB x 0 (pw t.a.base t.a.digits.length - 1) = false then 2 else if vplaces t < ((turnL sh t.a.base f).length : Int) ∨ pw t.b.base t.b.digits.length - 1 < x * f then 5 else 0 := by rw [hC0, if_neg (by rw [hc]; decide)]
  have KM := (fun W => (KM W).mono (R' := fun e w' => ∃ A c, e = .returned (.tuple #[.slice A (mulP (turnL sh t.a.base f)).length c, .int .i64 0]) ∧ Kn W [rowIns (.slice A (mulP (turnL sh t.a.base f)).length c) (mulP (turnL sh t.a.base f))] w') (fun e w' h => h.elim (fun h => absurd (hc.symm.trans h.1) (by decide)) (fun h => h.2)))
  have hcm := cntR_mul sh t.a.base f h0
  have hlp := mulP_ok (sh := sh) b1 b2 h0 h1
  have hln : (mulP (turnL sh t.a.base f)).length ≤ 120 := by
    have h := hlp
    unfold vprog at h
    simp only [Bool.and_eq_true, decide_eq_true_eq] at h
    exact h.2
  obtain ⟨LL, hLL⟩ : ∃ l, mulP (turnL sh t.a.base f) = l := ⟨_, rfl⟩
  obtain ⟨TN, hTN⟩ : ∃ l, (turnL sh t.a.base f).length = l := ⟨_, rfl⟩
  rcases hx : betB x 0 (pw t.a.base t.a.digits.length - 1) with _ | _
  · have KB := (fun W => calls_val (between_B x 0 (pw t.a.base t.a.digits.length - 1) W) (congrArg Value.bool hx))
    have HB := Lib.hid (mo_code (t := t) (x := x) (f := f) (sh := sh) (c := 2) (by rw [hC1, if_pos hx]) (by decide))
    obtain ⟨N1, hN1⟩ : ∃ N, pw t.a.base t.a.digits.length = N := ⟨_, rfl⟩
    rw [hN1] at KN1 KB pa pa2
    rw [hLL] at KM
    have KB := Lib.hid KB
    have KN1 := Lib.hid KN1
    have KM := Lib.hid KM
    have KV := Lib.hid KV
    clear hv r1 r2 r3 hs k1 k2 k3 hc hC0 e1 e2 f1 f2 l1 p0 p1 hC1 KN2 hcm hlp hln hLL hTN hx hmo hp1 hp2 hvp hN1
    go_enter Tryz.func8, Tryz.ntmps8
    go_wp2_with fail
    refine Calls.kn (((Kn.nil w).al [.int .i64 t.a.base, .slice A1 t.a.digits.length c1, .int .i64 t.b.base, .slice A2 t.b.digits.length c2, .int .i64 t.s.base, .slice A3 t.s.digits.length c3, .int .i64 t.carry] 28).al [.int .i64 0, .slice none 0 0, .int .i64 0, .slice none 0 0, .int .i64 0, .slice none 0 0, .int .i64 0] 28) ?_; intro w1 hK0
    simp only [World.size_alloc] at hK0
    refine (KV.out _ hK0.below).mono ?_; rintro e w2 ⟨rfl, hw⟩
    have hK1 := hK0.keep hw
    clear hK0 hw
    obtain ⟨a1, a2, a3, d1, d2, d3, -⟩ := hK1.cells
    go_wp2_with fail
    refine (KM.out _).mono ?_; rintro e w3 ⟨LA, lc, rfl, hKm⟩
    have hK1 := hK1.keep hKm.below
    clear hKm a1 a2 a3 d1 d2 d3
    obtain ⟨a1, a2, a3, d1, d2, d3, -⟩ := hK1.cells
    go_wp2_with fail
    refine (KN1.out _).mono ?_; rintro e w4 ⟨rfl, hw⟩
    have hK1 := hK1.keep hw
    clear hw a1 a2 a3 d1 d2 d3
    go_wp2_with fail
    refine (KB.out _).mono ?_; rintro e w5 ⟨rfl, hw⟩
    have hK1 := hK1.keep hw
    clear hw
    obtain ⟨x1, x2, x3, -⟩ := hK1.cells
    go_wp2_with fail
    refine bodyPost.kn (((((((hK1.st 0 (.int .i64 0)).st 1 (.slice none 0 0)).st 2 (.int .i64 0)).st 3 (.slice none 0 0)).st 4 (.int .i64 0)).st 5 (.slice none 0 0)).st 6 (.int .i64 0)) ?_; intro w6 hK6
    clear x1 x2 x3
    obtain ⟨a1, a2, a3, -⟩ := hK6.cells
    refine bodyPost_ret (v := .tuple #[.agg #[.int .i64 0, .slice none 0 0, .int .i64 0, .slice none 0 0, .int .i64 0, .slice none 0 0, .int .i64 0], .int .i64 0, .int .i64 2]) (by simp [results, Tryz.results8, go_sem, a1]) rfl ?_
    unfold MORet
    rw [HB.out.1, HB.out.2.1, HB.out.2.2]
    exact MSRet.bad hK6.bare
  have hx' := betB_iff.1 hx
  have hst := moStart_ok hv hx
  have KB := (fun W => calls_val (between_B x 0 (pw t.a.base t.a.digits.length - 1) W) (congrArg Value.bool hx))
  have hC2 : moC t x f sh = if vplaces t < ((turnL sh t.a.base f).length : Int) ∨ pw t.b.base t.b.digits.length - 1 < x * f then 5 else 0 := by rw [hC1, if_neg (by rw [hx]; decide)]
  have KP := (fun W (hW : Below w.heap.size w W) => places_any t A1 A2 A3 c1 c2 c3 W (r1.below hW) (r2.below hW) (r3.below hW) n2 n4 n6)
  have KC := (fun W => clearedM_any t A1 A2 A3 c1 c2 c3 W ⟨b1, b2⟩ ⟨b3, b4⟩ ⟨b5, b6⟩ (sized_of hv))
  have hszc : Sized (clrT t) := by have := sized_of hv; exact ⟨by simp only [clrT, digD_len]; exact this.a0, by simp only [clrT, digD_len]; exact this.b0, by simp only [clrT, digD_len]; exact this.s0, by simp only [clrT, digD_len]; exact this.a, by simp only [clrT, digD_len]; exact this.b, by simp only [clrT, digD_len]; exact this.s⟩
  have KS := (fun (B1 B2 B3 : Option Addr) (h1 h2 h3 : Nat) W q1 q2 q3 => withSetting_any (clrT t) B1 B2 B3 h1 h2 h3 x W q1 q2 q3 hszc b1 b2 (by omega) (by omega))
  simp only [clrT, digD_len, rowI] at KS KC
  have KRP := (fun (LA : Option Addr) (lc : Nat) (E1 : Option Addr) (g1 : Nat) (E2 : Option Addr) (g2 : Nat) (E3 : Option Addr) (g3 : Nat) W q1 q2 q3 hq => runProgram_any (lc := lc) (LA := LA) (L := mulP (turnL sh t.a.base f)) (n := (mulP (turnL sh t.a.base f)).length) (dvStart t 0 x) E1 E2 E3 g1 g2 g3 W q1 q2 q3 hst hlp hq)
  unfold RunPI at KRP
  simp only [dvStart, digD_len] at KRP
  have hdl := div_less (X := pw t.b.base t.b.digits.length - 1) (x := x) (y := f) (by omega)
  have hmf := (fun (s : RS) (b : Bool) h he hg => mo_fine (t := t) (x := x) (f := f) (sh := sh) (s := s) (b := b) h he hg)
  unfold dvStart at hmf
  obtain ⟨N1, hN1⟩ : ∃ N, pw t.a.base t.a.digits.length = N := ⟨_, rfl⟩
  obtain ⟨N2, hN2⟩ : ∃ N, pw t.b.base t.b.digits.length = N := ⟨_, rfl⟩
  obtain ⟨PL, hPL⟩ : ∃ N, (vplaces t) = N := ⟨_, rfl⟩
  rw [hN1] at KN1 KB pa pa2 hx'
  rw [hN2] at KN2 pb f1 hdl hC2
  rw [hLL] at KM KRP hcm hln hmf
  rw [hTN] at hcm hC2
  rw [hPL] at KP hvp hC2
  obtain ⟨ds, hds⟩ : ∃ l, digD t.a.base t.a.digits.length x = l := ⟨_, rfl⟩
  obtain ⟨fs, hfs⟩ : ∃ l, digD t.s.base t.s.digits.length 0 = l := ⟨_, rfl⟩
  obtain ⟨zs, hzs⟩ : ∃ l, digD t.b.base t.b.digits.length 0 = l := ⟨_, rfl⟩
  obtain ⟨ys, hys⟩ : ∃ l, digD t.a.base t.a.digits.length 0 = l := ⟨_, rfl⟩
  obtain ⟨ok, hok⟩ : ∃ l, (restD t.a.base t.a.digits.length x == 0) = l := ⟨_, rfl⟩
  rw [hds, hzs, hfs] at KRP hmf
  rw [hfs, hzs, hds, hys, hok] at KS
  rw [hfs, hzs, hys] at KC
  have hplb : 1 ≤ PL ∧ PL ≤ 16 := by omega
  have hdq : 0 < f → 0 ≤ (N2 - 1).tdiv f ∧ (N2 - 1).tdiv f ≤ N2 - 1 := fun h => by
    rw [Int.tdiv_eq_ediv_of_nonneg (by omega)]
    exact ⟨Int.ediv_nonneg (by omega) (by omega), Int.ediv_le_self _ (by omega)⟩
  obtain ⟨Q, hQ⟩ : ∃ q, (N2 - 1).tdiv f = q := ⟨_, rfl⟩
  rw [hQ] at hdq hdl
  have HX5 := Lib.hid (fun (h : PL < (TN : Int) ∨ N2 - 1 < x * f) => mo_code (t := t) (x := x) (f := f) (sh := sh) (c := 5) (by rw [hC2, if_pos h]) (by decide))
  have HX0 := Lib.hid (fun (h : ¬ (PL < (TN : Int) ∨ N2 - 1 < x * f)) => show moC t x f sh = 0 by rw [hC2, if_neg h])
  have HDL := Lib.hid hdl
  have HMF := Lib.hid hmf
  have HCM := Lib.hid hcm
  have HCT := Lib.hid (fun k (h : k < LL.length) => cntR_take h)
  have HCL := Lib.hid (fun k => Nat.le_trans (cntR_le (LL.take k)) (by rw [List.length_take]; exact Nat.min_le_right _ _))
  have HTK := Lib.hid (show LL.take LL.length = LL from List.take_length)
  have KB := Lib.hid KB
  have KN1 := Lib.hid KN1
  have KN2 := Lib.hid KN2
  have KM := Lib.hid KM
  have KV := Lib.hid KV
  have KP := Lib.hid KP
  have KC := Lib.hid KC
  have KS := Lib.hid KS
  have KRP := Lib.hid KRP
  clear hv r1 r2 r3 hs k1 k2 k3 hc hC0 e1 e2 f2 l1 p0 p1 hC1 hC2 hcm hlp hLL hTN hx hmo hp1 hp2 hvp hN1 hN2 hPL hst hszc hds hfs hzs hys hok hdl hmf
  go_enter Tryz.func8, Tryz.ntmps8
  go_wp2_with fail
  refine Calls.kn (((Kn.nil w).al [.int .i64 t.a.base, .slice A1 t.a.digits.length c1, .int .i64 t.b.base, .slice A2 t.b.digits.length c2, .int .i64 t.s.base, .slice A3 t.s.digits.length c3, .int .i64 t.carry] 28).al [.int .i64 0, .slice none 0 0, .int .i64 0, .slice none 0 0, .int .i64 0, .slice none 0 0, .int .i64 0] 28) ?_; intro w1 hK0
  simp only [World.size_alloc] at hK0
  refine (KV.out _ hK0.below).mono ?_; rintro e w2 ⟨rfl, hw⟩
  have hK1 := hK0.keep hw
  clear hK0 hw
  obtain ⟨a1, a2, a3, d1, d2, d3, -⟩ := hK1.cells
  go_wp2_with fail
  refine (KM.out _).mono ?_; rintro e w3 ⟨LA, lc, rfl, hKm⟩
  have hK2 : Kn w [rowIns (.slice LA LL.length lc) LL, .blk (w.heap.size + 1) [.int .i64 0, .slice none 0 0, .int .i64 0, .slice none 0 0, .int .i64 0, .slice none 0 0, .int .i64 0] 28, .blk w.heap.size [.int .i64 t.a.base, .slice A1 t.a.digits.length c1, .int .i64 t.b.base, .slice A2 t.b.digits.length c2, .int .i64 t.s.base, .slice A3 t.s.digits.length c3, .int .i64 t.carry] 28] w3 := hK1.join hKm
  clear hK1 hKm a1 a2 a3 d1 d2 d3
  obtain ⟨a1, a2, a3, d1, d2, d3, -⟩ := hK2.cells
  go_wp2_with fail
  refine (KN1.out _).mono ?_; rintro e w4 ⟨rfl, hw⟩
  have hK2 := hK2.keep hw
  clear hw a1 a2 a3 d1 d2 d3
  go_wp2_with fail
  refine (KB.out _).mono ?_; rintro e w5 ⟨rfl, hw⟩
  have hK2 := hK2.keep hw
  clear hw
  obtain ⟨P0, hP0⟩ : ∃ p : Nat, (if 0 < f then 1 else 0) = p := ⟨_, rfl⟩
  have hP0b : P0 ≤ 1 := by rw [← hP0]; split <;> omega
  have hcases : (0 < f ∧ P0 = 1) ∨ (¬ 0 < f ∧ P0 = 0) := by
    rw [← hP0]
    by_cases h : 0 < f
    · exact .inl ⟨h, if_pos h⟩
    · exact .inr ⟨h, if_neg h⟩
  have HCM := HCM.out
  rw [hP0] at HCM
  have HCM := Lib.hid HCM
  clear hP0
  rcases hcases with ⟨hf0, rfl⟩ | ⟨hf0, rfl⟩
  all_goals
    go_wp2_with fail
  · go_loopw [13, 48] (fun pp kk wr => ∃ (k : Nat), k ≤ LL.length ∧ pp = .int .i64 ((1 + cntR (LL.take k) : Nat) : Int) ∧ kk = .int .i64 k ∧ Kn w [rowIns (.slice LA LL.length lc) LL, .blk (w.heap.size + 1) [.int .i64 0, .slice none 0 0, .int .i64 0, .slice none 0 0, .int .i64 0, .slice none 0 0, .int .i64 0] 28, .blk w.heap.size [.int .i64 t.a.base, .slice A1 t.a.digits.length c1, .int .i64 t.b.base, .slice A2 t.b.digits.length c2, .int .i64 t.s.base, .slice A3 t.s.digits.length c3, .int .i64 t.carry] 28] wr) (fun _ kk _ => LL.length - (intOf kk).toNat)
    case atStart => exact ⟨0, Nat.zero_le _, by simp [cntR], rfl, hK2⟩
    case round =>
      obtain ⟨k, hk, rfl, rfl, hK⟩ := hrel
      clear hK2
      have hcl := HCL.out k
      by_cases hkn : k < LL.length
      · have hk1 : (k : Int) < (LL.length : Int) := by omega
        obtain ⟨ad, hA, hlt, hkl, hc1, hc2⟩ := ((hK.rlIns).2).at_ hkn
        subst hA
        have hct := HCT.out k hkl
        obtain ⟨y, hy⟩ : ∃ y, LL[k] = y := ⟨_, rfl⟩
        rw [hy] at hct hc1 hc2
        have HCK := Lib.hid hct
        obtain ⟨C, hC⟩ : ∃ C, cntR (LL.take k) = C := ⟨_, rfl⟩
        have HCC := Lib.hid hC
        rw [hC] at hcl ⊢
        clear hy hct hC
        rcases h4 : (y.op == 4) with _ | _
        · have HN4 := Lib.hid (show ¬ y.op = 4 by simpa using h4)
          go_wp2_with fail
          go_roundw
          case rel => exact ⟨k + 1, by omega, by rw [HCK.out, if_neg HN4.out, HCC.out]; go_num, by go_num, hK.al_ _⟩
          case measure => simp [intOf]; omega
        · have HN4 := Lib.hid (show y.op = 4 by simpa using h4)
          go_wp2_with fail
          go_roundw
          case rel => exact ⟨k + 1, by omega, by rw [HCK.out, if_pos HN4.out, HCC.out]; go_num, by go_num, hK.al_ _⟩
          case measure => simp [intOf]; omega
      · have hk1 : ¬ (k : Int) < (LL.length : Int) := by omega
        have hkk : k = LL.length := by omega
        have HE : Hid (1 + cntR (LL.take k) = TN) := by rw [Hid, hkk, HTK.out]; exact HCM.out
        rw [HE.out]
        clear hkk hcl
        have hK2 := hK
        clear hK
        obtain ⟨x1, x2, x3, y1, y2, y3, -⟩ := hK2.cells
        have hPLc : PL < (TN : Int) ∨ (¬ PL < (TN : Int) ∧ Q < x) ∨ (¬ PL < (TN : Int) ∧ ¬ Q < x) := by omega
        have hdq0 := hdq hf0
        have wq : IntKind.i64.wrap Q = Q := wrapI64 (by omega)
        have wq2 : IntKind.i64.wrap ((N2 - 1).tdiv f) = Q := by rw [hQ]; exact wq
        have nf1 : f ≠ 0 := by omega
        have nf2 : (f == 0) = false := by simp; omega
        clear hdq
        rcases hPLc with hA | ⟨hA, hA2⟩ | ⟨hA, hA2⟩
        · have HB := Lib.hid (HX5.out (.inl hA))
          go_wp2_with fail
          refine (KP.out _ hK2.below).mono ?_; rintro e w7 ⟨rfl, hw⟩
          have hK1 := (hK2.keep hw).drop
          clear hw hK2 x1 x2 x3 y1 y2 y3
          obtain ⟨x1, x2, x3, -⟩ := hK1.cells
          go_wp2_with fail
          refine bodyPost.kn (((((((hK1.st 0 (.int .i64 0)).st 1 (.slice none 0 0)).st 2 (.int .i64 0)).st 3 (.slice none 0 0)).st 4 (.int .i64 0)).st 5 (.slice none 0 0)).st 6 (.int .i64 0)) ?_; intro w6 hK6
          clear x1 x2 x3
          obtain ⟨a1, a2, a3, -⟩ := hK6.cells
          refine bodyPost_ret (v := .tuple #[.agg #[.int .i64 0, .slice none 0 0, .int .i64 0, .slice none 0 0, .int .i64 0, .slice none 0 0, .int .i64 0], .int .i64 0, .int .i64 5]) (by simp [results, Tryz.results8, go_sem, a1]) rfl ?_
          unfold MORet
          rw [HB.out.1, HB.out.2.1, HB.out.2.2]
          exact MSRet.bad hK6.bare
        · have HB := Lib.hid (HX5.out (.inr ((HDL.out hf0).1 hA2)))
          go_wp2_with fail
          refine (KP.out _ hK2.below).mono ?_; rintro e w7 ⟨rfl, hw⟩
          have hK2 := hK2.keep hw
          clear hw x1 x2 x3 y1 y2 y3
          obtain ⟨x1, x2, x3, y1, y2, y3, -⟩ := hK2.cells
          go_wp2_with fail
          refine (KN2.out _).mono ?_; rintro e w8 ⟨rfl, hw⟩
          have hK1 := (hK2.keep hw).drop
          clear hw hK2 x1 x2 x3 y1 y2 y3
          obtain ⟨x1, x2, x3, -⟩ := hK1.cells
          go_wp2_with fail
          refine bodyPost.kn (((((((hK1.st 0 (.int .i64 0)).st 1 (.slice none 0 0)).st 2 (.int .i64 0)).st 3 (.slice none 0 0)).st 4 (.int .i64 0)).st 5 (.slice none 0 0)).st 6 (.int .i64 0)) ?_; intro w6 hK6
          clear x1 x2 x3
          obtain ⟨a1, a2, a3, -⟩ := hK6.cells
          refine bodyPost_ret (v := .tuple #[.agg #[.int .i64 0, .slice none 0 0, .int .i64 0, .slice none 0 0, .int .i64 0, .slice none 0 0, .int .i64 0], .int .i64 0, .int .i64 5]) (by simp [results, Tryz.results8, go_sem, a1]) rfl ?_
          unfold MORet
          rw [HB.out.1, HB.out.2.1, HB.out.2.2]
          exact MSRet.bad hK6.bare
        · have HZ := Lib.hid (HX0.out (fun h => h.elim hA (fun h => hA2 ((HDL.out hf0).2 h))))
          go_wp2_with fail
          refine (KP.out _ hK2.below).mono ?_; rintro e w7 ⟨rfl, hw⟩
          have hK2 := hK2.keep hw
          clear hw x1 x2 x3 y1 y2 y3
          obtain ⟨x1, x2, x3, y1, y2, y3, -⟩ := hK2.cells
          go_wp2_with fail
          refine (KN2.out _).mono ?_; rintro e w8 ⟨rfl, hw⟩
          have hK2 := hK2.keep hw
          clear hw x1 x2 x3 y1 y2 y3
          obtain ⟨x1, x2, x3, y1, y2, y3, -⟩ := hK2.cells
          go_wp2_with fail
          refine (KC.out _).mono ?_; rintro e w9 ⟨G1, h1, G2, h2, G3, h3, rfl, hKc⟩
          have hK9 : Kn w [rowN G3 t.s.digits.length h3 fs, rowN G2 t.b.digits.length h2 zs, rowN G1 t.a.digits.length h1 ys, rowIns (.slice LA LL.length lc) LL, .blk (w.heap.size + 1) [.int .i64 0, .slice none 0 0, .int .i64 0, .slice none 0 0, .int .i64 0, .slice none 0 0, .int .i64 0] 28, .blk w.heap.size [.int .i64 t.a.base, .slice A1 t.a.digits.length c1, .int .i64 t.b.base, .slice A2 t.b.digits.length c2, .int .i64 t.s.base, .slice A3 t.s.digits.length c3, .int .i64 t.carry] 28] w9 := hK2.join hKc
          clear hK2 hKc x1 x2 x3 y1 y2 y3
          go_wp2_with fail
          refine (KS.out _ _ _ _ _ _ _ (Kn.riN (hK9.sel [2] 99 (by decide) (by decide))) (Kn.riN (hK9.sel [1] 99 (by decide) (by decide))) (Kn.riN hK9)).mono ?_; rintro e w10 ⟨E1, g1, E2, g2, E3, g3, rfl, hKs⟩
          have hK10 : Kn w [rowN E3 t.s.digits.length g3 fs, rowN E2 t.b.digits.length g2 zs, rowN E1 t.a.digits.length g1 ds, rowIns (.slice LA LL.length lc) LL, .blk (w.heap.size + 1) [.int .i64 0, .slice none 0 0, .int .i64 0, .slice none 0 0, .int .i64 0, .slice none 0 0, .int .i64 0] 28] w10 := (hK9.join hKs).sel [0, 1, 2, 6, 7] 99 (by decide) (by decide)
          clear hK9 hKs
          go_wp2_with fail
          refine Calls.kn (hK10.al [.int .i64 t.a.base, .slice E1 t.a.digits.length g1, .int .i64 t.b.base, .slice E2 t.b.digits.length g2, .int .i64 t.s.base, .slice E3 t.s.digits.length g3, .int .i64 0] 28) ?_; intro w11 hK11
          refine (KRP.out _ _ _ _ _ _ _ _ _ (Kn.riN (hK11.sel [3] 99 (by decide) (by decide))) (Kn.riN (hK11.sel [2] 99 (by decide) (by decide))) (Kn.riN (hK11.sel [1] 99 (by decide) (by decide))) (Kn.rlIns (hK11.sel [4] 99 (by decide) (by decide))).2).mono ?_; rintro e w12 ⟨g, s, b', rfl, he, ⟨SA, sc, B1, d1, B2, d2, B3, d3, hKr⟩, hg⟩
          have HB := Lib.hid (HMF.out s b' HZ.out he hg)
          have hK3 := (hK11.join hKr).sel [0, 1, 2, 3, 4, 10] 99 (by decide) (by decide)
          clear hK10 hK11 hKr he hg
          obtain ⟨a1, a2, a3, q1, q2, q3, -⟩ := hK3.cells
          go_wp2_with fail
          have HG := Lib.hid (And.intro (hK3.drew.cellIs 9 (.slice SA s.tr.length sc) rfl) (box7' hK3.drew))
          have hK4 := (((((((hK3.front 5 rfl).st 0 (.int .i64 s.m.a.base)).st 1 (.slice B1 s.m.a.digits.length d1)).st 2 (.int .i64 s.m.b.base)).st 3 (.slice B2 s.m.b.digits.length d2)).st 4 (.int .i64 s.m.s.base)).st 5 (.slice B3 s.m.s.digits.length d3)).st 6 (.int .i64 s.m.carry)
          have HS := Lib.hid (And.intro (hK4.drew.drop.cellIs 9 (.slice SA s.tr.length sc) rfl) (box7' hK4.drew.drop))
          go_region_held3 (fun W => W.cell? ⟨g, 9, none⟩ = some (.slice SA s.tr.length sc) ∧ W.cell? ⟨g, 0, none⟩ = some (.int .i64 s.m.a.base) ∧ W.cell? ⟨g, 1, none⟩ = some (.slice B1 s.m.a.digits.length d1) ∧ W.cell? ⟨g, 2, none⟩ = some (.int .i64 s.m.b.base) ∧ W.cell? ⟨g, 3, none⟩ = some (.slice B2 s.m.b.digits.length d2) ∧ W.cell? ⟨g, 4, none⟩ = some (.int .i64 s.m.s.base) ∧ W.cell? ⟨g, 5, none⟩ = some (.slice B3 s.m.s.digits.length d3) ∧ W.cell? ⟨g, 6, none⟩ = some (.int .i64 s.m.carry)) (first | with_reducible exact HG.out | with_reducible exact HS.out) (fail)
          all_goals
            go_wp2_with fail
            refine bodyPost.kn hK4.drew ?_; intro w6 hK6
            clear a1 a2 a3 q1 q2 q3
            obtain ⟨a1, a2, a3, -⟩ := hK6.cells
            refine bodyPost_ret (v := .tuple #[.agg #[.int .i64 s.m.a.base, .slice B1 s.m.a.digits.length d1, .int .i64 s.m.b.base, .slice B2 s.m.b.digits.length d2, .int .i64 s.m.s.base, .slice B3 s.m.s.digits.length d3, .int .i64 s.m.carry], .int .i64 s.tr.length, .int .i64 0]) (by simp [results, Tryz.results8, go_sem, a1]) rfl ?_
            unfold MORet
            rw [HB.out.1, HB.out.2.1, HB.out.2.2]
            exact ⟨B1, d1, B2, d2, B3, d3, rfl, hK6.sel [2, 3, 4] 99 (by decide) (by decide)⟩
  · go_loopw [13, 48] (fun pp kk wr => ∃ (k : Nat), k ≤ LL.length ∧ pp = .int .i64 ((0 + cntR (LL.take k) : Nat) : Int) ∧ kk = .int .i64 k ∧ Kn w [rowIns (.slice LA LL.length lc) LL, .blk (w.heap.size + 1) [.int .i64 0, .slice none 0 0, .int .i64 0, .slice none 0 0, .int .i64 0, .slice none 0 0, .int .i64 0] 28, .blk w.heap.size [.int .i64 t.a.base, .slice A1 t.a.digits.length c1, .int .i64 t.b.base, .slice A2 t.b.digits.length c2, .int .i64 t.s.base, .slice A3 t.s.digits.length c3, .int .i64 t.carry] 28] wr) (fun _ kk _ => LL.length - (intOf kk).toNat)
    case atStart => exact ⟨0, Nat.zero_le _, by simp [cntR], rfl, hK2⟩
    case round =>
      obtain ⟨k, hk, rfl, rfl, hK⟩ := hrel
      clear hK2
      have hcl := HCL.out k
      by_cases hkn : k < LL.length
      · have hk1 : (k : Int) < (LL.length : Int) := by omega
        obtain ⟨ad, hA, hlt, hkl, hc1, hc2⟩ := ((hK.rlIns).2).at_ hkn
        subst hA
        have hct := HCT.out k hkl
        obtain ⟨y, hy⟩ : ∃ y, LL[k] = y := ⟨_, rfl⟩
        rw [hy] at hct hc1 hc2
        have HCK := Lib.hid hct
        obtain ⟨C, hC⟩ : ∃ C, cntR (LL.take k) = C := ⟨_, rfl⟩
        have HCC := Lib.hid hC
        rw [hC] at hcl ⊢
        clear hy hct hC
        rcases h4 : (y.op == 4) with _ | _
        · have HN4 := Lib.hid (show ¬ y.op = 4 by simpa using h4)
          go_wp2_with fail
          go_roundw
          case rel => exact ⟨k + 1, by omega, by rw [HCK.out, if_neg HN4.out, HCC.out]; go_num, by go_num, hK.al_ _⟩
          case measure => simp [intOf]; omega
        · have HN4 := Lib.hid (show y.op = 4 by simpa using h4)
          go_wp2_with fail
          go_roundw
          case rel => exact ⟨k + 1, by omega, by rw [HCK.out, if_pos HN4.out, HCC.out]; go_num, by go_num, hK.al_ _⟩
          case measure => simp [intOf]; omega
      · have hk1 : ¬ (k : Int) < (LL.length : Int) := by omega
        have hkk : k = LL.length := by omega
        have HE : Hid (0 + cntR (LL.take k) = TN) := by rw [Hid, hkk, HTK.out]; exact HCM.out
        rw [HE.out]
        clear hkk hcl
        have hK2 := hK
        clear hK
        obtain ⟨x1, x2, x3, y1, y2, y3, -⟩ := hK2.cells
        have hPLc : PL < (TN : Int) ∨ ¬ PL < (TN : Int) := by omega
        have hz : ¬ N2 - 1 < x * f := by
          obtain rfl : f = 0 := by omega
          rw [Int.mul_zero]
          omega
        rcases hPLc with hA | hA
        · have HB := Lib.hid (HX5.out (.inl hA))
          clear hz
          go_wp2_with fail
          refine (KP.out _ hK2.below).mono ?_; rintro e w7 ⟨rfl, hw⟩
          have hK1 := (hK2.keep hw).drop
          clear hw hK2 x1 x2 x3 y1 y2 y3
          obtain ⟨x1, x2, x3, -⟩ := hK1.cells
          go_wp2_with fail
          refine bodyPost.kn (((((((hK1.st 0 (.int .i64 0)).st 1 (.slice none 0 0)).st 2 (.int .i64 0)).st 3 (.slice none 0 0)).st 4 (.int .i64 0)).st 5 (.slice none 0 0)).st 6 (.int .i64 0)) ?_; intro w6 hK6
          clear x1 x2 x3
          obtain ⟨a1, a2, a3, -⟩ := hK6.cells
          refine bodyPost_ret (v := .tuple #[.agg #[.int .i64 0, .slice none 0 0, .int .i64 0, .slice none 0 0, .int .i64 0, .slice none 0 0, .int .i64 0], .int .i64 0, .int .i64 5]) (by simp [results, Tryz.results8, go_sem, a1]) rfl ?_
          unfold MORet
          rw [HB.out.1, HB.out.2.1, HB.out.2.2]
          exact MSRet.bad hK6.bare
        · have HZ := Lib.hid (HX0.out (fun h => h.elim hA hz))
          clear hz
          go_wp2_with fail
          refine (KP.out _ hK2.below).mono ?_; rintro e w7 ⟨rfl, hw⟩
          have hK2 := hK2.keep hw
          clear hw x1 x2 x3 y1 y2 y3
          obtain ⟨x1, x2, x3, y1, y2, y3, -⟩ := hK2.cells
          go_wp2_with fail
          refine (KC.out _).mono ?_; rintro e w9 ⟨G1, h1, G2, h2, G3, h3, rfl, hKc⟩
          have hK9 : Kn w [rowN G3 t.s.digits.length h3 fs, rowN G2 t.b.digits.length h2 zs, rowN G1 t.a.digits.length h1 ys, rowIns (.slice LA LL.length lc) LL, .blk (w.heap.size + 1) [.int .i64 0, .slice none 0 0, .int .i64 0, .slice none 0 0, .int .i64 0, .slice none 0 0, .int .i64 0] 28, .blk w.heap.size [.int .i64 t.a.base, .slice A1 t.a.digits.length c1, .int .i64 t.b.base, .slice A2 t.b.digits.length c2, .int .i64 t.s.base, .slice A3 t.s.digits.length c3, .int .i64 t.carry] 28] w9 := hK2.join hKc
          clear hK2 hKc x1 x2 x3 y1 y2 y3
          go_wp2_with fail
          refine (KS.out _ _ _ _ _ _ _ (Kn.riN (hK9.sel [2] 99 (by decide) (by decide))) (Kn.riN (hK9.sel [1] 99 (by decide) (by decide))) (Kn.riN hK9)).mono ?_; rintro e w10 ⟨E1, g1, E2, g2, E3, g3, rfl, hKs⟩
          have hK10 : Kn w [rowN E3 t.s.digits.length g3 fs, rowN E2 t.b.digits.length g2 zs, rowN E1 t.a.digits.length g1 ds, rowIns (.slice LA LL.length lc) LL, .blk (w.heap.size + 1) [.int .i64 0, .slice none 0 0, .int .i64 0, .slice none 0 0, .int .i64 0, .slice none 0 0, .int .i64 0] 28] w10 := (hK9.join hKs).sel [0, 1, 2, 6, 7] 99 (by decide) (by decide)
          clear hK9 hKs
          go_wp2_with fail
          refine Calls.kn (hK10.al [.int .i64 t.a.base, .slice E1 t.a.digits.length g1, .int .i64 t.b.base, .slice E2 t.b.digits.length g2, .int .i64 t.s.base, .slice E3 t.s.digits.length g3, .int .i64 0] 28) ?_; intro w11 hK11
          refine (KRP.out _ _ _ _ _ _ _ _ _ (Kn.riN (hK11.sel [3] 99 (by decide) (by decide))) (Kn.riN (hK11.sel [2] 99 (by decide) (by decide))) (Kn.riN (hK11.sel [1] 99 (by decide) (by decide))) (Kn.rlIns (hK11.sel [4] 99 (by decide) (by decide))).2).mono ?_; rintro e w12 ⟨g, s, b', rfl, he, ⟨SA, sc, B1, d1, B2, d2, B3, d3, hKr⟩, hg⟩
          have HB := Lib.hid (HMF.out s b' HZ.out he hg)
          have hK3 := (hK11.join hKr).sel [0, 1, 2, 3, 4, 10] 99 (by decide) (by decide)
          clear hK10 hK11 hKr he hg
          obtain ⟨a1, a2, a3, q1, q2, q3, -⟩ := hK3.cells
          go_wp2_with fail
          have HG := Lib.hid (And.intro (hK3.drew.cellIs 9 (.slice SA s.tr.length sc) rfl) (box7' hK3.drew))
          have hK4 := (((((((hK3.front 5 rfl).st 0 (.int .i64 s.m.a.base)).st 1 (.slice B1 s.m.a.digits.length d1)).st 2 (.int .i64 s.m.b.base)).st 3 (.slice B2 s.m.b.digits.length d2)).st 4 (.int .i64 s.m.s.base)).st 5 (.slice B3 s.m.s.digits.length d3)).st 6 (.int .i64 s.m.carry)
          have HS := Lib.hid (And.intro (hK4.drew.drop.cellIs 9 (.slice SA s.tr.length sc) rfl) (box7' hK4.drew.drop))
          go_region_held3 (fun W => W.cell? ⟨g, 9, none⟩ = some (.slice SA s.tr.length sc) ∧ W.cell? ⟨g, 0, none⟩ = some (.int .i64 s.m.a.base) ∧ W.cell? ⟨g, 1, none⟩ = some (.slice B1 s.m.a.digits.length d1) ∧ W.cell? ⟨g, 2, none⟩ = some (.int .i64 s.m.b.base) ∧ W.cell? ⟨g, 3, none⟩ = some (.slice B2 s.m.b.digits.length d2) ∧ W.cell? ⟨g, 4, none⟩ = some (.int .i64 s.m.s.base) ∧ W.cell? ⟨g, 5, none⟩ = some (.slice B3 s.m.s.digits.length d3) ∧ W.cell? ⟨g, 6, none⟩ = some (.int .i64 s.m.carry)) (first | with_reducible exact HG.out | with_reducible exact HS.out) (fail)
          all_goals
            go_wp2_with fail
            refine bodyPost.kn hK4.drew ?_; intro w6 hK6
            clear a1 a2 a3 q1 q2 q3
            obtain ⟨a1, a2, a3, -⟩ := hK6.cells
            refine bodyPost_ret (v := .tuple #[.agg #[.int .i64 s.m.a.base, .slice B1 s.m.a.digits.length d1, .int .i64 s.m.b.base, .slice B2 s.m.b.digits.length d2, .int .i64 s.m.s.base, .slice B3 s.m.s.digits.length d3, .int .i64 s.m.carry], .int .i64 s.tr.length, .int .i64 0]) (by simp [results, Tryz.results8, go_sem, a1]) rfl ?_
            unfold MORet
            rw [HB.out.1, HB.out.2.1, HB.out.2.2]
            exact ⟨B1, d1, B2, d2, B3, d3, rfl, hK6.sel [2, 3, 4] 99 (by decide) (by decide)⟩
end Go.Proofs.YtkfbfainhmkkdaaGreat
